/- Contract of a touch's calling, in the reference. No conditions beyond those stated. -/
import Derived.Test.YtihaopijnkiafaaGreatDoorCalC
set_option linter.unusedVariables false
set_option linter.unusedSimpArgs false
set_option maxRecDepth 100000
namespace Go.Proofs.YtihaopijnkiafaaGreatDoor
open Go.RowKit

set_option maxHeartbeats 4000000 in
theorem l10Calling_any (N : Nat) (nm t : List UInt8) (bell : Int) (ch : List (List UInt8)) (k : List UInt8 × List UInt8) (A : Option Addr) (n c : Nat) (w : World) (lo : 3 ≤ N) (hi : N ≤ 8) (hr : Rd w A n (strV ch)) (hn : n ≤ 1048576) (hcap : n ≤ c) (l1 : 1 ≤ ch.length) (hs : ∀ x ∈ ch, okChange (N : Int) x = true) (hb1 : okChange (N : Int) k.1 = true) (hb2 : okChange (N : Int) k.2 = true) (ht : t.length ≤ 60) :
    Calls Tryz.prog 19 #[.agg #[.string (bs nm), .int .i64 N, .slice A n c], .agg #[.string (bs k.1), .string (bs k.2)], .string (bs t), .int .i64 bell] w fun e w' => e = .returned (.string (bs (calText (plP N ch k t bell) t))) ∧ Below w.heap.size w w' := by
  have GH := fun (w0 : World) (rd : Rd w0 A n (strV ch)) => hid (l9Heads_any N nm t ch k A n c w0 lo hi rd hn hcap l1 hs hb1 hb2 (by omega))
  have GP := fun (i : Nat) (cl : UInt8) (w0 : World) (rd : Rd w0 A n (strV ch)) => hid (show Calls Tryz.prog 31 #[.agg #[.string (bs nm), .int .i64 N, .slice A n c], .agg #[.string (bs k.1), .string (bs k.2)], .string (bs (headTo N ch k t i)), .string (bs [cl]), .int .i64 bell] w0 fun e w' => e = .returned (.int .i64 (plP N ch k t bell i cl : Int)) ∧ Below w0.heap.size w0 w' from l10Place_any N nm (headTo N ch k t i) [cl] bell ch k A n c w0 lo hi rd hn hcap l1 hs hb1 hb2 (headTo_row lo hi ch k t i).1 (headTo_row lo hi ch k t i).2)
  have GD := fun (q : Nat) (hq : q < 100) (w0 : World) => hid (l1Num_any q w0 hq)
  have HG := hid (fun i (h : i < (headsTo N ch k t t.length).length) => (show (headsTo N ch k t t.length)[i] = headTo N ch k t i by simp [headsTo]))
  have HPL := hid (show ∀ i cl, plP N ch k t bell i cl ≤ 8 from fun i cl => by
    have := placeL_le (timesL (headTo N ch k t i) (callHeadL N ch k [cl])) bell
    rw [times_len, callHeadL_len] at this
    unfold plP; omega)
  have RS := hid hr
  generalize plP N ch k t bell = P at *
  generalize headTo N ch k t = HT at *
  obtain ⟨k1, k2⟩ := k
  dsimp only at *
  clear hr hs hb1 hb2 l1
  go_enter Tryz.func19, Tryz.ntmps19
  go_wp2_with fail
  obtain ⟨B2, hsz, HC⟩ := box_mk w nm k1 k2 (N : Int) (.slice A n c)
  have R2 := hid (RS.out.below B2)
  have HB2 := hid B2
  have hw2 := B2.size
  generalize ((w.alloc (.cells #[.string (bs nm), .int .i64 (N : Int), .slice A n c] 31)).alloc (.cells #[.string (bs k1), .string (bs k2)] 33)) = W2 at *
  clear B2 hsz
  have HHS5 := hid (fun W' (h : Below W2.heap.size W2 W') => (show W'.cell? ⟨w.heap.size, 0, none⟩ = some (.string (bs nm)) ∧ W'.cell? ⟨w.heap.size, 1, none⟩ = some (.int .i64 (N : Int)) ∧ W'.cell? ⟨w.heap.size, 2, none⟩ = some (.slice A n c) ∧ W'.cell? ⟨w.heap.size + 1, 0, none⟩ = some (.string (bs k1)) ∧ W'.cell? ⟨w.heap.size + 1, 1, none⟩ = some (.string (bs k2)) from by
    obtain ⟨⟨a0, a1, a2⟩, a3, a4⟩ := HC.out _ h
    exact ⟨a0, a1, a2, a3, a4⟩))
  clear HC
  obtain ⟨n0, n1, n2, p0, p1⟩ := HHS5.out _ (Below.refl _ _)
  refine (GH _ R2.out).out.mono ?_
  rintro e w1 ⟨v1, rfl, o1, b1⟩
  obtain ⟨A1, c1, rfl, hc1, _, rd1, y1⟩ := own_shape o1
  have E1 := hid b1
  have hs1 := b1.size
  have AT := hid (fun (i : Nat) (hi : i < t.length + 1) => (show ∃ b o, A1 = some ⟨b, o, none⟩ ∧ w1.cell? ⟨b, o + i, none⟩ = some (.string (bs (HT i))) from by
    obtain ⟨b, o, e, hk, hc⟩ := rd1.str hi
    rw [HG.out i hk] at hc
    exact ⟨b, o, e, hc⟩))
  obtain ⟨b, o, rfl, _⟩ := AT.out 0 (by omega)
  have AT2 := hid (fun (i : Nat) (hi : i < t.length + 1) => (show w1.cell? ⟨b, o + i, none⟩ = some (.string (bs (HT i))) from by
    obtain ⟨b', o', e, hc⟩ := AT.out i hi
    obtain ⟨rfl, rfl⟩ : b = b' ∧ o = o' := by injection e with e; injection e with e1 e2; exact ⟨e1, e2⟩
    exact hc))
  clear AT b1 o1 rd1 y1 n0 n1 n2 p0 p1
  go_wp2_with fail
  go_loopg [10, 11, 12] t.length (fun gk s u v wr => ∃ i : Nat, i ≤ t.length ∧ gk = t.length - i ∧ s = .string (bs (sT P t i)) ∧ u = .int .i64 ((calSt P t i).1 : Int) ∧ v = .int .i64 (i : Int) ∧ Below w1.heap.size w1 wr)
  case atStart => exact ⟨0, by omega, by omega, rfl, rfl, rfl, Below.refl _ _⟩
  case round =>
    obtain ⟨i, hi, rfl, rfl, rfl, rfl, hb⟩ := hrel
    obtain ⟨wo, hwo⟩ : ∃ x, x = wr := ⟨_, rfl⟩
    subst hwo
    have HB := hid hb
    have E2 := hid (E1.out.trans (hb.mono hs1))
    have hsl := sT_len P t i
    have hst := (calSt_le P t i).1
    by_cases hlt : i < t.length
    · have htk := take1_at hlt
      have hc := AT2.out i (by omega)
      have hci : wo.cell? ⟨b, o + i, none⟩ = some (.string (bs (HT i))) := (hb.cell (World.block_lt_of_cell? w1 _ hc)).trans hc
      have j0 : (0 : Int) ≤ (i : Int) := by omega
      have j1 : (i : Int) < (t.length : Int) := by omega
      have j2 : (i : Int) < (t.length : Int) + 1 := by omega
      have hcS := hid (fun h => sT_c (P := P) (t := t) (i := i) h)
      have hcN := hid (fun h => calSt_c (P := P) (t := t) (i := i) h)
      have hpS := hid (fun h => sT_p (P := P) (t := t) (i := i) h)
      have hpN := hid (fun h => calSt_p (P := P) (t := t) (i := i) h)
      have hit := hid (show itemL P t i (calSt P t i).1 = t.getD i 0 :: (decL (P i (t.getD i 0)) ++ if cntTo P (t.getD i 0) (P i (t.getD i 0)) (calSt P t i).1 (i - (calSt P t i).1) = 0 then [] else 43 :: decL (cntTo P (t.getD i 0) (P i (t.getD i 0)) (calSt P t i).1 (i - (calSt P t i).1))) from rfl)
      clear hb hc
      by_cases hcp : t.getD i 0 = 112
      · have hcb : (([t.getD i 0] : List UInt8) == [112]) = true := by rw [hcp]; rfl
        have H1 := hid (hpS.out hcp)
        have H2 := hid (hpN.out hcp)
        clear hcp hcS hcN hpS hpN hit hci
        generalize t.getD i 0 = cl at *
        go_wp2
        go_roundg (t.length - (i + 1))
        case measure => omega
        case rel => exact ⟨i + 1, by omega, rfl, by rw [H1.out], by rw [H2.out], by go_num, HB.out⟩
      · have hcb : (([t.getD i 0] : List UInt8) == [112]) = false := by simpa using hcp
        have H1 := hid (hcS.out hcp)
        have H2 := hid (congrArg Prod.fst (hcN.out hcp))
        clear hcp hcS hcN hpS hpN
        rw [hit.out] at H1
        clear hit
        generalize hcl : t.getD i 0 = cl at *
        obtain ⟨s, hs⟩ : ∃ s, s = (calSt P t i).1 := ⟨_, rfl⟩
        rw [← hs] at hst H1 ⊢
        obtain ⟨S, hS⟩ : ∃ S, S = sT P t i := ⟨_, rfl⟩
        rw [← hS] at hsl H1 ⊢
        have hSl : S.length ≤ 420 := by omega
        clear hs hS hcl hsl
        have HS := hid (fun W' (h : Below wo.heap.size wo W') => (show W'.cell? ⟨w.heap.size, 0, none⟩ = some (.string (bs nm)) ∧ W'.cell? ⟨w.heap.size, 1, none⟩ = some (.int .i64 (N : Int)) ∧ W'.cell? ⟨w.heap.size, 2, none⟩ = some (.slice A n c) ∧ W'.cell? ⟨w.heap.size + 1, 0, none⟩ = some (.string (bs k1)) ∧ W'.cell? ⟨w.heap.size + 1, 1, none⟩ = some (.string (bs k2)) ∧ W'.cell? ⟨b, o + i, none⟩ = some (.string (bs (HT i))) from by
          obtain ⟨a0, a1, a2, a3, a4⟩ := HHS5.out _ (E2.out.trans (h.mono E2.out.size))
          exact ⟨a0, a1, a2, a3, a4, (h.cell (World.block_lt_of_cell? wo _ hci)).trans hci⟩))
        clear hci
        obtain ⟨n0, n1, n2, p0, p1, hci⟩ := HS.out _ (Below.refl _ _)
        go_wp2_with fail
        go_region_held3 (fun w' => w'.cell? ⟨w.heap.size, 0, none⟩ = some (.string (bs nm)) ∧ w'.cell? ⟨w.heap.size, 1, none⟩ = some (.int .i64 (N : Int)) ∧ w'.cell? ⟨w.heap.size, 2, none⟩ = some (.slice A n c) ∧ w'.cell? ⟨w.heap.size + 1, 0, none⟩ = some (.string (bs k1)) ∧ w'.cell? ⟨w.heap.size + 1, 1, none⟩ = some (.string (bs k2)) ∧ w'.cell? ⟨b, o + i, none⟩ = some (.string (bs (HT i))))
          (first | exact HS.out _ (Below.refl _ _) | exact HS.out _ (Below.refl _ _).drew | exact HS.out _ Fa | exact HS.out _ Fb)
          (first | (go_at_call 31; refine (GP i cl _ (R2.out.below (E2.out.trans ((Below.refl wo.heap.size wo).drew.mono E2.out.size)))).out.mono ?_; rintro e wa ⟨rfl, ba⟩; have Fa := (Below.refl wo.heap.size wo).drew.trans (ba.mono (Nat.le_refl _))))
        have E3 := hid (E2.out.trans (Fa.mono E2.out.size))
        have HB3 := hid (HB.out.trans (Fa.mono HB.out.size))
        clear ba Fa n0 n1 n2 p0 p1 hci HS
        have hPl : P i cl ≤ 8 := HPL.out i cl
        have hPd : (P i cl : Int) < 100 := by omega
        have hcnt := cntTo_le P cl (P i cl) s (i - s)
        generalize hPE : P i cl = PL at *
        go_upto_region 12 with fail
        go_loopg [15, 16] (i - s) (fun gk x y wz => ∃ d : Nat, d ≤ i - s ∧ gk = i - s - d ∧ x = .int .i64 (cntTo P cl PL s d : Int) ∧ y = .int .i64 ((s + d : Nat) : Int) ∧ Below wa.heap.size wa wz)
        case atStart => exact ⟨0, by omega, by omega, rfl, rfl, Below.refl _ _⟩
        case round =>
          obtain ⟨d, hd, rfl, rfl, rfl, hbz⟩ := hrel
          obtain ⟨wz, hwz⟩ : ∃ x, x = wr := ⟨_, rfl⟩
          subst hwz
          have HBz := hid hbz
          have E4 := hid (E3.out.trans (hbz.mono E3.out.size))
          have hcd := cntTo_le P cl PL s d
          by_cases hlt2 : d < i - s
          · obtain ⟨q, hq⟩ : ∃ q, q = s + d := ⟨_, rfl⟩
            have hqi : q < i := by omega
            have hqq : (q : Int) < (i : Int) := by omega
            have hq0 : (0 : Int) ≤ (q : Int) := by omega
            have hq1 : (q : Int) < (t.length : Int) + 1 := by omega
            have hcn : cntTo P cl PL s (d + 1) = cntTo P cl PL s d + if P q cl = PL then 1 else 0 := by rw [cntTo, hq]
            have hnx : ((s + (d + 1) : Nat) : Int) = (q : Int) + 1 := by omega
            rw [← hq] at ⊢
            have HNX := hid hnx
            have HCN := hid hcn
            generalize cntTo P cl PL s d = cd at *
            have hc := AT2.out q (by omega)
            have hci : wz.cell? ⟨b, o + q, none⟩ = some (.string (bs (HT q))) := ((HB3.out.trans (hbz.mono HB3.out.size)).cell (World.block_lt_of_cell? w1 _ hc)).trans hc
            clear hc hbz hq hcn hnx
            have HS := hid (fun W' (h : Below wz.heap.size wz W') => (show W'.cell? ⟨w.heap.size, 0, none⟩ = some (.string (bs nm)) ∧ W'.cell? ⟨w.heap.size, 1, none⟩ = some (.int .i64 (N : Int)) ∧ W'.cell? ⟨w.heap.size, 2, none⟩ = some (.slice A n c) ∧ W'.cell? ⟨w.heap.size + 1, 0, none⟩ = some (.string (bs k1)) ∧ W'.cell? ⟨w.heap.size + 1, 1, none⟩ = some (.string (bs k2)) ∧ W'.cell? ⟨b, o + q, none⟩ = some (.string (bs (HT q))) from by
              obtain ⟨a0, a1, a2, a3, a4⟩ := HHS5.out _ (E4.out.trans (h.mono E4.out.size))
              exact ⟨a0, a1, a2, a3, a4, (h.cell (World.block_lt_of_cell? wz _ hci)).trans hci⟩))
            clear hci
            obtain ⟨n0, n1, n2, p0, p1, hci⟩ := HS.out _ (Below.refl _ _)
            go_wp2_with fail
            go_region_held3 (fun w' => w'.cell? ⟨w.heap.size, 0, none⟩ = some (.string (bs nm)) ∧ w'.cell? ⟨w.heap.size, 1, none⟩ = some (.int .i64 (N : Int)) ∧ w'.cell? ⟨w.heap.size, 2, none⟩ = some (.slice A n c) ∧ w'.cell? ⟨w.heap.size + 1, 0, none⟩ = some (.string (bs k1)) ∧ w'.cell? ⟨w.heap.size + 1, 1, none⟩ = some (.string (bs k2)) ∧ w'.cell? ⟨b, o + q, none⟩ = some (.string (bs (HT q))))
              (first | exact HS.out _ (Below.refl _ _) | exact HS.out _ (Below.refl _ _).drew | exact HS.out _ Fa | exact HS.out _ Fb)
              (first | (go_at_call 31; refine (GP q cl _ (R2.out.below (E4.out.trans ((Below.refl wz.heap.size wz).drew.mono E4.out.size)))).out.mono ?_; rintro e wa ⟨rfl, ba⟩; have Fa := (Below.refl wz.heap.size wz).drew.trans (ba.mono (Nat.le_refl _))))
            have HB5 := hid (HBz.out.trans (Fa.mono HBz.out.size))
            clear ba Fa n0 n1 n2 p0 p1 hci HS
            by_cases hpe : P q cl = PL
            · have hpb : ((P q cl : Int) == (PL : Int)) = true := by simp; omega
              rw [if_pos hpe] at HCN
              clear hpe
              go_wp2
              go_roundg (i - s - (d + 1))
              case measure => omega
              case rel => exact ⟨d + 1, by omega, rfl, by first | (rw [HCN.out]; done) | (rw [HCN.out]; rfl) | (rw [HCN.out]; go_num), by first | (rw [HNX.out]; done) | (rw [HNX.out]; rfl) | (rw [HNX.out]; go_num), HB5.out⟩
            · have hpb : ((P q cl : Int) == (PL : Int)) = false := by simp; omega
              rw [if_neg hpe, Nat.add_zero] at HCN
              clear hpe
              go_wp2
              go_roundg (i - s - (d + 1))
              case measure => omega
              case rel => exact ⟨d + 1, by omega, rfl, by first | (rw [HCN.out]; done) | (rw [HCN.out]; rfl), by first | (rw [HNX.out]; done) | (rw [HNX.out]; rfl) | (rw [HNX.out]; go_num), HB5.out⟩
          · obtain rfl : d = i - s := by omega
            have HB6 := hid (HB3.out.trans (hbz.mono HB3.out.size))
            generalize hCE : cntTo P cl PL s (i - s) = CN at *
            have hCd : CN < 100 := by omega
            have hsi : ((s + (i - s) : Nat) : Int) = (i : Int) := by omega
            rw [hsi]
            clear hbz hsi hCE
            have hD1 := decL_len PL
            have GD1 := GD PL (by omega)
            have GD2 := GD CN hCd
            generalize decL PL = D1 at *
            have hD2 := decL_len CN
            generalize decL CN = D2 at *
            by_cases hS0 : S = []
            · subst hS0
              rw [if_pos rfl] at H1
              have hii : ¬ (i : Int) < (i : Int) := by omega
              go_wp2_with fail
              refine (GD1 _).out.mono ?_
              rintro e w7 ⟨rfl, b7⟩
              have HB7 := hid (HB6.out.trans (b7.mono HB6.out.size))
              clear b7
              by_cases hC0 : CN = 0
              · rw [if_pos hC0] at H1
                have hcz : ¬ (0 : Int) < (CN : Int) := by omega
                clear hC0
                go_wp2
                go_roundg (t.length - (i + 1))
                case measure => omega
                case rel => exact ⟨i + 1, by omega, rfl, by rw [H1.out]; simp, by rw [H2.out]; go_num, by go_num, HB7.out⟩
              · rw [if_neg hC0] at H1
                have hcz : (0 : Int) < (CN : Int) := by omega
                clear hC0
                go_wp2_with fail
                refine (GD2 _).out.mono ?_
                rintro e w8 ⟨rfl, b8⟩
                have HB8 := hid (HB7.out.trans (b8.mono HB7.out.size))
                clear b8
                go_wp2
                go_roundg (t.length - (i + 1))
                case measure => omega
                case rel => exact ⟨i + 1, by omega, rfl, by rw [H1.out]; simp, by rw [H2.out]; go_num, by go_num, HB8.out⟩
            · rw [if_neg hS0] at H1
              have hSb : (S != []) = true := by simpa using hS0
              have hSb2 : (S == []) = false := by simpa using hS0
              have hii : ¬ (i : Int) < (i : Int) := by omega
              clear hS0
              go_wp2_with fail
              refine (GD1 _).out.mono ?_
              rintro e w7 ⟨rfl, b7⟩
              have HB7 := hid (HB6.out.trans (b7.mono HB6.out.size))
              clear b7
              by_cases hC0 : CN = 0
              · rw [if_pos hC0] at H1
                have hcz : ¬ (0 : Int) < (CN : Int) := by omega
                clear hC0
                go_wp2
                go_roundg (t.length - (i + 1))
                case measure => omega
                case rel => exact ⟨i + 1, by omega, rfl, by rw [H1.out]; simp, by rw [H2.out]; go_num, by go_num, HB7.out⟩
              · rw [if_neg hC0] at H1
                have hcz : (0 : Int) < (CN : Int) := by omega
                clear hC0
                go_wp2_with fail
                refine (GD2 _).out.mono ?_
                rintro e w8 ⟨rfl, b8⟩
                have HB8 := hid (HB7.out.trans (b8.mono HB7.out.size))
                clear b8
                go_wp2
                go_roundg (t.length - (i + 1))
                case measure => omega
                case rel => exact ⟨i + 1, by omega, rfl, by rw [H1.out]; simp, by rw [H2.out]; go_num, by go_num, HB8.out⟩
    · obtain rfl : i = t.length := by omega
      have HBE := hid (HB2.out.trans (E2.out.mono hw2))
      have hN := hid (fun h => calText_none (P := P) (t := t) h)
      have hY := hid (fun h => calText_some (P := P) (t := t) h)
      obtain ⟨s, hs⟩ : ∃ s, s = (calSt P t t.length).1 := ⟨_, rfl⟩
      rw [← hs] at hst hN hY ⊢
      obtain ⟨S, hS⟩ : ∃ S, S = sT P t t.length := ⟨_, rfl⟩
      rw [← hS] at hsl hN hY ⊢
      have hSl : S.length ≤ 420 := by omega
      clear hs hS hsl hb
      by_cases hse : s = t.length
      · have HR := hid (hN.out hse)
        have hseb : ((s : Int) == (t.length : Int)) = true := by simp; omega
        clear hse hN hY
        go_wp2
        go_ret
        exact ⟨by rw [HR.out]; rfl, HBE.out⟩
      · have HR := hid (hY.out hse)
        have hseb : ((s : Int) == (t.length : Int)) = false := by simp; omega
        have hw1 : IntKind.i64.wrap ((t.length : Int) - (s : Int)) = ((t.length - s : Nat) : Int) := by rw [IntWalk.i64_in _ (by omega)]; omega
        have GD1 := GD (t.length - s) (by omega)
        have hD1 := decL_len (t.length - s)
        generalize decL (t.length - s) = D1 at *
        clear hse hN hY
        by_cases hS0 : S = []
        · subst hS0
          rw [if_pos rfl] at HR
          go_wp2_with fail
          refine (GD1 _).out.mono ?_
          rintro e w7 ⟨rfl, b7⟩
          have HB7 := hid (HBE.out.trans (b7.mono HBE.out.size))
          clear b7 hw1
          go_wp2
          go_ret
          exact ⟨by rw [HR.out]; simp, HB7.out⟩
        · rw [if_neg hS0] at HR
          have hSb : (S != []) = true := by simpa using hS0
          have hSb2 : (S == []) = false := by simpa using hS0
          clear hS0
          go_wp2_with fail
          refine (GD1 _).out.mono ?_
          rintro e w7 ⟨rfl, b7⟩
          have HB7 := hid (HBE.out.trans (b7.mono HBE.out.size))
          clear b7 hw1
          go_wp2
          go_ret
          exact ⟨by rw [HR.out]; simp, HB7.out⟩
end Go.Proofs.YtihaopijnkiafaaGreatDoor
