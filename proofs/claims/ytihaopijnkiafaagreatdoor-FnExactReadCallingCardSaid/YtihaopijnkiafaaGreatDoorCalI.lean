/- Contract of a touch's calling, in the program. No conditions beyond those stated. -/
import Derived.Test.YtihaopijnkiafaaGreatDoorCalS
set_option linter.unusedVariables false
set_option linter.unusedSimpArgs false
set_option maxRecDepth 100000
namespace Go.Proofs.YtihaopijnkiafaaGreatDoor
open Go.RowKit

set_option maxHeartbeats 4000000 in
theorem callingText_any (N : Nat) (nm t : List UInt8) (bell : Int) (ch : List (List UInt8)) (k : List UInt8 × List UInt8) (A : Option Addr) (n c : Nat) (w : World) (lo : 3 ≤ N) (hi : N ≤ 8) (hr : Rd w A n (strV ch)) (hn : n ≤ 1048576) (hcap : n ≤ c) (l1 : 1 ≤ ch.length) (hs : ∀ x ∈ ch, okChange (N : Int) x = true) (hb1 : okChange (N : Int) k.1 = true) (hb2 : okChange (N : Int) k.2 = true) (ht : t.length ≤ 60) (hcall : t.all callB = true) :
    Calls Tryz.prog 25 #[.agg #[.string (bs nm), .int .i64 N, .slice A n c], .agg #[.string (bs k.1), .string (bs k.2)], .string (bs t), .int .i64 bell] w fun e w' => e = .returned (.string (bs (calText (plP N ch k t bell) t))) ∧ Below w.heap.size w w' := by
  have GH := fun (w0 : World) (rd : Rd w0 A n (strV ch)) => hid (heads_any N nm t ch k A n c w0 lo hi rd hn l1 hs hb1 hb2 (by omega) hcall)
  have GC := fun (cl : UInt8) (w0 : World) (rd : Rd w0 A n (strV ch)) => hid (callHead_any N nm [cl] ch k A n c w0 lo hi rd hn l1 hs hb1 hb2)
  have GT := fun (i : Nat) (cl : UInt8) (w0 : World) => hid (times_any (headTo N ch k t i) (callHeadL N ch k [cl]) w0 (headTo_row lo hi ch k t i).1 (callHeadL_row lo hi ch k [cl]) (by rw [(headTo_row lo hi ch k t i).2, callHeadL_len]))
  have GP := fun (i : Nat) (cl : UInt8) (w0 : World) => hid (show Calls Tryz.prog 45 #[.string (bs (timesL (headTo N ch k t i) (callHeadL N ch k [cl]))), .int .i64 bell] w0 fun e w' => e = .returned (.int .i64 (plP N ch k t bell i cl : Int)) ∧ w0 = w' from placeOf_any (timesL (headTo N ch k t i) (callHeadL N ch k [cl])) bell w0 (times_row (headTo_row lo hi ch k t i).1 (callHeadL_row lo hi ch k [cl]) (by rw [(headTo_row lo hi ch k t i).2, callHeadL_len])))
  have GQ := fun (i : Nat) (w0 : World) => hid (show Calls Tryz.prog 45 #[.string (bs (headTo N ch k t (i + 1))), .int .i64 bell] w0 fun e w' => e = .returned (.int .i64 (plP N ch k t bell i (t.getD i 0) : Int)) ∧ w0 = w' from placeOf_any (headTo N ch k t (i + 1)) bell w0 (headTo_row lo hi ch k t (i + 1)).1)
  have GD := fun (q : Nat) (hq : q < 100) (w0 : World) => hid (decimal2_any q w0 hq)
  have GJ := fun (A1 : Option Addr) (n1 c1 : Nat) (w0 : World) (rd : Rd w0 A1 n1 (strV (calItems (plP N ch k t bell) t))) (hc : n1 ≤ c1) (h1 : n1 ≤ 1000000) => hid (joined_any A1 n1 c1 (calItems (plP N ch k t bell) t) [32] w0 rd hc h1 (by have := calText_len (plP N ch k t bell) t; unfold calText at this; omega))
  have HG := hid (fun i (h : i < (headsTo N ch k t t.length).length) => (show (headsTo N ch k t t.length)[i] = headTo N ch k t i by simp [headsTo]))
  have HPL := hid (show ∀ i cl, plP N ch k t bell i cl ≤ 8 from fun i cl => by
    have := placeL_le (timesL (headTo N ch k t i) (callHeadL N ch k [cl])) bell
    rw [times_len, callHeadL_len] at this
    unfold plP; omega)
  have RS := hid hr
  generalize plP N ch k t bell = P at *
  rw [show calText P t = Lib.join (calItems P t) [32] from rfl]
  generalize Lib.join (calItems P t) [32] = JJ at *
  obtain ⟨k1, k2⟩ := k
  dsimp only at *
  clear hr hs hb1 hb2 l1 hcall
  go_enter Tryz.func25, Tryz.ntmps25
  go_wp2_with fail
  obtain ⟨B2, hsz, HC⟩ := box_mk w nm k1 k2 (N : Int) (.slice A n c)
  have R2 := hid (RS.out.below B2)
  have HB2 := hid B2
  have hw2 := B2.size
  generalize ((w.alloc (.cells #[.string (bs nm), .int .i64 (N : Int), .slice A n c] 31)).alloc (.cells #[.string (bs k1), .string (bs k2)] 33)) = W2 at *
  clear B2 hsz
  have HHS5 := hid (fun W' (h : Below W2.heap.size W2 W') => (show W'.cell? ⟨w.heap.size, 0, none⟩ = some (.string (bs nm)) ∧ W'.cell? ⟨w.heap.size, 1, none⟩ = some (.int .i64 (N : Int)) ∧ W'.cell? ⟨w.heap.size, 2, none⟩ = some (.slice A n c) ∧ W'.cell? ⟨w.heap.size + 1, 0, none⟩ = some (.string (bs k1)) ∧ W'.cell? ⟨w.heap.size + 1, 1, none⟩ = some (.string (bs k2)) from by
    obtain ⟨⟨a0, a1, a2⟩, a3, a4⟩ := HC.out _ h
    exact ⟨a0, a1, a2, a3, a4⟩))
  clear HC
  obtain ⟨n0, n1, n2, p0, p1⟩ := HHS5.out _ (Below.refl _ _)
  refine (GH _ R2.out).out.mono ?_
  rintro e w1 ⟨v1, rfl, o1, b1⟩
  obtain ⟨A1, c1, rfl, hc1, _, rd1, y1⟩ := own_shape o1
  have E1 := hid b1
  have hs1 := b1.size
  have AT := hid (fun (i : Nat) (hi : i < t.length + 1) => (show ∃ b o, A1 = some ⟨b, o, none⟩ ∧ w1.cell? ⟨b, o + i, none⟩ = some (.string (bs (headTo N ch (k1, k2) t i))) from by
    obtain ⟨b, o, e, hk, hc⟩ := rd1.str hi
    rw [HG.out i hk] at hc
    exact ⟨b, o, e, hc⟩))
  obtain ⟨b, o, rfl, _⟩ := AT.out 0 (by omega)
  have AT2 := hid (fun (i : Nat) (hi : i < t.length + 1) => (show w1.cell? ⟨b, o + i, none⟩ = some (.string (bs (headTo N ch (k1, k2) t i))) from by
    obtain ⟨b', o', e, hc⟩ := AT.out i hi
    obtain ⟨rfl, rfl⟩ : b = b' ∧ o = o' := by injection e with e; injection e with e1 e2; exact ⟨e1, e2⟩
    exact hc))
  clear AT b1 o1 rd1 y1 n0 n1 n2 p0 p1
  have HIT := hid (calItems_le P t)
  have hCI := hid (show calItems P t = (calSt P t t.length).2 ++ if (calSt P t t.length).1 = t.length then [] else [112 :: decL (t.length - (calSt P t t.length).1)] from rfl)
  go_wp2_with fail
  go_loopg [10, 11, 25] t.length (fun gk s u v wr => ∃ i : Nat, i ≤ t.length ∧ gk = t.length - i ∧ u = .int .i64 ((calSt P t i).1 : Int) ∧ v = .int .i64 (i : Int) ∧ wr.ownsRow w1.heap.size 9 1 s (calSt P t i).2.length (strV (calSt P t i).2) ∧ Below w1.heap.size w1 wr)
  case atStart => exact ⟨0, by omega, by omega, rfl, rfl, own_of_blk (Blk.new w1 9 #[]) (Nat.le_refl _) (by simp [maxLen]), (Below.refl _ _).alloc (Nat.le_refl _) _⟩
  case round =>
    obtain ⟨i, hi, rfl, rfl, rfl, ho, hb⟩ := hrel
    obtain ⟨wo, hwo⟩ : ∃ x, x = wr := ⟨_, rfl⟩
    subst hwo
    have HB := hid hb
    have E2 := hid (E1.out.trans (hb.mono hs1))
    have HO := hid ho
    have hst := (calSt_le P t i).1
    have hsl := (calSt_le P t i).2.1
    obtain ⟨A7, c7, rfl, hc7, y2, y3, y4⟩ := own_shape ho
    have RD7 := hid y3
    clear y2 y3 y4
    by_cases hlt : i < t.length
    · have htk := take1_at hlt
      have hc := AT2.out (i + 1) (by omega)
      have hci : wo.cell? ⟨b, o + (i + 1), none⟩ = some (.string (bs (headTo N ch (k1, k2) t (i + 1)))) := (hb.cell (World.block_lt_of_cell? w1 _ hc)).trans hc
      have j0 : (0 : Int) ≤ (i : Int) := by omega
      have j1 : (i : Int) < (t.length : Int) := by omega
      have hcN := hid (fun h => calSt_c (P := P) (t := t) (i := i) h)
      have hpN := hid (fun h => calSt_p (P := P) (t := t) (i := i) h)
      have hit := hid (show itemL P t i (calSt P t i).1 = t.getD i 0 :: (decL (P i (t.getD i 0)) ++ if cntTo P (t.getD i 0) (P i (t.getD i 0)) (calSt P t i).1 (i - (calSt P t i).1) = 0 then [] else 43 :: decL (cntTo P (t.getD i 0) (P i (t.getD i 0)) (calSt P t i).1 (i - (calSt P t i).1))) from rfl)
      have GQi := GQ i
      clear hb hc ho
      by_cases hcp : t.getD i 0 = 112
      · have hcb : (([t.getD i 0] : List UInt8) == [112]) = true := by rw [hcp]; rfl
        have H2 := hid (hpN.out hcp)
        clear hcp hcN hpN hit hci GQi
        generalize t.getD i 0 = cl at *
        go_wp2
        go_roundg (t.length - (i + 1))
        case measure => omega
        case rel => exact ⟨i + 1, by omega, rfl, by rw [H2.out], by go_num, by rw [H2.out]; exact HO.out, HB.out⟩
      · have hcb : (([t.getD i 0] : List UInt8) == [112]) = false := by simpa using hcp
        have H2 := hid (congrArg Prod.fst (hcN.out hcp))
        have H3 := hid (congrArg Prod.snd (hcN.out hcp))
        clear hcp hcN hpN
        rw [hit.out] at H3
        clear hit
        generalize hcl : t.getD i 0 = cl at *
        obtain ⟨s, hs⟩ : ∃ s, s = (calSt P t i).1 := ⟨_, rfl⟩
        obtain ⟨IL, hIL⟩ : ∃ IL, IL = (calSt P t i).2 := ⟨_, rfl⟩
        rw [← hs] at hst H3 ⊢
        rw [← hIL] at hsl HO hc7 RD7 H3 ⊢
        clear hs hIL hcl
        have hw1 : IntKind.i64.wrap ((i : Int) + 1) = (i : Int) + 1 := IntWalk.i64_in _ (by omega)
        have hx0 : (0 : Int) ≤ (i : Int) + 1 := by omega
        have hx1 : (i : Int) + 1 < (t.length : Int) + 1 := by omega
        have hx2 : ((i : Int) + 1).toNat = i + 1 := by omega
        go_wp2_with fail
        refine (GQi _).out.mono ?_
        rintro e w' ⟨rfl, rfl⟩
        clear hw1 hci
        have hPl : P i cl ≤ 8 := HPL.out i cl
        have hPd : (P i cl : Int) < 100 := by omega
        have hcnt := cntTo_le P cl (P i cl) s (i - s)
        generalize hPE : P i cl = PL at *
        go_upto_region 12 with fail
        go_loopg [15, 16] (i - s) (fun gk x y wz => ∃ d : Nat, d ≤ i - s ∧ gk = i - s - d ∧ x = .int .i64 (cntTo P cl PL s d : Int) ∧ y = .int .i64 ((s + d : Nat) : Int) ∧ Below wo.heap.size wo wz)
        case atStart => exact ⟨0, by omega, by omega, rfl, rfl, Below.refl _ _⟩
        case round =>
          obtain ⟨d, hd, rfl, rfl, rfl, hbz⟩ := hrel
          obtain ⟨wz, hwz⟩ : ∃ x, x = wr := ⟨_, rfl⟩
          subst hwz
          have HBz := hid hbz
          have E4 := hid (E2.out.trans (hbz.mono E2.out.size))
          have hcd := cntTo_le P cl PL s d
          by_cases hlt2 : d < i - s
          · obtain ⟨q, hq⟩ : ∃ q, q = s + d := ⟨_, rfl⟩
            have hqi : q < i := by omega
            have hqq : (q : Int) < (i : Int) := by omega
            have hq0 : (0 : Int) ≤ (q : Int) := by omega
            have hq1 : (q : Int) < (t.length : Int) + 1 := by omega
            have hcn : cntTo P cl PL s (d + 1) = cntTo P cl PL s d + if P q cl = PL then 1 else 0 := by rw [cntTo, hq]
            have hnx : ((s + (d + 1) : Nat) : Int) = (q : Int) + 1 := by omega
            rw [← hq] at ⊢
            have HNX := hid hnx
            have HCN := hid hcn
            generalize cntTo P cl PL s d = cd at *
            have hc := AT2.out q (by omega)
            have hci : wz.cell? ⟨b, o + q, none⟩ = some (.string (bs (headTo N ch (k1, k2) t q))) := ((HB.out.trans (hbz.mono HB.out.size)).cell (World.block_lt_of_cell? w1 _ hc)).trans hc
            clear hc hbz hq hcn hnx
            have HS := hid (fun W' (h : Below wz.heap.size wz W') => (show W'.cell? ⟨w.heap.size, 0, none⟩ = some (.string (bs nm)) ∧ W'.cell? ⟨w.heap.size, 1, none⟩ = some (.int .i64 (N : Int)) ∧ W'.cell? ⟨w.heap.size, 2, none⟩ = some (.slice A n c) ∧ W'.cell? ⟨w.heap.size + 1, 0, none⟩ = some (.string (bs k1)) ∧ W'.cell? ⟨w.heap.size + 1, 1, none⟩ = some (.string (bs k2)) ∧ W'.cell? ⟨b, o + q, none⟩ = some (.string (bs (headTo N ch (k1, k2) t q))) from by
              obtain ⟨a0, a1, a2, a3, a4⟩ := HHS5.out _ (E4.out.trans (h.mono E4.out.size))
              exact ⟨a0, a1, a2, a3, a4, (h.cell (World.block_lt_of_cell? wz _ hci)).trans hci⟩))
            clear hci
            obtain ⟨n0, n1, n2, p0, p1, hci⟩ := HS.out _ (Below.refl _ _)
            go_wp2_with fail
            go_region_held3 (fun w' => w'.cell? ⟨w.heap.size, 0, none⟩ = some (.string (bs nm)) ∧ w'.cell? ⟨w.heap.size, 1, none⟩ = some (.int .i64 (N : Int)) ∧ w'.cell? ⟨w.heap.size, 2, none⟩ = some (.slice A n c) ∧ w'.cell? ⟨w.heap.size + 1, 0, none⟩ = some (.string (bs k1)) ∧ w'.cell? ⟨w.heap.size + 1, 1, none⟩ = some (.string (bs k2)) ∧ w'.cell? ⟨b, o + q, none⟩ = some (.string (bs (headTo N ch (k1, k2) t q))))
              (first | exact HS.out _ (Below.refl _ _) | exact HS.out _ (Below.refl _ _).drew | exact HS.out _ Fa | exact HS.out _ Fb)
              (first | (go_at_call 39; refine (GC cl _ (R2.out.below (E4.out.trans ((Below.refl wz.heap.size wz).drew.mono E4.out.size)))).out.mono ?_; rintro e wa ⟨rfl, ba⟩; have Fa := (Below.refl wz.heap.size wz).drew.trans (ba.mono (Nat.le_refl _))) | (go_at_call 44; refine (GT q cl _).out.mono ?_; rintro e wb ⟨rfl, bb⟩; have Fb := Fa.trans (bb.mono Fa.size)) | (go_at_call 45; refine (GP q cl _).out.mono ?_; rintro e w' ⟨rfl, rfl⟩))
            have HB5 := hid (HBz.out.trans (Fb.mono HBz.out.size))
            clear ba bb Fa Fb n0 n1 n2 p0 p1 hci HS
            by_cases hpe : P q cl = PL
            · have hpb : ((P q cl : Int) == (PL : Int)) = true := by simp; omega
              rw [if_pos hpe] at HCN
              clear hpe
              go_wp2
              go_roundg (i - s - (d + 1))
              case measure => omega
              case rel => exact ⟨d + 1, by omega, rfl, by first | (rw [HCN.out]; done) | (rw [HCN.out]; rfl) | (rw [HCN.out]; go_num), by first | (rw [HNX.out]; done) | (rw [HNX.out]; rfl) | (rw [HNX.out]; go_num), HB5.out⟩
            · have hpb : ((P q cl : Int) == (PL : Int)) = false := by simp; omega
              rw [if_neg hpe, Nat.add_zero] at HCN
              clear hpe
              go_wp2
              go_roundg (i - s - (d + 1))
              case measure => omega
              case rel => exact ⟨d + 1, by omega, rfl, by first | (rw [HCN.out]; done) | (rw [HCN.out]; rfl), by first | (rw [HNX.out]; done) | (rw [HNX.out]; rfl) | (rw [HNX.out]; go_num), HB5.out⟩
          · obtain rfl : d = i - s := by omega
            have HB6 := hid (HB.out.trans (hbz.mono HB.out.size))
            have HO6 := hid (own_below HO.out hbz)
            generalize hCE : cntTo P cl PL s (i - s) = CN at *
            have hCd : CN < 100 := by omega
            have hsi : ((s + (i - s) : Nat) : Int) = (i : Int) := by omega
            rw [hsi]
            clear hbz hsi hCE HBz E4
            have hD1 := decL_len PL
            have GD1 := GD PL (by omega)
            have GD2 := GD CN hCd
            generalize decL PL = D1 at *
            have hD2 := decL_len CN
            generalize decL CN = D2 at *
            have hii : ¬ (i : Int) < (i : Int) := by omega
            have hs6 := HB6.out.size
            by_cases hC0 : CN = 0
            · rw [if_pos hC0, List.append_nil] at H3
              have hcz : ¬ (0 : Int) < (CN : Int) := by omega
              clear hC0
              go_wp2_with fail
              refine (GD1 _).out.mono ?_
              rintro e w7 ⟨rfl, rfl⟩
              go_wp2_with (at_builtin; refine app_str _ (by rfl) _ _ (by rfl) w1.heap.size _ _ IL (by rfl) (HO6.out.alloc _) (some ⟨wz.heap.size, 0, none⟩) 1 1 [[cl] ++ D1] (by first | rfl | simp) (Rd.blk wz [.string (bs ([cl] ++ D1))] _) (by omega) (by simp; omega) ?_; intro v8 w8 o8 g8)
              go_roundg (t.length - (i + 1))
              case measure => omega
              case rel => exact ⟨i + 1, by omega, rfl, by rw [H2.out]; go_num, by go_num, by rw [H3.out, List.length_append]; exact o8, (HB6.out.alloc hs6 _).grown g8 (by simp; omega) fun q hq => (HO6.out.lt q hq).1⟩
            · rw [if_neg hC0] at H3
              have hcz : (0 : Int) < (CN : Int) := by omega
              clear hC0
              go_wp2_with fail
              refine (GD1 _).out.mono ?_
              rintro e w7 ⟨rfl, rfl⟩
              go_wp2_with fail
              refine (GD2 _).out.mono ?_
              rintro e w7 ⟨rfl, rfl⟩
              go_wp2_with (at_builtin; refine app_str _ (by rfl) _ _ (by rfl) w1.heap.size _ _ IL (by rfl) (HO6.out.alloc _) (some ⟨wz.heap.size, 0, none⟩) 1 1 [cl :: (D1 ++ 43 :: D2)] (by first | rfl | simp) (Rd.blk wz [.string (bs (cl :: (D1 ++ 43 :: D2)))] _) (by omega) (by simp; omega) ?_; intro v8 w8 o8 g8)
              go_roundg (t.length - (i + 1))
              case measure => omega
              case rel => exact ⟨i + 1, by omega, rfl, by rw [H2.out]; go_num, by go_num, by rw [H3.out, List.length_append]; exact o8, (HB6.out.alloc hs6 _).grown g8 (by simp; omega) fun q hq => (HO6.out.lt q hq).1⟩
    · obtain rfl : i = t.length := by omega
      have HBE := hid (HB2.out.trans (E2.out.mono hw2))
      have hbs := hb.size
      obtain ⟨s, hs⟩ : ∃ s, s = (calSt P t t.length).1 := ⟨_, rfl⟩
      obtain ⟨IL, hIL⟩ : ∃ IL, IL = (calSt P t t.length).2 := ⟨_, rfl⟩
      rw [← hs, ← hIL] at hCI
      rw [← hs] at hst ⊢
      rw [← hIL] at hsl HO hc7 RD7 ⊢
      have hcil := HIT.out.1
      generalize calItems P t = CI at *
      clear hs hIL hb ho HIT
      by_cases hse : s = t.length
      · rw [if_pos hse, List.append_nil] at hCI
        have hn1 : ¬ (s : Int) < (t.length : Int) := by omega
        have GJ1 := GJ A7 IL.length c7 wo (by rw [hCI.out]; exact RD7.out) hc7 (by omega)
        clear hse
        go_wp2_with fail
        refine GJ1.out.mono ?_
        rintro e w7 ⟨rfl, b7⟩
        have HB7 := hid (HBE.out.trans (b7.mono HBE.out.size))
        clear b7
        go_wp2
        go_ret
        exact ⟨rfl, HB7.out⟩
      · rw [if_neg hse] at hCI
        have hn1 : (s : Int) < (t.length : Int) := by omega
        have GD1 := GD (t.length - s) (by omega)
        have hD1 := decL_len (t.length - s)
        have hw1 : IntKind.i64.wrap ((t.length : Int) - (s : Int)) = ((t.length - s : Nat) : Int) := by rw [IntWalk.i64_in _ (by omega)]; omega
        generalize decL (t.length - s) = D1 at *
        clear hse
        go_wp2_with fail
        refine (GD1 _).out.mono ?_
        rintro e w7 ⟨rfl, rfl⟩
        clear hw1
        go_wp2_with (at_builtin; refine app_str _ (by rfl) _ _ (by rfl) w1.heap.size _ _ IL (by rfl) (HO.out.alloc _) (some ⟨wo.heap.size, 0, none⟩) 1 1 [112 :: D1] (by first | rfl | simp) (Rd.blk wo [.string (bs (112 :: D1))] _) (by omega) (by simp; omega) ?_; intro v8 w8 o8 g8; obtain ⟨A8, c8, rfl, hc8, y2, rd8, y4⟩ := own_shape o8; clear y2 y4)
        have HB8 := hid ((HB.out.alloc hbs _).grown g8 (by simp; omega) fun q hq => (HO.out.lt q hq).1)
        have GJ1 := GJ A8 (IL.length + 1) c8 w8 (by rw [hCI.out]; exact rd8) hc8 (by omega)
        have E8 := hid (HB2.out.trans ((E1.out.trans (HB8.out.mono hs1)).mono hw2))
        clear o8 g8 rd8
        refine GJ1.out.mono ?_
        rintro e w9 ⟨rfl, b9⟩
        have HB9 := hid (E8.out.trans (b9.mono E8.out.size))
        clear b9
        go_wp2
        go_ret
        exact ⟨rfl, HB9.out⟩
end Go.Proofs.YtihaopijnkiafaaGreatDoor
