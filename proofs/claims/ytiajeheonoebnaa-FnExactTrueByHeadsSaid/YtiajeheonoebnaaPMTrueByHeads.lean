/- The statement of FnExactTrueByHeads: called with any arguments that can be read as data, the law returns true, and every argument reads afterwards as it read before. No conditions. -/
import Derived.Test.YtiajeheonoebnaaHeadCl
import Derived.Test.YtiajeheonoebnaaLeadT
import Derived.Test.YtiajeheonoebnaaExpF
import Derived.Test.YtiajeheonoebnaaDedP
import Derived.Test.YtiajeheonoebnaaClash
import Derived.Test.YtiajeheonoebnaaBase
import Derived.Test.YtiajeheonoebnaaExpT
import Derived.Test.YtiajeheonoebnaaRows
import Derived.ShutString
import Derived.ChangeOld
set_option linter.unusedVariables false
set_option linter.unusedSimpArgs false
set_option maxRecDepth 100000
namespace Go.Proofs.Ytiajeheonoebnaa
open Go.RowKit

set_option maxHeartbeats 1000000 in
theorem trueByHeads_any (N : Nat) (nm t : List UInt8) (ch : List (List UInt8)) (k : List UInt8 × List UInt8) (A : Option Addr) (n c : Nat) (w : World) (lo : 3 ≤ N) (hi : N ≤ 8) (hr : Rd w A n (strV ch)) (hn : n ≤ 1000) (l1 : 1 ≤ ch.length) (hs : ∀ x ∈ ch, okChange (N : Int) x = true) (hb1 : okChange (N : Int) k.1 = true) (hb2 : okChange (N : Int) k.2 = true) (ht : t.length ≤ 1000) (hcall : t.all callB = true) :
    Calls Try.prog 66 #[.agg #[.string (bs nm), .int .i64 N, .slice A n c], .agg #[.string (bs k.1), .string (bs k.2)], .string (bs t)] w fun e w' => e = .returned (.bool (trueB (leadL (roundsL N) ch) && decide (clashN N ch k t = 0))) ∧ Below w.heap.size w w' := by
  have G1 := fun (w0 : World) (rd : Rd w0 A n (strV ch)) => hid (leadTrue_any N nm ch A n c w0 lo hi rd (by omega) hs)
  have G2 := fun (w0 : World) (rd : Rd w0 A n (strV ch)) => hid (headClashes_any N nm t ch k A n c w0 lo hi rd hn l1 hs hb1 hb2 ht hcall)
  have RS := hid hr
  generalize clashN N ch k t = q at *
  generalize trueB (leadL (roundsL N) ch) = P0 at *
  obtain ⟨k1, k2⟩ := k
  clear hr hs hb1 hb2 hcall
  go_enter Try.func66, Try.ntmps66
  go_wp2_with fail
  obtain ⟨B2, hsz, HC⟩ := box_mk w nm k1 k2 (N : Int) (.slice A n c)
  have R2 := hid (RS.out.below B2)
  have HB2 := hid B2
  have hw2 := B2.size
  generalize ((w.alloc (.cells #[.string (bs nm), .int .i64 (N : Int), .slice A n c] 28)).alloc (.cells #[.string (bs k1), .string (bs k2)] 39)) = W2 at *
  clear B2 hsz
  have HS5 : ∀ W', Below W2.heap.size W2 W' → W'.cell? ⟨w.heap.size, 0, none⟩ = some (.string (bs nm)) ∧ W'.cell? ⟨w.heap.size, 1, none⟩ = some (.int .i64 (N : Int)) ∧ W'.cell? ⟨w.heap.size, 2, none⟩ = some (.slice A n c) ∧ W'.cell? ⟨w.heap.size + 1, 0, none⟩ = some (.string (bs k1)) ∧ W'.cell? ⟨w.heap.size + 1, 1, none⟩ = some (.string (bs k2)) := fun W' h => by
    obtain ⟨⟨a0, a1, a2⟩, a3, a4⟩ := HC.out _ h
    exact ⟨a0, a1, a2, a3, a4⟩
  have HHS5 := hid HS5
  clear HS5 HC
  obtain ⟨n0, n1, n2, q0, q1⟩ := HHS5.out _ (Below.refl W2.heap.size W2)
  refine (G1 _ R2.out).out.mono ?_
  rintro e w1 ⟨rfl, b1⟩
  have HB1 := hid b1
  clear b1 n0 n1 n2 q0 q1
  obtain ⟨n0, n1, n2, q0, q1⟩ := HHS5.out _ HB1.out
  cases P0
  · go_wp2
    go_ret
    exact ⟨ret_bool (by simp), HB2.out.trans (HB1.out.mono hw2)⟩
  · go_wp2_with fail
    refine (G2 _ (R2.out.below HB1.out)).out.mono ?_
    rintro e w3 ⟨v3, xs, rfl, o3, b3⟩
    have HB3 := hid (HB1.out.trans (b3.mono HB1.out.size))
    rcases o3.2 with ⟨rfl, hx⟩ | ⟨g, cap, cur, rfl, _⟩
    · have hq0 := hid (show q = 0 by have h1 := o3.1; rw [hx] at h1; simp at h1; omega)
      clear o3 b3 n0 n1 n2 q0 q1 hx
      go_wp2
      go_ret
      exact ⟨ret_bool (by simp [hq0.out]), HB2.out.trans (HB3.out.mono hw2)⟩
    · clear o3 b3 n0 n1 n2 q0 q1
      go_wp2
      go_ret
      exact ⟨ret_bool (by rw [Bool.eq_iff_iff]; simp), HB2.out.trans (HB3.out.mono hw2)⟩
end Go.Proofs.Ytiajeheonoebnaa

set_option linter.unusedVariables false
set_option linter.unusedSimpArgs false
set_option maxRecDepth 100000
namespace Go.Proofs.Ytiajeheonoebnaa
open Go.RowKit

theorem quotL_len (rs ss : List (List UInt8)) : (quotL rs ss).length = rs.length * ss.length := by
  induction rs with
  | nil => simp [quotL]
  | cons r rs ih =>
    simp only [quotL, List.flatMap_cons, List.length_append, List.length_map, List.length_cons] at ih ⊢
    rw [ih, Nat.succ_mul, Nat.add_comm]
set_option maxHeartbeats 2000000 in
theorem l11Heads_any (N : Nat) (nm : List UInt8) (ca : List (List UInt8)) (A : Option Addr) (n c : Nat) (w : World) (lo : 3 ≤ N) (hi : N ≤ 8) (hra : Rd w A n (strV ca)) (hn : n ≤ 1000) (hsa : ∀ x ∈ ca, okChange (N : Int) x = true) :
    Calls Try.prog 78 #[.agg #[.string (bs nm), .int .i64 N, .slice A n c]] w (OneS w (setL (quotL (leadL (roundsL N) ca) (leadL (roundsL N) ca)))) := by
  have HR := fun w0 => hid (l1Rounds_any N w0 hi)
  have HU := fun (w0 : World) (rd : Rd w0 A n (strV ca)) => hid (l11Lead_any N nm (roundsL N) (N : Int) ca A n c w0 (rounds_row lo hi) (rounds_len N) rd (by omega) hsa)
  have la : (leadL (roundsL N) ca).length = n := by have := hra.1; rw [strV_len] at this; rw [lead_len, this]
  have rows := hid (lead_rows ca (rounds_row lo hi))
  have RA := hid hra
  clear hra hsa
  unfold OneS at HU
  rw [la] at HU
  rw [rounds_len] at rows
  generalize leadL (roundsL N) ca = X at *
  have LA := hid la
  clear la
  have hkm : ∀ k, k ≤ n → k * n ≤ 1000000 := fun k hk => Nat.le_trans (Nat.mul_le_mul (Nat.le_trans hk hn) hn) (by omega)
  have HKM := hid hkm
  clear hkm
  go_enter Try.func78, Try.ntmps78
  go_wp2_with fail
  obtain ⟨B2, hsz, HC⟩ := box_mk1 28 w nm (N : Int) (.slice A n c)
  have R2 := hid (RA.out.below B2)
  have HB2 := hid B2
  have hw2 := B2.size
  generalize (w.alloc (.cells #[.string (bs nm), .int .i64 (N : Int), .slice A n c] 28)) = W2 at *
  clear B2 hsz
  have HS3 : ∀ W', Below W2.heap.size W2 W' → W'.cell? ⟨w.heap.size, 0, none⟩ = some (.string (bs nm)) ∧ W'.cell? ⟨w.heap.size, 1, none⟩ = some (.int .i64 (N : Int)) ∧ W'.cell? ⟨w.heap.size, 2, none⟩ = some (.slice A n c) := fun W' h => by
    obtain ⟨a0, a1, a2⟩ := HC.out _ h
    exact ⟨a0, a1, a2⟩
  have HHS := hid HS3
  clear HS3 HC
  obtain ⟨n0, n1, n2⟩ := HHS.out _ (Below.refl W2.heap.size W2)
  go_region_held3 (fun w' => w'.cell? ⟨w.heap.size, 0, none⟩ = some (.string (bs nm)) ∧ w'.cell? ⟨w.heap.size, 1, none⟩ = some (.int .i64 (N : Int)) ∧ w'.cell? ⟨w.heap.size, 2, none⟩ = some (.slice A n c))
    (first | exact HHS.out _ (Below.refl _ _) | exact HHS.out _ (Below.refl _ _).drew | exact HHS.out _ Fa)
    (first | (go_at_call 54; refine (HR _).out.mono ?_; rintro e w' ⟨rfl, rfl⟩) | (go_at_call 85; refine (HU _ (R2.out.below (Below.refl W2.heap.size W2).drew)).out.mono ?_; rintro e wa ⟨va, rfl, oa, ba⟩; obtain ⟨Aa, ca', rfl, _, _, rda, _⟩ := own_shape oa; have Fa := (Below.refl W2.heap.size W2).drew.trans (ba.mono (Nat.le_refl _))))
  have HFa := hid Fa
  have RDa := hid rda
  have hwa := Fa.size
  clear oa ba rda Fa n0 n1 n2
  go_wp2_with fail
  skip
  go_loopg [4, 19] n (fun gk u v wr => ∃ k : Nat, k ≤ n ∧ gk = n - k ∧ v = .int .i64 k ∧ wr.ownsRow wa.heap.size 9 1 u (k * n) (strV (quotL (X.take k) X)) ∧ Below wa.heap.size wa wr)
  case atStart => exact ⟨0, by omega, by omega, rfl, by rw [quotL_zero, Nat.zero_mul]; exact World.ownsRow_nil _ _ _ _, Below.refl _ _⟩
  case round =>
    obtain ⟨k, hk, rfl, rfl, ho, hb⟩ := hrel
    by_cases hlt : k < n
    · obtain ⟨b', o', hAa, hj', hc⟩ := (RDa.out.below hb).str hlt
      subst hAa
      have hk0 : (0 : Int) ≤ (k : Int) := by omega
      have hk1 : (k : Int) < (n : Int) := by omega
      have rowk := hid (rows.out _ (List.getElem_mem hj'))
      have HSTEP := hid (quotL_step X X k hj')
      have HO := hid ho
      have HB := hid hb
      have hbs := hb.size
      have hkm := HKM.out k hk
      obtain ⟨r, hr⟩ : ∃ r, r = X[k] := ⟨_, rfl⟩
      rw [← hr] at hc rowk HSTEP
      clear ho hb hr
      obtain ⟨w1, hw1⟩ : ∃ w1, w1 = wr := ⟨_, rfl⟩
      subst hw1
      go_wp2_with fail
      skip
      go_loopg [4, 25] n (fun gk u v wr => ∃ j : Nat, j ≤ n ∧ gk = n - j ∧ v = .int .i64 j ∧ wr.ownsRow wa.heap.size 9 1 u (k * n + j) (strV (quotL (X.take k) X ++ (X.take j).map fun s => timesL r (turnL s))) ∧ Below wa.heap.size wa wr)
      case atStart => exact ⟨0, by omega, by omega, rfl, by simpa using HO.out, HB.out⟩
      case round =>
        obtain ⟨j, hj, rfl, rfl, ho, hb⟩ := hrel
        by_cases hlj : j < n
        · obtain ⟨b2, o2, e2, hj2, hc2⟩ := (RDa.out.below hb).str hlj
          injection e2 with e2
          injection e2 with f1 f2 _
          subst f1 f2
          have hj0 : (0 : Int) ≤ (j : Int) := by omega
          have hj1 : (j : Int) < (n : Int) := by omega
          have rowj := rows.out _ (List.getElem_mem hj2)
          have HMT := hid (map_take_step (fun s => timesL r (turnL s)) X j hj2)
          have HT := hid (fun w0 => l1Turn_any X[j] w0 rowj.1)
          have HTM := hid (fun w0 => l1Times_any r (turnL X[j]) w0 rowk.out.1 (turn_row rowj.1) (by rw [turn_len, rowj.2, rowk.out.2]))
          obtain ⟨Z, hZ⟩ : ∃ Z, Z = timesL r (turnL X[j]) := ⟨_, rfl⟩
          rw [← hZ] at HTM HMT
          have HO2 := hid ho
          have HB2' := hid hb
          have hbs2 := hb.size
          have hlim : k * n + j + 1 ≤ 1000000000000 := by omega
          clear ho hb hZ rowj
          go_wp2_with fail
          refine (HT.out _).mono ?_
          rintro e w2 ⟨rfl, c2⟩
          have HO3 := hid (own_below HO2.out c2)
          have HB3 := hid (HB2'.out.trans (c2.mono hbs2))
          have hbs3 := HB3.out.size
          clear c2
          go_wp2_with fail
          refine (HTM.out _).mono ?_
          rintro e w' ⟨rfl, rfl⟩
          go_wp2_with (at_builtin; refine app_str _ (by rfl) _ _ (by rfl) wa.heap.size _ _ _ (by rfl) (HO3.out.alloc _) (some ⟨w2.heap.size, 0, none⟩) 1 1 [Z] (by rfl) (Rd.blk _ [.string (bs Z)] _) hlim (by simp; omega) ?_; intro v5 w5 o5 g5)
          go_roundg (n - (j + 1))
          case measure => omega
          case rel =>
            rw [List.append_assoc, HMT.out] at o5
            exact ⟨j + 1, by omega, rfl, by go_num, o5, (HB3.out.alloc (by omega) _).grown g5 (by simp; omega) fun q hq => (HO3.out.lt q hq).1⟩
        · obtain rfl : j = n := by omega
          have e1 : (X.take j).map (fun s => timesL r (turnL s)) = X.map fun s => timesL r (turnL s) := by rw [List.take_of_length_le (by rw [LA.out]; omega)]
          rw [e1, HSTEP.out] at ho
          have HO2 := hid ho
          have HB2' := hid hb
          clear ho hb e1
          go_wp2
          go_roundg (j - (k + 1))
          case measure => omega
          case rel => exact ⟨k + 1, by omega, rfl, by go_num, by rw [Nat.succ_mul]; exact HO2.out, HB2'.out⟩
    · obtain rfl : k = n := by omega
      rw [List.take_of_length_le (by rw [LA.out]; omega)] at ho
      obtain ⟨A1, c1, rfl, _, _, rd1, _⟩ := own_shape ho
      have hkk := HKM.out k (Nat.le_refl _)
      have hql : (quotL X X).length = k * k := by rw [quotL_len, LA.out]
      have HB := hid (HFa.out.trans (hb.mono hwa))
      have HBs := HB.out.size
      clear hb ho
      go_wp2_with fail
      refine (l6Sort_any (k * k) A1 c1 (quotL X X) _ rd1 (by omega)).mono ?_
      rintro e w6 ⟨v1, rfl, o1, b1⟩
      obtain ⟨S, hS⟩ : ∃ S, S = sortL (quotL X X) := ⟨_, rfl⟩
      have HSET := hid (show setL (quotL X X) = ddTo S S.length by rw [hS]; rfl)
      rw [← hS] at o1
      have hSl : S.length = k * k := by rw [hS, sortL_len, hql]
      rw [hSl] at o1
      obtain ⟨q, hq⟩ : ∃ q, q = k * k := ⟨_, rfl⟩
      rw [← hq] at o1 hSl hkk
      obtain ⟨A2, c2, rfl, _, _, rd2, _⟩ := own_shape o1
      have HSl := hid hSl
      have RS2 := hid rd2
      have B1 := hid (HB.out.trans (b1.mono HBs))
      have B1s := B1.out.size
      clear hS rd1 o1 rd2 b1 hql hq HKM
      go_wp2
      skip
      go_loopg [9, 41] q (fun gk u v wr => ∃ j : Nat, j ≤ q ∧ gk = q - j ∧ v = .int .i64 j ∧ wr.ownsRow w6.heap.size 9 1 u (ddTo S j).length (strV (ddTo S j)) ∧ Below w6.heap.size w6 wr)
      case atStart => exact ⟨0, by omega, by omega, rfl, World.ownsRow_nil _ _ _ _, Below.refl _ _⟩
      case round =>
        obtain ⟨j, hj, rfl, rfl, oj, bj⟩ := hrel
        by_cases hjk : j < q
        · obtain ⟨b, o, rfl, hj', hc⟩ := (RS2.out.below bj).str hjk
          have hk0 : (0 : Int) ≤ (j : Int) := by omega
          have hk1 : (j : Int) < (q : Int) := by omega
          have BJ := hid bj
          have BJs := bj.size
          have OJ := hid oj
          have hdl := ddTo_len S j
          clear bj
          rcases j with _ | j
          · have hd := hid (ddTo_first S (by omega))
            have hc0 : wr.cell? ⟨b, o, none⟩ = some (.string (bs S[0])) := hc
            clear hc
            obtain ⟨A3, c3, rfl, _, _, rd3, _⟩ := own_shape oj
            have h00 : (ddTo S 0).length = 0 := by omega
            rw [h00] at OJ ⊢
            clear oj rd3 hdl
            have h00 := hid h00
            go_wp2_with (at_builtin; refine app_str _ (by rfl) _ _ (by rfl) w6.heap.size _ _ _ (by rfl) (OJ.out.alloc _) (some ⟨wr.heap.size, 0, none⟩) 1 1 [S[0]] (by rfl) (Rd.blk _ [.string (bs S[0])] _) (by omega) (by simp; omega) ?_; intro v5 w5 o5 g5)
            go_roundg (q - (0 + 1))
            case measure => omega
            case rel =>
              rw [← hd.out] at o5
              have e1 : (ddTo S (0 + 1)).length = 0 + 1 := by
                have := congrArg List.length hd.out
                rw [List.length_append, h00.out] at this
                exact this
              exact ⟨0 + 1, by omega, rfl, by go_num, by rw [e1]; exact o5, (BJ.out.alloc (by omega) _).grown g5 (by simp; omega) fun q' hq => (OJ.out.lt q' hq).1⟩
          · obtain ⟨m, hm⟩ : ∃ m, (ddTo S (j + 1)).length = m + 1 := ⟨(ddTo S (j + 1)).length - 1, by have := ddTo_pos S j (by omega); omega⟩
            have hlast : (ddTo S (j + 1))[m]? = some S[j] := by
              have := ddTo_last S j (by omega)
              rw [List.getLast?_eq_getElem?, hm, Nat.add_sub_cancel, List.getElem?_eq_getElem (show j < S.length by omega)] at this
              exact this
            rw [hm] at oj hdl
            have hm8 : m ≤ 1000000 := by omega
            have hm9 := hid hm8
            have hm10 := hid (show m + 1 + 1 ≤ 1000000000000 by omega)
            clear hm8
            obtain ⟨A3, c3, rfl, _, _, rd3, _⟩ := own_shape oj
            obtain ⟨b3, o3, rfl, hm', hc3⟩ := rd3.str (Nat.lt_succ_self m)
            rw [List.getElem?_eq_getElem hm'] at hlast
            injection hlast with hlast
            rw [hlast] at hc3
            have hmi : (((m : Int) + 1) == 0) = false := by simp; omega
            have hm0 : (0 : Int) ≤ (m : Int) := by omega
            have hm1 : (m : Int) < (m : Int) + 1 := by omega
            have hw := IntWalk.i64_in ((m : Int) + 1 - 1) (by omega)
            have hw1 : wrap64 (m : Int) = (m : Int) := by unfold wrap64; omega
            have HM := hid hm
            have Hlen := hid hdl
            rw [hm] at OJ
            clear oj rd3 hlast hm hdl
            by_cases he : S[j + 1] = S[j]
            · have hd := hid (ddTo_skip S j (by omega) he)
              have heq : (S[j] == S[j + 1]) = true := by simp [he]
              clear he
              go_wp2
              go_roundg (q - (j + 1 + 1))
              case measure => omega
              case rel =>
                exact ⟨j + 1 + 1, by omega, rfl, by go_num, by rw [hd.out, HM.out]; exact OJ.out, BJ.out⟩
            · have hd := hid (ddTo_take S j (by omega) he)
              have heq : (S[j] == S[j + 1]) = false := by simp; exact fun h => he h.symm
              clear he
              go_wp2_with (at_builtin; refine app_str _ (by rfl) _ _ (by rfl) w6.heap.size _ _ _ (by rfl) (OJ.out.alloc _) (some ⟨wr.heap.size, 0, none⟩) 1 1 [S[j + 1]] (by rfl) (Rd.blk _ [.string (bs S[j + 1])] _) (by exact hm10.out) (by simp; exact Nat.le_succ_of_le BJs) ?_; intro v5 w5 o5 g5)
              go_roundg (q - (j + 1 + 1))
              case measure => omega
              case rel =>
                rw [← hd.out] at o5
                have e1 : (ddTo S (j + 1 + 1)).length = m + 1 + 1 := by
                  have := congrArg List.length hd.out
                  rw [List.length_append, HM.out] at this
                  exact this
                exact ⟨j + 1 + 1, by omega, rfl, by go_num, by rw [e1]; exact o5, (BJ.out.alloc (by omega) _).grown g5 (by simp; omega) fun q' hq => (OJ.out.lt q' hq).1⟩
        · obtain rfl : j = q := by omega
          go_wp2
          go_ret
          have HEQ : setL (quotL X X) = ddTo S j := by rw [HSET.out, HSl.out]
          rw [HEQ]
          exact ⟨u9, rfl, own_mono (base := w6.heap.size) oj (Nat.le_trans hw2 B1s), HB2.out.trans ((B1.out.trans (bj.mono B1s)).mono hw2)⟩
end Go.Proofs.Ytiajeheonoebnaa

set_option linter.unusedVariables false
set_option linter.unusedSimpArgs false
set_option maxRecDepth 100000
namespace Go.Proofs.Ytiajeheonoebnaa
open Go.RowKit

set_option maxHeartbeats 2000000 in
theorem l11Clashes_any (N : Nat) (nm : List UInt8) (ca hs : List (List UInt8)) (A B : Option Addr) (n c m d : Nat) (w : World) (lo : 3 ≤ N) (hi : N ≤ 8) (hra : Rd w A n (strV ca)) (hrb : Rd w B m (strV hs)) (hn : n ≤ 1000) (hm : m ≤ 1000) (hsa : ∀ x ∈ ca, okChange (N : Int) x = true) (hh : ∀ x ∈ hs, IsRow x ∧ x.length = N) :
    Calls Try.prog 69 #[.agg #[.string (bs nm), .int .i64 N, .slice A n c], .slice B m d] w (SlicesN w (clashTo (quotL (leadL (roundsL N) ca) (leadL (roundsL N) ca)) hs m).length) := by
  have HF := fun (w0 : World) (rd : Rd w0 A n (strV ca)) => hid (l11Heads_any N nm ca A n c w0 lo hi rd hn hsa)
  have hla : (leadL (roundsL N) ca).length = n := by have := hra.1; rw [strV_len] at this; rw [lead_len, this]
  have hfl := setL_len (quotL (leadL (roundsL N) ca) (leadL (roundsL N) ca))
  rw [quotL_len, hla] at hfl
  have hnn : n * n ≤ 1000000 := Nat.le_trans (Nat.mul_le_mul hn hn) (by omega)
  have hl := hid (show hs.length = m by have := hrb.1; rw [strV_len] at this; exact this)
  have HH := hid hh
  have RA := hid hra
  have RB := hid hrb
  clear hra hrb hsa hh
  rw [← clashTo_set]
  generalize setL (quotL (leadL (roundsL N) ca) (leadL (roundsL N) ca)) = F at *
  have HFL := hid (show F.length ≤ 1048576 by omega)
  clear hla hfl hnn
  go_enter Try.func69, Try.ntmps69
  go_wp2_with fail
  obtain ⟨B2, hsz, HC⟩ := box_mk1 28 w nm (N : Int) (.slice A n c)
  have R2 := hid (RA.out.below B2)
  have RB2 := hid (RB.out.below B2)
  have HB2 := hid B2
  have hw2 := B2.size
  generalize (w.alloc (.cells #[.string (bs nm), .int .i64 (N : Int), .slice A n c] 28)) = W2 at *
  clear hsz HC B2
  refine (HF _ R2.out).out.mono ?_
  rintro e w1 ⟨vF, rfl, oF, b1⟩
  obtain ⟨AF, cF, rfl, _, _, rdF, _⟩ := own_shape oF
  have HB1 := hid b1
  have HS := hid rdF
  have RB1 := hid (RB2.out.below b1)
  have hw1 := b1.size
  clear b1 oF rdF
  go_wp2_with fail
  have HKM := hid (show ∀ k, k ≤ m → k * m ≤ 1000000 from fun k hk => Nat.le_trans (Nat.mul_le_mul (Nat.le_trans hk hm) hm) (by omega))
  skip
  go_loopg [6, 13] m (fun gk u v wr => ∃ (i : Nat) (xs : List Value), i ≤ m ∧ gk = m - i ∧ v = .int .i64 i ∧ wr.ownsRow w1.heap.size 54 1 u (clashTo F hs i).length xs ∧ Below w1.heap.size w1 wr)
  case atStart => exact ⟨0, [], by omega, by omega, rfl, World.ownsRow_nil _ _ _ _, Below.refl _ _⟩
  case round =>
    obtain ⟨i, xs, hi', rfl, rfl, ho, hb⟩ := hrel
    by_cases hlt : i < m
    · obtain ⟨b', o', hB, hj', hc⟩ := (RB1.out.below hb).str hlt
      have rowi := hid (HH.out _ (List.getElem_mem hj'))
      have hk0 : (0 : Int) ≤ (i : Int) := by omega
      have hk1 : (i : Int) < (m : Int) := by omega
      subst hB
      have HST := hid (clashTo_step F hs i)
      have HO := hid ho
      have HB := hid hb
      have hbs := hb.size
      obtain ⟨w2, hw2'⟩ : ∃ w2, w2 = wr := ⟨_, rfl⟩
      subst hw2'
      clear ho hb
      go_wp2_with fail
      have HT := hid (fun w0 => l1Turn_any hs[i] w0 rowi.out.1)
      have hkm := HKM.out i hi'
      have hcl := clashTo_len F hs i
      rw [hl.out] at hcl
      skip
      go_loopg [6, 8] (m - (i + 1)) (fun gk u v wr => ∃ (k : Nat) (ys : List Value), i < k ∧ k ≤ m ∧ gk = m - k ∧ v = .int .i64 k ∧ wr.ownsRow w1.heap.size 54 1 u (clashTo F hs i ++ clashRow F hs i k).length ys ∧ Below w1.heap.size w1 wr)
      case atStart => exact ⟨i + 1, xs, by omega, by omega, rfl, by go_num, by rw [clashRow_zero, List.append_nil]; exact HO.out, HB.out⟩
      case round =>
        obtain ⟨k, ys, hik, hk', rfl, rfl, ho, hb⟩ := hrel
        by_cases hltk : k < m
        · obtain ⟨b3, o3, hB3, hjk, hck⟩ := (RB1.out.below hb).str hltk
          injection hB3 with hB3
          injection hB3 with f1 f2 _
          subst f1 f2
          obtain ⟨b4, o4, hB4, _, hci⟩ := (RB1.out.below hb).str hlt
          injection hB4 with hB4
          injection hB4 with f3 f4 _
          subst f3 f4
          have rowk := hid (HH.out _ (List.getElem_mem hjk))
          have hkk0 : (0 : Int) ≤ (k : Int) := by omega
          have hkk1 : (k : Int) < (m : Int) := by omega
          have HTM := hid (fun w0 => l1Times_any (turnL hs[i]) hs[k] w0 (turn_row rowi.out.1) rowk.out.1 (by rw [turn_len, rowi.out.2, rowk.out.2]))
          have hcA : memB (timesL (turnL hs[i]) hs[k]) F = clashAt F hs i k := by unfold clashAt; simp [List.getD, hj', hjk]
          obtain ⟨Z, hZ⟩ : ∃ Z, Z = timesL (turnL hs[i]) hs[k] := ⟨_, rfl⟩
          have hzl : Z.length ≤ 1048576 := by rw [hZ, times_len, rowk.out.2]; omega
          rw [← hZ] at HTM hcA
          have HCA := hid hcA
          have HO2 := hid ho
          have HB2' := hid hb
          have hbs2 := hb.size
          have hrl := clashRow_len F hs i k
          have HSr := hid (HS.out.below hb)
          have HHas := hid (fun w0 rd0 => l1HasS_any AF F.length cF F Z w0 rd0 HFL.out)
          have HC9 := hid (show ∀ W', Below wr.heap.size wr W' → W'.cell? ⟨b', o' + k, none⟩ = some (.string (bs hs[k])) ∧ W'.cell? ⟨b', o' + i, none⟩ = some (.string (bs hs[i])) from fun W' h => ⟨(h.cell (p := ⟨b', o' + k, none⟩) (World.block_lt_of_cell? wr _ hck)).trans hck, (h.cell (p := ⟨b', o' + i, none⟩) (World.block_lt_of_cell? wr _ hci)).trans hci⟩)
          clear ho hb hZ hcA
          go_wp2_with fail
          go_region_held3 (fun w' => w'.cell? ⟨b', o' + k, none⟩ = some (.string (bs hs[k])) ∧ w'.cell? ⟨b', o' + i, none⟩ = some (.string (bs hs[i])))
            (first | exact HC9.out _ (Below.refl _ _) | exact HC9.out _ (Below.refl _ _).drew | exact HC9.out _ Fa)
            (first | (go_at_call 103; refine (HT.out _).mono ?_; rintro e wa ⟨rfl, ba⟩; have Fa := (Below.refl wr.heap.size wr).drew.trans (ba.mono (Nat.le_refl _))) | (go_at_call 102; refine (HTM.out _).mono ?_; rintro e w' ⟨rfl, rfl⟩) | (go_at_call 86; refine (HHas.out _ (HSr.out.below Fa)).mono ?_; rintro e w' ⟨rfl, rfl⟩))
          have HOb := hid (own_below HO2.out Fa)
          have HBb := hid (HB2'.out.trans (Fa.mono hbs2))
          have hbb := HBb.out.size
          clear ba Fa
          cases hm' : memB Z F
          · have HN := hid (clashRow_no F hs (k := k) (i := i) (HCA.out.symm.trans hm'))
            clear hm'
            go_wp2
            go_roundg (m - (k + 1))
            case measure => omega
            case rel => exact ⟨k + 1, ys, by omega, by omega, rfl, by go_num, by rw [← HN.out]; exact HOb.out, HBb.out⟩
          · have HY := hid (clashRow_yes F hs hik (HCA.out.symm.trans hm'))
            have HLN := hid (show (clashTo F hs i ++ clashRow F hs i k).length + 1 = (clashTo F hs i ++ clashRow F hs i (k + 1)).length by rw [← HY.out, ← List.append_assoc, List.length_append (bs := [(i, k)])]; rfl)
            have hll : (clashTo F hs i ++ clashRow F hs i k).length ≤ 2000000 := by rw [List.length_append]; omega
            obtain ⟨L, hL⟩ : ∃ L, L = (clashTo F hs i ++ clashRow F hs i k).length := ⟨_, rfl⟩
            rw [← hL] at HOb HLN hll
            have hlim : L + 1 ≤ 1000000000 := by omega
            clear hm' hL
            go_wp2_with (at_builtin; refine app_sl _ (by rfl) _ _ (by rfl) w1.heap.size _ _ _ (by rfl) ((HOb.out.alloc _).alloc _) (some ⟨wa.heap.size + 1, 0, none⟩) 1 1 [.slice (some ⟨wa.heap.size, 0, none⟩) 2 2] (by rfl) (by have := Rd.blk (wa.alloc (.cells #[.int .i64 i, .int .i64 k] 3)) [.slice (some ⟨wa.heap.size, 0, none⟩) 2 2] 54; simpa using this) (by intro u hu; simp at hu; subst hu; rfl) hlim (by simp; omega) ?_; intro v5 w5 o5 g5)
            go_roundg (m - (k + 1))
            case measure => omega
            case rel =>
              rw [HLN.out] at o5
              exact ⟨k + 1, _, by omega, by omega, rfl, by go_num, o5, ((HBb.out.alloc (by omega) _).alloc (by simp; omega) _).grown g5 (by simp; omega) fun q hq => (HOb.out.lt q hq).1⟩
        · obtain rfl : k = m := by omega
          have HO2 := hid ho
          have HB2' := hid hb
          clear ho hb
          go_wp2
          go_roundg (k - (i + 1))
          case measure => omega
          case rel => exact ⟨i + 1, ys, by omega, rfl, by go_num, by rw [← HST.out, hl.out]; exact HO2.out, HB2'.out⟩
    · obtain rfl : i = m := by omega
      have HO := hid ho
      clear ho
      go_wp2
      go_ret
      exact ⟨_, xs, rfl, own_mono HO.out (Nat.le_trans hw2 hw1), HB2.out.trans ((HB1.out.trans (hb.mono hw1)).mono hw2)⟩
end Go.Proofs.Ytiajeheonoebnaa

set_option linter.unusedVariables false
set_option linter.unusedSimpArgs false
namespace Go.Proofs.Ytiajeheonoebnaa
open Go.RowKit

/-- An operation that its guard passes over is taken first. -/
theorem wpAnyH_pass {P : Program} {ops : Array Oper} {Q : Exit → Act → World → Prop} {md : Region.Mode} {S : World → Prop} {i : Nat} {d : Option Tmp} {fuel : Nat} {listed : Array Bool} {a : Act} {w : World} (hd : (ops[i]?).map (fun o => o.dst) = some d)
    (hs : Region.noSelect ops = true) (hf : Region.free md ops listed i = true) (hr : (Region.ready md ops listed).contains i = true)
    (hQ : ∀ c a v w, Q (.panic c) (a.put d v) w → Q (.panic c) a w) (hw : (ops[i]?).map (fun o => Region.wanted o (yielded ops a.tmps)) = some false) (hS : S w)
    (h : wpAnyH P md ops Q S fuel (listed.setIfInBounds i true) (a.put d undef) w) : wpAnyH P md ops Q S (fuel + 1) listed a w := by
  cases ho : ops[i]? with
  | none => rw [ho] at hd; cases hd
  | some o =>
    rw [ho] at hd hw
    simp only [Option.map_some, Option.some.injEq] at hd hw
    subst hd
    exact wpAnyH_take ho hs hf hr (fun c a w => hQ c a undef w) (Or.inr ⟨hw, rfl⟩) hS h
end Go.Proofs.Ytiajeheonoebnaa

set_option linter.unusedVariables false
set_option linter.unusedSimpArgs false
set_option maxRecDepth 100000
namespace Go.Proofs.Ytiajeheonoebnaa
open Go.RowKit

theorem heads_take_rows2 {N : Nat} (lo : 3 ≤ N) (hi : N ≤ 8) (cs : List (List UInt8)) (k : List UInt8 × List UInt8) (t : List UInt8) (j q : Nat) : ∀ x ∈ (headsTo N cs k t j).take q, IsRow x ∧ x.length = N := heads_take_rows' lo hi cs k t j q
set_option maxHeartbeats 2000000 in
theorem l11True_any (N : Nat) (nm t : List UInt8) (ch : List (List UInt8)) (k : List UInt8 × List UInt8) (A : Option Addr) (n c : Nat) (w : World) (lo : 3 ≤ N) (hi : N ≤ 8) (hr : Rd w A n (strV ch)) (hn : n ≤ 1000) (hcap : n ≤ c) (l1 : 1 ≤ ch.length) (hs : ∀ x ∈ ch, okChange (N : Int) x = true) (hb1 : okChange (N : Int) k.1 = true) (hb2 : okChange (N : Int) k.2 = true) (ht : t.length ≤ 1000) :
    Calls Try.prog 64 #[.agg #[.string (bs nm), .int .i64 N, .slice A n c], .agg #[.string (bs k.1), .string (bs k.2)], .string (bs t)] w fun e w' => e = .returned (.bool (trueB (leadL (roundsL N) ch) && decide (clashN N ch k t = 0))) ∧ Below w.heap.size w w' := by
  have HR := fun w0 => hid (l1Rounds_any N w0 hi)
  have HL := fun (w0 : World) (rd : Rd w0 A n (strV ch)) => hid (l11Lead_any N nm (roundsL N) (N : Int) ch A n c w0 (rounds_row lo hi) (rounds_len N) rd (by omega) hs)
  have hcl : ch.length = n := by have := hr.1; rw [strV_len] at this; exact this
  have hll := hid (show (leadL (roundsL N) ch).length ≤ 1048576 by rw [lead_len, hcl]; omega)
  have HT := fun (w0 : World) A1 n1 c1 (rd : Rd w0 A1 n1 (strV (leadL (roundsL N) ch))) (h1 : n1 ≤ 1048576) => hid (l7True_any A1 n1 c1 (leadL (roundsL N) ch) w0 rd h1)
  have HH := fun (w0 : World) (rd : Rd w0 A n (strV ch)) => hid (l9Heads_any N nm t ch k A n c w0 lo hi rd (by omega) hcap l1 hs hb1 hb2 ht)
  have HC2 := fun B d (w0 : World) (rd : Rd w0 A n (strV ch)) (rb : Rd w0 B t.length (strV ((headsTo N ch k t t.length).take t.length))) => hid (l11Clashes_any N nm ch ((headsTo N ch k t t.length).take t.length) A B n c t.length d w0 lo hi rd rb hn ht hs (heads_take_rows2 lo hi ch k t _ _))
  have HCN := hid (show clashN N ch k t = (clashTo (quotL (leadL (roundsL N) ch) (leadL (roundsL N) ch)) ((headsTo N ch k t t.length).take t.length) t.length).length from rfl)
  have hTR := hid (show trueB (leadL (roundsL N) ch) = trueB (leadL (roundsL N) ch) from rfl)
  have RS := hid hr
  obtain ⟨k1, k2⟩ := k
  clear hr hs hb1 hb2 hcl hTR
  rw [HCN.out]
  generalize (clashTo (quotL (leadL (roundsL N) ch) (leadL (roundsL N) ch)) ((headsTo N ch (k1, k2) t t.length).take t.length) t.length).length = q at *
  clear HCN
  have i0 : (0 : Int) ≤ (t.length : Int) := Int.natCast_nonneg _
  generalize trueB (leadL (roundsL N) ch) = P0 at *
  generalize leadL (roundsL N) ch = X at *
  go_enter Try.func64, Try.ntmps64
  go_wp2_with fail
  obtain ⟨B2, hsz, HC⟩ := box_mk w nm k1 k2 (N : Int) (.slice A n c)
  have R2 := hid (RS.out.below B2)
  have HB2 := hid B2
  have hw2 := B2.size
  generalize ((w.alloc (.cells #[.string (bs nm), .int .i64 (N : Int), .slice A n c] 28)).alloc (.cells #[.string (bs k1), .string (bs k2)] 39)) = W2 at *
  clear B2 hsz
  have HS5 : ∀ W', Below W2.heap.size W2 W' → W'.cell? ⟨w.heap.size, 0, none⟩ = some (.string (bs nm)) ∧ W'.cell? ⟨w.heap.size, 1, none⟩ = some (.int .i64 (N : Int)) ∧ W'.cell? ⟨w.heap.size, 2, none⟩ = some (.slice A n c) ∧ W'.cell? ⟨w.heap.size + 1, 0, none⟩ = some (.string (bs k1)) ∧ W'.cell? ⟨w.heap.size + 1, 1, none⟩ = some (.string (bs k2)) := fun W' h => by
    obtain ⟨⟨a0, a1, a2⟩, a3, a4⟩ := HC.out _ h
    exact ⟨a0, a1, a2, a3, a4⟩
  have HHS5 := hid HS5
  clear HS5 HC
  have E2 : Hid (Below W2.heap.size W2 W2) := hid (Below.refl _ _)
  cases P0
  · obtain ⟨n0, n1, n2, p0, p1⟩ := HHS5.out _ E2.out
    refine wp_region_held_drew (S := fun w' => w'.cell? ⟨w.heap.size, 0, none⟩ = some (.string (bs nm)) ∧ w'.cell? ⟨w.heap.size, 1, none⟩ = some (.int .i64 (N : Int)) ∧ w'.cell? ⟨w.heap.size, 2, none⟩ = some (.slice A n c) ∧ w'.cell? ⟨w.heap.size + 1, 0, none⟩ = some (.string (bs k1)) ∧ w'.cell? ⟨w.heap.size + 1, 1, none⟩ = some (.string (bs k2))) (by kernel_rfl) (HHS5.out _ E2.out.drew) (fun hHeld => ?_)
    refine wpAnyH_take (i := 0) (v := ?_) rfl (by kernel_rfl) (by kernel_rfl) (by kernel_rfl) (fun _ _ _ h => h) (Or.inl ⟨by rfl, ?_⟩) (by assumption) ?_
    rotate_left
    · (intro w hSw; (try dsimp only at hSw); go_simp; with_reducible rfl)
    try simp only [Act.put, List.setIfInBounds_toArray, List.set_cons_zero, List.set_cons_succ]
    refine wpAnyH_take (i := 1) (v := ?_) rfl (by kernel_rfl) (by kernel_rfl) (by kernel_rfl) (fun _ _ _ h => h) (Or.inl ⟨by rfl, ?_⟩) (by assumption) ?_
    rotate_left
    · (intro w hSw; (try dsimp only at hSw); go_simp; with_reducible rfl)
    try simp only [Act.put, List.setIfInBounds_toArray, List.set_cons_zero, List.set_cons_succ]
    refine wpAnyH_take (i := 2) (v := ?_) rfl (by kernel_rfl) (by kernel_rfl) (by kernel_rfl) (fun _ _ _ h => h) (Or.inl ⟨by rfl, ?_⟩) (by assumption) ?_
    rotate_left
    · (intro w hSw; (try dsimp only at hSw); go_simp; with_reducible rfl)
    try simp only [Act.put, List.setIfInBounds_toArray, List.set_cons_zero, List.set_cons_succ]
    refine wpAnyH_ready (rs := [3]) (by kernel_rfl) (by simp) ?_
    refine AllReadyH.cons rfl (fun K hK => ?_) AllReadyH.nil
    go_simp
    go_at_call 54
    refine ((HR _).out).mono ?_
    rintro e w' ⟨rfl, rfl⟩
    go_wp2_with fail
    refine hK.out _ _ (HHS5.out _ E2.out.drew) (fun hHx => ?_)
    clear hHx hK K hHeld
    try simp only [Act.put, List.setIfInBounds_toArray, List.set_cons_zero, List.set_cons_succ]
    refine wpAnyH_ready (rs := [4]) (by kernel_rfl) (by simp) ?_
    refine AllReadyH.cons rfl (fun K hK => ?_) AllReadyH.nil
    go_simp
    go_at_call 85
    refine ((HL _ (R2.out.below E2.out.drew)).out).mono ?_
    rintro e wa ⟨va, rfl, oa, ba⟩
    obtain ⟨Aa, ca, rfl, _, _, rda, _⟩ := own_shape oa
    have Fa := E2.out.drew.trans (ba.mono E2.out.size)
    go_wp2_with fail
    refine hK.out _ _ (HHS5.out _ Fa) (fun hHx => ?_)
    clear hHx hK K
    try simp only [Act.put, List.setIfInBounds_toArray, List.set_cons_zero, List.set_cons_succ]
    refine wpAnyH_ready (rs := [5]) (by kernel_rfl) (by simp) ?_
    refine AllReadyH.cons rfl (fun K hK => ?_) AllReadyH.nil
    go_simp
    go_at_call 55
    refine ((HT _ _ _ _ rda hll.out).out).mono ?_
    rintro e wb ⟨rfl, bb⟩
    have Fb := Fa.trans (bb.mono Fa.size)
    go_wp2_with fail
    refine hK.out _ _ (HHS5.out _ Fb) (fun hHx => ?_)
    clear hHx hK K
    try simp only [Act.put, List.setIfInBounds_toArray, List.set_cons_zero, List.set_cons_succ]
    refine wpAnyH_take (i := 6) (v := ?_) rfl (by kernel_rfl) (by kernel_rfl) (by kernel_rfl) (fun _ _ _ h => h) (Or.inl ⟨by rfl, ?_⟩) (HHS5.out _ Fb) ?_
    rotate_left
    · (intro w hSw; (try dsimp only at hSw); go_simp; with_reducible rfl)
    try simp only [Act.put, List.setIfInBounds_toArray, List.set_cons_zero, List.set_cons_succ]
    refine wpAnyH_pass (i := 7) (d := some 14) (by kernel_rfl) (by kernel_rfl) (by kernel_rfl) (by kernel_rfl) (fun _ _ _ _ h => h) (by kernel_rfl) (HHS5.out _ Fb) ?_
    try simp only [Act.put, List.setIfInBounds_toArray, List.set_cons_zero, List.set_cons_succ]
    refine wpAnyH_pass (i := 8) (d := some 15) (by kernel_rfl) (by kernel_rfl) (by kernel_rfl) (by kernel_rfl) (fun _ _ _ _ h => h) (by kernel_rfl) (HHS5.out _ Fb) ?_
    try simp only [Act.put, List.setIfInBounds_toArray, List.set_cons_zero, List.set_cons_succ]
    refine wpAnyH_pass (i := 9) (d := some 16) (by kernel_rfl) (by kernel_rfl) (by kernel_rfl) (by kernel_rfl) (fun _ _ _ _ h => h) (by kernel_rfl) (HHS5.out _ Fb) ?_
    try simp only [Act.put, List.setIfInBounds_toArray, List.set_cons_zero, List.set_cons_succ]
    refine wpAnyH_pass (i := 10) (d := some 17) (by kernel_rfl) (by kernel_rfl) (by kernel_rfl) (by kernel_rfl) (fun _ _ _ _ h => h) (by kernel_rfl) (HHS5.out _ Fb) ?_
    try simp only [Act.put, List.setIfInBounds_toArray, List.set_cons_zero, List.set_cons_succ]
    refine wpAnyH_pass (i := 11) (d := some 18) (by kernel_rfl) (by kernel_rfl) (by kernel_rfl) (by kernel_rfl) (fun _ _ _ _ h => h) (by kernel_rfl) (HHS5.out _ Fb) ?_
    try simp only [Act.put, List.setIfInBounds_toArray, List.set_cons_zero, List.set_cons_succ]
    refine wpAnyH_pass (i := 12) (d := some 19) (by kernel_rfl) (by kernel_rfl) (by kernel_rfl) (by kernel_rfl) (fun _ _ _ _ h => h) (by kernel_rfl) (HHS5.out _ Fb) ?_
    try simp only [Act.put, List.setIfInBounds_toArray, List.set_cons_zero, List.set_cons_succ]
    refine wpAnyH_pass (i := 13) (d := some 20) (by kernel_rfl) (by kernel_rfl) (by kernel_rfl) (by kernel_rfl) (fun _ _ _ _ h => h) (by kernel_rfl) (HHS5.out _ Fb) ?_
    try simp only [Act.put, List.setIfInBounds_toArray, List.set_cons_zero, List.set_cons_succ]
    refine wpAnyH_pass (i := 14) (d := some 21) (by kernel_rfl) (by kernel_rfl) (by kernel_rfl) (by kernel_rfl) (fun _ _ _ _ h => h) (by kernel_rfl) (HHS5.out _ Fb) ?_
    try simp only [Act.put, List.setIfInBounds_toArray, List.set_cons_zero, List.set_cons_succ]
    refine wpAnyH_pass (i := 15) (d := some 22) (by kernel_rfl) (by kernel_rfl) (by kernel_rfl) (by kernel_rfl) (fun _ _ _ _ h => h) (by kernel_rfl) (HHS5.out _ Fb) ?_
    try simp only [Act.put, List.setIfInBounds_toArray, List.set_cons_zero, List.set_cons_succ]
    refine wpAnyH_pass (i := 16) (d := some 23) (by kernel_rfl) (by kernel_rfl) (by kernel_rfl) (by kernel_rfl) (fun _ _ _ _ h => h) (by kernel_rfl) (HHS5.out _ Fb) ?_
    try simp only [Act.put, List.setIfInBounds_toArray, List.set_cons_zero, List.set_cons_succ]
    refine wpAnyH_pass (i := 17) (d := some 24) (by kernel_rfl) (by kernel_rfl) (by kernel_rfl) (by kernel_rfl) (fun _ _ _ _ h => h) (by kernel_rfl) (HHS5.out _ Fb) ?_
    try simp only [Act.put, List.setIfInBounds_toArray, List.set_cons_zero, List.set_cons_succ]
    refine wpAnyH_ready (rs := [18]) (by kernel_rfl) (by simp) ?_
    refine AllReadyH.cons rfl (fun K hK => ?_) AllReadyH.nil
    go_simp
    refine hK.out _ _ (HHS5.out _ Fb) (fun hHx => ?_)
    clear hHx hK K
    try simp only [Act.put, List.setIfInBounds_toArray, List.set_cons_zero, List.set_cons_succ]
    refine wpAnyH_ready (rs := [19]) (by kernel_rfl) (by simp) ?_
    refine AllReadyH.cons rfl (fun K hK => ?_) AllReadyH.nil
    go_simp
    refine hK.out _ _ (HHS5.out _ Fb) (fun hHx => ?_)
    clear hHx hK K
    try simp only [Act.put, List.setIfInBounds_toArray, List.set_cons_zero, List.set_cons_succ]
    refine wpAnyH_done (by kernel_rfl) ?_ _
    have HFb := hid Fb
    clear oa ba rda bb Fa Fb n0 n1 n2 p0 p1
    go_wp2
    go_ret
    exact ⟨ret_bool (by simp), HB2.out.trans (HFb.out.mono hw2)⟩
  · obtain ⟨n0, n1, n2, p0, p1⟩ := HHS5.out _ E2.out
    go_region_held3 (fun w' => w'.cell? ⟨w.heap.size, 0, none⟩ = some (.string (bs nm)) ∧ w'.cell? ⟨w.heap.size, 1, none⟩ = some (.int .i64 (N : Int)) ∧ w'.cell? ⟨w.heap.size, 2, none⟩ = some (.slice A n c) ∧ w'.cell? ⟨w.heap.size + 1, 0, none⟩ = some (.string (bs k1)) ∧ w'.cell? ⟨w.heap.size + 1, 1, none⟩ = some (.string (bs k2)))
      (first | exact HHS5.out _ (Below.refl _ _) | exact HHS5.out _ (Below.refl _ _).drew | exact HHS5.out _ Fa | exact HHS5.out _ Fb | exact HHS5.out _ Fc | exact HHS5.out _ Fd)
      (first | (go_at_call 54; refine (HR _).out.mono ?_; rintro e w' ⟨rfl, rfl⟩) | (go_at_call 85; refine (HL _ (R2.out.below (Below.refl W2.heap.size W2).drew)).out.mono ?_; rintro e wa ⟨va, rfl, oa, ba⟩; obtain ⟨Aa, ca, rfl, _, _, rda, _⟩ := own_shape oa; have Fa := (Below.refl W2.heap.size W2).drew.trans (ba.mono (Nat.le_refl _))) | (go_at_call 55; refine (HT _ _ _ _ rda hll.out).out.mono ?_; rintro e wb ⟨rfl, bb⟩; have Fb := Fa.trans (bb.mono Fa.size)) | (go_at_call 73; refine (HH _ (R2.out.below Fb)).out.mono ?_; rintro e wc ⟨vc, rfl, oc, bc⟩; obtain ⟨Ac, cc, rfl, hcc, _, rdc, _⟩ := own_shape oc; have j2 := Int.ofNat_le.2 (Nat.le_of_succ_le hcc); have Fc := Fb.trans (bc.mono Fb.size)) | (go_at_call 69; refine (HC2 _ _ _ (R2.out.below Fc) (rd_take' rdc (Nat.le_succ _))).out.mono ?_; rintro e wd ⟨vd, xd, rfl, od, bd⟩; have Fd := Fc.trans (bd.mono Fc.size); obtain ⟨Ad, cd, rfl, _, _, _, _⟩ := own_shape od))
    have HFd := hid Fd
    clear oa ba rda bb oc bc rdc od bd Fa Fb Fc Fd n0 n1 n2 p0 p1 j2
    go_wp2
    go_ret
    exact ⟨ret_bool (by rw [Bool.eq_iff_iff]; simp), HB2.out.trans (HFd.out.mono hw2)⟩
end Go.Proofs.Ytiajeheonoebnaa

set_option linter.unusedVariables false
set_option linter.unusedSimpArgs false
set_option maxRecDepth 100000
namespace Go.Proofs.Ytiajeheonoebnaa
open Go.RowKit

/-- What TrueByHeads answers. -/
def trueByHeadsR (m : Meth) (k : List UInt8 × List UInt8) (t : List UInt8) : Bool × Bool := if (callsB m k && goodTouch t) = true then (trueB (leadL (roundsL m.st.toNat) m.ch) && decide (clashN m.st.toNat m.ch k t = 0), true) else (false, false)
set_option maxHeartbeats 1000000 in
theorem implTrueByHeads_law (m : Meth) (k : List UInt8 × List UInt8) (t : List UInt8) (A : Option Addr) (n c : Nat) (w : World) (ok : LawOk m k) (rd : Rd w A n (strV m.ch)) (hcap : n ≤ c) (lt : t.length ≤ 1048576) :
    Calls Try.prog 23 #[.agg #[.string (bs m.nm), .int .i64 m.st, .slice A n c], .agg #[.string (bs k.1), .string (bs k.2)], .string (bs t)] w fun e w' => e = .returned (.tuple #[.bool (trueByHeadsR m k t).1, .bool (trueByHeadsR m k t).2]) ∧ Below w.heap.size w w' := by
  have hn : n ≤ 1048576 := by have h1 := rd.1; have h2 := ok.2.2.1; rw [strV_len] at h1; omega
  have hcl : m.ch.length = n := by have h1 := rd.1; rw [strV_len] at h1; exact h1
  have GC0 := fun (w0 : World) (rd : Rd w0 A n (strV m.ch)) => hid (goodFor_any m k t A n c w0 ok rd lt)
  have RS := hid rd
  have HOK := hid ok
  clear rd ok
  cases hg0 : callsB m k && goodTouch t
  · rw [hg0] at GC0
    have HR := hid (show trueByHeadsR m k t = (false, false) from by unfold trueByHeadsR; rw [if_neg (by rw [hg0]; simp)])
    obtain ⟨nm, st, ch⟩ := m
    obtain ⟨k1, k2⟩ := k
    dsimp only at *
    clear HOK hg0
    go_enter Try.func23, Try.ntmps23
    go_wp2_with fail
    obtain ⟨B2, hsz, HC⟩ := box_mk w nm k1 k2 st (.slice A n c)
    have R2 := hid (RS.out.below B2)
    have HB2 := hid B2
    have hw2 := B2.size
    generalize ((w.alloc (.cells #[.string (bs nm), .int .i64 st, .slice A n c] 28)).alloc (.cells #[.string (bs k1), .string (bs k2)] 39)) = W2 at *
    clear B2 hsz
    have HS5 : ∀ W', Below W2.heap.size W2 W' → W'.cell? ⟨w.heap.size, 0, none⟩ = some (.string (bs nm)) ∧ W'.cell? ⟨w.heap.size, 1, none⟩ = some (.int .i64 st) ∧ W'.cell? ⟨w.heap.size, 2, none⟩ = some (.slice A n c) ∧ W'.cell? ⟨w.heap.size + 1, 0, none⟩ = some (.string (bs k1)) ∧ W'.cell? ⟨w.heap.size + 1, 1, none⟩ = some (.string (bs k2)) := fun W' h => by
      obtain ⟨⟨a0, a1, a2⟩, a3, a4⟩ := HC.out _ h
      exact ⟨a0, a1, a2, a3, a4⟩
    have HHS5 := hid HS5
    clear HS5 HC
    have E0 : Hid (Below W2.heap.size W2 W2) := hid (Below.refl _ _)
    obtain ⟨n0, n1, n2, p0, p1⟩ := HHS5.out _ E0.out
    refine (GC0 _ (R2.out.below E0.out)).out.mono ?_
    rintro e wx0 ⟨rfl, bx⟩
    have E1 := hid (E0.out.trans (bx.mono E0.out.size))
    clear bx
    clear n0 n1 n2 p0 p1
    obtain ⟨n0, n1, n2, p0, p1⟩ := HHS5.out _ E1.out
    go_wp2
    go_ret2
    rw [HR.out]
    exact ⟨rfl, HB2.out.trans (E1.out.mono hw2)⟩
  · rw [hg0] at GC0
    have hcalls : callsB m k = true := by simp only [Bool.and_eq_true] at hg0; exact hg0.1
    have HR := hid (show trueByHeadsR m k t = (trueB (leadL (roundsL m.st.toNat) m.ch) && decide (clashN m.st.toNat m.ch k t = 0), true) from by unfold trueByHeadsR; rw [if_pos hg0])
    have hm : methB m = true := callsB_meth (m := m) (k := k) hcalls
    have hb1 := callsB_bob hcalls
    have hb2 := callsB_single hcalls
    obtain ⟨N, hN, lo, hi, l1, l40, hs⟩ := meth_parts hm
    clear hm hcalls
    obtain ⟨nm, st, ch⟩ := m
    obtain ⟨k1, k2⟩ := k
    dsimp only at *
    subst hN
    have BC0 := fun (w0 : World) (rd : Rd w0 A n (strV ch)) => hid (trueByHeads_any N nm t ch (k1, k2) A n c w0 lo hi rd (by omega) l1 hs hb1 hb2 (goodTouch_len (by simp only [Bool.and_eq_true] at hg0; exact hg0.2)) (goodTouch_calls (by simp only [Bool.and_eq_true] at hg0; exact hg0.2)))
    clear HOK hb1 hb2 hs hcl hg0
    go_enter Try.func23, Try.ntmps23
    go_wp2_with fail
    obtain ⟨B2, hsz, HC⟩ := box_mk w nm k1 k2 (N : Int) (.slice A n c)
    have R2 := hid (RS.out.below B2)
    have HB2 := hid B2
    have hw2 := B2.size
    generalize ((w.alloc (.cells #[.string (bs nm), .int .i64 (N : Int), .slice A n c] 28)).alloc (.cells #[.string (bs k1), .string (bs k2)] 39)) = W2 at *
    clear B2 hsz
    have HS5 : ∀ W', Below W2.heap.size W2 W' → W'.cell? ⟨w.heap.size, 0, none⟩ = some (.string (bs nm)) ∧ W'.cell? ⟨w.heap.size, 1, none⟩ = some (.int .i64 (N : Int)) ∧ W'.cell? ⟨w.heap.size, 2, none⟩ = some (.slice A n c) ∧ W'.cell? ⟨w.heap.size + 1, 0, none⟩ = some (.string (bs k1)) ∧ W'.cell? ⟨w.heap.size + 1, 1, none⟩ = some (.string (bs k2)) := fun W' h => by
      obtain ⟨⟨a0, a1, a2⟩, a3, a4⟩ := HC.out _ h
      exact ⟨a0, a1, a2, a3, a4⟩
    have HHS5 := hid HS5
    clear HS5 HC
    have E0 : Hid (Below W2.heap.size W2 W2) := hid (Below.refl _ _)
    obtain ⟨n0, n1, n2, p0, p1⟩ := HHS5.out _ E0.out
    refine (GC0 _ (R2.out.below E0.out)).out.mono ?_
    rintro e wx0 ⟨rfl, bx⟩
    have E1 := hid (E0.out.trans (bx.mono E0.out.size))
    clear bx
    clear n0 n1 n2 p0 p1
    obtain ⟨n0, n1, n2, p0, p1⟩ := HHS5.out _ E1.out
    go_wp2_with fail
    refine (BC0 _ (R2.out.below E1.out)).out.mono ?_
    rintro e wx1 ⟨rfl, bx⟩
    have E2 := hid (E1.out.trans (bx.mono E1.out.size))
    clear bx
    clear n0 n1 n2 p0 p1
    obtain ⟨n0, n1, n2, p0, p1⟩ := HHS5.out _ E2.out
    go_wp2
    go_ret2
    rw [HR.out]
    exact ⟨rfl, HB2.out.trans (E2.out.mono hw2)⟩
set_option maxHeartbeats 1000000 in
theorem specTrueByHeads_law (m : Meth) (k : List UInt8 × List UInt8) (t : List UInt8) (A : Option Addr) (n c : Nat) (w : World) (ok : LawOk m k) (rd : Rd w A n (strV m.ch)) (hcap : n ≤ c) (lt : t.length ≤ 1048576) :
    Calls Try.prog 22 #[.agg #[.string (bs m.nm), .int .i64 m.st, .slice A n c], .agg #[.string (bs k.1), .string (bs k.2)], .string (bs t)] w fun e w' => e = .returned (.tuple #[.bool (trueByHeadsR m k t).1, .bool (trueByHeadsR m k t).2]) ∧ Below w.heap.size w w' := by
  have hn : n ≤ 1048576 := by have h1 := rd.1; have h2 := ok.2.2.1; rw [strV_len] at h1; omega
  have hcl : m.ch.length = n := by have h1 := rd.1; rw [strV_len] at h1; exact h1
  have GC0 := fun (w0 : World) (rd : Rd w0 A n (strV m.ch)) => hid (l9Asked_any m k t A n c w0 ok rd lt)
  have RS := hid rd
  have HOK := hid ok
  clear rd ok
  cases hg0 : callsB m k && goodTouch t
  · rw [hg0] at GC0
    have HR := hid (show trueByHeadsR m k t = (false, false) from by unfold trueByHeadsR; rw [if_neg (by rw [hg0]; simp)])
    obtain ⟨nm, st, ch⟩ := m
    obtain ⟨k1, k2⟩ := k
    dsimp only at *
    clear HOK hg0
    go_enter Try.func22, Try.ntmps22
    go_wp2_with fail
    obtain ⟨B2, hsz, HC⟩ := box_mk w nm k1 k2 st (.slice A n c)
    have R2 := hid (RS.out.below B2)
    have HB2 := hid B2
    have hw2 := B2.size
    generalize ((w.alloc (.cells #[.string (bs nm), .int .i64 st, .slice A n c] 28)).alloc (.cells #[.string (bs k1), .string (bs k2)] 39)) = W2 at *
    clear B2 hsz
    have HS5 : ∀ W', Below W2.heap.size W2 W' → W'.cell? ⟨w.heap.size, 0, none⟩ = some (.string (bs nm)) ∧ W'.cell? ⟨w.heap.size, 1, none⟩ = some (.int .i64 st) ∧ W'.cell? ⟨w.heap.size, 2, none⟩ = some (.slice A n c) ∧ W'.cell? ⟨w.heap.size + 1, 0, none⟩ = some (.string (bs k1)) ∧ W'.cell? ⟨w.heap.size + 1, 1, none⟩ = some (.string (bs k2)) := fun W' h => by
      obtain ⟨⟨a0, a1, a2⟩, a3, a4⟩ := HC.out _ h
      exact ⟨a0, a1, a2, a3, a4⟩
    have HHS5 := hid HS5
    clear HS5 HC
    have E0 : Hid (Below W2.heap.size W2 W2) := hid (Below.refl _ _)
    obtain ⟨n0, n1, n2, p0, p1⟩ := HHS5.out _ E0.out
    refine (GC0 _ (R2.out.below E0.out)).out.mono ?_
    rintro e wx0 ⟨rfl, bx⟩
    have E1 := hid (E0.out.trans (bx.mono E0.out.size))
    clear bx
    clear n0 n1 n2 p0 p1
    obtain ⟨n0, n1, n2, p0, p1⟩ := HHS5.out _ E1.out
    go_wp2
    go_ret2
    rw [HR.out]
    exact ⟨rfl, HB2.out.trans (E1.out.mono hw2)⟩
  · rw [hg0] at GC0
    have hcalls : callsB m k = true := by simp only [Bool.and_eq_true] at hg0; exact hg0.1
    have HR := hid (show trueByHeadsR m k t = (trueB (leadL (roundsL m.st.toNat) m.ch) && decide (clashN m.st.toNat m.ch k t = 0), true) from by unfold trueByHeadsR; rw [if_pos hg0])
    have hm : methB m = true := callsB_meth (m := m) (k := k) hcalls
    have hb1 := callsB_bob hcalls
    have hb2 := callsB_single hcalls
    obtain ⟨N, hN, lo, hi, l1, l40, hs⟩ := meth_parts hm
    clear hm hcalls
    obtain ⟨nm, st, ch⟩ := m
    obtain ⟨k1, k2⟩ := k
    dsimp only at *
    subst hN
    have BC0 := fun (w0 : World) (rd : Rd w0 A n (strV ch)) => hid (l11True_any N nm t ch (k1, k2) A n c w0 lo hi rd (by omega) hcap l1 hs hb1 hb2 (goodTouch_len (by simp only [Bool.and_eq_true] at hg0; exact hg0.2)))
    clear HOK hb1 hb2 hs hcl hg0
    go_enter Try.func22, Try.ntmps22
    go_wp2_with fail
    obtain ⟨B2, hsz, HC⟩ := box_mk w nm k1 k2 (N : Int) (.slice A n c)
    have R2 := hid (RS.out.below B2)
    have HB2 := hid B2
    have hw2 := B2.size
    generalize ((w.alloc (.cells #[.string (bs nm), .int .i64 (N : Int), .slice A n c] 28)).alloc (.cells #[.string (bs k1), .string (bs k2)] 39)) = W2 at *
    clear B2 hsz
    have HS5 : ∀ W', Below W2.heap.size W2 W' → W'.cell? ⟨w.heap.size, 0, none⟩ = some (.string (bs nm)) ∧ W'.cell? ⟨w.heap.size, 1, none⟩ = some (.int .i64 (N : Int)) ∧ W'.cell? ⟨w.heap.size, 2, none⟩ = some (.slice A n c) ∧ W'.cell? ⟨w.heap.size + 1, 0, none⟩ = some (.string (bs k1)) ∧ W'.cell? ⟨w.heap.size + 1, 1, none⟩ = some (.string (bs k2)) := fun W' h => by
      obtain ⟨⟨a0, a1, a2⟩, a3, a4⟩ := HC.out _ h
      exact ⟨a0, a1, a2, a3, a4⟩
    have HHS5 := hid HS5
    clear HS5 HC
    have E0 : Hid (Below W2.heap.size W2 W2) := hid (Below.refl _ _)
    obtain ⟨n0, n1, n2, p0, p1⟩ := HHS5.out _ E0.out
    refine (GC0 _ (R2.out.below E0.out)).out.mono ?_
    rintro e wx0 ⟨rfl, bx⟩
    have E1 := hid (E0.out.trans (bx.mono E0.out.size))
    clear bx
    clear n0 n1 n2 p0 p1
    obtain ⟨n0, n1, n2, p0, p1⟩ := HHS5.out _ E1.out
    go_wp2_with fail
    refine (BC0 _ (R2.out.below E1.out)).out.mono ?_
    rintro e wx1 ⟨rfl, bx⟩
    have E2 := hid (E1.out.trans (bx.mono E1.out.size))
    clear bx
    clear n0 n1 n2 p0 p1
    obtain ⟨n0, n1, n2, p0, p1⟩ := HHS5.out _ E2.out
    go_wp2
    go_ret2
    rw [HR.out]
    exact ⟨rfl, HB2.out.trans (E2.out.mono hw2)⟩
end Go.Proofs.Ytiajeheonoebnaa

set_option linter.unusedVariables false
set_option linter.unusedSimpArgs false
set_option maxRecDepth 100000
namespace Go.Proofs.Ytiajeheonoebnaa
open Go.RowKit

set_option maxHeartbeats 4000000 in
theorem LawTrueByHeads.walk (v : Value) (m : Meth) (u : Value) (k : List UInt8 × List UInt8) (t : List UInt8) (w : World) (hv : InMethod w v m) (hu : InCalls w u k) (wt : t.length ≤ maxLen) :
    Calls Try.prog 6 #[v, u, .string (bs t)] w fun e w' => e = .returned (.bool true) ∧ Below w.heap.size w w' := by
  obtain ⟨nm, st, ch⟩ := m
  obtain ⟨k1, k2⟩ := k
  have SZ := fun left w0 (hw0 : InMethod w0 v ⟨nm, st, ch⟩) h0 h1 => hid (szMethod_any ⟨nm, st, ch⟩ v left w0 hw0 h0 h1)
  have HIM := hid (fun (w0 : World) (hb : Below w.heap.size w w0) => inMethod_below hv hb)
  obtain ⟨_, rfl, hn, wst, A, n, c, rfl, hn2, hr, hs⟩ := hv
  obtain ⟨rfl, hk1, hk2⟩ := hu
  have SK := fun left w0 h0 h1 => hid (szCalls_any (k1, k2) left w0 hk1 hk2 h0 h1)
  dsimp only at *
  have hln : ch.length = n := by have := hr.1; rw [strV_len] at this; exact this
  have HR := hid hr
  have HS := hid hs
  clear hr hs
  by_cases lt : t.length ≤ 1048576
  case neg =>
    have hi : (1048576 : Int) < (t.length : Int) := by omega
    go_enter Try.func6, Try.ntmps6
    go_wp2
    go_ret
    exact ⟨rfl, ((Below.refl _ _).alloc (Nat.le_refl _) _).alloc (by simp) _⟩
  have it : ¬ (1048576 : Int) < (t.length : Int) := by omega
  go_enter Try.func6, Try.ntmps6
  go_wp2_with fail
  obtain ⟨B2, hsz, HC⟩ := box_mk2 24 35 w nm k1 k2 st (.slice A n c)
  generalize ((w.alloc (.cells #[.string (bs nm), .int .i64 st, .slice A n c] 24)).alloc (.cells #[.string (bs k1), .string (bs k2)] 35)) = W2 at *
  have HB2 := hid B2
  have HIM2 := hid (HIM.out W2 B2)
  have R2 := hid (HR.out.below B2)
  have hw2 : w.heap.size ≤ W2.heap.size := B2.size
  clear B2 hsz
  refine (SZ _ _ HIM2.out (by decide) (by decide)).out.mono ?_
  rintro e w1 ⟨r, rfl, b1, hr1, hr2⟩
  have HB1 := hid b1
  have hs1 := b1.size
  obtain ⟨⟨m0, m1, m2⟩, q0, q1⟩ := HC.out _ b1
  clear b1
  by_cases hneg : r < 0
  · go_wp2
    go_ret
    exact ⟨rfl, HB2.out.trans (HB1.out.mono hw2)⟩
  have hsum := hr2 (by omega)
  have r1 : r ≤ 1048576 := by omega
  have r0 : 0 ≤ r := by omega
  clear hr1 hr2
  have HSUM := hid hsum
  clear hsum
  go_wp2_with fail
  refine (SK _ _ r0 r1).out.mono ?_
  rintro e ws ⟨r', rfl, bs', hr1', hr2'⟩
  have HBs := hid (HB1.out.trans (bs'.mono hs1))
  obtain ⟨⟨m0', m1', m2'⟩, q0', q1'⟩ := HC.out _ HBs.out
  clear bs'
  by_cases hneg' : r' < 0
  · go_wp2
    go_ret
    exact ⟨rfl, HB2.out.trans (HBs.out.mono hw2)⟩
  have hsum' := hr2' (by omega)
  have hsum := HSUM.out
  clear hr1' hr2'
  have OK : LawOk ⟨nm, st, ch⟩ (k1, k2) := ⟨wst, by dsimp only; omega, by dsimp only; omega, fun s h => by have := totL_mem h; dsimp only at *; omega, by dsimp only; omega, by dsimp only; omega⟩
  have HOK := hid OK
  have hn1 : n ≤ 1048576 := by omega
  clear OK hsum hsum' HSUM hln
  have TM := fun w0 (b0 : Below W2.heap.size W2 w0) => hid (toMethod_any ⟨nm, st, ch⟩ A n c w0 (R2.out.below b0) hn1)
  have TK := fun w0 => hid (toCalls_any (k1, k2) w0)
  have SP := fun A0 c0 w0 (rd : Rd w0 A0 ch.length (strV ch)) (hc0 : ch.length ≤ c0) => hid (specTrueByHeads_law ⟨nm, st, ch⟩ (k1, k2) t A0 ch.length c0 w0 HOK.out rd hc0 lt)
  have IM := fun A0 c0 w0 (rd : Rd w0 A0 ch.length (strV ch)) (hc0 : ch.length ≤ c0) => hid (implTrueByHeads_law ⟨nm, st, ch⟩ (k1, k2) t A0 ch.length c0 w0 HOK.out rd hc0 lt)
  have HS5 : ∀ W', Below W2.heap.size W2 W' → W'.cell? ⟨w.heap.size, 0, none⟩ = some (.string (bs nm)) ∧ W'.cell? ⟨w.heap.size, 1, none⟩ = some (.int .i64 st) ∧ W'.cell? ⟨w.heap.size, 2, none⟩ = some (.slice A n c) ∧ W'.cell? ⟨w.heap.size + 1, 0, none⟩ = some (.string (bs k1)) ∧ W'.cell? ⟨w.heap.size + 1, 1, none⟩ = some (.string (bs k2)) := fun W' h => by
    obtain ⟨⟨a0, a1, a2⟩, a3, a4⟩ := HC.out _ h
    exact ⟨a0, a1, a2, a3, a4⟩
  have HHS5 := hid HS5
  clear HS5
  clear m0 m1 m2 q0 q1 m0' m1' m2' q0' q1'
  obtain ⟨m0, m1, m2, q0, q1⟩ := HHS5.out _ HBs.out
  go_wp2_with fail
  go_region_held3 (fun w' => w'.cell? ⟨w.heap.size, 0, none⟩ = some (.string (bs nm)) ∧ w'.cell? ⟨w.heap.size, 1, none⟩ = some (.int .i64 st) ∧ w'.cell? ⟨w.heap.size, 2, none⟩ = some (.slice A n c) ∧ w'.cell? ⟨w.heap.size + 1, 0, none⟩ = some (.string (bs k1)) ∧ w'.cell? ⟨w.heap.size + 1, 1, none⟩ = some (.string (bs k2)))
    (first | exact HHS5.out _ HBs.out | exact HHS5.out _ HBs.out.drew | exact HHS5.out _ Ea | exact HHS5.out _ Eb | exact HHS5.out _ Ec)
    (first | (go_at_call 13; refine (TM _ HBs.out.drew).out.mono ?_; rintro e wa ⟨va, rfl, oa, ba⟩; obtain ⟨Aa, ca, rfl, hca, _, rda, _⟩ := own_shape oa; have Ea : Below W2.heap.size W2 wa := HBs.out.drew.trans (ba.mono HBs.out.size)) | (go_at_call 20; refine (TK _).out.mono ?_; rintro e wb ⟨rfl, bb⟩; have Eb := Ea.trans (bb.mono Ea.size); have rdb := rda.below bb) | (go_at_call 22; refine (SP _ _ _ rdb hca).out.mono ?_; rintro e wc ⟨rfl, bc⟩; have Ec := Eb.trans (bc.mono Eb.size)))
  have HEc := hid Ec
  obtain ⟨n0, n1, n2, p0, p1⟩ := HHS5.out _ Ec
  clear oa ba bb rda rdb bc Ea Eb Ec
  go_wp2_with fail
  refine (TM _ HEc.out).out.mono ?_
  rintro e wd ⟨vd, rfl, od, bd⟩
  obtain ⟨Ad, cd, rfl, hcd, _, rdd, _⟩ := own_shape od
  have Ed := HEc.out.trans (bd.mono HEc.out.size)
  have X5 := Blk.new wd 28 #[.string (bs nm), .int .i64 st, .slice Ad ch.length cd]
  have E5 : Below W2.heap.size W2 (wd.alloc (.cells #[.string (bs nm), .int .i64 st, .slice Ad ch.length cd] 28)) := Ed.alloc Ed.size _
  have R5 : Rd (wd.alloc (.cells #[.string (bs nm), .int .i64 st, .slice Ad ch.length cd] 28)) Ad ch.length (strV ch) := rdd.alloc _
  have hsz5 : wd.heap.size < (wd.alloc (.cells #[.string (bs nm), .int .i64 st, .slice Ad ch.length cd] 28)).heap.size := by simp
  have hcont : ∀ (P : World → Prop), P (wd.alloc (.cells #[.string (bs nm), .int .i64 st, .slice Ad ch.length cd] 28)) → P (wd.alloc (.cells #[.string (bs nm), .int .i64 st, .slice Ad ch.length cd] 28)) := fun _ h => h
  clear hcont
  have HS8 : ∀ W', Below (wd.alloc (.cells #[.string (bs nm), .int .i64 st, .slice Ad ch.length cd] 28)).heap.size (wd.alloc (.cells #[.string (bs nm), .int .i64 st, .slice Ad ch.length cd] 28)) W' → W'.cell? ⟨w.heap.size, 0, none⟩ = some (.string (bs nm)) ∧ W'.cell? ⟨w.heap.size, 1, none⟩ = some (.int .i64 st) ∧ W'.cell? ⟨w.heap.size, 2, none⟩ = some (.slice A n c) ∧ W'.cell? ⟨w.heap.size + 1, 0, none⟩ = some (.string (bs k1)) ∧ W'.cell? ⟨w.heap.size + 1, 1, none⟩ = some (.string (bs k2)) ∧ W'.cell? ⟨wd.heap.size, 0, none⟩ = some (.string (bs nm)) ∧ W'.cell? ⟨wd.heap.size, 1, none⟩ = some (.int .i64 st) ∧ W'.cell? ⟨wd.heap.size, 2, none⟩ = some (.slice Ad ch.length cd) := fun W' h => by
    obtain ⟨a0, a1, a2, a3, a4⟩ := HHS5.out _ (E5.trans (h.mono E5.size))
    have X := X5.below h hsz5
    exact ⟨a0, a1, a2, a3, a4, X.cell 0, X.cell 1, X.cell 2⟩
  have HHS8 := hid HS8
  have HE5 := hid E5
  have HR5 := hid R5
  clear n0 n1 n2 p0 p1 HS8 E5 R5 X5 od bd rdd Ed
  go_wp2_with fail
  generalize (wd.alloc (.cells #[.string (bs nm), .int .i64 st, .slice Ad ch.length cd] 28)) = W5 at *
  obtain ⟨n0, n1, n2, p0, p1, x0, x1, x2⟩ := HHS8.out W5 (Below.refl _ _)
  go_region_held3 (fun w' => w'.cell? ⟨w.heap.size, 0, none⟩ = some (.string (bs nm)) ∧ w'.cell? ⟨w.heap.size, 1, none⟩ = some (.int .i64 st) ∧ w'.cell? ⟨w.heap.size, 2, none⟩ = some (.slice A n c) ∧ w'.cell? ⟨w.heap.size + 1, 0, none⟩ = some (.string (bs k1)) ∧ w'.cell? ⟨w.heap.size + 1, 1, none⟩ = some (.string (bs k2)) ∧ w'.cell? ⟨wd.heap.size, 0, none⟩ = some (.string (bs nm)) ∧ w'.cell? ⟨wd.heap.size, 1, none⟩ = some (.int .i64 st) ∧ w'.cell? ⟨wd.heap.size, 2, none⟩ = some (.slice Ad ch.length cd))
    (first | exact HHS8.out _ (Below.refl _ _) | exact HHS8.out _ (Below.refl _ _).drew | exact HHS8.out _ Ef | exact HHS8.out _ Eg)
    (first | (go_at_call 20; refine (TK _).out.mono ?_; rintro e wf ⟨rfl, bf⟩; have Ef : Below W5.heap.size W5 wf := (Below.refl _ _).drew.trans bf) | (go_at_call 23; refine (IM _ _ _ (HR5.out.below Ef) hcd).out.mono ?_; rintro e wg ⟨rfl, bg⟩; have Eg := Ef.trans (bg.mono Ef.size)))
  have HEg := hid Eg
  clear bf bg Ef Eg
  clear n0 n1 n2 p0 p1 x0 x1 x2
  obtain ⟨n0, n1, n2, p0, p1, x0, x1, x2⟩ := HHS8.out _ HEg.out
  go_wp2_with fail
  go_region_held3 (fun w' => w'.cell? ⟨w.heap.size, 0, none⟩ = some (.string (bs nm)) ∧ w'.cell? ⟨w.heap.size, 1, none⟩ = some (.int .i64 st) ∧ w'.cell? ⟨w.heap.size, 2, none⟩ = some (.slice A n c) ∧ w'.cell? ⟨w.heap.size + 1, 0, none⟩ = some (.string (bs k1)) ∧ w'.cell? ⟨w.heap.size + 1, 1, none⟩ = some (.string (bs k2)) ∧ w'.cell? ⟨wd.heap.size, 0, none⟩ = some (.string (bs nm)) ∧ w'.cell? ⟨wd.heap.size, 1, none⟩ = some (.int .i64 st) ∧ w'.cell? ⟨wd.heap.size, 2, none⟩ = some (.slice Ad ch.length cd))
    (first | exact HHS8.out _ HEg.out | exact HHS8.out _ HEg.out.drew | exact HHS8.out _ Eh | exact HHS8.out _ Ei)
    (first | (go_at_call 13; refine (TM _ (HE5.out.trans ((HEg.out.drew).mono HE5.out.size))).out.mono ?_; rintro e wh ⟨vh, rfl, oh, bh⟩; obtain ⟨Ah, ch', rfl, _, _, rdh, _⟩ := own_shape oh; have Eh := HEg.out.drew.trans (bh.mono HEg.out.size)) | (go_at_call 15; refine (eqMethod_any ⟨nm, st, ch⟩ Ad Ah ch.length cd ch.length ch' _ (HR5.out.below Eh) rdh (by have := HOK.out.2.2.1; dsimp only at this; omega)).mono ?_; rintro e wi ⟨rfl, bi⟩; have Ei := Eh.trans (bi.mono Eh.size)))
  have HEi := hid Ei
  clear oh bh rdh bi Eh Ei n0 n1 n2 p0 p1 x0 x1 x2
  go_wp2
  go_ret
  exact ⟨rfl, HB2.out.trans ((HE5.out.trans (HEi.out.mono HE5.out.size)).mono hw2)⟩
end Go.Proofs.Ytiajeheonoebnaa


namespace Go.Proofs.Ytiajeheonoebnaa.PTrueByHeads
open Go.ChangeShapes Go.WideShapes Go.ChangeAt Go.RowKit
open Go.ChangeMaps (open_string shut_string)
set_option linter.unusedVariables false

theorem own : ownKnob Try.prog.godebug = none := by kernel_rfl
theorem laidOut : laidOutB Try.prog = true := by kernel_rfl

set_option maxRecDepth 100000 in
theorem lifted (os : Os) (started : os.Started) (H : Type) (enc : TypeId × Value → H) :
    ReturnsInHanded {} Try.checked os 6 .any (Rows.fnExactTrueByHeadsSpec.pre6 enc Try.prog Try.f6 Rows.fnExactTrueByHeadsRow.domain false) (Rows.fnExactTrueByHeadsSpec.post enc Try.prog Try.f6 false true false false) := by
  refine returnsInHanded_of_change (C := Try.checked) own started (by kernel_rfl) Try.func6
    (ChangeSpec.witness6 (enc := enc) (C := Try.checked) false ⟨#[], #[.agg #[.string ByteArray.empty, .int .i64 0, .slice none 0 0], .agg #[.string ByteArray.empty, .string ByteArray.empty], .string ByteArray.empty], []⟩ 8 (by kernel_rfl) (by kernel_rfl) (by kernel_rfl) (by kernel_rfl)) ?_
  intro W base args ds gs before hval0 hW hcnd _
  have hval : ∀ (j : Nat) t v, Try.f6.params[j]? = some t → args[j]? = some v → Value.okWide Try.prog W .any base t v := hval0
  have hW' := hW
  obtain ⟨p, q, hA0, hV, rfl, hfz, hnd⟩ := hW
  have hA : DataW.TrodAll enc Try.prog W 0 (fun _ => true) true Try.f6.params.toList args.toList ds p := hA0
  rw [Try.params6] at hA hval
  obtain ⟨v0, vs0, d0, ds0, p0, q0, hargs, rfl, rfl, h0, r0⟩ := trodAll_cons hA
  obtain ⟨v1, vs1, d1, ds1, p1, q1, rfl, rfl, rfl, h1, r1⟩ := trodAll_cons r0
  obtain ⟨v2, vs2, d2, ds2, p2, q2, rfl, rfl, rfl, h2, r2⟩ := trodAll_cons r1
  obtain ⟨rfl, rfl, rfl⟩ := trodAll_nil r2
  obtain rfl : args = #[v0, v1, v2] := by cases args; simp_all
  obtain ⟨rfl, rfl⟩ := trodVars_none hV
  have k0 := h0
  have lt0 : ∀ x ∈ p0, x.block < W.heap.size := by obtain ⟨m, hm⟩ := k0; exact DataW.trod_lt m _ _ _ hm
  obtain ⟨a0, w0⟩ := open_inMethod (hval 0 24 v0 rfl rfl) h0
  have k1 := h1
  have lt1 : ∀ x ∈ p1, x.block < W.heap.size := by obtain ⟨m, hm⟩ := k1; exact DataW.trod_lt m _ _ _ hm
  obtain ⟨a1, w1⟩ := open_inCalls (hval 1 35 v1 rfl rfl) h1
  obtain ⟨a2, rfl, rfl, rfl, w2⟩ := open_string Try.underlying9 (hval 2 9 v2 rfl rfl) h2
  obtain ⟨l2, rfl⟩ := bs_surj a2
  have wl2 : l2.length ≤ maxLen := by rw [← bs_size]; exact w2
  clear hA0 hval0
  refine (LawTrueByHeads.walk v0 a0 v1 a1 l2 W w0 w1 wl2).mono fun e W' ⟨he, bel⟩ => ?_
  subst he
  exact ⟨_, rfl, _, _, _, [], _, [], hW', trodAll_mk1 (shut_bool Try.underlying4 _), (trodAll_cons_mk (Below.trod laidOut (by kernel_rfl) (of_decide_eq_true (by kernel_rfl)) k0 bel lt0) (trodAll_cons_mk (Below.trod laidOut (by kernel_rfl) (of_decide_eq_true (by kernel_rfl)) k1 bel lt1) (trodAll_cons_mk (shut_string Try.underlying9 w2) trodAll_mk0))), rfl, bel.frame _, fun h => by cases h⟩

theorem over : Rows.fnExactTrueByHeadsRow.holds Try.pinned (OpenSpec.ofChange Rows.fnExactTrueByHeadsSpec) :=
  OpenClaim.holds_of_wide 6 Try.f6 rfl rfl rfl rfl rfl rfl rfl ⟨rfl, rfl, rfl, rfl, rfl⟩ rfl rfl rfl rfl rfl (by kernel_rfl) Try.func6 (by kernel_rfl)
    (of_decide_eq_true (by kernel_rfl)) (by unfold Func.isWrapper; first | (rw [if_pos (by decide +kernel)]; kernel_rfl) | (rw [if_neg (by decide +kernel)]; exact ⟨rfl, rfl⟩))
    (fun os started H enc _ => lifted os started H enc)

theorem proved : Rows.FnExactTrueByHeadsSaid := over
#print axioms proved
end Go.Proofs.Ytiajeheonoebnaa.PTrueByHeads
