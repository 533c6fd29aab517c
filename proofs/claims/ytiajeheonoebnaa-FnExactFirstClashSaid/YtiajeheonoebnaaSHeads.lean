/- Contract of the reference's false lead heads. No conditions beyond those stated. -/
import Derived.Test.YtiajeheonoebnaaExpF
import Derived.Test.YtiajeheonoebnaaDedP
set_option linter.unusedVariables false
set_option linter.unusedSimpArgs false
set_option maxRecDepth 100000
namespace Go.Proofs.Ytiajeheonoebnaa
open Go.RowKit

theorem quotL_len (rs ss : List (List UInt8)) : (quotL rs ss).length = rs.length * ss.length := by
  induction rs with
  | nil => simp [quotL]
  | cons r rs ih =>
    simp only [quotL, List.flatMap_cons, List.length_append, List.length_map, List.length_cons] at ih ⊢
    rw [ih, Nat.succ_mul, Nat.add_comm]
set_option maxHeartbeats 2000000 in
theorem l11Heads_any (N : Nat) (nm : List UInt8) (ca : List (List UInt8)) (A : Option Addr) (n c : Nat) (w : World) (lo : 3 ≤ N) (hi : N ≤ 8) (hra : Rd w A n (strV ca)) (hn : n ≤ 1000) (hsa : ∀ x ∈ ca, okChange (N : Int) x = true) :
    Calls Try.prog 78 #[.agg #[.string (bs nm), .int .i64 N, .slice A n c]] w (OneS w (setL (quotL (leadL (roundsL N) ca) (leadL (roundsL N) ca)))) := by
  have HR := fun w0 => hid (l1Rounds_any N w0 hi)
  have HU := fun (w0 : World) (rd : Rd w0 A n (strV ca)) => hid (l11Lead_any N nm (roundsL N) (N : Int) ca A n c w0 (rounds_row lo hi) (rounds_len N) rd (by omega) hsa)
  have la : (leadL (roundsL N) ca).length = n := by have := hra.1; rw [strV_len] at this; rw [lead_len, this]
  have rows := hid (lead_rows ca (rounds_row lo hi))
  have RA := hid hra
  clear hra hsa
  unfold OneS at HU
  rw [la] at HU
  rw [rounds_len] at rows
  generalize leadL (roundsL N) ca = X at *
  have LA := hid la
  clear la
  have hkm : ∀ k, k ≤ n → k * n ≤ 1000000 := fun k hk => Nat.le_trans (Nat.mul_le_mul (Nat.le_trans hk hn) hn) (by omega)
  have HKM := hid hkm
  clear hkm
  go_enter Try.func78, Try.ntmps78
  go_wp2_with fail
  obtain ⟨B2, hsz, HC⟩ := box_mk1 28 w nm (N : Int) (.slice A n c)
  have R2 := hid (RA.out.below B2)
  have HB2 := hid B2
  have hw2 := B2.size
  generalize (w.alloc (.cells #[.string (bs nm), .int .i64 (N : Int), .slice A n c] 28)) = W2 at *
  clear B2 hsz
  have HS3 : ∀ W', Below W2.heap.size W2 W' → W'.cell? ⟨w.heap.size, 0, none⟩ = some (.string (bs nm)) ∧ W'.cell? ⟨w.heap.size, 1, none⟩ = some (.int .i64 (N : Int)) ∧ W'.cell? ⟨w.heap.size, 2, none⟩ = some (.slice A n c) := fun W' h => by
    obtain ⟨a0, a1, a2⟩ := HC.out _ h
    exact ⟨a0, a1, a2⟩
  have HHS := hid HS3
  clear HS3 HC
  obtain ⟨n0, n1, n2⟩ := HHS.out _ (Below.refl W2.heap.size W2)
  go_region_held3 (fun w' => w'.cell? ⟨w.heap.size, 0, none⟩ = some (.string (bs nm)) ∧ w'.cell? ⟨w.heap.size, 1, none⟩ = some (.int .i64 (N : Int)) ∧ w'.cell? ⟨w.heap.size, 2, none⟩ = some (.slice A n c))
    (first | exact HHS.out _ (Below.refl _ _) | exact HHS.out _ (Below.refl _ _).drew | exact HHS.out _ Fa)
    (first | (go_at_call 54; refine (HR _).out.mono ?_; rintro e w' ⟨rfl, rfl⟩) | (go_at_call 85; refine (HU _ (R2.out.below (Below.refl W2.heap.size W2).drew)).out.mono ?_; rintro e wa ⟨va, rfl, oa, ba⟩; obtain ⟨Aa, ca', rfl, _, _, rda, _⟩ := own_shape oa; have Fa := (Below.refl W2.heap.size W2).drew.trans (ba.mono (Nat.le_refl _))))
  have HFa := hid Fa
  have RDa := hid rda
  have hwa := Fa.size
  clear oa ba rda Fa n0 n1 n2
  go_wp2_with fail
  skip
  go_loopg [4, 19] n (fun gk u v wr => ∃ k : Nat, k ≤ n ∧ gk = n - k ∧ v = .int .i64 k ∧ wr.ownsRow wa.heap.size 9 1 u (k * n) (strV (quotL (X.take k) X)) ∧ Below wa.heap.size wa wr)
  case atStart => exact ⟨0, by omega, by omega, rfl, by rw [quotL_zero, Nat.zero_mul]; exact World.ownsRow_nil _ _ _ _, Below.refl _ _⟩
  case round =>
    obtain ⟨k, hk, rfl, rfl, ho, hb⟩ := hrel
    by_cases hlt : k < n
    · obtain ⟨b', o', hAa, hj', hc⟩ := (RDa.out.below hb).str hlt
      subst hAa
      have hk0 : (0 : Int) ≤ (k : Int) := by omega
      have hk1 : (k : Int) < (n : Int) := by omega
      have rowk := hid (rows.out _ (List.getElem_mem hj'))
      have HSTEP := hid (quotL_step X X k hj')
      have HO := hid ho
      have HB := hid hb
      have hbs := hb.size
      have hkm := HKM.out k hk
      obtain ⟨r, hr⟩ : ∃ r, r = X[k] := ⟨_, rfl⟩
      rw [← hr] at hc rowk HSTEP
      clear ho hb hr
      obtain ⟨w1, hw1⟩ : ∃ w1, w1 = wr := ⟨_, rfl⟩
      subst hw1
      go_wp2_with fail
      skip
      go_loopg [4, 25] n (fun gk u v wr => ∃ j : Nat, j ≤ n ∧ gk = n - j ∧ v = .int .i64 j ∧ wr.ownsRow wa.heap.size 9 1 u (k * n + j) (strV (quotL (X.take k) X ++ (X.take j).map fun s => timesL r (turnL s))) ∧ Below wa.heap.size wa wr)
      case atStart => exact ⟨0, by omega, by omega, rfl, by simpa using HO.out, HB.out⟩
      case round =>
        obtain ⟨j, hj, rfl, rfl, ho, hb⟩ := hrel
        by_cases hlj : j < n
        · obtain ⟨b2, o2, e2, hj2, hc2⟩ := (RDa.out.below hb).str hlj
          injection e2 with e2
          injection e2 with f1 f2 _
          subst f1 f2
          have hj0 : (0 : Int) ≤ (j : Int) := by omega
          have hj1 : (j : Int) < (n : Int) := by omega
          have rowj := rows.out _ (List.getElem_mem hj2)
          have HMT := hid (map_take_step (fun s => timesL r (turnL s)) X j hj2)
          have HT := hid (fun w0 => l1Turn_any X[j] w0 rowj.1)
          have HTM := hid (fun w0 => l1Times_any r (turnL X[j]) w0 rowk.out.1 (turn_row rowj.1) (by rw [turn_len, rowj.2, rowk.out.2]))
          obtain ⟨Z, hZ⟩ : ∃ Z, Z = timesL r (turnL X[j]) := ⟨_, rfl⟩
          rw [← hZ] at HTM HMT
          have HO2 := hid ho
          have HB2' := hid hb
          have hbs2 := hb.size
          have hlim : k * n + j + 1 ≤ 1000000000000 := by omega
          clear ho hb hZ rowj
          go_wp2_with fail
          refine (HT.out _).mono ?_
          rintro e w2 ⟨rfl, c2⟩
          have HO3 := hid (own_below HO2.out c2)
          have HB3 := hid (HB2'.out.trans (c2.mono hbs2))
          have hbs3 := HB3.out.size
          clear c2
          go_wp2_with fail
          refine (HTM.out _).mono ?_
          rintro e w' ⟨rfl, rfl⟩
          go_wp2_with (at_builtin; refine app_str _ (by rfl) _ _ (by rfl) wa.heap.size _ _ _ (by rfl) (HO3.out.alloc _) (some ⟨w2.heap.size, 0, none⟩) 1 1 [Z] (by rfl) (Rd.blk _ [.string (bs Z)] _) hlim (by simp; omega) ?_; intro v5 w5 o5 g5)
          go_roundg (n - (j + 1))
          case measure => omega
          case rel =>
            rw [List.append_assoc, HMT.out] at o5
            exact ⟨j + 1, by omega, rfl, by go_num, o5, (HB3.out.alloc (by omega) _).grown g5 (by simp; omega) fun q hq => (HO3.out.lt q hq).1⟩
        · obtain rfl : j = n := by omega
          have e1 : (X.take j).map (fun s => timesL r (turnL s)) = X.map fun s => timesL r (turnL s) := by rw [List.take_of_length_le (by rw [LA.out]; omega)]
          rw [e1, HSTEP.out] at ho
          have HO2 := hid ho
          have HB2' := hid hb
          clear ho hb e1
          go_wp2
          go_roundg (j - (k + 1))
          case measure => omega
          case rel => exact ⟨k + 1, by omega, rfl, by go_num, by rw [Nat.succ_mul]; exact HO2.out, HB2'.out⟩
    · obtain rfl : k = n := by omega
      rw [List.take_of_length_le (by rw [LA.out]; omega)] at ho
      obtain ⟨A1, c1, rfl, _, _, rd1, _⟩ := own_shape ho
      have hkk := HKM.out k (Nat.le_refl _)
      have hql : (quotL X X).length = k * k := by rw [quotL_len, LA.out]
      have HB := hid (HFa.out.trans (hb.mono hwa))
      have HBs := HB.out.size
      clear hb ho
      go_wp2_with fail
      refine (l6Sort_any (k * k) A1 c1 (quotL X X) _ rd1 (by omega)).mono ?_
      rintro e w6 ⟨v1, rfl, o1, b1⟩
      obtain ⟨S, hS⟩ : ∃ S, S = sortL (quotL X X) := ⟨_, rfl⟩
      have HSET := hid (show setL (quotL X X) = ddTo S S.length by rw [hS]; rfl)
      rw [← hS] at o1
      have hSl : S.length = k * k := by rw [hS, sortL_len, hql]
      rw [hSl] at o1
      obtain ⟨q, hq⟩ : ∃ q, q = k * k := ⟨_, rfl⟩
      rw [← hq] at o1 hSl hkk
      obtain ⟨A2, c2, rfl, _, _, rd2, _⟩ := own_shape o1
      have HSl := hid hSl
      have RS2 := hid rd2
      have B1 := hid (HB.out.trans (b1.mono HBs))
      have B1s := B1.out.size
      clear hS rd1 o1 rd2 b1 hql hq HKM
      go_wp2
      skip
      go_loopg [9, 41] q (fun gk u v wr => ∃ j : Nat, j ≤ q ∧ gk = q - j ∧ v = .int .i64 j ∧ wr.ownsRow w6.heap.size 9 1 u (ddTo S j).length (strV (ddTo S j)) ∧ Below w6.heap.size w6 wr)
      case atStart => exact ⟨0, by omega, by omega, rfl, World.ownsRow_nil _ _ _ _, Below.refl _ _⟩
      case round =>
        obtain ⟨j, hj, rfl, rfl, oj, bj⟩ := hrel
        by_cases hjk : j < q
        · obtain ⟨b, o, rfl, hj', hc⟩ := (RS2.out.below bj).str hjk
          have hk0 : (0 : Int) ≤ (j : Int) := by omega
          have hk1 : (j : Int) < (q : Int) := by omega
          have BJ := hid bj
          have BJs := bj.size
          have OJ := hid oj
          have hdl := ddTo_len S j
          clear bj
          rcases j with _ | j
          · have hd := hid (ddTo_first S (by omega))
            have hc0 : wr.cell? ⟨b, o, none⟩ = some (.string (bs S[0])) := hc
            clear hc
            obtain ⟨A3, c3, rfl, _, _, rd3, _⟩ := own_shape oj
            have h00 : (ddTo S 0).length = 0 := by omega
            rw [h00] at OJ ⊢
            clear oj rd3 hdl
            have h00 := hid h00
            go_wp2_with (at_builtin; refine app_str _ (by rfl) _ _ (by rfl) w6.heap.size _ _ _ (by rfl) (OJ.out.alloc _) (some ⟨wr.heap.size, 0, none⟩) 1 1 [S[0]] (by rfl) (Rd.blk _ [.string (bs S[0])] _) (by omega) (by simp; omega) ?_; intro v5 w5 o5 g5)
            go_roundg (q - (0 + 1))
            case measure => omega
            case rel =>
              rw [← hd.out] at o5
              have e1 : (ddTo S (0 + 1)).length = 0 + 1 := by
                have := congrArg List.length hd.out
                rw [List.length_append, h00.out] at this
                exact this
              exact ⟨0 + 1, by omega, rfl, by go_num, by rw [e1]; exact o5, (BJ.out.alloc (by omega) _).grown g5 (by simp; omega) fun q' hq => (OJ.out.lt q' hq).1⟩
          · obtain ⟨m, hm⟩ : ∃ m, (ddTo S (j + 1)).length = m + 1 := ⟨(ddTo S (j + 1)).length - 1, by have := ddTo_pos S j (by omega); omega⟩
            have hlast : (ddTo S (j + 1))[m]? = some S[j] := by
              have := ddTo_last S j (by omega)
              rw [List.getLast?_eq_getElem?, hm, Nat.add_sub_cancel, List.getElem?_eq_getElem (show j < S.length by omega)] at this
              exact this
            rw [hm] at oj hdl
            have hm8 : m ≤ 1000000 := by omega
            have hm9 := hid hm8
            have hm10 := hid (show m + 1 + 1 ≤ 1000000000000 by omega)
            clear hm8
            obtain ⟨A3, c3, rfl, _, _, rd3, _⟩ := own_shape oj
            obtain ⟨b3, o3, rfl, hm', hc3⟩ := rd3.str (Nat.lt_succ_self m)
            rw [List.getElem?_eq_getElem hm'] at hlast
            injection hlast with hlast
            rw [hlast] at hc3
            have hmi : (((m : Int) + 1) == 0) = false := by simp; omega
            have hm0 : (0 : Int) ≤ (m : Int) := by omega
            have hm1 : (m : Int) < (m : Int) + 1 := by omega
            have hw := IntWalk.i64_in ((m : Int) + 1 - 1) (by omega)
            have hw1 : wrap64 (m : Int) = (m : Int) := by unfold wrap64; omega
            have HM := hid hm
            have Hlen := hid hdl
            rw [hm] at OJ
            clear oj rd3 hlast hm hdl
            by_cases he : S[j + 1] = S[j]
            · have hd := hid (ddTo_skip S j (by omega) he)
              have heq : (S[j] == S[j + 1]) = true := by simp [he]
              clear he
              go_wp2
              go_roundg (q - (j + 1 + 1))
              case measure => omega
              case rel =>
                exact ⟨j + 1 + 1, by omega, rfl, by go_num, by rw [hd.out, HM.out]; exact OJ.out, BJ.out⟩
            · have hd := hid (ddTo_take S j (by omega) he)
              have heq : (S[j] == S[j + 1]) = false := by simp; exact fun h => he h.symm
              clear he
              go_wp2_with (at_builtin; refine app_str _ (by rfl) _ _ (by rfl) w6.heap.size _ _ _ (by rfl) (OJ.out.alloc _) (some ⟨wr.heap.size, 0, none⟩) 1 1 [S[j + 1]] (by rfl) (Rd.blk _ [.string (bs S[j + 1])] _) (by exact hm10.out) (by simp; exact Nat.le_succ_of_le BJs) ?_; intro v5 w5 o5 g5)
              go_roundg (q - (j + 1 + 1))
              case measure => omega
              case rel =>
                rw [← hd.out] at o5
                have e1 : (ddTo S (j + 1 + 1)).length = m + 1 + 1 := by
                  have := congrArg List.length hd.out
                  rw [List.length_append, HM.out] at this
                  exact this
                exact ⟨j + 1 + 1, by omega, rfl, by go_num, by rw [e1]; exact o5, (BJ.out.alloc (by omega) _).grown g5 (by simp; omega) fun q' hq => (OJ.out.lt q' hq).1⟩
        · obtain rfl : j = q := by omega
          go_wp2
          go_ret
          have HEQ : setL (quotL X X) = ddTo S j := by rw [HSET.out, HSl.out]
          rw [HEQ]
          exact ⟨u9, rfl, own_mono (base := w6.heap.size) oj (Nat.le_trans hw2 B1s), HB2.out.trans ((B1.out.trans (bj.mono B1s)).mono hw2)⟩
end Go.Proofs.Ytiajeheonoebnaa
