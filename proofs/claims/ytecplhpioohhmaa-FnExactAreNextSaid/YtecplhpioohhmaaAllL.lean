/- Contract of the reference's list of all changes of a stage. No conditions beyond those stated. -/
import Derived.Test.YtecplhpioohhmaaAllF
set_option linter.unusedVariables false
set_option linter.unusedSimpArgs false
set_option maxRecDepth 100000
namespace Go.Proofs.Ytecplhpioohhmaa
open Go.RowKit

theorem wf_stage {n : Nat} (lo : 3 ≤ n) (hi : n ≤ 8) : (Lit.int .i64 (n : Int)).wf = true := by
  rcases stage_cases lo hi with rfl | rfl | rfl | rfl | rfl | rfl <;> decide
/-- The changes among the first k ways. -/
def allTo (n k : Nat) : List (List UInt8) := ((fromM n n).take k).foldl (allStep n) []
theorem allTo_all (n k : Nat) (h : (fromM n n).length ≤ k) : allTo n k = allCh n := by rw [allTo, List.take_of_length_le h]; rfl
theorem allTo_step (n k : Nat) (h : k < (fromM n n).length) : allTo n (k + 1) = allStep n (allTo n k) (fromM n n)[k] := by
  unfold allTo
  rw [List.take_succ_eq_append_getElem h, List.foldl_append]; rfl
theorem allTo_len (n k : Nat) (h : n ≤ 8) : (allTo n k).length ≤ 256 := by
  have h1 := allFold_len n ((fromM n n).take k) []
  have h2 := fromM_len n n
  have h3 : (2 : Nat) ^ n ≤ 2 ^ 8 := Nat.pow_le_pow_right (by omega) h
  rw [List.length_nil, List.length_take] at h1
  unfold allTo; omega
theorem shift_set (O : List (List UInt8)) (x : List UInt8) (j : Nat) (h : j < O.length) : (O.take (j + 1) ++ x :: O.drop (j + 1)).set (j + 1) O[j] = O.take j ++ O[j] :: O.drop j := by
  rw [List.set_append, if_neg (by rw [List.length_take]; omega), List.length_take, Nat.min_eq_left (by omega), Nat.sub_self, List.set_cons_zero, List.take_succ_eq_append_getElem h, List.append_assoc]
  rw [List.drop_eq_getElem_cons h]; rfl
theorem last_set (O : List (List UInt8)) (x s : List UInt8) (q : Nat) (h : q ≤ O.length) : (O.take q ++ x :: O.drop q).set q s = O.take q ++ s :: O.drop q := by
  rw [List.set_append, if_neg (by rw [List.length_take]; omega), List.length_take, Nat.min_eq_left h, Nat.sub_self, List.set_cons_zero]
theorem shift_at (O : List (List UInt8)) (x : List UInt8) (j : Nat) (h : j < O.length) : (O.take (j + 1) ++ x :: O.drop (j + 1))[j]? = some O[j] := by
  rw [List.getElem?_append_left (by rw [List.length_take]; omega), List.getElem?_take, if_pos (by omega), List.getElem?_eq_getElem h]
set_option maxHeartbeats 2000000 in
theorem l2All_any (n : Nat) (w : World) (lo : 3 ≤ n) (hi : n ≤ 8) :
    Calls Try.prog 107 #[.int .i64 n] w (OneS w (allCh n)) := by
  have HF := fun w0 => hid (l2From_any n hi n (Nat.le_refl n) 1 w0 (by omega))
  have HLE := fromI_le n n hi
  have hFL := fromI_len n n
  obtain ⟨M, hM⟩ : ∃ M, M = (fromI n n).length := ⟨_, rfl⟩
  have HM := hid hM
  have HMF := hid (show M = (fromM n n).length by rw [hM, hFL])
  rw [← hM] at HLE
  have HMem := hid (fromM_mem n n (Nat.le_refl n))
  clear hM hFL
  go_enter Try.func107, Try.ntmps107
  go_wp2_with fail
  refine (HF _).out.mono ?_
  rintro e w1 ⟨v1, rfl, ⟨vs, o1, hv1⟩, b1⟩
  rw [← HM.out] at o1
  obtain ⟨A1, c1, rfl, _, _, rd1, _⟩ := own_shape o1
  have RD1 := hid rd1
  have HV1 := hid hv1
  have HB1 := hid b1
  have hw1 := b1.size
  clear o1 rd1 hv1 b1
  go_wp2
  go_loopg [3, 11] M (fun gk u v wr => ∃ k : Nat, k ≤ M ∧ gk = M - k ∧ v = .int .i64 k ∧ wr.ownsRow w1.heap.size 9 1 u (allTo n k).length (strV (allTo n k)) ∧ Below w1.heap.size w1 wr)
  case atStart => exact ⟨0, by omega, by omega, rfl, World.ownsRow_nil _ _ _ _, Below.refl _ _⟩
  case round =>
    obtain ⟨k, hk, rfl, rfl, ho, hb⟩ := hrel
    by_cases hlt : k < M
    · have hkf : k < (fromM n n).length := by have := HMF.out; omega
      obtain ⟨b, o, rfl, hc⟩ := (RD1.out.below hb).at_ hlt
      obtain ⟨B, c, hvk, _, hrB, _⟩ := (HV1.out k (by rw [RD1.out.1]; exact hlt) (by rw [← HM.out]; exact hlt)).below hb
      have e0 : (fromI n n)[k]'(by rw [← HM.out]; exact hlt) = natI (fromM n n)[k] := by simp [fromI]
      rw [hvk] at hc
      rw [e0] at hc hrB
      have hmem := HMem.out _ (List.getElem_mem hkf)
      have HST := hid (allTo_step n k hkf)
      obtain ⟨l, hl⟩ : ∃ l, l = (fromM n n)[k] := ⟨_, rfl⟩
      rw [← hl] at hc hrB hmem HST
      have hnl : (natI l).length = l.length := by simp [natI]
      rw [hnl] at hc hrB
      have hll := hmem.1
      have HOf := hid (fun w0 (rd : Rd w0 B l.length (intV (natI l))) => l2Of_any B l.length c l w0 rd (by omega) (fun p hp => by have := hmem.2 p hp; omega))
      have hsl : (dashL (plB l)).length ≤ 1000 := by
        unfold dashL
        split
        · simp
        · unfold plB; rw [List.length_map]; omega
      have HST2 := hid (show allTo n (k + 1) = (if okChange (n : Int) (dashL (plB l)) = true then insL (allTo n k) (dashL (plB l)) else allTo n k) from HST.out)
      have HOL := allTo_len n k hi
      obtain ⟨s, hs⟩ : ∃ s, s = dashL (plB l) := ⟨_, rfl⟩
      obtain ⟨O, hO⟩ : ∃ O, O = allTo n k := ⟨_, rfl⟩
      rw [← hs] at HST2 HOf hsl
      rw [← hO] at HST2 HOL ho
      have HCh := hid (fun w0 => l2Change_any (n : Int) s w0 (wf_stage lo hi) (by omega))
      have HO := hid ho
      have HB := hid hb
      have hbs := hb.size
      have RB := hid hrB
      have hk0 : (0 : Int) ≤ (k : Int) := by omega
      have hk1 : (k : Int) < (M : Int) := by omega
      clear ho hb hrB hvk e0 hl hnl hmem hs hO HST
      go_wp2_with fail
      refine (HOf.out _ RB.out).mono ?_
      rintro e w2 ⟨rfl, b2⟩
      have HB2 := hid (HB.out.trans (b2.mono hbs))
      have hb2 := HB2.out.size
      have HO2 := hid (own_below HO.out b2)
      clear b2
      go_wp2_with fail
      refine (HCh.out _).mono ?_
      rintro e w' ⟨rfl, rfl⟩
      cases hok : okChange (n : Int) s
      · have HR := hid (show allTo n (k + 1) = O by rw [HST2.out, hok]; rfl)
        clear hok
        go_wp2
        go_roundg (M - (k + 1))
        case measure => omega
        case rel => exact ⟨k + 1, by omega, rfl, by go_num, by rw [HR.out]; exact HO2.out, HB2.out⟩
      · have HR := hid (show allTo n (k + 1) = insL O s by rw [HST2.out, hok]; rfl)
        obtain ⟨AO, cO, rfl, _⟩ := own_shape HO2.out
        have l2 : O.length + 1 ≤ 1000000000000 := by omega
        clear hok
        go_wp2_with (at_builtin; refine app_str _ (by rfl) _ _ (by rfl) w1.heap.size _ O.length O (by rfl) (HO2.out.alloc _) (some ⟨w2.heap.size, 0, none⟩) 1 1 [s] (by rfl) (Rd.one _ _ _) l2 (by simp; omega) ?_; intro v5 w5 o5 g5)
        have B5 := hid (((Below.refl w2.heap.size w2).alloc (Nat.le_refl _) (.cells #[.string (bs s)] 9)))
        have HB5 := hid ((HB2.out.alloc hb2 (.cells #[.string (bs s)] 9)).grown g5 (Nat.le_trans hb2 B5.out.size) (fun q hq => (HO2.out.lt q hq).1))
        obtain ⟨g, cap, hv5⟩ : ∃ g cap, v5 = .slice (some ⟨g, 0, none⟩) (O.length + 1) cap := by
          rcases o5.2 with ⟨h0, h1⟩ | ⟨g, cap, cur, rfl, _⟩
          · have := o5.1; rw [h1] at this; simp [strV] at this
          · exact ⟨g, cap, rfl⟩
        subst hv5
        have O5 := hid (show w5.ownsRow w1.heap.size 9 1 (.slice (some ⟨g, 0, none⟩) (O.length + 1) cap) (O.length + 1) (strV (O.take O.length ++ s :: O.drop O.length)) by
          rw [List.take_of_length_le (Nat.le_refl _), List.drop_of_length_le (Nat.le_refl _)]; exact o5)
        have hb5 := HB5.out.size
        clear o5 g5
        go_wp2
        go_loopg [7] O.length (fun gk v wr => ∃ (q : Nat) (x : List UInt8), q ≤ O.length ∧ gk = q ∧ v = .int .i64 q ∧ Hid (insK O s q = insK O s O.length) ∧ wr.ownsRow w1.heap.size 9 1 (.slice (some ⟨g, 0, none⟩) (O.length + 1) cap) (O.length + 1) (strV (O.take q ++ x :: O.drop q)) ∧ Below w1.heap.size w1 wr)
        case atStart => exact ⟨O.length, s, by omega, by omega, rfl, rfl, O5.out, HB5.out⟩
        case round =>
          obtain ⟨q, x, hq, rfl, rfl, hK, ho, hb⟩ := hrel
          have hlen : (O.take gk ++ x :: O.drop gk).length = O.length + 1 := by simp; omega
          have HLEN := hid hlen
          have hfin : ∀ q', q' = gk → insK O s O.length = q' → True := fun _ _ _ => trivial
          have hfz := fun j => ho.frozenAt j
          have HO := hid ho
          have HB := hid hb
          have hbs := hb.size
          rcases Nat.eq_zero_or_pos gk with h0 | h0
          · subst h0
            have hK0 := hid (show insK O s O.length = 0 from hK.out.symm)
            have hcz := ho.cellAt 0 (by omega)
            have hfz0 := hfz 0
            clear ho hb hfin hfz hlen
            go_wp2
            go_roundg (M - (k + 1))
            case measure => omega
            case rel =>
              have h1 := HO.out.stored 0 (.string (bs s))
              have h2 : (strV (O.take 0 ++ x :: O.drop 0)).set 0 (.string (bs s)) = strV (insL O s) := by
                rw [insL, hK0.out]; rfl
              rw [h2] at h1
              exact ⟨k + 1, by omega, rfl, by go_num, by rw [HR.out, insL_len]; exact h1.1, HB.out.trans ((below_of_grown HO.out h1.2 hbs).mono (Nat.le_refl _))⟩
          · obtain ⟨j, rfl⟩ : ∃ j, gk = j + 1 := ⟨gk - 1, by omega⟩
            have hj : j < O.length := by omega
            have e1 := shift_at O x j hj
            have e2 : (strV (O.take (j + 1) ++ x :: O.drop (j + 1)))[j]? = some (.string (bs O[j])) := by
              unfold strV; rw [List.getElem?_map, e1]; rfl
            have e3 : ∃ u, (strV (O.take (j + 1) ++ x :: O.drop (j + 1)))[j + 1]? = some u := ⟨_, List.getElem?_eq_getElem (by rw [strV_len, hlen]; omega)⟩
            obtain ⟨u3, e3⟩ := e3
            have hcj := (ho.cellAt j (by omega)).trans e2
            have hcz := (ho.cellAt (j + 1) (by omega)).trans e3
            have hfz1 := hfz (j + 1)
            have hj8 : (j : Int) ≤ 256 := by omega
            have hj0 : (0 : Int) ≤ (j : Int) := by omega
            have hjO : (j : Int) < (O.length : Int) := by omega
            clear ho hb hfin hfz hlen e1 e2 e3
            have HG := hid (show Op.bytesLess s O[j] = (!Op.bytesLess O[j] s && !(O[j] == s)) by
              have := bl_leq O[j] s
              rw [← Bool.not_or, this, Bool.not_not])
            cases hgt : (!Op.bytesLess O[j] s && !(O[j] == s))
            · have hK0 := hid (show insK O s O.length = j + 1 by
                rw [← hK.out, insK, if_neg (by rw [show O.getD j [] = O[j] by simp [List.getD, hj], HG.out, hgt]; simp)])
              go_wp2
              go_roundg (M - (k + 1))
              case measure => omega
              case rel =>
                have h1 := HO.out.stored (j + 1) (.string (bs s))
                have h2 : (strV (O.take (j + 1) ++ x :: O.drop (j + 1))).set (j + 1) (.string (bs s)) = strV (insL O s) := by
                  unfold strV
                  rw [← List.map_set, last_set O x s (j + 1) (by omega), insL, hK0.out]
                rw [h2] at h1
                exact ⟨k + 1, by omega, rfl, by go_num, by rw [HR.out, insL_len]; exact h1.1, HB.out.trans ((below_of_grown HO.out h1.2 hbs).mono (Nat.le_refl _))⟩
            · have hK1 := hid (show insK O s j = insK O s O.length by
                rw [← hK.out, insK, if_pos (by rw [show O.getD j [] = O[j] by simp [List.getD, hj], HG.out, hgt])])
              go_wp2
              go_roundg j
              case measure => omega
              case rel =>
                have h1 := HO.out.stored (j + 1) (.string (bs O[j]))
                have h2 : (strV (O.take (j + 1) ++ x :: O.drop (j + 1))).set (j + 1) (.string (bs O[j])) = strV (O.take j ++ O[j] :: O.drop j) := by
                  unfold strV
                  rw [← List.map_set, shift_set O x j hj]
                rw [h2] at h1
                exact ⟨j, O[j], by omega, rfl, by go_num, hK1, h1.1, HB.out.trans ((below_of_grown HO.out h1.2 hbs).mono (Nat.le_refl _))⟩
    · obtain rfl : k = M := by omega
      rw [allTo_all n k (by rw [← HMF.out]; exact Nat.le_refl _)] at ho
      have HO := hid ho
      clear ho
      go_wp2
      go_ret
      exact ⟨_, rfl, own_mono HO.out hw1, HB1.out.trans (hb.mono hw1)⟩
end Go.Proofs.Ytecplhpioohhmaa
