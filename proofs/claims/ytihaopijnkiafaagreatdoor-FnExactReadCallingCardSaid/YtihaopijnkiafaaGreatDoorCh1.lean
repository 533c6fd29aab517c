/- Contract of the reference's test of a change. No conditions beyond those stated. -/
import Derived.Test.YtihaopijnkiafaaGreatDoorIn
import Derived.Test.YtihaopijnkiafaaGreatDoorChP
set_option linter.unusedVariables false
set_option linter.unusedSimpArgs false
set_option maxRecDepth 100000
namespace Go.Proofs.YtihaopijnkiafaaGreatDoor
open Go.RowKit

theorem okChange_nil (n : Int) : okChange n [] = false := by simp [okChange]
theorem okChange_long (n : Int) (c : List UInt8) (h1 : c ≠ [45]) (h : ¬ ((c.length : Int) ≤ n - 2)) : okChange n c = false := by
  unfold okChange
  rw [if_neg h1, decide_eq_false h]; simp
theorem okChange_dash (n : Int) (lo : 3 ≤ n) (hi : n ≤ 8) : okChange n [45] = decide (n % 2 = 0) := by
  unfold okChange
  rw [decide_eq_true lo, decide_eq_true hi]; simp
theorem okChange_loop (n : Nat) (c : List UInt8) (lo : 3 ≤ n) (hi : n ≤ 8) (h1 : c ≠ [45]) (h2 : c ≠ []) (h3 : (c.length : Int) ≤ (n : Int) - 2) : okChange n c = okPl n 0 c := by
  unfold okChange
  rw [if_neg h1, decide_eq_true (show (3 : Int) ≤ n by omega), decide_eq_true (show (n : Int) ≤ 8 by omega), decide_eq_true h2, decide_eq_true h3]
  simp
theorem okPl_drop (n p : Nat) (c : List UInt8) (k : Nat) (h : k < c.length) : okPl n p (c.drop k) = (decide (48 + p < c[k].toNat) && decide (c[k].toNat ≤ 48 + n) && decide ((c[k].toNat - 48) % 2 ≠ p % 2) && okPl n (c[k].toNat - 48) (c.drop (k + 1))) := by
  rw [List.drop_eq_getElem_cons h, okPl]

theorem l2Change_stage (n : Nat) (c : List UInt8) (w : World) (lo : 3 ≤ n) (hi : n ≤ 8) (h1 : c ≠ [45]) (h2 : c ≠ []) (h3 : (c.length : Int) ≤ (n : Int) - 2) :
    Calls Tryz.prog 51 #[.int .i64 n, .string (bs c)] w fun e w' => e = .returned (.bool (okChange n c)) ∧ w = w' := by
  have HR := hid (okChange_loop n c lo hi h1 h2 h3)
  have hd : (decide (3 ≤ (n : Int)) && decide ((n : Int) ≤ 8)) = true := by simp; omega
  have b1 : (c == []) = false := by simpa using h2
  have b2 : (c == [45]) = false := by simpa using h1
  have i3 : ¬ (n : Int) - 2 < (c.length : Int) := by omega
  clear h1 h2 h3
  go_enter Tryz.func51, Tryz.ntmps51
  go_wp2_with (go_at_call 28; refine (l1In_any _ _ _ _).mono ?_; rintro e w' ⟨rfl, rfl⟩)
  go_loopg [5, 6] c.length (fun gk u v wr => ∃ k p : Nat, k ≤ c.length ∧ gk = c.length - k ∧ u = .int .i64 p ∧ v = .int .i64 k ∧ p ≤ n ∧ Hid (okPl n p (c.drop k) = okPl n 0 c) ∧ w = wr)
  case atStart => exact ⟨0, 0, by omega, by omega, rfl, rfl, by omega, rfl, rfl⟩
  case round =>
    obtain ⟨k, p, hk, rfl, rfl, rfl, hp, hh, rfl⟩ := hrel
    by_cases hlt : k < c.length
    · have hu := UInt8.toNat_lt c[k]
      have hst := hid (okPl_drop n p c k hlt)
      by_cases h1 : (p : Int) + 1 ≤ (c[k].toNat : Int) - 48 ∧ (c[k].toNat : Int) - 48 ≤ (n : Int)
      · have hd1 : (decide ((p : Int) + 1 ≤ (c[k].toNat : Int) - 48) && decide ((c[k].toNat : Int) - 48 ≤ (n : Int))) = true := by simp; omega
        by_cases h2 : ((c[k].toNat : Int) - 48 - (p : Int)) % 2 = 0
        · have hm : ((((c[k].toNat : Int) - 48 - (p : Int)) % 2) == 0) = true := by simp; omega
          have hX := hid (show okPl n 0 c = false by
            rw [← hh.out, hst.out, decide_eq_false (show ¬ ((c[k].toNat - 48) % 2 ≠ p % 2) by omega)]; simp)
          have hnn : (0 : Int) ≤ (c[k].toNat : Int) - 48 - (p : Int) := by omega
          have htm : Int.tmod ((c[k].toNat : Int) - 48 - (p : Int)) 2 = ((c[k].toNat : Int) - 48 - (p : Int)) % 2 := Int.tmod_eq_emod_of_nonneg hnn
          clear h1
          go_wp2_with (go_at_call 28; refine (l1In_any _ _ _ _).mono ?_; rintro e w' ⟨rfl, rfl⟩; rw [hd1])
          go_ret
          rw [HR.out, hX.out]
          exact ⟨rfl, rfl⟩
        · have hm : ((((c[k].toNat : Int) - 48 - (p : Int)) % 2) == 0) = false := by simp; omega
          have hX := hid (show okPl n (c[k].toNat - 48) (c.drop (k + 1)) = okPl n 0 c by
            rw [← hh.out, hst.out, decide_eq_true (show 48 + p < c[k].toNat by omega), decide_eq_true (show c[k].toNat ≤ 48 + n by omega), decide_eq_true (show (c[k].toNat - 48) % 2 ≠ p % 2 by omega)]; simp)
          have hnn : (0 : Int) ≤ (c[k].toNat : Int) - 48 - (p : Int) := by omega
          have htm : Int.tmod ((c[k].toNat : Int) - 48 - (p : Int)) 2 = ((c[k].toNat : Int) - 48 - (p : Int)) % 2 := Int.tmod_eq_emod_of_nonneg hnn
          have hpn : c[k].toNat - 48 ≤ n := by omega
          have hpc : (c[k].toNat : Int) - 48 = ((c[k].toNat - 48 : Nat) : Int) := by omega
          have HPC := hid hpc
          clear h1 hpc
          go_wp2_with (go_at_call 28; refine (l1In_any _ _ _ _).mono ?_; rintro e w' ⟨rfl, rfl⟩; rw [hd1])
          go_roundg (c.length - (k + 1))
          case measure => omega
          case rel => exact ⟨k + 1, c[k].toNat - 48, by omega, rfl, by rw [HPC.out], by go_num, hpn, hX, rfl⟩
      · have hd1 : (decide ((p : Int) + 1 ≤ (c[k].toNat : Int) - 48) && decide ((c[k].toNat : Int) - 48 ≤ (n : Int))) = false := by simp; omega
        have hX := hid (show okPl n 0 c = false by
          rw [← hh.out, hst.out]
          by_cases h3 : 48 + p < c[k].toNat
          · rw [decide_eq_false (show ¬ c[k].toNat ≤ 48 + n by omega)]; simp
          · rw [decide_eq_false h3]; simp)
        clear h1
        go_wp2_with (go_at_call 28; refine (l1In_any _ _ _ _).mono ?_; rintro e w' ⟨rfl, rfl⟩; rw [hd1])
        go_ret
        rw [HR.out, hX.out]
        exact ⟨rfl, rfl⟩
    · obtain rfl : k = c.length := by omega
      have hX := hid (show decide (n % 2 = p % 2) = okPl n 0 c by
        rw [← hh.out, List.drop_of_length_le (Nat.le_refl _), okPl])
      have hnn : (0 : Int) ≤ (n : Int) - (p : Int) := by omega
      have htm : Int.tmod ((n : Int) - (p : Int)) 2 = ((n : Int) - (p : Int)) % 2 := Int.tmod_eq_emod_of_nonneg hnn
      go_wp2
      go_ret
      rw [HR.out, ← hX.out]
      exact ⟨ret_bool (by first | (rw [Bool.eq_iff_iff, beq_iff_eq, decide_eq_true_eq]; omega) | (apply decide_eq_decide.2; omega)), rfl⟩

theorem l2Change_any (n : Int) (c : List UInt8) (w : World) (wn : (Lit.int .i64 n).wf = true) (hc : c.length ≤ 140737488351232) :
    Calls Tryz.prog 51 #[.int .i64 n, .string (bs c)] w fun e w' => e = .returned (.bool (okChange n c)) ∧ w = w' := by
  by_cases hs : 3 ≤ n ∧ n ≤ 8
  · obtain ⟨h3, h8⟩ := hs
    obtain ⟨m, rfl⟩ := Int.eq_ofNat_of_zero_le (show 0 ≤ n by omega)
    have hd : (decide (3 ≤ (m : Int)) && decide ((m : Int) ≤ 8)) = true := by simp; omega
    by_cases h0 : c = []
    · subst h0
      have HR := hid (okChange_nil (m : Int))
      go_enter Tryz.func51, Tryz.ntmps51
      go_wp2_with (go_at_call 28; refine (l1In_any _ _ _ _).mono ?_; rintro e w' ⟨rfl, rfl⟩; rw [hd])
      go_ret
      rw [HR.out]
      exact ⟨rfl, rfl⟩
    · by_cases h1 : c = [45]
      · subst h1
        have HR := hid (okChange_dash (m : Int) h3 h8)
        have i3 : ¬ (m : Int) - 2 < 1 := by omega
        have hnn : (0 : Int) ≤ (m : Int) := by omega
        have htm : Int.tmod (m : Int) 2 = (m : Int) % 2 := Int.tmod_eq_emod_of_nonneg hnn
        go_enter Tryz.func51, Tryz.ntmps51
        go_wp2_with (go_at_call 28; refine (l1In_any _ _ _ _).mono ?_; rintro e w' ⟨rfl, rfl⟩; rw [hd])
        go_ret
        rw [HR.out]
        exact ⟨ret_bool (by first | rfl | (rw [Bool.eq_iff_iff, beq_iff_eq, decide_eq_true_eq]) | (simp)), rfl⟩
      · by_cases h2 : (c.length : Int) ≤ (m : Int) - 2
        · exact l2Change_stage m c w (by omega) (by omega) h1 h0 h2
        · have HR := hid (okChange_long (m : Int) c h1 h2)
          have b1 : (c == []) = false := by simpa using h0
          have i3 : (m : Int) - 2 < (c.length : Int) := by omega
          clear h0 h1 h2
          go_enter Tryz.func51, Tryz.ntmps51
          go_wp2_with (go_at_call 28; refine (l1In_any _ _ _ _).mono ?_; rintro e w' ⟨rfl, rfl⟩; rw [hd])
          go_ret
          rw [HR.out]
          exact ⟨rfl, rfl⟩
  · have HR := hid (okChange_no n c hs)
    have hd : (decide (3 ≤ n) && decide (n ≤ 8)) = false := by simp; omega
    clear hs
    go_enter Tryz.func51, Tryz.ntmps51
    go_wp2_with (go_at_call 28; refine (l1In_any _ _ _ _).mono ?_; rintro e w' ⟨rfl, rfl⟩; rw [hd])
    go_ret
    rw [HR.out]
    exact ⟨rfl, rfl⟩
end Go.Proofs.YtihaopijnkiafaaGreatDoor
