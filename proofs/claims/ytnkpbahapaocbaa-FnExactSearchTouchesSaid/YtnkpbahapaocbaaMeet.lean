/- Contracts: the strings of a list that occur in another one, in the program; whether a string occurs, in the reference. No conditions beyond those stated. -/
import Derived.Test.YtnkpbahapaocbaaSet
import Derived.Test.YtnkpbahapaocbaaTrueP
import Derived.Test.YtnkpbahapaocbaaApp
set_option linter.unusedVariables false
set_option linter.unusedSimpArgs false
set_option maxRecDepth 100000
namespace Go.Proofs.Ytnkpbahapaocbaa
open Go.RowKit

theorem mem_step {l : List (List UInt8)} {k : Nat} {s : List UInt8} (h : k < l.length) (h1 : memB s (l.take k) = false) (h2 : (l[k] == s) = false) : memB s (l.take (k + 1)) = false := by
  simp only [memB_not] at *
  rw [List.take_succ_eq_append_getElem h]
  simp only [List.mem_append, List.mem_singleton, not_or]
  exact ⟨h1, by intro e; subst e; simp at h2⟩
theorem mem_hit {l : List (List UInt8)} {k : Nat} {s : List UInt8} (h : k < l.length) (h2 : (l[k] == s) = true) : memB s l = true := by
  simp only [beq_iff_eq] at h2
  subst h2
  exact memB_iff.2 (List.getElem_mem h)
theorem l1HasS_any (A : Option Addr) (n c : Nat) (l : List (List UInt8)) (s : List UInt8) (w : World) (hr : Rd w A n (strV l)) (hn : n ≤ 1048576) :
    Calls Try.prog 89 #[.slice A n c, .string (bs s)] w fun e w' => e = .returned (.bool (memB s l)) ∧ w = w' := by
  have hl := hid (show l.length = n by have := hr.1; rw [strV_len] at this; exact this)
  have RS := hid hr
  clear hr
  go_enter Try.func89, Try.ntmps89
  go_wp2
  skip
  go_loopg [9] n (fun gk v wr => ∃ k : Nat, k ≤ n ∧ gk = n - k ∧ v = .int .i64 k ∧ Hid (memB s (l.take k) = false) ∧ wr = w)
  case atStart => exact ⟨0, by omega, by omega, rfl, hid (by simp [memB]), rfl⟩
  case round =>
    obtain ⟨k, hk, rfl, rfl, hh, rfl⟩ := hrel
    by_cases hlt : k < n
    · obtain ⟨b, o, rfl, hj', hc⟩ := RS.out.str hlt
      have hk0 : (0 : Int) ≤ (k : Int) := by omega
      have hk1 : (k : Int) < (n : Int) := by omega
      cases hm : (l[k] == s)
      · have HM := hid (mem_step hj' hh.out hm)
        go_wp2
        go_roundg (n - (k + 1))
        case measure => omega
        case rel => exact ⟨k + 1, by omega, rfl, by go_num, HM, rfl⟩
      · have HM := hid (mem_hit hj' hm)
        go_wp2
        go_ret
        exact ⟨ret_bool HM.out.symm, rfl⟩
    · obtain rfl : k = n := by omega
      have h1 := hh.out
      rw [List.take_of_length_le (by rw [hl.out]; omega)] at h1
      have HM := hid h1
      clear h1
      go_wp2
      go_ret
      exact ⟨ret_bool HM.out.symm, rfl⟩

end Go.Proofs.Ytnkpbahapaocbaa
