/- Contracts of the tests of a method and of its calls, in the reference and in the program. No conditions beyond those stated. -/
import Derived.Test.YtecplhpioohhmaaCh1
import Derived.Test.YtecplhpioohhmaaCh3
import Derived.Test.YtecplhpioohhmaaWord
import Derived.Test.YtecplhpioohhmaaMeth
set_option linter.unusedVariables false
set_option linter.unusedSimpArgs false
set_option maxRecDepth 100000
namespace Go.Proofs.Ytecplhpioohhmaa
open Go.RowKit

/-- Whether a list has 1 to 40 changes of stage n. -/
def chsB (n : Int) (l : List (List UInt8)) : Bool := l.all (okChange n) && (decide (1 ≤ l.length) && decide (l.length ≤ 40))
/-- Which method is valid. -/
def methB (m : Meth) : Bool := wordB m.nm && chsB m.st m.ch
theorem chsB_bad (n : Int) (l : List (List UInt8)) (k : Nat) (h : k < l.length) (hb : okChange n l[k] = false) : chsB n l = false := by
  have : l.all (okChange n) = false := by
    apply Bool.eq_false_iff.2
    intro ha
    have := List.all_eq_true.1 ha l[k] (List.getElem_mem h)
    rw [hb] at this; cases this
  simp [chsB, this]
theorem chsB_all (n : Int) (l : List (List UInt8)) (h : ∀ (k : Nat) (hk : k < l.length), okChange n l[k] = true) : chsB n l = (decide (1 ≤ l.length) && decide (l.length ≤ 40)) := by
  have : l.all (okChange n) = true := by
    rw [List.all_eq_true]
    intro x hx
    obtain ⟨k, hk, rfl⟩ := List.mem_iff_getElem.1 hx
    exact h k hk
  simp [chsB, this]
theorem chsB_len {n : Int} {l : List (List UInt8)} (h : chsB n l = true) : 1 ≤ l.length ∧ l.length ≤ 40 := by
  simp only [chsB, Bool.and_eq_true, decide_eq_true_eq] at h; exact h.2
theorem chsB_ok {n : Int} {l : List (List UInt8)} (h : chsB n l = true) {c : List UInt8} (hc : c ∈ l) : okChange n c = true := by
  simp only [chsB, Bool.and_eq_true] at h; exact List.all_eq_true.1 h.1 c hc
theorem okChange_stage {n : Int} {c : List UInt8} (h : okChange n c = true) : 3 ≤ n ∧ n ≤ 8 := by
  apply Classical.byContradiction
  intro h2
  rw [okChange_no n c h2] at h; cases h
theorem chsB_stage {n : Int} {l : List (List UInt8)} (h : chsB n l = true) : 3 ≤ n ∧ n ≤ 8 := by
  have h1 := chsB_len h
  exact okChange_stage (chsB_ok h (List.getElem_mem (show 0 < l.length by omega)))
theorem methB_chs {m : Meth} (h : methB m = true) : chsB m.st m.ch = true := by simp only [methB, Bool.and_eq_true] at h; exact h.2
theorem meth_end (m : Meth) (h : ∀ (k : Nat) (hk : k < m.ch.length), okChange m.st m.ch[k] = true) : (wordB m.nm && ((decide (3 ≤ m.st) && decide (m.st ≤ 8)) && (decide (1 ≤ m.ch.length) && decide (m.ch.length ≤ 40)))) = methB m := by
  rw [methB, chsB_all _ _ h]
  by_cases h0 : 1 ≤ m.ch.length
  · have := okChange_stage (h 0 (by omega))
    rw [decide_eq_true this.1, decide_eq_true this.2]; simp
  · simp [h0]

end Go.Proofs.Ytecplhpioohhmaa
