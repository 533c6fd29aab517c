/- Contracts of the functions that say which strings are calls and touches, in the reference and in the program. No conditions beyond those stated. -/
import Derived.Test.YtecplhpioohhmaaIn
set_option linter.unusedVariables false
set_option linter.unusedSimpArgs false
namespace Go.Proofs.Ytecplhpioohhmaa
open Go.RowKit

/-- Which byte is a call. -/
def callB (b : UInt8) : Bool := b == 112 || b == 98 || b == 115
/-- Which string is a call. -/
def isCallL (l : List UInt8) : Bool := l == [112] || l == [98] || l == [115]
theorem isCallL_one (b : UInt8) : isCallL [b] = callB b := by simp [isCallL, callB]
/-- Which string is a touch. -/
def goodTouch (l : List UInt8) : Bool := l.all callB && decide (1 ≤ l.length) && decide (l.length ≤ 60)

theorem take1_drop (l : List UInt8) (k : Nat) (h : k < l.length) : List.take 1 (List.drop k l) = [l[k]] := by
  rw [List.drop_eq_getElem_cons h]; rfl
theorem isCallL_at (l : List UInt8) (k : Nat) (h : k < l.length) : isCallL (List.take 1 (List.drop k l)) = callB l[k] := by rw [take1_drop l k h, isCallL_one]
theorem all_succ (p : UInt8 → Bool) (l : List UInt8) (k : Nat) (h : k < l.length) : (l.take (k + 1)).all p = ((l.take k).all p && p l[k]) := by
  rw [List.take_succ_eq_append_getElem h, List.all_append]; simp
theorem all_not (p : UInt8 → Bool) (l : List UInt8) (k : Nat) (h : k < l.length) (hp : p l[k] = false) : l.all p = false := by
  apply Bool.eq_false_iff.2
  intro ha
  have := List.all_eq_true.1 ha l[k] (List.getElem_mem h)
  simp [hp] at this

theorem l8Call_any (l : List UInt8) (w : World) :
    Calls Try.prog 82 #[.string (bs l)] w fun e w' => e = .returned (.bool (isCallL l)) ∧ w = w' := by
  go_enter Try.func82, Try.ntmps82
  go_wp2
  all_goals (go_ret; exact ⟨ret_bool (by simp [isCallL, *]), rfl⟩)

theorem isCall_any (l : List UInt8) (w : World) :
    Calls Try.prog 84 #[.string (bs l)] w fun e w' => e = .returned (.bool (isCallL l)) ∧ w = w' := by
  go_enter Try.func84, Try.ntmps84
  go_wp2
  all_goals (go_ret; exact ⟨ret_bool (by simp [isCallL, *]), rfl⟩)

theorem goodTouch_of (l : List UInt8) (h1 : 1 ≤ l.length) (h2 : l.length ≤ 60) : goodTouch l = l.all callB := by simp [goodTouch, h1, h2]
theorem goodTouch_no (l : List UInt8) (h : l.length < 1 ∨ 60 < l.length) : goodTouch l = false := by
  rcases h with h | h
  · simp [goodTouch, show ¬ 1 ≤ l.length by omega]
  · simp [goodTouch, show ¬ l.length ≤ 60 by omega]

end Go.Proofs.Ytecplhpioohhmaa
