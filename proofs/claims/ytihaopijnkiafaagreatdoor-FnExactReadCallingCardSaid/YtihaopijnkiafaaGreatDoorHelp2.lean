/- Contracts of the law package's helpers that mark the elements of a slice and look whether the marks are held. No conditions beyond those stated. -/
import Derived.Test.YtihaopijnkiafaaGreatDoorHelp
set_option linter.unusedVariables false
set_option linter.unusedSimpArgs false
set_option maxRecDepth 100000
namespace Go.Proofs.YtihaopijnkiafaaGreatDoor
open Go.RowKit

/-- The marks that markStringS lays, from number k on. -/
def marksS (k n : Nat) : List (List UInt8) := (List.range n).map fun i => markL (k + i)
def marksI (k n : Nat) : List Int := (List.range n).map fun i => ((k + i : Nat) : Int)
theorem set_step {α : Type} (f : Nat → α) (l : List α) (j : Nat) (h : j < l.length) : ((List.range j).map f ++ l.drop j).set j (f j) = (List.range (j + 1)).map f ++ l.drop (j + 1) := by
  have e : j - ((List.range j).map f).length = 0 := by simp
  rw [List.set_append, if_neg (by simp), e, List.drop_eq_getElem_cons h, List.set_cons_zero, List.range_succ, List.map_append, List.append_assoc]
  rfl

theorem grown_below {a b c : World} {row : Option Nat} (h : Below a.heap.size a b) (k : b.grownBy c row) : a.grownBy c row :=
  ⟨k.os.trans h.os, k.tape.trans h.tape, k.output.trans h.output, Nat.le_trans h.size k.size, fun i hi hne => (k.block i (Nat.lt_of_lt_of_le hi h.size) hne).trans (h.block i hi)⟩
theorem marksS_len (k n : Nat) : (marksS k n).length = n := by simp [marksS]
end Go.Proofs.YtihaopijnkiafaaGreatDoor
