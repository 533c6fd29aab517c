/- Plain laws of the heads of a touch. No conditions beyond those stated. -/
import Derived.Test.YtihaopijnkiafaaGreatDoorHead
import Derived.Test.YtihaopijnkiafaaGreatDoorExpC
set_option linter.unusedVariables false
set_option linter.unusedSimpArgs false
set_option maxRecDepth 100000
namespace Go.Proofs.YtihaopijnkiafaaGreatDoor
open Go.RowKit

/-- The head behind i leads of a touch. -/
def headTo (N : Nat) (cs : List (List UInt8)) (k : List UInt8 × List UInt8) (t : List UInt8) : Nat → List UInt8
  | 0 => roundsL N
  | i + 1 => timesL (headTo N cs k t i) (callHeadL N cs k [t.getD i 0])
theorem headTo_row {N : Nat} (lo : 3 ≤ N) (hi : N ≤ 8) (cs : List (List UInt8)) (k : List UInt8 × List UInt8) (t : List UInt8) (i : Nat) : IsRow (headTo N cs k t i) ∧ (headTo N cs k t i).length = N := by
  induction i with
  | zero => exact ⟨rounds_row lo hi, rounds_len N⟩
  | succ i ih => exact ⟨times_row ih.1 (callHeadL_row lo hi _ _ _) (by rw [ih.2, callHeadL_len]), by rw [headTo, times_len, callHeadL_len]⟩
/-- Rounds and the heads behind the first j leads. -/
def headsTo (N : Nat) (cs : List (List UInt8)) (k : List UInt8 × List UInt8) (t : List UInt8) (j : Nat) : List (List UInt8) := (List.range (j + 1)).map (headTo N cs k t)
theorem headsTo_len (N : Nat) (cs : List (List UInt8)) (k : List UInt8 × List UInt8) (t : List UInt8) (j : Nat) : (headsTo N cs k t j).length = j + 1 := by simp [headsTo]
theorem headsTo_step (N : Nat) (cs : List (List UInt8)) (k : List UInt8 × List UInt8) (t : List UInt8) (j : Nat) : headsTo N cs k t j ++ [headTo N cs k t (j + 1)] = headsTo N cs k t (j + 1) := by
  simp only [headsTo]
  rw [List.range_succ (n := j + 1), List.map_append]; rfl

end Go.Proofs.YtihaopijnkiafaaGreatDoor
