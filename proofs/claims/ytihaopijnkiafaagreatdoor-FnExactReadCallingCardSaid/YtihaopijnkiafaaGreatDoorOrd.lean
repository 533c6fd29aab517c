/- Contracts of orders and powers of rows, in the reference and in the program. No conditions beyond those stated. -/
import Derived.Test.YtihaopijnkiafaaGreatDoorRow2
import Derived.Test.YtihaopijnkiafaaGreatDoorApp
set_option linter.unusedVariables false
set_option linter.unusedSimpArgs false
set_option maxRecDepth 100000
namespace Go.Proofs.YtihaopijnkiafaaGreatDoor
open Go.RowKit

/-- The powers of a row from exponent 0 on. -/
def powersTo (a : List UInt8) (k : Nat) : List (List UInt8) := (List.range k).map (powL a)
theorem powersTo_len (a : List UInt8) (k : Nat) : (powersTo a k).length = k := by simp [powersTo]
theorem powersTo_step (a : List UInt8) (k : Nat) : powersTo a k ++ [powL a k] = powersTo a (k + 1) := by simp [powersTo, List.range_succ]
theorem powersTo_at (a : List UInt8) (k i : Nat) (h : i < k) : (powersTo a k)[i]? = some (powL a i) := by simp [powersTo, h]
end Go.Proofs.YtihaopijnkiafaaGreatDoor
