/- Contracts of the inverse of a row, in the reference and in the program. No conditions beyond those stated. -/
import Derived.Test.YtihaopijnkiafaaGreatDoorRow2
set_option linter.unusedVariables false
set_option linter.unusedSimpArgs false
set_option maxRecDepth 100000
namespace Go.Proofs.YtihaopijnkiafaaGreatDoor
open Go.RowKit

theorem b49_val (k : Nat) (h : k < 100) : ((b49 k).toNat : Int) = 49 + (k : Int) := by
  rw [b49_nat k (by omega)]; omega

end Go.Proofs.YtihaopijnkiafaaGreatDoor
