/- Contracts of the program's guard of a touch with its method, and of its last head. No conditions beyond those stated. -/
import Derived.Test.YtihaopijnkiafaaGreatDoorHeads
import Derived.Test.YtihaopijnkiafaaGreatDoorEndS
set_option linter.unusedVariables false
set_option linter.unusedSimpArgs false
set_option maxRecDepth 100000
namespace Go.Proofs.YtihaopijnkiafaaGreatDoor
open Go.RowKit

end Go.Proofs.YtihaopijnkiafaaGreatDoor
