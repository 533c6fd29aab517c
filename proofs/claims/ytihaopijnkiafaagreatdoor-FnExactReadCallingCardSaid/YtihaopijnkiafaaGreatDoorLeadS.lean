/- Contract of the reference's lead head. No conditions beyond those stated. -/
import Derived.Test.YtihaopijnkiafaaGreatDoorLead
set_option linter.unusedVariables false
set_option linter.unusedSimpArgs false
set_option maxRecDepth 100000
namespace Go.Proofs.YtihaopijnkiafaaGreatDoor
open Go.RowKit

end Go.Proofs.YtihaopijnkiafaaGreatDoor
