/- Contract of the reference's lead head. No conditions beyond those stated. -/
import Derived.Test.YtgljhhjfinngjaaLead
set_option linter.unusedVariables false
set_option linter.unusedSimpArgs false
set_option maxRecDepth 100000
namespace Go.Proofs.Ytgljhhjfinngjaa
open Go.RowKit

end Go.Proofs.Ytgljhhjfinngjaa
