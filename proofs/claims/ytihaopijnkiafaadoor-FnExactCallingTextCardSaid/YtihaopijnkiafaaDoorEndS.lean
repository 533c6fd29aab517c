/- Contracts of the reference's guard of a touch with its method, and of its last head. No conditions beyond those stated. -/
import Derived.Test.YtihaopijnkiafaaDoorHeadsS
import Derived.Test.YtihaopijnkiafaaDoorTouch
set_option linter.unusedVariables false
set_option linter.unusedSimpArgs false
set_option maxRecDepth 100000
namespace Go.Proofs.YtihaopijnkiafaaDoor
open Go.RowKit

theorem headsTo_last (N : Nat) (cs : List (List UInt8)) (k : List UInt8 × List UInt8) (t : List UInt8) (j : Nat) (h : j < (headsTo N cs k t j).length) : (headsTo N cs k t j)[j] = headTo N cs k t j := by simp [headsTo]
end Go.Proofs.YtihaopijnkiafaaDoor
