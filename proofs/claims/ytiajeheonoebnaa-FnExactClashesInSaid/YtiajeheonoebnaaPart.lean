/- Contracts of PartSet and LeastIn, in the reference and in the program. No conditions beyond those stated. -/
import Derived.Test.YtiajeheonoebnaaOrd
import Derived.Test.YtiajeheonoebnaaSort6
import Derived.Test.YtiajeheonoebnaaShSort
set_option linter.unusedVariables false
set_option linter.unusedSimpArgs false
set_option maxRecDepth 100000
namespace Go.Proofs.Ytiajeheonoebnaa
open Go.RowKit

/-- The products of the first k powers of e with x. -/
def setTo (e x : List UInt8) (k : Nat) : List (List UInt8) := (List.range k).map fun i => timesL (powL e i) x
theorem setTo_len (e x : List UInt8) (k : Nat) : (setTo e x k).length = k := by simp [setTo]
theorem setTo_step (e x : List UInt8) (k : Nat) : setTo e x k ++ [timesL (powL e k) x] = setTo e x (k + 1) := by simp [setTo, List.range_succ]

end Go.Proofs.Ytiajeheonoebnaa
