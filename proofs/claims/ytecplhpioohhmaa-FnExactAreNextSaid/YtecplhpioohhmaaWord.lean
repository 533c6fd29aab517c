/- Contracts of the tests of a method's name. No conditions beyond those stated. -/
import Derived.Test.YtecplhpioohhmaaIn
import Derived.Test.YtecplhpioohhmaaTouch
set_option linter.unusedVariables false
set_option linter.unusedSimpArgs false
namespace Go.Proofs.Ytecplhpioohhmaa
open Go.RowKit

/-- Which byte is a letter from a to z. -/
def letB (b : UInt8) : Bool := decide (97 ≤ b.toNat) && decide (b.toNat ≤ 122)
/-- Which string is a name. -/
def wordB (l : List UInt8) : Bool := l.all letB && decide (1 ≤ l.length) && decide (l.length ≤ 10)

end Go.Proofs.Ytecplhpioohhmaa
