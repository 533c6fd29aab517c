/- What the contracts of a touch's calling stand on. No conditions. -/
import Derived.Test.YtihaopijnkiafaaDoorCalP
import Derived.Test.YtihaopijnkiafaaDoorEndI
import Derived.Test.YtihaopijnkiafaaDoorStrs
import Derived.Test.YtihaopijnkiafaaDoorMeth2
import Derived.Test.YtihaopijnkiafaaDoorExpT
namespace Go.Proofs.YtihaopijnkiafaaDoor
end Go.Proofs.YtihaopijnkiafaaDoor
