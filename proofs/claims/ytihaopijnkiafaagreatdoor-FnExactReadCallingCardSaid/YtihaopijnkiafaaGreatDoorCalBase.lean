/- What the contracts of a touch's calling stand on. No conditions. -/
import Derived.Test.YtihaopijnkiafaaGreatDoorCalP
import Derived.Test.YtihaopijnkiafaaGreatDoorEndI
import Derived.Test.YtihaopijnkiafaaGreatDoorStrs
import Derived.Test.YtihaopijnkiafaaGreatDoorMeth2
import Derived.Test.YtihaopijnkiafaaGreatDoorExpT
namespace Go.Proofs.YtihaopijnkiafaaGreatDoor
end Go.Proofs.YtihaopijnkiafaaGreatDoor
