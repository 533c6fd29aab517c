/- Contracts of the exported functions on called leads, in the reference and in the program. No conditions beyond those stated. -/
import Derived.Test.YtihaopijnkiafaaGreatDoorHead
import Derived.Test.YtihaopijnkiafaaGreatDoorOrd
set_option linter.unusedVariables false
set_option linter.unusedSimpArgs false
set_option maxRecDepth 100000
namespace Go.Proofs.YtihaopijnkiafaaGreatDoor
open Go.RowKit

/-- A slice of n strings comes back; it is the call's own. -/
def OneSn (w : World) (n : Nat) (l : List (List UInt8)) (e : Ending) (w' : World) : Prop := ∃ v, e = .returned v ∧ w'.ownsRow w.heap.size 9 1 v n (strV l) ∧ Below w.heap.size w w'
theorem oneS_len {w w' : World} {n : Nat} {l : List (List UInt8)} {e : Ending} (h : OneS w l e w') (hl : l.length = n) : OneSn w n l e w' := by
  subst hl; exact h
/-- What CallHead answers. -/
def callHeadR (m : Meth) (k : List UInt8 × List UInt8) (call : List UInt8) : List UInt8 × Bool := if (callsB m k && isCallL call) = true then (callHeadL m.st.toNat m.ch k call, true) else ([], false)
/-- What CallRow answers. -/
def callRowR (m : Meth) (k : List UInt8 × List UInt8) (call : List UInt8) : List UInt8 × Bool := if (callsB m k && isCallL call) = true then (callRowL m.st.toNat m.ch k call, true) else ([], false)
/-- What CallOrder answers. -/
def callOrderR (m : Meth) (k : List UInt8 × List UInt8) (call : List UInt8) : Int × Bool := if (callsB m k && isCallL call) = true then ((ordL (callRowL m.st.toNat m.ch k call) : Nat), true) else (0, false)
end Go.Proofs.YtihaopijnkiafaaGreatDoor
