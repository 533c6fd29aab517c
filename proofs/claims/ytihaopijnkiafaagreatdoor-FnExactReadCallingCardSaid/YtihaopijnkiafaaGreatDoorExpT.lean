/- Contracts of TouchEnd and IsRound, in the reference and in the program. No conditions beyond those stated. -/
import Derived.Test.YtihaopijnkiafaaGreatDoorEndI
set_option linter.unusedVariables false
set_option linter.unusedSimpArgs false
set_option maxRecDepth 100000
namespace Go.Proofs.YtihaopijnkiafaaGreatDoor
open Go.RowKit

theorem goodTouch_len {t : List UInt8} (h : goodTouch t = true) : t.length ≤ 1000 := by
  simp only [goodTouch, Bool.and_eq_true, decide_eq_true_eq] at h; omega
theorem goodTouch_calls {t : List UInt8} (h : goodTouch t = true) : t.all callB = true := by
  simp only [goodTouch, Bool.and_eq_true] at h; first | exact h.2 | exact h.1.2 | exact h.1.1 | exact h.1
/-- What TouchEnd answers. -/
def touchEndR (m : Meth) (k : List UInt8 × List UInt8) (t : List UInt8) : List UInt8 × Bool := if (callsB m k && goodTouch t) = true then (headTo m.st.toNat m.ch k t t.length, true) else ([], false)
/-- What IsRound answers. -/
def isRoundR (m : Meth) (k : List UInt8 × List UInt8) (t : List UInt8) : Bool × Bool := if (callsB m k && goodTouch t) = true then (headTo m.st.toNat m.ch k t t.length == roundsL m.st.toNat, true) else (false, false)
end Go.Proofs.YtihaopijnkiafaaGreatDoor
