/- Plain laws of the cuts of a search. No conditions beyond those stated. -/
import Derived.Test.YtnkpbahapaocbaaHeadsP
import Derived.Test.YtnkpbahapaocbaaLeads
import Derived.Test.YtnkpbahapaocbaaTrueP
import Derived.Test.YtnkpbahapaocbaaFalseP
set_option linter.unusedVariables false
set_option linter.unusedSimpArgs false
set_option maxRecDepth 100000
namespace Go.Proofs.Ytnkpbahapaocbaa
open Go.RowKit

/-- The least number below j at which P holds. -/
def hitIdx (P : Nat → Bool) : Nat → Option Nat
  | 0 => none
  | j + 1 => match hitIdx P j with
    | some i => some i
    | none => if P j = true then some j else none
theorem hitIdx_no {P : Nat → Bool} {j : Nat} (h : hitIdx P j = none) (hp : P j = false) : hitIdx P (j + 1) = none := by
  rw [hitIdx, h]; simp [hp]
theorem hitIdx_yes {P : Nat → Bool} {j : Nat} (h : hitIdx P j = none) (hp : P j = true) (n : Nat) (hn : j < n) : hitIdx P n = some j := by
  obtain ⟨d, rfl⟩ : ∃ d, n = j + 1 + d := ⟨n - (j + 1), by omega⟩
  clear hn
  induction d with
  | zero => rw [Nat.add_zero, hitIdx, h]; simp [hp]
  | succ d ih => rw [← Nat.add_assoc, hitIdx, ih]
/-- Whether head i of a prefix and its end are falsely related. -/
def hitP (N : Nat) (ch : List (List UInt8)) (k : List UInt8 × List UInt8) (p : List UInt8) (i : Nat) : Bool := memB (timesL (turnL (headTo N ch k p i)) (headTo N ch k p p.length)) (quotL (leadL (roundsL N) ch) (leadL (roundsL N) ch))
/-- The cut of a prefix, and whether there is one. -/
def cutF (N : Nat) (ch : List (List UInt8)) (k : List UInt8 × List UInt8) (n : Nat) (p : List UInt8) : (List UInt8 × Int × Int) × Bool :=
  if p = [] then (([], 1, 0), !trueB (leadL (roundsL N) ch))
  else if p.length = n then ((p, 3, 0), decide (headTo N ch k p p.length ≠ roundsL N))
  else match hitIdx (hitP N ch k p) p.length with
    | some i => ((p, 2, (i : Int)), true)
    | none => (([], 0, 0), false)
/-- Whether a cut is justified. -/
def isCutB (N : Nat) (ch : List (List UInt8)) (k : List UInt8 × List UInt8) (n : Nat) (c : List UInt8 × Int × Int) : Bool := (c.1.all callB && decide (c.1.length ≤ n)) && ((cutF N ch k n c.1).2 && decide ((cutF N ch k n c.1).1 = c))
/-- A cut and a bool come back. -/
def ResC (w : World) (R : (List UInt8 × Int × Int) × Bool) (e : Ending) (w' : World) : Prop := e = .returned (.tuple #[.agg #[.string (bs R.1.1), .int .i64 R.1.2.1, .int .i64 R.1.2.2], .bool R.2]) ∧ Below w.heap.size w w'
end Go.Proofs.Ytnkpbahapaocbaa
