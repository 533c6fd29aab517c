/- Contracts of CallingText, in the reference and in the program. No conditions beyond those stated. -/
import Derived.Test.YtihaopijnkiafaaGreatDoorCalI
set_option linter.unusedVariables false
set_option linter.unusedSimpArgs false
set_option maxRecDepth 100000
namespace Go.Proofs.YtihaopijnkiafaaGreatDoor
open Go.RowKit

theorem goodTouch_len60 {t : List UInt8} (h : goodTouch t = true) : t.length ≤ 60 := by
  simp only [goodTouch, Bool.and_eq_true, decide_eq_true_eq] at h; omega
/-- Whether it is a bell of the method. -/
def bellB (m : Meth) (b : Int) : Bool := decide (1 ≤ b) && decide (b ≤ m.st)
theorem isBellB_any (m : Meth) (b : Int) (w : World) :
    Calls Tryz.prog 22 #[.int .i64 m.st, .int .i64 b] w fun e w' => e = .returned (.bool (bellB m b)) ∧ w = w' := isBell_any m.st b w
theorem l10AskedB_any (m : Meth) (k : List UInt8 × List UInt8) (q : Int) (A : Option Addr) (n c : Nat) (w : World) (ok : LawOk m k) (rd : Rd w A n (strV m.ch)) :
    Calls Tryz.prog 12 #[.agg #[.string (bs m.nm), .int .i64 m.st, .slice A n c], .agg #[.string (bs k.1), .string (bs k.2)], .int .i64 q] w fun e w' => e = .returned (.bool (callsB m k && bellB m q)) ∧ Below w.heap.size w w' := l10Asked_any m k q A n c w ok rd
/-- What CallingText answers. -/
def callingR (m : Meth) (k : List UInt8 × List UInt8) (t : List UInt8) (b : Int) : List UInt8 × Bool := if (callsB m k && (goodTouch t && bellB m b)) = true then (calText (plP m.st.toNat m.ch k t b) t, true) else ([], false)
theorem callingR_yes {m : Meth} {k : List UInt8 × List UInt8} {t : List UInt8} {b : Int} (h : (callsB m k && (goodTouch t && bellB m b)) = true) : callingR m k t b = (calText (plP m.st.toNat m.ch k t b) t, true) := by unfold callingR; rw [if_pos h]
theorem callingR_no {m : Meth} {k : List UInt8 × List UInt8} {t : List UInt8} {b : Int} (h : (callsB m k && (goodTouch t && bellB m b)) = false) : callingR m k t b = ([], false) := by unfold callingR; rw [if_neg (by rw [h]; simp)]
end Go.Proofs.YtihaopijnkiafaaGreatDoor
