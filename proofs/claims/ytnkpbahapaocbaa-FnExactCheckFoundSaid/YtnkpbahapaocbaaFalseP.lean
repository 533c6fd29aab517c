/- Plain laws of false lead heads. No conditions beyond those stated. -/
import Derived.Test.YtnkpbahapaocbaaTrueP
import Derived.Test.YtnkpbahapaocbaaLead
set_option linter.unusedVariables false
set_option linter.unusedSimpArgs false
set_option maxRecDepth 100000
namespace Go.Proofs.Ytnkpbahapaocbaa
open Go.RowKit

/-- The rows r / s, r of some rows and s of others. -/
def quotL (rs bs' : List (List UInt8)) : List (List UInt8) := rs.flatMap fun r => bs'.map fun s => timesL r (turnL s)
theorem lead_from {f : List UInt8} (cs : List (List UInt8)) (hf : IsRow f) : leadL f cs = (leadL (roundsL f.length) cs).map (timesL f) := by
  have h := lead_times f cs (roundsL f.length) (rounds_row hf.lo hf.hi)
  rw [times_rounds hf.hi] at h
  exact h
theorem quot_iff {f r s : List UInt8} (hf : IsRow f) (hr : IsRow r) (hs : IsRow s) (l1 : r.length = f.length) (l2 : s.length = f.length) : f = timesL r (turnL s) ↔ r = timesL f s := by
  constructor
  · intro e
    rw [e, times_assoc _ hs (by rw [turn_len]), turn_times hs, l2, ← l1, times_rounds hr.hi]
  · intro e
    rw [e, times_assoc _ (turn_row hs) (by rw [turn_len]), times_turn hs, l2, times_rounds hf.hi]
theorem quot_mem {f : List UInt8} (ca cb : List (List UInt8)) (hf : IsRow f) : f ∈ quotL (leadL (roundsL f.length) ca) (leadL (roundsL f.length) cb) ↔ ∃ r ∈ leadL (roundsL f.length) ca, r ∈ leadL f cb := by
  have hR := rounds_row hf.lo hf.hi
  rw [lead_from cb hf]
  simp only [quotL, List.mem_flatMap, List.mem_map]
  constructor
  · rintro ⟨r, hr, s, hs, e⟩
    have h1 := lead_rows ca hR r hr
    have h2 := lead_rows cb hR s hs
    rw [rounds_len] at h1 h2
    exact ⟨r, hr, s, hs, ((quot_iff hf h1.1 h2.1 h1.2 h2.2).1 e.symm).symm⟩
  · rintro ⟨r, hr, s, hs, e⟩
    have h1 := lead_rows ca hR r hr
    have h2 := lead_rows cb hR s hs
    rw [rounds_len] at h1 h2
    exact ⟨r, hr, s, hs, ((quot_iff hf h1.1 h2.1 h1.2 h2.2).2 e.symm).symm⟩
theorem quot_meet {f : List UInt8} (ca cb : List (List UInt8)) (hf : IsRow f) : memB f (quotL (leadL (roundsL f.length) ca) (leadL (roundsL f.length) cb)) = decide (0 < (meetL (leadL (roundsL f.length) ca) (leadL f cb)).length) := by
  unfold memB
  rw [decide_eq_decide, quot_mem ca cb hf, List.length_pos_iff_exists_mem]
  simp only [meetL, List.mem_filter, memB_iff]
end Go.Proofs.Ytnkpbahapaocbaa
