/- Plain laws of clashes. No conditions beyond those stated. -/
import Derived.Test.YtiajeheonoebnaaDedP
import Derived.Test.YtiajeheonoebnaaFalseP
set_option linter.unusedVariables false
set_option linter.unusedSimpArgs false
set_option maxRecDepth 100000
namespace Go.Proofs.Ytiajeheonoebnaa
open Go.RowKit

/-- Heads i and k clash: the second over the first is in F. -/
def clashAt (F hs : List (List UInt8)) (i k : Nat) : Bool := memB (timesL (turnL (hs.getD i [])) (hs.getD k [])) F
theorem clashAt_set (L hs : List (List UInt8)) (i k : Nat) : clashAt (setL L) hs i k = clashAt L hs i k := by
  unfold clashAt memB
  rw [decide_eq_decide]
  exact (setL_prop L).2 _
/-- The clashes of head i with heads i + 1 .. k - 1. -/
def clashRow (F hs : List (List UInt8)) (i k : Nat) : List (Nat × Nat) := ((List.range k).filter fun q => decide (i < q) && clashAt F hs i q).map fun q => (i, q)
theorem clashRow_zero (F hs : List (List UInt8)) (i : Nat) : clashRow F hs i (i + 1) = [] := by
  unfold clashRow
  rw [List.map_eq_nil_iff, List.filter_eq_nil_iff]
  intro q hq
  rw [List.mem_range] at hq
  simp; omega
theorem clashRow_yes (F hs : List (List UInt8)) {i k : Nat} (h : i < k) (hc : clashAt F hs i k = true) : clashRow F hs i k ++ [(i, k)] = clashRow F hs i (k + 1) := by
  unfold clashRow
  rw [List.range_succ, List.filter_append, List.map_append]
  simp [List.filter_cons, h, hc]
theorem clashRow_no (F hs : List (List UInt8)) {i k : Nat} (hc : clashAt F hs i k = false) : clashRow F hs i k = clashRow F hs i (k + 1) := by
  unfold clashRow
  rw [List.range_succ, List.filter_append, List.map_append]
  simp [List.filter_cons, hc]
/-- The clashes of the heads ahead of head i with all later ones. -/
def clashTo (F hs : List (List UInt8)) (i : Nat) : List (Nat × Nat) := (List.range i).flatMap fun p => clashRow F hs p hs.length
theorem clashTo_zero (F hs : List (List UInt8)) : clashTo F hs 0 = [] := by simp [clashTo]
theorem clashTo_step (F hs : List (List UInt8)) (i : Nat) : clashTo F hs i ++ clashRow F hs i hs.length = clashTo F hs (i + 1) := by
  unfold clashTo
  rw [List.range_succ, List.flatMap_append]; simp
theorem clashTo_set (L hs : List (List UInt8)) (i : Nat) : clashTo (setL L) hs i = clashTo L hs i := by
  unfold clashTo clashRow
  simp only [clashAt_set]
theorem clashRow_len (F hs : List (List UInt8)) (i k : Nat) : (clashRow F hs i k).length ≤ k := by
  unfold clashRow
  rw [List.length_map]
  exact Nat.le_trans (List.length_filter_le _ _) (by simp)
theorem clashTo_len (F hs : List (List UInt8)) (i : Nat) : (clashTo F hs i).length ≤ i * hs.length := by
  induction i with
  | zero => simp [clashTo]
  | succ i ih =>
    rw [← clashTo_step, List.length_append, Nat.succ_mul]
    exact Nat.add_le_add ih (clashRow_len _ _ _ _)
end Go.Proofs.Ytiajeheonoebnaa
