/- Plain laws: the row with a rank. No conditions beyond those stated. -/
import Derived.Test.YtecplhpioohhmaaOften
set_option linter.unusedVariables false
set_option linter.unusedSimpArgs false
set_option maxRecDepth 100000
namespace Go.Proofs.Ytecplhpioohhmaa
open Go.RowKit

/-- The bytes in the order of rank k among those of m bytes that are left. -/
def unrF : Nat → List UInt8 → Nat → List UInt8
  | 0, _, _ => []
  | m + 1, rest, k => rest.getD (k / factL m) 0 :: unrF m (rest.take (k / factL m) ++ rest.drop (k / factL m + 1)) (k % factL m)
/-- The row of rank k. -/
def unrL (n k : Nat) : List UInt8 := unrF n (roundsL n) k
theorem unrF_len : ∀ m rest k, (unrF m rest k).length = m
  | 0, _, _ => rfl
  | m + 1, rest, k => by simp [unrF, unrF_len m]
theorem unrL_len (n k : Nat) : (unrL n k).length = n := unrF_len n _ k
/-- The rows of stage n whose ranks among the first k occur not at all. -/
def missTo (n : Nat) (l : List Int) (k : Nat) : List (List UInt8) := ((List.range k).filter fun i => l.getD i 0 == 0).map (unrL n)
theorem missTo_zero (n : Nat) (l : List Int) : missTo n l 0 = [] := rfl
theorem missTo_yes (n : Nat) (l : List Int) (k : Nat) (h : (l.getD k 0 == 0) = true) : missTo n l k ++ [unrL n k] = missTo n l (k + 1) := by
  unfold missTo
  rw [List.range_succ, List.filter_append, List.map_append]
  simp only [List.filter_cons, h, List.filter_nil, if_true, List.map_cons, List.map_nil]
theorem missTo_no (n : Nat) (l : List Int) (k : Nat) (h : (l.getD k 0 == 0) = false) : missTo n l k = missTo n l (k + 1) := by
  unfold missTo
  rw [List.range_succ, List.filter_append, List.map_append]
  simp only [List.filter_cons, h, List.filter_nil, List.map_nil, List.append_nil]
  simp
theorem missTo_len (n : Nat) (l : List Int) (k : Nat) : (missTo n l k).length ≤ k := by
  unfold missTo
  rw [List.length_map]
  exact Nat.le_trans (List.length_filter_le _ _) (by simp)
end Go.Proofs.Ytecplhpioohhmaa
