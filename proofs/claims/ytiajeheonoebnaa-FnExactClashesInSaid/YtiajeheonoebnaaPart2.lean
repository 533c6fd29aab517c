/- Contracts of PartSet and LeastIn themselves. No conditions beyond those stated. -/
import Derived.Test.YtiajeheonoebnaaPart
set_option linter.unusedVariables false
set_option linter.unusedSimpArgs false
set_option maxRecDepth 100000
namespace Go.Proofs.Ytiajeheonoebnaa
open Go.RowKit

def twoB (a b : List UInt8) : Bool := rowB a && rowB b && decide (a.length = b.length)
theorem twoB_row {a b : List UInt8} (h : twoB a b = true) : IsRow a ∧ IsRow b ∧ a.length = b.length := by
  simp only [twoB, Bool.and_eq_true, decide_eq_true_eq] at h
  exact ⟨(rowB_iff a).1 h.1.1, (rowB_iff b).1 h.1.2, h.2⟩
theorem isRowOf_any (n : Nat) (r : List UInt8) (w : World) (hn : n ≤ 140737488351232) (hl : r.length ≤ 140737488351232) :
    Calls Try.prog 48 #[.int .i64 n, .string (bs r)] w fun e w' => e = .returned (.bool (decide (n = r.length) && rowB r)) ∧ w = w' := by
  by_cases h : n = r.length
  · subst h
    go_enter Try.func48, Try.ntmps48
    go_wp2_with (go_at_call 89; refine (goodRow_any _ _ hl).mono ?_; rintro e w' ⟨rfl, rfl⟩)
    go_ret
    exact ⟨ret_bool (by simp), rfl⟩
  · have hli : ((r.length : Int) == (n : Int)) = false := by simp; omega
    have H := hid h
    clear h
    go_enter Try.func48, Try.ntmps48
    go_wp2_with fail
    go_ret
    exact ⟨ret_bool (by simp [H.out]), rfl⟩

/-- What PartSet answers. -/
def partSetR (e x : List UInt8) : List (List UInt8) × Bool := if twoB e x = true then (sortL (setTo e x (ordL e)), true) else ([], false)
theorem partSetR_le (e x : List UInt8) : (partSetR e x).1.length ≤ 840 := by
  unfold partSetR
  split
  · rename_i h
    rw [sortL_len, setTo_len]
    exact ord_le (twoB_row h).1
  · simp
end Go.Proofs.Ytiajeheonoebnaa
