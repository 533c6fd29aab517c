/- The walk of the law FnExactSpliceOf: it returns true, and changes nothing that was there. The conditions are that the arguments fit their kinds. -/
import Derived.Test.YtgfppbkibmegoaaSplice
set_option linter.unusedVariables false
set_option linter.unusedSimpArgs false
namespace Go.Proofs.Ytgfppbkibmegoaa
open Go.RowKit

theorem LawSpliceOf.walk (l : List UInt8) (a : Int) (w : World) (hl : l.length ≤ maxLen) (wa : (Lit.int .i64 a).wf = true) :
    Calls Try.prog 5 #[.string (bs l), .int .i64 a] w fun e w' => e = .returned (.bool true) ∧ Below w.heap.size w w' := by
  unfold maxLen at hl
  by_cases hb : l.length ≤ 1048576
  · go_enter Try.func5, Try.ntmps5
    go_wp2_with (first
      | (go_at_call 18; refine (specSpliceOf_any _ _ _ (by omega)).mono ?_; rintro e w' ⟨rfl, m1, rfl⟩)
      | (go_at_call 19; refine (implSpliceOf_any _ _ _ (by omega)).mono ?_; rintro e w' ⟨rfl, m2, rfl⟩))
    go_ret
    exact ⟨rfl, below_drewN (Below.refl _ _) _⟩
  · go_enter Try.func5, Try.ntmps5
    go_wp2_with fail
    go_ret
    exact ⟨rfl, Below.refl _ _⟩
end Go.Proofs.Ytgfppbkibmegoaa
