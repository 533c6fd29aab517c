/- The walk of the law FnExactSplitParts: it returns true, and changes nothing that was there. The conditions are that the arguments fit their kinds. -/
import Derived.Test.YtgfppbkibmegoaaSplit
set_option linter.unusedVariables false
set_option linter.unusedSimpArgs false
set_option maxRecDepth 100000
namespace Go.Proofs.Ytgfppbkibmegoaa
open Go.RowKit

theorem LawSplitParts.walk (l : List UInt8) (w : World) (hl : l.length ≤ maxLen) :
    Calls Try.prog 11 #[.string (bs l)] w fun e w' => e = .returned (.bool true) ∧ Below w.heap.size w w' := by
  unfold maxLen at hl
  by_cases hb : l.length ≤ 1048576
  · go_enter Try.func11, Try.ntmps11
    go_wp2_with (first
      | (go_at_call 36; refine (specSplitParts_any _ _ (by omega)).mono ?_; rintro e w' ⟨rfl, m1, rfl⟩)
      | (go_at_call 37; refine (implSplitParts_any _ _ (by omega)).mono ?_; rintro e w1 ⟨rfl, hb1⟩))
    go_ret
    exact ⟨rfl, (below_drewN (Below.refl _ _) m1).trans hb1⟩
  · go_enter Try.func11, Try.ntmps11
    go_wp2_with fail
    go_ret
    exact ⟨rfl, Below.refl _ _⟩
end Go.Proofs.Ytgfppbkibmegoaa
