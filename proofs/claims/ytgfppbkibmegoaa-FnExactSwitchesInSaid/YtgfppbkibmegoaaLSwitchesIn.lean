/- The walk of the law FnExactSwitchesIn: it returns true, and changes nothing that was there. The conditions are that the arguments fit their kinds. -/
import Derived.Test.YtgfppbkibmegoaaSplice2
set_option linter.unusedVariables false
set_option linter.unusedSimpArgs false
namespace Go.Proofs.Ytgfppbkibmegoaa
open Go.RowKit

theorem LawSwitchesIn.walk (l : List UInt8) (w : World) (hl : l.length ≤ maxLen) :
    Calls Try.prog 7 #[.string (bs l)] w fun e w' => e = .returned (.bool true) ∧ Below w.heap.size w w' := by
  unfold maxLen at hl
  by_cases hb : l.length ≤ 1048576
  · go_enter Try.func7, Try.ntmps7
    go_wp2_with (first
      | (go_at_call 22; refine (specSwitchesIn_any _ _ (by omega)).mono ?_; rintro e w' ⟨rfl, m1, rfl⟩)
      | (go_at_call 23; refine (implSwitchesIn_any _ _ (by omega)).mono ?_; rintro e w' ⟨rfl, rfl⟩))
    go_ret
    exact ⟨rfl, below_drewN (Below.refl _ _) _⟩
  · go_enter Try.func7, Try.ntmps7
    go_wp2_with fail
    go_ret
    exact ⟨rfl, Below.refl _ _⟩
end Go.Proofs.Ytgfppbkibmegoaa
