/- The walk of the law FnExactLeastTurn: it returns true, and changes nothing that was there. The conditions are that the arguments fit their kinds. -/
import Derived.Test.YtgfppbkibmegoaaLeast
set_option linter.unusedVariables false
set_option linter.unusedSimpArgs false
namespace Go.Proofs.Ytgfppbkibmegoaa
open Go.RowKit

theorem LawLeastTurn.walk (l : List UInt8) (b : Bool) (w : World) (hl : l.length ≤ maxLen) :
    Calls Try.prog 8 #[.string (bs l), .bool b] w fun e w' => e = .returned (.bool true) ∧ Below w.heap.size w w' := by
  unfold maxLen at hl
  by_cases hb : l.length ≤ 1048576
  · go_enter Try.func8, Try.ntmps8
    go_wp2_with (first
      | (go_at_call 24; refine (specLeastTurn_any _ _ _ (by omega)).mono ?_; rintro e w1 ⟨rfl, hb1⟩)
      | (go_at_call 25; refine (implLeastTurn_any _ _ _ (by omega)).mono ?_; rintro e w' ⟨rfl, m2, rfl⟩))
    go_ret
    exact ⟨rfl, below_drewN hb1 _⟩
  · go_enter Try.func8, Try.ntmps8
    go_wp2_with fail
    go_ret
    exact ⟨rfl, Below.refl _ _⟩
end Go.Proofs.Ytgfppbkibmegoaa
