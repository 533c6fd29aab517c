/- The walk of the law FnExactTurnTouch: it returns true, and changes nothing that was there. The conditions are that the arguments fit their kinds. -/
import Derived.Test.YtgfppbkibmegoaaTurn
set_option linter.unusedVariables false
set_option linter.unusedSimpArgs false
namespace Go.Proofs.Ytgfppbkibmegoaa
open Go.RowKit

theorem LawTurnTouch.walk (l : List UInt8) (n : Int) (w : World) (hl : l.length ≤ maxLen) (wn : (Lit.int .i64 n).wf = true) :
    Calls Try.prog 4 #[.string (bs l), .int .i64 n] w fun e w' => e = .returned (.bool true) ∧ Below w.heap.size w w' := by
  unfold maxLen at hl
  by_cases hb : l.length ≤ 1048576
  · go_enter Try.func4, Try.ntmps4
    go_wp2_with (first
      | (go_at_call 16; refine (specTurnTouch_any _ _ _ (by omega)).mono ?_; rintro e w' ⟨rfl, m1, rfl⟩)
      | (go_at_call 17; refine (implTurnTouch_any _ _ _ (by omega)).mono ?_; rintro e w' ⟨rfl, m2, rfl⟩))
    go_ret
    exact ⟨rfl, below_drewN (Below.refl _ _) _⟩
  · go_enter Try.func4, Try.ntmps4
    go_wp2_with fail
    go_ret
    exact ⟨rfl, Below.refl _ _⟩
end Go.Proofs.Ytgfppbkibmegoaa
