/- The walk of the law FnExactPrintParts: it returns true, and changes nothing that was there. The conditions are that the arguments fit their kinds. -/
import Derived.Test.YtgfppbkibmegoaaDoorPr
set_option linter.unusedVariables false
set_option linter.unusedSimpArgs false
set_option maxRecDepth 100000
namespace Go.Proofs.YtgfppbkibmegoaaDoor
open Go.RowKit

theorem LawPrintParts.walk (l : List UInt8) (w : World) (hl : l.length ≤ maxLen) :
    Calls Tryd.prog 3 #[.string (bs l)] w fun e w' => e = .returned (.bool true) ∧ Below w.heap.size w w' := by
  unfold maxLen at hl
  by_cases hb : l.length ≤ 1048576
  · go_enter Tryd.func3, Tryd.ntmps3
    go_wp2_with (first
      | (go_at_call 4; refine (specPrintParts_any _ _ (by omega)).mono ?_; rintro e w' ⟨rfl, hb0⟩)
      | (go_at_call 5; refine (implPrintParts_any _ _ (by omega)).mono ?_; rintro e w1 ⟨rfl, hb1⟩))
    go_ret
    exact ⟨rfl, hb0.trans (hb1.mono hb0.size)⟩
  · go_enter Tryd.func3, Tryd.ntmps3
    go_wp2_with fail
    go_ret
    exact ⟨rfl, Below.refl _ _⟩
end Go.Proofs.YtgfppbkibmegoaaDoor
