/- The walk of the law FnExactLeastIn: it returns true, and changes nothing that was there. The conditions are that the arguments fit their kinds. -/
import Derived.Test.YtecplhpioohhmaaLeastIn
set_option linter.unusedVariables false
set_option linter.unusedSimpArgs false
set_option maxRecDepth 100000
namespace Go.Proofs.Ytecplhpioohhmaa
open Go.RowKit

theorem LawLeastIn.walk (a x : List UInt8) (w : World) (wa : a.length ≤ maxLen) (wx : x.length ≤ maxLen) :
    Calls Try.prog 11 #[.string (bs a), .string (bs x)] w fun e w' => e = .returned (.bool true) ∧ Below w.heap.size w w' := by
  go_enter Try.func11, Try.ntmps11
  by_cases h1 : 1048576 < a.length
  · go_wp2
    go_ret
    exact ⟨rfl, Below.refl _ _⟩
  by_cases h2 : 1048576 < x.length
  · go_wp2
    go_ret
    exact ⟨rfl, Below.refl _ _⟩
  obtain ⟨R, hR⟩ : ∃ R, R = leastInR a x := ⟨_, rfl⟩
  have HR := hid hR
  clear hR
  obtain ⟨z, ok⟩ := R
  go_wp2_with fail
  refine (specLeastIn_any a x w (by omega) (by omega)).mono ?_
  rw [← HR.out]
  rintro e w1 ⟨rfl, b1⟩
  go_wp2_with fail
  refine (implLeastIn_any a x w1 (by omega) (by omega)).mono ?_
  rw [← HR.out]
  rintro e w2 ⟨rfl, b2⟩
  go_wp2_with fail
  go_ret
  exact ⟨rfl, b1.trans (b2.mono b1.size)⟩
end Go.Proofs.Ytecplhpioohhmaa
