/- The walk of the law FnExactCountChanges: it returns true, and changes nothing that was there. The conditions are that the arguments fit their kinds. -/
import Derived.Test.YtamcopnghjoboaaNotC
set_option linter.unusedVariables false
set_option linter.unusedSimpArgs false
set_option maxRecDepth 100000
namespace Go.Proofs.Ytamcopnghjoboaa
open Go.RowKit

set_option maxHeartbeats 2000000 in
theorem LawCountChanges.walk (n : Int) (l : List UInt8) (w : World) (wn : (Lit.int .i64 n).wf = true) (hl : l.length ≤ maxLen) :
    Calls Try.prog 3 #[.int .i64 n, .string (bs l)] w fun e w' => e = .returned (.bool true) ∧ Below w.heap.size w w' := by
  unfold maxLen at hl
  by_cases hb : l.length ≤ 1048576
  · have GS := fun w0 => hid (specCount_any n l w0 hb)
    have GI := fun w0 => hid (implCount_any n l w0 hb)
    have hle := readR_le n l
    generalize readR n l = R at *
    obtain ⟨zs, a, b, ok⟩ := R
    dsimp only at *
    go_enter Try.func3, Try.ntmps3
    go_wp2_with fail
    refine (GS _).out.mono ?_
    rintro e w1 ⟨rfl, b1⟩
    go_wp2_with fail
    refine (GI _).out.mono ?_
    rintro e w2 ⟨rfl, b2⟩
    go_wp2_with fail
    go_ret
    exact ⟨rfl, b1.trans (b2.mono b1.size)⟩
  · go_enter Try.func3, Try.ntmps3
    go_wp2_with fail
    go_ret
    exact ⟨rfl, Below.refl _ _⟩
end Go.Proofs.Ytamcopnghjoboaa
