/- The walk of the law FnExactReadNotation: it returns true, and changes nothing that was there. The conditions are that the arguments fit their kinds. -/
import Derived.Test.YtamcopnghjoboaaNotI
import Derived.Test.YtamcopnghjoboaaNotSp
import Derived.Test.YtamcopnghjoboaaHelp2
set_option linter.unusedVariables false
set_option linter.unusedSimpArgs false
set_option maxRecDepth 100000
namespace Go.Proofs.Ytamcopnghjoboaa
open Go.RowKit

set_option maxHeartbeats 4000000 in
theorem LawReadNotation.walk (n : Int) (l : List UInt8) (w : World) (wn : (Lit.int .i64 n).wf = true) (hl : l.length ≤ maxLen) :
    Calls Try.prog 4 #[.int .i64 n, .string (bs l)] w fun e w' => e = .returned (.bool true) ∧ Below w.heap.size w w' := by
  unfold maxLen at hl
  by_cases hb : l.length ≤ 1048576
  · have GS := fun w0 => hid (specRead_any n l w0 hb)
    have GI := fun w0 => hid (implRead_any n l w0 hb)
    have hzs := readR_le n l
    generalize readR n l = R at *
    obtain ⟨zs, a, b, ok⟩ := R
    dsimp only [ResN] at *
    go_enter Try.func4, Try.ntmps4
    go_wp2_with fail
    refine (GS _).out.mono ?_
    rintro e w2 ⟨v2, rfl, o2, b2⟩
    obtain ⟨A2, c2, rfl, _, _, rd2, _⟩ := own_shape o2
    go_wp2_with fail
    refine (GI _).out.mono ?_
    rintro e w4 ⟨v4, rfl, o4, b4⟩
    obtain ⟨A4, c4, rfl, _, _, rd4, fr4⟩ := own_shape o4
    go_wp2_with fail
    refine (eqStringS_any _ _ _ _ _ _ zs zs _ rd4 (rd2.below b4) (by omega) (by omega)).mono ?_
    rintro e w4' ⟨rfl, k4, rfl⟩
    have B24 := below_drewN b4 k4
    go_wp2_with fail
    refine (markStringS_any _ _ 1 _ zs _ _ (own_drewN o4 k4) rfl (by omega)).mono ?_
    rintro e w7 ⟨rfl, o47, g7⟩
    have B27 : Below w2.heap.size w2 w7 := B24.trans ((below_of_grown (own_drewN o4 k4) g7 b4.size).mono (Nat.le_refl _))
    obtain ⟨A47, c47, e47, _, _, rd47, _⟩ := own_shape o47
    obtain ⟨rfl, rfl⟩ : A4 = A47 ∧ c4 = c47 := by injection e47 with e4a e4b e4c; exact ⟨e4a, e4c⟩
    clear e47
    go_wp2_with fail
    refine (heldStringS_any _ _ _ 1 _ _ rd47 rfl (by omega)).mono ?_
    rintro e w8 ⟨rfl, b8⟩
    have B28 : Below w2.heap.size w2 w8 := B27.trans (b8.mono B27.size)
    go_wp2_with fail
    refine (GI _).out.mono ?_
    rintro e w10 ⟨v10, rfl, o10, b10⟩
    obtain ⟨A10, c10, rfl, _, _, rd10, _⟩ := own_shape o10
    have B210 : Below w2.heap.size w2 w10 := B28.trans (b10.mono B28.size)
    go_wp2_with fail
    refine (eqStringS_any _ _ _ _ _ _ zs zs _ rd10 (rd2.below B210) (by omega) (by omega)).mono ?_
    rintro e w10' ⟨rfl, k10, rfl⟩
    go_wp2_with fail
    refine (heldStringS_any _ _ _ 1 _ _ ((rd47.below (b8.trans (b10.mono b8.size))).drewN k10) rfl (by omega)).mono ?_
    rintro e w11 ⟨rfl, b11⟩
    have B011 := (b2.trans ((below_drewN B210 k10).mono b2.size)).trans (b11.mono (Nat.le_trans b2.size B210.size))
    go_wp2_with fail
    go_ret
    exact ⟨rfl, B011⟩
  · go_enter Try.func4, Try.ntmps4
    go_wp2_with fail
    go_ret
    exact ⟨rfl, Below.refl _ _⟩
end Go.Proofs.Ytamcopnghjoboaa
