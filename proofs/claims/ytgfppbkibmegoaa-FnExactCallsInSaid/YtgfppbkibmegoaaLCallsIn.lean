/- The walk of the law FnExactCallsIn: it returns true, and changes nothing that was there. The conditions are that the arguments fit their kinds. -/
import Derived.Test.YtgfppbkibmegoaaCallsIn
import Derived.Test.YtgfppbkibmegoaaHelp2
set_option linter.unusedVariables false
set_option linter.unusedSimpArgs false
set_option maxRecDepth 100000
namespace Go.Proofs.Ytgfppbkibmegoaa
open Go.RowKit

theorem callsInR_le (l : List UInt8) : (callsInR l).1.length ≤ 3 := by
  unfold callsInR; split <;> simp

theorem LawCallsIn.walk (l : List UInt8) (w : World) (hl : l.length ≤ maxLen) :
    Calls Try.prog 10 #[.string (bs l)] w fun e w' => e = .returned (.bool true) ∧ Below w.heap.size w w' := by
  unfold maxLen at hl
  by_cases hb : l.length ≤ 1048576
  · have hle := callsInR_le l
    obtain ⟨R, hR⟩ : ∃ R, R = callsInR l := ⟨_, rfl⟩
    rw [← hR] at hle
    have hR := hid hR
    obtain ⟨zs, ok⟩ := R
    go_enter Try.func10, Try.ntmps10
    go_wp2_with fail
    refine (specCallsIn_any l w (by omega)).mono ?_
    rw [← hR.out]
    rintro e w1 ⟨v1, rfl, o1, b1⟩
    obtain ⟨A1, c1, rfl, _, _, rd1, _⟩ := own_shape o1
    go_wp2_with fail
    refine (implCallsIn_any l w1 (by omega)).mono ?_
    rw [← hR.out]
    rintro e w2 ⟨v2, rfl, o2, b2⟩
    have hsz12 := b2.size
    obtain ⟨A2, c2, rfl, _, _, rd2, _⟩ := own_shape o2
    go_wp2_with fail
    refine (eqIntS_any _ _ _ _ _ _ zs zs _ rd2 (rd1.below b2) (by omega) (by omega)).mono ?_
    rintro e w3 ⟨rfl, k3, rfl⟩
    go_wp2_with fail
    refine (markIntS_any _ _ 1 _ zs _ _ (own_drewN o2 k3) rfl (by omega)).mono ?_
    rintro e w4 ⟨rfl, o4, g4⟩
    have b4 : Below w1.heap.size (w2.drewN k3) w4 := below_of_grown (own_drewN o2 k3) g4 hsz12
    have b14 : Below w1.heap.size w1 w4 := (below_drewN b2 k3).trans b4
    have hsz14 := b14.size
    obtain ⟨A4, c4, e4, _, _, rd4, _⟩ := own_shape o4
    obtain ⟨rfl, rfl⟩ : A2 = A4 ∧ c2 = c4 := by injection e4 with e4a e4b e4c; exact ⟨e4a, e4c⟩
    clear e4
    go_wp2_with fail
    refine (heldIntS_any _ _ _ 1 _ _ rd4 rfl (by omega)).mono ?_
    rintro e w5 ⟨rfl, rfl⟩
    go_wp2_with fail
    refine (implCallsIn_any l w4 (by omega)).mono ?_
    rw [← hR.out]
    rintro e w6 ⟨v6, rfl, o6, b6⟩
    have b16 : Below w1.heap.size w1 w6 := b14.trans (b6.mono hsz14)
    obtain ⟨A6, c6, rfl, _, _, rd6, _⟩ := own_shape o6
    go_wp2_with fail
    refine (eqIntS_any _ _ _ _ _ _ zs zs _ rd6 (rd1.below b16) (by omega) (by omega)).mono ?_
    rintro e w7 ⟨rfl, k7, rfl⟩
    go_wp2_with fail
    refine (heldIntS_any _ _ _ 1 _ _ ((rd4.below b6).drewN k7) rfl (by omega)).mono ?_
    rintro e w8 ⟨rfl, rfl⟩
    go_wp2_with fail
    go_ret
    exact ⟨rfl, (b1.trans (b16.mono b1.size)).trans (below_drewN (Below.refl _ _) k7)⟩
  · go_enter Try.func10, Try.ntmps10
    go_wp2_with fail
    go_ret
    exact ⟨rfl, Below.refl _ _⟩
end Go.Proofs.Ytgfppbkibmegoaa
