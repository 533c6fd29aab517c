/- The walk of the law FnExactPartSet: it returns true, and changes nothing that was there. The conditions are that the arguments fit their kinds. -/
import Derived.Test.YtecplhpioohhmaaPart2
import Derived.Test.YtecplhpioohhmaaHelp2
set_option linter.unusedVariables false
set_option linter.unusedSimpArgs false
set_option maxRecDepth 100000
namespace Go.Proofs.Ytecplhpioohhmaa
open Go.RowKit


theorem LawPartSet.walk (a x : List UInt8) (w : World) (wa : a.length ≤ maxLen) (wx : x.length ≤ maxLen) :
    Calls Try.prog 10 #[.string (bs a), .string (bs x)] w fun e w' => e = .returned (.bool true) ∧ Below w.heap.size w w' := by
  go_enter Try.func10, Try.ntmps10
  by_cases h1 : 1048576 < a.length
  · go_wp2
    go_ret
    exact ⟨rfl, Below.refl _ _⟩
  by_cases h2 : 1048576 < x.length
  · go_wp2
    go_ret
    exact ⟨rfl, Below.refl _ _⟩
  have hle := partSetR_le a x
  obtain ⟨R, hR⟩ : ∃ R, R = partSetR a x := ⟨_, rfl⟩
  rw [← hR] at hle
  have HR := hid hR
  clear hR
  obtain ⟨zs, ok⟩ := R
  go_wp2_with fail
  refine (specPartSet_any a x w (by omega) (by omega)).mono ?_
  rw [← HR.out]
  rintro e w1 ⟨v1, rfl, o1, b1⟩
  obtain ⟨A1, c1, rfl, _, _, rd1, _⟩ := own_shape o1
  go_wp2_with fail
  refine (implPartSet_any a x w1 (by omega) (by omega)).mono ?_
  rw [← HR.out]
  rintro e w2 ⟨v2, rfl, o2, b2⟩
  have hsz12 := b2.size
  obtain ⟨A2, c2, rfl, _, _, rd2, _⟩ := own_shape o2
  go_wp2_with fail
  refine (eqStringS_any _ _ _ _ _ _ zs zs _ rd2 (rd1.below b2) (by omega) (by omega)).mono ?_
  rintro e w3 ⟨rfl, k3, rfl⟩
  go_wp2_with fail
  refine (markStringS_any _ _ 1 _ zs _ _ (own_drewN o2 k3) rfl (by omega)).mono ?_
  rintro e w4 ⟨rfl, o4, g4⟩
  have b4 : Below w1.heap.size (w2.drewN k3) w4 := below_of_grown (own_drewN o2 k3) g4 hsz12
  have b14 : Below w1.heap.size w1 w4 := (below_drewN b2 k3).trans b4
  have hsz14 := b14.size
  obtain ⟨A4, c4, e4, _, _, rd4, _⟩ := own_shape o4
  obtain ⟨rfl, rfl⟩ : A2 = A4 ∧ c2 = c4 := by injection e4 with e4a e4b e4c; exact ⟨e4a, e4c⟩
  clear e4
  go_wp2_with fail
  refine (heldStringS_any _ _ _ 1 _ _ rd4 rfl (by omega)).mono ?_
  rintro e w5 ⟨rfl, b5⟩
  go_wp2_with fail
  refine (implPartSet_any a x w5 (by omega) (by omega)).mono ?_
  rw [← HR.out]
  rintro e w6 ⟨v6, rfl, o6, b6⟩
  have b16 : Below w1.heap.size w1 w6 := b14.trans ((b5.trans (b6.mono b5.size)).mono hsz14)
  obtain ⟨A6, c6, rfl, _, _, rd6, _⟩ := own_shape o6
  go_wp2_with fail
  refine (eqStringS_any _ _ _ _ _ _ zs zs _ rd6 (rd1.below b16) (by omega) (by omega)).mono ?_
  rintro e w7 ⟨rfl, k7, rfl⟩
  go_wp2_with fail
  refine (heldStringS_any _ _ _ 1 _ _ ((rd4.below (b5.trans (b6.mono b5.size))).drewN k7) rfl (by omega)).mono ?_
  rintro e w8 ⟨rfl, b8⟩
  go_wp2_with fail
  go_ret
  exact ⟨rfl, (b1.trans (b16.mono b1.size)).trans ((below_drewN (Below.refl _ _) k7).trans (b8.mono (Nat.le_trans b1.size b16.size)))⟩
end Go.Proofs.Ytecplhpioohhmaa
