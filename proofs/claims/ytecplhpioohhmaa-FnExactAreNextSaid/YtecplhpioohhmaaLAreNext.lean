/- The walk of the law FnExactAreNext: it returns true, and changes nothing that was there. The conditions are that the arguments fit their kinds. -/
import Derived.Test.YtecplhpioohhmaaNx
set_option linter.unusedVariables false
set_option linter.unusedSimpArgs false
set_option maxRecDepth 100000
namespace Go.Proofs.Ytecplhpioohhmaa
open Go.RowKit

set_option maxHeartbeats 2000000 in
theorem LawAreNext.walk (v : Value) (l : List (List UInt8)) (w : World) (hv : InStrs w v l) :
    Calls Try.prog 8 #[v] w fun e w' => e = .returned (.bool true) ∧ Below w.heap.size w w' := by
  obtain ⟨A, n, c, rfl, hn, hr, hs⟩ := hv
  go_enter Try.func8, Try.ntmps8
  go_wp2_with fail
  refine (szStringS_any A n c l 1048576 w hr hn hs (by omega) (by omega)).mono ?_
  rintro e w0 ⟨r, rfl, rfl, hr1, hr2⟩
  by_cases hneg : r < 0
  · go_wp2
    go_ret
    exact ⟨rfl, Below.refl _ _⟩
  have hsum := hr2 (by omega)
  have hln : l.length = n := by have := hr.1; rw [strV_len] at this; exact this
  have hnl : l.length ≤ 1048576 := by omega
  have hnn : n ≤ 1048576 := by omega
  have hsl : ∀ s ∈ l, s.length ≤ 1048576 := fun s h => by have := totL_mem h; omega
  have Hsl := hid hsl
  have HS := hid hs
  have HR := hid hr
  clear hsl hs hr hr1 hr2 hsum hln hn
  go_wp2_with fail
  refine (toStringS_any A n c l w HR.out hnn).mono ?_
  rintro e w1 ⟨v1, rfl, o1, b1⟩
  obtain ⟨A1, c1, rfl, _, _, rd1, _⟩ := own_shape o1
  go_wp2_with fail
  refine (specAreNext_any A1 _ c1 l w1 rd1 hnl Hsl.out).mono ?_
  rintro e w2 ⟨rfl, b2⟩
  have B2 := b1.trans (b2.mono b1.size)
  go_wp2_with fail
  refine (toStringS_any A n c l w2 (HR.out.below B2) hnn).mono ?_
  rintro e w3 ⟨v3, rfl, o3, b3⟩
  obtain ⟨A3, c3, rfl, _, _, rd3, _⟩ := own_shape o3
  have B3 := B2.trans (b3.mono B2.size)
  go_wp2_with fail
  refine (implAreNext_any A3 _ c3 l w3 rd3 hnl Hsl.out).mono ?_
  rintro e w4 ⟨rfl, b4⟩
  have B4 := B3.trans (b4.mono B3.size)
  go_wp2_with fail
  refine (toStringS_any A n c l w4 (HR.out.below B4) hnn).mono ?_
  rintro e w5 ⟨v5, rfl, o5, b5⟩
  obtain ⟨A5, c5, rfl, _, _, rd5, _⟩ := own_shape o5
  have B5 := B4.trans (b5.mono B4.size)
  go_wp2_with fail
  refine (eqStringS_any _ _ _ _ _ _ l l _ ((rd3.below b4).below b5) rd5 (by omega) (by omega)).mono ?_
  rintro e w6 ⟨rfl, k6, rfl⟩
  go_wp2_with fail
  go_ret
  exact ⟨rfl, below_drewN B5 _⟩
end Go.Proofs.Ytecplhpioohhmaa

