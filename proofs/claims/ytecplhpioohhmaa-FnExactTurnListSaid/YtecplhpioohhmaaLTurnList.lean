/- The walk of the law FnExactTurnList: it returns true, and changes nothing that was there. The conditions are that the arguments fit their kinds. -/
import Derived.Test.YtecplhpioohhmaaTL
set_option linter.unusedVariables false
set_option linter.unusedSimpArgs false
set_option maxRecDepth 100000
namespace Go.Proofs.Ytecplhpioohhmaa
open Go.RowKit

set_option maxHeartbeats 2000000 in
theorem LawTurnList.walk (v : Value) (l : List (List UInt8)) (k : Int) (w : World) (hv : InStrs w v l) (wk : (Lit.int .i64 k).wf = true) :
    Calls Try.prog 6 #[v, .int .i64 k] w fun e w' => e = .returned (.bool true) ∧ Below w.heap.size w w' := by
  obtain ⟨A, n, c, rfl, hn, hr, hs⟩ := hv
  go_enter Try.func6, Try.ntmps6
  go_wp2_with fail
  refine (szStringS_any A n c l 1048576 w hr hn hs (by omega) (by omega)).mono ?_
  rintro e w0 ⟨r, rfl, rfl, hr1, hr2⟩
  by_cases hneg : r < 0
  · go_wp2
    go_ret
    exact ⟨rfl, Below.refl _ _⟩
  have hsum := hr2 (by omega)
  have hln : l.length = n := by have := hr.1; rw [strV_len] at this; exact this
  have hnl : l.length ≤ 1048576 := by omega
  have hnn : n ≤ 1048576 := by omega
  have hsl : ∀ s ∈ l, s.length ≤ 1048576 := fun s h => by have := totL_mem h; omega
  have Hsl := hid hsl
  have HS := hid hs
  have HR := hid hr
  clear hsl hs hr hr1 hr2 hsum hln hn
  obtain ⟨R, hR⟩ : ∃ R, R = turnListR l k := ⟨_, rfl⟩
  have hzs : R.1.length ≤ 4000000 := by rw [hR]; exact turnListR_le l k hnl
  have HRR := hid hR
  clear hR
  obtain ⟨zs, ok⟩ := R
  go_wp2_with fail
  refine (toStringS_any A n c l w HR.out hnn).mono ?_
  rintro e w1 ⟨v1, rfl, o1, b1⟩
  obtain ⟨A1, c1, rfl, hcap1, _, rd1, _⟩ := own_shape o1
  go_wp2_with fail
  refine (specTurnList_any A1 _ c1 l k w1 rd1 hcap1 hnl Hsl.out).mono ?_
  rw [← HRR.out]
  rintro e w2 ⟨v2, rfl, o2, b2⟩
  obtain ⟨A2, c2, rfl, _, _, rd2, _⟩ := own_shape o2
  have B02 := b1.trans (b2.mono b1.size)
  go_wp2_with fail
  refine (toStringS_any A n c l w2 (HR.out.below B02) hnn).mono ?_
  rintro e w3 ⟨v3, rfl, o3, b3⟩
  obtain ⟨A3, c3, rfl, hcap3, _, rd3, _⟩ := own_shape o3
  go_wp2_with fail
  refine (implTurnList_any A3 _ c3 l k w3 rd3 hcap3 hnl Hsl.out).mono ?_
  rw [← HRR.out]
  rintro e w4 ⟨v4, rfl, o4, b4⟩
  obtain ⟨A4, c4, rfl, _, _, rd4, fr4⟩ := own_shape o4
  have B24 := b3.trans (b4.mono b3.size)
  go_wp2_with fail
  refine (eqStringS_any _ _ _ _ _ _ zs zs _ rd4 (rd2.below B24) (by omega) (by omega)).mono ?_
  rintro e w4' ⟨rfl, k4, rfl⟩
  have B04 := B02.trans ((below_drewN B24 k4).mono B02.size)
  go_wp2_with fail
  refine (toStringS_any A n c l _ (HR.out.below B04) hnn).mono ?_
  rintro e w5 ⟨v5, rfl, o5, b5⟩
  obtain ⟨A5, c5, rfl, _, _, rd5, _⟩ := own_shape o5
  have B25 : Below w2.heap.size w2 w5 := (below_drewN B24 k4).trans (b5.mono B24.size)
  have B35 : Below w3.heap.size w3 w5 := (below_drewN b4 k4).trans (b5.mono b4.size)
  have B45 : Below w4.heap.size w4 w5 := (below_drewN (Below.refl _ _) k4).trans b5
  go_wp2_with fail
  refine (eqStringS_any _ _ _ _ _ _ l l _ (rd3.below B35) rd5 (by omega) (by omega)).mono ?_
  rintro e w5' ⟨rfl, k5, rfl⟩
  have o35 := own_below o3 (below_drewN B35 k5)
  go_wp2_with fail
  refine (markStringS_any _ _ 1 _ l _ _ o35 rfl (by omega)).mono ?_
  rintro e w6 ⟨rfl, o36, g6⟩
  have B26 : Below w2.heap.size w2 w6 := (below_drewN B25 k5).trans (below_of_grown o35 g6 B25.size)
  have o46 := own_other (own_below o4 (below_drewN B45 k5)) g6 (fun q hq hq2 => by
    have h1 := (o3.lt q hq2).2
    have h2 := (o4.lt q hq).1
    omega)
  obtain ⟨A46, c46, e46, _, _, rd46, _⟩ := own_shape o46
  obtain ⟨rfl, rfl⟩ : A4 = A46 ∧ c4 = c46 := by injection e46 with e4a e4b e4c; exact ⟨e4a, e4c⟩
  clear e46
  go_wp2_with fail
  refine (eqStringS_any _ _ _ _ _ _ zs zs _ rd46 (rd2.below B26) (by omega) (by omega)).mono ?_
  rintro e w6' ⟨rfl, k6, rfl⟩
  go_wp2_with fail
  refine (markStringS_any _ _ 1 _ zs _ _ (own_drewN o46 k6) rfl (by omega)).mono ?_
  rintro e w7 ⟨rfl, o47, g7⟩
  have B27 : Below w2.heap.size w2 w7 := (below_drewN B26 k6).trans ((below_of_grown (own_drewN o46 k6) g7 (Nat.le_trans B35.size g6.size)).mono b3.size)
  obtain ⟨A47, c47, e47, _, _, rd47, _⟩ := own_shape o47
  obtain ⟨rfl, rfl⟩ : A4 = A47 ∧ c4 = c47 := by injection e47 with e4a e4b e4c; exact ⟨e4a, e4c⟩
  clear e47
  go_wp2_with fail
  refine (heldStringS_any _ _ _ 1 _ _ rd47 rfl (by omega)).mono ?_
  rintro e w8 ⟨rfl, b8⟩
  have B28 : Below w2.heap.size w2 w8 := B27.trans (b8.mono B27.size)
  have B08 := B02.trans (B28.mono B02.size)
  go_wp2_with fail
  refine (toStringS_any A n c l w8 (HR.out.below B08) hnn).mono ?_
  rintro e w9 ⟨v9, rfl, o9, b9⟩
  obtain ⟨A9, c9, rfl, hcap9, _, rd9, _⟩ := own_shape o9
  go_wp2_with fail
  refine (implTurnList_any A9 _ c9 l k w9 rd9 hcap9 hnl Hsl.out).mono ?_
  rw [← HRR.out]
  rintro e w10 ⟨v10, rfl, o10, b10⟩
  obtain ⟨A10, c10, rfl, _, _, rd10, _⟩ := own_shape o10
  have B810 : Below w8.heap.size w8 w10 := b9.trans (b10.mono b9.size)
  have B210 : Below w2.heap.size w2 w10 := B28.trans (B810.mono B28.size)
  go_wp2_with fail
  refine (eqStringS_any _ _ _ _ _ _ zs zs _ rd10 (rd2.below B210) (by omega) (by omega)).mono ?_
  rintro e w10' ⟨rfl, k10, rfl⟩
  go_wp2_with fail
  refine (heldStringS_any _ _ _ 1 _ _ ((rd47.below (b8.trans (B810.mono b8.size))).drewN k10) rfl (by omega)).mono ?_
  rintro e w11 ⟨rfl, b11⟩
  have B011 := (B02.trans ((below_drewN B210 k10).mono B02.size)).trans (b11.mono (Nat.le_trans B02.size B210.size))
  go_wp2_with fail
  go_ret
  exact ⟨rfl, B011⟩
end Go.Proofs.Ytecplhpioohhmaa

