/- The walk of the law FnExactBalanceOf: it returns true, and changes nothing that was there. The conditions are that the arguments fit their kinds. -/
import Derived.Test.YtecplhpioohhmaaBal
import Derived.Test.YtecplhpioohhmaaMs3
set_option linter.unusedVariables false
set_option linter.unusedSimpArgs false
set_option maxRecDepth 100000
namespace Go.Proofs.Ytecplhpioohhmaa
open Go.RowKit

set_option maxHeartbeats 2000000 in
theorem LawBalanceOf.walk (v : Value) (ms : List Meth) (l : List UInt8) (w : World) (hv : InMethods w v ms) (wl : l.length ≤ maxLen) :
    Calls Try.prog 4 #[v, .string (bs l)] w fun e w' => e = .returned (.bool true) ∧ Below w.heap.size w w' := by
  have HV := hid hv
  have SZ := hid (fun w0 (h : InMethods w0 v ms) => szMethodS_any v ms 1048576 w0 h (by omega) (by omega))
  obtain ⟨A, n, c, rfl, hh1, hln, hh2⟩ := hv
  subst hln
  clear hh1 hh2
  by_cases ll : l.length ≤ 1048576
  case neg =>
    have hi : (1048576 : Int) < (l.length : Int) := by omega
    go_enter Try.func4, Try.ntmps4
    go_wp2
    go_ret
    exact ⟨rfl, Below.refl _ _⟩
  have il : ¬ (1048576 : Int) < (l.length : Int) := by omega
  go_enter Try.func4, Try.ntmps4
  go_wp2_with fail
  refine (SZ.out _ HV.out).mono ?_
  rintro e w1 ⟨r, rfl, b1, hr1, hr2⟩
  have HB1 := hid b1
  clear b1
  by_cases hneg : r < 0
  · go_wp2
    go_ret
    exact ⟨rfl, HB1.out⟩
  have hsum := hr2 (by omega)
  have hm : ms.length ≤ 1048576 := by omega
  have hch := hid (methods_ok HV.out (by omega))
  have htc := hid (show totC ms ≤ 1048576 by have := totC_le ms; omega)
  have TM := hid (fun w0 (b0 : Below w.heap.size w w0) => toMethodS_any _ ms w0 (inMethods_below HV.out b0) hm hch.out)
  clear hsum hr2
  obtain ⟨R, hR⟩ : ∃ R, R = balR ms.length l := ⟨_, rfl⟩
  have hzs : R.1.length ≤ 4000000 := by rw [hR]; exact Nat.le_trans (balR_le _ _) (by omega)
  have HRR := hid hR
  clear hR
  obtain ⟨zs, ok⟩ := R
  go_wp2_with fail
  refine (TM.out _ HB1.out).mono ?_
  rintro e w2 ⟨g2, vs2, rfl, _, _, m2, b2⟩
  have HB2 := hid (HB1.out.trans (b2.mono HB1.out.size))
  clear b2 m2
  go_wp2_with fail
  refine (specBal_any _ _ _ l _ ll hm).mono ?_
  rw [← HRR.out]
  rintro e w3 ⟨v2, rfl, o2, b3⟩
  obtain ⟨A2, c2, rfl, _, _, rd2, _⟩ := own_shape o2
  have HB3 := hid (HB2.out.trans (b3.mono HB2.out.size))
  have RD2 := hid rd2
  clear b3 rd2 o2
  go_wp2_with fail
  refine (TM.out _ HB3.out).mono ?_
  rintro e w4 ⟨g4, vs4, rfl, hg4, r4, m4, b4⟩
  have HB4 := hid (HB3.out.trans (b4.mono HB3.out.size))
  have HG4 := hid hg4
  have R4 := hid r4
  have M4 := hid m4
  have B34 := hid b4
  have HG4L : g4 < w4.heap.size := r4.1
  clear b4 m4 r4 hg4
  go_wp2_with fail
  refine (implBal_any _ _ _ l _ ll hm).mono ?_
  rw [← HRR.out]
  rintro e w5 ⟨v4, rfl, o4, b5⟩
  obtain ⟨A4, c4, rfl, _, _, rd4, fr4⟩ := own_shape o4
  have HB5 := hid (HB4.out.trans (b5.mono HB4.out.size))
  have B45 := hid b5
  have B35 := hid (B34.out.trans (b5.mono B34.out.size))
  have O4 := hid o4
  have RD4 := hid rd4
  clear b5 o4 rd4 fr4
  go_wp2_with fail
  refine (eqIntS_any _ _ _ _ _ _ zs zs _ RD4.out (RD2.out.below B35.out) (by omega) (by omega)).mono ?_
  rintro e w5' ⟨rfl, k5, rfl⟩
  go_wp2_with fail
  refine (TM.out _ (below_drewN HB5.out k5)).mono ?_
  rintro e w6 ⟨g6, vs6, rfl, _, _, m6, b6⟩
  have B56 := hid ((below_drewN (Below.refl w5.heap.size w5) k5).trans b6)
  have M6 := hid m6
  clear b6 m6
  have HB6 := hid (HB5.out.trans (B56.out.mono HB5.out.size))
  have B46 := hid (B45.out.trans (B56.out.mono B45.out.size))
  have B36 := hid (B35.out.trans (B56.out.mono B35.out.size))
  go_wp2_with fail
  refine (eqMethodS_any g4 g6 ms vs4 vs6 _ (M4.out.below B46.out) M6.out hm hch.out).mono ?_
  rintro e w7 ⟨rfl, b7⟩
  have HB7 := hid (HB6.out.trans (b7.mono HB6.out.size))
  have B47 := hid (B46.out.trans (b7.mono B46.out.size))
  have B37 := hid (B36.out.trans (b7.mono B36.out.size))
  have B57 := hid (B56.out.trans (b7.mono B56.out.size))
  clear b7
  go_wp2_with fail
  refine (markMethodS_any w3.heap.size g4 ms vs4 _ (M4.out.below B47.out) (R4.out.below B47.out) HG4.out hm htc.out w4.heap.size 1 zs.length 3 _ _ (own_below O4.out B57.out) HG4L (fun i hi q hq => ((M4.out.2.1 i hi (by have := M4.out.1; omega)).2.2.2.lt q hq).2)).mono ?_
  rintro e w8 ⟨⟨K, rfl⟩, b8, o48⟩
  have B38 := hid (B37.out.trans b8)
  have hs48 : w4.heap.size ≤ w8.heap.size := Nat.le_trans B47.out.size b8.size
  obtain ⟨A48, c48, e48, _, _, rd48, _⟩ := own_shape o48
  obtain ⟨rfl, rfl⟩ : A4 = A48 ∧ c4 = c48 := by injection e48 with e4a e4b e4c; exact ⟨e4a, e4c⟩
  clear e48
  have HB8 := hid (HB3.out.trans (B38.out.mono HB3.out.size))
  have hK0 : ¬ (K : Int) < 0 := by omega
  have O48 := hid o48
  have RD48 := hid rd48
  clear b8 o48 rd48
  go_wp2_with fail
  refine (eqIntS_any _ _ _ _ _ _ zs zs _ RD48.out (RD2.out.below B38.out) (by omega) (by omega)).mono ?_
  rintro e w8' ⟨rfl, k8, rfl⟩
  go_wp2_with fail
  refine (markIntS_any _ _ 1 _ zs _ _ (own_drewN O48.out k8) rfl (by omega)).mono ?_
  rintro e w9 ⟨rfl, o49, g9⟩
  have B39 := hid ((below_drewN B38.out k8).trans ((below_of_grown (own_drewN O48.out k8) g9 (by first | exact hs48 | exact (show w4.heap.size ≤ w8.heap.size from hs48))).mono B34.out.size))
  obtain ⟨A49, c49, e49, _, _, rd49, _⟩ := own_shape o49
  obtain ⟨rfl, rfl⟩ : A4 = A49 ∧ c4 = c49 := by injection e49 with e4a e4b e4c; exact ⟨e4a, e4c⟩
  clear e49
  have RD49 := hid rd49
  clear rd49 o49 g9
  have HB9 := hid (HB3.out.trans (B39.out.mono HB3.out.size))
  go_wp2_with fail
  refine (heldIntS_any _ _ _ 1 _ _ RD49.out rfl (by omega)).mono ?_
  rintro e w10 ⟨rfl, hw10⟩
  have B910 := hid (show Below w9.heap.size w9 w10 by rw [← hw10]; exact Below.refl _ _)
  clear hw10
  have HB10 := hid (HB9.out.trans (B910.out.mono HB9.out.size))
  have B310 := hid (B39.out.trans (B910.out.mono B39.out.size))
  go_wp2_with fail
  refine (TM.out _ HB10.out).mono ?_
  rintro e w11 ⟨g11, vs11, rfl, _, _, _, b11⟩
  have HB11 := hid (HB10.out.trans (b11.mono HB10.out.size))
  have B1011 := hid b11
  clear b11
  go_wp2_with fail
  refine (implBal_any _ _ _ l _ ll hm).mono ?_
  rw [← HRR.out]
  rintro e w12 ⟨v12, rfl, o12, b12⟩
  obtain ⟨A12, c12, rfl, _, _, rd12, _⟩ := own_shape o12
  have RD12 := hid rd12
  have B1012 := hid (B1011.out.trans (b12.mono B1011.out.size))
  clear b12 o12 rd12
  have B312 := hid (B310.out.trans (B1012.out.mono B310.out.size))
  have HB12 := hid (HB10.out.trans (B1012.out.mono HB10.out.size))
  have B912 := hid (B910.out.trans (B1012.out.mono B910.out.size))
  go_wp2_with fail
  refine (eqIntS_any _ _ _ _ _ _ zs zs _ RD12.out (RD2.out.below B312.out) (by omega) (by omega)).mono ?_
  rintro e w12' ⟨rfl, k12, rfl⟩
  go_wp2_with fail
  refine (heldIntS_any _ _ _ 1 _ _ ((RD49.out.below B912.out).drewN k12) rfl (by omega)).mono ?_
  rintro e w13 ⟨rfl, hw13⟩
  subst hw13
  go_wp2_with fail
  go_ret
  exact ⟨rfl, below_drewN HB12.out k12⟩
end Go.Proofs.Ytecplhpioohhmaa
