/- The walk of the law FnExactGoodSplice: it returns true, and changes nothing that was there. The conditions are that the arguments fit their kinds. -/
import Derived.Test.YtecplhpioohhmaaMs2
import Derived.Test.YtecplhpioohhmaaSplice2
set_option linter.unusedVariables false
set_option linter.unusedSimpArgs false
set_option maxRecDepth 100000
namespace Go.Proofs.Ytecplhpioohhmaa
open Go.RowKit

theorem specGoodSplice_any (A : Option Addr) (n c : Nat) (l : List UInt8) (w : World) (hl : l.length ≤ 1048576) (hn : n ≤ 1048576) :
    Calls Try.prog 15 #[.slice A n c, .string (bs l)] w fun e w' => e = .returned (.bool (isSpliceL n l)) ∧ w = w' := by
  have HG := hid (fun w0 => l14Good_any (n : Int) l w0 hl (by omega) (by omega))
  go_enter Try.func15, Try.ntmps15
  go_wp2_with fail
  refine (HG.out _).mono ?_
  rintro e w' ⟨rfl, rfl⟩
  go_wp2
  go_ret
  exact ⟨rfl, rfl⟩
theorem implGoodSplice_any (A : Option Addr) (n c : Nat) (l : List UInt8) (w : World) (hl : l.length ≤ 1048576) (hn : n ≤ 1048576) :
    Calls Try.prog 17 #[.slice A n c, .string (bs l)] w fun e w' => e = .returned (.bool (isSpliceL n l)) ∧ w = w' := by
  have HG := hid (fun w0 => isSplice_any (n : Int) l w0 hl (by omega) (by omega))
  go_enter Try.func17, Try.ntmps17
  go_wp2_with fail
  refine (HG.out _).mono ?_
  rintro e w' ⟨rfl, rfl⟩
  go_wp2
  go_ret
  exact ⟨rfl, rfl⟩
/-- What a law knows of methods once they are measured. -/
theorem methods_ok {w : World} {v : Value} {ms : List Meth} (hv : InMethods w v ms) (h : ms.length + totM ms ≤ 1048576) : ∀ m ∈ ms, m.ch.length ≤ 1048576 := fun m hm => by
  have := totM_mem hm; omega
set_option maxHeartbeats 2000000 in
theorem LawGoodSplice.walk (v : Value) (ms : List Meth) (l : List UInt8) (w : World) (hv : InMethods w v ms) (wl : l.length ≤ maxLen) :
    Calls Try.prog 3 #[v, .string (bs l)] w fun e w' => e = .returned (.bool true) ∧ Below w.heap.size w w' := by
  have HV := hid hv
  have SZ := hid (fun w0 (h : InMethods w0 v ms) => szMethodS_any v ms 1048576 w0 h (by omega) (by omega))
  obtain ⟨A, n, c, rfl, hh1, hln, hh2⟩ := hv
  subst hln
  clear hh1 hh2
  by_cases ll : l.length ≤ 1048576
  case neg =>
    have hi : (1048576 : Int) < (l.length : Int) := by omega
    go_enter Try.func3, Try.ntmps3
    go_wp2
    go_ret
    exact ⟨rfl, Below.refl _ _⟩
  have il : ¬ (1048576 : Int) < (l.length : Int) := by omega
  go_enter Try.func3, Try.ntmps3
  go_wp2_with fail
  refine (SZ.out _ HV.out).mono ?_
  rintro e w1 ⟨r, rfl, b1, hr1, hr2⟩
  have HB1 := hid b1
  clear b1
  by_cases hneg : r < 0
  · go_wp2
    go_ret
    exact ⟨rfl, HB1.out⟩
  have hsum := hr2 (by omega)
  have hm : ms.length ≤ 1048576 := by omega
  have hch := hid (methods_ok HV.out (by omega))
  have TM := hid (fun w0 (b0 : Below w.heap.size w w0) => toMethodS_any _ ms w0 (inMethods_below HV.out b0) hm hch.out)
  clear hsum hr2
  go_wp2_with fail
  refine (TM.out _ HB1.out).mono ?_
  rintro e w2 ⟨g2, vs2, rfl, _, _, m2, b2⟩
  have HB2 := hid (HB1.out.trans (b2.mono HB1.out.size))
  clear b2 m2
  go_wp2_with fail
  refine (specGoodSplice_any _ _ _ l _ ll hm).mono ?_
  rintro e w' ⟨rfl, rfl⟩
  go_wp2_with fail
  refine (TM.out _ HB2.out).mono ?_
  rintro e w3 ⟨g3, vs3, rfl, _, _, m3, b3⟩
  have HB3 := hid (HB2.out.trans (b3.mono HB2.out.size))
  have M3 := hid m3
  clear b3 m3
  go_wp2_with fail
  refine (implGoodSplice_any _ _ _ l _ ll hm).mono ?_
  rintro e w' ⟨rfl, rfl⟩
  go_wp2_with fail
  refine (TM.out _ HB3.out).mono ?_
  rintro e w4 ⟨g4, vs4, rfl, _, _, m4, b4⟩
  have HB4 := hid (HB3.out.trans (b4.mono HB3.out.size))
  have M4 := hid m4
  have M34 := hid (M3.out.below b4)
  clear b4 m4
  go_wp2_with fail
  refine (eqMethodS_any g3 g4 ms vs3 vs4 _ M34.out M4.out hm hch.out).mono ?_
  rintro e w5 ⟨rfl, b5⟩
  have HB5 := hid (HB4.out.trans (b5.mono HB4.out.size))
  clear b5
  go_wp2
  go_ret
  exact ⟨rfl, HB5.out⟩
end Go.Proofs.Ytecplhpioohhmaa
