/- Contracts of the checks ahead of a splice's heads. No conditions beyond those stated. -/
import Derived.Test.YtdmipllbifofmaaSplHI
import Derived.Test.YtdmipllbifofmaaSpliced2
import Derived.Test.YtdmipllbifofmaaSpliced3
set_option linter.unusedVariables false
set_option linter.unusedSimpArgs false
set_option maxRecDepth 100000
namespace Go.Proofs.Ytdmipllbifofmaa
open Go.RowKit

/-- Methods, calls and a splice that go together. -/
def askedB (ms : List Meth) (k : List UInt8 × List UInt8) (l : List UInt8) : Bool := splicedB ms k && isSpliceL ms.length l
theorem implGoodSpliceC_any (A : Option Addr) (n c : Nat) (l : List UInt8) (w : World) (hl : l.length ≤ 1048576) (hn : n ≤ 1048576) :
    Calls Try.prog 109 #[.slice A n c, .string (bs l)] w fun e w' => e = .returned (.bool (isSpliceL n l)) ∧ w = w' := by
  have HG := hid (fun w0 => isSplice_any (n : Int) l w0 hl (by omega) (by omega))
  go_enter Try.func109, Try.ntmps109
  go_wp2_with fail
  refine (HG.out _).mono ?_
  rintro e w' ⟨rfl, rfl⟩
  go_wp2
  go_ret
  exact ⟨rfl, rfl⟩
set_option maxHeartbeats 1000000 in
theorem l14Asked_any (g : Nat) (ms : List Meth) (vs : List Value) (k1 k2 l : List UInt8) (w : World) (h : MethsTo w g ms ms.length vs) (ok : ∀ m ∈ ms, MOk m) (hn : ms.length ≤ 1048576) (hk1 : k1.length ≤ 1048576) (hk2 : k2.length ≤ 1048576) (hl : l.length ≤ 1048576) :
    Calls Try.prog 80 #[.slice (some ⟨g, 0, none⟩) ms.length ms.length, .agg #[.string (bs k1), .string (bs k2)], .string (bs l)] w fun e w' => e = .returned (.bool (askedB ms (k1, k2) l)) ∧ Below w.heap.size w w' := by
  have SP := hid (fun w0 (b0 : Below w.heap.size w w0) => specGoodSpliced_any g ms vs k1 k2 w0 (h.below b0) ok hn hk1 hk2)
  have HBX := hid (show Below w.heap.size w (w.alloc (.cells #[.string (bs k1), .string (bs k2)] 32)) from (Below.refl _ _).alloc (Nat.le_refl _) _)
  have LG := hid (fun w0 => l14Good_any (ms.length : Int) l w0 hl (by omega) (by omega))
  obtain ⟨s, hs⟩ : ∃ s, s = isSpliceL ms.length l := ⟨_, rfl⟩
  have HR := hid (show askedB ms (k1, k2) l = (splicedB ms (k1, k2) && s) by rw [askedB, hs])
  rw [← hs] at LG
  obtain ⟨n, hn'⟩ : ∃ n, n = ms.length := ⟨_, rfl⟩
  rw [← hn'] at SP LG ⊢
  clear h ok hn hn' hs
  cases hc : splicedB ms (k1, k2) <;> rw [hc] at SP HR <;> clear hc
  · go_enter Try.func80, Try.ntmps80
    go_wp2_with fail
    refine (SP.out _ HBX.out).mono ?_
    rintro e w1 ⟨rfl, b1⟩
    have HB1 := hid (HBX.out.trans (b1.mono HBX.out.size))
    clear b1
    go_wp2_with fail
    go_ret
    exact ⟨ret_bool HR.out.symm, HB1.out⟩
  · go_enter Try.func80, Try.ntmps80
    go_wp2_with fail
    refine (SP.out _ HBX.out).mono ?_
    rintro e w1 ⟨rfl, b1⟩
    have HB1 := hid (HBX.out.trans (b1.mono HBX.out.size))
    clear b1
    go_wp2_with fail
    refine (LG.out _).mono ?_
    rintro e w' ⟨rfl, rfl⟩
    go_wp2_with fail
    go_ret
    exact ⟨ret_bool HR.out.symm, HB1.out⟩
set_option maxHeartbeats 1000000 in
theorem goodSplice_any (g : Nat) (ms : List Meth) (vs : List Value) (k1 k2 l : List UInt8) (w : World) (h : MethsTo w g ms ms.length vs) (ok : ∀ m ∈ ms, MOk m) (hn : ms.length ≤ 1048576) (hk1 : k1.length ≤ 1048576) (hk2 : k2.length ≤ 1048576) (hl : l.length ≤ 1048576) :
    Calls Try.prog 82 #[.slice (some ⟨g, 0, none⟩) ms.length ms.length, .agg #[.string (bs k1), .string (bs k2)], .string (bs l)] w fun e w' => e = .returned (.bool (askedB ms (k1, k2) l)) ∧ Below w.heap.size w w' := by
  have SP := hid (fun w0 (b0 : Below w.heap.size w w0) => implGoodSpliced_any g ms vs k1 k2 w0 (h.below b0) ok hn hk1 hk2)
  have HBX := hid (show Below w.heap.size w (w.alloc (.cells #[.string (bs k1), .string (bs k2)] 32)) from (Below.refl _ _).alloc (Nat.le_refl _) _)
  have LG := hid (fun w0 => implGoodSpliceC_any (some ⟨g, 0, none⟩) ms.length ms.length l w0 hl hn)
  obtain ⟨s, hs⟩ : ∃ s, s = isSpliceL ms.length l := ⟨_, rfl⟩
  have HR := hid (show askedB ms (k1, k2) l = (splicedB ms (k1, k2) && s) by rw [askedB, hs])
  rw [← hs] at LG
  obtain ⟨n, hn'⟩ : ∃ n, n = ms.length := ⟨_, rfl⟩
  rw [← hn'] at SP LG ⊢
  clear h ok hn hn' hs
  cases hc : splicedB ms (k1, k2) <;> rw [hc] at SP HR <;> clear hc
  · go_enter Try.func82, Try.ntmps82
    go_wp2_with fail
    refine (SP.out _ HBX.out).mono ?_
    rintro e w1 ⟨rfl, b1⟩
    have HB1 := hid (HBX.out.trans (b1.mono HBX.out.size))
    clear b1
    go_wp2_with fail
    go_ret
    exact ⟨ret_bool HR.out.symm, HB1.out⟩
  · go_enter Try.func82, Try.ntmps82
    go_wp2_with fail
    refine (SP.out _ HBX.out).mono ?_
    rintro e w1 ⟨rfl, b1⟩
    have HB1 := hid (HBX.out.trans (b1.mono HBX.out.size))
    clear b1
    go_wp2_with fail
    refine (LG.out _).mono ?_
    rintro e w' ⟨rfl, rfl⟩
    go_wp2_with fail
    go_ret
    exact ⟨ret_bool HR.out.symm, HB1.out⟩
end Go.Proofs.Ytdmipllbifofmaa
