/- Contracts of SpliceHeads, in the reference and in the program. No conditions beyond those stated. -/
import Derived.Test.YtdmipllbifofmaaSplA
set_option linter.unusedVariables false
set_option linter.unusedSimpArgs false
set_option maxRecDepth 100000
namespace Go.Proofs.Ytdmipllbifofmaa
open Go.RowKit

theorem asked_ok {ms : List Meth} {k1 k2 l : List UInt8} (h : askedB ms (k1, k2) l = true) : ∃ N : Nat, headSt ms = (N : Int) ∧ 3 ≤ N ∧ N ≤ 8 ∧ MsOk N ms ∧ okChange (N : Int) k1 = true ∧ okChange (N : Int) k2 = true ∧ isSpliceL ms.length l = true := by
  simp only [askedB, splicedB, Bool.and_eq_true] at h
  obtain ⟨⟨⟨hm, _⟩, hc⟩, hs⟩ := h
  have c1 : okChange (headSt ms) k1 = true := callsB_bob hc
  have c2 : okChange (headSt ms) k2 = true := callsB_single hc
  have st := okChange_stage c1
  obtain ⟨N, hN⟩ : ∃ N : Nat, headSt ms = (N : Int) := ⟨(headSt ms).toNat, by omega⟩
  rw [hN] at c1 c2 st
  refine ⟨N, hN, by omega, by omega, fun m hmm => ?_, c1, c2, hs⟩
  have h1 := List.all_eq_true.1 hm m hmm
  simp only [okM, methB, chsB, Bool.and_eq_true, decide_eq_true_eq] at h1
  obtain ⟨⟨_, ha, h1, h2⟩, he⟩ := h1
  rw [he, hN] at ha
  exact ⟨he.trans hN, h1, by omega, fun x hx => List.all_eq_true.1 ha x hx⟩
/-- What SpliceHeads answers. -/
def spliceR (ms : List Meth) (k : List UInt8 × List UInt8) (l : List UInt8) : List (List UInt8) × Bool := if askedB ms k l = true then (spHeads (headSt ms).toNat ms k l (l.length / 2), true) else ([], false)
set_option maxHeartbeats 1000000 in
theorem specSpliceHeads_any (g : Nat) (ms : List Meth) (vs : List Value) (k1 k2 l : List UInt8) (w : World) (h : MethsTo w g ms ms.length vs) (ok : ∀ m ∈ ms, MOk m) (hn : ms.length ≤ 1048576) (hk1 : k1.length ≤ 1048576) (hk2 : k2.length ≤ 1048576) (hl : l.length ≤ 1048576) :
    Calls Try.prog 49 #[.slice (some ⟨g, 0, none⟩) ms.length ms.length, .agg #[.string (bs k1), .string (bs k2)], .string (bs l)] w (ResS w (spliceR ms (k1, k2) l)) := by
  have SP := hid (fun w0 (b0 : Below w.heap.size w w0) => l14Asked_any g ms vs k1 k2 l w0 (h.below b0) ok hn hk1 hk2 hl)
  have K1 := Blk.new w 32 #[.string (bs k1), .string (bs k2)]
  have HBX := hid (show Below w.heap.size w (w.alloc (.cells #[.string (bs k1), .string (bs k2)] 32)) from (Below.refl _ _).alloc (Nat.le_refl _) _)
  have KC := hid (⟨K1.cell 0, K1.cell 1⟩ : _ ∧ _)
  clear K1
  cases hc : askedB ms (k1, k2) l
  · have HR := hid (show spliceR ms (k1, k2) l = ([], false) by simp [spliceR, hc])
    rw [hc] at SP
    clear hc
    go_enter Try.func49, Try.ntmps49
    go_wp2_with fail
    refine (SP.out _ HBX.out).mono ?_
    rintro e w1 ⟨rfl, b1⟩
    have HB1 := hid (HBX.out.trans (b1.mono HBX.out.size))
    clear b1
    go_wp2_with fail
    go_ret2
    rw [HR.out]
    exact ResS.none _ _ HB1.out
  · obtain ⟨N, hN, lo, hi, hms, hb1, hb2, hsp⟩ := asked_ok hc
    have HR := hid (show spliceR ms (k1, k2) l = (spHeads N ms (k1, k2) l (l.length / 2), true) by simp [spliceR, hc, hN])
    have HH := hid (fun w0 (b0 : Below w.heap.size w w0) => l14Heads_any N g ms vs k1 k2 l w0 lo hi (h.below b0) hms hn hb1 hb2 hsp)
    rw [hc] at SP
    clear hc h hms hb1 hb2 hsp hN
    go_enter Try.func49, Try.ntmps49
    go_wp2_with fail
    refine (SP.out _ HBX.out).mono ?_
    rintro e w1 ⟨rfl, b1⟩
    have q0 := (b1.cell (World.block_lt_of_cell? _ _ KC.out.1)).trans KC.out.1
    have q1 := (b1.cell (World.block_lt_of_cell? _ _ KC.out.2)).trans KC.out.2
    have q0 : w1.cell? ⟨w.heap.size, 0, none⟩ = some (.string (bs k1)) := q0
    have q1 : w1.cell? ⟨w.heap.size, 1, none⟩ = some (.string (bs k2)) := q1
    have HB1 := hid (HBX.out.trans (b1.mono HBX.out.size))
    clear b1
    go_wp2_with fail
    refine (HH.out _ HB1.out).mono ?_
    rintro e w2 ⟨v2, rfl, o2, b2⟩
    obtain ⟨A2, c2, rfl, _⟩ := own_shape o2
    go_wp2_with fail
    go_ret2
    rw [HR.out]
    refine ⟨_, rfl, ?_, HB1.out.trans (b2.mono HB1.out.size)⟩
    rw [spHeads_len]
    exact own_mono o2 HB1.out.size
set_option maxHeartbeats 1000000 in
theorem implSpliceHeads_any (g : Nat) (ms : List Meth) (vs : List Value) (k1 k2 l : List UInt8) (w : World) (h : MethsTo w g ms ms.length vs) (ok : ∀ m ∈ ms, MOk m) (hn : ms.length ≤ 1048576) (hk1 : k1.length ≤ 1048576) (hk2 : k2.length ≤ 1048576) (hl : l.length ≤ 1048576) :
    Calls Try.prog 50 #[.slice (some ⟨g, 0, none⟩) ms.length ms.length, .agg #[.string (bs k1), .string (bs k2)], .string (bs l)] w (ResS w (spliceR ms (k1, k2) l)) := by
  have SP := hid (fun w0 (b0 : Below w.heap.size w w0) => goodSplice_any g ms vs k1 k2 l w0 (h.below b0) ok hn hk1 hk2 hl)
  have K1 := Blk.new w 32 #[.string (bs k1), .string (bs k2)]
  have HBX := hid (show Below w.heap.size w (w.alloc (.cells #[.string (bs k1), .string (bs k2)] 32)) from (Below.refl _ _).alloc (Nat.le_refl _) _)
  have KC := hid (⟨K1.cell 0, K1.cell 1⟩ : _ ∧ _)
  clear K1
  cases hc : askedB ms (k1, k2) l
  · have HR := hid (show spliceR ms (k1, k2) l = ([], false) by simp [spliceR, hc])
    rw [hc] at SP
    clear hc
    go_enter Try.func50, Try.ntmps50
    go_wp2_with fail
    refine (SP.out _ HBX.out).mono ?_
    rintro e w1 ⟨rfl, b1⟩
    have HB1 := hid (HBX.out.trans (b1.mono HBX.out.size))
    clear b1
    go_wp2_with fail
    go_ret2
    rw [HR.out]
    exact ResS.none _ _ HB1.out
  · obtain ⟨N, hN, lo, hi, hms, hb1, hb2, hsp⟩ := asked_ok hc
    have HR := hid (show spliceR ms (k1, k2) l = (spHeads N ms (k1, k2) l (l.length / 2), true) by simp [spliceR, hc, hN])
    have HH := hid (fun w0 (b0 : Below w.heap.size w w0) => spliceHeads_any N g ms vs k1 k2 l w0 lo hi (h.below b0) hms hn hb1 hb2 hsp)
    rw [hc] at SP
    clear hc h hms hb1 hb2 hsp hN
    go_enter Try.func50, Try.ntmps50
    go_wp2_with fail
    refine (SP.out _ HBX.out).mono ?_
    rintro e w1 ⟨rfl, b1⟩
    have q0 := (b1.cell (World.block_lt_of_cell? _ _ KC.out.1)).trans KC.out.1
    have q1 := (b1.cell (World.block_lt_of_cell? _ _ KC.out.2)).trans KC.out.2
    have q0 : w1.cell? ⟨w.heap.size, 0, none⟩ = some (.string (bs k1)) := q0
    have q1 : w1.cell? ⟨w.heap.size, 1, none⟩ = some (.string (bs k2)) := q1
    have HB1 := hid (HBX.out.trans (b1.mono HBX.out.size))
    clear b1
    go_wp2_with fail
    refine (HH.out _ HB1.out).mono ?_
    rintro e w2 ⟨v2, rfl, o2, b2⟩
    obtain ⟨A2, c2, rfl, _⟩ := own_shape o2
    go_wp2_with fail
    go_ret2
    rw [HR.out]
    refine ⟨_, rfl, ?_, HB1.out.trans (b2.mono HB1.out.size)⟩
    rw [spHeads_len]
    exact own_mono o2 HB1.out.size
end Go.Proofs.Ytdmipllbifofmaa
