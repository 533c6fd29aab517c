/- The walk of the law FnExactGoodSpliced: it returns true, and changes nothing that was there. The conditions are that the arguments fit their kinds. -/
import Derived.Test.YtdmipllbifofmaaSpliced2
import Derived.Test.YtdmipllbifofmaaSpliced3
set_option linter.unusedVariables false
set_option linter.unusedSimpArgs false
set_option maxRecDepth 100000
namespace Go.Proofs.Ytdmipllbifofmaa
open Go.RowKit

/-- What a law knows of methods once they are measured. -/
theorem methods_ok {w : World} {v : Value} {ms : List Meth} (hv : InMethods w v ms) (h : ms.length + totM ms ≤ 1048576) : ∀ m ∈ ms, m.ch.length ≤ 1048576 := fun m hm => by
  have := totM_mem hm; omega
theorem methods_mok {w : World} {v : Value} {ms : List Meth} (hv : InMethods w v ms) (h : ms.length + totM ms ≤ 1048576) : ∀ m ∈ ms, MOk m := fun m hm => by
  have h1 := totM_mem hm
  obtain ⟨i, hi, rfl⟩ := List.mem_iff_getElem.1 hm
  obtain ⟨A, n, c, _, _, _, hel⟩ := hv
  obtain ⟨b, o, v2, _, _, _, _, v2', _, _, wf, _⟩ := hel i hi
  exact ⟨wf, by omega, by omega, fun s hs => by have := totL_mem hs; omega⟩
set_option maxHeartbeats 4000000 in
theorem LawGoodSpliced.walk (v : Value) (ms : List Meth) (u : Value) (k : List UInt8 × List UInt8) (w : World) (hv : InMethods w v ms) (hu : InCalls w u k) :
    Calls Try.prog 11 #[v, u] w fun e w' => e = .returned (.bool true) ∧ Below w.heap.size w w' := by
  obtain ⟨k1, k2⟩ := k
  have HV := hid hv
  have SZ := hid (fun w0 (h : InMethods w0 v ms) => szMethodS_any v ms 1048576 w0 h (by omega) (by omega))
  obtain ⟨A, n, c, rfl, hh1, hln, hh2⟩ := hv
  subst hln
  clear hh1 hh2
  obtain ⟨rfl, hk1, hk2⟩ := hu
  have SK := fun left w0 h0 h1 => hid (szCalls_any (k1, k2) left w0 hk1 hk2 h0 h1)
  dsimp only at *
  go_enter Try.func11, Try.ntmps11
  go_wp2_with fail
  have K1 := Blk.new w 26 #[.string (bs k1), .string (bs k2)]
  have BK : Below w.heap.size w (w.alloc (.cells #[.string (bs k1), .string (bs k2)] 26)) := (Below.refl _ _).alloc (Nat.le_refl _) _
  have hwK : w.heap.size ≤ (w.alloc (.cells #[.string (bs k1), .string (bs k2)] 26)).heap.size := BK.size
  have KC := hid (⟨K1.cell 0, K1.cell 1⟩ : _ ∧ _)
  clear K1
  generalize (w.alloc (.cells #[.string (bs k1), .string (bs k2)] 26)) = W2 at *
  have HBK := hid BK
  have HCC := hid (show ∀ w', Below W2.heap.size W2 w' → w'.cell? ⟨w.heap.size, 0, none⟩ = some (.string (bs k1)) ∧ w'.cell? ⟨w.heap.size, 1, none⟩ = some (.string (bs k2)) from fun w' h =>
    ⟨(h.cell (World.block_lt_of_cell? _ _ KC.out.1)).trans KC.out.1, (h.cell (World.block_lt_of_cell? _ _ KC.out.2)).trans KC.out.2⟩)
  have HV2 := hid (inMethods_below HV.out BK)
  clear KC BK
  refine (SZ.out _ HV2.out).mono ?_
  rintro e w1 ⟨r, rfl, b1, hr1, hr2⟩
  have HB1 := hid b1
  clear b1
  by_cases hneg : r < 0
  · go_wp2
    go_ret
    exact ⟨rfl, HBK.out.trans (HB1.out.mono hwK)⟩
  have hsum := hr2 (by omega)
  have r1 : r ≤ 1048576 := by omega
  have r0 : 0 ≤ r := by omega
  have hm : ms.length ≤ 1048576 := by omega
  have MO := hid (methods_mok HV2.out (by omega))
  have hch := hid (methods_ok HV2.out (by omega))
  clear hr1 hr2 hsum
  obtain ⟨q0, q1⟩ := HCC.out _ HB1.out
  go_wp2_with fail
  refine (SK _ _ r0 r1).out.mono ?_
  rintro e ws ⟨r', rfl, bs', hr1', hr2'⟩
  have HBs := hid (HB1.out.trans (bs'.mono HB1.out.size))
  clear bs' q0 q1
  by_cases hneg' : r' < 0
  · go_wp2
    go_ret
    exact ⟨rfl, HBK.out.trans (HBs.out.mono hwK)⟩
  have hsum' := hr2' (by omega)
  have hkl : k1.length ≤ 1048576 ∧ k2.length ≤ 1048576 := by constructor <;> omega
  clear hr1' hr2' hsum'
  have TM := hid (fun w0 (b0 : Below W2.heap.size W2 w0) => toMethodS_any _ ms w0 (inMethods_below HV2.out b0) hm hch.out)
  have TK := fun w0 => hid (toCalls_any (k1, k2) w0)
  have SP := hid (fun g vs w0 (h : MethsTo w0 g ms ms.length vs) => specGoodSpliced_any g ms vs k1 k2 w0 h MO.out hm hkl.1 hkl.2)
  have IM := hid (fun g vs w0 (h : MethsTo w0 g ms ms.length vs) => implGoodSpliced_any g ms vs k1 k2 w0 h MO.out hm hkl.1 hkl.2)
  obtain ⟨P0, hP0⟩ : ∃ P0, P0 = splicedB ms (k1, k2) := ⟨_, rfl⟩
  rw [← hP0] at SP IM
  clear hP0
  obtain ⟨q0, q1⟩ := HCC.out _ HBs.out
  go_wp2_with fail
  go_region_held3 (fun w' => w'.cell? ⟨w.heap.size, 0, none⟩ = some (.string (bs k1)) ∧ w'.cell? ⟨w.heap.size, 1, none⟩ = some (.string (bs k2)))
    (first | exact HCC.out _ HBs.out | exact HCC.out _ HBs.out.drew | exact HCC.out _ Ea | exact HCC.out _ Eb | exact HCC.out _ Ec)
    (first | (go_at_call 46; refine (TM.out _ HBs.out.drew).mono ?_; rintro e wa ⟨ga, va, rfl, _, _, ma, ba⟩; have Ea : Below W2.heap.size W2 wa := HBs.out.drew.trans (ba.mono HBs.out.size)) | (go_at_call 19; refine (TK _).out.mono ?_; rintro e wb ⟨rfl, bb⟩; have Eb := Ea.trans (bb.mono Ea.size); have mb := ma.below bb) | (go_at_call 45; refine (SP.out _ _ _ mb).mono ?_; rintro e wc ⟨rfl, bc⟩; have Ec := Eb.trans (bc.mono Eb.size)))
  have HEc := hid Ec
  clear ma ba bb mb bc Ea Eb Ec q0 q1
  go_wp2_with fail
  refine (TM.out _ HEc.out).mono ?_
  rintro e wd ⟨gd, vd, rfl, _, _, md, bd⟩
  have HEd := hid (HEc.out.trans (bd.mono HEc.out.size))
  have MD := hid md
  clear md bd
  obtain ⟨q0, q1⟩ := HCC.out _ HEd.out
  go_wp2_with fail
  refine (TK _).out.mono ?_
  rintro e we ⟨rfl, be⟩
  have HEe := hid (HEd.out.trans (be.mono HEd.out.size))
  have Bde := hid be
  clear be
  go_wp2_with fail
  refine (IM.out _ _ _ (MD.out.below Bde.out)).mono ?_
  rintro e wf ⟨rfl, bf⟩
  have HEf := hid (HEe.out.trans (bf.mono HEe.out.size))
  have Bdf := hid (Bde.out.trans (bf.mono Bde.out.size))
  clear bf
  go_wp2_with fail
  refine (TM.out _ HEf.out).mono ?_
  rintro e wg ⟨gg, vg, rfl, _, _, mg, bg⟩
  have HEg := hid (HEf.out.trans (bg.mono HEf.out.size))
  have MG := hid mg
  have MDg := hid (MD.out.below (Bdf.out.trans (bg.mono Bdf.out.size)))
  clear mg bg
  go_wp2_with fail
  refine (eqMethodS_any gd gg ms vd vg _ MDg.out MG.out hm hch.out).mono ?_
  rintro e wh ⟨rfl, bh⟩
  have HEh := hid (HEg.out.trans (bh.mono HEg.out.size))
  clear bh q0 q1
  go_wp2
  go_ret
  exact ⟨rfl, HBK.out.trans (HEh.out.mono hwK)⟩
end Go.Proofs.Ytdmipllbifofmaa
