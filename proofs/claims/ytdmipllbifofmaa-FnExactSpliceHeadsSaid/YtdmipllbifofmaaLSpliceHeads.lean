/- The walk of the law FnExactSpliceHeads: it returns true, and changes nothing that was there. The conditions are that the arguments fit their kinds. -/
import Derived.Test.YtdmipllbifofmaaSplX
import Derived.Test.YtdmipllbifofmaaSpliced3
import Derived.Test.YtdmipllbifofmaaMs3
set_option linter.unusedVariables false
set_option linter.unusedSimpArgs false
set_option maxRecDepth 100000
namespace Go.Proofs.Ytdmipllbifofmaa
open Go.RowKit

theorem spliceR_le (ms : List Meth) (k : List UInt8 × List UInt8) (l : List UInt8) (h : l.length ≤ 1048576) : (spliceR ms k l).1.length ≤ 4000000 := by
  unfold spliceR
  split
  · show (spHeads _ _ _ _ _).length ≤ _
    rw [spHeads_len]; omega
  · simp
theorem methods_ok2 {w : World} {v : Value} {ms : List Meth} (hv : InMethods w v ms) (h : ms.length + totM ms ≤ 1048576) : ∀ m ∈ ms, m.ch.length ≤ 1048576 := fun m hm => by
  have := totM_mem hm; omega
theorem methods_mok2 {w : World} {v : Value} {ms : List Meth} (hv : InMethods w v ms) (h : ms.length + totM ms ≤ 1048576) : ∀ m ∈ ms, MOk m := fun m hm => by
  have h1 := totM_mem hm
  obtain ⟨i, hi, rfl⟩ := List.mem_iff_getElem.1 hm
  obtain ⟨A, n, c, _, _, _, hel⟩ := hv
  obtain ⟨b, o, v2, _, _, _, _, v2', _, _, wf, _⟩ := hel i hi
  exact ⟨wf, by omega, by omega, fun s hs => by have := totL_mem hs; omega⟩
set_option maxHeartbeats 4000000 in
theorem LawSpliceHeads.walk (v : Value) (ms : List Meth) (u : Value) (k : List UInt8 × List UInt8) (l : List UInt8) (w : World) (hv : InMethods w v ms) (hu : InCalls w u k) (wl : l.length ≤ maxLen) :
    Calls Try.prog 12 #[v, u, .string (bs l)] w fun e w' => e = .returned (.bool true) ∧ Below w.heap.size w w' := by
  obtain ⟨k1, k2⟩ := k
  have HV := hid hv
  have SZ := hid (fun w0 (h : InMethods w0 v ms) => szMethodS_any v ms 1048576 w0 h (by omega) (by omega))
  obtain ⟨A, n, c, rfl, hh1, hln, hh2⟩ := hv
  subst hln
  clear hh1 hh2
  obtain ⟨rfl, hk1, hk2⟩ := hu
  have SK := fun left w0 h0 h1 => hid (szCalls_any (k1, k2) left w0 hk1 hk2 h0 h1)
  dsimp only at *
  by_cases ll : l.length ≤ 1048576
  case neg =>
    have hi : (1048576 : Int) < (l.length : Int) := by omega
    go_enter Try.func12, Try.ntmps12
    go_wp2
    go_ret
    exact ⟨rfl, (Below.refl _ _).alloc (Nat.le_refl _) _⟩
  have il : ¬ (1048576 : Int) < (l.length : Int) := by omega
  go_enter Try.func12, Try.ntmps12
  go_wp2_with fail
  have K1 := Blk.new w 26 #[.string (bs k1), .string (bs k2)]
  have BK : Below w.heap.size w (w.alloc (.cells #[.string (bs k1), .string (bs k2)] 26)) := (Below.refl _ _).alloc (Nat.le_refl _) _
  have hwK : w.heap.size ≤ (w.alloc (.cells #[.string (bs k1), .string (bs k2)] 26)).heap.size := BK.size
  have KC := hid (⟨K1.cell 0, K1.cell 1⟩ : _ ∧ _)
  clear K1
  generalize (w.alloc (.cells #[.string (bs k1), .string (bs k2)] 26)) = W2 at *
  have HBK := hid BK
  have HCC := hid (show ∀ w', Below W2.heap.size W2 w' → w'.cell? ⟨w.heap.size, 0, none⟩ = some (.string (bs k1)) ∧ w'.cell? ⟨w.heap.size, 1, none⟩ = some (.string (bs k2)) from fun w' h =>
    ⟨(h.cell (World.block_lt_of_cell? _ _ KC.out.1)).trans KC.out.1, (h.cell (World.block_lt_of_cell? _ _ KC.out.2)).trans KC.out.2⟩)
  have HV2 := hid (inMethods_below HV.out BK)
  clear KC BK
  refine (SZ.out _ HV2.out).mono ?_
  rintro e w1 ⟨r, rfl, b1, hr1, hr2⟩
  have HB1 := hid b1
  clear b1
  by_cases hneg : r < 0
  · go_wp2
    go_ret
    exact ⟨rfl, HBK.out.trans (HB1.out.mono hwK)⟩
  have hsum := hr2 (by omega)
  have r1 : r ≤ 1048576 := by omega
  have r0 : 0 ≤ r := by omega
  have hm : ms.length ≤ 1048576 := by omega
  have MO := hid (methods_mok2 HV2.out (by omega))
  have hch := hid (methods_ok2 HV2.out (by omega))
  have htc := hid (show totC ms ≤ 1048576 by have := totC_le ms; omega)
  clear hr1 hr2 hsum
  obtain ⟨q0, q1⟩ := HCC.out _ HB1.out
  go_wp2_with fail
  refine (SK _ _ r0 r1).out.mono ?_
  rintro e ws ⟨r', rfl, bs', hr1', hr2'⟩
  have HBs := hid (HB1.out.trans (bs'.mono HB1.out.size))
  clear bs' q0 q1
  by_cases hneg' : r' < 0
  · go_wp2
    go_ret
    exact ⟨rfl, HBK.out.trans (HBs.out.mono hwK)⟩
  have hsum' := hr2' (by omega)
  have hkl : k1.length ≤ 1048576 ∧ k2.length ≤ 1048576 := by constructor <;> omega
  clear hr1' hr2' hsum'
  have TM := hid (fun w0 (b0 : Below W2.heap.size W2 w0) => toMethodS_any _ ms w0 (inMethods_below HV2.out b0) hm hch.out)
  have TK := fun w0 => hid (toCalls_any (k1, k2) w0)
  have SP := hid (fun g vs w0 (h : MethsTo w0 g ms ms.length vs) => specSpliceHeads_any g ms vs k1 k2 l w0 h MO.out hm hkl.1 hkl.2 ll)
  have IM := hid (fun g vs w0 (h : MethsTo w0 g ms ms.length vs) => implSpliceHeads_any g ms vs k1 k2 l w0 h MO.out hm hkl.1 hkl.2 ll)
  obtain ⟨R, hR⟩ : ∃ R, R = spliceR ms (k1, k2) l := ⟨_, rfl⟩
  have hzs : R.1.length ≤ 4000000 := by rw [hR]; exact spliceR_le _ _ _ ll
  rw [← hR] at SP IM
  clear hR
  obtain ⟨zs, ok⟩ := R
  dsimp only at hzs
  obtain ⟨q0, q1⟩ := HCC.out _ HBs.out
  go_wp2_with fail
  go_region_held3 (fun w' => w'.cell? ⟨w.heap.size, 0, none⟩ = some (.string (bs k1)) ∧ w'.cell? ⟨w.heap.size, 1, none⟩ = some (.string (bs k2)))
    (first | exact HCC.out _ HBs.out | exact HCC.out _ HBs.out.drew | exact HCC.out _ Ea | exact HCC.out _ Eb | exact HCC.out _ Ec)
    (first | (go_at_call 46; refine (TM.out _ HBs.out.drew).mono ?_; rintro e wa ⟨ga, va, rfl, _, _, ma, ba⟩; have Ea : Below W2.heap.size W2 wa := HBs.out.drew.trans (ba.mono HBs.out.size)) | (go_at_call 19; refine (TK _).out.mono ?_; rintro e wb ⟨rfl, bb⟩; have Eb := Ea.trans (bb.mono Ea.size); have mb := ma.below bb) | (go_at_call 49; refine (SP.out _ _ _ mb).mono ?_; rintro e wc ⟨vc, rfl, oc, bc⟩; obtain ⟨Ac, cc, rfl, _, _, rdc, _⟩ := own_shape oc; have Ec := Eb.trans (bc.mono Eb.size)))
  have HEc := hid Ec
  have RD2 := hid rdc
  clear ma ba bb mb bc oc rdc Ea Eb Ec q0 q1
  go_wp2_with fail
  refine (TM.out _ HEc.out).mono ?_
  rintro e wd ⟨gd, vd, rfl, hgd, rd', md, bd⟩
  have HEd := hid (HEc.out.trans (bd.mono HEc.out.size))
  have HGd := hid hgd
  have Rmd := hid rd'
  have Bcd := hid bd
  have MD := hid md
  have HGdL : gd < wd.heap.size := rd'.1
  clear md bd hgd rd'
  obtain ⟨q0, q1⟩ := HCC.out _ HEd.out
  go_wp2_with fail
  refine (TK _).out.mono ?_
  rintro e we ⟨rfl, be⟩
  have HEe := hid (HEd.out.trans (be.mono HEd.out.size))
  have Bde := hid be
  have HGeL : gd < we.heap.size := Nat.lt_of_lt_of_le HGdL be.size
  have Bce := hid (Bcd.out.trans (be.mono Bcd.out.size))
  clear be
  go_wp2_with fail
  refine (IM.out _ _ _ (MD.out.below Bde.out)).mono ?_
  rintro e wf ⟨vf, rfl, of, bf⟩
  obtain ⟨Af, cf, rfl, _, _, rdf, frf⟩ := own_shape of
  have HEf := hid (HEe.out.trans (bf.mono HEe.out.size))
  have hsef : we.heap.size ≤ wf.heap.size := bf.size
  have Bdf := hid (Bde.out.trans (bf.mono Bde.out.size))
  have Bcf := hid (Bce.out.trans (bf.mono Bce.out.size))
  have OF := hid of
  have RDf := hid rdf
  clear bf of rdf frf
  go_wp2_with fail
  refine (eqStringS_any _ _ _ _ _ _ zs zs _ RDf.out (RD2.out.below Bcf.out) (by omega) (by omega)).mono ?_
  rintro e wf' ⟨rfl, k5, rfl⟩
  go_wp2_with fail
  refine (TM.out _ (below_drewN HEf.out k5)).mono ?_
  rintro e wg ⟨gg, vg, rfl, _, _, mg, bg⟩
  have Bfg := hid ((below_drewN (Below.refl wf.heap.size wf) k5).trans bg)
  have MG := hid mg
  clear bg mg
  have HEg := hid (HEf.out.trans (Bfg.out.mono HEf.out.size))
  have Bdg := hid (Bdf.out.trans (Bfg.out.mono Bdf.out.size))
  have Bcg := hid (Bcf.out.trans (Bfg.out.mono Bcf.out.size))
  go_wp2_with fail
  refine (eqMethodS_any gd gg ms vd vg _ (MD.out.below Bdg.out) MG.out hm hch.out).mono ?_
  rintro e wh ⟨rfl, bh⟩
  have HEh := hid (HEg.out.trans (bh.mono HEg.out.size))
  have Bdh := hid (Bdg.out.trans (bh.mono Bdg.out.size))
  have Bch := hid (Bcg.out.trans (bh.mono Bcg.out.size))
  have Bfh := hid (Bfg.out.trans (bh.mono Bfg.out.size))
  clear bh
  have hde : wd.heap.size ≤ we.heap.size := Bde.out.size
  go_wp2_with fail
  refine (markMethodS_any wc.heap.size gd ms vd _ (MD.out.below Bdh.out) (Rmd.out.below Bdh.out) HGd.out hm htc.out we.heap.size 1 zs.length 9 _ _ (own_below OF.out Bfh.out) HGeL (fun i hi q hq => Nat.lt_of_lt_of_le ((MD.out.2.1 i hi (by have := MD.out.1; omega)).2.2.2.lt q hq).2 hde)).mono ?_
  rintro e wi ⟨⟨K, rfl⟩, bi, oi⟩
  have Bci := hid (Bch.out.trans bi)
  have hsei : we.heap.size ≤ wi.heap.size := Nat.le_trans (Nat.le_trans hsef Bfh.out.size) bi.size
  have hKi : ¬ (K : Int) < 0 := by omega
  obtain ⟨Ai, ci, ei, _, _, rdi, _⟩ := own_shape oi
  obtain ⟨rfl, rfl⟩ : Af = Ai ∧ cf = ci := by injection ei with ea eb ec; exact ⟨ea, ec⟩
  clear ei
  have OI := hid oi
  have RDi := hid rdi
  clear bi oi rdi
  go_wp2_with fail
  refine (eqStringS_any _ _ _ _ _ _ zs zs _ RDi.out (RD2.out.below Bci.out) (by omega) (by omega)).mono ?_
  rintro e wi' ⟨rfl, k8, rfl⟩
  go_wp2_with fail
  refine (markStringS_any _ _ 1 _ zs _ _ (own_drewN OI.out k8) rfl (by omega)).mono ?_
  rintro e wj ⟨rfl, oj, gj⟩
  have Bcj := hid ((below_drewN Bci.out k8).trans ((below_of_grown (own_drewN OI.out k8) gj (by first | exact hsei | exact (show we.heap.size ≤ wi.heap.size from hsei))).mono Bce.out.size))
  obtain ⟨Aj, cj, ej, _, _, rdj, _⟩ := own_shape oj
  obtain ⟨rfl, rfl⟩ : Af = Aj ∧ cf = cj := by injection ej with ea eb ec; exact ⟨ea, ec⟩
  clear ej
  have RDj := hid rdj
  clear rdj oj gj
  have HEj := hid (HEc.out.trans (Bcj.out.mono HEc.out.size))
  go_wp2_with fail
  refine (heldStringS_any _ _ _ 1 _ _ RDj.out rfl (by omega)).mono ?_
  rintro e wk ⟨rfl, bk⟩
  have Bck := hid (Bcj.out.trans (bk.mono Bcj.out.size))
  have RDk := hid (RDj.out.below bk)
  have HEk := hid (HEj.out.trans (bk.mono HEj.out.size))
  clear bk q0 q1
  obtain ⟨q0, q1⟩ := HCC.out _ HEk.out
  go_wp2_with fail
  go_region_held3 (fun w' => w'.cell? ⟨w.heap.size, 0, none⟩ = some (.string (bs k1)) ∧ w'.cell? ⟨w.heap.size, 1, none⟩ = some (.string (bs k2)))
    (first | exact HCC.out _ HEk.out | exact HCC.out _ HEk.out.drew | exact HCC.out _ Em | exact HCC.out _ En | exact HCC.out _ Eo)
    (first | (go_at_call 46; refine (TM.out _ HEk.out.drew).mono ?_; rintro e wm ⟨gm, vm, rfl, _, _, mm, bm⟩; have Em : Below W2.heap.size W2 wm := HEk.out.drew.trans (bm.mono HEk.out.size)) | (go_at_call 19; refine (TK _).out.mono ?_; rintro e wn ⟨rfl, bn⟩; have En := Em.trans (bn.mono Em.size); have mn := mm.below bn) | (go_at_call 50; refine (IM.out _ _ _ mn).mono ?_; rintro e wo ⟨vo, rfl, oo, bo⟩; obtain ⟨Ao, co, rfl, _, _, rdo, _⟩ := own_shape oo; have Eo := En.trans (bo.mono En.size)))
  have Bko := hid ((Below.refl wk.heap.size wk).drew.trans (bm.trans ((bn.trans (bo.mono bn.size)).mono bm.size)))
  have HEo := hid Eo
  have RDo := hid rdo
  have Bco := hid (Bck.out.trans (Bko.out.mono Bck.out.size))
  clear mm bm bn mn bo oo rdo Em En Eo q0 q1
  go_wp2_with fail
  refine (eqStringS_any _ _ _ _ _ _ zs zs _ RDo.out (RD2.out.below Bco.out) (by omega) (by omega)).mono ?_
  rintro e wo' ⟨rfl, k12, rfl⟩
  go_wp2_with fail
  refine (heldStringS_any _ _ _ 1 _ _ ((RDk.out.below Bko.out).drewN k12) rfl (by omega)).mono ?_
  rintro e wp ⟨rfl, bp⟩
  have HEp := hid ((below_drewN HEo.out k12).trans (bp.mono HEo.out.size))
  clear bp
  go_wp2_with fail
  go_ret
  exact ⟨rfl, HBK.out.trans (HEp.out.mono hwK)⟩
end Go.Proofs.Ytdmipllbifofmaa
