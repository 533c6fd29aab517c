/- The walk of the law FnExactFalseHeads: it returns true, and changes nothing that was there. The conditions are that the arguments fit their kinds. -/
import Derived.Test.YtiajeheonoebnaaExpH
set_option linter.unusedVariables false
set_option linter.unusedSimpArgs false
set_option maxRecDepth 100000
namespace Go.Proofs.Ytiajeheonoebnaa
open Go.RowKit

set_option maxHeartbeats 4000000 in
theorem LawFalseHeads.walk (v : Value) (m : Meth) (w : World) (hv : InMethod w v m) :
    Calls Try.prog 9 #[v] w fun e w' => e = .returned (.bool true) ∧ Below w.heap.size w w' := by
  obtain ⟨nm, st, ch⟩ := m
  have SZ := fun left w0 (hw0 : InMethod w0 v ⟨nm, st, ch⟩) h0 h1 => hid (szMethod_any ⟨nm, st, ch⟩ v left w0 hw0 h0 h1)
  have HIM := hid (fun (w0 : World) (hb : Below w.heap.size w w0) => inMethod_below hv hb)
  obtain ⟨_, rfl, hn, wst, A, n, c, rfl, hn2, hr, hs⟩ := hv
  dsimp only at *
  have hln : ch.length = n := by have := hr.1; rw [strV_len] at this; exact this
  have HR := hid hr
  have HS := hid hs
  clear hr hs
  go_enter Try.func9, Try.ntmps9
  go_wp2_with fail
  obtain ⟨B2, hsz, HC⟩ := box_mk1 24 w nm st (.slice A n c)
  generalize (w.alloc (.cells #[.string (bs nm), .int .i64 st, .slice A n c] 24)) = W2 at *
  have HB2 := hid B2
  have HIM2 := hid (HIM.out W2 B2)
  have R2 := hid (HR.out.below B2)
  have hw2 : w.heap.size ≤ W2.heap.size := B2.size
  clear B2 hsz
  refine (SZ _ _ HIM2.out (by decide) (by decide)).out.mono ?_
  rintro e w1 ⟨r, rfl, b1, hr1, hr2⟩
  have HB1 := hid b1
  have hs1 := b1.size
  obtain ⟨m0, m1, m2⟩ := HC.out _ b1
  clear b1
  by_cases hneg : r < 0
  · go_wp2
    go_ret
    exact ⟨rfl, HB2.out.trans (HB1.out.mono hw2)⟩
  have hsum := hr2 (by omega)
  dsimp only at hsum
  have r1 : r ≤ 1048576 := by omega
  have r0 : 0 ≤ r := by omega
  have OK : LawOk ⟨nm, st, ch⟩ ([], []) := ⟨wst, by dsimp only; omega, by dsimp only; omega, fun s h => by have := totL_mem h; dsimp only at *; omega, by simp, by simp⟩
  have HOK := hid OK
  have hn1 : n ≤ 1048576 := by omega
  clear OK hsum hr1 hr2 hln
  obtain ⟨R, hRR⟩ : ∃ R, R = falseHeadsR ⟨nm, st, ch⟩ := ⟨_, rfl⟩
  have hzs : R.1.length ≤ 4000000 := by rw [hRR]; exact falseHeadsR_le _
  have TM := fun w0 (b0 : Below W2.heap.size W2 w0) => hid (toMethod_any ⟨nm, st, ch⟩ A n c w0 (R2.out.below b0) hn1)
  have SP := fun A0 c0 w0 (rd : Rd w0 A0 ch.length (strV ch)) (hc0 : ch.length ≤ c0) => hid (specFalseHeads_law ⟨nm, st, ch⟩ A0 ch.length c0 w0 HOK.out rd hc0)
  rw [← hRR] at SP
  have IM := fun A0 c0 w0 (rd : Rd w0 A0 ch.length (strV ch)) (hc0 : ch.length ≤ c0) => hid (implFalseHeads_law ⟨nm, st, ch⟩ A0 ch.length c0 w0 HOK.out rd hc0)
  rw [← hRR] at IM
  obtain ⟨zs, ok⟩ := R
  dsimp only at hzs
  clear hRR
  have HS5 : ∀ W', Below W2.heap.size W2 W' → W'.cell? ⟨w.heap.size, 0, none⟩ = some (.string (bs nm)) ∧ W'.cell? ⟨w.heap.size, 1, none⟩ = some (.int .i64 st) ∧ W'.cell? ⟨w.heap.size, 2, none⟩ = some (.slice A n c) := fun W' h => by
    obtain ⟨a0, a1, a2⟩ := HC.out _ h
    exact ⟨a0, a1, a2⟩
  have HHS5 := hid HS5
  clear HS5
  clear m0 m1 m2
  obtain ⟨m0, m1, m2⟩ := HHS5.out _ HB1.out
  go_wp2_with fail
  refine (TM _ HB1.out).out.mono ?_
  rintro e wa ⟨va, rfl, oa, ba⟩
  obtain ⟨Aa, ca, rfl, hca, _, rda, _⟩ := own_shape oa
  have Ea : Below W2.heap.size W2 wa := HB1.out.trans (ba.mono HB1.out.size)
  clear m0 m1 m2
  obtain ⟨m0, m1, m2⟩ := HHS5.out _ Ea
  go_wp2_with fail
  refine (SP _ _ _ rda hca).out.mono ?_
  (rintro e wc ⟨vc, rfl, oc, bc⟩; obtain ⟨Ac, cc, rfl, _, _, rdc, _⟩ := own_shape oc; have Ec := Ea.trans (bc.mono Ea.size))
  have HEc := hid Ec
  obtain ⟨n0, n1, n2⟩ := HHS5.out _ Ec
  have RC := hid rdc
  have RCc := hid rdc
  have HE2c := hid Ec
  have hszc := Ec.size
  clear oa ba oc rdc rda bc Ea Ec
  go_wp2_with fail
  refine (TM _ HEc.out).out.mono ?_
  rintro e wd ⟨vd, rfl, od, bd⟩
  obtain ⟨Ad, cd, rfl, hcd, _, rdd, _⟩ := own_shape od
  have RCd := hid (RC.out.below bd)
  have hbcd := bd.size
  have Bcd := hid bd
  have ODd := hid od
  have Ed := HEc.out.trans (bd.mono HEc.out.size)
  have X5 := Blk.new wd 28 #[.string (bs nm), .int .i64 st, .slice Ad ch.length cd]
  have E5 : Below W2.heap.size W2 (wd.alloc (.cells #[.string (bs nm), .int .i64 st, .slice Ad ch.length cd] 28)) := Ed.alloc Ed.size _
  have R5 : Rd (wd.alloc (.cells #[.string (bs nm), .int .i64 st, .slice Ad ch.length cd] 28)) Ad ch.length (strV ch) := rdd.alloc _
  have hsz5 : wd.heap.size < (wd.alloc (.cells #[.string (bs nm), .int .i64 st, .slice Ad ch.length cd] 28)).heap.size := by simp
  have hcont : ∀ (P : World → Prop), P (wd.alloc (.cells #[.string (bs nm), .int .i64 st, .slice Ad ch.length cd] 28)) → P (wd.alloc (.cells #[.string (bs nm), .int .i64 st, .slice Ad ch.length cd] 28)) := fun _ h => h
  clear hcont
  have HS8 : ∀ W', Below (wd.alloc (.cells #[.string (bs nm), .int .i64 st, .slice Ad ch.length cd] 28)).heap.size (wd.alloc (.cells #[.string (bs nm), .int .i64 st, .slice Ad ch.length cd] 28)) W' → W'.cell? ⟨w.heap.size, 0, none⟩ = some (.string (bs nm)) ∧ W'.cell? ⟨w.heap.size, 1, none⟩ = some (.int .i64 st) ∧ W'.cell? ⟨w.heap.size, 2, none⟩ = some (.slice A n c) ∧ W'.cell? ⟨wd.heap.size, 0, none⟩ = some (.string (bs nm)) ∧ W'.cell? ⟨wd.heap.size, 1, none⟩ = some (.int .i64 st) ∧ W'.cell? ⟨wd.heap.size, 2, none⟩ = some (.slice Ad ch.length cd) := fun W' h => by
    obtain ⟨a0, a1, a2⟩ := HHS5.out _ (E5.trans (h.mono E5.size))
    have X := X5.below h hsz5
    exact ⟨a0, a1, a2, X.cell 0, X.cell 1, X.cell 2⟩
  have RC5 : Hid (Rd (wd.alloc (.cells #[.string (bs nm), .int .i64 st, .slice Ad ch.length cd] 28)) Ac zs.length (strV zs)) := hid (RCd.out.alloc _)
  have OD5 : Hid (World.ownsRow (wd.alloc (.cells #[.string (bs nm), .int .i64 st, .slice Ad ch.length cd] 28)) wc.heap.size 9 1 (.slice Ad ch.length cd) ch.length (strV ch)) := hid (own_below ODd.out ((Below.refl _ _).alloc (Nat.le_refl _) _))
  have Bc5 : Hid (Below wc.heap.size wc (wd.alloc (.cells #[.string (bs nm), .int .i64 st, .slice Ad ch.length cd] 28))) := hid (Bcd.out.alloc hbcd _)
  have X5b := hid X5
  have HLT := hid (fun q hq => (ODd.out.lt q hq).2 : ∀ q, (Value.slice Ad ch.length cd).ownBlock = some q → q < wd.heap.size)
  have HE5c := hid E5
  clear RC RCd Bcd ODd
  have HHS8 := hid HS8
  have HE5 := hid E5
  have HR5 := hid R5
  clear n0 n1 n2 HS8 E5 R5 X5 od bd rdd Ed
  go_wp2_with fail
  generalize (wd.alloc (.cells #[.string (bs nm), .int .i64 st, .slice Ad ch.length cd] 28)) = W5 at *
  obtain ⟨n0, n1, n2, x0, x1, x2⟩ := HHS8.out W5 (Below.refl _ _)
  refine (IM _ _ _ HR5.out hcd).out.mono ?_
  rintro e wg ⟨vg, rfl, og, bg⟩
  obtain ⟨Ag, cg, rfl, _, _, rdg, _⟩ := own_shape og
  have HEg := hid bg
  have OG := hid (own_mono og (Nat.le_refl _))
  have RG := hid rdg
  clear og rdg
  clear bg
  clear n0 n1 n2 x0 x1 x2
  obtain ⟨n0, n1, n2, x0, x1, x2⟩ := HHS8.out _ HEg.out
  go_wp2_with fail
  refine (eqStringS_any _ _ _ _ _ _ zs zs _ RG.out (RC5.out.below HEg.out) (by omega) (by omega)).mono ?_
  rintro e w' ⟨rfl, q1, rfl⟩
  have HEg1 := hid (below_drewN HEg.out q1)
  clear n0 n1 n2 x0 x1 x2
  obtain ⟨n0, n1, n2, x0, x1, x2⟩ := HHS8.out _ HEg1.out
  go_wp2_with fail
  go_region_held3 (fun w' => w'.cell? ⟨w.heap.size, 0, none⟩ = some (.string (bs nm)) ∧ w'.cell? ⟨w.heap.size, 1, none⟩ = some (.int .i64 st) ∧ w'.cell? ⟨w.heap.size, 2, none⟩ = some (.slice A n c) ∧ w'.cell? ⟨wd.heap.size, 0, none⟩ = some (.string (bs nm)) ∧ w'.cell? ⟨wd.heap.size, 1, none⟩ = some (.int .i64 st) ∧ w'.cell? ⟨wd.heap.size, 2, none⟩ = some (.slice Ad ch.length cd))
    (first | exact HHS8.out _ HEg1.out | exact HHS8.out _ HEg1.out.drew | exact HHS8.out _ Eh | exact HHS8.out _ Ei)
    (first | (go_at_call 13; refine (TM _ (HE5.out.trans ((HEg1.out.drew).mono HE5.out.size))).out.mono ?_; rintro e wh ⟨vh, rfl, oh, bh⟩; obtain ⟨Ah, ch', rfl, _, _, rdh, _⟩ := own_shape oh; have Eh := HEg1.out.drew.trans (bh.mono HEg1.out.size)) | (go_at_call 15; refine (eqMethod_any ⟨nm, st, ch⟩ Ad Ah ch.length cd ch.length ch' _ (HR5.out.below Eh) rdh (by have := HOK.out.2.2.1; dsimp only at this; omega)).mono ?_; rintro e wi ⟨rfl, bi⟩; have Ei := Eh.trans (bi.mono Eh.size)))
  have HEi := hid Ei
  have OGi := hid (own_below OG.out ((below_drewN (Below.refl wg.heap.size wg) q1).drew.trans ((bh.trans (bi.mono bh.size)).mono (Nat.le_refl _))))
  clear oh bh rdh bi Eh Ei n0 n1 n2 x0 x1 x2
  obtain ⟨n0, n1, n2, x0, x1, x2⟩ := HHS8.out _ HEi.out
  go_wp2_with fail
  refine (markMethod_any wc.heap.size ⟨nm, st, ch⟩ _ ch.length _ (own_below OD5.out HEi.out) (by have := HOK.out.2.2.1; dsimp only at this; omega) (Nat.le_trans Bc5.out.size HEi.out.size)).mono ?_
  rintro e wj ⟨rfl, oj, gj⟩
  have hneX : ∀ q, (Value.slice Ad ch.length cd).ownBlock = some q → q < W5.heap.size := fun q hq => (OD5.out.lt q hq).2
  have hneW : ∀ q, (Value.slice Ad ch.length cd).ownBlock = some q → q < wd.heap.size := HLT.out
  have Bcj := hid ((Bc5.out.trans (HEi.out.mono Bc5.out.size)).trans (below_of_grown (own_below OD5.out HEi.out) gj (Nat.le_trans Bc5.out.size HEi.out.size)))
  have Xj : Blk wj wd.heap.size 28 #[.string (bs nm), .int .i64 st, .slice Ad ch.length cd] := blk_grown gj (X5b.out.below HEi.out X5b.out.lt) (fun e => by have := hneW _ e; omega)
  have OGj := hid (own_other OGi.out gj (fun q hq hq2 => by have h1 := hneX q hq2; have h2 := (OGi.out.lt q hq).1; omega))
  have RCj := hid (RCc.out.below Bcj.out)
  obtain ⟨Agj, cgj, egj, _, _, rdgj, _⟩ := own_shape OGj.out
  obtain ⟨rfl, rfl⟩ : Ag = Agj ∧ cg = cgj := by injection egj with e1 e2 e3; exact ⟨e1, e3⟩
  have RGj := hid rdgj
  clear egj rdgj oj
  have HE2j := hid (HE2c.out.trans (Bcj.out.mono hszc))
  have hgj := gj.size
  clear n0 n1 n2 x0 x1 x2 gj hneX hneW
  have x0 := Xj.cell 0
  have x1 := Xj.cell 1
  have x2 := Xj.cell 2
  simp only [List.getElem?_toArray, List.getElem?_cons_zero, List.getElem?_cons_succ] at x0 x1 x2
  obtain ⟨n0, n1, n2⟩ := HHS5.out _ HE2j.out
  go_wp2_with fail
  refine (eqStringS_any _ _ _ _ _ _ zs zs _ RGj.out RCj.out (by omega) (by omega)).mono ?_
  rintro e w' ⟨rfl, q2, rfl⟩
  have hsz5c : wc.heap.size ≤ W5.heap.size := Bc5.out.size
  have hszk : W5.heap.size ≤ (wj.drewN q2).heap.size := Nat.le_trans HEi.out.size hgj
  have HE2k := hid (below_drewN HE2j.out q2)
  have OGk := hid (own_drewN OGj.out q2)
  have Bck := hid (below_drewN Bcj.out q2)
  clear n0 n1 n2 x0 x1 x2
  obtain ⟨n0, n1, n2⟩ := HHS5.out _ HE2k.out
  go_wp2_with fail
  refine (markStringS_any _ _ 1 _ zs _ _ OGk.out rfl (by omega)).mono ?_
  rintro e wl ⟨rfl, ol, gl⟩
  have Bcl := hid (Bck.out.trans ((below_of_grown OGk.out gl hszk).mono hsz5c))
  have HE2l := hid (HE2c.out.trans (Bcl.out.mono hszc))
  obtain ⟨Agl, cgl, egl, _, _, rdgl, _⟩ := own_shape ol
  obtain ⟨rfl, rfl⟩ : Ag = Agl ∧ cg = cgl := by injection egl with e1 e2 e3; exact ⟨e1, e3⟩
  have RGl := hid rdgl
  have RCl := hid (RCc.out.below Bcl.out)
  clear egl rdgl ol gl n0 n1 n2
  obtain ⟨n0, n1, n2⟩ := HHS5.out _ HE2l.out
  go_wp2_with fail
  refine (heldStringS_any _ _ _ 1 _ _ RGl.out rfl (by omega)).mono ?_
  rintro e wm ⟨rfl, bb⟩
  have HE2m := hid (HE2l.out.trans (bb.mono HE2l.out.size))
  have RGm := hid (RGl.out.below bb)
  have RCm := hid (RCl.out.below bb)
  clear bb n0 n1 n2
  obtain ⟨n0, n1, n2⟩ := HHS5.out _ HE2m.out
  go_wp2_with fail
  refine (TM _ HE2m.out).out.mono ?_
  rintro e wn ⟨vn, rfl, on, bn⟩
  obtain ⟨An, cn, rfl, hcn, _, rdn, _⟩ := own_shape on
  have Bn := hid bn
  have HE2n := hid (HE2m.out.trans (bn.mono HE2m.out.size))
  clear bn on n0 n1 n2
  obtain ⟨n0, n1, n2⟩ := HHS5.out _ HE2n.out
  go_wp2_with fail
  refine (IM _ _ _ rdn hcn).out.mono ?_
  rintro e wp ⟨vp, rfl, op, bp⟩
  obtain ⟨Ap, cp, rfl, _, _, rdp, _⟩ := own_shape op
  have Bp := hid (Bn.out.trans (bp.mono Bn.out.size))
  have HE2p := hid (HE2m.out.trans (Bp.out.mono HE2m.out.size))
  have RP := hid rdp
  have RCp := hid (RCm.out.below Bp.out)
  have RGp := hid (RGm.out.below Bp.out)
  clear n0 n1 n2 rdn rdp op bp
  obtain ⟨n0, n1, n2⟩ := HHS5.out _ HE2p.out
  go_wp2_with fail
  refine (eqStringS_any _ _ _ _ _ _ zs zs _ RP.out RCp.out (by omega) (by omega)).mono ?_
  rintro e w' ⟨rfl, q3, rfl⟩
  have HE2q := hid (below_drewN HE2p.out q3)
  clear n0 n1 n2
  obtain ⟨n0, n1, n2⟩ := HHS5.out _ HE2q.out
  go_wp2_with fail
  refine (heldStringS_any _ _ _ 1 _ _ (RGp.out.drewN q3) rfl (by omega)).mono ?_
  rintro e wr ⟨rfl, bb⟩
  have HE2r := hid (HE2q.out.trans (bb.mono HE2q.out.size))
  clear bb n0 n1 n2
  obtain ⟨n0, n1, n2⟩ := HHS5.out _ HE2r.out
  go_wp2
  go_ret
  exact ⟨rfl, HB2.out.trans (HE2r.out.mono hw2)⟩
end Go.Proofs.Ytiajeheonoebnaa

