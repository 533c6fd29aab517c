/- The walk of the law FnExactSameFalse: it returns true, and changes nothing that was there. The conditions are that the arguments fit their kinds. -/
import Derived.Test.YtiajeheonoebnaaSameF
set_option linter.unusedVariables false
set_option linter.unusedSimpArgs false
set_option maxRecDepth 100000
namespace Go.Proofs.Ytiajeheonoebnaa
open Go.RowKit

set_option maxHeartbeats 4000000 in
theorem LawSameFalse.walk (v : Value) (ma : Meth) (v2 : Value) (mb : Meth) (w : World) (hv : InMethod w v ma) (hv2 : InMethod w v2 mb) :
    Calls Try.prog 10 #[v, v2] w fun e w' => e = .returned (.bool true) ∧ Below w.heap.size w w' := by
  obtain ⟨nm, st, ch⟩ := ma
  obtain ⟨nm2, st2, ch2⟩ := mb
  have SZ := fun left w0 (hw0 : InMethod w0 v ⟨nm, st, ch⟩) h0 h1 => hid (szMethod_any ⟨nm, st, ch⟩ v left w0 hw0 h0 h1)
  have SZ2 := fun left w0 (hw0 : InMethod w0 v2 ⟨nm2, st2, ch2⟩) h0 h1 => hid (szMethod_any ⟨nm2, st2, ch2⟩ v2 left w0 hw0 h0 h1)
  have HIM := hid (fun (w0 : World) (hb : Below w.heap.size w w0) => inMethod_below hv hb)
  have HIM2 := hid (fun (w0 : World) (hb : Below w.heap.size w w0) => inMethod_below hv2 hb)
  obtain ⟨_, rfl, hn, wst, A, n, c, rfl, hn2, hr, hs⟩ := hv
  obtain ⟨_, rfl, hm, wst2, B, m, d, rfl, hm2, hr2, hs2⟩ := hv2
  dsimp only at *
  have hln : ch.length = n := by have := hr.1; rw [strV_len] at this; exact this
  have hlm : ch2.length = m := by have := hr2.1; rw [strV_len] at this; exact this
  have HR := hid hr
  have HR2 := hid hr2
  clear hr hs hr2 hs2
  go_enter Try.func10, Try.ntmps10
  go_wp2_with fail
  obtain ⟨B2, hsz, HC⟩ := box_mkM 24 24 w nm nm2 st st2 (.slice A n c) (.slice B m d)
  generalize ((w.alloc (.cells #[.string (bs nm), .int .i64 st, .slice A n c] 24)).alloc (.cells #[.string (bs nm2), .int .i64 st2, .slice B m d] 24)) = W2 at *
  have HB2 := hid B2
  have R2 := hid (HR.out.below B2)
  have R2b := hid (HR2.out.below B2)
  have hw2 : w.heap.size ≤ W2.heap.size := B2.size
  clear B2 hsz
  have HS5 : ∀ W', Below W2.heap.size W2 W' → W'.cell? ⟨w.heap.size, 0, none⟩ = some (.string (bs nm)) ∧ W'.cell? ⟨w.heap.size, 1, none⟩ = some (.int .i64 st) ∧ W'.cell? ⟨w.heap.size, 2, none⟩ = some (.slice A n c) ∧ W'.cell? ⟨w.heap.size + 1, 0, none⟩ = some (.string (bs nm2)) ∧ W'.cell? ⟨w.heap.size + 1, 1, none⟩ = some (.int .i64 st2) ∧ W'.cell? ⟨w.heap.size + 1, 2, none⟩ = some (.slice B m d) := fun W' h => by
    obtain ⟨⟨a0, a1, a2⟩, a3, a4, a5⟩ := HC.out _ h
    exact ⟨a0, a1, a2, a3, a4, a5⟩
  have HHS5 := hid HS5
  clear HS5 HC
  refine (SZ _ _ (HIM.out W2 HB2.out) (by decide) (by decide)).out.mono ?_
  rintro e w1 ⟨r, rfl, b1, hr1, hr2⟩
  have HB1 := hid b1
  have hs1 := b1.size
  clear b1
  obtain ⟨m0, m1, m2, q0, q1, q2⟩ := HHS5.out _ HB1.out
  by_cases hneg : r < 0
  · go_wp2
    go_ret
    exact ⟨rfl, HB2.out.trans (HB1.out.mono hw2)⟩
  have hsum := hr2 (by omega)
  have r1 : r ≤ 1048576 := by omega
  have r0 : 0 ≤ r := by omega
  dsimp only at hsum
  clear hr1 hr2
  have HSUM := hid hsum
  clear hsum
  go_wp2_with fail
  refine (SZ2 _ _ (HIM2.out _ (HB2.out.trans (HB1.out.mono hw2))) r0 r1).out.mono ?_
  rintro e ws ⟨r', rfl, bs', hr1', hr2'⟩
  have HBs := hid (HB1.out.trans (bs'.mono hs1))
  clear bs' m0 m1 m2 q0 q1 q2
  obtain ⟨m0, m1, m2, q0, q1, q2⟩ := HHS5.out _ HBs.out
  by_cases hneg' : r' < 0
  · go_wp2
    go_ret
    exact ⟨rfl, HB2.out.trans (HBs.out.mono hw2)⟩
  have hsum' := hr2' (by omega)
  have hsum := HSUM.out
  dsimp only at hsum'
  clear hr1' hr2'
  have OKa : LawOk ⟨nm, st, ch⟩ ([], []) := ⟨wst, by dsimp only; omega, by dsimp only; omega, fun s h => by have := totL_mem h; dsimp only at *; omega, by simp, by simp⟩
  have OKb : LawOk ⟨nm2, st2, ch2⟩ ([], []) := ⟨wst2, by dsimp only; omega, by dsimp only; omega, fun s h => by have := totL_mem h; dsimp only at *; omega, by simp, by simp⟩
  have HOKa := hid OKa
  have HOKb := hid OKb
  have hn1 : n ≤ 1048576 := by omega
  have hm1 : m ≤ 1048576 := by omega
  clear OKa OKb hsum hsum' HSUM hln hlm
  have TMa := fun w0 (b0 : Below W2.heap.size W2 w0) => hid (toMethod_any ⟨nm, st, ch⟩ A n c w0 (R2.out.below b0) hn1)
  have TMb := fun w0 (b0 : Below W2.heap.size W2 w0) => hid (toMethod_any ⟨nm2, st2, ch2⟩ B m d w0 (R2b.out.below b0) hm1)
  have SP := fun A0 c0 B0 d0 w0 (ra : Rd w0 A0 ch.length (strV ch)) (rb : Rd w0 B0 ch2.length (strV ch2)) (h1 : ch.length ≤ c0) (h2 : ch2.length ≤ d0) => hid (specSameFalse_law ⟨nm, st, ch⟩ ⟨nm2, st2, ch2⟩ A0 B0 ch.length c0 ch2.length d0 w0 HOKa.out HOKb.out ra rb h1 h2)
  have IM := fun A0 c0 B0 d0 w0 (ra : Rd w0 A0 ch.length (strV ch)) (rb : Rd w0 B0 ch2.length (strV ch2)) (h1 : ch.length ≤ c0) (h2 : ch2.length ≤ d0) => hid (implSameFalse_law ⟨nm, st, ch⟩ ⟨nm2, st2, ch2⟩ A0 B0 ch.length c0 ch2.length d0 w0 HOKa.out HOKb.out ra rb h1 h2)
  dsimp only at TMa TMb
  go_wp2_with fail
  go_region_held3 (fun w' => w'.cell? ⟨w.heap.size, 0, none⟩ = some (.string (bs nm)) ∧ w'.cell? ⟨w.heap.size, 1, none⟩ = some (.int .i64 st) ∧ w'.cell? ⟨w.heap.size, 2, none⟩ = some (.slice A n c) ∧ w'.cell? ⟨w.heap.size + 1, 0, none⟩ = some (.string (bs nm2)) ∧ w'.cell? ⟨w.heap.size + 1, 1, none⟩ = some (.int .i64 st2) ∧ w'.cell? ⟨w.heap.size + 1, 2, none⟩ = some (.slice B m d))
    (first | exact HHS5.out _ HBs.out | exact HHS5.out _ HBs.out.drew | exact HHS5.out _ Ea | exact HHS5.out _ Eb | exact HHS5.out _ Ec)
    (first | (go_at_call 13; (with_reducible refine (TMa _ HBs.out.drew).out.mono ?_); rintro e wa ⟨va, rfl, oa, ba⟩; obtain ⟨Aa, ca, rfl, hca, _, rda, _⟩ := own_shape oa; have Ea : Below W2.heap.size W2 wa := HBs.out.drew.trans (ba.mono HBs.out.size)) | (go_at_call 13; (with_reducible refine (TMb _ Ea).out.mono ?_); rintro e wb ⟨vb, rfl, ob, bb⟩; obtain ⟨Ab, cb, rfl, hcb, _, rdb, _⟩ := own_shape ob; have Eb := Ea.trans (bb.mono Ea.size); have rda2 := rda.below bb) | (go_at_call 42; refine (SP _ _ _ _ _ rda2 rdb hca hcb).out.mono ?_; rintro e wc ⟨rfl, bc⟩; have Ec := Eb.trans (bc.mono Eb.size)))
  have HEc := hid Ec
  clear oa ba rda ob bb rdb rda2 bc Ea Eb Ec m0 m1 m2 q0 q1 q2
  obtain ⟨m0, m1, m2, q0, q1, q2⟩ := HHS5.out _ HEc.out
  go_wp2_with fail
  refine (TMa _ HEc.out).out.mono ?_
  rintro e wd ⟨vd, rfl, od, bd⟩
  obtain ⟨Ad, cd, rfl, hcd, _, rdd, _⟩ := own_shape od
  have Ed := HEc.out.trans (bd.mono HEc.out.size)
  have X5 := hid (Blk.new wd 28 #[.string (bs nm), .int .i64 st, .slice Ad ch.length cd])
  have E5 := hid (Ed.alloc Ed.size (.cells #[.string (bs nm), .int .i64 st, .slice Ad ch.length cd] 28))
  have R5 := hid (rdd.alloc (.cells #[.string (bs nm), .int .i64 st, .slice Ad ch.length cd] 28))
  have hsz5 : wd.heap.size < (wd.alloc (.cells #[.string (bs nm), .int .i64 st, .slice Ad ch.length cd] 28)).heap.size := by simp
  clear od bd rdd Ed m0 m1 m2 q0 q1 q2
  obtain ⟨m0, m1, m2, q0, q1, q2⟩ := HHS5.out _ E5.out
  go_wp2_with fail
  generalize (wd.alloc (.cells #[.string (bs nm), .int .i64 st, .slice Ad ch.length cd] 28)) = W5 at *
  refine (TMb _ E5.out).out.mono ?_
  rintro e we ⟨ve, rfl, oe, be⟩
  obtain ⟨Ae, ce, rfl, hce, _, rde, _⟩ := own_shape oe
  have Ee := E5.out.trans (be.mono E5.out.size)
  have Y6 := hid (Blk.new we 28 #[.string (bs nm2), .int .i64 st2, .slice Ae ch2.length ce])
  have X6 := hid ((X5.out.below be hsz5).alloc (.cells #[.string (bs nm2), .int .i64 st2, .slice Ae ch2.length ce] 28))
  have E6 := hid (Ee.alloc Ee.size (.cells #[.string (bs nm2), .int .i64 st2, .slice Ae ch2.length ce] 28))
  have R6a := hid ((R5.out.below be).alloc (.cells #[.string (bs nm2), .int .i64 st2, .slice Ae ch2.length ce] 28))
  have R6b := hid (rde.alloc (.cells #[.string (bs nm2), .int .i64 st2, .slice Ae ch2.length ce] 28))
  have hsz6 : we.heap.size < (we.alloc (.cells #[.string (bs nm2), .int .i64 st2, .slice Ae ch2.length ce] 28)).heap.size := by simp
  have hsz6a : wd.heap.size < (we.alloc (.cells #[.string (bs nm2), .int .i64 st2, .slice Ae ch2.length ce] 28)).heap.size := by have := be.size; simp; omega
  clear oe be rde Ee m0 m1 m2 q0 q1 q2
  have HS8 : ∀ W', Below (we.alloc (.cells #[.string (bs nm2), .int .i64 st2, .slice Ae ch2.length ce] 28)).heap.size (we.alloc (.cells #[.string (bs nm2), .int .i64 st2, .slice Ae ch2.length ce] 28)) W' → W'.cell? ⟨w.heap.size, 0, none⟩ = some (.string (bs nm)) ∧ W'.cell? ⟨w.heap.size, 1, none⟩ = some (.int .i64 st) ∧ W'.cell? ⟨w.heap.size, 2, none⟩ = some (.slice A n c) ∧ W'.cell? ⟨w.heap.size + 1, 0, none⟩ = some (.string (bs nm2)) ∧ W'.cell? ⟨w.heap.size + 1, 1, none⟩ = some (.int .i64 st2) ∧ W'.cell? ⟨w.heap.size + 1, 2, none⟩ = some (.slice B m d) ∧ W'.cell? ⟨wd.heap.size, 0, none⟩ = some (.string (bs nm)) ∧ W'.cell? ⟨wd.heap.size, 1, none⟩ = some (.int .i64 st) ∧ W'.cell? ⟨wd.heap.size, 2, none⟩ = some (.slice Ad ch.length cd) ∧ W'.cell? ⟨we.heap.size, 0, none⟩ = some (.string (bs nm2)) ∧ W'.cell? ⟨we.heap.size, 1, none⟩ = some (.int .i64 st2) ∧ W'.cell? ⟨we.heap.size, 2, none⟩ = some (.slice Ae ch2.length ce) := fun W' h => by
    obtain ⟨a0, a1, a2, a3, a4, a5⟩ := HHS5.out _ (E6.out.trans (h.mono E6.out.size))
    have X := X6.out.below h hsz6a
    have Y := Y6.out.below h hsz6
    exact ⟨a0, a1, a2, a3, a4, a5, X.cell 0, X.cell 1, X.cell 2, Y.cell 0, Y.cell 1, Y.cell 2⟩
  have HHS8 := hid HS8
  clear HS8
  obtain ⟨m0, m1, m2, q0, q1, q2, x0, x1, x2, y0, y1, y2⟩ := HHS8.out _ (Below.refl _ _)
  go_wp2_with fail
  generalize (we.alloc (.cells #[.string (bs nm2), .int .i64 st2, .slice Ae ch2.length ce] 28)) = W6 at *
  refine (IM _ _ _ _ _ R6a.out R6b.out hcd hce).out.mono ?_
  rintro e wg ⟨rfl, bg⟩
  have HEg := hid bg
  clear bg m0 m1 m2 q0 q1 q2 x0 x1 x2 y0 y1 y2
  obtain ⟨m0, m1, m2, q0, q1, q2, x0, x1, x2, y0, y1, y2⟩ := HHS8.out _ HEg.out
  go_wp2_with fail
  go_region_held3 (fun w' => w'.cell? ⟨w.heap.size, 0, none⟩ = some (.string (bs nm)) ∧ w'.cell? ⟨w.heap.size, 1, none⟩ = some (.int .i64 st) ∧ w'.cell? ⟨w.heap.size, 2, none⟩ = some (.slice A n c) ∧ w'.cell? ⟨w.heap.size + 1, 0, none⟩ = some (.string (bs nm2)) ∧ w'.cell? ⟨w.heap.size + 1, 1, none⟩ = some (.int .i64 st2) ∧ w'.cell? ⟨w.heap.size + 1, 2, none⟩ = some (.slice B m d) ∧ w'.cell? ⟨wd.heap.size, 0, none⟩ = some (.string (bs nm)) ∧ w'.cell? ⟨wd.heap.size, 1, none⟩ = some (.int .i64 st) ∧ w'.cell? ⟨wd.heap.size, 2, none⟩ = some (.slice Ad ch.length cd) ∧ w'.cell? ⟨we.heap.size, 0, none⟩ = some (.string (bs nm2)) ∧ w'.cell? ⟨we.heap.size, 1, none⟩ = some (.int .i64 st2) ∧ w'.cell? ⟨we.heap.size, 2, none⟩ = some (.slice Ae ch2.length ce))
    (first | exact HHS8.out _ HEg.out | exact HHS8.out _ HEg.out.drew | exact HHS8.out _ Eh | exact HHS8.out _ Ei)
    (first | (go_at_call 13; refine (TMa _ (E6.out.trans ((HEg.out.drew).mono E6.out.size))).out.mono ?_; rintro e wh ⟨vh, rfl, oh, bh⟩; obtain ⟨Ah, ch', rfl, _, _, rdh, _⟩ := own_shape oh; have Eh := HEg.out.drew.trans (bh.mono HEg.out.size)) | (go_at_call 15; refine (eqMethod_any ⟨nm, st, ch⟩ Ad Ah ch.length cd ch.length ch' _ (R6a.out.below Eh) rdh (by have := HOKa.out.2.2.1; dsimp only at this; omega)).mono ?_; rintro e wi ⟨rfl, bi⟩; have Ei := Eh.trans (bi.mono Eh.size)))
  have HEi := hid Ei
  clear oh bh rdh bi Eh Ei m0 m1 m2 q0 q1 q2 x0 x1 x2 y0 y1 y2
  obtain ⟨m0, m1, m2, q0, q1, q2, x0, x1, x2, y0, y1, y2⟩ := HHS8.out _ HEi.out
  go_wp2_with fail
  go_region_held3 (fun w' => w'.cell? ⟨w.heap.size, 0, none⟩ = some (.string (bs nm)) ∧ w'.cell? ⟨w.heap.size, 1, none⟩ = some (.int .i64 st) ∧ w'.cell? ⟨w.heap.size, 2, none⟩ = some (.slice A n c) ∧ w'.cell? ⟨w.heap.size + 1, 0, none⟩ = some (.string (bs nm2)) ∧ w'.cell? ⟨w.heap.size + 1, 1, none⟩ = some (.int .i64 st2) ∧ w'.cell? ⟨w.heap.size + 1, 2, none⟩ = some (.slice B m d) ∧ w'.cell? ⟨wd.heap.size, 0, none⟩ = some (.string (bs nm)) ∧ w'.cell? ⟨wd.heap.size, 1, none⟩ = some (.int .i64 st) ∧ w'.cell? ⟨wd.heap.size, 2, none⟩ = some (.slice Ad ch.length cd) ∧ w'.cell? ⟨we.heap.size, 0, none⟩ = some (.string (bs nm2)) ∧ w'.cell? ⟨we.heap.size, 1, none⟩ = some (.int .i64 st2) ∧ w'.cell? ⟨we.heap.size, 2, none⟩ = some (.slice Ae ch2.length ce))
    (first | exact HHS8.out _ HEi.out | exact HHS8.out _ HEi.out.drew | exact HHS8.out _ Ej | exact HHS8.out _ Ek)
    (first | (go_at_call 13; refine (TMb _ (E6.out.trans ((HEi.out.drew).mono E6.out.size))).out.mono ?_; rintro e wj ⟨vj, rfl, oj, bj⟩; obtain ⟨Aj, cj, rfl, _, _, rdj, _⟩ := own_shape oj; have Ej := HEi.out.drew.trans (bj.mono HEi.out.size)) | (go_at_call 15; refine (eqMethod_any ⟨nm2, st2, ch2⟩ Ae Aj ch2.length ce ch2.length cj _ (R6b.out.below Ej) rdj (by have := HOKb.out.2.2.1; dsimp only at this; omega)).mono ?_; rintro e wk ⟨rfl, bk⟩; have Ek := Ej.trans (bk.mono Ej.size)))
  have HEk := hid Ek
  clear oj bj rdj bk Ej Ek m0 m1 m2 q0 q1 q2 x0 x1 x2 y0 y1 y2
  go_wp2
  go_ret
  exact ⟨rfl, HB2.out.trans ((E6.out.trans (HEk.out.mono E6.out.size)).mono hw2)⟩
end Go.Proofs.Ytiajeheonoebnaa

