/- The walk of the law FnExactIsFalseHead: it returns true, and changes nothing that was there. The conditions are that the arguments fit their kinds. -/
import Derived.Test.YtiajeheonoebnaaExpF
set_option linter.unusedVariables false
set_option linter.unusedSimpArgs false
set_option maxRecDepth 100000
namespace Go.Proofs.Ytiajeheonoebnaa
open Go.RowKit

set_option maxHeartbeats 4000000 in
theorem LawIsFalseHead.walk (v : Value) (m : Meth) (fr : List UInt8) (w : World) (hv : InMethod w v m) (wfr : fr.length ≤ maxLen) :
    Calls Try.prog 4 #[v, .string (bs fr)] w fun e w' => e = .returned (.bool true) ∧ Below w.heap.size w w' := by
  obtain ⟨nm, st, ch⟩ := m
  have SZ := fun left w0 (hw0 : InMethod w0 v ⟨nm, st, ch⟩) h0 h1 => hid (szMethod_any ⟨nm, st, ch⟩ v left w0 hw0 h0 h1)
  have HIM := hid (fun (w0 : World) (hb : Below w.heap.size w w0) => inMethod_below hv hb)
  obtain ⟨_, rfl, hn, wst, A, n, c, rfl, hn2, hr, hs⟩ := hv
  dsimp only at *
  have hln : ch.length = n := by have := hr.1; rw [strV_len] at this; exact this
  have HR := hid hr
  have HS := hid hs
  clear hr hs
  by_cases lfr : fr.length ≤ 1048576
  case neg =>
    have hi : (1048576 : Int) < (fr.length : Int) := by omega
    go_enter Try.func4, Try.ntmps4
    go_wp2
    go_ret
    exact ⟨rfl, (Below.refl _ _).alloc (Nat.le_refl _) _⟩
  have ifr : ¬ (1048576 : Int) < (fr.length : Int) := by omega
  go_enter Try.func4, Try.ntmps4
  go_wp2_with fail
  obtain ⟨B2, hsz, HC⟩ := box_mk1 24 w nm st (.slice A n c)
  generalize (w.alloc (.cells #[.string (bs nm), .int .i64 st, .slice A n c] 24)) = W2 at *
  have HB2 := hid B2
  have HIM2 := hid (HIM.out W2 B2)
  have R2 := hid (HR.out.below B2)
  have hw2 : w.heap.size ≤ W2.heap.size := B2.size
  clear B2 hsz
  refine (SZ _ _ HIM2.out (by decide) (by decide)).out.mono ?_
  rintro e w1 ⟨r, rfl, b1, hr1, hr2⟩
  have HB1 := hid b1
  have hs1 := b1.size
  obtain ⟨m0, m1, m2⟩ := HC.out _ b1
  clear b1
  by_cases hneg : r < 0
  · go_wp2
    go_ret
    exact ⟨rfl, HB2.out.trans (HB1.out.mono hw2)⟩
  have hsum := hr2 (by omega)
  dsimp only at hsum
  have r1 : r ≤ 1048576 := by omega
  have r0 : 0 ≤ r := by omega
  have OK : LawOk ⟨nm, st, ch⟩ ([], []) := ⟨wst, by dsimp only; omega, by dsimp only; omega, fun s h => by have := totL_mem h; dsimp only at *; omega, by simp, by simp⟩
  have HOK := hid OK
  have hn1 : n ≤ 1048576 := by omega
  clear OK hsum hr1 hr2 hln
  have TM := fun w0 (b0 : Below W2.heap.size W2 w0) => hid (toMethod_any ⟨nm, st, ch⟩ A n c w0 (R2.out.below b0) hn1)
  have SP := fun A0 c0 w0 (rd : Rd w0 A0 ch.length (strV ch)) (hc0 : ch.length ≤ c0) => hid (specIsFalseHead_law ⟨nm, st, ch⟩ fr A0 ch.length c0 w0 HOK.out rd hc0 lfr)
  have IM := fun A0 c0 w0 (rd : Rd w0 A0 ch.length (strV ch)) (hc0 : ch.length ≤ c0) => hid (implIsFalseHead_law ⟨nm, st, ch⟩ fr A0 ch.length c0 w0 HOK.out rd hc0 lfr)
  have HS5 : ∀ W', Below W2.heap.size W2 W' → W'.cell? ⟨w.heap.size, 0, none⟩ = some (.string (bs nm)) ∧ W'.cell? ⟨w.heap.size, 1, none⟩ = some (.int .i64 st) ∧ W'.cell? ⟨w.heap.size, 2, none⟩ = some (.slice A n c) := fun W' h => by
    obtain ⟨a0, a1, a2⟩ := HC.out _ h
    exact ⟨a0, a1, a2⟩
  have HHS5 := hid HS5
  clear HS5
  clear m0 m1 m2
  obtain ⟨m0, m1, m2⟩ := HHS5.out _ HB1.out
  go_wp2_with fail
  refine (TM _ HB1.out).out.mono ?_
  rintro e wa ⟨va, rfl, oa, ba⟩
  obtain ⟨Aa, ca, rfl, hca, _, rda, _⟩ := own_shape oa
  have Ea : Below W2.heap.size W2 wa := HB1.out.trans (ba.mono HB1.out.size)
  clear m0 m1 m2
  obtain ⟨m0, m1, m2⟩ := HHS5.out _ Ea
  go_wp2_with fail
  refine (SP _ _ _ rda hca).out.mono ?_
  (rintro e wc ⟨rfl, bc⟩; have Ec := Ea.trans (bc.mono Ea.size))
  have HEc := hid Ec
  obtain ⟨n0, n1, n2⟩ := HHS5.out _ Ec
  clear oa ba rda bc Ea Ec
  go_wp2_with fail
  refine (TM _ HEc.out).out.mono ?_
  rintro e wd ⟨vd, rfl, od, bd⟩
  obtain ⟨Ad, cd, rfl, hcd, _, rdd, _⟩ := own_shape od
  have Ed := HEc.out.trans (bd.mono HEc.out.size)
  have X5 := Blk.new wd 28 #[.string (bs nm), .int .i64 st, .slice Ad ch.length cd]
  have E5 : Below W2.heap.size W2 (wd.alloc (.cells #[.string (bs nm), .int .i64 st, .slice Ad ch.length cd] 28)) := Ed.alloc Ed.size _
  have R5 : Rd (wd.alloc (.cells #[.string (bs nm), .int .i64 st, .slice Ad ch.length cd] 28)) Ad ch.length (strV ch) := rdd.alloc _
  have hsz5 : wd.heap.size < (wd.alloc (.cells #[.string (bs nm), .int .i64 st, .slice Ad ch.length cd] 28)).heap.size := by simp
  have hcont : ∀ (P : World → Prop), P (wd.alloc (.cells #[.string (bs nm), .int .i64 st, .slice Ad ch.length cd] 28)) → P (wd.alloc (.cells #[.string (bs nm), .int .i64 st, .slice Ad ch.length cd] 28)) := fun _ h => h
  clear hcont
  have HS8 : ∀ W', Below (wd.alloc (.cells #[.string (bs nm), .int .i64 st, .slice Ad ch.length cd] 28)).heap.size (wd.alloc (.cells #[.string (bs nm), .int .i64 st, .slice Ad ch.length cd] 28)) W' → W'.cell? ⟨w.heap.size, 0, none⟩ = some (.string (bs nm)) ∧ W'.cell? ⟨w.heap.size, 1, none⟩ = some (.int .i64 st) ∧ W'.cell? ⟨w.heap.size, 2, none⟩ = some (.slice A n c) ∧ W'.cell? ⟨wd.heap.size, 0, none⟩ = some (.string (bs nm)) ∧ W'.cell? ⟨wd.heap.size, 1, none⟩ = some (.int .i64 st) ∧ W'.cell? ⟨wd.heap.size, 2, none⟩ = some (.slice Ad ch.length cd) := fun W' h => by
    obtain ⟨a0, a1, a2⟩ := HHS5.out _ (E5.trans (h.mono E5.size))
    have X := X5.below h hsz5
    exact ⟨a0, a1, a2, X.cell 0, X.cell 1, X.cell 2⟩
  have HHS8 := hid HS8
  have HE5 := hid E5
  have HR5 := hid R5
  clear n0 n1 n2 HS8 E5 R5 X5 od bd rdd Ed
  go_wp2_with fail
  generalize (wd.alloc (.cells #[.string (bs nm), .int .i64 st, .slice Ad ch.length cd] 28)) = W5 at *
  obtain ⟨n0, n1, n2, x0, x1, x2⟩ := HHS8.out W5 (Below.refl _ _)
  refine (IM _ _ _ HR5.out hcd).out.mono ?_
  rintro e wg ⟨rfl, bg⟩
  have HEg := hid bg
  clear bg
  clear n0 n1 n2 x0 x1 x2
  obtain ⟨n0, n1, n2, x0, x1, x2⟩ := HHS8.out _ HEg.out
  go_wp2_with fail
  go_region_held3 (fun w' => w'.cell? ⟨w.heap.size, 0, none⟩ = some (.string (bs nm)) ∧ w'.cell? ⟨w.heap.size, 1, none⟩ = some (.int .i64 st) ∧ w'.cell? ⟨w.heap.size, 2, none⟩ = some (.slice A n c) ∧ w'.cell? ⟨wd.heap.size, 0, none⟩ = some (.string (bs nm)) ∧ w'.cell? ⟨wd.heap.size, 1, none⟩ = some (.int .i64 st) ∧ w'.cell? ⟨wd.heap.size, 2, none⟩ = some (.slice Ad ch.length cd))
    (first | exact HHS8.out _ HEg.out | exact HHS8.out _ HEg.out.drew | exact HHS8.out _ Eh | exact HHS8.out _ Ei)
    (first | (go_at_call 13; refine (TM _ (HE5.out.trans ((HEg.out.drew).mono HE5.out.size))).out.mono ?_; rintro e wh ⟨vh, rfl, oh, bh⟩; obtain ⟨Ah, ch', rfl, _, _, rdh, _⟩ := own_shape oh; have Eh := HEg.out.drew.trans (bh.mono HEg.out.size)) | (go_at_call 15; refine (eqMethod_any ⟨nm, st, ch⟩ Ad Ah ch.length cd ch.length ch' _ (HR5.out.below Eh) rdh (by have := HOK.out.2.2.1; dsimp only at this; omega)).mono ?_; rintro e wi ⟨rfl, bi⟩; have Ei := Eh.trans (bi.mono Eh.size)))
  have HEi := hid Ei
  clear oh bh rdh bi Eh Ei n0 n1 n2 x0 x1 x2
  go_wp2
  go_ret
  exact ⟨rfl, HB2.out.trans ((HE5.out.trans (HEi.out.mono HE5.out.size)).mono hw2)⟩
end Go.Proofs.Ytiajeheonoebnaa

