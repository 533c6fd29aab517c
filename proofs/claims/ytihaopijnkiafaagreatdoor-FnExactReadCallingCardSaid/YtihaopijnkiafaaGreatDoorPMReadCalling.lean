/- The statement of FnExactReadCalling: called with any arguments that can be read as data, the law returns true, and every argument reads afterwards as it read before. No conditions. -/
import Derived.Test.YtihaopijnkiafaaGreatDoorPMReadCallingA
import Derived.Test.YtihaopijnkiafaaGreatDoorMeth2
import Derived.Test.YtihaopijnkiafaaGreatDoorRows
import Derived.ShutString
import Derived.ChangeOld
import Derived.Test.YtihaopijnkiafaaGreatDoorTie
import Derived.Test.YtihaopijnkiafaaGreatDoorCards
import Derived.ProofKit
import Derived.LaidMore
import Derived.OpenShut
import Derived.Stop.Joined
import Derived.SevenTiedAt
import Derived.LaidOnce
import Derived.Lay
set_option linter.unusedVariables false
set_option linter.unusedSimpArgs false
set_option maxRecDepth 100000
namespace Go.Proofs.YtihaopijnkiafaaGreatDoor
open Go.RowKit

set_option maxHeartbeats 4000000 in
theorem LawReadCalling.walk (v : Value) (m : Meth) (u : Value) (k : List UInt8 × List UInt8) (s : List UInt8) (bell : Int) (w : World) (hv : InMethod w v m) (hu : InCalls w u k) (ws : s.length ≤ maxLen) (wbell : (Lit.int .i64 bell).wf = true) :
    Calls Tryz.prog 3 #[v, u, .string (bs s), .int .i64 bell] w fun e w' => e = .returned (.bool true) ∧ Below w.heap.size w w' := by
  obtain ⟨nm, st, ch⟩ := m
  obtain ⟨k1, k2⟩ := k
  have SZ := fun left w0 (hw0 : InMethod w0 v ⟨nm, st, ch⟩) h0 h1 => hid (szMethod_any ⟨nm, st, ch⟩ v left w0 hw0 h0 h1)
  have HIM := hid (fun (w0 : World) (hb : Below w.heap.size w w0) => inMethod_below hv hb)
  obtain ⟨_, rfl, hn, wst, A, n, c, rfl, hn2, hr, hs⟩ := hv
  obtain ⟨rfl, hk1, hk2⟩ := hu
  have SK := fun left w0 h0 h1 => hid (szCalls_any (k1, k2) left w0 hk1 hk2 h0 h1)
  dsimp only at *
  have hln : ch.length = n := by have := hr.1; rw [strV_len] at this; exact this
  have HR := hid hr
  have HS := hid hs
  clear hr hs
  by_cases ls : s.length ≤ 1048576
  case neg =>
    have hi : (1048576 : Int) < (s.length : Int) := by omega
    go_enter Tryz.func3, Tryz.ntmps3
    go_wp2
    go_ret
    exact ⟨rfl, ((Below.refl _ _).alloc (Nat.le_refl _) _).alloc (by simp) _⟩
  have is : ¬ (1048576 : Int) < (s.length : Int) := by omega
  go_enter Tryz.func3, Tryz.ntmps3
  go_wp2_with fail
  obtain ⟨B2, hsz, HC⟩ := box_mk2 24 26 w nm k1 k2 st (.slice A n c)
  generalize ((w.alloc (.cells #[.string (bs nm), .int .i64 st, .slice A n c] 24)).alloc (.cells #[.string (bs k1), .string (bs k2)] 26)) = W2 at *
  have HB2 := hid B2
  have HIM2 := hid (HIM.out W2 B2)
  have R2 := hid (HR.out.below B2)
  have hw2 : w.heap.size ≤ W2.heap.size := B2.size
  clear B2 hsz
  refine (SZ _ _ HIM2.out (by decide) (by decide)).out.mono ?_
  rintro e w1 ⟨r, rfl, b1, hr1, hr2⟩
  have HB1 := hid b1
  have hs1 := b1.size
  obtain ⟨⟨m0, m1, m2⟩, q0, q1⟩ := HC.out _ b1
  clear b1
  by_cases hneg : r < 0
  · go_wp2
    go_ret
    exact ⟨rfl, HB2.out.trans (HB1.out.mono hw2)⟩
  have hsum := hr2 (by omega)
  have r1 : r ≤ 1048576 := by omega
  have r0 : 0 ≤ r := by omega
  clear hr1 hr2
  have HSUM := hid hsum
  clear hsum
  go_wp2_with fail
  refine (SK _ _ r0 r1).out.mono ?_
  rintro e ws ⟨r', rfl, bs', hr1', hr2'⟩
  have HBs := hid (HB1.out.trans (bs'.mono hs1))
  obtain ⟨⟨m0', m1', m2'⟩, q0', q1'⟩ := HC.out _ HBs.out
  clear bs'
  by_cases hneg' : r' < 0
  · go_wp2
    go_ret
    exact ⟨rfl, HB2.out.trans (HBs.out.mono hw2)⟩
  have hsum' := hr2' (by omega)
  have hsum := HSUM.out
  clear hr1' hr2'
  have OK : LawOk ⟨nm, st, ch⟩ (k1, k2) := ⟨wst, by dsimp only; omega, by dsimp only; omega, fun s h => by have := totL_mem h; dsimp only at *; omega, by dsimp only; omega, by dsimp only; omega⟩
  have HOK := hid OK
  have hn1 : n ≤ 1048576 := by omega
  clear OK hsum hsum' HSUM hln
  have TM := fun w0 (b0 : Below W2.heap.size W2 w0) => hid (toMethod_any ⟨nm, st, ch⟩ A n c w0 (R2.out.below b0) hn1)
  have TK := fun w0 => hid (toCalls_any (k1, k2) w0)
  have SP := fun A0 c0 w0 (rd : Rd w0 A0 ch.length (strV ch)) (hc0 : ch.length ≤ c0) => hid (specReadCalling_law ⟨nm, st, ch⟩ (k1, k2) s bell A0 ch.length c0 w0 HOK.out rd hc0 ls)
  have IM := fun A0 c0 w0 (rd : Rd w0 A0 ch.length (strV ch)) (hc0 : ch.length ≤ c0) => hid (implReadCalling_law ⟨nm, st, ch⟩ (k1, k2) s bell A0 ch.length c0 w0 HOK.out rd hc0 ls)
  have HS5 : ∀ W', Below W2.heap.size W2 W' → W'.cell? ⟨w.heap.size, 0, none⟩ = some (.string (bs nm)) ∧ W'.cell? ⟨w.heap.size, 1, none⟩ = some (.int .i64 st) ∧ W'.cell? ⟨w.heap.size, 2, none⟩ = some (.slice A n c) ∧ W'.cell? ⟨w.heap.size + 1, 0, none⟩ = some (.string (bs k1)) ∧ W'.cell? ⟨w.heap.size + 1, 1, none⟩ = some (.string (bs k2)) := fun W' h => by
    obtain ⟨⟨a0, a1, a2⟩, a3, a4⟩ := HC.out _ h
    exact ⟨a0, a1, a2, a3, a4⟩
  have HHS5 := hid HS5
  clear HS5
  clear m0 m1 m2 q0 q1 m0' m1' m2' q0' q1'
  obtain ⟨m0, m1, m2, q0, q1⟩ := HHS5.out _ HBs.out
  go_wp2_with fail
  go_region_held3 (fun w' => w'.cell? ⟨w.heap.size, 0, none⟩ = some (.string (bs nm)) ∧ w'.cell? ⟨w.heap.size, 1, none⟩ = some (.int .i64 st) ∧ w'.cell? ⟨w.heap.size, 2, none⟩ = some (.slice A n c) ∧ w'.cell? ⟨w.heap.size + 1, 0, none⟩ = some (.string (bs k1)) ∧ w'.cell? ⟨w.heap.size + 1, 1, none⟩ = some (.string (bs k2)))
    (first | exact HHS5.out _ HBs.out | exact HHS5.out _ HBs.out.drew | exact HHS5.out _ Ea | exact HHS5.out _ Eb | exact HHS5.out _ Ec)
    (first | (go_at_call 7; refine (TM _ HBs.out.drew).out.mono ?_; rintro e wa ⟨va, rfl, oa, ba⟩; obtain ⟨Aa, ca, rfl, hca, _, rda, _⟩ := own_shape oa; have Ea : Below W2.heap.size W2 wa := HBs.out.drew.trans (ba.mono HBs.out.size)) | (go_at_call 8; refine (TK _).out.mono ?_; rintro e wb ⟨rfl, bb⟩; have Eb := Ea.trans (bb.mono Ea.size); have rdb := rda.below bb) | (go_at_call 6; refine (SP _ _ _ rdb hca).out.mono ?_; rintro e wc ⟨rfl, bc⟩; have Ec := Eb.trans (bc.mono Eb.size)))
  have HEc := hid Ec
  obtain ⟨n0, n1, n2, p0, p1⟩ := HHS5.out _ Ec
  clear oa ba bb rda rdb bc Ea Eb Ec
  go_wp2_with fail
  refine (TM _ HEc.out).out.mono ?_
  rintro e wd ⟨vd, rfl, od, bd⟩
  obtain ⟨Ad, cd, rfl, hcd, _, rdd, _⟩ := own_shape od
  have Ed := HEc.out.trans (bd.mono HEc.out.size)
  have X5 := Blk.new wd 31 #[.string (bs nm), .int .i64 st, .slice Ad ch.length cd]
  have E5 : Below W2.heap.size W2 (wd.alloc (.cells #[.string (bs nm), .int .i64 st, .slice Ad ch.length cd] 31)) := Ed.alloc Ed.size _
  have R5 : Rd (wd.alloc (.cells #[.string (bs nm), .int .i64 st, .slice Ad ch.length cd] 31)) Ad ch.length (strV ch) := rdd.alloc _
  have hsz5 : wd.heap.size < (wd.alloc (.cells #[.string (bs nm), .int .i64 st, .slice Ad ch.length cd] 31)).heap.size := by simp
  have hcont : ∀ (P : World → Prop), P (wd.alloc (.cells #[.string (bs nm), .int .i64 st, .slice Ad ch.length cd] 31)) → P (wd.alloc (.cells #[.string (bs nm), .int .i64 st, .slice Ad ch.length cd] 31)) := fun _ h => h
  clear hcont
  have HS8 : ∀ W', Below (wd.alloc (.cells #[.string (bs nm), .int .i64 st, .slice Ad ch.length cd] 31)).heap.size (wd.alloc (.cells #[.string (bs nm), .int .i64 st, .slice Ad ch.length cd] 31)) W' → W'.cell? ⟨w.heap.size, 0, none⟩ = some (.string (bs nm)) ∧ W'.cell? ⟨w.heap.size, 1, none⟩ = some (.int .i64 st) ∧ W'.cell? ⟨w.heap.size, 2, none⟩ = some (.slice A n c) ∧ W'.cell? ⟨w.heap.size + 1, 0, none⟩ = some (.string (bs k1)) ∧ W'.cell? ⟨w.heap.size + 1, 1, none⟩ = some (.string (bs k2)) ∧ W'.cell? ⟨wd.heap.size, 0, none⟩ = some (.string (bs nm)) ∧ W'.cell? ⟨wd.heap.size, 1, none⟩ = some (.int .i64 st) ∧ W'.cell? ⟨wd.heap.size, 2, none⟩ = some (.slice Ad ch.length cd) := fun W' h => by
    obtain ⟨a0, a1, a2, a3, a4⟩ := HHS5.out _ (E5.trans (h.mono E5.size))
    have X := X5.below h hsz5
    exact ⟨a0, a1, a2, a3, a4, X.cell 0, X.cell 1, X.cell 2⟩
  have HHS8 := hid HS8
  have HE5 := hid E5
  have HR5 := hid R5
  clear n0 n1 n2 p0 p1 HS8 E5 R5 X5 od bd rdd Ed
  go_wp2_with fail
  generalize (wd.alloc (.cells #[.string (bs nm), .int .i64 st, .slice Ad ch.length cd] 31)) = W5 at *
  obtain ⟨n0, n1, n2, p0, p1, x0, x1, x2⟩ := HHS8.out W5 (Below.refl _ _)
  go_region_held3 (fun w' => w'.cell? ⟨w.heap.size, 0, none⟩ = some (.string (bs nm)) ∧ w'.cell? ⟨w.heap.size, 1, none⟩ = some (.int .i64 st) ∧ w'.cell? ⟨w.heap.size, 2, none⟩ = some (.slice A n c) ∧ w'.cell? ⟨w.heap.size + 1, 0, none⟩ = some (.string (bs k1)) ∧ w'.cell? ⟨w.heap.size + 1, 1, none⟩ = some (.string (bs k2)) ∧ w'.cell? ⟨wd.heap.size, 0, none⟩ = some (.string (bs nm)) ∧ w'.cell? ⟨wd.heap.size, 1, none⟩ = some (.int .i64 st) ∧ w'.cell? ⟨wd.heap.size, 2, none⟩ = some (.slice Ad ch.length cd))
    (first | exact HHS8.out _ (Below.refl _ _) | exact HHS8.out _ (Below.refl _ _).drew | exact HHS8.out _ Ef | exact HHS8.out _ Eg)
    (first | (go_at_call 8; refine (TK _).out.mono ?_; rintro e wf ⟨rfl, bf⟩; have Ef : Below W5.heap.size W5 wf := (Below.refl _ _).drew.trans bf) | (go_at_call 9; refine (IM _ _ _ (HR5.out.below Ef) hcd).out.mono ?_; rintro e wg ⟨rfl, bg⟩; have Eg := Ef.trans (bg.mono Ef.size)))
  have HEg := hid Eg
  clear bf bg Ef Eg
  clear n0 n1 n2 p0 p1 x0 x1 x2
  obtain ⟨n0, n1, n2, p0, p1, x0, x1, x2⟩ := HHS8.out _ HEg.out
  go_wp2_with fail
  go_region_held3 (fun w' => w'.cell? ⟨w.heap.size, 0, none⟩ = some (.string (bs nm)) ∧ w'.cell? ⟨w.heap.size, 1, none⟩ = some (.int .i64 st) ∧ w'.cell? ⟨w.heap.size, 2, none⟩ = some (.slice A n c) ∧ w'.cell? ⟨w.heap.size + 1, 0, none⟩ = some (.string (bs k1)) ∧ w'.cell? ⟨w.heap.size + 1, 1, none⟩ = some (.string (bs k2)) ∧ w'.cell? ⟨wd.heap.size, 0, none⟩ = some (.string (bs nm)) ∧ w'.cell? ⟨wd.heap.size, 1, none⟩ = some (.int .i64 st) ∧ w'.cell? ⟨wd.heap.size, 2, none⟩ = some (.slice Ad ch.length cd))
    (first | exact HHS8.out _ HEg.out | exact HHS8.out _ HEg.out.drew | exact HHS8.out _ Eh | exact HHS8.out _ Ei)
    (first | (go_at_call 7; refine (TM _ (HE5.out.trans ((HEg.out.drew).mono HE5.out.size))).out.mono ?_; rintro e wh ⟨vh, rfl, oh, bh⟩; obtain ⟨Ah, ch', rfl, _, _, rdh, _⟩ := own_shape oh; have Eh := HEg.out.drew.trans (bh.mono HEg.out.size)) | (go_at_call 10; refine (eqMethod_any ⟨nm, st, ch⟩ Ad Ah ch.length cd ch.length ch' _ (HR5.out.below Eh) rdh (by have := HOK.out.2.2.1; dsimp only at this; omega)).mono ?_; rintro e wi ⟨rfl, bi⟩; have Ei := Eh.trans (bi.mono Eh.size)))
  have HEi := hid Ei
  clear oh bh rdh bi Eh Ei n0 n1 n2 p0 p1 x0 x1 x2
  go_wp2
  go_ret
  exact ⟨rfl, HB2.out.trans ((HE5.out.trans (HEi.out.mono HE5.out.size)).mono hw2)⟩
end Go.Proofs.YtihaopijnkiafaaGreatDoor


namespace Go.Proofs.YtihaopijnkiafaaGreatDoor.PReadCalling
open Go.ChangeShapes Go.WideShapes Go.ChangeAt Go.RowKit
open Go.ChangeMaps (open_string shut_string)
set_option linter.unusedVariables false

theorem own : ownKnob Tryz.prog.godebug = none := by kernel_rfl
def laidL : List (String × DataW Unit) := [("math/bits.deBruijn32tab", Rows.laid_math_bits_deBruijn32tab), ("math/bits.deBruijn64tab", Rows.laid_math_bits_deBruijn64tab), ("internal/strconv.uint64pow10", Rows.laid_internal_strconv_uint64pow10), ("unicode/utf8.acceptRanges", Rows.laid_unicode_utf8_acceptRanges), ("unicode/utf8.first", Rows.laid_unicode_utf8_first)]
theorem laidOut : laidOutB Tryz.prog = true := by kernel_rfl

set_option maxRecDepth 100000 in
theorem lifted (os : Os) (started : os.Started) (H : Type) (enc : TypeId × Value → H) :
    ReturnsInHanded {} Tryz.checked os 3 .any (fun w args => (Rows.fnExactReadCallingSpec.pre enc Tryz.prog Tryz.f3 [] false w args ∧ laidMetH Tryz.prog laidL w) ∧ sizedMet enc Tryz.prog Tryz.f3 (OpenSpec.ofChange Rows.fnExactReadCallingSpec) false w args)
      (Rows.fnExactReadCallingSpec.post enc Tryz.prog Tryz.f3 false true false false) := by
  refine returnsInHanded_of_change_and (C := Tryz.checked) (X := fun w _ => laidMetH Tryz.prog laidL w) (fun _ _ _ hh h => h.of_heap hh) own started (by kernel_rfl) Tryz.func3
    (ChangeSpec.witness_shaped (enc := enc) (C := Tryz.checked) (os := os) (X := fun w _ => laidMetH Tryz.prog laidL w) false (World.laidAll Tryz.prog os laidL) #[.agg #[.string ByteArray.empty, .int .i64 0, .slice none 0 0], .agg #[.string ByteArray.empty, .string ByteArray.empty], .string ByteArray.empty, .int .i64 0] 8 (World.laidAll_os _ _ _) (World.shaped_of_ZipB (by kernel_rfl) (by kernel_rfl)) (by kernel_rfl) (by kernel_rfl) (by kernel_rfl)
      (by rw [MakeChecks.laidMetH_plain _ _ _ (by kernel_rfl)]; exact laidMet_laidAll _ (by kernel_rfl) (by kernel_rfl))) ?_
  intro W base args ds gs before hval0 hW _ _ hL _
  have hval : ∀ (j : Nat) t v, Tryz.f3.params[j]? = some t → args[j]? = some v → Value.okWide Tryz.prog W .any base t v := hval0
  have hW' := hW
  obtain ⟨p, q, hA0, hV, rfl, hfz, hnd⟩ := hW
  have hA : DataW.TrodAll enc Tryz.prog W 0 (fun _ => true) true Tryz.f3.params.toList args.toList ds p := hA0
  rw [Tryz.params3] at hA hval
  obtain ⟨v0, vs0, d0, ds0, p0, q0, hargs, rfl, rfl, h0, r0⟩ := trodAll_cons hA
  obtain ⟨v1, vs1, d1, ds1, p1, q1, rfl, rfl, rfl, h1, r1⟩ := trodAll_cons r0
  obtain ⟨v2, vs2, d2, ds2, p2, q2, rfl, rfl, rfl, h2, r2⟩ := trodAll_cons r1
  obtain ⟨v3, vs3, d3, ds3, p3, q3, rfl, rfl, rfl, h3, r3⟩ := trodAll_cons r2
  obtain ⟨rfl, rfl, rfl⟩ := trodAll_nil r3
  obtain rfl : args = #[v0, v1, v2, v3] := by cases args; simp_all
  obtain ⟨rfl, rfl⟩ := trodVars_none hV
  have k0 := h0
  have lt0 : ∀ x ∈ p0, x.block < W.heap.size := by obtain ⟨m, hm⟩ := k0; exact DataW.trod_lt m _ _ _ hm
  obtain ⟨a0, w0⟩ := open_inMethod (hval 0 24 v0 rfl rfl) h0
  have k1 := h1
  have lt1 : ∀ x ∈ p1, x.block < W.heap.size := by obtain ⟨m, hm⟩ := k1; exact DataW.trod_lt m _ _ _ hm
  obtain ⟨a1, w1⟩ := open_inCalls (hval 1 26 v1 rfl rfl) h1
  obtain ⟨a2, rfl, rfl, rfl, w2⟩ := open_string Tryz.underlying9 (hval 2 9 v2 rfl rfl) h2
  obtain ⟨l2, rfl⟩ := bs_surj a2
  have wl2 : l2.length ≤ maxLen := by rw [← bs_size]; exact w2
  obtain ⟨a3, rfl, rfl, rfl, w3⟩ := open_int Tryz.underlying3 (hval 3 3 v3 rfl rfl) h3
  clear hA0 hval0
  refine (LawReadCalling.walk v0 a0 v1 a1 l2 a3 W w0 w1 wl2 w3).mono fun e W' ⟨he, bel⟩ => ?_
  subst he
  exact ⟨_, rfl, _, _, _, [], _, [], hW', trodAll_mk1 (shut_bool Tryz.underlying4 _), (trodAll_cons_mk (Below.trod laidOut (by kernel_rfl) (of_decide_eq_true (by kernel_rfl)) k0 bel lt0) (trodAll_cons_mk (Below.trod laidOut (by kernel_rfl) (of_decide_eq_true (by kernel_rfl)) k1 bel lt1) (trodAll_cons_mk (shut_string Tryz.underlying9 w2) (trodAll_cons_mk (shut_int Tryz.underlying3 w3) trodAll_mk0)))), rfl, bel.frame _, fun h => by cases h⟩

theorem over : Rows.fnExactReadCallingRow.holds Tryz.pinned (OpenSpec.ofChange Rows.fnExactReadCallingSpec) :=
  OpenClaim.holds_of_wide 3 Tryz.f3 rfl rfl rfl rfl rfl rfl rfl ⟨rfl, rfl, rfl, rfl, rfl⟩ rfl rfl rfl rfl rfl (by kernel_rfl) Tryz.func3 (by kernel_rfl)
    (of_decide_eq_true (by kernel_rfl)) (by unfold Func.isWrapper; first | (rw [if_pos (by decide +kernel)]; kernel_rfl) | (rw [if_neg (by decide +kernel)]; exact ⟨rfl, rfl⟩))
    (fun os started H enc _ => lifted os started H enc)

theorem proved : Rows.FnExactReadCallingCardSaid :=
  Claim7.holds_tied_plain_at .later [] [.data, .data, .data, .data, .pinned] true (true, "bc2441f139a2bd70c4fd106c880bb40b222937fb0b9e9936da5c0b3d3d74c1de") false
    over (fun _ h => by cases h) (by kernel_rfl) (fun _ h => by cases h) fnExactReadCalling_row_tie rfl ⟨rfl, rfl⟩ (by kernel_rfl) rfl
    (fun f fn hf hfn => by
      obtain rfl : f = 3 := Option.some.inj ((show Tryz.prog.funcNamed "loop.example/g00894/laws.FnExactReadCalling" = some 3 by kernel_rfl).symm.trans hf) |>.symm
      obtain rfl : fn = Tryz.f3 := (Option.some.inj (Tryz.func3.symm.trans hfn)).symm
      exact ⟨by kernel_rfl, fun j t ht => by
        rw [Tryz.params3] at ht
        have hm : t ∈ [24, 26, 9, 3] := by simpa using Array.mem_of_getElem? ht
        have hall : ([24, 26, 9, 3].all fun u => !Tryz.prog.wantsStandIn u) = true := by kernel_rfl
        exact (show Tryz.prog.wantsStandIn t = false by simpa using List.all_eq_true.1 hall t hm)⟩)
    (by kernel_rfl)
#print axioms proved
end Go.Proofs.YtihaopijnkiafaaGreatDoor.PReadCalling

