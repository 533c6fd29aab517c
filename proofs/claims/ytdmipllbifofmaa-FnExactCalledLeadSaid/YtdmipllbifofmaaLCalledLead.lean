/- The walk of the law FnExactCalledLead: it returns true, and changes nothing that was there. The conditions are that the arguments fit their kinds. -/
import Derived.Test.YtdmipllbifofmaaExpK
import Derived.Test.YtdmipllbifofmaaMeth2
set_option linter.unusedVariables false
set_option linter.unusedSimpArgs false
set_option maxRecDepth 100000
namespace Go.Proofs.Ytdmipllbifofmaa
open Go.RowKit

theorem below_go {X Y Z : World} (h : Below X.heap.size X Y) (h2 : Below Y.heap.size Y Z) : Below X.heap.size X Z := h.trans (h2.mono h.size)
theorem below_al {X Y : World} (h : Below X.heap.size X Y) (o : Obj) : Below X.heap.size X (Y.alloc o) := h.alloc h.size o
theorem below_mid {X Y Z : World} {o : Obj} (h : Below X.heap.size X Y) (h2 : Below (Y.alloc o).heap.size (Y.alloc o) Z) : Below X.heap.size X Z := below_go (below_al h o) h2
theorem own_rd {w : World} {base n c : Nat} {A : Option Addr} {xs : List Value} (h : w.ownsRow base 9 1 (.slice A n c) n xs) : Rd w A n xs := by
  obtain ⟨A', c', e', _, _, rd', _⟩ := own_shape h
  obtain ⟨rfl, rfl⟩ : A = A' ∧ c = c' := by injection e' with e1 e2 e3; exact ⟨e1, e3⟩
  exact rd'
theorem calledR_le (m : Meth) (k : List UInt8 × List UInt8) (call : List UInt8) (h : m.ch.length ≤ 1048576) : (calledR m k call).1.ch.length ≤ 1048576 := by
  unfold calledR
  split
  · show (calledL m.ch k call).length ≤ _
    simp [calledL]; omega
  · simp
/-- A box holds a method whose changes are the call's own. -/
def BoxM (W : World) (nm : List UInt8) (st : Int) (ch : List (List UInt8)) (s : Value) (Z : World) : Prop := ∃ (G : Nat) (A : Option Addr) (c : Nat), s = .pointer (some ⟨G, 0, none⟩) ∧ Blk Z G 30 #[.string (bs nm), .int .i64 st, .slice A ch.length c] ∧ Below W.heap.size W Z ∧ Z.ownsRow W.heap.size 9 1 (.slice A ch.length c) ch.length (strV ch) ∧ (∀ q, (Value.slice A ch.length c).ownBlock = some q → q ≠ G) ∧ W.heap.size ≤ G
set_option maxHeartbeats 4000000 in
theorem LawCalledLead.walk (v : Value) (m : Meth) (u : Value) (k : List UInt8 × List UInt8) (call : List UInt8) (w : World) (hv : InMethod w v m) (hu : InCalls w u k) (wcall : call.length ≤ maxLen) :
    Calls Try.prog 4 #[v, u, .string (bs call)] w fun e w' => e = .returned (.bool true) ∧ Below w.heap.size w w' := by
  obtain ⟨nm, st, ch⟩ := m
  obtain ⟨k1, k2⟩ := k
  have SZ := fun left w0 (hw0 : InMethod w0 v ⟨nm, st, ch⟩) h0 h1 => hid (szMethod_any ⟨nm, st, ch⟩ v left w0 hw0 h0 h1)
  have HIM := hid (fun (w0 : World) (hb : Below w.heap.size w w0) => inMethod_below hv hb)
  obtain ⟨_, rfl, hn, wst, A, n, c, rfl, hn2, hr, hs⟩ := hv
  obtain ⟨rfl, hk1, hk2⟩ := hu
  have SK := fun left w0 h0 h1 => hid (szCalls_any (k1, k2) left w0 hk1 hk2 h0 h1)
  dsimp only at *
  have hln : ch.length = n := by have := hr.1; rw [strV_len] at this; exact this
  have HR := hid hr
  have HS := hid hs
  clear hr hs
  by_cases lcall : call.length ≤ 1048576
  case neg =>
    have hi : (1048576 : Int) < (call.length : Int) := by omega
    go_enter Try.func4, Try.ntmps4
    go_wp2
    go_ret
    exact ⟨rfl, ((Below.refl _ _).alloc (Nat.le_refl _) _).alloc (by simp) _⟩
  have icall : ¬ (1048576 : Int) < (call.length : Int) := by omega
  go_enter Try.func4, Try.ntmps4
  go_wp2_with fail
  obtain ⟨B2, hsz, HC⟩ := box_mk2 24 26 w nm k1 k2 st (.slice A n c)
  generalize ((w.alloc (.cells #[.string (bs nm), .int .i64 st, .slice A n c] 24)).alloc (.cells #[.string (bs k1), .string (bs k2)] 26)) = W2 at *
  have HB2 := hid B2
  have HIM2 := hid (HIM.out W2 B2)
  have R2 := hid (HR.out.below B2)
  have hw2 : w.heap.size ≤ W2.heap.size := B2.size
  clear B2 hsz
  refine (SZ _ _ HIM2.out (by decide) (by decide)).out.mono ?_
  rintro e w1 ⟨r, rfl, b1, hr1, hr2⟩
  have HB1 := hid b1
  have hs1 := b1.size
  obtain ⟨⟨m0, m1, m2⟩, q0, q1⟩ := HC.out _ b1
  clear b1
  by_cases hneg : r < 0
  · go_wp2
    go_ret
    exact ⟨rfl, HB2.out.trans (HB1.out.mono hw2)⟩
  have hsum := hr2 (by omega)
  have r1 : r ≤ 1048576 := by omega
  have r0 : 0 ≤ r := by omega
  clear hr1 hr2
  have HSUM := hid hsum
  clear hsum
  go_wp2_with fail
  refine (SK _ _ r0 r1).out.mono ?_
  rintro e ws ⟨r', rfl, bs', hr1', hr2'⟩
  have HBs := hid (HB1.out.trans (bs'.mono hs1))
  obtain ⟨⟨m0', m1', m2'⟩, q0', q1'⟩ := HC.out _ HBs.out
  clear bs'
  by_cases hneg' : r' < 0
  · go_wp2
    go_ret
    exact ⟨rfl, HB2.out.trans (HBs.out.mono hw2)⟩
  have hsum' := hr2' (by omega)
  have hsum := HSUM.out
  clear hr1' hr2'
  have OK : LawOk ⟨nm, st, ch⟩ (k1, k2) := ⟨wst, by dsimp only; omega, by dsimp only; omega, fun s h => by have := totL_mem h; dsimp only at *; omega, by dsimp only; omega, by dsimp only; omega⟩
  have HOK := hid OK
  have hn1 : n ≤ 1048576 := by omega
  clear OK hsum hsum' HSUM hln
  have TM := fun w0 (b0 : Below W2.heap.size W2 w0) => hid (toMethod_any ⟨nm, st, ch⟩ A n c w0 (R2.out.below b0) hn1)
  have TK := fun w0 => hid (toCalls_any (k1, k2) w0)
  have SP := fun A0 c0 w0 (rd : Rd w0 A0 ch.length (strV ch)) (hc0 : ch.length ≤ c0) => hid (specCalledLead_law ⟨nm, st, ch⟩ (k1, k2) call A0 ch.length c0 w0 HOK.out rd hc0)
  have IM := fun A0 c0 w0 (rd : Rd w0 A0 ch.length (strV ch)) (hc0 : ch.length ≤ c0) => hid (implCalledLead_law ⟨nm, st, ch⟩ (k1, k2) call A0 ch.length c0 w0 HOK.out rd hc0)
  have HS5 : ∀ W', Below W2.heap.size W2 W' → W'.cell? ⟨w.heap.size, 0, none⟩ = some (.string (bs nm)) ∧ W'.cell? ⟨w.heap.size, 1, none⟩ = some (.int .i64 st) ∧ W'.cell? ⟨w.heap.size, 2, none⟩ = some (.slice A n c) ∧ W'.cell? ⟨w.heap.size + 1, 0, none⟩ = some (.string (bs k1)) ∧ W'.cell? ⟨w.heap.size + 1, 1, none⟩ = some (.string (bs k2)) := fun W' h => by
    obtain ⟨⟨a0, a1, a2⟩, a3, a4⟩ := HC.out _ h
    exact ⟨a0, a1, a2, a3, a4⟩
  have HHS5 := hid HS5
  clear HS5
  clear m0 m1 m2 q0 q1 m0' m1' m2' q0' q1'
  obtain ⟨R, hRR⟩ : ∃ R, R = calledR ⟨nm, st, ch⟩ (k1, k2) call := ⟨_, rfl⟩
  have hzs : R.1.ch.length ≤ 1048576 := by rw [hRR]; exact calledR_le _ _ _ HOK.out.2.2.1
  rw [← hRR] at SP IM
  obtain ⟨⟨nr, sr, cr⟩, ok⟩ := R
  dsimp only at hzs
  have HLE : cr.length ≤ 1048576 := hzs
  clear hRR
  have HSs := hid (fun W' (h : Below ws.heap.size ws W') => HHS5.out W' (HBs.out.trans (h.mono HBs.out.size)))
  have TMs := fun w0 (b0 : Below ws.heap.size ws w0) => TM w0 (HBs.out.trans (b0.mono HBs.out.size))
  obtain ⟨n0, n1, n2, p0, p1⟩ := HHS5.out _ HBs.out
  go_wp2_with fail
  have F0 : Below ws.heap.size ws ws.drew := (Below.refl _ _).drew
  go_cut [8, 9] (fun s8 s9 wx => BoxM ws nr sr cr s8 wx ∧ s9 = .bool ok)
  case first =>
    go_region_held3 (fun w' => w'.cell? ⟨w.heap.size, 0, none⟩ = some (.string (bs nm)) ∧ w'.cell? ⟨w.heap.size, 1, none⟩ = some (.int .i64 st) ∧ w'.cell? ⟨w.heap.size, 2, none⟩ = some (.slice A n c) ∧ w'.cell? ⟨w.heap.size + 1, 0, none⟩ = some (.string (bs k1)) ∧ w'.cell? ⟨w.heap.size + 1, 1, none⟩ = some (.string (bs k2)))
      (first | exact HSs.out _ (Below.refl _ _) | exact HSs.out _ F0 | exact HSs.out _ (below_al F0 _) | exact HSs.out _ Fa | exact HSs.out _ (below_al Fa _) | exact HSs.out _ Fb | exact HSs.out _ (below_al Fb _) | exact HSs.out _ Fc | exact HSs.out _ (below_al Fc _) | exact HSs.out _ (set3_below Fc (Nat.le_refl _) _ _ _) | exact HSs.out _ (set3_below Fc Fa.size _ _ _) | exact HSs.out _ (set3_below Fc Fb.size _ _ _) | exact HSs.out _ (set3_below Fc Fc.size _ _ _) | exact HSs.out _ (set3_below (below_al Fc _) (Nat.le_refl _) _ _ _) | exact HSs.out _ (set3_below (below_al Fc _) Fa.size _ _ _) | exact HSs.out _ (set3_below (below_al Fc _) Fb.size _ _ _) | exact HSs.out _ (set3_below (below_al Fc _) Fc.size _ _ _))
      (first | (go_at_call 18; refine (TMs _ (by first | exact F0 | exact below_al F0 _)).out.mono ?_; rintro e wa ⟨va, rfl, oa, ba⟩; obtain ⟨Aa, ca, rfl, hca, _, rda, _⟩ := own_shape oa; have Fa : Below ws.heap.size ws wa := (by first | exact below_go F0 ba | exact below_mid F0 ba); first | (have Za : Blk wa ws.heap.size 30 #[.string (bs []), .int .i64 0, .slice none 0 0] := (Blk.new ws.drew 30 #[.string (bs []), .int .i64 0, .slice none 0 0]).below ba (Blk.new ws.drew 30 #[.string (bs []), .int .i64 0, .slice none 0 0]).lt) | skip) | (go_at_call 19; refine (TK _).out.mono ?_; rintro e wb ⟨rfl, bb⟩; have Fb : Below ws.heap.size ws wb := (by first | exact below_go Fa bb | exact below_mid Fa bb); have rdb : Rd wb Aa ch.length (strV ch) := (by first | exact rda.below bb | exact (rda.alloc _).below bb); first | (have Zb := Za.below bb Za.lt) | (have Zb : Blk wb wa.heap.size 30 #[.string (bs []), .int .i64 0, .slice none 0 0] := (Blk.new wa 30 #[.string (bs []), .int .i64 0, .slice none 0 0]).below bb (Blk.new wa 30 #[.string (bs []), .int .i64 0, .slice none 0 0]).lt) | skip) | (go_at_call 22; refine (SP _ _ _ (by first | exact rdb | exact rdb.alloc _) hca).out.mono ?_; rintro e wc ⟨vc, rfl, oc, bc⟩; obtain ⟨Ac, cc, rfl, _⟩ := own_shape oc; have Fc : Below ws.heap.size ws wc := (by first | exact below_go Fb bc | exact below_mid Fb bc); have oc2 : wc.ownsRow ws.heap.size 9 1 (.slice Ac cr.length cc) cr.length (strV cr) := (by first | exact own_mono oc Fb.size | exact own_mono oc (below_al Fb _).size); first | (have Zc := Zb.below bc Zb.lt; have zf := hid Zc; obtain ⟨z0, z1, z2⟩ := Box3.of Zc; have y0 := Zc.frozen 0; have y1 := Zc.frozen 1; have y2 := Zc.frozen 2) | (have Zc : Blk wc wb.heap.size 30 #[.string (bs []), .int .i64 0, .slice none 0 0] := (Blk.new wb 30 #[.string (bs []), .int .i64 0, .slice none 0 0]).below bc (Blk.new wb 30 #[.string (bs []), .int .i64 0, .slice none 0 0]).lt; have zf := hid Zc; obtain ⟨z0, z1, z2⟩ := Box3.of Zc; have y0 := Zc.frozen 0; have y1 := Zc.frozen 1; have y2 := Zc.frozen 2) | skip))
    all_goals first
      | (
          have HX : Blk (wc.alloc (.cells #[.string (bs nr), .int .i64 sr, .slice Ac cr.length cc] 30)) wc.heap.size 30 #[.string (bs nr), .int .i64 sr, .slice Ac cr.length cc] := Blk.new _ _ _
          have BX := below_al Fc (.cells #[.string (bs nr), .int .i64 sr, .slice Ac cr.length cc] 30)
          have OX := own_below oc2 ((Below.refl _ _).alloc (Nat.le_refl _) (.cells #[.string (bs nr), .int .i64 sr, .slice Ac cr.length cc] 30))
          have NE : ∀ q, (Value.slice Ac cr.length cc).ownBlock = some q → q ≠ wc.heap.size := fun q hq => by have := (oc.lt q hq).2; omega
          have LE := Fc.size
          go_wp2_with fail
          go_meet
          exact ⟨⟨_, Ac, cc, rfl, HX, BX, OX, NE, LE⟩, rfl⟩)
      | (
          have HX : Blk (((wc.setCell ⟨ws.heap.size, 0, none⟩ (.string (bs nr))).setCell ⟨ws.heap.size, 1, none⟩ (.int .i64 sr)).setCell ⟨ws.heap.size, 2, none⟩ (.slice Ac cr.length cc)) (ws.heap.size) 30 #[.string (bs nr), .int .i64 sr, .slice Ac cr.length cc] := by simpa using ((zf.out.set_ 0 (.string (bs nr))).set_ 1 (.int .i64 sr)).set_ 2 (.slice Ac cr.length cc)
          have BX : Below ws.heap.size ws (((wc.setCell ⟨ws.heap.size, 0, none⟩ (.string (bs nr))).setCell ⟨ws.heap.size, 1, none⟩ (.int .i64 sr)).setCell ⟨ws.heap.size, 2, none⟩ (.slice Ac cr.length cc)) := set3_below Fc (Nat.le_refl _) _ _ _
          have NE : ∀ q, (Value.slice Ac cr.length cc).ownBlock = some q → q ≠ ws.heap.size := fun q hq => by
            have h1 := (oc.lt q hq).1
            have h2 := ba.size
            have h4 := bb.size
            have h6 := hq
            clear hq
            (try simp only [drew_size, alloc_size] at h1)
            (try simp only [drew_size, alloc_size] at h4)
            (try simp only [drew_size, alloc_size] at h2)
            omega
          have OX := own_far3 oc2 NE (.string (bs nr)) (.int .i64 sr) (.slice Ac cr.length cc)
          have LE : ws.heap.size ≤ ws.heap.size := (Nat.le_refl _)
          go_wp2_with fail
          go_meet
          exact ⟨⟨_, Ac, cc, rfl, HX, BX, OX, NE, LE⟩, rfl⟩)
      | (
          have HX : Blk (((wc.setCell ⟨wa.heap.size, 0, none⟩ (.string (bs nr))).setCell ⟨wa.heap.size, 1, none⟩ (.int .i64 sr)).setCell ⟨wa.heap.size, 2, none⟩ (.slice Ac cr.length cc)) (wa.heap.size) 30 #[.string (bs nr), .int .i64 sr, .slice Ac cr.length cc] := by simpa using ((zf.out.set_ 0 (.string (bs nr))).set_ 1 (.int .i64 sr)).set_ 2 (.slice Ac cr.length cc)
          have BX : Below ws.heap.size ws (((wc.setCell ⟨wa.heap.size, 0, none⟩ (.string (bs nr))).setCell ⟨wa.heap.size, 1, none⟩ (.int .i64 sr)).setCell ⟨wa.heap.size, 2, none⟩ (.slice Ac cr.length cc)) := set3_below Fc Fa.size _ _ _
          have NE : ∀ q, (Value.slice Ac cr.length cc).ownBlock = some q → q ≠ wa.heap.size := fun q hq => by
            have h1 := (oc.lt q hq).1
            have h2 := ba.size
            have h4 := bb.size
            have h6 := hq
            clear hq
            (try simp only [drew_size, alloc_size] at h1)
            (try simp only [drew_size, alloc_size] at h4)
            (try simp only [drew_size, alloc_size] at h2)
            omega
          have OX := own_far3 oc2 NE (.string (bs nr)) (.int .i64 sr) (.slice Ac cr.length cc)
          have LE : ws.heap.size ≤ wa.heap.size := Fa.size
          go_wp2_with fail
          go_meet
          exact ⟨⟨_, Ac, cc, rfl, HX, BX, OX, NE, LE⟩, rfl⟩)
      | (
          have HX : Blk (((wc.setCell ⟨wb.heap.size, 0, none⟩ (.string (bs nr))).setCell ⟨wb.heap.size, 1, none⟩ (.int .i64 sr)).setCell ⟨wb.heap.size, 2, none⟩ (.slice Ac cr.length cc)) (wb.heap.size) 30 #[.string (bs nr), .int .i64 sr, .slice Ac cr.length cc] := by simpa using ((zf.out.set_ 0 (.string (bs nr))).set_ 1 (.int .i64 sr)).set_ 2 (.slice Ac cr.length cc)
          have BX : Below ws.heap.size ws (((wc.setCell ⟨wb.heap.size, 0, none⟩ (.string (bs nr))).setCell ⟨wb.heap.size, 1, none⟩ (.int .i64 sr)).setCell ⟨wb.heap.size, 2, none⟩ (.slice Ac cr.length cc)) := set3_below Fc Fb.size _ _ _
          have NE : ∀ q, (Value.slice Ac cr.length cc).ownBlock = some q → q ≠ wb.heap.size := fun q hq => by
            have h1 := (oc.lt q hq).1
            have h2 := ba.size
            have h4 := bb.size
            have h6 := hq
            clear hq
            (try simp only [drew_size, alloc_size] at h1)
            (try simp only [drew_size, alloc_size] at h4)
            (try simp only [drew_size, alloc_size] at h2)
            omega
          have OX := own_far3 oc2 NE (.string (bs nr)) (.int .i64 sr) (.slice Ac cr.length cc)
          have LE : ws.heap.size ≤ wb.heap.size := Fb.size
          go_wp2_with fail
          go_meet
          exact ⟨⟨_, Ac, cc, rfl, HX, BX, OX, NE, LE⟩, rfl⟩)
  case rest =>
  obtain ⟨Z1, hZ1⟩ : ∃ z, z = wc := ⟨_, rfl⟩
  subst hZ1
  obtain ⟨⟨G8, A8, c8, rfl, X8, B8, O8, N8, L8⟩, rfl⟩ := hcut
  have HEc := hid (HBs.out.trans (B8.mono HBs.out.size))
  have HX8 := hid X8
  have HR8 := hid (show Rd Z1 A8 cr.length (strV cr) from own_rd O8)
  have hl8 := X8.lt
  clear X8 B8 O8 N8 L8 n0 n1 n2 p0 p1 F0 HSs TMs
  obtain ⟨n0, n1, n2, p0, p1⟩ := HHS5.out _ HEc.out
  go_wp2_with fail
  refine (TM _ HEc.out).out.mono ?_
  rintro e wd ⟨vd, rfl, od, bd⟩
  obtain ⟨Ad, cd, rfl, hcd, _, rdd, _⟩ := own_shape od
  have hbd := bd.size
  have E5 := hid (below_al bd (.cells #[.string (bs nm), .int .i64 st, .slice Ad ch.length cd] 30))
  have X5 := Blk.new wd 30 #[.string (bs nm), .int .i64 st, .slice Ad ch.length cd]
  have HR5 := hid (rdd.alloc (.cells #[.string (bs nm), .int .i64 st, .slice Ad ch.length cd] 30))
  have OD5 := hid (own_below od ((Below.refl _ _).alloc (Nat.le_refl _) (.cells #[.string (bs nm), .int .i64 st, .slice Ad ch.length cd] 30)))
  have hsz5 : wd.heap.size < (wd.alloc (.cells #[.string (bs nm), .int .i64 st, .slice Ad ch.length cd] 30)).heap.size := by simp
  have HLT := hid (fun q hq => (od.lt q hq).2 : ∀ q, (Value.slice Ad ch.length cd).ownBlock = some q → q < wd.heap.size)
  have HSZ1 := hid (HEc.out.size)
  clear od bd rdd n0 n1 n2 p0 p1
  go_wp2_with fail
  generalize (wd.alloc (.cells #[.string (bs nm), .int .i64 st, .slice Ad ch.length cd] 30)) = W5 at *
  have HHS8 := hid (fun W' (h : Below W5.heap.size W5 W') => (show W'.cell? ⟨w.heap.size, 0, none⟩ = some (.string (bs nm)) ∧ W'.cell? ⟨w.heap.size, 1, none⟩ = some (.int .i64 st) ∧ W'.cell? ⟨w.heap.size, 2, none⟩ = some (.slice A n c) ∧ W'.cell? ⟨w.heap.size + 1, 0, none⟩ = some (.string (bs k1)) ∧ W'.cell? ⟨w.heap.size + 1, 1, none⟩ = some (.string (bs k2)) ∧ W'.cell? ⟨wd.heap.size, 0, none⟩ = some (.string (bs nm)) ∧ W'.cell? ⟨wd.heap.size, 1, none⟩ = some (.int .i64 st) ∧ W'.cell? ⟨wd.heap.size, 2, none⟩ = some (.slice Ad ch.length cd) from by
    obtain ⟨a0, a1, a2, a3, a4⟩ := HHS5.out _ (HEc.out.trans ((below_go E5.out h).mono HEc.out.size))
    have X := X5.below h hsz5
    exact ⟨a0, a1, a2, a3, a4, X.cell 0, X.cell 1, X.cell 2⟩))
  have HX5 := hid X5
  clear X5
  obtain ⟨n0, n1, n2, p0, p1, x0, x1, x2⟩ := HHS8.out _ (Below.refl _ _)
  have F0 : Below W5.heap.size W5 W5.drew := (Below.refl _ _).drew
  go_cut [11, 12] (fun s8 s9 wx => BoxM W5 nr sr cr s8 wx ∧ s9 = .bool ok)
  case first =>
    go_region_held3 (fun w' => w'.cell? ⟨w.heap.size, 0, none⟩ = some (.string (bs nm)) ∧ w'.cell? ⟨w.heap.size, 1, none⟩ = some (.int .i64 st) ∧ w'.cell? ⟨w.heap.size, 2, none⟩ = some (.slice A n c) ∧ w'.cell? ⟨w.heap.size + 1, 0, none⟩ = some (.string (bs k1)) ∧ w'.cell? ⟨w.heap.size + 1, 1, none⟩ = some (.string (bs k2)) ∧ w'.cell? ⟨wd.heap.size, 0, none⟩ = some (.string (bs nm)) ∧ w'.cell? ⟨wd.heap.size, 1, none⟩ = some (.int .i64 st) ∧ w'.cell? ⟨wd.heap.size, 2, none⟩ = some (.slice Ad ch.length cd))
      (first | exact HHS8.out _ (Below.refl _ _) | exact HHS8.out _ F0 | exact HHS8.out _ (below_al F0 _) | exact HHS8.out _ Fa | exact HHS8.out _ (below_al Fa _) | exact HHS8.out _ Fb | exact HHS8.out _ (below_al Fb _) | exact HHS8.out _ Fc | exact HHS8.out _ (below_al Fc _) | exact HHS8.out _ (set3_below Fc (Nat.le_refl _) _ _ _) | exact HHS8.out _ (set3_below Fc Fa.size _ _ _) | exact HHS8.out _ (set3_below Fc Fb.size _ _ _) | exact HHS8.out _ (set3_below Fc Fc.size _ _ _) | exact HHS8.out _ (set3_below (below_al Fc _) (Nat.le_refl _) _ _ _) | exact HHS8.out _ (set3_below (below_al Fc _) Fa.size _ _ _) | exact HHS8.out _ (set3_below (below_al Fc _) Fb.size _ _ _) | exact HHS8.out _ (set3_below (below_al Fc _) Fc.size _ _ _))
      (first | (go_at_call 19; refine (TK _).out.mono ?_; rintro e wb ⟨rfl, bb⟩; have Fb : Below W5.heap.size W5 wb := (by first | exact below_go F0 bb | exact below_mid F0 bb); have rdb : Rd wb Ad ch.length (strV ch) := HR5.out.below Fb; first | (have Zb : Blk wb W5.heap.size 30 #[.string (bs []), .int .i64 0, .slice none 0 0] := (Blk.new W5.drew 30 #[.string (bs []), .int .i64 0, .slice none 0 0]).below bb (Blk.new W5.drew 30 #[.string (bs []), .int .i64 0, .slice none 0 0]).lt) | skip) | (go_at_call 23; refine (IM _ _ _ (by first | exact rdb | exact rdb.alloc _) hcd).out.mono ?_; rintro e wc ⟨vc, rfl, oc, bc⟩; obtain ⟨Ac, cc, rfl, _⟩ := own_shape oc; have Fc : Below W5.heap.size W5 wc := (by first | exact below_go Fb bc | exact below_mid Fb bc); have oc2 : wc.ownsRow W5.heap.size 9 1 (.slice Ac cr.length cc) cr.length (strV cr) := (by first | exact own_mono oc Fb.size | exact own_mono oc (below_al Fb _).size); first | (have Zc := Zb.below bc Zb.lt; have zf := hid Zc; obtain ⟨z0, z1, z2⟩ := Box3.of Zc; have y0 := Zc.frozen 0; have y1 := Zc.frozen 1; have y2 := Zc.frozen 2) | (have Zc : Blk wc wb.heap.size 30 #[.string (bs []), .int .i64 0, .slice none 0 0] := (Blk.new wb 30 #[.string (bs []), .int .i64 0, .slice none 0 0]).below bc (Blk.new wb 30 #[.string (bs []), .int .i64 0, .slice none 0 0]).lt; have zf := hid Zc; obtain ⟨z0, z1, z2⟩ := Box3.of Zc; have y0 := Zc.frozen 0; have y1 := Zc.frozen 1; have y2 := Zc.frozen 2) | skip))
    all_goals first
      | (
          have HX : Blk (wc.alloc (.cells #[.string (bs nr), .int .i64 sr, .slice Ac cr.length cc] 30)) wc.heap.size 30 #[.string (bs nr), .int .i64 sr, .slice Ac cr.length cc] := Blk.new _ _ _
          have BX := below_al Fc (.cells #[.string (bs nr), .int .i64 sr, .slice Ac cr.length cc] 30)
          have OX := own_below oc2 ((Below.refl _ _).alloc (Nat.le_refl _) (.cells #[.string (bs nr), .int .i64 sr, .slice Ac cr.length cc] 30))
          have NE : ∀ q, (Value.slice Ac cr.length cc).ownBlock = some q → q ≠ wc.heap.size := fun q hq => by have := (oc.lt q hq).2; omega
          have LE := Fc.size
          go_wp2_with fail
          go_meet
          exact ⟨⟨_, Ac, cc, rfl, HX, BX, OX, NE, LE⟩, rfl⟩)
      | (
          have HX : Blk (((wc.setCell ⟨W5.heap.size, 0, none⟩ (.string (bs nr))).setCell ⟨W5.heap.size, 1, none⟩ (.int .i64 sr)).setCell ⟨W5.heap.size, 2, none⟩ (.slice Ac cr.length cc)) (W5.heap.size) 30 #[.string (bs nr), .int .i64 sr, .slice Ac cr.length cc] := by simpa using ((zf.out.set_ 0 (.string (bs nr))).set_ 1 (.int .i64 sr)).set_ 2 (.slice Ac cr.length cc)
          have BX : Below W5.heap.size W5 (((wc.setCell ⟨W5.heap.size, 0, none⟩ (.string (bs nr))).setCell ⟨W5.heap.size, 1, none⟩ (.int .i64 sr)).setCell ⟨W5.heap.size, 2, none⟩ (.slice Ac cr.length cc)) := set3_below Fc (Nat.le_refl _) _ _ _
          have NE : ∀ q, (Value.slice Ac cr.length cc).ownBlock = some q → q ≠ W5.heap.size := fun q hq => by
            have h1 := (oc.lt q hq).1
            skip
            have h4 := bb.size
            have h6 := hq
            clear hq
            (try simp only [drew_size, alloc_size] at h1)
            (try simp only [drew_size, alloc_size] at h4)
            skip
            omega
          have OX := own_far3 oc2 NE (.string (bs nr)) (.int .i64 sr) (.slice Ac cr.length cc)
          have LE : W5.heap.size ≤ W5.heap.size := (Nat.le_refl _)
          go_wp2_with fail
          go_meet
          exact ⟨⟨_, Ac, cc, rfl, HX, BX, OX, NE, LE⟩, rfl⟩)
      | (
          have HX : Blk (((wc.setCell ⟨wb.heap.size, 0, none⟩ (.string (bs nr))).setCell ⟨wb.heap.size, 1, none⟩ (.int .i64 sr)).setCell ⟨wb.heap.size, 2, none⟩ (.slice Ac cr.length cc)) (wb.heap.size) 30 #[.string (bs nr), .int .i64 sr, .slice Ac cr.length cc] := by simpa using ((zf.out.set_ 0 (.string (bs nr))).set_ 1 (.int .i64 sr)).set_ 2 (.slice Ac cr.length cc)
          have BX : Below W5.heap.size W5 (((wc.setCell ⟨wb.heap.size, 0, none⟩ (.string (bs nr))).setCell ⟨wb.heap.size, 1, none⟩ (.int .i64 sr)).setCell ⟨wb.heap.size, 2, none⟩ (.slice Ac cr.length cc)) := set3_below Fc Fb.size _ _ _
          have NE : ∀ q, (Value.slice Ac cr.length cc).ownBlock = some q → q ≠ wb.heap.size := fun q hq => by
            have h1 := (oc.lt q hq).1
            skip
            have h4 := bb.size
            have h6 := hq
            clear hq
            (try simp only [drew_size, alloc_size] at h1)
            (try simp only [drew_size, alloc_size] at h4)
            skip
            omega
          have OX := own_far3 oc2 NE (.string (bs nr)) (.int .i64 sr) (.slice Ac cr.length cc)
          have LE : W5.heap.size ≤ wb.heap.size := Fb.size
          go_wp2_with fail
          go_meet
          exact ⟨⟨_, Ac, cc, rfl, HX, BX, OX, NE, LE⟩, rfl⟩)
  case rest =>
  obtain ⟨Z2, hZ2⟩ : ∃ z, z = wc := ⟨_, rfl⟩
  subst hZ2
  obtain ⟨⟨G11, A11, c11, rfl, X11, B11, O11, N11, L11⟩, rfl⟩ := hcut
  have HB11 := hid B11
  have HX11 := hid X11
  have HO11 := hid O11
  have HN11 := hid N11
  have HL11 := hid L11
  have HR11 := hid (show Rd Z2 A11 cr.length (strV cr) from own_rd O11)
  have hl11 := X11.lt
  have E12 := hid (below_go E5.out B11)
  have HE12 := hid (HEc.out.trans (E12.out.mono HSZ1.out))
  clear X11 B11 O11 N11 L11 n0 n1 n2 p0 p1 x0 x1 x2 F0
  obtain ⟨n0, n1, n2, p0, p1, x0, x1, x2⟩ := HHS8.out _ HB11.out
  have y := HX8.out.below E12.out hl8
  have y0 := y.cell 0
  have y1 := y.cell 1
  have y2 := y.cell 2
  simp only [List.getElem?_toArray, List.getElem?_cons_zero, List.getElem?_cons_succ] at y0 y1 y2
  clear y
  have z := HX11.out
  have z0 := z.cell 0
  have z1 := z.cell 1
  have z2 := z.cell 2
  simp only [List.getElem?_toArray, List.getElem?_cons_zero, List.getElem?_cons_succ] at z0 z1 z2
  clear z
  go_wp2_with fail
  refine (eqMethod_any ⟨nr, sr, cr⟩ A11 A8 cr.length c11 cr.length c8 _ HR11.out (HR8.out.below E12.out) HLE).mono ?_
  rintro e w13 ⟨rfl, b13⟩
  have B13 := hid (below_go HB11.out b13)
  have BZ := hid b13
  clear b13 n0 n1 n2 p0 p1 x0 x1 x2 y0 y1 y2 z0 z1 z2
  obtain ⟨n0, n1, n2, p0, p1, x0, x1, x2⟩ := HHS8.out _ B13.out
  go_wp2_with fail
  go_region_held3 (fun w' => w'.cell? ⟨w.heap.size, 0, none⟩ = some (.string (bs nm)) ∧ w'.cell? ⟨w.heap.size, 1, none⟩ = some (.int .i64 st) ∧ w'.cell? ⟨w.heap.size, 2, none⟩ = some (.slice A n c) ∧ w'.cell? ⟨w.heap.size + 1, 0, none⟩ = some (.string (bs k1)) ∧ w'.cell? ⟨w.heap.size + 1, 1, none⟩ = some (.string (bs k2)) ∧ w'.cell? ⟨wd.heap.size, 0, none⟩ = some (.string (bs nm)) ∧ w'.cell? ⟨wd.heap.size, 1, none⟩ = some (.int .i64 st) ∧ w'.cell? ⟨wd.heap.size, 2, none⟩ = some (.slice Ad ch.length cd))
    (first | exact HHS8.out _ B13.out | exact HHS8.out _ B13.out.drew | exact HHS8.out _ Eh | exact HHS8.out _ Ei)
    (first | (go_at_call 18; refine (TM _ (HEc.out.trans ((below_go E5.out B13.out.drew).mono HSZ1.out))).out.mono ?_; rintro e wh ⟨vh, rfl, oh, bh⟩; obtain ⟨Ah, ch', rfl, _, _, rdh, _⟩ := own_shape oh; have Eh := below_go B13.out.drew bh) | (go_at_call 21; refine (eqMethod_any ⟨nm, st, ch⟩ Ad Ah ch.length cd ch.length ch' _ (HR5.out.below Eh) rdh (by have := HOK.out.2.2.1; dsimp only at this; omega)).mono ?_; rintro e wi ⟨rfl, bi⟩; have Ei := below_go Eh bi))
  have HEi := hid Ei
  have BZi := hid (BZ.out.trans (((Below.refl w13.heap.size w13).drew.trans ((bh.trans (bi.mono bh.size)).mono (Nat.le_refl _))).mono BZ.out.size))
  clear oh bh rdh bi Eh Ei n0 n1 n2 p0 p1 x0 x1 x2
  obtain ⟨n0, n1, n2, p0, p1, x0, x1, x2⟩ := HHS8.out _ HEi.out
  go_wp2_with fail
  refine (markMethod_any Z1.heap.size ⟨nm, st, ch⟩ _ ch.length _ (own_below OD5.out HEi.out) (by have := HOK.out.2.2.1; dsimp only at this; omega) (Nat.le_trans E5.out.size HEi.out.size)).mono ?_
  rintro e wj ⟨rfl, oj, gj⟩
  have hneX : ∀ q, (Value.slice Ad ch.length cd).ownBlock = some q → q < W5.heap.size := fun q hq => (OD5.out.lt q hq).2
  have Bcj := hid ((below_go E5.out HEi.out).trans (below_of_grown (own_below OD5.out HEi.out) gj (Nat.le_trans E5.out.size HEi.out.size)))
  have Xj := hid (blk_grown gj (HX11.out.below BZi.out hl11) (fun e => by have h1 := hneX _ e; have h2 := HL11.out; omega))
  have Oj := hid (own_other (own_below HO11.out BZi.out) gj (fun q hq hq2 => by have h1 := hneX q hq2; have h2 := (HO11.out.lt q hq).1; omega))
  have Rj := hid (show Rd wj A11 cr.length (strV cr) from own_rd Oj.out)
  have hsj : W5.heap.size ≤ wj.heap.size := Nat.le_trans HEi.out.size gj.size
  clear oj gj hneX n0 n1 n2 p0 p1 x0 x1 x2
  have HE2j := hid (HEc.out.trans (Bcj.out.mono HSZ1.out))
  obtain ⟨n0, n1, n2, p0, p1⟩ := HHS5.out _ HE2j.out
  have y := HX8.out.below Bcj.out hl8
  have y0 := y.cell 0
  have y1 := y.cell 1
  have y2 := y.cell 2
  simp only [List.getElem?_toArray, List.getElem?_cons_zero, List.getElem?_cons_succ] at y0 y1 y2
  clear y
  have z := Xj.out
  have z0 := z.cell 0
  have z1 := z.cell 1
  have z2 := z.cell 2
  simp only [List.getElem?_toArray, List.getElem?_cons_zero, List.getElem?_cons_succ] at z0 z1 z2
  clear z
  go_wp2_with fail
  refine (eqMethod_any ⟨nr, sr, cr⟩ A11 A8 cr.length c11 cr.length c8 _ Rj.out (HR8.out.below Bcj.out) HLE).mono ?_
  rintro e wk ⟨rfl, bk⟩
  have Bck := hid (below_go Bcj.out bk)
  have Xk := hid (Xj.out.below bk Xj.out.lt)
  have Ok := hid (own_below Oj.out bk)
  have hsk : W5.heap.size ≤ wk.heap.size := Nat.le_trans hsj bk.size
  clear bk n0 n1 n2 p0 p1 y0 y1 y2 z0 z1 z2
  have HE2k := hid (HEc.out.trans (Bck.out.mono HSZ1.out))
  obtain ⟨n0, n1, n2, p0, p1⟩ := HHS5.out _ HE2k.out
  have z := Xk.out
  have z0 := z.cell 0
  have z1 := z.cell 1
  have z2 := z.cell 2
  simp only [List.getElem?_toArray, List.getElem?_cons_zero, List.getElem?_cons_succ] at z0 z1 z2
  clear z
  go_wp2_with fail
  refine (markMethod_any W5.heap.size ⟨nr, sr, cr⟩ _ cr.length _ Ok.out HLE hsk).mono ?_
  rintro e wl ⟨rfl, ol, gl⟩
  have Bcl := hid (Bck.out.trans ((below_of_grown Ok.out gl hsk).mono E5.out.size))
  have Xl := hid (blk_grown gl Xk.out (fun e => HN11.out _ e rfl))
  have Rl := hid (show Rd wl A11 cr.length (strV (marksS 1 cr.length)) from own_rd ol)
  clear ol gl n0 n1 n2 p0 p1 z0 z1 z2
  have HE2l := hid (HEc.out.trans (Bcl.out.mono HSZ1.out))
  obtain ⟨n0, n1, n2, p0, p1⟩ := HHS5.out _ HE2l.out
  have z := Xl.out
  have z0 := z.cell 0
  have z1 := z.cell 1
  have z2 := z.cell 2
  simp only [List.getElem?_toArray, List.getElem?_cons_zero, List.getElem?_cons_succ] at z0 z1 z2
  clear z
  go_wp2_with fail
  refine (heldMethod_any _ _ _ _ _ _ Rl.out HLE).mono ?_
  rintro e wm ⟨rfl, bm⟩
  have Bcm := hid (below_go Bcl.out bm)
  have Xm := hid (Xl.out.below bm Xl.out.lt)
  have Rm := hid (Rl.out.below bm)
  clear bm n0 n1 n2 p0 p1 z0 z1 z2
  have HE2m := hid (HEc.out.trans (Bcm.out.mono HSZ1.out))
  have HSm := hid (fun W' (h : Below wm.heap.size wm W') => HHS5.out W' (HE2m.out.trans (h.mono HE2m.out.size)))
  have TMm := fun w0 (b0 : Below wm.heap.size wm w0) => TM w0 (HE2m.out.trans (b0.mono HE2m.out.size))
  obtain ⟨n0, n1, n2, p0, p1⟩ := HHS5.out _ HE2m.out
  go_wp2_with fail
  have F0 : Below wm.heap.size wm wm.drew := (Below.refl _ _).drew
  go_cut [16, 17] (fun s8 s9 wx => BoxM wm nr sr cr s8 wx ∧ s9 = .bool ok)
  case first =>
    go_region_held3 (fun w' => w'.cell? ⟨w.heap.size, 0, none⟩ = some (.string (bs nm)) ∧ w'.cell? ⟨w.heap.size, 1, none⟩ = some (.int .i64 st) ∧ w'.cell? ⟨w.heap.size, 2, none⟩ = some (.slice A n c) ∧ w'.cell? ⟨w.heap.size + 1, 0, none⟩ = some (.string (bs k1)) ∧ w'.cell? ⟨w.heap.size + 1, 1, none⟩ = some (.string (bs k2)))
      (first | exact HSm.out _ (Below.refl _ _) | exact HSm.out _ F0 | exact HSm.out _ (below_al F0 _) | exact HSm.out _ Fa | exact HSm.out _ (below_al Fa _) | exact HSm.out _ Fb | exact HSm.out _ (below_al Fb _) | exact HSm.out _ Fc | exact HSm.out _ (below_al Fc _) | exact HSm.out _ (set3_below Fc (Nat.le_refl _) _ _ _) | exact HSm.out _ (set3_below Fc Fa.size _ _ _) | exact HSm.out _ (set3_below Fc Fb.size _ _ _) | exact HSm.out _ (set3_below Fc Fc.size _ _ _) | exact HSm.out _ (set3_below (below_al Fc _) (Nat.le_refl _) _ _ _) | exact HSm.out _ (set3_below (below_al Fc _) Fa.size _ _ _) | exact HSm.out _ (set3_below (below_al Fc _) Fb.size _ _ _) | exact HSm.out _ (set3_below (below_al Fc _) Fc.size _ _ _))
      (first | (go_at_call 18; refine (TMm _ (by first | exact F0 | exact below_al F0 _)).out.mono ?_; rintro e wa ⟨va, rfl, oa, ba⟩; obtain ⟨Aa, ca, rfl, hca, _, rda, _⟩ := own_shape oa; have Fa : Below wm.heap.size wm wa := (by first | exact below_go F0 ba | exact below_mid F0 ba); first | (have Za : Blk wa wm.heap.size 30 #[.string (bs []), .int .i64 0, .slice none 0 0] := (Blk.new wm.drew 30 #[.string (bs []), .int .i64 0, .slice none 0 0]).below ba (Blk.new wm.drew 30 #[.string (bs []), .int .i64 0, .slice none 0 0]).lt) | skip) | (go_at_call 19; refine (TK _).out.mono ?_; rintro e wb ⟨rfl, bb⟩; have Fb : Below wm.heap.size wm wb := (by first | exact below_go Fa bb | exact below_mid Fa bb); have rdb : Rd wb Aa ch.length (strV ch) := (by first | exact rda.below bb | exact (rda.alloc _).below bb); first | (have Zb := Za.below bb Za.lt) | (have Zb : Blk wb wa.heap.size 30 #[.string (bs []), .int .i64 0, .slice none 0 0] := (Blk.new wa 30 #[.string (bs []), .int .i64 0, .slice none 0 0]).below bb (Blk.new wa 30 #[.string (bs []), .int .i64 0, .slice none 0 0]).lt) | skip) | (go_at_call 23; refine (IM _ _ _ (by first | exact rdb | exact rdb.alloc _) hca).out.mono ?_; rintro e wc ⟨vc, rfl, oc, bc⟩; obtain ⟨Ac, cc, rfl, _⟩ := own_shape oc; have Fc : Below wm.heap.size wm wc := (by first | exact below_go Fb bc | exact below_mid Fb bc); have oc2 : wc.ownsRow wm.heap.size 9 1 (.slice Ac cr.length cc) cr.length (strV cr) := (by first | exact own_mono oc Fb.size | exact own_mono oc (below_al Fb _).size); first | (have Zc := Zb.below bc Zb.lt; have zf := hid Zc; obtain ⟨z0, z1, z2⟩ := Box3.of Zc; have y0 := Zc.frozen 0; have y1 := Zc.frozen 1; have y2 := Zc.frozen 2) | (have Zc : Blk wc wb.heap.size 30 #[.string (bs []), .int .i64 0, .slice none 0 0] := (Blk.new wb 30 #[.string (bs []), .int .i64 0, .slice none 0 0]).below bc (Blk.new wb 30 #[.string (bs []), .int .i64 0, .slice none 0 0]).lt; have zf := hid Zc; obtain ⟨z0, z1, z2⟩ := Box3.of Zc; have y0 := Zc.frozen 0; have y1 := Zc.frozen 1; have y2 := Zc.frozen 2) | skip))
    all_goals first
      | (
          have HX : Blk (wc.alloc (.cells #[.string (bs nr), .int .i64 sr, .slice Ac cr.length cc] 30)) wc.heap.size 30 #[.string (bs nr), .int .i64 sr, .slice Ac cr.length cc] := Blk.new _ _ _
          have BX := below_al Fc (.cells #[.string (bs nr), .int .i64 sr, .slice Ac cr.length cc] 30)
          have OX := own_below oc2 ((Below.refl _ _).alloc (Nat.le_refl _) (.cells #[.string (bs nr), .int .i64 sr, .slice Ac cr.length cc] 30))
          have NE : ∀ q, (Value.slice Ac cr.length cc).ownBlock = some q → q ≠ wc.heap.size := fun q hq => by have := (oc.lt q hq).2; omega
          have LE := Fc.size
          go_wp2_with fail
          go_meet
          exact ⟨⟨_, Ac, cc, rfl, HX, BX, OX, NE, LE⟩, rfl⟩)
      | (
          have HX : Blk (((wc.setCell ⟨wm.heap.size, 0, none⟩ (.string (bs nr))).setCell ⟨wm.heap.size, 1, none⟩ (.int .i64 sr)).setCell ⟨wm.heap.size, 2, none⟩ (.slice Ac cr.length cc)) (wm.heap.size) 30 #[.string (bs nr), .int .i64 sr, .slice Ac cr.length cc] := by simpa using ((zf.out.set_ 0 (.string (bs nr))).set_ 1 (.int .i64 sr)).set_ 2 (.slice Ac cr.length cc)
          have BX : Below wm.heap.size wm (((wc.setCell ⟨wm.heap.size, 0, none⟩ (.string (bs nr))).setCell ⟨wm.heap.size, 1, none⟩ (.int .i64 sr)).setCell ⟨wm.heap.size, 2, none⟩ (.slice Ac cr.length cc)) := set3_below Fc (Nat.le_refl _) _ _ _
          have NE : ∀ q, (Value.slice Ac cr.length cc).ownBlock = some q → q ≠ wm.heap.size := fun q hq => by
            have h1 := (oc.lt q hq).1
            have h2 := ba.size
            have h4 := bb.size
            have h6 := hq
            clear hq
            (try simp only [drew_size, alloc_size] at h1)
            (try simp only [drew_size, alloc_size] at h4)
            (try simp only [drew_size, alloc_size] at h2)
            omega
          have OX := own_far3 oc2 NE (.string (bs nr)) (.int .i64 sr) (.slice Ac cr.length cc)
          have LE : wm.heap.size ≤ wm.heap.size := (Nat.le_refl _)
          go_wp2_with fail
          go_meet
          exact ⟨⟨_, Ac, cc, rfl, HX, BX, OX, NE, LE⟩, rfl⟩)
      | (
          have HX : Blk (((wc.setCell ⟨wa.heap.size, 0, none⟩ (.string (bs nr))).setCell ⟨wa.heap.size, 1, none⟩ (.int .i64 sr)).setCell ⟨wa.heap.size, 2, none⟩ (.slice Ac cr.length cc)) (wa.heap.size) 30 #[.string (bs nr), .int .i64 sr, .slice Ac cr.length cc] := by simpa using ((zf.out.set_ 0 (.string (bs nr))).set_ 1 (.int .i64 sr)).set_ 2 (.slice Ac cr.length cc)
          have BX : Below wm.heap.size wm (((wc.setCell ⟨wa.heap.size, 0, none⟩ (.string (bs nr))).setCell ⟨wa.heap.size, 1, none⟩ (.int .i64 sr)).setCell ⟨wa.heap.size, 2, none⟩ (.slice Ac cr.length cc)) := set3_below Fc Fa.size _ _ _
          have NE : ∀ q, (Value.slice Ac cr.length cc).ownBlock = some q → q ≠ wa.heap.size := fun q hq => by
            have h1 := (oc.lt q hq).1
            have h2 := ba.size
            have h4 := bb.size
            have h6 := hq
            clear hq
            (try simp only [drew_size, alloc_size] at h1)
            (try simp only [drew_size, alloc_size] at h4)
            (try simp only [drew_size, alloc_size] at h2)
            omega
          have OX := own_far3 oc2 NE (.string (bs nr)) (.int .i64 sr) (.slice Ac cr.length cc)
          have LE : wm.heap.size ≤ wa.heap.size := Fa.size
          go_wp2_with fail
          go_meet
          exact ⟨⟨_, Ac, cc, rfl, HX, BX, OX, NE, LE⟩, rfl⟩)
      | (
          have HX : Blk (((wc.setCell ⟨wb.heap.size, 0, none⟩ (.string (bs nr))).setCell ⟨wb.heap.size, 1, none⟩ (.int .i64 sr)).setCell ⟨wb.heap.size, 2, none⟩ (.slice Ac cr.length cc)) (wb.heap.size) 30 #[.string (bs nr), .int .i64 sr, .slice Ac cr.length cc] := by simpa using ((zf.out.set_ 0 (.string (bs nr))).set_ 1 (.int .i64 sr)).set_ 2 (.slice Ac cr.length cc)
          have BX : Below wm.heap.size wm (((wc.setCell ⟨wb.heap.size, 0, none⟩ (.string (bs nr))).setCell ⟨wb.heap.size, 1, none⟩ (.int .i64 sr)).setCell ⟨wb.heap.size, 2, none⟩ (.slice Ac cr.length cc)) := set3_below Fc Fb.size _ _ _
          have NE : ∀ q, (Value.slice Ac cr.length cc).ownBlock = some q → q ≠ wb.heap.size := fun q hq => by
            have h1 := (oc.lt q hq).1
            have h2 := ba.size
            have h4 := bb.size
            have h6 := hq
            clear hq
            (try simp only [drew_size, alloc_size] at h1)
            (try simp only [drew_size, alloc_size] at h4)
            (try simp only [drew_size, alloc_size] at h2)
            omega
          have OX := own_far3 oc2 NE (.string (bs nr)) (.int .i64 sr) (.slice Ac cr.length cc)
          have LE : wm.heap.size ≤ wb.heap.size := Fb.size
          go_wp2_with fail
          go_meet
          exact ⟨⟨_, Ac, cc, rfl, HX, BX, OX, NE, LE⟩, rfl⟩)
  case rest =>
  obtain ⟨Z3, hZ3⟩ : ∃ z, z = wc := ⟨_, rfl⟩
  subst hZ3
  obtain ⟨⟨G16, A16, c16, rfl, X16, B16, O16, N16, L16⟩, rfl⟩ := hcut
  have HB16 := hid B16
  have HR16 := hid (show Rd Z3 A16 cr.length (strV cr) from own_rd O16)
  have HX16 := hid X16
  have Bc16 := hid (below_go Bcm.out B16)
  have X11n := hid (Xm.out.below B16 Xm.out.lt)
  have R11n := hid (Rm.out.below B16)
  clear X16 B16 O16 N16 L16 n0 n1 n2 p0 p1 F0
  have HE16 := hid (HEc.out.trans (Bc16.out.mono HSZ1.out))
  have y := HX8.out.below Bc16.out hl8
  have y0 := y.cell 0
  have y1 := y.cell 1
  have y2 := y.cell 2
  simp only [List.getElem?_toArray, List.getElem?_cons_zero, List.getElem?_cons_succ] at y0 y1 y2
  clear y
  have z := HX16.out
  have z0 := z.cell 0
  have z1 := z.cell 1
  have z2 := z.cell 2
  simp only [List.getElem?_toArray, List.getElem?_cons_zero, List.getElem?_cons_succ] at z0 z1 z2
  clear z
  go_wp2_with fail
  refine (eqMethod_any ⟨nr, sr, cr⟩ A16 A8 cr.length c16 cr.length c8 _ HR16.out (HR8.out.below Bc16.out) HLE).mono ?_
  rintro e wn ⟨rfl, bn⟩
  have Bcn := hid (below_go Bc16.out bn)
  have Xn := hid (X11n.out.below bn X11n.out.lt)
  have Rn := hid (R11n.out.below bn)
  clear bn y0 y1 y2 z0 z1 z2
  have z := Xn.out
  have z0 := z.cell 0
  have z1 := z.cell 1
  have z2 := z.cell 2
  simp only [List.getElem?_toArray, List.getElem?_cons_zero, List.getElem?_cons_succ] at z0 z1 z2
  clear z
  go_wp2_with fail
  refine (heldMethod_any _ _ _ _ _ _ Rn.out HLE).mono ?_
  rintro e wo ⟨rfl, bo⟩
  have Bco := hid (below_go Bcn.out bo)
  clear bo z0 z1 z2
  go_wp2
  go_ret
  exact ⟨rfl, HB2.out.trans ((HEc.out.trans (Bco.out.mono HSZ1.out)).mono hw2)⟩
end Go.Proofs.Ytdmipllbifofmaa
