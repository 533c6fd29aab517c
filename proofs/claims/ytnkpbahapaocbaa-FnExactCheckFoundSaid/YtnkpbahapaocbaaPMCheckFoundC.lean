/- Contract of CheckFound, in the reference. No conditions beyond those stated. -/
import Derived.Test.YtnkpbahapaocbaaPMCheckFoundB
import Derived.Test.YtnkpbahapaocbaaPMCheckFoundA
set_option linter.unusedVariables false
set_option linter.unusedSimpArgs false
set_option maxRecDepth 100000
namespace Go.Proofs.Ytnkpbahapaocbaa
open Go.RowKit

theorem tst_good {N : Nat} {ch : List (List UInt8)} {k : List UInt8 × List UInt8} {q : Nat} (hq1 : 1 ≤ q) (hq6 : q ≤ 6) (t : List UInt8) (h : goodTouch t = false) : tstB N ch k q t = false := by
  unfold tstB
  cases h1 : decide (t.length = q)
  · rfl
  · cases h2 : t.all callB
    · rfl
    · exfalso
      rw [decide_eq_true_eq] at h1
      simp only [goodTouch, h2, Bool.true_and] at h
      simp at h
      omega
theorem good_all {t : List UInt8} (h : goodTouch t = true) : t.all callB = true := by
  cases h2 : t.all callB
  · unfold goodTouch at h; simp only [h2, Bool.false_and, Bool.and_false] at h; cases h
  · rfl
set_option maxHeartbeats 8000000 in
theorem specCheck_main (N : Nat) (nm : List UInt8) (ch : List (List UInt8)) (k : List UInt8 × List UInt8) (q : Nat) (ts : List (List UInt8)) (cs : List (List UInt8 × Int × Int)) (fin : Bool) (A TA CA : Option Addr) (n c tn tc cn cc : Nat) (w : World) (lo : 3 ≤ N) (hi : N ≤ 8) (hr : Rd w A n (strV ch)) (hn : n ≤ 1000) (hcap : n ≤ c) (l1 : 1 ≤ ch.length) (hs : ∀ x ∈ ch, okChange (N : Int) x = true) (hb1 : okChange (N : Int) k.1 = true) (hb2 : okChange (N : Int) k.2 = true) (hq0 : 1 ≤ q) (hq : q ≤ 6) (ok : LawOk ⟨nm, (N : Int), ch⟩ k) (hmb : methB ⟨nm, (N : Int), ch⟩ = true)
    (hg : (callsB ⟨nm, (N : Int), ch⟩ k && searchB (q : Int)) = true) (rt : Rd w TA tn (strV ts)) (rc : RdC w CA cn cs) (htn : tn ≤ 1048576) (hcn : cn ≤ 1048576) (htc : tn ≤ tc) (hcl : ∀ c ∈ cs, c.1.length ≤ 1048576) (htl : ∀ t ∈ ts, t.length ≤ 1048576) :
    Calls Try.prog 22 #[.agg #[.string (bs nm), .int .i64 N, .slice A n c], .agg #[.string (bs k.1), .string (bs k.2)], .int .i64 q, .agg #[.slice TA tn tc, .slice CA cn cc, .bool fin]] w fun e w' => e = .returned (.bool (chkS true fin (tstB N ch k q) (isCutB N ch k q) q ts cs)) ∧ Below w.heap.size w w' := by
  have hlt : ts.length = tn := by have := rt.1; rw [strV_len] at this; exact this
  have hlc : cs.length = cn := rc.1
  have OK0 : LawOk ⟨nm, (N : Int), ch⟩ ([], []) := ⟨ok.1, ok.2.1, ok.2.2.1, ok.2.2.2.1, by simp, by simp⟩
  have GA := fun (w0 : World) (rd : Rd w0 A n (strV ch)) => hid (l13Asked_any ⟨nm, (N : Int), ch⟩ k q A n c w0 ok rd)
  rw [hg] at GA
  have GO := fun (w0 : World) (rd : Rd w0 TA tn (strV ts)) => hid (l1OwnSx_any TA tn tc ts w0 rd (by omega))
  have GJ := fun (cp : List UInt8) (cy cz : Int) (hcp : cp.length ≤ 1048576) (w0 : World) (rd : Rd w0 A n (strV ch)) => hid (l13IsCut_any N nm cp cy cz ch k q A n c w0 lo hi rd (by omega) hcap l1 hs hb1 hb2 hcp hq OK0 hmb)
  have GP := fun (n : Nat) (hn : n ≤ 6) (w0 : World) => hid (l13Power_any n w0 hn)
  have GE := fun (t : List UInt8) (ht : t.length ≤ 1000) (w0 : World) (rd : Rd w0 A n (strV ch)) => hid (l9End_any N nm t ch k A n c w0 lo hi rd (by omega) hcap l1 hs hb1 hb2 ht)
  have GT := fun (t : List UInt8) (ht : t.length ≤ 1000) (w0 : World) (rd : Rd w0 A n (strV ch)) => hid (l11True_any N nm t ch k A n c w0 lo hi rd hn hcap l1 hs hb1 hb2 ht)
  have GR := fun (w0 : World) => hid (l1Rounds_any N w0 hi)
  have GL := fun (A1 : Option Addr) (n1 c1 : Nat) (l : List (List UInt8)) (w0 : World) (r : Rd w0 A1 n1 (strV l)) (h1 : n1 ≤ 1048576) (h2 : ∀ s ∈ l, s.length ≤ 1048576) => hid (l13Apart_any A1 n1 c1 l w0 r h1 h2)
  have HCL := hid hcl
  have HTL := hid htl
  have HJL := hid (show ∀ c, isCutB N ch k q c = true → c.1.length ≤ q from fun c h => by
    simp only [isCutB, Bool.and_eq_true, decide_eq_true_eq] at h
    exact h.1.2)
  have HTD := hid (show ∀ t, tstB N ch k q t = (decide (t.length = q) && (t.all callB && ((headTo N ch k t t.length == roundsL N) && (trueB (leadL (roundsL N) ch) && decide (clashN N ch k t = 0))))) from fun t => rfl)
  have HGT := hid (fun t h => tst_good (N := N) (ch := ch) (k := k) hq0 hq t h)
  have RS := hid hr
  have RT := hid rt
  have RC := hid rc
  have HLT := hid hlt
  have HLC := hid hlc
  obtain ⟨R, hR⟩ : ∃ R, R = chkS true fin (tstB N ch k q) (isCutB N ch k q) q ts cs := ⟨_, rfl⟩
  rw [← hR]
  have HR := hid (show R = (((true && fin) && decide (ts.length + cs.length ≤ 3 ^ q)) && (refT (tstB N ch k q) ts && (csB (isCutB N ch k q) cs && (apartL (ts ++ cs.map fun c => c.1) && decide (ts.length + sumL q cs = 3 ^ q))))) from hR)
  generalize isCutB N ch k q = isC at *
  generalize tstB N ch k q = tst at *
  generalize hP0 : trueB (leadL (roundsL N) ch) = tr at *
  obtain ⟨k1, k2⟩ := k
  dsimp only at *
  clear hr rt rc hs hb1 hb2 l1 ok hg hR hlt hlc hcl htl hP0 OK0 hmb
  go_enter Try.func22, Try.ntmps22
  go_wp2_with fail
  obtain ⟨B2, hsz, HC⟩ := box_mkX 34 36 44 w nm k1 k2 (N : Int) (.slice A n c) #[.slice TA tn tc, .slice CA cn cc, .bool fin]
  have R2 := hid (RS.out.below B2)
  have HB2 := hid B2
  have hw2 := B2.size
  generalize (((w.alloc (.cells #[.string (bs nm), .int .i64 (N : Int), .slice A n c] 34)).alloc (.cells #[.string (bs k1), .string (bs k2)] 36)).alloc (.cells #[.slice TA tn tc, .slice CA cn cc, .bool fin] 44)) = W2 at *
  clear B2 hsz
  have HHS8 := hid (fun W' (h : Below W2.heap.size W2 W') => (show W'.cell? ⟨w.heap.size, 0, none⟩ = some (.string (bs nm)) ∧ W'.cell? ⟨w.heap.size, 1, none⟩ = some (.int .i64 (N : Int)) ∧ W'.cell? ⟨w.heap.size, 2, none⟩ = some (.slice A n c) ∧ W'.cell? ⟨w.heap.size + 1, 0, none⟩ = some (.string (bs k1)) ∧ W'.cell? ⟨w.heap.size + 1, 1, none⟩ = some (.string (bs k2)) ∧ W'.cell? ⟨w.heap.size + 1 + 1, 0, none⟩ = some (.slice TA tn tc) ∧ W'.cell? ⟨w.heap.size + 1 + 1, 1, none⟩ = some (.slice CA cn cc) ∧ W'.cell? ⟨w.heap.size + 1 + 1, 2, none⟩ = some (.bool fin) from by
    obtain ⟨⟨X, Y⟩, Z⟩ := HC.out _ h
    exact ⟨X.cell 0, X.cell 1, X.cell 2, Y.cell 0, Y.cell 1, Z.cell 0, Z.cell 1, Z.cell 2⟩))
  clear HC
  obtain ⟨n0, n1, n2, p0, p1, t0, t1, t2⟩ := HHS8.out _ (Below.refl _ _)
  cases fin
  · have HR1 := hid (show R = false by rw [HR.out]; rfl)
    refine wp_region_held_drew (S := fun w' => w'.cell? ⟨w.heap.size, 0, none⟩ = some (.string (bs nm)) ∧ w'.cell? ⟨w.heap.size, 1, none⟩ = some (.int .i64 (N : Int)) ∧ w'.cell? ⟨w.heap.size, 2, none⟩ = some (.slice A n c) ∧ w'.cell? ⟨w.heap.size + 1, 0, none⟩ = some (.string (bs k1)) ∧ w'.cell? ⟨w.heap.size + 1, 1, none⟩ = some (.string (bs k2)) ∧ w'.cell? ⟨w.heap.size + 1 + 1, 0, none⟩ = some (.slice TA tn tc) ∧ w'.cell? ⟨w.heap.size + 1 + 1, 1, none⟩ = some (.slice CA cn cc) ∧ w'.cell? ⟨w.heap.size + 1 + 1, 2, none⟩ = some (.bool false)) (by kernel_rfl) (HHS8.out _ (Below.refl _ _).drew) (fun hHeld => ?_)
    refine wpAnyH_take (i := 0) (v := ?_) rfl (by kernel_rfl) (by kernel_rfl) (by kernel_rfl) (fun _ _ _ h => h) (Or.inl ⟨by rfl, ?_⟩) (by assumption) ?_
    rotate_left
    · (intro w hSw; (try dsimp only at hSw); go_simp; with_reducible rfl)
    try simp only [Act.put, List.setIfInBounds_toArray, List.set_cons_zero, List.set_cons_succ]
    refine wpAnyH_take (i := 1) (v := ?_) rfl (by kernel_rfl) (by kernel_rfl) (by kernel_rfl) (fun _ _ _ h => h) (Or.inl ⟨by rfl, ?_⟩) (by assumption) ?_
    rotate_left
    · (intro w hSw; (try dsimp only at hSw); go_simp; with_reducible rfl)
    try simp only [Act.put, List.setIfInBounds_toArray, List.set_cons_zero, List.set_cons_succ]
    refine wpAnyH_take (i := 2) (v := ?_) rfl (by kernel_rfl) (by kernel_rfl) (by kernel_rfl) (fun _ _ _ h => h) (Or.inl ⟨by rfl, ?_⟩) (by assumption) ?_
    rotate_left
    · (intro w hSw; (try dsimp only at hSw); go_simp; with_reducible rfl)
    try simp only [Act.put, List.setIfInBounds_toArray, List.set_cons_zero, List.set_cons_succ]
    refine wpAnyH_ready (rs := [3]) (by kernel_rfl) (by simp) ?_
    refine AllReadyH.cons rfl (fun K hK => ?_) AllReadyH.nil
    go_simp
    go_at_call 26
    refine ((GA _ (R2.out.below (Below.refl _ _).drew)).out).mono ?_
    rintro e w1 ⟨rfl, b1⟩
    have Fa := (Below.refl W2.heap.size W2).drew.trans (b1.mono (Nat.le_refl _))
    go_wp2_with fail
    refine hK.out _ _ (HHS8.out _ Fa) (fun hHx => ?_)
    clear hHx hK K hHeld
    try simp only [Act.put, List.setIfInBounds_toArray, List.set_cons_zero, List.set_cons_succ]
    refine wpAnyH_take (i := 4) (v := ?_) rfl (by kernel_rfl) (by kernel_rfl) (by kernel_rfl) (fun _ _ _ h => h) (Or.inl ⟨by rfl, ?_⟩) (HHS8.out _ Fa) ?_
    rotate_left
    · (intro w hSw; (try dsimp only at hSw); go_simp; with_reducible rfl)
    try simp only [Act.put, List.setIfInBounds_toArray, List.set_cons_zero, List.set_cons_succ]
    refine wpAnyH_take (i := 5) (v := ?_) rfl (by kernel_rfl) (by kernel_rfl) (by kernel_rfl) (fun _ _ _ h => h) (Or.inl ⟨by rfl, ?_⟩) (HHS8.out _ Fa) ?_
    rotate_left
    · (intro w hSw; (try dsimp only at hSw); go_simp; with_reducible rfl)
    try simp only [Act.put, List.setIfInBounds_toArray, List.set_cons_zero, List.set_cons_succ]
    refine wpAnyH_take (i := 6) (v := ?_) rfl (by kernel_rfl) (by kernel_rfl) (by kernel_rfl) (fun _ _ _ h => h) (Or.inl ⟨by kernel_rfl, ?_⟩) (HHS8.out _ Fa) ?_
    rotate_left
    · (intro w hSw; (try dsimp only at hSw); go_simp; with_reducible rfl)
    try simp only [Act.put, List.setIfInBounds_toArray, List.set_cons_zero, List.set_cons_succ]
    refine wpAnyH_take (i := 7) (v := ?_) rfl (by kernel_rfl) (by kernel_rfl) (by kernel_rfl) (fun _ _ _ h => h) (Or.inl ⟨by kernel_rfl, ?_⟩) (HHS8.out _ Fa) ?_
    rotate_left
    · (intro w hSw; (try dsimp only at hSw); go_simp; with_reducible rfl)
    try simp only [Act.put, List.setIfInBounds_toArray, List.set_cons_zero, List.set_cons_succ]
    refine wpAnyH_take (i := 8) (v := ?_) rfl (by kernel_rfl) (by kernel_rfl) (by kernel_rfl) (fun _ _ _ h => h) (Or.inl ⟨by kernel_rfl, ?_⟩) (HHS8.out _ Fa) ?_
    rotate_left
    · (intro w hSw; (try dsimp only at hSw); go_simp; with_reducible rfl)
    try simp only [Act.put, List.setIfInBounds_toArray, List.set_cons_zero, List.set_cons_succ]
    refine wpAnyH_take (i := 9) (v := ?_) rfl (by kernel_rfl) (by kernel_rfl) (by kernel_rfl) (fun _ _ _ h => h) (Or.inl ⟨by rfl, ?_⟩) (HHS8.out _ Fa) ?_
    rotate_left
    · (intro w hSw; (try dsimp only at hSw); go_simp; with_reducible rfl)
    try simp only [Act.put, List.setIfInBounds_toArray, List.set_cons_zero, List.set_cons_succ]
    refine wpAnyH_take (i := 10) (v := ?_) rfl (by kernel_rfl) (by kernel_rfl) (by kernel_rfl) (fun _ _ _ h => h) (Or.inl ⟨by rfl, ?_⟩) (HHS8.out _ Fa) ?_
    rotate_left
    · (intro w hSw; (try dsimp only at hSw); go_simp; with_reducible rfl)
    try simp only [Act.put, List.setIfInBounds_toArray, List.set_cons_zero, List.set_cons_succ]
    refine wpAnyH_pass (i := 11) (d := some 26) (by kernel_rfl) (by kernel_rfl) (by kernel_rfl) (by kernel_rfl) (fun _ _ _ _ h => h) (by kernel_rfl) (HHS8.out _ Fa) ?_
    try simp only [Act.put, List.setIfInBounds_toArray, List.set_cons_zero, List.set_cons_succ]
    refine wpAnyH_pass (i := 12) (d := some 27) (by kernel_rfl) (by kernel_rfl) (by kernel_rfl) (by kernel_rfl) (fun _ _ _ _ h => h) (by kernel_rfl) (HHS8.out _ Fa) ?_
    try simp only [Act.put, List.setIfInBounds_toArray, List.set_cons_zero, List.set_cons_succ]
    refine wpAnyH_pass (i := 13) (d := some 28) (by kernel_rfl) (by kernel_rfl) (by kernel_rfl) (by kernel_rfl) (fun _ _ _ _ h => h) (by kernel_rfl) (HHS8.out _ Fa) ?_
    try simp only [Act.put, List.setIfInBounds_toArray, List.set_cons_zero, List.set_cons_succ]
    refine wpAnyH_pass (i := 14) (d := some 29) (by kernel_rfl) (by kernel_rfl) (by kernel_rfl) (by kernel_rfl) (fun _ _ _ _ h => h) (by kernel_rfl) (HHS8.out _ Fa) ?_
    try simp only [Act.put, List.setIfInBounds_toArray, List.set_cons_zero, List.set_cons_succ]
    refine wpAnyH_pass (i := 15) (d := some 30) (by kernel_rfl) (by kernel_rfl) (by kernel_rfl) (by kernel_rfl) (fun _ _ _ _ h => h) (by kernel_rfl) (HHS8.out _ Fa) ?_
    try simp only [Act.put, List.setIfInBounds_toArray, List.set_cons_zero, List.set_cons_succ]
    refine wpAnyH_pass (i := 16) (d := some 31) (by kernel_rfl) (by kernel_rfl) (by kernel_rfl) (by kernel_rfl) (fun _ _ _ _ h => h) (by kernel_rfl) (HHS8.out _ Fa) ?_
    try simp only [Act.put, List.setIfInBounds_toArray, List.set_cons_zero, List.set_cons_succ]
    refine wpAnyH_pass (i := 17) (d := some 32) (by kernel_rfl) (by kernel_rfl) (by kernel_rfl) (by kernel_rfl) (fun _ _ _ _ h => h) (by kernel_rfl) (HHS8.out _ Fa) ?_
    try simp only [Act.put, List.setIfInBounds_toArray, List.set_cons_zero, List.set_cons_succ]
    refine wpAnyH_pass (i := 18) (d := some 33) (by kernel_rfl) (by kernel_rfl) (by kernel_rfl) (by kernel_rfl) (fun _ _ _ _ h => h) (by kernel_rfl) (HHS8.out _ Fa) ?_
    try simp only [Act.put, List.setIfInBounds_toArray, List.set_cons_zero, List.set_cons_succ]
    refine wpAnyH_pass (i := 19) (d := some 34) (by kernel_rfl) (by kernel_rfl) (by kernel_rfl) (by kernel_rfl) (fun _ _ _ _ h => h) (by kernel_rfl) (HHS8.out _ Fa) ?_
    try simp only [Act.put, List.setIfInBounds_toArray, List.set_cons_zero, List.set_cons_succ]
    refine wpAnyH_pass (i := 20) (d := some 35) (by kernel_rfl) (by kernel_rfl) (by kernel_rfl) (by kernel_rfl) (fun _ _ _ _ h => h) (by kernel_rfl) (HHS8.out _ Fa) ?_
    try simp only [Act.put, List.setIfInBounds_toArray, List.set_cons_zero, List.set_cons_succ]
    refine wpAnyH_ready (rs := [21]) (by kernel_rfl) (by simp) ?_
    refine AllReadyH.cons rfl (fun K hK => ?_) AllReadyH.nil
    go_simp
    refine hK.out _ _ (HHS8.out _ Fa) (fun hHx => ?_)
    clear hHx hK K
    try simp only [Act.put, List.setIfInBounds_toArray, List.set_cons_zero, List.set_cons_succ]
    refine wpAnyH_done (by kernel_rfl) ?_ _
    have HFa := hid Fa
    clear b1 Fa
    go_wp2
    go_ret
    exact ⟨ret_bool HR1.out.symm, HB2.out.trans (HFa.out.mono hw2)⟩
  have hszb : ((tn : Int) + (cn : Int) : Int) = ((tn + cn : Nat) : Int) := by omega
  have hP729 : 3 ^ q ≤ 3 ^ 6 := Nat.pow_le_pow_right (by omega) (by omega)
  obtain ⟨PQ, hPQ⟩ : ∃ PQ, PQ = 3 ^ q := ⟨_, rfl⟩
  have GPq := GP q hq
  rw [← hPQ] at HR GPq hP729
  have HPQ := hid hPQ
  clear hPQ
  have hw0 : IntKind.i64.wrap ((tn : Int) + (cn : Int)) = ((tn + cn : Nat) : Int) := by rw [IntWalk.i64_in _ (by omega)]; omega
  clear hszb
  go_region_held3 (fun w' => w'.cell? ⟨w.heap.size, 0, none⟩ = some (.string (bs nm)) ∧ w'.cell? ⟨w.heap.size, 1, none⟩ = some (.int .i64 (N : Int)) ∧ w'.cell? ⟨w.heap.size, 2, none⟩ = some (.slice A n c) ∧ w'.cell? ⟨w.heap.size + 1, 0, none⟩ = some (.string (bs k1)) ∧ w'.cell? ⟨w.heap.size + 1, 1, none⟩ = some (.string (bs k2)) ∧ w'.cell? ⟨w.heap.size + 1 + 1, 0, none⟩ = some (.slice TA tn tc) ∧ w'.cell? ⟨w.heap.size + 1 + 1, 1, none⟩ = some (.slice CA cn cc) ∧ w'.cell? ⟨w.heap.size + 1 + 1, 2, none⟩ = some (.bool true))
    (first | exact HHS8.out _ (Below.refl _ _) | exact HHS8.out _ (Below.refl _ _).drew | exact HHS8.out _ Fa)
    (first | (go_at_call 26; refine (GA _ (R2.out.below (Below.refl _ _).drew)).out.mono ?_; rintro e w1 ⟨rfl, b1⟩; have Fa := (Below.refl W2.heap.size W2).drew.trans (b1.mono (Nat.le_refl _))) | (go_at_call 44; refine (GPq _).out.mono ?_; rintro e w' ⟨rfl, rfl⟩))
  have E1 := hid Fa
  clear b1 Fa hw0 n0 n1 n2 p0 p1 t0 t1 t2
  obtain ⟨n0, n1, n2, p0, p1, t0, t1, t2⟩ := HHS8.out _ E1.out
  by_cases hsz : tn + cn ≤ PQ
  case neg =>
    have hgt : (PQ : Int) < ((tn + cn : Nat) : Int) := by omega
    have hgd : decide ((PQ : Int) < ((tn + cn : Nat) : Int)) = true := decide_eq_true hgt
    have hgd2 : decide (PQ < tn + cn) = true := decide_eq_true (by omega)
    have HR1 := hid (show R = false by rw [HR.out, HLT.out, HLC.out, decide_eq_false hsz]; rfl)
    clear hsz
    go_wp2
    go_ret
    exact ⟨ret_bool HR1.out.symm, HB2.out.trans (E1.out.mono hw2)⟩
  have hgt : ¬ (PQ : Int) < ((tn + cn : Nat) : Int) := by omega
  have hgd : decide ((PQ : Int) < ((tn + cn : Nat) : Int)) = false := decide_eq_false hgt
  have hgd2 : decide (PQ < tn + cn) = false := decide_eq_false (by omega)
  have HR2 := hid (show R = (refT tst ts && (csB isC cs && (apartL (ts ++ cs.map fun c => c.1) && decide (ts.length + sumL q cs = PQ)))) by rw [HR.out, HLT.out, HLC.out, decide_eq_true hsz]; rfl)
  clear HR
  go_wp2_with fail
  refine (GO _ ((RT.out.below HB2.out).below E1.out)).out.mono ?_
  rintro e w3 ⟨v9, rfl, o9, b3⟩
  obtain ⟨A9, c9, rfl, y1, y2, y3, y4⟩ := own_shape o9
  clear y1 y2 y3 y4
  have E3 := hid (E1.out.trans (b3.mono E1.out.size))
  have HO9 := hid o9
  have HSZ1 := hid E1.out.size
  have HB13 := hid b3
  clear b3 o9 hgt hgd hgd2 n0 n1 n2 p0 p1 t0 t1 t2
  obtain ⟨n0, n1, n2, p0, p1, t0, t1, t2⟩ := HHS8.out _ E3.out
  go_upto_region 6 with fail
  clear n0 n1 n2 p0 p1 t0 t1 t2
  go_loopg [46] tn (fun gk u wr => ∃ i : Nat, i ≤ tn ∧ gk = tn - i ∧ u = .int .i64 (i : Int) ∧ Hid (rall i (fun i => tst (gS ts i) && (i == 0 || Op.bytesLess (gS ts (i - 1)) (gS ts i))) = true) ∧ Below w3.heap.size w3 wr)
  case atStart => exact ⟨0, by omega, by omega, rfl, hid rfl, Below.refl _ _⟩
  case round =>
    obtain ⟨l, hl, rfl, rfl, hall, hb⟩ := hrel
    have E5 := hid (E3.out.trans (hb.mono E3.out.size))
    have HBr := hid hb
    obtain ⟨n0, n1, n2, p0, p1, t0, t1, t2⟩ := HHS8.out _ E5.out
    by_cases hlt : l < tn
    · obtain ⟨bt, ot, hTA, hkl, v0⟩ := ((RT.out.below HB2.out).below E5.out).str hlt
      have hm1 := fun (h : 0 < l) => ((RT.out.below HB2.out).below E5.out).str (k := l - 1) (by omega)
      subst hTA
      have hstep : Hid ((tst ts[l] && (l == 0 || Op.bytesLess (gS ts (l - 1)) ts[l])) = true → rall (l + 1) (fun i => tst (gS ts i) && (i == 0 || Op.bytesLess (gS ts (i - 1)) (gS ts i))) = true) := hid (fun h => rall_step hall.out (by rw [gS_eq hkl]; exact h))
      have hbad : Hid ((tst ts[l] && (l == 0 || Op.bytesLess (gS ts (l - 1)) ts[l])) = false → refT tst ts = false) := hid (fun h => rall_bad (k := l) (n := ts.length) hkl (by rw [gS_eq hkl]; exact h))
      have htd := HTD.out ts[l]
      have hgt1 := HGT.out ts[l]
      have htl1 := HTL.out ts[l] (List.getElem_mem hkl)
      have HM1 := hid (fun (h : 0 < l) => (show wr.cell? ⟨bt, ot + (l - 1), none⟩ = some (.string (bs (gS ts (l - 1)))) from by
        obtain ⟨b', o', e', hk', hc'⟩ := hm1 h
        obtain ⟨rfl, rfl⟩ : bt = b' ∧ ot = o' := by injection e' with e; injection e with e1 e2; exact ⟨e1, e2⟩
        rw [gS_eq hk']; exact hc'))
      generalize ts[l] = T at *
      generalize gS ts (l - 1) = P at *
      have HTD1 := hid htd
      have HTG := hid hgt1
      have HTA := hid (fun (h : goodTouch T = true) => good_all h)
      have GG := hid (fun w0 => l9Good_any T w0 (by omega))
      have j0 : (0 : Int) ≤ (l : Int) := by omega
      have j1 : (l : Int) < (tn : Int) := by omega
      clear hb htd hgt1 hall hm1 hkl
      by_cases hl0 : l = 0
      · have hgl : decide ((0 : Int) < (l : Int)) = false := decide_eq_false (by omega)
        have hgl2 : decide (0 < l) = false := decide_eq_false (by omega)
        have hl0b : (l == 0) = true := by simpa using hl0
        rw [hl0b, Bool.true_or, Bool.and_true] at hstep hbad
        clear hl0 hl0b HM1
        have HS9 := hid (fun W' (h : Below wr.heap.size wr W') => (show (W'.cell? ⟨w.heap.size, 0, none⟩ = some (.string (bs nm)) ∧ W'.cell? ⟨w.heap.size, 1, none⟩ = some (.int .i64 (N : Int)) ∧ W'.cell? ⟨w.heap.size, 2, none⟩ = some (.slice A n c) ∧ W'.cell? ⟨w.heap.size + 1, 0, none⟩ = some (.string (bs k1)) ∧ W'.cell? ⟨w.heap.size + 1, 1, none⟩ = some (.string (bs k2)) ∧ W'.cell? ⟨w.heap.size + 1 + 1, 0, none⟩ = some (.slice (some ⟨bt, ot, none⟩) tn tc) ∧ W'.cell? ⟨w.heap.size + 1 + 1, 1, none⟩ = some (.slice CA cn cc) ∧ W'.cell? ⟨w.heap.size + 1 + 1, 2, none⟩ = some (.bool true)) ∧ W'.cell? ⟨bt, ot + l, none⟩ = some (.string (bs T)) from ⟨HHS8.out _ (E5.out.trans (h.mono E5.out.size)), (h.cell (World.block_lt_of_cell? wr _ v0)).trans v0⟩))
        clear n0 n1 n2 p0 p1 t0 t1 t2 v0
        obtain ⟨⟨n0, n1, n2, p0, p1, t0, t1, t2⟩, v0⟩ := HS9.out _ (Below.refl _ _)
        cases hgd : goodTouch T
        · rw [hgd] at GG
          have HS2 := hid (hbad.out (by rw [HTG.out hgd]; try rfl))
          clear hstep hbad hgd HTG
          go_wp2_with fail
          refine wp_region_held_drew (S := fun w' => (w'.cell? ⟨w.heap.size, 0, none⟩ = some (.string (bs nm)) ∧ w'.cell? ⟨w.heap.size, 1, none⟩ = some (.int .i64 (N : Int)) ∧ w'.cell? ⟨w.heap.size, 2, none⟩ = some (.slice A n c) ∧ w'.cell? ⟨w.heap.size + 1, 0, none⟩ = some (.string (bs k1)) ∧ w'.cell? ⟨w.heap.size + 1, 1, none⟩ = some (.string (bs k2)) ∧ w'.cell? ⟨w.heap.size + 1 + 1, 0, none⟩ = some (.slice (some ⟨bt, ot, none⟩) tn tc) ∧ w'.cell? ⟨w.heap.size + 1 + 1, 1, none⟩ = some (.slice CA cn cc) ∧ w'.cell? ⟨w.heap.size + 1 + 1, 2, none⟩ = some (.bool true)) ∧ w'.cell? ⟨bt, ot + l, none⟩ = some (.string (bs T))) (by kernel_rfl) (HS9.out _ (Below.refl _ _).drew) (fun hHeld => ?_)
          refine wpAnyH_take (i := 0) (v := ?_) rfl (by kernel_rfl) (by kernel_rfl) (by kernel_rfl) (fun _ _ _ h => h) (Or.inl ⟨by rfl, ?_⟩) (by assumption) ?_
          rotate_left
          · (intro w hSw; (try dsimp only at hSw); go_simp; with_reducible rfl)
          try simp only [Act.put, List.setIfInBounds_toArray, List.set_cons_zero, List.set_cons_succ]
          refine wpAnyH_ready (rs := [1]) (by kernel_rfl) (by simp) ?_
          refine AllReadyH.cons rfl (fun K hK => ?_) AllReadyH.nil
          go_simp
          go_at_call 45
          refine ((GG.out _)).mono ?_
          rintro e w' ⟨rfl, rfl⟩
          go_wp2_with fail
          refine hK.out _ _ (HS9.out _ (Below.refl _ _).drew) (fun hHx => ?_)
          clear hHx hK K hHeld
          try simp only [Act.put, List.setIfInBounds_toArray, List.set_cons_zero, List.set_cons_succ]
          refine wpAnyH_take (i := 2) (v := ?_) rfl (by kernel_rfl) (by kernel_rfl) (by kernel_rfl) (fun _ _ _ h => h) (Or.inl ⟨by rfl, ?_⟩) (HS9.out _ (Below.refl _ _).drew) ?_
          rotate_left
          · (intro w hSw; (try dsimp only at hSw); go_simp; with_reducible rfl)
          try simp only [Act.put, List.setIfInBounds_toArray, List.set_cons_zero, List.set_cons_succ]
          refine wpAnyH_take (i := 3) (v := ?_) rfl (by kernel_rfl) (by kernel_rfl) (by kernel_rfl) (fun _ _ _ h => h) (Or.inl ⟨by rfl, ?_⟩) (HS9.out _ (Below.refl _ _).drew) ?_
          rotate_left
          · (intro w hSw; (try dsimp only at hSw); go_simp; with_reducible rfl)
          try simp only [Act.put, List.setIfInBounds_toArray, List.set_cons_zero, List.set_cons_succ]
          refine wpAnyH_pass (i := 4) (d := some 55) (by kernel_rfl) (by kernel_rfl) (by kernel_rfl) (by kernel_rfl) (fun _ _ _ _ h => h) (by kernel_rfl) (HS9.out _ (Below.refl _ _).drew) ?_
          try simp only [Act.put, List.setIfInBounds_toArray, List.set_cons_zero, List.set_cons_succ]
          refine wpAnyH_pass (i := 5) (d := some 56) (by kernel_rfl) (by kernel_rfl) (by kernel_rfl) (by kernel_rfl) (fun _ _ _ _ h => h) (by kernel_rfl) (HS9.out _ (Below.refl _ _).drew) ?_
          try simp only [Act.put, List.setIfInBounds_toArray, List.set_cons_zero, List.set_cons_succ]
          refine wpAnyH_pass (i := 6) (d := some 57) (by kernel_rfl) (by kernel_rfl) (by kernel_rfl) (by kernel_rfl) (fun _ _ _ _ h => h) (by kernel_rfl) (HS9.out _ (Below.refl _ _).drew) ?_
          try simp only [Act.put, List.setIfInBounds_toArray, List.set_cons_zero, List.set_cons_succ]
          refine wpAnyH_pass (i := 7) (d := some 58) (by kernel_rfl) (by kernel_rfl) (by kernel_rfl) (by kernel_rfl) (fun _ _ _ _ h => h) (by kernel_rfl) (HS9.out _ (Below.refl _ _).drew) ?_
          try simp only [Act.put, List.setIfInBounds_toArray, List.set_cons_zero, List.set_cons_succ]
          refine wpAnyH_take (i := 8) (v := ?_) rfl (by kernel_rfl) (by kernel_rfl) (by kernel_rfl) (fun _ _ _ h => h) (Or.inl ⟨by rfl, ?_⟩) (HS9.out _ (Below.refl _ _).drew) ?_
          rotate_left
          · (intro w hSw; (try dsimp only at hSw); go_simp; with_reducible rfl)
          try simp only [Act.put, List.setIfInBounds_toArray, List.set_cons_zero, List.set_cons_succ]
          refine wpAnyH_take (i := 9) (v := ?_) rfl (by kernel_rfl) (by kernel_rfl) (by kernel_rfl) (fun _ _ _ h => h) (Or.inl ⟨by rfl, ?_⟩) (HS9.out _ (Below.refl _ _).drew) ?_
          rotate_left
          · (intro w hSw; (try dsimp only at hSw); go_simp; with_reducible rfl)
          try simp only [Act.put, List.setIfInBounds_toArray, List.set_cons_zero, List.set_cons_succ]
          refine wpAnyH_pass (i := 10) (d := some 61) (by kernel_rfl) (by kernel_rfl) (by kernel_rfl) (by kernel_rfl) (fun _ _ _ _ h => h) (by kernel_rfl) (HS9.out _ (Below.refl _ _).drew) ?_
          try simp only [Act.put, List.setIfInBounds_toArray, List.set_cons_zero, List.set_cons_succ]
          refine wpAnyH_pass (i := 11) (d := some 62) (by kernel_rfl) (by kernel_rfl) (by kernel_rfl) (by kernel_rfl) (fun _ _ _ _ h => h) (by kernel_rfl) (HS9.out _ (Below.refl _ _).drew) ?_
          try simp only [Act.put, List.setIfInBounds_toArray, List.set_cons_zero, List.set_cons_succ]
          refine wpAnyH_pass (i := 12) (d := some 63) (by kernel_rfl) (by kernel_rfl) (by kernel_rfl) (by kernel_rfl) (fun _ _ _ _ h => h) (by kernel_rfl) (HS9.out _ (Below.refl _ _).drew) ?_
          try simp only [Act.put, List.setIfInBounds_toArray, List.set_cons_zero, List.set_cons_succ]
          refine wpAnyH_pass (i := 13) (d := some 64) (by kernel_rfl) (by kernel_rfl) (by kernel_rfl) (by kernel_rfl) (fun _ _ _ _ h => h) (by kernel_rfl) (HS9.out _ (Below.refl _ _).drew) ?_
          try simp only [Act.put, List.setIfInBounds_toArray, List.set_cons_zero, List.set_cons_succ]
          refine wpAnyH_pass (i := 14) (d := some 65) (by kernel_rfl) (by kernel_rfl) (by kernel_rfl) (by kernel_rfl) (fun _ _ _ _ h => h) (by kernel_rfl) (HS9.out _ (Below.refl _ _).drew) ?_
          try simp only [Act.put, List.setIfInBounds_toArray, List.set_cons_zero, List.set_cons_succ]
          refine wpAnyH_pass (i := 15) (d := some 66) (by kernel_rfl) (by kernel_rfl) (by kernel_rfl) (by kernel_rfl) (fun _ _ _ _ h => h) (by kernel_rfl) (HS9.out _ (Below.refl _ _).drew) ?_
          try simp only [Act.put, List.setIfInBounds_toArray, List.set_cons_zero, List.set_cons_succ]
          refine wpAnyH_pass (i := 16) (d := some 67) (by kernel_rfl) (by kernel_rfl) (by kernel_rfl) (by kernel_rfl) (fun _ _ _ _ h => h) (by kernel_rfl) (HS9.out _ (Below.refl _ _).drew) ?_
          try simp only [Act.put, List.setIfInBounds_toArray, List.set_cons_zero, List.set_cons_succ]
          refine wpAnyH_pass (i := 17) (d := some 68) (by kernel_rfl) (by kernel_rfl) (by kernel_rfl) (by kernel_rfl) (fun _ _ _ _ h => h) (by kernel_rfl) (HS9.out _ (Below.refl _ _).drew) ?_
          try simp only [Act.put, List.setIfInBounds_toArray, List.set_cons_zero, List.set_cons_succ]
          refine wpAnyH_pass (i := 18) (d := some 69) (by kernel_rfl) (by kernel_rfl) (by kernel_rfl) (by kernel_rfl) (fun _ _ _ _ h => h) (by kernel_rfl) (HS9.out _ (Below.refl _ _).drew) ?_
          try simp only [Act.put, List.setIfInBounds_toArray, List.set_cons_zero, List.set_cons_succ]
          refine wpAnyH_pass (i := 19) (d := some 70) (by kernel_rfl) (by kernel_rfl) (by kernel_rfl) (by kernel_rfl) (fun _ _ _ _ h => h) (by kernel_rfl) (HS9.out _ (Below.refl _ _).drew) ?_
          try simp only [Act.put, List.setIfInBounds_toArray, List.set_cons_zero, List.set_cons_succ]
          refine wpAnyH_pass (i := 20) (d := some 71) (by kernel_rfl) (by kernel_rfl) (by kernel_rfl) (by kernel_rfl) (fun _ _ _ _ h => h) (by kernel_rfl) (HS9.out _ (Below.refl _ _).drew) ?_
          try simp only [Act.put, List.setIfInBounds_toArray, List.set_cons_zero, List.set_cons_succ]
          refine wpAnyH_pass (i := 21) (d := some 72) (by kernel_rfl) (by kernel_rfl) (by kernel_rfl) (by kernel_rfl) (fun _ _ _ _ h => h) (by kernel_rfl) (HS9.out _ (Below.refl _ _).drew) ?_
          try simp only [Act.put, List.setIfInBounds_toArray, List.set_cons_zero, List.set_cons_succ]
          refine wpAnyH_take (i := 22) (v := ?_) rfl (by kernel_rfl) (by kernel_rfl) (by kernel_rfl) (fun _ _ _ h => h) (Or.inl ⟨by rfl, ?_⟩) (HS9.out _ (Below.refl _ _).drew) ?_
          rotate_left
          · (intro w hSw; (try dsimp only at hSw); go_simp; with_reducible rfl)
          try simp only [Act.put, List.setIfInBounds_toArray, List.set_cons_zero, List.set_cons_succ]
          refine wpAnyH_take (i := 23) (v := ?_) rfl (by kernel_rfl) (by kernel_rfl) (by kernel_rfl) (fun _ _ _ h => h) (Or.inl ⟨by rfl, ?_⟩) (HS9.out _ (Below.refl _ _).drew) ?_
          rotate_left
          · (intro w hSw; (try dsimp only at hSw); go_simp; with_reducible rfl)
          try simp only [Act.put, List.setIfInBounds_toArray, List.set_cons_zero, List.set_cons_succ]
          refine wpAnyH_pass (i := 24) (d := some 75) (by kernel_rfl) (by kernel_rfl) (by kernel_rfl) (by kernel_rfl) (fun _ _ _ _ h => h) (by kernel_rfl) (HS9.out _ (Below.refl _ _).drew) ?_
          try simp only [Act.put, List.setIfInBounds_toArray, List.set_cons_zero, List.set_cons_succ]
          refine wpAnyH_pass (i := 25) (d := some 76) (by kernel_rfl) (by kernel_rfl) (by kernel_rfl) (by kernel_rfl) (fun _ _ _ _ h => h) (by kernel_rfl) (HS9.out _ (Below.refl _ _).drew) ?_
          try simp only [Act.put, List.setIfInBounds_toArray, List.set_cons_zero, List.set_cons_succ]
          refine wpAnyH_pass (i := 26) (d := some 77) (by kernel_rfl) (by kernel_rfl) (by kernel_rfl) (by kernel_rfl) (fun _ _ _ _ h => h) (by kernel_rfl) (HS9.out _ (Below.refl _ _).drew) ?_
          try simp only [Act.put, List.setIfInBounds_toArray, List.set_cons_zero, List.set_cons_succ]
          refine wpAnyH_pass (i := 27) (d := some 78) (by kernel_rfl) (by kernel_rfl) (by kernel_rfl) (by kernel_rfl) (fun _ _ _ _ h => h) (by kernel_rfl) (HS9.out _ (Below.refl _ _).drew) ?_
          try simp only [Act.put, List.setIfInBounds_toArray, List.set_cons_zero, List.set_cons_succ]
          refine wpAnyH_pass (i := 28) (d := some 79) (by kernel_rfl) (by kernel_rfl) (by kernel_rfl) (by kernel_rfl) (fun _ _ _ _ h => h) (by kernel_rfl) (HS9.out _ (Below.refl _ _).drew) ?_
          try simp only [Act.put, List.setIfInBounds_toArray, List.set_cons_zero, List.set_cons_succ]
          refine wpAnyH_pass (i := 29) (d := some 80) (by kernel_rfl) (by kernel_rfl) (by kernel_rfl) (by kernel_rfl) (fun _ _ _ _ h => h) (by kernel_rfl) (HS9.out _ (Below.refl _ _).drew) ?_
          try simp only [Act.put, List.setIfInBounds_toArray, List.set_cons_zero, List.set_cons_succ]
          refine wpAnyH_pass (i := 30) (d := some 81) (by kernel_rfl) (by kernel_rfl) (by kernel_rfl) (by kernel_rfl) (fun _ _ _ _ h => h) (by kernel_rfl) (HS9.out _ (Below.refl _ _).drew) ?_
          try simp only [Act.put, List.setIfInBounds_toArray, List.set_cons_zero, List.set_cons_succ]
          refine wpAnyH_pass (i := 31) (d := some 82) (by kernel_rfl) (by kernel_rfl) (by kernel_rfl) (by kernel_rfl) (fun _ _ _ _ h => h) (by kernel_rfl) (HS9.out _ (Below.refl _ _).drew) ?_
          try simp only [Act.put, List.setIfInBounds_toArray, List.set_cons_zero, List.set_cons_succ]
          refine wpAnyH_take (i := 32) (v := ?_) rfl (by kernel_rfl) (by kernel_rfl) (by kernel_rfl) (fun _ _ _ h => h) (Or.inl ⟨by rfl, ?_⟩) (HS9.out _ (Below.refl _ _).drew) ?_
          rotate_left
          · (intro w hSw; (try dsimp only at hSw); go_simp; with_reducible rfl)
          try simp only [Act.put, List.setIfInBounds_toArray, List.set_cons_zero, List.set_cons_succ]
          refine wpAnyH_take (i := 33) (v := ?_) rfl (by kernel_rfl) (by kernel_rfl) (by kernel_rfl) (fun _ _ _ h => h) (Or.inl ⟨by rfl, ?_⟩) (HS9.out _ (Below.refl _ _).drew) ?_
          rotate_left
          · (intro w hSw; (try dsimp only at hSw); go_simp; with_reducible rfl)
          try simp only [Act.put, List.setIfInBounds_toArray, List.set_cons_zero, List.set_cons_succ]
          refine wpAnyH_pass (i := 34) (d := some 85) (by kernel_rfl) (by kernel_rfl) (by kernel_rfl) (by kernel_rfl) (fun _ _ _ _ h => h) (by kernel_rfl) (HS9.out _ (Below.refl _ _).drew) ?_
          try simp only [Act.put, List.setIfInBounds_toArray, List.set_cons_zero, List.set_cons_succ]
          refine wpAnyH_pass (i := 35) (d := some 86) (by kernel_rfl) (by kernel_rfl) (by kernel_rfl) (by kernel_rfl) (fun _ _ _ _ h => h) (by kernel_rfl) (HS9.out _ (Below.refl _ _).drew) ?_
          try simp only [Act.put, List.setIfInBounds_toArray, List.set_cons_zero, List.set_cons_succ]
          refine wpAnyH_pass (i := 36) (d := some 87) (by kernel_rfl) (by kernel_rfl) (by kernel_rfl) (by kernel_rfl) (fun _ _ _ _ h => h) (by kernel_rfl) (HS9.out _ (Below.refl _ _).drew) ?_
          try simp only [Act.put, List.setIfInBounds_toArray, List.set_cons_zero, List.set_cons_succ]
          refine wpAnyH_pass (i := 37) (d := some 88) (by kernel_rfl) (by kernel_rfl) (by kernel_rfl) (by kernel_rfl) (fun _ _ _ _ h => h) (by kernel_rfl) (HS9.out _ (Below.refl _ _).drew) ?_
          try simp only [Act.put, List.setIfInBounds_toArray, List.set_cons_zero, List.set_cons_succ]
          refine wpAnyH_pass (i := 38) (d := some 89) (by kernel_rfl) (by kernel_rfl) (by kernel_rfl) (by kernel_rfl) (fun _ _ _ _ h => h) (by kernel_rfl) (HS9.out _ (Below.refl _ _).drew) ?_
          try simp only [Act.put, List.setIfInBounds_toArray, List.set_cons_zero, List.set_cons_succ]
          refine wpAnyH_ready (rs := [39]) (by kernel_rfl) (by simp) ?_
          refine AllReadyH.cons rfl (fun K hK => ?_) AllReadyH.nil
          go_simp
          refine hK.out _ _ (HS9.out _ (Below.refl _ _).drew) (fun hHx => ?_)
          clear hHx hK K
          try simp only [Act.put, List.setIfInBounds_toArray, List.set_cons_zero, List.set_cons_succ]
          refine wpAnyH_done (by kernel_rfl) ?_ _
          go_wp2
          go_ret
          exact ⟨ret_bool (by rw [HR2.out, HS2.out]; rfl), HB2.out.trans (E5.out.drew.mono hw2)⟩
        rw [hgd] at GG
        have hac := HTA.out hgd
        clear hgd HTG HTA
        by_cases hlen : T.length = q
        case neg =>
          have hq1 : ((T.length : Int) != (q : Int)) = true := by simp only [bne_iff_ne, ne_eq]; omega
          have HS2 := hid (hbad.out (by rw [HTD1.out, decide_eq_false hlen]; rfl))
          clear hlen hstep hbad hac
          go_wp2_with fail
          refine wp_region_held_drew (S := fun w' => (w'.cell? ⟨w.heap.size, 0, none⟩ = some (.string (bs nm)) ∧ w'.cell? ⟨w.heap.size, 1, none⟩ = some (.int .i64 (N : Int)) ∧ w'.cell? ⟨w.heap.size, 2, none⟩ = some (.slice A n c) ∧ w'.cell? ⟨w.heap.size + 1, 0, none⟩ = some (.string (bs k1)) ∧ w'.cell? ⟨w.heap.size + 1, 1, none⟩ = some (.string (bs k2)) ∧ w'.cell? ⟨w.heap.size + 1 + 1, 0, none⟩ = some (.slice (some ⟨bt, ot, none⟩) tn tc) ∧ w'.cell? ⟨w.heap.size + 1 + 1, 1, none⟩ = some (.slice CA cn cc) ∧ w'.cell? ⟨w.heap.size + 1 + 1, 2, none⟩ = some (.bool true)) ∧ w'.cell? ⟨bt, ot + l, none⟩ = some (.string (bs T))) (by kernel_rfl) (HS9.out _ (Below.refl _ _).drew) (fun hHeld => ?_)
          refine wpAnyH_take (i := 0) (v := ?_) rfl (by kernel_rfl) (by kernel_rfl) (by kernel_rfl) (fun _ _ _ h => h) (Or.inl ⟨by rfl, ?_⟩) (by assumption) ?_
          rotate_left
          · (intro w hSw; (try dsimp only at hSw); go_simp; with_reducible rfl)
          try simp only [Act.put, List.setIfInBounds_toArray, List.set_cons_zero, List.set_cons_succ]
          refine wpAnyH_ready (rs := [1]) (by kernel_rfl) (by simp) ?_
          refine AllReadyH.cons rfl (fun K hK => ?_) AllReadyH.nil
          go_simp
          go_at_call 45
          refine ((GG.out _)).mono ?_
          rintro e w' ⟨rfl, rfl⟩
          go_wp2_with fail
          refine hK.out _ _ (HS9.out _ (Below.refl _ _).drew) (fun hHx => ?_)
          clear hHx hK K hHeld
          try simp only [Act.put, List.setIfInBounds_toArray, List.set_cons_zero, List.set_cons_succ]
          refine wpAnyH_take (i := 2) (v := ?_) rfl (by kernel_rfl) (by kernel_rfl) (by kernel_rfl) (fun _ _ _ h => h) (Or.inl ⟨by rfl, ?_⟩) (HS9.out _ (Below.refl _ _).drew) ?_
          rotate_left
          · (intro w hSw; (try dsimp only at hSw); go_simp; with_reducible rfl)
          try simp only [Act.put, List.setIfInBounds_toArray, List.set_cons_zero, List.set_cons_succ]
          refine wpAnyH_take (i := 3) (v := ?_) rfl (by kernel_rfl) (by kernel_rfl) (by kernel_rfl) (fun _ _ _ h => h) (Or.inl ⟨by rfl, ?_⟩) (HS9.out _ (Below.refl _ _).drew) ?_
          rotate_left
          · (intro w hSw; (try dsimp only at hSw); go_simp; with_reducible rfl)
          try simp only [Act.put, List.setIfInBounds_toArray, List.set_cons_zero, List.set_cons_succ]
          refine wpAnyH_take (i := 4) (v := ?_) rfl (by kernel_rfl) (by kernel_rfl) (by kernel_rfl) (fun _ _ _ h => h) (Or.inl ⟨by kernel_rfl, ?_⟩) (HS9.out _ (Below.refl _ _).drew) ?_
          rotate_left
          · (intro w hSw; (try dsimp only at hSw); go_simp; with_reducible rfl)
          try simp only [Act.put, List.setIfInBounds_toArray, List.set_cons_zero, List.set_cons_succ]
          refine wpAnyH_take (i := 5) (v := ?_) rfl (by kernel_rfl) (by kernel_rfl) (by kernel_rfl) (fun _ _ _ h => h) (Or.inl ⟨by kernel_rfl, ?_⟩) (HS9.out _ (Below.refl _ _).drew) ?_
          rotate_left
          · (intro w hSw; (try dsimp only at hSw); go_simp; with_reducible rfl)
          try simp only [Act.put, List.setIfInBounds_toArray, List.set_cons_zero, List.set_cons_succ]
          refine wpAnyH_take (i := 6) (v := ?_) rfl (by kernel_rfl) (by kernel_rfl) (by kernel_rfl) (fun _ _ _ h => h) (Or.inl ⟨by kernel_rfl, ?_⟩) (HS9.out _ (Below.refl _ _).drew) ?_
          rotate_left
          · (intro w hSw; (try dsimp only at hSw); go_simp; with_reducible rfl)
          try simp only [Act.put, List.setIfInBounds_toArray, List.set_cons_zero, List.set_cons_succ]
          refine wpAnyH_take (i := 7) (v := ?_) rfl (by kernel_rfl) (by kernel_rfl) (by kernel_rfl) (fun _ _ _ h => h) (Or.inl ⟨by kernel_rfl, ?_⟩) (HS9.out _ (Below.refl _ _).drew) ?_
          rotate_left
          · (intro w hSw; (try dsimp only at hSw); go_simp; with_reducible rfl)
          try simp only [Act.put, List.setIfInBounds_toArray, List.set_cons_zero, List.set_cons_succ]
          refine wpAnyH_take (i := 8) (v := ?_) rfl (by kernel_rfl) (by kernel_rfl) (by kernel_rfl) (fun _ _ _ h => h) (Or.inl ⟨by rfl, ?_⟩) (HS9.out _ (Below.refl _ _).drew) ?_
          rotate_left
          · (intro w hSw; (try dsimp only at hSw); go_simp; with_reducible rfl)
          try simp only [Act.put, List.setIfInBounds_toArray, List.set_cons_zero, List.set_cons_succ]
          refine wpAnyH_take (i := 9) (v := ?_) rfl (by kernel_rfl) (by kernel_rfl) (by kernel_rfl) (fun _ _ _ h => h) (Or.inl ⟨by rfl, ?_⟩) (HS9.out _ (Below.refl _ _).drew) ?_
          rotate_left
          · (intro w hSw; (try dsimp only at hSw); go_simp; with_reducible rfl)
          try simp only [Act.put, List.setIfInBounds_toArray, List.set_cons_zero, List.set_cons_succ]
          refine wpAnyH_pass (i := 10) (d := some 61) (by kernel_rfl) (by kernel_rfl) (by kernel_rfl) (by kernel_rfl) (fun _ _ _ _ h => h) (by kernel_rfl) (HS9.out _ (Below.refl _ _).drew) ?_
          try simp only [Act.put, List.setIfInBounds_toArray, List.set_cons_zero, List.set_cons_succ]
          refine wpAnyH_pass (i := 11) (d := some 62) (by kernel_rfl) (by kernel_rfl) (by kernel_rfl) (by kernel_rfl) (fun _ _ _ _ h => h) (by kernel_rfl) (HS9.out _ (Below.refl _ _).drew) ?_
          try simp only [Act.put, List.setIfInBounds_toArray, List.set_cons_zero, List.set_cons_succ]
          refine wpAnyH_pass (i := 12) (d := some 63) (by kernel_rfl) (by kernel_rfl) (by kernel_rfl) (by kernel_rfl) (fun _ _ _ _ h => h) (by kernel_rfl) (HS9.out _ (Below.refl _ _).drew) ?_
          try simp only [Act.put, List.setIfInBounds_toArray, List.set_cons_zero, List.set_cons_succ]
          refine wpAnyH_pass (i := 13) (d := some 64) (by kernel_rfl) (by kernel_rfl) (by kernel_rfl) (by kernel_rfl) (fun _ _ _ _ h => h) (by kernel_rfl) (HS9.out _ (Below.refl _ _).drew) ?_
          try simp only [Act.put, List.setIfInBounds_toArray, List.set_cons_zero, List.set_cons_succ]
          refine wpAnyH_pass (i := 14) (d := some 65) (by kernel_rfl) (by kernel_rfl) (by kernel_rfl) (by kernel_rfl) (fun _ _ _ _ h => h) (by kernel_rfl) (HS9.out _ (Below.refl _ _).drew) ?_
          try simp only [Act.put, List.setIfInBounds_toArray, List.set_cons_zero, List.set_cons_succ]
          refine wpAnyH_pass (i := 15) (d := some 66) (by kernel_rfl) (by kernel_rfl) (by kernel_rfl) (by kernel_rfl) (fun _ _ _ _ h => h) (by kernel_rfl) (HS9.out _ (Below.refl _ _).drew) ?_
          try simp only [Act.put, List.setIfInBounds_toArray, List.set_cons_zero, List.set_cons_succ]
          refine wpAnyH_pass (i := 16) (d := some 67) (by kernel_rfl) (by kernel_rfl) (by kernel_rfl) (by kernel_rfl) (fun _ _ _ _ h => h) (by kernel_rfl) (HS9.out _ (Below.refl _ _).drew) ?_
          try simp only [Act.put, List.setIfInBounds_toArray, List.set_cons_zero, List.set_cons_succ]
          refine wpAnyH_pass (i := 17) (d := some 68) (by kernel_rfl) (by kernel_rfl) (by kernel_rfl) (by kernel_rfl) (fun _ _ _ _ h => h) (by kernel_rfl) (HS9.out _ (Below.refl _ _).drew) ?_
          try simp only [Act.put, List.setIfInBounds_toArray, List.set_cons_zero, List.set_cons_succ]
          refine wpAnyH_pass (i := 18) (d := some 69) (by kernel_rfl) (by kernel_rfl) (by kernel_rfl) (by kernel_rfl) (fun _ _ _ _ h => h) (by kernel_rfl) (HS9.out _ (Below.refl _ _).drew) ?_
          try simp only [Act.put, List.setIfInBounds_toArray, List.set_cons_zero, List.set_cons_succ]
          refine wpAnyH_pass (i := 19) (d := some 70) (by kernel_rfl) (by kernel_rfl) (by kernel_rfl) (by kernel_rfl) (fun _ _ _ _ h => h) (by kernel_rfl) (HS9.out _ (Below.refl _ _).drew) ?_
          try simp only [Act.put, List.setIfInBounds_toArray, List.set_cons_zero, List.set_cons_succ]
          refine wpAnyH_pass (i := 20) (d := some 71) (by kernel_rfl) (by kernel_rfl) (by kernel_rfl) (by kernel_rfl) (fun _ _ _ _ h => h) (by kernel_rfl) (HS9.out _ (Below.refl _ _).drew) ?_
          try simp only [Act.put, List.setIfInBounds_toArray, List.set_cons_zero, List.set_cons_succ]
          refine wpAnyH_pass (i := 21) (d := some 72) (by kernel_rfl) (by kernel_rfl) (by kernel_rfl) (by kernel_rfl) (fun _ _ _ _ h => h) (by kernel_rfl) (HS9.out _ (Below.refl _ _).drew) ?_
          try simp only [Act.put, List.setIfInBounds_toArray, List.set_cons_zero, List.set_cons_succ]
          refine wpAnyH_take (i := 22) (v := ?_) rfl (by kernel_rfl) (by kernel_rfl) (by kernel_rfl) (fun _ _ _ h => h) (Or.inl ⟨by rfl, ?_⟩) (HS9.out _ (Below.refl _ _).drew) ?_
          rotate_left
          · (intro w hSw; (try dsimp only at hSw); go_simp; with_reducible rfl)
          try simp only [Act.put, List.setIfInBounds_toArray, List.set_cons_zero, List.set_cons_succ]
          refine wpAnyH_take (i := 23) (v := ?_) rfl (by kernel_rfl) (by kernel_rfl) (by kernel_rfl) (fun _ _ _ h => h) (Or.inl ⟨by rfl, ?_⟩) (HS9.out _ (Below.refl _ _).drew) ?_
          rotate_left
          · (intro w hSw; (try dsimp only at hSw); go_simp; with_reducible rfl)
          try simp only [Act.put, List.setIfInBounds_toArray, List.set_cons_zero, List.set_cons_succ]
          refine wpAnyH_pass (i := 24) (d := some 75) (by kernel_rfl) (by kernel_rfl) (by kernel_rfl) (by kernel_rfl) (fun _ _ _ _ h => h) (by kernel_rfl) (HS9.out _ (Below.refl _ _).drew) ?_
          try simp only [Act.put, List.setIfInBounds_toArray, List.set_cons_zero, List.set_cons_succ]
          refine wpAnyH_pass (i := 25) (d := some 76) (by kernel_rfl) (by kernel_rfl) (by kernel_rfl) (by kernel_rfl) (fun _ _ _ _ h => h) (by kernel_rfl) (HS9.out _ (Below.refl _ _).drew) ?_
          try simp only [Act.put, List.setIfInBounds_toArray, List.set_cons_zero, List.set_cons_succ]
          refine wpAnyH_pass (i := 26) (d := some 77) (by kernel_rfl) (by kernel_rfl) (by kernel_rfl) (by kernel_rfl) (fun _ _ _ _ h => h) (by kernel_rfl) (HS9.out _ (Below.refl _ _).drew) ?_
          try simp only [Act.put, List.setIfInBounds_toArray, List.set_cons_zero, List.set_cons_succ]
          refine wpAnyH_pass (i := 27) (d := some 78) (by kernel_rfl) (by kernel_rfl) (by kernel_rfl) (by kernel_rfl) (fun _ _ _ _ h => h) (by kernel_rfl) (HS9.out _ (Below.refl _ _).drew) ?_
          try simp only [Act.put, List.setIfInBounds_toArray, List.set_cons_zero, List.set_cons_succ]
          refine wpAnyH_pass (i := 28) (d := some 79) (by kernel_rfl) (by kernel_rfl) (by kernel_rfl) (by kernel_rfl) (fun _ _ _ _ h => h) (by kernel_rfl) (HS9.out _ (Below.refl _ _).drew) ?_
          try simp only [Act.put, List.setIfInBounds_toArray, List.set_cons_zero, List.set_cons_succ]
          refine wpAnyH_pass (i := 29) (d := some 80) (by kernel_rfl) (by kernel_rfl) (by kernel_rfl) (by kernel_rfl) (fun _ _ _ _ h => h) (by kernel_rfl) (HS9.out _ (Below.refl _ _).drew) ?_
          try simp only [Act.put, List.setIfInBounds_toArray, List.set_cons_zero, List.set_cons_succ]
          refine wpAnyH_pass (i := 30) (d := some 81) (by kernel_rfl) (by kernel_rfl) (by kernel_rfl) (by kernel_rfl) (fun _ _ _ _ h => h) (by kernel_rfl) (HS9.out _ (Below.refl _ _).drew) ?_
          try simp only [Act.put, List.setIfInBounds_toArray, List.set_cons_zero, List.set_cons_succ]
          refine wpAnyH_pass (i := 31) (d := some 82) (by kernel_rfl) (by kernel_rfl) (by kernel_rfl) (by kernel_rfl) (fun _ _ _ _ h => h) (by kernel_rfl) (HS9.out _ (Below.refl _ _).drew) ?_
          try simp only [Act.put, List.setIfInBounds_toArray, List.set_cons_zero, List.set_cons_succ]
          refine wpAnyH_take (i := 32) (v := ?_) rfl (by kernel_rfl) (by kernel_rfl) (by kernel_rfl) (fun _ _ _ h => h) (Or.inl ⟨by rfl, ?_⟩) (HS9.out _ (Below.refl _ _).drew) ?_
          rotate_left
          · (intro w hSw; (try dsimp only at hSw); go_simp; with_reducible rfl)
          try simp only [Act.put, List.setIfInBounds_toArray, List.set_cons_zero, List.set_cons_succ]
          refine wpAnyH_take (i := 33) (v := ?_) rfl (by kernel_rfl) (by kernel_rfl) (by kernel_rfl) (fun _ _ _ h => h) (Or.inl ⟨by rfl, ?_⟩) (HS9.out _ (Below.refl _ _).drew) ?_
          rotate_left
          · (intro w hSw; (try dsimp only at hSw); go_simp; with_reducible rfl)
          try simp only [Act.put, List.setIfInBounds_toArray, List.set_cons_zero, List.set_cons_succ]
          refine wpAnyH_pass (i := 34) (d := some 85) (by kernel_rfl) (by kernel_rfl) (by kernel_rfl) (by kernel_rfl) (fun _ _ _ _ h => h) (by kernel_rfl) (HS9.out _ (Below.refl _ _).drew) ?_
          try simp only [Act.put, List.setIfInBounds_toArray, List.set_cons_zero, List.set_cons_succ]
          refine wpAnyH_pass (i := 35) (d := some 86) (by kernel_rfl) (by kernel_rfl) (by kernel_rfl) (by kernel_rfl) (fun _ _ _ _ h => h) (by kernel_rfl) (HS9.out _ (Below.refl _ _).drew) ?_
          try simp only [Act.put, List.setIfInBounds_toArray, List.set_cons_zero, List.set_cons_succ]
          refine wpAnyH_pass (i := 36) (d := some 87) (by kernel_rfl) (by kernel_rfl) (by kernel_rfl) (by kernel_rfl) (fun _ _ _ _ h => h) (by kernel_rfl) (HS9.out _ (Below.refl _ _).drew) ?_
          try simp only [Act.put, List.setIfInBounds_toArray, List.set_cons_zero, List.set_cons_succ]
          refine wpAnyH_pass (i := 37) (d := some 88) (by kernel_rfl) (by kernel_rfl) (by kernel_rfl) (by kernel_rfl) (fun _ _ _ _ h => h) (by kernel_rfl) (HS9.out _ (Below.refl _ _).drew) ?_
          try simp only [Act.put, List.setIfInBounds_toArray, List.set_cons_zero, List.set_cons_succ]
          refine wpAnyH_pass (i := 38) (d := some 89) (by kernel_rfl) (by kernel_rfl) (by kernel_rfl) (by kernel_rfl) (fun _ _ _ _ h => h) (by kernel_rfl) (HS9.out _ (Below.refl _ _).drew) ?_
          try simp only [Act.put, List.setIfInBounds_toArray, List.set_cons_zero, List.set_cons_succ]
          refine wpAnyH_ready (rs := [39]) (by kernel_rfl) (by simp) ?_
          refine AllReadyH.cons rfl (fun K hK => ?_) AllReadyH.nil
          go_simp
          refine hK.out _ _ (HS9.out _ (Below.refl _ _).drew) (fun hHx => ?_)
          clear hHx hK K
          try simp only [Act.put, List.setIfInBounds_toArray, List.set_cons_zero, List.set_cons_succ]
          refine wpAnyH_done (by kernel_rfl) ?_ _
          go_wp2
          go_ret
          exact ⟨ret_bool (by rw [HR2.out, HS2.out]; rfl), HB2.out.trans (E5.out.drew.mono hw2)⟩
        have hq1 : ((T.length : Int) != (q : Int)) = false := by simp only [bne_eq_false_iff_eq]; omega
        have hlen2 : T.length ≤ 1000 := by omega
        rw [decide_eq_true hlen, Bool.true_and, hac, Bool.true_and] at HTD1
        have GEt := GE T hlen2
        have GTt := GT T hlen2
        clear hlen hac
        generalize headTo N ch (k1, k2) T T.length = HD at *
        cases hend : (HD == roundsL N)
        · have hne : (HD != roundsL N) = true := by simp [bne, hend]
          have HS2 := hid (hbad.out (by rw [HTD1.out, hend]; simp))
          clear hstep hbad
          go_wp2_with fail
          refine wp_region_held_drew (S := fun w' => (w'.cell? ⟨w.heap.size, 0, none⟩ = some (.string (bs nm)) ∧ w'.cell? ⟨w.heap.size, 1, none⟩ = some (.int .i64 (N : Int)) ∧ w'.cell? ⟨w.heap.size, 2, none⟩ = some (.slice A n c) ∧ w'.cell? ⟨w.heap.size + 1, 0, none⟩ = some (.string (bs k1)) ∧ w'.cell? ⟨w.heap.size + 1, 1, none⟩ = some (.string (bs k2)) ∧ w'.cell? ⟨w.heap.size + 1 + 1, 0, none⟩ = some (.slice (some ⟨bt, ot, none⟩) tn tc) ∧ w'.cell? ⟨w.heap.size + 1 + 1, 1, none⟩ = some (.slice CA cn cc) ∧ w'.cell? ⟨w.heap.size + 1 + 1, 2, none⟩ = some (.bool true)) ∧ w'.cell? ⟨bt, ot + l, none⟩ = some (.string (bs T))) (by kernel_rfl) (HS9.out _ (Below.refl _ _).drew) (fun hHeld => ?_)
          refine wpAnyH_take (i := 0) (v := ?_) rfl (by kernel_rfl) (by kernel_rfl) (by kernel_rfl) (fun _ _ _ h => h) (Or.inl ⟨by rfl, ?_⟩) (by assumption) ?_
          rotate_left
          · (intro w hSw; (try dsimp only at hSw); go_simp; with_reducible rfl)
          try simp only [Act.put, List.setIfInBounds_toArray, List.set_cons_zero, List.set_cons_succ]
          refine wpAnyH_ready (rs := [1]) (by kernel_rfl) (by simp) ?_
          refine AllReadyH.cons rfl (fun K hK => ?_) AllReadyH.nil
          go_simp
          go_at_call 45
          refine ((GG.out _)).mono ?_
          rintro e w' ⟨rfl, rfl⟩
          go_wp2_with fail
          refine hK.out _ _ (HS9.out _ (Below.refl _ _).drew) (fun hHx => ?_)
          clear hHx hK K hHeld
          try simp only [Act.put, List.setIfInBounds_toArray, List.set_cons_zero, List.set_cons_succ]
          refine wpAnyH_take (i := 2) (v := ?_) rfl (by kernel_rfl) (by kernel_rfl) (by kernel_rfl) (fun _ _ _ h => h) (Or.inl ⟨by rfl, ?_⟩) (HS9.out _ (Below.refl _ _).drew) ?_
          rotate_left
          · (intro w hSw; (try dsimp only at hSw); go_simp; with_reducible rfl)
          try simp only [Act.put, List.setIfInBounds_toArray, List.set_cons_zero, List.set_cons_succ]
          refine wpAnyH_take (i := 3) (v := ?_) rfl (by kernel_rfl) (by kernel_rfl) (by kernel_rfl) (fun _ _ _ h => h) (Or.inl ⟨by rfl, ?_⟩) (HS9.out _ (Below.refl _ _).drew) ?_
          rotate_left
          · (intro w hSw; (try dsimp only at hSw); go_simp; with_reducible rfl)
          try simp only [Act.put, List.setIfInBounds_toArray, List.set_cons_zero, List.set_cons_succ]
          refine wpAnyH_take (i := 4) (v := ?_) rfl (by kernel_rfl) (by kernel_rfl) (by kernel_rfl) (fun _ _ _ h => h) (Or.inl ⟨by kernel_rfl, ?_⟩) (HS9.out _ (Below.refl _ _).drew) ?_
          rotate_left
          · (intro w hSw; (try dsimp only at hSw); go_simp; with_reducible rfl)
          try simp only [Act.put, List.setIfInBounds_toArray, List.set_cons_zero, List.set_cons_succ]
          refine wpAnyH_take (i := 5) (v := ?_) rfl (by kernel_rfl) (by kernel_rfl) (by kernel_rfl) (fun _ _ _ h => h) (Or.inl ⟨by kernel_rfl, ?_⟩) (HS9.out _ (Below.refl _ _).drew) ?_
          rotate_left
          · (intro w hSw; (try dsimp only at hSw); go_simp; with_reducible rfl)
          try simp only [Act.put, List.setIfInBounds_toArray, List.set_cons_zero, List.set_cons_succ]
          refine wpAnyH_take (i := 6) (v := ?_) rfl (by kernel_rfl) (by kernel_rfl) (by kernel_rfl) (fun _ _ _ h => h) (Or.inl ⟨by kernel_rfl, ?_⟩) (HS9.out _ (Below.refl _ _).drew) ?_
          rotate_left
          · (intro w hSw; (try dsimp only at hSw); go_simp; with_reducible rfl)
          try simp only [Act.put, List.setIfInBounds_toArray, List.set_cons_zero, List.set_cons_succ]
          refine wpAnyH_take (i := 7) (v := ?_) rfl (by kernel_rfl) (by kernel_rfl) (by kernel_rfl) (fun _ _ _ h => h) (Or.inl ⟨by kernel_rfl, ?_⟩) (HS9.out _ (Below.refl _ _).drew) ?_
          rotate_left
          · (intro w hSw; (try dsimp only at hSw); go_simp; with_reducible rfl)
          try simp only [Act.put, List.setIfInBounds_toArray, List.set_cons_zero, List.set_cons_succ]
          refine wpAnyH_take (i := 8) (v := ?_) rfl (by kernel_rfl) (by kernel_rfl) (by kernel_rfl) (fun _ _ _ h => h) (Or.inl ⟨by rfl, ?_⟩) (HS9.out _ (Below.refl _ _).drew) ?_
          rotate_left
          · (intro w hSw; (try dsimp only at hSw); go_simp; with_reducible rfl)
          try simp only [Act.put, List.setIfInBounds_toArray, List.set_cons_zero, List.set_cons_succ]
          refine wpAnyH_take (i := 9) (v := ?_) rfl (by kernel_rfl) (by kernel_rfl) (by kernel_rfl) (fun _ _ _ h => h) (Or.inl ⟨by rfl, ?_⟩) (HS9.out _ (Below.refl _ _).drew) ?_
          rotate_left
          · (intro w hSw; (try dsimp only at hSw); go_simp; with_reducible rfl)
          try simp only [Act.put, List.setIfInBounds_toArray, List.set_cons_zero, List.set_cons_succ]
          refine wpAnyH_take (i := 10) (v := ?_) rfl (by kernel_rfl) (by kernel_rfl) (by kernel_rfl) (fun _ _ _ h => h) (Or.inl ⟨by kernel_rfl, ?_⟩) (HS9.out _ (Below.refl _ _).drew) ?_
          rotate_left
          · (intro w hSw; (try dsimp only at hSw); go_simp; with_reducible rfl)
          try simp only [Act.put, List.setIfInBounds_toArray, List.set_cons_zero, List.set_cons_succ]
          refine wpAnyH_take (i := 11) (v := ?_) rfl (by kernel_rfl) (by kernel_rfl) (by kernel_rfl) (fun _ _ _ h => h) (Or.inl ⟨by kernel_rfl, ?_⟩) (HS9.out _ (Below.refl _ _).drew) ?_
          rotate_left
          · (intro w hSw; (try dsimp only at hSw); go_simp; with_reducible rfl)
          try simp only [Act.put, List.setIfInBounds_toArray, List.set_cons_zero, List.set_cons_succ]
          refine wpAnyH_take (i := 12) (v := ?_) rfl (by kernel_rfl) (by kernel_rfl) (by kernel_rfl) (fun _ _ _ h => h) (Or.inl ⟨by kernel_rfl, ?_⟩) (HS9.out _ (Below.refl _ _).drew) ?_
          rotate_left
          · (intro w hSw; (try dsimp only at hSw); go_simp; with_reducible rfl)
          try simp only [Act.put, List.setIfInBounds_toArray, List.set_cons_zero, List.set_cons_succ]
          refine wpAnyH_pass (i := 13) (d := some 64) (by kernel_rfl) (by kernel_rfl) (by kernel_rfl) (by kernel_rfl) (fun _ _ _ _ h => h) (by kernel_rfl) (HS9.out _ (Below.refl _ _).drew) ?_
          try simp only [Act.put, List.setIfInBounds_toArray, List.set_cons_zero, List.set_cons_succ]
          refine wpAnyH_pass (i := 14) (d := some 65) (by kernel_rfl) (by kernel_rfl) (by kernel_rfl) (by kernel_rfl) (fun _ _ _ _ h => h) (by kernel_rfl) (HS9.out _ (Below.refl _ _).drew) ?_
          try simp only [Act.put, List.setIfInBounds_toArray, List.set_cons_zero, List.set_cons_succ]
          refine wpAnyH_pass (i := 15) (d := some 66) (by kernel_rfl) (by kernel_rfl) (by kernel_rfl) (by kernel_rfl) (fun _ _ _ _ h => h) (by kernel_rfl) (HS9.out _ (Below.refl _ _).drew) ?_
          try simp only [Act.put, List.setIfInBounds_toArray, List.set_cons_zero, List.set_cons_succ]
          refine wpAnyH_pass (i := 16) (d := some 67) (by kernel_rfl) (by kernel_rfl) (by kernel_rfl) (by kernel_rfl) (fun _ _ _ _ h => h) (by kernel_rfl) (HS9.out _ (Below.refl _ _).drew) ?_
          try simp only [Act.put, List.setIfInBounds_toArray, List.set_cons_zero, List.set_cons_succ]
          refine wpAnyH_pass (i := 17) (d := some 68) (by kernel_rfl) (by kernel_rfl) (by kernel_rfl) (by kernel_rfl) (fun _ _ _ _ h => h) (by kernel_rfl) (HS9.out _ (Below.refl _ _).drew) ?_
          try simp only [Act.put, List.setIfInBounds_toArray, List.set_cons_zero, List.set_cons_succ]
          refine wpAnyH_pass (i := 18) (d := some 69) (by kernel_rfl) (by kernel_rfl) (by kernel_rfl) (by kernel_rfl) (fun _ _ _ _ h => h) (by kernel_rfl) (HS9.out _ (Below.refl _ _).drew) ?_
          try simp only [Act.put, List.setIfInBounds_toArray, List.set_cons_zero, List.set_cons_succ]
          refine wpAnyH_pass (i := 19) (d := some 70) (by kernel_rfl) (by kernel_rfl) (by kernel_rfl) (by kernel_rfl) (fun _ _ _ _ h => h) (by kernel_rfl) (HS9.out _ (Below.refl _ _).drew) ?_
          try simp only [Act.put, List.setIfInBounds_toArray, List.set_cons_zero, List.set_cons_succ]
          refine wpAnyH_pass (i := 20) (d := some 71) (by kernel_rfl) (by kernel_rfl) (by kernel_rfl) (by kernel_rfl) (fun _ _ _ _ h => h) (by kernel_rfl) (HS9.out _ (Below.refl _ _).drew) ?_
          try simp only [Act.put, List.setIfInBounds_toArray, List.set_cons_zero, List.set_cons_succ]
          refine wpAnyH_take (i := 21) (v := ?_) rfl (by kernel_rfl) (by kernel_rfl) (by kernel_rfl) (fun _ _ _ h => h) (Or.inl ⟨by kernel_rfl, ?_⟩) (HS9.out _ (Below.refl _ _).drew) ?_
          rotate_left
          · (intro w hSw; (try dsimp only at hSw); go_simp; with_reducible rfl)
          try simp only [Act.put, List.setIfInBounds_toArray, List.set_cons_zero, List.set_cons_succ]
          refine wpAnyH_take (i := 22) (v := ?_) rfl (by kernel_rfl) (by kernel_rfl) (by kernel_rfl) (fun _ _ _ h => h) (Or.inl ⟨by rfl, ?_⟩) (HS9.out _ (Below.refl _ _).drew) ?_
          rotate_left
          · (intro w hSw; (try dsimp only at hSw); go_simp; with_reducible rfl)
          try simp only [Act.put, List.setIfInBounds_toArray, List.set_cons_zero, List.set_cons_succ]
          refine wpAnyH_take (i := 23) (v := ?_) rfl (by kernel_rfl) (by kernel_rfl) (by kernel_rfl) (fun _ _ _ h => h) (Or.inl ⟨by rfl, ?_⟩) (HS9.out _ (Below.refl _ _).drew) ?_
          rotate_left
          · (intro w hSw; (try dsimp only at hSw); go_simp; with_reducible rfl)
          try simp only [Act.put, List.setIfInBounds_toArray, List.set_cons_zero, List.set_cons_succ]
          refine wpAnyH_take (i := 24) (v := ?_) rfl (by kernel_rfl) (by kernel_rfl) (by kernel_rfl) (fun _ _ _ h => h) (Or.inl ⟨by kernel_rfl, ?_⟩) (HS9.out _ (Below.refl _ _).drew) ?_
          rotate_left
          · (intro w hSw; (try dsimp only at hSw); go_simp; with_reducible rfl)
          try simp only [Act.put, List.setIfInBounds_toArray, List.set_cons_zero, List.set_cons_succ]
          refine wpAnyH_take (i := 25) (v := ?_) rfl (by kernel_rfl) (by kernel_rfl) (by kernel_rfl) (fun _ _ _ h => h) (Or.inl ⟨by kernel_rfl, ?_⟩) (HS9.out _ (Below.refl _ _).drew) ?_
          rotate_left
          · (intro w hSw; (try dsimp only at hSw); go_simp; with_reducible rfl)
          try simp only [Act.put, List.setIfInBounds_toArray, List.set_cons_zero, List.set_cons_succ]
          refine wpAnyH_take (i := 26) (v := ?_) rfl (by kernel_rfl) (by kernel_rfl) (by kernel_rfl) (fun _ _ _ h => h) (Or.inl ⟨by kernel_rfl, ?_⟩) (HS9.out _ (Below.refl _ _).drew) ?_
          rotate_left
          · (intro w hSw; (try dsimp only at hSw); go_simp; with_reducible rfl)
          try simp only [Act.put, List.setIfInBounds_toArray, List.set_cons_zero, List.set_cons_succ]
          refine wpAnyH_take (i := 28) (v := ?_) rfl (by kernel_rfl) (by kernel_rfl) (by kernel_rfl) (fun _ _ _ h => h) (Or.inl ⟨by kernel_rfl, ?_⟩) (HS9.out _ (Below.refl _ _).drew) ?_
          rotate_left
          · (intro w hSw; (try dsimp only at hSw); go_simp; with_reducible rfl)
          try simp only [Act.put, List.setIfInBounds_toArray, List.set_cons_zero, List.set_cons_succ]
          refine wpAnyH_take (i := 29) (v := ?_) rfl (by kernel_rfl) (by kernel_rfl) (by kernel_rfl) (fun _ _ _ h => h) (Or.inl ⟨by kernel_rfl, ?_⟩) (HS9.out _ (Below.refl _ _).drew) ?_
          rotate_left
          · (intro w hSw; (try dsimp only at hSw); go_simp; with_reducible rfl)
          try simp only [Act.put, List.setIfInBounds_toArray, List.set_cons_zero, List.set_cons_succ]
          refine wpAnyH_ready (rs := [27]) (by kernel_rfl) (by simp) ?_
          refine AllReadyH.cons rfl (fun K hK => ?_) AllReadyH.nil
          go_simp
          go_at_call 46
          refine ((GEt _ (R2.out.below (E5.out.trans ((Below.refl wr.heap.size wr).drew.mono E5.out.size)))).out).mono ?_
          rintro e wa ⟨rfl, ba⟩
          have Fa := (Below.refl wr.heap.size wr).drew.trans (ba.mono (Nat.le_refl _))
          go_wp2_with fail
          refine hK.out _ _ (HS9.out _ Fa) (fun hHx => ?_)
          clear hHx hK K
          try simp only [Act.put, List.setIfInBounds_toArray, List.set_cons_zero, List.set_cons_succ]
          refine wpAnyH_ready (rs := [30]) (by kernel_rfl) (by simp) ?_
          refine AllReadyH.cons rfl (fun K hK => ?_) AllReadyH.nil
          go_simp
          go_at_call 47
          refine ((GR _).out).mono ?_
          rintro e w' ⟨rfl, rfl⟩
          go_wp2_with fail
          refine hK.out _ _ (HS9.out _ Fa) (fun hHx => ?_)
          clear hHx hK K
          try simp only [Act.put, List.setIfInBounds_toArray, List.set_cons_zero, List.set_cons_succ]
          refine wpAnyH_take (i := 31) (v := ?_) rfl (by kernel_rfl) (by kernel_rfl) (by kernel_rfl) (fun _ _ _ h => h) (Or.inl ⟨by kernel_rfl, ?_⟩) (HS9.out _ Fa) ?_
          rotate_left
          · (intro w hSw; (try dsimp only at hSw); go_simp; with_reducible rfl)
          try simp only [Act.put, List.setIfInBounds_toArray, List.set_cons_zero, List.set_cons_succ]
          refine wpAnyH_take (i := 32) (v := ?_) rfl (by kernel_rfl) (by kernel_rfl) (by kernel_rfl) (fun _ _ _ h => h) (Or.inl ⟨by rfl, ?_⟩) (HS9.out _ Fa) ?_
          rotate_left
          · (intro w hSw; (try dsimp only at hSw); go_simp; with_reducible rfl)
          try simp only [Act.put, List.setIfInBounds_toArray, List.set_cons_zero, List.set_cons_succ]
          refine wpAnyH_take (i := 33) (v := ?_) rfl (by kernel_rfl) (by kernel_rfl) (by kernel_rfl) (fun _ _ _ h => h) (Or.inl ⟨by rfl, ?_⟩) (HS9.out _ Fa) ?_
          rotate_left
          · (intro w hSw; (try dsimp only at hSw); go_simp; with_reducible rfl)
          try simp only [Act.put, List.setIfInBounds_toArray, List.set_cons_zero, List.set_cons_succ]
          refine wpAnyH_pass (i := 34) (d := some 85) (by kernel_rfl) (by kernel_rfl) (by kernel_rfl) (by kernel_rfl) (fun _ _ _ _ h => h) (by kernel_rfl) (HS9.out _ Fa) ?_
          try simp only [Act.put, List.setIfInBounds_toArray, List.set_cons_zero, List.set_cons_succ]
          refine wpAnyH_pass (i := 35) (d := some 86) (by kernel_rfl) (by kernel_rfl) (by kernel_rfl) (by kernel_rfl) (fun _ _ _ _ h => h) (by kernel_rfl) (HS9.out _ Fa) ?_
          try simp only [Act.put, List.setIfInBounds_toArray, List.set_cons_zero, List.set_cons_succ]
          refine wpAnyH_pass (i := 36) (d := some 87) (by kernel_rfl) (by kernel_rfl) (by kernel_rfl) (by kernel_rfl) (fun _ _ _ _ h => h) (by kernel_rfl) (HS9.out _ Fa) ?_
          try simp only [Act.put, List.setIfInBounds_toArray, List.set_cons_zero, List.set_cons_succ]
          refine wpAnyH_pass (i := 37) (d := some 88) (by kernel_rfl) (by kernel_rfl) (by kernel_rfl) (by kernel_rfl) (fun _ _ _ _ h => h) (by kernel_rfl) (HS9.out _ Fa) ?_
          try simp only [Act.put, List.setIfInBounds_toArray, List.set_cons_zero, List.set_cons_succ]
          refine wpAnyH_pass (i := 38) (d := some 89) (by kernel_rfl) (by kernel_rfl) (by kernel_rfl) (by kernel_rfl) (fun _ _ _ _ h => h) (by kernel_rfl) (HS9.out _ Fa) ?_
          try simp only [Act.put, List.setIfInBounds_toArray, List.set_cons_zero, List.set_cons_succ]
          refine wpAnyH_ready (rs := [39]) (by kernel_rfl) (by simp) ?_
          refine AllReadyH.cons rfl (fun K hK => ?_) AllReadyH.nil
          go_simp
          refine hK.out _ _ (HS9.out _ Fa) (fun hHx => ?_)
          clear hHx hK K
          try simp only [Act.put, List.setIfInBounds_toArray, List.set_cons_zero, List.set_cons_succ]
          refine wpAnyH_done (by kernel_rfl) ?_ _
          have HFa := hid Fa
          clear ba Fa
          go_wp2
          go_ret
          exact ⟨ret_bool (by rw [HR2.out, HS2.out]; rfl), HB2.out.trans ((E5.out.trans (HFa.out.mono E5.out.size)).mono hw2)⟩
        have hne : (HD != roundsL N) = false := by simp [bne, hend]
        rw [hend, Bool.true_and] at HTD1
        generalize (tr && decide (clashN N ch (k1, k2) T = 0)) = B1 at *
        cases B1
        · have HS2 := hid (hbad.out (by rw [HTD1.out]; try simp))
          clear hstep hbad
          go_wp2_with fail
          refine wp_region_held_drew (S := fun w' => (w'.cell? ⟨w.heap.size, 0, none⟩ = some (.string (bs nm)) ∧ w'.cell? ⟨w.heap.size, 1, none⟩ = some (.int .i64 (N : Int)) ∧ w'.cell? ⟨w.heap.size, 2, none⟩ = some (.slice A n c) ∧ w'.cell? ⟨w.heap.size + 1, 0, none⟩ = some (.string (bs k1)) ∧ w'.cell? ⟨w.heap.size + 1, 1, none⟩ = some (.string (bs k2)) ∧ w'.cell? ⟨w.heap.size + 1 + 1, 0, none⟩ = some (.slice (some ⟨bt, ot, none⟩) tn tc) ∧ w'.cell? ⟨w.heap.size + 1 + 1, 1, none⟩ = some (.slice CA cn cc) ∧ w'.cell? ⟨w.heap.size + 1 + 1, 2, none⟩ = some (.bool true)) ∧ w'.cell? ⟨bt, ot + l, none⟩ = some (.string (bs T))) (by kernel_rfl) (HS9.out _ (Below.refl _ _).drew) (fun hHeld => ?_)
          refine wpAnyH_take (i := 0) (v := ?_) rfl (by kernel_rfl) (by kernel_rfl) (by kernel_rfl) (fun _ _ _ h => h) (Or.inl ⟨by rfl, ?_⟩) (by assumption) ?_
          rotate_left
          · (intro w hSw; (try dsimp only at hSw); go_simp; with_reducible rfl)
          try simp only [Act.put, List.setIfInBounds_toArray, List.set_cons_zero, List.set_cons_succ]
          refine wpAnyH_ready (rs := [1]) (by kernel_rfl) (by simp) ?_
          refine AllReadyH.cons rfl (fun K hK => ?_) AllReadyH.nil
          go_simp
          go_at_call 45
          refine ((GG.out _)).mono ?_
          rintro e w' ⟨rfl, rfl⟩
          go_wp2_with fail
          refine hK.out _ _ (HS9.out _ (Below.refl _ _).drew) (fun hHx => ?_)
          clear hHx hK K hHeld
          try simp only [Act.put, List.setIfInBounds_toArray, List.set_cons_zero, List.set_cons_succ]
          refine wpAnyH_take (i := 2) (v := ?_) rfl (by kernel_rfl) (by kernel_rfl) (by kernel_rfl) (fun _ _ _ h => h) (Or.inl ⟨by rfl, ?_⟩) (HS9.out _ (Below.refl _ _).drew) ?_
          rotate_left
          · (intro w hSw; (try dsimp only at hSw); go_simp; with_reducible rfl)
          try simp only [Act.put, List.setIfInBounds_toArray, List.set_cons_zero, List.set_cons_succ]
          refine wpAnyH_take (i := 3) (v := ?_) rfl (by kernel_rfl) (by kernel_rfl) (by kernel_rfl) (fun _ _ _ h => h) (Or.inl ⟨by rfl, ?_⟩) (HS9.out _ (Below.refl _ _).drew) ?_
          rotate_left
          · (intro w hSw; (try dsimp only at hSw); go_simp; with_reducible rfl)
          try simp only [Act.put, List.setIfInBounds_toArray, List.set_cons_zero, List.set_cons_succ]
          refine wpAnyH_take (i := 4) (v := ?_) rfl (by kernel_rfl) (by kernel_rfl) (by kernel_rfl) (fun _ _ _ h => h) (Or.inl ⟨by kernel_rfl, ?_⟩) (HS9.out _ (Below.refl _ _).drew) ?_
          rotate_left
          · (intro w hSw; (try dsimp only at hSw); go_simp; with_reducible rfl)
          try simp only [Act.put, List.setIfInBounds_toArray, List.set_cons_zero, List.set_cons_succ]
          refine wpAnyH_take (i := 5) (v := ?_) rfl (by kernel_rfl) (by kernel_rfl) (by kernel_rfl) (fun _ _ _ h => h) (Or.inl ⟨by kernel_rfl, ?_⟩) (HS9.out _ (Below.refl _ _).drew) ?_
          rotate_left
          · (intro w hSw; (try dsimp only at hSw); go_simp; with_reducible rfl)
          try simp only [Act.put, List.setIfInBounds_toArray, List.set_cons_zero, List.set_cons_succ]
          refine wpAnyH_take (i := 6) (v := ?_) rfl (by kernel_rfl) (by kernel_rfl) (by kernel_rfl) (fun _ _ _ h => h) (Or.inl ⟨by kernel_rfl, ?_⟩) (HS9.out _ (Below.refl _ _).drew) ?_
          rotate_left
          · (intro w hSw; (try dsimp only at hSw); go_simp; with_reducible rfl)
          try simp only [Act.put, List.setIfInBounds_toArray, List.set_cons_zero, List.set_cons_succ]
          refine wpAnyH_take (i := 7) (v := ?_) rfl (by kernel_rfl) (by kernel_rfl) (by kernel_rfl) (fun _ _ _ h => h) (Or.inl ⟨by kernel_rfl, ?_⟩) (HS9.out _ (Below.refl _ _).drew) ?_
          rotate_left
          · (intro w hSw; (try dsimp only at hSw); go_simp; with_reducible rfl)
          try simp only [Act.put, List.setIfInBounds_toArray, List.set_cons_zero, List.set_cons_succ]
          refine wpAnyH_take (i := 8) (v := ?_) rfl (by kernel_rfl) (by kernel_rfl) (by kernel_rfl) (fun _ _ _ h => h) (Or.inl ⟨by rfl, ?_⟩) (HS9.out _ (Below.refl _ _).drew) ?_
          rotate_left
          · (intro w hSw; (try dsimp only at hSw); go_simp; with_reducible rfl)
          try simp only [Act.put, List.setIfInBounds_toArray, List.set_cons_zero, List.set_cons_succ]
          refine wpAnyH_take (i := 9) (v := ?_) rfl (by kernel_rfl) (by kernel_rfl) (by kernel_rfl) (fun _ _ _ h => h) (Or.inl ⟨by rfl, ?_⟩) (HS9.out _ (Below.refl _ _).drew) ?_
          rotate_left
          · (intro w hSw; (try dsimp only at hSw); go_simp; with_reducible rfl)
          try simp only [Act.put, List.setIfInBounds_toArray, List.set_cons_zero, List.set_cons_succ]
          refine wpAnyH_take (i := 10) (v := ?_) rfl (by kernel_rfl) (by kernel_rfl) (by kernel_rfl) (fun _ _ _ h => h) (Or.inl ⟨by kernel_rfl, ?_⟩) (HS9.out _ (Below.refl _ _).drew) ?_
          rotate_left
          · (intro w hSw; (try dsimp only at hSw); go_simp; with_reducible rfl)
          try simp only [Act.put, List.setIfInBounds_toArray, List.set_cons_zero, List.set_cons_succ]
          refine wpAnyH_take (i := 11) (v := ?_) rfl (by kernel_rfl) (by kernel_rfl) (by kernel_rfl) (fun _ _ _ h => h) (Or.inl ⟨by kernel_rfl, ?_⟩) (HS9.out _ (Below.refl _ _).drew) ?_
          rotate_left
          · (intro w hSw; (try dsimp only at hSw); go_simp; with_reducible rfl)
          try simp only [Act.put, List.setIfInBounds_toArray, List.set_cons_zero, List.set_cons_succ]
          refine wpAnyH_take (i := 12) (v := ?_) rfl (by kernel_rfl) (by kernel_rfl) (by kernel_rfl) (fun _ _ _ h => h) (Or.inl ⟨by kernel_rfl, ?_⟩) (HS9.out _ (Below.refl _ _).drew) ?_
          rotate_left
          · (intro w hSw; (try dsimp only at hSw); go_simp; with_reducible rfl)
          try simp only [Act.put, List.setIfInBounds_toArray, List.set_cons_zero, List.set_cons_succ]
          refine wpAnyH_pass (i := 13) (d := some 64) (by kernel_rfl) (by kernel_rfl) (by kernel_rfl) (by kernel_rfl) (fun _ _ _ _ h => h) (by kernel_rfl) (HS9.out _ (Below.refl _ _).drew) ?_
          try simp only [Act.put, List.setIfInBounds_toArray, List.set_cons_zero, List.set_cons_succ]
          refine wpAnyH_pass (i := 14) (d := some 65) (by kernel_rfl) (by kernel_rfl) (by kernel_rfl) (by kernel_rfl) (fun _ _ _ _ h => h) (by kernel_rfl) (HS9.out _ (Below.refl _ _).drew) ?_
          try simp only [Act.put, List.setIfInBounds_toArray, List.set_cons_zero, List.set_cons_succ]
          refine wpAnyH_pass (i := 15) (d := some 66) (by kernel_rfl) (by kernel_rfl) (by kernel_rfl) (by kernel_rfl) (fun _ _ _ _ h => h) (by kernel_rfl) (HS9.out _ (Below.refl _ _).drew) ?_
          try simp only [Act.put, List.setIfInBounds_toArray, List.set_cons_zero, List.set_cons_succ]
          refine wpAnyH_pass (i := 16) (d := some 67) (by kernel_rfl) (by kernel_rfl) (by kernel_rfl) (by kernel_rfl) (fun _ _ _ _ h => h) (by kernel_rfl) (HS9.out _ (Below.refl _ _).drew) ?_
          try simp only [Act.put, List.setIfInBounds_toArray, List.set_cons_zero, List.set_cons_succ]
          refine wpAnyH_pass (i := 17) (d := some 68) (by kernel_rfl) (by kernel_rfl) (by kernel_rfl) (by kernel_rfl) (fun _ _ _ _ h => h) (by kernel_rfl) (HS9.out _ (Below.refl _ _).drew) ?_
          try simp only [Act.put, List.setIfInBounds_toArray, List.set_cons_zero, List.set_cons_succ]
          refine wpAnyH_pass (i := 18) (d := some 69) (by kernel_rfl) (by kernel_rfl) (by kernel_rfl) (by kernel_rfl) (fun _ _ _ _ h => h) (by kernel_rfl) (HS9.out _ (Below.refl _ _).drew) ?_
          try simp only [Act.put, List.setIfInBounds_toArray, List.set_cons_zero, List.set_cons_succ]
          refine wpAnyH_pass (i := 19) (d := some 70) (by kernel_rfl) (by kernel_rfl) (by kernel_rfl) (by kernel_rfl) (fun _ _ _ _ h => h) (by kernel_rfl) (HS9.out _ (Below.refl _ _).drew) ?_
          try simp only [Act.put, List.setIfInBounds_toArray, List.set_cons_zero, List.set_cons_succ]
          refine wpAnyH_pass (i := 20) (d := some 71) (by kernel_rfl) (by kernel_rfl) (by kernel_rfl) (by kernel_rfl) (fun _ _ _ _ h => h) (by kernel_rfl) (HS9.out _ (Below.refl _ _).drew) ?_
          try simp only [Act.put, List.setIfInBounds_toArray, List.set_cons_zero, List.set_cons_succ]
          refine wpAnyH_take (i := 21) (v := ?_) rfl (by kernel_rfl) (by kernel_rfl) (by kernel_rfl) (fun _ _ _ h => h) (Or.inl ⟨by kernel_rfl, ?_⟩) (HS9.out _ (Below.refl _ _).drew) ?_
          rotate_left
          · (intro w hSw; (try dsimp only at hSw); go_simp; with_reducible rfl)
          try simp only [Act.put, List.setIfInBounds_toArray, List.set_cons_zero, List.set_cons_succ]
          refine wpAnyH_take (i := 22) (v := ?_) rfl (by kernel_rfl) (by kernel_rfl) (by kernel_rfl) (fun _ _ _ h => h) (Or.inl ⟨by rfl, ?_⟩) (HS9.out _ (Below.refl _ _).drew) ?_
          rotate_left
          · (intro w hSw; (try dsimp only at hSw); go_simp; with_reducible rfl)
          try simp only [Act.put, List.setIfInBounds_toArray, List.set_cons_zero, List.set_cons_succ]
          refine wpAnyH_take (i := 23) (v := ?_) rfl (by kernel_rfl) (by kernel_rfl) (by kernel_rfl) (fun _ _ _ h => h) (Or.inl ⟨by rfl, ?_⟩) (HS9.out _ (Below.refl _ _).drew) ?_
          rotate_left
          · (intro w hSw; (try dsimp only at hSw); go_simp; with_reducible rfl)
          try simp only [Act.put, List.setIfInBounds_toArray, List.set_cons_zero, List.set_cons_succ]
          refine wpAnyH_take (i := 24) (v := ?_) rfl (by kernel_rfl) (by kernel_rfl) (by kernel_rfl) (fun _ _ _ h => h) (Or.inl ⟨by kernel_rfl, ?_⟩) (HS9.out _ (Below.refl _ _).drew) ?_
          rotate_left
          · (intro w hSw; (try dsimp only at hSw); go_simp; with_reducible rfl)
          try simp only [Act.put, List.setIfInBounds_toArray, List.set_cons_zero, List.set_cons_succ]
          refine wpAnyH_take (i := 25) (v := ?_) rfl (by kernel_rfl) (by kernel_rfl) (by kernel_rfl) (fun _ _ _ h => h) (Or.inl ⟨by kernel_rfl, ?_⟩) (HS9.out _ (Below.refl _ _).drew) ?_
          rotate_left
          · (intro w hSw; (try dsimp only at hSw); go_simp; with_reducible rfl)
          try simp only [Act.put, List.setIfInBounds_toArray, List.set_cons_zero, List.set_cons_succ]
          refine wpAnyH_take (i := 26) (v := ?_) rfl (by kernel_rfl) (by kernel_rfl) (by kernel_rfl) (fun _ _ _ h => h) (Or.inl ⟨by kernel_rfl, ?_⟩) (HS9.out _ (Below.refl _ _).drew) ?_
          rotate_left
          · (intro w hSw; (try dsimp only at hSw); go_simp; with_reducible rfl)
          try simp only [Act.put, List.setIfInBounds_toArray, List.set_cons_zero, List.set_cons_succ]
          refine wpAnyH_take (i := 28) (v := ?_) rfl (by kernel_rfl) (by kernel_rfl) (by kernel_rfl) (fun _ _ _ h => h) (Or.inl ⟨by kernel_rfl, ?_⟩) (HS9.out _ (Below.refl _ _).drew) ?_
          rotate_left
          · (intro w hSw; (try dsimp only at hSw); go_simp; with_reducible rfl)
          try simp only [Act.put, List.setIfInBounds_toArray, List.set_cons_zero, List.set_cons_succ]
          refine wpAnyH_take (i := 29) (v := ?_) rfl (by kernel_rfl) (by kernel_rfl) (by kernel_rfl) (fun _ _ _ h => h) (Or.inl ⟨by kernel_rfl, ?_⟩) (HS9.out _ (Below.refl _ _).drew) ?_
          rotate_left
          · (intro w hSw; (try dsimp only at hSw); go_simp; with_reducible rfl)
          try simp only [Act.put, List.setIfInBounds_toArray, List.set_cons_zero, List.set_cons_succ]
          refine wpAnyH_ready (rs := [27]) (by kernel_rfl) (by simp) ?_
          refine AllReadyH.cons rfl (fun K hK => ?_) AllReadyH.nil
          go_simp
          go_at_call 46
          refine ((GEt _ (R2.out.below (E5.out.trans ((Below.refl wr.heap.size wr).drew.mono E5.out.size)))).out).mono ?_
          rintro e wa ⟨rfl, ba⟩
          have Fa := (Below.refl wr.heap.size wr).drew.trans (ba.mono (Nat.le_refl _))
          go_wp2_with fail
          refine hK.out _ _ (HS9.out _ Fa) (fun hHx => ?_)
          clear hHx hK K
          try simp only [Act.put, List.setIfInBounds_toArray, List.set_cons_zero, List.set_cons_succ]
          refine wpAnyH_ready (rs := [30]) (by kernel_rfl) (by simp) ?_
          refine AllReadyH.cons rfl (fun K hK => ?_) AllReadyH.nil
          go_simp
          go_at_call 47
          refine ((GR _).out).mono ?_
          rintro e w' ⟨rfl, rfl⟩
          go_wp2_with fail
          refine hK.out _ _ (HS9.out _ Fa) (fun hHx => ?_)
          clear hHx hK K
          try simp only [Act.put, List.setIfInBounds_toArray, List.set_cons_zero, List.set_cons_succ]
          refine wpAnyH_take (i := 31) (v := ?_) rfl (by kernel_rfl) (by kernel_rfl) (by kernel_rfl) (fun _ _ _ h => h) (Or.inl ⟨by kernel_rfl, ?_⟩) (HS9.out _ Fa) ?_
          rotate_left
          · (intro w hSw; (try dsimp only at hSw); go_simp; with_reducible rfl)
          try simp only [Act.put, List.setIfInBounds_toArray, List.set_cons_zero, List.set_cons_succ]
          refine wpAnyH_take (i := 32) (v := ?_) rfl (by kernel_rfl) (by kernel_rfl) (by kernel_rfl) (fun _ _ _ h => h) (Or.inl ⟨by rfl, ?_⟩) (HS9.out _ Fa) ?_
          rotate_left
          · (intro w hSw; (try dsimp only at hSw); go_simp; with_reducible rfl)
          try simp only [Act.put, List.setIfInBounds_toArray, List.set_cons_zero, List.set_cons_succ]
          refine wpAnyH_take (i := 33) (v := ?_) rfl (by kernel_rfl) (by kernel_rfl) (by kernel_rfl) (fun _ _ _ h => h) (Or.inl ⟨by rfl, ?_⟩) (HS9.out _ Fa) ?_
          rotate_left
          · (intro w hSw; (try dsimp only at hSw); go_simp; with_reducible rfl)
          try simp only [Act.put, List.setIfInBounds_toArray, List.set_cons_zero, List.set_cons_succ]
          refine wpAnyH_take (i := 34) (v := ?_) rfl (by kernel_rfl) (by kernel_rfl) (by kernel_rfl) (fun _ _ _ h => h) (Or.inl ⟨by kernel_rfl, ?_⟩) (HS9.out _ Fa) ?_
          rotate_left
          · (intro w hSw; (try dsimp only at hSw); go_simp; with_reducible rfl)
          try simp only [Act.put, List.setIfInBounds_toArray, List.set_cons_zero, List.set_cons_succ]
          refine wpAnyH_take (i := 35) (v := ?_) rfl (by kernel_rfl) (by kernel_rfl) (by kernel_rfl) (fun _ _ _ h => h) (Or.inl ⟨by kernel_rfl, ?_⟩) (HS9.out _ Fa) ?_
          rotate_left
          · (intro w hSw; (try dsimp only at hSw); go_simp; with_reducible rfl)
          try simp only [Act.put, List.setIfInBounds_toArray, List.set_cons_zero, List.set_cons_succ]
          refine wpAnyH_take (i := 36) (v := ?_) rfl (by kernel_rfl) (by kernel_rfl) (by kernel_rfl) (fun _ _ _ h => h) (Or.inl ⟨by kernel_rfl, ?_⟩) (HS9.out _ Fa) ?_
          rotate_left
          · (intro w hSw; (try dsimp only at hSw); go_simp; with_reducible rfl)
          try simp only [Act.put, List.setIfInBounds_toArray, List.set_cons_zero, List.set_cons_succ]
          refine wpAnyH_ready (rs := [37]) (by kernel_rfl) (by simp) ?_
          refine AllReadyH.cons rfl (fun K hK => ?_) AllReadyH.nil
          go_simp
          go_at_call 48
          refine ((GTt _ (R2.out.below (E5.out.trans (Fa.mono E5.out.size)))).out).mono ?_
          rintro e wb ⟨rfl, bb⟩
          have Fb := Fa.trans (bb.mono Fa.size)
          go_wp2_with fail
          refine hK.out _ _ (HS9.out _ Fb) (fun hHx => ?_)
          clear hHx hK K
          try simp only [Act.put, List.setIfInBounds_toArray, List.set_cons_zero, List.set_cons_succ]
          refine wpAnyH_take (i := 38) (v := ?_) rfl (by kernel_rfl) (by kernel_rfl) (by kernel_rfl) (fun _ _ _ h => h) (Or.inl ⟨by kernel_rfl, ?_⟩) (HS9.out _ Fb) ?_
          rotate_left
          · (intro w hSw; (try dsimp only at hSw); go_simp; with_reducible rfl)
          try simp only [Act.put, List.setIfInBounds_toArray, List.set_cons_zero, List.set_cons_succ]
          refine wpAnyH_ready (rs := [39]) (by kernel_rfl) (by simp) ?_
          refine AllReadyH.cons rfl (fun K hK => ?_) AllReadyH.nil
          go_simp
          refine hK.out _ _ (HS9.out _ Fb) (fun hHx => ?_)
          clear hHx hK K
          try simp only [Act.put, List.setIfInBounds_toArray, List.set_cons_zero, List.set_cons_succ]
          refine wpAnyH_done (by kernel_rfl) ?_ _
          have HFb := hid Fb
          clear ba bb Fa Fb
          go_wp2
          go_ret
          exact ⟨ret_bool (by rw [HR2.out, HS2.out]; rfl), HB2.out.trans ((E5.out.trans (HFb.out.mono E5.out.size)).mono hw2)⟩
        · have HS2 := hid (hstep.out (by rw [HTD1.out]; try simp))
          clear hstep hbad
          go_wp2_with fail
          refine wp_region_held_drew (S := fun w' => (w'.cell? ⟨w.heap.size, 0, none⟩ = some (.string (bs nm)) ∧ w'.cell? ⟨w.heap.size, 1, none⟩ = some (.int .i64 (N : Int)) ∧ w'.cell? ⟨w.heap.size, 2, none⟩ = some (.slice A n c) ∧ w'.cell? ⟨w.heap.size + 1, 0, none⟩ = some (.string (bs k1)) ∧ w'.cell? ⟨w.heap.size + 1, 1, none⟩ = some (.string (bs k2)) ∧ w'.cell? ⟨w.heap.size + 1 + 1, 0, none⟩ = some (.slice (some ⟨bt, ot, none⟩) tn tc) ∧ w'.cell? ⟨w.heap.size + 1 + 1, 1, none⟩ = some (.slice CA cn cc) ∧ w'.cell? ⟨w.heap.size + 1 + 1, 2, none⟩ = some (.bool true)) ∧ w'.cell? ⟨bt, ot + l, none⟩ = some (.string (bs T))) (by kernel_rfl) (HS9.out _ (Below.refl _ _).drew) (fun hHeld => ?_)
          refine wpAnyH_take (i := 0) (v := ?_) rfl (by kernel_rfl) (by kernel_rfl) (by kernel_rfl) (fun _ _ _ h => h) (Or.inl ⟨by rfl, ?_⟩) (by assumption) ?_
          rotate_left
          · (intro w hSw; (try dsimp only at hSw); go_simp; with_reducible rfl)
          try simp only [Act.put, List.setIfInBounds_toArray, List.set_cons_zero, List.set_cons_succ]
          refine wpAnyH_ready (rs := [1]) (by kernel_rfl) (by simp) ?_
          refine AllReadyH.cons rfl (fun K hK => ?_) AllReadyH.nil
          go_simp
          go_at_call 45
          refine ((GG.out _)).mono ?_
          rintro e w' ⟨rfl, rfl⟩
          go_wp2_with fail
          refine hK.out _ _ (HS9.out _ (Below.refl _ _).drew) (fun hHx => ?_)
          clear hHx hK K hHeld
          try simp only [Act.put, List.setIfInBounds_toArray, List.set_cons_zero, List.set_cons_succ]
          refine wpAnyH_take (i := 2) (v := ?_) rfl (by kernel_rfl) (by kernel_rfl) (by kernel_rfl) (fun _ _ _ h => h) (Or.inl ⟨by rfl, ?_⟩) (HS9.out _ (Below.refl _ _).drew) ?_
          rotate_left
          · (intro w hSw; (try dsimp only at hSw); go_simp; with_reducible rfl)
          try simp only [Act.put, List.setIfInBounds_toArray, List.set_cons_zero, List.set_cons_succ]
          refine wpAnyH_take (i := 3) (v := ?_) rfl (by kernel_rfl) (by kernel_rfl) (by kernel_rfl) (fun _ _ _ h => h) (Or.inl ⟨by rfl, ?_⟩) (HS9.out _ (Below.refl _ _).drew) ?_
          rotate_left
          · (intro w hSw; (try dsimp only at hSw); go_simp; with_reducible rfl)
          try simp only [Act.put, List.setIfInBounds_toArray, List.set_cons_zero, List.set_cons_succ]
          refine wpAnyH_take (i := 4) (v := ?_) rfl (by kernel_rfl) (by kernel_rfl) (by kernel_rfl) (fun _ _ _ h => h) (Or.inl ⟨by kernel_rfl, ?_⟩) (HS9.out _ (Below.refl _ _).drew) ?_
          rotate_left
          · (intro w hSw; (try dsimp only at hSw); go_simp; with_reducible rfl)
          try simp only [Act.put, List.setIfInBounds_toArray, List.set_cons_zero, List.set_cons_succ]
          refine wpAnyH_take (i := 5) (v := ?_) rfl (by kernel_rfl) (by kernel_rfl) (by kernel_rfl) (fun _ _ _ h => h) (Or.inl ⟨by kernel_rfl, ?_⟩) (HS9.out _ (Below.refl _ _).drew) ?_
          rotate_left
          · (intro w hSw; (try dsimp only at hSw); go_simp; with_reducible rfl)
          try simp only [Act.put, List.setIfInBounds_toArray, List.set_cons_zero, List.set_cons_succ]
          refine wpAnyH_take (i := 6) (v := ?_) rfl (by kernel_rfl) (by kernel_rfl) (by kernel_rfl) (fun _ _ _ h => h) (Or.inl ⟨by kernel_rfl, ?_⟩) (HS9.out _ (Below.refl _ _).drew) ?_
          rotate_left
          · (intro w hSw; (try dsimp only at hSw); go_simp; with_reducible rfl)
          try simp only [Act.put, List.setIfInBounds_toArray, List.set_cons_zero, List.set_cons_succ]
          refine wpAnyH_take (i := 7) (v := ?_) rfl (by kernel_rfl) (by kernel_rfl) (by kernel_rfl) (fun _ _ _ h => h) (Or.inl ⟨by kernel_rfl, ?_⟩) (HS9.out _ (Below.refl _ _).drew) ?_
          rotate_left
          · (intro w hSw; (try dsimp only at hSw); go_simp; with_reducible rfl)
          try simp only [Act.put, List.setIfInBounds_toArray, List.set_cons_zero, List.set_cons_succ]
          refine wpAnyH_take (i := 8) (v := ?_) rfl (by kernel_rfl) (by kernel_rfl) (by kernel_rfl) (fun _ _ _ h => h) (Or.inl ⟨by rfl, ?_⟩) (HS9.out _ (Below.refl _ _).drew) ?_
          rotate_left
          · (intro w hSw; (try dsimp only at hSw); go_simp; with_reducible rfl)
          try simp only [Act.put, List.setIfInBounds_toArray, List.set_cons_zero, List.set_cons_succ]
          refine wpAnyH_take (i := 9) (v := ?_) rfl (by kernel_rfl) (by kernel_rfl) (by kernel_rfl) (fun _ _ _ h => h) (Or.inl ⟨by rfl, ?_⟩) (HS9.out _ (Below.refl _ _).drew) ?_
          rotate_left
          · (intro w hSw; (try dsimp only at hSw); go_simp; with_reducible rfl)
          try simp only [Act.put, List.setIfInBounds_toArray, List.set_cons_zero, List.set_cons_succ]
          refine wpAnyH_take (i := 10) (v := ?_) rfl (by kernel_rfl) (by kernel_rfl) (by kernel_rfl) (fun _ _ _ h => h) (Or.inl ⟨by kernel_rfl, ?_⟩) (HS9.out _ (Below.refl _ _).drew) ?_
          rotate_left
          · (intro w hSw; (try dsimp only at hSw); go_simp; with_reducible rfl)
          try simp only [Act.put, List.setIfInBounds_toArray, List.set_cons_zero, List.set_cons_succ]
          refine wpAnyH_take (i := 11) (v := ?_) rfl (by kernel_rfl) (by kernel_rfl) (by kernel_rfl) (fun _ _ _ h => h) (Or.inl ⟨by kernel_rfl, ?_⟩) (HS9.out _ (Below.refl _ _).drew) ?_
          rotate_left
          · (intro w hSw; (try dsimp only at hSw); go_simp; with_reducible rfl)
          try simp only [Act.put, List.setIfInBounds_toArray, List.set_cons_zero, List.set_cons_succ]
          refine wpAnyH_take (i := 12) (v := ?_) rfl (by kernel_rfl) (by kernel_rfl) (by kernel_rfl) (fun _ _ _ h => h) (Or.inl ⟨by kernel_rfl, ?_⟩) (HS9.out _ (Below.refl _ _).drew) ?_
          rotate_left
          · (intro w hSw; (try dsimp only at hSw); go_simp; with_reducible rfl)
          try simp only [Act.put, List.setIfInBounds_toArray, List.set_cons_zero, List.set_cons_succ]
          refine wpAnyH_pass (i := 13) (d := some 64) (by kernel_rfl) (by kernel_rfl) (by kernel_rfl) (by kernel_rfl) (fun _ _ _ _ h => h) (by kernel_rfl) (HS9.out _ (Below.refl _ _).drew) ?_
          try simp only [Act.put, List.setIfInBounds_toArray, List.set_cons_zero, List.set_cons_succ]
          refine wpAnyH_pass (i := 14) (d := some 65) (by kernel_rfl) (by kernel_rfl) (by kernel_rfl) (by kernel_rfl) (fun _ _ _ _ h => h) (by kernel_rfl) (HS9.out _ (Below.refl _ _).drew) ?_
          try simp only [Act.put, List.setIfInBounds_toArray, List.set_cons_zero, List.set_cons_succ]
          refine wpAnyH_pass (i := 15) (d := some 66) (by kernel_rfl) (by kernel_rfl) (by kernel_rfl) (by kernel_rfl) (fun _ _ _ _ h => h) (by kernel_rfl) (HS9.out _ (Below.refl _ _).drew) ?_
          try simp only [Act.put, List.setIfInBounds_toArray, List.set_cons_zero, List.set_cons_succ]
          refine wpAnyH_pass (i := 16) (d := some 67) (by kernel_rfl) (by kernel_rfl) (by kernel_rfl) (by kernel_rfl) (fun _ _ _ _ h => h) (by kernel_rfl) (HS9.out _ (Below.refl _ _).drew) ?_
          try simp only [Act.put, List.setIfInBounds_toArray, List.set_cons_zero, List.set_cons_succ]
          refine wpAnyH_pass (i := 17) (d := some 68) (by kernel_rfl) (by kernel_rfl) (by kernel_rfl) (by kernel_rfl) (fun _ _ _ _ h => h) (by kernel_rfl) (HS9.out _ (Below.refl _ _).drew) ?_
          try simp only [Act.put, List.setIfInBounds_toArray, List.set_cons_zero, List.set_cons_succ]
          refine wpAnyH_pass (i := 18) (d := some 69) (by kernel_rfl) (by kernel_rfl) (by kernel_rfl) (by kernel_rfl) (fun _ _ _ _ h => h) (by kernel_rfl) (HS9.out _ (Below.refl _ _).drew) ?_
          try simp only [Act.put, List.setIfInBounds_toArray, List.set_cons_zero, List.set_cons_succ]
          refine wpAnyH_pass (i := 19) (d := some 70) (by kernel_rfl) (by kernel_rfl) (by kernel_rfl) (by kernel_rfl) (fun _ _ _ _ h => h) (by kernel_rfl) (HS9.out _ (Below.refl _ _).drew) ?_
          try simp only [Act.put, List.setIfInBounds_toArray, List.set_cons_zero, List.set_cons_succ]
          refine wpAnyH_pass (i := 20) (d := some 71) (by kernel_rfl) (by kernel_rfl) (by kernel_rfl) (by kernel_rfl) (fun _ _ _ _ h => h) (by kernel_rfl) (HS9.out _ (Below.refl _ _).drew) ?_
          try simp only [Act.put, List.setIfInBounds_toArray, List.set_cons_zero, List.set_cons_succ]
          refine wpAnyH_take (i := 21) (v := ?_) rfl (by kernel_rfl) (by kernel_rfl) (by kernel_rfl) (fun _ _ _ h => h) (Or.inl ⟨by kernel_rfl, ?_⟩) (HS9.out _ (Below.refl _ _).drew) ?_
          rotate_left
          · (intro w hSw; (try dsimp only at hSw); go_simp; with_reducible rfl)
          try simp only [Act.put, List.setIfInBounds_toArray, List.set_cons_zero, List.set_cons_succ]
          refine wpAnyH_take (i := 22) (v := ?_) rfl (by kernel_rfl) (by kernel_rfl) (by kernel_rfl) (fun _ _ _ h => h) (Or.inl ⟨by rfl, ?_⟩) (HS9.out _ (Below.refl _ _).drew) ?_
          rotate_left
          · (intro w hSw; (try dsimp only at hSw); go_simp; with_reducible rfl)
          try simp only [Act.put, List.setIfInBounds_toArray, List.set_cons_zero, List.set_cons_succ]
          refine wpAnyH_take (i := 23) (v := ?_) rfl (by kernel_rfl) (by kernel_rfl) (by kernel_rfl) (fun _ _ _ h => h) (Or.inl ⟨by rfl, ?_⟩) (HS9.out _ (Below.refl _ _).drew) ?_
          rotate_left
          · (intro w hSw; (try dsimp only at hSw); go_simp; with_reducible rfl)
          try simp only [Act.put, List.setIfInBounds_toArray, List.set_cons_zero, List.set_cons_succ]
          refine wpAnyH_take (i := 24) (v := ?_) rfl (by kernel_rfl) (by kernel_rfl) (by kernel_rfl) (fun _ _ _ h => h) (Or.inl ⟨by kernel_rfl, ?_⟩) (HS9.out _ (Below.refl _ _).drew) ?_
          rotate_left
          · (intro w hSw; (try dsimp only at hSw); go_simp; with_reducible rfl)
          try simp only [Act.put, List.setIfInBounds_toArray, List.set_cons_zero, List.set_cons_succ]
          refine wpAnyH_take (i := 25) (v := ?_) rfl (by kernel_rfl) (by kernel_rfl) (by kernel_rfl) (fun _ _ _ h => h) (Or.inl ⟨by kernel_rfl, ?_⟩) (HS9.out _ (Below.refl _ _).drew) ?_
          rotate_left
          · (intro w hSw; (try dsimp only at hSw); go_simp; with_reducible rfl)
          try simp only [Act.put, List.setIfInBounds_toArray, List.set_cons_zero, List.set_cons_succ]
          refine wpAnyH_take (i := 26) (v := ?_) rfl (by kernel_rfl) (by kernel_rfl) (by kernel_rfl) (fun _ _ _ h => h) (Or.inl ⟨by kernel_rfl, ?_⟩) (HS9.out _ (Below.refl _ _).drew) ?_
          rotate_left
          · (intro w hSw; (try dsimp only at hSw); go_simp; with_reducible rfl)
          try simp only [Act.put, List.setIfInBounds_toArray, List.set_cons_zero, List.set_cons_succ]
          refine wpAnyH_take (i := 28) (v := ?_) rfl (by kernel_rfl) (by kernel_rfl) (by kernel_rfl) (fun _ _ _ h => h) (Or.inl ⟨by kernel_rfl, ?_⟩) (HS9.out _ (Below.refl _ _).drew) ?_
          rotate_left
          · (intro w hSw; (try dsimp only at hSw); go_simp; with_reducible rfl)
          try simp only [Act.put, List.setIfInBounds_toArray, List.set_cons_zero, List.set_cons_succ]
          refine wpAnyH_take (i := 29) (v := ?_) rfl (by kernel_rfl) (by kernel_rfl) (by kernel_rfl) (fun _ _ _ h => h) (Or.inl ⟨by kernel_rfl, ?_⟩) (HS9.out _ (Below.refl _ _).drew) ?_
          rotate_left
          · (intro w hSw; (try dsimp only at hSw); go_simp; with_reducible rfl)
          try simp only [Act.put, List.setIfInBounds_toArray, List.set_cons_zero, List.set_cons_succ]
          refine wpAnyH_ready (rs := [27]) (by kernel_rfl) (by simp) ?_
          refine AllReadyH.cons rfl (fun K hK => ?_) AllReadyH.nil
          go_simp
          go_at_call 46
          refine ((GEt _ (R2.out.below (E5.out.trans ((Below.refl wr.heap.size wr).drew.mono E5.out.size)))).out).mono ?_
          rintro e wa ⟨rfl, ba⟩
          have Fa := (Below.refl wr.heap.size wr).drew.trans (ba.mono (Nat.le_refl _))
          go_wp2_with fail
          refine hK.out _ _ (HS9.out _ Fa) (fun hHx => ?_)
          clear hHx hK K
          try simp only [Act.put, List.setIfInBounds_toArray, List.set_cons_zero, List.set_cons_succ]
          refine wpAnyH_ready (rs := [30]) (by kernel_rfl) (by simp) ?_
          refine AllReadyH.cons rfl (fun K hK => ?_) AllReadyH.nil
          go_simp
          go_at_call 47
          refine ((GR _).out).mono ?_
          rintro e w' ⟨rfl, rfl⟩
          go_wp2_with fail
          refine hK.out _ _ (HS9.out _ Fa) (fun hHx => ?_)
          clear hHx hK K
          try simp only [Act.put, List.setIfInBounds_toArray, List.set_cons_zero, List.set_cons_succ]
          refine wpAnyH_take (i := 31) (v := ?_) rfl (by kernel_rfl) (by kernel_rfl) (by kernel_rfl) (fun _ _ _ h => h) (Or.inl ⟨by kernel_rfl, ?_⟩) (HS9.out _ Fa) ?_
          rotate_left
          · (intro w hSw; (try dsimp only at hSw); go_simp; with_reducible rfl)
          try simp only [Act.put, List.setIfInBounds_toArray, List.set_cons_zero, List.set_cons_succ]
          refine wpAnyH_take (i := 32) (v := ?_) rfl (by kernel_rfl) (by kernel_rfl) (by kernel_rfl) (fun _ _ _ h => h) (Or.inl ⟨by rfl, ?_⟩) (HS9.out _ Fa) ?_
          rotate_left
          · (intro w hSw; (try dsimp only at hSw); go_simp; with_reducible rfl)
          try simp only [Act.put, List.setIfInBounds_toArray, List.set_cons_zero, List.set_cons_succ]
          refine wpAnyH_take (i := 33) (v := ?_) rfl (by kernel_rfl) (by kernel_rfl) (by kernel_rfl) (fun _ _ _ h => h) (Or.inl ⟨by rfl, ?_⟩) (HS9.out _ Fa) ?_
          rotate_left
          · (intro w hSw; (try dsimp only at hSw); go_simp; with_reducible rfl)
          try simp only [Act.put, List.setIfInBounds_toArray, List.set_cons_zero, List.set_cons_succ]
          refine wpAnyH_take (i := 34) (v := ?_) rfl (by kernel_rfl) (by kernel_rfl) (by kernel_rfl) (fun _ _ _ h => h) (Or.inl ⟨by kernel_rfl, ?_⟩) (HS9.out _ Fa) ?_
          rotate_left
          · (intro w hSw; (try dsimp only at hSw); go_simp; with_reducible rfl)
          try simp only [Act.put, List.setIfInBounds_toArray, List.set_cons_zero, List.set_cons_succ]
          refine wpAnyH_take (i := 35) (v := ?_) rfl (by kernel_rfl) (by kernel_rfl) (by kernel_rfl) (fun _ _ _ h => h) (Or.inl ⟨by kernel_rfl, ?_⟩) (HS9.out _ Fa) ?_
          rotate_left
          · (intro w hSw; (try dsimp only at hSw); go_simp; with_reducible rfl)
          try simp only [Act.put, List.setIfInBounds_toArray, List.set_cons_zero, List.set_cons_succ]
          refine wpAnyH_take (i := 36) (v := ?_) rfl (by kernel_rfl) (by kernel_rfl) (by kernel_rfl) (fun _ _ _ h => h) (Or.inl ⟨by kernel_rfl, ?_⟩) (HS9.out _ Fa) ?_
          rotate_left
          · (intro w hSw; (try dsimp only at hSw); go_simp; with_reducible rfl)
          try simp only [Act.put, List.setIfInBounds_toArray, List.set_cons_zero, List.set_cons_succ]
          refine wpAnyH_ready (rs := [37]) (by kernel_rfl) (by simp) ?_
          refine AllReadyH.cons rfl (fun K hK => ?_) AllReadyH.nil
          go_simp
          go_at_call 48
          refine ((GTt _ (R2.out.below (E5.out.trans (Fa.mono E5.out.size)))).out).mono ?_
          rintro e wb ⟨rfl, bb⟩
          have Fb := Fa.trans (bb.mono Fa.size)
          go_wp2_with fail
          refine hK.out _ _ (HS9.out _ Fb) (fun hHx => ?_)
          clear hHx hK K
          try simp only [Act.put, List.setIfInBounds_toArray, List.set_cons_zero, List.set_cons_succ]
          refine wpAnyH_take (i := 38) (v := ?_) rfl (by kernel_rfl) (by kernel_rfl) (by kernel_rfl) (fun _ _ _ h => h) (Or.inl ⟨by kernel_rfl, ?_⟩) (HS9.out _ Fb) ?_
          rotate_left
          · (intro w hSw; (try dsimp only at hSw); go_simp; with_reducible rfl)
          try simp only [Act.put, List.setIfInBounds_toArray, List.set_cons_zero, List.set_cons_succ]
          refine wpAnyH_ready (rs := [39]) (by kernel_rfl) (by simp) ?_
          refine AllReadyH.cons rfl (fun K hK => ?_) AllReadyH.nil
          go_simp
          refine hK.out _ _ (HS9.out _ Fb) (fun hHx => ?_)
          clear hHx hK K
          try simp only [Act.put, List.setIfInBounds_toArray, List.set_cons_zero, List.set_cons_succ]
          refine wpAnyH_done (by kernel_rfl) ?_ _
          have HFb := hid (HBr.out.trans (Fb.mono HBr.out.size))
          clear ba bb Fa Fb
          go_wp2
          go_roundg (tn - (l + 1))
          case measure => omega
          case rel => exact ⟨l + 1, by omega, rfl, by go_num, HS2, HFb.out⟩
      · have hgl : decide ((0 : Int) < (l : Int)) = true := decide_eq_true (by omega)
        have hgl2 : decide (0 < l) = true := decide_eq_true (by omega)
        have v1 := HM1.out (by omega)
        have hl0b : (l == 0) = false := by simpa using hl0
        rw [hl0b, Bool.false_or] at hstep hbad
        have j2 : (0 : Int) ≤ ((l - 1 : Nat) : Int) := by omega
        have j3 : ((l - 1 : Nat) : Int) < (tn : Int) := by omega
        have hwl : IntKind.i64.wrap ((l : Int) - 1) = ((l - 1 : Nat) : Int) := by rw [IntWalk.i64_in _ (by omega)]; omega
        clear hl0 hl0b HM1
        have HS9 := hid (fun W' (h : Below wr.heap.size wr W') => (show (W'.cell? ⟨w.heap.size, 0, none⟩ = some (.string (bs nm)) ∧ W'.cell? ⟨w.heap.size, 1, none⟩ = some (.int .i64 (N : Int)) ∧ W'.cell? ⟨w.heap.size, 2, none⟩ = some (.slice A n c) ∧ W'.cell? ⟨w.heap.size + 1, 0, none⟩ = some (.string (bs k1)) ∧ W'.cell? ⟨w.heap.size + 1, 1, none⟩ = some (.string (bs k2)) ∧ W'.cell? ⟨w.heap.size + 1 + 1, 0, none⟩ = some (.slice (some ⟨bt, ot, none⟩) tn tc) ∧ W'.cell? ⟨w.heap.size + 1 + 1, 1, none⟩ = some (.slice CA cn cc) ∧ W'.cell? ⟨w.heap.size + 1 + 1, 2, none⟩ = some (.bool true)) ∧ W'.cell? ⟨bt, ot + l, none⟩ = some (.string (bs T)) ∧ W'.cell? ⟨bt, ot + (l - 1), none⟩ = some (.string (bs P)) from ⟨HHS8.out _ (E5.out.trans (h.mono E5.out.size)), (h.cell (World.block_lt_of_cell? wr _ v0)).trans v0, (h.cell (World.block_lt_of_cell? wr _ v1)).trans v1⟩))
        clear n0 n1 n2 p0 p1 t0 t1 t2 v0 v1
        obtain ⟨⟨n0, n1, n2, p0, p1, t0, t1, t2⟩, v0, v1⟩ := HS9.out _ (Below.refl _ _)
        cases hgd : goodTouch T
        · rw [hgd] at GG
          have HS2 := hid (hbad.out (by rw [HTG.out hgd]; try rfl))
          clear hstep hbad hgd HTG
          go_wp2_with fail
          refine wp_region_held_drew (S := fun w' => (w'.cell? ⟨w.heap.size, 0, none⟩ = some (.string (bs nm)) ∧ w'.cell? ⟨w.heap.size, 1, none⟩ = some (.int .i64 (N : Int)) ∧ w'.cell? ⟨w.heap.size, 2, none⟩ = some (.slice A n c) ∧ w'.cell? ⟨w.heap.size + 1, 0, none⟩ = some (.string (bs k1)) ∧ w'.cell? ⟨w.heap.size + 1, 1, none⟩ = some (.string (bs k2)) ∧ w'.cell? ⟨w.heap.size + 1 + 1, 0, none⟩ = some (.slice (some ⟨bt, ot, none⟩) tn tc) ∧ w'.cell? ⟨w.heap.size + 1 + 1, 1, none⟩ = some (.slice CA cn cc) ∧ w'.cell? ⟨w.heap.size + 1 + 1, 2, none⟩ = some (.bool true)) ∧ w'.cell? ⟨bt, ot + l, none⟩ = some (.string (bs T)) ∧ w'.cell? ⟨bt, ot + (l - 1), none⟩ = some (.string (bs P))) (by kernel_rfl) (HS9.out _ (Below.refl _ _).drew) (fun hHeld => ?_)
          refine wpAnyH_take (i := 0) (v := ?_) rfl (by kernel_rfl) (by kernel_rfl) (by kernel_rfl) (fun _ _ _ h => h) (Or.inl ⟨by rfl, ?_⟩) (by assumption) ?_
          rotate_left
          · (intro w hSw; (try dsimp only at hSw); go_simp; with_reducible rfl)
          try simp only [Act.put, List.setIfInBounds_toArray, List.set_cons_zero, List.set_cons_succ]
          refine wpAnyH_ready (rs := [1]) (by kernel_rfl) (by simp) ?_
          refine AllReadyH.cons rfl (fun K hK => ?_) AllReadyH.nil
          go_simp
          go_at_call 45
          refine ((GG.out _)).mono ?_
          rintro e w' ⟨rfl, rfl⟩
          go_wp2_with fail
          refine hK.out _ _ (HS9.out _ (Below.refl _ _).drew) (fun hHx => ?_)
          clear hHx hK K hHeld
          try simp only [Act.put, List.setIfInBounds_toArray, List.set_cons_zero, List.set_cons_succ]
          refine wpAnyH_take (i := 2) (v := ?_) rfl (by kernel_rfl) (by kernel_rfl) (by kernel_rfl) (fun _ _ _ h => h) (Or.inl ⟨by rfl, ?_⟩) (HS9.out _ (Below.refl _ _).drew) ?_
          rotate_left
          · (intro w hSw; (try dsimp only at hSw); go_simp; with_reducible rfl)
          try simp only [Act.put, List.setIfInBounds_toArray, List.set_cons_zero, List.set_cons_succ]
          refine wpAnyH_take (i := 3) (v := ?_) rfl (by kernel_rfl) (by kernel_rfl) (by kernel_rfl) (fun _ _ _ h => h) (Or.inl ⟨by rfl, ?_⟩) (HS9.out _ (Below.refl _ _).drew) ?_
          rotate_left
          · (intro w hSw; (try dsimp only at hSw); go_simp; with_reducible rfl)
          try simp only [Act.put, List.setIfInBounds_toArray, List.set_cons_zero, List.set_cons_succ]
          refine wpAnyH_pass (i := 4) (d := some 55) (by kernel_rfl) (by kernel_rfl) (by kernel_rfl) (by kernel_rfl) (fun _ _ _ _ h => h) (by kernel_rfl) (HS9.out _ (Below.refl _ _).drew) ?_
          try simp only [Act.put, List.setIfInBounds_toArray, List.set_cons_zero, List.set_cons_succ]
          refine wpAnyH_pass (i := 5) (d := some 56) (by kernel_rfl) (by kernel_rfl) (by kernel_rfl) (by kernel_rfl) (fun _ _ _ _ h => h) (by kernel_rfl) (HS9.out _ (Below.refl _ _).drew) ?_
          try simp only [Act.put, List.setIfInBounds_toArray, List.set_cons_zero, List.set_cons_succ]
          refine wpAnyH_pass (i := 6) (d := some 57) (by kernel_rfl) (by kernel_rfl) (by kernel_rfl) (by kernel_rfl) (fun _ _ _ _ h => h) (by kernel_rfl) (HS9.out _ (Below.refl _ _).drew) ?_
          try simp only [Act.put, List.setIfInBounds_toArray, List.set_cons_zero, List.set_cons_succ]
          refine wpAnyH_pass (i := 7) (d := some 58) (by kernel_rfl) (by kernel_rfl) (by kernel_rfl) (by kernel_rfl) (fun _ _ _ _ h => h) (by kernel_rfl) (HS9.out _ (Below.refl _ _).drew) ?_
          try simp only [Act.put, List.setIfInBounds_toArray, List.set_cons_zero, List.set_cons_succ]
          refine wpAnyH_take (i := 8) (v := ?_) rfl (by kernel_rfl) (by kernel_rfl) (by kernel_rfl) (fun _ _ _ h => h) (Or.inl ⟨by rfl, ?_⟩) (HS9.out _ (Below.refl _ _).drew) ?_
          rotate_left
          · (intro w hSw; (try dsimp only at hSw); go_simp; with_reducible rfl)
          try simp only [Act.put, List.setIfInBounds_toArray, List.set_cons_zero, List.set_cons_succ]
          refine wpAnyH_take (i := 9) (v := ?_) rfl (by kernel_rfl) (by kernel_rfl) (by kernel_rfl) (fun _ _ _ h => h) (Or.inl ⟨by rfl, ?_⟩) (HS9.out _ (Below.refl _ _).drew) ?_
          rotate_left
          · (intro w hSw; (try dsimp only at hSw); go_simp; with_reducible rfl)
          try simp only [Act.put, List.setIfInBounds_toArray, List.set_cons_zero, List.set_cons_succ]
          refine wpAnyH_pass (i := 10) (d := some 61) (by kernel_rfl) (by kernel_rfl) (by kernel_rfl) (by kernel_rfl) (fun _ _ _ _ h => h) (by kernel_rfl) (HS9.out _ (Below.refl _ _).drew) ?_
          try simp only [Act.put, List.setIfInBounds_toArray, List.set_cons_zero, List.set_cons_succ]
          refine wpAnyH_pass (i := 11) (d := some 62) (by kernel_rfl) (by kernel_rfl) (by kernel_rfl) (by kernel_rfl) (fun _ _ _ _ h => h) (by kernel_rfl) (HS9.out _ (Below.refl _ _).drew) ?_
          try simp only [Act.put, List.setIfInBounds_toArray, List.set_cons_zero, List.set_cons_succ]
          refine wpAnyH_pass (i := 12) (d := some 63) (by kernel_rfl) (by kernel_rfl) (by kernel_rfl) (by kernel_rfl) (fun _ _ _ _ h => h) (by kernel_rfl) (HS9.out _ (Below.refl _ _).drew) ?_
          try simp only [Act.put, List.setIfInBounds_toArray, List.set_cons_zero, List.set_cons_succ]
          refine wpAnyH_pass (i := 13) (d := some 64) (by kernel_rfl) (by kernel_rfl) (by kernel_rfl) (by kernel_rfl) (fun _ _ _ _ h => h) (by kernel_rfl) (HS9.out _ (Below.refl _ _).drew) ?_
          try simp only [Act.put, List.setIfInBounds_toArray, List.set_cons_zero, List.set_cons_succ]
          refine wpAnyH_pass (i := 14) (d := some 65) (by kernel_rfl) (by kernel_rfl) (by kernel_rfl) (by kernel_rfl) (fun _ _ _ _ h => h) (by kernel_rfl) (HS9.out _ (Below.refl _ _).drew) ?_
          try simp only [Act.put, List.setIfInBounds_toArray, List.set_cons_zero, List.set_cons_succ]
          refine wpAnyH_pass (i := 15) (d := some 66) (by kernel_rfl) (by kernel_rfl) (by kernel_rfl) (by kernel_rfl) (fun _ _ _ _ h => h) (by kernel_rfl) (HS9.out _ (Below.refl _ _).drew) ?_
          try simp only [Act.put, List.setIfInBounds_toArray, List.set_cons_zero, List.set_cons_succ]
          refine wpAnyH_pass (i := 16) (d := some 67) (by kernel_rfl) (by kernel_rfl) (by kernel_rfl) (by kernel_rfl) (fun _ _ _ _ h => h) (by kernel_rfl) (HS9.out _ (Below.refl _ _).drew) ?_
          try simp only [Act.put, List.setIfInBounds_toArray, List.set_cons_zero, List.set_cons_succ]
          refine wpAnyH_pass (i := 17) (d := some 68) (by kernel_rfl) (by kernel_rfl) (by kernel_rfl) (by kernel_rfl) (fun _ _ _ _ h => h) (by kernel_rfl) (HS9.out _ (Below.refl _ _).drew) ?_
          try simp only [Act.put, List.setIfInBounds_toArray, List.set_cons_zero, List.set_cons_succ]
          refine wpAnyH_pass (i := 18) (d := some 69) (by kernel_rfl) (by kernel_rfl) (by kernel_rfl) (by kernel_rfl) (fun _ _ _ _ h => h) (by kernel_rfl) (HS9.out _ (Below.refl _ _).drew) ?_
          try simp only [Act.put, List.setIfInBounds_toArray, List.set_cons_zero, List.set_cons_succ]
          refine wpAnyH_pass (i := 19) (d := some 70) (by kernel_rfl) (by kernel_rfl) (by kernel_rfl) (by kernel_rfl) (fun _ _ _ _ h => h) (by kernel_rfl) (HS9.out _ (Below.refl _ _).drew) ?_
          try simp only [Act.put, List.setIfInBounds_toArray, List.set_cons_zero, List.set_cons_succ]
          refine wpAnyH_pass (i := 20) (d := some 71) (by kernel_rfl) (by kernel_rfl) (by kernel_rfl) (by kernel_rfl) (fun _ _ _ _ h => h) (by kernel_rfl) (HS9.out _ (Below.refl _ _).drew) ?_
          try simp only [Act.put, List.setIfInBounds_toArray, List.set_cons_zero, List.set_cons_succ]
          refine wpAnyH_pass (i := 21) (d := some 72) (by kernel_rfl) (by kernel_rfl) (by kernel_rfl) (by kernel_rfl) (fun _ _ _ _ h => h) (by kernel_rfl) (HS9.out _ (Below.refl _ _).drew) ?_
          try simp only [Act.put, List.setIfInBounds_toArray, List.set_cons_zero, List.set_cons_succ]
          refine wpAnyH_take (i := 22) (v := ?_) rfl (by kernel_rfl) (by kernel_rfl) (by kernel_rfl) (fun _ _ _ h => h) (Or.inl ⟨by rfl, ?_⟩) (HS9.out _ (Below.refl _ _).drew) ?_
          rotate_left
          · (intro w hSw; (try dsimp only at hSw); go_simp; with_reducible rfl)
          try simp only [Act.put, List.setIfInBounds_toArray, List.set_cons_zero, List.set_cons_succ]
          refine wpAnyH_take (i := 23) (v := ?_) rfl (by kernel_rfl) (by kernel_rfl) (by kernel_rfl) (fun _ _ _ h => h) (Or.inl ⟨by rfl, ?_⟩) (HS9.out _ (Below.refl _ _).drew) ?_
          rotate_left
          · (intro w hSw; (try dsimp only at hSw); go_simp; with_reducible rfl)
          try simp only [Act.put, List.setIfInBounds_toArray, List.set_cons_zero, List.set_cons_succ]
          refine wpAnyH_pass (i := 24) (d := some 75) (by kernel_rfl) (by kernel_rfl) (by kernel_rfl) (by kernel_rfl) (fun _ _ _ _ h => h) (by kernel_rfl) (HS9.out _ (Below.refl _ _).drew) ?_
          try simp only [Act.put, List.setIfInBounds_toArray, List.set_cons_zero, List.set_cons_succ]
          refine wpAnyH_pass (i := 25) (d := some 76) (by kernel_rfl) (by kernel_rfl) (by kernel_rfl) (by kernel_rfl) (fun _ _ _ _ h => h) (by kernel_rfl) (HS9.out _ (Below.refl _ _).drew) ?_
          try simp only [Act.put, List.setIfInBounds_toArray, List.set_cons_zero, List.set_cons_succ]
          refine wpAnyH_pass (i := 26) (d := some 77) (by kernel_rfl) (by kernel_rfl) (by kernel_rfl) (by kernel_rfl) (fun _ _ _ _ h => h) (by kernel_rfl) (HS9.out _ (Below.refl _ _).drew) ?_
          try simp only [Act.put, List.setIfInBounds_toArray, List.set_cons_zero, List.set_cons_succ]
          refine wpAnyH_pass (i := 27) (d := some 78) (by kernel_rfl) (by kernel_rfl) (by kernel_rfl) (by kernel_rfl) (fun _ _ _ _ h => h) (by kernel_rfl) (HS9.out _ (Below.refl _ _).drew) ?_
          try simp only [Act.put, List.setIfInBounds_toArray, List.set_cons_zero, List.set_cons_succ]
          refine wpAnyH_pass (i := 28) (d := some 79) (by kernel_rfl) (by kernel_rfl) (by kernel_rfl) (by kernel_rfl) (fun _ _ _ _ h => h) (by kernel_rfl) (HS9.out _ (Below.refl _ _).drew) ?_
          try simp only [Act.put, List.setIfInBounds_toArray, List.set_cons_zero, List.set_cons_succ]
          refine wpAnyH_pass (i := 29) (d := some 80) (by kernel_rfl) (by kernel_rfl) (by kernel_rfl) (by kernel_rfl) (fun _ _ _ _ h => h) (by kernel_rfl) (HS9.out _ (Below.refl _ _).drew) ?_
          try simp only [Act.put, List.setIfInBounds_toArray, List.set_cons_zero, List.set_cons_succ]
          refine wpAnyH_pass (i := 30) (d := some 81) (by kernel_rfl) (by kernel_rfl) (by kernel_rfl) (by kernel_rfl) (fun _ _ _ _ h => h) (by kernel_rfl) (HS9.out _ (Below.refl _ _).drew) ?_
          try simp only [Act.put, List.setIfInBounds_toArray, List.set_cons_zero, List.set_cons_succ]
          refine wpAnyH_pass (i := 31) (d := some 82) (by kernel_rfl) (by kernel_rfl) (by kernel_rfl) (by kernel_rfl) (fun _ _ _ _ h => h) (by kernel_rfl) (HS9.out _ (Below.refl _ _).drew) ?_
          try simp only [Act.put, List.setIfInBounds_toArray, List.set_cons_zero, List.set_cons_succ]
          refine wpAnyH_take (i := 32) (v := ?_) rfl (by kernel_rfl) (by kernel_rfl) (by kernel_rfl) (fun _ _ _ h => h) (Or.inl ⟨by rfl, ?_⟩) (HS9.out _ (Below.refl _ _).drew) ?_
          rotate_left
          · (intro w hSw; (try dsimp only at hSw); go_simp; with_reducible rfl)
          try simp only [Act.put, List.setIfInBounds_toArray, List.set_cons_zero, List.set_cons_succ]
          refine wpAnyH_take (i := 33) (v := ?_) rfl (by kernel_rfl) (by kernel_rfl) (by kernel_rfl) (fun _ _ _ h => h) (Or.inl ⟨by rfl, ?_⟩) (HS9.out _ (Below.refl _ _).drew) ?_
          rotate_left
          · (intro w hSw; (try dsimp only at hSw); go_simp; with_reducible rfl)
          try simp only [Act.put, List.setIfInBounds_toArray, List.set_cons_zero, List.set_cons_succ]
          refine wpAnyH_pass (i := 34) (d := some 85) (by kernel_rfl) (by kernel_rfl) (by kernel_rfl) (by kernel_rfl) (fun _ _ _ _ h => h) (by kernel_rfl) (HS9.out _ (Below.refl _ _).drew) ?_
          try simp only [Act.put, List.setIfInBounds_toArray, List.set_cons_zero, List.set_cons_succ]
          refine wpAnyH_pass (i := 35) (d := some 86) (by kernel_rfl) (by kernel_rfl) (by kernel_rfl) (by kernel_rfl) (fun _ _ _ _ h => h) (by kernel_rfl) (HS9.out _ (Below.refl _ _).drew) ?_
          try simp only [Act.put, List.setIfInBounds_toArray, List.set_cons_zero, List.set_cons_succ]
          refine wpAnyH_pass (i := 36) (d := some 87) (by kernel_rfl) (by kernel_rfl) (by kernel_rfl) (by kernel_rfl) (fun _ _ _ _ h => h) (by kernel_rfl) (HS9.out _ (Below.refl _ _).drew) ?_
          try simp only [Act.put, List.setIfInBounds_toArray, List.set_cons_zero, List.set_cons_succ]
          refine wpAnyH_pass (i := 37) (d := some 88) (by kernel_rfl) (by kernel_rfl) (by kernel_rfl) (by kernel_rfl) (fun _ _ _ _ h => h) (by kernel_rfl) (HS9.out _ (Below.refl _ _).drew) ?_
          try simp only [Act.put, List.setIfInBounds_toArray, List.set_cons_zero, List.set_cons_succ]
          refine wpAnyH_pass (i := 38) (d := some 89) (by kernel_rfl) (by kernel_rfl) (by kernel_rfl) (by kernel_rfl) (fun _ _ _ _ h => h) (by kernel_rfl) (HS9.out _ (Below.refl _ _).drew) ?_
          try simp only [Act.put, List.setIfInBounds_toArray, List.set_cons_zero, List.set_cons_succ]
          refine wpAnyH_ready (rs := [39]) (by kernel_rfl) (by simp) ?_
          refine AllReadyH.cons rfl (fun K hK => ?_) AllReadyH.nil
          go_simp
          refine hK.out _ _ (HS9.out _ (Below.refl _ _).drew) (fun hHx => ?_)
          clear hHx hK K
          try simp only [Act.put, List.setIfInBounds_toArray, List.set_cons_zero, List.set_cons_succ]
          refine wpAnyH_done (by kernel_rfl) ?_ _
          go_wp2
          go_ret
          exact ⟨ret_bool (by rw [HR2.out, HS2.out]; rfl), HB2.out.trans (E5.out.drew.mono hw2)⟩
        rw [hgd] at GG
        have hac := HTA.out hgd
        clear hgd HTG HTA
        by_cases hlen : T.length = q
        case neg =>
          have hq1 : ((T.length : Int) != (q : Int)) = true := by simp only [bne_iff_ne, ne_eq]; omega
          have HS2 := hid (hbad.out (by rw [HTD1.out, decide_eq_false hlen]; rfl))
          clear hlen hstep hbad hac
          go_wp2_with fail
          refine wp_region_held_drew (S := fun w' => (w'.cell? ⟨w.heap.size, 0, none⟩ = some (.string (bs nm)) ∧ w'.cell? ⟨w.heap.size, 1, none⟩ = some (.int .i64 (N : Int)) ∧ w'.cell? ⟨w.heap.size, 2, none⟩ = some (.slice A n c) ∧ w'.cell? ⟨w.heap.size + 1, 0, none⟩ = some (.string (bs k1)) ∧ w'.cell? ⟨w.heap.size + 1, 1, none⟩ = some (.string (bs k2)) ∧ w'.cell? ⟨w.heap.size + 1 + 1, 0, none⟩ = some (.slice (some ⟨bt, ot, none⟩) tn tc) ∧ w'.cell? ⟨w.heap.size + 1 + 1, 1, none⟩ = some (.slice CA cn cc) ∧ w'.cell? ⟨w.heap.size + 1 + 1, 2, none⟩ = some (.bool true)) ∧ w'.cell? ⟨bt, ot + l, none⟩ = some (.string (bs T)) ∧ w'.cell? ⟨bt, ot + (l - 1), none⟩ = some (.string (bs P))) (by kernel_rfl) (HS9.out _ (Below.refl _ _).drew) (fun hHeld => ?_)
          refine wpAnyH_take (i := 0) (v := ?_) rfl (by kernel_rfl) (by kernel_rfl) (by kernel_rfl) (fun _ _ _ h => h) (Or.inl ⟨by rfl, ?_⟩) (by assumption) ?_
          rotate_left
          · (intro w hSw; (try dsimp only at hSw); go_simp; with_reducible rfl)
          try simp only [Act.put, List.setIfInBounds_toArray, List.set_cons_zero, List.set_cons_succ]
          refine wpAnyH_ready (rs := [1]) (by kernel_rfl) (by simp) ?_
          refine AllReadyH.cons rfl (fun K hK => ?_) AllReadyH.nil
          go_simp
          go_at_call 45
          refine ((GG.out _)).mono ?_
          rintro e w' ⟨rfl, rfl⟩
          go_wp2_with fail
          refine hK.out _ _ (HS9.out _ (Below.refl _ _).drew) (fun hHx => ?_)
          clear hHx hK K hHeld
          try simp only [Act.put, List.setIfInBounds_toArray, List.set_cons_zero, List.set_cons_succ]
          refine wpAnyH_take (i := 2) (v := ?_) rfl (by kernel_rfl) (by kernel_rfl) (by kernel_rfl) (fun _ _ _ h => h) (Or.inl ⟨by rfl, ?_⟩) (HS9.out _ (Below.refl _ _).drew) ?_
          rotate_left
          · (intro w hSw; (try dsimp only at hSw); go_simp; with_reducible rfl)
          try simp only [Act.put, List.setIfInBounds_toArray, List.set_cons_zero, List.set_cons_succ]
          refine wpAnyH_take (i := 3) (v := ?_) rfl (by kernel_rfl) (by kernel_rfl) (by kernel_rfl) (fun _ _ _ h => h) (Or.inl ⟨by rfl, ?_⟩) (HS9.out _ (Below.refl _ _).drew) ?_
          rotate_left
          · (intro w hSw; (try dsimp only at hSw); go_simp; with_reducible rfl)
          try simp only [Act.put, List.setIfInBounds_toArray, List.set_cons_zero, List.set_cons_succ]
          refine wpAnyH_take (i := 4) (v := ?_) rfl (by kernel_rfl) (by kernel_rfl) (by kernel_rfl) (fun _ _ _ h => h) (Or.inl ⟨by kernel_rfl, ?_⟩) (HS9.out _ (Below.refl _ _).drew) ?_
          rotate_left
          · (intro w hSw; (try dsimp only at hSw); go_simp; with_reducible rfl)
          try simp only [Act.put, List.setIfInBounds_toArray, List.set_cons_zero, List.set_cons_succ]
          refine wpAnyH_take (i := 5) (v := ?_) rfl (by kernel_rfl) (by kernel_rfl) (by kernel_rfl) (fun _ _ _ h => h) (Or.inl ⟨by kernel_rfl, ?_⟩) (HS9.out _ (Below.refl _ _).drew) ?_
          rotate_left
          · (intro w hSw; (try dsimp only at hSw); go_simp; with_reducible rfl)
          try simp only [Act.put, List.setIfInBounds_toArray, List.set_cons_zero, List.set_cons_succ]
          refine wpAnyH_take (i := 6) (v := ?_) rfl (by kernel_rfl) (by kernel_rfl) (by kernel_rfl) (fun _ _ _ h => h) (Or.inl ⟨by kernel_rfl, ?_⟩) (HS9.out _ (Below.refl _ _).drew) ?_
          rotate_left
          · (intro w hSw; (try dsimp only at hSw); go_simp; with_reducible rfl)
          try simp only [Act.put, List.setIfInBounds_toArray, List.set_cons_zero, List.set_cons_succ]
          refine wpAnyH_take (i := 7) (v := ?_) rfl (by kernel_rfl) (by kernel_rfl) (by kernel_rfl) (fun _ _ _ h => h) (Or.inl ⟨by kernel_rfl, ?_⟩) (HS9.out _ (Below.refl _ _).drew) ?_
          rotate_left
          · (intro w hSw; (try dsimp only at hSw); go_simp; with_reducible rfl)
          try simp only [Act.put, List.setIfInBounds_toArray, List.set_cons_zero, List.set_cons_succ]
          refine wpAnyH_take (i := 8) (v := ?_) rfl (by kernel_rfl) (by kernel_rfl) (by kernel_rfl) (fun _ _ _ h => h) (Or.inl ⟨by rfl, ?_⟩) (HS9.out _ (Below.refl _ _).drew) ?_
          rotate_left
          · (intro w hSw; (try dsimp only at hSw); go_simp; with_reducible rfl)
          try simp only [Act.put, List.setIfInBounds_toArray, List.set_cons_zero, List.set_cons_succ]
          refine wpAnyH_take (i := 9) (v := ?_) rfl (by kernel_rfl) (by kernel_rfl) (by kernel_rfl) (fun _ _ _ h => h) (Or.inl ⟨by rfl, ?_⟩) (HS9.out _ (Below.refl _ _).drew) ?_
          rotate_left
          · (intro w hSw; (try dsimp only at hSw); go_simp; with_reducible rfl)
          try simp only [Act.put, List.setIfInBounds_toArray, List.set_cons_zero, List.set_cons_succ]
          refine wpAnyH_pass (i := 10) (d := some 61) (by kernel_rfl) (by kernel_rfl) (by kernel_rfl) (by kernel_rfl) (fun _ _ _ _ h => h) (by kernel_rfl) (HS9.out _ (Below.refl _ _).drew) ?_
          try simp only [Act.put, List.setIfInBounds_toArray, List.set_cons_zero, List.set_cons_succ]
          refine wpAnyH_pass (i := 11) (d := some 62) (by kernel_rfl) (by kernel_rfl) (by kernel_rfl) (by kernel_rfl) (fun _ _ _ _ h => h) (by kernel_rfl) (HS9.out _ (Below.refl _ _).drew) ?_
          try simp only [Act.put, List.setIfInBounds_toArray, List.set_cons_zero, List.set_cons_succ]
          refine wpAnyH_pass (i := 12) (d := some 63) (by kernel_rfl) (by kernel_rfl) (by kernel_rfl) (by kernel_rfl) (fun _ _ _ _ h => h) (by kernel_rfl) (HS9.out _ (Below.refl _ _).drew) ?_
          try simp only [Act.put, List.setIfInBounds_toArray, List.set_cons_zero, List.set_cons_succ]
          refine wpAnyH_pass (i := 13) (d := some 64) (by kernel_rfl) (by kernel_rfl) (by kernel_rfl) (by kernel_rfl) (fun _ _ _ _ h => h) (by kernel_rfl) (HS9.out _ (Below.refl _ _).drew) ?_
          try simp only [Act.put, List.setIfInBounds_toArray, List.set_cons_zero, List.set_cons_succ]
          refine wpAnyH_pass (i := 14) (d := some 65) (by kernel_rfl) (by kernel_rfl) (by kernel_rfl) (by kernel_rfl) (fun _ _ _ _ h => h) (by kernel_rfl) (HS9.out _ (Below.refl _ _).drew) ?_
          try simp only [Act.put, List.setIfInBounds_toArray, List.set_cons_zero, List.set_cons_succ]
          refine wpAnyH_pass (i := 15) (d := some 66) (by kernel_rfl) (by kernel_rfl) (by kernel_rfl) (by kernel_rfl) (fun _ _ _ _ h => h) (by kernel_rfl) (HS9.out _ (Below.refl _ _).drew) ?_
          try simp only [Act.put, List.setIfInBounds_toArray, List.set_cons_zero, List.set_cons_succ]
          refine wpAnyH_pass (i := 16) (d := some 67) (by kernel_rfl) (by kernel_rfl) (by kernel_rfl) (by kernel_rfl) (fun _ _ _ _ h => h) (by kernel_rfl) (HS9.out _ (Below.refl _ _).drew) ?_
          try simp only [Act.put, List.setIfInBounds_toArray, List.set_cons_zero, List.set_cons_succ]
          refine wpAnyH_pass (i := 17) (d := some 68) (by kernel_rfl) (by kernel_rfl) (by kernel_rfl) (by kernel_rfl) (fun _ _ _ _ h => h) (by kernel_rfl) (HS9.out _ (Below.refl _ _).drew) ?_
          try simp only [Act.put, List.setIfInBounds_toArray, List.set_cons_zero, List.set_cons_succ]
          refine wpAnyH_pass (i := 18) (d := some 69) (by kernel_rfl) (by kernel_rfl) (by kernel_rfl) (by kernel_rfl) (fun _ _ _ _ h => h) (by kernel_rfl) (HS9.out _ (Below.refl _ _).drew) ?_
          try simp only [Act.put, List.setIfInBounds_toArray, List.set_cons_zero, List.set_cons_succ]
          refine wpAnyH_pass (i := 19) (d := some 70) (by kernel_rfl) (by kernel_rfl) (by kernel_rfl) (by kernel_rfl) (fun _ _ _ _ h => h) (by kernel_rfl) (HS9.out _ (Below.refl _ _).drew) ?_
          try simp only [Act.put, List.setIfInBounds_toArray, List.set_cons_zero, List.set_cons_succ]
          refine wpAnyH_pass (i := 20) (d := some 71) (by kernel_rfl) (by kernel_rfl) (by kernel_rfl) (by kernel_rfl) (fun _ _ _ _ h => h) (by kernel_rfl) (HS9.out _ (Below.refl _ _).drew) ?_
          try simp only [Act.put, List.setIfInBounds_toArray, List.set_cons_zero, List.set_cons_succ]
          refine wpAnyH_pass (i := 21) (d := some 72) (by kernel_rfl) (by kernel_rfl) (by kernel_rfl) (by kernel_rfl) (fun _ _ _ _ h => h) (by kernel_rfl) (HS9.out _ (Below.refl _ _).drew) ?_
          try simp only [Act.put, List.setIfInBounds_toArray, List.set_cons_zero, List.set_cons_succ]
          refine wpAnyH_take (i := 22) (v := ?_) rfl (by kernel_rfl) (by kernel_rfl) (by kernel_rfl) (fun _ _ _ h => h) (Or.inl ⟨by rfl, ?_⟩) (HS9.out _ (Below.refl _ _).drew) ?_
          rotate_left
          · (intro w hSw; (try dsimp only at hSw); go_simp; with_reducible rfl)
          try simp only [Act.put, List.setIfInBounds_toArray, List.set_cons_zero, List.set_cons_succ]
          refine wpAnyH_take (i := 23) (v := ?_) rfl (by kernel_rfl) (by kernel_rfl) (by kernel_rfl) (fun _ _ _ h => h) (Or.inl ⟨by rfl, ?_⟩) (HS9.out _ (Below.refl _ _).drew) ?_
          rotate_left
          · (intro w hSw; (try dsimp only at hSw); go_simp; with_reducible rfl)
          try simp only [Act.put, List.setIfInBounds_toArray, List.set_cons_zero, List.set_cons_succ]
          refine wpAnyH_pass (i := 24) (d := some 75) (by kernel_rfl) (by kernel_rfl) (by kernel_rfl) (by kernel_rfl) (fun _ _ _ _ h => h) (by kernel_rfl) (HS9.out _ (Below.refl _ _).drew) ?_
          try simp only [Act.put, List.setIfInBounds_toArray, List.set_cons_zero, List.set_cons_succ]
          refine wpAnyH_pass (i := 25) (d := some 76) (by kernel_rfl) (by kernel_rfl) (by kernel_rfl) (by kernel_rfl) (fun _ _ _ _ h => h) (by kernel_rfl) (HS9.out _ (Below.refl _ _).drew) ?_
          try simp only [Act.put, List.setIfInBounds_toArray, List.set_cons_zero, List.set_cons_succ]
          refine wpAnyH_pass (i := 26) (d := some 77) (by kernel_rfl) (by kernel_rfl) (by kernel_rfl) (by kernel_rfl) (fun _ _ _ _ h => h) (by kernel_rfl) (HS9.out _ (Below.refl _ _).drew) ?_
          try simp only [Act.put, List.setIfInBounds_toArray, List.set_cons_zero, List.set_cons_succ]
          refine wpAnyH_pass (i := 27) (d := some 78) (by kernel_rfl) (by kernel_rfl) (by kernel_rfl) (by kernel_rfl) (fun _ _ _ _ h => h) (by kernel_rfl) (HS9.out _ (Below.refl _ _).drew) ?_
          try simp only [Act.put, List.setIfInBounds_toArray, List.set_cons_zero, List.set_cons_succ]
          refine wpAnyH_pass (i := 28) (d := some 79) (by kernel_rfl) (by kernel_rfl) (by kernel_rfl) (by kernel_rfl) (fun _ _ _ _ h => h) (by kernel_rfl) (HS9.out _ (Below.refl _ _).drew) ?_
          try simp only [Act.put, List.setIfInBounds_toArray, List.set_cons_zero, List.set_cons_succ]
          refine wpAnyH_pass (i := 29) (d := some 80) (by kernel_rfl) (by kernel_rfl) (by kernel_rfl) (by kernel_rfl) (fun _ _ _ _ h => h) (by kernel_rfl) (HS9.out _ (Below.refl _ _).drew) ?_
          try simp only [Act.put, List.setIfInBounds_toArray, List.set_cons_zero, List.set_cons_succ]
          refine wpAnyH_pass (i := 30) (d := some 81) (by kernel_rfl) (by kernel_rfl) (by kernel_rfl) (by kernel_rfl) (fun _ _ _ _ h => h) (by kernel_rfl) (HS9.out _ (Below.refl _ _).drew) ?_
          try simp only [Act.put, List.setIfInBounds_toArray, List.set_cons_zero, List.set_cons_succ]
          refine wpAnyH_pass (i := 31) (d := some 82) (by kernel_rfl) (by kernel_rfl) (by kernel_rfl) (by kernel_rfl) (fun _ _ _ _ h => h) (by kernel_rfl) (HS9.out _ (Below.refl _ _).drew) ?_
          try simp only [Act.put, List.setIfInBounds_toArray, List.set_cons_zero, List.set_cons_succ]
          refine wpAnyH_take (i := 32) (v := ?_) rfl (by kernel_rfl) (by kernel_rfl) (by kernel_rfl) (fun _ _ _ h => h) (Or.inl ⟨by rfl, ?_⟩) (HS9.out _ (Below.refl _ _).drew) ?_
          rotate_left
          · (intro w hSw; (try dsimp only at hSw); go_simp; with_reducible rfl)
          try simp only [Act.put, List.setIfInBounds_toArray, List.set_cons_zero, List.set_cons_succ]
          refine wpAnyH_take (i := 33) (v := ?_) rfl (by kernel_rfl) (by kernel_rfl) (by kernel_rfl) (fun _ _ _ h => h) (Or.inl ⟨by rfl, ?_⟩) (HS9.out _ (Below.refl _ _).drew) ?_
          rotate_left
          · (intro w hSw; (try dsimp only at hSw); go_simp; with_reducible rfl)
          try simp only [Act.put, List.setIfInBounds_toArray, List.set_cons_zero, List.set_cons_succ]
          refine wpAnyH_pass (i := 34) (d := some 85) (by kernel_rfl) (by kernel_rfl) (by kernel_rfl) (by kernel_rfl) (fun _ _ _ _ h => h) (by kernel_rfl) (HS9.out _ (Below.refl _ _).drew) ?_
          try simp only [Act.put, List.setIfInBounds_toArray, List.set_cons_zero, List.set_cons_succ]
          refine wpAnyH_pass (i := 35) (d := some 86) (by kernel_rfl) (by kernel_rfl) (by kernel_rfl) (by kernel_rfl) (fun _ _ _ _ h => h) (by kernel_rfl) (HS9.out _ (Below.refl _ _).drew) ?_
          try simp only [Act.put, List.setIfInBounds_toArray, List.set_cons_zero, List.set_cons_succ]
          refine wpAnyH_pass (i := 36) (d := some 87) (by kernel_rfl) (by kernel_rfl) (by kernel_rfl) (by kernel_rfl) (fun _ _ _ _ h => h) (by kernel_rfl) (HS9.out _ (Below.refl _ _).drew) ?_
          try simp only [Act.put, List.setIfInBounds_toArray, List.set_cons_zero, List.set_cons_succ]
          refine wpAnyH_pass (i := 37) (d := some 88) (by kernel_rfl) (by kernel_rfl) (by kernel_rfl) (by kernel_rfl) (fun _ _ _ _ h => h) (by kernel_rfl) (HS9.out _ (Below.refl _ _).drew) ?_
          try simp only [Act.put, List.setIfInBounds_toArray, List.set_cons_zero, List.set_cons_succ]
          refine wpAnyH_pass (i := 38) (d := some 89) (by kernel_rfl) (by kernel_rfl) (by kernel_rfl) (by kernel_rfl) (fun _ _ _ _ h => h) (by kernel_rfl) (HS9.out _ (Below.refl _ _).drew) ?_
          try simp only [Act.put, List.setIfInBounds_toArray, List.set_cons_zero, List.set_cons_succ]
          refine wpAnyH_ready (rs := [39]) (by kernel_rfl) (by simp) ?_
          refine AllReadyH.cons rfl (fun K hK => ?_) AllReadyH.nil
          go_simp
          refine hK.out _ _ (HS9.out _ (Below.refl _ _).drew) (fun hHx => ?_)
          clear hHx hK K
          try simp only [Act.put, List.setIfInBounds_toArray, List.set_cons_zero, List.set_cons_succ]
          refine wpAnyH_done (by kernel_rfl) ?_ _
          go_wp2
          go_ret
          exact ⟨ret_bool (by rw [HR2.out, HS2.out]; rfl), HB2.out.trans (E5.out.drew.mono hw2)⟩
        have hq1 : ((T.length : Int) != (q : Int)) = false := by simp only [bne_eq_false_iff_eq]; omega
        have hlen2 : T.length ≤ 1000 := by omega
        rw [decide_eq_true hlen, Bool.true_and, hac, Bool.true_and] at HTD1
        have GEt := GE T hlen2
        have GTt := GT T hlen2
        clear hlen hac
        cases hless : Op.bytesLess P T
        · have HS2 := hid (hbad.out (by rw [hless]; simp))
          clear hstep hbad
          go_wp2_with fail
          refine wp_region_held_drew (S := fun w' => (w'.cell? ⟨w.heap.size, 0, none⟩ = some (.string (bs nm)) ∧ w'.cell? ⟨w.heap.size, 1, none⟩ = some (.int .i64 (N : Int)) ∧ w'.cell? ⟨w.heap.size, 2, none⟩ = some (.slice A n c) ∧ w'.cell? ⟨w.heap.size + 1, 0, none⟩ = some (.string (bs k1)) ∧ w'.cell? ⟨w.heap.size + 1, 1, none⟩ = some (.string (bs k2)) ∧ w'.cell? ⟨w.heap.size + 1 + 1, 0, none⟩ = some (.slice (some ⟨bt, ot, none⟩) tn tc) ∧ w'.cell? ⟨w.heap.size + 1 + 1, 1, none⟩ = some (.slice CA cn cc) ∧ w'.cell? ⟨w.heap.size + 1 + 1, 2, none⟩ = some (.bool true)) ∧ w'.cell? ⟨bt, ot + l, none⟩ = some (.string (bs T)) ∧ w'.cell? ⟨bt, ot + (l - 1), none⟩ = some (.string (bs P))) (by kernel_rfl) (HS9.out _ (Below.refl _ _).drew) (fun hHeld => ?_)
          refine wpAnyH_take (i := 0) (v := ?_) rfl (by kernel_rfl) (by kernel_rfl) (by kernel_rfl) (fun _ _ _ h => h) (Or.inl ⟨by rfl, ?_⟩) (by assumption) ?_
          rotate_left
          · (intro w hSw; (try dsimp only at hSw); go_simp; with_reducible rfl)
          try simp only [Act.put, List.setIfInBounds_toArray, List.set_cons_zero, List.set_cons_succ]
          refine wpAnyH_ready (rs := [1]) (by kernel_rfl) (by simp) ?_
          refine AllReadyH.cons rfl (fun K hK => ?_) AllReadyH.nil
          go_simp
          go_at_call 45
          refine ((GG.out _)).mono ?_
          rintro e w' ⟨rfl, rfl⟩
          go_wp2_with fail
          refine hK.out _ _ (HS9.out _ (Below.refl _ _).drew) (fun hHx => ?_)
          clear hHx hK K hHeld
          try simp only [Act.put, List.setIfInBounds_toArray, List.set_cons_zero, List.set_cons_succ]
          refine wpAnyH_take (i := 2) (v := ?_) rfl (by kernel_rfl) (by kernel_rfl) (by kernel_rfl) (fun _ _ _ h => h) (Or.inl ⟨by rfl, ?_⟩) (HS9.out _ (Below.refl _ _).drew) ?_
          rotate_left
          · (intro w hSw; (try dsimp only at hSw); go_simp; with_reducible rfl)
          try simp only [Act.put, List.setIfInBounds_toArray, List.set_cons_zero, List.set_cons_succ]
          refine wpAnyH_take (i := 3) (v := ?_) rfl (by kernel_rfl) (by kernel_rfl) (by kernel_rfl) (fun _ _ _ h => h) (Or.inl ⟨by rfl, ?_⟩) (HS9.out _ (Below.refl _ _).drew) ?_
          rotate_left
          · (intro w hSw; (try dsimp only at hSw); go_simp; with_reducible rfl)
          try simp only [Act.put, List.setIfInBounds_toArray, List.set_cons_zero, List.set_cons_succ]
          refine wpAnyH_take (i := 4) (v := ?_) rfl (by kernel_rfl) (by kernel_rfl) (by kernel_rfl) (fun _ _ _ h => h) (Or.inl ⟨by kernel_rfl, ?_⟩) (HS9.out _ (Below.refl _ _).drew) ?_
          rotate_left
          · (intro w hSw; (try dsimp only at hSw); go_simp; with_reducible rfl)
          try simp only [Act.put, List.setIfInBounds_toArray, List.set_cons_zero, List.set_cons_succ]
          refine wpAnyH_take (i := 5) (v := ?_) rfl (by kernel_rfl) (by kernel_rfl) (by kernel_rfl) (fun _ _ _ h => h) (Or.inl ⟨by kernel_rfl, ?_⟩) (HS9.out _ (Below.refl _ _).drew) ?_
          rotate_left
          · (intro w hSw; (try dsimp only at hSw); go_simp; with_reducible rfl)
          try simp only [Act.put, List.setIfInBounds_toArray, List.set_cons_zero, List.set_cons_succ]
          refine wpAnyH_take (i := 6) (v := ?_) rfl (by kernel_rfl) (by kernel_rfl) (by kernel_rfl) (fun _ _ _ h => h) (Or.inl ⟨by kernel_rfl, ?_⟩) (HS9.out _ (Below.refl _ _).drew) ?_
          rotate_left
          · (intro w hSw; (try dsimp only at hSw); go_simp; with_reducible rfl)
          try simp only [Act.put, List.setIfInBounds_toArray, List.set_cons_zero, List.set_cons_succ]
          refine wpAnyH_take (i := 7) (v := ?_) rfl (by kernel_rfl) (by kernel_rfl) (by kernel_rfl) (fun _ _ _ h => h) (Or.inl ⟨by kernel_rfl, ?_⟩) (HS9.out _ (Below.refl _ _).drew) ?_
          rotate_left
          · (intro w hSw; (try dsimp only at hSw); go_simp; with_reducible rfl)
          try simp only [Act.put, List.setIfInBounds_toArray, List.set_cons_zero, List.set_cons_succ]
          refine wpAnyH_take (i := 8) (v := ?_) rfl (by kernel_rfl) (by kernel_rfl) (by kernel_rfl) (fun _ _ _ h => h) (Or.inl ⟨by rfl, ?_⟩) (HS9.out _ (Below.refl _ _).drew) ?_
          rotate_left
          · (intro w hSw; (try dsimp only at hSw); go_simp; with_reducible rfl)
          try simp only [Act.put, List.setIfInBounds_toArray, List.set_cons_zero, List.set_cons_succ]
          refine wpAnyH_take (i := 9) (v := ?_) rfl (by kernel_rfl) (by kernel_rfl) (by kernel_rfl) (fun _ _ _ h => h) (Or.inl ⟨by rfl, ?_⟩) (HS9.out _ (Below.refl _ _).drew) ?_
          rotate_left
          · (intro w hSw; (try dsimp only at hSw); go_simp; with_reducible rfl)
          try simp only [Act.put, List.setIfInBounds_toArray, List.set_cons_zero, List.set_cons_succ]
          refine wpAnyH_take (i := 10) (v := ?_) rfl (by kernel_rfl) (by kernel_rfl) (by kernel_rfl) (fun _ _ _ h => h) (Or.inl ⟨by kernel_rfl, ?_⟩) (HS9.out _ (Below.refl _ _).drew) ?_
          rotate_left
          · (intro w hSw; (try dsimp only at hSw); go_simp; with_reducible rfl)
          try simp only [Act.put, List.setIfInBounds_toArray, List.set_cons_zero, List.set_cons_succ]
          refine wpAnyH_take (i := 11) (v := ?_) rfl (by kernel_rfl) (by kernel_rfl) (by kernel_rfl) (fun _ _ _ h => h) (Or.inl ⟨by kernel_rfl, ?_⟩) (HS9.out _ (Below.refl _ _).drew) ?_
          rotate_left
          · (intro w hSw; (try dsimp only at hSw); go_simp; with_reducible rfl)
          try simp only [Act.put, List.setIfInBounds_toArray, List.set_cons_zero, List.set_cons_succ]
          refine wpAnyH_take (i := 12) (v := ?_) rfl (by kernel_rfl) (by kernel_rfl) (by kernel_rfl) (fun _ _ _ h => h) (Or.inl ⟨by kernel_rfl, ?_⟩) (HS9.out _ (Below.refl _ _).drew) ?_
          rotate_left
          · (intro w hSw; (try dsimp only at hSw); go_simp; with_reducible rfl)
          try simp only [Act.put, List.setIfInBounds_toArray, List.set_cons_zero, List.set_cons_succ]
          refine wpAnyH_take (i := 13) (v := ?_) rfl (by kernel_rfl) (by kernel_rfl) (by kernel_rfl) (fun _ _ _ h => h) (Or.inl ⟨by kernel_rfl, ?_⟩) (HS9.out _ (Below.refl _ _).drew) ?_
          rotate_left
          · (intro w hSw; (try dsimp only at hSw); go_simp; with_reducible rfl)
          try simp only [Act.put, List.setIfInBounds_toArray, List.set_cons_zero, List.set_cons_succ]
          refine wpAnyH_take (i := 14) (v := ?_) rfl (by kernel_rfl) (by kernel_rfl) (by kernel_rfl) (fun _ _ _ h => h) (Or.inl ⟨by kernel_rfl, ?_⟩) (HS9.out _ (Below.refl _ _).drew) ?_
          rotate_left
          · (intro w hSw; (try dsimp only at hSw); go_simp; with_reducible rfl)
          try simp only [Act.put, List.setIfInBounds_toArray, List.set_cons_zero, List.set_cons_succ]
          refine wpAnyH_take (i := 15) (v := ?_) rfl (by kernel_rfl) (by kernel_rfl) (by kernel_rfl) (fun _ _ _ h => h) (Or.inl ⟨by kernel_rfl, ?_⟩) (HS9.out _ (Below.refl _ _).drew) ?_
          rotate_left
          · (intro w hSw; (try dsimp only at hSw); go_simp; with_reducible rfl)
          try simp only [Act.put, List.setIfInBounds_toArray, List.set_cons_zero, List.set_cons_succ]
          refine wpAnyH_take (i := 16) (v := ?_) rfl (by kernel_rfl) (by kernel_rfl) (by kernel_rfl) (fun _ _ _ h => h) (Or.inl ⟨by kernel_rfl, ?_⟩) (HS9.out _ (Below.refl _ _).drew) ?_
          rotate_left
          · (intro w hSw; (try dsimp only at hSw); go_simp; with_reducible rfl)
          try simp only [Act.put, List.setIfInBounds_toArray, List.set_cons_zero, List.set_cons_succ]
          refine wpAnyH_take (i := 17) (v := ?_) rfl (by kernel_rfl) (by kernel_rfl) (by kernel_rfl) (fun _ _ _ h => h) (Or.inl ⟨by kernel_rfl, ?_⟩) (HS9.out _ (Below.refl _ _).drew) ?_
          rotate_left
          · (intro w hSw; (try dsimp only at hSw); go_simp; with_reducible rfl)
          try simp only [Act.put, List.setIfInBounds_toArray, List.set_cons_zero, List.set_cons_succ]
          refine wpAnyH_take (i := 18) (v := ?_) rfl (by kernel_rfl) (by kernel_rfl) (by kernel_rfl) (fun _ _ _ h => h) (Or.inl ⟨by kernel_rfl, ?_⟩) (HS9.out _ (Below.refl _ _).drew) ?_
          rotate_left
          · (intro w hSw; (try dsimp only at hSw); go_simp; with_reducible rfl)
          try simp only [Act.put, List.setIfInBounds_toArray, List.set_cons_zero, List.set_cons_succ]
          refine wpAnyH_take (i := 19) (v := ?_) rfl (by kernel_rfl) (by kernel_rfl) (by kernel_rfl) (fun _ _ _ h => h) (Or.inl ⟨by kernel_rfl, ?_⟩) (HS9.out _ (Below.refl _ _).drew) ?_
          rotate_left
          · (intro w hSw; (try dsimp only at hSw); go_simp; with_reducible rfl)
          try simp only [Act.put, List.setIfInBounds_toArray, List.set_cons_zero, List.set_cons_succ]
          refine wpAnyH_take (i := 20) (v := ?_) rfl (by kernel_rfl) (by kernel_rfl) (by kernel_rfl) (fun _ _ _ h => h) (Or.inl ⟨by kernel_rfl, ?_⟩) (HS9.out _ (Below.refl _ _).drew) ?_
          rotate_left
          · (intro w hSw; (try dsimp only at hSw); go_simp; with_reducible rfl)
          try simp only [Act.put, List.setIfInBounds_toArray, List.set_cons_zero, List.set_cons_succ]
          refine wpAnyH_take (i := 21) (v := ?_) rfl (by kernel_rfl) (by kernel_rfl) (by kernel_rfl) (fun _ _ _ h => h) (Or.inl ⟨by kernel_rfl, ?_⟩) (HS9.out _ (Below.refl _ _).drew) ?_
          rotate_left
          · (intro w hSw; (try dsimp only at hSw); go_simp; with_reducible rfl)
          try simp only [Act.put, List.setIfInBounds_toArray, List.set_cons_zero, List.set_cons_succ]
          refine wpAnyH_take (i := 22) (v := ?_) rfl (by kernel_rfl) (by kernel_rfl) (by kernel_rfl) (fun _ _ _ h => h) (Or.inl ⟨by rfl, ?_⟩) (HS9.out _ (Below.refl _ _).drew) ?_
          rotate_left
          · (intro w hSw; (try dsimp only at hSw); go_simp; with_reducible rfl)
          try simp only [Act.put, List.setIfInBounds_toArray, List.set_cons_zero, List.set_cons_succ]
          refine wpAnyH_take (i := 23) (v := ?_) rfl (by kernel_rfl) (by kernel_rfl) (by kernel_rfl) (fun _ _ _ h => h) (Or.inl ⟨by rfl, ?_⟩) (HS9.out _ (Below.refl _ _).drew) ?_
          rotate_left
          · (intro w hSw; (try dsimp only at hSw); go_simp; with_reducible rfl)
          try simp only [Act.put, List.setIfInBounds_toArray, List.set_cons_zero, List.set_cons_succ]
          refine wpAnyH_pass (i := 24) (d := some 75) (by kernel_rfl) (by kernel_rfl) (by kernel_rfl) (by kernel_rfl) (fun _ _ _ _ h => h) (by kernel_rfl) (HS9.out _ (Below.refl _ _).drew) ?_
          try simp only [Act.put, List.setIfInBounds_toArray, List.set_cons_zero, List.set_cons_succ]
          refine wpAnyH_pass (i := 25) (d := some 76) (by kernel_rfl) (by kernel_rfl) (by kernel_rfl) (by kernel_rfl) (fun _ _ _ _ h => h) (by kernel_rfl) (HS9.out _ (Below.refl _ _).drew) ?_
          try simp only [Act.put, List.setIfInBounds_toArray, List.set_cons_zero, List.set_cons_succ]
          refine wpAnyH_pass (i := 26) (d := some 77) (by kernel_rfl) (by kernel_rfl) (by kernel_rfl) (by kernel_rfl) (fun _ _ _ _ h => h) (by kernel_rfl) (HS9.out _ (Below.refl _ _).drew) ?_
          try simp only [Act.put, List.setIfInBounds_toArray, List.set_cons_zero, List.set_cons_succ]
          refine wpAnyH_pass (i := 27) (d := some 78) (by kernel_rfl) (by kernel_rfl) (by kernel_rfl) (by kernel_rfl) (fun _ _ _ _ h => h) (by kernel_rfl) (HS9.out _ (Below.refl _ _).drew) ?_
          try simp only [Act.put, List.setIfInBounds_toArray, List.set_cons_zero, List.set_cons_succ]
          refine wpAnyH_pass (i := 28) (d := some 79) (by kernel_rfl) (by kernel_rfl) (by kernel_rfl) (by kernel_rfl) (fun _ _ _ _ h => h) (by kernel_rfl) (HS9.out _ (Below.refl _ _).drew) ?_
          try simp only [Act.put, List.setIfInBounds_toArray, List.set_cons_zero, List.set_cons_succ]
          refine wpAnyH_pass (i := 29) (d := some 80) (by kernel_rfl) (by kernel_rfl) (by kernel_rfl) (by kernel_rfl) (fun _ _ _ _ h => h) (by kernel_rfl) (HS9.out _ (Below.refl _ _).drew) ?_
          try simp only [Act.put, List.setIfInBounds_toArray, List.set_cons_zero, List.set_cons_succ]
          refine wpAnyH_pass (i := 30) (d := some 81) (by kernel_rfl) (by kernel_rfl) (by kernel_rfl) (by kernel_rfl) (fun _ _ _ _ h => h) (by kernel_rfl) (HS9.out _ (Below.refl _ _).drew) ?_
          try simp only [Act.put, List.setIfInBounds_toArray, List.set_cons_zero, List.set_cons_succ]
          refine wpAnyH_pass (i := 31) (d := some 82) (by kernel_rfl) (by kernel_rfl) (by kernel_rfl) (by kernel_rfl) (fun _ _ _ _ h => h) (by kernel_rfl) (HS9.out _ (Below.refl _ _).drew) ?_
          try simp only [Act.put, List.setIfInBounds_toArray, List.set_cons_zero, List.set_cons_succ]
          refine wpAnyH_take (i := 32) (v := ?_) rfl (by kernel_rfl) (by kernel_rfl) (by kernel_rfl) (fun _ _ _ h => h) (Or.inl ⟨by rfl, ?_⟩) (HS9.out _ (Below.refl _ _).drew) ?_
          rotate_left
          · (intro w hSw; (try dsimp only at hSw); go_simp; with_reducible rfl)
          try simp only [Act.put, List.setIfInBounds_toArray, List.set_cons_zero, List.set_cons_succ]
          refine wpAnyH_take (i := 33) (v := ?_) rfl (by kernel_rfl) (by kernel_rfl) (by kernel_rfl) (fun _ _ _ h => h) (Or.inl ⟨by rfl, ?_⟩) (HS9.out _ (Below.refl _ _).drew) ?_
          rotate_left
          · (intro w hSw; (try dsimp only at hSw); go_simp; with_reducible rfl)
          try simp only [Act.put, List.setIfInBounds_toArray, List.set_cons_zero, List.set_cons_succ]
          refine wpAnyH_pass (i := 34) (d := some 85) (by kernel_rfl) (by kernel_rfl) (by kernel_rfl) (by kernel_rfl) (fun _ _ _ _ h => h) (by kernel_rfl) (HS9.out _ (Below.refl _ _).drew) ?_
          try simp only [Act.put, List.setIfInBounds_toArray, List.set_cons_zero, List.set_cons_succ]
          refine wpAnyH_pass (i := 35) (d := some 86) (by kernel_rfl) (by kernel_rfl) (by kernel_rfl) (by kernel_rfl) (fun _ _ _ _ h => h) (by kernel_rfl) (HS9.out _ (Below.refl _ _).drew) ?_
          try simp only [Act.put, List.setIfInBounds_toArray, List.set_cons_zero, List.set_cons_succ]
          refine wpAnyH_pass (i := 36) (d := some 87) (by kernel_rfl) (by kernel_rfl) (by kernel_rfl) (by kernel_rfl) (fun _ _ _ _ h => h) (by kernel_rfl) (HS9.out _ (Below.refl _ _).drew) ?_
          try simp only [Act.put, List.setIfInBounds_toArray, List.set_cons_zero, List.set_cons_succ]
          refine wpAnyH_pass (i := 37) (d := some 88) (by kernel_rfl) (by kernel_rfl) (by kernel_rfl) (by kernel_rfl) (fun _ _ _ _ h => h) (by kernel_rfl) (HS9.out _ (Below.refl _ _).drew) ?_
          try simp only [Act.put, List.setIfInBounds_toArray, List.set_cons_zero, List.set_cons_succ]
          refine wpAnyH_pass (i := 38) (d := some 89) (by kernel_rfl) (by kernel_rfl) (by kernel_rfl) (by kernel_rfl) (fun _ _ _ _ h => h) (by kernel_rfl) (HS9.out _ (Below.refl _ _).drew) ?_
          try simp only [Act.put, List.setIfInBounds_toArray, List.set_cons_zero, List.set_cons_succ]
          refine wpAnyH_ready (rs := [39]) (by kernel_rfl) (by simp) ?_
          refine AllReadyH.cons rfl (fun K hK => ?_) AllReadyH.nil
          go_simp
          refine hK.out _ _ (HS9.out _ (Below.refl _ _).drew) (fun hHx => ?_)
          clear hHx hK K
          try simp only [Act.put, List.setIfInBounds_toArray, List.set_cons_zero, List.set_cons_succ]
          refine wpAnyH_done (by kernel_rfl) ?_ _
          go_wp2
          go_ret
          exact ⟨ret_bool (by rw [HR2.out, HS2.out]; rfl), HB2.out.trans (E5.out.drew.mono hw2)⟩
        rw [hless, Bool.and_true] at hstep hbad
        generalize headTo N ch (k1, k2) T T.length = HD at *
        cases hend : (HD == roundsL N)
        · have hne : (HD != roundsL N) = true := by simp [bne, hend]
          have HS2 := hid (hbad.out (by rw [HTD1.out, hend]; simp))
          clear hstep hbad
          go_wp2_with fail
          refine wp_region_held_drew (S := fun w' => (w'.cell? ⟨w.heap.size, 0, none⟩ = some (.string (bs nm)) ∧ w'.cell? ⟨w.heap.size, 1, none⟩ = some (.int .i64 (N : Int)) ∧ w'.cell? ⟨w.heap.size, 2, none⟩ = some (.slice A n c) ∧ w'.cell? ⟨w.heap.size + 1, 0, none⟩ = some (.string (bs k1)) ∧ w'.cell? ⟨w.heap.size + 1, 1, none⟩ = some (.string (bs k2)) ∧ w'.cell? ⟨w.heap.size + 1 + 1, 0, none⟩ = some (.slice (some ⟨bt, ot, none⟩) tn tc) ∧ w'.cell? ⟨w.heap.size + 1 + 1, 1, none⟩ = some (.slice CA cn cc) ∧ w'.cell? ⟨w.heap.size + 1 + 1, 2, none⟩ = some (.bool true)) ∧ w'.cell? ⟨bt, ot + l, none⟩ = some (.string (bs T)) ∧ w'.cell? ⟨bt, ot + (l - 1), none⟩ = some (.string (bs P))) (by kernel_rfl) (HS9.out _ (Below.refl _ _).drew) (fun hHeld => ?_)
          refine wpAnyH_take (i := 0) (v := ?_) rfl (by kernel_rfl) (by kernel_rfl) (by kernel_rfl) (fun _ _ _ h => h) (Or.inl ⟨by rfl, ?_⟩) (by assumption) ?_
          rotate_left
          · (intro w hSw; (try dsimp only at hSw); go_simp; with_reducible rfl)
          try simp only [Act.put, List.setIfInBounds_toArray, List.set_cons_zero, List.set_cons_succ]
          refine wpAnyH_ready (rs := [1]) (by kernel_rfl) (by simp) ?_
          refine AllReadyH.cons rfl (fun K hK => ?_) AllReadyH.nil
          go_simp
          go_at_call 45
          refine ((GG.out _)).mono ?_
          rintro e w' ⟨rfl, rfl⟩
          go_wp2_with fail
          refine hK.out _ _ (HS9.out _ (Below.refl _ _).drew) (fun hHx => ?_)
          clear hHx hK K hHeld
          try simp only [Act.put, List.setIfInBounds_toArray, List.set_cons_zero, List.set_cons_succ]
          refine wpAnyH_take (i := 2) (v := ?_) rfl (by kernel_rfl) (by kernel_rfl) (by kernel_rfl) (fun _ _ _ h => h) (Or.inl ⟨by rfl, ?_⟩) (HS9.out _ (Below.refl _ _).drew) ?_
          rotate_left
          · (intro w hSw; (try dsimp only at hSw); go_simp; with_reducible rfl)
          try simp only [Act.put, List.setIfInBounds_toArray, List.set_cons_zero, List.set_cons_succ]
          refine wpAnyH_take (i := 3) (v := ?_) rfl (by kernel_rfl) (by kernel_rfl) (by kernel_rfl) (fun _ _ _ h => h) (Or.inl ⟨by rfl, ?_⟩) (HS9.out _ (Below.refl _ _).drew) ?_
          rotate_left
          · (intro w hSw; (try dsimp only at hSw); go_simp; with_reducible rfl)
          try simp only [Act.put, List.setIfInBounds_toArray, List.set_cons_zero, List.set_cons_succ]
          refine wpAnyH_take (i := 4) (v := ?_) rfl (by kernel_rfl) (by kernel_rfl) (by kernel_rfl) (fun _ _ _ h => h) (Or.inl ⟨by kernel_rfl, ?_⟩) (HS9.out _ (Below.refl _ _).drew) ?_
          rotate_left
          · (intro w hSw; (try dsimp only at hSw); go_simp; with_reducible rfl)
          try simp only [Act.put, List.setIfInBounds_toArray, List.set_cons_zero, List.set_cons_succ]
          refine wpAnyH_take (i := 5) (v := ?_) rfl (by kernel_rfl) (by kernel_rfl) (by kernel_rfl) (fun _ _ _ h => h) (Or.inl ⟨by kernel_rfl, ?_⟩) (HS9.out _ (Below.refl _ _).drew) ?_
          rotate_left
          · (intro w hSw; (try dsimp only at hSw); go_simp; with_reducible rfl)
          try simp only [Act.put, List.setIfInBounds_toArray, List.set_cons_zero, List.set_cons_succ]
          refine wpAnyH_take (i := 6) (v := ?_) rfl (by kernel_rfl) (by kernel_rfl) (by kernel_rfl) (fun _ _ _ h => h) (Or.inl ⟨by kernel_rfl, ?_⟩) (HS9.out _ (Below.refl _ _).drew) ?_
          rotate_left
          · (intro w hSw; (try dsimp only at hSw); go_simp; with_reducible rfl)
          try simp only [Act.put, List.setIfInBounds_toArray, List.set_cons_zero, List.set_cons_succ]
          refine wpAnyH_take (i := 7) (v := ?_) rfl (by kernel_rfl) (by kernel_rfl) (by kernel_rfl) (fun _ _ _ h => h) (Or.inl ⟨by kernel_rfl, ?_⟩) (HS9.out _ (Below.refl _ _).drew) ?_
          rotate_left
          · (intro w hSw; (try dsimp only at hSw); go_simp; with_reducible rfl)
          try simp only [Act.put, List.setIfInBounds_toArray, List.set_cons_zero, List.set_cons_succ]
          refine wpAnyH_take (i := 8) (v := ?_) rfl (by kernel_rfl) (by kernel_rfl) (by kernel_rfl) (fun _ _ _ h => h) (Or.inl ⟨by rfl, ?_⟩) (HS9.out _ (Below.refl _ _).drew) ?_
          rotate_left
          · (intro w hSw; (try dsimp only at hSw); go_simp; with_reducible rfl)
          try simp only [Act.put, List.setIfInBounds_toArray, List.set_cons_zero, List.set_cons_succ]
          refine wpAnyH_take (i := 9) (v := ?_) rfl (by kernel_rfl) (by kernel_rfl) (by kernel_rfl) (fun _ _ _ h => h) (Or.inl ⟨by rfl, ?_⟩) (HS9.out _ (Below.refl _ _).drew) ?_
          rotate_left
          · (intro w hSw; (try dsimp only at hSw); go_simp; with_reducible rfl)
          try simp only [Act.put, List.setIfInBounds_toArray, List.set_cons_zero, List.set_cons_succ]
          refine wpAnyH_take (i := 10) (v := ?_) rfl (by kernel_rfl) (by kernel_rfl) (by kernel_rfl) (fun _ _ _ h => h) (Or.inl ⟨by kernel_rfl, ?_⟩) (HS9.out _ (Below.refl _ _).drew) ?_
          rotate_left
          · (intro w hSw; (try dsimp only at hSw); go_simp; with_reducible rfl)
          try simp only [Act.put, List.setIfInBounds_toArray, List.set_cons_zero, List.set_cons_succ]
          refine wpAnyH_take (i := 11) (v := ?_) rfl (by kernel_rfl) (by kernel_rfl) (by kernel_rfl) (fun _ _ _ h => h) (Or.inl ⟨by kernel_rfl, ?_⟩) (HS9.out _ (Below.refl _ _).drew) ?_
          rotate_left
          · (intro w hSw; (try dsimp only at hSw); go_simp; with_reducible rfl)
          try simp only [Act.put, List.setIfInBounds_toArray, List.set_cons_zero, List.set_cons_succ]
          refine wpAnyH_take (i := 12) (v := ?_) rfl (by kernel_rfl) (by kernel_rfl) (by kernel_rfl) (fun _ _ _ h => h) (Or.inl ⟨by kernel_rfl, ?_⟩) (HS9.out _ (Below.refl _ _).drew) ?_
          rotate_left
          · (intro w hSw; (try dsimp only at hSw); go_simp; with_reducible rfl)
          try simp only [Act.put, List.setIfInBounds_toArray, List.set_cons_zero, List.set_cons_succ]
          refine wpAnyH_take (i := 13) (v := ?_) rfl (by kernel_rfl) (by kernel_rfl) (by kernel_rfl) (fun _ _ _ h => h) (Or.inl ⟨by kernel_rfl, ?_⟩) (HS9.out _ (Below.refl _ _).drew) ?_
          rotate_left
          · (intro w hSw; (try dsimp only at hSw); go_simp; with_reducible rfl)
          try simp only [Act.put, List.setIfInBounds_toArray, List.set_cons_zero, List.set_cons_succ]
          refine wpAnyH_take (i := 14) (v := ?_) rfl (by kernel_rfl) (by kernel_rfl) (by kernel_rfl) (fun _ _ _ h => h) (Or.inl ⟨by kernel_rfl, ?_⟩) (HS9.out _ (Below.refl _ _).drew) ?_
          rotate_left
          · (intro w hSw; (try dsimp only at hSw); go_simp; with_reducible rfl)
          try simp only [Act.put, List.setIfInBounds_toArray, List.set_cons_zero, List.set_cons_succ]
          refine wpAnyH_take (i := 15) (v := ?_) rfl (by kernel_rfl) (by kernel_rfl) (by kernel_rfl) (fun _ _ _ h => h) (Or.inl ⟨by kernel_rfl, ?_⟩) (HS9.out _ (Below.refl _ _).drew) ?_
          rotate_left
          · (intro w hSw; (try dsimp only at hSw); go_simp; with_reducible rfl)
          try simp only [Act.put, List.setIfInBounds_toArray, List.set_cons_zero, List.set_cons_succ]
          refine wpAnyH_take (i := 16) (v := ?_) rfl (by kernel_rfl) (by kernel_rfl) (by kernel_rfl) (fun _ _ _ h => h) (Or.inl ⟨by kernel_rfl, ?_⟩) (HS9.out _ (Below.refl _ _).drew) ?_
          rotate_left
          · (intro w hSw; (try dsimp only at hSw); go_simp; with_reducible rfl)
          try simp only [Act.put, List.setIfInBounds_toArray, List.set_cons_zero, List.set_cons_succ]
          refine wpAnyH_take (i := 17) (v := ?_) rfl (by kernel_rfl) (by kernel_rfl) (by kernel_rfl) (fun _ _ _ h => h) (Or.inl ⟨by kernel_rfl, ?_⟩) (HS9.out _ (Below.refl _ _).drew) ?_
          rotate_left
          · (intro w hSw; (try dsimp only at hSw); go_simp; with_reducible rfl)
          try simp only [Act.put, List.setIfInBounds_toArray, List.set_cons_zero, List.set_cons_succ]
          refine wpAnyH_take (i := 18) (v := ?_) rfl (by kernel_rfl) (by kernel_rfl) (by kernel_rfl) (fun _ _ _ h => h) (Or.inl ⟨by kernel_rfl, ?_⟩) (HS9.out _ (Below.refl _ _).drew) ?_
          rotate_left
          · (intro w hSw; (try dsimp only at hSw); go_simp; with_reducible rfl)
          try simp only [Act.put, List.setIfInBounds_toArray, List.set_cons_zero, List.set_cons_succ]
          refine wpAnyH_take (i := 19) (v := ?_) rfl (by kernel_rfl) (by kernel_rfl) (by kernel_rfl) (fun _ _ _ h => h) (Or.inl ⟨by kernel_rfl, ?_⟩) (HS9.out _ (Below.refl _ _).drew) ?_
          rotate_left
          · (intro w hSw; (try dsimp only at hSw); go_simp; with_reducible rfl)
          try simp only [Act.put, List.setIfInBounds_toArray, List.set_cons_zero, List.set_cons_succ]
          refine wpAnyH_take (i := 20) (v := ?_) rfl (by kernel_rfl) (by kernel_rfl) (by kernel_rfl) (fun _ _ _ h => h) (Or.inl ⟨by kernel_rfl, ?_⟩) (HS9.out _ (Below.refl _ _).drew) ?_
          rotate_left
          · (intro w hSw; (try dsimp only at hSw); go_simp; with_reducible rfl)
          try simp only [Act.put, List.setIfInBounds_toArray, List.set_cons_zero, List.set_cons_succ]
          refine wpAnyH_take (i := 21) (v := ?_) rfl (by kernel_rfl) (by kernel_rfl) (by kernel_rfl) (fun _ _ _ h => h) (Or.inl ⟨by kernel_rfl, ?_⟩) (HS9.out _ (Below.refl _ _).drew) ?_
          rotate_left
          · (intro w hSw; (try dsimp only at hSw); go_simp; with_reducible rfl)
          try simp only [Act.put, List.setIfInBounds_toArray, List.set_cons_zero, List.set_cons_succ]
          refine wpAnyH_take (i := 22) (v := ?_) rfl (by kernel_rfl) (by kernel_rfl) (by kernel_rfl) (fun _ _ _ h => h) (Or.inl ⟨by rfl, ?_⟩) (HS9.out _ (Below.refl _ _).drew) ?_
          rotate_left
          · (intro w hSw; (try dsimp only at hSw); go_simp; with_reducible rfl)
          try simp only [Act.put, List.setIfInBounds_toArray, List.set_cons_zero, List.set_cons_succ]
          refine wpAnyH_take (i := 23) (v := ?_) rfl (by kernel_rfl) (by kernel_rfl) (by kernel_rfl) (fun _ _ _ h => h) (Or.inl ⟨by rfl, ?_⟩) (HS9.out _ (Below.refl _ _).drew) ?_
          rotate_left
          · (intro w hSw; (try dsimp only at hSw); go_simp; with_reducible rfl)
          try simp only [Act.put, List.setIfInBounds_toArray, List.set_cons_zero, List.set_cons_succ]
          refine wpAnyH_take (i := 24) (v := ?_) rfl (by kernel_rfl) (by kernel_rfl) (by kernel_rfl) (fun _ _ _ h => h) (Or.inl ⟨by kernel_rfl, ?_⟩) (HS9.out _ (Below.refl _ _).drew) ?_
          rotate_left
          · (intro w hSw; (try dsimp only at hSw); go_simp; with_reducible rfl)
          try simp only [Act.put, List.setIfInBounds_toArray, List.set_cons_zero, List.set_cons_succ]
          refine wpAnyH_take (i := 25) (v := ?_) rfl (by kernel_rfl) (by kernel_rfl) (by kernel_rfl) (fun _ _ _ h => h) (Or.inl ⟨by kernel_rfl, ?_⟩) (HS9.out _ (Below.refl _ _).drew) ?_
          rotate_left
          · (intro w hSw; (try dsimp only at hSw); go_simp; with_reducible rfl)
          try simp only [Act.put, List.setIfInBounds_toArray, List.set_cons_zero, List.set_cons_succ]
          refine wpAnyH_take (i := 26) (v := ?_) rfl (by kernel_rfl) (by kernel_rfl) (by kernel_rfl) (fun _ _ _ h => h) (Or.inl ⟨by kernel_rfl, ?_⟩) (HS9.out _ (Below.refl _ _).drew) ?_
          rotate_left
          · (intro w hSw; (try dsimp only at hSw); go_simp; with_reducible rfl)
          try simp only [Act.put, List.setIfInBounds_toArray, List.set_cons_zero, List.set_cons_succ]
          refine wpAnyH_take (i := 28) (v := ?_) rfl (by kernel_rfl) (by kernel_rfl) (by kernel_rfl) (fun _ _ _ h => h) (Or.inl ⟨by kernel_rfl, ?_⟩) (HS9.out _ (Below.refl _ _).drew) ?_
          rotate_left
          · (intro w hSw; (try dsimp only at hSw); go_simp; with_reducible rfl)
          try simp only [Act.put, List.setIfInBounds_toArray, List.set_cons_zero, List.set_cons_succ]
          refine wpAnyH_take (i := 29) (v := ?_) rfl (by kernel_rfl) (by kernel_rfl) (by kernel_rfl) (fun _ _ _ h => h) (Or.inl ⟨by kernel_rfl, ?_⟩) (HS9.out _ (Below.refl _ _).drew) ?_
          rotate_left
          · (intro w hSw; (try dsimp only at hSw); go_simp; with_reducible rfl)
          try simp only [Act.put, List.setIfInBounds_toArray, List.set_cons_zero, List.set_cons_succ]
          refine wpAnyH_ready (rs := [27]) (by kernel_rfl) (by simp) ?_
          refine AllReadyH.cons rfl (fun K hK => ?_) AllReadyH.nil
          go_simp
          go_at_call 46
          refine ((GEt _ (R2.out.below (E5.out.trans ((Below.refl wr.heap.size wr).drew.mono E5.out.size)))).out).mono ?_
          rintro e wa ⟨rfl, ba⟩
          have Fa := (Below.refl wr.heap.size wr).drew.trans (ba.mono (Nat.le_refl _))
          go_wp2_with fail
          refine hK.out _ _ (HS9.out _ Fa) (fun hHx => ?_)
          clear hHx hK K
          try simp only [Act.put, List.setIfInBounds_toArray, List.set_cons_zero, List.set_cons_succ]
          refine wpAnyH_ready (rs := [30]) (by kernel_rfl) (by simp) ?_
          refine AllReadyH.cons rfl (fun K hK => ?_) AllReadyH.nil
          go_simp
          go_at_call 47
          refine ((GR _).out).mono ?_
          rintro e w' ⟨rfl, rfl⟩
          go_wp2_with fail
          refine hK.out _ _ (HS9.out _ Fa) (fun hHx => ?_)
          clear hHx hK K
          try simp only [Act.put, List.setIfInBounds_toArray, List.set_cons_zero, List.set_cons_succ]
          refine wpAnyH_take (i := 31) (v := ?_) rfl (by kernel_rfl) (by kernel_rfl) (by kernel_rfl) (fun _ _ _ h => h) (Or.inl ⟨by kernel_rfl, ?_⟩) (HS9.out _ Fa) ?_
          rotate_left
          · (intro w hSw; (try dsimp only at hSw); go_simp; with_reducible rfl)
          try simp only [Act.put, List.setIfInBounds_toArray, List.set_cons_zero, List.set_cons_succ]
          refine wpAnyH_take (i := 32) (v := ?_) rfl (by kernel_rfl) (by kernel_rfl) (by kernel_rfl) (fun _ _ _ h => h) (Or.inl ⟨by rfl, ?_⟩) (HS9.out _ Fa) ?_
          rotate_left
          · (intro w hSw; (try dsimp only at hSw); go_simp; with_reducible rfl)
          try simp only [Act.put, List.setIfInBounds_toArray, List.set_cons_zero, List.set_cons_succ]
          refine wpAnyH_take (i := 33) (v := ?_) rfl (by kernel_rfl) (by kernel_rfl) (by kernel_rfl) (fun _ _ _ h => h) (Or.inl ⟨by rfl, ?_⟩) (HS9.out _ Fa) ?_
          rotate_left
          · (intro w hSw; (try dsimp only at hSw); go_simp; with_reducible rfl)
          try simp only [Act.put, List.setIfInBounds_toArray, List.set_cons_zero, List.set_cons_succ]
          refine wpAnyH_pass (i := 34) (d := some 85) (by kernel_rfl) (by kernel_rfl) (by kernel_rfl) (by kernel_rfl) (fun _ _ _ _ h => h) (by kernel_rfl) (HS9.out _ Fa) ?_
          try simp only [Act.put, List.setIfInBounds_toArray, List.set_cons_zero, List.set_cons_succ]
          refine wpAnyH_pass (i := 35) (d := some 86) (by kernel_rfl) (by kernel_rfl) (by kernel_rfl) (by kernel_rfl) (fun _ _ _ _ h => h) (by kernel_rfl) (HS9.out _ Fa) ?_
          try simp only [Act.put, List.setIfInBounds_toArray, List.set_cons_zero, List.set_cons_succ]
          refine wpAnyH_pass (i := 36) (d := some 87) (by kernel_rfl) (by kernel_rfl) (by kernel_rfl) (by kernel_rfl) (fun _ _ _ _ h => h) (by kernel_rfl) (HS9.out _ Fa) ?_
          try simp only [Act.put, List.setIfInBounds_toArray, List.set_cons_zero, List.set_cons_succ]
          refine wpAnyH_pass (i := 37) (d := some 88) (by kernel_rfl) (by kernel_rfl) (by kernel_rfl) (by kernel_rfl) (fun _ _ _ _ h => h) (by kernel_rfl) (HS9.out _ Fa) ?_
          try simp only [Act.put, List.setIfInBounds_toArray, List.set_cons_zero, List.set_cons_succ]
          refine wpAnyH_pass (i := 38) (d := some 89) (by kernel_rfl) (by kernel_rfl) (by kernel_rfl) (by kernel_rfl) (fun _ _ _ _ h => h) (by kernel_rfl) (HS9.out _ Fa) ?_
          try simp only [Act.put, List.setIfInBounds_toArray, List.set_cons_zero, List.set_cons_succ]
          refine wpAnyH_ready (rs := [39]) (by kernel_rfl) (by simp) ?_
          refine AllReadyH.cons rfl (fun K hK => ?_) AllReadyH.nil
          go_simp
          refine hK.out _ _ (HS9.out _ Fa) (fun hHx => ?_)
          clear hHx hK K
          try simp only [Act.put, List.setIfInBounds_toArray, List.set_cons_zero, List.set_cons_succ]
          refine wpAnyH_done (by kernel_rfl) ?_ _
          have HFa := hid Fa
          clear ba Fa
          go_wp2
          go_ret
          exact ⟨ret_bool (by rw [HR2.out, HS2.out]; rfl), HB2.out.trans ((E5.out.trans (HFa.out.mono E5.out.size)).mono hw2)⟩
        have hne : (HD != roundsL N) = false := by simp [bne, hend]
        rw [hend, Bool.true_and] at HTD1
        generalize (tr && decide (clashN N ch (k1, k2) T = 0)) = B1 at *
        cases B1
        · have HS2 := hid (hbad.out (by rw [HTD1.out]; try simp))
          clear hstep hbad
          go_wp2_with fail
          refine wp_region_held_drew (S := fun w' => (w'.cell? ⟨w.heap.size, 0, none⟩ = some (.string (bs nm)) ∧ w'.cell? ⟨w.heap.size, 1, none⟩ = some (.int .i64 (N : Int)) ∧ w'.cell? ⟨w.heap.size, 2, none⟩ = some (.slice A n c) ∧ w'.cell? ⟨w.heap.size + 1, 0, none⟩ = some (.string (bs k1)) ∧ w'.cell? ⟨w.heap.size + 1, 1, none⟩ = some (.string (bs k2)) ∧ w'.cell? ⟨w.heap.size + 1 + 1, 0, none⟩ = some (.slice (some ⟨bt, ot, none⟩) tn tc) ∧ w'.cell? ⟨w.heap.size + 1 + 1, 1, none⟩ = some (.slice CA cn cc) ∧ w'.cell? ⟨w.heap.size + 1 + 1, 2, none⟩ = some (.bool true)) ∧ w'.cell? ⟨bt, ot + l, none⟩ = some (.string (bs T)) ∧ w'.cell? ⟨bt, ot + (l - 1), none⟩ = some (.string (bs P))) (by kernel_rfl) (HS9.out _ (Below.refl _ _).drew) (fun hHeld => ?_)
          refine wpAnyH_take (i := 0) (v := ?_) rfl (by kernel_rfl) (by kernel_rfl) (by kernel_rfl) (fun _ _ _ h => h) (Or.inl ⟨by rfl, ?_⟩) (by assumption) ?_
          rotate_left
          · (intro w hSw; (try dsimp only at hSw); go_simp; with_reducible rfl)
          try simp only [Act.put, List.setIfInBounds_toArray, List.set_cons_zero, List.set_cons_succ]
          refine wpAnyH_ready (rs := [1]) (by kernel_rfl) (by simp) ?_
          refine AllReadyH.cons rfl (fun K hK => ?_) AllReadyH.nil
          go_simp
          go_at_call 45
          refine ((GG.out _)).mono ?_
          rintro e w' ⟨rfl, rfl⟩
          go_wp2_with fail
          refine hK.out _ _ (HS9.out _ (Below.refl _ _).drew) (fun hHx => ?_)
          clear hHx hK K hHeld
          try simp only [Act.put, List.setIfInBounds_toArray, List.set_cons_zero, List.set_cons_succ]
          refine wpAnyH_take (i := 2) (v := ?_) rfl (by kernel_rfl) (by kernel_rfl) (by kernel_rfl) (fun _ _ _ h => h) (Or.inl ⟨by rfl, ?_⟩) (HS9.out _ (Below.refl _ _).drew) ?_
          rotate_left
          · (intro w hSw; (try dsimp only at hSw); go_simp; with_reducible rfl)
          try simp only [Act.put, List.setIfInBounds_toArray, List.set_cons_zero, List.set_cons_succ]
          refine wpAnyH_take (i := 3) (v := ?_) rfl (by kernel_rfl) (by kernel_rfl) (by kernel_rfl) (fun _ _ _ h => h) (Or.inl ⟨by rfl, ?_⟩) (HS9.out _ (Below.refl _ _).drew) ?_
          rotate_left
          · (intro w hSw; (try dsimp only at hSw); go_simp; with_reducible rfl)
          try simp only [Act.put, List.setIfInBounds_toArray, List.set_cons_zero, List.set_cons_succ]
          refine wpAnyH_take (i := 4) (v := ?_) rfl (by kernel_rfl) (by kernel_rfl) (by kernel_rfl) (fun _ _ _ h => h) (Or.inl ⟨by kernel_rfl, ?_⟩) (HS9.out _ (Below.refl _ _).drew) ?_
          rotate_left
          · (intro w hSw; (try dsimp only at hSw); go_simp; with_reducible rfl)
          try simp only [Act.put, List.setIfInBounds_toArray, List.set_cons_zero, List.set_cons_succ]
          refine wpAnyH_take (i := 5) (v := ?_) rfl (by kernel_rfl) (by kernel_rfl) (by kernel_rfl) (fun _ _ _ h => h) (Or.inl ⟨by kernel_rfl, ?_⟩) (HS9.out _ (Below.refl _ _).drew) ?_
          rotate_left
          · (intro w hSw; (try dsimp only at hSw); go_simp; with_reducible rfl)
          try simp only [Act.put, List.setIfInBounds_toArray, List.set_cons_zero, List.set_cons_succ]
          refine wpAnyH_take (i := 6) (v := ?_) rfl (by kernel_rfl) (by kernel_rfl) (by kernel_rfl) (fun _ _ _ h => h) (Or.inl ⟨by kernel_rfl, ?_⟩) (HS9.out _ (Below.refl _ _).drew) ?_
          rotate_left
          · (intro w hSw; (try dsimp only at hSw); go_simp; with_reducible rfl)
          try simp only [Act.put, List.setIfInBounds_toArray, List.set_cons_zero, List.set_cons_succ]
          refine wpAnyH_take (i := 7) (v := ?_) rfl (by kernel_rfl) (by kernel_rfl) (by kernel_rfl) (fun _ _ _ h => h) (Or.inl ⟨by kernel_rfl, ?_⟩) (HS9.out _ (Below.refl _ _).drew) ?_
          rotate_left
          · (intro w hSw; (try dsimp only at hSw); go_simp; with_reducible rfl)
          try simp only [Act.put, List.setIfInBounds_toArray, List.set_cons_zero, List.set_cons_succ]
          refine wpAnyH_take (i := 8) (v := ?_) rfl (by kernel_rfl) (by kernel_rfl) (by kernel_rfl) (fun _ _ _ h => h) (Or.inl ⟨by rfl, ?_⟩) (HS9.out _ (Below.refl _ _).drew) ?_
          rotate_left
          · (intro w hSw; (try dsimp only at hSw); go_simp; with_reducible rfl)
          try simp only [Act.put, List.setIfInBounds_toArray, List.set_cons_zero, List.set_cons_succ]
          refine wpAnyH_take (i := 9) (v := ?_) rfl (by kernel_rfl) (by kernel_rfl) (by kernel_rfl) (fun _ _ _ h => h) (Or.inl ⟨by rfl, ?_⟩) (HS9.out _ (Below.refl _ _).drew) ?_
          rotate_left
          · (intro w hSw; (try dsimp only at hSw); go_simp; with_reducible rfl)
          try simp only [Act.put, List.setIfInBounds_toArray, List.set_cons_zero, List.set_cons_succ]
          refine wpAnyH_take (i := 10) (v := ?_) rfl (by kernel_rfl) (by kernel_rfl) (by kernel_rfl) (fun _ _ _ h => h) (Or.inl ⟨by kernel_rfl, ?_⟩) (HS9.out _ (Below.refl _ _).drew) ?_
          rotate_left
          · (intro w hSw; (try dsimp only at hSw); go_simp; with_reducible rfl)
          try simp only [Act.put, List.setIfInBounds_toArray, List.set_cons_zero, List.set_cons_succ]
          refine wpAnyH_take (i := 11) (v := ?_) rfl (by kernel_rfl) (by kernel_rfl) (by kernel_rfl) (fun _ _ _ h => h) (Or.inl ⟨by kernel_rfl, ?_⟩) (HS9.out _ (Below.refl _ _).drew) ?_
          rotate_left
          · (intro w hSw; (try dsimp only at hSw); go_simp; with_reducible rfl)
          try simp only [Act.put, List.setIfInBounds_toArray, List.set_cons_zero, List.set_cons_succ]
          refine wpAnyH_take (i := 12) (v := ?_) rfl (by kernel_rfl) (by kernel_rfl) (by kernel_rfl) (fun _ _ _ h => h) (Or.inl ⟨by kernel_rfl, ?_⟩) (HS9.out _ (Below.refl _ _).drew) ?_
          rotate_left
          · (intro w hSw; (try dsimp only at hSw); go_simp; with_reducible rfl)
          try simp only [Act.put, List.setIfInBounds_toArray, List.set_cons_zero, List.set_cons_succ]
          refine wpAnyH_take (i := 13) (v := ?_) rfl (by kernel_rfl) (by kernel_rfl) (by kernel_rfl) (fun _ _ _ h => h) (Or.inl ⟨by kernel_rfl, ?_⟩) (HS9.out _ (Below.refl _ _).drew) ?_
          rotate_left
          · (intro w hSw; (try dsimp only at hSw); go_simp; with_reducible rfl)
          try simp only [Act.put, List.setIfInBounds_toArray, List.set_cons_zero, List.set_cons_succ]
          refine wpAnyH_take (i := 14) (v := ?_) rfl (by kernel_rfl) (by kernel_rfl) (by kernel_rfl) (fun _ _ _ h => h) (Or.inl ⟨by kernel_rfl, ?_⟩) (HS9.out _ (Below.refl _ _).drew) ?_
          rotate_left
          · (intro w hSw; (try dsimp only at hSw); go_simp; with_reducible rfl)
          try simp only [Act.put, List.setIfInBounds_toArray, List.set_cons_zero, List.set_cons_succ]
          refine wpAnyH_take (i := 15) (v := ?_) rfl (by kernel_rfl) (by kernel_rfl) (by kernel_rfl) (fun _ _ _ h => h) (Or.inl ⟨by kernel_rfl, ?_⟩) (HS9.out _ (Below.refl _ _).drew) ?_
          rotate_left
          · (intro w hSw; (try dsimp only at hSw); go_simp; with_reducible rfl)
          try simp only [Act.put, List.setIfInBounds_toArray, List.set_cons_zero, List.set_cons_succ]
          refine wpAnyH_take (i := 16) (v := ?_) rfl (by kernel_rfl) (by kernel_rfl) (by kernel_rfl) (fun _ _ _ h => h) (Or.inl ⟨by kernel_rfl, ?_⟩) (HS9.out _ (Below.refl _ _).drew) ?_
          rotate_left
          · (intro w hSw; (try dsimp only at hSw); go_simp; with_reducible rfl)
          try simp only [Act.put, List.setIfInBounds_toArray, List.set_cons_zero, List.set_cons_succ]
          refine wpAnyH_take (i := 17) (v := ?_) rfl (by kernel_rfl) (by kernel_rfl) (by kernel_rfl) (fun _ _ _ h => h) (Or.inl ⟨by kernel_rfl, ?_⟩) (HS9.out _ (Below.refl _ _).drew) ?_
          rotate_left
          · (intro w hSw; (try dsimp only at hSw); go_simp; with_reducible rfl)
          try simp only [Act.put, List.setIfInBounds_toArray, List.set_cons_zero, List.set_cons_succ]
          refine wpAnyH_take (i := 18) (v := ?_) rfl (by kernel_rfl) (by kernel_rfl) (by kernel_rfl) (fun _ _ _ h => h) (Or.inl ⟨by kernel_rfl, ?_⟩) (HS9.out _ (Below.refl _ _).drew) ?_
          rotate_left
          · (intro w hSw; (try dsimp only at hSw); go_simp; with_reducible rfl)
          try simp only [Act.put, List.setIfInBounds_toArray, List.set_cons_zero, List.set_cons_succ]
          refine wpAnyH_take (i := 19) (v := ?_) rfl (by kernel_rfl) (by kernel_rfl) (by kernel_rfl) (fun _ _ _ h => h) (Or.inl ⟨by kernel_rfl, ?_⟩) (HS9.out _ (Below.refl _ _).drew) ?_
          rotate_left
          · (intro w hSw; (try dsimp only at hSw); go_simp; with_reducible rfl)
          try simp only [Act.put, List.setIfInBounds_toArray, List.set_cons_zero, List.set_cons_succ]
          refine wpAnyH_take (i := 20) (v := ?_) rfl (by kernel_rfl) (by kernel_rfl) (by kernel_rfl) (fun _ _ _ h => h) (Or.inl ⟨by kernel_rfl, ?_⟩) (HS9.out _ (Below.refl _ _).drew) ?_
          rotate_left
          · (intro w hSw; (try dsimp only at hSw); go_simp; with_reducible rfl)
          try simp only [Act.put, List.setIfInBounds_toArray, List.set_cons_zero, List.set_cons_succ]
          refine wpAnyH_take (i := 21) (v := ?_) rfl (by kernel_rfl) (by kernel_rfl) (by kernel_rfl) (fun _ _ _ h => h) (Or.inl ⟨by kernel_rfl, ?_⟩) (HS9.out _ (Below.refl _ _).drew) ?_
          rotate_left
          · (intro w hSw; (try dsimp only at hSw); go_simp; with_reducible rfl)
          try simp only [Act.put, List.setIfInBounds_toArray, List.set_cons_zero, List.set_cons_succ]
          refine wpAnyH_take (i := 22) (v := ?_) rfl (by kernel_rfl) (by kernel_rfl) (by kernel_rfl) (fun _ _ _ h => h) (Or.inl ⟨by rfl, ?_⟩) (HS9.out _ (Below.refl _ _).drew) ?_
          rotate_left
          · (intro w hSw; (try dsimp only at hSw); go_simp; with_reducible rfl)
          try simp only [Act.put, List.setIfInBounds_toArray, List.set_cons_zero, List.set_cons_succ]
          refine wpAnyH_take (i := 23) (v := ?_) rfl (by kernel_rfl) (by kernel_rfl) (by kernel_rfl) (fun _ _ _ h => h) (Or.inl ⟨by rfl, ?_⟩) (HS9.out _ (Below.refl _ _).drew) ?_
          rotate_left
          · (intro w hSw; (try dsimp only at hSw); go_simp; with_reducible rfl)
          try simp only [Act.put, List.setIfInBounds_toArray, List.set_cons_zero, List.set_cons_succ]
          refine wpAnyH_take (i := 24) (v := ?_) rfl (by kernel_rfl) (by kernel_rfl) (by kernel_rfl) (fun _ _ _ h => h) (Or.inl ⟨by kernel_rfl, ?_⟩) (HS9.out _ (Below.refl _ _).drew) ?_
          rotate_left
          · (intro w hSw; (try dsimp only at hSw); go_simp; with_reducible rfl)
          try simp only [Act.put, List.setIfInBounds_toArray, List.set_cons_zero, List.set_cons_succ]
          refine wpAnyH_take (i := 25) (v := ?_) rfl (by kernel_rfl) (by kernel_rfl) (by kernel_rfl) (fun _ _ _ h => h) (Or.inl ⟨by kernel_rfl, ?_⟩) (HS9.out _ (Below.refl _ _).drew) ?_
          rotate_left
          · (intro w hSw; (try dsimp only at hSw); go_simp; with_reducible rfl)
          try simp only [Act.put, List.setIfInBounds_toArray, List.set_cons_zero, List.set_cons_succ]
          refine wpAnyH_take (i := 26) (v := ?_) rfl (by kernel_rfl) (by kernel_rfl) (by kernel_rfl) (fun _ _ _ h => h) (Or.inl ⟨by kernel_rfl, ?_⟩) (HS9.out _ (Below.refl _ _).drew) ?_
          rotate_left
          · (intro w hSw; (try dsimp only at hSw); go_simp; with_reducible rfl)
          try simp only [Act.put, List.setIfInBounds_toArray, List.set_cons_zero, List.set_cons_succ]
          refine wpAnyH_take (i := 28) (v := ?_) rfl (by kernel_rfl) (by kernel_rfl) (by kernel_rfl) (fun _ _ _ h => h) (Or.inl ⟨by kernel_rfl, ?_⟩) (HS9.out _ (Below.refl _ _).drew) ?_
          rotate_left
          · (intro w hSw; (try dsimp only at hSw); go_simp; with_reducible rfl)
          try simp only [Act.put, List.setIfInBounds_toArray, List.set_cons_zero, List.set_cons_succ]
          refine wpAnyH_take (i := 29) (v := ?_) rfl (by kernel_rfl) (by kernel_rfl) (by kernel_rfl) (fun _ _ _ h => h) (Or.inl ⟨by kernel_rfl, ?_⟩) (HS9.out _ (Below.refl _ _).drew) ?_
          rotate_left
          · (intro w hSw; (try dsimp only at hSw); go_simp; with_reducible rfl)
          try simp only [Act.put, List.setIfInBounds_toArray, List.set_cons_zero, List.set_cons_succ]
          refine wpAnyH_ready (rs := [27]) (by kernel_rfl) (by simp) ?_
          refine AllReadyH.cons rfl (fun K hK => ?_) AllReadyH.nil
          go_simp
          go_at_call 46
          refine ((GEt _ (R2.out.below (E5.out.trans ((Below.refl wr.heap.size wr).drew.mono E5.out.size)))).out).mono ?_
          rintro e wa ⟨rfl, ba⟩
          have Fa := (Below.refl wr.heap.size wr).drew.trans (ba.mono (Nat.le_refl _))
          go_wp2_with fail
          refine hK.out _ _ (HS9.out _ Fa) (fun hHx => ?_)
          clear hHx hK K
          try simp only [Act.put, List.setIfInBounds_toArray, List.set_cons_zero, List.set_cons_succ]
          refine wpAnyH_ready (rs := [30]) (by kernel_rfl) (by simp) ?_
          refine AllReadyH.cons rfl (fun K hK => ?_) AllReadyH.nil
          go_simp
          go_at_call 47
          refine ((GR _).out).mono ?_
          rintro e w' ⟨rfl, rfl⟩
          go_wp2_with fail
          refine hK.out _ _ (HS9.out _ Fa) (fun hHx => ?_)
          clear hHx hK K
          try simp only [Act.put, List.setIfInBounds_toArray, List.set_cons_zero, List.set_cons_succ]
          refine wpAnyH_take (i := 31) (v := ?_) rfl (by kernel_rfl) (by kernel_rfl) (by kernel_rfl) (fun _ _ _ h => h) (Or.inl ⟨by kernel_rfl, ?_⟩) (HS9.out _ Fa) ?_
          rotate_left
          · (intro w hSw; (try dsimp only at hSw); go_simp; with_reducible rfl)
          try simp only [Act.put, List.setIfInBounds_toArray, List.set_cons_zero, List.set_cons_succ]
          refine wpAnyH_take (i := 32) (v := ?_) rfl (by kernel_rfl) (by kernel_rfl) (by kernel_rfl) (fun _ _ _ h => h) (Or.inl ⟨by rfl, ?_⟩) (HS9.out _ Fa) ?_
          rotate_left
          · (intro w hSw; (try dsimp only at hSw); go_simp; with_reducible rfl)
          try simp only [Act.put, List.setIfInBounds_toArray, List.set_cons_zero, List.set_cons_succ]
          refine wpAnyH_take (i := 33) (v := ?_) rfl (by kernel_rfl) (by kernel_rfl) (by kernel_rfl) (fun _ _ _ h => h) (Or.inl ⟨by rfl, ?_⟩) (HS9.out _ Fa) ?_
          rotate_left
          · (intro w hSw; (try dsimp only at hSw); go_simp; with_reducible rfl)
          try simp only [Act.put, List.setIfInBounds_toArray, List.set_cons_zero, List.set_cons_succ]
          refine wpAnyH_take (i := 34) (v := ?_) rfl (by kernel_rfl) (by kernel_rfl) (by kernel_rfl) (fun _ _ _ h => h) (Or.inl ⟨by kernel_rfl, ?_⟩) (HS9.out _ Fa) ?_
          rotate_left
          · (intro w hSw; (try dsimp only at hSw); go_simp; with_reducible rfl)
          try simp only [Act.put, List.setIfInBounds_toArray, List.set_cons_zero, List.set_cons_succ]
          refine wpAnyH_take (i := 35) (v := ?_) rfl (by kernel_rfl) (by kernel_rfl) (by kernel_rfl) (fun _ _ _ h => h) (Or.inl ⟨by kernel_rfl, ?_⟩) (HS9.out _ Fa) ?_
          rotate_left
          · (intro w hSw; (try dsimp only at hSw); go_simp; with_reducible rfl)
          try simp only [Act.put, List.setIfInBounds_toArray, List.set_cons_zero, List.set_cons_succ]
          refine wpAnyH_take (i := 36) (v := ?_) rfl (by kernel_rfl) (by kernel_rfl) (by kernel_rfl) (fun _ _ _ h => h) (Or.inl ⟨by kernel_rfl, ?_⟩) (HS9.out _ Fa) ?_
          rotate_left
          · (intro w hSw; (try dsimp only at hSw); go_simp; with_reducible rfl)
          try simp only [Act.put, List.setIfInBounds_toArray, List.set_cons_zero, List.set_cons_succ]
          refine wpAnyH_ready (rs := [37]) (by kernel_rfl) (by simp) ?_
          refine AllReadyH.cons rfl (fun K hK => ?_) AllReadyH.nil
          go_simp
          go_at_call 48
          refine ((GTt _ (R2.out.below (E5.out.trans (Fa.mono E5.out.size)))).out).mono ?_
          rintro e wb ⟨rfl, bb⟩
          have Fb := Fa.trans (bb.mono Fa.size)
          go_wp2_with fail
          refine hK.out _ _ (HS9.out _ Fb) (fun hHx => ?_)
          clear hHx hK K
          try simp only [Act.put, List.setIfInBounds_toArray, List.set_cons_zero, List.set_cons_succ]
          refine wpAnyH_take (i := 38) (v := ?_) rfl (by kernel_rfl) (by kernel_rfl) (by kernel_rfl) (fun _ _ _ h => h) (Or.inl ⟨by kernel_rfl, ?_⟩) (HS9.out _ Fb) ?_
          rotate_left
          · (intro w hSw; (try dsimp only at hSw); go_simp; with_reducible rfl)
          try simp only [Act.put, List.setIfInBounds_toArray, List.set_cons_zero, List.set_cons_succ]
          refine wpAnyH_ready (rs := [39]) (by kernel_rfl) (by simp) ?_
          refine AllReadyH.cons rfl (fun K hK => ?_) AllReadyH.nil
          go_simp
          refine hK.out _ _ (HS9.out _ Fb) (fun hHx => ?_)
          clear hHx hK K
          try simp only [Act.put, List.setIfInBounds_toArray, List.set_cons_zero, List.set_cons_succ]
          refine wpAnyH_done (by kernel_rfl) ?_ _
          have HFb := hid Fb
          clear ba bb Fa Fb
          go_wp2
          go_ret
          exact ⟨ret_bool (by rw [HR2.out, HS2.out]; rfl), HB2.out.trans ((E5.out.trans (HFb.out.mono E5.out.size)).mono hw2)⟩
        · have HS2 := hid (hstep.out (by rw [HTD1.out]; try simp))
          clear hstep hbad
          go_wp2_with fail
          refine wp_region_held_drew (S := fun w' => (w'.cell? ⟨w.heap.size, 0, none⟩ = some (.string (bs nm)) ∧ w'.cell? ⟨w.heap.size, 1, none⟩ = some (.int .i64 (N : Int)) ∧ w'.cell? ⟨w.heap.size, 2, none⟩ = some (.slice A n c) ∧ w'.cell? ⟨w.heap.size + 1, 0, none⟩ = some (.string (bs k1)) ∧ w'.cell? ⟨w.heap.size + 1, 1, none⟩ = some (.string (bs k2)) ∧ w'.cell? ⟨w.heap.size + 1 + 1, 0, none⟩ = some (.slice (some ⟨bt, ot, none⟩) tn tc) ∧ w'.cell? ⟨w.heap.size + 1 + 1, 1, none⟩ = some (.slice CA cn cc) ∧ w'.cell? ⟨w.heap.size + 1 + 1, 2, none⟩ = some (.bool true)) ∧ w'.cell? ⟨bt, ot + l, none⟩ = some (.string (bs T)) ∧ w'.cell? ⟨bt, ot + (l - 1), none⟩ = some (.string (bs P))) (by kernel_rfl) (HS9.out _ (Below.refl _ _).drew) (fun hHeld => ?_)
          refine wpAnyH_take (i := 0) (v := ?_) rfl (by kernel_rfl) (by kernel_rfl) (by kernel_rfl) (fun _ _ _ h => h) (Or.inl ⟨by rfl, ?_⟩) (by assumption) ?_
          rotate_left
          · (intro w hSw; (try dsimp only at hSw); go_simp; with_reducible rfl)
          try simp only [Act.put, List.setIfInBounds_toArray, List.set_cons_zero, List.set_cons_succ]
          refine wpAnyH_ready (rs := [1]) (by kernel_rfl) (by simp) ?_
          refine AllReadyH.cons rfl (fun K hK => ?_) AllReadyH.nil
          go_simp
          go_at_call 45
          refine ((GG.out _)).mono ?_
          rintro e w' ⟨rfl, rfl⟩
          go_wp2_with fail
          refine hK.out _ _ (HS9.out _ (Below.refl _ _).drew) (fun hHx => ?_)
          clear hHx hK K hHeld
          try simp only [Act.put, List.setIfInBounds_toArray, List.set_cons_zero, List.set_cons_succ]
          refine wpAnyH_take (i := 2) (v := ?_) rfl (by kernel_rfl) (by kernel_rfl) (by kernel_rfl) (fun _ _ _ h => h) (Or.inl ⟨by rfl, ?_⟩) (HS9.out _ (Below.refl _ _).drew) ?_
          rotate_left
          · (intro w hSw; (try dsimp only at hSw); go_simp; with_reducible rfl)
          try simp only [Act.put, List.setIfInBounds_toArray, List.set_cons_zero, List.set_cons_succ]
          refine wpAnyH_take (i := 3) (v := ?_) rfl (by kernel_rfl) (by kernel_rfl) (by kernel_rfl) (fun _ _ _ h => h) (Or.inl ⟨by rfl, ?_⟩) (HS9.out _ (Below.refl _ _).drew) ?_
          rotate_left
          · (intro w hSw; (try dsimp only at hSw); go_simp; with_reducible rfl)
          try simp only [Act.put, List.setIfInBounds_toArray, List.set_cons_zero, List.set_cons_succ]
          refine wpAnyH_take (i := 4) (v := ?_) rfl (by kernel_rfl) (by kernel_rfl) (by kernel_rfl) (fun _ _ _ h => h) (Or.inl ⟨by kernel_rfl, ?_⟩) (HS9.out _ (Below.refl _ _).drew) ?_
          rotate_left
          · (intro w hSw; (try dsimp only at hSw); go_simp; with_reducible rfl)
          try simp only [Act.put, List.setIfInBounds_toArray, List.set_cons_zero, List.set_cons_succ]
          refine wpAnyH_take (i := 5) (v := ?_) rfl (by kernel_rfl) (by kernel_rfl) (by kernel_rfl) (fun _ _ _ h => h) (Or.inl ⟨by kernel_rfl, ?_⟩) (HS9.out _ (Below.refl _ _).drew) ?_
          rotate_left
          · (intro w hSw; (try dsimp only at hSw); go_simp; with_reducible rfl)
          try simp only [Act.put, List.setIfInBounds_toArray, List.set_cons_zero, List.set_cons_succ]
          refine wpAnyH_take (i := 6) (v := ?_) rfl (by kernel_rfl) (by kernel_rfl) (by kernel_rfl) (fun _ _ _ h => h) (Or.inl ⟨by kernel_rfl, ?_⟩) (HS9.out _ (Below.refl _ _).drew) ?_
          rotate_left
          · (intro w hSw; (try dsimp only at hSw); go_simp; with_reducible rfl)
          try simp only [Act.put, List.setIfInBounds_toArray, List.set_cons_zero, List.set_cons_succ]
          refine wpAnyH_take (i := 7) (v := ?_) rfl (by kernel_rfl) (by kernel_rfl) (by kernel_rfl) (fun _ _ _ h => h) (Or.inl ⟨by kernel_rfl, ?_⟩) (HS9.out _ (Below.refl _ _).drew) ?_
          rotate_left
          · (intro w hSw; (try dsimp only at hSw); go_simp; with_reducible rfl)
          try simp only [Act.put, List.setIfInBounds_toArray, List.set_cons_zero, List.set_cons_succ]
          refine wpAnyH_take (i := 8) (v := ?_) rfl (by kernel_rfl) (by kernel_rfl) (by kernel_rfl) (fun _ _ _ h => h) (Or.inl ⟨by rfl, ?_⟩) (HS9.out _ (Below.refl _ _).drew) ?_
          rotate_left
          · (intro w hSw; (try dsimp only at hSw); go_simp; with_reducible rfl)
          try simp only [Act.put, List.setIfInBounds_toArray, List.set_cons_zero, List.set_cons_succ]
          refine wpAnyH_take (i := 9) (v := ?_) rfl (by kernel_rfl) (by kernel_rfl) (by kernel_rfl) (fun _ _ _ h => h) (Or.inl ⟨by rfl, ?_⟩) (HS9.out _ (Below.refl _ _).drew) ?_
          rotate_left
          · (intro w hSw; (try dsimp only at hSw); go_simp; with_reducible rfl)
          try simp only [Act.put, List.setIfInBounds_toArray, List.set_cons_zero, List.set_cons_succ]
          refine wpAnyH_take (i := 10) (v := ?_) rfl (by kernel_rfl) (by kernel_rfl) (by kernel_rfl) (fun _ _ _ h => h) (Or.inl ⟨by kernel_rfl, ?_⟩) (HS9.out _ (Below.refl _ _).drew) ?_
          rotate_left
          · (intro w hSw; (try dsimp only at hSw); go_simp; with_reducible rfl)
          try simp only [Act.put, List.setIfInBounds_toArray, List.set_cons_zero, List.set_cons_succ]
          refine wpAnyH_take (i := 11) (v := ?_) rfl (by kernel_rfl) (by kernel_rfl) (by kernel_rfl) (fun _ _ _ h => h) (Or.inl ⟨by kernel_rfl, ?_⟩) (HS9.out _ (Below.refl _ _).drew) ?_
          rotate_left
          · (intro w hSw; (try dsimp only at hSw); go_simp; with_reducible rfl)
          try simp only [Act.put, List.setIfInBounds_toArray, List.set_cons_zero, List.set_cons_succ]
          refine wpAnyH_take (i := 12) (v := ?_) rfl (by kernel_rfl) (by kernel_rfl) (by kernel_rfl) (fun _ _ _ h => h) (Or.inl ⟨by kernel_rfl, ?_⟩) (HS9.out _ (Below.refl _ _).drew) ?_
          rotate_left
          · (intro w hSw; (try dsimp only at hSw); go_simp; with_reducible rfl)
          try simp only [Act.put, List.setIfInBounds_toArray, List.set_cons_zero, List.set_cons_succ]
          refine wpAnyH_take (i := 13) (v := ?_) rfl (by kernel_rfl) (by kernel_rfl) (by kernel_rfl) (fun _ _ _ h => h) (Or.inl ⟨by kernel_rfl, ?_⟩) (HS9.out _ (Below.refl _ _).drew) ?_
          rotate_left
          · (intro w hSw; (try dsimp only at hSw); go_simp; with_reducible rfl)
          try simp only [Act.put, List.setIfInBounds_toArray, List.set_cons_zero, List.set_cons_succ]
          refine wpAnyH_take (i := 14) (v := ?_) rfl (by kernel_rfl) (by kernel_rfl) (by kernel_rfl) (fun _ _ _ h => h) (Or.inl ⟨by kernel_rfl, ?_⟩) (HS9.out _ (Below.refl _ _).drew) ?_
          rotate_left
          · (intro w hSw; (try dsimp only at hSw); go_simp; with_reducible rfl)
          try simp only [Act.put, List.setIfInBounds_toArray, List.set_cons_zero, List.set_cons_succ]
          refine wpAnyH_take (i := 15) (v := ?_) rfl (by kernel_rfl) (by kernel_rfl) (by kernel_rfl) (fun _ _ _ h => h) (Or.inl ⟨by kernel_rfl, ?_⟩) (HS9.out _ (Below.refl _ _).drew) ?_
          rotate_left
          · (intro w hSw; (try dsimp only at hSw); go_simp; with_reducible rfl)
          try simp only [Act.put, List.setIfInBounds_toArray, List.set_cons_zero, List.set_cons_succ]
          refine wpAnyH_take (i := 16) (v := ?_) rfl (by kernel_rfl) (by kernel_rfl) (by kernel_rfl) (fun _ _ _ h => h) (Or.inl ⟨by kernel_rfl, ?_⟩) (HS9.out _ (Below.refl _ _).drew) ?_
          rotate_left
          · (intro w hSw; (try dsimp only at hSw); go_simp; with_reducible rfl)
          try simp only [Act.put, List.setIfInBounds_toArray, List.set_cons_zero, List.set_cons_succ]
          refine wpAnyH_take (i := 17) (v := ?_) rfl (by kernel_rfl) (by kernel_rfl) (by kernel_rfl) (fun _ _ _ h => h) (Or.inl ⟨by kernel_rfl, ?_⟩) (HS9.out _ (Below.refl _ _).drew) ?_
          rotate_left
          · (intro w hSw; (try dsimp only at hSw); go_simp; with_reducible rfl)
          try simp only [Act.put, List.setIfInBounds_toArray, List.set_cons_zero, List.set_cons_succ]
          refine wpAnyH_take (i := 18) (v := ?_) rfl (by kernel_rfl) (by kernel_rfl) (by kernel_rfl) (fun _ _ _ h => h) (Or.inl ⟨by kernel_rfl, ?_⟩) (HS9.out _ (Below.refl _ _).drew) ?_
          rotate_left
          · (intro w hSw; (try dsimp only at hSw); go_simp; with_reducible rfl)
          try simp only [Act.put, List.setIfInBounds_toArray, List.set_cons_zero, List.set_cons_succ]
          refine wpAnyH_take (i := 19) (v := ?_) rfl (by kernel_rfl) (by kernel_rfl) (by kernel_rfl) (fun _ _ _ h => h) (Or.inl ⟨by kernel_rfl, ?_⟩) (HS9.out _ (Below.refl _ _).drew) ?_
          rotate_left
          · (intro w hSw; (try dsimp only at hSw); go_simp; with_reducible rfl)
          try simp only [Act.put, List.setIfInBounds_toArray, List.set_cons_zero, List.set_cons_succ]
          refine wpAnyH_take (i := 20) (v := ?_) rfl (by kernel_rfl) (by kernel_rfl) (by kernel_rfl) (fun _ _ _ h => h) (Or.inl ⟨by kernel_rfl, ?_⟩) (HS9.out _ (Below.refl _ _).drew) ?_
          rotate_left
          · (intro w hSw; (try dsimp only at hSw); go_simp; with_reducible rfl)
          try simp only [Act.put, List.setIfInBounds_toArray, List.set_cons_zero, List.set_cons_succ]
          refine wpAnyH_take (i := 21) (v := ?_) rfl (by kernel_rfl) (by kernel_rfl) (by kernel_rfl) (fun _ _ _ h => h) (Or.inl ⟨by kernel_rfl, ?_⟩) (HS9.out _ (Below.refl _ _).drew) ?_
          rotate_left
          · (intro w hSw; (try dsimp only at hSw); go_simp; with_reducible rfl)
          try simp only [Act.put, List.setIfInBounds_toArray, List.set_cons_zero, List.set_cons_succ]
          refine wpAnyH_take (i := 22) (v := ?_) rfl (by kernel_rfl) (by kernel_rfl) (by kernel_rfl) (fun _ _ _ h => h) (Or.inl ⟨by rfl, ?_⟩) (HS9.out _ (Below.refl _ _).drew) ?_
          rotate_left
          · (intro w hSw; (try dsimp only at hSw); go_simp; with_reducible rfl)
          try simp only [Act.put, List.setIfInBounds_toArray, List.set_cons_zero, List.set_cons_succ]
          refine wpAnyH_take (i := 23) (v := ?_) rfl (by kernel_rfl) (by kernel_rfl) (by kernel_rfl) (fun _ _ _ h => h) (Or.inl ⟨by rfl, ?_⟩) (HS9.out _ (Below.refl _ _).drew) ?_
          rotate_left
          · (intro w hSw; (try dsimp only at hSw); go_simp; with_reducible rfl)
          try simp only [Act.put, List.setIfInBounds_toArray, List.set_cons_zero, List.set_cons_succ]
          refine wpAnyH_take (i := 24) (v := ?_) rfl (by kernel_rfl) (by kernel_rfl) (by kernel_rfl) (fun _ _ _ h => h) (Or.inl ⟨by kernel_rfl, ?_⟩) (HS9.out _ (Below.refl _ _).drew) ?_
          rotate_left
          · (intro w hSw; (try dsimp only at hSw); go_simp; with_reducible rfl)
          try simp only [Act.put, List.setIfInBounds_toArray, List.set_cons_zero, List.set_cons_succ]
          refine wpAnyH_take (i := 25) (v := ?_) rfl (by kernel_rfl) (by kernel_rfl) (by kernel_rfl) (fun _ _ _ h => h) (Or.inl ⟨by kernel_rfl, ?_⟩) (HS9.out _ (Below.refl _ _).drew) ?_
          rotate_left
          · (intro w hSw; (try dsimp only at hSw); go_simp; with_reducible rfl)
          try simp only [Act.put, List.setIfInBounds_toArray, List.set_cons_zero, List.set_cons_succ]
          refine wpAnyH_take (i := 26) (v := ?_) rfl (by kernel_rfl) (by kernel_rfl) (by kernel_rfl) (fun _ _ _ h => h) (Or.inl ⟨by kernel_rfl, ?_⟩) (HS9.out _ (Below.refl _ _).drew) ?_
          rotate_left
          · (intro w hSw; (try dsimp only at hSw); go_simp; with_reducible rfl)
          try simp only [Act.put, List.setIfInBounds_toArray, List.set_cons_zero, List.set_cons_succ]
          refine wpAnyH_take (i := 28) (v := ?_) rfl (by kernel_rfl) (by kernel_rfl) (by kernel_rfl) (fun _ _ _ h => h) (Or.inl ⟨by kernel_rfl, ?_⟩) (HS9.out _ (Below.refl _ _).drew) ?_
          rotate_left
          · (intro w hSw; (try dsimp only at hSw); go_simp; with_reducible rfl)
          try simp only [Act.put, List.setIfInBounds_toArray, List.set_cons_zero, List.set_cons_succ]
          refine wpAnyH_take (i := 29) (v := ?_) rfl (by kernel_rfl) (by kernel_rfl) (by kernel_rfl) (fun _ _ _ h => h) (Or.inl ⟨by kernel_rfl, ?_⟩) (HS9.out _ (Below.refl _ _).drew) ?_
          rotate_left
          · (intro w hSw; (try dsimp only at hSw); go_simp; with_reducible rfl)
          try simp only [Act.put, List.setIfInBounds_toArray, List.set_cons_zero, List.set_cons_succ]
          refine wpAnyH_ready (rs := [27]) (by kernel_rfl) (by simp) ?_
          refine AllReadyH.cons rfl (fun K hK => ?_) AllReadyH.nil
          go_simp
          go_at_call 46
          refine ((GEt _ (R2.out.below (E5.out.trans ((Below.refl wr.heap.size wr).drew.mono E5.out.size)))).out).mono ?_
          rintro e wa ⟨rfl, ba⟩
          have Fa := (Below.refl wr.heap.size wr).drew.trans (ba.mono (Nat.le_refl _))
          go_wp2_with fail
          refine hK.out _ _ (HS9.out _ Fa) (fun hHx => ?_)
          clear hHx hK K
          try simp only [Act.put, List.setIfInBounds_toArray, List.set_cons_zero, List.set_cons_succ]
          refine wpAnyH_ready (rs := [30]) (by kernel_rfl) (by simp) ?_
          refine AllReadyH.cons rfl (fun K hK => ?_) AllReadyH.nil
          go_simp
          go_at_call 47
          refine ((GR _).out).mono ?_
          rintro e w' ⟨rfl, rfl⟩
          go_wp2_with fail
          refine hK.out _ _ (HS9.out _ Fa) (fun hHx => ?_)
          clear hHx hK K
          try simp only [Act.put, List.setIfInBounds_toArray, List.set_cons_zero, List.set_cons_succ]
          refine wpAnyH_take (i := 31) (v := ?_) rfl (by kernel_rfl) (by kernel_rfl) (by kernel_rfl) (fun _ _ _ h => h) (Or.inl ⟨by kernel_rfl, ?_⟩) (HS9.out _ Fa) ?_
          rotate_left
          · (intro w hSw; (try dsimp only at hSw); go_simp; with_reducible rfl)
          try simp only [Act.put, List.setIfInBounds_toArray, List.set_cons_zero, List.set_cons_succ]
          refine wpAnyH_take (i := 32) (v := ?_) rfl (by kernel_rfl) (by kernel_rfl) (by kernel_rfl) (fun _ _ _ h => h) (Or.inl ⟨by rfl, ?_⟩) (HS9.out _ Fa) ?_
          rotate_left
          · (intro w hSw; (try dsimp only at hSw); go_simp; with_reducible rfl)
          try simp only [Act.put, List.setIfInBounds_toArray, List.set_cons_zero, List.set_cons_succ]
          refine wpAnyH_take (i := 33) (v := ?_) rfl (by kernel_rfl) (by kernel_rfl) (by kernel_rfl) (fun _ _ _ h => h) (Or.inl ⟨by rfl, ?_⟩) (HS9.out _ Fa) ?_
          rotate_left
          · (intro w hSw; (try dsimp only at hSw); go_simp; with_reducible rfl)
          try simp only [Act.put, List.setIfInBounds_toArray, List.set_cons_zero, List.set_cons_succ]
          refine wpAnyH_take (i := 34) (v := ?_) rfl (by kernel_rfl) (by kernel_rfl) (by kernel_rfl) (fun _ _ _ h => h) (Or.inl ⟨by kernel_rfl, ?_⟩) (HS9.out _ Fa) ?_
          rotate_left
          · (intro w hSw; (try dsimp only at hSw); go_simp; with_reducible rfl)
          try simp only [Act.put, List.setIfInBounds_toArray, List.set_cons_zero, List.set_cons_succ]
          refine wpAnyH_take (i := 35) (v := ?_) rfl (by kernel_rfl) (by kernel_rfl) (by kernel_rfl) (fun _ _ _ h => h) (Or.inl ⟨by kernel_rfl, ?_⟩) (HS9.out _ Fa) ?_
          rotate_left
          · (intro w hSw; (try dsimp only at hSw); go_simp; with_reducible rfl)
          try simp only [Act.put, List.setIfInBounds_toArray, List.set_cons_zero, List.set_cons_succ]
          refine wpAnyH_take (i := 36) (v := ?_) rfl (by kernel_rfl) (by kernel_rfl) (by kernel_rfl) (fun _ _ _ h => h) (Or.inl ⟨by kernel_rfl, ?_⟩) (HS9.out _ Fa) ?_
          rotate_left
          · (intro w hSw; (try dsimp only at hSw); go_simp; with_reducible rfl)
          try simp only [Act.put, List.setIfInBounds_toArray, List.set_cons_zero, List.set_cons_succ]
          refine wpAnyH_ready (rs := [37]) (by kernel_rfl) (by simp) ?_
          refine AllReadyH.cons rfl (fun K hK => ?_) AllReadyH.nil
          go_simp
          go_at_call 48
          refine ((GTt _ (R2.out.below (E5.out.trans (Fa.mono E5.out.size)))).out).mono ?_
          rintro e wb ⟨rfl, bb⟩
          have Fb := Fa.trans (bb.mono Fa.size)
          go_wp2_with fail
          refine hK.out _ _ (HS9.out _ Fb) (fun hHx => ?_)
          clear hHx hK K
          try simp only [Act.put, List.setIfInBounds_toArray, List.set_cons_zero, List.set_cons_succ]
          refine wpAnyH_take (i := 38) (v := ?_) rfl (by kernel_rfl) (by kernel_rfl) (by kernel_rfl) (fun _ _ _ h => h) (Or.inl ⟨by kernel_rfl, ?_⟩) (HS9.out _ Fb) ?_
          rotate_left
          · (intro w hSw; (try dsimp only at hSw); go_simp; with_reducible rfl)
          try simp only [Act.put, List.setIfInBounds_toArray, List.set_cons_zero, List.set_cons_succ]
          refine wpAnyH_ready (rs := [39]) (by kernel_rfl) (by simp) ?_
          refine AllReadyH.cons rfl (fun K hK => ?_) AllReadyH.nil
          go_simp
          refine hK.out _ _ (HS9.out _ Fb) (fun hHx => ?_)
          clear hHx hK K
          try simp only [Act.put, List.setIfInBounds_toArray, List.set_cons_zero, List.set_cons_succ]
          refine wpAnyH_done (by kernel_rfl) ?_ _
          have HFb := hid (HBr.out.trans (Fb.mono HBr.out.size))
          clear ba bb Fa Fb
          go_wp2
          go_roundg (tn - (l + 1))
          case measure => omega
          case rel => exact ⟨l + 1, by omega, rfl, by go_num, HS2, HFb.out⟩
    · obtain rfl : l = tn := by omega
      have HRT := hid (show refT tst ts = true by unfold refT; rw [HLT.out]; exact hall.out)
      have HR3 := hid (show R = (csB isC cs && (apartL (ts ++ cs.map fun c => c.1) && decide (ts.length + sumL q cs = PQ))) by rw [HR2.out, HRT.out]; rfl)
      have HO5 := hid (own_below HO9.out hb)
      have HB15 := hid (HB13.out.trans (hb.mono HB13.out.size))
      obtain ⟨w5, hw5⟩ : ∃ x, x = wr := ⟨_, rfl⟩
      subst hw5
      have hcn0 := HLC.out
      have htn0 := HLT.out
      clear hall hb HR2 HBr
      go_upto_region 12 with fail
      clear n0 n1 n2 p0 p1 t0 t1 t2
      have HI0 := hid (show ((l : Nat) : Int) = ((ts.length + sumL q (cs.take 0) : Nat) : Int) by rw [← HLT.out]; rfl)
      go_loopg [9, 10, 95] cn (fun gk v s u wr => ∃ i : Nat, i ≤ cn ∧ gk = cn - i ∧ s = .int .i64 ((ts.length + sumL q (cs.take i) : Nat) : Int) ∧ u = .int .i64 (i : Int) ∧ Hid (rall i (fun i => isC (gC cs i)) = true) ∧ wr.ownsRow w1.heap.size 9 1 v (ts.length + i) (strV (ts ++ (cs.take i).map fun c => c.1)) ∧ Below w1.heap.size w1 wr)
      case atStart => exact ⟨0, by omega, by omega, by rw [HI0.out], rfl, hid rfl, by simpa using HO5.out, HB15.out⟩
      case round =>
        obtain ⟨i, hi', rfl, rfl, rfl, hall, ho, hb⟩ := hrel
        have E6 := hid (E1.out.trans (hb.mono HSZ1.out))
        have HBr := hid hb
        have hbs := hb.size
        have hsl := sumL_le q hq (cs.take i)
        rw [List.length_take] at hsl
        have hSb : ts.length + sumL q (cs.take i) ≤ 1000000000 := by omega
        obtain ⟨A7, c7, rfl, y1, y2, rd7, y4⟩ := own_shape ho
        clear y1 y2 y4
        have HO := hid ho
        by_cases hlt : i < cn
        · obtain ⟨bc, oc, rfl, x0, x1, x2⟩ := ((RC.out.below HB2.out).below E6.out).2 i (by rw [HLC.out]; exact hlt)
          have hgi : gC cs i = (cs[i]'(by rw [HLC.out]; exact hlt)) := gC_eq _
          have hcp : (cs[i]'(by rw [HLC.out]; exact hlt)).1.length ≤ 1048576 := HCL.out _ (List.getElem_mem _)
          have hnext := sumL_take q cs i (by omega)
          rw [hgi] at hnext
          have htake : (cs.take (i + 1)).map (fun c => c.1) = (cs.take i).map (fun c => c.1) ++ [(cs[i]'(by rw [HLC.out]; exact hlt)).1] := by rw [List.take_succ_eq_append_getElem (by rw [HLC.out]; exact hlt), List.map_append]; rfl
          have hstep : Hid (isC (cs[i]'(by rw [HLC.out]; exact hlt)) = true → rall (i + 1) (fun i => isC (gC cs i)) = true) := hid (fun h => rall_step hall.out (by rw [hgi]; exact h))
          have hbad : Hid (isC (cs[i]'(by rw [HLC.out]; exact hlt)) = false → csB isC cs = false) := hid (fun h => rall_bad (k := i) (by omega) (by rw [hgi]; exact h))
          obtain ⟨K, hK⟩ : ∃ K, K = (cs[i]'(by rw [HLC.out]; exact hlt)) := ⟨_, rfl⟩
          rw [← hK] at x0 x1 x2 hstep hbad hcp hnext htake
          obtain ⟨cp, cy, cz⟩ := K
          dsimp only at x0 x1 x2 hcp hnext htake
          have HTK := hid htake
          have j0 : (0 : Int) ≤ (i : Int) := by omega
          have j1 : (i : Int) < (cn : Int) := by omega
          obtain ⟨S, hS⟩ : ∃ S, S = ts.length + sumL q (cs.take i) := ⟨_, rfl⟩
          rw [← hS] at hSb ⊢
          have HNX := hid (show ts.length + sumL q (cs.take (i + 1)) = S + 3 ^ (q - cp.length) by rw [hnext, hS]; omega)
          have E7 := hid (hb.alloc hb.size (.cells #[.string (bs cp), .int .i64 cy, .int .i64 cz] 38))
          have HO7 := hid (HO.out.alloc (.cells #[.string (bs cp), .int .i64 cy, .int .i64 cz] 38))
          have X7 := Blk.new wr 38 #[.string (bs cp), .int .i64 cy, .int .i64 cz]
          have HLT7 := hid (fun b h => (HO.out.lt b h).2)
          have hti : ts.length + i ≤ 100000000 := by omega
          clear hb ho hK hgi hnext hS hsl htake rd7 hcn0 htn0
          go_upto_region 14 with fail
          generalize (wr.alloc (.cells #[.string (bs cp), .int .i64 cy, .int .i64 cz] 38)) = W7 at *
          have HX7 := hid X7
          have c0 := X7.cell 0
          have c1 := X7.cell 1
          have c2 := X7.cell 2
          simp only [List.getElem?_toArray, List.getElem?_cons_zero, List.getElem?_cons_succ] at c0 c1 c2
          clear X7 x0 x1 x2
          have hX7l := HX7.out.lt
          have E8 := hid (E1.out.trans (E7.out.mono HSZ1.out))
          obtain ⟨n0, n1, n2, p0, p1, t0, t1, t2⟩ := HHS8.out _ E8.out
          go_wp2_with fail
          refine (GJ cp cy cz hcp _ (R2.out.below E8.out)).out.mono ?_
          rintro e w8 ⟨rfl, b8⟩
          have E9 := hid (E7.out.trans (b8.mono E7.out.size))
          have HO8 := hid (own_below HO7.out b8)
          have HX8 := hid (HX7.out.below b8 hX7l)
          have d0 := HX8.out.cell 0
          simp only [List.getElem?_toArray, List.getElem?_cons_zero, List.getElem?_cons_succ] at d0
          clear b8 c0 c1 c2 n0 n1 n2 p0 p1 t0 t1 t2
          cases hj : isC (cp, cy, cz)
          · have HS2 := hid (hbad.out hj)
            clear hstep hbad hj
            go_wp2
            go_ret
            exact ⟨ret_bool (by rw [HR3.out, HS2.out]; rfl), HB2.out.trans ((E1.out.trans (E9.out.mono HSZ1.out)).mono hw2)⟩
          · have HS2 := hid (hstep.out hj)
            have hle := HJL.out _ hj
            dsimp only at hle
            clear hstep hbad hj
            have hsz9 := E9.out.size
            have E10 := hid (E9.out.alloc E9.out.size (.cells #[.string (bs cp)] 9))
            have HO10 := hid (HO8.out.alloc (.cells #[.string (bs cp)] 9))
            have HX10 := hid (HX8.out.alloc (.cells #[.string (bs cp)] 9))
            have hw1 : IntKind.i64.wrap ((q : Int) - (cp.length : Int)) = ((q - cp.length : Nat) : Int) := by rw [IntWalk.i64_in _ (by omega)]; omega
            go_wp2_with (at_builtin; refine app_str _ (by rfl) _ _ (by rfl) w1.heap.size _ _ (ts ++ (cs.take i).map fun c => c.1) (by rfl) (HO8.out.alloc _) (some ⟨w8.heap.size, 0, none⟩) 1 1 [cp] (by rfl) (Rd.blk w8 [.string (bs cp)] _) (by omega) (by simp; omega) ?_; intro v11 w11 o11 g11; have X11 := blk_grown g11 HX10.out (fun e => by have := HLT7.out _ e; omega); have d11 := X11.cell 0; simp only [List.getElem?_toArray, List.getElem?_cons_zero, List.getElem?_cons_succ] at d11)
            refine (GP (q - cp.length) (by omega) _).out.mono ?_
            rintro e w12 ⟨rfl, rfl⟩
            have HO11 := hid o11
            have E11 := hid (E10.out.grown g11 (by simp; omega) (fun b e => (HO10.out.lt b e).1))
            have hpw : 3 ^ (q - cp.length) ≤ 3 ^ 6 := Nat.pow_le_pow_right (by omega) (by omega)
            generalize 3 ^ (q - cp.length) = P at *
            clear hw1 o11 g11 X11
            have hw2' : IntKind.i64.wrap ((S : Int) + (P : Int)) = (S : Int) + (P : Int) := IntWalk.i64_in _ (by omega)
            go_wp2
            go_roundg (cn - (i + 1))
            case measure => omega
            case rel => exact ⟨i + 1, by omega, rfl, by rw [HNX.out]; first | rfl | (congr 1; omega), by go_num, HS2, by rw [HTK.out, ← List.append_assoc]; exact HO11.out, E11.out⟩
        · obtain rfl : i = cn := by omega
          have HCS := hid (show csB isC cs = true by unfold csB; rw [HLC.out]; exact hall.out)
          rw [List.take_of_length_le (by omega)] at hSb rd7 ⊢
          obtain ⟨S, hS⟩ : ∃ S, S = ts.length + sumL q cs := ⟨_, rfl⟩
          rw [← hS] at hSb ⊢
          have HR4 := hid (show R = (apartL (ts ++ cs.map fun c => c.1) && decide (S = PQ)) by rw [HR3.out, HCS.out, hS]; rfl)
          have HAL := hid (show ∀ s ∈ ts ++ cs.map (fun c => c.1), s.length ≤ 1048576 from fun s h => by
            rw [List.mem_append, List.mem_map] at h
            rcases h with h | ⟨c, hc, rfl⟩
            · exact HTL.out s h
            · exact HCL.out c hc)
          have RD7 := hid rd7
          have hlen9 : ts.length + i ≤ 1048576 := by omega
          clear hall hb ho hsl hS hbs rd7 hcn0 htn0
          go_wp2_with fail
          refine (GL _ _ _ _ _ RD7.out hlen9 HAL.out).out.mono ?_
          rintro e w8 ⟨rfl, rfl⟩
          generalize apartL (ts ++ cs.map fun c => c.1) = B0 at *
          cases B0
          · go_wp2
            go_ret
            exact ⟨ret_bool (by rw [HR4.out]; rfl), HB2.out.trans (E6.out.mono hw2)⟩
          · have hdq : ((S : Int) == (PQ : Int)) = decide (S = PQ) := by rw [Bool.eq_iff_iff, beq_iff_eq, decide_eq_true_eq]; omega
            go_wp2_with fail
            refine (GPq _).out.mono ?_
            rintro e w8 ⟨rfl, rfl⟩
            go_wp2
            go_ret
            exact ⟨ret_bool (by first | (rw [HR4.out, hdq]; rfl) | (rw [HR4.out]; simp; try omega)), HB2.out.trans (E6.out.mono hw2)⟩
set_option maxHeartbeats 1000000 in
theorem specCheck_law (m : Meth) (k : List UInt8 × List UInt8) (q : Int) (ts : List (List UInt8)) (cs : List (List UInt8 × Int × Int)) (fin : Bool) (A TA CA : Option Addr) (n c tn tc cn cc : Nat) (w : World) (ok : LawOk m k) (rd : Rd w A n (strV m.ch)) (hcap : n ≤ c) (rt : Rd w TA tn (strV ts)) (rc : RdC w CA cn cs) (htn : tn ≤ 1048576) (hcn : cn ≤ 1048576) (htc : tn ≤ tc) (hcl : ∀ c ∈ cs, c.1.length ≤ 1048576) (htl : ∀ t ∈ ts, t.length ≤ 1048576) :
    Calls Try.prog 22 #[.agg #[.string (bs m.nm), .int .i64 m.st, .slice A n c], .agg #[.string (bs k.1), .string (bs k.2)], .int .i64 q, .agg #[.slice TA tn tc, .slice CA cn cc, .bool fin]] w fun e w' => e = .returned (.bool (checkR m k q ts cs fin)) ∧ Below w.heap.size w w' := by
  have GA := fun (w0 : World) (rd : Rd w0 A n (strV m.ch)) => hid (l13Asked_any m k q A n c w0 ok rd)
  cases hg0 : callsB m k && searchB q
  · rw [hg0] at GA
    have HR := hid (show checkR m k q ts cs fin = false by unfold checkR; rw [hg0]; rfl)
    have RS := hid rd
    obtain ⟨nm, st, ch⟩ := m
    obtain ⟨k1, k2⟩ := k
    dsimp only at *
    clear hg0 ok rd rt rc hcl htl
    go_enter Try.func22, Try.ntmps22
    go_wp2_with fail
    obtain ⟨B2, hsz, HC⟩ := box_mkX 34 36 44 w nm k1 k2 st (.slice A n c) #[.slice TA tn tc, .slice CA cn cc, .bool fin]
    have R2 := hid (RS.out.below B2)
    have HB2 := hid B2
    have hw2 := B2.size
    generalize (((w.alloc (.cells #[.string (bs nm), .int .i64 st, .slice A n c] 34)).alloc (.cells #[.string (bs k1), .string (bs k2)] 36)).alloc (.cells #[.slice TA tn tc, .slice CA cn cc, .bool fin] 44)) = W2 at *
    clear B2 hsz
    have HHS8 := hid (fun W' (h : Below W2.heap.size W2 W') => (show W'.cell? ⟨w.heap.size, 0, none⟩ = some (.string (bs nm)) ∧ W'.cell? ⟨w.heap.size, 1, none⟩ = some (.int .i64 st) ∧ W'.cell? ⟨w.heap.size, 2, none⟩ = some (.slice A n c) ∧ W'.cell? ⟨w.heap.size + 1, 0, none⟩ = some (.string (bs k1)) ∧ W'.cell? ⟨w.heap.size + 1, 1, none⟩ = some (.string (bs k2)) ∧ W'.cell? ⟨w.heap.size + 1 + 1, 0, none⟩ = some (.slice TA tn tc) ∧ W'.cell? ⟨w.heap.size + 1 + 1, 1, none⟩ = some (.slice CA cn cc) ∧ W'.cell? ⟨w.heap.size + 1 + 1, 2, none⟩ = some (.bool fin) from by
      obtain ⟨⟨X, Y⟩, Z⟩ := HC.out _ h
      exact ⟨X.cell 0, X.cell 1, X.cell 2, Y.cell 0, Y.cell 1, Z.cell 0, Z.cell 1, Z.cell 2⟩))
    clear HC
    obtain ⟨n0, n1, n2, p0, p1, t0, t1, t2⟩ := HHS8.out _ (Below.refl _ _)
    refine wp_region_held_drew (S := fun w' => w'.cell? ⟨w.heap.size, 0, none⟩ = some (.string (bs nm)) ∧ w'.cell? ⟨w.heap.size, 1, none⟩ = some (.int .i64 st) ∧ w'.cell? ⟨w.heap.size, 2, none⟩ = some (.slice A n c) ∧ w'.cell? ⟨w.heap.size + 1, 0, none⟩ = some (.string (bs k1)) ∧ w'.cell? ⟨w.heap.size + 1, 1, none⟩ = some (.string (bs k2)) ∧ w'.cell? ⟨w.heap.size + 1 + 1, 0, none⟩ = some (.slice TA tn tc) ∧ w'.cell? ⟨w.heap.size + 1 + 1, 1, none⟩ = some (.slice CA cn cc) ∧ w'.cell? ⟨w.heap.size + 1 + 1, 2, none⟩ = some (.bool fin)) (by kernel_rfl) (HHS8.out _ (Below.refl _ _).drew) (fun hHeld => ?_)
    refine wpAnyH_take (i := 0) (v := ?_) rfl (by kernel_rfl) (by kernel_rfl) (by kernel_rfl) (fun _ _ _ h => h) (Or.inl ⟨by rfl, ?_⟩) (by assumption) ?_
    rotate_left
    · (intro w hSw; (try dsimp only at hSw); go_simp; with_reducible rfl)
    try simp only [Act.put, List.setIfInBounds_toArray, List.set_cons_zero, List.set_cons_succ]
    refine wpAnyH_take (i := 1) (v := ?_) rfl (by kernel_rfl) (by kernel_rfl) (by kernel_rfl) (fun _ _ _ h => h) (Or.inl ⟨by rfl, ?_⟩) (by assumption) ?_
    rotate_left
    · (intro w hSw; (try dsimp only at hSw); go_simp; with_reducible rfl)
    try simp only [Act.put, List.setIfInBounds_toArray, List.set_cons_zero, List.set_cons_succ]
    refine wpAnyH_take (i := 2) (v := ?_) rfl (by kernel_rfl) (by kernel_rfl) (by kernel_rfl) (fun _ _ _ h => h) (Or.inl ⟨by rfl, ?_⟩) (by assumption) ?_
    rotate_left
    · (intro w hSw; (try dsimp only at hSw); go_simp; with_reducible rfl)
    try simp only [Act.put, List.setIfInBounds_toArray, List.set_cons_zero, List.set_cons_succ]
    refine wpAnyH_ready (rs := [3]) (by kernel_rfl) (by simp) ?_
    refine AllReadyH.cons rfl (fun K hK => ?_) AllReadyH.nil
    go_simp
    go_at_call 26
    refine ((GA _ (R2.out.below (Below.refl _ _).drew)).out).mono ?_
    rintro e w1 ⟨rfl, b1⟩
    have Fa := (Below.refl W2.heap.size W2).drew.trans (b1.mono (Nat.le_refl _))
    go_wp2_with fail
    refine hK.out _ _ (HHS8.out _ Fa) (fun hHx => ?_)
    clear hHx hK K hHeld
    try simp only [Act.put, List.setIfInBounds_toArray, List.set_cons_zero, List.set_cons_succ]
    refine wpAnyH_take (i := 4) (v := ?_) rfl (by kernel_rfl) (by kernel_rfl) (by kernel_rfl) (fun _ _ _ h => h) (Or.inl ⟨by rfl, ?_⟩) (HHS8.out _ Fa) ?_
    rotate_left
    · (intro w hSw; (try dsimp only at hSw); go_simp; with_reducible rfl)
    try simp only [Act.put, List.setIfInBounds_toArray, List.set_cons_zero, List.set_cons_succ]
    refine wpAnyH_take (i := 5) (v := ?_) rfl (by kernel_rfl) (by kernel_rfl) (by kernel_rfl) (fun _ _ _ h => h) (Or.inl ⟨by rfl, ?_⟩) (HHS8.out _ Fa) ?_
    rotate_left
    · (intro w hSw; (try dsimp only at hSw); go_simp; with_reducible rfl)
    try simp only [Act.put, List.setIfInBounds_toArray, List.set_cons_zero, List.set_cons_succ]
    refine wpAnyH_pass (i := 6) (d := some 21) (by kernel_rfl) (by kernel_rfl) (by kernel_rfl) (by kernel_rfl) (fun _ _ _ _ h => h) (by kernel_rfl) (HHS8.out _ Fa) ?_
    try simp only [Act.put, List.setIfInBounds_toArray, List.set_cons_zero, List.set_cons_succ]
    refine wpAnyH_pass (i := 7) (d := some 22) (by kernel_rfl) (by kernel_rfl) (by kernel_rfl) (by kernel_rfl) (fun _ _ _ _ h => h) (by kernel_rfl) (HHS8.out _ Fa) ?_
    try simp only [Act.put, List.setIfInBounds_toArray, List.set_cons_zero, List.set_cons_succ]
    refine wpAnyH_pass (i := 8) (d := some 23) (by kernel_rfl) (by kernel_rfl) (by kernel_rfl) (by kernel_rfl) (fun _ _ _ _ h => h) (by kernel_rfl) (HHS8.out _ Fa) ?_
    try simp only [Act.put, List.setIfInBounds_toArray, List.set_cons_zero, List.set_cons_succ]
    refine wpAnyH_take (i := 9) (v := ?_) rfl (by kernel_rfl) (by kernel_rfl) (by kernel_rfl) (fun _ _ _ h => h) (Or.inl ⟨by rfl, ?_⟩) (HHS8.out _ Fa) ?_
    rotate_left
    · (intro w hSw; (try dsimp only at hSw); go_simp; with_reducible rfl)
    try simp only [Act.put, List.setIfInBounds_toArray, List.set_cons_zero, List.set_cons_succ]
    refine wpAnyH_take (i := 10) (v := ?_) rfl (by kernel_rfl) (by kernel_rfl) (by kernel_rfl) (fun _ _ _ h => h) (Or.inl ⟨by rfl, ?_⟩) (HHS8.out _ Fa) ?_
    rotate_left
    · (intro w hSw; (try dsimp only at hSw); go_simp; with_reducible rfl)
    try simp only [Act.put, List.setIfInBounds_toArray, List.set_cons_zero, List.set_cons_succ]
    refine wpAnyH_pass (i := 11) (d := some 26) (by kernel_rfl) (by kernel_rfl) (by kernel_rfl) (by kernel_rfl) (fun _ _ _ _ h => h) (by kernel_rfl) (HHS8.out _ Fa) ?_
    try simp only [Act.put, List.setIfInBounds_toArray, List.set_cons_zero, List.set_cons_succ]
    refine wpAnyH_pass (i := 12) (d := some 27) (by kernel_rfl) (by kernel_rfl) (by kernel_rfl) (by kernel_rfl) (fun _ _ _ _ h => h) (by kernel_rfl) (HHS8.out _ Fa) ?_
    try simp only [Act.put, List.setIfInBounds_toArray, List.set_cons_zero, List.set_cons_succ]
    refine wpAnyH_pass (i := 13) (d := some 28) (by kernel_rfl) (by kernel_rfl) (by kernel_rfl) (by kernel_rfl) (fun _ _ _ _ h => h) (by kernel_rfl) (HHS8.out _ Fa) ?_
    try simp only [Act.put, List.setIfInBounds_toArray, List.set_cons_zero, List.set_cons_succ]
    refine wpAnyH_pass (i := 14) (d := some 29) (by kernel_rfl) (by kernel_rfl) (by kernel_rfl) (by kernel_rfl) (fun _ _ _ _ h => h) (by kernel_rfl) (HHS8.out _ Fa) ?_
    try simp only [Act.put, List.setIfInBounds_toArray, List.set_cons_zero, List.set_cons_succ]
    refine wpAnyH_pass (i := 15) (d := some 30) (by kernel_rfl) (by kernel_rfl) (by kernel_rfl) (by kernel_rfl) (fun _ _ _ _ h => h) (by kernel_rfl) (HHS8.out _ Fa) ?_
    try simp only [Act.put, List.setIfInBounds_toArray, List.set_cons_zero, List.set_cons_succ]
    refine wpAnyH_pass (i := 16) (d := some 31) (by kernel_rfl) (by kernel_rfl) (by kernel_rfl) (by kernel_rfl) (fun _ _ _ _ h => h) (by kernel_rfl) (HHS8.out _ Fa) ?_
    try simp only [Act.put, List.setIfInBounds_toArray, List.set_cons_zero, List.set_cons_succ]
    refine wpAnyH_pass (i := 17) (d := some 32) (by kernel_rfl) (by kernel_rfl) (by kernel_rfl) (by kernel_rfl) (fun _ _ _ _ h => h) (by kernel_rfl) (HHS8.out _ Fa) ?_
    try simp only [Act.put, List.setIfInBounds_toArray, List.set_cons_zero, List.set_cons_succ]
    refine wpAnyH_pass (i := 18) (d := some 33) (by kernel_rfl) (by kernel_rfl) (by kernel_rfl) (by kernel_rfl) (fun _ _ _ _ h => h) (by kernel_rfl) (HHS8.out _ Fa) ?_
    try simp only [Act.put, List.setIfInBounds_toArray, List.set_cons_zero, List.set_cons_succ]
    refine wpAnyH_pass (i := 19) (d := some 34) (by kernel_rfl) (by kernel_rfl) (by kernel_rfl) (by kernel_rfl) (fun _ _ _ _ h => h) (by kernel_rfl) (HHS8.out _ Fa) ?_
    try simp only [Act.put, List.setIfInBounds_toArray, List.set_cons_zero, List.set_cons_succ]
    refine wpAnyH_pass (i := 20) (d := some 35) (by kernel_rfl) (by kernel_rfl) (by kernel_rfl) (by kernel_rfl) (fun _ _ _ _ h => h) (by kernel_rfl) (HHS8.out _ Fa) ?_
    try simp only [Act.put, List.setIfInBounds_toArray, List.set_cons_zero, List.set_cons_succ]
    refine wpAnyH_ready (rs := [21]) (by kernel_rfl) (by simp) ?_
    refine AllReadyH.cons rfl (fun K hK => ?_) AllReadyH.nil
    go_simp
    refine hK.out _ _ (HHS8.out _ Fa) (fun hHx => ?_)
    clear hHx hK K
    try simp only [Act.put, List.setIfInBounds_toArray, List.set_cons_zero, List.set_cons_succ]
    refine wpAnyH_done (by kernel_rfl) ?_ _
    have HFa := hid Fa
    clear b1 Fa
    go_wp2
    go_ret
    exact ⟨ret_bool HR.out.symm, HB2.out.trans (HFa.out.mono hw2)⟩
  · have HR := show checkR m k q ts cs fin = chkI true fin (tstB m.st.toNat m.ch k q.toNat) (isCutB m.st.toNat m.ch k q.toNat) q.toNat ts cs by unfold checkR; rw [hg0]
    have hg1 := hg0
    rw [Bool.and_eq_true] at hg0
    have hb1 := callsB_bob hg0.1
    have hb2 := callsB_single hg0.1
    have hmb := callsB_meth (m := m) (k := k) hg0.1
    obtain ⟨N, hN, lo, hi, l1, l40, hs⟩ := meth_parts hmb
    obtain ⟨j, rfl, hj1, hj6⟩ := searchB_nat hg0.2
    obtain ⟨nm, st, ch⟩ := m
    dsimp only at *
    subst hN
    simp only [Int.toNat_natCast] at HR
    rw [HR, ← chk_eq (fun t h => by simp only [tstB, Bool.and_eq_true, decide_eq_true_eq] at h; exact h.1) (fun c h => by simp only [isCutB, Bool.and_eq_true, decide_eq_true_eq] at h; exact h.1.2)]
    have hcn' : ch.length = n := by have h1 := rd.1; rw [strV_len] at h1; exact h1
    exact specCheck_main N nm ch k j ts cs fin A TA CA n c tn tc cn cc w lo hi rd (by omega) hcap l1 hs hb1 hb2 hj1 hj6 ok hmb hg1 rt rc htn hcn htc hcl htl
end Go.Proofs.Ytnkpbahapaocbaa
