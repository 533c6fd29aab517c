/- Contract of the reference's reader of place notation: a word. No conditions beyond those stated. -/
import Derived.Test.YtamcopnghjoboaaNotK
set_option linter.unusedVariables false
set_option linter.unusedSimpArgs false
set_option maxRecDepth 100000
namespace Go.Proofs.Ytamcopnghjoboaa
open Go.RowKit

/-- The reference's reader. -/
def WrdB (w : World) (G N : Nat) (s : List UInt8) (a : Nat) (v : Value) (b : Int) : Prop := Blk w G 33 #[.int .i64 (N : Int), .string (bs s), .int .i64 (a : Int), v, .int .i64 b]
theorem WrdB.cells {w : World} {G N : Nat} {s : List UInt8} {a : Nat} {v : Value} {b : Int} (h : WrdB w G N s a v b) : w.cell? ⟨G, 0, none⟩ = some (.int .i64 (N : Int)) ∧ w.cell? ⟨G, 1, none⟩ = some (.string (bs s)) ∧ w.cell? ⟨G, 2, none⟩ = some (.int .i64 (a : Int)) := ⟨h.cell 0, h.cell 1, h.cell 2⟩
theorem WrdB.drewN {w : World} {G N : Nat} {s : List UInt8} {a : Nat} {v : Value} {b : Int} (h : WrdB w G N s a v b) (k : Nat) : WrdB (w.drewN k) G N s a v b := Blk.drewN h k
theorem WrdB.below {w w' : World} {G N : Nat} {s : List UInt8} {a : Nat} {v : Value} {b : Int} (h : WrdB w G N s a v b) (hb : Below w.heap.size w w') : WrdB w' G N s a v b := Blk.below h hb h.lt
theorem WrdB.at_ {w : World} {G N : Nat} {s : List UInt8} {a : Nat} {v : Value} {b : Int} (h : WrdB w G N s a v b) (x : Nat) : WrdB (w.setCell ⟨G, 2, none⟩ (.int .i64 (x : Int))) G N s x v b := by
  have := Blk.set_ h 2 (.int .i64 (x : Int)); simpa [WrdB] using this
theorem WrdB.bad {w : World} {G N : Nat} {s : List UInt8} {a : Nat} {v : Value} {b : Int} (h : WrdB w G N s a v b) (x : Int) : WrdB (w.setCell ⟨G, 4, none⟩ (.int .i64 x)) G N s a v x := by
  have := Blk.set_ h 4 (.int .i64 x); simpa [WrdB] using this
theorem WrdB.out_ {w : World} {G N : Nat} {s : List UInt8} {a : Nat} {v : Value} {b : Int} (h : WrdB w G N s a v b) (u : Value) : WrdB (w.setCell ⟨G, 3, none⟩ u) G N s a u b := by
  have := Blk.set_ h 3 u; simpa [WrdB] using this
/-- What a word's reading leaves: the change behind those that were there, or where it is wrong. -/
def WordR (W0 : World) (G N : Nat) (s : List UInt8) (a : Nat) (l : List (List UInt8)) (w' : World) : Prop := ∃ v', WrdB w' G N s (wEnd s a) v' (if badW N s a = true then (a : Int) else -1) ∧ (badW N s a = false → w'.ownsRow W0.heap.size 9 1 v' (l.length + 1) (strV (l ++ [wordL N s a]))) ∧ W0.grownBy w' (some G)
theorem WordR.no {W0 w' : World} {G N : Nat} {s : List UInt8} {a e : Nat} {l : List (List UInt8)} {v' : Value} (he : wEnd s a = e) (hb : badW N s a = true) (h : WrdB w' G N s e v' (a : Int)) (hg : W0.grownBy w' (some G)) : WordR W0 G N s a l w' :=
  ⟨v', by rw [if_pos hb, he]; exact h, fun h2 => by (rw [hb] at h2; cases h2), hg⟩
theorem WordR.yes {W0 w' : World} {G N : Nat} {s : List UInt8} {a e : Nat} {l : List (List UInt8)} {v' : Value} {Wd : List UInt8} (he : wEnd s a = e) (hb : badW N s a = false) (hw : wordL N s a = Wd) (h : WrdB w' G N s e v' (-1)) (ho : w'.ownsRow W0.heap.size 9 1 v' (l.length + 1) (strV (l ++ [Wd]))) (hg : W0.grownBy w' (some G)) : WordR W0 G N s a l w' :=
  ⟨v', by rw [if_neg (by rw [hb]; simp), he]; exact h, fun _ => by rw [hw]; exact ho, hg⟩
set_option maxHeartbeats 8000000 in
theorem word_any (G N : Nat) (s : List UInt8) (a : Nat) (v : Value) (l : List (List UInt8)) (W0 w : World) (lo : 3 ≤ N) (hi : N ≤ 8) (h : WrdB w G N s a v (-1)) (ha : a ≤ s.length) (hs : s.length ≤ 1000) (ho : w.ownsRow W0.heap.size 9 1 v l.length (strV l)) (hG0' : G < W0.heap.size) (hg : W0.grownBy w (some G)) (hl : l.length ≤ 2000) :
    Calls Try.prog 19 #[.pointer (some ⟨G, 0, none⟩)] w fun e w' => e = .returned (.tuple #[]) ∧ WordR W0 G N s a l w' := by
  obtain ⟨A0, c0, rfl, _⟩ := own_shape ho
  have HB := hid h
  have HO := hid ho
  have HG := hid hg
  obtain ⟨c1, c2, c3⟩ := h.cells
  have k0 : (0 : Int) ≤ (a : Int) := by omega
  clear h ho hg
  by_cases hlt : a < s.length
  · obtain ⟨X, hX⟩ : ∃ X, s[a] = X := ⟨_, rfl⟩
    have hgd := hid (show s.getD a 0 = X by rw [← hX]; simp [List.getD, hlt])
    have j1 : (a : Int) < (s.length : Int) := by omega
    have x2 : decide (a < s.length) = true := decide_eq_true hlt
    obtain ⟨B1, hB1⟩ : ∃ B, decide (X = 120) = B := ⟨_, rfl⟩
    obtain ⟨B2, hB2⟩ : ∃ B, decide (X = 45) = B := ⟨_, rfl⟩
    have e120 : ((X.toNat : Int) == 120) = B1 := by rw [← hB1]; exact byte_eqI X 120 (by omega)
    have e120N : (X.toNat == 120) = B1 := by rw [← e120, Bool.eq_iff_iff]; simp; omega
    have e45 : ((X.toNat : Int) == 45) = B2 := by rw [← hB2]; exact byte_eqI X 45 (by omega)
    have e45N : (X.toNat == 45) = B2 := by rw [← e45, Bool.eq_iff_iff]; simp; omega
    have HIX := hid (show isX (s.getD a 0) = (B2 || B1) by rw [hgd.out, ← hB1, ← hB2]; unfold isX; rw [Bool.eq_iff_iff]; simp)
    have HA := hid ha
    clear hB1 hB2
    have hw1 := hid (IntWalk.i64_in ((a : Int) + 1) (by omega))
    have hN0 := HB
    by_cases hb : (B2 || B1) = true
    · obtain ⟨e, hee⟩ : ∃ e, e = a + 1 := ⟨_, rfl⟩
      have HE := hid (show wEnd s a = e by unfold wEnd; rw [if_pos ⟨hlt, by rw [HIX.out]; exact hb⟩, hee])
      have hcast : (a : Int) + 1 = (e : Int) := by omega
      have hwc := hw1.out
      rw [hcast] at hwc
      have k1 : (a : Int) ≤ (e : Int) := by omega
      have k2 : (e : Int) ≤ (s.length : Int) := by omega
      have f2 := Blk.frozen HB.out 2
      clear hee
      go_enter Try.func19, Try.ntmps19
      go_wp2_with fail
      have hN : Hid (WrdB ((w.setCell ⟨G, 2, none⟩ (.int .i64 (e : Int))).drew) G N s e (.slice A0 l.length c0) (-1)) := hid ((WrdB.at_ HB.out e).drewN 1)
      have hO : Hid (((w.setCell ⟨G, 2, none⟩ (.int .i64 (e : Int))).drew).ownsRow W0.heap.size 9 1 (.slice A0 l.length c0) l.length (strV l)) := hid (own_drewN (own_setG (p := ⟨G, 2, none⟩) (u := .int .i64 (e : Int)) HO.out hG0') 1)
      have hG : Hid (W0.grownBy ((w.setCell ⟨G, 2, none⟩ (.int .i64 (e : Int))).drew) (some G)) := hid (grown_drewN (grown_set (o := 2) (v := .int .i64 (e : Int)) HG.out) 1)
      have f2' := Blk.frozen (HB.out.drewN 1) 2
      obtain ⟨d0, d1, d2⟩ := (HB.out.drewN 1).cells
      cases B2
      · cases B1
        · cases hb
        · clear hb
          go_region_held3 (fun w' => w'.cell? ⟨G, 0, none⟩ = some (.int .i64 (N : Int)) ∧ w'.cell? ⟨G, 1, none⟩ = some (.string (bs s)) ∧ w'.cell? ⟨G, 2, none⟩ = some (.int .i64 (a : Int)))
            (first | exact hN0.out.cells | exact (hN0.out.drewN 1).cells)
            (fail)
          go_wp2_with fail
          clear c1 c2 c3 d0 d1 d2 f2 f2' hcast
          generalize ((w.setCell ⟨G, 2, none⟩ (.int .i64 (e : Int))).drew) = W at *
          obtain ⟨n0, n1, n2⟩ := hN.out.cells
          go_region_held3 (fun w' => w'.cell? ⟨G, 0, none⟩ = some (.int .i64 (N : Int)) ∧ w'.cell? ⟨G, 1, none⟩ = some (.string (bs s)) ∧ w'.cell? ⟨G, 2, none⟩ = some (.int .i64 (e : Int)))
            (first | exact hN.out.cells | exact (hN.out.drewN 1).cells | exact (WrdB.below hN.out Ft).cells)
            (first | (go_at_call 24; refine (l3Tidy_any N _ _ lo hi (sub_len s _ _ hs)).mono ?_; rintro e0 wt ⟨rfl, bt⟩; have Ft : Below W.heap.size W wt := (Below.refl _ _).drew.trans (bt.mono (Nat.le_refl _))))
          have hN2 := hid (WrdB.below hN.out Ft)
          have hO2 := hid (own_below hO.out Ft)
          have hG2 := hid (grown_one hG.out (grown_of_below Ft))
          have hsz2 := hG2.out.size
          clear bt Ft n0 n1 n2
          obtain ⟨n0, n1, n2⟩ := hN2.out.cells
          have n3 := Blk.cell hN2.out 3
          have n4 := Blk.cell hN2.out 4
          have f0 := Blk.frozen hN2.out 0
          have f2 := Blk.frozen hN2.out 2
          have f3 := Blk.frozen hN2.out 3
          have f4 := Blk.frozen hN2.out 4
          simp only [List.getElem?_toArray, List.getElem?_cons_zero, List.getElem?_cons_succ] at n3 n4
          obtain ⟨Wd, hWd⟩ : ∃ Wd, Wd = tidyL N (List.take (e - a) (List.drop a s)) := ⟨_, rfl⟩
          have HWd := hid (show wordL N s a = Wd by unfold wordL; rw [HE.out, hWd])
          rw [← hWd]
          clear hWd
          obtain ⟨nb, hnb⟩ : ∃ b, (Wd == []) = b := ⟨_, rfl⟩
          have HBW := hid (show badW N s a = (decide (e = a) || nb) by unfold badW; rw [HE.out, HWd.out, ← hnb]; congr 1; rw [Bool.eq_iff_iff]; simp)
          cases hea : decide (e = a)
          · have hne : ((a : Int) == (e : Int)) = false := by have := of_decide_eq_false hea; simp; omega
            rw [hea] at HBW
            clear hea
            cases nb
            rotate_left
            · have HR := hid (show badW N s a = true from HBW.out)
              go_wp2
              refine bodyPost_ret (results_none rfl _ _ _) rfl ?_
              exact ⟨rfl, WordR.no HE.out HR.out (WrdB.bad hN2.out _) (grown_set hG2.out)⟩
            · have HR := hid (show badW N s a = false by rw [HBW.out]; rfl)
              have hne5 := hid (show (Value.slice A0 l.length c0).ownBlock ≠ some G from fun h => by have h1 := (hO2.out.lt G h).1; omega)
              have hlim : l.length + 1 ≤ 1000000000000 := by omega
              go_wp2_with (at_builtin; refine app_str _ (by rfl) _ _ (by rfl) W0.heap.size _ _ _ (by rfl) (hO2.out.alloc _) (some ⟨wt.heap.size, 0, none⟩) 1 1 [Wd] (by rfl) (Rd.blk _ [.string (bs Wd)] _) hlim (by simp; omega) ?_; intro v5 w5 o5 g5; obtain ⟨A5, c5, rfl, _⟩ := own_shape o5; have B5 : wt.grownBy w5 (Value.slice A0 l.length c0).ownBlock := grown_below ((Below.refl _ _).alloc (Nat.le_refl _) _) g5; have HN5 := hid (show WrdB w5 G N s e (.slice A0 l.length c0) (-1) from blk_grown3 B5 hN2.out hne5.out); have f5 := Blk.frozen HN5.out 3; have m3 := Blk.cell HN5.out 3; simp only [List.getElem?_toArray, List.getElem?_cons_zero, List.getElem?_cons_succ] at m3)
              go_end0
              exact ⟨rfl, WordR.yes HE.out HR.out HWd.out (WrdB.out_ HN5.out _) (own_setG o5 hG0') (grown_set (grown_new hG2.out B5 (fun q hq => (hO2.out.lt q hq).1)))⟩
          · have hne : ((a : Int) == (e : Int)) = true := by have := of_decide_eq_true hea; simp; omega
            rw [hea] at HBW
            have HR := hid (show badW N s a = true by rw [HBW.out]; rfl)
            clear hea
            go_wp2
            refine bodyPost_ret (results_none rfl _ _ _) rfl ?_
            exact ⟨rfl, WordR.no HE.out HR.out (WrdB.bad hN2.out _) (grown_set hG2.out)⟩
      · clear hb
        refine wp_region_held_drew (S := fun w' => w'.cell? ⟨G, 0, none⟩ = some (.int .i64 (N : Int)) ∧ w'.cell? ⟨G, 1, none⟩ = some (.string (bs s)) ∧ w'.cell? ⟨G, 2, none⟩ = some (.int .i64 (a : Int))) (by kernel_rfl) ((HB.out.drewN 1).cells) (fun hHeld => ?_)
        refine wpAnyH_take (i := 0) (v := ?_) rfl (by kernel_rfl) (by kernel_rfl) (by kernel_rfl) (fun _ _ _ h => h) (Or.inl ⟨by rfl, ?_⟩) (by assumption) ?_
        rotate_left
        · (intro w hSw; (try dsimp only at hSw); go_simp; with_reducible rfl)
        try simp only [Act.put, List.setIfInBounds_toArray, List.set_cons_zero, List.set_cons_succ]
        refine wpAnyH_take (i := 1) (v := ?_) rfl (by kernel_rfl) (by kernel_rfl) (by kernel_rfl) (fun _ _ _ h => h) (Or.inl ⟨by rfl, ?_⟩) (by assumption) ?_
        rotate_left
        · (intro w hSw; (try dsimp only at hSw); go_simp; with_reducible rfl)
        try simp only [Act.put, List.setIfInBounds_toArray, List.set_cons_zero, List.set_cons_succ]
        refine wpAnyH_take (i := 2) (v := ?_) rfl (by kernel_rfl) (by kernel_rfl) (by kernel_rfl) (fun _ _ _ h => h) (Or.inl ⟨by rfl, ?_⟩) (by assumption) ?_
        rotate_left
        · (intro w hSw; (try dsimp only at hSw); go_simp; with_reducible rfl)
        try simp only [Act.put, List.setIfInBounds_toArray, List.set_cons_zero, List.set_cons_succ]
        refine wpAnyH_take (i := 3) (v := ?_) rfl (by kernel_rfl) (by kernel_rfl) (by kernel_rfl) (fun _ _ _ h => h) (Or.inl ⟨by rfl, ?_⟩) (by assumption) ?_
        rotate_left
        · (intro w hSw; (try dsimp only at hSw); go_simp; with_reducible rfl)
        try simp only [Act.put, List.setIfInBounds_toArray, List.set_cons_zero, List.set_cons_succ]
        refine wpAnyH_take (i := 4) (v := ?_) rfl (by kernel_rfl) (by kernel_rfl) (by kernel_rfl) (fun _ _ _ h => h) (Or.inl ⟨by rfl, ?_⟩) (by assumption) ?_
        rotate_left
        · (intro w hSw; (try dsimp only at hSw); go_simp; with_reducible rfl)
        try simp only [Act.put, List.setIfInBounds_toArray, List.set_cons_zero, List.set_cons_succ]
        refine wpAnyH_take (i := 5) (v := ?_) rfl (by kernel_rfl) (by kernel_rfl) (by kernel_rfl) (fun _ _ _ h => h) (Or.inl ⟨by rfl, ?_⟩) (by assumption) ?_
        rotate_left
        · (intro w hSw; (try dsimp only at hSw); go_simp; with_reducible rfl)
        try simp only [Act.put, List.setIfInBounds_toArray, List.set_cons_zero, List.set_cons_succ]
        refine wpAnyH_take (i := 6) (v := ?_) rfl (by kernel_rfl) (by kernel_rfl) (by kernel_rfl) (fun _ _ _ h => h) (Or.inl ⟨by rfl, ?_⟩) (by assumption) ?_
        rotate_left
        · (intro w hSw; (try dsimp only at hSw); go_simp; with_reducible rfl)
        try simp only [Act.put, List.setIfInBounds_toArray, List.set_cons_zero, List.set_cons_succ]
        refine wpAnyH_take (i := 7) (v := ?_) rfl (by kernel_rfl) (by kernel_rfl) (by kernel_rfl) (fun _ _ _ h => h) (Or.inl ⟨by rfl, ?_⟩) (by assumption) ?_
        rotate_left
        · (intro w hSw; (try dsimp only at hSw); go_simp; with_reducible rfl)
        try simp only [Act.put, List.setIfInBounds_toArray, List.set_cons_zero, List.set_cons_succ]
        refine wpAnyH_take (i := 8) (v := ?_) rfl (by kernel_rfl) (by kernel_rfl) (by kernel_rfl) (fun _ _ _ h => h) (Or.inl ⟨by rfl, ?_⟩) (by assumption) ?_
        rotate_left
        · (intro w hSw; (try dsimp only at hSw); go_simp; with_reducible rfl)
        try simp only [Act.put, List.setIfInBounds_toArray, List.set_cons_zero, List.set_cons_succ]
        refine wpAnyH_take (i := 9) (v := ?_) rfl (by kernel_rfl) (by kernel_rfl) (by kernel_rfl) (fun _ _ _ h => h) (Or.inl ⟨by rfl, ?_⟩) (by assumption) ?_
        rotate_left
        · (intro w hSw; (try dsimp only at hSw); go_simp; with_reducible rfl)
        try simp only [Act.put, List.setIfInBounds_toArray, List.set_cons_zero, List.set_cons_succ]
        refine wpAnyH_take (i := 10) (v := ?_) rfl (by kernel_rfl) (by kernel_rfl) (by kernel_rfl) (fun _ _ _ h => h) (Or.inl ⟨by rfl, ?_⟩) (by assumption) ?_
        rotate_left
        · (intro w hSw; (try dsimp only at hSw); go_simp; with_reducible rfl)
        try simp only [Act.put, List.setIfInBounds_toArray, List.set_cons_zero, List.set_cons_succ]
        refine wpAnyH_take (i := 11) (v := ?_) rfl (by kernel_rfl) (by kernel_rfl) (by kernel_rfl) (fun _ _ _ h => h) (Or.inl ⟨by kernel_rfl, ?_⟩) (by assumption) ?_
        rotate_left
        · (intro w hSw; (try dsimp only at hSw); go_simp; with_reducible rfl)
        try simp only [Act.put, List.setIfInBounds_toArray, List.set_cons_zero, List.set_cons_succ]
        refine wpAnyH_take (i := 12) (v := ?_) rfl (by kernel_rfl) (by kernel_rfl) (by kernel_rfl) (fun _ _ _ h => h) (Or.inl ⟨by kernel_rfl, ?_⟩) (by assumption) ?_
        rotate_left
        · (intro w hSw; (try dsimp only at hSw); go_simp; with_reducible rfl)
        try simp only [Act.put, List.setIfInBounds_toArray, List.set_cons_zero, List.set_cons_succ]
        refine wpAnyH_take (i := 13) (v := ?_) rfl (by kernel_rfl) (by kernel_rfl) (by kernel_rfl) (fun _ _ _ h => h) (Or.inl ⟨by kernel_rfl, ?_⟩) (by assumption) ?_
        rotate_left
        · (intro w hSw; (try dsimp only at hSw); go_simp; with_reducible rfl)
        try simp only [Act.put, List.setIfInBounds_toArray, List.set_cons_zero, List.set_cons_succ]
        refine wpAnyH_take (i := 14) (v := ?_) rfl (by kernel_rfl) (by kernel_rfl) (by kernel_rfl) (fun _ _ _ h => h) (Or.inl ⟨by kernel_rfl, ?_⟩) (by assumption) ?_
        rotate_left
        · (intro w hSw; (try dsimp only at hSw); go_simp; with_reducible rfl)
        try simp only [Act.put, List.setIfInBounds_toArray, List.set_cons_zero, List.set_cons_succ]
        refine wpAnyH_take (i := 15) (v := ?_) rfl (by kernel_rfl) (by kernel_rfl) (by kernel_rfl) (fun _ _ _ h => h) (Or.inl ⟨by kernel_rfl, ?_⟩) (by assumption) ?_
        rotate_left
        · (intro w hSw; (try dsimp only at hSw); go_simp; with_reducible rfl)
        try simp only [Act.put, List.setIfInBounds_toArray, List.set_cons_zero, List.set_cons_succ]
        refine wpAnyH_take (i := 16) (v := ?_) rfl (by kernel_rfl) (by kernel_rfl) (by kernel_rfl) (fun _ _ _ h => h) (Or.inl ⟨by kernel_rfl, ?_⟩) (by assumption) ?_
        rotate_left
        · (intro w hSw; (try dsimp only at hSw); go_simp; with_reducible rfl)
        try simp only [Act.put, List.setIfInBounds_toArray, List.set_cons_zero, List.set_cons_succ]
        refine wpAnyH_take (i := 17) (v := ?_) rfl (by kernel_rfl) (by kernel_rfl) (by kernel_rfl) (fun _ _ _ h => h) (Or.inl ⟨by kernel_rfl, ?_⟩) (by assumption) ?_
        rotate_left
        · (intro w hSw; (try dsimp only at hSw); go_simp; with_reducible rfl)
        try simp only [Act.put, List.setIfInBounds_toArray, List.set_cons_zero, List.set_cons_succ]
        refine wpAnyH_take (i := 18) (v := ?_) rfl (by kernel_rfl) (by kernel_rfl) (by kernel_rfl) (fun _ _ _ h => h) (Or.inl ⟨by kernel_rfl, ?_⟩) (by assumption) ?_
        rotate_left
        · (intro w hSw; (try dsimp only at hSw); go_simp; with_reducible rfl)
        try simp only [Act.put, List.setIfInBounds_toArray, List.set_cons_zero, List.set_cons_succ]
        refine wpAnyH_take (i := 19) (v := ?_) rfl (by kernel_rfl) (by kernel_rfl) (by kernel_rfl) (fun _ _ _ h => h) (Or.inl ⟨by kernel_rfl, ?_⟩) (by assumption) ?_
        rotate_left
        · (intro w hSw; (try dsimp only at hSw); go_simp; with_reducible rfl)
        try simp only [Act.put, List.setIfInBounds_toArray, List.set_cons_zero, List.set_cons_succ]
        refine wpAnyH_take (i := 20) (v := ?_) rfl (by kernel_rfl) (by kernel_rfl) (by kernel_rfl) (fun _ _ _ h => h) (Or.inl ⟨by kernel_rfl, ?_⟩) (by assumption) ?_
        rotate_left
        · (intro w hSw; (try dsimp only at hSw); go_simp; with_reducible rfl)
        try simp only [Act.put, List.setIfInBounds_toArray, List.set_cons_zero, List.set_cons_succ]
        refine wpAnyH_take (i := 21) (v := ?_) rfl (by kernel_rfl) (by kernel_rfl) (by kernel_rfl) (fun _ _ _ h => h) (Or.inl ⟨by kernel_rfl, ?_⟩) (by assumption) ?_
        rotate_left
        · (intro w hSw; (try dsimp only at hSw); go_simp; with_reducible rfl)
        try simp only [Act.put, List.setIfInBounds_toArray, List.set_cons_zero, List.set_cons_succ]
        refine wpAnyH_pass (i := 22) (d := some 30) (by kernel_rfl) (by kernel_rfl) (by kernel_rfl) (by kernel_rfl) (fun _ _ _ _ h => h) (by kernel_rfl) (by assumption) ?_
        try simp only [Act.put, List.setIfInBounds_toArray, List.set_cons_zero, List.set_cons_succ]
        refine wpAnyH_pass (i := 23) (d := some 31) (by kernel_rfl) (by kernel_rfl) (by kernel_rfl) (by kernel_rfl) (fun _ _ _ _ h => h) (by kernel_rfl) (by assumption) ?_
        try simp only [Act.put, List.setIfInBounds_toArray, List.set_cons_zero, List.set_cons_succ]
        refine wpAnyH_pass (i := 24) (d := some 32) (by kernel_rfl) (by kernel_rfl) (by kernel_rfl) (by kernel_rfl) (fun _ _ _ _ h => h) (by kernel_rfl) (by assumption) ?_
        try simp only [Act.put, List.setIfInBounds_toArray, List.set_cons_zero, List.set_cons_succ]
        refine wpAnyH_pass (i := 25) (d := some 33) (by kernel_rfl) (by kernel_rfl) (by kernel_rfl) (by kernel_rfl) (fun _ _ _ _ h => h) (by kernel_rfl) (by assumption) ?_
        try simp only [Act.put, List.setIfInBounds_toArray, List.set_cons_zero, List.set_cons_succ]
        refine wpAnyH_pass (i := 26) (d := some 34) (by kernel_rfl) (by kernel_rfl) (by kernel_rfl) (by kernel_rfl) (fun _ _ _ _ h => h) (by kernel_rfl) (by assumption) ?_
        try simp only [Act.put, List.setIfInBounds_toArray, List.set_cons_zero, List.set_cons_succ]
        refine wpAnyH_pass (i := 27) (d := some 35) (by kernel_rfl) (by kernel_rfl) (by kernel_rfl) (by kernel_rfl) (fun _ _ _ _ h => h) (by kernel_rfl) (by assumption) ?_
        try simp only [Act.put, List.setIfInBounds_toArray, List.set_cons_zero, List.set_cons_succ]
        refine wpAnyH_pass (i := 28) (d := some 36) (by kernel_rfl) (by kernel_rfl) (by kernel_rfl) (by kernel_rfl) (fun _ _ _ _ h => h) (by kernel_rfl) (by assumption) ?_
        try simp only [Act.put, List.setIfInBounds_toArray, List.set_cons_zero, List.set_cons_succ]
        refine wpAnyH_pass (i := 29) (d := some 37) (by kernel_rfl) (by kernel_rfl) (by kernel_rfl) (by kernel_rfl) (fun _ _ _ _ h => h) (by kernel_rfl) (by assumption) ?_
        try simp only [Act.put, List.setIfInBounds_toArray, List.set_cons_zero, List.set_cons_succ]
        refine wpAnyH_pass (i := 30) (d := some 38) (by kernel_rfl) (by kernel_rfl) (by kernel_rfl) (by kernel_rfl) (fun _ _ _ _ h => h) (by kernel_rfl) (by assumption) ?_
        try simp only [Act.put, List.setIfInBounds_toArray, List.set_cons_zero, List.set_cons_succ]
        refine wpAnyH_pass (i := 31) (d := some 39) (by kernel_rfl) (by kernel_rfl) (by kernel_rfl) (by kernel_rfl) (fun _ _ _ _ h => h) (by kernel_rfl) (by assumption) ?_
        try simp only [Act.put, List.setIfInBounds_toArray, List.set_cons_zero, List.set_cons_succ]
        refine wpAnyH_take (i := 32) (v := ?_) rfl (by kernel_rfl) (by kernel_rfl) (by kernel_rfl) (fun _ _ _ h => h) (Or.inl ⟨by kernel_rfl, ?_⟩) (by assumption) ?_
        rotate_left
        · (intro w hSw; (try dsimp only at hSw); go_simp; with_reducible rfl)
        try simp only [Act.put, List.setIfInBounds_toArray, List.set_cons_zero, List.set_cons_succ]
        refine wpAnyH_ready (rs := [33]) (by kernel_rfl) (by simp) ?_
        refine AllReadyH.cons rfl (fun K hK => ?_) AllReadyH.nil
        go_simp
        refine hK.out _ _ (by assumption) (fun hHx => ?_)
        clear hHx hK K
        try simp only [Act.put, List.setIfInBounds_toArray, List.set_cons_zero, List.set_cons_succ]
        refine wpAnyH_done (by kernel_rfl) ?_ _
        go_wp2_with fail
        clear c1 c2 c3 d0 d1 d2 f2 f2' hcast
        generalize ((w.setCell ⟨G, 2, none⟩ (.int .i64 (e : Int))).drew) = W at *
        obtain ⟨n0, n1, n2⟩ := hN.out.cells
        go_region_held3 (fun w' => w'.cell? ⟨G, 0, none⟩ = some (.int .i64 (N : Int)) ∧ w'.cell? ⟨G, 1, none⟩ = some (.string (bs s)) ∧ w'.cell? ⟨G, 2, none⟩ = some (.int .i64 (e : Int)))
          (first | exact hN.out.cells | exact (hN.out.drewN 1).cells | exact (WrdB.below hN.out Ft).cells)
          (first | (go_at_call 24; refine (l3Tidy_any N _ _ lo hi (sub_len s _ _ hs)).mono ?_; rintro e0 wt ⟨rfl, bt⟩; have Ft : Below W.heap.size W wt := (Below.refl _ _).drew.trans (bt.mono (Nat.le_refl _))))
        have hN2 := hid (WrdB.below hN.out Ft)
        have hO2 := hid (own_below hO.out Ft)
        have hG2 := hid (grown_one hG.out (grown_of_below Ft))
        have hsz2 := hG2.out.size
        clear bt Ft n0 n1 n2
        obtain ⟨n0, n1, n2⟩ := hN2.out.cells
        have n3 := Blk.cell hN2.out 3
        have n4 := Blk.cell hN2.out 4
        have f0 := Blk.frozen hN2.out 0
        have f2 := Blk.frozen hN2.out 2
        have f3 := Blk.frozen hN2.out 3
        have f4 := Blk.frozen hN2.out 4
        simp only [List.getElem?_toArray, List.getElem?_cons_zero, List.getElem?_cons_succ] at n3 n4
        obtain ⟨Wd, hWd⟩ : ∃ Wd, Wd = tidyL N (List.take (e - a) (List.drop a s)) := ⟨_, rfl⟩
        have HWd := hid (show wordL N s a = Wd by unfold wordL; rw [HE.out, hWd])
        rw [← hWd]
        clear hWd
        obtain ⟨nb, hnb⟩ : ∃ b, (Wd == []) = b := ⟨_, rfl⟩
        have HBW := hid (show badW N s a = (decide (e = a) || nb) by unfold badW; rw [HE.out, HWd.out, ← hnb]; congr 1; rw [Bool.eq_iff_iff]; simp)
        cases hea : decide (e = a)
        · have hne : ((a : Int) == (e : Int)) = false := by have := of_decide_eq_false hea; simp; omega
          rw [hea] at HBW
          clear hea
          cases nb
          rotate_left
          · have HR := hid (show badW N s a = true from HBW.out)
            go_wp2
            refine bodyPost_ret (results_none rfl _ _ _) rfl ?_
            exact ⟨rfl, WordR.no HE.out HR.out (WrdB.bad hN2.out _) (grown_set hG2.out)⟩
          · have HR := hid (show badW N s a = false by rw [HBW.out]; rfl)
            have hne5 := hid (show (Value.slice A0 l.length c0).ownBlock ≠ some G from fun h => by have h1 := (hO2.out.lt G h).1; omega)
            have hlim : l.length + 1 ≤ 1000000000000 := by omega
            go_wp2_with (at_builtin; refine app_str _ (by rfl) _ _ (by rfl) W0.heap.size _ _ _ (by rfl) (hO2.out.alloc _) (some ⟨wt.heap.size, 0, none⟩) 1 1 [Wd] (by rfl) (Rd.blk _ [.string (bs Wd)] _) hlim (by simp; omega) ?_; intro v5 w5 o5 g5; obtain ⟨A5, c5, rfl, _⟩ := own_shape o5; have B5 : wt.grownBy w5 (Value.slice A0 l.length c0).ownBlock := grown_below ((Below.refl _ _).alloc (Nat.le_refl _) _) g5; have HN5 := hid (show WrdB w5 G N s e (.slice A0 l.length c0) (-1) from blk_grown3 B5 hN2.out hne5.out); have f5 := Blk.frozen HN5.out 3; have m3 := Blk.cell HN5.out 3; simp only [List.getElem?_toArray, List.getElem?_cons_zero, List.getElem?_cons_succ] at m3)
            go_end0
            exact ⟨rfl, WordR.yes HE.out HR.out HWd.out (WrdB.out_ HN5.out _) (own_setG o5 hG0') (grown_set (grown_new hG2.out B5 (fun q hq => (hO2.out.lt q hq).1)))⟩
        · have hne : ((a : Int) == (e : Int)) = true := by have := of_decide_eq_true hea; simp; omega
          rw [hea] at HBW
          have HR := hid (show badW N s a = true by rw [HBW.out]; rfl)
          clear hea
          go_wp2
          refine bodyPost_ret (results_none rfl _ _ _) rfl ?_
          exact ⟨rfl, WordR.no HE.out HR.out (WrdB.bad hN2.out _) (grown_set hG2.out)⟩
    · obtain ⟨e, hee⟩ : ∃ e, e = dgEnd s (s.length - a) a := ⟨_, rfl⟩
      have HE := hid (show wEnd s a = e by unfold wEnd; rw [if_neg (fun h => hb (by rw [← HIX.out]; exact h.2)), hee])
      have hd0 := hid (show dgEnd s (s.length - a) a = e from hee.symm)
      cases B2
      rotate_left
      · exact absurd rfl hb
      cases B1
      rotate_left
      · exact absurd rfl hb
      clear hb hee
      go_enter Try.func19, Try.ntmps19
      go_wp2_with fail
      go_region_held3 (fun w' => w'.cell? ⟨G, 0, none⟩ = some (.int .i64 (N : Int)) ∧ w'.cell? ⟨G, 1, none⟩ = some (.string (bs s)) ∧ w'.cell? ⟨G, 2, none⟩ = some (.int .i64 (a : Int)))
        (first | exact hN0.out.cells | exact (hN0.out.drewN 1).cells)
        (fail)
      have HN1 : Hid (WrdB w.drew G N s a (.slice A0 l.length c0) (-1)) := hid (HB.out.drewN 1)
      have HO1 : Hid (w.drew.ownsRow W0.heap.size 9 1 (.slice A0 l.length c0) l.length (strV l)) := hid (own_drewN HO.out 1)
      have HG1 : Hid (W0.grownBy w.drew (some G)) := hid (grown_drewN HG.out 1)
      obtain ⟨d1, d2, d3⟩ := HN1.out.cells
      clear hX e120 e120N e45 e45N x2
      go_wp2_with fail
      clear d1 d2 d3
      go_loopg [] (s.length - a) (fun gk wr => ∃ x : Nat, a ≤ x ∧ x ≤ s.length ∧ gk = s.length - x ∧ Hid (dgEnd s (s.length - x) x = e) ∧ WrdB wr G N s x (.slice A0 l.length c0) (-1) ∧ wr.ownsRow W0.heap.size 9 1 (.slice A0 l.length c0) l.length (strV l) ∧ W0.grownBy wr (some G))
      case atStart => exact ⟨a, Nat.le_refl _, HA.out, rfl, hd0, HN1.out, HO1.out, HG1.out⟩
      case round =>
        obtain ⟨x, hax, hxl, rfl, hd, hn, ho, hg⟩ := hrel
        have hN0 := hid hn
        have hO0 := hid ho
        have hG0 := hid hg
        have k0 : (0 : Int) ≤ (a : Int) := by omega
        have k1x : (a : Int) ≤ (x : Int) := by omega
        have k2x : (x : Int) ≤ (s.length : Int) := by omega
        clear hn ho hg
        by_cases hx : x < s.length
        · obtain ⟨Y, hY⟩ : ∃ Y, s[x] = Y := ⟨_, rfl⟩
          have hgd2 := hid (show s.getD x 0 = Y by rw [← hY]; simp [List.getD, hx])
          have x0 : (0 : Int) ≤ (x : Int) := by omega
          have x1 : (x : Int) < (s.length : Int) := by omega
          have x2 : decide (x < s.length) = true := decide_eq_true hx
          obtain ⟨C1, hC1⟩ : ∃ C, decide (48 ≤ Y.toNat) = C := ⟨_, rfl⟩
          obtain ⟨C2, hC2⟩ : ∃ C, decide (Y.toNat ≤ 57) = C := ⟨_, rfl⟩
          have hC1i : decide ((48 : Int) ≤ (Y.toNat : Int)) = C1 := by rw [← hC1]; exact decide_eq_decide.2 (by omega)
          have hC2i : decide ((Y.toNat : Int) ≤ 57) = C2 := by rw [← hC2]; exact decide_eq_decide.2 (by omega)
          have HDG := hid (show isDg (s.getD x 0) = (C1 && C2) by rw [hgd2.out]; unfold isDg; rw [hC1, hC2])
          have HST := hid (show dgEnd s (s.length - x) x = if isDg (s.getD x 0) = true then dgEnd s (s.length - (x + 1)) (x + 1) else x by
            obtain ⟨f, hf⟩ : ∃ f, s.length - x = f + 1 := ⟨s.length - x - 1, by omega⟩
            rw [hf, dgEnd, show s.length - (x + 1) = f by omega]
            by_cases hq : isDg (s.getD x 0) = true
            · rw [if_pos ⟨hx, hq⟩, if_pos hq]
            · rw [if_neg (fun h => hq h.2), if_neg hq])
          cases C1
          · have HX := hid (show e = x by rw [← hd.out, HST.out, HDG.out]; rfl)
            have HE := hid (HE.out.trans HX.out)
            clear hd HST HDG
            go_wp2_with fail
            refine wp_region_held_drew (S := fun w' => w'.cell? ⟨G, 0, none⟩ = some (.int .i64 (N : Int)) ∧ w'.cell? ⟨G, 1, none⟩ = some (.string (bs s)) ∧ w'.cell? ⟨G, 2, none⟩ = some (.int .i64 (x : Int))) (by kernel_rfl) ((hN0.out.drewN 1).cells) (fun hHeld => ?_)
            refine wpAnyH_take (i := 0) (v := ?_) rfl (by kernel_rfl) (by kernel_rfl) (by kernel_rfl) (fun _ _ _ h => h) (Or.inl ⟨by rfl, ?_⟩) (by assumption) ?_
            rotate_left
            · (intro w hSw; (try dsimp only at hSw); go_simp; with_reducible rfl)
            try simp only [Act.put, List.setIfInBounds_toArray, List.set_cons_zero, List.set_cons_succ]
            refine wpAnyH_take (i := 1) (v := ?_) rfl (by kernel_rfl) (by kernel_rfl) (by kernel_rfl) (fun _ _ _ h => h) (Or.inl ⟨by rfl, ?_⟩) (by assumption) ?_
            rotate_left
            · (intro w hSw; (try dsimp only at hSw); go_simp; with_reducible rfl)
            try simp only [Act.put, List.setIfInBounds_toArray, List.set_cons_zero, List.set_cons_succ]
            refine wpAnyH_take (i := 2) (v := ?_) rfl (by kernel_rfl) (by kernel_rfl) (by kernel_rfl) (fun _ _ _ h => h) (Or.inl ⟨by rfl, ?_⟩) (by assumption) ?_
            rotate_left
            · (intro w hSw; (try dsimp only at hSw); go_simp; with_reducible rfl)
            try simp only [Act.put, List.setIfInBounds_toArray, List.set_cons_zero, List.set_cons_succ]
            refine wpAnyH_take (i := 3) (v := ?_) rfl (by kernel_rfl) (by kernel_rfl) (by kernel_rfl) (fun _ _ _ h => h) (Or.inl ⟨by rfl, ?_⟩) (by assumption) ?_
            rotate_left
            · (intro w hSw; (try dsimp only at hSw); go_simp; with_reducible rfl)
            try simp only [Act.put, List.setIfInBounds_toArray, List.set_cons_zero, List.set_cons_succ]
            refine wpAnyH_take (i := 4) (v := ?_) rfl (by kernel_rfl) (by kernel_rfl) (by kernel_rfl) (fun _ _ _ h => h) (Or.inl ⟨by rfl, ?_⟩) (by assumption) ?_
            rotate_left
            · (intro w hSw; (try dsimp only at hSw); go_simp; with_reducible rfl)
            try simp only [Act.put, List.setIfInBounds_toArray, List.set_cons_zero, List.set_cons_succ]
            refine wpAnyH_take (i := 5) (v := ?_) rfl (by kernel_rfl) (by kernel_rfl) (by kernel_rfl) (fun _ _ _ h => h) (Or.inl ⟨by rfl, ?_⟩) (by assumption) ?_
            rotate_left
            · (intro w hSw; (try dsimp only at hSw); go_simp; with_reducible rfl)
            try simp only [Act.put, List.setIfInBounds_toArray, List.set_cons_zero, List.set_cons_succ]
            refine wpAnyH_take (i := 6) (v := ?_) rfl (by kernel_rfl) (by kernel_rfl) (by kernel_rfl) (fun _ _ _ h => h) (Or.inl ⟨by rfl, ?_⟩) (by assumption) ?_
            rotate_left
            · (intro w hSw; (try dsimp only at hSw); go_simp; with_reducible rfl)
            try simp only [Act.put, List.setIfInBounds_toArray, List.set_cons_zero, List.set_cons_succ]
            refine wpAnyH_take (i := 7) (v := ?_) rfl (by kernel_rfl) (by kernel_rfl) (by kernel_rfl) (fun _ _ _ h => h) (Or.inl ⟨by rfl, ?_⟩) (by assumption) ?_
            rotate_left
            · (intro w hSw; (try dsimp only at hSw); go_simp; with_reducible rfl)
            try simp only [Act.put, List.setIfInBounds_toArray, List.set_cons_zero, List.set_cons_succ]
            refine wpAnyH_take (i := 8) (v := ?_) rfl (by kernel_rfl) (by kernel_rfl) (by kernel_rfl) (fun _ _ _ h => h) (Or.inl ⟨by rfl, ?_⟩) (by assumption) ?_
            rotate_left
            · (intro w hSw; (try dsimp only at hSw); go_simp; with_reducible rfl)
            try simp only [Act.put, List.setIfInBounds_toArray, List.set_cons_zero, List.set_cons_succ]
            refine wpAnyH_take (i := 9) (v := ?_) rfl (by kernel_rfl) (by kernel_rfl) (by kernel_rfl) (fun _ _ _ h => h) (Or.inl ⟨by rfl, ?_⟩) (by assumption) ?_
            rotate_left
            · (intro w hSw; (try dsimp only at hSw); go_simp; with_reducible rfl)
            try simp only [Act.put, List.setIfInBounds_toArray, List.set_cons_zero, List.set_cons_succ]
            refine wpAnyH_take (i := 10) (v := ?_) rfl (by kernel_rfl) (by kernel_rfl) (by kernel_rfl) (fun _ _ _ h => h) (Or.inl ⟨by rfl, ?_⟩) (by assumption) ?_
            rotate_left
            · (intro w hSw; (try dsimp only at hSw); go_simp; with_reducible rfl)
            try simp only [Act.put, List.setIfInBounds_toArray, List.set_cons_zero, List.set_cons_succ]
            refine wpAnyH_take (i := 11) (v := ?_) rfl (by kernel_rfl) (by kernel_rfl) (by kernel_rfl) (fun _ _ _ h => h) (Or.inl ⟨by kernel_rfl, ?_⟩) (by assumption) ?_
            rotate_left
            · (intro w hSw; (try dsimp only at hSw); go_simp; with_reducible rfl)
            try simp only [Act.put, List.setIfInBounds_toArray, List.set_cons_zero, List.set_cons_succ]
            refine wpAnyH_take (i := 12) (v := ?_) rfl (by kernel_rfl) (by kernel_rfl) (by kernel_rfl) (fun _ _ _ h => h) (Or.inl ⟨by kernel_rfl, ?_⟩) (by assumption) ?_
            rotate_left
            · (intro w hSw; (try dsimp only at hSw); go_simp; with_reducible rfl)
            try simp only [Act.put, List.setIfInBounds_toArray, List.set_cons_zero, List.set_cons_succ]
            refine wpAnyH_take (i := 13) (v := ?_) rfl (by kernel_rfl) (by kernel_rfl) (by kernel_rfl) (fun _ _ _ h => h) (Or.inl ⟨by kernel_rfl, ?_⟩) (by assumption) ?_
            rotate_left
            · (intro w hSw; (try dsimp only at hSw); go_simp; with_reducible rfl)
            try simp only [Act.put, List.setIfInBounds_toArray, List.set_cons_zero, List.set_cons_succ]
            refine wpAnyH_take (i := 14) (v := ?_) rfl (by kernel_rfl) (by kernel_rfl) (by kernel_rfl) (fun _ _ _ h => h) (Or.inl ⟨by kernel_rfl, ?_⟩) (by assumption) ?_
            rotate_left
            · (intro w hSw; (try dsimp only at hSw); go_simp; with_reducible rfl)
            try simp only [Act.put, List.setIfInBounds_toArray, List.set_cons_zero, List.set_cons_succ]
            refine wpAnyH_take (i := 15) (v := ?_) rfl (by kernel_rfl) (by kernel_rfl) (by kernel_rfl) (fun _ _ _ h => h) (Or.inl ⟨by kernel_rfl, ?_⟩) (by assumption) ?_
            rotate_left
            · (intro w hSw; (try dsimp only at hSw); go_simp; with_reducible rfl)
            try simp only [Act.put, List.setIfInBounds_toArray, List.set_cons_zero, List.set_cons_succ]
            refine wpAnyH_take (i := 16) (v := ?_) rfl (by kernel_rfl) (by kernel_rfl) (by kernel_rfl) (fun _ _ _ h => h) (Or.inl ⟨by kernel_rfl, ?_⟩) (by assumption) ?_
            rotate_left
            · (intro w hSw; (try dsimp only at hSw); go_simp; with_reducible rfl)
            try simp only [Act.put, List.setIfInBounds_toArray, List.set_cons_zero, List.set_cons_succ]
            refine wpAnyH_take (i := 17) (v := ?_) rfl (by kernel_rfl) (by kernel_rfl) (by kernel_rfl) (fun _ _ _ h => h) (Or.inl ⟨by kernel_rfl, ?_⟩) (by assumption) ?_
            rotate_left
            · (intro w hSw; (try dsimp only at hSw); go_simp; with_reducible rfl)
            try simp only [Act.put, List.setIfInBounds_toArray, List.set_cons_zero, List.set_cons_succ]
            refine wpAnyH_take (i := 18) (v := ?_) rfl (by kernel_rfl) (by kernel_rfl) (by kernel_rfl) (fun _ _ _ h => h) (Or.inl ⟨by kernel_rfl, ?_⟩) (by assumption) ?_
            rotate_left
            · (intro w hSw; (try dsimp only at hSw); go_simp; with_reducible rfl)
            try simp only [Act.put, List.setIfInBounds_toArray, List.set_cons_zero, List.set_cons_succ]
            refine wpAnyH_take (i := 19) (v := ?_) rfl (by kernel_rfl) (by kernel_rfl) (by kernel_rfl) (fun _ _ _ h => h) (Or.inl ⟨by kernel_rfl, ?_⟩) (by assumption) ?_
            rotate_left
            · (intro w hSw; (try dsimp only at hSw); go_simp; with_reducible rfl)
            try simp only [Act.put, List.setIfInBounds_toArray, List.set_cons_zero, List.set_cons_succ]
            refine wpAnyH_take (i := 20) (v := ?_) rfl (by kernel_rfl) (by kernel_rfl) (by kernel_rfl) (fun _ _ _ h => h) (Or.inl ⟨by kernel_rfl, ?_⟩) (by assumption) ?_
            rotate_left
            · (intro w hSw; (try dsimp only at hSw); go_simp; with_reducible rfl)
            try simp only [Act.put, List.setIfInBounds_toArray, List.set_cons_zero, List.set_cons_succ]
            refine wpAnyH_take (i := 21) (v := ?_) rfl (by kernel_rfl) (by kernel_rfl) (by kernel_rfl) (fun _ _ _ h => h) (Or.inl ⟨by rfl, ?_⟩) (by assumption) ?_
            rotate_left
            · (intro w hSw; (try dsimp only at hSw); go_simp; with_reducible rfl)
            try simp only [Act.put, List.setIfInBounds_toArray, List.set_cons_zero, List.set_cons_succ]
            refine wpAnyH_take (i := 22) (v := ?_) rfl (by kernel_rfl) (by kernel_rfl) (by kernel_rfl) (fun _ _ _ h => h) (Or.inl ⟨by rfl, ?_⟩) (by assumption) ?_
            rotate_left
            · (intro w hSw; (try dsimp only at hSw); go_simp; with_reducible rfl)
            try simp only [Act.put, List.setIfInBounds_toArray, List.set_cons_zero, List.set_cons_succ]
            refine wpAnyH_pass (i := 23) (d := some 72) (by kernel_rfl) (by kernel_rfl) (by kernel_rfl) (by kernel_rfl) (fun _ _ _ _ h => h) (by kernel_rfl) (by assumption) ?_
            try simp only [Act.put, List.setIfInBounds_toArray, List.set_cons_zero, List.set_cons_succ]
            refine wpAnyH_pass (i := 24) (d := some 73) (by kernel_rfl) (by kernel_rfl) (by kernel_rfl) (by kernel_rfl) (fun _ _ _ _ h => h) (by kernel_rfl) (by assumption) ?_
            try simp only [Act.put, List.setIfInBounds_toArray, List.set_cons_zero, List.set_cons_succ]
            refine wpAnyH_pass (i := 25) (d := some 74) (by kernel_rfl) (by kernel_rfl) (by kernel_rfl) (by kernel_rfl) (fun _ _ _ _ h => h) (by kernel_rfl) (by assumption) ?_
            try simp only [Act.put, List.setIfInBounds_toArray, List.set_cons_zero, List.set_cons_succ]
            refine wpAnyH_pass (i := 26) (d := some 75) (by kernel_rfl) (by kernel_rfl) (by kernel_rfl) (by kernel_rfl) (fun _ _ _ _ h => h) (by kernel_rfl) (by assumption) ?_
            try simp only [Act.put, List.setIfInBounds_toArray, List.set_cons_zero, List.set_cons_succ]
            refine wpAnyH_pass (i := 27) (d := some 76) (by kernel_rfl) (by kernel_rfl) (by kernel_rfl) (by kernel_rfl) (fun _ _ _ _ h => h) (by kernel_rfl) (by assumption) ?_
            try simp only [Act.put, List.setIfInBounds_toArray, List.set_cons_zero, List.set_cons_succ]
            refine wpAnyH_pass (i := 28) (d := some 77) (by kernel_rfl) (by kernel_rfl) (by kernel_rfl) (by kernel_rfl) (fun _ _ _ _ h => h) (by kernel_rfl) (by assumption) ?_
            try simp only [Act.put, List.setIfInBounds_toArray, List.set_cons_zero, List.set_cons_succ]
            refine wpAnyH_pass (i := 29) (d := some 78) (by kernel_rfl) (by kernel_rfl) (by kernel_rfl) (by kernel_rfl) (fun _ _ _ _ h => h) (by kernel_rfl) (by assumption) ?_
            try simp only [Act.put, List.setIfInBounds_toArray, List.set_cons_zero, List.set_cons_succ]
            refine wpAnyH_pass (i := 30) (d := some 79) (by kernel_rfl) (by kernel_rfl) (by kernel_rfl) (by kernel_rfl) (fun _ _ _ _ h => h) (by kernel_rfl) (by assumption) ?_
            try simp only [Act.put, List.setIfInBounds_toArray, List.set_cons_zero, List.set_cons_succ]
            refine wpAnyH_pass (i := 31) (d := some 80) (by kernel_rfl) (by kernel_rfl) (by kernel_rfl) (by kernel_rfl) (fun _ _ _ _ h => h) (by kernel_rfl) (by assumption) ?_
            try simp only [Act.put, List.setIfInBounds_toArray, List.set_cons_zero, List.set_cons_succ]
            refine wpAnyH_pass (i := 32) (d := some 81) (by kernel_rfl) (by kernel_rfl) (by kernel_rfl) (by kernel_rfl) (fun _ _ _ _ h => h) (by kernel_rfl) (by assumption) ?_
            try simp only [Act.put, List.setIfInBounds_toArray, List.set_cons_zero, List.set_cons_succ]
            refine wpAnyH_ready (rs := [33]) (by kernel_rfl) (by simp) ?_
            refine AllReadyH.cons rfl (fun K hK => ?_) AllReadyH.nil
            go_simp
            refine hK.out _ _ (by assumption) (fun hHx => ?_)
            clear hHx hK K
            try simp only [Act.put, List.setIfInBounds_toArray, List.set_cons_zero, List.set_cons_succ]
            refine wpAnyH_done (by kernel_rfl) ?_ _
            have hN : Hid (WrdB wr.drew G N s x (.slice A0 l.length c0) (-1)) := hid (hN0.out.drewN 1)
            have hO : Hid (wr.drew.ownsRow W0.heap.size 9 1 (.slice A0 l.length c0) l.length (strV l)) := hid (own_drewN hO0.out 1)
            have hG : Hid (W0.grownBy wr.drew (some G)) := hid (grown_drewN hG0.out 1)
            clear hY hC1 hC2 hC1i hC2i
            go_wp2_with fail
            generalize wr.drew = W at *
            obtain ⟨n0, n1, n2⟩ := hN.out.cells
            go_region_held3 (fun w' => w'.cell? ⟨G, 0, none⟩ = some (.int .i64 (N : Int)) ∧ w'.cell? ⟨G, 1, none⟩ = some (.string (bs s)) ∧ w'.cell? ⟨G, 2, none⟩ = some (.int .i64 (x : Int)))
              (first | exact hN.out.cells | exact (hN.out.drewN 1).cells | exact (WrdB.below hN.out Ft).cells)
              (first | (go_at_call 24; refine (l3Tidy_any N _ _ lo hi (sub_len s _ _ hs)).mono ?_; rintro e0 wt ⟨rfl, bt⟩; have Ft : Below W.heap.size W wt := (Below.refl _ _).drew.trans (bt.mono (Nat.le_refl _))))
            have hN2 := hid (WrdB.below hN.out Ft)
            have hO2 := hid (own_below hO.out Ft)
            have hG2 := hid (grown_one hG.out (grown_of_below Ft))
            have hsz2 := hG2.out.size
            clear bt Ft n0 n1 n2
            obtain ⟨n0, n1, n2⟩ := hN2.out.cells
            have n3 := Blk.cell hN2.out 3
            have n4 := Blk.cell hN2.out 4
            have f0 := Blk.frozen hN2.out 0
            have f2 := Blk.frozen hN2.out 2
            have f3 := Blk.frozen hN2.out 3
            have f4 := Blk.frozen hN2.out 4
            simp only [List.getElem?_toArray, List.getElem?_cons_zero, List.getElem?_cons_succ] at n3 n4
            obtain ⟨Wd, hWd⟩ : ∃ Wd, Wd = tidyL N (List.take (x - a) (List.drop a s)) := ⟨_, rfl⟩
            have HWd := hid (show wordL N s a = Wd by unfold wordL; rw [HE.out, hWd])
            rw [← hWd]
            clear hWd
            obtain ⟨nb, hnb⟩ : ∃ b, (Wd == []) = b := ⟨_, rfl⟩
            have HBW := hid (show badW N s a = (decide (x = a) || nb) by unfold badW; rw [HE.out, HWd.out, ← hnb]; congr 1; rw [Bool.eq_iff_iff]; simp)
            cases hea : decide (x = a)
            · have hne : ((a : Int) == (x : Int)) = false := by have := of_decide_eq_false hea; simp; omega
              rw [hea] at HBW
              clear hea
              cases nb
              rotate_left
              · have HR := hid (show badW N s a = true from HBW.out)
                go_wp2
                refine bodyPost_ret (results_none rfl _ _ _) rfl ?_
                exact ⟨rfl, WordR.no HE.out HR.out (WrdB.bad hN2.out _) (grown_set hG2.out)⟩
              · have HR := hid (show badW N s a = false by rw [HBW.out]; rfl)
                have hne5 := hid (show (Value.slice A0 l.length c0).ownBlock ≠ some G from fun h => by have h1 := (hO2.out.lt G h).1; omega)
                have hlim : l.length + 1 ≤ 1000000000000 := by omega
                go_wp2_with (at_builtin; refine app_str _ (by rfl) _ _ (by rfl) W0.heap.size _ _ _ (by rfl) (hO2.out.alloc _) (some ⟨wt.heap.size, 0, none⟩) 1 1 [Wd] (by rfl) (Rd.blk _ [.string (bs Wd)] _) hlim (by simp; omega) ?_; intro v5 w5 o5 g5; obtain ⟨A5, c5, rfl, _⟩ := own_shape o5; have B5 : wt.grownBy w5 (Value.slice A0 l.length c0).ownBlock := grown_below ((Below.refl _ _).alloc (Nat.le_refl _) _) g5; have HN5 := hid (show WrdB w5 G N s x (.slice A0 l.length c0) (-1) from blk_grown3 B5 hN2.out hne5.out); have f5 := Blk.frozen HN5.out 3; have m3 := Blk.cell HN5.out 3; simp only [List.getElem?_toArray, List.getElem?_cons_zero, List.getElem?_cons_succ] at m3)
                go_end0
                exact ⟨rfl, WordR.yes HE.out HR.out HWd.out (WrdB.out_ HN5.out _) (own_setG o5 hG0') (grown_set (grown_new hG2.out B5 (fun q hq => (hO2.out.lt q hq).1)))⟩
            · have hne : ((a : Int) == (x : Int)) = true := by have := of_decide_eq_true hea; simp; omega
              rw [hea] at HBW
              have HR := hid (show badW N s a = true by rw [HBW.out]; rfl)
              clear hea
              go_wp2
              refine bodyPost_ret (results_none rfl _ _ _) rfl ?_
              exact ⟨rfl, WordR.no HE.out HR.out (WrdB.bad hN2.out _) (grown_set hG2.out)⟩
          · obtain ⟨m0, m1, m2⟩ := hN0.out.cells
            have f2 := Blk.frozen hN0.out 2
            have f2' := Blk.frozen (hN0.out.drewN 1) 2
            cases C2
            · have HX := hid (show e = x by rw [← hd.out, HST.out, HDG.out]; rfl)
              have HE := hid (HE.out.trans HX.out)
              clear hd HST HDG
              go_wp2_with fail
              go_region_held3 (fun w' => w'.cell? ⟨G, 0, none⟩ = some (.int .i64 (N : Int)) ∧ w'.cell? ⟨G, 1, none⟩ = some (.string (bs s)) ∧ w'.cell? ⟨G, 2, none⟩ = some (.int .i64 (x : Int)))
                (first | exact hN0.out.cells | exact (hN0.out.drewN 1).cells)
                (fail)
              have hN : Hid (WrdB wr.drew G N s x (.slice A0 l.length c0) (-1)) := hid (hN0.out.drewN 1)
              have hO : Hid (wr.drew.ownsRow W0.heap.size 9 1 (.slice A0 l.length c0) l.length (strV l)) := hid (own_drewN hO0.out 1)
              have hG : Hid (W0.grownBy wr.drew (some G)) := hid (grown_drewN hG0.out 1)
              clear hY hC1 hC2 hC1i hC2i m0 m1 m2 f2 f2'
              go_wp2_with fail
              generalize wr.drew = W at *
              obtain ⟨n0, n1, n2⟩ := hN.out.cells
              go_region_held3 (fun w' => w'.cell? ⟨G, 0, none⟩ = some (.int .i64 (N : Int)) ∧ w'.cell? ⟨G, 1, none⟩ = some (.string (bs s)) ∧ w'.cell? ⟨G, 2, none⟩ = some (.int .i64 (x : Int)))
                (first | exact hN.out.cells | exact (hN.out.drewN 1).cells | exact (WrdB.below hN.out Ft).cells)
                (first | (go_at_call 24; refine (l3Tidy_any N _ _ lo hi (sub_len s _ _ hs)).mono ?_; rintro e0 wt ⟨rfl, bt⟩; have Ft : Below W.heap.size W wt := (Below.refl _ _).drew.trans (bt.mono (Nat.le_refl _))))
              have hN2 := hid (WrdB.below hN.out Ft)
              have hO2 := hid (own_below hO.out Ft)
              have hG2 := hid (grown_one hG.out (grown_of_below Ft))
              have hsz2 := hG2.out.size
              clear bt Ft n0 n1 n2
              obtain ⟨n0, n1, n2⟩ := hN2.out.cells
              have n3 := Blk.cell hN2.out 3
              have n4 := Blk.cell hN2.out 4
              have f0 := Blk.frozen hN2.out 0
              have f2 := Blk.frozen hN2.out 2
              have f3 := Blk.frozen hN2.out 3
              have f4 := Blk.frozen hN2.out 4
              simp only [List.getElem?_toArray, List.getElem?_cons_zero, List.getElem?_cons_succ] at n3 n4
              obtain ⟨Wd, hWd⟩ : ∃ Wd, Wd = tidyL N (List.take (x - a) (List.drop a s)) := ⟨_, rfl⟩
              have HWd := hid (show wordL N s a = Wd by unfold wordL; rw [HE.out, hWd])
              rw [← hWd]
              clear hWd
              obtain ⟨nb, hnb⟩ : ∃ b, (Wd == []) = b := ⟨_, rfl⟩
              have HBW := hid (show badW N s a = (decide (x = a) || nb) by unfold badW; rw [HE.out, HWd.out, ← hnb]; congr 1; rw [Bool.eq_iff_iff]; simp)
              cases hea : decide (x = a)
              · have hne : ((a : Int) == (x : Int)) = false := by have := of_decide_eq_false hea; simp; omega
                rw [hea] at HBW
                clear hea
                cases nb
                rotate_left
                · have HR := hid (show badW N s a = true from HBW.out)
                  go_wp2
                  refine bodyPost_ret (results_none rfl _ _ _) rfl ?_
                  exact ⟨rfl, WordR.no HE.out HR.out (WrdB.bad hN2.out _) (grown_set hG2.out)⟩
                · have HR := hid (show badW N s a = false by rw [HBW.out]; rfl)
                  have hne5 := hid (show (Value.slice A0 l.length c0).ownBlock ≠ some G from fun h => by have h1 := (hO2.out.lt G h).1; omega)
                  have hlim : l.length + 1 ≤ 1000000000000 := by omega
                  go_wp2_with (at_builtin; refine app_str _ (by rfl) _ _ (by rfl) W0.heap.size _ _ _ (by rfl) (hO2.out.alloc _) (some ⟨wt.heap.size, 0, none⟩) 1 1 [Wd] (by rfl) (Rd.blk _ [.string (bs Wd)] _) hlim (by simp; omega) ?_; intro v5 w5 o5 g5; obtain ⟨A5, c5, rfl, _⟩ := own_shape o5; have B5 : wt.grownBy w5 (Value.slice A0 l.length c0).ownBlock := grown_below ((Below.refl _ _).alloc (Nat.le_refl _) _) g5; have HN5 := hid (show WrdB w5 G N s x (.slice A0 l.length c0) (-1) from blk_grown3 B5 hN2.out hne5.out); have f5 := Blk.frozen HN5.out 3; have m3 := Blk.cell HN5.out 3; simp only [List.getElem?_toArray, List.getElem?_cons_zero, List.getElem?_cons_succ] at m3)
                  go_end0
                  exact ⟨rfl, WordR.yes HE.out HR.out HWd.out (WrdB.out_ HN5.out _) (own_setG o5 hG0') (grown_set (grown_new hG2.out B5 (fun q hq => (hO2.out.lt q hq).1)))⟩
              · have hne : ((a : Int) == (x : Int)) = true := by have := of_decide_eq_true hea; simp; omega
                rw [hea] at HBW
                have HR := hid (show badW N s a = true by rw [HBW.out]; rfl)
                clear hea
                go_wp2
                refine bodyPost_ret (results_none rfl _ _ _) rfl ?_
                exact ⟨rfl, WordR.no HE.out HR.out (WrdB.bad hN2.out _) (grown_set hG2.out)⟩
            · have HD2 := hid (show dgEnd s (s.length - (x + 1)) (x + 1) = e by rw [← hd.out, HST.out, HDG.out]; rfl)
              have hwx := IntWalk.i64_in ((x : Int) + 1) (by omega)
              clear hd HST HDG
              go_wp2_with fail
              go_region_held3 (fun w' => w'.cell? ⟨G, 0, none⟩ = some (.int .i64 (N : Int)) ∧ w'.cell? ⟨G, 1, none⟩ = some (.string (bs s)) ∧ w'.cell? ⟨G, 2, none⟩ = some (.int .i64 (x : Int)))
                (first | exact hN0.out.cells | exact (hN0.out.drewN 1).cells)
                (fail)
              obtain ⟨m0', m1', m2'⟩ := (hN0.out.drewN 1).cells
              go_wp2
              go_roundg (s.length - (x + 1))
              case measure => omega
              case rel => exact ⟨x + 1, by omega, by omega, rfl, HD2, by have h := (show WrdB ((wr.setCell ⟨G, 2, none⟩ (.int .i64 ((x + 1 : Nat) : Int))).drew) G N s (x + 1) (.slice A0 l.length c0) (-1) from (WrdB.at_ hN0.out (x + 1)).drewN 1); simpa using h, by have h := own_drewN (own_setG (p := ⟨G, 2, none⟩) (u := .int .i64 ((x : Int) + 1)) hO0.out hG0') 1; exact h, by have h := (show W0.grownBy ((wr.setCell ⟨G, 2, none⟩ (.int .i64 ((x : Int) + 1))).drew) (some G) from grown_drewN (grown_set (o := 2) (v := .int .i64 ((x : Int) + 1)) hG0.out) 1); exact h⟩
        · have HX := hid (show e = x by rw [← hd.out, show s.length - x = 0 by omega, dgEnd])
          have HE := hid (HE.out.trans HX.out)
          have x2 : decide (x < s.length) = false := decide_eq_false (by omega)
          have x3 : decide ((x : Int) < (s.length : Int)) = false := decide_eq_false (by omega)
          clear hd
          go_wp2_with fail
          refine wp_region_held_drew (S := fun w' => w'.cell? ⟨G, 0, none⟩ = some (.int .i64 (N : Int)) ∧ w'.cell? ⟨G, 1, none⟩ = some (.string (bs s)) ∧ w'.cell? ⟨G, 2, none⟩ = some (.int .i64 (x : Int))) (by kernel_rfl) ((hN0.out.drewN 1).cells) (fun hHeld => ?_)
          refine wpAnyH_take (i := 0) (v := ?_) rfl (by kernel_rfl) (by kernel_rfl) (by kernel_rfl) (fun _ _ _ h => h) (Or.inl ⟨by rfl, ?_⟩) (by assumption) ?_
          rotate_left
          · (intro w hSw; (try dsimp only at hSw); go_simp; with_reducible rfl)
          try simp only [Act.put, List.setIfInBounds_toArray, List.set_cons_zero, List.set_cons_succ]
          refine wpAnyH_take (i := 1) (v := ?_) rfl (by kernel_rfl) (by kernel_rfl) (by kernel_rfl) (fun _ _ _ h => h) (Or.inl ⟨by rfl, ?_⟩) (by assumption) ?_
          rotate_left
          · (intro w hSw; (try dsimp only at hSw); go_simp; with_reducible rfl)
          try simp only [Act.put, List.setIfInBounds_toArray, List.set_cons_zero, List.set_cons_succ]
          refine wpAnyH_take (i := 2) (v := ?_) rfl (by kernel_rfl) (by kernel_rfl) (by kernel_rfl) (fun _ _ _ h => h) (Or.inl ⟨by rfl, ?_⟩) (by assumption) ?_
          rotate_left
          · (intro w hSw; (try dsimp only at hSw); go_simp; with_reducible rfl)
          try simp only [Act.put, List.setIfInBounds_toArray, List.set_cons_zero, List.set_cons_succ]
          refine wpAnyH_take (i := 3) (v := ?_) rfl (by kernel_rfl) (by kernel_rfl) (by kernel_rfl) (fun _ _ _ h => h) (Or.inl ⟨by rfl, ?_⟩) (by assumption) ?_
          rotate_left
          · (intro w hSw; (try dsimp only at hSw); go_simp; with_reducible rfl)
          try simp only [Act.put, List.setIfInBounds_toArray, List.set_cons_zero, List.set_cons_succ]
          refine wpAnyH_take (i := 4) (v := ?_) rfl (by kernel_rfl) (by kernel_rfl) (by kernel_rfl) (fun _ _ _ h => h) (Or.inl ⟨by rfl, ?_⟩) (by assumption) ?_
          rotate_left
          · (intro w hSw; (try dsimp only at hSw); go_simp; with_reducible rfl)
          try simp only [Act.put, List.setIfInBounds_toArray, List.set_cons_zero, List.set_cons_succ]
          refine wpAnyH_take (i := 5) (v := ?_) rfl (by kernel_rfl) (by kernel_rfl) (by kernel_rfl) (fun _ _ _ h => h) (Or.inl ⟨by rfl, ?_⟩) (by assumption) ?_
          rotate_left
          · (intro w hSw; (try dsimp only at hSw); go_simp; with_reducible rfl)
          try simp only [Act.put, List.setIfInBounds_toArray, List.set_cons_zero, List.set_cons_succ]
          refine wpAnyH_take (i := 6) (v := ?_) rfl (by kernel_rfl) (by kernel_rfl) (by kernel_rfl) (fun _ _ _ h => h) (Or.inl ⟨by rfl, ?_⟩) (by assumption) ?_
          rotate_left
          · (intro w hSw; (try dsimp only at hSw); go_simp; with_reducible rfl)
          try simp only [Act.put, List.setIfInBounds_toArray, List.set_cons_zero, List.set_cons_succ]
          refine wpAnyH_take (i := 7) (v := ?_) rfl (by kernel_rfl) (by kernel_rfl) (by kernel_rfl) (fun _ _ _ h => h) (Or.inl ⟨by rfl, ?_⟩) (by assumption) ?_
          rotate_left
          · (intro w hSw; (try dsimp only at hSw); go_simp; with_reducible rfl)
          try simp only [Act.put, List.setIfInBounds_toArray, List.set_cons_zero, List.set_cons_succ]
          refine wpAnyH_take (i := 8) (v := ?_) rfl (by kernel_rfl) (by kernel_rfl) (by kernel_rfl) (fun _ _ _ h => h) (Or.inl ⟨by rfl, ?_⟩) (by assumption) ?_
          rotate_left
          · (intro w hSw; (try dsimp only at hSw); go_simp; with_reducible rfl)
          try simp only [Act.put, List.setIfInBounds_toArray, List.set_cons_zero, List.set_cons_succ]
          refine wpAnyH_take (i := 9) (v := ?_) rfl (by kernel_rfl) (by kernel_rfl) (by kernel_rfl) (fun _ _ _ h => h) (Or.inl ⟨by rfl, ?_⟩) (by assumption) ?_
          rotate_left
          · (intro w hSw; (try dsimp only at hSw); go_simp; with_reducible rfl)
          try simp only [Act.put, List.setIfInBounds_toArray, List.set_cons_zero, List.set_cons_succ]
          refine wpAnyH_take (i := 10) (v := ?_) rfl (by kernel_rfl) (by kernel_rfl) (by kernel_rfl) (fun _ _ _ h => h) (Or.inl ⟨by rfl, ?_⟩) (by assumption) ?_
          rotate_left
          · (intro w hSw; (try dsimp only at hSw); go_simp; with_reducible rfl)
          try simp only [Act.put, List.setIfInBounds_toArray, List.set_cons_zero, List.set_cons_succ]
          refine wpAnyH_pass (i := 11) (d := some 60) (by kernel_rfl) (by kernel_rfl) (by kernel_rfl) (by kernel_rfl) (fun _ _ _ _ h => h) (by kernel_rfl) (by assumption) ?_
          try simp only [Act.put, List.setIfInBounds_toArray, List.set_cons_zero, List.set_cons_succ]
          refine wpAnyH_pass (i := 12) (d := some 61) (by kernel_rfl) (by kernel_rfl) (by kernel_rfl) (by kernel_rfl) (fun _ _ _ _ h => h) (by kernel_rfl) (by assumption) ?_
          try simp only [Act.put, List.setIfInBounds_toArray, List.set_cons_zero, List.set_cons_succ]
          refine wpAnyH_pass (i := 13) (d := some 62) (by kernel_rfl) (by kernel_rfl) (by kernel_rfl) (by kernel_rfl) (fun _ _ _ _ h => h) (by kernel_rfl) (by assumption) ?_
          try simp only [Act.put, List.setIfInBounds_toArray, List.set_cons_zero, List.set_cons_succ]
          refine wpAnyH_pass (i := 14) (d := some 63) (by kernel_rfl) (by kernel_rfl) (by kernel_rfl) (by kernel_rfl) (fun _ _ _ _ h => h) (by kernel_rfl) (by assumption) ?_
          try simp only [Act.put, List.setIfInBounds_toArray, List.set_cons_zero, List.set_cons_succ]
          refine wpAnyH_pass (i := 15) (d := some 64) (by kernel_rfl) (by kernel_rfl) (by kernel_rfl) (by kernel_rfl) (fun _ _ _ _ h => h) (by kernel_rfl) (by assumption) ?_
          try simp only [Act.put, List.setIfInBounds_toArray, List.set_cons_zero, List.set_cons_succ]
          refine wpAnyH_pass (i := 16) (d := some 65) (by kernel_rfl) (by kernel_rfl) (by kernel_rfl) (by kernel_rfl) (fun _ _ _ _ h => h) (by kernel_rfl) (by assumption) ?_
          try simp only [Act.put, List.setIfInBounds_toArray, List.set_cons_zero, List.set_cons_succ]
          refine wpAnyH_pass (i := 17) (d := some 66) (by kernel_rfl) (by kernel_rfl) (by kernel_rfl) (by kernel_rfl) (fun _ _ _ _ h => h) (by kernel_rfl) (by assumption) ?_
          try simp only [Act.put, List.setIfInBounds_toArray, List.set_cons_zero, List.set_cons_succ]
          refine wpAnyH_pass (i := 18) (d := some 67) (by kernel_rfl) (by kernel_rfl) (by kernel_rfl) (by kernel_rfl) (fun _ _ _ _ h => h) (by kernel_rfl) (by assumption) ?_
          try simp only [Act.put, List.setIfInBounds_toArray, List.set_cons_zero, List.set_cons_succ]
          refine wpAnyH_pass (i := 19) (d := some 68) (by kernel_rfl) (by kernel_rfl) (by kernel_rfl) (by kernel_rfl) (fun _ _ _ _ h => h) (by kernel_rfl) (by assumption) ?_
          try simp only [Act.put, List.setIfInBounds_toArray, List.set_cons_zero, List.set_cons_succ]
          refine wpAnyH_pass (i := 20) (d := some 69) (by kernel_rfl) (by kernel_rfl) (by kernel_rfl) (by kernel_rfl) (fun _ _ _ _ h => h) (by kernel_rfl) (by assumption) ?_
          try simp only [Act.put, List.setIfInBounds_toArray, List.set_cons_zero, List.set_cons_succ]
          refine wpAnyH_take (i := 21) (v := ?_) rfl (by kernel_rfl) (by kernel_rfl) (by kernel_rfl) (fun _ _ _ h => h) (Or.inl ⟨by rfl, ?_⟩) (by assumption) ?_
          rotate_left
          · (intro w hSw; (try dsimp only at hSw); go_simp; with_reducible rfl)
          try simp only [Act.put, List.setIfInBounds_toArray, List.set_cons_zero, List.set_cons_succ]
          refine wpAnyH_take (i := 22) (v := ?_) rfl (by kernel_rfl) (by kernel_rfl) (by kernel_rfl) (fun _ _ _ h => h) (Or.inl ⟨by rfl, ?_⟩) (by assumption) ?_
          rotate_left
          · (intro w hSw; (try dsimp only at hSw); go_simp; with_reducible rfl)
          try simp only [Act.put, List.setIfInBounds_toArray, List.set_cons_zero, List.set_cons_succ]
          refine wpAnyH_pass (i := 23) (d := some 72) (by kernel_rfl) (by kernel_rfl) (by kernel_rfl) (by kernel_rfl) (fun _ _ _ _ h => h) (by kernel_rfl) (by assumption) ?_
          try simp only [Act.put, List.setIfInBounds_toArray, List.set_cons_zero, List.set_cons_succ]
          refine wpAnyH_pass (i := 24) (d := some 73) (by kernel_rfl) (by kernel_rfl) (by kernel_rfl) (by kernel_rfl) (fun _ _ _ _ h => h) (by kernel_rfl) (by assumption) ?_
          try simp only [Act.put, List.setIfInBounds_toArray, List.set_cons_zero, List.set_cons_succ]
          refine wpAnyH_pass (i := 25) (d := some 74) (by kernel_rfl) (by kernel_rfl) (by kernel_rfl) (by kernel_rfl) (fun _ _ _ _ h => h) (by kernel_rfl) (by assumption) ?_
          try simp only [Act.put, List.setIfInBounds_toArray, List.set_cons_zero, List.set_cons_succ]
          refine wpAnyH_pass (i := 26) (d := some 75) (by kernel_rfl) (by kernel_rfl) (by kernel_rfl) (by kernel_rfl) (fun _ _ _ _ h => h) (by kernel_rfl) (by assumption) ?_
          try simp only [Act.put, List.setIfInBounds_toArray, List.set_cons_zero, List.set_cons_succ]
          refine wpAnyH_pass (i := 27) (d := some 76) (by kernel_rfl) (by kernel_rfl) (by kernel_rfl) (by kernel_rfl) (fun _ _ _ _ h => h) (by kernel_rfl) (by assumption) ?_
          try simp only [Act.put, List.setIfInBounds_toArray, List.set_cons_zero, List.set_cons_succ]
          refine wpAnyH_pass (i := 28) (d := some 77) (by kernel_rfl) (by kernel_rfl) (by kernel_rfl) (by kernel_rfl) (fun _ _ _ _ h => h) (by kernel_rfl) (by assumption) ?_
          try simp only [Act.put, List.setIfInBounds_toArray, List.set_cons_zero, List.set_cons_succ]
          refine wpAnyH_pass (i := 29) (d := some 78) (by kernel_rfl) (by kernel_rfl) (by kernel_rfl) (by kernel_rfl) (fun _ _ _ _ h => h) (by kernel_rfl) (by assumption) ?_
          try simp only [Act.put, List.setIfInBounds_toArray, List.set_cons_zero, List.set_cons_succ]
          refine wpAnyH_pass (i := 30) (d := some 79) (by kernel_rfl) (by kernel_rfl) (by kernel_rfl) (by kernel_rfl) (fun _ _ _ _ h => h) (by kernel_rfl) (by assumption) ?_
          try simp only [Act.put, List.setIfInBounds_toArray, List.set_cons_zero, List.set_cons_succ]
          refine wpAnyH_pass (i := 31) (d := some 80) (by kernel_rfl) (by kernel_rfl) (by kernel_rfl) (by kernel_rfl) (fun _ _ _ _ h => h) (by kernel_rfl) (by assumption) ?_
          try simp only [Act.put, List.setIfInBounds_toArray, List.set_cons_zero, List.set_cons_succ]
          refine wpAnyH_pass (i := 32) (d := some 81) (by kernel_rfl) (by kernel_rfl) (by kernel_rfl) (by kernel_rfl) (fun _ _ _ _ h => h) (by kernel_rfl) (by assumption) ?_
          try simp only [Act.put, List.setIfInBounds_toArray, List.set_cons_zero, List.set_cons_succ]
          refine wpAnyH_ready (rs := [33]) (by kernel_rfl) (by simp) ?_
          refine AllReadyH.cons rfl (fun K hK => ?_) AllReadyH.nil
          go_simp
          refine hK.out _ _ (by assumption) (fun hHx => ?_)
          clear hHx hK K
          try simp only [Act.put, List.setIfInBounds_toArray, List.set_cons_zero, List.set_cons_succ]
          refine wpAnyH_done (by kernel_rfl) ?_ _
          have hN : Hid (WrdB wr.drew G N s x (.slice A0 l.length c0) (-1)) := hid (hN0.out.drewN 1)
          have hO : Hid (wr.drew.ownsRow W0.heap.size 9 1 (.slice A0 l.length c0) l.length (strV l)) := hid (own_drewN hO0.out 1)
          have hG : Hid (W0.grownBy wr.drew (some G)) := hid (grown_drewN hG0.out 1)
          go_wp2_with fail
          generalize wr.drew = W at *
          obtain ⟨n0, n1, n2⟩ := hN.out.cells
          go_region_held3 (fun w' => w'.cell? ⟨G, 0, none⟩ = some (.int .i64 (N : Int)) ∧ w'.cell? ⟨G, 1, none⟩ = some (.string (bs s)) ∧ w'.cell? ⟨G, 2, none⟩ = some (.int .i64 (x : Int)))
            (first | exact hN.out.cells | exact (hN.out.drewN 1).cells | exact (WrdB.below hN.out Ft).cells)
            (first | (go_at_call 24; refine (l3Tidy_any N _ _ lo hi (sub_len s _ _ hs)).mono ?_; rintro e0 wt ⟨rfl, bt⟩; have Ft : Below W.heap.size W wt := (Below.refl _ _).drew.trans (bt.mono (Nat.le_refl _))))
          have hN2 := hid (WrdB.below hN.out Ft)
          have hO2 := hid (own_below hO.out Ft)
          have hG2 := hid (grown_one hG.out (grown_of_below Ft))
          have hsz2 := hG2.out.size
          clear bt Ft n0 n1 n2
          obtain ⟨n0, n1, n2⟩ := hN2.out.cells
          have n3 := Blk.cell hN2.out 3
          have n4 := Blk.cell hN2.out 4
          have f0 := Blk.frozen hN2.out 0
          have f2 := Blk.frozen hN2.out 2
          have f3 := Blk.frozen hN2.out 3
          have f4 := Blk.frozen hN2.out 4
          simp only [List.getElem?_toArray, List.getElem?_cons_zero, List.getElem?_cons_succ] at n3 n4
          obtain ⟨Wd, hWd⟩ : ∃ Wd, Wd = tidyL N (List.take (x - a) (List.drop a s)) := ⟨_, rfl⟩
          have HWd := hid (show wordL N s a = Wd by unfold wordL; rw [HE.out, hWd])
          rw [← hWd]
          clear hWd
          obtain ⟨nb, hnb⟩ : ∃ b, (Wd == []) = b := ⟨_, rfl⟩
          have HBW := hid (show badW N s a = (decide (x = a) || nb) by unfold badW; rw [HE.out, HWd.out, ← hnb]; congr 1; rw [Bool.eq_iff_iff]; simp)
          cases hea : decide (x = a)
          · have hne : ((a : Int) == (x : Int)) = false := by have := of_decide_eq_false hea; simp; omega
            rw [hea] at HBW
            clear hea
            cases nb
            rotate_left
            · have HR := hid (show badW N s a = true from HBW.out)
              go_wp2
              refine bodyPost_ret (results_none rfl _ _ _) rfl ?_
              exact ⟨rfl, WordR.no HE.out HR.out (WrdB.bad hN2.out _) (grown_set hG2.out)⟩
            · have HR := hid (show badW N s a = false by rw [HBW.out]; rfl)
              have hne5 := hid (show (Value.slice A0 l.length c0).ownBlock ≠ some G from fun h => by have h1 := (hO2.out.lt G h).1; omega)
              have hlim : l.length + 1 ≤ 1000000000000 := by omega
              go_wp2_with (at_builtin; refine app_str _ (by rfl) _ _ (by rfl) W0.heap.size _ _ _ (by rfl) (hO2.out.alloc _) (some ⟨wt.heap.size, 0, none⟩) 1 1 [Wd] (by rfl) (Rd.blk _ [.string (bs Wd)] _) hlim (by simp; omega) ?_; intro v5 w5 o5 g5; obtain ⟨A5, c5, rfl, _⟩ := own_shape o5; have B5 : wt.grownBy w5 (Value.slice A0 l.length c0).ownBlock := grown_below ((Below.refl _ _).alloc (Nat.le_refl _) _) g5; have HN5 := hid (show WrdB w5 G N s x (.slice A0 l.length c0) (-1) from blk_grown3 B5 hN2.out hne5.out); have f5 := Blk.frozen HN5.out 3; have m3 := Blk.cell HN5.out 3; simp only [List.getElem?_toArray, List.getElem?_cons_zero, List.getElem?_cons_succ] at m3)
              go_end0
              exact ⟨rfl, WordR.yes HE.out HR.out HWd.out (WrdB.out_ HN5.out _) (own_setG o5 hG0') (grown_set (grown_new hG2.out B5 (fun q hq => (hO2.out.lt q hq).1)))⟩
          · have hne : ((a : Int) == (x : Int)) = true := by have := of_decide_eq_true hea; simp; omega
            rw [hea] at HBW
            have HR := hid (show badW N s a = true by rw [HBW.out]; rfl)
            clear hea
            go_wp2
            refine bodyPost_ret (results_none rfl _ _ _) rfl ?_
            exact ⟨rfl, WordR.no HE.out HR.out (WrdB.bad hN2.out _) (grown_set hG2.out)⟩
  · have haN : a = s.length := by omega
    have HE := hid (show wEnd s a = a by unfold wEnd; rw [if_neg (fun h => hlt h.1), show s.length - a = 0 by omega, dgEnd])
    have x2 : decide (a < s.length) = false := decide_eq_false hlt
    have x3 : decide ((a : Int) < (s.length : Int)) = false := decide_eq_false (by omega)
    have k1 : (a : Int) ≤ (a : Int) := Int.le_refl _
    have k2 : (a : Int) ≤ (s.length : Int) := by omega
    have hd0 := hid (show dgEnd s (s.length - a) a = a by rw [show s.length - a = 0 by omega, dgEnd])
    have HA := hid ha
    clear haN
    go_enter Try.func19, Try.ntmps19
    go_wp2_with fail
    refine wp_region_held_drew (S := fun w' => w'.cell? ⟨G, 0, none⟩ = some (.int .i64 (N : Int)) ∧ w'.cell? ⟨G, 1, none⟩ = some (.string (bs s)) ∧ w'.cell? ⟨G, 2, none⟩ = some (.int .i64 (a : Int))) (by kernel_rfl) ((HB.out.drewN 1).cells) (fun hHeld => ?_)
    refine wpAnyH_take (i := 0) (v := ?_) rfl (by kernel_rfl) (by kernel_rfl) (by kernel_rfl) (fun _ _ _ h => h) (Or.inl ⟨by rfl, ?_⟩) (by assumption) ?_
    rotate_left
    · (intro w hSw; (try dsimp only at hSw); go_simp; with_reducible rfl)
    try simp only [Act.put, List.setIfInBounds_toArray, List.set_cons_zero, List.set_cons_succ]
    refine wpAnyH_take (i := 1) (v := ?_) rfl (by kernel_rfl) (by kernel_rfl) (by kernel_rfl) (fun _ _ _ h => h) (Or.inl ⟨by rfl, ?_⟩) (by assumption) ?_
    rotate_left
    · (intro w hSw; (try dsimp only at hSw); go_simp; with_reducible rfl)
    try simp only [Act.put, List.setIfInBounds_toArray, List.set_cons_zero, List.set_cons_succ]
    refine wpAnyH_take (i := 2) (v := ?_) rfl (by kernel_rfl) (by kernel_rfl) (by kernel_rfl) (fun _ _ _ h => h) (Or.inl ⟨by rfl, ?_⟩) (by assumption) ?_
    rotate_left
    · (intro w hSw; (try dsimp only at hSw); go_simp; with_reducible rfl)
    try simp only [Act.put, List.setIfInBounds_toArray, List.set_cons_zero, List.set_cons_succ]
    refine wpAnyH_take (i := 3) (v := ?_) rfl (by kernel_rfl) (by kernel_rfl) (by kernel_rfl) (fun _ _ _ h => h) (Or.inl ⟨by rfl, ?_⟩) (by assumption) ?_
    rotate_left
    · (intro w hSw; (try dsimp only at hSw); go_simp; with_reducible rfl)
    try simp only [Act.put, List.setIfInBounds_toArray, List.set_cons_zero, List.set_cons_succ]
    refine wpAnyH_take (i := 4) (v := ?_) rfl (by kernel_rfl) (by kernel_rfl) (by kernel_rfl) (fun _ _ _ h => h) (Or.inl ⟨by rfl, ?_⟩) (by assumption) ?_
    rotate_left
    · (intro w hSw; (try dsimp only at hSw); go_simp; with_reducible rfl)
    try simp only [Act.put, List.setIfInBounds_toArray, List.set_cons_zero, List.set_cons_succ]
    refine wpAnyH_take (i := 5) (v := ?_) rfl (by kernel_rfl) (by kernel_rfl) (by kernel_rfl) (fun _ _ _ h => h) (Or.inl ⟨by rfl, ?_⟩) (by assumption) ?_
    rotate_left
    · (intro w hSw; (try dsimp only at hSw); go_simp; with_reducible rfl)
    try simp only [Act.put, List.setIfInBounds_toArray, List.set_cons_zero, List.set_cons_succ]
    refine wpAnyH_take (i := 6) (v := ?_) rfl (by kernel_rfl) (by kernel_rfl) (by kernel_rfl) (fun _ _ _ h => h) (Or.inl ⟨by rfl, ?_⟩) (by assumption) ?_
    rotate_left
    · (intro w hSw; (try dsimp only at hSw); go_simp; with_reducible rfl)
    try simp only [Act.put, List.setIfInBounds_toArray, List.set_cons_zero, List.set_cons_succ]
    refine wpAnyH_take (i := 7) (v := ?_) rfl (by kernel_rfl) (by kernel_rfl) (by kernel_rfl) (fun _ _ _ h => h) (Or.inl ⟨by rfl, ?_⟩) (by assumption) ?_
    rotate_left
    · (intro w hSw; (try dsimp only at hSw); go_simp; with_reducible rfl)
    try simp only [Act.put, List.setIfInBounds_toArray, List.set_cons_zero, List.set_cons_succ]
    refine wpAnyH_take (i := 8) (v := ?_) rfl (by kernel_rfl) (by kernel_rfl) (by kernel_rfl) (fun _ _ _ h => h) (Or.inl ⟨by rfl, ?_⟩) (by assumption) ?_
    rotate_left
    · (intro w hSw; (try dsimp only at hSw); go_simp; with_reducible rfl)
    try simp only [Act.put, List.setIfInBounds_toArray, List.set_cons_zero, List.set_cons_succ]
    refine wpAnyH_take (i := 9) (v := ?_) rfl (by kernel_rfl) (by kernel_rfl) (by kernel_rfl) (fun _ _ _ h => h) (Or.inl ⟨by rfl, ?_⟩) (by assumption) ?_
    rotate_left
    · (intro w hSw; (try dsimp only at hSw); go_simp; with_reducible rfl)
    try simp only [Act.put, List.setIfInBounds_toArray, List.set_cons_zero, List.set_cons_succ]
    refine wpAnyH_take (i := 10) (v := ?_) rfl (by kernel_rfl) (by kernel_rfl) (by kernel_rfl) (fun _ _ _ h => h) (Or.inl ⟨by rfl, ?_⟩) (by assumption) ?_
    rotate_left
    · (intro w hSw; (try dsimp only at hSw); go_simp; with_reducible rfl)
    try simp only [Act.put, List.setIfInBounds_toArray, List.set_cons_zero, List.set_cons_succ]
    refine wpAnyH_pass (i := 11) (d := some 19) (by kernel_rfl) (by kernel_rfl) (by kernel_rfl) (by kernel_rfl) (fun _ _ _ _ h => h) (by kernel_rfl) (by assumption) ?_
    try simp only [Act.put, List.setIfInBounds_toArray, List.set_cons_zero, List.set_cons_succ]
    refine wpAnyH_pass (i := 12) (d := some 20) (by kernel_rfl) (by kernel_rfl) (by kernel_rfl) (by kernel_rfl) (fun _ _ _ _ h => h) (by kernel_rfl) (by assumption) ?_
    try simp only [Act.put, List.setIfInBounds_toArray, List.set_cons_zero, List.set_cons_succ]
    refine wpAnyH_pass (i := 13) (d := some 21) (by kernel_rfl) (by kernel_rfl) (by kernel_rfl) (by kernel_rfl) (fun _ _ _ _ h => h) (by kernel_rfl) (by assumption) ?_
    try simp only [Act.put, List.setIfInBounds_toArray, List.set_cons_zero, List.set_cons_succ]
    refine wpAnyH_pass (i := 14) (d := some 22) (by kernel_rfl) (by kernel_rfl) (by kernel_rfl) (by kernel_rfl) (fun _ _ _ _ h => h) (by kernel_rfl) (by assumption) ?_
    try simp only [Act.put, List.setIfInBounds_toArray, List.set_cons_zero, List.set_cons_succ]
    refine wpAnyH_pass (i := 15) (d := some 23) (by kernel_rfl) (by kernel_rfl) (by kernel_rfl) (by kernel_rfl) (fun _ _ _ _ h => h) (by kernel_rfl) (by assumption) ?_
    try simp only [Act.put, List.setIfInBounds_toArray, List.set_cons_zero, List.set_cons_succ]
    refine wpAnyH_pass (i := 16) (d := some 24) (by kernel_rfl) (by kernel_rfl) (by kernel_rfl) (by kernel_rfl) (fun _ _ _ _ h => h) (by kernel_rfl) (by assumption) ?_
    try simp only [Act.put, List.setIfInBounds_toArray, List.set_cons_zero, List.set_cons_succ]
    refine wpAnyH_pass (i := 17) (d := some 25) (by kernel_rfl) (by kernel_rfl) (by kernel_rfl) (by kernel_rfl) (fun _ _ _ _ h => h) (by kernel_rfl) (by assumption) ?_
    try simp only [Act.put, List.setIfInBounds_toArray, List.set_cons_zero, List.set_cons_succ]
    refine wpAnyH_pass (i := 18) (d := some 26) (by kernel_rfl) (by kernel_rfl) (by kernel_rfl) (by kernel_rfl) (fun _ _ _ _ h => h) (by kernel_rfl) (by assumption) ?_
    try simp only [Act.put, List.setIfInBounds_toArray, List.set_cons_zero, List.set_cons_succ]
    refine wpAnyH_pass (i := 19) (d := some 27) (by kernel_rfl) (by kernel_rfl) (by kernel_rfl) (by kernel_rfl) (fun _ _ _ _ h => h) (by kernel_rfl) (by assumption) ?_
    try simp only [Act.put, List.setIfInBounds_toArray, List.set_cons_zero, List.set_cons_succ]
    refine wpAnyH_pass (i := 20) (d := some 28) (by kernel_rfl) (by kernel_rfl) (by kernel_rfl) (by kernel_rfl) (fun _ _ _ _ h => h) (by kernel_rfl) (by assumption) ?_
    try simp only [Act.put, List.setIfInBounds_toArray, List.set_cons_zero, List.set_cons_succ]
    refine wpAnyH_pass (i := 21) (d := some 29) (by kernel_rfl) (by kernel_rfl) (by kernel_rfl) (by kernel_rfl) (fun _ _ _ _ h => h) (by kernel_rfl) (by assumption) ?_
    try simp only [Act.put, List.setIfInBounds_toArray, List.set_cons_zero, List.set_cons_succ]
    refine wpAnyH_pass (i := 22) (d := some 30) (by kernel_rfl) (by kernel_rfl) (by kernel_rfl) (by kernel_rfl) (fun _ _ _ _ h => h) (by kernel_rfl) (by assumption) ?_
    try simp only [Act.put, List.setIfInBounds_toArray, List.set_cons_zero, List.set_cons_succ]
    refine wpAnyH_pass (i := 23) (d := some 31) (by kernel_rfl) (by kernel_rfl) (by kernel_rfl) (by kernel_rfl) (fun _ _ _ _ h => h) (by kernel_rfl) (by assumption) ?_
    try simp only [Act.put, List.setIfInBounds_toArray, List.set_cons_zero, List.set_cons_succ]
    refine wpAnyH_pass (i := 24) (d := some 32) (by kernel_rfl) (by kernel_rfl) (by kernel_rfl) (by kernel_rfl) (fun _ _ _ _ h => h) (by kernel_rfl) (by assumption) ?_
    try simp only [Act.put, List.setIfInBounds_toArray, List.set_cons_zero, List.set_cons_succ]
    refine wpAnyH_pass (i := 25) (d := some 33) (by kernel_rfl) (by kernel_rfl) (by kernel_rfl) (by kernel_rfl) (fun _ _ _ _ h => h) (by kernel_rfl) (by assumption) ?_
    try simp only [Act.put, List.setIfInBounds_toArray, List.set_cons_zero, List.set_cons_succ]
    refine wpAnyH_pass (i := 26) (d := some 34) (by kernel_rfl) (by kernel_rfl) (by kernel_rfl) (by kernel_rfl) (fun _ _ _ _ h => h) (by kernel_rfl) (by assumption) ?_
    try simp only [Act.put, List.setIfInBounds_toArray, List.set_cons_zero, List.set_cons_succ]
    refine wpAnyH_pass (i := 27) (d := some 35) (by kernel_rfl) (by kernel_rfl) (by kernel_rfl) (by kernel_rfl) (fun _ _ _ _ h => h) (by kernel_rfl) (by assumption) ?_
    try simp only [Act.put, List.setIfInBounds_toArray, List.set_cons_zero, List.set_cons_succ]
    refine wpAnyH_pass (i := 28) (d := some 36) (by kernel_rfl) (by kernel_rfl) (by kernel_rfl) (by kernel_rfl) (fun _ _ _ _ h => h) (by kernel_rfl) (by assumption) ?_
    try simp only [Act.put, List.setIfInBounds_toArray, List.set_cons_zero, List.set_cons_succ]
    refine wpAnyH_pass (i := 29) (d := some 37) (by kernel_rfl) (by kernel_rfl) (by kernel_rfl) (by kernel_rfl) (fun _ _ _ _ h => h) (by kernel_rfl) (by assumption) ?_
    try simp only [Act.put, List.setIfInBounds_toArray, List.set_cons_zero, List.set_cons_succ]
    refine wpAnyH_pass (i := 30) (d := some 38) (by kernel_rfl) (by kernel_rfl) (by kernel_rfl) (by kernel_rfl) (fun _ _ _ _ h => h) (by kernel_rfl) (by assumption) ?_
    try simp only [Act.put, List.setIfInBounds_toArray, List.set_cons_zero, List.set_cons_succ]
    refine wpAnyH_pass (i := 31) (d := some 39) (by kernel_rfl) (by kernel_rfl) (by kernel_rfl) (by kernel_rfl) (fun _ _ _ _ h => h) (by kernel_rfl) (by assumption) ?_
    try simp only [Act.put, List.setIfInBounds_toArray, List.set_cons_zero, List.set_cons_succ]
    refine wpAnyH_pass (i := 32) (d := some 40) (by kernel_rfl) (by kernel_rfl) (by kernel_rfl) (by kernel_rfl) (fun _ _ _ _ h => h) (by kernel_rfl) (by assumption) ?_
    try simp only [Act.put, List.setIfInBounds_toArray, List.set_cons_zero, List.set_cons_succ]
    refine wpAnyH_ready (rs := [33]) (by kernel_rfl) (by simp) ?_
    refine AllReadyH.cons rfl (fun K hK => ?_) AllReadyH.nil
    go_simp
    refine hK.out _ _ (by assumption) (fun hHx => ?_)
    clear hHx hK K
    try simp only [Act.put, List.setIfInBounds_toArray, List.set_cons_zero, List.set_cons_succ]
    refine wpAnyH_done (by kernel_rfl) ?_ _
    have HN1 : Hid (WrdB w.drew G N s a (.slice A0 l.length c0) (-1)) := hid (HB.out.drewN 1)
    have HO1 : Hid (w.drew.ownsRow W0.heap.size 9 1 (.slice A0 l.length c0) l.length (strV l)) := hid (own_drewN HO.out 1)
    have HG1 : Hid (W0.grownBy w.drew (some G)) := hid (grown_drewN HG.out 1)
    obtain ⟨d1, d2, d3⟩ := HN1.out.cells
    go_wp2_with fail
    clear d1 d2 d3
    go_loopg [] (s.length - a) (fun gk wr => ∃ x : Nat, a ≤ x ∧ x ≤ s.length ∧ gk = s.length - x ∧ Hid (dgEnd s (s.length - x) x = a) ∧ WrdB wr G N s x (.slice A0 l.length c0) (-1) ∧ wr.ownsRow W0.heap.size 9 1 (.slice A0 l.length c0) l.length (strV l) ∧ W0.grownBy wr (some G))
    case atStart => exact ⟨a, Nat.le_refl _, HA.out, rfl, hd0, HN1.out, HO1.out, HG1.out⟩
    case round =>
      obtain ⟨x, hax, hxl, rfl, hd, hn, ho, hg⟩ := hrel
      have hN0 := hid hn
      have hO0 := hid ho
      have hG0 := hid hg
      have k0 : (0 : Int) ≤ (a : Int) := by omega
      have k1x : (a : Int) ≤ (x : Int) := by omega
      have k2x : (x : Int) ≤ (s.length : Int) := by omega
      clear hn ho hg
      by_cases hx : x < s.length
      · exact absurd hx (by omega)
      · have HX := hid (show a = x by rw [← hd.out, show s.length - x = 0 by omega, dgEnd])
        have HE := hid (HE.out.trans HX.out)
        have x2 : decide (x < s.length) = false := decide_eq_false (by omega)
        have x3 : decide ((x : Int) < (s.length : Int)) = false := decide_eq_false (by omega)
        clear hd
        go_wp2_with fail
        refine wp_region_held_drew (S := fun w' => w'.cell? ⟨G, 0, none⟩ = some (.int .i64 (N : Int)) ∧ w'.cell? ⟨G, 1, none⟩ = some (.string (bs s)) ∧ w'.cell? ⟨G, 2, none⟩ = some (.int .i64 (x : Int))) (by kernel_rfl) ((hN0.out.drewN 1).cells) (fun hHeld => ?_)
        refine wpAnyH_take (i := 0) (v := ?_) rfl (by kernel_rfl) (by kernel_rfl) (by kernel_rfl) (fun _ _ _ h => h) (Or.inl ⟨by rfl, ?_⟩) (by assumption) ?_
        rotate_left
        · (intro w hSw; (try dsimp only at hSw); go_simp; with_reducible rfl)
        try simp only [Act.put, List.setIfInBounds_toArray, List.set_cons_zero, List.set_cons_succ]
        refine wpAnyH_take (i := 1) (v := ?_) rfl (by kernel_rfl) (by kernel_rfl) (by kernel_rfl) (fun _ _ _ h => h) (Or.inl ⟨by rfl, ?_⟩) (by assumption) ?_
        rotate_left
        · (intro w hSw; (try dsimp only at hSw); go_simp; with_reducible rfl)
        try simp only [Act.put, List.setIfInBounds_toArray, List.set_cons_zero, List.set_cons_succ]
        refine wpAnyH_take (i := 2) (v := ?_) rfl (by kernel_rfl) (by kernel_rfl) (by kernel_rfl) (fun _ _ _ h => h) (Or.inl ⟨by rfl, ?_⟩) (by assumption) ?_
        rotate_left
        · (intro w hSw; (try dsimp only at hSw); go_simp; with_reducible rfl)
        try simp only [Act.put, List.setIfInBounds_toArray, List.set_cons_zero, List.set_cons_succ]
        refine wpAnyH_take (i := 3) (v := ?_) rfl (by kernel_rfl) (by kernel_rfl) (by kernel_rfl) (fun _ _ _ h => h) (Or.inl ⟨by rfl, ?_⟩) (by assumption) ?_
        rotate_left
        · (intro w hSw; (try dsimp only at hSw); go_simp; with_reducible rfl)
        try simp only [Act.put, List.setIfInBounds_toArray, List.set_cons_zero, List.set_cons_succ]
        refine wpAnyH_take (i := 4) (v := ?_) rfl (by kernel_rfl) (by kernel_rfl) (by kernel_rfl) (fun _ _ _ h => h) (Or.inl ⟨by rfl, ?_⟩) (by assumption) ?_
        rotate_left
        · (intro w hSw; (try dsimp only at hSw); go_simp; with_reducible rfl)
        try simp only [Act.put, List.setIfInBounds_toArray, List.set_cons_zero, List.set_cons_succ]
        refine wpAnyH_take (i := 5) (v := ?_) rfl (by kernel_rfl) (by kernel_rfl) (by kernel_rfl) (fun _ _ _ h => h) (Or.inl ⟨by rfl, ?_⟩) (by assumption) ?_
        rotate_left
        · (intro w hSw; (try dsimp only at hSw); go_simp; with_reducible rfl)
        try simp only [Act.put, List.setIfInBounds_toArray, List.set_cons_zero, List.set_cons_succ]
        refine wpAnyH_take (i := 6) (v := ?_) rfl (by kernel_rfl) (by kernel_rfl) (by kernel_rfl) (fun _ _ _ h => h) (Or.inl ⟨by rfl, ?_⟩) (by assumption) ?_
        rotate_left
        · (intro w hSw; (try dsimp only at hSw); go_simp; with_reducible rfl)
        try simp only [Act.put, List.setIfInBounds_toArray, List.set_cons_zero, List.set_cons_succ]
        refine wpAnyH_take (i := 7) (v := ?_) rfl (by kernel_rfl) (by kernel_rfl) (by kernel_rfl) (fun _ _ _ h => h) (Or.inl ⟨by rfl, ?_⟩) (by assumption) ?_
        rotate_left
        · (intro w hSw; (try dsimp only at hSw); go_simp; with_reducible rfl)
        try simp only [Act.put, List.setIfInBounds_toArray, List.set_cons_zero, List.set_cons_succ]
        refine wpAnyH_take (i := 8) (v := ?_) rfl (by kernel_rfl) (by kernel_rfl) (by kernel_rfl) (fun _ _ _ h => h) (Or.inl ⟨by rfl, ?_⟩) (by assumption) ?_
        rotate_left
        · (intro w hSw; (try dsimp only at hSw); go_simp; with_reducible rfl)
        try simp only [Act.put, List.setIfInBounds_toArray, List.set_cons_zero, List.set_cons_succ]
        refine wpAnyH_take (i := 9) (v := ?_) rfl (by kernel_rfl) (by kernel_rfl) (by kernel_rfl) (fun _ _ _ h => h) (Or.inl ⟨by rfl, ?_⟩) (by assumption) ?_
        rotate_left
        · (intro w hSw; (try dsimp only at hSw); go_simp; with_reducible rfl)
        try simp only [Act.put, List.setIfInBounds_toArray, List.set_cons_zero, List.set_cons_succ]
        refine wpAnyH_take (i := 10) (v := ?_) rfl (by kernel_rfl) (by kernel_rfl) (by kernel_rfl) (fun _ _ _ h => h) (Or.inl ⟨by rfl, ?_⟩) (by assumption) ?_
        rotate_left
        · (intro w hSw; (try dsimp only at hSw); go_simp; with_reducible rfl)
        try simp only [Act.put, List.setIfInBounds_toArray, List.set_cons_zero, List.set_cons_succ]
        refine wpAnyH_pass (i := 11) (d := some 60) (by kernel_rfl) (by kernel_rfl) (by kernel_rfl) (by kernel_rfl) (fun _ _ _ _ h => h) (by kernel_rfl) (by assumption) ?_
        try simp only [Act.put, List.setIfInBounds_toArray, List.set_cons_zero, List.set_cons_succ]
        refine wpAnyH_pass (i := 12) (d := some 61) (by kernel_rfl) (by kernel_rfl) (by kernel_rfl) (by kernel_rfl) (fun _ _ _ _ h => h) (by kernel_rfl) (by assumption) ?_
        try simp only [Act.put, List.setIfInBounds_toArray, List.set_cons_zero, List.set_cons_succ]
        refine wpAnyH_pass (i := 13) (d := some 62) (by kernel_rfl) (by kernel_rfl) (by kernel_rfl) (by kernel_rfl) (fun _ _ _ _ h => h) (by kernel_rfl) (by assumption) ?_
        try simp only [Act.put, List.setIfInBounds_toArray, List.set_cons_zero, List.set_cons_succ]
        refine wpAnyH_pass (i := 14) (d := some 63) (by kernel_rfl) (by kernel_rfl) (by kernel_rfl) (by kernel_rfl) (fun _ _ _ _ h => h) (by kernel_rfl) (by assumption) ?_
        try simp only [Act.put, List.setIfInBounds_toArray, List.set_cons_zero, List.set_cons_succ]
        refine wpAnyH_pass (i := 15) (d := some 64) (by kernel_rfl) (by kernel_rfl) (by kernel_rfl) (by kernel_rfl) (fun _ _ _ _ h => h) (by kernel_rfl) (by assumption) ?_
        try simp only [Act.put, List.setIfInBounds_toArray, List.set_cons_zero, List.set_cons_succ]
        refine wpAnyH_pass (i := 16) (d := some 65) (by kernel_rfl) (by kernel_rfl) (by kernel_rfl) (by kernel_rfl) (fun _ _ _ _ h => h) (by kernel_rfl) (by assumption) ?_
        try simp only [Act.put, List.setIfInBounds_toArray, List.set_cons_zero, List.set_cons_succ]
        refine wpAnyH_pass (i := 17) (d := some 66) (by kernel_rfl) (by kernel_rfl) (by kernel_rfl) (by kernel_rfl) (fun _ _ _ _ h => h) (by kernel_rfl) (by assumption) ?_
        try simp only [Act.put, List.setIfInBounds_toArray, List.set_cons_zero, List.set_cons_succ]
        refine wpAnyH_pass (i := 18) (d := some 67) (by kernel_rfl) (by kernel_rfl) (by kernel_rfl) (by kernel_rfl) (fun _ _ _ _ h => h) (by kernel_rfl) (by assumption) ?_
        try simp only [Act.put, List.setIfInBounds_toArray, List.set_cons_zero, List.set_cons_succ]
        refine wpAnyH_pass (i := 19) (d := some 68) (by kernel_rfl) (by kernel_rfl) (by kernel_rfl) (by kernel_rfl) (fun _ _ _ _ h => h) (by kernel_rfl) (by assumption) ?_
        try simp only [Act.put, List.setIfInBounds_toArray, List.set_cons_zero, List.set_cons_succ]
        refine wpAnyH_pass (i := 20) (d := some 69) (by kernel_rfl) (by kernel_rfl) (by kernel_rfl) (by kernel_rfl) (fun _ _ _ _ h => h) (by kernel_rfl) (by assumption) ?_
        try simp only [Act.put, List.setIfInBounds_toArray, List.set_cons_zero, List.set_cons_succ]
        refine wpAnyH_take (i := 21) (v := ?_) rfl (by kernel_rfl) (by kernel_rfl) (by kernel_rfl) (fun _ _ _ h => h) (Or.inl ⟨by rfl, ?_⟩) (by assumption) ?_
        rotate_left
        · (intro w hSw; (try dsimp only at hSw); go_simp; with_reducible rfl)
        try simp only [Act.put, List.setIfInBounds_toArray, List.set_cons_zero, List.set_cons_succ]
        refine wpAnyH_take (i := 22) (v := ?_) rfl (by kernel_rfl) (by kernel_rfl) (by kernel_rfl) (fun _ _ _ h => h) (Or.inl ⟨by rfl, ?_⟩) (by assumption) ?_
        rotate_left
        · (intro w hSw; (try dsimp only at hSw); go_simp; with_reducible rfl)
        try simp only [Act.put, List.setIfInBounds_toArray, List.set_cons_zero, List.set_cons_succ]
        refine wpAnyH_pass (i := 23) (d := some 72) (by kernel_rfl) (by kernel_rfl) (by kernel_rfl) (by kernel_rfl) (fun _ _ _ _ h => h) (by kernel_rfl) (by assumption) ?_
        try simp only [Act.put, List.setIfInBounds_toArray, List.set_cons_zero, List.set_cons_succ]
        refine wpAnyH_pass (i := 24) (d := some 73) (by kernel_rfl) (by kernel_rfl) (by kernel_rfl) (by kernel_rfl) (fun _ _ _ _ h => h) (by kernel_rfl) (by assumption) ?_
        try simp only [Act.put, List.setIfInBounds_toArray, List.set_cons_zero, List.set_cons_succ]
        refine wpAnyH_pass (i := 25) (d := some 74) (by kernel_rfl) (by kernel_rfl) (by kernel_rfl) (by kernel_rfl) (fun _ _ _ _ h => h) (by kernel_rfl) (by assumption) ?_
        try simp only [Act.put, List.setIfInBounds_toArray, List.set_cons_zero, List.set_cons_succ]
        refine wpAnyH_pass (i := 26) (d := some 75) (by kernel_rfl) (by kernel_rfl) (by kernel_rfl) (by kernel_rfl) (fun _ _ _ _ h => h) (by kernel_rfl) (by assumption) ?_
        try simp only [Act.put, List.setIfInBounds_toArray, List.set_cons_zero, List.set_cons_succ]
        refine wpAnyH_pass (i := 27) (d := some 76) (by kernel_rfl) (by kernel_rfl) (by kernel_rfl) (by kernel_rfl) (fun _ _ _ _ h => h) (by kernel_rfl) (by assumption) ?_
        try simp only [Act.put, List.setIfInBounds_toArray, List.set_cons_zero, List.set_cons_succ]
        refine wpAnyH_pass (i := 28) (d := some 77) (by kernel_rfl) (by kernel_rfl) (by kernel_rfl) (by kernel_rfl) (fun _ _ _ _ h => h) (by kernel_rfl) (by assumption) ?_
        try simp only [Act.put, List.setIfInBounds_toArray, List.set_cons_zero, List.set_cons_succ]
        refine wpAnyH_pass (i := 29) (d := some 78) (by kernel_rfl) (by kernel_rfl) (by kernel_rfl) (by kernel_rfl) (fun _ _ _ _ h => h) (by kernel_rfl) (by assumption) ?_
        try simp only [Act.put, List.setIfInBounds_toArray, List.set_cons_zero, List.set_cons_succ]
        refine wpAnyH_pass (i := 30) (d := some 79) (by kernel_rfl) (by kernel_rfl) (by kernel_rfl) (by kernel_rfl) (fun _ _ _ _ h => h) (by kernel_rfl) (by assumption) ?_
        try simp only [Act.put, List.setIfInBounds_toArray, List.set_cons_zero, List.set_cons_succ]
        refine wpAnyH_pass (i := 31) (d := some 80) (by kernel_rfl) (by kernel_rfl) (by kernel_rfl) (by kernel_rfl) (fun _ _ _ _ h => h) (by kernel_rfl) (by assumption) ?_
        try simp only [Act.put, List.setIfInBounds_toArray, List.set_cons_zero, List.set_cons_succ]
        refine wpAnyH_pass (i := 32) (d := some 81) (by kernel_rfl) (by kernel_rfl) (by kernel_rfl) (by kernel_rfl) (fun _ _ _ _ h => h) (by kernel_rfl) (by assumption) ?_
        try simp only [Act.put, List.setIfInBounds_toArray, List.set_cons_zero, List.set_cons_succ]
        refine wpAnyH_ready (rs := [33]) (by kernel_rfl) (by simp) ?_
        refine AllReadyH.cons rfl (fun K hK => ?_) AllReadyH.nil
        go_simp
        refine hK.out _ _ (by assumption) (fun hHx => ?_)
        clear hHx hK K
        try simp only [Act.put, List.setIfInBounds_toArray, List.set_cons_zero, List.set_cons_succ]
        refine wpAnyH_done (by kernel_rfl) ?_ _
        have hN : Hid (WrdB wr.drew G N s x (.slice A0 l.length c0) (-1)) := hid (hN0.out.drewN 1)
        have hO : Hid (wr.drew.ownsRow W0.heap.size 9 1 (.slice A0 l.length c0) l.length (strV l)) := hid (own_drewN hO0.out 1)
        have hG : Hid (W0.grownBy wr.drew (some G)) := hid (grown_drewN hG0.out 1)
        go_wp2_with fail
        generalize wr.drew = W at *
        obtain ⟨n0, n1, n2⟩ := hN.out.cells
        go_region_held3 (fun w' => w'.cell? ⟨G, 0, none⟩ = some (.int .i64 (N : Int)) ∧ w'.cell? ⟨G, 1, none⟩ = some (.string (bs s)) ∧ w'.cell? ⟨G, 2, none⟩ = some (.int .i64 (x : Int)))
          (first | exact hN.out.cells | exact (hN.out.drewN 1).cells | exact (WrdB.below hN.out Ft).cells)
          (first | (go_at_call 24; refine (l3Tidy_any N _ _ lo hi (sub_len s _ _ hs)).mono ?_; rintro e0 wt ⟨rfl, bt⟩; have Ft : Below W.heap.size W wt := (Below.refl _ _).drew.trans (bt.mono (Nat.le_refl _))))
        have hN2 := hid (WrdB.below hN.out Ft)
        have hO2 := hid (own_below hO.out Ft)
        have hG2 := hid (grown_one hG.out (grown_of_below Ft))
        have hsz2 := hG2.out.size
        clear bt Ft n0 n1 n2
        obtain ⟨n0, n1, n2⟩ := hN2.out.cells
        have n3 := Blk.cell hN2.out 3
        have n4 := Blk.cell hN2.out 4
        have f0 := Blk.frozen hN2.out 0
        have f2 := Blk.frozen hN2.out 2
        have f3 := Blk.frozen hN2.out 3
        have f4 := Blk.frozen hN2.out 4
        simp only [List.getElem?_toArray, List.getElem?_cons_zero, List.getElem?_cons_succ] at n3 n4
        obtain ⟨Wd, hWd⟩ : ∃ Wd, Wd = tidyL N (List.take (x - a) (List.drop a s)) := ⟨_, rfl⟩
        have HWd := hid (show wordL N s a = Wd by unfold wordL; rw [HE.out, hWd])
        rw [← hWd]
        clear hWd
        obtain ⟨nb, hnb⟩ : ∃ b, (Wd == []) = b := ⟨_, rfl⟩
        have HBW := hid (show badW N s a = (decide (x = a) || nb) by unfold badW; rw [HE.out, HWd.out, ← hnb]; congr 1; rw [Bool.eq_iff_iff]; simp)
        cases hea : decide (x = a)
        · have hne : ((a : Int) == (x : Int)) = false := by have := of_decide_eq_false hea; simp; omega
          rw [hea] at HBW
          clear hea
          cases nb
          rotate_left
          · have HR := hid (show badW N s a = true from HBW.out)
            go_wp2
            refine bodyPost_ret (results_none rfl _ _ _) rfl ?_
            exact ⟨rfl, WordR.no HE.out HR.out (WrdB.bad hN2.out _) (grown_set hG2.out)⟩
          · have HR := hid (show badW N s a = false by rw [HBW.out]; rfl)
            have hne5 := hid (show (Value.slice A0 l.length c0).ownBlock ≠ some G from fun h => by have h1 := (hO2.out.lt G h).1; omega)
            have hlim : l.length + 1 ≤ 1000000000000 := by omega
            go_wp2_with (at_builtin; refine app_str _ (by rfl) _ _ (by rfl) W0.heap.size _ _ _ (by rfl) (hO2.out.alloc _) (some ⟨wt.heap.size, 0, none⟩) 1 1 [Wd] (by rfl) (Rd.blk _ [.string (bs Wd)] _) hlim (by simp; omega) ?_; intro v5 w5 o5 g5; obtain ⟨A5, c5, rfl, _⟩ := own_shape o5; have B5 : wt.grownBy w5 (Value.slice A0 l.length c0).ownBlock := grown_below ((Below.refl _ _).alloc (Nat.le_refl _) _) g5; have HN5 := hid (show WrdB w5 G N s x (.slice A0 l.length c0) (-1) from blk_grown3 B5 hN2.out hne5.out); have f5 := Blk.frozen HN5.out 3; have m3 := Blk.cell HN5.out 3; simp only [List.getElem?_toArray, List.getElem?_cons_zero, List.getElem?_cons_succ] at m3)
            go_end0
            exact ⟨rfl, WordR.yes HE.out HR.out HWd.out (WrdB.out_ HN5.out _) (own_setG o5 hG0') (grown_set (grown_new hG2.out B5 (fun q hq => (hO2.out.lt q hq).1)))⟩
        · have hne : ((a : Int) == (x : Int)) = true := by have := of_decide_eq_true hea; simp; omega
          rw [hea] at HBW
          have HR := hid (show badW N s a = true by rw [HBW.out]; rfl)
          clear hea
          go_wp2
          refine bodyPost_ret (results_none rfl _ _ _) rfl ?_
          exact ⟨rfl, WordR.no HE.out HR.out (WrdB.bad hN2.out _) (grown_set hG2.out)⟩
end Go.Proofs.Ytamcopnghjoboaa
