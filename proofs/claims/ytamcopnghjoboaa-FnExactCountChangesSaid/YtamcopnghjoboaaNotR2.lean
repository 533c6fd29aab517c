/- Contract of the program's reader of place notation: a change. No conditions beyond those stated. -/
import Derived.Test.YtamcopnghjoboaaNotR
set_option linter.unusedVariables false
set_option linter.unusedSimpArgs false
set_option maxRecDepth 100000
namespace Go.Proofs.Ytamcopnghjoboaa
open Go.RowKit

theorem sub_len (s : List UInt8) (a n : Nat) (hs : s.length ≤ 1000) : (List.take n (List.drop a s)).length ≤ 1000 := by
  rw [List.length_take, List.length_drop]; omega
theorem ends_wEnd {s : List UInt8} {a : Nat} (ha : a ≤ s.length) (h : endsB s a = true) : wEnd s a = a := by
  by_cases hl : a < s.length
  · have h4 : s.getD a 0 = 44 := by
      unfold endsB at h
      rw [decide_eq_false (show ¬ a = s.length by omega), Bool.false_or, decide_eq_true_eq] at h
      exact h
    exact wEnd_self hl (by rw [h4]; decide) (by rw [h4]; decide)
  · unfold wEnd
    rw [if_neg (fun h => hl h.1), show s.length - a = 0 by omega, dgEnd]
set_option maxHeartbeats 8000000 in
theorem change_any (G N : Nat) (s : List UInt8) (a : Nat) (w : World) (lo : 3 ≤ N) (hi : N ≤ 8) (h : NotB w G N s a (-1)) (ha : a ≤ s.length) (hs : s.length ≤ 1000) :
    Calls Try.prog 21 #[.pointer (some ⟨G, 0, none⟩)] w fun e w' => e = .returned (.string (bs (wordL N s a))) ∧ NotB w' G N s (wEnd s a) (if badW N s a = true then (a : Int) else -1) ∧ w.grownBy w' (some G) := by
  have HB := hid h
  have GE := hid (ends_any G N s a w h ha hs)
  obtain ⟨c0, c1, c2, c3⟩ := h.cells
  have k0 : (0 : Int) ≤ (a : Int) := by omega
  clear h
  cases he : endsB s a
  · rw [he] at GE
    have hlt : a < s.length := by
      unfold endsB at he
      simp only [Bool.or_eq_false_iff, decide_eq_false_iff_not] at he
      omega
    have hGlt := hid (Blk.lt HB.out)
    obtain ⟨X, hX⟩ : ∃ X, s[a] = X := ⟨_, rfl⟩
    have hgd := hid (show s.getD a 0 = X by rw [← hX]; simp [List.getD, hlt])
    have j1 : (a : Int) < (s.length : Int) := by omega
    obtain ⟨B1, hB1⟩ : ∃ B, decide (X = 120) = B := ⟨_, rfl⟩
    obtain ⟨B2, hB2⟩ : ∃ B, decide (X = 45) = B := ⟨_, rfl⟩
    have e120 : ((X.toNat : Int) == 120) = B1 := by rw [← hB1]; exact byte_eqI X 120 (by omega)
    have e120N : (X.toNat == 120) = B1 := by rw [← e120, Bool.eq_iff_iff]; simp; omega
    have e45 : ((X.toNat : Int) == 45) = B2 := by rw [← hB2]; exact byte_eqI X 45 (by omega)
    have e45N : (X.toNat == 45) = B2 := by rw [← e45, Bool.eq_iff_iff]; simp; omega
    have HIX := hid (show isX (s.getD a 0) = (B2 || B1) by rw [hgd.out, ← hB1, ← hB2]; unfold isX; rw [Bool.eq_iff_iff]; simp)
    clear he hB1 hB2
    have hw1 := hid (IntWalk.i64_in ((a : Int) + 1) (by omega))
    by_cases hb : (B2 || B1) = true
    · obtain ⟨e, hee⟩ : ∃ e, e = a + 1 := ⟨_, rfl⟩
      have HE := hid (show wEnd s a = e by unfold wEnd; rw [if_pos ⟨hlt, by rw [HIX.out]; exact hb⟩, hee])
      have hcast : (a : Int) + 1 = (e : Int) := by omega
      have hwc := hw1.out
      rw [hcast] at hwc
      have k1 : (a : Int) ≤ (e : Int) := by omega
      have k2 : (e : Int) ≤ (s.length : Int) := by omega
      have f2 := Blk.frozen HB.out 2
      clear hee
      go_enter Try.func21, Try.ntmps21
      go_wp2_with fail
      refine GE.out.mono ?_
      rintro e0 w1 ⟨rfl, rfl⟩
      have hN1 := hid (HB.out.drewN 1)
      obtain ⟨d0, d1, d2, d3⟩ := hN1.out.cells
      have f2' := Blk.frozen hN1.out 2
      have hN : Hid (NotB ((w.setCell ⟨G, 2, none⟩ (.int .i64 (e : Int))).drew) G N s e (-1)) := hid ((NotB.at_ HB.out e).drewN 1)
      have hG : Hid (w.grownBy ((w.setCell ⟨G, 2, none⟩ (.int .i64 (e : Int))).drew) (some G)) := hid (grown_drewN (grown_set (o := 2) (v := .int .i64 (e : Int)) (grown_refl w (some G))) 1)
      cases B1
      · cases B2
        · cases hb
        · clear hb
          go_wp2_with fail
          clear c0 c1 c2 c3 d0 d1 d2 d3 f2 f2'
          generalize ((w.setCell ⟨G, 2, none⟩ (.int .i64 (e : Int))).drew) = W at *
          obtain ⟨n0, n1, n2, n3⟩ := hN.out.cells
          go_region_held3 (fun w' => w'.cell? ⟨G, 0, none⟩ = some (.int .i64 (N : Int)) ∧ w'.cell? ⟨G, 1, none⟩ = some (.string (bs s)) ∧ w'.cell? ⟨G, 2, none⟩ = some (.int .i64 (e : Int)) ∧ w'.cell? ⟨G, 3, none⟩ = some (.int .i64 (-1)))
            (first | exact hN.out.cells | exact (hN.out.drewN 1).cells | exact (NotB.below hN.out Ft).cells)
            (first | (go_at_call 25; refine (tidyChange_any N _ _ lo hi (sub_len s _ _ hs)).mono ?_; rintro e0 wt ⟨rfl, bt⟩; have Ft : Below W.heap.size W wt := (Below.refl _ _).drew.trans (bt.mono (Nat.le_refl _))))
          have hN2 := hid (NotB.below hN.out Ft)
          have hG2 := hid (grown_one hG.out (grown_of_below Ft))
          clear bt Ft n0 n1 n2 n3
          obtain ⟨n0, n1, n2, n3⟩ := hN2.out.cells
          have f3 := Blk.frozen hN2.out 3
          obtain ⟨Wd, hWd⟩ : ∃ Wd, Wd = tidyL N (List.take (e - a) (List.drop a s)) := ⟨_, rfl⟩
          have HWd := hid (show wordL N s a = Wd by unfold wordL; rw [HE.out, hWd])
          rw [← hWd]
          clear hWd
          obtain ⟨nb, hok⟩ : ∃ b, decide (Wd = []) = b := ⟨_, rfl⟩
          have HBW := hid (show badW N s a = (decide (e = a) || nb) by unfold badW; rw [HE.out, HWd.out, ← hok])
          rw [hok]
          clear hok
          cases hea : decide (e = a)
          · have hne : ((e : Int) == (a : Int)) = false := by have := of_decide_eq_false hea; simp; omega
            rw [hea] at HBW
            clear hea
            cases nb
            rotate_left
            · have HR := hid (show badW N s a = true from HBW.out)
              go_wp2
              go_ret
              exact ⟨ret_str HWd.out.symm, by rw [HE.out]; first | exact NotB.bad hN2.out _ | (rw [if_pos HR.out]; exact NotB.bad hN2.out _), grown_set hG2.out⟩
            · have HR := hid (show ¬ badW N s a = true by rw [HBW.out]; simp)
              go_wp2
              go_ret
              exact ⟨ret_str HWd.out.symm, by rw [HE.out]; first | exact hN2.out | (rw [if_neg HR.out]; exact hN2.out), hG2.out⟩
          · have hne : ((e : Int) == (a : Int)) = true := by have := of_decide_eq_true hea; simp; omega
            rw [hea] at HBW
            have HR := hid (show badW N s a = true by rw [HBW.out]; rfl)
            clear hea
            go_wp2
            go_ret
            exact ⟨ret_str HWd.out.symm, by rw [HE.out]; first | exact NotB.bad hN2.out _ | (rw [if_pos HR.out]; exact NotB.bad hN2.out _), grown_set hG2.out⟩
      · clear hb
        go_wp2_with fail
        clear c0 c1 c2 c3 d0 d1 d2 d3 f2 f2'
        generalize ((w.setCell ⟨G, 2, none⟩ (.int .i64 (e : Int))).drew) = W at *
        obtain ⟨n0, n1, n2, n3⟩ := hN.out.cells
        go_region_held3 (fun w' => w'.cell? ⟨G, 0, none⟩ = some (.int .i64 (N : Int)) ∧ w'.cell? ⟨G, 1, none⟩ = some (.string (bs s)) ∧ w'.cell? ⟨G, 2, none⟩ = some (.int .i64 (e : Int)) ∧ w'.cell? ⟨G, 3, none⟩ = some (.int .i64 (-1)))
          (first | exact hN.out.cells | exact (hN.out.drewN 1).cells | exact (NotB.below hN.out Ft).cells)
          (first | (go_at_call 25; refine (tidyChange_any N _ _ lo hi (sub_len s _ _ hs)).mono ?_; rintro e0 wt ⟨rfl, bt⟩; have Ft : Below W.heap.size W wt := (Below.refl _ _).drew.trans (bt.mono (Nat.le_refl _))))
        have hN2 := hid (NotB.below hN.out Ft)
        have hG2 := hid (grown_one hG.out (grown_of_below Ft))
        clear bt Ft n0 n1 n2 n3
        obtain ⟨n0, n1, n2, n3⟩ := hN2.out.cells
        have f3 := Blk.frozen hN2.out 3
        obtain ⟨Wd, hWd⟩ : ∃ Wd, Wd = tidyL N (List.take (e - a) (List.drop a s)) := ⟨_, rfl⟩
        have HWd := hid (show wordL N s a = Wd by unfold wordL; rw [HE.out, hWd])
        rw [← hWd]
        clear hWd
        obtain ⟨nb, hok⟩ : ∃ b, decide (Wd = []) = b := ⟨_, rfl⟩
        have HBW := hid (show badW N s a = (decide (e = a) || nb) by unfold badW; rw [HE.out, HWd.out, ← hok])
        rw [hok]
        clear hok
        cases hea : decide (e = a)
        · have hne : ((e : Int) == (a : Int)) = false := by have := of_decide_eq_false hea; simp; omega
          rw [hea] at HBW
          clear hea
          cases nb
          rotate_left
          · have HR := hid (show badW N s a = true from HBW.out)
            go_wp2
            go_ret
            exact ⟨ret_str HWd.out.symm, by rw [HE.out]; first | exact NotB.bad hN2.out _ | (rw [if_pos HR.out]; exact NotB.bad hN2.out _), grown_set hG2.out⟩
          · have HR := hid (show ¬ badW N s a = true by rw [HBW.out]; simp)
            go_wp2
            go_ret
            exact ⟨ret_str HWd.out.symm, by rw [HE.out]; first | exact hN2.out | (rw [if_neg HR.out]; exact hN2.out), hG2.out⟩
        · have hne : ((e : Int) == (a : Int)) = true := by have := of_decide_eq_true hea; simp; omega
          rw [hea] at HBW
          have HR := hid (show badW N s a = true by rw [HBW.out]; rfl)
          clear hea
          go_wp2
          go_ret
          exact ⟨ret_str HWd.out.symm, by rw [HE.out]; first | exact NotB.bad hN2.out _ | (rw [if_pos HR.out]; exact NotB.bad hN2.out _), grown_set hG2.out⟩
    · obtain ⟨e, hee⟩ : ∃ e, e = dgEnd s (s.length - a) a := ⟨_, rfl⟩
      have HE := hid (show wEnd s a = e by unfold wEnd; rw [if_neg (fun h => hb (by rw [← HIX.out]; exact h.2)), hee])
      have k1 : (a : Int) ≤ (e : Int) := by have := dgEnd_ge s (s.length - a) a; omega
      have k2 : (e : Int) ≤ (s.length : Int) := by have := dgEnd_le s (s.length - a) a ha; omega
      have hd0 := hid hee.symm
      have HA := hid ha
      clear hee
      cases B1
      rotate_left
      · exact absurd (by cases B2 <;> rfl) hb
      cases B2
      rotate_left
      · exact absurd rfl hb
      clear hb
      go_enter Try.func21, Try.ntmps21
      go_wp2_with fail
      refine GE.out.mono ?_
      rintro e0 w1 ⟨rfl, rfl⟩
      have hN1 := hid (HB.out.drewN 1)
      obtain ⟨d0, d1, d2, d3⟩ := hN1.out.cells
      go_wp2_with fail
      clear c0 c1 c2 c3 d0 d1 d2 d3 e120 e120N e45 e45N hX
      go_loopg [] (s.length - a) (fun gk wr => ∃ x : Nat, a ≤ x ∧ x ≤ s.length ∧ gk = s.length - x ∧ Hid (dgEnd s (s.length - x) x = e) ∧ NotB wr G N s x (-1) ∧ w.grownBy wr (some G))
      case atStart => exact ⟨a, Nat.le_refl _, HA.out, rfl, hd0, hN1.out, grown_drewN (grown_refl w (some G)) 1⟩
      case round =>
        obtain ⟨x, hax, hxl, rfl, hd, hn, hg⟩ := hrel
        have hN0 := hid hn
        have hG0 := hid hg
        have HGw := hid (Nat.lt_of_lt_of_le hGlt.out hg.size)
        clear hn hg
        by_cases hx : x < s.length
        · obtain ⟨Y, hY⟩ : ∃ Y, s[x] = Y := ⟨_, rfl⟩
          have hgd2 := hid (show s.getD x 0 = Y by rw [← hY]; simp [List.getD, hx])
          have x0 : (0 : Int) ≤ (x : Int) := by omega
          have x1 : (x : Int) < (s.length : Int) := by omega
          have x2 : decide (x < s.length) = true := decide_eq_true hx
          obtain ⟨C1, hC1⟩ : ∃ C, decide (48 ≤ Y.toNat) = C := ⟨_, rfl⟩
          obtain ⟨C2, hC2⟩ : ∃ C, decide (Y.toNat ≤ 57) = C := ⟨_, rfl⟩
          have hC1i : decide ((48 : Int) ≤ (Y.toNat : Int)) = C1 := by rw [← hC1]; exact decide_eq_decide.2 (by omega)
          have hC2i : decide ((Y.toNat : Int) ≤ 57) = C2 := by rw [← hC2]; exact decide_eq_decide.2 (by omega)
          have HDG := hid (show isDg (s.getD x 0) = (C1 && C2) by rw [hgd2.out]; unfold isDg; rw [hC1, hC2])
          have HST := hid (show dgEnd s (s.length - x) x = if isDg (s.getD x 0) = true then dgEnd s (s.length - (x + 1)) (x + 1) else x by
            obtain ⟨f, hf⟩ : ∃ f, s.length - x = f + 1 := ⟨s.length - x - 1, by omega⟩
            rw [hf, dgEnd, show s.length - (x + 1) = f by omega]
            by_cases hq : isDg (s.getD x 0) = true
            · rw [if_pos ⟨hx, hq⟩, if_pos hq]
            · rw [if_neg (fun h => hq h.2), if_neg hq])
          cases C1
          · have HX := show x = e by rw [← hd.out, HST.out, HDG.out]; rfl
            subst HX
            clear hd HST HDG
            go_wp2_with fail
            refine wp_region_held_drew (S := fun w' => w'.cell? ⟨G, 0, none⟩ = some (.int .i64 (N : Int)) ∧ w'.cell? ⟨G, 1, none⟩ = some (.string (bs s)) ∧ w'.cell? ⟨G, 2, none⟩ = some (.int .i64 (x : Int)) ∧ w'.cell? ⟨G, 3, none⟩ = some (.int .i64 (-1))) (by kernel_rfl) ((hN0.out.drewN 1).cells) (fun hHeld => ?_)
            refine wpAnyH_take (i := 0) (v := ?_) rfl (by kernel_rfl) (by kernel_rfl) (by kernel_rfl) (fun _ _ _ h => h) (Or.inl ⟨by rfl, ?_⟩) (by assumption) ?_
            rotate_left
            · (intro w hSw; (try dsimp only at hSw); go_simp; with_reducible rfl)
            try simp only [Act.put, List.setIfInBounds_toArray, List.set_cons_zero, List.set_cons_succ]
            refine wpAnyH_take (i := 1) (v := ?_) rfl (by kernel_rfl) (by kernel_rfl) (by kernel_rfl) (fun _ _ _ h => h) (Or.inl ⟨by rfl, ?_⟩) (by assumption) ?_
            rotate_left
            · (intro w hSw; (try dsimp only at hSw); go_simp; with_reducible rfl)
            try simp only [Act.put, List.setIfInBounds_toArray, List.set_cons_zero, List.set_cons_succ]
            refine wpAnyH_take (i := 2) (v := ?_) rfl (by kernel_rfl) (by kernel_rfl) (by kernel_rfl) (fun _ _ _ h => h) (Or.inl ⟨by rfl, ?_⟩) (by assumption) ?_
            rotate_left
            · (intro w hSw; (try dsimp only at hSw); go_simp; with_reducible rfl)
            try simp only [Act.put, List.setIfInBounds_toArray, List.set_cons_zero, List.set_cons_succ]
            refine wpAnyH_take (i := 3) (v := ?_) rfl (by kernel_rfl) (by kernel_rfl) (by kernel_rfl) (fun _ _ _ h => h) (Or.inl ⟨by rfl, ?_⟩) (by assumption) ?_
            rotate_left
            · (intro w hSw; (try dsimp only at hSw); go_simp; with_reducible rfl)
            try simp only [Act.put, List.setIfInBounds_toArray, List.set_cons_zero, List.set_cons_succ]
            refine wpAnyH_take (i := 4) (v := ?_) rfl (by kernel_rfl) (by kernel_rfl) (by kernel_rfl) (fun _ _ _ h => h) (Or.inl ⟨by rfl, ?_⟩) (by assumption) ?_
            rotate_left
            · (intro w hSw; (try dsimp only at hSw); go_simp; with_reducible rfl)
            try simp only [Act.put, List.setIfInBounds_toArray, List.set_cons_zero, List.set_cons_succ]
            refine wpAnyH_take (i := 5) (v := ?_) rfl (by kernel_rfl) (by kernel_rfl) (by kernel_rfl) (fun _ _ _ h => h) (Or.inl ⟨by rfl, ?_⟩) (by assumption) ?_
            rotate_left
            · (intro w hSw; (try dsimp only at hSw); go_simp; with_reducible rfl)
            try simp only [Act.put, List.setIfInBounds_toArray, List.set_cons_zero, List.set_cons_succ]
            refine wpAnyH_take (i := 6) (v := ?_) rfl (by kernel_rfl) (by kernel_rfl) (by kernel_rfl) (fun _ _ _ h => h) (Or.inl ⟨by rfl, ?_⟩) (by assumption) ?_
            rotate_left
            · (intro w hSw; (try dsimp only at hSw); go_simp; with_reducible rfl)
            try simp only [Act.put, List.setIfInBounds_toArray, List.set_cons_zero, List.set_cons_succ]
            refine wpAnyH_take (i := 7) (v := ?_) rfl (by kernel_rfl) (by kernel_rfl) (by kernel_rfl) (fun _ _ _ h => h) (Or.inl ⟨by rfl, ?_⟩) (by assumption) ?_
            rotate_left
            · (intro w hSw; (try dsimp only at hSw); go_simp; with_reducible rfl)
            try simp only [Act.put, List.setIfInBounds_toArray, List.set_cons_zero, List.set_cons_succ]
            refine wpAnyH_take (i := 8) (v := ?_) rfl (by kernel_rfl) (by kernel_rfl) (by kernel_rfl) (fun _ _ _ h => h) (Or.inl ⟨by rfl, ?_⟩) (by assumption) ?_
            rotate_left
            · (intro w hSw; (try dsimp only at hSw); go_simp; with_reducible rfl)
            try simp only [Act.put, List.setIfInBounds_toArray, List.set_cons_zero, List.set_cons_succ]
            refine wpAnyH_take (i := 9) (v := ?_) rfl (by kernel_rfl) (by kernel_rfl) (by kernel_rfl) (fun _ _ _ h => h) (Or.inl ⟨by rfl, ?_⟩) (by assumption) ?_
            rotate_left
            · (intro w hSw; (try dsimp only at hSw); go_simp; with_reducible rfl)
            try simp only [Act.put, List.setIfInBounds_toArray, List.set_cons_zero, List.set_cons_succ]
            refine wpAnyH_take (i := 10) (v := ?_) rfl (by kernel_rfl) (by kernel_rfl) (by kernel_rfl) (fun _ _ _ h => h) (Or.inl ⟨by rfl, ?_⟩) (by assumption) ?_
            rotate_left
            · (intro w hSw; (try dsimp only at hSw); go_simp; with_reducible rfl)
            try simp only [Act.put, List.setIfInBounds_toArray, List.set_cons_zero, List.set_cons_succ]
            refine wpAnyH_take (i := 11) (v := ?_) rfl (by kernel_rfl) (by kernel_rfl) (by kernel_rfl) (fun _ _ _ h => h) (Or.inl ⟨by kernel_rfl, ?_⟩) (by assumption) ?_
            rotate_left
            · (intro w hSw; (try dsimp only at hSw); go_simp; with_reducible rfl)
            try simp only [Act.put, List.setIfInBounds_toArray, List.set_cons_zero, List.set_cons_succ]
            refine wpAnyH_take (i := 12) (v := ?_) rfl (by kernel_rfl) (by kernel_rfl) (by kernel_rfl) (fun _ _ _ h => h) (Or.inl ⟨by kernel_rfl, ?_⟩) (by assumption) ?_
            rotate_left
            · (intro w hSw; (try dsimp only at hSw); go_simp; with_reducible rfl)
            try simp only [Act.put, List.setIfInBounds_toArray, List.set_cons_zero, List.set_cons_succ]
            refine wpAnyH_take (i := 13) (v := ?_) rfl (by kernel_rfl) (by kernel_rfl) (by kernel_rfl) (fun _ _ _ h => h) (Or.inl ⟨by kernel_rfl, ?_⟩) (by assumption) ?_
            rotate_left
            · (intro w hSw; (try dsimp only at hSw); go_simp; with_reducible rfl)
            try simp only [Act.put, List.setIfInBounds_toArray, List.set_cons_zero, List.set_cons_succ]
            refine wpAnyH_take (i := 14) (v := ?_) rfl (by kernel_rfl) (by kernel_rfl) (by kernel_rfl) (fun _ _ _ h => h) (Or.inl ⟨by kernel_rfl, ?_⟩) (by assumption) ?_
            rotate_left
            · (intro w hSw; (try dsimp only at hSw); go_simp; with_reducible rfl)
            try simp only [Act.put, List.setIfInBounds_toArray, List.set_cons_zero, List.set_cons_succ]
            refine wpAnyH_take (i := 15) (v := ?_) rfl (by kernel_rfl) (by kernel_rfl) (by kernel_rfl) (fun _ _ _ h => h) (Or.inl ⟨by kernel_rfl, ?_⟩) (by assumption) ?_
            rotate_left
            · (intro w hSw; (try dsimp only at hSw); go_simp; with_reducible rfl)
            try simp only [Act.put, List.setIfInBounds_toArray, List.set_cons_zero, List.set_cons_succ]
            refine wpAnyH_take (i := 16) (v := ?_) rfl (by kernel_rfl) (by kernel_rfl) (by kernel_rfl) (fun _ _ _ h => h) (Or.inl ⟨by kernel_rfl, ?_⟩) (by assumption) ?_
            rotate_left
            · (intro w hSw; (try dsimp only at hSw); go_simp; with_reducible rfl)
            try simp only [Act.put, List.setIfInBounds_toArray, List.set_cons_zero, List.set_cons_succ]
            refine wpAnyH_take (i := 17) (v := ?_) rfl (by kernel_rfl) (by kernel_rfl) (by kernel_rfl) (fun _ _ _ h => h) (Or.inl ⟨by kernel_rfl, ?_⟩) (by assumption) ?_
            rotate_left
            · (intro w hSw; (try dsimp only at hSw); go_simp; with_reducible rfl)
            try simp only [Act.put, List.setIfInBounds_toArray, List.set_cons_zero, List.set_cons_succ]
            refine wpAnyH_take (i := 18) (v := ?_) rfl (by kernel_rfl) (by kernel_rfl) (by kernel_rfl) (fun _ _ _ h => h) (Or.inl ⟨by kernel_rfl, ?_⟩) (by assumption) ?_
            rotate_left
            · (intro w hSw; (try dsimp only at hSw); go_simp; with_reducible rfl)
            try simp only [Act.put, List.setIfInBounds_toArray, List.set_cons_zero, List.set_cons_succ]
            refine wpAnyH_take (i := 19) (v := ?_) rfl (by kernel_rfl) (by kernel_rfl) (by kernel_rfl) (fun _ _ _ h => h) (Or.inl ⟨by kernel_rfl, ?_⟩) (by assumption) ?_
            rotate_left
            · (intro w hSw; (try dsimp only at hSw); go_simp; with_reducible rfl)
            try simp only [Act.put, List.setIfInBounds_toArray, List.set_cons_zero, List.set_cons_succ]
            refine wpAnyH_take (i := 20) (v := ?_) rfl (by kernel_rfl) (by kernel_rfl) (by kernel_rfl) (fun _ _ _ h => h) (Or.inl ⟨by kernel_rfl, ?_⟩) (by assumption) ?_
            rotate_left
            · (intro w hSw; (try dsimp only at hSw); go_simp; with_reducible rfl)
            try simp only [Act.put, List.setIfInBounds_toArray, List.set_cons_zero, List.set_cons_succ]
            refine wpAnyH_take (i := 21) (v := ?_) rfl (by kernel_rfl) (by kernel_rfl) (by kernel_rfl) (fun _ _ _ h => h) (Or.inl ⟨by rfl, ?_⟩) (by assumption) ?_
            rotate_left
            · (intro w hSw; (try dsimp only at hSw); go_simp; with_reducible rfl)
            try simp only [Act.put, List.setIfInBounds_toArray, List.set_cons_zero, List.set_cons_succ]
            refine wpAnyH_take (i := 22) (v := ?_) rfl (by kernel_rfl) (by kernel_rfl) (by kernel_rfl) (fun _ _ _ h => h) (Or.inl ⟨by rfl, ?_⟩) (by assumption) ?_
            rotate_left
            · (intro w hSw; (try dsimp only at hSw); go_simp; with_reducible rfl)
            try simp only [Act.put, List.setIfInBounds_toArray, List.set_cons_zero, List.set_cons_succ]
            refine wpAnyH_pass (i := 23) (d := some 33) (by kernel_rfl) (by kernel_rfl) (by kernel_rfl) (by kernel_rfl) (fun _ _ _ _ h => h) (by kernel_rfl) (by assumption) ?_
            try simp only [Act.put, List.setIfInBounds_toArray, List.set_cons_zero, List.set_cons_succ]
            refine wpAnyH_pass (i := 24) (d := some 34) (by kernel_rfl) (by kernel_rfl) (by kernel_rfl) (by kernel_rfl) (fun _ _ _ _ h => h) (by kernel_rfl) (by assumption) ?_
            try simp only [Act.put, List.setIfInBounds_toArray, List.set_cons_zero, List.set_cons_succ]
            refine wpAnyH_pass (i := 25) (d := some 35) (by kernel_rfl) (by kernel_rfl) (by kernel_rfl) (by kernel_rfl) (fun _ _ _ _ h => h) (by kernel_rfl) (by assumption) ?_
            try simp only [Act.put, List.setIfInBounds_toArray, List.set_cons_zero, List.set_cons_succ]
            refine wpAnyH_pass (i := 26) (d := some 36) (by kernel_rfl) (by kernel_rfl) (by kernel_rfl) (by kernel_rfl) (fun _ _ _ _ h => h) (by kernel_rfl) (by assumption) ?_
            try simp only [Act.put, List.setIfInBounds_toArray, List.set_cons_zero, List.set_cons_succ]
            refine wpAnyH_pass (i := 27) (d := some 37) (by kernel_rfl) (by kernel_rfl) (by kernel_rfl) (by kernel_rfl) (fun _ _ _ _ h => h) (by kernel_rfl) (by assumption) ?_
            try simp only [Act.put, List.setIfInBounds_toArray, List.set_cons_zero, List.set_cons_succ]
            refine wpAnyH_pass (i := 28) (d := some 38) (by kernel_rfl) (by kernel_rfl) (by kernel_rfl) (by kernel_rfl) (fun _ _ _ _ h => h) (by kernel_rfl) (by assumption) ?_
            try simp only [Act.put, List.setIfInBounds_toArray, List.set_cons_zero, List.set_cons_succ]
            refine wpAnyH_pass (i := 29) (d := some 39) (by kernel_rfl) (by kernel_rfl) (by kernel_rfl) (by kernel_rfl) (fun _ _ _ _ h => h) (by kernel_rfl) (by assumption) ?_
            try simp only [Act.put, List.setIfInBounds_toArray, List.set_cons_zero, List.set_cons_succ]
            refine wpAnyH_pass (i := 30) (d := some 40) (by kernel_rfl) (by kernel_rfl) (by kernel_rfl) (by kernel_rfl) (fun _ _ _ _ h => h) (by kernel_rfl) (by assumption) ?_
            try simp only [Act.put, List.setIfInBounds_toArray, List.set_cons_zero, List.set_cons_succ]
            refine wpAnyH_pass (i := 31) (d := some 41) (by kernel_rfl) (by kernel_rfl) (by kernel_rfl) (by kernel_rfl) (fun _ _ _ _ h => h) (by kernel_rfl) (by assumption) ?_
            try simp only [Act.put, List.setIfInBounds_toArray, List.set_cons_zero, List.set_cons_succ]
            refine wpAnyH_pass (i := 32) (d := some 42) (by kernel_rfl) (by kernel_rfl) (by kernel_rfl) (by kernel_rfl) (fun _ _ _ _ h => h) (by kernel_rfl) (by assumption) ?_
            try simp only [Act.put, List.setIfInBounds_toArray, List.set_cons_zero, List.set_cons_succ]
            refine wpAnyH_ready (rs := [33]) (by kernel_rfl) (by simp) ?_
            refine AllReadyH.cons rfl (fun K hK => ?_) AllReadyH.nil
            go_simp
            refine hK.out _ _ (by assumption) (fun hHx => ?_)
            clear hHx hK K
            try simp only [Act.put, List.setIfInBounds_toArray, List.set_cons_zero, List.set_cons_succ]
            refine wpAnyH_done (by kernel_rfl) ?_ _
            have hN := hid (hN0.out.drewN 1)
            have hG := hid (grown_drewN hG0.out 1)
            have hN : Hid (NotB wr.drew G N s x (-1)) := hN
            have hG : Hid (w.grownBy wr.drew (some G)) := hG
            clear hY hC1 hC2 hC1i hC2i
            go_wp2_with fail
            generalize wr.drew = W at *
            obtain ⟨n0, n1, n2, n3⟩ := hN.out.cells
            go_region_held3 (fun w' => w'.cell? ⟨G, 0, none⟩ = some (.int .i64 (N : Int)) ∧ w'.cell? ⟨G, 1, none⟩ = some (.string (bs s)) ∧ w'.cell? ⟨G, 2, none⟩ = some (.int .i64 (x : Int)) ∧ w'.cell? ⟨G, 3, none⟩ = some (.int .i64 (-1)))
              (first | exact hN.out.cells | exact (hN.out.drewN 1).cells | exact (NotB.below hN.out Ft).cells)
              (first | (go_at_call 25; refine (tidyChange_any N _ _ lo hi (sub_len s _ _ hs)).mono ?_; rintro e0 wt ⟨rfl, bt⟩; have Ft : Below W.heap.size W wt := (Below.refl _ _).drew.trans (bt.mono (Nat.le_refl _))))
            have hN2 := hid (NotB.below hN.out Ft)
            have hG2 := hid (grown_one hG.out (grown_of_below Ft))
            clear bt Ft n0 n1 n2 n3
            obtain ⟨n0, n1, n2, n3⟩ := hN2.out.cells
            have f3 := Blk.frozen hN2.out 3
            obtain ⟨Wd, hWd⟩ : ∃ Wd, Wd = tidyL N (List.take (x - a) (List.drop a s)) := ⟨_, rfl⟩
            have HWd := hid (show wordL N s a = Wd by unfold wordL; rw [HE.out, hWd])
            rw [← hWd]
            clear hWd
            obtain ⟨nb, hok⟩ : ∃ b, decide (Wd = []) = b := ⟨_, rfl⟩
            have HBW := hid (show badW N s a = (decide (x = a) || nb) by unfold badW; rw [HE.out, HWd.out, ← hok])
            rw [hok]
            clear hok
            cases hea : decide (x = a)
            · have hne : ((x : Int) == (a : Int)) = false := by have := of_decide_eq_false hea; simp; omega
              rw [hea] at HBW
              clear hea
              cases nb
              rotate_left
              · have HR := hid (show badW N s a = true from HBW.out)
                go_wp2
                go_ret
                exact ⟨ret_str HWd.out.symm, by rw [HE.out]; first | exact NotB.bad hN2.out _ | (rw [if_pos HR.out]; exact NotB.bad hN2.out _), grown_set hG2.out⟩
              · have HR := hid (show ¬ badW N s a = true by rw [HBW.out]; simp)
                go_wp2
                go_ret
                exact ⟨ret_str HWd.out.symm, by rw [HE.out]; first | exact hN2.out | (rw [if_neg HR.out]; exact hN2.out), hG2.out⟩
            · have hne : ((x : Int) == (a : Int)) = true := by have := of_decide_eq_true hea; simp; omega
              rw [hea] at HBW
              have HR := hid (show badW N s a = true by rw [HBW.out]; rfl)
              clear hea
              go_wp2
              go_ret
              exact ⟨ret_str HWd.out.symm, by rw [HE.out]; first | exact NotB.bad hN2.out _ | (rw [if_pos HR.out]; exact NotB.bad hN2.out _), grown_set hG2.out⟩
          · obtain ⟨m0, m1, m2, m3⟩ := hN0.out.cells
            have f2 := Blk.frozen hN0.out 2
            have f2' := Blk.frozen (hN0.out.drewN 1) 2
            cases C2
            · have HX := show x = e by rw [← hd.out, HST.out, HDG.out]; rfl
              subst HX
              clear hd HST HDG
              go_wp2_with fail
              go_region_held3 (fun w' => w'.cell? ⟨G, 0, none⟩ = some (.int .i64 (N : Int)) ∧ w'.cell? ⟨G, 1, none⟩ = some (.string (bs s)) ∧ w'.cell? ⟨G, 2, none⟩ = some (.int .i64 (x : Int)) ∧ w'.cell? ⟨G, 3, none⟩ = some (.int .i64 (-1)))
                (first | exact hN0.out.cells | exact (hN0.out.drewN 1).cells)
                (fail)
              have hN : Hid (NotB wr.drew G N s x (-1)) := hid (hN0.out.drewN 1)
              have hG : Hid (w.grownBy wr.drew (some G)) := hid (grown_drewN hG0.out 1)
              clear hY hC1 hC2 hC1i hC2i m0 m1 m2 m3 f2 f2'
              go_wp2_with fail
              generalize wr.drew = W at *
              obtain ⟨n0, n1, n2, n3⟩ := hN.out.cells
              go_region_held3 (fun w' => w'.cell? ⟨G, 0, none⟩ = some (.int .i64 (N : Int)) ∧ w'.cell? ⟨G, 1, none⟩ = some (.string (bs s)) ∧ w'.cell? ⟨G, 2, none⟩ = some (.int .i64 (x : Int)) ∧ w'.cell? ⟨G, 3, none⟩ = some (.int .i64 (-1)))
                (first | exact hN.out.cells | exact (hN.out.drewN 1).cells | exact (NotB.below hN.out Ft).cells)
                (first | (go_at_call 25; refine (tidyChange_any N _ _ lo hi (sub_len s _ _ hs)).mono ?_; rintro e0 wt ⟨rfl, bt⟩; have Ft : Below W.heap.size W wt := (Below.refl _ _).drew.trans (bt.mono (Nat.le_refl _))))
              have hN2 := hid (NotB.below hN.out Ft)
              have hG2 := hid (grown_one hG.out (grown_of_below Ft))
              clear bt Ft n0 n1 n2 n3
              obtain ⟨n0, n1, n2, n3⟩ := hN2.out.cells
              have f3 := Blk.frozen hN2.out 3
              obtain ⟨Wd, hWd⟩ : ∃ Wd, Wd = tidyL N (List.take (x - a) (List.drop a s)) := ⟨_, rfl⟩
              have HWd := hid (show wordL N s a = Wd by unfold wordL; rw [HE.out, hWd])
              rw [← hWd]
              clear hWd
              obtain ⟨nb, hok⟩ : ∃ b, decide (Wd = []) = b := ⟨_, rfl⟩
              have HBW := hid (show badW N s a = (decide (x = a) || nb) by unfold badW; rw [HE.out, HWd.out, ← hok])
              rw [hok]
              clear hok
              cases hea : decide (x = a)
              · have hne : ((x : Int) == (a : Int)) = false := by have := of_decide_eq_false hea; simp; omega
                rw [hea] at HBW
                clear hea
                cases nb
                rotate_left
                · have HR := hid (show badW N s a = true from HBW.out)
                  go_wp2
                  go_ret
                  exact ⟨ret_str HWd.out.symm, by rw [HE.out]; first | exact NotB.bad hN2.out _ | (rw [if_pos HR.out]; exact NotB.bad hN2.out _), grown_set hG2.out⟩
                · have HR := hid (show ¬ badW N s a = true by rw [HBW.out]; simp)
                  go_wp2
                  go_ret
                  exact ⟨ret_str HWd.out.symm, by rw [HE.out]; first | exact hN2.out | (rw [if_neg HR.out]; exact hN2.out), hG2.out⟩
              · have hne : ((x : Int) == (a : Int)) = true := by have := of_decide_eq_true hea; simp; omega
                rw [hea] at HBW
                have HR := hid (show badW N s a = true by rw [HBW.out]; rfl)
                clear hea
                go_wp2
                go_ret
                exact ⟨ret_str HWd.out.symm, by rw [HE.out]; first | exact NotB.bad hN2.out _ | (rw [if_pos HR.out]; exact NotB.bad hN2.out _), grown_set hG2.out⟩
            · have HD2 := hid (show dgEnd s (s.length - (x + 1)) (x + 1) = e by rw [← hd.out, HST.out, HDG.out]; rfl)
              have hwx := IntWalk.i64_in ((x : Int) + 1) (by omega)
              clear hd HST HDG
              go_wp2_with fail
              go_region_held3 (fun w' => w'.cell? ⟨G, 0, none⟩ = some (.int .i64 (N : Int)) ∧ w'.cell? ⟨G, 1, none⟩ = some (.string (bs s)) ∧ w'.cell? ⟨G, 2, none⟩ = some (.int .i64 (x : Int)) ∧ w'.cell? ⟨G, 3, none⟩ = some (.int .i64 (-1)))
                (first | exact hN0.out.cells | exact (hN0.out.drewN 1).cells)
                (fail)
              obtain ⟨m0', m1', m2', m3'⟩ := (hN0.out.drewN 1).cells
              go_wp2
              go_roundg (s.length - (x + 1))
              case measure => omega
              case rel => exact ⟨x + 1, by omega, by omega, rfl, HD2, by have h := (show NotB ((wr.setCell ⟨G, 2, none⟩ (.int .i64 ((x + 1 : Nat) : Int))).drew) G N s (x + 1) (-1) from (NotB.at_ hN0.out (x + 1)).drewN 1); simpa using h, by have h := (show w.grownBy ((wr.setCell ⟨G, 2, none⟩ (.int .i64 ((x : Int) + 1))).drew) (some G) from grown_drewN (grown_set (o := 2) (v := .int .i64 ((x : Int) + 1)) hG0.out) 1); exact h⟩
        · have HX : x = e := by rw [← hd.out, show s.length - x = 0 by omega, dgEnd]
          subst HX
          have x2 : decide (x < s.length) = false := decide_eq_false (by omega)
          have x3 : decide ((x : Int) < (s.length : Int)) = false := decide_eq_false (by omega)
          clear hd
          go_wp2_with fail
          refine wp_region_held_drew (S := fun w' => w'.cell? ⟨G, 0, none⟩ = some (.int .i64 (N : Int)) ∧ w'.cell? ⟨G, 1, none⟩ = some (.string (bs s)) ∧ w'.cell? ⟨G, 2, none⟩ = some (.int .i64 (x : Int)) ∧ w'.cell? ⟨G, 3, none⟩ = some (.int .i64 (-1))) (by kernel_rfl) ((hN0.out.drewN 1).cells) (fun hHeld => ?_)
          refine wpAnyH_take (i := 0) (v := ?_) rfl (by kernel_rfl) (by kernel_rfl) (by kernel_rfl) (fun _ _ _ h => h) (Or.inl ⟨by rfl, ?_⟩) (by assumption) ?_
          rotate_left
          · (intro w hSw; (try dsimp only at hSw); go_simp; with_reducible rfl)
          try simp only [Act.put, List.setIfInBounds_toArray, List.set_cons_zero, List.set_cons_succ]
          refine wpAnyH_take (i := 1) (v := ?_) rfl (by kernel_rfl) (by kernel_rfl) (by kernel_rfl) (fun _ _ _ h => h) (Or.inl ⟨by rfl, ?_⟩) (by assumption) ?_
          rotate_left
          · (intro w hSw; (try dsimp only at hSw); go_simp; with_reducible rfl)
          try simp only [Act.put, List.setIfInBounds_toArray, List.set_cons_zero, List.set_cons_succ]
          refine wpAnyH_take (i := 2) (v := ?_) rfl (by kernel_rfl) (by kernel_rfl) (by kernel_rfl) (fun _ _ _ h => h) (Or.inl ⟨by rfl, ?_⟩) (by assumption) ?_
          rotate_left
          · (intro w hSw; (try dsimp only at hSw); go_simp; with_reducible rfl)
          try simp only [Act.put, List.setIfInBounds_toArray, List.set_cons_zero, List.set_cons_succ]
          refine wpAnyH_take (i := 3) (v := ?_) rfl (by kernel_rfl) (by kernel_rfl) (by kernel_rfl) (fun _ _ _ h => h) (Or.inl ⟨by rfl, ?_⟩) (by assumption) ?_
          rotate_left
          · (intro w hSw; (try dsimp only at hSw); go_simp; with_reducible rfl)
          try simp only [Act.put, List.setIfInBounds_toArray, List.set_cons_zero, List.set_cons_succ]
          refine wpAnyH_take (i := 4) (v := ?_) rfl (by kernel_rfl) (by kernel_rfl) (by kernel_rfl) (fun _ _ _ h => h) (Or.inl ⟨by rfl, ?_⟩) (by assumption) ?_
          rotate_left
          · (intro w hSw; (try dsimp only at hSw); go_simp; with_reducible rfl)
          try simp only [Act.put, List.setIfInBounds_toArray, List.set_cons_zero, List.set_cons_succ]
          refine wpAnyH_take (i := 5) (v := ?_) rfl (by kernel_rfl) (by kernel_rfl) (by kernel_rfl) (fun _ _ _ h => h) (Or.inl ⟨by rfl, ?_⟩) (by assumption) ?_
          rotate_left
          · (intro w hSw; (try dsimp only at hSw); go_simp; with_reducible rfl)
          try simp only [Act.put, List.setIfInBounds_toArray, List.set_cons_zero, List.set_cons_succ]
          refine wpAnyH_take (i := 6) (v := ?_) rfl (by kernel_rfl) (by kernel_rfl) (by kernel_rfl) (fun _ _ _ h => h) (Or.inl ⟨by rfl, ?_⟩) (by assumption) ?_
          rotate_left
          · (intro w hSw; (try dsimp only at hSw); go_simp; with_reducible rfl)
          try simp only [Act.put, List.setIfInBounds_toArray, List.set_cons_zero, List.set_cons_succ]
          refine wpAnyH_take (i := 7) (v := ?_) rfl (by kernel_rfl) (by kernel_rfl) (by kernel_rfl) (fun _ _ _ h => h) (Or.inl ⟨by rfl, ?_⟩) (by assumption) ?_
          rotate_left
          · (intro w hSw; (try dsimp only at hSw); go_simp; with_reducible rfl)
          try simp only [Act.put, List.setIfInBounds_toArray, List.set_cons_zero, List.set_cons_succ]
          refine wpAnyH_take (i := 8) (v := ?_) rfl (by kernel_rfl) (by kernel_rfl) (by kernel_rfl) (fun _ _ _ h => h) (Or.inl ⟨by rfl, ?_⟩) (by assumption) ?_
          rotate_left
          · (intro w hSw; (try dsimp only at hSw); go_simp; with_reducible rfl)
          try simp only [Act.put, List.setIfInBounds_toArray, List.set_cons_zero, List.set_cons_succ]
          refine wpAnyH_take (i := 9) (v := ?_) rfl (by kernel_rfl) (by kernel_rfl) (by kernel_rfl) (fun _ _ _ h => h) (Or.inl ⟨by rfl, ?_⟩) (by assumption) ?_
          rotate_left
          · (intro w hSw; (try dsimp only at hSw); go_simp; with_reducible rfl)
          try simp only [Act.put, List.setIfInBounds_toArray, List.set_cons_zero, List.set_cons_succ]
          refine wpAnyH_take (i := 10) (v := ?_) rfl (by kernel_rfl) (by kernel_rfl) (by kernel_rfl) (fun _ _ _ h => h) (Or.inl ⟨by rfl, ?_⟩) (by assumption) ?_
          rotate_left
          · (intro w hSw; (try dsimp only at hSw); go_simp; with_reducible rfl)
          try simp only [Act.put, List.setIfInBounds_toArray, List.set_cons_zero, List.set_cons_succ]
          refine wpAnyH_pass (i := 11) (d := some 21) (by kernel_rfl) (by kernel_rfl) (by kernel_rfl) (by kernel_rfl) (fun _ _ _ _ h => h) (by kernel_rfl) (by assumption) ?_
          try simp only [Act.put, List.setIfInBounds_toArray, List.set_cons_zero, List.set_cons_succ]
          refine wpAnyH_pass (i := 12) (d := some 22) (by kernel_rfl) (by kernel_rfl) (by kernel_rfl) (by kernel_rfl) (fun _ _ _ _ h => h) (by kernel_rfl) (by assumption) ?_
          try simp only [Act.put, List.setIfInBounds_toArray, List.set_cons_zero, List.set_cons_succ]
          refine wpAnyH_pass (i := 13) (d := some 23) (by kernel_rfl) (by kernel_rfl) (by kernel_rfl) (by kernel_rfl) (fun _ _ _ _ h => h) (by kernel_rfl) (by assumption) ?_
          try simp only [Act.put, List.setIfInBounds_toArray, List.set_cons_zero, List.set_cons_succ]
          refine wpAnyH_pass (i := 14) (d := some 24) (by kernel_rfl) (by kernel_rfl) (by kernel_rfl) (by kernel_rfl) (fun _ _ _ _ h => h) (by kernel_rfl) (by assumption) ?_
          try simp only [Act.put, List.setIfInBounds_toArray, List.set_cons_zero, List.set_cons_succ]
          refine wpAnyH_pass (i := 15) (d := some 25) (by kernel_rfl) (by kernel_rfl) (by kernel_rfl) (by kernel_rfl) (fun _ _ _ _ h => h) (by kernel_rfl) (by assumption) ?_
          try simp only [Act.put, List.setIfInBounds_toArray, List.set_cons_zero, List.set_cons_succ]
          refine wpAnyH_pass (i := 16) (d := some 26) (by kernel_rfl) (by kernel_rfl) (by kernel_rfl) (by kernel_rfl) (fun _ _ _ _ h => h) (by kernel_rfl) (by assumption) ?_
          try simp only [Act.put, List.setIfInBounds_toArray, List.set_cons_zero, List.set_cons_succ]
          refine wpAnyH_pass (i := 17) (d := some 27) (by kernel_rfl) (by kernel_rfl) (by kernel_rfl) (by kernel_rfl) (fun _ _ _ _ h => h) (by kernel_rfl) (by assumption) ?_
          try simp only [Act.put, List.setIfInBounds_toArray, List.set_cons_zero, List.set_cons_succ]
          refine wpAnyH_pass (i := 18) (d := some 28) (by kernel_rfl) (by kernel_rfl) (by kernel_rfl) (by kernel_rfl) (fun _ _ _ _ h => h) (by kernel_rfl) (by assumption) ?_
          try simp only [Act.put, List.setIfInBounds_toArray, List.set_cons_zero, List.set_cons_succ]
          refine wpAnyH_pass (i := 19) (d := some 29) (by kernel_rfl) (by kernel_rfl) (by kernel_rfl) (by kernel_rfl) (fun _ _ _ _ h => h) (by kernel_rfl) (by assumption) ?_
          try simp only [Act.put, List.setIfInBounds_toArray, List.set_cons_zero, List.set_cons_succ]
          refine wpAnyH_pass (i := 20) (d := some 30) (by kernel_rfl) (by kernel_rfl) (by kernel_rfl) (by kernel_rfl) (fun _ _ _ _ h => h) (by kernel_rfl) (by assumption) ?_
          try simp only [Act.put, List.setIfInBounds_toArray, List.set_cons_zero, List.set_cons_succ]
          refine wpAnyH_take (i := 21) (v := ?_) rfl (by kernel_rfl) (by kernel_rfl) (by kernel_rfl) (fun _ _ _ h => h) (Or.inl ⟨by rfl, ?_⟩) (by assumption) ?_
          rotate_left
          · (intro w hSw; (try dsimp only at hSw); go_simp; with_reducible rfl)
          try simp only [Act.put, List.setIfInBounds_toArray, List.set_cons_zero, List.set_cons_succ]
          refine wpAnyH_take (i := 22) (v := ?_) rfl (by kernel_rfl) (by kernel_rfl) (by kernel_rfl) (fun _ _ _ h => h) (Or.inl ⟨by rfl, ?_⟩) (by assumption) ?_
          rotate_left
          · (intro w hSw; (try dsimp only at hSw); go_simp; with_reducible rfl)
          try simp only [Act.put, List.setIfInBounds_toArray, List.set_cons_zero, List.set_cons_succ]
          refine wpAnyH_pass (i := 23) (d := some 33) (by kernel_rfl) (by kernel_rfl) (by kernel_rfl) (by kernel_rfl) (fun _ _ _ _ h => h) (by kernel_rfl) (by assumption) ?_
          try simp only [Act.put, List.setIfInBounds_toArray, List.set_cons_zero, List.set_cons_succ]
          refine wpAnyH_pass (i := 24) (d := some 34) (by kernel_rfl) (by kernel_rfl) (by kernel_rfl) (by kernel_rfl) (fun _ _ _ _ h => h) (by kernel_rfl) (by assumption) ?_
          try simp only [Act.put, List.setIfInBounds_toArray, List.set_cons_zero, List.set_cons_succ]
          refine wpAnyH_pass (i := 25) (d := some 35) (by kernel_rfl) (by kernel_rfl) (by kernel_rfl) (by kernel_rfl) (fun _ _ _ _ h => h) (by kernel_rfl) (by assumption) ?_
          try simp only [Act.put, List.setIfInBounds_toArray, List.set_cons_zero, List.set_cons_succ]
          refine wpAnyH_pass (i := 26) (d := some 36) (by kernel_rfl) (by kernel_rfl) (by kernel_rfl) (by kernel_rfl) (fun _ _ _ _ h => h) (by kernel_rfl) (by assumption) ?_
          try simp only [Act.put, List.setIfInBounds_toArray, List.set_cons_zero, List.set_cons_succ]
          refine wpAnyH_pass (i := 27) (d := some 37) (by kernel_rfl) (by kernel_rfl) (by kernel_rfl) (by kernel_rfl) (fun _ _ _ _ h => h) (by kernel_rfl) (by assumption) ?_
          try simp only [Act.put, List.setIfInBounds_toArray, List.set_cons_zero, List.set_cons_succ]
          refine wpAnyH_pass (i := 28) (d := some 38) (by kernel_rfl) (by kernel_rfl) (by kernel_rfl) (by kernel_rfl) (fun _ _ _ _ h => h) (by kernel_rfl) (by assumption) ?_
          try simp only [Act.put, List.setIfInBounds_toArray, List.set_cons_zero, List.set_cons_succ]
          refine wpAnyH_pass (i := 29) (d := some 39) (by kernel_rfl) (by kernel_rfl) (by kernel_rfl) (by kernel_rfl) (fun _ _ _ _ h => h) (by kernel_rfl) (by assumption) ?_
          try simp only [Act.put, List.setIfInBounds_toArray, List.set_cons_zero, List.set_cons_succ]
          refine wpAnyH_pass (i := 30) (d := some 40) (by kernel_rfl) (by kernel_rfl) (by kernel_rfl) (by kernel_rfl) (fun _ _ _ _ h => h) (by kernel_rfl) (by assumption) ?_
          try simp only [Act.put, List.setIfInBounds_toArray, List.set_cons_zero, List.set_cons_succ]
          refine wpAnyH_pass (i := 31) (d := some 41) (by kernel_rfl) (by kernel_rfl) (by kernel_rfl) (by kernel_rfl) (fun _ _ _ _ h => h) (by kernel_rfl) (by assumption) ?_
          try simp only [Act.put, List.setIfInBounds_toArray, List.set_cons_zero, List.set_cons_succ]
          refine wpAnyH_pass (i := 32) (d := some 42) (by kernel_rfl) (by kernel_rfl) (by kernel_rfl) (by kernel_rfl) (fun _ _ _ _ h => h) (by kernel_rfl) (by assumption) ?_
          try simp only [Act.put, List.setIfInBounds_toArray, List.set_cons_zero, List.set_cons_succ]
          refine wpAnyH_ready (rs := [33]) (by kernel_rfl) (by simp) ?_
          refine AllReadyH.cons rfl (fun K hK => ?_) AllReadyH.nil
          go_simp
          refine hK.out _ _ (by assumption) (fun hHx => ?_)
          clear hHx hK K
          try simp only [Act.put, List.setIfInBounds_toArray, List.set_cons_zero, List.set_cons_succ]
          refine wpAnyH_done (by kernel_rfl) ?_ _
          have hN : Hid (NotB wr.drew G N s x (-1)) := hid (hN0.out.drewN 1)
          have hG : Hid (w.grownBy wr.drew (some G)) := hid (grown_drewN hG0.out 1)
          go_wp2_with fail
          generalize wr.drew = W at *
          obtain ⟨n0, n1, n2, n3⟩ := hN.out.cells
          go_region_held3 (fun w' => w'.cell? ⟨G, 0, none⟩ = some (.int .i64 (N : Int)) ∧ w'.cell? ⟨G, 1, none⟩ = some (.string (bs s)) ∧ w'.cell? ⟨G, 2, none⟩ = some (.int .i64 (x : Int)) ∧ w'.cell? ⟨G, 3, none⟩ = some (.int .i64 (-1)))
            (first | exact hN.out.cells | exact (hN.out.drewN 1).cells | exact (NotB.below hN.out Ft).cells)
            (first | (go_at_call 25; refine (tidyChange_any N _ _ lo hi (sub_len s _ _ hs)).mono ?_; rintro e0 wt ⟨rfl, bt⟩; have Ft : Below W.heap.size W wt := (Below.refl _ _).drew.trans (bt.mono (Nat.le_refl _))))
          have hN2 := hid (NotB.below hN.out Ft)
          have hG2 := hid (grown_one hG.out (grown_of_below Ft))
          clear bt Ft n0 n1 n2 n3
          obtain ⟨n0, n1, n2, n3⟩ := hN2.out.cells
          have f3 := Blk.frozen hN2.out 3
          obtain ⟨Wd, hWd⟩ : ∃ Wd, Wd = tidyL N (List.take (x - a) (List.drop a s)) := ⟨_, rfl⟩
          have HWd := hid (show wordL N s a = Wd by unfold wordL; rw [HE.out, hWd])
          rw [← hWd]
          clear hWd
          obtain ⟨nb, hok⟩ : ∃ b, decide (Wd = []) = b := ⟨_, rfl⟩
          have HBW := hid (show badW N s a = (decide (x = a) || nb) by unfold badW; rw [HE.out, HWd.out, ← hok])
          rw [hok]
          clear hok
          cases hea : decide (x = a)
          · have hne : ((x : Int) == (a : Int)) = false := by have := of_decide_eq_false hea; simp; omega
            rw [hea] at HBW
            clear hea
            cases nb
            rotate_left
            · have HR := hid (show badW N s a = true from HBW.out)
              go_wp2
              go_ret
              exact ⟨ret_str HWd.out.symm, by rw [HE.out]; first | exact NotB.bad hN2.out _ | (rw [if_pos HR.out]; exact NotB.bad hN2.out _), grown_set hG2.out⟩
            · have HR := hid (show ¬ badW N s a = true by rw [HBW.out]; simp)
              go_wp2
              go_ret
              exact ⟨ret_str HWd.out.symm, by rw [HE.out]; first | exact hN2.out | (rw [if_neg HR.out]; exact hN2.out), hG2.out⟩
          · have hne : ((x : Int) == (a : Int)) = true := by have := of_decide_eq_true hea; simp; omega
            rw [hea] at HBW
            have HR := hid (show badW N s a = true by rw [HBW.out]; rfl)
            clear hea
            go_wp2
            go_ret
            exact ⟨ret_str HWd.out.symm, by rw [HE.out]; first | exact NotB.bad hN2.out _ | (rw [if_pos HR.out]; exact NotB.bad hN2.out _), grown_set hG2.out⟩
  · rw [he] at GE
    have HE0 := ends_wEnd ha he
    obtain ⟨e, hee⟩ : ∃ e, e = a := ⟨_, rfl⟩
    have HE := hid (show wEnd s a = e by rw [HE0, hee])
    have k1 : (a : Int) ≤ (e : Int) := by omega
    have k2 : (e : Int) ≤ (s.length : Int) := by omega
    have hN0 : NotB w G N s e (-1) := by rw [hee]; exact HB.out
    have HN0 := hid hN0
    clear he HE0 hN0
    go_enter Try.func21, Try.ntmps21
    go_wp2_with fail
    refine GE.out.mono ?_
    rintro e0 w1 ⟨rfl, rfl⟩
    have hN := hid (HN0.out.drewN 1)
    have hG := hid (grown_drewN (grown_refl w (some G)) 1)
    have hN : Hid (NotB w.drew G N s e (-1)) := hN
    have hG : Hid (w.grownBy w.drew (some G)) := hG
    clear c0 c1 c2 c3 hee
    go_wp2_with fail
    generalize w.drew = W at *
    obtain ⟨n0, n1, n2, n3⟩ := hN.out.cells
    go_region_held3 (fun w' => w'.cell? ⟨G, 0, none⟩ = some (.int .i64 (N : Int)) ∧ w'.cell? ⟨G, 1, none⟩ = some (.string (bs s)) ∧ w'.cell? ⟨G, 2, none⟩ = some (.int .i64 (e : Int)) ∧ w'.cell? ⟨G, 3, none⟩ = some (.int .i64 (-1)))
      (first | exact hN.out.cells | exact (hN.out.drewN 1).cells | exact (NotB.below hN.out Ft).cells)
      (first | (go_at_call 25; refine (tidyChange_any N _ _ lo hi (sub_len s _ _ hs)).mono ?_; rintro e0 wt ⟨rfl, bt⟩; have Ft : Below W.heap.size W wt := (Below.refl _ _).drew.trans (bt.mono (Nat.le_refl _))))
    have hN2 := hid (NotB.below hN.out Ft)
    have hG2 := hid (grown_one hG.out (grown_of_below Ft))
    clear bt Ft n0 n1 n2 n3
    obtain ⟨n0, n1, n2, n3⟩ := hN2.out.cells
    have f3 := Blk.frozen hN2.out 3
    obtain ⟨Wd, hWd⟩ : ∃ Wd, Wd = tidyL N (List.take (e - a) (List.drop a s)) := ⟨_, rfl⟩
    have HWd := hid (show wordL N s a = Wd by unfold wordL; rw [HE.out, hWd])
    rw [← hWd]
    clear hWd
    obtain ⟨nb, hok⟩ : ∃ b, decide (Wd = []) = b := ⟨_, rfl⟩
    have HBW := hid (show badW N s a = (decide (e = a) || nb) by unfold badW; rw [HE.out, HWd.out, ← hok])
    rw [hok]
    clear hok
    cases hea : decide (e = a)
    · have hne : ((e : Int) == (a : Int)) = false := by have := of_decide_eq_false hea; simp; omega
      rw [hea] at HBW
      clear hea
      cases nb
      rotate_left
      · have HR := hid (show badW N s a = true from HBW.out)
        go_wp2
        go_ret
        exact ⟨ret_str HWd.out.symm, by rw [HE.out]; first | exact NotB.bad hN2.out _ | (rw [if_pos HR.out]; exact NotB.bad hN2.out _), grown_set hG2.out⟩
      · have HR := hid (show ¬ badW N s a = true by rw [HBW.out]; simp)
        go_wp2
        go_ret
        exact ⟨ret_str HWd.out.symm, by rw [HE.out]; first | exact hN2.out | (rw [if_neg HR.out]; exact hN2.out), hG2.out⟩
    · have hne : ((e : Int) == (a : Int)) = true := by have := of_decide_eq_true hea; simp; omega
      rw [hea] at HBW
      have HR := hid (show badW N s a = true by rw [HBW.out]; rfl)
      clear hea
      go_wp2
      go_ret
      exact ⟨ret_str HWd.out.symm, by rw [HE.out]; first | exact NotB.bad hN2.out _ | (rw [if_pos HR.out]; exact NotB.bad hN2.out _), grown_set hG2.out⟩
end Go.Proofs.Ytamcopnghjoboaa
