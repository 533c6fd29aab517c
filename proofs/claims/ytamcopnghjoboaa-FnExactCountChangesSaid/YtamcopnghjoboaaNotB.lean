/- Contract of the reference's reader of place notation: a block. No conditions beyond those stated. -/
import Derived.Test.YtamcopnghjoboaaNotW
set_option linter.unusedVariables false
set_option linter.unusedSimpArgs false
set_option maxRecDepth 100000
namespace Go.Proofs.Ytamcopnghjoboaa
open Go.RowKit

theorem WrdB.cells4 {w : World} {G N : Nat} {s : List UInt8} {a : Nat} {v : Value} {b : Int} (h : WrdB w G N s a v b) : w.cell? ⟨G, 0, none⟩ = some (.int .i64 (N : Int)) ∧ w.cell? ⟨G, 1, none⟩ = some (.string (bs s)) ∧ w.cell? ⟨G, 2, none⟩ = some (.int .i64 (a : Int)) ∧ w.cell? ⟨G, 4, none⟩ = some (.int .i64 b) := ⟨h.cell 0, h.cell 1, h.cell 2, h.cell 4⟩
/-- What a block's reading leaves in the reference's reader: the changes, and where it stands; or where a change is wrong. -/
def SBlockR (w : World) (G N : Nat) (s : List UInt8) (R : List (List UInt8) × Nat × Option Nat) (w' : World) : Prop := ∃ v', w.grownBy w' (some G) ∧ (R.2.2 = none → WrdB w' G N s R.2.1 v' (-1) ∧ w'.ownsRow w.heap.size 9 1 v' R.1.length (strV R.1)) ∧ (∀ p, R.2.2 = some p → ∃ x, WrdB w' G N s x v' (p : Int))
theorem SBlockR.bad {w w' : World} {G N : Nat} {s : List UInt8} {R : List (List UInt8) × Nat × Option Nat} {v' : Value} {x p : Nat} {l : List (List UInt8)} {q : Nat} (hR : R = (l, q, some p)) (hn : WrdB w' G N s x v' (p : Int)) (hg : w.grownBy w' (some G)) : SBlockR w G N s R w' := by
  subst hR
  exact ⟨v', hg, fun h => (by cases h), fun p' h => (by cases h; exact ⟨x, hn⟩)⟩
theorem SBlockR.good {w w' : World} {G N : Nat} {s : List UInt8} {R : List (List UInt8) × Nat × Option Nat} {v' : Value} {x n : Nat} {l : List (List UInt8)} (hR : R = (l, x, none)) (hl : n = l.length) (hn : WrdB w' G N s x v' (-1)) (ho : w'.ownsRow w.heap.size 9 1 v' n (strV l)) (hg : w.grownBy w' (some G)) : SBlockR w G N s R w' := by
  subst hR
  subst hl
  exact ⟨v', hg, fun _ => ⟨hn, ho⟩, fun p' h => (by cases h)⟩
theorem byte_four (Y : UInt8) (k : Nat) (K : Int) (hK : K = (k : Int)) (hk : k < 256) (B : Bool) (h : decide (Y = UInt8.ofNat k) = B) : ((Y.toNat : Int) == K) = B ∧ (Y.toNat == k) = B ∧ ((Y.toNat : Int) != K) = (!B) ∧ (Y.toNat != k) = (!B) := by
  subst hK
  have h1 : (Y.toNat == k) = B := by
    rw [← h, Bool.eq_iff_iff]
    simp only [beq_iff_eq, decide_eq_true_eq]
    constructor
    · intro e; apply UInt8.toNat_inj.1; rw [e, UInt8.toNat_ofNat']; omega
    · intro e; rw [e, UInt8.toNat_ofNat']; omega
  have h2 : ((Y.toNat : Int) == (k : Int)) = B := by rw [← h1, Bool.eq_iff_iff]; simp; omega
  exact ⟨h2, h1, by simp [bne, h2], by simp [bne, h1]⟩
set_option maxHeartbeats 16000000 in
theorem specBlock_any (G N : Nat) (s : List UInt8) (a : Nat) (w : World) (lo : 3 ≤ N) (hi : N ≤ 8) (h : WrdB w G N s a (.slice none 0 0) (-1)) (ha : a ≤ s.length) (hs : s.length ≤ 1000) :
    Calls Try.prog 13 #[.pointer (some ⟨G, 0, none⟩)] w fun e w' => e = .returned (.tuple #[]) ∧ SBlockR w G N s (blockL N s (s.length + 1) a) w' := by
  have HB := hid h
  have hGw := hid (Blk.lt h)
  have GW := hid (fun (b : Nat) (v : Value) (l : List (List UInt8)) (w0 : World) (h : WrdB w0 G N s b v (-1)) (hb : b ≤ s.length) (ho : w0.ownsRow w.heap.size 9 1 v l.length (strV l)) (hg : w.grownBy w0 (some G)) (hl : l.length ≤ 2000) => word_any G N s b v l w w0 lo hi h hb hs ho hGw.out hg hl)
  obtain ⟨R, hR⟩ : ∃ R, blockL N s (s.length + 1) a = R := ⟨_, rfl⟩
  rw [hR]
  have HR0 := hid hR
  clear h hR
  go_enter Try.func13, Try.ntmps13
  go_wp2_with fail
  refine (GW.out a (.slice none 0 0) [] w HB.out ha (World.ownsRow_nil _ _ _ _) (grown_refl w (some G)) (by simp)).mono ?_
  rintro e0 w1 ⟨rfl, hw1⟩
  have HW1 := hid hw1
  clear hw1
  go_wp2_with fail
  go_loopg [] (s.length + 1) (fun gk wr => ∃ (y : Nat) (acc : List (List UInt8)), y ≤ s.length ∧ s.length + 1 - y ≤ gk ∧ acc.length + gk ≤ s.length + 1 ∧ Hid (R = (acc ++ (blockL N s gk y).1, (blockL N s gk y).2)) ∧ Hid (WordR w G N s y acc wr))
  case atStart => exact ⟨a, [], ha, by omega, by simp, hid (by rw [← HR0.out]; simp), HW1⟩
  case round =>
    obtain ⟨y, acc, hy, hgk, hacc, hr, hW⟩ := hrel
    obtain ⟨f, rfl⟩ : ∃ f, gk = f + 1 := ⟨gk - 1, by omega⟩
    obtain ⟨v', hn, ho, hg⟩ := hW.out
    have HG := hid hg
    have HA := hid hacc
    have HK := hid hgk
    have HX0 := hid hy
    have HEl := hid (wEnd_le s y hy)
    clear hg hW hacc hgk
    cases hbad : badW N s y
    rotate_left
    · have HRB := hid (show R = (acc ++ [], y, some y) by rw [hr.out, block_bad hbad])
      rw [if_pos hbad] at hn
      have HN := hid hn
      have k0 : (0 : Int) ≤ (y : Int) := by omega
      have k1 : decide ((y : Int) < 0) = false := decide_eq_false (by omega)
      clear hn ho hbad hr
      go_wp2_with fail
      refine wp_region_held_drew (S := fun w' => w'.cell? ⟨G, 0, none⟩ = some (.int .i64 (N : Int)) ∧ w'.cell? ⟨G, 1, none⟩ = some (.string (bs s)) ∧ w'.cell? ⟨G, 2, none⟩ = some (.int .i64 ((wEnd s y : Nat) : Int)) ∧ w'.cell? ⟨G, 4, none⟩ = some (.int .i64 (y : Int))) (by kernel_rfl) ((HN.out.drewN 1).cells4) (fun hHeld => ?_)
      refine wpAnyH_take (i := 0) (v := ?_) rfl (by kernel_rfl) (by kernel_rfl) (by kernel_rfl) (fun _ _ _ h => h) (Or.inl ⟨by rfl, ?_⟩) (by assumption) ?_
      rotate_left
      · (intro w hSw; (try dsimp only at hSw); go_simp; with_reducible rfl)
      try simp only [Act.put, List.setIfInBounds_toArray, List.set_cons_zero, List.set_cons_succ]
      refine wpAnyH_take (i := 1) (v := ?_) rfl (by kernel_rfl) (by kernel_rfl) (by kernel_rfl) (fun _ _ _ h => h) (Or.inl ⟨by rfl, ?_⟩) (by assumption) ?_
      rotate_left
      · (intro w hSw; (try dsimp only at hSw); go_simp; with_reducible rfl)
      try simp only [Act.put, List.setIfInBounds_toArray, List.set_cons_zero, List.set_cons_succ]
      refine wpAnyH_take (i := 2) (v := ?_) rfl (by kernel_rfl) (by kernel_rfl) (by kernel_rfl) (fun _ _ _ h => h) (Or.inl ⟨by rfl, ?_⟩) (by assumption) ?_
      rotate_left
      · (intro w hSw; (try dsimp only at hSw); go_simp; with_reducible rfl)
      try simp only [Act.put, List.setIfInBounds_toArray, List.set_cons_zero, List.set_cons_succ]
      refine wpAnyH_take (i := 3) (v := ?_) rfl (by kernel_rfl) (by kernel_rfl) (by kernel_rfl) (fun _ _ _ h => h) (Or.inl ⟨by rfl, ?_⟩) (by assumption) ?_
      rotate_left
      · (intro w hSw; (try dsimp only at hSw); go_simp; with_reducible rfl)
      try simp only [Act.put, List.setIfInBounds_toArray, List.set_cons_zero, List.set_cons_succ]
      refine wpAnyH_take (i := 4) (v := ?_) rfl (by kernel_rfl) (by kernel_rfl) (by kernel_rfl) (fun _ _ _ h => h) (Or.inl ⟨by rfl, ?_⟩) (by assumption) ?_
      rotate_left
      · (intro w hSw; (try dsimp only at hSw); go_simp; with_reducible rfl)
      try simp only [Act.put, List.setIfInBounds_toArray, List.set_cons_zero, List.set_cons_succ]
      refine wpAnyH_take (i := 5) (v := ?_) rfl (by kernel_rfl) (by kernel_rfl) (by kernel_rfl) (fun _ _ _ h => h) (Or.inl ⟨by rfl, ?_⟩) (by assumption) ?_
      rotate_left
      · (intro w hSw; (try dsimp only at hSw); go_simp; with_reducible rfl)
      try simp only [Act.put, List.setIfInBounds_toArray, List.set_cons_zero, List.set_cons_succ]
      refine wpAnyH_pass (i := 6) (d := some 12) (by kernel_rfl) (by kernel_rfl) (by kernel_rfl) (by kernel_rfl) (fun _ _ _ _ h => h) (by kernel_rfl) (by assumption) ?_
      try simp only [Act.put, List.setIfInBounds_toArray, List.set_cons_zero, List.set_cons_succ]
      refine wpAnyH_pass (i := 7) (d := some 13) (by kernel_rfl) (by kernel_rfl) (by kernel_rfl) (by kernel_rfl) (fun _ _ _ _ h => h) (by kernel_rfl) (by assumption) ?_
      try simp only [Act.put, List.setIfInBounds_toArray, List.set_cons_zero, List.set_cons_succ]
      refine wpAnyH_pass (i := 8) (d := some 14) (by kernel_rfl) (by kernel_rfl) (by kernel_rfl) (by kernel_rfl) (fun _ _ _ _ h => h) (by kernel_rfl) (by assumption) ?_
      try simp only [Act.put, List.setIfInBounds_toArray, List.set_cons_zero, List.set_cons_succ]
      refine wpAnyH_pass (i := 9) (d := some 15) (by kernel_rfl) (by kernel_rfl) (by kernel_rfl) (by kernel_rfl) (fun _ _ _ _ h => h) (by kernel_rfl) (by assumption) ?_
      try simp only [Act.put, List.setIfInBounds_toArray, List.set_cons_zero, List.set_cons_succ]
      refine wpAnyH_pass (i := 10) (d := some 16) (by kernel_rfl) (by kernel_rfl) (by kernel_rfl) (by kernel_rfl) (fun _ _ _ _ h => h) (by kernel_rfl) (by assumption) ?_
      try simp only [Act.put, List.setIfInBounds_toArray, List.set_cons_zero, List.set_cons_succ]
      refine wpAnyH_pass (i := 11) (d := some 17) (by kernel_rfl) (by kernel_rfl) (by kernel_rfl) (by kernel_rfl) (fun _ _ _ _ h => h) (by kernel_rfl) (by assumption) ?_
      try simp only [Act.put, List.setIfInBounds_toArray, List.set_cons_zero, List.set_cons_succ]
      refine wpAnyH_pass (i := 12) (d := some 18) (by kernel_rfl) (by kernel_rfl) (by kernel_rfl) (by kernel_rfl) (fun _ _ _ _ h => h) (by kernel_rfl) (by assumption) ?_
      try simp only [Act.put, List.setIfInBounds_toArray, List.set_cons_zero, List.set_cons_succ]
      refine wpAnyH_pass (i := 13) (d := some 19) (by kernel_rfl) (by kernel_rfl) (by kernel_rfl) (by kernel_rfl) (fun _ _ _ _ h => h) (by kernel_rfl) (by assumption) ?_
      try simp only [Act.put, List.setIfInBounds_toArray, List.set_cons_zero, List.set_cons_succ]
      refine wpAnyH_pass (i := 14) (d := some 20) (by kernel_rfl) (by kernel_rfl) (by kernel_rfl) (by kernel_rfl) (fun _ _ _ _ h => h) (by kernel_rfl) (by assumption) ?_
      try simp only [Act.put, List.setIfInBounds_toArray, List.set_cons_zero, List.set_cons_succ]
      refine wpAnyH_pass (i := 15) (d := some 21) (by kernel_rfl) (by kernel_rfl) (by kernel_rfl) (by kernel_rfl) (fun _ _ _ _ h => h) (by kernel_rfl) (by assumption) ?_
      try simp only [Act.put, List.setIfInBounds_toArray, List.set_cons_zero, List.set_cons_succ]
      refine wpAnyH_take (i := 16) (v := ?_) rfl (by kernel_rfl) (by kernel_rfl) (by kernel_rfl) (fun _ _ _ h => h) (Or.inl ⟨by rfl, ?_⟩) (by assumption) ?_
      rotate_left
      · (intro w hSw; (try dsimp only at hSw); go_simp; with_reducible rfl)
      try simp only [Act.put, List.setIfInBounds_toArray, List.set_cons_zero, List.set_cons_succ]
      refine wpAnyH_take (i := 17) (v := ?_) rfl (by kernel_rfl) (by kernel_rfl) (by kernel_rfl) (fun _ _ _ h => h) (Or.inl ⟨by rfl, ?_⟩) (by assumption) ?_
      rotate_left
      · (intro w hSw; (try dsimp only at hSw); go_simp; with_reducible rfl)
      try simp only [Act.put, List.setIfInBounds_toArray, List.set_cons_zero, List.set_cons_succ]
      refine wpAnyH_pass (i := 18) (d := some 24) (by kernel_rfl) (by kernel_rfl) (by kernel_rfl) (by kernel_rfl) (fun _ _ _ _ h => h) (by kernel_rfl) (by assumption) ?_
      try simp only [Act.put, List.setIfInBounds_toArray, List.set_cons_zero, List.set_cons_succ]
      refine wpAnyH_pass (i := 19) (d := some 25) (by kernel_rfl) (by kernel_rfl) (by kernel_rfl) (by kernel_rfl) (fun _ _ _ _ h => h) (by kernel_rfl) (by assumption) ?_
      try simp only [Act.put, List.setIfInBounds_toArray, List.set_cons_zero, List.set_cons_succ]
      refine wpAnyH_pass (i := 20) (d := some 26) (by kernel_rfl) (by kernel_rfl) (by kernel_rfl) (by kernel_rfl) (fun _ _ _ _ h => h) (by kernel_rfl) (by assumption) ?_
      try simp only [Act.put, List.setIfInBounds_toArray, List.set_cons_zero, List.set_cons_succ]
      refine wpAnyH_pass (i := 21) (d := some 27) (by kernel_rfl) (by kernel_rfl) (by kernel_rfl) (by kernel_rfl) (fun _ _ _ _ h => h) (by kernel_rfl) (by assumption) ?_
      try simp only [Act.put, List.setIfInBounds_toArray, List.set_cons_zero, List.set_cons_succ]
      refine wpAnyH_pass (i := 22) (d := some 28) (by kernel_rfl) (by kernel_rfl) (by kernel_rfl) (by kernel_rfl) (fun _ _ _ _ h => h) (by kernel_rfl) (by assumption) ?_
      try simp only [Act.put, List.setIfInBounds_toArray, List.set_cons_zero, List.set_cons_succ]
      refine wpAnyH_pass (i := 23) (d := some 29) (by kernel_rfl) (by kernel_rfl) (by kernel_rfl) (by kernel_rfl) (fun _ _ _ _ h => h) (by kernel_rfl) (by assumption) ?_
      try simp only [Act.put, List.setIfInBounds_toArray, List.set_cons_zero, List.set_cons_succ]
      refine wpAnyH_pass (i := 24) (d := some 30) (by kernel_rfl) (by kernel_rfl) (by kernel_rfl) (by kernel_rfl) (fun _ _ _ _ h => h) (by kernel_rfl) (by assumption) ?_
      try simp only [Act.put, List.setIfInBounds_toArray, List.set_cons_zero, List.set_cons_succ]
      refine wpAnyH_pass (i := 25) (d := some 31) (by kernel_rfl) (by kernel_rfl) (by kernel_rfl) (by kernel_rfl) (fun _ _ _ _ h => h) (by kernel_rfl) (by assumption) ?_
      try simp only [Act.put, List.setIfInBounds_toArray, List.set_cons_zero, List.set_cons_succ]
      refine wpAnyH_pass (i := 26) (d := some 32) (by kernel_rfl) (by kernel_rfl) (by kernel_rfl) (by kernel_rfl) (fun _ _ _ _ h => h) (by kernel_rfl) (by assumption) ?_
      try simp only [Act.put, List.setIfInBounds_toArray, List.set_cons_zero, List.set_cons_succ]
      refine wpAnyH_pass (i := 27) (d := some 33) (by kernel_rfl) (by kernel_rfl) (by kernel_rfl) (by kernel_rfl) (fun _ _ _ _ h => h) (by kernel_rfl) (by assumption) ?_
      try simp only [Act.put, List.setIfInBounds_toArray, List.set_cons_zero, List.set_cons_succ]
      refine wpAnyH_ready (rs := [28]) (by kernel_rfl) (by simp) ?_
      refine AllReadyH.cons rfl (fun K hK => ?_) AllReadyH.nil
      go_simp
      refine hK.out _ _ (by assumption) (fun hHx => ?_)
      clear hHx hK K
      try simp only [Act.put, List.setIfInBounds_toArray, List.set_cons_zero, List.set_cons_succ]
      refine wpAnyH_done (by kernel_rfl) ?_ _
      go_wp2
      go_end0
      exact ⟨rfl, SBlockR.bad HRB.out (HN.out.drewN 1) (grown_drewN HG.out 1)⟩
    · rw [if_neg (by rw [hbad]; simp)] at hn
      have HO := hid (ho hbad)
      have HN := hid hn
      have hyx := hid (badW_no hbad)
      have HMID := hid (fun (h1 : wEnd s y < s.length) (h2 : isX (s.getD (wEnd s y) 0) = false) (h3 : isX (s.getD (wEnd s y - 1) 0) = false) => badW_mid (N := N) HX0.out hbad h1 h2 h3)
      obtain ⟨Wd, hWd⟩ : ∃ Wd, wordL N s y = Wd := ⟨_, rfl⟩
      rw [hWd] at HO
      have HEND := hid (fun (he : endsB s (wEnd s y) = true) => (show R = (acc ++ [Wd], wEnd s y, none) by rw [hr.out, block_end hbad he, hWd]))
      have HON := hid (fun (he : endsB s (wEnd s y) = false) (b : Nat) (hb : b = if s.getD (wEnd s y) 0 = 46 then wEnd s y + 1 else wEnd s y) => (show R = ((acc ++ [Wd]) ++ (blockL N s f b).1, (blockL N s f b).2) by rw [hr.out, block_on hbad he hb, hWd]; simp))
      have hlen : (acc ++ [Wd]).length = acc.length + 1 := by simp
      have HLEN := hid hlen
      clear ho hn hbad hWd hr hlen
      obtain ⟨x, hx⟩ : ∃ x, wEnd s y = x := ⟨_, rfl⟩
      rw [hx] at HEl HN hyx HMID HEND HON
      obtain ⟨A0, c0, rfl, _⟩ := own_shape HO.out
      clear hx
      have hxl := HEl.out
      have k2 : (x : Int) ≤ (s.length : Int) := by omega
      have kneg : decide ((-1 : Int) < 0) = true := by decide
      by_cases hlt : x < s.length
      · obtain ⟨Y, hY⟩ : ∃ Y, s[x] = Y := ⟨_, rfl⟩
        have hgd := hid (show s.getD x 0 = Y by rw [← hY]; simp [List.getD, hlt])
        have j0 : (0 : Int) ≤ (x : Int) := by omega
        have j1 : (x : Int) < (s.length : Int) := by omega
        have j2 : decide (x < s.length) = true := decide_eq_true hlt
        have j3 : decide ((x : Int) < (s.length : Int)) = true := decide_eq_true j1
        obtain ⟨E44, h44⟩ : ∃ B, decide (Y = UInt8.ofNat 44) = B := ⟨_, rfl⟩
        obtain ⟨a1, a2, a3, a4⟩ := byte_four Y 44 44 rfl (by omega) E44 h44
        have HE44 := hid (show endsB s x = E44 by unfold endsB; rw [decide_eq_false (show ¬ x = s.length by omega), Bool.false_or, hgd.out]; exact h44)
        clear h44
        cases E44
        · obtain ⟨z, hz⟩ : ∃ z, x = z + 1 := ⟨x - 1, by have := hyx.out; omega⟩
          have zlt : z < s.length := by omega
          obtain ⟨Z, hZ⟩ : ∃ Z, s[z] = Z := ⟨_, rfl⟩
          have hgz := hid (show s.getD (x - 1) 0 = Z by rw [hz, Nat.add_sub_cancel, ← hZ]; simp [List.getD, zlt])
          have z0 : (0 : Int) ≤ (z : Int) := by omega
          have z1 : (z : Int) < (s.length : Int) := by omega
          have zx : (x : Int) - 1 = (z : Int) := by omega
          have HZX := hid zx
          have hwz := (IntWalk.i64_in ((x : Int) - 1) (by omega)).trans zx
          have hwz2 : wrap64 ((x : Int) - 1) = (z : Int) := by unfold wrap64; omega
          have HXZ := hid hz
          clear hz zx
          obtain ⟨E46, h46⟩ : ∃ B, decide (Y = UInt8.ofNat 46) = B := ⟨_, rfl⟩
          obtain ⟨b1, b2, b3, b4⟩ := byte_four Y 46 46 rfl (by omega) E46 h46
          have HNX := hid (show ∀ y : Nat, y = (if E46 = true then x + 1 else x) → R = ((acc ++ [Wd]) ++ (blockL N s f y).1, (blockL N s f y).2) from fun y hy => HON.out HE44.out y (by rw [hgd.out, hy, ← h46]; by_cases h4 : Y = 46 <;> simp [h4]))
          obtain ⟨C1, hC1⟩ : ∃ B, decide (Y = UInt8.ofNat 45) = B := ⟨_, rfl⟩
          obtain ⟨C2, hC2⟩ : ∃ B, decide (Y = UInt8.ofNat 120) = B := ⟨_, rfl⟩
          obtain ⟨D1, hD1⟩ : ∃ B, decide (Z = UInt8.ofNat 45) = B := ⟨_, rfl⟩
          obtain ⟨D2, hD2⟩ : ∃ B, decide (Z = UInt8.ofNat 120) = B := ⟨_, rfl⟩
          obtain ⟨c1, c2, c3, c4⟩ := byte_four Y 45 45 rfl (by omega) C1 hC1
          obtain ⟨d1, d2, d3, d4⟩ := byte_four Y 120 120 rfl (by omega) C2 hC2
          obtain ⟨e1, e2, e3, e4⟩ := byte_four Z 45 45 rfl (by omega) D1 hD1
          obtain ⟨f1, f2, f3, f4⟩ := byte_four Z 120 120 rfl (by omega) D2 hD2
          have HBADX := hid (show C1 = false → C2 = false → D1 = false → D2 = false → badW N s x = true from fun q1 q2 q3 q4 => HMID.out hlt (by rw [hgd.out]; rw [← hC1] at q1; rw [← hC2] at q2; simp at q1 q2; unfold isX; simp [q1, q2]) (by rw [hgz.out]; rw [← hD1] at q3; rw [← hD2] at q4; simp at q3 q4; unfold isX; simp [q3, q4]))
          have hwx := IntWalk.i64_in ((x : Int) + 1) (by omega)
          clear h46 hC1 hC2 hD1 hD2 HON HEND HMID
          go_wp2_with fail
          go_region_held3 (fun w' => w'.cell? ⟨G, 0, none⟩ = some (.int .i64 (N : Int)) ∧ w'.cell? ⟨G, 1, none⟩ = some (.string (bs s)) ∧ w'.cell? ⟨G, 2, none⟩ = some (.int .i64 (x : Int)) ∧ w'.cell? ⟨G, 4, none⟩ = some (.int .i64 (-1)))
            (first | exact HN.out.cells4 | exact (HN.out.drewN 1).cells4)
            (fail)
          have HN1 := hid (HN.out.drewN 1)
          go_wp2_with fail
          go_region_held3 (fun w' => w'.cell? ⟨G, 0, none⟩ = some (.int .i64 (N : Int)) ∧ w'.cell? ⟨G, 1, none⟩ = some (.string (bs s)) ∧ w'.cell? ⟨G, 2, none⟩ = some (.int .i64 (x : Int)) ∧ w'.cell? ⟨G, 4, none⟩ = some (.int .i64 (-1)))
            (first | exact HN1.out.cells4 | exact (HN1.out.drewN 1).cells4)
            (fail)
          have HN2 := hid (HN1.out.drewN 1)
          go_wp2_with fail
          go_region_held3 (fun w' => w'.cell? ⟨G, 0, none⟩ = some (.int .i64 (N : Int)) ∧ w'.cell? ⟨G, 1, none⟩ = some (.string (bs s)) ∧ w'.cell? ⟨G, 2, none⟩ = some (.int .i64 (x : Int)) ∧ w'.cell? ⟨G, 4, none⟩ = some (.int .i64 (-1)))
            (first | exact HN2.out.cells4 | exact (HN2.out.drewN 1).cells4)
            (fail)
          have HN3 : Hid (WrdB wr.drew.drew.drew G N s x (.slice A0 (acc.length + 1) c0) (-1)) := hid (HN2.out.drewN 1)
          have HO3 : Hid (wr.drew.drew.drew.ownsRow w.heap.size 9 1 (.slice A0 (acc.length + 1) c0) (acc ++ [Wd]).length (strV (acc ++ [Wd]))) := hid (by rw [HLEN.out]; exact own_drewN (own_drewN (own_drewN HO.out 1) 1) 1)
          have HG3 : Hid (w.grownBy wr.drew.drew.drew (some G)) := hid (grown_drewN (grown_drewN (grown_drewN HG.out 1) 1) 1)
          clear HN HN1 HN2 HO HG hY hZ
          generalize wr.drew.drew.drew = W at *
          obtain ⟨q0, q1, q2, q4⟩ := HN3.out.cells4
          have g2 := Blk.frozen HN3.out 2
          have g4 := Blk.frozen HN3.out 4
          have hlm : acc.length + 1 ≤ 2000 := by have h1 := HA.out; omega
          cases E46
          · have HRX := hid (HNX.out x rfl)
            cases C1
            · cases C2
              · cases D1
                · cases D2
                  · have HR := hid (show R = (acc ++ [Wd] ++ [], x, some x) by
                      have h1 := HK.out; have h2 := hyx.out; have h3 := HX0.out
                      obtain ⟨f', rfl⟩ : ∃ f', f = f' + 1 := ⟨f - 1, by omega⟩
                      rw [HRX.out, block_bad (HBADX.out rfl rfl rfl rfl)])
                    go_wp2
                    refine bodyPost_ret (results_none rfl _ _ _) rfl ?_
                    exact ⟨rfl, SBlockR.bad HR.out (WrdB.bad HN3.out _) (grown_set HG3.out)⟩
                  · go_wp2_with fail
                    refine (GW.out x _ (acc ++ [Wd]) _ HN3.out HEl.out HO3.out HG3.out (by rw [HLEN.out]; exact hlm)).mono ?_
                    rintro e0 w2 ⟨rfl, hw2⟩
                    have HW2 := hid hw2
                    clear hw2
                    go_wp2
                    go_roundg f
                    case measure => omega
                    case rel => exact ⟨x, acc ++ [Wd], HEl.out, by have h1 := HK.out; have h2 := hyx.out; omega, by have h1 := HA.out; rw [HLEN.out]; omega, HRX, HW2⟩
                · go_wp2_with fail
                  refine (GW.out x _ (acc ++ [Wd]) _ HN3.out HEl.out HO3.out HG3.out (by rw [HLEN.out]; exact hlm)).mono ?_
                  rintro e0 w2 ⟨rfl, hw2⟩
                  have HW2 := hid hw2
                  clear hw2
                  go_wp2
                  go_roundg f
                  case measure => omega
                  case rel => exact ⟨x, acc ++ [Wd], HEl.out, by have h1 := HK.out; have h2 := hyx.out; omega, by have h1 := HA.out; rw [HLEN.out]; omega, HRX, HW2⟩
              · go_wp2_with fail
                refine (GW.out x _ (acc ++ [Wd]) _ HN3.out HEl.out HO3.out HG3.out (by rw [HLEN.out]; exact hlm)).mono ?_
                rintro e0 w2 ⟨rfl, hw2⟩
                have HW2 := hid hw2
                clear hw2
                go_wp2
                go_roundg f
                case measure => omega
                case rel => exact ⟨x, acc ++ [Wd], HEl.out, by have h1 := HK.out; have h2 := hyx.out; omega, by have h1 := HA.out; rw [HLEN.out]; omega, HRX, HW2⟩
            · go_wp2_with fail
              refine (GW.out x _ (acc ++ [Wd]) _ HN3.out HEl.out HO3.out HG3.out (by rw [HLEN.out]; exact hlm)).mono ?_
              rintro e0 w2 ⟨rfl, hw2⟩
              have HW2 := hid hw2
              clear hw2
              go_wp2
              go_roundg f
              case measure => omega
              case rel => exact ⟨x, acc ++ [Wd], HEl.out, by have h1 := HK.out; have h2 := hyx.out; omega, by have h1 := HA.out; rw [HLEN.out]; omega, HRX, HW2⟩
          · have HRX := hid (HNX.out (x + 1) rfl)
            go_wp2_with fail
            refine (GW.out (x + 1) _ (acc ++ [Wd]) _ (by have h := WrdB.at_ HN3.out (x + 1); simpa using h) (by omega) (by have h := own_setG (p := ⟨G, 2, none⟩) (u := .int .i64 ((x : Int) + 1)) HO3.out hGw.out; exact h) (by have h := grown_set (o := 2) (v := .int .i64 ((x : Int) + 1)) HG3.out; exact h) (by rw [HLEN.out]; exact hlm)).mono ?_
            rintro e0 w2 ⟨rfl, hw2⟩
            have HW2 := hid hw2
            clear hw2
            go_wp2
            go_roundg f
            case measure => omega
            case rel => exact ⟨x + 1, acc ++ [Wd], by omega, by have h1 := HK.out; have h2 := hyx.out; omega, by have h1 := HA.out; rw [HLEN.out]; omega, HRX, HW2⟩
        · have HR := hid (HEND.out HE44.out)
          clear HEND HON HMID
          go_wp2_with fail
          go_region_held3 (fun w' => w'.cell? ⟨G, 0, none⟩ = some (.int .i64 (N : Int)) ∧ w'.cell? ⟨G, 1, none⟩ = some (.string (bs s)) ∧ w'.cell? ⟨G, 2, none⟩ = some (.int .i64 (x : Int)) ∧ w'.cell? ⟨G, 4, none⟩ = some (.int .i64 (-1)))
            (first | exact HN.out.cells4 | exact (HN.out.drewN 1).cells4)
            (fail)
          go_wp2
          go_end0
          exact ⟨rfl, SBlockR.good HR.out HLEN.out.symm (HN.out.drewN 1) (own_drewN HO.out 1) (grown_drewN HG.out 1)⟩
      · have HR := hid (HEND.out (by unfold endsB; rw [decide_eq_true (show x = s.length by omega)]; rfl))
        have j2 : decide (x < s.length) = false := decide_eq_false hlt
        have j3 : decide ((x : Int) < (s.length : Int)) = false := decide_eq_false (by omega)
        clear HEND HON HMID
        go_wp2_with fail
        refine wp_region_held_drew (S := fun w' => w'.cell? ⟨G, 0, none⟩ = some (.int .i64 (N : Int)) ∧ w'.cell? ⟨G, 1, none⟩ = some (.string (bs s)) ∧ w'.cell? ⟨G, 2, none⟩ = some (.int .i64 (x : Int)) ∧ w'.cell? ⟨G, 4, none⟩ = some (.int .i64 (-1))) (by kernel_rfl) ((HN.out.drewN 1).cells4) (fun hHeld => ?_)
        refine wpAnyH_take (i := 0) (v := ?_) rfl (by kernel_rfl) (by kernel_rfl) (by kernel_rfl) (fun _ _ _ h => h) (Or.inl ⟨by rfl, ?_⟩) (by assumption) ?_
        rotate_left
        · (intro w hSw; (try dsimp only at hSw); go_simp; with_reducible rfl)
        try simp only [Act.put, List.setIfInBounds_toArray, List.set_cons_zero, List.set_cons_succ]
        refine wpAnyH_take (i := 1) (v := ?_) rfl (by kernel_rfl) (by kernel_rfl) (by kernel_rfl) (fun _ _ _ h => h) (Or.inl ⟨by rfl, ?_⟩) (by assumption) ?_
        rotate_left
        · (intro w hSw; (try dsimp only at hSw); go_simp; with_reducible rfl)
        try simp only [Act.put, List.setIfInBounds_toArray, List.set_cons_zero, List.set_cons_succ]
        refine wpAnyH_take (i := 2) (v := ?_) rfl (by kernel_rfl) (by kernel_rfl) (by kernel_rfl) (fun _ _ _ h => h) (Or.inl ⟨by rfl, ?_⟩) (by assumption) ?_
        rotate_left
        · (intro w hSw; (try dsimp only at hSw); go_simp; with_reducible rfl)
        try simp only [Act.put, List.setIfInBounds_toArray, List.set_cons_zero, List.set_cons_succ]
        refine wpAnyH_take (i := 3) (v := ?_) rfl (by kernel_rfl) (by kernel_rfl) (by kernel_rfl) (fun _ _ _ h => h) (Or.inl ⟨by rfl, ?_⟩) (by assumption) ?_
        rotate_left
        · (intro w hSw; (try dsimp only at hSw); go_simp; with_reducible rfl)
        try simp only [Act.put, List.setIfInBounds_toArray, List.set_cons_zero, List.set_cons_succ]
        refine wpAnyH_take (i := 4) (v := ?_) rfl (by kernel_rfl) (by kernel_rfl) (by kernel_rfl) (fun _ _ _ h => h) (Or.inl ⟨by rfl, ?_⟩) (by assumption) ?_
        rotate_left
        · (intro w hSw; (try dsimp only at hSw); go_simp; with_reducible rfl)
        try simp only [Act.put, List.setIfInBounds_toArray, List.set_cons_zero, List.set_cons_succ]
        refine wpAnyH_take (i := 5) (v := ?_) rfl (by kernel_rfl) (by kernel_rfl) (by kernel_rfl) (fun _ _ _ h => h) (Or.inl ⟨by rfl, ?_⟩) (by assumption) ?_
        rotate_left
        · (intro w hSw; (try dsimp only at hSw); go_simp; with_reducible rfl)
        try simp only [Act.put, List.setIfInBounds_toArray, List.set_cons_zero, List.set_cons_succ]
        refine wpAnyH_take (i := 6) (v := ?_) rfl (by kernel_rfl) (by kernel_rfl) (by kernel_rfl) (fun _ _ _ h => h) (Or.inl ⟨by kernel_rfl, ?_⟩) (by assumption) ?_
        rotate_left
        · (intro w hSw; (try dsimp only at hSw); go_simp; with_reducible rfl)
        try simp only [Act.put, List.setIfInBounds_toArray, List.set_cons_zero, List.set_cons_succ]
        refine wpAnyH_take (i := 7) (v := ?_) rfl (by kernel_rfl) (by kernel_rfl) (by kernel_rfl) (fun _ _ _ h => h) (Or.inl ⟨by kernel_rfl, ?_⟩) (by assumption) ?_
        rotate_left
        · (intro w hSw; (try dsimp only at hSw); go_simp; with_reducible rfl)
        try simp only [Act.put, List.setIfInBounds_toArray, List.set_cons_zero, List.set_cons_succ]
        refine wpAnyH_take (i := 8) (v := ?_) rfl (by kernel_rfl) (by kernel_rfl) (by kernel_rfl) (fun _ _ _ h => h) (Or.inl ⟨by kernel_rfl, ?_⟩) (by assumption) ?_
        rotate_left
        · (intro w hSw; (try dsimp only at hSw); go_simp; with_reducible rfl)
        try simp only [Act.put, List.setIfInBounds_toArray, List.set_cons_zero, List.set_cons_succ]
        refine wpAnyH_take (i := 9) (v := ?_) rfl (by kernel_rfl) (by kernel_rfl) (by kernel_rfl) (fun _ _ _ h => h) (Or.inl ⟨by kernel_rfl, ?_⟩) (by assumption) ?_
        rotate_left
        · (intro w hSw; (try dsimp only at hSw); go_simp; with_reducible rfl)
        try simp only [Act.put, List.setIfInBounds_toArray, List.set_cons_zero, List.set_cons_succ]
        refine wpAnyH_take (i := 10) (v := ?_) rfl (by kernel_rfl) (by kernel_rfl) (by kernel_rfl) (fun _ _ _ h => h) (Or.inl ⟨by kernel_rfl, ?_⟩) (by assumption) ?_
        rotate_left
        · (intro w hSw; (try dsimp only at hSw); go_simp; with_reducible rfl)
        try simp only [Act.put, List.setIfInBounds_toArray, List.set_cons_zero, List.set_cons_succ]
        refine wpAnyH_take (i := 11) (v := ?_) rfl (by kernel_rfl) (by kernel_rfl) (by kernel_rfl) (fun _ _ _ h => h) (Or.inl ⟨by kernel_rfl, ?_⟩) (by assumption) ?_
        rotate_left
        · (intro w hSw; (try dsimp only at hSw); go_simp; with_reducible rfl)
        try simp only [Act.put, List.setIfInBounds_toArray, List.set_cons_zero, List.set_cons_succ]
        refine wpAnyH_take (i := 12) (v := ?_) rfl (by kernel_rfl) (by kernel_rfl) (by kernel_rfl) (fun _ _ _ h => h) (Or.inl ⟨by kernel_rfl, ?_⟩) (by assumption) ?_
        rotate_left
        · (intro w hSw; (try dsimp only at hSw); go_simp; with_reducible rfl)
        try simp only [Act.put, List.setIfInBounds_toArray, List.set_cons_zero, List.set_cons_succ]
        refine wpAnyH_take (i := 13) (v := ?_) rfl (by kernel_rfl) (by kernel_rfl) (by kernel_rfl) (fun _ _ _ h => h) (Or.inl ⟨by kernel_rfl, ?_⟩) (by assumption) ?_
        rotate_left
        · (intro w hSw; (try dsimp only at hSw); go_simp; with_reducible rfl)
        try simp only [Act.put, List.setIfInBounds_toArray, List.set_cons_zero, List.set_cons_succ]
        refine wpAnyH_take (i := 14) (v := ?_) rfl (by kernel_rfl) (by kernel_rfl) (by kernel_rfl) (fun _ _ _ h => h) (Or.inl ⟨by kernel_rfl, ?_⟩) (by assumption) ?_
        rotate_left
        · (intro w hSw; (try dsimp only at hSw); go_simp; with_reducible rfl)
        try simp only [Act.put, List.setIfInBounds_toArray, List.set_cons_zero, List.set_cons_succ]
        refine wpAnyH_take (i := 15) (v := ?_) rfl (by kernel_rfl) (by kernel_rfl) (by kernel_rfl) (fun _ _ _ h => h) (Or.inl ⟨by kernel_rfl, ?_⟩) (by assumption) ?_
        rotate_left
        · (intro w hSw; (try dsimp only at hSw); go_simp; with_reducible rfl)
        try simp only [Act.put, List.setIfInBounds_toArray, List.set_cons_zero, List.set_cons_succ]
        refine wpAnyH_take (i := 16) (v := ?_) rfl (by kernel_rfl) (by kernel_rfl) (by kernel_rfl) (fun _ _ _ h => h) (Or.inl ⟨by rfl, ?_⟩) (by assumption) ?_
        rotate_left
        · (intro w hSw; (try dsimp only at hSw); go_simp; with_reducible rfl)
        try simp only [Act.put, List.setIfInBounds_toArray, List.set_cons_zero, List.set_cons_succ]
        refine wpAnyH_take (i := 17) (v := ?_) rfl (by kernel_rfl) (by kernel_rfl) (by kernel_rfl) (fun _ _ _ h => h) (Or.inl ⟨by rfl, ?_⟩) (by assumption) ?_
        rotate_left
        · (intro w hSw; (try dsimp only at hSw); go_simp; with_reducible rfl)
        try simp only [Act.put, List.setIfInBounds_toArray, List.set_cons_zero, List.set_cons_succ]
        refine wpAnyH_pass (i := 18) (d := some 24) (by kernel_rfl) (by kernel_rfl) (by kernel_rfl) (by kernel_rfl) (fun _ _ _ _ h => h) (by kernel_rfl) (by assumption) ?_
        try simp only [Act.put, List.setIfInBounds_toArray, List.set_cons_zero, List.set_cons_succ]
        refine wpAnyH_pass (i := 19) (d := some 25) (by kernel_rfl) (by kernel_rfl) (by kernel_rfl) (by kernel_rfl) (fun _ _ _ _ h => h) (by kernel_rfl) (by assumption) ?_
        try simp only [Act.put, List.setIfInBounds_toArray, List.set_cons_zero, List.set_cons_succ]
        refine wpAnyH_pass (i := 20) (d := some 26) (by kernel_rfl) (by kernel_rfl) (by kernel_rfl) (by kernel_rfl) (fun _ _ _ _ h => h) (by kernel_rfl) (by assumption) ?_
        try simp only [Act.put, List.setIfInBounds_toArray, List.set_cons_zero, List.set_cons_succ]
        refine wpAnyH_pass (i := 21) (d := some 27) (by kernel_rfl) (by kernel_rfl) (by kernel_rfl) (by kernel_rfl) (fun _ _ _ _ h => h) (by kernel_rfl) (by assumption) ?_
        try simp only [Act.put, List.setIfInBounds_toArray, List.set_cons_zero, List.set_cons_succ]
        refine wpAnyH_pass (i := 22) (d := some 28) (by kernel_rfl) (by kernel_rfl) (by kernel_rfl) (by kernel_rfl) (fun _ _ _ _ h => h) (by kernel_rfl) (by assumption) ?_
        try simp only [Act.put, List.setIfInBounds_toArray, List.set_cons_zero, List.set_cons_succ]
        refine wpAnyH_pass (i := 23) (d := some 29) (by kernel_rfl) (by kernel_rfl) (by kernel_rfl) (by kernel_rfl) (fun _ _ _ _ h => h) (by kernel_rfl) (by assumption) ?_
        try simp only [Act.put, List.setIfInBounds_toArray, List.set_cons_zero, List.set_cons_succ]
        refine wpAnyH_pass (i := 24) (d := some 30) (by kernel_rfl) (by kernel_rfl) (by kernel_rfl) (by kernel_rfl) (fun _ _ _ _ h => h) (by kernel_rfl) (by assumption) ?_
        try simp only [Act.put, List.setIfInBounds_toArray, List.set_cons_zero, List.set_cons_succ]
        refine wpAnyH_pass (i := 25) (d := some 31) (by kernel_rfl) (by kernel_rfl) (by kernel_rfl) (by kernel_rfl) (fun _ _ _ _ h => h) (by kernel_rfl) (by assumption) ?_
        try simp only [Act.put, List.setIfInBounds_toArray, List.set_cons_zero, List.set_cons_succ]
        refine wpAnyH_pass (i := 26) (d := some 32) (by kernel_rfl) (by kernel_rfl) (by kernel_rfl) (by kernel_rfl) (fun _ _ _ _ h => h) (by kernel_rfl) (by assumption) ?_
        try simp only [Act.put, List.setIfInBounds_toArray, List.set_cons_zero, List.set_cons_succ]
        refine wpAnyH_pass (i := 27) (d := some 33) (by kernel_rfl) (by kernel_rfl) (by kernel_rfl) (by kernel_rfl) (fun _ _ _ _ h => h) (by kernel_rfl) (by assumption) ?_
        try simp only [Act.put, List.setIfInBounds_toArray, List.set_cons_zero, List.set_cons_succ]
        refine wpAnyH_ready (rs := [28]) (by kernel_rfl) (by simp) ?_
        refine AllReadyH.cons rfl (fun K hK => ?_) AllReadyH.nil
        go_simp
        refine hK.out _ _ (by assumption) (fun hHx => ?_)
        clear hHx hK K
        try simp only [Act.put, List.setIfInBounds_toArray, List.set_cons_zero, List.set_cons_succ]
        refine wpAnyH_done (by kernel_rfl) ?_ _
        go_wp2
        go_end0
        exact ⟨rfl, SBlockR.good HR.out HLEN.out.symm (HN.out.drewN 1) (own_drewN HO.out 1) (grown_drewN HG.out 1)⟩
end Go.Proofs.Ytamcopnghjoboaa
