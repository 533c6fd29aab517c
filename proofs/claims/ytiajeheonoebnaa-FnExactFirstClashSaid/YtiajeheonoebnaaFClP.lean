/- The first clash: plain laws; the comparison, its closure, slices.MinFunc. No conditions beyond those stated. -/
import Derived.Test.YtiajeheonoebnaaClashQ
import Derived.Test.YtiajeheonoebnaaShelf
import Derived.Test.YtiajeheonoebnaaSkip
set_option linter.unusedVariables false
set_option linter.unusedSimpArgs false
set_option maxRecDepth 100000
namespace Go.Proofs.Ytiajeheonoebnaa
open Go.RowKit

def pAt (ps : List (Nat × Nat)) (i : Nat) : Nat × Nat := ps.getD i (0, 0)
theorem pAt_get (ps : List (Nat × Nat)) (i : Nat) (h : i < ps.length) : pAt ps i = ps[i] := by simp [pAt, List.getD, h]
/-- The place of the clash with the least second head among the first k: of equals the first. -/
def bestI (ps : List (Nat × Nat)) : Nat → Nat
  | 0 => 0
  | k + 1 => if (pAt ps k).2 < (pAt ps (bestI ps k)).2 then k else bestI ps k
/-- How two pairs of integers compare, one after the other. -/
def cmp2 (a0 a1 b0 b1 : Int) : Int := if Lib.compareInt a0 b0 = 0 then Lib.compareInt a1 b1 else Lib.compareInt a0 b0
def cmpP (a b : Nat × Nat) : Int := cmp2 a.2 a.1 b.2 b.1
/-- The place of the least of the first k in the program's order. -/
def bestC (ps : List (Nat × Nat)) : Nat → Nat
  | 0 => 0
  | k + 1 => if cmpP (pAt ps k) (pAt ps (bestC ps k)) < 0 then k else bestC ps k
theorem cmpP_lt (a b : Nat × Nat) : cmpP a b < 0 ↔ a.2 < b.2 ∨ (a.2 = b.2 ∧ a.1 < b.1) := by
  unfold cmpP cmp2 Lib.compareInt
  split <;> split <;> (try split) <;> (try split) <;> omega
theorem bestI_le (ps : List (Nat × Nat)) (k : Nat) : bestI ps (k + 1) ≤ k := by
  induction k with
  | zero => simp [bestI]
  | succ k ih =>
    rw [bestI]
    split
    · exact Nat.le_refl _
    · omega
theorem bestI_lt (ps : List (Nat × Nat)) (k : Nat) (h : 1 ≤ k) : bestI ps k < k := by
  obtain ⟨j, rfl⟩ : ∃ j, k = j + 1 := ⟨k - 1, by omega⟩
  have := bestI_le ps j; omega
theorem bestC_eq {ps : List (Nat × Nat)} (hs : ps.Pairwise (fun a b => a.1 ≤ b.1)) (k : Nat) (hk : k ≤ ps.length) : bestC ps k = bestI ps k := by
  induction k with
  | zero => rfl
  | succ k ih =>
    have ih := ih (by omega)
    rw [bestC, bestI, ih]
    have e : cmpP (pAt ps k) (pAt ps (bestI ps k)) < 0 ↔ (pAt ps k).2 < (pAt ps (bestI ps k)).2 := by
      rw [cmpP_lt]
      constructor
      · rintro (h | ⟨h1, h2⟩)
        · exact h
        · exfalso
          by_cases h0 : k = 0
          · subst h0
            simp [bestI] at h2
          · have hlt := bestI_lt ps k (by omega)
            rw [pAt_get _ _ (by omega), pAt_get _ _ (by omega)] at h2
            have := (List.pairwise_iff_getElem.1 hs) (bestI ps k) k (by omega) (by omega) hlt
            omega
      · exact Or.inl
    by_cases h : (pAt ps k).2 < (pAt ps (bestI ps k)).2
    · rw [if_pos h, if_pos (e.2 h)]
    · rw [if_neg h, if_neg (fun h2 => h (e.1 h2))]
theorem clashRow_fst (F hs : List (List UInt8)) (i k : Nat) : ∀ p ∈ clashRow F hs i k, p.1 = i := fun p hp => by
  unfold clashRow at hp
  simp only [List.mem_map] at hp
  obtain ⟨j, _, rfl⟩ := hp
  rfl
theorem clashTo_sorted (F hs : List (List UInt8)) (i : Nat) : (clashTo F hs i).Pairwise (fun a b => a.1 ≤ b.1) := by
  induction i with
  | zero => simp [clashTo]
  | succ i ih =>
    rw [← clashTo_step, List.pairwise_append]
    refine ⟨ih, ?_, fun a ha b hb => ?_⟩
    · refine List.Pairwise.imp_of_mem (R := fun _ _ => True) ?_ (List.pairwise_of_forall (fun _ _ => trivial))
      intro a b ha hb _
      rw [clashRow_fst _ _ _ _ a ha, clashRow_fst _ _ _ _ b hb]
      exact Nat.le_refl _
    · rw [clashRow_fst _ _ _ _ b hb]
      unfold clashTo at ha
      simp only [List.mem_flatMap, List.mem_range] at ha
      obtain ⟨p, hp, ha⟩ := ha
      rw [clashRow_fst _ _ _ _ a ha]
      omega
set_option maxHeartbeats 2000000 in
theorem compare2_any (g h c d : Nat) (a0 a1 b0 b1 : Int) (w : World) (x0 : w.cell? ⟨g, 0, none⟩ = some (.int .i64 a0)) (x1 : w.cell? ⟨g, 1, none⟩ = some (.int .i64 a1)) (y0 : w.cell? ⟨h, 0, none⟩ = some (.int .i64 b0)) (y1 : w.cell? ⟨h, 1, none⟩ = some (.int .i64 b1)) :
    Calls Try.prog 77 #[.slice (some ⟨g, 0, none⟩) 2 c, .slice (some ⟨h, 0, none⟩) 2 d] w fun e w' => e = .returned (.int .i64 (cmp2 a0 a1 b0 b1)) ∧ w' = w := by
  have C0 := hid (fun w0 => Try.cmp_Compare_int a0 b0 w0)
  have C1 := hid (fun w0 => Try.cmp_Compare_int a1 b1 w0)
  obtain ⟨R, hR⟩ : ∃ R, R = cmp2 a0 a1 b0 b1 := ⟨_, rfl⟩
  rw [← hR]
  unfold cmp2 at hR
  generalize Lib.compareInt a0 b0 = c0 at *
  generalize Lib.compareInt a1 b1 = c1 at *
  have HR := hid hR
  clear hR
  go_enter Try.func77, Try.ntmps77
  go_wp2
  go_loopg [11] 2 (fun gk x wr => ∃ k : Nat, k ≤ 2 ∧ gk = 2 - k ∧ x = .int .i64 k ∧ Hid (1 ≤ k → c0 = 0) ∧ Hid (2 ≤ k → c1 = 0) ∧ wr = w)
  case atStart => exact ⟨0, by omega, by omega, rfl, hid (fun h => absurd h (by omega)), hid (fun h => absurd h (by omega)), rfl⟩
  case round =>
    obtain ⟨k, hk, rfl, rfl, h1, h2, rfl⟩ := hrel
    rcases (show k = 0 ∨ k = 1 ∨ k = 2 by omega) with rfl | rfl | rfl
    · clear hk
      go_wp2_with fail
      refine (C0.out _).mono ?_
      rintro e w' ⟨rfl, rfl⟩
      by_cases hz : c0 = 0
      · have hz2 : (c0 == 0) = true := by simpa using hz
        have hz3 : (c0 != 0) = false := by simpa using hz
        have HZ := hid hz
        clear hz
        go_wp2
        go_roundg 1
        case measure => omega
        case rel => exact ⟨1, by omega, rfl, by go_num, hid (fun _ => HZ.out), hid (fun h => absurd h (by omega)), rfl⟩
      · have hz2 : (c0 == 0) = false := by simpa using hz
        have hRR := hid (show R = c0 by rw [HR.out, if_neg hz])
        go_wp2
        go_ret
        exact ⟨by rw [hRR.out]; rfl, rfl⟩
    · have hc0 := hid (h1.out (Nat.le_refl _))
      clear hk h1 h2
      go_wp2_with fail
      refine (C1.out _).mono ?_
      rintro e w' ⟨rfl, rfl⟩
      by_cases hz : c1 = 0
      · have hz2 : (c1 == 0) = true := by simpa using hz
        have hz3 : (c1 != 0) = false := by simpa using hz
        have HZ := hid hz
        clear hz
        go_wp2
        go_roundg 0
        case measure => omega
        case rel => exact ⟨2, by omega, rfl, by go_num, hid (fun _ => hc0.out), hid (fun _ => HZ.out), rfl⟩
      · have hz2 : (c1 == 0) = false := by simpa using hz
        have hRR := hid (show R = c1 by rw [HR.out, if_pos hc0.out])
        go_wp2
        go_ret
        exact ⟨by rw [hRR.out]; rfl, rfl⟩
    · have hRR := hid (show R = 0 by rw [HR.out, if_pos (h1.out (by omega)), h2.out (Nat.le_refl _)])
      clear hk h1 h2
      go_wp2
      go_ret
      exact ⟨by rw [hRR.out]; rfl, rfl⟩
theorem blk_a (w : World) (o : Obj) (x y : Int) : (((w.alloc (.cells #[.int .i64 x, .int .i64 y] 3)).alloc o).cell? ⟨w.heap.size, 0, none⟩ = some (.int .i64 x)) ∧ (((w.alloc (.cells #[.int .i64 x, .int .i64 y] 3)).alloc o).cell? ⟨w.heap.size, 1, none⟩ = some (.int .i64 y)) := by
  have h := ((Blk.new w 3 #[.int .i64 x, .int .i64 y]).alloc o)
  exact ⟨h.cell 0, h.cell 1⟩
theorem blk_b (w : World) (o : Obj) (x y : Int) : (((w.alloc o).alloc (.cells #[.int .i64 x, .int .i64 y] 3)).cell? ⟨w.heap.size + 1, 0, none⟩ = some (.int .i64 x)) ∧ (((w.alloc o).alloc (.cells #[.int .i64 x, .int .i64 y] 3)).cell? ⟨w.heap.size + 1, 1, none⟩ = some (.int .i64 y)) := by
  have h := (Blk.new (w.alloc o) 3 #[.int .i64 x, .int .i64 y])
  rw [alloc_size] at h
  exact ⟨h.cell 0, h.cell 1⟩
set_option maxHeartbeats 2000000 in
theorem closure_any (g h : Nat) (p q : Nat × Nat) (w : World) (hg : Blk w g 3 (intV (pairL p)).toArray) (hh : Blk w h 3 (intV (pairL q)).toArray) :
    Calls Try.prog 76 #[slcV g, slcV h] w fun e w' => e = .returned (.int .i64 (cmpP p q)) ∧ Below w.heap.size w w' := by
  obtain ⟨p1, p2⟩ := p
  obtain ⟨q1, q2⟩ := q
  have HG := hid hg
  have HH := hid hh
  have SS := hid (fun W' (b : Below w.heap.size w W') => (show W'.cell? ⟨g, 0, none⟩ = some (.int .i64 p1) ∧ W'.cell? ⟨g, 1, none⟩ = some (.int .i64 p2) ∧ W'.cell? ⟨h, 0, none⟩ = some (.int .i64 q1) ∧ W'.cell? ⟨h, 1, none⟩ = some (.int .i64 q2) from by
    have X := HG.out.below b HG.out.lt
    have Y := HH.out.below b HH.out.lt
    exact ⟨X.cell 0, X.cell 1, Y.cell 0, Y.cell 1⟩))
  clear hg hh
  unfold slcV
  obtain ⟨n0, n1, n2, n3⟩ := SS.out _ (Below.refl _ _)
  have CC := hid (fun (g h c d : Nat) (w0 : World) x0 x1 y0 y1 => compare2_any g h c d p2 p1 q2 q1 w0 x0 x1 y0 y1)
  have A1 := blk_a w.drew (.cells #[.int .i64 (q2 : Int), .int .i64 (q1 : Int)] 3) p2 p1
  have A2 := blk_b w.drew (.cells #[.int .i64 (p2 : Int), .int .i64 (p1 : Int)] 3) q2 q1
  have A3 := blk_a w.drew (.cells #[.int .i64 (p2 : Int), .int .i64 (p1 : Int)] 3) q2 q1
  have A4 := blk_b w.drew (.cells #[.int .i64 (q2 : Int), .int .i64 (q1 : Int)] 3) p2 p1
  have HA := hid (And.intro A1 (And.intro A2 (And.intro A3 A4)))
  clear A1 A2 A3 A4
  have hb0 : Below w.heap.size w w.drew := (Below.refl _ _).drew
  have HW6 := hid ((hb0.alloc (Nat.le_refl _) (.cells #[.int .i64 (p2 : Int), .int .i64 (p1 : Int)] 3)).alloc (Nat.le_trans (Nat.le_refl _) (hb0.alloc (Nat.le_refl _) (.cells #[.int .i64 (p2 : Int), .int .i64 (p1 : Int)] 3)).size) (.cells #[.int .i64 (q2 : Int), .int .i64 (q1 : Int)] 3))
  have HW13 := hid ((hb0.alloc (Nat.le_refl _) (.cells #[.int .i64 (q2 : Int), .int .i64 (q1 : Int)] 3)).alloc (Nat.le_trans (Nat.le_refl _) (hb0.alloc (Nat.le_refl _) (.cells #[.int .i64 (q2 : Int), .int .i64 (q1 : Int)] 3)).size) (.cells #[.int .i64 (p2 : Int), .int .i64 (p1 : Int)] 3))
  go_enter Try.func76, Try.ntmps76
  go_wp2_with fail
  refine wp_region_held_drew (S := fun w' => w'.cell? ⟨g, 0, none⟩ = some (.int .i64 p1) ∧ w'.cell? ⟨g, 1, none⟩ = some (.int .i64 p2) ∧ w'.cell? ⟨h, 0, none⟩ = some (.int .i64 q1) ∧ w'.cell? ⟨h, 1, none⟩ = some (.int .i64 q2)) (by kernel_rfl) (SS.out _ hb0) (fun hHeld => ?_)
  clear n0 n1 n2 n3
  refine wpAnyH_take (i := 0) (v := ?_) rfl (by kernel_rfl) (by kernel_rfl) (by kernel_rfl) (fun _ _ _ h => h) (Or.inl ⟨by rfl, ?_⟩) (by assumption) ?_
  rotate_left
  · (intro w hSw; (try dsimp only at hSw); obtain ⟨m0, m1, m2, m3⟩ := hSw; go_simp; with_reducible rfl)
  (try simp only [Act.put, List.setIfInBounds_toArray, List.set_cons_zero, List.set_cons_succ])
  refine wpAnyH_take (i := 1) (v := ?_) rfl (by kernel_rfl) (by kernel_rfl) (by kernel_rfl) (fun _ _ _ h => h) (Or.inl ⟨by rfl, ?_⟩) (by assumption) ?_
  rotate_left
  · (intro w hSw; (try dsimp only at hSw); obtain ⟨m0, m1, m2, m3⟩ := hSw; go_simp; with_reducible rfl)
  (try simp only [Act.put, List.setIfInBounds_toArray, List.set_cons_zero, List.set_cons_succ])
  refine wpAnyH_take (i := 2) (v := ?_) rfl (by kernel_rfl) (by kernel_rfl) (by kernel_rfl) (fun _ _ _ h => h) (Or.inl ⟨by rfl, ?_⟩) (by assumption) ?_
  rotate_left
  · (intro w hSw; (try dsimp only at hSw); obtain ⟨m0, m1, m2, m3⟩ := hSw; go_simp; with_reducible rfl)
  (try simp only [Act.put, List.setIfInBounds_toArray, List.set_cons_zero, List.set_cons_succ])
  refine wpAnyH_take (i := 3) (v := ?_) rfl (by kernel_rfl) (by kernel_rfl) (by kernel_rfl) (fun _ _ _ h => h) (Or.inl ⟨by rfl, ?_⟩) (by assumption) ?_
  rotate_left
  · (intro w hSw; (try dsimp only at hSw); obtain ⟨m0, m1, m2, m3⟩ := hSw; go_simp; with_reducible rfl)
  (try simp only [Act.put, List.setIfInBounds_toArray, List.set_cons_zero, List.set_cons_succ])
  refine wpAnyH_take (i := 4) (v := ?_) rfl (by kernel_rfl) (by kernel_rfl) (by kernel_rfl) (fun _ _ _ h => h) (Or.inl ⟨by rfl, ?_⟩) (by assumption) ?_
  rotate_left
  · (intro w hSw; (try dsimp only at hSw); obtain ⟨m0, m1, m2, m3⟩ := hSw; go_simp; with_reducible rfl)
  (try simp only [Act.put, List.setIfInBounds_toArray, List.set_cons_zero, List.set_cons_succ])
  refine wpAnyH_take (i := 5) (v := ?_) rfl (by kernel_rfl) (by kernel_rfl) (by kernel_rfl) (fun _ _ _ h => h) (Or.inl ⟨by rfl, ?_⟩) (by assumption) ?_
  rotate_left
  · (intro w hSw; (try dsimp only at hSw); obtain ⟨m0, m1, m2, m3⟩ := hSw; go_simp; with_reducible rfl)
  (try simp only [Act.put, List.setIfInBounds_toArray, List.set_cons_zero, List.set_cons_succ])
  refine wpAnyH_take (i := 7) (v := ?_) rfl (by kernel_rfl) (by kernel_rfl) (by kernel_rfl) (fun _ _ _ h => h) (Or.inl ⟨by rfl, ?_⟩) (by assumption) ?_
  rotate_left
  · (intro w hSw; (try dsimp only at hSw); obtain ⟨m0, m1, m2, m3⟩ := hSw; go_simp; with_reducible rfl)
  (try simp only [Act.put, List.setIfInBounds_toArray, List.set_cons_zero, List.set_cons_succ])
  refine wpAnyH_take (i := 8) (v := ?_) rfl (by kernel_rfl) (by kernel_rfl) (by kernel_rfl) (fun _ _ _ h => h) (Or.inl ⟨by rfl, ?_⟩) (by assumption) ?_
  rotate_left
  · (intro w hSw; (try dsimp only at hSw); obtain ⟨m0, m1, m2, m3⟩ := hSw; go_simp; with_reducible rfl)
  (try simp only [Act.put, List.setIfInBounds_toArray, List.set_cons_zero, List.set_cons_succ])
  refine wpAnyH_take (i := 9) (v := ?_) rfl (by kernel_rfl) (by kernel_rfl) (by kernel_rfl) (fun _ _ _ h => h) (Or.inl ⟨by rfl, ?_⟩) (by assumption) ?_
  rotate_left
  · (intro w hSw; (try dsimp only at hSw); obtain ⟨m0, m1, m2, m3⟩ := hSw; go_simp; with_reducible rfl)
  (try simp only [Act.put, List.setIfInBounds_toArray, List.set_cons_zero, List.set_cons_succ])
  refine wpAnyH_take (i := 10) (v := ?_) rfl (by kernel_rfl) (by kernel_rfl) (by kernel_rfl) (fun _ _ _ h => h) (Or.inl ⟨by rfl, ?_⟩) (by assumption) ?_
  rotate_left
  · (intro w hSw; (try dsimp only at hSw); obtain ⟨m0, m1, m2, m3⟩ := hSw; go_simp; with_reducible rfl)
  (try simp only [Act.put, List.setIfInBounds_toArray, List.set_cons_zero, List.set_cons_succ])
  refine wpAnyH_take (i := 11) (v := ?_) rfl (by kernel_rfl) (by kernel_rfl) (by kernel_rfl) (fun _ _ _ h => h) (Or.inl ⟨by rfl, ?_⟩) (by assumption) ?_
  rotate_left
  · (intro w hSw; (try dsimp only at hSw); obtain ⟨m0, m1, m2, m3⟩ := hSw; go_simp; with_reducible rfl)
  (try simp only [Act.put, List.setIfInBounds_toArray, List.set_cons_zero, List.set_cons_succ])
  refine wpAnyH_take (i := 12) (v := ?_) rfl (by kernel_rfl) (by kernel_rfl) (by kernel_rfl) (fun _ _ _ h => h) (Or.inl ⟨by rfl, ?_⟩) (by assumption) ?_
  rotate_left
  · (intro w hSw; (try dsimp only at hSw); obtain ⟨m0, m1, m2, m3⟩ := hSw; go_simp; with_reducible rfl)
  (try simp only [Act.put, List.setIfInBounds_toArray, List.set_cons_zero, List.set_cons_succ])
  refine wpAnyH_ready (rs := [6, 13]) (by kernel_rfl) (by simp) ?_
  refine AllReadyH.cons rfl (fun K hK => ?_) (AllReadyH.cons rfl (fun K hK => ?_) AllReadyH.nil)
  · go_simp
    refine hK.out _ _ (SS.out _ (hb0.alloc (Nat.le_refl _) (.cells #[.int .i64 (p2 : Int), .int .i64 (p1 : Int)] 3))) (fun hHx => ?_)
    clear hHx hK K
    (try simp only [Act.put, List.setIfInBounds_toArray, List.set_cons_zero, List.set_cons_succ])
    refine wpAnyH_ready (rs := [13]) (by kernel_rfl) (by simp) ?_
    refine AllReadyH.cons rfl (fun K hK => ?_) AllReadyH.nil
    go_simp
    refine hK.out _ _ (SS.out _ (HW6.out)) (fun hHx => ?_)
    clear hHx hK K
    (try simp only [Act.put, List.setIfInBounds_toArray, List.set_cons_zero, List.set_cons_succ])
    refine wpAnyH_ready (rs := [14]) (by kernel_rfl) (by simp) ?_
    refine AllReadyH.cons rfl (fun K hK => ?_) AllReadyH.nil
    go_simp
    go_at_call 77
    refine (CC.out _ _ _ _ _ (HA.out.1.1) (HA.out.1.2) (HA.out.2.1.1) (HA.out.2.1.2)).mono ?_
    rintro e w' ⟨rfl, rfl⟩
    go_wp2_with fail
    refine hK.out _ _ (SS.out _ (HW6.out)) (fun hHx => ?_)
    clear hHx hK K
    (try simp only [Act.put, List.setIfInBounds_toArray, List.set_cons_zero, List.set_cons_succ])
    refine wpAnyH_ready (rs := [15]) (by kernel_rfl) (by simp) ?_
    refine AllReadyH.cons rfl (fun K hK => ?_) AllReadyH.nil
    go_simp
    refine hK.out _ _ (SS.out _ (HW6.out)) (fun hHx => ?_)
    clear hHx hK K
    (try simp only [Act.put, List.setIfInBounds_toArray, List.set_cons_zero, List.set_cons_succ])
    refine wpAnyH_done (by kernel_rfl) ?_ _
    go_wp2
    go_ret
    exact ⟨rfl, HW6.out⟩
  · go_simp
    refine hK.out _ _ (SS.out _ (hb0.alloc (Nat.le_refl _) (.cells #[.int .i64 (q2 : Int), .int .i64 (q1 : Int)] 3))) (fun hHx => ?_)
    clear hHx hK K
    (try simp only [Act.put, List.setIfInBounds_toArray, List.set_cons_zero, List.set_cons_succ])
    refine wpAnyH_ready (rs := [6]) (by kernel_rfl) (by simp) ?_
    refine AllReadyH.cons rfl (fun K hK => ?_) AllReadyH.nil
    go_simp
    refine hK.out _ _ (SS.out _ (HW13.out)) (fun hHx => ?_)
    clear hHx hK K
    (try simp only [Act.put, List.setIfInBounds_toArray, List.set_cons_zero, List.set_cons_succ])
    refine wpAnyH_ready (rs := [14]) (by kernel_rfl) (by simp) ?_
    refine AllReadyH.cons rfl (fun K hK => ?_) AllReadyH.nil
    go_simp
    go_at_call 77
    refine (CC.out _ _ _ _ _ (HA.out.2.2.2.1) (HA.out.2.2.2.2) (HA.out.2.2.1.1) (HA.out.2.2.1.2)).mono ?_
    rintro e w' ⟨rfl, rfl⟩
    go_wp2_with fail
    refine hK.out _ _ (SS.out _ (HW13.out)) (fun hHx => ?_)
    clear hHx hK K
    (try simp only [Act.put, List.setIfInBounds_toArray, List.set_cons_zero, List.set_cons_succ])
    refine wpAnyH_ready (rs := [15]) (by kernel_rfl) (by simp) ?_
    refine AllReadyH.cons rfl (fun K hK => ?_) AllReadyH.nil
    go_simp
    refine hK.out _ _ (SS.out _ (HW13.out)) (fun hHx => ?_)
    clear hHx hK K
    (try simp only [Act.put, List.setIfInBounds_toArray, List.set_cons_zero, List.set_cons_succ])
    refine wpAnyH_done (by kernel_rfl) ?_ _
    go_wp2
    go_ret
    exact ⟨rfl, HW13.out⟩
set_option maxHeartbeats 2000000 in
theorem minFunc_any (A : Option Addr) (n c : Nat) (ps : List (Nat × Nat)) (gs : List Nat) (w : World) (rd : Rd w A n (gs.map slcV)) (h1 : gs.length = ps.length) (hb : ∀ (i : Nat) (h1 : i < gs.length) (h2 : i < ps.length), Blk w gs[i] 3 (intV (pairL ps[i])).toArray) (hn : 1 ≤ n) (hn2 : n ≤ 1048576) :
    Calls Try.prog 75 #[.slice A n c, .func (.func 76) #[] #[]] w fun e w' => e = .returned (slcV (gs.getD (bestC ps n) 0)) ∧ Below w.heap.size w w' := by
  have hgl : gs.length = n := by have := rd.1; rw [List.length_map] at this; exact this
  have AT := hid (fun (k : Nat) (hk : k < n) => (show ∃ b o, A = some ⟨b, o, none⟩ ∧ w.cell? ⟨b, o + k, none⟩ = some (slcV (gs.getD k 0)) from by
    obtain ⟨b, o, hA, hc⟩ := rd.at_ hk
    refine ⟨b, o, hA, ?_⟩
    rw [hc]
    simp [List.getD, show k < gs.length by omega]))
  have BK := hid (fun (k : Nat) (hk : k < n) => (show Blk w (gs.getD k 0) 3 (intV (pairL (pAt ps k))).toArray from by
    have := hb k (by omega) (by omega)
    rw [pAt_get _ _ (by omega)]
    simpa [List.getD, show k < gs.length by omega] using this))
  obtain ⟨b, o, rfl, hc0⟩ := AT.out 0 (by omega)
  have i0 : ¬ (n : Int) < 1 := by omega
  have i1 : (0 : Int) < (n : Int) := by omega
  have hc0 : w.cell? ⟨b, o, none⟩ = some (slcV (gs.getD 0 0)) := hc0
  have HB0 := hid (show slcV (gs.getD 0 0) = slcV (gs.getD (bestC ps 1) 0) by rw [show bestC ps 1 = 0 by rw [bestC]; split <;> rfl])
  rw [HB0.out] at hc0
  obtain ⟨g0, hg0⟩ : ∃ g, g = gs.getD (bestC ps 1) 0 := ⟨_, rfl⟩
  rw [← hg0] at hc0
  have HG0 := hid hg0
  have hbl := hid (show ∀ k, 1 ≤ k → k ≤ n → bestC ps k < k from fun k h1 h2 => by
    clear hc0 HB0 HG0 hg0 i0 i1 hn2
    induction k with
    | zero => omega
    | succ k ih =>
      rw [bestC]
      split
      · omega
      · by_cases h0 : k = 0
        · subst h0; simp [bestC]
        · have := ih (by omega) (by omega); omega)
  clear rd hb h1 hgl HB0 hg0
  unfold slcV at hc0
  go_enter Try.func75, Try.ntmps75
  go_wp2
  go_loopg [5, 6] (n - 1) (fun gk m x wr => ∃ k : Nat, 1 ≤ k ∧ k ≤ n ∧ gk = n - k ∧ x = .int .i64 k ∧ m = slcV (gs.getD (bestC ps k) 0) ∧ Below w.heap.size w wr)
  case atStart => exact ⟨1, by omega, hn, rfl, rfl, by rw [← HG0.out]; rfl, Below.refl _ _⟩
  case round =>
    obtain ⟨k, hk1, hk, rfl, rfl, rfl, hb⟩ := hrel
    by_cases hlt : k < n
    · obtain ⟨b', o', e, hc⟩ := AT.out k hlt
      obtain ⟨rfl, rfl⟩ : b = b' ∧ o = o' := by injection e with e; injection e with e1 e2; exact ⟨e1, e2⟩
      have hck := (hb.cell (World.block_lt_of_cell? w _ hc)).trans hc
      have X := BK.out k hlt
      have Y := BK.out (bestC ps k) (by have := hbl.out k hk1 hk; omega)
      have CL := hid (fun W' (h : Below w.heap.size w W') => closure_any _ _ _ _ W' (X.below h X.lt) (Y.below h Y.lt))
      have HN := hid (show bestC ps (k + 1) = if cmpP (pAt ps k) (pAt ps (bestC ps k)) < 0 then k else bestC ps k from rfl)
      obtain ⟨gk, hgk⟩ : ∃ g, g = gs.getD k 0 := ⟨_, rfl⟩
      obtain ⟨gm, hgm⟩ : ∃ g, g = gs.getD (bestC ps k) 0 := ⟨_, rfl⟩
      rw [← hgk] at CL hck
      rw [← hgm] at CL ⊢
      generalize cmpP (pAt ps k) (pAt ps (bestC ps k)) = r at *
      have HK := hid hgk
      have HM := hid hgm
      have HB := hid hb
      have j0 : (0 : Int) ≤ (k : Int) := by omega
      have j1 : (k : Int) < (n : Int) := by omega
      have hcK := hid (fun W' (h : Below wr.heap.size wr W') => (h.cell (World.block_lt_of_cell? wr _ hck)).trans hck)
      clear hgk hgm hb hc X Y e hc0
      unfold slcV at hck CL hcK ⊢
      by_cases hr : r < 0
      · have HR := hid (show bestC ps (k + 1) = k by rw [HN.out, if_pos hr])
        go_wp2_with fail
        refine (CL.out _ HB.out).mono ?_
        rintro e w' ⟨rfl, b'⟩
        have hck := hcK.out _ b'
        go_wp2
        go_roundg (n - (k + 1))
        case measure => omega
        case rel => exact ⟨k + 1, by omega, by omega, rfl, by go_num, by rw [HR.out, ← HK.out]; rfl, HB.out.trans (b'.mono HB.out.size)⟩
      · have HR := hid (show bestC ps (k + 1) = bestC ps k by rw [HN.out, if_neg hr])
        go_wp2_with fail
        refine (CL.out _ HB.out).mono ?_
        rintro e w' ⟨rfl, b'⟩
        go_wp2
        go_roundg (n - (k + 1))
        case measure => omega
        case rel => exact ⟨k + 1, by omega, by omega, rfl, by go_num, by rw [HR.out, ← HM.out]; rfl, HB.out.trans (b'.mono HB.out.size)⟩
    · obtain rfl : k = n := by omega
      have HB := hid hb
      clear hb hc0
      unfold slcV
      go_wp2
      go_ret
      exact ⟨rfl, HB.out⟩
end Go.Proofs.Ytiajeheonoebnaa
