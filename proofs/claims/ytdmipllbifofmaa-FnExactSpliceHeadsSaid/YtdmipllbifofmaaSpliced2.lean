/- Contracts of GoodSpliced, in the reference and in the program. No conditions beyond those stated. -/
import Derived.Test.YtdmipllbifofmaaSpliced
import Derived.Test.YtdmipllbifofmaaCalls
import Derived.Test.YtdmipllbifofmaaSkip
import Derived.Test.YtdmipllbifofmaaBox1
set_option linter.unusedVariables false
set_option linter.unusedSimpArgs false
set_option maxRecDepth 100000
namespace Go.Proofs.Ytdmipllbifofmaa
open Go.RowKit

set_option maxHeartbeats 2000000 in
theorem specGoodSpliced_any (g : Nat) (ms : List Meth) (vs : List Value) (k1 k2 : List UInt8) (w : World) (h : MethsTo w g ms ms.length vs) (ok : ∀ m ∈ ms, MOk m) (hn : ms.length ≤ 1048576) (hk1 : k1.length ≤ 1048576) (hk2 : k2.length ≤ 1048576) :
    Calls Try.prog 45 #[.slice (some ⟨g, 0, none⟩) ms.length ms.length, .agg #[.string (bs k1), .string (bs k2)]] w fun e w' => e = .returned (.bool (splicedB ms (k1, k2))) ∧ Below w.heap.size w w' := by
  have H := hid h
  have OK := hid ok
  have GL := hid (fun w0 (b0 : Below w.heap.size w w0) => l14Methods_any g ms vs w0 (h.below b0) ok hn)
  obtain ⟨n, hn'⟩ : ∃ n, n = ms.length := ⟨_, rfl⟩
  have HL := hid hn'
  rw [← hn'] at hn ⊢ GL
  clear h ok
  have hni : n = ms.length := hn'
  clear hn'
  cases hcond : (methsB ms && countB ms)
  · have HR := hid (show splicedB ms (k1, k2) = false by rw [splicedB, hcond]; rfl)
    rw [hcond] at GL
    clear hcond hni
    go_enter Try.func45, Try.ntmps45
    go_wp2_with fail
    have K1 := Blk.new w 32 #[.string (bs k1), .string (bs k2)]
    have BK : Below w.heap.size w (w.alloc (.cells #[.string (bs k1), .string (bs k2)] 32)) := (Below.refl _ _).alloc (Nat.le_refl _) _
    have hwK : w.heap.size ≤ (w.alloc (.cells #[.string (bs k1), .string (bs k2)] 32)).heap.size := BK.size
    have KC := hid (⟨K1.cell 0, K1.cell 1⟩ : _ ∧ _)
    clear K1
    generalize (w.alloc (.cells #[.string (bs k1), .string (bs k2)] 32)) = W1 at *
    have HBK := hid BK
    have HCC := hid (show ∀ w', Below W1.heap.size W1 w' → w'.cell? ⟨w.heap.size, 0, none⟩ = some (.string (bs k1)) ∧ w'.cell? ⟨w.heap.size, 1, none⟩ = some (.string (bs k2)) from fun w' h =>
      ⟨(h.cell (World.block_lt_of_cell? _ _ KC.out.1)).trans KC.out.1, (h.cell (World.block_lt_of_cell? _ _ KC.out.2)).trans KC.out.2⟩)
    clear KC BK
    have G1 := hid (fun w0 (b0 : Below W1.heap.size W1 w0) => GL.out w0 (HBK.out.trans (b0.mono hwK)))
    obtain ⟨q0, q1⟩ := HCC.out _ (Below.refl _ _)
    refine wp_region_held_drew (S := fun w' => w'.cell? ⟨w.heap.size, 0, none⟩ = some (.string (bs k1)) ∧ w'.cell? ⟨w.heap.size, 1, none⟩ = some (.string (bs k2))) (by kernel_rfl) (HCC.out _ (Below.refl _ _).drew) (fun hHeld => ?_)
    refine wpAnyH_take (i := 0) (v := ?_) rfl (by kernel_rfl) (by kernel_rfl) (by kernel_rfl) (fun _ _ _ h => h) (Or.inl ⟨by rfl, ?_⟩) (by assumption) ?_
    rotate_left
    · (intro w hSw; (try dsimp only at hSw); go_simp; with_reducible rfl)
    try simp only [Act.put, List.setIfInBounds_toArray, List.set_cons_zero, List.set_cons_succ]
    refine wpAnyH_ready (rs := [1]) (by kernel_rfl) (by simp) ?_
    refine AllReadyH.cons rfl (fun K hK => ?_) AllReadyH.nil
    go_simp
    go_at_call 78
    refine ((G1.out _ (Below.refl W1.heap.size W1).drew)).mono ?_
    rintro e wa ⟨rfl, ba⟩
    have Fa := (Below.refl W1.heap.size W1).drew.trans (ba.mono (Nat.le_refl _))
    go_wp2_with fail
    refine hK.out _ _ (HCC.out _ Fa) (fun hHx => ?_)
    clear hHx hK K hHeld
    try simp only [Act.put, List.setIfInBounds_toArray, List.set_cons_zero, List.set_cons_succ]
    refine wpAnyH_take (i := 2) (v := ?_) rfl (by kernel_rfl) (by kernel_rfl) (by kernel_rfl) (fun _ _ _ h => h) (Or.inl ⟨by rfl, ?_⟩) (HCC.out _ Fa) ?_
    rotate_left
    · (intro w hSw; (try dsimp only at hSw); go_simp; with_reducible rfl)
    try simp only [Act.put, List.setIfInBounds_toArray, List.set_cons_zero, List.set_cons_succ]
    refine wpAnyH_pass (i := 3) (d := some 8) (by kernel_rfl) (by kernel_rfl) (by kernel_rfl) (by kernel_rfl) (fun _ _ _ _ h => h) (by kernel_rfl) (HCC.out _ Fa) ?_
    try simp only [Act.put, List.setIfInBounds_toArray, List.set_cons_zero, List.set_cons_succ]
    refine wpAnyH_pass (i := 4) (d := some 9) (by kernel_rfl) (by kernel_rfl) (by kernel_rfl) (by kernel_rfl) (fun _ _ _ _ h => h) (by kernel_rfl) (HCC.out _ Fa) ?_
    try simp only [Act.put, List.setIfInBounds_toArray, List.set_cons_zero, List.set_cons_succ]
    refine wpAnyH_pass (i := 5) (d := some 10) (by kernel_rfl) (by kernel_rfl) (by kernel_rfl) (by kernel_rfl) (fun _ _ _ _ h => h) (by kernel_rfl) (HCC.out _ Fa) ?_
    try simp only [Act.put, List.setIfInBounds_toArray, List.set_cons_zero, List.set_cons_succ]
    refine wpAnyH_pass (i := 6) (d := some 11) (by kernel_rfl) (by kernel_rfl) (by kernel_rfl) (by kernel_rfl) (fun _ _ _ _ h => h) (by kernel_rfl) (HCC.out _ Fa) ?_
    try simp only [Act.put, List.setIfInBounds_toArray, List.set_cons_zero, List.set_cons_succ]
    refine wpAnyH_pass (i := 7) (d := some 12) (by kernel_rfl) (by kernel_rfl) (by kernel_rfl) (by kernel_rfl) (fun _ _ _ _ h => h) (by kernel_rfl) (HCC.out _ Fa) ?_
    try simp only [Act.put, List.setIfInBounds_toArray, List.set_cons_zero, List.set_cons_succ]
    refine wpAnyH_take (i := 8) (v := ?_) rfl (by kernel_rfl) (by kernel_rfl) (by kernel_rfl) (fun _ _ _ h => h) (Or.inl ⟨by rfl, ?_⟩) (HCC.out _ Fa) ?_
    rotate_left
    · (intro w hSw; (try dsimp only at hSw); go_simp; with_reducible rfl)
    try simp only [Act.put, List.setIfInBounds_toArray, List.set_cons_zero, List.set_cons_succ]
    refine wpAnyH_ready (rs := [9]) (by kernel_rfl) (by simp) ?_
    refine AllReadyH.cons rfl (fun K hK => ?_) AllReadyH.nil
    go_simp
    refine hK.out _ _ (HCC.out _ Fa) (fun hHx => ?_)
    clear hHx hK K
    try simp only [Act.put, List.setIfInBounds_toArray, List.set_cons_zero, List.set_cons_succ]
    refine wpAnyH_done (by kernel_rfl) ?_ _
    have HFa := hid (HBK.out.trans (Fa.mono hwK))
    clear ba Fa q0 q1
    go_wp2
    go_ret
    exact ⟨ret_bool HR.out.symm, HFa.out⟩
  · have hcnt := hid (show countB ms = true by simp only [Bool.and_eq_true] at hcond; exact hcond.2)
    have hcond2 := hid hcond
    rw [hcond] at GL
    clear hcond
    go_enter Try.func45, Try.ntmps45
    go_wp2_with fail
    have K1 := Blk.new w 32 #[.string (bs k1), .string (bs k2)]
    have BK : Below w.heap.size w (w.alloc (.cells #[.string (bs k1), .string (bs k2)] 32)) := (Below.refl _ _).alloc (Nat.le_refl _) _
    have hwK : w.heap.size ≤ (w.alloc (.cells #[.string (bs k1), .string (bs k2)] 32)).heap.size := BK.size
    have KC := hid (⟨K1.cell 0, K1.cell 1⟩ : _ ∧ _)
    clear K1
    generalize (w.alloc (.cells #[.string (bs k1), .string (bs k2)] 32)) = W1 at *
    have HBK := hid BK
    have HCC := hid (show ∀ w', Below W1.heap.size W1 w' → w'.cell? ⟨w.heap.size, 0, none⟩ = some (.string (bs k1)) ∧ w'.cell? ⟨w.heap.size, 1, none⟩ = some (.string (bs k2)) from fun w' h =>
      ⟨(h.cell (World.block_lt_of_cell? _ _ KC.out.1)).trans KC.out.1, (h.cell (World.block_lt_of_cell? _ _ KC.out.2)).trans KC.out.2⟩)
    clear KC BK
    have G1 := hid (fun w0 (b0 : Below W1.heap.size W1 w0) => GL.out w0 (HBK.out.trans (b0.mono hwK)))
    have hpos : 0 < ms.length := by have := hcnt.out; simp [countB] at this; omega
    obtain ⟨M, n1, cc1, A1, hM, x0, x1, x2, _, r1⟩ := methsTo_at (H.out.below HBK.out) hpos
    have x0 : W1.cell? ⟨g, 0, none⟩ = some (Value.string (bs M.nm)) := by simpa using x0
    have x1 : W1.cell? ⟨g, 1, none⟩ = some (Value.int .i64 M.st) := by simpa using x1
    have x2 : W1.cell? ⟨g, 2, none⟩ = some (Value.slice A1 n1 cc1) := by simpa using x2
    have hMh : ms.headD default = M := (head_at ms hpos).trans hM
    have hmo := OK.out _ (List.getElem_mem hpos)
    rw [hM] at hmo
    obtain ⟨w1, w2, w3, w4⟩ := hmo
    have hn1 : n1 = M.ch.length := by have := r1.1; rw [strV_len] at this; exact this.symm
    have R1 := hid r1
    have G8 := hid (fun w0 (rd : Rd w0 A1 n1 (strV M.ch)) => l8Good_any M (k1, k2) A1 n1 cc1 w0 w1 w2 rd (by omega) w4 hk1 hk2)
    have HR := hid (show splicedB ms (k1, k2) = callsB M (k1, k2) by rw [splicedB, hcond2.out, hMh]; rfl)
    obtain ⟨P0, hP0⟩ : ∃ P0, P0 = callsB M (k1, k2) := ⟨_, rfl⟩
    rw [← hP0] at G8 HR
    have hi0 : (0 : Int) < (n : Int) := by omega
    have hi1 : 0 < n := by omega
    have HS5 := hid (show ∀ w', Below W1.heap.size W1 w' → w'.cell? ⟨w.heap.size, 0, none⟩ = some (.string (bs k1)) ∧ w'.cell? ⟨w.heap.size, 1, none⟩ = some (.string (bs k2)) ∧ w'.cell? ⟨g, 0, none⟩ = some (.string (bs M.nm)) ∧ w'.cell? ⟨g, 1, none⟩ = some (.int .i64 M.st) ∧ w'.cell? ⟨g, 2, none⟩ = some (.slice A1 n1 cc1) from fun w' h => by
      obtain ⟨a0, a1⟩ := HCC.out _ h
      exact ⟨a0, a1, (h.cell (World.block_lt_of_cell? _ _ x0)).trans x0, (h.cell (World.block_lt_of_cell? _ _ x1)).trans x1, (h.cell (World.block_lt_of_cell? _ _ x2)).trans x2⟩)
    clear hpos hM hMh r1 hn1 x0 x1 x2 w1 w2 w3 w4 hP0 hni
    obtain ⟨q0, q1, m0, m1, m2⟩ := HS5.out _ (Below.refl _ _)
    go_region_held3 (fun w' => w'.cell? ⟨w.heap.size, 0, none⟩ = some (.string (bs k1)) ∧ w'.cell? ⟨w.heap.size, 1, none⟩ = some (.string (bs k2)) ∧ w'.cell? ⟨g, 0, none⟩ = some (.string (bs M.nm)) ∧ w'.cell? ⟨g, 1, none⟩ = some (.int .i64 M.st) ∧ w'.cell? ⟨g, 2, none⟩ = some (.slice A1 n1 cc1))
      (first | exact HS5.out _ (Below.refl _ _) | exact HS5.out _ (Below.refl _ _).drew | exact HS5.out _ Fa | exact HS5.out _ Fb)
      (first | (go_at_call 78; refine (G1.out _ (Below.refl W1.heap.size W1).drew).mono ?_; rintro e wa ⟨rfl, ba⟩; have Fa := (Below.refl W1.heap.size W1).drew.trans (ba.mono (Nat.le_refl _))) | (go_at_call 57; refine (G8.out _ (R1.out.below Fa)).mono ?_; rintro e wb ⟨rfl, bb⟩; have Fb := Fa.trans (bb.mono Fa.size)))
    have HFb := hid (HBK.out.trans (Fb.mono hwK))
    clear ba bb Fa Fb q0 q1 m0 m1 m2
    go_wp2
    go_ret
    exact ⟨ret_bool HR.out.symm, HFb.out⟩
end Go.Proofs.Ytdmipllbifofmaa
