/- Contracts of the program's reader of place notation: whether a block ends, a change. No conditions beyond those stated. -/
import Derived.Test.YtamcopnghjoboaaNotT2
import Derived.Test.YtamcopnghjoboaaSkip
set_option linter.unusedVariables false
set_option linter.unusedSimpArgs false
set_option maxRecDepth 100000
namespace Go.Proofs.Ytamcopnghjoboaa
open Go.RowKit

/-- The program's reader: its stage, its text, where it stands, where a change is wrong. -/
def NotB (w : World) (G N : Nat) (s : List UInt8) (a : Nat) (b : Int) : Prop := Blk w G 38 #[.int .i64 (N : Int), .string (bs s), .int .i64 (a : Int), .int .i64 b]
theorem NotB.cells {w : World} {G N : Nat} {s : List UInt8} {a : Nat} {b : Int} (h : NotB w G N s a b) : w.cell? ⟨G, 0, none⟩ = some (.int .i64 (N : Int)) ∧ w.cell? ⟨G, 1, none⟩ = some (.string (bs s)) ∧ w.cell? ⟨G, 2, none⟩ = some (.int .i64 (a : Int)) ∧ w.cell? ⟨G, 3, none⟩ = some (.int .i64 b) := ⟨h.cell 0, h.cell 1, h.cell 2, h.cell 3⟩
theorem NotB.drewN {w : World} {G N : Nat} {s : List UInt8} {a : Nat} {b : Int} (h : NotB w G N s a b) (k : Nat) : NotB (w.drewN k) G N s a b := Blk.drewN h k
theorem NotB.below {w w' : World} {G N : Nat} {s : List UInt8} {a : Nat} {b : Int} (h : NotB w G N s a b) (hb : Below w.heap.size w w') : NotB w' G N s a b := Blk.below h hb h.lt
theorem NotB.at_ {w : World} {G N : Nat} {s : List UInt8} {a : Nat} {b : Int} (h : NotB w G N s a b) (x : Nat) : NotB (w.setCell ⟨G, 2, none⟩ (.int .i64 (x : Int))) G N s x b := by
  have := Blk.set_ h 2 (.int .i64 (x : Int)); simpa [NotB] using this
theorem NotB.bad {w : World} {G N : Nat} {s : List UInt8} {a : Nat} {b : Int} (h : NotB w G N s a b) (x : Int) : NotB (w.setCell ⟨G, 3, none⟩ (.int .i64 x)) G N s a x := by
  have := Blk.set_ h 3 (.int .i64 x); simpa [NotB] using this
theorem grown_drewN {w w' : World} {r : Option Nat} (h : w.grownBy w' r) (k : Nat) : w.grownBy (w'.drewN k) r := ⟨h.os, h.tape, h.output, h.size, h.block⟩
def endsB (s : List UInt8) (a : Nat) : Bool := decide (a = s.length) || decide (s.getD a 0 = 44)
theorem byte_eqI (x : UInt8) (k : Nat) (hk : k < 256) : ((x.toNat : Int) == (k : Int)) = decide (x = UInt8.ofNat k) := by
  rw [Bool.eq_iff_iff]
  simp only [beq_iff_eq, decide_eq_true_eq]
  constructor
  · intro h
    have h2 : x.toNat = k := by omega
    apply UInt8.toNat_inj.1
    rw [h2, UInt8.toNat_ofNat']; omega
  · rintro rfl
    rw [UInt8.toNat_ofNat']; omega
set_option maxHeartbeats 2000000 in
theorem ends_any (G N : Nat) (s : List UInt8) (a : Nat) (w : World) (h : NotB w G N s a (-1)) (ha : a ≤ s.length) (hs : s.length ≤ 1000) :
    Calls Try.prog 22 #[.pointer (some ⟨G, 0, none⟩)] w fun e w' => e = .returned (.bool (endsB s a)) ∧ w' = w.drew := by
  have HB := hid h
  clear h
  by_cases hlt : a < s.length
  · have hne : ((a : Int) == (s.length : Int)) = false := by simp; omega
    have hneN : (a == s.length) = false := by simp; omega
    have j0 : (0 : Int) ≤ (a : Int) := by omega
    have j1 : (a : Int) < (s.length : Int) := by omega
    obtain ⟨X, hX⟩ : ∃ X, s[a] = X := ⟨_, rfl⟩
    obtain ⟨B, hB⟩ : ∃ B, decide (X = 44) = B := ⟨_, rfl⟩
    have HR := hid (show endsB s a = B by unfold endsB; rw [decide_eq_false (show ¬ a = s.length by omega), ← hB, ← hX]; simp [List.getD, hlt])
    have e44 : ((X.toNat : Int) == 44) = B := by rw [← hB]; exact byte_eqI X 44 (by omega)
    have e44N : (X.toNat == 44) = B := by
      rw [← e44, Bool.eq_iff_iff]; simp; omega
    clear hB ha hs
    go_enter Try.func22, Try.ntmps22
    go_wp2_with fail
    obtain ⟨n0, n1, n2, n3⟩ := HB.out.cells
    go_region_held3 (fun w' => w'.cell? ⟨G, 0, none⟩ = some (.int .i64 (N : Int)) ∧ w'.cell? ⟨G, 1, none⟩ = some (.string (bs s)) ∧ w'.cell? ⟨G, 2, none⟩ = some (.int .i64 (a : Int)) ∧ w'.cell? ⟨G, 3, none⟩ = some (.int .i64 (-1)))
      (first | exact HB.out.cells | exact (HB.out.drewN 1).cells)
      (fail)
    clear n0 n1 n2 n3
    go_wp2
    go_ret
    exact ⟨ret_bool HR.out.symm, rfl⟩
  · obtain rfl : a = s.length := by omega
    have HR := hid (show endsB s s.length = true by simp [endsB])
    clear ha hs hlt
    go_enter Try.func22, Try.ntmps22
    go_wp2_with fail
    refine wp_region_held_drew (S := fun w' => w'.cell? ⟨G, 0, none⟩ = some (.int .i64 (N : Int)) ∧ w'.cell? ⟨G, 1, none⟩ = some (.string (bs s)) ∧ w'.cell? ⟨G, 2, none⟩ = some (.int .i64 (s.length : Int)) ∧ w'.cell? ⟨G, 3, none⟩ = some (.int .i64 (-1))) (by kernel_rfl) ((HB.out.drewN 1).cells) (fun hHeld => ?_)
    refine wpAnyH_take (i := 0) (v := ?_) rfl (by kernel_rfl) (by kernel_rfl) (by kernel_rfl) (fun _ _ _ h => h) (Or.inl ⟨by rfl, ?_⟩) (by assumption) ?_
    rotate_left
    · (intro w hSw; (try dsimp only at hSw); go_simp; with_reducible rfl)
    try simp only [Act.put, List.setIfInBounds_toArray, List.set_cons_zero, List.set_cons_succ]
    refine wpAnyH_take (i := 1) (v := ?_) rfl (by kernel_rfl) (by kernel_rfl) (by kernel_rfl) (fun _ _ _ h => h) (Or.inl ⟨by rfl, ?_⟩) (by assumption) ?_
    rotate_left
    · (intro w hSw; (try dsimp only at hSw); go_simp; with_reducible rfl)
    try simp only [Act.put, List.setIfInBounds_toArray, List.set_cons_zero, List.set_cons_succ]
    refine wpAnyH_take (i := 2) (v := ?_) rfl (by kernel_rfl) (by kernel_rfl) (by kernel_rfl) (fun _ _ _ h => h) (Or.inl ⟨by rfl, ?_⟩) (by assumption) ?_
    rotate_left
    · (intro w hSw; (try dsimp only at hSw); go_simp; with_reducible rfl)
    try simp only [Act.put, List.setIfInBounds_toArray, List.set_cons_zero, List.set_cons_succ]
    refine wpAnyH_take (i := 3) (v := ?_) rfl (by kernel_rfl) (by kernel_rfl) (by kernel_rfl) (fun _ _ _ h => h) (Or.inl ⟨by rfl, ?_⟩) (by assumption) ?_
    rotate_left
    · (intro w hSw; (try dsimp only at hSw); go_simp; with_reducible rfl)
    try simp only [Act.put, List.setIfInBounds_toArray, List.set_cons_zero, List.set_cons_succ]
    refine wpAnyH_take (i := 4) (v := ?_) rfl (by kernel_rfl) (by kernel_rfl) (by kernel_rfl) (fun _ _ _ h => h) (Or.inl ⟨by rfl, ?_⟩) (by assumption) ?_
    rotate_left
    · (intro w hSw; (try dsimp only at hSw); go_simp; with_reducible rfl)
    try simp only [Act.put, List.setIfInBounds_toArray, List.set_cons_zero, List.set_cons_succ]
    refine wpAnyH_take (i := 5) (v := ?_) rfl (by kernel_rfl) (by kernel_rfl) (by kernel_rfl) (fun _ _ _ h => h) (Or.inl ⟨by rfl, ?_⟩) (by assumption) ?_
    rotate_left
    · (intro w hSw; (try dsimp only at hSw); go_simp; with_reducible rfl)
    try simp only [Act.put, List.setIfInBounds_toArray, List.set_cons_zero, List.set_cons_succ]
    refine wpAnyH_take (i := 6) (v := ?_) rfl (by kernel_rfl) (by kernel_rfl) (by kernel_rfl) (fun _ _ _ h => h) (Or.inl ⟨by rfl, ?_⟩) (by assumption) ?_
    rotate_left
    · (intro w hSw; (try dsimp only at hSw); go_simp; with_reducible rfl)
    try simp only [Act.put, List.setIfInBounds_toArray, List.set_cons_zero, List.set_cons_succ]
    refine wpAnyH_take (i := 7) (v := ?_) rfl (by kernel_rfl) (by kernel_rfl) (by kernel_rfl) (fun _ _ _ h => h) (Or.inl ⟨by rfl, ?_⟩) (by assumption) ?_
    rotate_left
    · (intro w hSw; (try dsimp only at hSw); go_simp; with_reducible rfl)
    try simp only [Act.put, List.setIfInBounds_toArray, List.set_cons_zero, List.set_cons_succ]
    refine wpAnyH_take (i := 8) (v := ?_) rfl (by kernel_rfl) (by kernel_rfl) (by kernel_rfl) (fun _ _ _ h => h) (Or.inl ⟨by rfl, ?_⟩) (by assumption) ?_
    rotate_left
    · (intro w hSw; (try dsimp only at hSw); go_simp; with_reducible rfl)
    try simp only [Act.put, List.setIfInBounds_toArray, List.set_cons_zero, List.set_cons_succ]
    refine wpAnyH_take (i := 9) (v := ?_) rfl (by kernel_rfl) (by kernel_rfl) (by kernel_rfl) (fun _ _ _ h => h) (Or.inl ⟨by rfl, ?_⟩) (by assumption) ?_
    rotate_left
    · (intro w hSw; (try dsimp only at hSw); go_simp; with_reducible rfl)
    try simp only [Act.put, List.setIfInBounds_toArray, List.set_cons_zero, List.set_cons_succ]
    refine wpAnyH_take (i := 10) (v := ?_) rfl (by kernel_rfl) (by kernel_rfl) (by kernel_rfl) (fun _ _ _ h => h) (Or.inl ⟨by rfl, ?_⟩) (by assumption) ?_
    rotate_left
    · (intro w hSw; (try dsimp only at hSw); go_simp; with_reducible rfl)
    try simp only [Act.put, List.setIfInBounds_toArray, List.set_cons_zero, List.set_cons_succ]
    refine wpAnyH_pass (i := 11) (d := some 14) (by kernel_rfl) (by kernel_rfl) (by kernel_rfl) (by kernel_rfl) (fun _ _ _ _ h => h) (by kernel_rfl) (by assumption) ?_
    try simp only [Act.put, List.setIfInBounds_toArray, List.set_cons_zero, List.set_cons_succ]
    refine wpAnyH_pass (i := 12) (d := some 15) (by kernel_rfl) (by kernel_rfl) (by kernel_rfl) (by kernel_rfl) (fun _ _ _ _ h => h) (by kernel_rfl) (by assumption) ?_
    try simp only [Act.put, List.setIfInBounds_toArray, List.set_cons_zero, List.set_cons_succ]
    refine wpAnyH_pass (i := 13) (d := some 16) (by kernel_rfl) (by kernel_rfl) (by kernel_rfl) (by kernel_rfl) (fun _ _ _ _ h => h) (by kernel_rfl) (by assumption) ?_
    try simp only [Act.put, List.setIfInBounds_toArray, List.set_cons_zero, List.set_cons_succ]
    refine wpAnyH_pass (i := 14) (d := some 17) (by kernel_rfl) (by kernel_rfl) (by kernel_rfl) (by kernel_rfl) (fun _ _ _ _ h => h) (by kernel_rfl) (by assumption) ?_
    try simp only [Act.put, List.setIfInBounds_toArray, List.set_cons_zero, List.set_cons_succ]
    refine wpAnyH_pass (i := 15) (d := some 18) (by kernel_rfl) (by kernel_rfl) (by kernel_rfl) (by kernel_rfl) (fun _ _ _ _ h => h) (by kernel_rfl) (by assumption) ?_
    try simp only [Act.put, List.setIfInBounds_toArray, List.set_cons_zero, List.set_cons_succ]
    refine wpAnyH_pass (i := 16) (d := some 19) (by kernel_rfl) (by kernel_rfl) (by kernel_rfl) (by kernel_rfl) (fun _ _ _ _ h => h) (by kernel_rfl) (by assumption) ?_
    try simp only [Act.put, List.setIfInBounds_toArray, List.set_cons_zero, List.set_cons_succ]
    refine wpAnyH_pass (i := 17) (d := some 20) (by kernel_rfl) (by kernel_rfl) (by kernel_rfl) (by kernel_rfl) (fun _ _ _ _ h => h) (by kernel_rfl) (by assumption) ?_
    try simp only [Act.put, List.setIfInBounds_toArray, List.set_cons_zero, List.set_cons_succ]
    refine wpAnyH_pass (i := 18) (d := some 21) (by kernel_rfl) (by kernel_rfl) (by kernel_rfl) (by kernel_rfl) (fun _ _ _ _ h => h) (by kernel_rfl) (by assumption) ?_
    try simp only [Act.put, List.setIfInBounds_toArray, List.set_cons_zero, List.set_cons_succ]
    refine wpAnyH_pass (i := 19) (d := some 22) (by kernel_rfl) (by kernel_rfl) (by kernel_rfl) (by kernel_rfl) (fun _ _ _ _ h => h) (by kernel_rfl) (by assumption) ?_
    try simp only [Act.put, List.setIfInBounds_toArray, List.set_cons_zero, List.set_cons_succ]
    refine wpAnyH_pass (i := 20) (d := some 23) (by kernel_rfl) (by kernel_rfl) (by kernel_rfl) (by kernel_rfl) (fun _ _ _ _ h => h) (by kernel_rfl) (by assumption) ?_
    try simp only [Act.put, List.setIfInBounds_toArray, List.set_cons_zero, List.set_cons_succ]
    refine wpAnyH_take (i := 21) (v := ?_) rfl (by kernel_rfl) (by kernel_rfl) (by kernel_rfl) (fun _ _ _ h => h) (Or.inl ⟨by rfl, ?_⟩) (by assumption) ?_
    rotate_left
    · (intro w hSw; (try dsimp only at hSw); go_simp; with_reducible rfl)
    try simp only [Act.put, List.setIfInBounds_toArray, List.set_cons_zero, List.set_cons_succ]
    refine wpAnyH_ready (rs := [22]) (by kernel_rfl) (by simp) ?_
    refine AllReadyH.cons rfl (fun K hK => ?_) AllReadyH.nil
    go_simp
    refine hK.out _ _ (by assumption) (fun hHx => ?_)
    clear hHx hK K
    try simp only [Act.put, List.setIfInBounds_toArray, List.set_cons_zero, List.set_cons_succ]
    refine wpAnyH_done (by kernel_rfl) ?_ _
    go_wp2
    go_ret
    exact ⟨ret_bool HR.out.symm, rfl⟩
end Go.Proofs.Ytamcopnghjoboaa
