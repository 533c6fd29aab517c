/- Contracts of the two functions that say whether a text is a row. No conditions beyond those stated. -/
import Derived.Test.YtihaopijnkiafaaGreatDoorIn
import Derived.Test.YtihaopijnkiafaaGreatDoorRowP
set_option linter.unusedVariables false
set_option linter.unusedSimpArgs false
set_option maxRecDepth 100000
namespace Go.Proofs.YtihaopijnkiafaaGreatDoor
open Go.RowKit

/-- The first k places hold bells of the stage, each another one. -/
def rowTo (r : List UInt8) (k : Nat) : Prop := ∀ i, i < k → 49 ≤ (r.getD i 0).toNat ∧ (r.getD i 0).toNat < 49 + r.length ∧ ∀ j, j < i → r.getD j 0 ≠ r.getD i 0
/-- Whether a text is a row. -/
def rowB (r : List UInt8) : Bool := decide (3 ≤ r.length) && decide (r.length ≤ 8) && (List.range r.length).all fun i => decide (49 ≤ (r.getD i 0).toNat) && decide ((r.getD i 0).toNat < 49 + r.length) && (List.range i).all fun j => r.getD j 0 != r.getD i 0
theorem rowB_to (r : List UInt8) (h1 : 3 ≤ r.length) (h2 : r.length ≤ 8) : rowB r = true ↔ rowTo r r.length := by
  simp only [rowB, h1, h2, decide_true, Bool.true_and, List.all_eq_true, List.mem_range, Bool.and_eq_true, decide_eq_true_eq, bne_iff_ne, ne_eq, rowTo]
  constructor
  · intro h i hi
    exact ⟨(h i hi).1.1, (h i hi).1.2, (h i hi).2⟩
  · intro h i hi
    exact ⟨⟨(h i hi).1, (h i hi).2.1⟩, (h i hi).2.2⟩
theorem rowB_len {r : List UInt8} (h : rowB r = true) : 3 ≤ r.length ∧ r.length ≤ 8 := by
  simp only [rowB, Bool.and_eq_true, decide_eq_true_eq] at h
  exact ⟨h.1.1, h.1.2⟩
theorem rowB_iff (r : List UInt8) : rowB r = true ↔ IsRow r := by
  constructor
  · intro h
    obtain ⟨h1, h2⟩ := rowB_len h
    have h3 := (rowB_to r h1 h2).1 h
    refine ⟨h1, h2, fun i hi => ⟨(h3 i hi).1, (h3 i hi).2.1⟩, fun i j hi hj e => ?_⟩
    rcases Nat.lt_trichotomy i j with h4 | h4 | h4
    · exact absurd e ((h3 j hj).2.2 i h4)
    · exact h4
    · exact absurd e.symm ((h3 i hi).2.2 j h4)
  · intro h
    refine (rowB_to r h.lo h.hi).2 fun i hi => ⟨(h.rng i hi).1, (h.rng i hi).2, fun j hj e => ?_⟩
    have := h.inj j i (by omega) hi e
    omega
theorem rowB_no (r : List UInt8) (h : ¬ (3 ≤ r.length ∧ r.length ≤ 8)) : rowB r = false := by
  cases e : rowB r
  · rfl
  · exact absurd (rowB_len e) h
theorem rowB_bad (r : List UInt8) (i : Nat) (hi : i < r.length) (h : ¬ (49 ≤ r[i].toNat ∧ r[i].toNat < 49 + r.length)) : rowB r = false := by
  cases e : rowB r
  · rfl
  · have := ((rowB_iff r).1 e).rng i hi
    rw [gd_at _ _ hi] at this
    exact absurd this h
theorem rowB_twice (r : List UInt8) (i j : Nat) (hi : i < r.length) (hj : j < r.length) (hne : i ≠ j) (h : r[i] = r[j]) : rowB r = false := by
  cases e : rowB r
  · rfl
  · exact absurd (((rowB_iff r).1 e).inj i j hi hj (by rw [gd_at _ _ hi, gd_at _ _ hj, h])) hne
theorem rowTo_step {r : List UInt8} {k : Nat} (h : rowTo r k) (hk : k < r.length) (h1 : 49 ≤ r[k].toNat) (h2 : r[k].toNat < 49 + r.length) (h3 : ∀ j (hj : j < r.length), j < k → r[j] ≠ r[k]) : rowTo r (k + 1) := by
  intro i hi
  by_cases e : i = k
  · subst e
    rw [gd_at _ _ hk]
    exact ⟨h1, h2, fun j hj => by rw [gd_at _ _ (by omega)]; exact h3 j (by omega) hj⟩
  · exact h i (by omega)

theorem isStage_any (n : Int) (w : World) :
    Calls Tryz.prog 58 #[.int .i64 n] w fun e w' => e = .returned (.bool (decide (3 ≤ n) && decide (n ≤ 8))) ∧ w = w' := by
  go_enter Tryz.func58, Tryz.ntmps58
  go_wp2
  all_goals (go_ret; exact ⟨ret_bool (by simp [*] <;> omega), rfl⟩)
theorem bits_test : ((List.range 256).all fun s => (List.range 8).all fun d => decide (bits .and .i64 ((s : Int) / 2 ^ d) 1 = if s.testBit d then 1 else 0) && decide (bits .or .i64 (s : Int) (wrap64 (2 ^ d)) = ((s ||| 2 ^ d : Nat) : Int)) && decide (s ||| 2 ^ d < 256)) = true := by decide +kernel
theorem bits_at {s d : Nat} (hs : s < 256) (hd : d < 8) : bits .and .i64 ((s : Int) / 2 ^ d) 1 = (if s.testBit d then 1 else 0) ∧ bits .or .i64 (s : Int) (wrap64 (2 ^ d)) = ((s ||| 2 ^ d : Nat) : Int) ∧ s ||| 2 ^ d < 256 := by
  have := List.all_eq_true.1 (List.all_eq_true.1 bits_test s (List.mem_range.2 hs)) d (List.mem_range.2 hd)
  simp only [Bool.and_eq_true, decide_eq_true_eq] at this
  exact ⟨this.1.1, this.1.2, this.2⟩
/-- The bits of s tell which bells are among the first k. -/
def Seen (r : List UInt8) (s k : Nat) : Prop := rowTo r k ∧ ∀ b, s.testBit b = true ↔ ∃ i, i < k ∧ (r.getD i 0).toNat = 49 + b
end Go.Proofs.YtihaopijnkiafaaGreatDoor
