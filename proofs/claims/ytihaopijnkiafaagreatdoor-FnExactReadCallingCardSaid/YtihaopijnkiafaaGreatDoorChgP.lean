/- Plain laws of changes: the steps in which the reference and the program write the row of a change. No conditions beyond those stated. -/
import Derived.Test.YtihaopijnkiafaaGreatDoorChP
import Derived.Test.YtihaopijnkiafaaGreatDoorCh3
set_option linter.unusedVariables false
set_option linter.unusedSimpArgs false
set_option maxRecDepth 100000
namespace Go.Proofs.YtihaopijnkiafaaGreatDoor
open Go.RowKit

theorem chR_stay (n : Nat) (c : List UInt8) (q : Nat) (h : q + 1 < n) (hs : stays c (q + 1) = true) : chR n c (n - q) = b49 q :: chR n c (n - (q + 1)) := by
  obtain ⟨m, hm⟩ : ∃ m, n - q = m + 2 := ⟨n - q - 2, by omega⟩
  rw [hm, chR, show n - (m + 1) = q + 1 by omega, if_pos hs, show n - (m + 2) = q by omega, show n - (q + 1) = m + 1 by omega]
theorem chR_swap (n : Nat) (c : List UInt8) (q : Nat) (h : q + 1 < n) (hs : stays c (q + 1) = false) : chR n c (n - q) = b49 (q + 1) :: b49 q :: chR n c (n - (q + 2)) := by
  obtain ⟨m, hm⟩ : ∃ m, n - q = m + 2 := ⟨n - q - 2, by omega⟩
  rw [hm, chR, show n - (m + 1) = q + 1 by omega, if_neg (by simp [hs]), show n - (m + 2) = q by omega, show n - (q + 2) = m by omega]
theorem chR_last (n : Nat) (c : List UInt8) (q : Nat) (h : ¬ q + 1 < n) (hq : q ≤ n) : (roundsL n).drop q = chR n c (n - q) := by
  by_cases e : q = n
  · subst e
    rw [Nat.sub_self, List.drop_of_length_le (by rw [rounds_len]; exact Nat.le_refl _)]; rfl
  · obtain rfl : n = q + 1 := by omega
    rw [show q + 1 - q = 1 by omega, rounds_drop (by omega), List.drop_of_length_le (by rw [rounds_len]; exact Nat.le_refl _)]; rfl
/-- What stands in the row under way behind q places. -/
def chW (n : Nat) (c : List UInt8) (q : Nat) (l : List UInt8) : Prop := ∃ D, D.length = q ∧ l = D ++ (roundsL n).drop q ∧ D ++ chR n c (n - q) = chRowL n c
theorem chW_zero (n : Nat) (c : List UInt8) : chW n c 0 (roundsL n) := ⟨[], rfl, rfl, rfl⟩
theorem chW_len {n : Nat} {c : List UInt8} {q : Nat} {l : List UInt8} (h : chW n c q l) (hq : q ≤ n) : l.length = n := by
  obtain ⟨D, h1, rfl, _⟩ := h
  simp [h1, rounds_len]; omega
theorem chW_stay {n : Nat} {c : List UInt8} {q : Nat} {l : List UInt8} (h : chW n c q l) (hq : q + 1 < n) (hs : stays c (q + 1) = true) : chW n c (q + 1) l := by
  obtain ⟨D, h1, rfl, h3⟩ := h
  refine ⟨D ++ [b49 q], by simp [h1], ?_, ?_⟩
  · rw [rounds_drop (show q < n by omega), List.append_assoc]; rfl
  · rw [chR_stay n c q hq hs] at h3
    rw [List.append_assoc]; exact h3
theorem chW_swap {n : Nat} {c : List UInt8} {q : Nat} {l : List UInt8} (h : chW n c q l) (hq : q + 1 < n) (hs : stays c (q + 1) = false) : chW n c (q + 2) ((l.set q (b49 (q + 1))).set (q + 1) (b49 q)) := by
  obtain ⟨D, h1, rfl, h3⟩ := h
  refine ⟨D ++ [b49 (q + 1), b49 q], by simp [h1], ?_, ?_⟩
  · rw [rounds_drop (show q < n by omega), rounds_drop (show q + 1 < n by omega)]
    subst h1
    simp [List.set_append]
  · rw [chR_swap n c q hq hs] at h3
    rw [List.append_assoc]; exact h3
theorem chW_end {n : Nat} {c : List UInt8} {q : Nat} {l : List UInt8} (h : chW n c q l) (hq : ¬ q + 1 < n) (h2 : q ≤ n) : l = chRowL n c := by
  obtain ⟨D, h1, rfl, h3⟩ := h
  rw [chR_last n c q hq h2]; exact h3

theorem stays_not (c : List UInt8) (p k : Nat) (h : k < c.length) (hk : c[k].toNat = 48 + p) : stays c p = true := by
  rw [stays, List.any_eq_true]
  exact ⟨c[k], List.getElem_mem h, by simp [hk]⟩
theorem stays_no (c : List UInt8) (p : Nat) (h : ∀ (k : Nat) (hk : k < c.length), c[k].toNat ≠ 48 + p) : stays c p = false := by
  apply Bool.eq_false_iff.2
  intro hs
  rw [stays, List.any_eq_true] at hs
  obtain ⟨x, hx, e⟩ := hs
  obtain ⟨k, hk, rfl⟩ := List.mem_iff_getElem.1 hx
  exact h k hk (by simpa using e)

/-- The pairs that swap, behind q places. -/
theorem swapsR_stay (n : Nat) (c : List UInt8) (q : Nat) (h : q + 1 < n) (hs : stays c (q + 1) = true) : swapsR n c (n - q) = swapsR n c (n - (q + 1)) := by
  obtain ⟨m, hm⟩ : ∃ m, n - q = m + 2 := ⟨n - q - 2, by omega⟩
  rw [hm, swapsR, show n - (m + 1) = q + 1 by omega, if_pos hs, show n - (q + 1) = m + 1 by omega]
theorem swapsR_swap (n : Nat) (c : List UInt8) (q : Nat) (h : q + 1 < n) (hs : stays c (q + 1) = false) : swapsR n c (n - q) = (q + 1) :: swapsR n c (n - (q + 2)) := by
  obtain ⟨m, hm⟩ : ∃ m, n - q = m + 2 := ⟨n - q - 2, by omega⟩
  rw [hm, swapsR, show n - (m + 1) = q + 1 by omega, if_neg (by simp [hs]), show n - (q + 2) = m by omega]
theorem swapsR_last (n : Nat) (c : List UInt8) (q : Nat) (h : ¬ q + 1 < n) : swapsR n c (n - q) = [] := by
  have : n - q = 0 ∨ n - q = 1 := by omega
  rcases this with e | e <;> rw [e] <;> rfl
theorem swapsR_bd (n : Nat) (c : List UInt8) : ∀ m, m ≤ n → ∀ p ∈ swapsR n c m, 1 ≤ p ∧ p < n
  | 0, _, p, h => by simp [swapsR] at h
  | 1, _, p, h => by simp [swapsR] at h
  | m + 2, hm, p, h => by
    rw [swapsR] at h
    split at h
    · exact swapsR_bd n c (m + 1) (by omega) p h
    · simp only [List.mem_cons] at h
      rcases h with rfl | h
      · omega
      · exact swapsR_bd n c m (by omega) p h
theorem swapsR_len (n : Nat) (c : List UInt8) : ∀ m, (swapsR n c m).length ≤ m
  | 0 => by simp [swapsR]
  | 1 => by simp [swapsR]
  | m + 2 => by
    rw [swapsR]
    split
    · have := swapsR_len n c (m + 1); omega
    · have := swapsR_len n c m; simp; omega
theorem contains_stays (c : List UInt8) (p : Nat) (h : allDig c = true) : (natI (digs c)).contains (p : Int) = stays c p := by
  rw [Bool.eq_iff_iff, List.contains_iff_mem, stays, List.any_eq_true]
  constructor
  · intro hm
    simp only [natI, digs, List.mem_map] at hm
    obtain ⟨x, ⟨y, hy, rfl⟩, e⟩ := hm
    have := List.all_eq_true.1 h y hy
    simp at this
    exact ⟨y, hy, by simp; omega⟩
  · rintro ⟨x, hx, e⟩
    have := List.all_eq_true.1 h x hx
    simp at this e
    simp only [natI, digs, List.mem_map]
    exact ⟨x.toNat - 48, ⟨x, hx, rfl⟩, by omega⟩
theorem stays_dash (p : Nat) : stays [45] p = false := by simp [stays]; omega
theorem okChange_dig {n : Int} {c : List UInt8} (h : okChange n c = true) (h1 : c ≠ [45]) : allDig c = true := by
  have hs : 3 ≤ n ∧ n ≤ 8 := by
    apply Classical.byContradiction
    intro h2
    rw [okChange_no n c h2] at h; cases h
  obtain ⟨m, rfl⟩ := Int.eq_ofNat_of_zero_le (show 0 ≤ n by omega)
  rw [okChange_pl m c (by omega) (by omega) h1, Bool.and_eq_true] at h
  exact h.1
theorem okChange_len {n : Int} {c : List UInt8} (h : okChange n c = true) : c.length ≤ 8 := by
  have hs : 3 ≤ n ∧ n ≤ 8 := by
    apply Classical.byContradiction
    intro h2
    rw [okChange_no n c h2] at h; cases h
  by_cases h1 : c = [45]
  · subst h1; simp
  · unfold okChange at h
    rw [if_neg h1] at h
    simp at h
    omega
end Go.Proofs.YtihaopijnkiafaaGreatDoor
