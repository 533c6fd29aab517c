/- Plain laws of sorted lists without their repeats. No conditions beyond those stated. -/
import Derived.Test.YtiajeheonoebnaaTrueP
import Derived.Lib.SlicesCompact
set_option linter.unusedVariables false
set_option linter.unusedSimpArgs false
set_option maxRecDepth 100000
namespace Go.Proofs.Ytiajeheonoebnaa
open Go.RowKit

/-- The first k strings of a sorted list, each once. -/
def ddTo (s : List (List UInt8)) (k : Nat) : List (List UInt8) := Lib.compactUpTo s.toArray k
theorem ddTo_last (s : List (List UInt8)) : ∀ k, k < s.length → (ddTo s (k + 1)).getLast? = s[k]?
  | 0, h => by
    rw [ddTo, Lib.compactUpTo_succ]
    simp [Lib.keeps, Lib.compactUpTo, h]
  | k + 1, h => by
    rw [ddTo, Lib.compactUpTo_succ]
    by_cases hk : Lib.keeps s.toArray (k + 1) = true
    · rw [if_pos hk]; simp [h]
    · rw [if_neg hk, List.append_nil]
      have := ddTo_last s k (by omega)
      rw [ddTo] at this
      rw [this]
      simp [Lib.keeps] at hk
      simp [h, show k < s.length by omega] at hk ⊢
      exact hk.symm
theorem ddTo_first (s : List (List UInt8)) (h : 0 < s.length) : ddTo s 1 = ddTo s 0 ++ [s[0]] := by
  rw [ddTo, ddTo, Lib.compactUpTo_succ]; simp [Lib.keeps, h]
theorem ddTo_skip (s : List (List UInt8)) (k : Nat) (h : k + 1 < s.length) (he : s[k + 1] = s[k]) : ddTo s (k + 1 + 1) = ddTo s (k + 1) := by
  rw [ddTo, ddTo, Lib.compactUpTo_succ, if_neg]
  · simp
  · simp [Lib.keeps, h, show k < s.length by omega, he]
theorem ddTo_take (s : List (List UInt8)) (k : Nat) (h : k + 1 < s.length) (he : s[k + 1] ≠ s[k]) : ddTo s (k + 1 + 1) = ddTo s (k + 1) ++ [s[k + 1]] := by
  rw [ddTo, ddTo, Lib.compactUpTo_succ, if_pos]
  · simp [h]
  · simp [Lib.keeps, h, show k < s.length by omega, he]
theorem ddTo_len (s : List (List UInt8)) (k : Nat) : (ddTo s k).length ≤ k := by
  unfold ddTo Lib.compactUpTo
  rw [List.length_map]
  exact Nat.le_trans (List.length_filter_le _ _) (by simp)
theorem ddTo_pos (s : List (List UInt8)) (k : Nat) (h : k < s.length) : 0 < (ddTo s (k + 1)).length := by
  have := ddTo_last s k h
  rw [List.getElem?_eq_getElem h] at this
  cases hd : ddTo s (k + 1) with
  | nil => rw [hd] at this; cases this
  | cons a b => simp

/-- Strictly increasing. -/
def Strict (l : List (List UInt8)) : Prop := l.Pairwise fun a b => leS a b = true ∧ a ≠ b
theorem dd_prop {s : List (List UInt8)} (hs : s.Pairwise fun a b => leS a b = true) : ∀ k, k ≤ s.length → Strict (ddTo s k) ∧ ∀ x, x ∈ ddTo s k ↔ x ∈ s.take k
  | 0, _ => by simp [ddTo, Lib.compactUpTo, Strict]
  | 1, h => by
    have h0 : ddTo s 0 = [] := by simp [ddTo, Lib.compactUpTo]
    rw [ddTo_first s (by omega), h0, List.nil_append]
    refine ⟨by simp [Strict], fun x => ?_⟩
    rw [List.take_succ_eq_append_getElem (by omega)]; simp
  | k + 2, h => by
    obtain ⟨h1, h2⟩ := dd_prop hs (k + 1) (by omega)
    have hle := List.pairwise_iff_getElem.1 hs
    by_cases he : s[k + 1] = s[k]
    · rw [ddTo_skip s k (by omega) he]
      refine ⟨h1, fun x => ?_⟩
      rw [h2, List.take_succ_eq_append_getElem (i := k + 1) (by omega), List.mem_append, List.mem_singleton]
      refine ⟨.inl, fun h3 => h3.elim id fun e => ?_⟩
      rw [e, he, List.mem_take_iff_getElem]
      exact ⟨k, by omega, rfl⟩
    · rw [ddTo_take s k (by omega) he]
      refine ⟨?_, fun x => ?_⟩
      · unfold Strict
        rw [List.pairwise_append]
        refine ⟨h1, by simp, fun a ha b hb => ?_⟩
        simp only [List.mem_singleton] at hb
        subst hb
        rw [h2, List.mem_take_iff_getElem] at ha
        obtain ⟨i, hi, rfl⟩ := ha
        refine ⟨hle i (k + 1) (by omega) (by omega) (by omega), fun e => ?_⟩
        rcases Nat.lt_or_ge i k with hik | hik
        · have h3 := hle i k (by omega) (by omega) hik
          have h4 := hle k (k + 1) (by omega) (by omega) (by omega)
          rw [← e] at h4
          exact he (e.symm.trans (leS_antisymm _ _ h3 h4))
        · obtain rfl : i = k := by omega
          exact he e.symm
      · rw [List.take_succ_eq_append_getElem (i := k + 1) (by omega), List.mem_append, List.mem_append, h2]
/-- The strings of a list in increasing order, each once. -/
def setL (l : List (List UInt8)) : List (List UInt8) := ddTo (sortL l) (sortL l).length
theorem setL_prop (l : List (List UInt8)) : Strict (setL l) ∧ ∀ x, x ∈ setL l ↔ x ∈ l := by
  obtain ⟨h1, h2⟩ := dd_prop (sortL_pw l) (sortL l).length (Nat.le_refl _)
  refine ⟨h1, fun x => ?_⟩
  unfold setL
  rw [h2, List.take_length]
  exact (sortL_perm l).mem_iff
theorem setL_len (l : List (List UInt8)) : (setL l).length ≤ l.length := by
  have := ddTo_len (sortL l) (sortL l).length
  rw [sortL_len] at this
  unfold setL; rw [sortL_len]; exact this
/-- What holds each of its strings once, sorted, is the set. -/
theorem sort_set {d l : List (List UInt8)} (hd : d.Nodup) (hm : ∀ x, x ∈ d ↔ x ∈ l) : sortL d = setL l := by
  obtain ⟨h1, h2⟩ := setL_prop l
  refine sortL_uniq d (setL l) ?_ (h1.imp fun h => h.1)
  refine (List.perm_ext_iff_of_nodup (h1.imp fun h => h.2) hd).2 fun x => ?_
  rw [h2, hm]
end Go.Proofs.Ytiajeheonoebnaa
