/- Plain laws: no string occurs twice; the strings of a list that occur in another one. No conditions beyond those stated. -/
import Derived.Test.YtnkpbahapaocbaaSortP
set_option linter.unusedVariables false
set_option linter.unusedSimpArgs false
set_option maxRecDepth 100000
namespace Go.Proofs.Ytnkpbahapaocbaa
open Go.RowKit

/-- s occurs in l. -/
def memB (s : List UInt8) (l : List (List UInt8)) : Bool := decide (s ∈ l)
theorem memB_iff {s : List UInt8} {l : List (List UInt8)} : memB s l = true ↔ s ∈ l := by simp [memB]
theorem memB_not {s : List UInt8} {l : List (List UInt8)} : memB s l = false ↔ s ∉ l := by simp [memB]
/-- No string occurs twice. -/
def trueB (l : List (List UInt8)) : Bool := decide l.Nodup
theorem trueB_zero (l : List (List UInt8)) : trueB (l.take 0) = true := by simp [trueB]
theorem trueB_step {l : List (List UInt8)} {k : Nat} (h : k < l.length) (hn : trueB (l.take k) = true) (hm : memB l[k] (l.take k) = false) : trueB (l.take (k + 1)) = true := by
  simp only [trueB, memB, decide_eq_true_eq, decide_eq_false_iff_not] at *
  rw [List.take_succ_eq_append_getElem h, List.nodup_append]
  exact ⟨hn, by simp, fun a ha b hb => by simp at hb; subst hb; intro e; subst e; exact hm ha⟩
theorem trueB_bad {l : List (List UInt8)} {k : Nat} (h : k < l.length) (hm : memB l[k] (l.take k) = true) : trueB l = false := by
  simp only [trueB, memB, decide_eq_true_eq, decide_eq_false_iff_not] at *
  intro hn
  have e : l.take k ++ (l[k] :: l.drop (k + 1)) = l := by rw [← List.drop_eq_getElem_cons h, List.take_append_drop]
  rw [← e] at hn
  have h2 := (List.nodup_append.1 hn).2.2 _ hm l[k] List.mem_cons_self
  exact h2 rfl
theorem trueB_sort (l : List (List UInt8)) : trueB (sortL l) = trueB l := by
  unfold trueB
  rw [decide_eq_decide]
  exact (sortL_perm l).nodup_iff
theorem true_sorted {s l : List (List UInt8)} (hs : s = sortL l) (h : ∀ k (hk : k + 1 < s.length), s[k + 1] ≠ s[k]) : trueB l = true := by
  rw [← trueB_sort, ← hs]
  have hp : List.Pairwise (fun a b => leS a b = true) s := hs ▸ sortL_pw l
  refine decide_eq_true ?_
  unfold List.Nodup
  rw [List.pairwise_iff_getElem] at hp ⊢
  intro i j hi hj hij e
  have h1 := hp i (i + 1) hi (by omega) (by omega)
  rcases Nat.lt_or_ge (i + 1) j with h2 | h2
  · have h3 := hp (i + 1) j (by omega) hj h2
    rw [← e] at h3
    exact h i (by omega) (leS_antisymm _ _ h3 h1)
  · obtain rfl : j = i + 1 := by omega
    exact h i hj e.symm
theorem true_sorted_bad {s l : List (List UInt8)} (hs : s = sortL l) (k : Nat) (hk : k + 1 < s.length) (e : s[k + 1] = s[k]) : trueB l = false := by
  rw [← trueB_sort, ← hs]
  refine trueB_bad hk (memB_iff.2 ?_)
  rw [e, List.mem_take_iff_getElem]
  exact ⟨k, by omega, rfl⟩
/-- The strings of a that occur in b. -/
def meetL (a b : List (List UInt8)) : List (List UInt8) := a.filter fun r => memB r b
theorem meetL_zero (a b : List (List UInt8)) : meetL (a.take 0) b = [] := by simp [meetL]
theorem meetL_yes {a b : List (List UInt8)} {k : Nat} (h : k < a.length) (hm : memB a[k] b = true) : meetL (a.take k) b ++ [a[k]] = meetL (a.take (k + 1)) b := by
  unfold meetL
  rw [List.take_succ_eq_append_getElem h, List.filter_append]
  simp only [List.filter_cons, hm, if_true, List.filter_nil]
theorem meetL_no {a b : List (List UInt8)} {k : Nat} (h : k < a.length) (hm : memB a[k] b = false) : meetL (a.take k) b = meetL (a.take (k + 1)) b := by
  unfold meetL
  rw [List.take_succ_eq_append_getElem h, List.filter_append]
  simp [List.filter_cons, hm]
theorem meetL_len (a b : List (List UInt8)) : (meetL a b).length ≤ a.length := List.length_filter_le _ _
end Go.Proofs.Ytnkpbahapaocbaa
