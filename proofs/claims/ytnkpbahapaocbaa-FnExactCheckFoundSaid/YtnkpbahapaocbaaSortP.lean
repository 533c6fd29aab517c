/- Plain laws of sorting lists of strings. No conditions beyond those stated. -/
import Derived.Test.YtnkpbahapaocbaaBase
import Derived.Sort.Walk0
set_option linter.unusedVariables false
set_option linter.unusedSimpArgs false
set_option maxRecDepth 100000
namespace Go.Proofs.Ytnkpbahapaocbaa
open Go.RowKit

/-- A list of strings in increasing order. -/
def sortL (l : List (List UInt8)) : List (List UInt8) := l.mergeSort fun x y => decide (x ≤ y)
def leS (x y : List UInt8) : Bool := decide (x ≤ y)
theorem sortL_len (l : List (List UInt8)) : (sortL l).length = l.length := by simp [sortL]
theorem leS_trans (a b c : List UInt8) (h : leS a b = true) (k : leS b c = true) : leS a c = true := by
  simp only [leS, decide_eq_true_eq] at *
  exact List.le_trans h k
theorem leS_total (a b : List UInt8) : (leS a b || leS b a) = true := by
  simp only [leS, Bool.or_eq_true, decide_eq_true_eq]
  exact List.le_total a b
theorem leS_antisymm (a b : List UInt8) (h : leS a b = true) (k : leS b a = true) : a = b := by
  simp only [leS, decide_eq_true_eq] at *
  exact List.le_antisymm h k
theorem sortL_pw (l : List (List UInt8)) : List.Pairwise (fun a b => leS a b = true) (sortL l) := List.pairwise_mergeSort leS_trans leS_total l
theorem sortL_perm (l : List (List UInt8)) : List.Perm (sortL l) l := List.mergeSort_perm l _
theorem sortL_uniq (l m : List (List UInt8)) (hp : List.Perm m l) (hs : List.Pairwise (fun a b => leS a b = true) m) : sortL l = m :=
  List.Perm.eq_of_pairwise (fun a b _ _ => leS_antisymm a b) (sortL_pw l) hs ((sortL_perm l).trans hp.symm)
theorem sortL_split (l : List (List UInt8)) (h : Nat) : sortL l = List.merge (sortL (l.take h)) (sortL (l.drop h)) leS := by
  apply sortL_uniq
  · refine (List.merge_perm_append leS).trans ?_
    refine ((sortL_perm _).append (sortL_perm _)).trans ?_
    rw [List.take_append_drop]
  · exact List.pairwise_merge leS_trans leS_total _ _ (sortL_pw _) (sortL_pw _)
theorem sortL_small (l : List (List UInt8)) (h : l.length < 2) : sortL l = l := by
  match l, h with
  | [], _ => simp [sortL]
  | [a], _ => simp [sortL]
theorem leS_of_less {a b : List UInt8} (h : Op.bytesLess b a = false) : leS a b = true := by
  have h2 := bl_leq a b
  rw [h] at h2
  simp only [Bool.not_false, Bool.or_eq_true, beq_iff_eq] at h2
  rcases h2 with h2 | h2
  · rw [bytesLess_eq, decide_eq_true_eq] at h2
    simp only [leS, decide_eq_true_eq]
    exact List.le_of_lt h2
  · subst h2
    simp only [leS, decide_eq_true_eq]
    exact List.le_refl a
theorem not_leS {a b : List UInt8} (h : Op.bytesLess b a = true) : leS a b = false := by
  rw [bytesLess_eq, decide_eq_true_eq] at h
  simp only [leS, decide_eq_false_iff_not]
  exact List.not_le.2 h

end Go.Proofs.Ytnkpbahapaocbaa
