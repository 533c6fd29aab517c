/- Contracts of the functions on splices: SpliceOf, SwitchesIn, in the reference and in the program. No conditions beyond those stated. -/
import Derived.Test.YtnkpbahapaocbaaTurn
set_option linter.unusedVariables false
set_option linter.unusedSimpArgs false
namespace Go.Proofs.Ytnkpbahapaocbaa
open Go.RowKit

/-- The splice of one method that a touch is. -/
def spliceL (c l : List UInt8) : List UInt8 := l.flatMap fun x => c ++ [x]
theorem spliceL_succ (c l : List UInt8) (k : Nat) (h : k < l.length) : spliceL c (l.take k) ++ (c ++ List.take 1 (List.drop k l)) = spliceL c (l.take (k + 1)) := by
  rw [List.take_succ_eq_append_getElem h, take1_drop l k h]
  simp only [spliceL, List.flatMap_append, List.flatMap_cons, List.flatMap_nil, List.append_nil]
theorem spliceL_len (c l : List UInt8) (hc : c.length ≤ 1) : (spliceL c l).length ≤ 2 * l.length := by
  induction l with
  | nil => simp [spliceL]
  | cons x l ih => simp only [spliceL, List.flatMap_cons, List.length_append, List.length_cons, List.length_nil] at ih ⊢; omega
/-- The letter of method number a. -/
def letterAt (a : Int) : List UInt8 := List.take 1 (List.drop a.toNat [65, 66, 67, 68])
theorem letterAt_len (a : Int) : (letterAt a).length ≤ 1 := by simp [letterAt]; omega
/-- What SpliceOf answers. -/
def spliceOfR (l : List UInt8) (a : Int) : List UInt8 × Bool := if goodTouch l = true ∧ 0 ≤ a ∧ a ≤ 3 then (spliceL (letterAt a) l, true) else ([], false)
theorem spliceOfR_yes (l : List UInt8) (a : Int) (hg : goodTouch l = true) (h0 : 0 ≤ a) (h1 : a ≤ 3) : spliceOfR l a = (spliceL (letterAt a) l, true) := if_pos ⟨hg, h0, h1⟩
theorem spliceOfR_bad (l : List UInt8) (a : Int) (hg : goodTouch l = false) : spliceOfR l a = ([], false) := if_neg (by simp [hg])
theorem spliceOfR_out (l : List UInt8) (a : Int) (h : ¬ (0 ≤ a ∧ a ≤ 3)) : spliceOfR l a = ([], false) := if_neg (fun h' => h h'.2)

/-! ### SwitchesIn -/
theorem l8Call_at (l : List UInt8) (i : Nat) (h : i < l.length) (w : World) :
    Calls Try.prog 70 #[.string (bs (List.take 1 (List.drop i l)))] w fun e w' => e = .returned (.bool (callB l[i])) ∧ w = w' := by
  have := l8Call_any (List.take 1 (List.drop i l)) w
  rwa [isCallL_at l i h] at this
theorem isCall_at (l : List UInt8) (i : Nat) (h : i < l.length) (w : World) :
    Calls Try.prog 75 #[.string (bs (List.take 1 (List.drop i l)))] w fun e w' => e = .returned (.bool (callB l[i])) ∧ w = w' := by
  have := isCall_any (List.take 1 (List.drop i l)) w
  rwa [isCallL_at l i h] at this
/-- Whether the i-th pair of bytes names one of n methods and a call. -/
def pairAt (n : Int) (l : List UInt8) (i : Nat) : Bool := decide (65 ≤ (l.getD (2 * i) 0).toNat) && decide (((l.getD (2 * i) 0).toNat : Int) - 65 < n) && callB (l.getD (2 * i + 1) 0)
def pairsTo (n : Int) (l : List UInt8) (k : Nat) : Bool := (List.range k).all (pairAt n l)
theorem pairsTo_succ (n : Int) (l : List UInt8) (k : Nat) : pairsTo n l (k + 1) = (pairsTo n l k && pairAt n l k) := by simp [pairsTo, List.range_succ]
/-- Which text is a splice of n methods. -/
def isSpliceL (n : Int) (l : List UInt8) : Bool := decide (1 ≤ n) && decide (n ≤ 4) && decide (l.length % 2 = 0) && decide (2 ≤ l.length) && decide (l.length ≤ 120) && pairsTo n l (l.length / 2)
theorem isSpliceL_no (n : Int) (l : List UInt8) (k : Nat) (hk : 2 * k + 1 < l.length) (h : pairAt n l k = false) : isSpliceL n l = false := by
  have : pairsTo n l (l.length / 2) = false := by
    apply Bool.eq_false_iff.2
    intro ha
    have := List.all_eq_true.1 ha k (List.mem_range.2 (by omega))
    rw [h] at this
    cases this
  simp [isSpliceL, this]
theorem pairAt_at (n : Int) (l : List UInt8) (k i : Nat) (hi : i = 2 * k) (h : i + 1 < l.length) : pairAt n l k = (decide (65 ≤ l[i].toNat) && decide ((l[i].toNat : Int) - 65 < n) && callB l[i + 1]) := by
  subst hi
  simp [pairAt, List.getD_eq_getElem?_getD, List.getElem?_eq_getElem (show 2 * k < l.length by omega), List.getElem?_eq_getElem h]

end Go.Proofs.Ytnkpbahapaocbaa
