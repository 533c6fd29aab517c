/- Plain laws of the reading of a calling: texts cut at a byte, numbers, items. No conditions beyond those stated. -/
import Derived.Test.YtihaopijnkiafaaGreatDoorCalP
import Derived.Lib.SplitLaws
import Derived.Lib.IndexBytes
set_option linter.unusedVariables false
set_option linter.unusedSimpArgs false
set_option maxRecDepth 100000
namespace Go.Proofs.YtihaopijnkiafaaGreatDoor
open Go.RowKit

theorem idx_miss {x : List UInt8} {c : UInt8} (h : c ∉ x) : Lib.indexByte x c = -1 := by
  induction x with
  | nil => rfl
  | cons y x ih =>
    simp only [List.mem_cons, not_or] at h
    have h1 : (y == c) = false := by simpa using fun e => h.1 e.symm
    rw [Lib.indexByte, h1, ih h.2]; rfl
theorem idx_hit {x r : List UInt8} {c : UInt8} (h : c ∉ x) : Lib.indexByte (x ++ c :: r) c = x.length := by
  induction x with
  | nil => simp [Lib.indexByte]
  | cons y x ih =>
    simp only [List.mem_cons, not_or] at h
    have h1 : (y == c) = false := by simpa using fun e => h.1 e.symm
    rw [List.cons_append, Lib.indexByte, h1, ih h.2]
    simp
    try omega
theorem join_two (x y : List UInt8) (r : List (List UInt8)) (sep : List UInt8) : Lib.join (x :: y :: r) sep = x ++ (sep ++ Lib.join (y :: r) sep) := by
  rw [Lib.join_cons, Lib.join_cons]
  simp [Lib.joinTail]
theorem splitK_join (b : UInt8) (L : List (List UInt8)) (hne : L ≠ []) (h : ∀ x ∈ L, b ∉ x) : Lib.splitK [b] 0 ((Lib.join L [b]).count b) (Lib.join L [b]) = L := by
  induction L with
  | nil => exact absurd rfl hne
  | cons x L ih =>
    have hx := h x (by simp)
    cases L with
    | nil => rw [Lib.join_one, List.count_eq_zero_of_not_mem hx]; rfl
    | cons y r =>
      have ih' := ih (by simp) (fun z hz => h z (by simp [hz]))
      rw [join_two]
      generalize Lib.join (y :: r) [b] = J at *
      have hc : (x ++ ([b] ++ J)).count b = J.count b + 1 := by
        rw [List.count_append, List.count_append, List.count_eq_zero_of_not_mem hx]; simp; try omega
      rw [hc, Lib.splitK, Lib.index_one, show x ++ ([b] ++ J) = x ++ b :: J from rfl, idx_hit hx]
      have hn : ((x.length : Int) == -1) = false := by simp; try omega
      rw [hn]
      simp only [Bool.false_eq_true, if_false, Int.toNat_natCast, Nat.add_zero, List.length_singleton]
      rw [List.take_left' rfl, show x ++ b :: J = (x ++ [b]) ++ J by simp, List.drop_left' (by simp), ih']
/-- The program's cutting at a byte. -/
def segsI (b : UInt8) (s : List UInt8) : List (List UInt8) := Lib.split s [b]
theorem segsI_join (b : UInt8) (L : List (List UInt8)) (hne : L ≠ []) (h : ∀ x ∈ L, b ∉ x) : segsI b (Lib.join L [b]) = L := by
  unfold segsI Lib.split
  rw [Lib.count_one]
  exact splitK_join b L hne h
/-- The reference's cutting at a byte: where the last piece begins, and the pieces so far. -/
def segSt (b : UInt8) (s : List UInt8) : Nat → Nat × List (List UInt8)
  | 0 => (0, [])
  | i + 1 => if s.getD i 0 = b then (i + 1, (segSt b s i).2 ++ [(s.take i).drop (segSt b s i).1]) else segSt b s i
def segsS (b : UInt8) (s : List UInt8) : List (List UInt8) := (segSt b s s.length).2 ++ [s.drop (segSt b s s.length).1]
theorem segSt_le (b : UInt8) (s : List UInt8) (i : Nat) : (segSt b s i).1 ≤ i ∧ (segSt b s i).2.length ≤ i := by
  induction i with
  | zero => exact ⟨Nat.le_refl _, Nat.le_refl _⟩
  | succ i ih =>
    rw [segSt]
    split
    · exact ⟨Nat.le_refl _, by simp; omega⟩
    · exact ⟨by omega, by omega⟩
theorem segSt_miss {b : UInt8} {x r : List UInt8} (h : b ∉ x) (j : Nat) (hj : j ≤ x.length) : segSt b (x ++ r) j = (0, []) := by
  induction j with
  | zero => rfl
  | succ j ih =>
    have e : (x ++ r).getD j 0 = x[j]'(by omega) := by
      rw [List.getD_eq_getElem?_getD, List.getElem?_append_left (by omega)]
      simp [show j < x.length by omega]
    rw [segSt, e, if_neg (fun (hb : x[j]'(by omega) = b) => h (by rw [← hb]; exact List.getElem_mem _)), ih (by omega)]
theorem segSt_shift {b : UInt8} {x r : List UInt8} (h : b ∉ x) (i : Nat) (hi : i ≤ r.length) : segSt b (x ++ b :: r) (x.length + 1 + i) = (x.length + 1 + (segSt b r i).1, x :: (segSt b r i).2) := by
  induction i with
  | zero =>
    have e : (x ++ b :: r).getD x.length 0 = b := by simp [List.getD]
    show segSt b (x ++ b :: r) (x.length + 1) = _
    conv => lhs; rw [segSt]
    rw [if_pos e, segSt_miss h x.length (Nat.le_refl _)]
    simp [segSt]
  | succ i ih =>
    have ih' := ih (by omega)
    have e : (x ++ b :: r).getD (x.length + 1 + i) 0 = r.getD i 0 := by
      simp only [List.getD_eq_getElem?_getD]
      rw [List.getElem?_append_right (by omega), show x.length + 1 + i - x.length = i + 1 by omega, List.getElem?_cons_succ]
    rw [← Nat.add_assoc, segSt, e, ih', segSt]
    have hle := (segSt_le b r i).1
    by_cases hb : r.getD i 0 = b
    · rw [if_pos hb, if_pos hb]
      refine Prod.ext (by dsimp only; omega) ?_
      dsimp only
      rw [List.cons_append]
      congr 2
      rw [show x ++ b :: r = (x ++ [b]) ++ r by simp, List.take_append, List.take_of_length_le (by simp; try omega), show x.length + 1 + i - (x ++ [b]).length = i by simp]
      rw [List.drop_append, List.drop_of_length_le (by simp; try omega)]
      simp
    · rw [if_neg hb, if_neg hb]
theorem segsS_one {b : UInt8} {x : List UInt8} (h : b ∉ x) : segsS b x = [x] := by
  have := segSt_miss (r := []) h x.length (Nat.le_refl _)
  rw [List.append_nil] at this
  unfold segsS
  rw [this]; rfl
theorem segsS_cons {b : UInt8} {x r : List UInt8} (h : b ∉ x) : segsS b (x ++ b :: r) = x :: segsS b r := by
  have := segSt_shift (r := r) h r.length (Nat.le_refl _)
  unfold segsS
  rw [show (x ++ b :: r).length = x.length + 1 + r.length by simp; omega, this]
  dsimp only
  rw [List.cons_append]
  congr 3
  rw [show x ++ b :: r = (x ++ [b]) ++ r by simp, List.drop_append, List.drop_of_length_le (by simp)]
  simp
theorem segsS_join (b : UInt8) (L : List (List UInt8)) (hne : L ≠ []) (h : ∀ x ∈ L, b ∉ x) : segsS b (Lib.join L [b]) = L := by
  induction L with
  | nil => exact absurd rfl hne
  | cons x L ih =>
    have hx := h x (by simp)
    cases L with
    | nil => rw [Lib.join_one]; exact segsS_one hx
    | cons y r =>
      rw [join_two]
      rw [show x ++ ([b] ++ Lib.join (y :: r) [b]) = x ++ b :: Lib.join (y :: r) [b] from rfl, segsS_cons hx, ih (by simp) (fun z hz => h z (by simp [hz]))]
/-- A byte is a digit. -/
def digB (x : UInt8) : Bool := !(decide (x.toNat < 48) || decide (57 < x.toNat))
def numV (s : List UInt8) : Nat := s.foldl (fun n x => 10 * n + (x.toNat - 48)) 0
/-- The text has the length of a number of at most m digits, in its one form. -/
def lenB (m : Nat) (s : List UInt8) : Bool := decide (1 ≤ s.length) && (decide (s.length ≤ m) && !(decide (1 < s.length) && (s.getD 0 0 == 48)))
/-- number, in the program. -/
def numF (m : Nat) (s : List UInt8) : Nat × Bool := if (lenB m s && s.all digB) = true then (numV s, true) else (0, false)
/-- l1Read, in the reference. -/
def readF (s : List UInt8) : Int := if (lenB 6 s && s.all digB) = true then (numV s : Int) else -1
theorem num_dec : ∀ n : Nat, n < 100 → numF 2 (decL n) = (n, true) := by decide +kernel
theorem read_dec : ∀ n : Nat, n < 100 → readF (decL n) = (n : Int) := by decide +kernel
theorem dec_byte : ∀ n : Nat, n < 100 → (32 : UInt8) ∉ decL n ∧ (43 : UInt8) ∉ decL n ∧ 1 ≤ (decL n).length := by decide +kernel
theorem cut_no {x : List UInt8} (h : (43 : UInt8) ∉ x) : Lib.cut x [43] = (x, [], false) := by
  unfold Lib.cut
  rw [Lib.index_one, idx_miss h]; rfl
theorem cut_yes {x r : List UInt8} (h : (43 : UInt8) ∉ x) : Lib.cut (x ++ 43 :: r) [43] = (x, r, true) := by
  unfold Lib.cut
  rw [Lib.index_one, idx_hit h, if_pos (Int.natCast_nonneg _), Int.toNat_natCast, List.take_left' rfl, show x ++ 43 :: r = (x ++ [43]) ++ r by simp, List.drop_left' (by simp)]
end Go.Proofs.YtihaopijnkiafaaGreatDoor
