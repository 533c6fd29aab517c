/- Plain laws of a touch's calling. No conditions beyond those stated. -/
import Derived.Test.YtihaopijnkiafaaGreatDoorHeadsP
import Derived.Lib.Join
set_option linter.unusedVariables false
set_option linter.unusedSimpArgs false
set_option maxRecDepth 100000
namespace Go.Proofs.YtihaopijnkiafaaGreatDoor
open Go.RowKit

/-- The least number below j at which P holds. -/
def firstAt (P : Nat → Bool) : Nat → Option Nat
  | 0 => none
  | j + 1 => match firstAt P j with
    | some i => some i
    | none => if P j = true then some j else none
theorem firstAt_no {P : Nat → Bool} {j : Nat} (h : firstAt P j = none) (hp : P j = false) : firstAt P (j + 1) = none := by
  rw [firstAt, h]; simp [hp]
theorem firstAt_yes {P : Nat → Bool} {j : Nat} (h : firstAt P j = none) (hp : P j = true) (n : Nat) (hn : j < n) : firstAt P n = some j := by
  obtain ⟨d, rfl⟩ : ∃ d, n = j + 1 + d := ⟨n - (j + 1), by omega⟩
  clear hn
  induction d with
  | zero => rw [Nat.add_zero, firstAt, h]; simp [hp]
  | succ d ih => rw [← Nat.add_assoc, firstAt, ih]
theorem firstAt_lt {P : Nat → Bool} {j i : Nat} (h : firstAt P j = some i) : i < j := by
  induction j with
  | zero => cases h
  | succ j ih =>
    rw [firstAt] at h
    cases hq : firstAt P j with
    | some q => rw [hq] at h; injection h with h; have := ih (by rw [hq, h]); omega
    | none =>
      rw [hq] at h
      dsimp only at h
      split at h
      · injection h with h; omega
      · cases h
/-- Whether the bell stands at place i + 1. -/
def hereB (r : List UInt8) (bell : Int) (i : Nat) : Bool := ((r.getD i 0).toNat : Int) - 48 == bell
/-- The place of a bell in a row, 0 if there is none. -/
def placeL (r : List UInt8) (bell : Int) : Nat := match firstAt (hereB r bell) r.length with
  | some i => i + 1
  | none => 0
theorem placeL_le (r : List UInt8) (bell : Int) : placeL r bell ≤ r.length := by
  unfold placeL
  cases h : firstAt (hereB r bell) r.length with
  | none => exact Nat.zero_le _
  | some i => exact firstAt_lt h
theorem placeL_yes {r : List UInt8} {bell : Int} {i : Nat} (h : firstAt (hereB r bell) i = none) (hp : hereB r bell i = true) (hi : i < r.length) : placeL r bell = i + 1 := by
  unfold placeL; rw [firstAt_yes h hp _ hi]
theorem placeL_no {r : List UInt8} {bell : Int} (h : firstAt (hereB r bell) r.length = none) : placeL r bell = 0 := by
  unfold placeL; rw [h]
/-- A digit's byte. -/
def dgt (n : Nat) : UInt8 := UInt8.ofNat (48 + n)
/-- A number below 100 in digits. -/
def decL (n : Nat) : List UInt8 := if n ≤ 9 then [dgt n] else [dgt (n / 10), dgt (n % 10)]
theorem decL_len (n : Nat) : (decL n).length ≤ 2 := by unfold decL; split <;> simp
theorem decL_small {n : Nat} (h : n ≤ 9) : decL n = [dgt n] := if_pos h
theorem decL_big {n : Nat} (h : ¬ n ≤ 9) : decL n = [dgt (n / 10), dgt (n % 10)] := if_neg h
/-- How often the call c has place a at the d leads from s on. -/
def cntTo (P : Nat → UInt8 → Nat) (c : UInt8) (a s : Nat) : Nat → Nat
  | 0 => 0
  | d + 1 => cntTo P c a s d + if P (s + d) c = a then 1 else 0
theorem cntTo_le (P : Nat → UInt8 → Nat) (c : UInt8) (a s d : Nat) : cntTo P c a s d ≤ d := by
  induction d with
  | zero => exact Nat.le_refl _
  | succ d ih => rw [cntTo]; split <;> omega
/-- The item of the call at i; s: where the leads behind the last call begin. -/
def itemL (P : Nat → UInt8 → Nat) (t : List UInt8) (i s : Nat) : List UInt8 :=
  t.getD i 0 :: (decL (P i (t.getD i 0)) ++ if cntTo P (t.getD i 0) (P i (t.getD i 0)) s (i - s) = 0 then [] else 43 :: decL (cntTo P (t.getD i 0) (P i (t.getD i 0)) s (i - s)))
theorem itemL_len (P : Nat → UInt8 → Nat) (t : List UInt8) (i s : Nat) : (itemL P t i s).length ≤ 6 := by
  unfold itemL
  have h1 := decL_len (P i (t.getD i 0))
  have h2 := decL_len (cntTo P (t.getD i 0) (P i (t.getD i 0)) s (i - s))
  generalize decL (P i (t.getD i 0)) = D1 at *
  generalize decL (cntTo P (t.getD i 0) (P i (t.getD i 0)) s (i - s)) = D2 at *
  split
  · simp; omega
  · simp; omega
theorem itemL_ne (P : Nat → UInt8 → Nat) (t : List UInt8) (i s : Nat) : itemL P t i s ≠ [] := by unfold itemL; simp
/-- Behind i leads: where the leads behind the last call begin, and the items. -/
def calSt (P : Nat → UInt8 → Nat) (t : List UInt8) : Nat → Nat × List (List UInt8)
  | 0 => (0, [])
  | i + 1 => if t.getD i 0 = 112 then calSt P t i else (i + 1, (calSt P t i).2 ++ [itemL P t i (calSt P t i).1])
theorem calSt_p {P : Nat → UInt8 → Nat} {t : List UInt8} {i : Nat} (h : t.getD i 0 = 112) : calSt P t (i + 1) = calSt P t i := by rw [calSt, if_pos h]
theorem calSt_c {P : Nat → UInt8 → Nat} {t : List UInt8} {i : Nat} (h : t.getD i 0 ≠ 112) : calSt P t (i + 1) = (i + 1, (calSt P t i).2 ++ [itemL P t i (calSt P t i).1]) := by rw [calSt, if_neg h]
theorem calSt_le (P : Nat → UInt8 → Nat) (t : List UInt8) (i : Nat) : (calSt P t i).1 ≤ i ∧ (calSt P t i).2.length ≤ i ∧ (∀ x ∈ (calSt P t i).2, x ≠ []) ∧ (∀ x ∈ (calSt P t i).2, x.length ≤ 6) := by
  induction i with
  | zero => exact ⟨Nat.le_refl _, Nat.le_refl _, by simp [calSt], by simp [calSt]⟩
  | succ i ih =>
    obtain ⟨h1, h2, h3, h4⟩ := ih
    by_cases hc : t.getD i 0 = 112
    · rw [calSt_p hc]; exact ⟨by omega, by omega, h3, h4⟩
    · rw [calSt_c hc]
      refine ⟨Nat.le_refl _, by simp; omega, ?_, ?_⟩
      · intro x hx
        simp only [List.mem_append, List.mem_singleton] at hx
        rcases hx with hx | rfl
        · exact h3 x hx
        · exact itemL_ne _ _ _ _
      · intro x hx
        simp only [List.mem_append, List.mem_singleton] at hx
        rcases hx with hx | rfl
        · exact h4 x hx
        · exact itemL_len _ _ _ _
theorem join_snoc (L : List (List UInt8)) (x sep : List UInt8) : Lib.join (L ++ [x]) sep = if L = [] then x else Lib.join L sep ++ (sep ++ x) := by
  cases L with
  | nil => simp [Lib.join_one]
  | cons y r =>
    rw [List.cons_append, Lib.join_cons, Lib.join_cons, if_neg (by simp)]
    simp [Lib.joinTail]
theorem join_ne {L : List (List UInt8)} {sep : List UInt8} (h : ∀ x ∈ L, x ≠ []) (hL : L ≠ []) : Lib.join L sep ≠ [] := by
  cases L with
  | nil => exact absurd rfl hL
  | cons y r =>
    rw [Lib.join_cons]
    have := h y (by simp)
    simp [this]
theorem join_len {L : List (List UInt8)} (h : ∀ x ∈ L, x.length ≤ 6) : (Lib.join L [32]).length ≤ 7 * L.length := by
  cases L with
  | nil => simp [Lib.join_nil]
  | cons y r =>
    rw [Lib.join_cons]
    have h1 := h y (by simp)
    have h2 : (Lib.joinTail [32] r).length ≤ 7 * r.length := by
      have h3 : ∀ x ∈ r, x.length ≤ 6 := fun x hx => h x (by simp [hx])
      clear h h1
      induction r with
      | nil => simp [Lib.joinTail]
      | cons z r ih =>
        have h4 := h3 z (by simp)
        have h5 := ih fun x hx => h3 x (by simp [hx])
        simp only [Lib.joinTail, List.map_cons, List.flatten_cons, List.length_append, List.length_cons, List.length_nil] at h5 ⊢
        omega
    simp only [List.length_append, List.length_cons]
    omega
/-- The reference's text behind i leads. -/
def sT (P : Nat → UInt8 → Nat) (t : List UInt8) (i : Nat) : List UInt8 := Lib.join (calSt P t i).2 [32]
theorem sT_nil {P : Nat → UInt8 → Nat} {t : List UInt8} {i : Nat} : sT P t i = [] ↔ (calSt P t i).2 = [] := by
  constructor
  · intro h
    cases hl : (calSt P t i).2 with
    | nil => rfl
    | cons y r => exact absurd h (join_ne (calSt_le P t i).2.2.1 (by rw [hl]; simp))
  · intro h; unfold sT; rw [h, Lib.join_nil]
theorem sT_p {P : Nat → UInt8 → Nat} {t : List UInt8} {i : Nat} (h : t.getD i 0 = 112) : sT P t (i + 1) = sT P t i := by unfold sT; rw [calSt_p h]
theorem sT_c {P : Nat → UInt8 → Nat} {t : List UInt8} {i : Nat} (h : t.getD i 0 ≠ 112) : sT P t (i + 1) = (if sT P t i = [] then [] else sT P t i ++ [32]) ++ itemL P t i (calSt P t i).1 := by
  have e : sT P t (i + 1) = Lib.join ((calSt P t i).2 ++ [itemL P t i (calSt P t i).1]) [32] := by unfold sT; rw [calSt_c h]
  rw [e, join_snoc]
  by_cases hn : (calSt P t i).2 = []
  · rw [if_pos hn, if_pos (sT_nil.2 hn)]; rfl
  · rw [if_neg hn, if_neg (fun e => hn (sT_nil.1 e)), List.append_assoc]; rfl
theorem sT_len (P : Nat → UInt8 → Nat) (t : List UInt8) (i : Nat) : (sT P t i).length ≤ 7 * i := by
  obtain ⟨_, h2, _, h4⟩ := calSt_le P t i
  exact Nat.le_trans (join_len h4) (by omega)
/-- The items of a touch's calling, and its text. -/
def calItems (P : Nat → UInt8 → Nat) (t : List UInt8) : List (List UInt8) := (calSt P t t.length).2 ++ if (calSt P t t.length).1 = t.length then [] else [112 :: decL (t.length - (calSt P t t.length).1)]
def calText (P : Nat → UInt8 → Nat) (t : List UInt8) : List UInt8 := Lib.join (calItems P t) [32]
theorem calText_none {P : Nat → UInt8 → Nat} {t : List UInt8} (h : (calSt P t t.length).1 = t.length) : calText P t = sT P t t.length := by
  unfold calText calItems sT; rw [if_pos h, List.append_nil]
theorem calText_some {P : Nat → UInt8 → Nat} {t : List UInt8} (h : (calSt P t t.length).1 ≠ t.length) : calText P t = (if sT P t t.length = [] then [] else sT P t t.length ++ [32]) ++ 112 :: decL (t.length - (calSt P t t.length).1) := by
  unfold calText calItems
  rw [if_neg h, join_snoc]
  by_cases hn : (calSt P t t.length).2 = []
  · rw [if_pos hn, if_pos (sT_nil.2 hn)]; rfl
  · rw [if_neg hn, if_neg (fun e => hn (sT_nil.1 e)), List.append_assoc]; rfl
theorem calItems_le (P : Nat → UInt8 → Nat) (t : List UInt8) : (calItems P t).length ≤ t.length + 1 ∧ ∀ x ∈ calItems P t, x.length ≤ 6 := by
  obtain ⟨_, h2, _, h4⟩ := calSt_le P t t.length
  unfold calItems
  split
  · rw [List.append_nil]; exact ⟨by omega, h4⟩
  · refine ⟨by simp; omega, fun x hx => ?_⟩
    simp only [List.mem_append, List.mem_singleton] at hx
    rcases hx with hx | rfl
    · exact h4 x hx
    · have := decL_len (t.length - (calSt P t t.length).1); simp; omega
theorem calText_len (P : Nat → UInt8 → Nat) (t : List UInt8) : (calText P t).length ≤ 7 * t.length + 7 := by
  obtain ⟨h1, h2⟩ := calItems_le P t
  exact Nat.le_trans (join_len h2) (by omega)
/-- The place of the bell behind lead j, rung with the call c. -/
def plP (N : Nat) (ch : List (List UInt8)) (k : List UInt8 × List UInt8) (t : List UInt8) (bell : Int) (j : Nat) (c : UInt8) : Nat := placeL (timesL (headTo N ch k t j) (callHeadL N ch k [c])) bell
theorem take1_at {t : List UInt8} {i : Nat} (h : i < t.length) : List.take 1 (List.drop i t) = [t.getD i 0] := by
  rw [List.drop_eq_getElem_cons h, List.take_succ_cons, List.take_zero]; simp [h]
end Go.Proofs.YtihaopijnkiafaaGreatDoor
