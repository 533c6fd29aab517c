/- Plain laws of a result's check: both ways of testing agree. No conditions beyond those stated. -/
import Derived.Test.YtnkpbahapaocbaaCutP
import Derived.Test.YtnkpbahapaocbaaSortP
set_option linter.unusedVariables false
set_option linter.unusedSimpArgs false
set_option maxRecDepth 100000
namespace Go.Proofs.Ytnkpbahapaocbaa
open Go.RowKit

/-- F holds below n. -/
def rall (n : Nat) (F : Nat → Bool) : Bool := (List.range n).all F
theorem rall_iff {n : Nat} {F : Nat → Bool} : rall n F = true ↔ ∀ i, i < n → F i = true := by
  simp [rall, List.all_eq_true, List.mem_range]
theorem rall_zero (F : Nat → Bool) : rall 0 F = true := rfl
theorem rall_step {k : Nat} {F : Nat → Bool} (h : rall k F = true) (hk : F k = true) : rall (k + 1) F = true := rall_iff.2 fun i hi => by
  rcases Nat.lt_succ_iff_lt_or_eq.1 hi with h1 | rfl
  · exact rall_iff.1 h i h1
  · exact hk
theorem rall_bad {k n : Nat} {F : Nat → Bool} (hk : k < n) (hF : F k = false) : rall n F = false := by
  cases h : rall n F
  · rfl
  · rw [rall_iff.1 h k hk] at hF; cases hF
def gS (l : List (List UInt8)) (i : Nat) : List UInt8 := (l[i]?).getD []
theorem gS_eq {l : List (List UInt8)} {i : Nat} (h : i < l.length) : gS l i = l[i] := by simp [gS, h]
def gC (l : List (List UInt8 × Int × Int)) (i : Nat) : List UInt8 × Int × Int := (l[i]?).getD ([], 0, 0)
theorem gC_eq {l : List (List UInt8 × Int × Int)} {i : Nat} (h : i < l.length) : gC l i = l[i] := by simp [gC, h]
theorem gS_map {l : List (List UInt8 × Int × Int)} {i : Nat} (h : i < l.length) : gS (l.map fun c => c.1) i = (gC l i).1 := by simp [gS, gC, h]
/-- a begins b. -/
def preB (a b : List UInt8) : Bool := decide (a.length ≤ b.length) && (b.take a.length == a)
theorem preB_iff {a b : List UInt8} : preB a b = true ↔ a <+: b := by
  simp only [preB, Bool.and_eq_true, decide_eq_true_eq, beq_iff_eq]
  constructor
  · rintro ⟨_, h⟩
    exact List.prefix_iff_eq_take.2 h.symm
  · intro h
    exact ⟨h.length_le, (List.prefix_iff_eq_take.1 h).symm⟩
theorem preB_has (a b : List UInt8) : Lib.hasPrefix b a = preB a b := by
  rw [Bool.eq_iff_iff, preB_iff]
  exact List.isPrefixOf_iff_prefix
/-- Strictly increasing. -/
def incB (l : List (List UInt8)) : Bool := rall (l.length - 1) fun i => Op.bytesLess (gS l i) (gS l (i + 1))
def tsB (tst : List UInt8 → Bool) (ts : List (List UInt8)) : Bool := rall ts.length fun i => tst (gS ts i)
def csB (isC : List UInt8 × Int × Int → Bool) (cs : List (List UInt8 × Int × Int)) : Bool := rall cs.length fun i => isC (gC cs i)
def sumL (q : Nat) (cs : List (List UInt8 × Int × Int)) : Nat := (cs.map fun c => 3 ^ (q - c.1.length)).sum
theorem sumL_nil (q : Nat) : sumL q [] = 0 := rfl
theorem sumL_take (q : Nat) (cs : List (List UInt8 × Int × Int)) (k : Nat) (h : k < cs.length) : sumL q (cs.take (k + 1)) = sumL q (cs.take k) + 3 ^ (q - (gC cs k).1.length) := by
  rw [List.take_succ_eq_append_getElem h]
  simp only [sumL, List.map_append, List.sum_append, List.map_cons, List.map_nil, List.sum_cons, List.sum_nil, Nat.add_zero, gC_eq h]
theorem sumL_le (q : Nat) (hq : q ≤ 6) (cs : List (List UInt8 × Int × Int)) : sumL q cs ≤ 729 * cs.length := by
  induction cs with
  | nil => simp [sumL]
  | cons c cs ih =>
    have h1 : 3 ^ (q - c.1.length) ≤ 3 ^ 6 := Nat.pow_le_pow_right (by omega) (by omega)
    simp only [sumL, List.map_cons, List.sum_cons, List.length_cons] at ih ⊢
    omega
theorem sumL_ge (q : Nat) (cs : List (List UInt8 × Int × Int)) : cs.length ≤ sumL q cs := by
  induction cs with
  | nil => simp [sumL]
  | cons c cs ih =>
    have h1 : 0 < 3 ^ (q - c.1.length) := Nat.pow_pos (by omega)
    simp only [sumL, List.map_cons, List.sum_cons, List.length_cons] at ih ⊢
    omega
/-- No cut's prefix begins another one or a touch. -/
def apartB (T C : List (List UInt8)) : Bool := rall C.length fun i => rall C.length (fun k => i == k || !preB (gS C i) (gS C k)) && rall T.length (fun k => !preB (gS C i) (gS T k))
/-- No text begins another one. -/
def apartL (l : List (List UInt8)) : Bool := rall l.length fun i => rall l.length fun k => i == k || !preB (gS l i) (gS l k)
def refT (tst : List UInt8 → Bool) (ts : List (List UInt8)) : Bool := rall ts.length fun i => tst (gS ts i) && (i == 0 || Op.bytesLess (gS ts (i - 1)) (gS ts i))
/-- What the program tests. -/
def chkI (g fin : Bool) (tst : List UInt8 → Bool) (isC : List UInt8 × Int × Int → Bool) (q : Nat) (ts : List (List UInt8)) (cs : List (List UInt8 × Int × Int)) : Bool :=
  ((g && fin) && incB ts) && (csB isC cs && (decide (ts.length + sumL q cs = 3 ^ q) && (tsB tst ts && apartB ts (cs.map fun c => c.1))))
/-- What the reference tests. -/
def chkS (g fin : Bool) (tst : List UInt8 → Bool) (isC : List UInt8 × Int × Int → Bool) (q : Nat) (ts : List (List UInt8)) (cs : List (List UInt8 × Int × Int)) : Bool :=
  ((g && fin) && decide (ts.length + cs.length ≤ 3 ^ q)) && (refT tst ts && (csB isC cs && (apartL (ts ++ cs.map fun c => c.1) && decide (ts.length + sumL q cs = 3 ^ q))))
theorem less_trans {x y z : List UInt8} (h : Op.bytesLess x y = true) (k : Op.bytesLess y z = true) : Op.bytesLess x z = true := by
  cases hn : Op.bytesLess x z
  · have h1 := leS_of_less hn
    have h2 := not_leS h
    have h3 := not_leS k
    have h4 : leS x y = true := by
      have := leS_total x y
      rw [h2, Bool.or_false] at this
      exact this
    rw [leS_trans z x y h1 h4] at h3
    cases h3
  · rfl
theorem less_irr (x : List UInt8) : Op.bytesLess x x = false := by
  cases h : Op.bytesLess x x
  · rfl
  · have h1 := not_leS h
    have h2 := leS_total x x
    rw [h1] at h2
    cases h2
theorem inc_lt {l : List (List UInt8)} (h : incB l = true) (d i : Nat) (hi : i + d + 1 < l.length) : Op.bytesLess (gS l i) (gS l (i + d + 1)) = true := by
  induction d with
  | zero => exact rall_iff.1 h i (by omega)
  | succ d ih =>
    exact less_trans (ih (by omega)) (rall_iff.1 h (i + d + 1) (by omega))
theorem inc_ne {l : List (List UInt8)} (h : incB l = true) (i k : Nat) (hi : i < l.length) (hk : k < l.length) (hne : i ≠ k) : gS l i ≠ gS l k := by
  intro e
  rcases Nat.lt_or_gt_of_ne hne with h1 | h1
  · obtain ⟨d, rfl⟩ : ∃ d, k = i + d + 1 := ⟨k - i - 1, by omega⟩
    have := inc_lt h d i hk
    rw [e, less_irr] at this
    cases this
  · obtain ⟨d, rfl⟩ : ∃ d, i = k + d + 1 := ⟨i - k - 1, by omega⟩
    have := inc_lt h d k hi
    rw [e, less_irr] at this
    cases this
theorem gS_left {T C : List (List UInt8)} {i : Nat} (h : i < T.length) : gS (T ++ C) i = gS T i := by
  simp only [gS, List.getElem?_append_left h]
theorem gS_right {T C : List (List UInt8)} {i : Nat} : gS (T ++ C) (T.length + i) = gS C i := by
  simp only [gS]
  rw [List.getElem?_append_right (by omega)]
  congr 2; omega
theorem apart_fwd {T C : List (List UInt8)} (h : apartL (T ++ C) = true) : apartB T C = true := by
  have h0 := fun i k hi hk => rall_iff.1 (rall_iff.1 h i hi) k hk
  refine rall_iff.2 fun i hi => ?_
  rw [Bool.and_eq_true]
  constructor
  · refine rall_iff.2 fun k hk => ?_
    have := h0 (T.length + i) (T.length + k) (by rw [List.length_append]; omega) (by rw [List.length_append]; omega)
    rw [gS_right, gS_right] at this
    rw [show (i == k) = (T.length + i == T.length + k) by rw [Bool.eq_iff_iff, beq_iff_eq, beq_iff_eq]; omega]
    exact this
  · refine rall_iff.2 fun k hk => ?_
    have := h0 (T.length + i) k (by rw [List.length_append]; omega) (by rw [List.length_append]; omega)
    rw [gS_right, gS_left hk, show (T.length + i == k) = false by simp; omega, Bool.false_or] at this
    exact this
theorem apart_back {T C : List (List UInt8)} {q : Nat} (hinc : incB T = true) (hT : ∀ i, i < T.length → (gS T i).length = q) (hC : ∀ i, i < C.length → (gS C i).length ≤ q) (h : apartB T C = true) : apartL (T ++ C) = true := by
  have hCC : ∀ i k, i < C.length → k < C.length → i ≠ k → preB (gS C i) (gS C k) = false := fun i k hi hk hne => by
    have h1 := rall_iff.1 h i hi
    rw [Bool.and_eq_true] at h1
    have h2 := rall_iff.1 h1.1 k hk
    rw [show (i == k) = false by simpa using hne, Bool.false_or] at h2
    simpa using h2
  have hCT : ∀ i k, i < C.length → k < T.length → preB (gS C i) (gS T k) = false := fun i k hi hk => by
    have h1 := rall_iff.1 h i hi
    rw [Bool.and_eq_true] at h1
    have h2 := rall_iff.1 h1.2 k hk
    simpa using h2
  refine rall_iff.2 fun i hi => rall_iff.2 fun k hk => ?_
  rw [List.length_append] at hi hk
  by_cases hik : i = k
  · subst hik; simp
  · rw [show (i == k) = false by simpa using hik, Bool.false_or]
    suffices hh : preB (gS (T ++ C) i) (gS (T ++ C) k) = false by rw [hh]; rfl
    cases hp : preB (gS (T ++ C) i) (gS (T ++ C) k)
    · rfl
    · exfalso
      by_cases h1 : i < T.length
      · by_cases h2 : k < T.length
        · rw [gS_left h1, gS_left h2] at hp
          have := preB_iff.1 hp
          exact inc_ne hinc i k h1 h2 hik (this.eq_of_length (by rw [hT i h1, hT k h2]))
        · obtain ⟨m, rfl⟩ : ∃ m, k = T.length + m := ⟨k - T.length, by omega⟩
          rw [gS_left h1, gS_right] at hp
          have hm : m < C.length := by omega
          have hpp := preB_iff.1 hp
          have hl := hpp.length_le
          have e := hpp.eq_of_length (by have := hT i h1; have := hC m hm; omega)
          have h3 := hCT m i hm h1
          rw [e] at h3
          rw [preB_iff.2 (List.prefix_refl _)] at h3
          cases h3
      · obtain ⟨j, rfl⟩ : ∃ j, i = T.length + j := ⟨i - T.length, by omega⟩
        have hj : j < C.length := by omega
        by_cases h2 : k < T.length
        · rw [gS_right, gS_left h2, hCT j k hj h2] at hp
          cases hp
        · obtain ⟨m, rfl⟩ : ∃ m, k = T.length + m := ⟨k - T.length, by omega⟩
          rw [gS_right, gS_right, hCC j m hj (by omega) (by omega)] at hp
          cases hp
theorem chk_eq {g fin : Bool} {tst : List UInt8 → Bool} {isC : List UInt8 × Int × Int → Bool} {q : Nat} {ts : List (List UInt8)} {cs : List (List UInt8 × Int × Int)}
    (hT : ∀ t, tst t = true → t.length = q) (hC : ∀ c, isC c = true → c.1.length ≤ q) : chkS g fin tst isC q ts cs = chkI g fin tst isC q ts cs := by
  rw [Bool.eq_iff_iff]
  simp only [chkS, chkI, Bool.and_eq_true, decide_eq_true_eq]
  constructor
  · rintro ⟨⟨hg, _⟩, hr, hc, ha, hs⟩
    have hr1 := fun i hi => (Bool.and_eq_true _ _ ▸ rall_iff.1 hr i hi : tst (gS ts i) = true ∧ (i == 0 || Op.bytesLess (gS ts (i - 1)) (gS ts i)) = true)
    refine ⟨⟨hg, rall_iff.2 fun i hi => ?_⟩, hc, hs, rall_iff.2 fun i hi => (hr1 i hi).1, apart_fwd ha⟩
    have := (hr1 (i + 1) (by omega)).2
    simpa using this
  · rintro ⟨⟨hg, hi⟩, hc, hs, ht, ha⟩
    refine ⟨⟨hg, ?_⟩, rall_iff.2 fun i hi' => ?_, hc, ?_, hs⟩
    · have := sumL_ge q cs; omega
    · rw [Bool.and_eq_true]
      refine ⟨rall_iff.1 ht i hi', ?_⟩
      cases i with
      | zero => rfl
      | succ i =>
        have := rall_iff.1 hi i (by omega)
        simpa using this
    · refine apart_back hi (fun i h => hT _ (rall_iff.1 ht i h)) (fun i h => ?_) ha
      rw [List.length_map] at h
      rw [gS_map h]
      exact hC _ (rall_iff.1 hc i h)
end Go.Proofs.Ytnkpbahapaocbaa
