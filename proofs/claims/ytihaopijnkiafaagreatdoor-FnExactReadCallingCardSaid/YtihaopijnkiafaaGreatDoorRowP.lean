/- Plain laws of rows as lists of bytes: products, inverses, powers, orders. No conditions beyond those stated. -/
import Derived.Test.YtihaopijnkiafaaGreatDoorBase
set_option linter.unusedVariables false
set_option linter.unusedSimpArgs false
set_option maxRecDepth 100000
namespace Go.Proofs.YtihaopijnkiafaaGreatDoor
open Go.RowKit

/-! ### finite maps -/

theorem inj_surj (n : Nat) : ∀ (f : Nat → Nat), (∀ i, i < n → f i < n) → (∀ i j, i < n → j < n → f i = f j → i = j) → ∀ j, j < n → ∃ i, i < n ∧ f i = j := by
  induction n with
  | zero => intro f _ _ j hj; omega
  | succ n ih =>
    intro f hr hi
    by_cases hn : f n = n
    · intro j hj
      by_cases hjn : j = n
      · exact ⟨n, by omega, by omega⟩
      · obtain ⟨i, h1, h2⟩ := ih f (fun i h => by
          have h3 := hr i (by omega)
          have h4 := hi i n (by omega) (by omega)
          omega) (fun i j h1 h2 => hi i j (by omega) (by omega)) j (by omega)
        exact ⟨i, by omega, h2⟩
    · have hk : f n < n := by have := hr n (by omega); omega
      have key := ih (fun i => if f i = n then f n else f i) (fun i h => by
          have := hr i (by omega)
          split <;> omega) (fun i j h1 h2 h => by
          have a1 := hi i j (by omega) (by omega)
          have a2 := hi i n (by omega) (by omega)
          have a3 := hi j n (by omega) (by omega)
          split at h <;> split at h <;> omega)
      intro j hj
      by_cases hjn : j = n
      · obtain ⟨i, h1, h2⟩ := key (f n) hk
        have a2 := hi i n (by omega) (by omega)
        split at h2
        · exact ⟨i, by omega, by omega⟩
        · omega
      · obtain ⟨i, h1, h2⟩ := key j (by omega)
        split at h2
        · exact ⟨n, by omega, by omega⟩
        · exact ⟨i, by omega, h2⟩

/-- f k times. -/
def itF (f : Nat → Nat) : Nat → Nat → Nat
  | 0, x => x
  | k + 1, x => itF f k (f x)
theorem itF_add (f : Nat → Nat) (q : Nat) : ∀ p x, itF f (p + q) x = itF f q (itF f p x)
  | 0, x => by rw [Nat.zero_add]; rfl
  | p + 1, x => by rw [Nat.add_right_comm]; exact itF_add f q p (f x)
theorem itF_lt (f : Nat → Nat) (n : Nat) (hr : ∀ i, i < n → f i < n) : ∀ k x, x < n → itF f k x < n
  | 0, _, h => h
  | k + 1, x, h => itF_lt f n hr k (f x) (hr x h)
theorem itF_inj (f : Nat → Nat) (n : Nat) (hr : ∀ i, i < n → f i < n) (hi : ∀ i j, i < n → j < n → f i = f j → i = j) : ∀ k x y, x < n → y < n → itF f k x = itF f k y → x = y
  | 0, _, _, _, _, h => h
  | k + 1, x, y, hx, hy, h => hi x y hx hy (itF_inj f n hr hi k (f x) (f y) (hr x hx) (hr y hy) h)
theorem itF_period (f : Nat → Nat) (n : Nat) (hr : ∀ i, i < n → f i < n) (hi : ∀ i j, i < n → j < n → f i = f j → i = j) (x : Nat) (hx : x < n) : ∃ p, 1 ≤ p ∧ p ≤ n ∧ itF f p x = x := by
  by_cases hex : ∃ p q, p < q ∧ q ≤ n ∧ itF f p x = itF f q x
  · obtain ⟨p, q, h1, h2, h3⟩ := hex
    refine ⟨q - p, by omega, by omega, ?_⟩
    have e := itF_add f p (q - p) x
    rw [show q - p + p = q by omega, ← h3] at e
    exact (itF_inj f n hr hi p _ _ hx (itF_lt f n hr _ _ hx) e).symm
  · exfalso
    obtain ⟨i, h1, h2⟩ := inj_surj n (fun k => itF f k x) (fun k _ => itF_lt f n hr k x hx) (fun i j h1 h2 h => by
      rcases Nat.lt_trichotomy i j with h3 | h3 | h3
      · exact absurd ⟨i, j, h3, by omega, h⟩ hex
      · exact h3
      · exact absurd ⟨j, i, h3, by omega, h.symm⟩ hex) (itF f n x) (itF_lt f n hr n x hx)
    exact hex ⟨i, n, h1, Nat.le_refl _, h2⟩
theorem itF_mul (f : Nat → Nat) (p x : Nat) (h : itF f p x = x) : ∀ m, itF f (m * p) x = x
  | 0 => by rw [Nat.zero_mul]; rfl
  | m + 1 => by rw [Nat.succ_mul, itF_add, itF_mul f p x h m, h]
theorem itF_840 (f : Nat → Nat) (n : Nat) (hn : n ≤ 8) (hr : ∀ i, i < n → f i < n) (hi : ∀ i j, i < n → j < n → f i = f j → i = j) (x : Nat) (hx : x < n) : itF f 840 x = x := by
  obtain ⟨p, h1, h2, h3⟩ := itF_period f n hr hi x hx
  have : ∃ m, 840 = m * p := by
    have : p = 1 ∨ p = 2 ∨ p = 3 ∨ p = 4 ∨ p = 5 ∨ p = 6 ∨ p = 7 ∨ p = 8 := by omega
    rcases this with rfl | rfl | rfl | rfl | rfl | rfl | rfl | rfl
    · exact ⟨840, rfl⟩
    · exact ⟨420, rfl⟩
    · exact ⟨280, rfl⟩
    · exact ⟨210, rfl⟩
    · exact ⟨168, rfl⟩
    · exact ⟨140, rfl⟩
    · exact ⟨120, rfl⟩
    · exact ⟨105, rfl⟩
  obtain ⟨m, e⟩ := this
  rw [e]
  exact itF_mul f p x h3 m

/-! ### rows -/

theorem gd_at (l : List UInt8) (i : Nat) (h : i < l.length) : l.getD i 0 = l[i] := by simp [List.getD, h]
theorem gd_ext {a b : List UInt8} (hl : a.length = b.length) (h : ∀ i, i < a.length → a.getD i 0 = b.getD i 0) : a = b := by
  apply List.ext_getElem hl
  intro i h1 h2
  have := h i h1
  rwa [gd_at _ _ h1, gd_at _ _ h2] at this
/-- The byte of bell i, counted from 0. -/
def b49 (i : Nat) : UInt8 := UInt8.ofNat (49 + i)
theorem b49_nat (i : Nat) (h : i < 200) : (b49 i).toNat = 49 + i := by
  simp only [b49, UInt8.toNat_ofNat']; omega
theorem b49_inj {i j : Nat} (hi : i < 200) (hj : j < 200) (h : b49 i = b49 j) : i = j := by
  have := congrArg UInt8.toNat h
  rw [b49_nat i hi, b49_nat j hj] at this; omega
/-- The bell at a place, both from 0 on. -/
def dig (r : List UInt8) (i : Nat) : Nat := (r.getD i 0).toNat - 49
structure IsRow (r : List UInt8) : Prop where
  lo : 3 ≤ r.length
  hi : r.length ≤ 8
  rng : ∀ i, i < r.length → 49 ≤ (r.getD i 0).toNat ∧ (r.getD i 0).toNat < 49 + r.length
  inj : ∀ i j, i < r.length → j < r.length → r.getD i 0 = r.getD j 0 → i = j
theorem IsRow.dig_lt {r : List UInt8} (h : IsRow r) {i : Nat} (hi : i < r.length) : dig r i < r.length := by
  have := h.rng i hi; unfold dig; omega
theorem IsRow.byte {r : List UInt8} (h : IsRow r) {i : Nat} (hi : i < r.length) : r.getD i 0 = b49 (dig r i) := by
  have h1 := h.rng i hi
  have h2 := h.hi
  apply UInt8.toNat_inj.1
  rw [b49_nat _ (by unfold dig; omega)]
  unfold dig; omega
theorem IsRow.nat {r : List UInt8} (h : IsRow r) {i : Nat} (hi : i < r.length) : (r.getD i 0).toNat = 49 + dig r i := by
  have h1 := h.rng i hi; unfold dig; omega
theorem IsRow.dig_inj {r : List UInt8} (h : IsRow r) {i j : Nat} (hi : i < r.length) (hj : j < r.length) (e : dig r i = dig r j) : i = j := by
  apply h.inj i j hi hj
  rw [h.byte hi, h.byte hj, e]
theorem IsRow.surj {r : List UInt8} (h : IsRow r) {j : Nat} (hj : j < r.length) : ∃ i, i < r.length ∧ dig r i = j :=
  inj_surj r.length (dig r) (fun _ hi => h.dig_lt hi) (fun _ _ hi hj e => h.dig_inj hi hj e) j hj
theorem row_ext {a b : List UInt8} (ha : IsRow a) (hb : IsRow b) (hl : a.length = b.length) (h : ∀ i, i < a.length → dig a i = dig b i) : a = b :=
  gd_ext hl fun i hi => by rw [ha.byte hi, hb.byte (by omega), h i hi]
theorem isRow_of {r : List UInt8} (lo : 3 ≤ r.length) (hi : r.length ≤ 8) (f : Nat → Nat) (hf : ∀ i, i < r.length → f i < r.length) (inj : ∀ i j, i < r.length → j < r.length → f i = f j → i = j)
    (h : ∀ i, i < r.length → r.getD i 0 = b49 (f i)) : IsRow r :=
  ⟨lo, hi, fun i hl => by rw [h i hl, b49_nat _ (by have := hf i hl; omega)]; have := hf i hl; omega, fun i j h1 h2 e => by
    rw [h i h1, h j h2] at e
    exact inj i j h1 h2 (b49_inj (by have := hf i h1; omega) (by have := hf j h2; omega) e)⟩
theorem dig_of {r : List UInt8} {i d : Nat} (h : r.getD i 0 = b49 d) (hd : d < 200) : dig r i = d := by
  unfold dig; rw [h, b49_nat d hd]; omega

def roundsL (n : Nat) : List UInt8 := (List.range n).map b49
theorem rounds_len (n : Nat) : (roundsL n).length = n := by simp [roundsL]
theorem rounds_at {n i : Nat} (hi : i < n) : (roundsL n).getD i 0 = b49 i := by
  rw [gd_at _ _ (by rw [rounds_len]; exact hi)]; simp [roundsL]
theorem rounds_row {n : Nat} (lo : 3 ≤ n) (hi : n ≤ 8) : IsRow (roundsL n) :=
  isRow_of (by rw [rounds_len]; exact lo) (by rw [rounds_len]; exact hi) id (fun _ h => h) (fun _ _ _ _ h => h) (fun i h => rounds_at (by rwa [rounds_len] at h))
theorem rounds_dig {n i : Nat} (hn : n ≤ 8) (hi : i < n) : dig (roundsL n) i = i := dig_of (rounds_at hi) (by omega)
theorem rounds_text (n : Nat) (h : n ≤ 8) : List.take n [49, 50, 51, 52, 53, 54, 55, 56] = roundsL n := by
  have : n = 0 ∨ n = 1 ∨ n = 2 ∨ n = 3 ∨ n = 4 ∨ n = 5 ∨ n = 6 ∨ n = 7 ∨ n = 8 := by omega
  rcases this with rfl | rfl | rfl | rfl | rfl | rfl | rfl | rfl | rfl <;> rfl

/-- The product of two rows. -/
def timesL (a b : List UInt8) : List UInt8 := b.map fun x => a.getD (x.toNat - 49) 0
theorem times_len (a b : List UInt8) : (timesL a b).length = b.length := by simp [timesL]
theorem times_at (a : List UInt8) {b : List UInt8} {i : Nat} (hi : i < b.length) : (timesL a b).getD i 0 = a.getD (dig b i) 0 := by
  rw [gd_at _ _ (by rw [times_len]; exact hi)]
  simp [timesL, dig, hi]
theorem times_dig (a : List UInt8) {b : List UInt8} {i : Nat} (hi : i < b.length) : dig (timesL a b) i = dig a (dig b i) := by
  unfold dig; rw [times_at a hi]; rfl
theorem times_row {a b : List UInt8} (ha : IsRow a) (hb : IsRow b) (hl : a.length = b.length) : IsRow (timesL a b) :=
  isRow_of (by rw [times_len]; exact hb.lo) (by rw [times_len]; exact hb.hi) (fun i => dig a (dig b i))
    (fun i h => by rw [times_len] at h ⊢; rw [← hl]; exact ha.dig_lt (by rw [hl]; exact hb.dig_lt h))
    (fun i j h1 h2 e => by
      rw [times_len] at h1 h2
      exact hb.dig_inj h1 h2 (ha.dig_inj (by rw [hl]; exact hb.dig_lt h1) (by rw [hl]; exact hb.dig_lt h2) e))
    (fun i h => by
      rw [times_len] at h
      rw [times_at a h, ha.byte (by rw [hl]; exact hb.dig_lt h)])
theorem times_assoc (a : List UInt8) {b c : List UInt8} (hc : IsRow c) (hl : b.length = c.length) : timesL (timesL a b) c = timesL a (timesL b c) := by
  apply gd_ext (by simp [times_len])
  intro i hi
  rw [times_len] at hi
  rw [times_at _ hi, times_at _ (by rw [hl]; exact hc.dig_lt hi), times_at _ (by rw [times_len]; exact hi), times_dig _ hi]
theorem times_rounds {a : List UInt8} (ha : a.length ≤ 8) : timesL a (roundsL a.length) = a := by
  apply gd_ext (by rw [times_len, rounds_len])
  intro i hi
  rw [times_len, rounds_len] at hi
  rw [times_at _ (by rw [rounds_len]; exact hi), rounds_dig ha hi]
theorem rounds_times {a : List UInt8} (ha : IsRow a) : timesL (roundsL a.length) a = a := by
  apply gd_ext (by rw [times_len])
  intro i hi
  rw [times_len] at hi
  rw [times_at _ hi, rounds_at (ha.dig_lt hi), ha.byte hi]

/-- The place of bell j, both from 0 on. -/
def posOf (a : List UInt8) (j : Nat) : Nat := a.findIdx fun x => x == b49 j
theorem posOf_spec {a : List UInt8} (h : IsRow a) {j : Nat} (hj : j < a.length) : posOf a j < a.length ∧ dig a (posOf a j) = j := by
  obtain ⟨i, h1, h2⟩ := h.surj hj
  have hlt : posOf a j < a.length := by
    apply List.findIdx_lt_length_of_exists
    refine ⟨a[i], List.getElem_mem h1, ?_⟩
    have := h.byte h1
    rw [gd_at _ _ h1, h2] at this
    simp [this]
  refine ⟨hlt, ?_⟩
  have := List.findIdx_getElem (xs := a) (p := fun x => x == b49 j) (w := hlt)
  simp only [beq_iff_eq] at this
  apply dig_of _ (by have := h.hi; omega)
  rw [gd_at _ _ hlt]
  exact this
theorem posOf_dig {a : List UInt8} (h : IsRow a) {i : Nat} (hi : i < a.length) : posOf a (dig a i) = i := by
  have := posOf_spec h (h.dig_lt hi)
  exact h.dig_inj this.1 hi this.2
/-- The inverse of a row. -/
def turnL (a : List UInt8) : List UInt8 := (List.range a.length).map fun j => b49 (posOf a j)
theorem turn_len (a : List UInt8) : (turnL a).length = a.length := by simp [turnL]
theorem turn_at {a : List UInt8} {j : Nat} (hj : j < a.length) : (turnL a).getD j 0 = b49 (posOf a j) := by
  rw [gd_at _ _ (by rw [turn_len]; exact hj)]; simp [turnL]
theorem turn_row {a : List UInt8} (h : IsRow a) : IsRow (turnL a) :=
  isRow_of (by rw [turn_len]; exact h.lo) (by rw [turn_len]; exact h.hi) (posOf a) (fun i hi => by rw [turn_len] at hi ⊢; exact (posOf_spec h hi).1)
    (fun i j hi hj e => by
      rw [turn_len] at hi hj
      have h1 := (posOf_spec h hi).2
      have h2 := (posOf_spec h hj).2
      rw [e] at h1
      omega)
    (fun i hi => turn_at (by rwa [turn_len] at hi))
theorem turn_dig {a : List UInt8} (h : IsRow a) {j : Nat} (hj : j < a.length) : dig (turnL a) j = posOf a j := dig_of (turn_at hj) (by have := (posOf_spec h hj).1; have := h.hi; omega)
theorem turn_times {a : List UInt8} (h : IsRow a) : timesL (turnL a) a = roundsL a.length := by
  apply gd_ext (by rw [times_len, rounds_len])
  intro i hi
  rw [times_len] at hi
  rw [times_at _ hi, turn_at (h.dig_lt hi), posOf_dig h hi, rounds_at hi]
theorem times_turn {a : List UInt8} (h : IsRow a) : timesL a (turnL a) = roundsL a.length := by
  apply gd_ext (by rw [times_len, rounds_len, turn_len])
  intro i hi
  rw [times_len, turn_len] at hi
  rw [times_at _ (by rw [turn_len]; exact hi), turn_dig h hi, h.byte (posOf_spec h hi).1, (posOf_spec h hi).2, rounds_at hi]

/-- The inverse while it is laid: the first k bells have their places. -/
def turnS (base a : List UInt8) (k : Nat) : List UInt8 := (List.range a.length).map fun j => if posOf a j < k then b49 (posOf a j) else base.getD j 0
theorem turnS_len (base a : List UInt8) (k : Nat) : (turnS base a k).length = a.length := by simp [turnS]
theorem turnS_at (base : List UInt8) {a : List UInt8} (k : Nat) {j : Nat} (hj : j < a.length) : (turnS base a k).getD j 0 = if posOf a j < k then b49 (posOf a j) else base.getD j 0 := by
  rw [gd_at _ _ (by rw [turnS_len]; exact hj)]; simp [turnS]
theorem turnS_zero {base a : List UInt8} (hl : base.length = a.length) : turnS base a 0 = base := by
  apply gd_ext (by rw [turnS_len, hl])
  intro i hi
  rw [turnS_len] at hi
  rw [turnS_at _ _ hi, if_neg (by omega)]
theorem turnS_all {base a : List UInt8} (h : IsRow a) : turnS base a a.length = turnL a := by
  apply gd_ext (by rw [turnS_len, turn_len])
  intro i hi
  rw [turnS_len] at hi
  rw [turnS_at _ _ hi, if_pos (posOf_spec h hi).1, turn_at hi]
theorem turnS_step {base a : List UInt8} (h : IsRow a) {k : Nat} (hk : k < a.length) : (turnS base a k).set (dig a k) (b49 k) = turnS base a (k + 1) := by
  apply gd_ext (by rw [List.length_set, turnS_len, turnS_len])
  intro i hi
  rw [List.length_set, turnS_len] at hi
  rw [turnS_at _ _ hi, gd_at _ _ (by rw [List.length_set, turnS_len]; exact hi), List.getElem_set]
  by_cases e : dig a k = i
  · subst e
    rw [if_pos rfl, posOf_dig h hk, if_pos (by omega)]
  · rw [if_neg e, ← gd_at _ _ (by rw [turnS_len]; exact hi), turnS_at _ _ hi]
    have hne : posOf a i ≠ k := fun e2 => e (by rw [← e2]; exact (posOf_spec h hi).2)
    by_cases hlt : posOf a i < k
    · rw [if_pos hlt, if_pos (by omega)]
    · rw [if_neg hlt, if_neg (by omega)]

/-! ### powers -/

def powL (a : List UInt8) : Nat → List UInt8
  | 0 => roundsL a.length
  | k + 1 => timesL (powL a k) a
theorem pow_len (a : List UInt8) (k : Nat) : (powL a k).length = a.length := by
  cases k with
  | zero => exact rounds_len _
  | succ k => exact times_len _ _
theorem pow_row {a : List UInt8} (h : IsRow a) (k : Nat) : IsRow (powL a k) := by
  induction k with
  | zero => exact rounds_row h.lo h.hi
  | succ k ih => exact times_row ih h (pow_len a k)
theorem pow_one {a : List UInt8} (h : IsRow a) : powL a 1 = a := rounds_times h
theorem pow_dig {a : List UInt8} (h : IsRow a) (k : Nat) : ∀ i, i < a.length → dig (powL a k) i = itF (dig a) k i := by
  induction k with
  | zero => intro i hi; exact rounds_dig h.hi hi
  | succ k ih =>
    intro i hi
    show dig (timesL (powL a k) a) i = itF (dig a) k (dig a i)
    rw [times_dig _ hi, ih _ (h.dig_lt hi)]
theorem pow_840 {a : List UInt8} (h : IsRow a) : powL a 840 = roundsL a.length := by
  apply row_ext (pow_row h _) (rounds_row h.lo h.hi) (by rw [pow_len, rounds_len])
  intro i hi
  rw [pow_len] at hi
  rw [pow_dig h _ _ hi, rounds_dig h.hi hi]
  exact itF_840 (dig a) a.length h.hi (fun _ hi => h.dig_lt hi) (fun _ _ hi hj e => h.dig_inj hi hj e) i hi
def ordFrom (a : List UInt8) : Nat → Nat → Nat
  | 0, k => k
  | f + 1, k => if powL a k = roundsL a.length then k else ordFrom a f (k + 1)
/-- The order of a row. -/
def ordL (a : List UInt8) : Nat := ordFrom a 840 1
theorem ordFrom_spec (a : List UInt8) (m : Nat) (hm : powL a m = roundsL a.length) : ∀ f k, k ≤ m → m < k + f → powL a (ordFrom a f k) = roundsL a.length ∧ k ≤ ordFrom a f k ∧ ordFrom a f k ≤ m ∧ ∀ j, k ≤ j → j < ordFrom a f k → powL a j ≠ roundsL a.length
  | 0, k, h1, h2 => by omega
  | f + 1, k, h1, h2 => by
    rw [ordFrom]
    by_cases e : powL a k = roundsL a.length
    · rw [if_pos e]
      exact ⟨e, Nat.le_refl _, h1, fun j h3 h4 => by omega⟩
    · rw [if_neg e]
      have hk : k ≠ m := fun e2 => e (by rw [e2]; exact hm)
      obtain ⟨a1, a2, a3, a4⟩ := ordFrom_spec a m hm f (k + 1) (by omega) (by omega)
      exact ⟨a1, by omega, a3, fun j h3 h4 => by
        by_cases e3 : j = k
        · rw [e3]; exact e
        · exact a4 j (by omega) h4⟩
theorem ord_pos {a : List UInt8} (h : IsRow a) : 1 ≤ ordL a := (ordFrom_spec a 840 (pow_840 h) 840 1 (by omega) (by omega)).2.1
theorem ord_le {a : List UInt8} (h : IsRow a) : ordL a ≤ 840 := (ordFrom_spec a 840 (pow_840 h) 840 1 (by omega) (by omega)).2.2.1
theorem ord_pow {a : List UInt8} (h : IsRow a) : powL a (ordL a) = roundsL a.length := (ordFrom_spec a 840 (pow_840 h) 840 1 (by omega) (by omega)).1
theorem ord_least {a : List UInt8} (h : IsRow a) {j : Nat} (h1 : 1 ≤ j) (h2 : j < ordL a) : powL a j ≠ roundsL a.length := (ordFrom_spec a 840 (pow_840 h) 840 1 (by omega) (by omega)).2.2.2 j h1 h2
theorem ord_iff {a : List UInt8} (h : IsRow a) {j : Nat} (h1 : 1 ≤ j) (h2 : j ≤ ordL a) : powL a j = roundsL a.length ↔ j = ordL a := by
  constructor
  · intro e
    rcases Nat.lt_or_ge j (ordL a) with h3 | h3
    · exact absurd e (ord_least h h1 h3)
    · omega
  · rintro rfl; exact ord_pow h
end Go.Proofs.YtihaopijnkiafaaGreatDoor
