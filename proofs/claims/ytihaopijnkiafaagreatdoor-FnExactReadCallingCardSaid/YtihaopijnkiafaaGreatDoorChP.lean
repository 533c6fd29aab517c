/- Plain laws of changes: which are good, the row that a change makes of rounds, leads. No conditions beyond those stated. -/
import Derived.Test.YtihaopijnkiafaaGreatDoorRowP
set_option linter.unusedVariables false
set_option linter.unusedSimpArgs false
set_option maxRecDepth 100000
namespace Go.Proofs.YtihaopijnkiafaaGreatDoor
open Go.RowKit

/-- Whether a change lets a place stay (places from 1 on). -/
def stays (c : List UInt8) (p : Nat) : Bool := c.any fun x => x.toNat == 48 + p
/-- The last m places of the row that a change of stage n makes of rounds. -/
def chR (n : Nat) (c : List UInt8) : Nat → List UInt8
  | 0 => []
  | 1 => [b49 (n - 1)]
  | m + 2 => if stays c (n - (m + 1)) = true then b49 (n - (m + 2)) :: chR n c (m + 1) else b49 (n - (m + 1)) :: b49 (n - (m + 2)) :: chR n c m
def chRowL (n : Nat) (c : List UInt8) : List UInt8 := chR n c n
theorem rounds_drop {n i : Nat} (hi : i < n) : (roundsL n).drop i = b49 i :: (roundsL n).drop (i + 1) := by
  rw [List.drop_eq_getElem_cons (by rw [rounds_len]; exact hi), ← gd_at, rounds_at hi]
theorem chR_perm (n : Nat) (c : List UInt8) : ∀ m, m ≤ n → List.Perm (chR n c m) ((roundsL n).drop (n - m))
  | 0, _ => by
    rw [Nat.sub_zero, List.drop_of_length_le (by rw [rounds_len]; omega)]
    exact List.Perm.refl _
  | 1, h => by
    rw [rounds_drop (by omega), List.drop_of_length_le (by rw [rounds_len]; omega)]
    exact List.Perm.refl _
  | m + 2, h => by
    rw [chR, rounds_drop (show n - (m + 2) < n by omega), show n - (m + 2) + 1 = n - (m + 1) by omega]
    split
    · exact (chR_perm n c (m + 1) (by omega)).cons _
    · rw [rounds_drop (show n - (m + 1) < n by omega), show n - (m + 1) + 1 = n - m by omega]
      exact (((chR_perm n c m (by omega)).cons _).cons _).trans (List.Perm.swap _ _ _)
theorem row_of_perm {r : List UInt8} {n : Nat} (lo : 3 ≤ n) (hi : n ≤ 8) (h : List.Perm r (roundsL n)) : IsRow r := by
  have hl : r.length = n := by rw [h.length_eq, rounds_len]
  have hr := rounds_row lo hi
  have hnd : r.Nodup := by
    apply (List.Perm.nodup_iff h).2
    rw [List.Nodup, List.pairwise_iff_getElem]
    intro i j h1 h2 hij e
    have := hr.inj i j h1 h2 (by rw [gd_at _ _ h1, gd_at _ _ h2, e])
    omega
  refine ⟨by omega, by omega, ?_, ?_⟩
  · intro i h1
    have hm : r.getD i 0 ∈ roundsL n := by rw [gd_at _ _ h1]; exact h.mem_iff.1 (List.getElem_mem h1)
    obtain ⟨k, hk, e⟩ := List.mem_map.1 hm
    rw [List.mem_range] at hk
    rw [← e, b49_nat _ (by omega)]; omega
  · intro i j h1 h2 e
    rw [gd_at _ _ h1, gd_at _ _ h2] at e
    rw [List.Nodup, List.pairwise_iff_getElem] at hnd
    rcases Nat.lt_trichotomy i j with h3 | h3 | h3
    · exact absurd e (hnd i j h1 h2 h3)
    · exact h3
    · exact absurd e.symm (hnd j i h2 h1 h3)
theorem chRow_row {n : Nat} (c : List UInt8) (lo : 3 ≤ n) (hi : n ≤ 8) : IsRow (chRowL n c) := by
  apply row_of_perm lo hi
  have := chR_perm n c n (Nat.le_refl _)
  rwa [Nat.sub_self, List.drop_zero] at this
theorem chRow_len (n : Nat) (c : List UInt8) : (chRowL n c).length = n := by
  have := (chR_perm n c n (Nat.le_refl _)).length_eq
  rwa [Nat.sub_self, List.drop_zero, rounds_len] at this

/-! ### pairs that swap -/

def swapsR (n : Nat) (c : List UInt8) : Nat → List Nat
  | 0 => []
  | 1 => []
  | m + 2 => if stays c (n - (m + 1)) = true then swapsR n c (m + 1) else (n - (m + 1)) :: swapsR n c m
def swap1 (r : List UInt8) (p : Nat) : List UInt8 := (r.set (p - 1) (r.getD p 0)).set p (r.getD (p - 1) 0)
def swapAll (r : List UInt8) (l : List Nat) : List UInt8 := l.foldl swap1 r
theorem swap1_len (r : List UInt8) (p : Nat) : (swap1 r p).length = r.length := by simp [swap1]
theorem swapAll_len (l : List Nat) : ∀ r, (swapAll r l).length = r.length := by
  induction l with
  | nil => intro r; rfl
  | cons p l ih => intro r; exact (ih _).trans (swap1_len r p)
theorem swap1_mid (d t : List UInt8) (x y : UInt8) (p : Nat) (hp : 1 ≤ p) (hd : d.length = p - 1) : swap1 (d ++ x :: y :: t) p = d ++ y :: x :: t := by
  have e : p = d.length + 1 := by omega
  subst e
  simp [swap1, List.getD, List.set_append]
theorem swap_law (n : Nat) (c : List UInt8) : ∀ m d, m ≤ n → d.length = n - m → swapAll (d ++ (roundsL n).drop (n - m)) (swapsR n c m) = d ++ chR n c m
  | 0, d, _, _ => by
    rw [Nat.sub_zero, List.drop_of_length_le (by rw [rounds_len]; omega)]; rfl
  | 1, d, h, _ => by
    rw [rounds_drop (by omega), List.drop_of_length_le (by rw [rounds_len]; omega)]; rfl
  | m + 2, d, h, hd => by
    rw [chR, swapsR, rounds_drop (show n - (m + 2) < n by omega), show n - (m + 2) + 1 = n - (m + 1) by omega]
    split
    · have := swap_law n c (m + 1) (d ++ [b49 (n - (m + 2))]) (by omega) (by simp; omega)
      rw [List.append_assoc, List.append_assoc] at this
      exact this
    · rw [rounds_drop (show n - (m + 1) < n by omega), show n - (m + 1) + 1 = n - m by omega]
      have := swap_law n c m (d ++ [b49 (n - (m + 1)), b49 (n - (m + 2))]) (by omega) (by simp; omega)
      rw [List.append_assoc, List.append_assoc] at this
      rw [swapAll, List.foldl_cons, swap1_mid _ _ _ _ _ (by omega) (by omega)]
      exact this
theorem swaps_row (n : Nat) (c : List UInt8) : swapAll (roundsL n) (swapsR n c n) = chRowL n c := by
  have := swap_law n c n [] (Nat.le_refl _) (by simp)
  rwa [Nat.sub_self, List.drop_zero] at this

/-! ### good changes -/

def okPl (n : Nat) : Nat → List UInt8 → Bool
  | p, [] => decide (n % 2 = p % 2)
  | p, x :: xs => decide (48 + p < x.toNat) && decide (x.toNat ≤ 48 + n) && decide ((x.toNat - 48) % 2 ≠ p % 2) && okPl n (x.toNat - 48) xs
/-- Whether c is a change of stage n. -/
def okChange (n : Int) (c : List UInt8) : Bool := decide (3 ≤ n) && decide (n ≤ 8) && (if c = [45] then decide (n % 2 = 0) else decide (c ≠ []) && decide ((c.length : Int) ≤ n - 2) && okPl n.toNat 0 c)

def digs (c : List UInt8) : List Nat := c.map fun x => x.toNat - 48
def allDig (c : List UInt8) : Bool := c.all fun x => decide (49 ≤ x.toNat) && decide (x.toNat ≤ 56)
def chn : Nat → List Nat → Bool
  | _, [] => true
  | p, q :: qs => decide (p < q) && decide (q % 2 ≠ p % 2) && chn q qs
def lastOf : Nat → List Nat → Nat
  | p, [] => p
  | _, q :: qs => lastOf q qs
/-- Whether places stay in a change of stage n. -/
def arePl (n : Nat) (l : List Nat) : Bool := decide (l ≠ []) && decide (l.length ≠ n) && decide (lastOf 0 l % 2 = n % 2) && decide (lastOf 0 l ≤ n) && chn 0 l
theorem chn_last : ∀ l p, chn p l = true → p + l.length ≤ lastOf p l ∧ lastOf p l % 2 = (p + l.length) % 2
  | [], p, _ => by simp [lastOf]
  | q :: l, p, h => by
    simp only [chn, Bool.and_eq_true, decide_eq_true_eq] at h
    have := chn_last l q h.2
    simp only [lastOf, List.length_cons]
    omega
theorem okPl_iff (n : Nat) : ∀ c p, p ≤ n → (okPl n p c = true ↔ (chn p (digs c) = true ∧ lastOf p (digs c) % 2 = n % 2 ∧ lastOf p (digs c) ≤ n))
  | [], p, hp => by simp [okPl, digs, chn, lastOf]; omega
  | x :: xs, p, hp => by
    simp only [okPl, digs, List.map_cons, chn, lastOf, Bool.and_eq_true, decide_eq_true_eq]
    constructor
    · rintro ⟨⟨⟨h1, h2⟩, h3⟩, h4⟩
      have := (okPl_iff n xs (x.toNat - 48) (by omega)).1 h4
      exact ⟨⟨⟨by omega, h3⟩, this.1⟩, this.2⟩
    · rintro ⟨⟨⟨h1, h3⟩, h4⟩, h5, h6⟩
      have h7 := (chn_last _ _ h4).1
      have : (okPl n (x.toNat - 48) xs) = true := (okPl_iff n xs (x.toNat - 48) (by omega)).2 ⟨h4, h5, h6⟩
      exact ⟨⟨⟨by omega, by omega⟩, h3⟩, this⟩
theorem chn_all : ∀ c p, chn p (digs c) = true → lastOf p (digs c) ≤ 8 → allDig c = true
  | [], _, _, _ => rfl
  | x :: xs, p, h, h8 => by
    simp only [digs, List.map_cons, chn, lastOf, Bool.and_eq_true, decide_eq_true_eq] at h h8
    have h1 := chn_last _ _ h.2
    have h2 := chn_all xs (x.toNat - 48) h.2 h8
    simp only [allDig, List.all_cons, Bool.and_eq_true, decide_eq_true_eq] at h2 ⊢
    exact ⟨⟨by omega, by omega⟩, h2⟩
theorem okChange_pl (n : Nat) (c : List UInt8) (lo : 3 ≤ n) (hi : n ≤ 8) (h : c ≠ [45]) : okChange n c = (allDig c && arePl n (digs c)) := by
  have e1 : okChange n c = (decide (c ≠ []) && decide ((c.length : Int) ≤ n - 2) && okPl n 0 c) := by
    unfold okChange
    rw [if_neg h, decide_eq_true (show (3 : Int) ≤ n by omega), decide_eq_true (show (n : Int) ≤ 8 by omega)]
    simp
  rw [e1, Bool.eq_iff_iff]
  simp only [Bool.and_eq_true, decide_eq_true_eq, arePl, okPl_iff n c 0 (Nat.zero_le _)]
  have hlen : (digs c).length = c.length := by simp [digs]
  have hnil : digs c ≠ [] ↔ c ≠ [] := by simp [digs]
  constructor
  · rintro ⟨⟨h1, h2⟩, h3, h4, h5⟩
    exact ⟨chn_all c 0 h3 (by omega), ⟨⟨⟨hnil.2 h1, by rw [hlen]; omega⟩, h4⟩, h5⟩, h3⟩
  · rintro ⟨h0, ⟨⟨⟨h1, h2⟩, h4⟩, h5⟩, h3⟩
    have h6 := chn_last _ _ h3
    rw [hlen] at h2 h6
    exact ⟨⟨hnil.1 h1, by omega⟩, h3, h4, h5⟩
theorem okChange_no (n : Int) (c : List UInt8) (h : ¬ (3 ≤ n ∧ n ≤ 8)) : okChange n c = false := by
  unfold okChange
  by_cases h1 : 3 ≤ n
  · rw [decide_eq_false (show ¬ n ≤ 8 by omega)]; simp
  · rw [decide_eq_false h1]; rfl

/-! ### rows under changes -/

def applyL (r c : List UInt8) : List UInt8 := timesL r (chRowL r.length c)
theorem apply_len (r c : List UInt8) : (applyL r c).length = r.length := by rw [applyL, times_len, chRow_len]
theorem apply_row {r : List UInt8} (h : IsRow r) (c : List UInt8) : IsRow (applyL r c) := times_row h (chRow_row c h.lo h.hi) (chRow_len _ _).symm
/-- A row and the rows behind it under some changes, the last one included. -/
def scanL : List UInt8 → List (List UInt8) → List (List UInt8)
  | r, [] => [r]
  | r, c :: cs => r :: scanL (applyL r c) cs
def endL (r : List UInt8) (cs : List (List UInt8)) : List UInt8 := cs.foldl applyL r
/-- The rows of a lead from a row. -/
def leadL (r : List UInt8) (cs : List (List UInt8)) : List (List UInt8) := (scanL r cs).take cs.length
theorem scan_len (cs : List (List UInt8)) : ∀ r, (scanL r cs).length = cs.length + 1 := by
  induction cs with
  | nil => intro r; rfl
  | cons c cs ih => intro r; simp [scanL, ih]
theorem lead_len (r : List UInt8) (cs : List (List UInt8)) : (leadL r cs).length = cs.length := by
  rw [leadL, List.length_take, scan_len]; omega
theorem end_row (cs : List (List UInt8)) : ∀ r, IsRow r → IsRow (endL r cs) := by
  induction cs with
  | nil => intro r h; exact h
  | cons c cs ih => intro r h; exact ih _ (apply_row h c)
theorem end_len (cs : List (List UInt8)) : ∀ r, (endL r cs).length = r.length := by
  induction cs with
  | nil => intro r; rfl
  | cons c cs ih => intro r; exact (ih _).trans (apply_len r c)
theorem scan_snoc (cs : List (List UInt8)) (c : List UInt8) : ∀ r, scanL r (cs ++ [c]) = scanL r cs ++ [applyL (endL r cs) c] := by
  induction cs with
  | nil => intro r; rfl
  | cons d cs ih => intro r; simp only [List.cons_append, scanL, ih]; rfl
theorem end_snoc (cs : List (List UInt8)) (c r : List UInt8) : endL r (cs ++ [c]) = applyL (endL r cs) c := by simp [endL]
theorem scan_at (cs : List (List UInt8)) : ∀ r k, k ≤ cs.length → (scanL r cs)[k]? = some (endL r (cs.take k)) := by
  induction cs with
  | nil => intro r k h; simp at h; subst h; rfl
  | cons c cs ih =>
    intro r k h
    cases k with
    | zero => rfl
    | succ k => simp only [scanL, List.getElem?_cons_succ, List.take_succ_cons]; exact ih _ k (by simpa using h)
theorem lead_take (r : List UInt8) (cs : List (List UInt8)) (k : Nat) (h : k ≤ cs.length) : leadL r (cs.take k) = (leadL r cs).take k := by
  apply List.ext_getElem?
  intro i
  simp only [leadL, List.getElem?_take, List.length_take]
  by_cases hi : i < k
  · rw [if_pos (by omega), if_pos hi, if_pos (by omega), scan_at _ _ _ (by rw [List.length_take]; omega), scan_at _ _ _ (by omega), List.take_take, Nat.min_eq_left (by omega)]
  · rw [if_neg (by omega), if_neg hi]
theorem lead_step (r : List UInt8) (cs : List (List UInt8)) (k : Nat) (h : k < cs.length) : (leadL r cs).take k ++ [endL r (cs.take k)] = (leadL r cs).take (k + 1) := by
  have h1 : k < (leadL r cs).length := by rw [lead_len]; exact h
  rw [List.take_succ_eq_append_getElem h1]
  congr 2
  have h2 := List.getElem?_eq_getElem h1
  have h3 : (leadL r cs)[k]? = some (endL r (cs.take k)) := by
    rw [leadL, List.getElem?_take, if_pos h, scan_at _ _ _ (by omega)]
  rw [h2] at h3
  injection h3 with h3
  exact h3.symm
theorem apply_times {f r : List UInt8} (c : List UInt8) (h : IsRow r) : applyL (timesL f r) c = timesL f (applyL r c) := by
  unfold applyL
  rw [times_len, times_assoc f (chRow_row c h.lo h.hi) (chRow_len _ _).symm]
theorem scan_times (f : List UInt8) (cs : List (List UInt8)) : ∀ r, IsRow r → scanL (timesL f r) cs = (scanL r cs).map (timesL f) := by
  induction cs with
  | nil => intro r _; rfl
  | cons c cs ih => intro r h; simp only [scanL, List.map_cons, apply_times c h, ih _ (apply_row h c)]
theorem lead_times (f : List UInt8) (cs : List (List UInt8)) (r : List UInt8) (h : IsRow r) : leadL (timesL f r) cs = (leadL r cs).map (timesL f) := by
  rw [leadL, scan_times f cs r h, leadL, List.map_take]
theorem scan_rows (cs : List (List UInt8)) : ∀ r, IsRow r → ∀ x ∈ scanL r cs, IsRow x ∧ x.length = r.length := by
  induction cs with
  | nil => intro r h x hx; simp [scanL] at hx; subst hx; exact ⟨h, rfl⟩
  | cons c cs ih =>
    intro r h x hx
    simp only [scanL, List.mem_cons] at hx
    rcases hx with rfl | hx
    · exact ⟨h, rfl⟩
    · have := ih _ (apply_row h c) x hx
      rw [apply_len] at this
      exact this
theorem lead_rows {r : List UInt8} (cs : List (List UInt8)) (h : IsRow r) : ∀ x ∈ leadL r cs, IsRow x ∧ x.length = r.length := fun x hx => scan_rows cs r h x (List.mem_of_mem_take hx)
end Go.Proofs.YtihaopijnkiafaaGreatDoor
