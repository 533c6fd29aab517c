/- Plain laws: the changes of a stage in order, and the change between two rows. No conditions beyond those stated. -/
import Derived.Test.YtecplhpioohhmaaChgP
set_option linter.unusedVariables false
set_option linter.unusedSimpArgs false
set_option maxRecDepth 100000
namespace Go.Proofs.Ytecplhpioohhmaa
open Go.RowKit

/-- All ways to go on where m places of n are left: those that stay. -/
def fromM (n : Nat) : Nat → List (List Nat)
  | 0 => [[]]
  | 1 => [[n]]
  | m + 2 => (fromM n (m + 1)).map ((n - (m + 1)) :: ·) ++ fromM n m
/-- The digit of a place. -/
def d48 (p : Nat) : UInt8 := UInt8.ofNat (48 + p)
/-- The text of places. -/
def plB (l : List Nat) : List UInt8 := l.map d48
def dashL (c : List UInt8) : List UInt8 := if c = [] then [45] else c
/-- Where s comes to stand among the first k of O. -/
def insK (O : List (List UInt8)) (s : List UInt8) : Nat → Nat
  | 0 => 0
  | k + 1 => if Op.bytesLess s (O.getD k []) = true then insK O s k else k + 1
def insL (O : List (List UInt8)) (s : List UInt8) : List (List UInt8) := O.take (insK O s O.length) ++ s :: O.drop (insK O s O.length)
def allStep (n : Nat) (O : List (List UInt8)) (l : List Nat) : List (List UInt8) := if okChange (n : Int) (dashL (plB l)) = true then insL O (dashL (plB l)) else O
/-- All changes of a stage, in order. -/
def allCh (n : Nat) : List (List UInt8) := (fromM n n).foldl (allStep n) []
theorem stage_cases {n : Nat} (lo : 3 ≤ n) (hi : n ≤ 8) : n = 3 ∨ n = 4 ∨ n = 5 ∨ n = 6 ∨ n = 7 ∨ n = 8 := by omega
theorem insK_le (O : List (List UInt8)) (s : List UInt8) : ∀ k, insK O s k ≤ k
  | 0 => Nat.le_refl _
  | k + 1 => by
    rw [insK]
    split
    · exact Nat.le_succ_of_le (insK_le O s k)
    · exact Nat.le_refl _
theorem insL_len (O : List (List UInt8)) (s : List UInt8) : (insL O s).length = O.length + 1 := by
  have := insK_le O s O.length
  simp [insL]; omega
theorem allStep_len (n : Nat) (O : List (List UInt8)) (l : List Nat) : (allStep n O l).length ≤ O.length + 1 := by
  unfold allStep
  split
  · rw [insL_len]; exact Nat.le_refl _
  · exact Nat.le_succ _
theorem allFold_len (n : Nat) (ls : List (List Nat)) : ∀ O, (ls.foldl (allStep n) O).length ≤ O.length + ls.length := by
  induction ls with
  | nil => intro O; simp
  | cons l ls ih =>
    intro O
    have h1 := ih (allStep n O l)
    have h2 := allStep_len n O l
    simp only [List.foldl_cons, List.length_cons]; omega
theorem fromM_len (n : Nat) : ∀ m, (fromM n m).length ≤ 2 ^ m
  | 0 => by simp [fromM]
  | 1 => by simp [fromM]
  | m + 2 => by
    have h1 := fromM_len n (m + 1)
    have h2 := fromM_len n m
    rw [fromM, List.length_append, List.length_map, Nat.pow_succ, Nat.pow_succ]
    rw [Nat.pow_succ] at h1; omega
theorem fromM_mem (n : Nat) : ∀ m, m ≤ n → ∀ l ∈ fromM n m, l.length ≤ m ∧ ∀ p ∈ l, p ≤ n
  | 0, _, l, h => by simp [fromM] at h; subst h; simp
  | 1, _, l, h => by simp [fromM] at h; subst h; simp
  | m + 2, hm, l, h => by
    rw [fromM, List.mem_append, List.mem_map] at h
    rcases h with ⟨x, hx, rfl⟩ | h
    · obtain ⟨h1, h2⟩ := fromM_mem n (m + 1) (by omega) x hx
      refine ⟨by simp; omega, fun p hp => ?_⟩
      simp only [List.mem_cons] at hp
      rcases hp with rfl | hp
      · omega
      · exact h2 p hp
    · obtain ⟨h1, h2⟩ := fromM_mem n m (by omega) l h
      exact ⟨by omega, h2⟩
theorem allCh_ok {n : Nat} (lo : 3 ≤ n) (hi : n ≤ 8) : ∀ c ∈ allCh n, okChange (n : Int) c = true := by
  rcases stage_cases lo hi with rfl | rfl | rfl | rfl | rfl | rfl <;> decide +kernel

/-- The scan of two rows from a place on, with m places left: the places that stay, and whether bells swap. -/
def btw (a b : List UInt8) (n : Nat) : Nat → List UInt8 → Bool → Option (List UInt8 × Bool)
  | 0, c, sw => some (c, sw)
  | 1, c, sw => if a.getD (n - 1) 0 = b.getD (n - 1) 0 then some (c ++ [b49 (n - 1)], sw) else none
  | m + 2, c, sw => if a.getD (n - (m + 2)) 0 = b.getD (n - (m + 2)) 0 then btw a b n (m + 1) (c ++ [b49 (n - (m + 2))]) sw
    else if a.getD (n - (m + 2)) 0 = b.getD (n - (m + 1)) 0 then (if a.getD (n - (m + 1)) 0 = b.getD (n - (m + 2)) 0 then btw a b n m c true else none) else none
/-- The change from one row to another. -/
def betwR (a b : List UInt8) : List UInt8 × Bool := match btw a b a.length a.length [] false with
  | none => ([], false)
  | some p => (dashL p.1, p.2)
/-- The first change that leads from one row to another. -/
def firstCh (a b : List UInt8) : List UInt8 × Bool := match (allCh a.length).find? (fun c => applyL a c == b) with
  | none => ([], false)
  | some c => (c, true)

theorem getD_q {a b : List UInt8} (ha : IsRow a) (hb : IsRow b) (hl : a.length = b.length) {i j : Nat} (hi : i < a.length) (hj : j < a.length) : (a.getD i 0 = b.getD j 0) ↔ ((roundsL a.length).getD i 0 = (timesL (turnL a) b).getD j 0) := by
  have hd := hb.dig_lt (show j < b.length by omega)
  rw [← hl] at hd
  have hp := posOf_spec ha hd
  rw [ha.byte hi, hb.byte (show j < b.length by omega), rounds_at hi, times_at _ (show j < b.length by omega), turn_at hd]
  constructor
  · intro h
    have := b49_inj (by have := ha.dig_lt hi; have := ha.hi; omega) (by have := ha.hi; omega) h
    rw [← this, posOf_dig ha hi]
  · intro h
    have := b49_inj (by have := ha.hi; omega) (by have := ha.hi; omega) h
    rw [this, hp.2]
theorem btw_q {a b : List UInt8} (ha : IsRow a) (hb : IsRow b) (hl : a.length = b.length) : ∀ m c sw, m ≤ a.length → btw a b a.length m c sw = btw (roundsL a.length) (timesL (turnL a) b) a.length m c sw
  | 0, c, sw, _ => rfl
  | 1, c, sw, h => by
    simp only [btw, getD_q ha hb hl (show a.length - 1 < a.length by omega) (show a.length - 1 < a.length by omega)]
  | m + 2, c, sw, h => by
    simp only [btw, getD_q ha hb hl (show a.length - (m + 2) < a.length by omega) (show a.length - (m + 2) < a.length by omega), getD_q ha hb hl (show a.length - (m + 2) < a.length by omega) (show a.length - (m + 1) < a.length by omega),
      getD_q ha hb hl (show a.length - (m + 1) < a.length by omega) (show a.length - (m + 2) < a.length by omega), btw_q ha hb hl (m + 1) _ _ (show m + 1 ≤ a.length by omega), btw_q ha hb hl m _ _ (show m ≤ a.length by omega)]

/-- All ends of a scan from rounds: the places that stay, whether bells swap, the row. -/
def pathsF (n : Nat) : Nat → List (List UInt8 × Bool × List UInt8)
  | 0 => [([], false, [])]
  | 1 => [([b49 (n - 1)], false, [b49 (n - 1)])]
  | m + 2 => (pathsF n (m + 1)).map (fun p => (b49 (n - (m + 2)) :: p.1, p.2.1, b49 (n - (m + 2)) :: p.2.2)) ++ (pathsF n m).map (fun p => (p.1, true, b49 (n - (m + 1)) :: b49 (n - (m + 2)) :: p.2.2))
theorem drop_at (q : List UInt8) (i : Nat) (h : i < q.length) : q.drop i = q.getD i 0 :: q.drop (i + 1) := by
  rw [gd_at _ _ h]; exact List.drop_eq_getElem_cons h
theorem btw_paths (n : Nat) (q : List UInt8) (hq : q.length = n) : ∀ m c sw r, m ≤ n → btw (roundsL n) q n m c sw = some r → ∃ p ∈ pathsF n m, r.1 = c ++ p.1 ∧ r.2 = (sw || p.2.1) ∧ q.drop (n - m) = p.2.2
  | 0, c, sw, r, _, h => by
    simp only [btw, Option.some.injEq] at h
    subst h
    exact ⟨_, List.mem_singleton.2 rfl, by simp, by simp, by simp [← hq]⟩
  | 1, c, sw, r, hm, h => by
    rw [btw] at h
    split at h
    · rename_i e
      injection h with h
      subst h
      refine ⟨_, List.mem_singleton.2 rfl, rfl, by simp, ?_⟩
      rw [drop_at q (n - 1) (by omega), ← e, rounds_at (by omega), show n - 1 + 1 = n by omega, List.drop_of_length_le (by omega)]
    · cases h
  | m + 2, c, sw, r, hm, h => by
    rw [btw] at h
    split at h
    · rename_i e
      obtain ⟨p, hp, h1, h2, h3⟩ := btw_paths n q hq (m + 1) _ _ r (by omega) h
      refine ⟨(b49 (n - (m + 2)) :: p.1, p.2.1, b49 (n - (m + 2)) :: p.2.2), ?_, ?_, h2, ?_⟩
      · rw [pathsF]
        exact List.mem_append_left _ (List.mem_map.2 ⟨p, hp, rfl⟩)
      · rw [h1]; simp
      · rw [drop_at q (n - (m + 2)) (by omega), ← e, rounds_at (by omega), show n - (m + 2) + 1 = n - (m + 1) by omega, h3]
    · split at h
      · rename_i e1
        split at h
        · rename_i e2
          obtain ⟨p, hp, h1, h2, h3⟩ := btw_paths n q hq m _ _ r (by omega) h
          refine ⟨(p.1, true, b49 (n - (m + 1)) :: b49 (n - (m + 2)) :: p.2.2), ?_, h1, by rw [h2]; simp, ?_⟩
          · rw [pathsF]
            exact List.mem_append_right _ (List.mem_map.2 ⟨p, hp, rfl⟩)
          · rw [drop_at q (n - (m + 2)) (by omega), ← e2, rounds_at (by omega), show n - (m + 2) + 1 = n - (m + 1) by omega, drop_at q (n - (m + 1)) (by omega), ← e1, rounds_at (by omega), show n - (m + 1) + 1 = n - m by omega, h3]
        · cases h
      · cases h
theorem paths_ok {n : Nat} (lo : 3 ≤ n) (hi : n ≤ 8) : ∀ p ∈ pathsF n n, p.2.1 = true → dashL p.1 ∈ allCh n ∧ chRowL n (dashL p.1) = p.2.2 := by
  rcases stage_cases lo hi with rfl | rfl | rfl | rfl | rfl | rfl <;> decide +kernel
theorem all_betw {n : Nat} (lo : 3 ≤ n) (hi : n ≤ 8) : ∀ c ∈ allCh n, (match btw (roundsL n) (chRowL n c) n n [] false with | none => (([] : List UInt8), false) | some p => (dashL p.1, p.2)) = (c, true) := by
  rcases stage_cases lo hi with rfl | rfl | rfl | rfl | rfl | rfl <;> decide +kernel
theorem apply_iff {a b : List UInt8} (ha : IsRow a) (hb : IsRow b) (hl : a.length = b.length) (c : List UInt8) : applyL a c = b ↔ chRowL a.length c = timesL (turnL a) b := by
  have hc := chRow_row c ha.lo ha.hi
  have hcl := chRow_len a.length c
  have ht := turn_row ha
  constructor
  · rintro rfl
    rw [applyL, ← times_assoc _ hc (by rw [hcl]), turn_times ha]
    have := rounds_times hc
    rw [hcl] at this
    exact this.symm
  · intro h
    rw [applyL, h, ← times_assoc _ hb (by rw [turn_len, hl]), times_turn ha, hl]
    exact rounds_times hb
/-- The program's change between two rows is the reference's. -/
theorem betw_first {a b : List UInt8} (ha : IsRow a) (hb : IsRow b) (hl : a.length = b.length) : (betwR a b).2 = (firstCh a b).2 ∧ ((betwR a b).2 = true → (betwR a b).1 = (firstCh a b).1) := by
  have yes : ∀ c ∈ allCh a.length, applyL a c = b → betwR a b = (c, true) := by
    intro c hc h
    rw [apply_iff ha hb hl] at h
    unfold betwR
    rw [btw_q ha hb hl _ _ _ (Nat.le_refl _), ← h]
    exact all_betw ha.lo ha.hi c hc
  unfold firstCh
  cases hf : (allCh a.length).find? (fun c => applyL a c == b) with
  | some c =>
    have h1 := List.find?_some hf
    have h2 := List.mem_of_find?_eq_some hf
    rw [yes c h2 (by simpa using h1)]
    exact ⟨rfl, fun _ => rfl⟩
  | none =>
    have hno : (betwR a b).2 = false := by
      unfold betwR
      rw [btw_q ha hb hl _ _ _ (Nat.le_refl _)]
      cases hr : btw (roundsL a.length) (timesL (turnL a) b) a.length a.length [] false with
      | none => rfl
      | some r =>
        obtain ⟨p, hp, h1, h2, h3⟩ := btw_paths a.length _ (by rw [times_len, hl]) a.length _ _ r (Nat.le_refl _) hr
        cases hs : r.2 with
        | false => rfl
        | true =>
          exfalso
          rw [hs] at h2
          obtain ⟨h4, h5⟩ := paths_ok ha.lo ha.hi p hp (by simpa using h2.symm)
          rw [Nat.sub_self, List.drop_zero] at h3
          have := List.find?_eq_none.1 hf _ h4
          simp only [beq_iff_eq] at this
          exact this ((apply_iff ha hb hl _).2 (h5.trans h3.symm))
    exact ⟨hno, fun h => by rw [hno] at h; cases h⟩
/-- No change leads from a row to itself. -/
theorem btw_self (a : List UInt8) (n : Nat) : ∀ m c sw, ∃ c', btw a a n m c sw = some (c', sw)
  | 0, c, sw => ⟨c, rfl⟩
  | 1, c, sw => ⟨_, by rw [btw, if_pos rfl]⟩
  | m + 2, c, sw => by
    obtain ⟨c', h⟩ := btw_self a n (m + 1) (c ++ [b49 (n - (m + 2))]) sw
    exact ⟨c', by rw [btw, if_pos rfl, h]⟩
theorem betw_self (a : List UInt8) : (betwR a a).2 = false := by
  obtain ⟨c, h⟩ := btw_self a a.length a.length [] false
  unfold betwR
  rw [h]

/-- The change from row i of a list to the next one, round about. -/
def nxtR (l : List (List UInt8)) (i : Nat) : List UInt8 × Bool := betwR (l.getD i []) (l.getD ((i + 1) % l.length) [])
def nxtF (l : List (List UInt8)) (i : Nat) : List UInt8 × Bool := firstCh (l.getD i []) (l.getD ((i + 1) % l.length) [])
/-- The changes of the first k rows, and whether there is each. -/
def chgTo (l : List (List UInt8)) (k : Nat) : List (List UInt8) := (List.range k).map fun i => (nxtR l i).1
def okTo (l : List (List UInt8)) (k : Nat) : Bool := (List.range k).all fun i => (nxtR l i).2
theorem chgTo_len (l : List (List UInt8)) (k : Nat) : (chgTo l k).length = k := by simp [chgTo]
theorem chgTo_step (l : List (List UInt8)) (k : Nat) : chgTo l k ++ [(nxtR l k).1] = chgTo l (k + 1) := by simp [chgTo, List.range_succ]
theorem okTo_step (l : List (List UInt8)) (k : Nat) : okTo l (k + 1) = (okTo l k && (nxtR l k).2) := by simp [okTo, List.range_succ]
theorem okTo_bad {l : List (List UInt8)} {k n : Nat} (h : (nxtR l k).2 = false) (hk : k < n) : okTo l n = false := by
  apply Bool.eq_false_iff.2
  intro h2
  rw [okTo, List.all_eq_true] at h2
  have := h2 k (List.mem_range.2 hk)
  rw [h] at this; cases this
/-- What changesIn answers. -/
def changesR (l : List (List UInt8)) : List (List UInt8) × Bool := if decide (0 < l.length) && okTo l l.length then (chgTo l l.length, true) else ([], false)
theorem changesR_one (l : List (List UInt8)) (h : l.length < 2) : changesR l = ([], false) := by
  unfold changesR
  match l, h with
  | [], _ => rfl
  | [a], _ =>
    have : okTo [a] 1 = false := okTo_bad (k := 0) (by have := betw_self a; unfold nxtR; simpa using this) (by omega)
    rw [show [a].length = 1 from rfl, this]; simp
end Go.Proofs.Ytecplhpioohhmaa
