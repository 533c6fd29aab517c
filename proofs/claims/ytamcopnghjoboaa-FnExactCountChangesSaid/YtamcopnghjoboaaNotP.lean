/- Plain laws of place notation: a change completed, a word read, a block read. No conditions beyond those stated. -/
import Derived.Test.YtamcopnghjoboaaChP
set_option linter.unusedVariables false
set_option linter.unusedSimpArgs false
set_option maxRecDepth 100000
namespace Go.Proofs.Ytamcopnghjoboaa
open Go.RowKit

/-- A digit's byte. -/
def ndg (n : Nat) : UInt8 := UInt8.ofNat (48 + n)
/-- The four texts that a change may be completed to. -/
def tidyC (N : Nat) (s : List UInt8) : List (List UInt8) := [s, s ++ [ndg N], 49 :: s, 49 :: (s ++ [ndg N])]
def tidyS (s : List UInt8) : List UInt8 := if s = [120] then [45] else s
/-- A change completed; [] where it cannot be. -/
def tidyL (N : Nat) (s : List UInt8) : List UInt8 := ((tidyC N (tidyS s)).find? (fun c => okChange (N : Int) c)).getD []
theorem okChange_nil (n : Int) : okChange n [] = false := by simp [okChange]
theorem tidyL_ne {N : Nat} {s : List UInt8} {k : Nat} (h : k < 4) (hb : ∀ j (hj : j < k), okChange (N : Int) ((tidyC N (tidyS s))[j]'(by simp [tidyC]; omega)) = false) (hk : okChange (N : Int) ((tidyC N (tidyS s))[k]'(by simp [tidyC]; omega)) = true) : tidyL N s = (tidyC N (tidyS s))[k]'(by simp [tidyC]; omega) := by
  unfold tidyL
  generalize tidyS s = t at *
  rcases (show k = 0 ∨ k = 1 ∨ k = 2 ∨ k = 3 by omega) with rfl | rfl | rfl | rfl
  · simp [tidyC] at hk ⊢; simp [List.find?, hk]
  · have h0 := hb 0 (by omega)
    simp [tidyC] at hk h0 ⊢; simp [List.find?, hk, h0]
  · have h0 := hb 0 (by omega)
    have h1 := hb 1 (by omega)
    simp [tidyC] at hk h0 h1 ⊢; simp [List.find?, hk, h0, h1]
  · have h0 := hb 0 (by omega)
    have h1 := hb 1 (by omega)
    have h2 := hb 2 (by omega)
    simp [tidyC] at hk h0 h1 h2 ⊢; simp [List.find?, hk, h0, h1, h2]
theorem tidyL_no {N : Nat} {s : List UInt8} (hb : ∀ c ∈ tidyC N (tidyS s), okChange (N : Int) c = false) : tidyL N s = [] := by
  unfold tidyL
  rw [List.find?_eq_none.2 (fun c hc => by rw [hb c hc]; simp)]; rfl
theorem tidyL_ok {N : Nat} {s : List UInt8} (h : tidyL N s ≠ []) : okChange (N : Int) (tidyL N s) = true := by
  unfold tidyL at h ⊢
  cases e : (tidyC N (tidyS s)).find? (fun c => okChange (N : Int) c) with
  | none => rw [e] at h; exact absurd rfl h
  | some c => exact List.find?_some e
theorem tidyL_len (N : Nat) (s : List UInt8) : (tidyL N s).length ≤ s.length + 2 := by
  have h0 : (tidyS s).length = s.length := by unfold tidyS; split <;> simp_all
  unfold tidyL
  cases e : (tidyC N (tidyS s)).find? (fun c => okChange (N : Int) c) with
  | none => simp
  | some c =>
    have := List.mem_of_find?_eq_some e
    simp only [tidyC, List.mem_cons, List.not_mem_nil, or_false] at this
    rcases this with rfl | rfl | rfl | rfl <;> simp <;> omega
def isDg (b : UInt8) : Bool := decide (48 ≤ b.toNat) && decide (b.toNat ≤ 57)
def isX (b : UInt8) : Bool := b == 45 || b == 120
/-- Where the digits from a place on end. -/
def dgEnd (s : List UInt8) : Nat → Nat → Nat
  | 0, a => a
  | f + 1, a => if a < s.length ∧ isDg (s.getD a 0) = true then dgEnd s f (a + 1) else a
/-- Where the word that begins at a place ends. -/
def wEnd (s : List UInt8) (a : Nat) : Nat := if a < s.length ∧ isX (s.getD a 0) = true then a + 1 else dgEnd s (s.length - a) a
theorem dgEnd_ge (s : List UInt8) (f a : Nat) : a ≤ dgEnd s f a := by
  induction f generalizing a with
  | zero => exact Nat.le_refl _
  | succ f ih =>
    rw [dgEnd]
    split
    · exact Nat.le_trans (Nat.le_succ a) (ih _)
    · exact Nat.le_refl _
theorem dgEnd_le (s : List UInt8) (f a : Nat) (h : a ≤ s.length) : dgEnd s f a ≤ s.length := by
  induction f generalizing a with
  | zero => exact h
  | succ f ih =>
    rw [dgEnd]
    split
    · rename_i h1; exact ih _ (by omega)
    · exact h
theorem wEnd_le (s : List UInt8) (a : Nat) (h : a ≤ s.length) : wEnd s a ≤ s.length := by
  unfold wEnd
  split
  · omega
  · exact dgEnd_le _ _ _ h
theorem wEnd_ge (s : List UInt8) (a : Nat) : a ≤ wEnd s a := by
  unfold wEnd
  split
  · omega
  · exact dgEnd_ge _ _ _
/-- Behind the digits no digit stands. -/
theorem dgEnd_stop (s : List UInt8) (f a : Nat) (h : a ≤ s.length) (hf : s.length - a ≤ f) (hl : dgEnd s f a < s.length) : isDg (s.getD (dgEnd s f a) 0) = false := by
  induction f generalizing a with
  | zero => rw [dgEnd] at hl; omega
  | succ f ih =>
    rw [dgEnd] at hl ⊢
    split
    · rename_i h1
      rw [if_pos h1] at hl
      exact ih _ (by omega) (by omega) hl
    · rename_i h1
      rw [if_neg h1] at hl
      cases e : isDg (s.getD a 0)
      · rfl
      · exact absurd ⟨hl, e⟩ h1
/-- Ahead of the digits' end a digit stands. -/
theorem dgEnd_last (s : List UInt8) (f a : Nat) (h : a < dgEnd s f a) : isDg (s.getD (dgEnd s f a - 1) 0) = true := by
  induction f generalizing a with
  | zero => rw [dgEnd] at h; omega
  | succ f ih =>
    rw [dgEnd] at h ⊢
    split
    · rename_i h1
      rw [if_pos h1] at h
      by_cases h2 : a + 1 < dgEnd s f (a + 1)
      · exact ih _ h2
      · have h3 : dgEnd s f (a + 1) = a + 1 := by have := dgEnd_ge s f (a + 1); omega
        rw [h3]; exact h1.2
    · rename_i h1
      rw [if_neg h1] at h; omega
/-- The change that begins at a place; [] where it is none. -/
def wordL (N : Nat) (s : List UInt8) (a : Nat) : List UInt8 := tidyL N ((s.drop a).take (wEnd s a - a))
/-- Whether the change that begins at a place is wrong. -/
def badW (N : Nat) (s : List UInt8) (a : Nat) : Bool := decide (wEnd s a = a) || decide (wordL N s a = [])
/-- What a block reads, from a place on: the changes, where it ends, where it is wrong. The fuel is more than what is left. -/
def blockL (N : Nat) (s : List UInt8) : Nat → Nat → List (List UInt8) × Nat × Option Nat
  | 0, a => ([], a, none)
  | f + 1, a =>
    if badW N s a = true then ([], a, some a)
    else if wEnd s a = s.length ∨ s.getD (wEnd s a) 0 = 44 then ([wordL N s a], wEnd s a, none)
    else
      let r := blockL N s f (if s.getD (wEnd s a) 0 = 46 then wEnd s a + 1 else wEnd s a)
      (wordL N s a :: r.1, r.2)
theorem wEnd_self {s : List UInt8} {b : Nat} (hl : b < s.length) (h1 : isX (s.getD b 0) = false) (hs : isDg (s.getD b 0) = false) : wEnd s b = b := by
  unfold wEnd
  rw [if_neg (by rw [h1]; simp)]
  obtain ⟨f, hf⟩ : ∃ f, s.length - b = f + 1 := ⟨s.length - b - 1, by omega⟩
  rw [hf, dgEnd, if_neg (by rw [hs]; simp)]
/-- Behind a word that is no sign, a byte that is neither a sign nor a point nor a comma is wrong. -/
theorem badW_mid {N : Nat} {s : List UInt8} {a : Nat} (ha : a ≤ s.length) (hb : badW N s a = false) (hl : wEnd s a < s.length) (h1 : isX (s.getD (wEnd s a) 0) = false) (h2 : isX (s.getD (wEnd s a - 1) 0) = false) : badW N s (wEnd s a) = true := by
  have hne : wEnd s a ≠ a := by
    intro e
    simp [badW, e] at hb
  have hw : wEnd s a = dgEnd s (s.length - a) a := by
    unfold wEnd
    split
    · rename_i h
      exfalso
      have e : wEnd s a = a + 1 := by unfold wEnd; rw [if_pos h]
      rw [e, Nat.add_sub_cancel, h.2] at h2
      cases h2
    · rfl
  have hs : isDg (s.getD (wEnd s a) 0) = false := by
    rw [hw]
    exact dgEnd_stop s _ a ha (Nat.le_refl _) (by rw [← hw]; exact hl)
  have he : wEnd s (wEnd s a) = wEnd s a := wEnd_self hl h1 hs
  simp [badW, he]
end Go.Proofs.Ytamcopnghjoboaa
