/- Contracts of AllTouches, in the reference and in the program. No conditions beyond those stated. -/
import Derived.Test.YtnkpbahapaocbaaApp
import Derived.Test.YtnkpbahapaocbaaSplice
set_option linter.unusedVariables false
set_option linter.unusedSimpArgs false
set_option maxRecDepth 100000
namespace Go.Proofs.Ytnkpbahapaocbaa
open Go.RowKit

def nextT (l : List (List UInt8)) : List (List UInt8) := l.flatMap fun s => [s ++ [98], s ++ [112], s ++ [115]]
def allT : Nat → List (List UInt8)
  | 0 => [[]]
  | n + 1 => nextT (allT n)
theorem nextT_len (l : List (List UInt8)) : (nextT l).length = 3 * l.length := by
  induction l with
  | nil => rfl
  | cons a l ih => simp only [nextT, List.flatMap_cons, List.length_append, List.length_cons, List.length_nil] at ih ⊢; omega
theorem nextT_take (l : List (List UInt8)) (j : Nat) (h : j < l.length) : nextT (l.take j) ++ [l[j] ++ [98], l[j] ++ [112], l[j] ++ [115]] = nextT (l.take (j + 1)) := by
  rw [List.take_succ_eq_append_getElem h]
  simp only [nextT, List.flatMap_append, List.flatMap_cons, List.flatMap_nil, List.append_nil]
def trip (s : List UInt8) : List (List UInt8) := [s ++ [98], s ++ [112], s ++ [115]]
theorem trip_step (s : List UInt8) (q : Nat) (h : q < 3) : (trip s).take q ++ [s ++ List.take 1 (List.drop q [98, 112, 115])] = (trip s).take (q + 1) := by
  match q, h with
  | 0, _ => rfl
  | 1, _ => rfl
  | 2, _ => rfl
theorem allT_len (n : Nat) : (allT n).length = 3 ^ n := by
  induction n with
  | zero => rfl
  | succ n ih => rw [allT, nextT_len, ih, Nat.pow_succ]; omega
theorem allT_str (n : Nat) : ∀ s ∈ allT n, s.length = n := by
  induction n with
  | zero => intro s hs; simp [allT] at hs; simp [hs]
  | succ n ih =>
    intro s hs
    simp only [allT, nextT, List.mem_flatMap] at hs
    obtain ⟨t, ht, h⟩ := hs
    have := ih t ht
    simp at h
    rcases h with rfl | rfl | rfl <;> simp [this]
theorem allT_le (n : Nat) (h : n ≤ 6) : (allT n).length ≤ 729 := by
  rw [allT_len]
  exact Nat.pow_le_pow_right (by omega) h

/-- What AllTouches answers. -/
def allTouchesR (n : Int) : List (List UInt8) × Bool := if 1 ≤ n ∧ n ≤ 6 then (allT n.toNat, true) else ([], false)
theorem allTouchesR_yes (n : Int) (h : 1 ≤ n ∧ n ≤ 6) : allTouchesR n = (allT n.toNat, true) := if_pos h
theorem allTouchesR_no (n : Int) (h : ¬ (1 ≤ n ∧ n ≤ 6)) : allTouchesR n = ([], false) := if_neg h
theorem allTouchesR_le (n : Int) : (allTouchesR n).1.length ≤ 729 := by
  unfold allTouchesR
  split
  · exact allT_le _ (by omega)
  · simp

end Go.Proofs.Ytnkpbahapaocbaa
