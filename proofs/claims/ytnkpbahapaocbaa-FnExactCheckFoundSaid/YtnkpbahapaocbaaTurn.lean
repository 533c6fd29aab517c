/- Contracts of the functions that rotate and reverse touches, in the reference and in the program. No conditions beyond those stated. -/
import Derived.Test.YtnkpbahapaocbaaTouch
set_option linter.unusedVariables false
set_option linter.unusedSimpArgs false
namespace Go.Proofs.Ytnkpbahapaocbaa
open Go.RowKit

/-- What TurnTouch answers. -/
def turnTouchR (l : List UInt8) (n : Int) : List UInt8 × Bool := if goodTouch l = true ∧ 0 ≤ n ∧ n < l.length then (l.drop n.toNat ++ l.take n.toNat, true) else ([], false)
theorem turnTouchR_yes (l : List UInt8) (n : Int) (hg : goodTouch l = true) (h0 : 0 ≤ n) (h1 : n < l.length) : turnTouchR l n = (l.drop n.toNat ++ l.take n.toNat, true) := if_pos ⟨hg, h0, h1⟩
theorem turnTouchR_bad (l : List UInt8) (n : Int) (hg : goodTouch l = false) : turnTouchR l n = ([], false) := if_neg (by simp [hg])
theorem turnTouchR_out (l : List UInt8) (n : Int) (h : ¬ (0 ≤ n ∧ n < l.length)) : turnTouchR l n = ([], false) := if_neg (fun h' => h h'.2)

theorem ret_sb {a b : List UInt8} {x y : Bool} (h : a = b) (h2 : x = y) : Ending.returned (.tuple #[.string (bs a), .bool x]) = .returned (.tuple #[.string (bs b), .bool y]) := by rw [h, h2]

/-- A touch with all calls but the last one reversed. -/
def rev1 (l : List UInt8) : List UInt8 := (l.take (l.length - 1)).reverse ++ l.drop (l.length - 1)
/-- What ReverseTouch answers. -/
def reverseTouchR (l : List UInt8) : List UInt8 × Bool := if goodTouch l = true then (rev1 l, true) else ([], false)

theorem goodTouch_len60 {l : List UInt8} (h : goodTouch l = true) : 1 ≤ l.length ∧ l.length ≤ 60 := by
  simp [goodTouch] at h; omega
theorem goodTouch_all {l : List UInt8} (h : goodTouch l = true) : l.all callB = true := by
  simp [goodTouch] at h; simpa using h.1.1
theorem rev_down (l : List UInt8) (j : Nat) (h : j + 1 < l.length) : ((l.take (l.length - 1)).drop (j + 1)).reverse ++ List.take 1 (List.drop j l) = ((l.take (l.length - 1)).drop j).reverse := by
  have hj : j < (l.take (l.length - 1)).length := by simp; omega
  rw [List.drop_eq_getElem_cons hj, List.reverse_cons, take1_drop l j (by omega)]
  simp
theorem rev_up (l : List UInt8) (j : Nat) (h : j < l.length) : List.take 1 (List.drop j l) ++ (l.take j).reverse = (l.take (j + 1)).reverse := by
  rw [List.take_succ_eq_append_getElem h, List.reverse_append, take1_drop l j h]; simp

theorem reverseTouchR_yes (l : List UInt8) (hg : goodTouch l = true) : reverseTouchR l = (rev1 l, true) := if_pos hg
theorem reverseTouchR_bad (l : List UInt8) (hg : goodTouch l = false) : reverseTouchR l = ([], false) := if_neg (by simp [hg])

end Go.Proofs.Ytnkpbahapaocbaa
