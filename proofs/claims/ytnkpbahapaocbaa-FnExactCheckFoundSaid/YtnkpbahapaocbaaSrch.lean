/- Contracts of the guards of a search, in the reference and in the program. No conditions beyond those stated. -/
import Derived.Test.YtnkpbahapaocbaaAllT
import Derived.Test.YtnkpbahapaocbaaEndI
set_option linter.unusedVariables false
set_option linter.unusedSimpArgs false
set_option maxRecDepth 100000
namespace Go.Proofs.Ytnkpbahapaocbaa
open Go.RowKit

/-- Which numbers of leads are searched. -/
def searchB (q : Int) : Bool := decide (1 ≤ q) && decide (q ≤ 6)
theorem searchB_nat {q : Int} (h : searchB q = true) : ∃ j : Nat, q = j ∧ 1 ≤ j ∧ j ≤ 6 := by
  simp only [searchB, Bool.and_eq_true, decide_eq_true_eq] at h
  exact ⟨q.toNat, by omega, by omega, by omega⟩
theorem l13Asked_any (m : Meth) (k : List UInt8 × List UInt8) (q : Int) (A : Option Addr) (n c : Nat) (w : World) (ok : LawOk m k) (rd : Rd w A n (strV m.ch)) :
    Calls Try.prog 26 #[.agg #[.string (bs m.nm), .int .i64 m.st, .slice A n c], .agg #[.string (bs k.1), .string (bs k.2)], .int .i64 q] w fun e w' => e = .returned (.bool (callsB m k && searchB q)) ∧ Below w.heap.size w w' := by
  have G := fun (w0 : World) (rd : Rd w0 A n (strV m.ch)) => hid (l8Good_law m k A n c w0 ok rd)
  have G2 := fun w0 => hid (l1In_any q 1 6 w0)
  have RS := hid rd
  generalize callsB m k = P0 at *
  have hq := hid (show (decide (1 ≤ q) && decide (q ≤ 6)) = searchB q from rfl)
  obtain ⟨nm, st, ch⟩ := m
  obtain ⟨k1, k2⟩ := k
  dsimp only at *
  clear rd ok
  go_enter Try.func26, Try.ntmps26
  go_wp2_with fail
  obtain ⟨B2, hsz, HC⟩ := box_mk w nm k1 k2 st (.slice A n c)
  refine (G _ (RS.out.below B2)).out.mono ?_
  rintro e w1 ⟨rfl, b1⟩
  have HB := hid (B2.trans (b1.mono B2.size))
  clear b1 B2 hsz HC
  cases P0
  · go_wp2
    go_ret
    exact ⟨by first | rfl | (rw [← hq.out]; rfl) | (rw [← hq.out]; simp), HB.out⟩
  · go_wp2_with fail
    refine (G2 _).out.mono ?_
    rintro e w2 ⟨rfl, rfl⟩
    go_wp2
    go_ret
    exact ⟨by first | rfl | (rw [← hq.out]; rfl) | (rw [← hq.out]; simp), HB.out⟩
theorem goodSearch_any (m : Meth) (k : List UInt8 × List UInt8) (q : Int) (A : Option Addr) (n c : Nat) (w : World) (ok : LawOk m k) (rd : Rd w A n (strV m.ch)) :
    Calls Try.prog 29 #[.agg #[.string (bs m.nm), .int .i64 m.st, .slice A n c], .agg #[.string (bs k.1), .string (bs k.2)], .int .i64 q] w fun e w' => e = .returned (.bool (callsB m k && searchB q)) ∧ Below w.heap.size w w' := by
  have G := fun (w0 : World) (rd : Rd w0 A n (strV m.ch)) => hid (goodCalls_law m k A n c w0 ok rd)
  have G2 := fun w0 => hid (within_any q 1 6 w0)
  have RS := hid rd
  generalize callsB m k = P0 at *
  have hq := hid (show (decide (1 ≤ q) && decide (q ≤ 6)) = searchB q from rfl)
  obtain ⟨nm, st, ch⟩ := m
  obtain ⟨k1, k2⟩ := k
  dsimp only at *
  clear rd ok
  go_enter Try.func29, Try.ntmps29
  go_wp2_with fail
  obtain ⟨B2, hsz, HC⟩ := box_mk w nm k1 k2 st (.slice A n c)
  refine (G _ (RS.out.below B2)).out.mono ?_
  rintro e w1 ⟨rfl, b1⟩
  have HB := hid (B2.trans (b1.mono B2.size))
  clear b1 B2 hsz HC
  cases P0
  · go_wp2
    go_ret
    exact ⟨by first | rfl | (rw [← hq.out]; rfl) | (rw [← hq.out]; simp), HB.out⟩
  · go_wp2_with fail
    refine (G2 _).out.mono ?_
    rintro e w2 ⟨rfl, rfl⟩
    go_wp2
    go_ret
    exact ⟨by first | rfl | (rw [← hq.out]; rfl) | (rw [← hq.out]; simp), HB.out⟩
end Go.Proofs.Ytnkpbahapaocbaa
