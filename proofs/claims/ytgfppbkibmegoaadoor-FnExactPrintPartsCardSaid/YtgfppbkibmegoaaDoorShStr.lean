/- Contracts of the library's functions on strings, in this proof's words. No conditions beyond those stated. -/
import Derived.Test.YtgfppbkibmegoaaDoorShelf
import Derived.Test.YtgfppbkibmegoaaDoorBase
set_option linter.unusedVariables false
set_option linter.unusedSimpArgs false
set_option maxRecDepth 100000
namespace Go.Proofs.YtgfppbkibmegoaaDoor
open Go.RowKit

/-- m copies of u. -/
def repL (u : List UInt8) (m : Nat) : List UInt8 := (List.replicate m u).flatten
theorem repeatL_eq (u : List UInt8) (m : Nat) : Lib.repeatL u m = repL u m := by
  induction m with
  | zero => rfl
  | succ m ih => rw [Lib.repeatL, ih]; simp [repL, List.replicate_succ]
theorem repeat_any (l : List UInt8) (c : Int) (k : Nat) (w : World) (hc : c = k) (hk : k ≤ 1000000) (hl : l.length ≤ 1000000) :
    Calls Tryd.prog 16 #[.string (bs l), .int .i64 c] w fun e w' => e = .returned (.string (bs (repL l k))) ∧ Below w.heap.size w w' := by
  subst hc
  have hm : l.length * k ≤ 1000000 * 1000000 := Nat.mul_le_mul hl hk
  refine (Tryd.strings_Repeat (bs l) k w (by omega) (by rw [bs_size]; omega)).mono ?_
  rintro e w' ⟨rfl, hb⟩
  exact ⟨ret_str (repeatL_eq l k), hb⟩
theorem hasPrefix_any (s p : List UInt8) (w : World) :
    Calls Tryd.prog 21 #[.string (bs s), .string (bs p)] w fun e w' => e = .returned (.bool (Lib.hasPrefix s p)) ∧ w = w' := by
  refine (Tryd.strings_HasPrefix (bs s) (bs p) w).mono ?_
  rintro e w' ⟨rfl, rfl⟩
  exact ⟨rfl, rfl⟩
end Go.Proofs.YtgfppbkibmegoaaDoor
