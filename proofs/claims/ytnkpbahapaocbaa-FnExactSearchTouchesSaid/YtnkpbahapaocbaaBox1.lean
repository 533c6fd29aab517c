/- What the box of a method holds, in every world behind. No conditions beyond those stated. -/
import Derived.Test.YtnkpbahapaocbaaCalls
set_option linter.unusedVariables false
set_option linter.unusedSimpArgs false
set_option maxRecDepth 100000
namespace Go.Proofs.Ytnkpbahapaocbaa
open Go.RowKit

theorem box_mk1 (T1 : TypeId) (w : World) (nm : List UInt8) (st : Int) (v : Value) :
    Below w.heap.size w (w.alloc (.cells #[.string (bs nm), .int .i64 st, v] T1)) ∧
    (w.alloc (.cells #[.string (bs nm), .int .i64 st, v] T1)).heap.size = w.heap.size + 1 ∧
    Hid (∀ W', Below (w.alloc (.cells #[.string (bs nm), .int .i64 st, v] T1)).heap.size (w.alloc (.cells #[.string (bs nm), .int .i64 st, v] T1)) W' → Box3 W' w.heap.size (.string (bs nm)) (.int .i64 st) v) := by
  have M1 := Blk.new w T1 #[.string (bs nm), .int .i64 st, v]
  have B2 : Below w.heap.size w (w.alloc (.cells #[.string (bs nm), .int .i64 st, v] T1)) := (Below.refl _ _).alloc (Nat.le_refl _) _
  have hsz : (w.alloc (.cells #[.string (bs nm), .int .i64 st, v] T1)).heap.size = w.heap.size + 1 := by simp
  refine ⟨B2, hsz, ?_⟩
  generalize (w.alloc (.cells #[.string (bs nm), .int .i64 st, v] T1)) = W2 at *
  exact hid fun W' h => Box3.of (M1.below h (by omega))
/-- Of two methods. -/
theorem box_mkM (T1 T2 : TypeId) (w : World) (nm nm2 : List UInt8) (st st2 : Int) (v v2 : Value) :
    Below w.heap.size w ((w.alloc (.cells #[.string (bs nm), .int .i64 st, v] T1)).alloc (.cells #[.string (bs nm2), .int .i64 st2, v2] T2)) ∧
    ((w.alloc (.cells #[.string (bs nm), .int .i64 st, v] T1)).alloc (.cells #[.string (bs nm2), .int .i64 st2, v2] T2)).heap.size = w.heap.size + 1 + 1 ∧
    Hid (∀ W', Below ((w.alloc (.cells #[.string (bs nm), .int .i64 st, v] T1)).alloc (.cells #[.string (bs nm2), .int .i64 st2, v2] T2)).heap.size ((w.alloc (.cells #[.string (bs nm), .int .i64 st, v] T1)).alloc (.cells #[.string (bs nm2), .int .i64 st2, v2] T2)) W' →
      Box3 W' w.heap.size (.string (bs nm)) (.int .i64 st) v ∧ Box3 W' (w.heap.size + 1) (.string (bs nm2)) (.int .i64 st2) v2) := by
  have M1 := Blk.new w T1 #[.string (bs nm), .int .i64 st, v]
  have M2 := M1.alloc (.cells #[.string (bs nm2), .int .i64 st2, v2] T2)
  have K2 := Blk.new (w.alloc (.cells #[.string (bs nm), .int .i64 st, v] T1)) T2 #[.string (bs nm2), .int .i64 st2, v2]
  have B2 : Below w.heap.size w ((w.alloc (.cells #[.string (bs nm), .int .i64 st, v] T1)).alloc (.cells #[.string (bs nm2), .int .i64 st2, v2] T2)) := ((Below.refl _ _).alloc (Nat.le_refl _) _).alloc (by simp) _
  have hsz : ((w.alloc (.cells #[.string (bs nm), .int .i64 st, v] T1)).alloc (.cells #[.string (bs nm2), .int .i64 st2, v2] T2)).heap.size = w.heap.size + 1 + 1 := by simp
  refine ⟨B2, hsz, ?_⟩
  simp only [alloc_size] at K2
  generalize ((w.alloc (.cells #[.string (bs nm), .int .i64 st, v] T1)).alloc (.cells #[.string (bs nm2), .int .i64 st2, v2] T2)) = W2 at *
  exact hid fun W' h => ⟨Box3.of (M2.below h (by omega)), Box3.of (K2.below h (by omega))⟩
end Go.Proofs.Ytnkpbahapaocbaa
