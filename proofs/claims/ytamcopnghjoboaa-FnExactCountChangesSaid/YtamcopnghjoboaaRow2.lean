/- Contracts of the products of rows, in the reference and in the program. No conditions beyond those stated. -/
import Derived.Test.YtamcopnghjoboaaRow1
import Derived.Test.YtamcopnghjoboaaBytes
set_option linter.unusedVariables false
set_option linter.unusedSimpArgs false
set_option maxRecDepth 100000
namespace Go.Proofs.Ytamcopnghjoboaa
open Go.RowKit

theorem infoU8 : (Try.prog.info? 5).map (fun i => (i.zero, i.size, i.bytes)) = some (some (.int .u8 0), 1, 1) := by kernel_rfl
/-- make([]byte, n) is a new block of zeros. -/
theorem make_bytes (n : Nat) (h : n ≤ 100000000) (w : World) : (Instr.makeSlice 44 (.int .i64 n) (.int .i64 n)).run Try.prog w = .ok (.slice (some ⟨w.heap.size, 0, none⟩) n n) (w.alloc (.cells (bytesV (List.replicate n 0)).toArray 5)) := by
  obtain ⟨i0, hi, hz0, hz1, hz2⟩ := info_parts infoU8
  have := run_make (P := Try.prog) w 44 5 i0 _ Try.underlying44 hi hz0 .i64 .i64 n n (by omega) (by omega) (by rw [hz2]; omega) (by omega)
  rw [this, Int.toNat_natCast, hz1, Nat.mul_one]
  congr 3
  apply Array.ext (by simp [size_madeCells, bytesV])
  intro i h1 h2
  simp [madeCells, bytesV, Value.cells, Nat.mod_one]
theorem row_of_blk {w : World} {g : Nat} {t : TypeId} {cs : Array Value} (h : Blk w g t cs) : Row w g cs.toList := fun i u hu => ⟨by rw [h.cell]; simpa using hu, h.frozen i⟩

theorem times_step (a b : List UInt8) (j : Nat) (hj : j < b.length) (h : dig b j < a.length) : (timesL a b).take j ++ List.take 1 (List.drop (dig b j) a) = (timesL a b).take (j + 1) := by
  have h1 : j < (timesL a b).length := by rw [times_len]; exact hj
  rw [List.take_succ_eq_append_getElem h1]
  congr 1
  rw [← gd_at _ _ h1, times_at a hj, gd_at _ _ h, List.drop_eq_getElem_cons h]
  rfl

theorem row_step (a b : List UInt8) (j : Nat) (hj : j < b.length) (h : dig b j < a.length) : ((timesL a b).take j ++ List.replicate (b.length - j) 0).set j a[dig b j] = (timesL a b).take (j + 1) ++ List.replicate (b.length - (j + 1)) 0 := by
  have h1 : j < (timesL a b).length := by rw [times_len]; exact hj
  have e : (timesL a b)[j] = a[dig b j] := by rw [← gd_at _ _ h1, times_at a hj, gd_at _ _ h]
  rw [show b.length - j = (b.length - (j + 1)) + 1 by omega, List.replicate_succ, List.take_succ_eq_append_getElem h1, e, List.append_assoc]
  rw [List.set_append, if_neg (by simp; omega), List.length_take, Nat.min_eq_left (by omega), Nat.sub_self, List.set_cons_zero]
  rfl

theorem rounds_any (n : Nat) (w : World) (h : n ≤ 8) :
    Calls Try.prog 28 #[.int .i64 n] w fun e w' => e = .returned (.string (bs (roundsL n))) ∧ w = w' := by
  have hh := hid (rounds_text n h)
  have h0 : (0 : Int) ≤ (n : Int) := by omega
  have h1 : (n : Int) ≤ 8 := by omega
  go_enter Try.func28, Try.ntmps28
  go_wp2
  go_ret
  rw [← hh.out]
  exact ⟨rfl, rfl⟩
end Go.Proofs.Ytamcopnghjoboaa
