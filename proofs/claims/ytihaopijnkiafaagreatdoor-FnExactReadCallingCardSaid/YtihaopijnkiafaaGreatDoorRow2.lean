/- Contracts of the products of rows, in the reference and in the program. No conditions beyond those stated. -/
import Derived.Test.YtihaopijnkiafaaGreatDoorRow1
import Derived.Test.YtihaopijnkiafaaGreatDoorBytes
set_option linter.unusedVariables false
set_option linter.unusedSimpArgs false
set_option maxRecDepth 100000
namespace Go.Proofs.YtihaopijnkiafaaGreatDoor
open Go.RowKit

theorem infoU8 : (Tryz.prog.info? 5).map (fun i => (i.zero, i.size, i.bytes)) = some (some (.int .u8 0), 1, 1) := by kernel_rfl
/-- make([]byte, n) is a new block of zeros. -/
theorem make_bytes (n : Nat) (h : n ≤ 100000000) (w : World) : (Instr.makeSlice 64 (.int .i64 n) (.int .i64 n)).run Tryz.prog w = .ok (.slice (some ⟨w.heap.size, 0, none⟩) n n) (w.alloc (.cells (bytesV (List.replicate n 0)).toArray 5)) := by
  obtain ⟨i0, hi, hz0, hz1, hz2⟩ := info_parts infoU8
  have := run_make (P := Tryz.prog) w 64 5 i0 _ Tryz.underlying64 hi hz0 .i64 .i64 n n (by omega) (by omega) (by rw [hz2]; omega) (by omega)
  rw [this, Int.toNat_natCast, hz1, Nat.mul_one]
  congr 3
  apply Array.ext (by simp [size_madeCells, bytesV])
  intro i h1 h2
  simp [madeCells, bytesV, Value.cells, Nat.mod_one]
theorem row_of_blk {w : World} {g : Nat} {t : TypeId} {cs : Array Value} (h : Blk w g t cs) : Row w g cs.toList := fun i u hu => ⟨by rw [h.cell]; simpa using hu, h.frozen i⟩

theorem l1At_any (l : List UInt8) (i : Nat) (p : Int) (w : World) (hi : i < l.length) (h48 : 48 ≤ l[i].toNat) (hp : p = i + 1) (hl : l.length ≤ 1048576) :
    Calls Tryz.prog 33 #[.string (bs l), .int .i64 p] w fun e w' => e = .returned (.int .i64 ((l[i].toNat : Int) - 48)) ∧ w = w' := by
  subst hp
  have hu := UInt8.toNat_lt l[i]
  have i0 : (0 : Int) ≤ (i : Int) := by omega
  have i1 : (i : Int) < (l.length : Int) := by omega
  have hw := IntWalk.i64_in ((i : Int) + 1 - 1) (by omega)
  have hw1 : wrap64 (i : Int) = (i : Int) := by unfold wrap64; omega
  go_enter Tryz.func33, Tryz.ntmps33
  go_wp2
  go_ret
  exact ⟨ret_int rfl, rfl⟩

theorem times_step (a b : List UInt8) (j : Nat) (hj : j < b.length) (h : dig b j < a.length) : (timesL a b).take j ++ List.take 1 (List.drop (dig b j) a) = (timesL a b).take (j + 1) := by
  have h1 : j < (timesL a b).length := by rw [times_len]; exact hj
  rw [List.take_succ_eq_append_getElem h1]
  congr 1
  rw [← gd_at _ _ h1, times_at a hj, gd_at _ _ h, List.drop_eq_getElem_cons h]
  rfl

theorem row_step (a b : List UInt8) (j : Nat) (hj : j < b.length) (h : dig b j < a.length) : ((timesL a b).take j ++ List.replicate (b.length - j) 0).set j a[dig b j] = (timesL a b).take (j + 1) ++ List.replicate (b.length - (j + 1)) 0 := by
  have h1 : j < (timesL a b).length := by rw [times_len]; exact hj
  have e : (timesL a b)[j] = a[dig b j] := by rw [← gd_at _ _ h1, times_at a hj, gd_at _ _ h]
  rw [show b.length - j = (b.length - (j + 1)) + 1 by omega, List.replicate_succ, List.take_succ_eq_append_getElem h1, e, List.append_assoc]
  rw [List.set_append, if_neg (by simp; omega), List.length_take, Nat.min_eq_left (by omega), Nat.sub_self, List.set_cons_zero]
  rfl

theorem l1Times_any (a b : List UInt8) (w : World) (ha : IsRow a) (hb : IsRow b) (hab : a.length = b.length) :
    Calls Tryz.prog 16 #[.string (bs a), .string (bs b)] w fun e w' => e = .returned (.string (bs (timesL a b))) ∧ w = w' := by
  have h8 := hb.hi
  have h8a := ha.hi
  have HA := hid ha
  have HB := hid hb
  have HAB := hid hab
  clear ha hb hab
  go_enter Tryz.func16, Tryz.ntmps16
  go_wp2
  go_loopg [5, 6] b.length (fun gk u v wr => ∃ j : Nat, j ≤ b.length ∧ gk = b.length - j ∧ u = .string (bs ((timesL a b).take j)) ∧ v = .int .i64 ((j : Int) + 1) ∧ w = wr)
  case atStart => exact ⟨0, by omega, by omega, by rw [List.take_zero]; rfl, rfl, rfl⟩
  case round =>
    obtain ⟨j, hj, rfl, rfl, rfl, rfl⟩ := hrel
    by_cases hlt : j < b.length
    · have hr := HB.out.rng j hlt
      have hdl := HB.out.dig_lt hlt
      have hst := hid (times_step a b j hlt (by rw [HAB.out]; exact hdl))
      have hd : (b[j].toNat : Int) - 48 = ((dig b j : Nat) : Int) + 1 := by
        rw [gd_at _ _ hlt] at hr
        simp only [dig, gd_at _ _ hlt]; omega
      rw [gd_at _ _ hlt] at hr
      have hAT := hid (fun w => l1At_any b j ((j : Int) + 1) w hlt (by omega) rfl (by omega))
      rw [hd] at hAT
      have hda : dig b j < a.length := by rw [HAB.out]; exact hdl
      obtain ⟨d, hdd⟩ : ∃ d, d = dig b j := ⟨_, rfl⟩
      rw [← hdd] at hAT hst hda
      have htl : ((timesL a b).take j).length ≤ 8 := by rw [List.length_take, times_len]; omega
      have hii : (0 : Int) ≤ (d : Int) := by omega
      have hi2 : (d : Int) + 1 ≤ (a.length : Int) := by omega
      have hi3 : (d : Int) ≤ (d : Int) + 1 := by omega
      clear hdd hd hr hdl
      go_wp2_with fail
      refine (hAT.out _).mono ?_
      rintro e w' ⟨rfl, rfl⟩
      go_wp2
      go_roundg (b.length - (j + 1))
      case measure => omega
      case rel => exact ⟨j + 1, by omega, rfl, by rw [hst.out], by go_num, rfl⟩
    · obtain rfl : j = b.length := by omega
      go_wp2
      go_ret
      rw [List.take_of_length_le (by rw [times_len]; omega)]
      exact ⟨rfl, rfl⟩

theorem times_any (a b : List UInt8) (w : World) (ha : IsRow a) (hb : IsRow b) (hab : a.length = b.length) :
    Calls Tryz.prog 44 #[.string (bs a), .string (bs b)] w fun e w' => e = .returned (.string (bs (timesL a b))) ∧ Below w.heap.size w w' := by
  have h8 := hb.hi
  have h8a := ha.hi
  have HA := hid ha
  have HB := hid hb
  have HAB := hid hab
  have hmk := make_bytes b.length (by omega)
  clear ha hb hab
  go_enter Tryz.func44, Tryz.ntmps44
  go_wp2
  have hrow : Row (w.alloc (.cells (bytesV (List.replicate b.length 0)).toArray 5)) w.heap.size (bytesV (List.replicate b.length 0)) := by
    have := row_of_blk (Blk.new w 5 (bytesV (List.replicate b.length 0)).toArray)
    simpa using this
  go_loopg [12] b.length (fun gk v wr => ∃ j : Nat, j ≤ b.length ∧ gk = b.length - j ∧ v = .int .i64 j ∧ Row wr w.heap.size (bytesV ((timesL a b).take j ++ List.replicate (b.length - j) 0)) ∧ Below w.heap.size w wr)
  case atStart => exact ⟨0, by omega, by omega, rfl, by simpa using hrow, (Below.refl _ _).alloc (Nat.le_refl _) _⟩
  case round =>
    obtain ⟨j, hj, rfl, rfl, hro, hbe⟩ := hrel
    have hlen : ((timesL a b).take j ++ List.replicate (b.length - j) 0).length = b.length := by rw [List.length_append, List.length_take, times_len, List.length_replicate]; omega
    by_cases hlt : j < b.length
    · have hr := HB.out.rng j hlt
      have hdl := HB.out.dig_lt hlt
      have hda : dig b j < a.length := by rw [HAB.out]; exact hdl
      have hd : (b[j].toNat : Int) - 49 = ((dig b j : Nat) : Int) := by
        rw [gd_at _ _ hlt] at hr
        simp only [dig, gd_at _ _ hlt]; omega
      rw [gd_at _ _ hlt] at hr
      have hjl : j < (bytesV ((timesL a b).take j ++ List.replicate (b.length - j) 0)).length := by rw [bytesV_len, hlen]; exact hlt
      have hcc := hro.cell hjl
      have hff := hro.frozen hjl
      obtain ⟨old, hold⟩ : ∃ u, (bytesV ((timesL a b).take j ++ List.replicate (b.length - j) 0))[j] = u := ⟨_, rfl⟩
      rw [hold] at hcc
      have hset := hid (hro.set_ hjl)
      have i0 : (0 : Int) ≤ (j : Int) := by omega
      have i1 : (j : Int) < (b.length : Int) := by omega
      have i2 : (dig b j : Int) < (a.length : Int) := by omega
      have i3 : (0 : Int) ≤ (dig b j : Int) := by omega
      have HBE := hid hbe
      have HL := hid hlen
      clear hro hbe hold hjl hlen
      go_wp2
      go_roundg (b.length - (j + 1))
      case measure => omega
      case rel =>
        have h1 := hset.out (.int .u8 (a[dig b j].toNat : Int))
        rw [bytesV_set, row_step a b j hlt hda] at h1
        exact ⟨j + 1, by omega, rfl, by go_num, h1, HBE.out.setCell (Nat.le_refl _) _⟩
    · obtain rfl : j = b.length := by omega
      rw [Nat.sub_self, List.replicate_zero, List.append_nil, List.take_of_length_le (by rw [times_len]; omega)] at hro
      have hst : (convert 64 9 (.slice (some ⟨w.heap.size, 0, none⟩) b.length b.length)).run Tryz.prog wr = .ok (.string (bs (timesL a b))) wr := by
        have h2 := string_of_row (P := Tryz.prog) _ 64 9 5 w.heap.size b.length _ Tryz.underlying64 Tryz.underlying5 Tryz.underlying9 hro
        rwa [times_len] at h2
      have HBE := hid hbe
      clear hro hbe hlen
      go_wp2
      go_ret
      exact ⟨rfl, HBE.out⟩

theorem l1Rounds_any (n : Nat) (w : World) (h : n ≤ 8) :
    Calls Tryz.prog 13 #[.int .i64 n] w fun e w' => e = .returned (.string (bs (roundsL n))) ∧ w = w' := by
  have hh := hid (rounds_text n h)
  have h0 : (0 : Int) ≤ (n : Int) := by omega
  have h1 : (n : Int) ≤ 8 := by omega
  go_enter Tryz.func13, Tryz.ntmps13
  go_wp2
  go_ret
  rw [← hh.out]
  exact ⟨rfl, rfl⟩
theorem rounds_any (n : Nat) (w : World) (h : n ≤ 8) :
    Calls Tryz.prog 38 #[.int .i64 n] w fun e w' => e = .returned (.string (bs (roundsL n))) ∧ w = w' := by
  have hh := hid (rounds_text n h)
  have h0 : (0 : Int) ≤ (n : Int) := by omega
  have h1 : (n : Int) ≤ 8 := by omega
  go_enter Tryz.func38, Tryz.ntmps38
  go_wp2
  go_ret
  rw [← hh.out]
  exact ⟨rfl, rfl⟩
end Go.Proofs.YtihaopijnkiafaaGreatDoor
