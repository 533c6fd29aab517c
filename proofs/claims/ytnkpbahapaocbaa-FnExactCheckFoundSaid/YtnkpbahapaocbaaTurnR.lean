/- Contracts of the inverse of a row, in the reference and in the program. No conditions beyond those stated. -/
import Derived.Test.YtnkpbahapaocbaaRow2
set_option linter.unusedVariables false
set_option linter.unusedSimpArgs false
set_option maxRecDepth 100000
namespace Go.Proofs.Ytnkpbahapaocbaa
open Go.RowKit

theorem b49_val (k : Nat) (h : k < 100) : ((b49 k).toNat : Int) = 49 + (k : Int) := by
  rw [b49_nat k (by omega)]; omega

theorem turned_any (a : List UInt8) (w : World) (ha : IsRow a) :
    Calls Try.prog 87 #[.string (bs a)] w fun e w' => e = .returned (.string (bs (turnL a))) ∧ Below w.heap.size w w' := by
  have h8 := ha.hi
  have HA := hid ha
  have hmk := make_bytes a.length (by omega)
  clear ha
  have hrow : Row (w.alloc (.cells (bytesV (List.replicate a.length 0)).toArray 5)) w.heap.size (bytesV (List.replicate a.length 0)) := by
    have := row_of_blk (Blk.new w 5 (bytesV (List.replicate a.length 0)).toArray)
    simpa using this
  go_enter Try.func87, Try.ntmps87
  go_wp2
  go_loopg [10] a.length (fun gk v wr => ∃ k : Nat, k ≤ a.length ∧ gk = a.length - k ∧ v = .int .i64 k ∧ Row wr w.heap.size (bytesV (turnS (List.replicate a.length 0) a k)) ∧ Below w.heap.size w wr)
  case atStart => exact ⟨0, by omega, by omega, rfl, by rw [turnS_zero (by simp)]; exact hrow, (Below.refl _ _).alloc (Nat.le_refl _) _⟩
  case round =>
    obtain ⟨k, hk, rfl, rfl, hro, hbe⟩ := hrel
    have hlen := turnS_len (List.replicate a.length 0) a k
    by_cases hlt : k < a.length
    · have hr := HA.out.rng k hlt
      have hdl := HA.out.dig_lt hlt
      have hd : (a[k].toNat : Int) - 49 = ((dig a k : Nat) : Int) := by
        rw [gd_at _ _ hlt] at hr
        simp only [dig, gd_at _ _ hlt]; omega
      rw [gd_at _ _ hlt] at hr
      have hjl : dig a k < (bytesV (turnS (List.replicate a.length 0) a k)).length := by rw [bytesV_len, hlen]; exact hdl
      have hcc := hro.cell hjl
      have hff := hro.frozen hjl
      obtain ⟨old, hold⟩ : ∃ u, (bytesV (turnS (List.replicate a.length 0) a k))[dig a k] = u := ⟨_, rfl⟩
      rw [hold] at hcc
      have hset := hid (hro.set_ hjl (.int .u8 ((b49 k).toNat : Int)))
      have hstep := hid (turnS_step (base := (List.replicate a.length 0)) HA.out hlt)
      have i0 : (0 : Int) ≤ (k : Int) := by omega
      have i1 : (k : Int) < (a.length : Int) := by omega
      have HBE := hid hbe
      clear hro hbe hold hjl hlen
      have i2 : ((dig a k : Nat) : Int) < (a.length : Int) := by omega
      have i3 : (0 : Int) ≤ ((dig a k : Nat) : Int) := by omega
      have hwk : IntKind.u8.wrap (49 + (k : Int)) = 49 + (k : Int) := by rw [IntKind.wrap_u8]; omega
      go_wp2
      go_roundg (a.length - (k + 1))
      case measure => omega
      case rel =>
        have h1 := hset.out
        rw [bytesV_set, hstep.out, b49_val k (by omega)] at h1
        exact ⟨k + 1, by omega, rfl, by go_num, h1, HBE.out.setCell (Nat.le_refl _) _⟩
    · obtain rfl : k = a.length := by omega
      rw [turnS_all HA.out] at hro
      have hst : (convert 102 9 (.slice (some ⟨w.heap.size, 0, none⟩) a.length a.length)).run Try.prog wr = .ok (.string (bs (turnL a))) wr := by
        have h2 := string_of_row (P := Try.prog) _ 102 9 5 w.heap.size a.length _ Try.underlying102 Try.underlying5 Try.underlying9 hro
        rwa [turn_len] at h2
      have HBE := hid hbe
      clear hro hbe hlen
      go_wp2
      go_ret
      exact ⟨rfl, HBE.out⟩

theorem l1Turn_any (a : List UInt8) (w : World) (ha : IsRow a) :
    Calls Try.prog 67 #[.string (bs a)] w fun e w' => e = .returned (.string (bs (turnL a))) ∧ Below w.heap.size w w' := by
  have h8 := ha.hi
  have HA := hid ha
  clear ha
  obtain ⟨c, W, hcv, hrow, hbW, hWs, hcap⟩ := row_of_string (P := Try.prog) w 9 102 5 a Try.underlying9 Try.underlying102 Try.underlying5
  have HROW := hid hrow
  have HBW := hid hbW
  clear hrow hbW hWs
  go_enter Try.func67, Try.ntmps67
  go_wp2
  go_loopg [4] a.length (fun gk v wr => ∃ k : Nat, k ≤ a.length ∧ gk = a.length - k ∧ v = .int .i64 ((k : Int) + 1) ∧ Row wr w.heap.size (bytesV (turnS a a k)) ∧ Below w.heap.size w wr)
  case atStart => exact ⟨0, by omega, by omega, rfl, by rw [turnS_zero rfl]; exact HROW.out, HBW.out⟩
  case round =>
    obtain ⟨k, hk, rfl, rfl, hro, hbe⟩ := hrel
    have hlen := turnS_len a a k
    by_cases hlt : k < a.length
    · have hr := HA.out.rng k hlt
      have hdl := HA.out.dig_lt hlt
      have hd : (a[k].toNat : Int) - 48 = ((dig a k : Nat) : Int) + 1 := by
        rw [gd_at _ _ hlt] at hr
        simp only [dig, gd_at _ _ hlt]; omega
      rw [gd_at _ _ hlt] at hr
      have hjl : dig a k < (bytesV (turnS a a k)).length := by rw [bytesV_len, hlen]; exact hdl
      have hcc := hro.cell hjl
      have hff := hro.frozen hjl
      obtain ⟨old, hold⟩ : ∃ u, (bytesV (turnS a a k))[dig a k] = u := ⟨_, rfl⟩
      rw [hold] at hcc
      have hset := hid (hro.set_ hjl (.int .u8 ((b49 k).toNat : Int)))
      have hstep := hid (turnS_step (base := a) HA.out hlt)
      have i0 : (0 : Int) ≤ (k : Int) := by omega
      have i1 : (k : Int) < (a.length : Int) := by omega
      have HBE := hid hbe
      clear hro hbe hold hjl hlen
      have hAT := hid (fun w => l1At_any a k ((k : Int) + 1) w hlt (by omega) rfl (by omega))
      rw [hd] at hAT
      obtain ⟨d, hdd⟩ : ∃ d, d = dig a k := ⟨_, rfl⟩
      rw [← hdd] at hAT hset hstep hcc hff hdl
      have i2 : (d : Int) < (a.length : Int) := by omega
      have i3 : (0 : Int) ≤ (d : Int) := by omega
      have hwk : IntKind.u8.wrap (48 + ((k : Int) + 1)) = 48 + ((k : Int) + 1) := by rw [IntKind.wrap_u8]; omega
      clear hdd hd hr
      go_wp2_with fail
      refine (hAT.out _).mono ?_
      rintro e w' ⟨rfl, rfl⟩
      go_wp2
      go_roundg (a.length - (k + 1))
      case measure => omega
      case rel =>
        have h1 := hset.out
        rw [bytesV_set, hstep.out, show ((b49 k).toNat : Int) = 48 + ((k : Int) + 1) by rw [b49_val k (by omega)]; omega] at h1
        exact ⟨k + 1, by omega, rfl, by go_num, h1, HBE.out.setCell (Nat.le_refl _) _⟩
    · obtain rfl : k = a.length := by omega
      rw [turnS_all HA.out] at hro
      have hst : (convert 102 9 (.slice (some ⟨w.heap.size, 0, none⟩) a.length c)).run Try.prog wr = .ok (.string (bs (turnL a))) wr := by
        have h2 := string_of_row (P := Try.prog) _ 102 9 5 w.heap.size c _ Try.underlying102 Try.underlying5 Try.underlying9 hro
        rwa [turn_len] at h2
      have HBE := hid hbe
      clear hro hbe hlen
      go_wp2
      go_ret
      exact ⟨rfl, HBE.out⟩
end Go.Proofs.Ytnkpbahapaocbaa
