/- Contracts of orders and powers of rows, in the reference and in the program. No conditions beyond those stated. -/
import Derived.Test.YtdmipllbifofmaaRow2
import Derived.Test.YtdmipllbifofmaaApp
set_option linter.unusedVariables false
set_option linter.unusedSimpArgs false
set_option maxRecDepth 100000
namespace Go.Proofs.Ytdmipllbifofmaa
open Go.RowKit

theorem l1Order_any (a : List UInt8) (w : World) (ha : IsRow a) :
    Calls Try.prog 73 #[.string (bs a)] w fun e w' => e = .returned (.int .i64 (ordL a)) ∧ w = w' := by
  have h8 := ha.hi
  have hp := ord_pos ha
  have hle := ord_le ha
  have HA := hid ha
  have HR := hid (fun w => l1Rounds_any a.length w h8)
  have e1 := hid (pow_one ha)
  clear ha
  go_enter Try.func73, Try.ntmps73
  go_wp2
  go_loopg [3, 4] (ordL a - 1) (fun gk u v wr => ∃ j : Nat, 1 ≤ j ∧ j ≤ ordL a ∧ gk = ordL a - j ∧ u = .int .i64 j ∧ v = .string (bs (powL a j)) ∧ w = wr)
  case atStart => exact ⟨1, by omega, by omega, by omega, rfl, by rw [e1.out], rfl⟩
  case round =>
    obtain ⟨j, hj1, hj, rfl, rfl, rfl, rfl⟩ := hrel
    have hX := hid (pow_row HA.out j)
    have hXl := hid (pow_len a j)
    by_cases hlt : j < ordL a
    · have hne := ord_least HA.out hj1 hlt
      obtain ⟨X, hXe⟩ : ∃ X, X = powL a j := ⟨_, rfl⟩
      have hst := hid (show timesL X a = powL a (j + 1) by rw [hXe]; rfl)
      rw [← hXe] at hX hXl hne ⊢
      have hb : (X == roundsL a.length) = false := by simpa using hne
      clear hne hXe
      go_wp2_with (first
        | (go_at_call 88; refine (HR.out _).mono ?_; rintro e w' ⟨rfl, rfl⟩)
        | (go_at_call 102; refine (l1Times_any X a _ hX.out HA.out hXl.out).mono ?_; rintro e w' ⟨rfl, rfl⟩))
      go_roundg (ordL a - (j + 1))
      case measure => omega
      case rel => exact ⟨j + 1, by omega, by omega, rfl, by go_num, by rw [hst.out], rfl⟩
    · obtain rfl : j = ordL a := by omega
      have heq := ord_pow HA.out
      obtain ⟨X, hXe⟩ : ∃ X, X = powL a (ordL a) := ⟨_, rfl⟩
      rw [← hXe] at heq ⊢
      have hb : (X == roundsL a.length) = true := by simpa using heq
      clear heq hXe
      go_wp2_with (first
        | (go_at_call 88; refine (HR.out _).mono ?_; rintro e w' ⟨rfl, rfl⟩))
      go_ret
      exact ⟨rfl, rfl⟩

/-- The powers of a row from exponent 0 on. -/
def powersTo (a : List UInt8) (k : Nat) : List (List UInt8) := (List.range k).map (powL a)
theorem powersTo_len (a : List UInt8) (k : Nat) : (powersTo a k).length = k := by simp [powersTo]
theorem powersTo_step (a : List UInt8) (k : Nat) : powersTo a k ++ [powL a k] = powersTo a (k + 1) := by simp [powersTo, List.range_succ]
theorem powersTo_at (a : List UInt8) (k i : Nat) (h : i < k) : (powersTo a k)[i]? = some (powL a i) := by simp [powersTo, h]
theorem powers_any (a : List UInt8) (w : World) (ha : IsRow a) :
    Calls Try.prog 74 #[.string (bs a)] w (OneS w (powersTo a (ordL a))) := by
  have h8 := ha.hi
  have hp := ord_pos ha
  have hle := ord_le ha
  have HA := hid ha
  have e1 := hid (pow_one ha)
  clear ha
  go_enter Try.func74, Try.ntmps74
  go_wp2_with (go_at_call 77; refine (rounds_any a.length _ h8).mono ?_; rintro e w' ⟨rfl, rfl⟩)
  go_loopg [3, 4] (ordL a - 1) (fun gk u v wr => ∃ j : Nat, 1 ≤ j ∧ j ≤ ordL a ∧ gk = ordL a - j ∧ wr.ownsRow w.heap.size 9 1 u j (strV (powersTo a j)) ∧ v = .string (bs (powL a j)) ∧ Below w.heap.size w wr)
  case atStart => exact ⟨1, by omega, by omega, by omega, own_of_blk (Blk.new w 9 #[.string (bs (roundsL a.length))]) (Nat.le_refl _) (by simp [maxLen]), by rw [e1.out], (Below.refl _ _).alloc (Nat.le_refl _) _⟩
  case round =>
    obtain ⟨j, hj1, hj, rfl, ho, rfl, hbe⟩ := hrel
    obtain ⟨A1, c1, rfl, _, _, rd1, _⟩ := own_shape ho
    obtain ⟨b, o, rfl, h0', hc⟩ := rd1.str (show 0 < j by omega)
    have h00 : (powersTo a j)[0] = roundsL a.length := by
      have := powersTo_at a j 0 (by omega)
      rw [List.getElem?_eq_getElem h0'] at this
      injection this
    rw [h00] at hc
    have hc0 : wr.cell? ⟨b, o, none⟩ = some (.string (bs (roundsL a.length))) := hc
    have i0 : (0 : Int) < (j : Int) := by omega
    have hX := hid (pow_row HA.out j)
    have hXl := hid (pow_len a j)
    have HO := hid ho
    have HBE := hid hbe
    have HBs := hbe.size
    have HRD := hid rd1
    clear h00 hc ho hbe rd1
    by_cases hlt : j < ordL a
    · have hne := ord_least HA.out hj1 hlt
      have hps := hid (powersTo_step a j)
      obtain ⟨X, hXe⟩ : ∃ X, X = powL a j := ⟨_, rfl⟩
      have hst := hid (show timesL X a = powL a (j + 1) by rw [hXe]; rfl)
      rw [← hXe] at hX hXl hne hps ⊢
      have hb : (X == roundsL a.length) = false := by simpa using hne
      clear hne hXe
      go_wp2_with (at_builtin; refine app_str _ (by rfl) _ _ (by rfl) w.heap.size _ _ _ (by rfl) (HO.out.alloc _) (some ⟨wr.heap.size, 0, none⟩) 1 1 [X] (by rfl) (Rd.blk _ [.string (bs X)] _) (by omega) (by simp; omega) ?_; intro v5 w5 o5 g5)
      rw [hps.out] at o5
      have B5 := hid ((HBE.out.alloc (by omega) _).grown g5 (by simp; omega) fun q hq => (HO.out.lt q hq).1)
      have O5 := hid o5
      clear o5 g5
      go_wp2_with fail
      refine (times_any X a _ hX.out HA.out hXl.out).mono ?_
      rintro e w6 ⟨rfl, b6⟩
      have O6 := own_below O5.out b6
      have B6 := B5.out.trans (b6.mono B5.out.size)
      have HO6 := hid O6
      have HB6 := hid B6
      clear O6 B6 b6
      go_wp2_with fail
      go_roundg (ordL a - (j + 1))
      case measure => omega
      case rel => exact ⟨j + 1, by omega, by omega, rfl, HO6.out, by rw [hst.out], HB6.out⟩
    · obtain rfl : j = ordL a := by omega
      have heq := ord_pow HA.out
      obtain ⟨X, hXe⟩ : ∃ X, X = powL a (ordL a) := ⟨_, rfl⟩
      rw [← hXe] at heq ⊢
      have hb : (X == roundsL a.length) = true := by simpa using heq
      clear heq hXe
      go_wp2
      go_ret
      exact ⟨_, rfl, by rw [powersTo_len]; exact HO.out, HBE.out⟩
end Go.Proofs.Ytdmipllbifofmaa
