/- Contracts of the tests of a method's name. No conditions beyond those stated. -/
import Derived.Test.YtihaopijnkiafaaGreatDoorIn
import Derived.Test.YtihaopijnkiafaaGreatDoorTouch
set_option linter.unusedVariables false
set_option linter.unusedSimpArgs false
namespace Go.Proofs.YtihaopijnkiafaaGreatDoor
open Go.RowKit

/-- Which byte is a letter from a to z. -/
def letB (b : UInt8) : Bool := decide (97 ≤ b.toNat) && decide (b.toNat ≤ 122)
/-- Which string is a name. -/
def wordB (l : List UInt8) : Bool := l.all letB && decide (1 ≤ l.length) && decide (l.length ≤ 10)

theorem l4Name_any (l : List UInt8) (w : World) (hl : l.length ≤ 140737488351232) :
    Calls Tryz.prog 74 #[.string (bs l)] w fun e w' => e = .returned (.bool (wordB l)) ∧ w = w' := by
  go_enter Tryz.func74, Tryz.ntmps74
  go_wp2_with fail
  go_loop [3] (fun i => ∃ k : Nat, k ≤ l.length ∧ i = .int .i64 k ∧ Hid ((l.take k).all letB = true)) (fun i => l.length - (intOf i).toNat)
  case atStart => exact ⟨0, Nat.zero_le _, rfl, rfl⟩
  case round =>
    obtain ⟨k, hk, rfl, hall⟩ := hrel
    by_cases hlt : k < l.length
    · by_cases h1 : l[k].toNat < 97
      · have HR := hid (show l.all letB = false from all_not letB l k hlt (by simp [letB]; omega))
        go_wp2
        go_ret
        exact ⟨ret_bool (by simp [wordB, HR.out]), rfl⟩
      · by_cases h2 : 122 < l[k].toNat
        · have HR := hid (show l.all letB = false from all_not letB l k hlt (by simp [letB]; omega))
          go_wp2
          go_ret
          exact ⟨ret_bool (by simp [wordB, HR.out]), rfl⟩
        · have HR := hid (show letB l[k] = true by simp [letB]; omega)
          go_wp2
          go_round
          case rel => exact ⟨k + 1, by omega, by go_num, hid (by rw [all_succ _ _ _ hlt, hall.out, HR.out]; rfl)⟩
          case measure => simp [intOf]; omega
    · go_wp2_with (go_at_call 28; refine (l1In_any _ _ _ _).mono ?_; rintro e w' ⟨rfl, rfl⟩)
      go_ret
      have hkk : k = l.length := by omega
      subst hkk
      have h2 := hall.out
      rw [List.take_length] at h2
      exact ⟨ret_bool (by simp only [wordB, h2, Bool.true_and]; congr 1 <;> (apply decide_eq_decide.2; omega)), rfl⟩

theorem isWord_any (l : List UInt8) (w : World) (hl : l.length ≤ 140737488351232) :
    Calls Tryz.prog 56 #[.string (bs l)] w fun e w' => e = .returned (.bool (wordB l)) ∧ w = w' := by
  go_enter Tryz.func56, Tryz.ntmps56
  go_wp2_with fail
  go_loop [6] (fun i => ∃ k : Nat, k ≤ l.length ∧ i = .int .i64 k ∧ Hid ((l.take k).all letB = true)) (fun i => l.length - (intOf i).toNat)
  case atStart => exact ⟨0, Nat.zero_le _, rfl, rfl⟩
  case round =>
    obtain ⟨k, hk, rfl, hall⟩ := hrel
    by_cases hlt : k < l.length
    · by_cases h1 : l[k].toNat < 97
      · have HR := hid (show l.all letB = false from all_not letB l k hlt (by simp [letB]; omega))
        go_wp2
        go_ret
        exact ⟨ret_bool (by simp [wordB, HR.out]), rfl⟩
      · by_cases h2 : 122 < l[k].toNat
        · have HR := hid (show l.all letB = false from all_not letB l k hlt (by simp [letB]; omega))
          go_wp2
          go_ret
          exact ⟨ret_bool (by simp [wordB, HR.out]), rfl⟩
        · have HR := hid (show letB l[k] = true by simp [letB]; omega)
          go_wp2
          go_round
          case rel => exact ⟨k + 1, by omega, by go_num, hid (by rw [all_succ _ _ _ hlt, hall.out, HR.out]; rfl)⟩
          case measure => simp [intOf]; omega
    · have hkk : k = l.length := by omega
      subst hkk
      have h2 := hall.out
      rw [List.take_length] at h2
      have HA := hid h2
      clear h2 hall
      by_cases h3 : 1 ≤ l.length
      · have h3i : 1 ≤ (l.length : Int) := by omega
        by_cases h4 : l.length ≤ 10
        · have h4' : (l.length : Int) ≤ 10 := by omega
          go_wp2
          go_ret
          exact ⟨ret_bool (by first | (simp [wordB, HA.out, h3, h4]; done) | (simp [wordB, HA.out, h3, h4]; omega)), rfl⟩
        · have h4' : ¬ (l.length : Int) ≤ 10 := by omega
          go_wp2
          go_ret
          exact ⟨ret_bool (by first | (simp [wordB, HA.out, h3, h4]; done) | (simp [wordB, HA.out, h3, h4]; omega)), rfl⟩
      · have h3' : ¬ 1 ≤ (l.length : Int) := by omega
        go_wp2
        go_ret
        exact ⟨ret_bool (by simp [wordB, HA.out, h3]), rfl⟩
end Go.Proofs.YtihaopijnkiafaaGreatDoor
