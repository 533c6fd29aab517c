/- Contracts of the functions that say which strings are calls and touches, in the reference and in the program. No conditions beyond those stated. -/
import Derived.Test.YtihaopijnkiafaaGreatDoorIn
set_option linter.unusedVariables false
set_option linter.unusedSimpArgs false
namespace Go.Proofs.YtihaopijnkiafaaGreatDoor
open Go.RowKit

/-- Which byte is a call. -/
def callB (b : UInt8) : Bool := b == 112 || b == 98 || b == 115
/-- Which string is a call. -/
def isCallL (l : List UInt8) : Bool := l == [112] || l == [98] || l == [115]
theorem isCallL_one (b : UInt8) : isCallL [b] = callB b := by simp [isCallL, callB]
/-- Which string is a touch. -/
def goodTouch (l : List UInt8) : Bool := l.all callB && decide (1 ≤ l.length) && decide (l.length ≤ 60)

theorem take1_drop (l : List UInt8) (k : Nat) (h : k < l.length) : List.take 1 (List.drop k l) = [l[k]] := by
  rw [List.drop_eq_getElem_cons h]; rfl
theorem isCallL_at (l : List UInt8) (k : Nat) (h : k < l.length) : isCallL (List.take 1 (List.drop k l)) = callB l[k] := by rw [take1_drop l k h, isCallL_one]
theorem all_succ (p : UInt8 → Bool) (l : List UInt8) (k : Nat) (h : k < l.length) : (l.take (k + 1)).all p = ((l.take k).all p && p l[k]) := by
  rw [List.take_succ_eq_append_getElem h, List.all_append]; simp
theorem all_not (p : UInt8 → Bool) (l : List UInt8) (k : Nat) (h : k < l.length) (hp : p l[k] = false) : l.all p = false := by
  apply Bool.eq_false_iff.2
  intro ha
  have := List.all_eq_true.1 ha l[k] (List.getElem_mem h)
  simp [hp] at this

theorem l8Call_any (l : List UInt8) (w : World) :
    Calls Tryz.prog 29 #[.string (bs l)] w fun e w' => e = .returned (.bool (isCallL l)) ∧ w = w' := by
  go_enter Tryz.func29, Tryz.ntmps29
  go_wp2
  all_goals (go_ret; exact ⟨ret_bool (by simp [isCallL, *]), rfl⟩)

theorem isCall_any (l : List UInt8) (w : World) :
    Calls Tryz.prog 42 #[.string (bs l)] w fun e w' => e = .returned (.bool (isCallL l)) ∧ w = w' := by
  go_enter Tryz.func42, Tryz.ntmps42
  go_wp2
  all_goals (go_ret; exact ⟨ret_bool (by simp [isCallL, *]), rfl⟩)

theorem l9Good_any (l : List UInt8) (w : World) (hl : l.length ≤ 140737488351232) :
    Calls Tryz.prog 18 #[.string (bs l)] w fun e w' => e = .returned (.bool (goodTouch l)) ∧ w = w' := by
  go_enter Tryz.func18, Tryz.ntmps18
  go_wp2_with fail
  go_loop [3] (fun i => ∃ k : Nat, k ≤ l.length ∧ i = .int .i64 k ∧ Hid ((l.take k).all callB = true)) (fun i => l.length - (intOf i).toNat)
  case atStart => exact ⟨0, Nat.zero_le _, rfl, rfl⟩
  case round =>
    obtain ⟨k, hk, rfl, hall⟩ := hrel
    by_cases hlt : k < l.length
    · have hc := hid (isCallL_at l k hlt)
      go_wp2_with (go_at_call 29; refine (l8Call_any _ _).mono ?_; rintro e w' ⟨rfl, rfl⟩)
      · have h1 : (!isCallL (List.take 1 (List.drop k l))) = true := by assumption
        rw [hc.out] at h1
        go_ret
        exact ⟨ret_bool (by simp [goodTouch, all_not callB l k hlt (by simpa using h1)]), rfl⟩
      · have h1 : (!isCallL (List.take 1 (List.drop k l))) = false := by assumption
        rw [hc.out] at h1
        exact ⟨⟨k + 1, by omega, by go_num, hid (by rw [all_succ _ _ _ hlt, hall.out]; simpa using h1)⟩, by simp [intOf]; omega⟩
    · go_wp2_with (go_at_call 28; refine (l1In_any _ _ _ _).mono ?_; rintro e w' ⟨rfl, rfl⟩)
      go_ret
      have hkk : k = l.length := by omega
      subst hkk
      have h2 := hall.out
      rw [List.take_length] at h2
      exact ⟨ret_bool (by simp only [goodTouch, h2, Bool.true_and]; congr 1 <;> (apply decide_eq_decide.2; omega)), rfl⟩

theorem areCalls_any (l : List UInt8) (w : World) (hl : l.length ≤ 140737488351232) :
    Calls Tryz.prog 46 #[.string (bs l)] w fun e w' => e = .returned (.bool (l.all callB)) ∧ w = w' := by
  go_enter Tryz.func46, Tryz.ntmps46
  go_wp2_with fail
  go_loop [6] (fun i => ∃ k : Nat, k ≤ l.length ∧ i = .int .i64 k ∧ Hid ((l.take k).all callB = true)) (fun i => l.length - (intOf i).toNat)
  case atStart => exact ⟨0, Nat.zero_le _, rfl, rfl⟩
  case round =>
    obtain ⟨k, hk, rfl, hall⟩ := hrel
    by_cases hlt : k < l.length
    · have hc := hid (isCallL_at l k hlt)
      go_wp2_with (go_at_call 42; refine (isCall_any _ _).mono ?_; rintro e w' ⟨rfl, rfl⟩)
      · have h1 : (!isCallL (List.take 1 (List.drop k l))) = true := by assumption
        rw [hc.out] at h1
        go_ret
        exact ⟨ret_bool (all_not callB l k hlt (by simpa using h1)).symm, rfl⟩
      · have h1 : (!isCallL (List.take 1 (List.drop k l))) = false := by assumption
        rw [hc.out] at h1
        exact ⟨⟨k + 1, by omega, by go_num, hid (by rw [all_succ _ _ _ hlt, hall.out]; simpa using h1)⟩, by simp [intOf]; omega⟩
    · go_wp2
      go_ret
      have hkk : k = l.length := by omega
      subst hkk
      have h2 := hall.out
      rw [List.take_length] at h2
      exact ⟨ret_bool h2.symm, rfl⟩

theorem goodTouch_of (l : List UInt8) (h1 : 1 ≤ l.length) (h2 : l.length ≤ 60) : goodTouch l = l.all callB := by simp [goodTouch, h1, h2]
theorem goodTouch_no (l : List UInt8) (h : l.length < 1 ∨ 60 < l.length) : goodTouch l = false := by
  rcases h with h | h
  · simp [goodTouch, show ¬ 1 ≤ l.length by omega]
  · simp [goodTouch, show ¬ l.length ≤ 60 by omega]

theorem implGoodTouch_any (l : List UInt8) (w : World) (hl : l.length ≤ 140737488351232) :
    Calls Tryz.prog 24 #[.string (bs l)] w fun e w' => e = .returned (.bool (goodTouch l)) ∧ w = w' := by
  go_enter Tryz.func24, Tryz.ntmps24
  go_wp2_with (go_at_call 46; refine (areCalls_any _ _ hl).mono ?_; rintro e w' ⟨rfl, rfl⟩)
  all_goals (go_ret; first | exact ⟨ret_bool (goodTouch_of l (by omega) (by omega)).symm, rfl⟩ | exact ⟨ret_bool (goodTouch_no l (by omega)).symm, rfl⟩)
end Go.Proofs.YtihaopijnkiafaaGreatDoor
