/- Contracts of the functions that rotate and reverse touches, in the reference and in the program. No conditions beyond those stated. -/
import Derived.Test.YtgfppbkibmegoaaTouch
set_option linter.unusedVariables false
set_option linter.unusedSimpArgs false
namespace Go.Proofs.Ytgfppbkibmegoaa
open Go.RowKit

/-- What TurnTouch answers. -/
def turnTouchR (l : List UInt8) (n : Int) : List UInt8 × Bool := if goodTouch l = true ∧ 0 ≤ n ∧ n < l.length then (l.drop n.toNat ++ l.take n.toNat, true) else ([], false)
theorem turnTouchR_yes (l : List UInt8) (n : Int) (hg : goodTouch l = true) (h0 : 0 ≤ n) (h1 : n < l.length) : turnTouchR l n = (l.drop n.toNat ++ l.take n.toNat, true) := if_pos ⟨hg, h0, h1⟩
theorem turnTouchR_bad (l : List UInt8) (n : Int) (hg : goodTouch l = false) : turnTouchR l n = ([], false) := if_neg (by simp [hg])
theorem turnTouchR_out (l : List UInt8) (n : Int) (h : ¬ (0 ≤ n ∧ n < l.length)) : turnTouchR l n = ([], false) := if_neg (fun h' => h h'.2)

theorem ret_sb {a b : List UInt8} {x y : Bool} (h : a = b) (h2 : x = y) : Ending.returned (.tuple #[.string (bs a), .bool x]) = .returned (.tuple #[.string (bs b), .bool y]) := by rw [h, h2]

theorem l9Turn_any (l : List UInt8) (n : Int) (w : World) (hl : l.length ≤ 1048576) (h0 : 0 ≤ n) (h1 : n ≤ l.length) :
    Calls Try.prog 47 #[.string (bs l), .int .i64 n] w fun e w' => e = .returned (.string (bs (l.drop n.toNat ++ l.take n.toNat))) ∧ ∃ m, w' = w.drewN m := by
  go_enter Try.func47, Try.ntmps47
  go_wp2
  go_quiet (fail)
  go_wp2
  go_ret
  exact ⟨ret_str rfl, _, rfl⟩

theorem specTurnTouch_any (l : List UInt8) (n : Int) (w : World) (hl : l.length ≤ 1048576) :
    Calls Try.prog 16 #[.string (bs l), .int .i64 n] w fun e w' => e = .returned (.tuple #[.string (bs (turnTouchR l n).1), .bool (turnTouchR l n).2]) ∧ ∃ m, w' = w.drewN m := by
  cases hg : goodTouch l
  · have hr := hid (turnTouchR_bad l n hg)
    go_enter Try.func16, Try.ntmps16
    go_wp2_with (go_at_call 44; refine (l9Good_any _ _ (by omega)).mono ?_; rintro e w' ⟨rfl, rfl⟩)
    go_ret2
    rw [hr.out]
    exact ⟨rfl, 0, rfl⟩
  · by_cases hn : 0 ≤ n ∧ n < l.length
    · obtain ⟨h0, h1⟩ := hn
      have hr := hid (turnTouchR_yes l n hg h0 h1)
      have hd : decide (n ≤ (l.length : Int) - 1) = true := by simp; omega
      go_enter Try.func16, Try.ntmps16
      go_wp2_with (first
        | (go_at_call 44; refine (l9Good_any _ _ (by omega)).mono ?_; rintro e w' ⟨rfl, rfl⟩)
        | (go_at_call 46; refine (l1In_any _ _ _ _).mono ?_; rintro e w' ⟨rfl, rfl⟩)
        | (go_at_call 47; refine (l9Turn_any _ _ _ (by omega) (by omega) (by omega)).mono ?_; rintro e w' ⟨rfl, nq1, rfl⟩))
      go_ret2
      rw [hr.out]
      exact ⟨rfl, _, rfl⟩
    · have hr := hid (turnTouchR_out l n hn)
      have hd : (decide (0 ≤ n) && decide (n ≤ (l.length : Int) - 1)) = false := by simp; omega
      clear hn
      go_enter Try.func16, Try.ntmps16
      go_wp2_with (first
        | (go_at_call 44; refine (l9Good_any _ _ (by omega)).mono ?_; rintro e w' ⟨rfl, rfl⟩)
        | (go_at_call 46; refine (l1In_any _ _ _ _).mono ?_; rintro e w' ⟨rfl, rfl⟩))
      go_ret2
      rw [hr.out]
      exact ⟨rfl, 0, rfl⟩

theorem implTurnTouch_any (l : List UInt8) (n : Int) (w : World) (hl : l.length ≤ 1048576) :
    Calls Try.prog 17 #[.string (bs l), .int .i64 n] w fun e w' => e = .returned (.tuple #[.string (bs (turnTouchR l n).1), .bool (turnTouchR l n).2]) ∧ ∃ m, w' = w.drewN m := by
  cases hg : goodTouch l
  · have hr := hid (turnTouchR_bad l n hg)
    go_enter Try.func17, Try.ntmps17
    go_wp2_with (go_at_call 15; refine (implGoodTouch_any _ _ (by omega)).mono ?_; rintro e w' ⟨rfl, rfl⟩)
    go_ret2
    rw [hr.out]
    exact ⟨rfl, 0, rfl⟩
  · by_cases hn : 0 ≤ n ∧ n < l.length
    · obtain ⟨h0, h1⟩ := hn
      have hr := hid (turnTouchR_yes l n hg h0 h1)
      go_enter Try.func17, Try.ntmps17
      go_wp2_with (go_at_call 15; refine (implGoodTouch_any _ _ (by omega)).mono ?_; rintro e w' ⟨rfl, rfl⟩)
      go_quiet (fail)
      go_wp2
      go_ret2
      rw [hr.out]
      exact ⟨rfl, _, rfl⟩
    · have hr := hid (turnTouchR_out l n hn)
      go_enter Try.func17, Try.ntmps17
      go_wp2_with (go_at_call 15; refine (implGoodTouch_any _ _ (by omega)).mono ?_; rintro e w' ⟨rfl, rfl⟩)
      all_goals (go_ret2; rw [hr.out]; exact ⟨rfl, 0, rfl⟩)

/-- A touch with all calls but the last one reversed. -/
def rev1 (l : List UInt8) : List UInt8 := (l.take (l.length - 1)).reverse ++ l.drop (l.length - 1)
/-- What ReverseTouch answers. -/
def reverseTouchR (l : List UInt8) : List UInt8 × Bool := if goodTouch l = true then (rev1 l, true) else ([], false)

theorem goodTouch_len {l : List UInt8} (h : goodTouch l = true) : 1 ≤ l.length ∧ l.length ≤ 60 := by
  simp [goodTouch] at h; omega
theorem goodTouch_all {l : List UInt8} (h : goodTouch l = true) : l.all callB = true := by
  simp [goodTouch] at h; simpa using h.1.1
theorem rev_down (l : List UInt8) (j : Nat) (h : j + 1 < l.length) : ((l.take (l.length - 1)).drop (j + 1)).reverse ++ List.take 1 (List.drop j l) = ((l.take (l.length - 1)).drop j).reverse := by
  have hj : j < (l.take (l.length - 1)).length := by simp; omega
  rw [List.drop_eq_getElem_cons hj, List.reverse_cons, take1_drop l j (by omega)]
  simp
theorem rev_up (l : List UInt8) (j : Nat) (h : j < l.length) : List.take 1 (List.drop j l) ++ (l.take j).reverse = (l.take (j + 1)).reverse := by
  rw [List.take_succ_eq_append_getElem h, List.reverse_append, take1_drop l j h]; simp

theorem l9Reverse_any (l : List UInt8) (w : World) (hl : l.length ≤ 1048576) (h1 : 1 ≤ l.length) :
    Calls Try.prog 49 #[.string (bs l)] w fun e w' => e = .returned (.string (bs (rev1 l))) ∧ w = w' := by
  go_enter Try.func49, Try.ntmps49
  go_wp2
  go_loop [3, 4] (fun v i => ∃ j : Nat, j + 1 ≤ l.length ∧ i = .int .i64 ((j : Int) - 1) ∧ v = .string (bs ((l.take (l.length - 1)).drop j).reverse)) (fun _ i => (intOf i + 1).toNat)
  case atStart => exact ⟨l.length - 1, by omega, by congr 1; omega, by rw [List.drop_of_length_le (by simp)]; rfl⟩
  case round =>
    obtain ⟨j, hj, rfl, rfl⟩ := hrel
    rcases j with _ | j
    · go_wp2
      go_ret
      exact ⟨ret_str rfl, rfl⟩
    · have e : ((j + 1 : Nat) : Int) - 1 = j := by omega
      rw [e]
      have hr := hid (rev_down l j (by omega))
      go_wp2
      exact ⟨⟨j, by omega, rfl, by rw [hr.out]⟩, by simp [intOf]⟩

theorem backwards_any (l : List UInt8) (w : World) (hl : l.length ≤ 1048576) (h1 : 1 ≤ l.length) :
    Calls Try.prog 50 #[.string (bs l)] w fun e w' => e = .returned (.string (bs (rev1 l))) ∧ w = w' := by
  go_enter Try.func50, Try.ntmps50
  go_wp2
  go_loop [3, 8] (fun v i => ∃ k : Nat, k + 1 ≤ l.length ∧ i = .int .i64 k ∧ v = .string (bs (l.take k).reverse)) (fun _ i => l.length - (intOf i).toNat)
  case atStart => exact ⟨0, by omega, rfl, rfl⟩
  case round =>
    obtain ⟨k, hk, rfl, rfl⟩ := hrel
    by_cases hlt : k + 1 < l.length
    · have hr := hid (rev_up l k (by omega))
      go_wp2
      exact ⟨⟨k + 1, by omega, by go_num, by rw [hr.out]⟩, by simp [intOf]; omega⟩
    · go_wp2
      have hkk : k = l.length - 1 := by omega
      subst hkk
      go_ret
      exact ⟨ret_str rfl, rfl⟩

theorem reverseTouchR_yes (l : List UInt8) (hg : goodTouch l = true) : reverseTouchR l = (rev1 l, true) := if_pos hg
theorem reverseTouchR_bad (l : List UInt8) (hg : goodTouch l = false) : reverseTouchR l = ([], false) := if_neg (by simp [hg])

theorem specReverseTouch_any (l : List UInt8) (w : World) (hl : l.length ≤ 1048576) :
    Calls Try.prog 20 #[.string (bs l)] w fun e w' => e = .returned (.tuple #[.string (bs (reverseTouchR l).1), .bool (reverseTouchR l).2]) ∧ w = w' := by
  cases hg : goodTouch l
  · have hr := hid (reverseTouchR_bad l hg)
    go_enter Try.func20, Try.ntmps20
    go_wp2_with (go_at_call 44; refine (l9Good_any _ _ (by omega)).mono ?_; rintro e w' ⟨rfl, rfl⟩)
    go_ret2
    rw [hr.out]
    exact ⟨rfl, rfl⟩
  · have hr := hid (reverseTouchR_yes l hg)
    have hlen := (goodTouch_len hg).1
    go_enter Try.func20, Try.ntmps20
    go_wp2_with (first
      | (go_at_call 44; refine (l9Good_any _ _ (by omega)).mono ?_; rintro e w' ⟨rfl, rfl⟩)
      | (go_at_call 49; refine (l9Reverse_any _ _ (by omega) hlen).mono ?_; rintro e w' ⟨rfl, rfl⟩))
    go_ret2
    rw [hr.out]
    exact ⟨rfl, rfl⟩

theorem implReverseTouch_any (l : List UInt8) (w : World) (hl : l.length ≤ 1048576) :
    Calls Try.prog 21 #[.string (bs l)] w fun e w' => e = .returned (.tuple #[.string (bs (reverseTouchR l).1), .bool (reverseTouchR l).2]) ∧ w = w' := by
  cases hg : goodTouch l
  · have hr := hid (reverseTouchR_bad l hg)
    go_enter Try.func21, Try.ntmps21
    go_wp2_with (go_at_call 15; refine (implGoodTouch_any _ _ (by omega)).mono ?_; rintro e w' ⟨rfl, rfl⟩)
    go_ret2
    rw [hr.out]
    exact ⟨rfl, rfl⟩
  · have hr := hid (reverseTouchR_yes l hg)
    have hlen := (goodTouch_len hg).1
    go_enter Try.func21, Try.ntmps21
    go_wp2_with (first
      | (go_at_call 15; refine (implGoodTouch_any _ _ (by omega)).mono ?_; rintro e w' ⟨rfl, rfl⟩)
      | (go_at_call 50; refine (backwards_any _ _ (by omega) hlen).mono ?_; rintro e w' ⟨rfl, rfl⟩))
    go_ret2
    rw [hr.out]
    exact ⟨rfl, rfl⟩
end Go.Proofs.Ytgfppbkibmegoaa
