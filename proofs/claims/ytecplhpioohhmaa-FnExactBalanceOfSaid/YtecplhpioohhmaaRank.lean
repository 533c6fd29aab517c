/- Contracts of factorials and of the rank of a row, in the reference and in the program. No conditions beyond those stated. -/
import Derived.Test.YtecplhpioohhmaaRow2
set_option linter.unusedVariables false
set_option linter.unusedSimpArgs false
set_option maxRecDepth 100000
namespace Go.Proofs.Ytecplhpioohhmaa
open Go.RowKit

def factL : Nat → Nat
  | 0 => 1
  | n + 1 => (n + 1) * factL n
theorem fact_pos : ∀ n, 1 ≤ factL n
  | 0 => Nat.le_refl _
  | n + 1 => Nat.mul_le_mul (show 1 ≤ n + 1 by omega) (fact_pos n)
theorem fact_le (n : Nat) (h : n ≤ 8) : factL n ≤ 40320 := by
  have : n = 0 ∨ n = 1 ∨ n = 2 ∨ n = 3 ∨ n = 4 ∨ n = 5 ∨ n = 6 ∨ n = 7 ∨ n = 8 := by omega
  rcases this with rfl | rfl | rfl | rfl | rfl | rfl | rfl | rfl | rfl <;> decide
/-- How many of the places from i + 1 to m - 1 hold a lesser byte than place i. -/
def lessTo (r : List UInt8) (i m : Nat) : Nat := ((List.range m).filter fun j => decide (i < j) && decide ((r.getD j 0).toNat < (r.getD i 0).toNat)).length
theorem lessTo_first (r : List UInt8) (i : Nat) : lessTo r i (i + 1) = 0 := by
  unfold lessTo
  rw [List.length_eq_zero_iff, List.filter_eq_nil_iff]
  intro j hj
  rw [List.mem_range] at hj
  simp; omega
theorem lessTo_succ (r : List UInt8) (i m : Nat) (h : i < m) : lessTo r i (m + 1) = lessTo r i m + (if (r.getD m 0).toNat < (r.getD i 0).toNat then 1 else 0) := by
  unfold lessTo
  rw [List.range_succ, List.filter_append, List.length_append]
  congr 1
  by_cases hc : (r.getD m 0).toNat < (r.getD i 0).toNat
  · simp only [List.filter_cons, List.filter_nil, h, hc, decide_true, Bool.and_true, if_true]; rfl
  · simp only [List.filter_cons, List.filter_nil, h, hc, decide_true, decide_false, Bool.and_false, if_false]; rfl
theorem lessTo_le (r : List UInt8) (i m : Nat) (h : i + 1 ≤ m) : lessTo r i m ≤ m - 1 - i := by
  induction m with
  | zero => omega
  | succ m ih =>
    by_cases e : m = i
    · subst e; rw [lessTo_first]; omega
    · have := ih (by omega)
      rw [lessTo_succ r i m (by omega)]
      split <;> omega
def lessL (r : List UInt8) (i : Nat) : Nat := lessTo r i r.length
/-- The rank as the reference builds it. -/
def placeTo (r : List UInt8) : Nat → Nat
  | 0 => 0
  | k + 1 => placeTo r k * (r.length - k) + lessL r k
/-- The rank as the program builds it. -/
def rankTo (r : List UInt8) : Nat → Nat
  | 0 => 0
  | k + 1 => rankTo r k + lessL r k * factL (r.length - 1 - k)
def rankL (r : List UInt8) : Nat := rankTo r r.length
theorem place_rank (r : List UInt8) : ∀ k, k ≤ r.length → placeTo r k * factL (r.length - k) = rankTo r k
  | 0, _ => by simp [placeTo, rankTo]
  | k + 1, h => by
    have ih := place_rank r k (by omega)
    have e : r.length - k = (r.length - (k + 1)) + 1 := by omega
    rw [e, factL, ← e, ← Nat.mul_assoc] at ih
    rw [placeTo, rankTo, ← ih, Nat.add_mul, show r.length - 1 - k = r.length - (k + 1) by omega]
theorem place_all (r : List UInt8) : placeTo r r.length = rankL r := by
  have := place_rank r r.length (Nat.le_refl _)
  rw [Nat.sub_self, factL, Nat.mul_one] at this
  exact this
theorem rankTo_lt (r : List UInt8) : ∀ k, k ≤ r.length → rankTo r k + factL (r.length - k) ≤ factL r.length
  | 0, _ => by simp [rankTo]
  | k + 1, h => by
    have ih := rankTo_lt r k (by omega)
    have hl := lessTo_le r k r.length (by omega)
    have e : r.length - k = (r.length - (k + 1)) + 1 := by omega
    rw [e, factL] at ih
    rw [rankTo, show r.length - 1 - k = r.length - (k + 1) by omega]
    have h2 : lessL r k * factL (r.length - (k + 1)) ≤ (r.length - (k + 1)) * factL (r.length - (k + 1)) := Nat.mul_le_mul_right _ (by unfold lessL; omega)
    rw [Nat.add_mul, Nat.one_mul] at ih
    omega
theorem rank_lt (r : List UInt8) : rankL r < factL r.length := by
  have := rankTo_lt r r.length (Nat.le_refl _)
  rw [Nat.sub_self, factL] at this
  exact this
theorem placeTo_le (r : List UInt8) (k : Nat) (hk : k ≤ r.length) (h8 : r.length ≤ 8) : placeTo r k ≤ 40320 := by
  have h1 := place_rank r k hk
  have h2 := rankTo_lt r k hk
  have h3 := fact_le r.length h8
  have h4 := Nat.mul_le_mul_left (placeTo r k) (fact_pos (r.length - k))
  omega
theorem rankTo_le (r : List UInt8) (k : Nat) (hk : k ≤ r.length) (h8 : r.length ≤ 8) : rankTo r k ≤ 40320 := by
  have h2 := rankTo_lt r k hk
  have h3 := fact_le r.length h8
  omega

theorem l1Fact_any (n : Nat) (w : World) (h : n ≤ 8) :
    Calls Try.prog 85 #[.int .i64 n] w fun e w' => e = .returned (.int .i64 (factL n)) ∧ w = w' := by
  have : n = 0 ∨ n = 1 ∨ n = 2 ∨ n = 3 ∨ n = 4 ∨ n = 5 ∨ n = 6 ∨ n = 7 ∨ n = 8 := by omega
  go_enter Try.func85, Try.ntmps85
  rcases this with rfl | rfl | rfl | rfl | rfl | rfl | rfl | rfl | rfl
  all_goals (go_wp2; go_rounds 9; go_ret; exact ⟨rfl, rfl⟩)

theorem l1Place_any (r : List UInt8) (w : World) (h8 : r.length ≤ 8) :
    Calls Try.prog 86 #[.string (bs r)] w fun e w' => e = .returned (.int .i64 (rankL r)) ∧ ∃ m, w' = w.drewN m := by
  have HP := hid (place_all r)
  go_enter Try.func86, Try.ntmps86
  go_wp2
  go_loopg [3, 4] r.length (fun gk u v wr => ∃ k m : Nat, k ≤ r.length ∧ gk = r.length - k ∧ u = .int .i64 (placeTo r k) ∧ v = .int .i64 k ∧ wr = w.drewN m)
  case atStart => exact ⟨0, 0, by omega, by omega, rfl, rfl, rfl⟩
  case round =>
    obtain ⟨k, m, hk, rfl, rfl, rfl, rfl⟩ := hrel
    by_cases hlt : k < r.length
    · have hf := hid (lessTo_first r k)
      have hpl := placeTo_le r k hk h8
      have hps := hid (show placeTo r (k + 1) = placeTo r k * (r.length - k) + lessL r k from rfl)
      have hple := hid (placeTo_le r (k + 1) hlt h8)
      have hku := UInt8.toNat_lt r[k]
      go_wp2
      go_loopg [5, 6] (r.length - (k + 1)) (fun gk u v wr => ∃ j q : Nat, k + 1 ≤ j ∧ j ≤ r.length ∧ gk = r.length - j ∧ u = .int .i64 (lessTo r k j) ∧ v = .int .i64 j ∧ wr = w.drewN q)
      case atStart => exact ⟨k + 1, m, by omega, by omega, by omega, by rw [hf.out]; rfl, by go_num, rfl⟩
      case round =>
        obtain ⟨j, q, hj1, hj, rfl, rfl, rfl, rfl⟩ := hrel
        have hle := lessTo_le r k j hj1
        by_cases hjl : j < r.length
        · have hst := hid (lessTo_succ r k j (by omega))
          rw [gd_at _ _ hlt, gd_at _ _ hjl] at hst
          have i0 : (0 : Int) ≤ (j : Int) := by omega
          have i1 : (j : Int) < (r.length : Int) := by omega
          have i2 : (0 : Int) ≤ (k : Int) := by omega
          have i3 : (k : Int) < (r.length : Int) := by omega
          by_cases hc : r[j].toNat < r[k].toNat
          · have hci : (r[j].toNat : Int) < (r[k].toNat : Int) := by omega
            go_wp2
            go_quiet (fail)
            go_wp2
            go_roundg (r.length - (j + 1))
            case measure => omega
            case rel => exact ⟨j + 1, _, by omega, by omega, rfl, by rw [hst.out, if_pos hc]; go_num, by go_num, rfl⟩
          · have hci : ¬ (r[j].toNat : Int) < (r[k].toNat : Int) := by omega
            go_wp2
            go_quiet (fail)
            go_wp2
            go_roundg (r.length - (j + 1))
            case measure => omega
            case rel => exact ⟨j + 1, _, by omega, by omega, rfl, by rw [hst.out, if_neg hc]; go_num, by go_num, rfl⟩
        · obtain rfl : j = r.length := by omega
          have hmul : (placeTo r k : Int) * ((r.length : Int) - (k : Int)) = ((placeTo r k * (r.length - k) : Nat) : Int) := by
            rw [Int.natCast_mul, Int.ofNat_sub hk]
          have hprod := Nat.mul_le_mul (hpl) (show r.length - k ≤ 8 by omega)
          have hw1 := IntWalk.i64_in ((placeTo r k : Int) * ((r.length : Int) - (k : Int))) (by rw [hmul]; omega)
          have hw2 := IntWalk.i64_in ((placeTo r k : Int) * ((r.length : Int) - (k : Int)) + (lessTo r k r.length : Int)) (by rw [hmul]; omega)
          have HM := hid hmul
          clear hmul hprod
          go_wp2
          go_roundg (r.length - (k + 1))
          case measure => omega
          case rel => exact ⟨k + 1, _, by omega, rfl, by rw [hps.out, HM.out]; rfl, by go_num, rfl⟩
    · obtain rfl : k = r.length := by omega
      go_wp2
      go_ret
      rw [HP.out]
      exact ⟨rfl, _, rfl⟩

theorem factorial_any (n : Nat) (w : World) (h : n ≤ 8) :
    Calls Try.prog 87 #[.int .i64 n] w fun e w' => e = .returned (.int .i64 (factL n)) ∧ w = w' := by
  have : n = 0 ∨ n = 1 ∨ n = 2 ∨ n = 3 ∨ n = 4 ∨ n = 5 ∨ n = 6 ∨ n = 7 ∨ n = 8 := by omega
  go_enter Try.func87, Try.ntmps87
  rcases this with rfl | rfl | rfl | rfl | rfl | rfl | rfl | rfl | rfl
  all_goals (go_wp2; go_rounds 9; go_ret; exact ⟨rfl, rfl⟩)

theorem rankOf_any (r : List UInt8) (w : World) (h8 : r.length ≤ 8) :
    Calls Try.prog 88 #[.string (bs r)] w fun e w' => e = .returned (.int .i64 (rankL r)) ∧ ∃ m, w' = w.drewN m := by
  go_enter Try.func88, Try.ntmps88
  go_wp2
  go_loopg [3, 9] r.length (fun gk u v wr => ∃ k m : Nat, k ≤ r.length ∧ gk = r.length - k ∧ u = .int .i64 (rankTo r k) ∧ v = .int .i64 k ∧ wr = w.drewN m)
  case atStart => exact ⟨0, 0, by omega, by omega, rfl, rfl, rfl⟩
  case round =>
    obtain ⟨k, m, hk, rfl, rfl, rfl, rfl⟩ := hrel
    by_cases hlt : k < r.length
    · have hf := hid (lessTo_first r k)
      have hpl := rankTo_le r k hk h8
      have hps := hid (show rankTo r (k + 1) = rankTo r k + lessL r k * factL (r.length - 1 - k) from rfl)
      have hple := hid (rankTo_le r (k + 1) hlt h8)
      have hku := UInt8.toNat_lt r[k]
      go_wp2
      go_loopg [5, 6] (r.length - (k + 1)) (fun gk u v wr => ∃ j q : Nat, k + 1 ≤ j ∧ j ≤ r.length ∧ gk = r.length - j ∧ u = .int .i64 (lessTo r k j) ∧ v = .int .i64 j ∧ wr = w.drewN q)
      case atStart => exact ⟨k + 1, m, by omega, by omega, by omega, by rw [hf.out]; rfl, by go_num, rfl⟩
      case round =>
        obtain ⟨j, q, hj1, hj, rfl, rfl, rfl, rfl⟩ := hrel
        have hle := lessTo_le r k j hj1
        by_cases hjl : j < r.length
        · have hst := hid (lessTo_succ r k j (by omega))
          rw [gd_at _ _ hlt, gd_at _ _ hjl] at hst
          have i0 : (0 : Int) ≤ (j : Int) := by omega
          have i1 : (j : Int) < (r.length : Int) := by omega
          have i2 : (0 : Int) ≤ (k : Int) := by omega
          have i3 : (k : Int) < (r.length : Int) := by omega
          by_cases hc : r[j].toNat < r[k].toNat
          · have hci : (r[j].toNat : Int) < (r[k].toNat : Int) := by omega
            go_wp2
            go_quiet (fail)
            go_wp2
            go_roundg (r.length - (j + 1))
            case measure => omega
            case rel => exact ⟨j + 1, _, by omega, by omega, rfl, by rw [hst.out, if_pos hc]; go_num, by go_num, rfl⟩
          · have hci : ¬ (r[j].toNat : Int) < (r[k].toNat : Int) := by omega
            go_wp2
            go_quiet (fail)
            go_wp2
            go_roundg (r.length - (j + 1))
            case measure => omega
            case rel => exact ⟨j + 1, _, by omega, by omega, rfl, by rw [hst.out, if_neg hc]; go_num, by go_num, rfl⟩
        · obtain rfl : j = r.length := by omega
          obtain ⟨q1, hq1⟩ : ∃ q1, r.length - 1 - k = q1 := ⟨_, rfl⟩
          have hqi : (r.length : Int) - 1 - (k : Int) = (q1 : Int) := by omega
          have hfl := fact_le q1 (by omega)
          obtain ⟨F, hF⟩ : ∃ F, F = factL q1 := ⟨_, rfl⟩
          have hFA := hid (fun w => factorial_any q1 w (by omega))
          rw [hq1, ← hF] at hps
          rw [← hF] at hFA hfl
          obtain ⟨L, hL⟩ : ∃ L, L = lessTo r k r.length := ⟨_, rfl⟩
          rw [← hL] at hle ⊢
          have hps2 := hid (show rankTo r (k + 1) = rankTo r k + L * F by rw [hps.out, hL]; rfl)
          have hprod := Nat.mul_le_mul (show L ≤ 8 by omega) hfl
          have hw1 := IntWalk.i64_in ((L : Int) * (F : Int)) (by rw [← Int.natCast_mul]; omega)
          have hw2 := IntWalk.i64_in ((rankTo r k : Int) + (L : Int) * (F : Int)) (by rw [← Int.natCast_mul]; omega)
          have hw3 := IntWalk.i64_in ((r.length : Int) - 1 - (k : Int)) (by omega)
          clear hprod hF hL hq1 hps
          go_wp2_with fail
          refine (hFA.out _).mono ?_
          rintro e w' ⟨rfl, rfl⟩
          go_wp2
          go_roundg (r.length - (k + 1))
          case measure => omega
          case rel => exact ⟨k + 1, _, by omega, rfl, by rw [hps2.out]; go_num, by go_num, rfl⟩
    · obtain rfl : k = r.length := by omega
      go_wp2
      go_ret
      exact ⟨rfl, _, rfl⟩
end Go.Proofs.Ytecplhpioohhmaa
