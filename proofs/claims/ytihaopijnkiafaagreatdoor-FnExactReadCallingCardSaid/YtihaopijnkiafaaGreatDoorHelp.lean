/- Contracts of the law package's helpers on slices of strings and of integers: equal, mark, held. No conditions beyond those stated. -/
import Derived.Test.YtihaopijnkiafaaGreatDoorMem
set_option linter.unusedVariables false
set_option maxRecDepth 100000
set_option linter.unusedSimpArgs false
namespace Go.Proofs.YtihaopijnkiafaaGreatDoor
open Go.RowKit

theorem eqStringS_any (A B : Option Addr) (n m ca cb : Nat) (la lb : List (List UInt8)) (w : World) (ha : Rd w A n (strV la)) (hb : Rd w B m (strV lb)) (hn : n ≤ 140737488351232) (hm : m ≤ 140737488351232) :
    Calls Tryz.prog 26 #[.slice A n ca, .slice B m cb] w fun e w' => e = .returned (.bool (decide (la = lb))) ∧ ∃ k, w' = w.drewN k := by
  have e1 : la.length = n := by have := ha.1; rw [strV_len] at this; exact this
  have e2 : lb.length = m := by have := hb.1; rw [strV_len] at this; exact this
  have E1 := hid e1
  have E2 := hid e2
  clear e1 e2
  by_cases hnm : n = m
  · subst hnm
    go_enter Tryz.func26, Tryz.ntmps26
    go_wp2
    go_loopg [5] n (fun gk i wr => ∃ k q : Nat, k ≤ n ∧ gk = n - k ∧ i = .int .i64 k ∧ Hid (la.take k = lb.take k) ∧ wr = w.drewN q)
    case atStart => exact ⟨0, 0, by omega, by omega, rfl, rfl, rfl⟩
    case round =>
      obtain ⟨k, q, hk, rfl, rfl, hh, rfl⟩ := hrel
      by_cases hlt : k < n
      · obtain ⟨b1, o1, rfl, hl1, c1⟩ := ha.str hlt
        obtain ⟨b2, o2, rfl, hl2, c2⟩ := hb.str hlt
        have hi : (k : Int) < (n : Int) := by omega
        go_wp2
        go_quiet (fail)
        go_wp2
        · have h1 : (!la[k] == lb[k]) = true := by assumption
          go_ret
          have hr : la ≠ lb := by
            intro e
            subst e
            simp at h1
          exact ⟨ret_bool (by simp [hr]), _, World.drewN_drewN _ _ _⟩
        · have h1 : (!la[k] == lb[k]) = false := by assumption
          go_roundg (n - (k + 1))
          case measure => omega
          case rel => exact ⟨k + 1, _, by omega, rfl, by go_num, hid (by rw [List.take_succ_eq_append_getElem hl1, List.take_succ_eq_append_getElem hl2, hh.out, show la[k] = lb[k] by simpa using h1]), rfl⟩
      · go_wp2
        go_ret
        have ek : k = n := by omega
        subst ek
        have h2 := hh.out
        have E1 := E1.out
        have E2 := E2.out
        rw [List.take_of_length_le (by omega), List.take_of_length_le (by omega)] at h2
        exact ⟨ret_bool (by simp [h2]), _, rfl⟩
  · have hne : ((n : Int) != (m : Int)) = true := by simp; omega
    have hr : la ≠ lb := by
      intro e
      have := congrArg List.length e
      rw [E1.out, E2.out] at this
      exact hnm this
    go_enter Tryz.func26, Tryz.ntmps26
    go_wp2
    go_ret
    exact ⟨ret_bool (by simp [hr]), 0, rfl⟩
/-- The last decimal digit of k, as a byte. -/
def dig8 (k : Nat) : UInt8 := UInt8.ofNat (48 + k % 10)
theorem dig8_nat (k : Nat) : (dig8 k).toNat = 48 + k % 10 := by unfold dig8; rw [UInt8.toNat_ofNat']; omega
/-- The decimal digits of k ahead of acc, as the law package writes them (f: fuel). -/
def digM : Nat → Nat → List UInt8 → List UInt8
  | 0, _, acc => acc
  | f + 1, k, acc => if k = 0 then acc else digM f (k / 10) (dig8 k :: acc)
theorem digM_zero (f : Nat) (acc : List UInt8) : digM f 0 acc = acc := by cases f <;> simp [digM]
theorem digM_step (f k : Nat) (acc : List UInt8) (hk : 0 < k) (hf : k ≤ f) : ∃ g, k / 10 ≤ g ∧ digM f k acc = digM g (k / 10) (dig8 k :: acc) := by
  cases f with
  | zero => omega
  | succ f => exact ⟨f, by omega, by rw [digM, if_neg (by omega)]⟩
/-- The mark of number k. -/
def markL (k : Nat) : List UInt8 := if k = 0 then [109, 48] else 109 :: digM k k []
end Go.Proofs.YtihaopijnkiafaaGreatDoor
