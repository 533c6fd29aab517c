/- Contracts of the functions that find the least rotation of a touch, in the reference and in the program. No conditions beyond those stated. -/
import Derived.Test.YtgfppbkibmegoaaTurn
set_option linter.unusedVariables false
set_option linter.unusedSimpArgs false
namespace Go.Proofs.Ytgfppbkibmegoaa
open Go.RowKit

def rot (l : List UInt8) (n : Nat) : List UInt8 := l.drop n ++ l.take n
/-- The least of a touch and its first k rotations. -/
def leastTo (l : List UInt8) (k : Nat) : List UInt8 := (List.range k).foldl (fun b n => minS b (rot l n)) l
theorem leastTo_succ (l : List UInt8) (k : Nat) : leastTo l (k + 1) = minS (leastTo l k) (l.drop k ++ l.take k) := by simp [leastTo, List.range_succ, rot]

theorem leastTo_callB (l : List UInt8) (hc : l.all callB = true) (k : Nat) (h : k < l.length) : l[k].toNat < 128 := by
  have := List.all_eq_true.1 hc l[k] (List.getElem_mem h)
  simp [callB] at this
  rcases this with (h | h) | h <;> rw [h] <;> decide
theorem minS_yes {a b : List UInt8} (h : Op.bytesLess b a = true) : minS a b = b := if_pos h
theorem minS_no {a b : List UInt8} (h : Op.bytesLess b a = false) : minS a b = a := if_neg (by simp [h])

theorem l9Least_any (l : List UInt8) (w : World) (hl : l.length ≤ 60) (hc : l.all callB = true) :
    Calls Try.prog 54 #[.string (bs l)] w fun e w' => e = .returned (.string (bs (leastTo l l.length))) ∧ Below w.heap.size w w' := by
  have hc' := hid hc
  clear hc
  go_enter Try.func54, Try.ntmps54
  go_wp2
  go_loopg [3] l.length (fun gk v wr => ∃ k m : Nat, k + gk = l.length ∧ v = .string (bs (leastTo l k)) ∧ wr = (w.iter (bs l) k).drewN m)
  case atStart => exact ⟨0, 0, by omega, rfl, rfl⟩
  case round =>
    obtain ⟨k, m, hk, rfl, rfl⟩ := hrel
    by_cases hlt : k < l.length
    · have hn : ∀ ty, (Instr.next (.pointer (some ⟨w.heap.size, 0, none⟩)) true ty).run Try.prog ((w.iter (bs l) k).drewN m) = .ok (.tuple #[.bool true, .int .i64 k, .int .i32 l[k].toNat]) ((w.iter (bs l) (k + 1)).drewN m) :=
        fun ty => run_next_ascii (w.drewN m) (bs l) k ty (by rw [bs_size]; exact hlt) (leastTo_callB l hc'.out k hlt)
      have hk' := hid hk
      clear hk
      go_wp2_with (go_at_call 47; refine (l9Turn_any _ _ _ (by omega) (by omega) (by omega)).mono ?_; rintro e w' ⟨rfl, nq1, rfl⟩)
      · have h1 : Op.bytesLess (List.drop k l ++ List.take k l) (leastTo l k) = true := by assumption
        have hk := hk'.out
        go_roundg (gk - 1)
        case measure => omega
        case rel => exact ⟨k + 1, _, by omega, by rw [leastTo_succ, minS_yes h1], rfl⟩
      · have h1 : Op.bytesLess (List.drop k l ++ List.take k l) (leastTo l k) = false := by assumption
        have hk := hk'.out
        go_roundg (gk - 1)
        case measure => omega
        case rel => exact ⟨k + 1, _, by omega, by rw [leastTo_succ, minS_no h1], rfl⟩
    · have hn : ∀ ty, (Instr.next (.pointer (some ⟨w.heap.size, 0, none⟩)) true ty).run Try.prog ((w.iter (bs l) k).drewN m) = .ok (.tuple #[.bool false]) ((w.iter (bs l) k).drewN m) :=
        fun ty => run_next_end (w.drewN m) (bs l) k ty (by rw [bs_size]; exact hlt)
      have hkl := hid (show k = l.length by omega)
      clear hk
      go_wp2
      go_ret
      have := hkl.out
      subst this
      exact ⟨rfl, below_drewN ((Below.refl _ _).alloc (Nat.le_refl _) _) _⟩

theorem leastTurn_no (l : List UInt8) (w : World) (hl : l.length ≤ 60) :
    Calls Try.prog 55 #[.string (bs l), .bool false] w fun e w' => e = .returned (.string (bs (leastTo l l.length))) ∧ ∃ m, w' = w.drewN m := by
  go_enter Try.func55, Try.ntmps55
  go_wp2
  go_loopg [5, 10] l.length (fun gk v i wr => ∃ k m : Nat, k + gk = l.length ∧ i = .int .i64 k ∧ v = .string (bs (leastTo l k)) ∧ wr = w.drewN m)
  case atStart => exact ⟨0, 0, by omega, rfl, rfl, rfl⟩
  case round =>
    obtain ⟨k, m, hk, rfl, rfl, rfl⟩ := hrel
    have hk' := hid hk
    by_cases hlt : k < l.length
    · clear hk
      go_wp2
      go_quiet (fail)
      go_wp2
      have hk := hk'.out
      go_roundg (gk - 1)
      case measure => omega
      case rel => exact ⟨k + 1, _, by omega, by go_num, by rw [leastTo_succ], rfl⟩
    · have hkl := hid (show k = l.length by omega)
      clear hk
      go_wp2
      go_ret
      have := hkl.out
      subst this
      exact ⟨rfl, _, rfl⟩

theorem leastTurn_yes (l : List UInt8) (w : World) (hl : l.length ≤ 60) (h1 : 1 ≤ l.length) :
    Calls Try.prog 55 #[.string (bs l), .bool true] w fun e w' => e = .returned (.string (bs (minS (leastTo l l.length) (leastTo (rev1 l) (rev1 l).length)))) ∧ ∃ m, w' = w.drewN m := by
  have hrl : (rev1 l).length = l.length := by simp [rev1]
  have hrl' : (rev1 l).length ≤ 60 := by omega
  clear hrl
  go_enter Try.func55, Try.ntmps55
  go_wp2
  go_loopg [5, 10] l.length (fun gk v i wr => ∃ k m : Nat, k + gk = l.length ∧ i = .int .i64 k ∧ v = .string (bs (leastTo l k)) ∧ wr = w.drewN m)
  case atStart => exact ⟨0, 0, by omega, rfl, rfl, rfl⟩
  case round =>
    obtain ⟨k, m, hk, rfl, rfl, rfl⟩ := hrel
    have hk' := hid hk
    by_cases hlt : k < l.length
    · clear hk
      go_wp2
      go_quiet (fail)
      go_wp2
      have hk := hk'.out
      go_roundg (gk - 1)
      case measure => omega
      case rel => exact ⟨k + 1, _, by omega, by go_num, by rw [leastTo_succ], rfl⟩
    · have hkl := hid (show k = l.length by omega)
      clear hk
      go_wp2_with (first
        | (go_at_call 50; refine (backwards_any _ _ (by omega) h1).mono ?_; rintro e w' ⟨rfl, rfl⟩)
        | (go_at_call 55; refine (leastTurn_no _ _ hrl').mono ?_; rintro e w' ⟨rfl, nq1, rfl⟩))
      have := hkl.out
      subst this
      go_ret
      exact ⟨rfl, _, rfl⟩

/-- What LeastTurn answers. -/
def leastTurnR (l : List UInt8) (both : Bool) : List UInt8 × Bool :=
  if goodTouch l = true then (if both then minS (leastTo l l.length) (leastTo (rev1 l) (rev1 l).length) else leastTo l l.length, true) else ([], false)
theorem leastTurnR_bad (l : List UInt8) (b : Bool) (hg : goodTouch l = false) : leastTurnR l b = ([], false) := if_neg (by simp [hg])
theorem leastTurnR_no (l : List UInt8) (hg : goodTouch l = true) : leastTurnR l false = (leastTo l l.length, true) := by simp [leastTurnR, hg]
theorem leastTurnR_yes (l : List UInt8) (hg : goodTouch l = true) : leastTurnR l true = (minS (leastTo l l.length) (leastTo (rev1 l) (rev1 l).length), true) := by simp [leastTurnR, hg]
theorem rev1_all (l : List UInt8) (hc : l.all callB = true) : (rev1 l).all callB = true := by
  rw [List.all_eq_true] at hc ⊢
  intro x hx
  apply hc
  rw [rev1, List.mem_append, List.mem_reverse] at hx
  rcases hx with h | h
  · exact List.mem_of_mem_take h
  · exact List.mem_of_mem_drop h

theorem implLeastTurn_any (l : List UInt8) (b : Bool) (w : World) (hl : l.length ≤ 1048576) :
    Calls Try.prog 25 #[.string (bs l), .bool b] w fun e w' => e = .returned (.tuple #[.string (bs (leastTurnR l b).1), .bool (leastTurnR l b).2]) ∧ ∃ m, w' = w.drewN m := by
  cases hg : goodTouch l
  · have hr := hid (leastTurnR_bad l b hg)
    go_enter Try.func25, Try.ntmps25
    go_wp2_with (go_at_call 15; refine (implGoodTouch_any _ _ (by omega)).mono ?_; rintro e w' ⟨rfl, rfl⟩)
    go_ret2
    rw [hr.out]
    exact ⟨rfl, 0, rfl⟩
  · have hlen := goodTouch_len hg
    have hl2 := hlen.2
    have hl1 := hlen.1
    cases b
    · have hr := hid (leastTurnR_no l hg)
      go_enter Try.func25, Try.ntmps25
      go_wp2_with (first
        | (go_at_call 15; refine (implGoodTouch_any _ _ (by omega)).mono ?_; rintro e w' ⟨rfl, rfl⟩)
        | (go_at_call 55; refine (leastTurn_no _ _ hl2).mono ?_; rintro e w' ⟨rfl, nq1, rfl⟩))
      go_ret2
      rw [hr.out]
      exact ⟨rfl, _, rfl⟩
    · have hr := hid (leastTurnR_yes l hg)
      go_enter Try.func25, Try.ntmps25
      go_wp2_with (first
        | (go_at_call 15; refine (implGoodTouch_any _ _ (by omega)).mono ?_; rintro e w' ⟨rfl, rfl⟩)
        | (go_at_call 55; refine (leastTurn_yes _ _ hl2 hl1).mono ?_; rintro e w' ⟨rfl, nq1, rfl⟩))
      go_ret2
      rw [hr.out]
      exact ⟨rfl, _, rfl⟩

theorem specLeastTurn_any (l : List UInt8) (b : Bool) (w : World) (hl : l.length ≤ 1048576) :
    Calls Try.prog 24 #[.string (bs l), .bool b] w fun e w' => e = .returned (.tuple #[.string (bs (leastTurnR l b).1), .bool (leastTurnR l b).2]) ∧ Below w.heap.size w w' := by
  cases hg : goodTouch l
  · have hr := hid (leastTurnR_bad l b hg)
    go_enter Try.func24, Try.ntmps24
    go_wp2_with (go_at_call 44; refine (l9Good_any _ _ (by omega)).mono ?_; rintro e w' ⟨rfl, rfl⟩)
    go_ret2
    rw [hr.out]
    exact ⟨rfl, Below.refl _ _⟩
  · have hlen := goodTouch_len hg
    have hl2 := hlen.2
    have hl1 := hlen.1
    have hc := goodTouch_all hg
    have hrl : (rev1 l).length ≤ 60 := by simp [rev1]; omega
    have hrc := rev1_all l hc
    have hc' := hid hc
    have hrc' := hid hrc
    clear hc hrc
    cases b
    · have hr := hid (leastTurnR_no l hg)
      go_enter Try.func24, Try.ntmps24
      go_wp2_with (first
        | (go_at_call 44; refine (l9Good_any _ _ (by omega)).mono ?_; rintro e w' ⟨rfl, rfl⟩)
        | (go_at_call 49; refine (l9Reverse_any _ _ (by omega) hl1).mono ?_; rintro e w' ⟨rfl, rfl⟩)
        | (go_at_call_of 54 (Value.string (bs l)); refine (l9Least_any _ _ hl2 hc'.out).mono ?_; rintro e w1 ⟨rfl, hb1⟩)
        | (go_at_call_of 54 (Value.string (bs (rev1 l))); refine (l9Least_any _ _ hrl hrc'.out).mono ?_; rintro e w2 ⟨rfl, hb2⟩))
      go_ret2
      rw [hr.out]
      exact ⟨rfl, hb1.trans (hb2.mono hb1.size)⟩
    · have hr := hid (leastTurnR_yes l hg)
      go_enter Try.func24, Try.ntmps24
      go_wp2_with (first
        | (go_at_call 44; refine (l9Good_any _ _ (by omega)).mono ?_; rintro e w' ⟨rfl, rfl⟩)
        | (go_at_call 49; refine (l9Reverse_any _ _ (by omega) hl1).mono ?_; rintro e w' ⟨rfl, rfl⟩)
        | (go_at_call_of 54 (Value.string (bs l)); refine (l9Least_any _ _ hl2 hc'.out).mono ?_; rintro e w1 ⟨rfl, hb1⟩)
        | (go_at_call_of 54 (Value.string (bs (rev1 l))); refine (l9Least_any _ _ hrl hrc'.out).mono ?_; rintro e w2 ⟨rfl, hb2⟩))
      · have h2 : Op.bytesLess (leastTo (rev1 l) (rev1 l).length) (leastTo l l.length) = true := by assumption
        go_ret2
        rw [hr.out, minS_yes h2]
        exact ⟨rfl, hb1.trans (hb2.mono hb1.size)⟩
      · have h2 : Op.bytesLess (leastTo (rev1 l) (rev1 l).length) (leastTo l l.length) = false := by assumption
        go_ret2
        rw [hr.out, minS_no h2]
        exact ⟨rfl, hb1.trans (hb2.mono hb1.size)⟩
end Go.Proofs.Ytgfppbkibmegoaa
