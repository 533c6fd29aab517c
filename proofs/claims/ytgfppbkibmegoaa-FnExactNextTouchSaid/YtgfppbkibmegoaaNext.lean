/- Contract of NextTouch in the reference. No conditions beyond those stated. -/
import Derived.Test.YtgfppbkibmegoaaTurn
import Derived.Test.YtgfppbkibmegoaaBytes
import Derived.Test.YtgfppbkibmegoaaShStr
set_option linter.unusedVariables false
set_option linter.unusedSimpArgs false
set_option maxRecDepth 100000
namespace Go.Proofs.Ytgfppbkibmegoaa
open Go.RowKit

theorem u8_of (x : UInt8) (n : UInt8) (h : ((x.toNat : Int) == (n.toNat : Int)) = true) : x = n := by
  have h' : (x.toNat : Int) = n.toNat := by simpa using h
  exact UInt8.toNat_inj.1 (by omega)
theorem u8_ne (x : UInt8) (n : UInt8) (h : ((x.toNat : Int) == (n.toNat : Int)) = false) : x ≠ n := by
  rintro rfl
  simp at h
/-- The successor of a touch, found from its last call down: i is how many calls are left to look at, all behind them being s. -/
def nextFrom (l : List UInt8) : Nat → List UInt8 × Bool
  | 0 => ([], false)
  | i + 1 => if l.getD i 0 = 98 then (l.take i ++ 112 :: List.replicate (l.length - 1 - i) 98, true)
             else if l.getD i 0 = 112 then (l.take i ++ 115 :: List.replicate (l.length - 1 - i) 98, true)
             else nextFrom l i
def nextTouchR (l : List UInt8) : List UInt8 × Bool := if goodTouch l = true then nextFrom l l.length else ([], false)
theorem nextTouchR_bad (l : List UInt8) (h : goodTouch l = false) : nextTouchR l = ([], false) := if_neg (by simp [h])
theorem nextTouchR_yes (l : List UInt8) (h : goodTouch l = true) : nextTouchR l = nextFrom l l.length := if_pos h

def curN (l : List UInt8) (j : Nat) : List UInt8 := l.take j ++ List.replicate (l.length - j) 98
theorem curN_all (l : List UInt8) : curN l l.length = l := by simp [curN]
theorem curN_len (l : List UInt8) (j : Nat) (h : j ≤ l.length) : (curN l j).length = l.length := by simp [curN]; omega
theorem curN_at (l : List UInt8) (j : Nat) (h : j + 1 ≤ l.length) : (curN l (j + 1))[j]? = some (l.getD j 0) := by
  rw [curN, List.getElem?_append_left (by simp; omega), List.getElem?_take, if_pos (by omega), List.getD_eq_getElem?_getD, List.getElem?_eq_getElem (by omega)]
  rfl
theorem curN_set (l : List UInt8) (j : Nat) (b : UInt8) (h : j + 1 ≤ l.length) : (curN l (j + 1)).set j b = l.take j ++ b :: List.replicate (l.length - 1 - j) 98 := by
  rw [curN, List.take_succ_eq_append_getElem (by omega), List.append_assoc, List.set_append, if_neg (by simp; omega)]
  have e : j - (l.take j).length = 0 := by simp; omega
  rw [e, show l.length - (j + 1) = l.length - 1 - j by omega]
  rfl
theorem curN_down (l : List UInt8) (j : Nat) (h : j + 1 ≤ l.length) : (curN l (j + 1)).set j 98 = curN l j := by
  rw [curN_set l j 98 h, curN, show l.length - j = (l.length - 1 - j) + 1 by omega, List.replicate_succ]
theorem specNextTouch_any (l : List UInt8) (w : World) (hl : l.length ≤ 1048576) :
    Calls Try.prog 38 #[.string (bs l)] w fun e w' => e = .returned (.tuple #[.string (bs (nextTouchR l).1), .bool (nextTouchR l).2]) ∧ Below w.heap.size w w' := by
  cases hg : goodTouch l
  · have hr := hid (nextTouchR_bad l hg)
    go_enter Try.func38, Try.ntmps38
    go_wp2_with (go_at_call 44; refine (l9Good_any _ _ (by omega)).mono ?_; rintro e w' ⟨rfl, rfl⟩)
    go_ret2
    rw [hr.out]
    exact ⟨rfl, Below.refl _ _⟩
  · have hr := hid (nextTouchR_yes l hg)
    have hlen := (goodTouch_len hg).2
    have h1 := (goodTouch_len hg).1
    obtain ⟨c, W, hcv, hrow, hbel, hsz, hcap⟩ := row_of_string (P := Try.prog) w 9 57 5 l Try.underlying9 Try.underlying57 Try.underlying5
    have hrow' := hid hrow
    have hsz' := hid hsz
    clear hrow hsz
    go_enter Try.func38, Try.ntmps38
    go_wp2_with (go_at_call 44; refine (l9Good_any _ _ (by omega)).mono ?_; rintro e w' ⟨rfl, rfl⟩)
    go_loopg [5] l.length (fun gk u wr => ∃ j : Nat, j ≤ l.length ∧ gk = j ∧ u = .int .i64 ((j : Int) - 1) ∧ Hid (nextFrom l j = nextTouchR l) ∧ Row wr w.heap.size (bytesV (curN l j)) ∧ Below w.heap.size w wr)
    case atStart => exact ⟨l.length, by omega, rfl, rfl, hr.out.symm, by rw [curN_all]; exact hrow'.out, hbel⟩
    case round =>
      obtain ⟨j, hj, rfl, rfl, hh, hro, hb⟩ := hrel
      rcases gk with _ | j
      · go_wp2
        go_ret2
        rw [← hh.out]
        exact ⟨rfl, hb⟩
      · have e : ((j + 1 : Nat) : Int) - 1 = j := by omega
        rw [e]
        have hjl : j < (bytesV (curN l (j + 1))).length := by rw [bytesV_len, curN_len l _ hj]; omega
        have hcc := hro.cell hjl
        have hff := hro.frozen hjl
        rw [bytesV_at] at hcc
        have hat : (curN l (j + 1))[j]'(by rw [curN_len l _ hj]; omega) = l.getD j 0 := by
          have := curN_at l j hj
          rw [List.getElem?_eq_getElem (by rw [curN_len l _ hj]; omega)] at this
          exact Option.some.inj this
        rw [hat] at hcc
        have hj0 : (0 : Int) ≤ (j : Int) := by omega
        have hj1 : (j : Int) < (l.length : Int) := by omega
        have hb' := hid hb
        have hro' := hid hro
        obtain ⟨x, hx⟩ : ∃ x, x = l.getD j 0 := ⟨_, rfl⟩
        rw [← hx] at hcc
        have HX := hid hx
        clear hx
        have hst : ∀ b : UInt8, (convert 57 9 (.slice (some ⟨w.heap.size, 0, none⟩) l.length c)).run Try.prog (wr.setCell ⟨w.heap.size, j, none⟩ (.int .u8 (b.toNat : Int))) = .ok (.string (bs (l.take j ++ b :: List.replicate (l.length - 1 - j) 98))) (wr.setCell ⟨w.heap.size, j, none⟩ (.int .u8 (b.toNat : Int))) := by
          intro b
          have := hro.set_ hjl (.int .u8 (b.toNat : Int))
          rw [bytesV_set] at this
          have h2 := string_of_row (P := Try.prog) _ 57 9 5 w.heap.size c _ Try.underlying57 Try.underlying5 Try.underlying9 this
          rw [List.length_set, curN_len l _ hj, curN_set l j b hj] at h2
          exact h2
        have hs1 : (convert 57 9 (.slice (some ⟨w.heap.size, 0, none⟩) l.length c)).run Try.prog (wr.setCell ⟨w.heap.size, j, none⟩ (.int .u8 112)) = .ok (.string (bs (l.take j ++ 112 :: List.replicate (l.length - 1 - j) 98))) (wr.setCell ⟨w.heap.size, j, none⟩ (.int .u8 112)) := hst 112
        have hs2 : (convert 57 9 (.slice (some ⟨w.heap.size, 0, none⟩) l.length c)).run Try.prog (wr.setCell ⟨w.heap.size, j, none⟩ (.int .u8 115)) = .ok (.string (bs (l.take j ++ 115 :: List.replicate (l.length - 1 - j) 98))) (wr.setCell ⟨w.heap.size, j, none⟩ (.int .u8 115)) := hst 115
        clear hst hb hro hat
        have hjl' := hid hjl
        clear hjl
        go_wp2
        · have h98 : ((x.toNat : Int) == 98) = true := by assumption
          go_ret2
          have e1 : l.getD j 0 = 98 := by rw [← HX.out]; exact u8_of _ 98 h98
          rw [← hh.out, nextFrom, if_pos e1]
          exact ⟨rfl, hb'.out.setCell (Nat.le_refl _) _⟩
        · have h98 : ((x.toNat : Int) == 98) = false := by assumption
          have h112 : ((x.toNat : Int) == 112) = true := by assumption
          go_ret2
          have e1 : ¬ l.getD j 0 = 98 := by rw [← HX.out]; exact u8_ne _ 98 h98
          have e2 : l.getD j 0 = 112 := by rw [← HX.out]; exact u8_of _ 112 h112
          rw [← hh.out, nextFrom, if_neg e1, if_pos e2]
          exact ⟨rfl, hb'.out.setCell (Nat.le_refl _) _⟩
        · have h98 : ((x.toNat : Int) == 98) = false := by assumption
          have h112 : ((x.toNat : Int) == 112) = false := by assumption
          go_roundg j
          case measure => omega
          case rel =>
            have e1 : ¬ l.getD j 0 = 98 := by rw [← HX.out]; exact u8_ne _ 98 h98
            have e2 : ¬ l.getD j 0 = 112 := by rw [← HX.out]; exact u8_ne _ 112 h112
            have hset := hro'.out.set_ hjl'.out (.int .u8 (((98 : UInt8).toNat : Nat) : Int))
            rw [bytesV_set, curN_down l j hj] at hset
            exact ⟨j, by omega, rfl, rfl, hid (by rw [← hh.out, nextFrom, if_neg e1, if_neg e2]), hset, hb'.out.setCell (Nat.le_refl _) _⟩

theorem add_bs (a b : List UInt8) (h : a.length + b.length ≤ 1000000000) : ∀ W, (Op.stringOp .add (bs a) (bs b)).run Try.prog W = .ok (.string (bs (a ++ b))) W := fun W => by
  rw [← bs_append]
  exact run_string_add_sum W (bs a) (bs b) (by rw [bs_size, bs_size]; omega)
theorem repL_one (b : UInt8) (k : Nat) : repL [b] k = List.replicate k b := by
  induction k with
  | zero => rfl
  | succ k ih => rw [show repL [b] (k + 1) = [b] ++ repL [b] k by simp [repL, List.replicate_succ], ih]; rfl
theorem callB_cases {b : UInt8} (h : callB b = true) : b = 112 ∨ b = 98 ∨ b = 115 := by
  simp only [callB, Bool.or_eq_true, beq_iff_eq] at h
  rcases h with (h | h) | h
  · exact .inl h
  · exact .inr (.inl h)
  · exact .inr (.inr h)

theorem implNextTouch_any (l : List UInt8) (w : World) (hl : l.length ≤ 1048576) :
    Calls Try.prog 39 #[.string (bs l)] w fun e w' => e = .returned (.tuple #[.string (bs (nextTouchR l).1), .bool (nextTouchR l).2]) ∧ Below w.heap.size w w' := by
  cases hg : goodTouch l
  · have hr := hid (nextTouchR_bad l hg)
    go_enter Try.func39, Try.ntmps39
    go_wp2_with (go_at_call 15; refine (implGoodTouch_any _ _ (by omega)).mono ?_; rintro e w' ⟨rfl, rfl⟩)
    go_ret2
    rw [hr.out]
    exact ⟨rfl, Below.refl _ _⟩
  · have hr := hid (nextTouchR_yes l hg)
    have hlen := (goodTouch_len hg).2
    have h1 := (goodTouch_len hg).1
    have hall := hid (goodTouch_all hg)
    go_enter Try.func39, Try.ntmps39
    go_wp2_with (go_at_call 15; refine (implGoodTouch_any _ _ (by omega)).mono ?_; rintro e w' ⟨rfl, rfl⟩)
    go_loopg [4] l.length (fun gk u wr => ∃ j : Nat, j ≤ l.length ∧ gk = j ∧ u = .int .i64 ((j : Int) - 1) ∧ Hid (nextFrom l j = nextTouchR l) ∧ w = wr)
    case atStart => exact ⟨l.length, by omega, rfl, rfl, hr.out.symm, rfl⟩
    case round =>
      obtain ⟨j, hj, rfl, rfl, hh, rfl⟩ := hrel
      rcases gk with _ | j
      · go_wp2
        go_ret2
        rw [← hh.out]
        exact ⟨rfl, Below.refl _ _⟩
      · have e : ((j + 1 : Nat) : Int) - 1 = j := by omega
        rw [e]
        have hjl : j < l.length := hj
        have hx : callB l[j] = true := List.all_eq_true.1 hall.out l[j] (List.getElem_mem hjl)
        have hd : l.getD j 0 = l[j] := by simp [List.getD_eq_getElem?_getD, List.getElem?_eq_getElem hjl]
        have hi1 : (j : Int) ≤ (l.length : Int) := by omega
        have hw2 := IntWalk.i64_in ((l.length : Int) - 1) (by omega)
        have hw3 := IntWalk.i64_in ((l.length : Int) - 1 - (j : Int)) (by omega)
        rcases callB_cases hx with hx | hx | hx
        · have hin : Lib.indexByte [98, 112, 115] l[j] = 1 := by rw [hx]; decide
          have hd2 : nextFrom l (j + 1) = (l.take j ++ 115 :: List.replicate (l.length - 1 - j) 98, true) := by
            rw [nextFrom, if_neg (by rw [hd, hx]; decide), if_pos (by rw [hd, hx])]
          have hd2 := hid hd2
          have hrl : (repL [98] (l.length - 1 - j)).length ≤ 60 := by rw [repL_one, List.length_replicate]; omega
          have htl : (l.take j).length ≤ 60 := by rw [List.length_take]; omega
          have ha1 := add_bs (l.take j) [115] (by simp; omega)
          have ha2 := add_bs (l.take j ++ [115]) (repL [98] (l.length - 1 - j)) (by rw [List.length_append]; simp at htl ⊢; omega)
          have hwa := IntWalk.i64_in 2 (by omega)
          have hwb := IntWalk.i64_in 3 (by omega)
          clear hx hd
          go_wp2_with (go_at_call 60; refine (indexByte_any _ l[j] _).mono ?_; rintro e w' ⟨rfl, rfl⟩)
          go_region_held3 (fun _ => True) (trivial) (first | (go_at_call 61; refine (repeat_any [98] _ (l.length - 1 - j) _ (by omega) (by omega) (by simp)).mono ?_; rintro e w1 ⟨rfl, hb1⟩))
          go_wp2
          go_ret2
          rw [← hh.out, hd2.out]
          exact ⟨ret_sb (by rw [repL_one]) rfl, (Below.refl _ _).drew.trans hb1⟩
        · have hin : Lib.indexByte [98, 112, 115] l[j] = 0 := by rw [hx]; decide
          have hd2 : nextFrom l (j + 1) = (l.take j ++ 112 :: List.replicate (l.length - 1 - j) 98, true) := by
            rw [nextFrom, if_pos (by rw [hd, hx])]
          have hd2 := hid hd2
          have hrl : (repL [98] (l.length - 1 - j)).length ≤ 60 := by rw [repL_one, List.length_replicate]; omega
          have htl : (l.take j).length ≤ 60 := by rw [List.length_take]; omega
          have ha1 := add_bs (l.take j) [112] (by simp; omega)
          have ha2 := add_bs (l.take j ++ [112]) (repL [98] (l.length - 1 - j)) (by rw [List.length_append]; simp at htl ⊢; omega)
          have hwa := IntWalk.i64_in 1 (by omega)
          have hwb := IntWalk.i64_in 2 (by omega)
          clear hx hd
          go_wp2_with (go_at_call 60; refine (indexByte_any _ l[j] _).mono ?_; rintro e w' ⟨rfl, rfl⟩)
          go_region_held3 (fun _ => True) (trivial) (first | (go_at_call 61; refine (repeat_any [98] _ (l.length - 1 - j) _ (by omega) (by omega) (by simp)).mono ?_; rintro e w1 ⟨rfl, hb1⟩))
          go_wp2
          go_ret2
          rw [← hh.out, hd2.out]
          exact ⟨ret_sb (by rw [repL_one]) rfl, (Below.refl _ _).drew.trans hb1⟩
        · have hin : Lib.indexByte [98, 112, 115] l[j] = 2 := by rw [hx]; decide
          have hd2 : nextFrom l (j + 1) = nextFrom l j := by
            rw [nextFrom, if_neg (by rw [hd, hx]; decide), if_neg (by rw [hd, hx]; decide)]
          have hd2 := hid hd2
          clear hx hd
          go_wp2_with (go_at_call 60; refine (indexByte_any _ l[j] _).mono ?_; rintro e w' ⟨rfl, rfl⟩)
          go_roundg j
          case measure => omega
          case rel => exact ⟨j, by omega, rfl, rfl, hid (by rw [← hh.out, hd2.out]), rfl⟩
end Go.Proofs.Ytgfppbkibmegoaa
