/- Contracts of a list followed by itself backwards, in the reference and in the program. No conditions beyond those stated. -/
import Derived.Test.YtamcopnghjoboaaNotS
import Derived.Test.YtamcopnghjoboaaShelf
set_option linter.unusedVariables false
set_option linter.unusedSimpArgs false
set_option maxRecDepth 100000
namespace Go.Proofs.Ytamcopnghjoboaa
open Go.RowKit

/-- A list, and all its elements but the last in reverse order behind it. -/
def mirL (l : List (List UInt8)) : List (List UInt8) := l ++ (l.take (l.length - 1)).reverse
theorem mirL_len (l : List (List UInt8)) (h : 1 ≤ l.length) : (mirL l).length = l.length + (l.length - 1) := by simp [mirL]
theorem mir_step (l : List (List UInt8)) (i : Nat) (h : i < l.length - 1) (h2 : i < l.length) : ((l.take (l.length - 1)).drop (i + 1)).reverse ++ [l[i]] = ((l.take (l.length - 1)).drop i).reverse := by
  rw [List.drop_eq_getElem_cons (l := l.take (l.length - 1)) (i := i) (by rw [List.length_take]; omega), List.reverse_cons]
  simp
theorem cloneS_any (A : Option Addr) (n c : Nat) (l : List (List UInt8)) (w : World) (hr : Rd w A n (strV l)) (h1 : 1 ≤ n) (hn : n ≤ 1000) :
    Calls Try.prog 23 #[.slice A n c] w fun e w' => ∃ v, e = .returned v ∧ w'.ownsRow w.heap.size 9 1 v n (strV l) ∧ Below w.heap.size w w' := by
  have hl : l.length = n := by have := hr.1; rw [strV_len] at this; exact this
  obtain ⟨b, o, rfl, _, _⟩ := hr.str (show 0 < n by omega)
  refine (Try.slices_Clone_string b o n c (l.map bs) w (by simp; omega) (by omega) (fun j hj => ?_)).mono ?_
  · have hj2 : j < n := by simp at hj; omega
    obtain ⟨b', o', e, hk, hc⟩ := hr.str hj2
    obtain ⟨rfl, rfl⟩ : b = b' ∧ o = o' := by injection e with e; injection e with e1 e2; exact ⟨e1, e2⟩
    rw [hc]
    simp [List.getD, hk]
  · rintro e w' ⟨v, rfl, ho, _, hb⟩
    refine ⟨v, rfl, ?_, hb⟩
    have e2 : ((l.map bs).take n).map Value.string = strV l := by
      rw [List.take_of_length_le (by simp; omega)]; simp [strV]
    rw [e2] at ho
    exact ho
theorem ownS_any (A : Option Addr) (n c : Nat) (l : List (List UInt8)) (w : World) (hr : Rd w A n (strV l)) (hn : n ≤ 1000) :
    Calls Try.prog 20 #[.slice A n c] w fun e w' => ∃ v, e = .returned v ∧ w'.ownsRow w.heap.size 9 1 v n (strV l) ∧ Below w.heap.size w w' := by
  have hl := hid (show l.length = n by have := hr.1; rw [strV_len] at this; exact this)
  go_enter Try.func20, Try.ntmps20
  go_wp2_with (at_builtin; refine app_str _ (by rfl) _ _ (by rfl) w.heap.size _ 0 [] (by rfl) (own_of_blk (Blk.new w 9 #[]) (Nat.le_refl _) (by simp [maxLen])) A n c l (by rfl) (hr.alloc _) (by omega) (by simp) ?_; intro v5 w5 o5 g5)
  go_ret
  rw [Nat.zero_add, List.nil_append] at o5
  exact ⟨_, rfl, o5, ((Below.refl _ _).alloc (Nat.le_refl _) _).grown g5 (by simp) fun q hq => by simp [Value.ownBlock] at hq; omega⟩
set_option maxHeartbeats 2000000 in
theorem l3Mirror_any (A : Option Addr) (n c : Nat) (l : List (List UInt8)) (w : World) (hr : Rd w A n (strV l)) (h1 : 1 ≤ n) (hn : n ≤ 1000) :
    Calls Try.prog 14 #[.slice A n c] w fun e w' => ∃ v, e = .returned v ∧ w'.ownsRow w.heap.size 9 1 v (n + (n - 1)) (strV (mirL l)) ∧ Below w.heap.size w w' := by
  have hl := hid (show l.length = n by have := hr.1; rw [strV_len] at this; exact this)
  have GO := hid (fun w0 (rd : Rd w0 A n (strV l)) => ownS_any A n c l w0 rd hn)
  have RS := hid hr
  obtain ⟨m, hm⟩ : ∃ m, n = m + 1 := ⟨n - 1, by omega⟩
  have hc1 := hid (show (n : Int) - 2 = (m : Int) - 1 by omega)
  have hw0 := hid (IntWalk.i64_in ((m : Int) - 1) (by omega))
  have hw00 := hid (show wrap64 ((m : Int) - 1) = (m : Int) - 1 by unfold wrap64; omega)
  have hw2 := hid ((IntWalk.i64_in ((n : Int) - 2) (by omega)).trans hc1.out)
  have hw3 := hid (show wrap64 ((n : Int) - 2) = (m : Int) - 1 by unfold wrap64; omega)
  have HM := hid hm
  clear hr hm
  go_enter Try.func14, Try.ntmps14
  go_wp2_with fail
  refine (GO.out _ RS.out).mono ?_
  rintro e w1 ⟨v1, rfl, o1, b1⟩
  obtain ⟨A1, c1, rfl, _⟩ := own_shape o1
  have O1 := hid o1
  have B1 := hid b1
  clear o1 b1
  have hw1 := hc1.out
  have hw4 := hw2.out
  have hw5 := hw3.out
  go_wp2
  clear hw1 hw4 hw5
  go_loopg [3, 4] m (fun gk u v wr => ∃ i : Nat, i ≤ m ∧ i = gk ∧ v = .int .i64 ((i : Int) - 1) ∧ wr.ownsRow w.heap.size 9 1 u (n + (m - i)) (strV (l ++ ((l.take (l.length - 1)).drop i).reverse)) ∧ Below w.heap.size w wr)
  case atStart => exact ⟨m, by omega, by omega, rfl, by
    rw [List.drop_of_length_le (by rw [List.length_take, hl.out, HM.out]; omega), Nat.sub_self, Nat.add_zero, List.reverse_nil, List.append_nil]; exact O1.out, B1.out⟩
  case round =>
    obtain ⟨i, him, rfl, rfl, ho, hb⟩ := hrel
    by_cases hlt : 0 < i
    · obtain ⟨k, rfl⟩ : ∃ k, i = k + 1 := ⟨i - 1, by omega⟩
      have hnm := HM.out
      have hkn : k < n := by omega
      obtain ⟨b, o, rfl, hk', hc⟩ := (RS.out.below hb).str hkn
      have hst := hid (mir_step l k (by rw [hl.out]; omega) hk')
      obtain ⟨X, hX⟩ : ∃ X, X = l[k] := ⟨_, rfl⟩
      rw [← hX] at hc hst
      have j0 : (0 : Int) ≤ (k : Int) := by omega
      have j1 : (k : Int) < (n : Int) := by omega
      have hcast : (((k + 1 : Nat) : Int)) - 1 = (k : Int) := by omega
      have hwk := IntWalk.i64_in ((k : Int) - 1) (by omega)
      have HO := hid ho
      have HB := hid hb
      have hlim : n + (m - (k + 1)) + 1 ≤ 1000000000000 := by omega
      have hkm := hid (show k ≤ m by omega)
      have hlen := hid (show n + (m - (k + 1)) + 1 = n + (m - k) by omega)
      rw [hcast]
      clear ho hb hX hnm hcast him
      go_wp2_with (at_builtin; refine app_str _ (by rfl) _ _ (by rfl) w.heap.size _ _ _ (by rfl) (HO.out.alloc _) (some ⟨wr.heap.size, 0, none⟩) 1 1 [X] (by rfl) (Rd.blk _ [.string (bs X)] _) hlim (by have := HB.out.size; simp; omega) ?_; intro v5 w5 o5 g5)
      go_roundg k
      case measure => omega
      case rel =>
        rw [List.append_assoc, hst.out, hlen.out] at o5
        exact ⟨k, hkm.out, rfl, by go_num, o5, (HB.out.alloc HB.out.size _).grown g5 (by have := HB.out.size; simp; omega) fun q hq => (HO.out.lt q hq).1⟩
    · obtain rfl : i = 0 := by omega
      have hsub : m - 0 = n - 1 := by have := HM.out; omega
      rw [hsub, List.drop_zero] at ho
      have HO := hid ho
      have HB := hid hb
      clear ho hb hsub
      go_wp2
      go_ret
      exact ⟨_, rfl, HO.out, HB.out⟩
set_option maxHeartbeats 2000000 in
theorem mirrored_any (A : Option Addr) (n c : Nat) (l : List (List UInt8)) (w : World) (hr : Rd w A n (strV l)) (h1 : 1 ≤ n) (hn : n ≤ 1000) :
    Calls Try.prog 17 #[.slice A n c] w fun e w' => ∃ v, e = .returned v ∧ w'.ownsRow w.heap.size 9 1 v (n + (n - 1)) (strV (mirL l)) ∧ Below w.heap.size w w' := by
  have hl := hid (show l.length = n by have := hr.1; rw [strV_len] at this; exact this)
  have GO := hid (fun w0 (rd : Rd w0 A n (strV l)) => cloneS_any A n c l w0 rd h1 hn)
  have RS := hid hr
  obtain ⟨m, hm⟩ : ∃ m, n = m + 1 := ⟨n - 1, by omega⟩
  have hc1 := hid (show (n : Int) - 2 = (m : Int) - 1 by omega)
  have hw0 := hid (IntWalk.i64_in ((m : Int) - 1) (by omega))
  have hw00 := hid (show wrap64 ((m : Int) - 1) = (m : Int) - 1 by unfold wrap64; omega)
  have hw2 := hid ((IntWalk.i64_in ((n : Int) - 2) (by omega)).trans hc1.out)
  have hw3 := hid (show wrap64 ((n : Int) - 2) = (m : Int) - 1 by unfold wrap64; omega)
  have HM := hid hm
  clear hr hm
  go_enter Try.func17, Try.ntmps17
  go_wp2_with fail
  refine (GO.out _ RS.out).mono ?_
  rintro e w1 ⟨v1, rfl, o1, b1⟩
  obtain ⟨A1, c1, rfl, _⟩ := own_shape o1
  have O1 := hid o1
  have B1 := hid b1
  clear o1 b1
  have hw1 := hc1.out
  have hw4 := hw2.out
  have hw5 := hw3.out
  go_wp2
  clear hw1 hw4 hw5
  go_loopg [3, 4] m (fun gk u v wr => ∃ i : Nat, i ≤ m ∧ i = gk ∧ v = .int .i64 ((i : Int) - 1) ∧ wr.ownsRow w.heap.size 9 1 u (n + (m - i)) (strV (l ++ ((l.take (l.length - 1)).drop i).reverse)) ∧ Below w.heap.size w wr)
  case atStart => exact ⟨m, by omega, by omega, rfl, by
    rw [List.drop_of_length_le (by rw [List.length_take, hl.out, HM.out]; omega), Nat.sub_self, Nat.add_zero, List.reverse_nil, List.append_nil]; exact O1.out, B1.out⟩
  case round =>
    obtain ⟨i, him, rfl, rfl, ho, hb⟩ := hrel
    by_cases hlt : 0 < i
    · obtain ⟨k, rfl⟩ : ∃ k, i = k + 1 := ⟨i - 1, by omega⟩
      have hnm := HM.out
      have hkn : k < n := by omega
      obtain ⟨b, o, rfl, hk', hc⟩ := (RS.out.below hb).str hkn
      have hst := hid (mir_step l k (by rw [hl.out]; omega) hk')
      obtain ⟨X, hX⟩ : ∃ X, X = l[k] := ⟨_, rfl⟩
      rw [← hX] at hc hst
      have j0 : (0 : Int) ≤ (k : Int) := by omega
      have j1 : (k : Int) < (n : Int) := by omega
      have hcast : (((k + 1 : Nat) : Int)) - 1 = (k : Int) := by omega
      have hwk := IntWalk.i64_in ((k : Int) - 1) (by omega)
      have HO := hid ho
      have HB := hid hb
      have hlim : n + (m - (k + 1)) + 1 ≤ 1000000000000 := by omega
      have hkm := hid (show k ≤ m by omega)
      have hlen := hid (show n + (m - (k + 1)) + 1 = n + (m - k) by omega)
      rw [hcast]
      clear ho hb hX hnm hcast him
      go_wp2_with (at_builtin; refine app_str _ (by rfl) _ _ (by rfl) w.heap.size _ _ _ (by rfl) (HO.out.alloc _) (some ⟨wr.heap.size, 0, none⟩) 1 1 [X] (by rfl) (Rd.blk _ [.string (bs X)] _) hlim (by have := HB.out.size; simp; omega) ?_; intro v5 w5 o5 g5)
      go_roundg k
      case measure => omega
      case rel =>
        rw [List.append_assoc, hst.out, hlen.out] at o5
        exact ⟨k, hkm.out, rfl, by go_num, o5, (HB.out.alloc HB.out.size _).grown g5 (by have := HB.out.size; simp; omega) fun q hq => (HO.out.lt q hq).1⟩
    · obtain rfl : i = 0 := by omega
      have hsub : m - 0 = n - 1 := by have := HM.out; omega
      rw [hsub, List.drop_zero] at ho
      have HO := hid ho
      have HB := hid hb
      clear ho hb hsub
      go_wp2
      go_ret
      exact ⟨_, rfl, HO.out, HB.out⟩
end Go.Proofs.Ytamcopnghjoboaa
