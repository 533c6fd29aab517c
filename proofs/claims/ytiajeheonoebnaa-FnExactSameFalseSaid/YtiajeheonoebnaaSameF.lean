/- Contracts of SameFalse, in the reference and in the program. No conditions beyond those stated. -/
import Derived.Test.YtiajeheonoebnaaExpH
set_option linter.unusedVariables false
set_option linter.unusedSimpArgs false
set_option maxRecDepth 100000
namespace Go.Proofs.Ytiajeheonoebnaa
open Go.RowKit

theorem l1SameS_any (A B : Option Addr) (n m ca cb : Nat) (la lb : List (List UInt8)) (w : World) (ha : Rd w A n (strV la)) (hb : Rd w B m (strV lb)) (hn : n ≤ 140737488351232) (hm : m ≤ 140737488351232) :
    Calls Try.prog 80 #[.slice A n ca, .slice B m cb] w fun e w' => e = .returned (.bool (decide (la = lb))) ∧ ∃ k, w' = w.drewN k := by
  have e1 : la.length = n := by have := ha.1; rw [strV_len] at this; exact this
  have e2 : lb.length = m := by have := hb.1; rw [strV_len] at this; exact this
  have E1 := hid e1
  have E2 := hid e2
  clear e1 e2
  by_cases hnm : n = m
  · subst hnm
    go_enter Try.func80, Try.ntmps80
    go_wp2

    go_loopg [13] n (fun gk i wr => ∃ k q : Nat, k ≤ n ∧ gk = n - k ∧ i = .int .i64 k ∧ Hid (la.take k = lb.take k) ∧ wr = w.drewN q)
    case atStart => exact ⟨0, 0, by omega, by omega, rfl, rfl, rfl⟩
    case round =>
      obtain ⟨k, q, hk, rfl, rfl, hh, rfl⟩ := hrel
      by_cases hlt : k < n
      · obtain ⟨b1, o1, rfl, hl1, c1⟩ := ha.str hlt
        obtain ⟨b2, o2, rfl, hl2, c2⟩ := hb.str hlt
        have hi : (k : Int) < (n : Int) := by omega
        go_wp2
        go_quiet (fail)
        go_wp2
        · have h1 : (!la[k] == lb[k]) = true := by assumption
          go_ret
          have hr : la ≠ lb := by
            intro e
            subst e
            simp at h1
          exact ⟨ret_bool (by simp [hr]), _, World.drewN_drewN _ _ _⟩
        · have h1 : (!la[k] == lb[k]) = false := by assumption
          go_roundg (n - (k + 1))
          case measure => omega
          case rel => exact ⟨k + 1, _, by omega, rfl, by go_num, hid (by rw [List.take_succ_eq_append_getElem hl1, List.take_succ_eq_append_getElem hl2, hh.out, show la[k] = lb[k] by simpa using h1]), rfl⟩
      · go_wp2
        go_ret
        have ek : k = n := by omega
        subst ek
        have h2 := hh.out
        have E1 := E1.out
        have E2 := E2.out
        rw [List.take_of_length_le (by omega), List.take_of_length_le (by omega)] at h2
        exact ⟨ret_bool (by simp [h2]), _, rfl⟩
  · have hne : ((n : Int) != (m : Int)) = true := by simp; omega
    have hr : la ≠ lb := by
      intro e
      have := congrArg List.length e
      rw [E1.out, E2.out] at this
      exact hnm this
    go_enter Try.func80, Try.ntmps80
    go_wp2
    go_ret
    exact ⟨ret_bool (by simp [hr]), 0, rfl⟩
theorem map_bs_inj {a b : List (List UInt8)} (h : a.map bs = b.map bs) : a = b := by
  induction a generalizing b with
  | nil => cases b with
    | nil => rfl
    | cons x b => cases h
  | cons x a ih => cases b with
    | nil => cases h
    | cons y b =>
      simp only [List.map_cons, List.cons.injEq] at h
      rw [bs_inj h.1, ih h.2]
theorem equalS_any (A B : Option Addr) (n m ca cb : Nat) (la lb : List (List UInt8)) (w : World) (ha : Rd w A n (strV la)) (hb : Rd w B m (strV lb)) (n0 : 0 < n) (m0 : 0 < m) (hn : n ≤ 140737488351232) (hm : m ≤ 140737488351232) :
    Calls Try.prog 81 #[.slice A n ca, .slice B m cb] w fun e w' => e = .returned (.bool (decide (la = lb))) ∧ ∃ k, w' = w.drewN k := by
  have e1 : la.length = n := by have := ha.1; rw [strV_len] at this; exact this
  have e2 : lb.length = m := by have := hb.1; rw [strV_len] at this; exact this
  obtain ⟨b1, o1, rfl, h1⟩ := ha.2 n0
  obtain ⟨b2, o2, rfl, h2⟩ := hb.2 m0
  refine (Try.slices_Equal_string b1 o1 n ca b2 o2 m cb (la.map bs) (lb.map bs) w (by simp; omega) (by simp; omega) (by omega) (by omega) (fun j hj => ?_) (fun j hj => ?_)).mono ?_
  · have hj' : j < la.length := by simpa using hj
    exact h1 j _ (by simp [strV, List.getD, hj'])
  · have hj' : j < lb.length := by simpa using hj
    exact h2 j _ (by simp [strV, List.getD, hj'])
  · rintro e w' ⟨rfl, hq⟩
    refine ⟨ret_bool ?_, hq⟩
    rw [List.take_of_length_le (by simp; omega), List.take_of_length_le (by simp; omega), decide_eq_decide]
    exact ⟨map_bs_inj, fun h => by rw [h]⟩
theorem falseHeadsR_pos {m : Meth} (h : (falseHeadsR m).2 = true) : 0 < (falseHeadsR m).1.length := by
  unfold falseHeadsR at h ⊢
  split
  · rename_i hm
    rw [if_pos hm] at h
    split
    · obtain ⟨N, hN, lo, hi, l1, l40, hs⟩ := meth_parts hm
      have hl : 0 < (leadL (roundsL m.st.toNat) m.ch).length := by rw [lead_len]; omega
      have hq : 0 < (quotL (leadL (roundsL m.st.toNat) m.ch) (leadL (roundsL m.st.toNat) m.ch)).length := by rw [quotL_len]; exact Nat.mul_pos hl hl
      refine List.length_pos_of_mem (a := (quotL (leadL (roundsL m.st.toNat) m.ch) (leadL (roundsL m.st.toNat) m.ch))[0]) ?_
      exact ((setL_prop _).2 _).2 (List.getElem_mem hq)
    · rename_i h2; rw [if_neg h2] at h; cases h
  · rename_i hm; rw [if_neg hm] at h; cases h
/-- What SameFalse answers. -/
def sameFalseR (a b : Meth) : Bool × Bool := if ((falseHeadsR a).2 && (falseHeadsR b).2 && decide (a.st = b.st)) = true then (decide ((falseHeadsR a).1 = (falseHeadsR b).1), true) else (false, false)
set_option maxHeartbeats 2000000 in
theorem specSameFalse_law (a b : Meth) (A B : Option Addr) (n c m d : Nat) (w : World) (oka : LawOk a ([], [])) (okb : LawOk b ([], [])) (ra : Rd w A n (strV a.ch)) (rb : Rd w B m (strV b.ch)) (ca : n ≤ c) (cb : m ≤ d) :
    Calls Try.prog 42 #[.agg #[.string (bs a.nm), .int .i64 a.st, .slice A n c], .agg #[.string (bs b.nm), .int .i64 b.st, .slice B m d]] w fun e w' => e = .returned (.tuple #[.bool (sameFalseR a b).1, .bool (sameFalseR a b).2]) ∧ Below w.heap.size w w' := by
  have G1 := fun (w0 : World) (rd : Rd w0 A n (strV a.ch)) => hid (specFalseHeads_law a A n c w0 oka rd ca)
  have G2 := fun (w0 : World) (rd : Rd w0 B m (strV b.ch)) => hid (specFalseHeads_law b B m d w0 okb rd cb)
  have HN1 := hid (fun h => falseHeadsR_pos (m := a) h)
  have HN2 := hid (fun h => falseHeadsR_pos (m := b) h)
  have hl1 := falseHeadsR_le a
  have hl2 := falseHeadsR_le b
  have HQ := hid (show sameFalseR a b = _ from rfl)
  unfold sameFalseR at HQ
  have RA := hid ra
  have RB := hid rb
  clear ra rb oka okb
  show Calls _ _ _ _ fun e w' => e = .returned (.tuple #[.bool (sameFalseR a b).1, .bool (sameFalseR a b).2]) ∧ Below w.heap.size w w'
  unfold sameFalseR
  clear HQ
  generalize falseHeadsR a = Qa at *
  generalize falseHeadsR b = Qb at *
  obtain ⟨la, oa⟩ := Qa
  obtain ⟨lb, ob⟩ := Qb
  obtain ⟨nm, st, ch⟩ := a
  obtain ⟨nm2, st2, ch2⟩ := b
  dsimp only at *
  by_cases hst : st = st2
  all_goals
    have hne : (st != st2) = !decide (st = st2) := by rw [Bool.eq_iff_iff]; simp
    have HST := hid hst
    first | (rw [decide_eq_true hst] at hne ⊢) | (rw [decide_eq_false hst] at hne ⊢)
    simp only [Bool.not_true, Bool.not_false] at hne
    clear hst
    cases oa <;> cases ob
    all_goals
      simp only [Bool.and_true, Bool.and_false, Bool.false_and, if_true, Bool.false_eq_true, if_false]
      go_enter Try.func42, Try.ntmps42
      go_wp2_with fail
      obtain ⟨B2, hsz, HC⟩ := box_mkM 28 28 w nm nm2 st st2 (.slice A n c) (.slice B m d)
      have RA2 := hid (RA.out.below B2)
      have RB2 := hid (RB.out.below B2)
      have HB2 := hid B2
      have hw2 := B2.size
      generalize ((w.alloc (.cells #[.string (bs nm), .int .i64 st, .slice A n c] 28)).alloc (.cells #[.string (bs nm2), .int .i64 st2, .slice B m d] 28)) = W2 at *
      clear B2 hsz
      have HS5 : ∀ W', Below W2.heap.size W2 W' → W'.cell? ⟨w.heap.size, 0, none⟩ = some (.string (bs nm)) ∧ W'.cell? ⟨w.heap.size, 1, none⟩ = some (.int .i64 st) ∧ W'.cell? ⟨w.heap.size, 2, none⟩ = some (.slice A n c) ∧ W'.cell? ⟨w.heap.size + 1, 0, none⟩ = some (.string (bs nm2)) ∧ W'.cell? ⟨w.heap.size + 1, 1, none⟩ = some (.int .i64 st2) ∧ W'.cell? ⟨w.heap.size + 1, 2, none⟩ = some (.slice B m d) := fun W' h => by
        obtain ⟨⟨a0, a1, a2⟩, a3, a4, a5⟩ := HC.out _ h
        exact ⟨a0, a1, a2, a3, a4, a5⟩
      have HHS := hid HS5
      clear HS5 HC
      refine (G1 _ RA2.out).out.mono ?_
      rintro e w3 ⟨v3, rfl, o3, b3⟩
      obtain ⟨A3, c3, rfl, _, _, rd3, _⟩ := own_shape o3
      have HB3 := hid b3
      have RD30 := hid rd3
      clear o3 b3 rd3
      obtain ⟨n0, n1, n2, q0, q1, q2⟩ := HHS.out _ HB3.out
      go_wp2_with fail
      refine (G2 _ (RB2.out.below HB3.out)).out.mono ?_
      rintro e w4 ⟨v4, rfl, o4, b4⟩
      obtain ⟨A4, c4, rfl, _, _, rd4, _⟩ := own_shape o4
      have RD3 := hid (RD30.out.below b4)
      have HB4 := hid (HB3.out.trans (b4.mono HB3.out.size))
      have RD4 := hid rd4
      clear o4 b4 rd4 RD30 n0 n1 n2 q0 q1 q2
      obtain ⟨n0, n1, n2, q0, q1, q2⟩ := HHS.out _ HB4.out
      first
        | (go_wp2_with fail
           go_ret2
           exact ⟨rfl, HB2.out.trans (HB4.out.mono hw2)⟩)
        | (go_wp2_with fail
           refine (l1SameS_any _ _ _ _ _ _ _ _ _ RD3.out RD4.out (by omega) (by omega)).mono ?_
           rintro e w' ⟨rfl, q, rfl⟩
           have HB5 := hid (below_drewN HB4.out q)
           clear n0 n1 n2 q0 q1 q2
           go_wp2_with fail
           go_ret2
           exact ⟨rfl, HB2.out.trans (HB5.out.mono hw2)⟩)
set_option maxHeartbeats 2000000 in
theorem implSameFalse_law (a b : Meth) (A B : Option Addr) (n c m d : Nat) (w : World) (oka : LawOk a ([], [])) (okb : LawOk b ([], [])) (ra : Rd w A n (strV a.ch)) (rb : Rd w B m (strV b.ch)) (ca : n ≤ c) (cb : m ≤ d) :
    Calls Try.prog 43 #[.agg #[.string (bs a.nm), .int .i64 a.st, .slice A n c], .agg #[.string (bs b.nm), .int .i64 b.st, .slice B m d]] w fun e w' => e = .returned (.tuple #[.bool (sameFalseR a b).1, .bool (sameFalseR a b).2]) ∧ Below w.heap.size w w' := by
  have G1 := fun (w0 : World) (rd : Rd w0 A n (strV a.ch)) => hid (implFalseHeads_law a A n c w0 oka rd ca)
  have G2 := fun (w0 : World) (rd : Rd w0 B m (strV b.ch)) => hid (implFalseHeads_law b B m d w0 okb rd cb)
  have HN1 := hid (fun h => falseHeadsR_pos (m := a) h)
  have HN2 := hid (fun h => falseHeadsR_pos (m := b) h)
  have hl1 := falseHeadsR_le a
  have hl2 := falseHeadsR_le b
  have HQ := hid (show sameFalseR a b = _ from rfl)
  unfold sameFalseR at HQ
  have RA := hid ra
  have RB := hid rb
  clear ra rb oka okb
  show Calls _ _ _ _ fun e w' => e = .returned (.tuple #[.bool (sameFalseR a b).1, .bool (sameFalseR a b).2]) ∧ Below w.heap.size w w'
  unfold sameFalseR
  clear HQ
  generalize falseHeadsR a = Qa at *
  generalize falseHeadsR b = Qb at *
  obtain ⟨la, oa⟩ := Qa
  obtain ⟨lb, ob⟩ := Qb
  obtain ⟨nm, st, ch⟩ := a
  obtain ⟨nm2, st2, ch2⟩ := b
  dsimp only at *
  by_cases hst : st = st2
  all_goals
    have hne : (st != st2) = !decide (st = st2) := by rw [Bool.eq_iff_iff]; simp
    have HST := hid hst
    first | (rw [decide_eq_true hst] at hne ⊢) | (rw [decide_eq_false hst] at hne ⊢)
    simp only [Bool.not_true, Bool.not_false] at hne
    clear hst
    cases oa <;> cases ob
    all_goals
      simp only [Bool.and_true, Bool.and_false, Bool.false_and, if_true, Bool.false_eq_true, if_false]
      go_enter Try.func43, Try.ntmps43
      go_wp2_with fail
      obtain ⟨B2, hsz, HC⟩ := box_mkM 28 28 w nm nm2 st st2 (.slice A n c) (.slice B m d)
      have RA2 := hid (RA.out.below B2)
      have RB2 := hid (RB.out.below B2)
      have HB2 := hid B2
      have hw2 := B2.size
      generalize ((w.alloc (.cells #[.string (bs nm), .int .i64 st, .slice A n c] 28)).alloc (.cells #[.string (bs nm2), .int .i64 st2, .slice B m d] 28)) = W2 at *
      clear B2 hsz
      have HS5 : ∀ W', Below W2.heap.size W2 W' → W'.cell? ⟨w.heap.size, 0, none⟩ = some (.string (bs nm)) ∧ W'.cell? ⟨w.heap.size, 1, none⟩ = some (.int .i64 st) ∧ W'.cell? ⟨w.heap.size, 2, none⟩ = some (.slice A n c) ∧ W'.cell? ⟨w.heap.size + 1, 0, none⟩ = some (.string (bs nm2)) ∧ W'.cell? ⟨w.heap.size + 1, 1, none⟩ = some (.int .i64 st2) ∧ W'.cell? ⟨w.heap.size + 1, 2, none⟩ = some (.slice B m d) := fun W' h => by
        obtain ⟨⟨a0, a1, a2⟩, a3, a4, a5⟩ := HC.out _ h
        exact ⟨a0, a1, a2, a3, a4, a5⟩
      have HHS := hid HS5
      clear HS5 HC
      refine (G1 _ RA2.out).out.mono ?_
      rintro e w3 ⟨v3, rfl, o3, b3⟩
      obtain ⟨A3, c3, rfl, _, _, rd3, _⟩ := own_shape o3
      have HB3 := hid b3
      have RD30 := hid rd3
      clear o3 b3 rd3
      obtain ⟨n0, n1, n2, q0, q1, q2⟩ := HHS.out _ HB3.out
      go_wp2_with fail
      refine (G2 _ (RB2.out.below HB3.out)).out.mono ?_
      rintro e w4 ⟨v4, rfl, o4, b4⟩
      obtain ⟨A4, c4, rfl, _, _, rd4, _⟩ := own_shape o4
      have RD3 := hid (RD30.out.below b4)
      have HB4 := hid (HB3.out.trans (b4.mono HB3.out.size))
      have RD4 := hid rd4
      clear o4 b4 rd4 RD30 n0 n1 n2 q0 q1 q2
      obtain ⟨n0, n1, n2, q0, q1, q2⟩ := HHS.out _ HB4.out
      first
        | (go_wp2_with fail
           go_ret2
           exact ⟨rfl, HB2.out.trans (HB4.out.mono hw2)⟩)
        | (go_wp2_with fail
           refine (equalS_any _ _ _ _ _ _ _ _ _ RD3.out RD4.out (HN1.out trivial) (HN2.out trivial) (by omega) (by omega)).mono ?_
           rintro e w' ⟨rfl, q, rfl⟩
           have HB5 := hid (below_drewN HB4.out q)
           clear n0 n1 n2 q0 q1 q2
           go_wp2_with fail
           go_ret2
           exact ⟨rfl, HB2.out.trans (HB5.out.mono hw2)⟩)
end Go.Proofs.Ytiajeheonoebnaa
