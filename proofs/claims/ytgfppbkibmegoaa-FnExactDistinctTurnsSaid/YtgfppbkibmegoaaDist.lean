/- Contracts of DistinctTurns, in the reference and in the program. No conditions beyond those stated. -/
import Derived.Test.YtgfppbkibmegoaaStrs
import Derived.Test.YtgfppbkibmegoaaLeast
import Derived.Test.YtgfppbkibmegoaaSort6
import Derived.Test.YtgfppbkibmegoaaShSort
import Derived.Lib.RowBridge
set_option linter.unusedVariables false
set_option linter.unusedSimpArgs false
set_option maxRecDepth 100000
namespace Go.Proofs.Ytgfppbkibmegoaa
open Go.RowKit

theorem leastTurn_good (l : List UInt8) (b : Bool) (w : World) (hg : goodTouch l = true) :
    Calls Try.prog 55 #[.string (bs l), .bool b] w fun e w' => e = .returned (.string (bs (leastTurnR l b).1)) ∧ ∃ m, w' = w.drewN m := by
  have hlen := goodTouch_len hg
  cases b
  · rw [leastTurnR_no l hg]
    exact leastTurn_no l w (by omega)
  · rw [leastTurnR_yes l hg]
    exact leastTurn_yes l w (by omega) (by omega)
/-- The list of the best turns of the first k touches. -/
def bests (both : Bool) (l : List (List UInt8)) : List (List UInt8) := l.map fun t => (leastTurnR t both).1
theorem bests_len (both : Bool) (l : List (List UInt8)) : (bests both l).length = l.length := by simp [bests]
theorem bests_step (both : Bool) (l : List (List UInt8)) (k : Nat) (h : k < l.length) : bests both (l.take k) ++ [(leastTurnR l[k] both).1] = bests both (l.take (k + 1)) := by
  rw [List.take_succ_eq_append_getElem h]; simp only [bests, List.map_append, List.map_cons, List.map_nil]
def ddTo (s : List (List UInt8)) (k : Nat) : List (List UInt8) := Lib.compactUpTo s.toArray k
/-- What DistinctTurns answers. -/
def distinctR (l : List (List UInt8)) (both : Bool) : List (List UInt8) × Bool := if l.length ≤ 800 ∧ l.all goodTouch = true then (Lib.compact (sortL (bests both l)), true) else ([], false)

theorem leastTurnR_ok (l : List UInt8) (b : Bool) : (leastTurnR l b).2 = goodTouch l := by
  cases hg : goodTouch l
  · rw [leastTurnR_bad l b hg]
  · cases b
    · rw [leastTurnR_no l hg]
    · rw [leastTurnR_yes l hg]
theorem distinctR_bad (l : List (List UInt8)) (both : Bool) (k : Nat) (h : k < l.length) (hg : goodTouch l[k] = false) : distinctR l both = ([], false) := if_neg fun h2 => by
  have := List.all_eq_true.1 h2.2 _ (List.getElem_mem h)
  rw [hg] at this; cases this
theorem distinctR_yes (l : List (List UInt8)) (both : Bool) (h8 : l.length ≤ 800) (h : ∀ (k : Nat) (hk : k < l.length), goodTouch l[k] = true) : distinctR l both = (Lib.compact (sortL (bests both l)), true) := if_pos ⟨h8, by
  rw [List.all_eq_true]
  intro x hx
  obtain ⟨k, hk, rfl⟩ := List.mem_iff_getElem.1 hx
  exact h k hk⟩
theorem ddTo_last (s : List (List UInt8)) : ∀ k, k < s.length → (ddTo s (k + 1)).getLast? = s[k]?
  | 0, h => by
    rw [ddTo, Lib.compactUpTo_succ]
    simp [Lib.keeps, Lib.compactUpTo, h]
  | k + 1, h => by
    rw [ddTo, Lib.compactUpTo_succ]
    by_cases hk : Lib.keeps s.toArray (k + 1) = true
    · rw [if_pos hk]; simp [h]
    · rw [if_neg hk, List.append_nil]
      have := ddTo_last s k (by omega)
      rw [ddTo] at this
      rw [this]
      simp [Lib.keeps] at hk
      simp [h, show k < s.length by omega] at hk ⊢
      exact hk.symm
theorem ddTo_first (s : List (List UInt8)) (h : 0 < s.length) : ddTo s 1 = ddTo s 0 ++ [s[0]] := by
  rw [ddTo, ddTo, Lib.compactUpTo_succ]; simp [Lib.keeps, h]
theorem ddTo_skip (s : List (List UInt8)) (k : Nat) (h : k + 1 < s.length) (he : s[k + 1] = s[k]) : ddTo s (k + 1 + 1) = ddTo s (k + 1) := by
  rw [ddTo, ddTo, Lib.compactUpTo_succ, if_neg]
  · simp
  · simp [Lib.keeps, h, show k < s.length by omega, he]
theorem ddTo_take (s : List (List UInt8)) (k : Nat) (h : k + 1 < s.length) (he : s[k + 1] ≠ s[k]) : ddTo s (k + 1 + 1) = ddTo s (k + 1) ++ [s[k + 1]] := by
  rw [ddTo, ddTo, Lib.compactUpTo_succ, if_pos]
  · simp [h]
  · simp [Lib.keeps, h, show k < s.length by omega, he]
theorem ddTo_len (s : List (List UInt8)) (k : Nat) : (ddTo s k).length ≤ k := by
  unfold ddTo Lib.compactUpTo
  rw [List.length_map]
  exact Nat.le_trans (List.length_filter_le _ _) (by simp)
theorem ddTo_pos (s : List (List UInt8)) (k : Nat) (h : k < s.length) : 0 < (ddTo s (k + 1)).length := by
  have := ddTo_last s k h
  rw [List.getElem?_eq_getElem h] at this
  cases hd : ddTo s (k + 1) with
  | nil => rw [hd] at this; cases this
  | cons a b => simp

set_option maxHeartbeats 600000 in
theorem specDistinct_any (A : Option Addr) (n c : Nat) (l : List (List UInt8)) (both : Bool) (w : World) (hr : Rd w A n (strV l)) (hn : n ≤ 1048576) (hs : ∀ s ∈ l, s.length ≤ 1048576) :
    Calls Try.prog 41 #[.slice A n c, .bool both] w (ResS w (distinctR l both)) := by
  have hl := hid (show l.length = n by have := hr.1; rw [strV_len] at this; exact this)
  have HS := hid hs
  clear hs
  go_enter Try.func41, Try.ntmps41
  by_cases hbig : n ≤ 800
  · go_wp2
    go_loopg [6, 19] n (fun gk u v wr => ∃ k : Nat, k ≤ n ∧ gk = n - k ∧ v = .int .i64 k ∧ Hid (∀ (j : Nat) (hj : j < l.length), j < k → goodTouch l[j] = true) ∧ wr.ownsRow w.heap.size 9 1 u k (strV (bests both (l.take k))) ∧ Below w.heap.size w wr)
    case atStart => exact ⟨0, by omega, by omega, rfl, hid (fun j hj h => by omega), World.ownsRow_nil _ _ _ _, Below.refl _ _⟩
    case round =>
      obtain ⟨k, hk, rfl, rfl, hgd, ho, hb⟩ := hrel
      by_cases hlt : k < n
      · obtain ⟨b, o, rfl, hj', hc⟩ := (hr.below hb).str hlt
        have hsl := HS.out _ (List.getElem_mem hj')
        have hk0 : (0 : Int) ≤ (k : Int) := by omega
        have hk1 : (k : Int) < (n : Int) := by omega
        have HB := hid hb
        have HBs := hb.size
        have HO := hid ho
        have RS := hid hr
        clear hb ho hr
        cases hg : goodTouch l[k]
        · have HR := hid (distinctR_bad l both k hj' hg)
          have h2 := leastTurnR_ok l[k] both
          rw [hg] at h2
          go_wp2_with fail
          refine (specLeastTurn_any l[k] both _ hsl).mono ?_
          rintro e w1 ⟨rfl, b1⟩
          rw [h2]
          go_wp2
          go_ret2
          rw [HR.out]
          exact ResS.none _ _ (HB.out.trans (b1.mono HBs))
        · have HST := hid (bests_step both l k hj')
          have HG := hid (show ∀ (j : Nat) (hj : j < l.length), j < k + 1 → goodTouch l[j] = true from fun j hj h => by
            by_cases e : j = k
            · subst e; exact hg
            · exact hgd.out j hj (by omega))
          have h2 := leastTurnR_ok l[k] both
          rw [hg] at h2
          obtain ⟨X, hX⟩ : ∃ X, X = (leastTurnR l[k] both).1 := ⟨_, rfl⟩
          go_wp2_with fail
          refine (specLeastTurn_any l[k] both _ hsl).mono ?_
          rintro e w1 ⟨rfl, b1⟩
          rw [h2, ← hX]
          rw [← hX] at HST
          have HO1 := hid (own_below HO.out b1)
          have B1 := hid b1
          have B1s := b1.size
          clear h2 hX b1
          go_wp2_with (at_builtin; refine app_str _ (by rfl) _ _ (by rfl) w.heap.size _ _ _ (by rfl) (HO1.out.alloc _) (some ⟨w1.heap.size, 0, none⟩) 1 1 [X] (by rfl) (Rd.blk _ [.string (bs X)] _) (by omega) (by simp; omega) ?_; intro v5 w5 o5 g5)
          go_roundg (n - (k + 1))
          case measure => omega
          case rel =>
            rw [HST.out] at o5
            exact ⟨k + 1, by omega, rfl, by go_num, HG, o5, ((HB.out.trans (B1.out.mono HBs)).alloc (by omega) _).grown g5 (by simp; omega) fun q hq => (HO1.out.lt q hq).1⟩
      · obtain rfl : k = n := by omega
        have hle8 : l.length ≤ 800 := by rw [hl.out]; omega
        have HR := hid (distinctR_yes l both hle8 fun j hj => hgd.out j hj (by rw [← hl.out]; exact hj))
        rw [List.take_of_length_le (by rw [hl.out]; omega)] at ho
        obtain ⟨A1, c1, rfl, _, _, rd1, _⟩ := own_shape ho
        have HB := hid hb
        have HBs := hb.size
        clear hb ho hr hle8
        go_wp2_with fail
        refine (l6Sort_any k A1 c1 (bests both l) _ rd1 (by omega)).mono ?_
        rintro e w1 ⟨v1, rfl, o1, b1⟩
        obtain ⟨S, hS⟩ : ∃ S, S = sortL (bests both l) := ⟨_, rfl⟩
        rw [← hS] at o1 HR
        have hSl : S.length = k := by rw [hS, sortL_len, bests_len, hl.out]
        rw [hSl] at o1
        obtain ⟨A2, c2, rfl, _, _, rd2, _⟩ := own_shape o1
        have HSl := hid hSl
        have HR2 := hid rd2
        have B1 := hid b1
        have B1s := b1.size
        clear hS hSl rd1 o1 rd2 b1
        go_wp2
        go_loopg [11, 39] k (fun gk u v wr => ∃ j : Nat, j ≤ k ∧ gk = k - j ∧ v = .int .i64 j ∧ wr.ownsRow w1.heap.size 9 1 u (ddTo S j).length (strV (ddTo S j)) ∧ Below w1.heap.size w1 wr)
        case atStart => exact ⟨0, by omega, by omega, rfl, World.ownsRow_nil _ _ _ _, Below.refl _ _⟩
        case round =>
          obtain ⟨j, hj, rfl, rfl, oj, bj⟩ := hrel
          by_cases hjk : j < k
          · obtain ⟨b, o, rfl, hj', hc⟩ := (HR2.out.below bj).str hjk
            have hk0 : (0 : Int) ≤ (j : Int) := by omega
            have hk1 : (j : Int) < (k : Int) := by omega
            have BJ := hid bj
            have BJs := bj.size
            have OJ := hid oj
            have hdl := ddTo_len S j
            clear bj
            rcases j with _ | j
            · have hd := hid (ddTo_first S (by omega))
              have hc0 : wr.cell? ⟨b, o, none⟩ = some (.string (bs S[0])) := hc
              clear hc
              obtain ⟨A3, c3, rfl, _, _, rd3, _⟩ := own_shape oj
              have h00 : (ddTo S 0).length = 0 := by omega
              rw [h00] at OJ ⊢
              clear oj rd3 hdl
              have h00 := hid h00
              go_wp2_with (at_builtin; refine app_str _ (by rfl) _ _ (by rfl) w1.heap.size _ _ _ (by rfl) (OJ.out.alloc _) (some ⟨wr.heap.size, 0, none⟩) 1 1 [S[0]] (by rfl) (Rd.blk _ [.string (bs S[0])] _) (by omega) (by simp; omega) ?_; intro v5 w5 o5 g5)
              go_roundg (k - (0 + 1))
              case measure => omega
              case rel =>
                rw [← hd.out] at o5
                have e1 : (ddTo S (0 + 1)).length = 0 + 1 := by
                  have := congrArg List.length hd.out
                  rw [List.length_append, h00.out] at this
                  exact this
                exact ⟨0 + 1, by omega, rfl, by go_num, by rw [e1]; exact o5, (BJ.out.alloc (by omega) _).grown g5 (by simp; omega) fun q hq => (OJ.out.lt q hq).1⟩
            · obtain ⟨m, hm⟩ : ∃ m, (ddTo S (j + 1)).length = m + 1 := ⟨(ddTo S (j + 1)).length - 1, by have := ddTo_pos S j (by omega); omega⟩
              have hlast : (ddTo S (j + 1))[m]? = some S[j] := by
                have := ddTo_last S j (by omega)
                rw [List.getLast?_eq_getElem?, hm, Nat.add_sub_cancel, List.getElem?_eq_getElem (show j < S.length by omega)] at this
                exact this
              rw [hm] at oj hdl
              have hm8 : m ≤ 800 := by omega
              have hm9 := hid hm8
              have hm10 := hid (show m + 1 + 1 ≤ 1000000000000 by omega)
              clear hm8
              obtain ⟨A3, c3, rfl, _, _, rd3, _⟩ := own_shape oj
              obtain ⟨b3, o3, rfl, hm', hc3⟩ := rd3.str (Nat.lt_succ_self m)
              rw [List.getElem?_eq_getElem hm'] at hlast
              injection hlast with hlast
              rw [hlast] at hc3
              have hmi : (((m : Int) + 1) == 0) = false := by simp; omega
              have hm0 : (0 : Int) ≤ (m : Int) := by omega
              have hm1 : (m : Int) < (m : Int) + 1 := by omega
              have hw := IntWalk.i64_in ((m : Int) + 1 - 1) (by omega)
              have hw1 : wrap64 (m : Int) = (m : Int) := by unfold wrap64; omega
              have HM := hid hm
              have Hlen := hid hdl
              rw [hm] at OJ
              clear oj rd3 hlast hm hdl
              by_cases he : S[j + 1] = S[j]
              · have hd := hid (ddTo_skip S j (by omega) he)
                have heq : (S[j] == S[j + 1]) = true := by simp [he]
                clear he
                go_wp2
                go_roundg (k - (j + 1 + 1))
                case measure => omega
                case rel =>
                  exact ⟨j + 1 + 1, by omega, rfl, by go_num, by rw [hd.out, HM.out]; exact OJ.out, BJ.out⟩
              · have hd := hid (ddTo_take S j (by omega) he)
                have heq : (S[j] == S[j + 1]) = false := by simp; exact fun h => he h.symm
                clear he
                go_wp2_with (at_builtin; refine app_str _ (by rfl) _ _ (by rfl) w1.heap.size _ _ _ (by rfl) (OJ.out.alloc _) (some ⟨wr.heap.size, 0, none⟩) 1 1 [S[j + 1]] (by rfl) (Rd.blk _ [.string (bs S[j + 1])] _) (by exact hm10.out) (by simp; exact Nat.le_succ_of_le BJs) ?_; intro v5 w5 o5 g5)
                go_roundg (k - (j + 1 + 1))
                case measure => omega
                case rel =>
                  rw [← hd.out] at o5
                  have e1 : (ddTo S (j + 1 + 1)).length = m + 1 + 1 := by
                    have := congrArg List.length hd.out
                    rw [List.length_append, HM.out] at this
                    exact this
                  exact ⟨j + 1 + 1, by omega, rfl, by go_num, by rw [e1]; exact o5, (BJ.out.alloc (by omega) _).grown g5 (by simp; omega) fun q hq => (OJ.out.lt q hq).1⟩
          · obtain rfl : j = k := by omega
            go_wp2
            go_ret2
            rw [HR.out]
            have e : Lib.compact S = ddTo S j := by rw [← HSl.out]; rfl
            rw [e]
            exact ⟨_, rfl, own_mono oj (by omega), HB.out.trans ((B1.out.trans (bj.mono B1s)).mono HBs)⟩
  · have hR : distinctR l both = ([], false) := if_neg (by rw [hl.out]; omega)
    have HR := hid hR
    clear hR
    have hbigi : (800 : Int) < n := by omega
    go_wp2
    go_ret2
    rw [HR.out]
    exact ResS.none _ _ (Below.refl _ _)

set_option maxHeartbeats 2000000 in
theorem implDistinct_any (A : Option Addr) (n c : Nat) (l : List (List UInt8)) (both : Bool) (w : World) (hr : Rd w A n (strV l)) (hn : n ≤ 1048576) (hs : ∀ s ∈ l, s.length ≤ 1048576) :
    Calls Try.prog 43 #[.slice A n c, .bool both] w (ResS w (distinctR l both)) := by
  have hl := hid (show l.length = n by have := hr.1; rw [strV_len] at this; exact this)
  have HS := hid hs
  clear hs
  go_enter Try.func43, Try.ntmps43
  by_cases hbig : n ≤ 800
  · go_wp2
    go_loopg [6, 15] n (fun gk u v wr => ∃ k : Nat, k ≤ n ∧ gk = n - k ∧ v = .int .i64 k ∧ Hid (∀ (j : Nat) (hj : j < l.length), j < k → goodTouch l[j] = true) ∧ wr.ownsRow w.heap.size 9 1 u k (strV (bests both (l.take k))) ∧ Below w.heap.size w wr)
    case atStart => exact ⟨0, by omega, by omega, rfl, hid (fun j hj h => by omega), own_of_blk (Blk.new _ _ #[]) (Nat.le_refl _) (by simp [maxLen]), (Below.refl _ _).alloc (Nat.le_refl _) _⟩
    case round =>
      obtain ⟨k, hk, rfl, rfl, hgd, ho, hb⟩ := hrel
      by_cases hlt : k < n
      · obtain ⟨b, o, rfl, hj', hc⟩ := (hr.below hb).str hlt
        have hsl := HS.out _ (List.getElem_mem hj')
        have hk0 : (0 : Int) ≤ (k : Int) := by omega
        have hk1 : (k : Int) < (n : Int) := by omega
        have HB := hid hb
        have HBs := hb.size
        have HO := hid ho
        have RS := hid hr
        clear hb ho hr
        cases hg : goodTouch l[k]
        · have HR := hid (distinctR_bad l both k hj' hg)
          go_wp2_with (go_at_call 15; refine (implGoodTouch_any _ _ (by omega)).mono ?_; rintro e w' ⟨rfl, rfl⟩)
          go_ret2
          rw [HR.out]
          exact ResS.none _ _ HB.out
        · have HST := hid (bests_step both l k hj')
          have HG := hid (show ∀ (j : Nat) (hj : j < l.length), j < k + 1 → goodTouch l[j] = true from fun j hj h => by
            by_cases e : j = k
            · subst e; exact hg
            · exact hgd.out j hj (by omega))
          have HLT := hid (fun w => leastTurn_good l[k] both w hg)
          obtain ⟨X, hX⟩ : ∃ X, X = (leastTurnR l[k] both).1 := ⟨_, rfl⟩
          rw [← hX] at HST HLT
          clear hX
          go_wp2_with (go_at_call 15; refine (implGoodTouch_any _ _ (by omega)).mono ?_; rintro e w' ⟨rfl, rfl⟩)
          refine (HLT.out _).mono ?_
          rintro e w1 ⟨rfl, mq, rfl⟩
          go_wp2_with (at_builtin; refine app_str _ (by rfl) _ _ (by rfl) w.heap.size _ _ _ (by rfl) ((own_drewN HO.out _).alloc _) (some ⟨wr.heap.size, 0, none⟩) 1 1 [X] (by rfl) (Rd.blk _ [.string (bs X)] _) (by omega) (by simp; omega) ?_; intro v5 w5 o5 g5)
          go_roundg (n - (k + 1))
          case measure => omega
          case rel =>
            rw [HST.out] at o5
            exact ⟨k + 1, by omega, rfl, by go_num, HG, o5, ((below_drewN HB.out _).alloc (by exact HBs) _).grown g5 (by simp; omega) fun q hq => (HO.out.lt q hq).1⟩
      · obtain rfl : k = n := by omega
        have hle8 : l.length ≤ 800 := by rw [hl.out]; omega
        have HR := hid (distinctR_yes l both hle8 fun j hj => hgd.out j hj (by rw [← hl.out]; exact hj))
        rw [List.take_of_length_le (by rw [hl.out]; omega)] at ho
        have HB := hid hb
        have HBs := hb.size
        have HO := hid ho
        clear hb ho hr hle8
        go_wp2_with fail
        refine (sort_own _ _ _ _ _ HO.out (by omega)).mono ?_
        rintro e w1 ⟨rfl, o1, g1⟩
        have B1 : Below w.heap.size w w1 := HB.out.grown g1 HBs fun q hq => (HO.out.lt q hq).1
        have HB1 := hid B1
        have HB1s := B1.size
        clear B1
        go_wp2_with fail
        refine (compact_own _ _ _ _ _ o1 (by omega)).mono ?_
        rintro e w2 ⟨⟨v2, rfl, o2⟩, g2⟩
        have B2 := hid (HB1.out.grown g2 HB1s fun q hq => (o1.lt q hq).1)
        obtain ⟨A2, c2, rfl, _⟩ := own_shape o2
        go_wp2_with fail
        go_ret2
        rw [HR.out]
        exact ⟨_, rfl, o2, B2.out⟩
  · have hR : distinctR l both = ([], false) := if_neg (by rw [hl.out]; omega)
    have HR := hid hR
    clear hR
    have hbigi : (800 : Int) < n := by omega
    go_wp2
    go_ret2
    rw [HR.out]
    exact ResS.none _ _ (Below.refl _ _)
theorem distinctR_le (l : List (List UInt8)) (both : Bool) : (distinctR l both).1.length ≤ 800 := by
  unfold distinctR
  split
  · rename_i h
    have := Lib.compact_length_le (sortL (bests both l))
    rw [sortL_len, bests_len] at this
    exact Nat.le_trans this h.1
  · simp
end Go.Proofs.Ytgfppbkibmegoaa
