/- Contract of TidyChange in the program. No conditions beyond those stated. -/
import Derived.Test.YtamcopnghjoboaaNotT
set_option linter.unusedVariables false
set_option linter.unusedSimpArgs false
set_option maxRecDepth 100000
namespace Go.Proofs.Ytamcopnghjoboaa
open Go.RowKit

set_option maxHeartbeats 2000000 in
theorem tidyChange_any (N : Nat) (s : List UInt8) (w : World) (lo : 3 ≤ N) (hi : N ≤ 8) (hs : s.length ≤ 1000) :
    Calls Try.prog 25 #[.int .i64 N, .string (bs s)] w fun e w' => e = .returned (.tuple #[.string (bs (tidyL N s)), .bool (decide (tidyL N s ≠ []))]) ∧ Below w.heap.size w w' := by
  have GS := fun (w0 : World) => hid (isStage_any (N : Int) w0)
  rw [show (decide ((3 : Int) ≤ (N : Int)) && decide ((N : Int) ≤ 8)) = true by rw [decide_eq_true (show (3 : Int) ≤ (N : Int) by omega), decide_eq_true (show (N : Int) ≤ 8 by omega)]; rfl] at GS
  have GR := fun (w0 : World) => hid (rounds_any N w0 hi)
  have HWF := hid (show (Lit.int .i64 (N : Int)).wf = true by rcases (show N = 3 ∨ N = 4 ∨ N = 5 ∨ N = 6 ∨ N = 7 ∨ N = 8 by omega) with rfl | rfl | rfl | rfl | rfl | rfl <;> decide)
  have Bw : Hid (Below w.heap.size w w) := hid (Below.refl _ _)
  obtain ⟨j, hj⟩ : ∃ j, N = j + 1 := ⟨N - 1, by omega⟩
  have hd : List.drop j (roundsL N) = [ndg N] := by subst hj; exact rounds_last j lo hi
  have j0 : (0 : Int) ≤ (j : Int) := by omega
  have j1 : (j : Int) ≤ ((roundsL N).length : Int) := by rw [rounds_len]; omega
  have htk : List.take ((roundsL N).length - j) [ndg N] = [ndg N] := by rw [rounds_len, show N - j = 1 by omega]; rfl
  have hw0 := hid ((IntWalk.i64_in ((N : Int) - 1) (by omega)).trans (show (N : Int) - 1 = (j : Int) by omega))
  have hw1 := hid (show wrap64 ((N : Int) - 1) = (j : Int) by unfold wrap64; omega)
  have hw2 := hid (show (N : Int) - 1 = (j : Int) by omega)
  obtain ⟨T, hT⟩ : ∃ T, tidyS s = T := ⟨_, rfl⟩
  have hTl : T.length ≤ 1000 := by
    rw [← hT]; unfold tidyS; split
    · simp
    · exact hs
  have HT := hid hT
  generalize roundsL N = Rr at *
  clear hj
  by_cases hx : s = [120]
  · have hxb : (s == [120]) = true := by simpa using hx
    have hT2 : T = [45] := by rw [← hT]; unfold tidyS; rw [if_pos hx]
    clear hT hx
    subst hT2
    have hw0 := hw0.out
    have hw1 := hw1.out
    have hw2 := hw2.out
    go_enter Try.func25, Try.ntmps25
    go_wp2_with fail
    refine (GS _).out.mono ?_
    rintro e w1 ⟨rfl, rfl⟩
    go_wp2_with fail
    refine (GR _).out.mono ?_
    rintro e w2 ⟨rfl, rfl⟩
    go_wp2_with fail
    clear hw0 hw1 hw2
    have X := Blk.new w 9 #[.string (bs [45]), .string (bs ([45, ndg N])), .string (bs ([49, 45])), .string (bs ([49, 45, ndg N]))]
    have HX := hid X
    have HW := hid (Bw.out.alloc Bw.out.size (.cells #[.string (bs [45]), .string (bs ([45, ndg N])), .string (bs ([49, 45])), .string (bs ([49, 45, ndg N]))] 9))
    clear X
    generalize hgen : w.alloc (.cells #[.string (bs [45]), .string (bs ([45, ndg N])), .string (bs ([49, 45])), .string (bs ([49, 45, ndg N]))] 9) = W3 at *
    have hlt3 : w.heap.size < W3.heap.size := by rw [← hgen]; simp
    clear hgen
    go_loopg [31] 4 (fun gk x wr => ∃ k : Nat, k ≤ 4 ∧ gk = 4 - k ∧ x = .int .i64 k ∧ Hid (∀ j, j < k → okChange (N : Int) ((tidyC N [45]).getD j []) = false) ∧ Below W3.heap.size W3 wr)
    case atStart => exact ⟨0, by omega, by omega, rfl, hid (fun j hj => by omega), Below.refl _ _⟩
    case round =>
      obtain ⟨k, hk, rfl, rfl, hno, hb⟩ := hrel
      by_cases hlt : k < 4
      · obtain ⟨c, hc, hcl, hcell⟩ := tidyC_at N [45] k hlt
        have hck : wr.cell? ⟨w.heap.size, k, none⟩ = some (.string (bs c)) := ((HX.out.below hb hlt3).cell k).trans hcell
        have GC := fun (w0 : World) => hid (goodChange_any (N : Int) c w0 HWF.out (by omega))
        have HB := hid hb
        have hcl2 := hid hcl
        have j0 : (0 : Int) ≤ (k : Int) := by omega
        have j1 : (k : Int) < 4 := by omega
        clear hb hcl hcell
        cases hok : okChange (N : Int) c
        · rw [hok] at GC
          have HN := hid (show ∀ j, j < k + 1 → okChange (N : Int) ((tidyC N [45]).getD j []) = false from fun j hj => by
            by_cases e : j = k
            · subst e; rw [← hc]; exact hok
            · exact hno.out j (by omega))
          clear hok hc
          go_wp2_with fail
          refine (GC _).out.mono ?_
          rintro e w4 ⟨rfl, b4⟩
          have HB4 := hid (HB.out.trans (b4.mono HB.out.size)); clear b4
          go_wp2
          go_roundg (4 - (k + 1))
          case measure => omega
          case rel => exact ⟨k + 1, by omega, rfl, by go_num, HN, HB4.out⟩
        · rw [hok] at GC
          have HR := hid (show tidyL N s = c from tidyL_hit (k := k) HT.out hlt hno.out hc hok)
          have hne := hid (tidy_nil hok)
          clear hok hc
          go_wp2_with fail
          refine (GC _).out.mono ?_
          rintro e w4 ⟨rfl, b4⟩
          have HB4 := hid (HB.out.trans (b4.mono HB.out.size)); clear b4
          go_wp2
          go_ret2
          rw [HR.out]
          exact ⟨by rw [decide_eq_true hne.out]; rfl, HW.out.trans (HB4.out.mono HW.out.size)⟩
      · obtain rfl : k = 4 := by omega
        have HR := hid (show tidyL N s = [] from tidyL_none HT.out hno.out)
        have HB4 := hid hb
        clear hb
        go_wp2
        go_ret2
        rw [HR.out]
        exact ⟨by rw [decide_eq_false (fun h => h rfl)]; rfl, HW.out.trans (HB4.out.mono HW.out.size)⟩
  · have hxb : (s == [120]) = false := by simpa using hx
    have hT2 : T = s := by rw [← hT]; unfold tidyS; rw [if_neg hx]
    clear hT hx
    subst hT2
    have hw0 := hw0.out
    have hw1 := hw1.out
    have hw2 := hw2.out
    go_enter Try.func25, Try.ntmps25
    go_wp2_with fail
    refine (GS _).out.mono ?_
    rintro e w1 ⟨rfl, rfl⟩
    go_wp2_with fail
    refine (GR _).out.mono ?_
    rintro e w2 ⟨rfl, rfl⟩
    go_wp2_with fail
    clear hw0 hw1 hw2
    have X := Blk.new w 9 #[.string (bs T), .string (bs (T ++ [ndg N])), .string (bs (49 :: T)), .string (bs (49 :: (T ++ [ndg N])))]
    have HX := hid X
    have HW := hid (Bw.out.alloc Bw.out.size (.cells #[.string (bs T), .string (bs (T ++ [ndg N])), .string (bs (49 :: T)), .string (bs (49 :: (T ++ [ndg N])))] 9))
    clear X
    generalize hgen : w.alloc (.cells #[.string (bs T), .string (bs (T ++ [ndg N])), .string (bs (49 :: T)), .string (bs (49 :: (T ++ [ndg N])))] 9) = W3 at *
    have hlt3 : w.heap.size < W3.heap.size := by rw [← hgen]; simp
    clear hgen
    go_loopg [31] 4 (fun gk x wr => ∃ k : Nat, k ≤ 4 ∧ gk = 4 - k ∧ x = .int .i64 k ∧ Hid (∀ j, j < k → okChange (N : Int) ((tidyC N T).getD j []) = false) ∧ Below W3.heap.size W3 wr)
    case atStart => exact ⟨0, by omega, by omega, rfl, hid (fun j hj => by omega), Below.refl _ _⟩
    case round =>
      obtain ⟨k, hk, rfl, rfl, hno, hb⟩ := hrel
      by_cases hlt : k < 4
      · obtain ⟨c, hc, hcl, hcell⟩ := tidyC_at N T k hlt
        have hck : wr.cell? ⟨w.heap.size, k, none⟩ = some (.string (bs c)) := ((HX.out.below hb hlt3).cell k).trans hcell
        have GC := fun (w0 : World) => hid (goodChange_any (N : Int) c w0 HWF.out (by omega))
        have HB := hid hb
        have hcl2 := hid hcl
        have j0 : (0 : Int) ≤ (k : Int) := by omega
        have j1 : (k : Int) < 4 := by omega
        clear hb hcl hcell
        cases hok : okChange (N : Int) c
        · rw [hok] at GC
          have HN := hid (show ∀ j, j < k + 1 → okChange (N : Int) ((tidyC N T).getD j []) = false from fun j hj => by
            by_cases e : j = k
            · subst e; rw [← hc]; exact hok
            · exact hno.out j (by omega))
          clear hok hc
          go_wp2_with fail
          refine (GC _).out.mono ?_
          rintro e w4 ⟨rfl, b4⟩
          have HB4 := hid (HB.out.trans (b4.mono HB.out.size)); clear b4
          go_wp2
          go_roundg (4 - (k + 1))
          case measure => omega
          case rel => exact ⟨k + 1, by omega, rfl, by go_num, HN, HB4.out⟩
        · rw [hok] at GC
          have HR := hid (show tidyL N T = c from tidyL_hit (k := k) HT.out hlt hno.out hc hok)
          have hne := hid (tidy_nil hok)
          clear hok hc
          go_wp2_with fail
          refine (GC _).out.mono ?_
          rintro e w4 ⟨rfl, b4⟩
          have HB4 := hid (HB.out.trans (b4.mono HB.out.size)); clear b4
          go_wp2
          go_ret2
          rw [HR.out]
          exact ⟨by rw [decide_eq_true hne.out]; rfl, HW.out.trans (HB4.out.mono HW.out.size)⟩
      · obtain rfl : k = 4 := by omega
        have HR := hid (show tidyL N T = [] from tidyL_none HT.out hno.out)
        have HB4 := hid hb
        clear hb
        go_wp2
        go_ret2
        rw [HR.out]
        exact ⟨by rw [decide_eq_false (fun h => h rfl)]; rfl, HW.out.trans (HB4.out.mono HW.out.size)⟩
end Go.Proofs.Ytamcopnghjoboaa
