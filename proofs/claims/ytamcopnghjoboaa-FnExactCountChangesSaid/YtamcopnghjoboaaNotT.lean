/- Contracts of a change completed, in the reference and in the program. No conditions beyond those stated. -/
import Derived.Test.YtamcopnghjoboaaNotP
import Derived.Test.YtamcopnghjoboaaNotS
import Derived.Test.YtamcopnghjoboaaCh3
import Derived.Test.YtamcopnghjoboaaCh1
import Derived.Test.YtamcopnghjoboaaRow2
set_option linter.unusedVariables false
set_option linter.unusedSimpArgs false
set_option maxRecDepth 100000
namespace Go.Proofs.Ytamcopnghjoboaa
open Go.RowKit

theorem l1NumN_any (n : Nat) (w : World) (h : n ≤ 8) :
    Calls Try.prog 26 #[.int .i64 n] w fun e w' => e = .returned (.string (bs [ndg n])) ∧ Below w.heap.size w w' := by
  have hu : (ndg n).toNat = 48 + n := by rw [ndg, UInt8.toNat_ofNat']; omega
  have i1 : (n : Int) < 10 := by omega
  have e8 : (48 + (n : Int)) = (((ndg n).toNat : Nat) : Int) := by rw [hu]; omega
  have hcv : (convert 44 9 (.slice (some ⟨w.heap.size, 0, none⟩) 1 1)).run Try.prog (w.alloc (.cells #[.int .u8 (48 + (n : Int))] 5)) = .ok (.string (bs [ndg n])) (w.alloc (.cells #[.int .u8 (48 + (n : Int))] 5)) := by
    rw [e8]
    refine run_convert_bytes_back _ _ _ _ ⟨w.heap.size, 0, none⟩ 1 [ndg n] Try.underlying44 Try.underlying5 Try.underlying9 ?_
    intro j hj
    obtain rfl : j = 0 := by simpa using hj
    simp [Addr.add]
  clear hu e8
  go_enter Try.func26, Try.ntmps26
  go_wp2
  go_ret
  exact ⟨rfl, (Below.refl _ _).alloc (Nat.le_refl _) _⟩
theorem rounds_last (j : Nat) (lo : 3 ≤ j + 1) (hi : j + 1 ≤ 8) : (roundsL (j + 1)).drop j = [ndg (j + 1)] := by
  rcases (show j = 2 ∨ j = 3 ∨ j = 4 ∨ j = 5 ∨ j = 6 ∨ j = 7 by omega) with rfl | rfl | rfl | rfl | rfl | rfl <;> decide +kernel
theorem tidyC_at (N : Nat) (s : List UInt8) (k : Nat) (hk : k < 4) : ∃ c, c = (tidyC N s).getD k [] ∧ c.length ≤ s.length + 2 ∧ #[Value.string (bs s), .string (bs (s ++ [ndg N])), .string (bs (49 :: s)), .string (bs (49 :: (s ++ [ndg N])))][k]? = some (.string (bs c)) := by
  rcases (show k = 0 ∨ k = 1 ∨ k = 2 ∨ k = 3 by omega) with rfl | rfl | rfl | rfl <;> exact ⟨_, rfl, by first | (simp [tidyC]; done) | (simp [tidyC]; omega), rfl⟩
theorem tidyL_hit {N : Nat} {s T : List UInt8} {k : Nat} (hT : tidyS s = T) (h : k < 4) (hb : ∀ j, j < k → okChange (N : Int) ((tidyC N T).getD j []) = false) {c : List UInt8} (hc : c = (tidyC N T).getD k []) (hk : okChange (N : Int) c = true) : tidyL N s = c := by
  subst hc
  unfold tidyL
  rw [hT]
  rcases (show k = 0 ∨ k = 1 ∨ k = 2 ∨ k = 3 by omega) with rfl | rfl | rfl | rfl
  · simp [tidyC] at hk ⊢; simp [List.find?, hk]
  · have h0 := hb 0 (by omega)
    simp [tidyC] at hk h0 ⊢; simp [List.find?, hk, h0]
  · have h0 := hb 0 (by omega)
    have h1 := hb 1 (by omega)
    simp [tidyC] at hk h0 h1 ⊢; simp [List.find?, hk, h0, h1]
  · have h0 := hb 0 (by omega)
    have h1 := hb 1 (by omega)
    have h2 := hb 2 (by omega)
    simp [tidyC] at hk h0 h1 h2 ⊢; simp [List.find?, hk, h0, h1, h2]
theorem tidyL_none {N : Nat} {s T : List UInt8} (hT : tidyS s = T) (hb : ∀ j, j < 4 → okChange (N : Int) ((tidyC N T).getD j []) = false) : tidyL N s = [] := tidyL_no fun c hc => by
  rw [hT] at hc
  have h0 := hb 0 (by omega)
  have h1 := hb 1 (by omega)
  have h2 := hb 2 (by omega)
  have h3 := hb 3 (by omega)
  simp [tidyC] at hc h0 h1 h2 h3
  rcases hc with rfl | rfl | rfl | rfl <;> assumption
theorem tidy_nil {n : Int} {c : List UInt8} (h : okChange n c = true) : c ≠ [] := fun e => by rw [e, okChange_nil] at h; cases h
set_option maxHeartbeats 2000000 in
theorem l3Tidy_any (N : Nat) (s : List UInt8) (w : World) (lo : 3 ≤ N) (hi : N ≤ 8) (hs : s.length ≤ 1000) :
    Calls Try.prog 24 #[.int .i64 N, .string (bs s)] w fun e w' => e = .returned (.string (bs (tidyL N s))) ∧ Below w.heap.size w w' := by
  have GN := fun (w0 : World) => hid (l1NumN_any N w0 hi)
  have HWF := hid (show (Lit.int .i64 (N : Int)).wf = true by rcases (show N = 3 ∨ N = 4 ∨ N = 5 ∨ N = 6 ∨ N = 7 ∨ N = 8 by omega) with rfl | rfl | rfl | rfl | rfl | rfl <;> decide)
  obtain ⟨T, hT⟩ : ∃ T, tidyS s = T := ⟨_, rfl⟩
  have hTl : T.length ≤ 1000 := by
    rw [← hT]; unfold tidyS; split
    · simp
    · exact hs
  have HT := hid hT
  by_cases hx : s = [120]
  · have hxb : (s == [120]) = true := by simpa using hx
    have hT2 : T = [45] := by rw [← hT]; unfold tidyS; rw [if_pos hx]
    clear hT hx
    go_enter Try.func24, Try.ntmps24
    go_wp2_with fail
    subst hT2
    refine (GN _).out.mono ?_
    rintro e w1 ⟨rfl, b1⟩
    have B1 := hid b1
    clear b1
    go_wp2_with fail
    refine (GN _).out.mono ?_
    rintro e w2 ⟨rfl, b2⟩
    have Bw := hid (B1.out.trans (b2.mono B1.out.size))
    clear b2
    go_wp2_with fail
    have X := Blk.new w2 9 #[.string (bs [45]), .string (bs ([45, ndg N])), .string (bs ([49, 45])), .string (bs ([49, 45, ndg N]))]
    have HX := hid X
    have HW := hid (Bw.out.alloc Bw.out.size (.cells #[.string (bs [45]), .string (bs ([45, ndg N])), .string (bs ([49, 45])), .string (bs ([49, 45, ndg N]))] 9))
    clear X
    generalize hgen : w2.alloc (.cells #[.string (bs [45]), .string (bs ([45, ndg N])), .string (bs ([49, 45])), .string (bs ([49, 45, ndg N]))] 9) = W3 at *
    have hlt3 : w2.heap.size < W3.heap.size := by rw [← hgen]; simp
    clear hgen
    go_loopg [23] 4 (fun gk x wr => ∃ k : Nat, k ≤ 4 ∧ gk = 4 - k ∧ x = .int .i64 k ∧ Hid (∀ j, j < k → okChange (N : Int) ((tidyC N [45]).getD j []) = false) ∧ Below W3.heap.size W3 wr)
    case atStart => exact ⟨0, by omega, by omega, rfl, hid (fun j hj => by omega), Below.refl _ _⟩
    case round =>
      obtain ⟨k, hk, rfl, rfl, hno, hb⟩ := hrel
      by_cases hlt : k < 4
      · obtain ⟨c, hc, hcl, hcell⟩ := tidyC_at N [45] k hlt
        have hck : wr.cell? ⟨w2.heap.size, k, none⟩ = some (.string (bs c)) := ((HX.out.below hb hlt3).cell k).trans hcell
        have GC := fun (w0 : World) => hid (l2Change_any (N : Int) c w0 HWF.out (by omega))
        have HB := hid hb
        have hcl2 := hid hcl
        have j0 : (0 : Int) ≤ (k : Int) := by omega
        have j1 : (k : Int) < 4 := by omega
        clear hb hcl hcell
        cases hok : okChange (N : Int) c
        · rw [hok] at GC
          have HN := hid (show ∀ j, j < k + 1 → okChange (N : Int) ((tidyC N [45]).getD j []) = false from fun j hj => by
            by_cases e : j = k
            · subst e; rw [← hc]; exact hok
            · exact hno.out j (by omega))
          clear hok hc
          go_wp2_with fail
          refine (GC _).out.mono ?_
          rintro e w4 ⟨rfl, rfl⟩
          have HB4 := HB
          go_wp2
          go_roundg (4 - (k + 1))
          case measure => omega
          case rel => exact ⟨k + 1, by omega, rfl, by go_num, HN, HB4.out⟩
        · rw [hok] at GC
          have HR := hid (show tidyL N s = c from tidyL_hit (k := k) HT.out hlt hno.out hc hok)
          have hne := hid (tidy_nil hok)
          clear hok hc
          go_wp2_with fail
          refine (GC _).out.mono ?_
          rintro e w4 ⟨rfl, rfl⟩
          have HB4 := HB
          go_wp2
          go_ret
          exact ⟨ret_str HR.out.symm, HW.out.trans (HB4.out.mono HW.out.size)⟩
      · obtain rfl : k = 4 := by omega
        have HR := hid (show tidyL N s = [] from tidyL_none HT.out hno.out)
        have HB4 := hid hb
        clear hb
        go_wp2
        go_ret
        exact ⟨ret_str HR.out.symm, HW.out.trans (HB4.out.mono HW.out.size)⟩
  · have hxb : (s == [120]) = false := by simpa using hx
    have hT2 : T = s := by rw [← hT]; unfold tidyS; rw [if_neg hx]
    clear hT hx
    go_enter Try.func24, Try.ntmps24
    go_wp2_with fail
    refine (GN _).out.mono ?_
    rintro e w1 ⟨rfl, b1⟩
    have B1 := hid b1
    clear b1
    go_wp2_with fail
    refine (GN _).out.mono ?_
    rintro e w2 ⟨rfl, b2⟩
    have Bw := hid (B1.out.trans (b2.mono B1.out.size))
    clear b2
    subst hT2
    go_wp2_with fail
    have X := Blk.new w2 9 #[.string (bs T), .string (bs (T ++ [ndg N])), .string (bs (49 :: T)), .string (bs (49 :: (T ++ [ndg N])))]
    have HX := hid X
    have HW := hid (Bw.out.alloc Bw.out.size (.cells #[.string (bs T), .string (bs (T ++ [ndg N])), .string (bs (49 :: T)), .string (bs (49 :: (T ++ [ndg N])))] 9))
    clear X
    generalize hgen : w2.alloc (.cells #[.string (bs T), .string (bs (T ++ [ndg N])), .string (bs (49 :: T)), .string (bs (49 :: (T ++ [ndg N])))] 9) = W3 at *
    have hlt3 : w2.heap.size < W3.heap.size := by rw [← hgen]; simp
    clear hgen
    go_loopg [23] 4 (fun gk x wr => ∃ k : Nat, k ≤ 4 ∧ gk = 4 - k ∧ x = .int .i64 k ∧ Hid (∀ j, j < k → okChange (N : Int) ((tidyC N T).getD j []) = false) ∧ Below W3.heap.size W3 wr)
    case atStart => exact ⟨0, by omega, by omega, rfl, hid (fun j hj => by omega), Below.refl _ _⟩
    case round =>
      obtain ⟨k, hk, rfl, rfl, hno, hb⟩ := hrel
      by_cases hlt : k < 4
      · obtain ⟨c, hc, hcl, hcell⟩ := tidyC_at N T k hlt
        have hck : wr.cell? ⟨w2.heap.size, k, none⟩ = some (.string (bs c)) := ((HX.out.below hb hlt3).cell k).trans hcell
        have GC := fun (w0 : World) => hid (l2Change_any (N : Int) c w0 HWF.out (by omega))
        have HB := hid hb
        have hcl2 := hid hcl
        have j0 : (0 : Int) ≤ (k : Int) := by omega
        have j1 : (k : Int) < 4 := by omega
        clear hb hcl hcell
        cases hok : okChange (N : Int) c
        · rw [hok] at GC
          have HN := hid (show ∀ j, j < k + 1 → okChange (N : Int) ((tidyC N T).getD j []) = false from fun j hj => by
            by_cases e : j = k
            · subst e; rw [← hc]; exact hok
            · exact hno.out j (by omega))
          clear hok hc
          go_wp2_with fail
          refine (GC _).out.mono ?_
          rintro e w4 ⟨rfl, rfl⟩
          have HB4 := HB
          go_wp2
          go_roundg (4 - (k + 1))
          case measure => omega
          case rel => exact ⟨k + 1, by omega, rfl, by go_num, HN, HB4.out⟩
        · rw [hok] at GC
          have HR := hid (show tidyL N T = c from tidyL_hit (k := k) HT.out hlt hno.out hc hok)
          have hne := hid (tidy_nil hok)
          clear hok hc
          go_wp2_with fail
          refine (GC _).out.mono ?_
          rintro e w4 ⟨rfl, rfl⟩
          have HB4 := HB
          go_wp2
          go_ret
          exact ⟨ret_str HR.out.symm, HW.out.trans (HB4.out.mono HW.out.size)⟩
      · obtain rfl : k = 4 := by omega
        have HR := hid (show tidyL N T = [] from tidyL_none HT.out hno.out)
        have HB4 := hid hb
        clear hb
        go_wp2
        go_ret
        exact ⟨ret_str HR.out.symm, HW.out.trans (HB4.out.mono HW.out.size)⟩
end Go.Proofs.Ytamcopnghjoboaa
