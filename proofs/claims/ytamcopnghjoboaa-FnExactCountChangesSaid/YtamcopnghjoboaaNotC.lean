/- Contracts of CountChanges, in the reference and in the program. No conditions beyond those stated. -/
import Derived.Test.YtamcopnghjoboaaNotI
import Derived.Test.YtamcopnghjoboaaNotSp
set_option linter.unusedVariables false
set_option linter.unusedSimpArgs false
set_option maxRecDepth 100000
namespace Go.Proofs.Ytamcopnghjoboaa
open Go.RowKit

theorem readR_no (n : Int) (s : List UInt8) (h : (readR n s).2.2.2 = false) : (readR n s).1 = [] := by
  unfold readR at h ⊢
  split
  · rfl
  · rename_i h1
    rw [if_neg h1] at h
    split
    · rfl
    · rename_i h2
      rw [if_neg h2] at h
      split
      · rfl
      · rename_i h3
        simp only [h3] at h
        split
        · rfl
        · rename_i h4; rw [if_neg h4] at h; cases h
set_option maxHeartbeats 2000000 in
theorem specCount_any (n : Int) (s : List UInt8) (w : World) (hs : s.length ≤ 1048576) :
    Calls Try.prog 5 #[.int .i64 n, .string (bs s)] w fun e w' => e = .returned (.tuple #[.int .i64 ((readR n s).1.length : Int), .bool (readR n s).2.2.2]) ∧ Below w.heap.size w w' := by
  have GR := hid (specRead_any n s w hs)
  have hle := readR_le n s
  have hno := hid (readR_no n s)
  generalize readR n s = R at *
  obtain ⟨zs, a, b, ok⟩ := R
  dsimp only at *
  go_enter Try.func5, Try.ntmps5
  go_wp2_with fail
  refine GR.out.mono ?_
  rintro e w1 ⟨v1, rfl, o1, b1⟩
  obtain ⟨A1, c1, rfl, _⟩ := own_shape o1
  have HB := hid b1
  clear o1 b1
  cases ok
  · have hz := hno.out rfl
    subst hz
    go_wp2
    refine bodyPost_ret (v := .tuple #[.int .i64 0, .bool false]) (by simp [results, Try.results5, go_sem]) rfl ?_
    exact ⟨rfl, HB.out⟩
  · clear hno
    go_wp2
    refine bodyPost_ret (v := .tuple #[.int .i64 (zs.length : Int), .bool true]) (by simp [results, Try.results5, go_sem]) rfl ?_
    exact ⟨rfl, HB.out⟩
set_option maxHeartbeats 2000000 in
theorem implCount_any (n : Int) (s : List UInt8) (w : World) (hs : s.length ≤ 1048576) :
    Calls Try.prog 6 #[.int .i64 n, .string (bs s)] w fun e w' => e = .returned (.tuple #[.int .i64 ((readR n s).1.length : Int), .bool (readR n s).2.2.2]) ∧ Below w.heap.size w w' := by
  have GR := hid (implRead_any n s w hs)
  have hle := readR_le n s
  have hno := hid (readR_no n s)
  generalize readR n s = R at *
  obtain ⟨zs, a, b, ok⟩ := R
  dsimp only at *
  go_enter Try.func6, Try.ntmps6
  go_wp2_with fail
  refine GR.out.mono ?_
  rintro e w1 ⟨v1, rfl, o1, b1⟩
  obtain ⟨A1, c1, rfl, _⟩ := own_shape o1
  have HB := hid b1
  clear o1 b1
  cases ok
  · have hz := hno.out rfl
    subst hz
    go_wp2
    refine bodyPost_ret (v := .tuple #[.int .i64 0, .bool false]) (by simp [results, Try.results6, go_sem]) rfl ?_
    exact ⟨rfl, HB.out⟩
  · clear hno
    go_wp2
    refine bodyPost_ret (v := .tuple #[.int .i64 (zs.length : Int), .bool true]) (by simp [results, Try.results6, go_sem]) rfl ?_
    exact ⟨rfl, HB.out⟩
end Go.Proofs.Ytamcopnghjoboaa
