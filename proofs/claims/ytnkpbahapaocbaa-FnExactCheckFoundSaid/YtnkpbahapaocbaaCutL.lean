/- Cuts in a law: opened, measured, copied. No conditions beyond those stated. -/
import Derived.Test.YtnkpbahapaocbaaMeth2
import Derived.Test.YtnkpbahapaocbaaCutP
set_option linter.unusedVariables false
set_option linter.unusedSimpArgs false
set_option maxRecDepth 100000
namespace Go.Proofs.Ytnkpbahapaocbaa
open Go.RowKit Go.ChangeShapes Go.WideShapes Go.Joins

/-- The value is a cut. -/
def InCut (W : World) (v : Value) (c : List UInt8 × Int × Int) : Prop := v = .agg #[.string (bs c.1), .int .i64 c.2.1, .int .i64 c.2.2] ∧ c.1.length ≤ maxLen
theorem open_inCut {H : Type} {enc : TypeId × Value → H} {W : World} {base : Nat} {spare : Nat → Bool} {held : Bool} {r : Reach} {b0 : Nat} {v : Value} {d : DataW H} {ps : List MemPlace}
    (hval : Value.okWide Try.prog W r b0 28 v) (h : DataW.Trod enc Try.prog W base spare held 28 v d ps) : ∃ c, InCut W v c := by
  obtain ⟨v0, v1, v2, y0, y1, y2, n, rfl, _, _, t0, t1, t2⟩ := open_agg3 Try.underlying28 (by kernel_rfl) (by kernel_rfl) hval h
  obtain ⟨s, e0, _, hs⟩ := DataW.trod_string Try.underlying9 t0
  obtain ⟨k, e1, _, hk⟩ := DataW.trod_int Try.underlying3 t1
  obtain ⟨k2, e2, _, hk2⟩ := DataW.trod_int Try.underlying3 t2
  injection e0 with e0 _
  injection e1 with e1 _
  injection e2 with e2 _
  subst e0 e1 e2
  obtain ⟨s, rfl⟩ := bs_surj s
  exact ⟨(s, k, k2), rfl, by rw [← bs_size]; exact hs⟩
theorem szCut_any (c : List UInt8 × Int × Int) (left : Int) (w : World) (h1 : c.1.length ≤ maxLen) (h0 : 0 ≤ left) (hl : left ≤ 1048576) :
    Calls Try.prog 8 #[.agg #[.string (bs c.1), .int .i64 c.2.1, .int .i64 c.2.2], .int .i64 left] w fun e w' => ∃ r : Int, e = .returned (.int .i64 r) ∧ Below w.heap.size w w' ∧ -1 ≤ r ∧ (0 ≤ r → r = left - c.1.length) := by
  obtain ⟨a, b, d⟩ := c
  dsimp only at h1
  unfold maxLen at h1
  have hw := IntWalk.i64_in (left - (a.length : Int)) (by omega)
  by_cases n1 : left - (a.length : Int) < 0
  · go_enter Try.func8, Try.ntmps8
    go_wp2
    go_ret
    exact ⟨-1, rfl, (Below.refl _ _).alloc (Nat.le_refl _) _, by omega, by omega⟩
  · have hm1 : -1 ≤ left - (a.length : Int) := by omega
    go_enter Try.func8, Try.ntmps8
    go_wp2
    go_ret
    exact ⟨_, rfl, (Below.refl _ _).alloc (Nat.le_refl _) _, hm1, fun _ => rfl⟩
theorem toCut_any (c : List UInt8 × Int × Int) (w : World) :
    Calls Try.prog 12 #[.agg #[.string (bs c.1), .int .i64 c.2.1, .int .i64 c.2.2]] w fun e w' => e = .returned (.agg #[.string (bs c.1), .int .i64 c.2.1, .int .i64 c.2.2]) ∧ Below w.heap.size w w' := by
  obtain ⟨a, b, d⟩ := c
  go_enter Try.func12, Try.ntmps12
  go_wp2
  refine bodyPost_ret (v := .agg #[.string (bs a), .int .i64 b, .int .i64 d]) (by simp [results, Try.results12, go_sem]) rfl ⟨rfl, (((Below.refl _ _).alloc (Nat.le_refl _) _).alloc (by simp) _).alloc (by simp; omega) _⟩
end Go.Proofs.Ytnkpbahapaocbaa
