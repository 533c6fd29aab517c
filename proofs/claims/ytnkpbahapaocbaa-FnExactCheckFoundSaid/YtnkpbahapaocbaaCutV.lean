/- Rows of cuts: three cells for each. No conditions beyond those stated. -/
import Derived.Test.YtnkpbahapaocbaaApp
import Derived.Test.YtnkpbahapaocbaaCutP
set_option linter.unusedVariables false
set_option linter.unusedSimpArgs false
set_option maxRecDepth 100000
namespace Go.Proofs.Ytnkpbahapaocbaa
open Go.RowKit

/-- The cells of one cut. -/
def cutC (c : List UInt8 × Int × Int) : List Value := [.string (bs c.1), .int .i64 c.2.1, .int .i64 c.2.2]
/-- The cells of a row of cuts. -/
def cutV : List (List UInt8 × Int × Int) → List Value
  | [] => []
  | c :: l => cutC c ++ cutV l
theorem cutV_len (l : List (List UInt8 × Int × Int)) : (cutV l).length = l.length * 3 := by
  induction l with
  | nil => rfl
  | cons c l ih => simp only [cutV, cutC, List.length_append, List.length_cons, List.length_nil, ih]; omega
theorem cutV_app (a b : List (List UInt8 × Int × Int)) : cutV a ++ cutV b = cutV (a ++ b) := by
  induction a with
  | nil => rfl
  | cons c a ih => simp only [cutV, List.cons_append, List.append_assoc, ih]
theorem cutV_one (l : List (List UInt8 × Int × Int)) : ∀ u ∈ cutV l, u.oneCell' = true := by
  induction l with
  | nil => intro u hu; cases hu
  | cons c l ih =>
    intro u hu
    simp only [cutV, cutC, List.cons_append, List.nil_append, List.mem_cons] at hu
    rcases hu with rfl | rfl | rfl | hu
    · rfl
    · rfl
    · rfl
    · exact ih u hu
theorem cutV_at (l : List (List UInt8 × Int × Int)) (i : Nat) (h : i < l.length) : (cutV l)[i * 3]? = some (.string (bs l[i].1)) ∧ (cutV l)[i * 3 + 1]? = some (.int .i64 l[i].2.1) ∧ (cutV l)[i * 3 + 2]? = some (.int .i64 l[i].2.2) := by
  induction l generalizing i with
  | nil => simp at h
  | cons c l ih =>
    cases i with
    | zero => exact ⟨rfl, rfl, rfl⟩
    | succ i =>
      obtain ⟨h0, h1, h2⟩ := ih i (by simpa using h)
      have e : ∀ r, (cutV (c :: l))[(i + 1) * 3 + r]? = (cutV l)[i * 3 + r]? := fun r => by
        rw [cutV, List.getElem?_append_right (by simp only [cutC, List.length_cons, List.length_nil]; omega)]
        simp only [cutC, List.length_cons, List.length_nil]
        congr 1; omega
      exact ⟨(e 0).trans h0, (e 1).trans h1, (e 2).trans h2⟩
theorem cutV_set (a b : List (List UInt8 × Int × Int)) (x y : List UInt8 × Int × Int) (j : Nat) (hj : a.length = j) : (((cutV (a ++ x :: b)).set (j * 3) (.string (bs y.1))).set (j * 3 + 1) (.int .i64 y.2.1)).set (j * 3 + 2) (.int .i64 y.2.2) = cutV (a ++ y :: b) := by
  have hl : (cutV a).length = j * 3 := by rw [cutV_len, hj]
  rw [← cutV_app, ← cutV_app, List.set_append_right _ _ (by omega), List.set_append_right _ _ (by omega), List.set_append_right _ _ (by omega)]
  rw [hl, Nat.sub_self, show j * 3 + 1 - j * 3 = 1 by omega, show j * 3 + 2 - j * 3 = 2 by omega]
  rfl
/-- A slice of cuts reads so. -/
def RdC (w : World) (A : Option Addr) (n : Nat) (l : List (List UInt8 × Int × Int)) : Prop :=
  l.length = n ∧ ∀ (i : Nat) (h : i < l.length), ∃ b o, A = some ⟨b, o, none⟩ ∧ w.cell? ⟨b, o + i * 3, none⟩ = some (.string (bs l[i].1)) ∧ w.cell? ⟨b, o + i * 3 + 1, none⟩ = some (.int .i64 l[i].2.1) ∧ w.cell? ⟨b, o + i * 3 + 2, none⟩ = some (.int .i64 l[i].2.2)
theorem RdC.keep {w w' : World} {A : Option Addr} {n : Nat} {l : List (List UInt8 × Int × Int)} (h : RdC w A n l) (hk : ∀ b o u, w.cell? ⟨b, o, none⟩ = some u → w'.cell? ⟨b, o, none⟩ = some u) : RdC w' A n l :=
  ⟨h.1, fun i hi => by
    obtain ⟨b, o, e, c0, c1, c2⟩ := h.2 i hi
    exact ⟨b, o, e, hk _ _ _ c0, hk _ _ _ c1, hk _ _ _ c2⟩⟩
theorem RdC.below {w w' : World} {A : Option Addr} {n : Nat} {l : List (List UInt8 × Int × Int)} (h : RdC w A n l) (hb : Below w.heap.size w w') : RdC w' A n l :=
  h.keep fun b o u hc => (hb.cell (World.block_lt_of_cell? w _ hc)).trans hc
theorem RdC.alloc {w : World} {A : Option Addr} {n : Nat} {l : List (List UInt8 × Int × Int)} (h : RdC w A n l) (o : Obj) : RdC (w.alloc o) A n l := h.below ((Below.refl _ _).alloc (Nat.le_refl _) _)
theorem own_shapeC {w : World} {base : Nat} {v : Value} {n : Nat} {l : List (List UInt8 × Int × Int)} (h : w.ownsRow base 38 3 v n (cutV l)) : ∃ A c, v = .slice A n c ∧ n ≤ c ∧ c ≤ maxLen ∧ RdC w A n l ∧ ∀ b o s, A = some ⟨b, o, s⟩ → base ≤ b ∧ b < w.heap.size := by
  have hx : l.length = n := by have := h.1; rw [cutV_len] at this; omega
  rcases h.2 with ⟨rfl, rfl⟩ | ⟨g, cap, cur, rfl, hb, hg, hc, hm, _⟩
  · exact ⟨none, 0, rfl, Nat.le_refl _, by unfold maxLen; omega, ⟨hx, fun i hi => by omega⟩, by simp⟩
  · refine ⟨some ⟨g, 0, none⟩, cap, rfl, hc, hm, ⟨hx, fun i hi => ⟨g, 0, rfl, ?_⟩⟩, ?_⟩
    · obtain ⟨c0, c1, c2⟩ := cutV_at l i hi
      have h0 := (h.cellAt (i * 3) (by omega)).trans c0
      have h1 := (h.cellAt (i * 3 + 1) (by omega)).trans c1
      have h2 := (h.cellAt (i * 3 + 2) (by omega)).trans c2
      simp only [Nat.zero_add]
      exact ⟨h0, h1, h2⟩
    · intro b o s e
      injection e with e
      injection e with e1 _ _
      exact ⟨by omega, by rw [← e1]; exact (Array.getElem?_eq_some_iff.1 hg).1⟩
theorem infoCut : (Try.prog.info? 38).map (fun i => (i.zero, i.size, i.bytes)) = some (some (.agg #[.string ByteArray.empty, .int .i64 0, .int .i64 0]), 3, 32) := by kernel_rfl
/-- append of one cut onto an owned row, at a step of a region that draws. -/
theorem step_app_cut {ops : Array Oper} {o : Oper} {a : Act} {w : World} {K : Act → World → Prop} {Q : Exit → Act → World → Prop} {E : Prop} (hgd : o.guard = none) (s x : Operand)
    (ho : o.op = .call { callee := .builtin .append, args := #[s, x], argTypes := #[42, 42] })
    (base : Nat) (v : Value) (n : Nat) (xs : List (List UInt8 × Int × Int)) (hs : a.eval s = v) (hown : w.ownsRow base 38 3 v n (cutV xs))
    (B : Nat) (c : Nat) (z : List UInt8 × Int × Int) (hx : a.eval x = .slice (some ⟨B, 0, none⟩) 1 c) (hB : w.heap[B]? = some (.cells (cutC z).toArray 38 (0, 0))) (hsz : n ≤ 100000000000) (hbase : base ≤ w.heap.size) (H : Nat) (hH : w.heap.size = H)
    (h : ∀ g cap w', w'.ownsRow base 38 3 (.slice (some ⟨g, 0, none⟩) (n + 1) cap) (n + 1) (cutV (xs ++ [z])) → w.grownBy w' v.ownBlock → (v.ownBlock = some g ∨ g = H) → g < w'.heap.size → K (a.put o.dst (.slice (some ⟨g, 0, none⟩) (n + 1) cap)) w') :
    if Region.wanted o (yielded ops a.tmps) = true then Oper.wp Try.prog o a w K Q else E := by
  obtain ⟨i0, hi, hz0, hz1, hz2⟩ := info_parts infoCut
  refine step_append_lies w hgd s x 42 ho base 38 i0 _ 3 32 Try.underlying42 hi hz0 hz1 hz2 rfl (by omega) v n (cutV xs) hs hown ⟨B, 0, none⟩ 1 c (cutC z) hx rfl ?_ ?_ (by omega) (by unfold maxLen; omega) (by omega) hbase H hH ?_
  · intro j u hu
    have := World.news_of_block hB j u
    simpa using this hu
  · have := cutV_one [z]
    simpa [cutV] using this
  · intro g cap w' h1 h2 h3 h4
    refine h g cap w' ?_ h2 h3 h4
    rw [← cutV_app]
    simpa [cutV] using h1
end Go.Proofs.Ytnkpbahapaocbaa
