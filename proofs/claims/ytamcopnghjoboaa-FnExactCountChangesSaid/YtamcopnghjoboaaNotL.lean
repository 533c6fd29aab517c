/- Plain laws of a place notation, read whole; slices whose elements are slices of strings of the call's own. No conditions beyond those stated. -/
import Derived.Test.YtamcopnghjoboaaNotK
import Derived.Test.YtamcopnghjoboaaNotM
set_option linter.unusedVariables false
set_option linter.unusedSimpArgs false
set_option maxRecDepth 100000
namespace Go.Proofs.Ytamcopnghjoboaa
open Go.RowKit

theorem block_le {N : Nat} {s : List UInt8} (f a : Nat) (ha : a ≤ s.length) (hf : s.length + 1 - a ≤ f) (h : (blockL N s f a).2.2 = none) : (blockL N s f a).2.1 ≤ s.length ∧ a < (blockL N s f a).2.1 ∧ 1 ≤ (blockL N s f a).1.length ∧ (blockL N s f a).1.length + a ≤ (blockL N s f a).2.1 := by
  induction f generalizing a with
  | zero => omega
  | succ f ih =>
    cases hb : badW N s a
    · have h1 := badW_no hb
      have h2 := wEnd_le s a ha
      cases he : endsB s (wEnd s a)
      · have hl : wEnd s a < s.length := by
          unfold endsB at he
          simp only [Bool.or_eq_false_iff, decide_eq_false_iff_not] at he
          omega
        obtain ⟨b, hbd⟩ : ∃ b, b = if s.getD (wEnd s a) 0 = 46 then wEnd s a + 1 else wEnd s a := ⟨_, rfl⟩
        have hb1 : wEnd s a ≤ b ∧ b ≤ s.length := by rw [hbd]; split <;> omega
        rw [block_on hb he hbd] at h ⊢
        have := ih b hb1.2 (by omega) h
        simp only [List.length_cons]
        omega
      · rw [block_end hb he]
        simp only [List.length_cons, List.length_nil]
        omega
    · rw [block_bad hb] at h
      cases h
/-- What the blocks of a notation read, from a place on; or where a change is wrong. The fuel is more than what is left. -/
def blocksL (N : Nat) (s : List UInt8) : Nat → Nat → List (List (List UInt8)) × Option Nat
  | 0, _ => ([], none)
  | f + 1, a =>
    match (blockL N s (s.length + 1) a).2.2 with
    | some p => ([], some p)
    | none => if (blockL N s (s.length + 1) a).2.1 = s.length then ([(blockL N s (s.length + 1) a).1], none) else ((blockL N s (s.length + 1) a).1 :: (blocksL N s f ((blockL N s (s.length + 1) a).2.1 + 1)).1, (blocksL N s f ((blockL N s (s.length + 1) a).2.1 + 1)).2)
theorem blocks_bad {N : Nat} {s : List UInt8} {f a p : Nat} (h : (blockL N s (s.length + 1) a).2.2 = some p) : blocksL N s (f + 1) a = ([], some p) := by rw [blocksL, h]
theorem blocks_end {N : Nat} {s : List UInt8} {f a : Nat} (h : (blockL N s (s.length + 1) a).2.2 = none) (he : (blockL N s (s.length + 1) a).2.1 = s.length) : blocksL N s (f + 1) a = ([(blockL N s (s.length + 1) a).1], none) := by
  rw [blocksL, h]; simp only []; rw [if_pos he]
theorem blocks_on {N : Nat} {s : List UInt8} {f a : Nat} (h : (blockL N s (s.length + 1) a).2.2 = none) (he : (blockL N s (s.length + 1) a).2.1 ≠ s.length) : blocksL N s (f + 1) a = ((blockL N s (s.length + 1) a).1 :: (blocksL N s f ((blockL N s (s.length + 1) a).2.1 + 1)).1, (blocksL N s f ((blockL N s (s.length + 1) a).2.1 + 1)).2) := by
  rw [blocksL, h]; simp only []; rw [if_neg he]
/-- The changes of some blocks. -/
def mirs (B : List (List (List UInt8))) : List (List UInt8) := (B.map mirL).flatten
def outL (B : List (List (List UInt8))) : List (List UInt8) := if 1 < B.length then mirs B else B.flatten
theorem mirs_step (B : List (List (List UInt8))) (j : Nat) (h : j < B.length) : mirs (B.take (j + 1)) = mirs (B.take j) ++ mirL B[j] := by
  unfold mirs
  rw [List.take_succ_eq_append_getElem h, List.map_append, List.flatten_append]
  simp only [List.map_cons, List.map_nil, List.flatten_cons, List.flatten_nil, List.append_nil]
theorem mirs_room (B : List (List (List UInt8))) (hB : ∀ l ∈ B, l.length ≤ 1000) : (mirs B).length ≤ 2000 * B.length := by
  induction B with
  | nil => simp [mirs]
  | cons l B ih =>
    have h1 := hB l (by simp)
    have h2 := ih (fun x hx => hB x (by simp [hx]))
    simp only [mirs, List.map_cons, List.flatten_cons, List.length_append, List.length_cons] at h2 ⊢
    have h3 : (mirL l).length ≤ 2000 := by simp [mirL]; omega
    omega
/-- What ReadNotation answers. -/
def readR (n : Int) (s : List UInt8) : List (List UInt8) × Int × Int × Bool :=
  if ¬ (3 ≤ n ∧ n ≤ 8) then ([], 0, 0, false)
  else if s = [] ∨ 200 < s.length then ([], 1, 0, false)
  else match blocksL n.toNat s (s.length + 1) 0 with
    | (_, some p) => ([], 2, (p : Int), false)
    | (B, none) => if 4 < B.length ∨ 40 < (outL B).length then ([], 3, 0, false) else (outL B, 0, 0, true)
theorem read_bad {N : Nat} {s : List UInt8} (h3 : 3 ≤ N) (h8 : N ≤ 8) (hs : ¬ (s = [] ∨ 200 < s.length)) {B : List (List (List UInt8))} {p : Nat} (h : blocksL N s (s.length + 1) 0 = (B, some p)) : readR (N : Int) s = ([], 2, (p : Int), false) := by
  unfold readR
  rw [if_neg (by omega), if_neg hs, Int.toNat_natCast, h]
theorem read_good {N : Nat} {s : List UInt8} (h3 : 3 ≤ N) (h8 : N ≤ 8) (hs : ¬ (s = [] ∨ 200 < s.length)) {B : List (List (List UInt8))} (h : blocksL N s (s.length + 1) 0 = (B, none)) : readR (N : Int) s = if 4 < B.length ∨ 40 < (outL B).length then ([], 3, 0, false) else (outL B, 0, 0, true) := by
  unfold readR
  rw [if_neg (by omega), if_neg hs, Int.toNat_natCast, h]
theorem readR_le (n : Int) (s : List UInt8) : (readR n s).1.length ≤ 40 := by
  unfold readR
  split
  · simp
  · split
    · simp
    · split
      · simp
      · split
        · simp
        · rename_i h; simp at h ⊢; omega
/-- A slice of strings, two numbers and a bool come back; the slice is the call's own. -/
def ResN (w : World) (R : List (List UInt8) × Int × Int × Bool) (e : Ending) (w' : World) : Prop := ∃ v, e = .returned (.tuple #[v, .int .i64 R.2.1, .int .i64 R.2.2.1, .bool R.2.2.2]) ∧ w'.ownsRow w.heap.size 9 1 v R.1.length (strV R.1) ∧ Below w.heap.size w w'
theorem ResN.no {w w' : World} {R : List (List UInt8) × Int × Int × Bool} {a b : Int} (hR : R = ([], a, b, false)) (h : Below w.heap.size w w') : ResN w R (.returned (.tuple #[.slice none 0 0, .int .i64 a, .int .i64 b, .bool false])) w' := by
  subst hR; exact ⟨_, rfl, World.ownsRow_nil _ _ _ _, h⟩
theorem ResN.yes {w w' : World} {R : List (List UInt8) × Int × Int × Bool} {v : Value} {l : List (List UInt8)} (hR : R = (l, 0, 0, true)) (ho : w'.ownsRow w.heap.size 9 1 v l.length (strV l)) (h : Below w.heap.size w w') : ResN w R (.returned (.tuple #[v, .int .i64 0, .int .i64 0, .bool true])) w' := by
  subst hR; exact ⟨_, rfl, ho, h⟩
/-- The slice v of slices is the call's own, its elements are the call's own too and read as LL. -/
def OwnOS (w : World) (base : Nat) (v : Value) (LL : List (List (List UInt8))) : Prop := ∃ vs : List Value, w.ownsRow base 25 1 v LL.length vs ∧ ∀ (i : Nat) (h1 : i < vs.length) (h2 : i < LL.length), w.ownsRow base 9 1 vs[i] LL[i].length (strV LL[i]) ∧ ∀ k, vs[i].ownBlock = some k → v.ownBlock = some k → False
theorem OwnOS.nil (w : World) (base : Nat) : OwnOS w base (.slice none 0 0) [] := ⟨[], World.ownsRow_nil _ _ _ _, fun i i1 _ => by simp at i1⟩
theorem OwnOS.below {w w' : World} {base : Nat} {v : Value} {LL : List (List (List UInt8))} (h : OwnOS w base v LL) (hb : Below w.heap.size w w') : OwnOS w' base v LL := by
  obtain ⟨vs, h1, h2⟩ := h
  exact ⟨vs, own_below h1 hb, fun i i1 i2 => ⟨own_below (h2 i i1 i2).1 hb, (h2 i i1 i2).2⟩⟩
theorem OwnOS.one {w w' : World} {base G : Nat} {v : Value} {LL : List (List (List UInt8))} (h : OwnOS w base v LL) (g : w.grownBy w' (some G)) (hG : G < base) : OwnOS w' base v LL := by
  obtain ⟨vs, h1, h2⟩ := h
  have key : ∀ {e : TypeId} {v : Value} {n : Nat} {xs : List Value}, w.ownsRow base e 1 v n xs → w'.ownsRow base e 1 v n xs := fun h => own_other h g (fun k hk e => by have h3 := (h.lt k hk).1; injection e with e; omega)
  exact ⟨vs, key h1, fun i i1 i2 => ⟨key (h2 i i1 i2).1, (h2 i i1 i2).2⟩⟩
theorem OwnOS.shape {w : World} {base : Nat} {v : Value} {LL : List (List (List UInt8))} (h : OwnOS w base v LL) : ∃ A c vs, v = .slice A LL.length c ∧ LL.length ≤ c ∧ w.ownsRow base 25 1 v LL.length vs ∧ vs.length = LL.length ∧ ∀ (i : Nat) (h1 : i < vs.length) (h2 : i < LL.length), w.ownsRow base 9 1 vs[i] LL[i].length (strV LL[i]) ∧ ∀ k, vs[i].ownBlock = some k → v.ownBlock = some k → False := by
  obtain ⟨vs, h1, h2⟩ := h
  obtain ⟨A, c, e, hc, _, rd, _⟩ := own_shape h1
  exact ⟨A, c, vs, e, hc, h1, rd.1, h2⟩
/-- One block more. -/
theorem OwnOS.app1 {W w5 : World} {base : Nat} {u v5 x : Value} {LL : List (List (List UInt8))} {vs : List Value} {l : List (List UInt8)} (hl : vs.length = LL.length) (h2 : ∀ (i : Nat) (h1 : i < vs.length) (h2 : i < LL.length), W.ownsRow base 9 1 vs[i] LL[i].length (strV LL[i]) ∧ ∀ k, vs[i].ownBlock = some k → u.ownBlock = some k → False)
    (ox : W.ownsRow base 9 1 x l.length (strV l)) (hx : ∀ k, x.ownBlock = some k → u.ownBlock = some k → False) (o5 : w5.ownsRow base 25 1 v5 (LL.length + 1) (vs ++ [x])) (g5 : W.grownBy w5 u.ownBlock) (f5 : v5.ownBlock = u.ownBlock ∨ v5.ownBlock = some W.heap.size) : OwnOS w5 base v5 (LL ++ [l]) := by
  refine ⟨vs ++ [x], by rw [List.length_append]; exact o5, fun i i1 i2 => ?_⟩
  rw [List.length_append, List.length_singleton] at i1 i2
  have key : ∀ (y : Value) (n : Nat) (xs : List Value), W.ownsRow base 9 1 y n xs → (∀ k, y.ownBlock = some k → u.ownBlock = some k → False) → w5.ownsRow base 9 1 y n xs ∧ ∀ k, y.ownBlock = some k → v5.ownBlock = some k → False := fun y n xs h hne => by
    refine ⟨own_other h g5 hne, fun k e1 e2 => ?_⟩
    rcases f5 with e | e
    · rw [e] at e2; exact hne k e1 e2
    · rw [e] at e2
      injection e2 with e2
      have := (h.lt k e1).2; omega
  by_cases hi : i < vs.length
  · rw [List.getElem_append_left hi, List.getElem_append_left (show i < LL.length by omega)]
    exact key _ _ _ (h2 i hi (by omega)).1 (h2 i hi (by omega)).2
  · have e1 : (vs ++ [x])[i]'(by rw [List.length_append, List.length_singleton]; exact i1) = x := by
      rw [List.getElem_append_right (by omega)]
      simp only [show i - vs.length = 0 by omega, List.getElem_cons_zero]
    have e2 : (LL ++ [l])[i]'(by rw [List.length_append, List.length_singleton]; exact i2) = l := by
      rw [List.getElem_append_right (by omega)]
      simp only [show i - LL.length = 0 by omega, List.getElem_cons_zero]
    rw [e1, e2]
    exact key _ _ _ ox hx
theorem OwnOS.cell {w : World} {base b o n c : Nat} {LL : List (List (List UInt8))} (h : OwnOS w base (.slice (some ⟨b, o, none⟩) n c) LL) (i : Nat) (hi : i < LL.length) : ∃ A c', w.cell? ⟨b, o + i, none⟩ = some (.slice A LL[i].length c') ∧ LL[i].length ≤ c' ∧ Rd w A LL[i].length (strV LL[i]) ∧ w.ownsRow base 9 1 (.slice A LL[i].length c') LL[i].length (strV LL[i]) := by
  obtain ⟨A, c2, vs, e, hc, h1, hl, h2⟩ := h.shape
  obtain ⟨A', c3, e3, _, _, rd, _⟩ := own_shape h1
  have ho := (h2 i (by omega) hi).1
  obtain ⟨A4, c4, e4, hc4, _, rd4, _⟩ := own_shape ho
  obtain ⟨b', o', e5, hcell⟩ := rd.at_ (k := i) (by omega)
  injection e with e6 e7 e8
  injection e3 with e9 e10 e11
  rw [e9] at e6
  rw [e5] at e9
  injection e9 with e9
  injection e9 with e12 e13 _
  rw [e4] at hcell
  rw [e4] at ho
  rw [e12, e13]
  exact ⟨A4, c4, hcell, hc4, rd4, ho⟩
theorem OwnOS.head {w : World} {base : Nat} {v : Value} {LL : List (List (List UInt8))} (h : OwnOS w base v LL) (hl : 0 < LL.length) : ∃ b o c, v = .slice (some ⟨b, o, none⟩) LL.length c ∧ LL.length ≤ c := by
  obtain ⟨A, c, vs, e, hc, h1, hvl, h2⟩ := h.shape
  obtain ⟨A', c3, e3, _, _, rd, _⟩ := own_shape h1
  obtain ⟨b', o', e5, hcell⟩ := rd.at_ (k := 0) hl
  rw [e5] at e3
  have e9 := e.symm.trans e3
  have e4 : c = c3 := by injection e9
  exact ⟨b', o', c3, e3, by omega⟩
theorem OwnOS.single {w : World} {base : Nat} {v : Value} {l : List (List UInt8)} (h : OwnOS w base v [l]) : ∃ b o c A c', v = .slice (some ⟨b, o, none⟩) 1 c ∧ 1 ≤ c ∧ w.cell? ⟨b, o, none⟩ = some (.slice A l.length c') ∧ w.ownsRow base 9 1 (.slice A l.length c') l.length (strV l) := by
  obtain ⟨b, o, c, rfl, hc⟩ := h.head (by simp)
  obtain ⟨A, c', k, hc', rd, ow⟩ := h.cell 0 (by simp)
  exact ⟨b, o, c, A, c', rfl, hc, k, ow⟩
theorem mirs_one (l : List (List UInt8)) : outL [l] = l := by simp [outL]
theorem outL_many {B : List (List (List UInt8))} (h : 1 < B.length) : outL B = mirs B := by unfold outL; rw [if_pos h]
end Go.Proofs.Ytamcopnghjoboaa
