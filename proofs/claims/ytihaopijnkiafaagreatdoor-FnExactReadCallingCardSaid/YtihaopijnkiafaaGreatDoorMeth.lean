/- Methods and calls among the arguments of a law: opened, measured, copied, compared, marked. No conditions beyond those stated. -/
import Derived.Test.YtihaopijnkiafaaGreatDoorStrs
import Derived.Test.YtihaopijnkiafaaGreatDoorHelp2
set_option linter.unusedVariables false
set_option linter.unusedSimpArgs false
set_option maxRecDepth 100000
namespace Go.Proofs.YtihaopijnkiafaaGreatDoor
open Go.RowKit Go.ChangeShapes Go.WideShapes Go.Joins

/-- A method: its name, its stage, its changes. -/
structure Meth where
  nm : List UInt8
  st : Int
  ch : List (List UInt8)
/-- The value is a method that reads as m. -/
def InMethod (W : World) (v : Value) (m : Meth) : Prop := ∃ v2, v = .agg #[.string (bs m.nm), .int .i64 m.st, v2] ∧ m.nm.length ≤ maxLen ∧ (Lit.int .i64 m.st).wf = true ∧ InStrs W v2 m.ch
theorem open_inMethod {H : Type} {enc : TypeId × Value → H} {W : World} {base : Nat} {spare : Nat → Bool} {held : Bool} {r : Reach} {b0 : Nat} {v : Value} {d : DataW H} {ps : List MemPlace}
    (hval : Value.okWide Tryz.prog W r b0 24 v) (h : DataW.Trod enc Tryz.prog W base spare held 24 v d ps) : ∃ m, InMethod W v m := by
  obtain ⟨v0, v1, v2, y0, y1, y2, n, rfl, _, _, t0, t1, t2⟩ := open_agg3 Tryz.underlying24 (by kernel_rfl) (by kernel_rfl) hval h
  obtain ⟨s, e0, _, hs⟩ := DataW.trod_string Tryz.underlying9 t0
  obtain ⟨k, e1, _, hk⟩ := DataW.trod_int Tryz.underlying3 t1
  obtain ⟨l, hl⟩ := inStrs_of_trod t2
  injection e0 with e0 _
  injection e1 with e1 _
  subst e0 e1
  obtain ⟨s, rfl⟩ := bs_surj s
  exact ⟨⟨s, k, l⟩, v2, rfl, by rw [← bs_size]; exact hs, hk, hl⟩
/-- The value is a pair of calls. -/
def InCalls (W : World) (v : Value) (k : List UInt8 × List UInt8) : Prop := v = .agg #[.string (bs k.1), .string (bs k.2)] ∧ k.1.length ≤ maxLen ∧ k.2.length ≤ maxLen
theorem open_inCalls {H : Type} {enc : TypeId × Value → H} {W : World} {base : Nat} {spare : Nat → Bool} {held : Bool} {r : Reach} {b0 : Nat} {v : Value} {d : DataW H} {ps : List MemPlace}
    (hval : Value.okWide Tryz.prog W r b0 26 v) (h : DataW.Trod enc Tryz.prog W base spare held 26 v d ps) : ∃ k, InCalls W v k := by
  obtain ⟨v0, v1, y0, y1, n, rfl, _, _, t0, t1⟩ := open_agg2 Tryz.underlying26 (by kernel_rfl) (by kernel_rfl) hval h
  obtain ⟨s, e0, _, hs⟩ := DataW.trod_string Tryz.underlying9 t0
  obtain ⟨s2, e1, _, hs2⟩ := DataW.trod_string Tryz.underlying9 t1
  injection e0 with e0 _
  injection e1 with e1 _
  subst e0 e1
  obtain ⟨s, rfl⟩ := bs_surj s
  obtain ⟨s2, rfl⟩ := bs_surj s2
  exact ⟨(s, s2), rfl, by rw [← bs_size]; exact hs, by rw [← bs_size]; exact hs2⟩

theorem alloc_size (w : World) (o : Obj) : (w.alloc o).heap.size = w.heap.size + 1 := by simp
theorem own_set {w : World} {base : Nat} {e : TypeId} {size : Nat} {v : Value} {n : Nat} {xs : List Value} {p : Addr} {u : Value} (h : w.ownsRow base e size v n xs) (hp : p.block < base) : (w.setCell p u).ownsRow base e size v n xs := by
  refine ⟨h.1, ?_⟩
  rcases h.2 with h | ⟨g, cap, cur, hv, hg, hh, r⟩
  · exact .inl h
  · exact .inr ⟨g, cap, cur, hv, hg, (Below.heap_setCell w p u g (by omega)).trans hh, r⟩
/-- A block of three cells is read as before behind a call that makes memory. -/
theorem m_box {w w1 : World} {g : Nat} {t : TypeId} {a b c : Value} (h1 : Below w.heap.size w w1) (h : Blk w g t #[a, b, c]) :
    w1.cell? ⟨g, 0, none⟩ = some a ∧ w1.cell? ⟨g, 1, none⟩ = some b ∧ w1.cell? ⟨g, 2, none⟩ = some c ∧ w1.frozen? ⟨g, 0, none⟩ = false ∧ w1.frozen? ⟨g, 1, none⟩ = false ∧ w1.frozen? ⟨g, 2, none⟩ = false := by
  have h2 := h.below h1 h.lt
  exact ⟨h2.cell 0, h2.cell 1, h2.cell 2, h2.frozen 0, h2.frozen 1, h2.frozen 2⟩
/-- What szMethod answers: what is left of a budget, or less than 0. -/
def LeftM (w : World) (m : Meth) (left : Int) (e : Ending) (w' : World) : Prop := ∃ r : Int, e = .returned (.int .i64 r) ∧ Below w.heap.size w w' ∧ -1 ≤ r ∧ (0 ≤ r → r = left - m.nm.length - m.ch.length - totL m.ch)
theorem szMethod_any (m : Meth) (v : Value) (left : Int) (w : World) (hv : InMethod w v m) (h0 : 0 ≤ left) (h1 : left ≤ 1048576) :
    Calls Tryz.prog 4 #[v, .int .i64 left] w (LeftM w m left) := by
  obtain ⟨_, rfl, hn, _, A, n, c, rfl, hn2, hr, hs⟩ := hv
  obtain ⟨nm, st, ch⟩ := m
  dsimp only at hn hr hs
  have hl := hid (show ch.length = n by have := hr.1; rw [strV_len] at this; exact this)
  have hw := IntWalk.i64_in (left - (nm.length : Int)) (by unfold maxLen at hn; omega)
  have HZ := fun (a : Int) (ha : 0 ≤ a) (ha1 : a ≤ 1048576) (w0 : World) (rd : Rd w0 A n (strV ch)) => hid (szStringS_any A n c ch a w0 rd hn2 hs ha ha1)
  have HS := hid hs
  have RS := hid hr
  clear hr hs
  go_enter Tryz.func4, Tryz.ntmps4
  by_cases hlt0 : left - (nm.length : Int) < 0
  · go_wp2
    go_ret
    exact ⟨-1, rfl, (Below.refl _ _).alloc (Nat.le_refl _) _, by omega, by omega⟩
  · go_wp2_with fail
    refine (HZ _ (by omega) (by omega) _ (RS.out.alloc _)).out.mono ?_
    rintro e w0 ⟨r, rfl, rfl, hr1, hr2⟩
    by_cases hneg : r < 0
    · go_wp2
      go_ret
      exact ⟨-1, rfl, (Below.refl _ _).alloc (Nat.le_refl _) _, by omega, by omega⟩
    · have hsum := hr2 (by omega)
      have HSm := hid hsum
      clear hsum hr2
      go_wp2
      go_ret
      exact ⟨r, rfl, (Below.refl _ _).alloc (Nat.le_refl _) _, by omega, fun _ => by rw [HSm.out, hl.out]⟩

/-- A method comes back whose changes are the call's own. -/
def OneM (w : World) (m : Meth) (e : Ending) (w' : World) : Prop := ∃ v2, e = .returned (.agg #[.string (bs m.nm), .int .i64 m.st, v2]) ∧ w'.ownsRow w.heap.size 9 1 v2 m.ch.length (strV m.ch) ∧ Below w.heap.size w w'
theorem toMethod_any (m : Meth) (A : Option Addr) (n c : Nat) (w : World) (hr : Rd w A n (strV m.ch)) (hn : n ≤ 1048576) :
    Calls Tryz.prog 7 #[.agg #[.string (bs m.nm), .int .i64 m.st, .slice A n c]] w (OneM w m) := by
  obtain ⟨nm, st, ch⟩ := m
  have HT := fun (w0 : World) (rd : Rd w0 A n (strV ch)) => hid (toStringS_any A n c ch w0 rd hn)
  have RS := hid hr
  clear hr
  go_enter Tryz.func7, Tryz.ntmps7
  go_wp2_with fail
  refine (HT _ (((RS.out.alloc _).alloc _).alloc _)).out.mono ?_
  rintro e w1 ⟨v1, rfl, o1, b1⟩
  obtain ⟨A1, c1, rfl, _⟩ := own_shape o1
  have hq := m_box b1 (Blk.new _ _ _)
  have hq2 := m_box b1 ((Blk.new _ _ #[.string (bs []), .int .i64 0, .slice none 0 0]).alloc _)
  simp only [alloc_size] at hq hq2
  obtain ⟨q0, q1, q2, f0, f1, f2⟩ := hq
  obtain ⟨p0, p1, p2, g0, g1, g2⟩ := hq2
  have HB := hid b1
  have HO := hid o1
  clear b1 o1
  go_wp2
  refine bodyPost_ret (v := .agg #[.string (bs nm), .int .i64 st, .slice A1 ch.length c1]) (by simp [results, Tryz.results7, go_sem, p0, p1, p2, q0, q1, q2]) rfl ⟨_, rfl, ?_, ?_⟩
  · have O := HO.out
    simp only [alloc_size] at O
    refine own_mono (own_set (own_set (own_set (own_set O ?_) ?_) ?_) ?_) ?_ <;> first | omega | (simp; done) | (simp; omega)
  · have B := HB.out
    simp only [alloc_size] at B
    have B1 : Below w.heap.size w w1 := ((((Below.refl _ _).alloc (Nat.le_refl _) _).alloc (by simp) _).alloc (by simp; omega) _).trans (B.mono (by omega))
    exact (((B1.setCell (by simp; omega) _).setCell (by simp) _).setCell (by simp) _).setCell (by simp) _
end Go.Proofs.YtihaopijnkiafaaGreatDoor
