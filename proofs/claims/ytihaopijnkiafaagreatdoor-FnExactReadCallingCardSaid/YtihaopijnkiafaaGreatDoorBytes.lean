/- Rows of bytes that a call makes: []byte(s), make([]byte, n), and string(b) of such a row. No conditions beyond those stated. -/
import Derived.Test.YtihaopijnkiafaaGreatDoorMem
set_option linter.unusedVariables false
set_option linter.unusedSimpArgs false
set_option maxRecDepth 100000
namespace Go.Proofs.YtihaopijnkiafaaGreatDoor
open Go.RowKit

/-- The first cells of block g read cs, and none of them is frozen. -/
def Row (w : World) (g : Nat) (cs : List Value) : Prop := ∀ i u, cs[i]? = some u → w.cell? ⟨g, i, none⟩ = some u ∧ w.frozen? ⟨g, i, none⟩ = false
section
variable {w w' : World} {g : Nat} {cs : List Value}
theorem Row.cell (h : Row w g cs) {i : Nat} (hi : i < cs.length) : w.cell? ⟨g, i, none⟩ = some cs[i] := (h i _ (List.getElem?_eq_getElem hi)).1
theorem Row.frozen (h : Row w g cs) {i : Nat} (hi : i < cs.length) : w.frozen? ⟨g, i, none⟩ = false := (h i _ (List.getElem?_eq_getElem hi)).2
theorem Row.set_ (h : Row w g cs) {j : Nat} (hj : j < cs.length) (v : Value) : Row (w.setCell ⟨g, j, none⟩ v) g (cs.set j v) := by
  intro i u hu
  rw [List.getElem?_set] at hu
  by_cases hij : j = i
  · subst hij
    rw [if_pos rfl, if_pos hj] at hu
    injection hu with hu
    subst hu
    exact ⟨World.cell?_setCell_same _ _ _ (h.cell hj), by rw [World.frozen?_setCell]; exact h.frozen hj⟩
  · rw [if_neg hij] at hu
    have := h i u hu
    exact ⟨(World.cell?_setCell_other _ _ _ _ (by intro e; injection e with _ e2 _; exact hij e2)).trans this.1, by rw [World.frozen?_setCell]; exact this.2⟩
theorem Row.drewN (h : Row w g cs) (k : Nat) : Row (w.drewN k) g cs := h
theorem Row.below (h : Row w g cs) (hb : Below w.heap.size w w') : Row w' g cs := by
  intro i u hu
  have := h i u hu
  have hl := World.block_lt_of_cell? w _ this.1
  exact ⟨(hb.cell hl).trans this.1, (hb.frozen hl).trans this.2⟩
theorem Row.alloc (h : Row w g cs) (o : Obj) : Row (w.alloc o) g cs := h.below ((Below.refl _ _).alloc (Nat.le_refl _) _)
end
def bytesV (l : List UInt8) : List Value := l.map fun b => .int .u8 (b.toNat : Int)
theorem bytesV_len (l : List UInt8) : (bytesV l).length = l.length := by simp [bytesV]
@[go_sem] theorem bytesV_at (l : List UInt8) (k : Nat) (h : k < (bytesV l).length) : (bytesV l)[k] = .int .u8 ((l[k]'(by simpa [bytesV] using h)).toNat : Int) := by simp [bytesV]
theorem bytesV_set (l : List UInt8) (k : Nat) (b : UInt8) : (bytesV l).set k (.int .u8 (b.toNat : Int)) = bytesV (l.set k b) := by simp [bytesV, List.map_set]

theorem string_of_row {P : Program} (W : World) (src dst e : TypeId) (g c : Nat) (l : List UInt8) (hs : P.underlying src = some (.slice e)) (he : P.underlying e = some (.int .u8)) (hd : P.underlying dst = some .string) (h : Row W g (bytesV l)) :
    (convert src dst (.slice (some ⟨g, 0, none⟩) l.length c)).run P W = .ok (.string (bs l)) W := by
  refine run_convert_bytes_back W src dst e ⟨g, 0, none⟩ c l hs he hd ?_
  intro j hj
  rw [show (⟨g, 0, none⟩ : Addr).add j = ⟨g, j, none⟩ by unfold Addr.add; split <;> simp_all]
  have := h.cell (i := j) (by rw [bytesV_len]; exact hj)
  rwa [bytesV_at] at this
theorem row_of_string {P : Program} (w : World) (src dst e : TypeId) (l : List UInt8) (hs : P.underlying src = some .string) (hd : P.underlying dst = some (.slice e)) (he : P.underlying e = some (.int .u8)) :
    ∃ c W, (convert src dst (.string (bs l))).run P w = .ok (.slice (some ⟨w.heap.size, 0, none⟩) l.length c) W ∧ Row W w.heap.size (bytesV l) ∧ Below w.heap.size w W ∧ W.heap.size = w.heap.size + 1 ∧ l.length ≤ c := by
  refine ⟨_, _, (run_bytes_of_string (P := P) w src dst e (bs l) hs hd he).trans (by rw [bs_size]), ?_, ?_, ?_, grownCap_ge w l.length 0 e⟩
  · intro i u hu
    have hi : i < l.length := by
      have := (List.getElem?_eq_some_iff.1 hu).1
      rwa [bytesV_len] at this
    have hrow : (bytesRow (bs l) (grownCap w l.length 0 e))[i]? = some u := by
      rw [← hu]
      simp [bytesRow, bs, bytesV, Array.getElem?_append, hi]
    have hsz : i < (bytesRow (bs l) (grownCap w l.length 0 e)).size := (Array.getElem?_eq_some_iff.1 hrow).1
    constructor
    · exact (World.cell?_alloc_mark w.drew _ e _ i).trans hrow
    · refine (World.frozen?_alloc_mark w.drew _ e _ _ i).trans ?_
      simp only [Bool.and_eq_false_iff, decide_eq_false_iff_not]
      exact .inl (by omega)
  · exact (Below.refl _ _).drew.alloc (Nat.le_refl _) _
  · simp
end Go.Proofs.YtihaopijnkiafaaGreatDoor
