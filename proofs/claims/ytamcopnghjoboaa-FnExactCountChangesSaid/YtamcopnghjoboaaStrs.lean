/- Slices of strings among the arguments of a law: opened as a list, measured, copied. No conditions beyond those stated. -/
import Derived.Test.YtamcopnghjoboaaApp
import Derived.Test.YtamcopnghjoboaaHelp2
set_option linter.unusedVariables false
set_option linter.unusedSimpArgs false
set_option maxRecDepth 100000
namespace Go.Proofs.Ytamcopnghjoboaa
open Go.RowKit Go.ChangeShapes Go.WideShapes

/-- The value is a slice of strings that reads as l. -/
def InStrs (W : World) (v : Value) (l : List (List UInt8)) : Prop := ∃ A n c, v = .slice A n c ∧ n ≤ maxLen ∧ Rd W A n (strV l) ∧ ∀ s ∈ l, s.length ≤ maxLen
theorem inStrs_of_trod {H : Type} {enc : TypeId × Value → H} {W : World} {base : Nat} {spare : Nat → Bool} {held : Bool} {fuel : Nat} {v : Value} {x : DataW H × List MemPlace}
    (h : DataW.trod enc Try.prog W base spare held fuel 25 [v] = some x) : ∃ l, InStrs W v l := by
  rcases open_strings Try.underlying25 Try.underlying9 (by kernel_rfl) h with ⟨hcs, _⟩ | ⟨a, len, cap, ss, hcs, _, hl, hm, hz, _, hcell, hsz⟩
  · injection hcs with hcs _
    subst hcs
    exact ⟨[], none, 0, 0, rfl, by unfold maxLen; omega, Rd.nil _ _, by simp⟩
  · injection hcs with hcs _
    subst hcs
    have hlen : len ≤ ss.length := by rw [hz]; split <;> omega
    refine ⟨(ss.take len).map fun s => s.data.toList, some a, len, cap, rfl, by omega, ⟨by simp [strV]; omega, fun h0 => ?_⟩, ?_⟩
    · obtain ⟨b, o, s⟩ := a
      have hs : s = none := by simpa [Addr.add] using World.cell?_spot (hcell 0 (by omega))
      subst hs
      refine ⟨b, o, rfl, fun j u hj => ?_⟩
      simp only [strV, List.map_map, List.getElem?_map, Option.map_eq_some_iff] at hj
      obtain ⟨s, hs, rfl⟩ := hj
      have hj2 : j < len := by
        have := (List.getElem?_eq_some_iff.1 hs).1
        simp at this; omega
      have hc := hcell j (by omega)
      rw [show (⟨b, o, none⟩ : Addr).add j = ⟨b, o + j, none⟩ by unfold Addr.add; split <;> simp_all] at hc
      rw [hc]
      rw [List.getElem?_take, if_pos hj2] at hs
      simp [List.getD, hs, bs]
    · intro s hs
      simp only [List.mem_map] at hs
      obtain ⟨t, ht, rfl⟩ := hs
      have := hsz t (List.mem_of_mem_take ht)
      rw [Array.length_toList]
      exact this
theorem open_inStrs {H : Type} {enc : TypeId × Value → H} {W : World} {base : Nat} {spare : Nat → Bool} {held : Bool} {r : Reach} {b0 : Nat} {v : Value} {d : DataW H} {ps : List MemPlace}
    (hval : Value.okWide Try.prog W r b0 25 v) (h : DataW.Trod enc Try.prog W base spare held 25 v d ps) : ∃ l, InStrs W v l := by
  obtain ⟨a0, len, cap, rfl⟩ := okWide_slice Try.underlying25 hval
  obtain ⟨fuel, hf⟩ := h
  exact inStrs_of_trod hf

def totL : List (List UInt8) → Nat
  | [] => 0
  | s :: l => s.length + totL l
theorem totL_app (a b : List (List UInt8)) : totL (a ++ b) = totL a + totL b := by
  induction a with
  | nil => simp [totL]
  | cons s a ih => simp [totL, ih]; omega
theorem totL_take (l : List (List UInt8)) (k : Nat) (h : k < l.length) : totL (l.take (k + 1)) = totL (l.take k) + l[k].length := by
  rw [List.take_succ_eq_append_getElem h, totL_app]; simp [totL]
theorem totL_mono (l : List (List UInt8)) (k : Nat) : totL (l.take k) ≤ totL l := by
  have := totL_app (l.take k) (l.drop k)
  rw [List.take_append_drop] at this; omega
theorem totL_mem {l : List (List UInt8)} {s : List UInt8} (h : s ∈ l) : s.length ≤ totL l := by
  induction l with
  | nil => cases h
  | cons t l ih =>
    simp only [List.mem_cons] at h
    simp only [totL]
    rcases h with rfl | h
    · omega
    · have := ih h; omega
/-- What szStringS answers: what is left of a budget, or less than 0. -/
def Left (w : World) (n : Nat) (l : List (List UInt8)) (left : Int) (e : Ending) (w' : World) : Prop := ∃ r : Int, e = .returned (.int .i64 r) ∧ w = w' ∧ -1 ≤ r ∧ (0 ≤ r → r = left - n - totL l)
/-- make([]string, n) is a new block of empty strings. -/
theorem make_str (n : Nat) (h : n ≤ 100000000) (w : World) : (Instr.makeSlice 25 (.int .i64 n) (.int .i64 n)).run Try.prog w = .ok (.slice (some ⟨w.heap.size, 0, none⟩) n n) (w.alloc (.cells (strV (List.replicate n [])).toArray 9)) := by
  obtain ⟨i0, hi, hz0, hz1, hz2⟩ := info_parts infoStr
  have := run_make (P := Try.prog) w 25 9 i0 _ Try.underlying25 hi hz0 .i64 .i64 n n (by omega) (by omega) (by rw [hz2]; omega) (by omega)
  rw [this, Int.toNat_natCast, hz1, Nat.mul_one]
  congr 3
  apply Array.ext (by simp [size_madeCells, strV])
  intro i h1 h2
  simp [madeCells, strV, Value.cells, bs, Nat.mod_one]
  rfl
/-- A row that is owned stays while another one turns. -/
theorem own_other {w w' : World} {base : Nat} {e : TypeId} {size : Nat} {v : Value} {n : Nat} {xs : List Value} {q : Option Nat} (h : w.ownsRow base e size v n xs) (g : w.grownBy w' q) (hne : ∀ k, v.ownBlock = some k → q = some k → False) : w'.ownsRow base e size v n xs := by
  refine ⟨h.1, ?_⟩
  rcases h.2 with h | ⟨b, cap, cur, rfl, hg, hh, r⟩
  · exact .inl h
  · exact .inr ⟨b, cap, cur, rfl, hg, (g.block b (Array.getElem?_eq_some_iff.1 hh).1 (fun e => hne b rfl (by first | exact e | exact e.symm))).trans hh, r⟩
end Go.Proofs.Ytamcopnghjoboaa
