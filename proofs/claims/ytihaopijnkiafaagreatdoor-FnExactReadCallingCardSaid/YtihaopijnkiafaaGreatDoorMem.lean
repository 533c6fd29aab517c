/- Words for memory: a block that is known whole; a slice value that reads as a list; from a row that a call owns to these. No conditions beyond those stated. -/
import Derived.Test.YtihaopijnkiafaaGreatDoorBase
set_option linter.unusedVariables false
set_option linter.unusedSimpArgs false
namespace Go.Proofs.YtihaopijnkiafaaGreatDoor
open Go.RowKit

/-- Block g is just the cells cs of element type t, none frozen. -/
def Blk (w : World) (g : Nat) (t : TypeId) (cs : Array Value) : Prop := w.heap[g]? = some (.cells cs t (0, 0))
section
variable {w w' : World} {g : Nat} {t : TypeId} {cs : Array Value}
theorem Blk.lt (h : Blk w g t cs) : g < w.heap.size := by
  rcases Nat.lt_or_ge g w.heap.size with hlt | hge
  · exact hlt
  · unfold Blk at h; rw [Array.getElem?_eq_none hge] at h; cases h
theorem Blk.cell (h : Blk w g t cs) (i : Nat) : w.cell? ⟨g, i, none⟩ = cs[i]? := cell_of_row w g i cs t (0, 0) h
theorem Blk.frozen (h : Blk w g t cs) (i : Nat) : w.frozen? ⟨g, i, none⟩ = false := by
  unfold Blk at h
  simp [World.frozen?, h]
theorem Blk.new (w : World) (t : TypeId) (cs : Array Value) : Blk (w.alloc (.cells cs t)) w.heap.size t cs := heap_alloc_new w _
theorem Blk.drewN (h : Blk w g t cs) (n : Nat) : Blk (w.drewN n) g t cs := h
theorem Blk.alloc (h : Blk w g t cs) (o : Obj) : Blk (w.alloc o) g t cs := (Below.heap_alloc w o g h.lt).trans h
theorem Blk.set_ (h : Blk w g t cs) (i : Nat) (u : Value) : Blk (w.setCell ⟨g, i, none⟩ u) g t (cs.setIfInBounds i u) := by
  unfold Blk at h ⊢
  simp [World.setCell, Array.getElem?_modify, h]
theorem Blk.far (h : Blk w g t cs) {p : Addr} (hp : g ≠ p.block) (u : Value) : Blk (w.setCell p u) g t cs := (Below.heap_setCell w p u g hp).trans h
theorem Blk.below {B : Nat} (h : Blk w g t cs) (hb : Below B w w') (hg : g < B) : Blk w' g t cs := (hb.block g hg).trans h
end

/-- The slice value with address A and length n reads as the list xs, its cells being of one cell each. -/
def Rd (w : World) (A : Option Addr) (n : Nat) (xs : List Value) : Prop :=
  xs.length = n ∧ (0 < n → ∃ b o, A = some ⟨b, o, none⟩ ∧ ∀ j u, xs[j]? = some u → w.cell? ⟨b, o + j, none⟩ = some u)
section
variable {w w' : World} {A : Option Addr} {n : Nat} {xs : List Value}
theorem Rd.nil (w : World) (A : Option Addr) : Rd w A 0 [] := ⟨rfl, fun h => absurd h (by omega)⟩
theorem Rd.at_ (h : Rd w A n xs) {k : Nat} (hk : k < n) : ∃ b o, A = some ⟨b, o, none⟩ ∧ w.cell? ⟨b, o + k, none⟩ = some (xs[k]'(by rw [h.1]; exact hk)) := by
  obtain ⟨b, o, hA, hc⟩ := h.2 (by omega)
  exact ⟨b, o, hA, hc k _ (List.getElem?_eq_getElem _)⟩
theorem Rd.keep (h : Rd w A n xs) (hk : ∀ b o u, w.cell? ⟨b, o, none⟩ = some u → w'.cell? ⟨b, o, none⟩ = some u) : Rd w' A n xs :=
  ⟨h.1, fun hn => by
    obtain ⟨b, o, e, hc⟩ := h.2 hn
    exact ⟨b, o, e, fun j u hu => hk _ _ _ (hc j u hu)⟩⟩
theorem Rd.below (h : Rd w A n xs) (hb : Below w.heap.size w w') : Rd w' A n xs :=
  h.keep fun b o u hc => (hb.cell (World.block_lt_of_cell? w _ hc)).trans hc
theorem Rd.drewN (h : Rd w A n xs) (k : Nat) : Rd (w.drewN k) A n xs := h
theorem Rd.alloc (h : Rd w A n xs) (o : Obj) : Rd (w.alloc o) A n xs := h.below ((Below.refl _ _).alloc (Nat.le_refl _) _)
/-- What a call owns reads so, and a value that is owned is a slice. -/
theorem own_shape {base : Nat} {e : TypeId} {v : Value} (h : w.ownsRow base e 1 v n xs) : ∃ A c, v = .slice A n c ∧ n ≤ c ∧ c ≤ maxLen ∧ Rd w A n xs ∧ ∀ b o s, A = some ⟨b, o, s⟩ → base ≤ b ∧ b < w.heap.size := by
  have hx : xs.length = n := by have := h.1; omega
  rcases h.2 with ⟨rfl, rfl⟩ | ⟨g, cap, cur, rfl, hb, hg, hc, hm, _⟩
  · exact ⟨none, 0, rfl, Nat.le_refl _, by unfold maxLen; omega, ⟨hx, fun h => absurd h (by omega)⟩, by simp⟩
  · refine ⟨some ⟨g, 0, none⟩, cap, rfl, hc, hm, ⟨hx, fun _ => ⟨g, 0, rfl, fun j u hu => ?_⟩⟩, ?_⟩
    · have := h.cells (g := g) rfl j u hu
      rwa [show (⟨g, 0, none⟩ : Addr).add j = ⟨g, 0 + j, none⟩ by unfold Addr.add; split <;> simp_all] at this
    · rintro b o s e
      injection e with e
      injection e with e1 e2 e3
      subst e1
      exact ⟨hb, (Array.getElem?_eq_some_iff.1 hg).1⟩
end
/-- A row that is owned above a mark is owned above a lesser one. -/
theorem own_mono {w : World} {base base' : Nat} {e : TypeId} {size : Nat} {v : Value} {n : Nat} {xs : List Value} (h : w.ownsRow base e size v n xs) (hb : base' ≤ base) : w.ownsRow base' e size v n xs := by
  refine ⟨h.1, ?_⟩
  rcases h.2 with h | ⟨g, cap, cur, hv, hg, r⟩
  · exact .inl h
  · exact .inr ⟨g, cap, cur, hv, by omega, r⟩
theorem own_drewN {w : World} {base : Nat} {e : TypeId} {size : Nat} {v : Value} {n : Nat} {xs : List Value} (h : w.ownsRow base e size v n xs) (k : Nat) : (w.drewN k).ownsRow base e size v n xs := h
/-- A row that is owned stays so while nothing that was there turns. -/
theorem own_below {w w' : World} {base : Nat} {e : TypeId} {size : Nat} {v : Value} {n : Nat} {xs : List Value} (h : w.ownsRow base e size v n xs) (hb : Below w.heap.size w w') : w'.ownsRow base e size v n xs := by
  refine ⟨h.1, ?_⟩
  rcases h.2 with h | ⟨g, cap, cur, hv, hg, hh, r⟩
  · exact .inl h
  · exact .inr ⟨g, cap, cur, hv, hg, (hb.block g (Array.getElem?_eq_some_iff.1 hh).1).trans hh, r⟩
/-- What turns at most the owned row's block turns nothing below the mark. -/
theorem below_of_grown {w w' : World} {base : Nat} {e : TypeId} {size : Nat} {v : Value} {n : Nat} {xs : List Value} (h : w.ownsRow base e size v n xs) (hg : w.grownBy w' v.ownBlock) (hb : base ≤ w.heap.size) : Below base w w' :=
  (Below.refl _ _).grown hg hb fun k hk => (h.lt k hk).1
/-- A block of known cells is an owned row. -/
theorem own_of_blk {w : World} {base g : Nat} {t : TypeId} {cs : Array Value} (h : Blk w g t cs) (hb : base ≤ g) (hm : cs.size ≤ maxLen) : w.ownsRow base t 1 (.slice (some ⟨g, 0, none⟩) cs.size cs.size) cs.size cs.toList :=
  ⟨by simp, .inr ⟨g, cs.size, cs, rfl, hb, h, Nat.le_refl _, hm, by simp, by rw [Nat.mul_one]; exact List.take_of_length_le (by simp)⟩⟩

def strV (l : List (List UInt8)) : List Value := l.map fun s => .string (bs s)
def intV (l : List Int) : List Value := l.map fun s => .int .i64 s
@[go_sem] theorem strV_at (l : List (List UInt8)) (k : Nat) (h : k < (strV l).length) : (strV l)[k] = .string (bs (l[k]'(by simpa [strV] using h))) := by simp [strV]
@[go_sem] theorem intV_at (l : List Int) (k : Nat) (h : k < (intV l).length) : (intV l)[k] = .int .i64 (l[k]'(by simpa [intV] using h)) := by simp [intV]
theorem strV_len (l : List (List UInt8)) : (strV l).length = l.length := by simp [strV]
theorem intV_len (l : List Int) : (intV l).length = l.length := by simp [intV]
/-- The cell of a slice of strings. -/
theorem Rd.str {w : World} {A : Option Addr} {n : Nat} {l : List (List UInt8)} (h : Rd w A n (strV l)) {k : Nat} (hk : k < n) : ∃ b o, A = some ⟨b, o, none⟩ ∧ ∃ hk' : k < l.length, w.cell? ⟨b, o + k, none⟩ = some (.string (bs l[k])) := by
  have hl : k < l.length := by have := h.1; rw [strV_len] at this; omega
  obtain ⟨b, o, hA, hc⟩ := h.at_ hk
  rw [strV_at] at hc
  exact ⟨b, o, hA, hl, hc⟩
theorem Rd.int {w : World} {A : Option Addr} {n : Nat} {l : List Int} (h : Rd w A n (intV l)) {k : Nat} (hk : k < n) : ∃ b o, A = some ⟨b, o, none⟩ ∧ ∃ hk' : k < l.length, w.cell? ⟨b, o + k, none⟩ = some (.int .i64 l[k]) := by
  have hl : k < l.length := by have := h.1; rw [intV_len] at this; omega
  obtain ⟨b, o, hA, hc⟩ := h.at_ hk
  rw [intV_at] at hc
  exact ⟨b, o, hA, hl, hc⟩
/-- The first k of a slice, and what is behind them. -/
theorem Rd.take_ {w : World} {A : Option Addr} {n : Nat} {xs : List Value} (h : Rd w A n xs) (k : Nat) (hk : k ≤ n) : Rd w A k (xs.take k) :=
  ⟨by rw [List.length_take, h.1]; omega, fun h0 => by
    obtain ⟨b, o, hA, hc⟩ := h.2 (by omega)
    exact ⟨b, o, hA, fun j u hj => hc j u (by
      rw [List.getElem?_take] at hj
      split at hj
      · exact hj
      · cases hj)⟩⟩
theorem Rd.drop_ {w : World} {b o n : Nat} {xs : List Value} (h : Rd w (some ⟨b, o, none⟩) n xs) (k : Nat) (hk : k ≤ n) : Rd w (some ⟨b, o + k, none⟩) (n - k) (xs.drop k) :=
  ⟨by rw [List.length_drop, h.1], fun h0 => ⟨b, o + k, rfl, fun j u hj => by
    obtain ⟨b', o', hA, hc⟩ := h.2 (by omega)
    injection hA with hA
    injection hA with e1 e2 _
    subst e1 e2
    rw [List.getElem?_drop] at hj
    have := hc (k + j) u hj
    rwa [← Nat.add_assoc] at this⟩⟩
/-- A slice reads as before while a row in another block turns. -/
theorem Rd.grown {w w' : World} {A : Option Addr} {n : Nat} {xs : List Value} {q : Option Nat} (h : Rd w A n xs) (g : w.grownBy w' q) (hne : ∀ b o, A = some ⟨b, o, none⟩ → q = some b → False) : Rd w' A n xs :=
  ⟨h.1, fun hn => by
    obtain ⟨b, o, e, hc⟩ := h.2 hn
    refine ⟨b, o, e, fun j u hu => ?_⟩
    have h1 := hc j u hu
    have h2 := World.block_lt_of_cell? w _ h1
    have h3 := g.block b h2 (fun e2 => hne b o e (by first | exact e2 | exact e2.symm))
    simp only [World.cell?] at h1 ⊢
    rw [h3]; exact h1⟩
theorem strV_take (l : List (List UInt8)) (k : Nat) : strV (l.take k) = (strV l).take k := by simp [strV, List.map_take]
theorem strV_drop (l : List (List UInt8)) (k : Nat) : strV (l.drop k) = (strV l).drop k := by simp [strV, List.map_drop]

/-- A slice of strings and a bool come back; the slice is the call's own. -/
def ResS (w : World) (R : List (List UInt8) × Bool) (e : Ending) (w' : World) : Prop := ∃ v, e = .returned (.tuple #[v, .bool R.2]) ∧ w'.ownsRow w.heap.size 9 1 v R.1.length (strV R.1) ∧ Below w.heap.size w w'
theorem ResS.none (w w' : World) (h : Below w.heap.size w w') : ResS w ([], false) (.returned (.tuple #[.slice none 0 0, .bool false])) w' := ⟨_, rfl, World.ownsRow_nil _ _ _ _, h⟩
/-- A slice of strings comes back; it is the call's own. -/
def OneS (w : World) (l : List (List UInt8)) (e : Ending) (w' : World) : Prop := ∃ v, e = .returned v ∧ w'.ownsRow w.heap.size 9 1 v l.length (strV l) ∧ Below w.heap.size w w'

/-- A slice of integers and a bool come back; the slice is the call's own. -/
def ResI (w : World) (R : List Int × Bool) (e : Ending) (w' : World) : Prop := ∃ v, e = .returned (.tuple #[v, .bool R.2]) ∧ w'.ownsRow w.heap.size 3 1 v R.1.length (intV R.1) ∧ Below w.heap.size w w'
theorem ResI.none (w w' : World) (h : Below w.heap.size w w') : ResI w ([], false) (.returned (.tuple #[.slice none 0 0, .bool false])) w' := ⟨_, rfl, World.ownsRow_nil _ _ _ _, h⟩

end Go.Proofs.YtihaopijnkiafaaGreatDoor
