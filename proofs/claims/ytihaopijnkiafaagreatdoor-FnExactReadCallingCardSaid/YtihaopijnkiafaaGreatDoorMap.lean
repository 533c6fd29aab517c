/- Maps from bytes to strings that a call makes: what they hold, stores, look-ups. No conditions beyond those stated. -/
import Derived.Test.YtihaopijnkiafaaGreatDoorMem
import Derived.Maps.OwnSet
import Derived.Maps.StringElems
import Derived.Maps.Views
import Derived.Carry
set_option linter.unusedVariables false
set_option linter.unusedSimpArgs false
set_option maxRecDepth 100000
namespace Go.Proofs.YtihaopijnkiafaaGreatDoor
open Go.RowKit Go.Maps

/-- Block g is a map of at most n entries from bytes to strings. -/
def MapN (Y : World) (g n : Nat) : Prop := ∃ D, Y.ownsMap (H := Unit) Tryz.prog 5 (plainElem Tryz.prog 9) g n D
/-- It holds s at the byte k. -/
def AtN (Y : World) (g n : Nat) (k : Int) (s : List UInt8) : Prop := ∃ D, Y.ownsMap (H := Unit) Tryz.prog 5 (plainElem Tryz.prog 9) g n D ∧ D.atKey (.int .u8 k) (.lit (.string [])) = .lit (.string s)
/-- The world behind a store. -/
noncomputable def putW (Y : World) (g : Nat) (k : Int) (s : List UInt8) : World := match (Instr.mapUpdate 92 (.map (some g)) (.int .u8 k) (.string (bs s))).run Tryz.prog Y with
  | .ok _ w' => w'
  | _ => Y
theorem key8 {k : Int} (h0 : 0 ≤ k) (h1 : k < 256) : keyOf Tryz.prog 5 (.int .u8 k) = some (.int .u8 k) :=
  Maps.keyOf_int_mk Tryz.underlying5 (by simp only [Lit.wf, Bool.and_eq_true, decide_eq_true_eq]; exact ⟨by show (0 : Int) ≤ k; exact h0, by show k ≤ (255 : Int); omega⟩)
theorem mapN_new (Y : World) : MapN (Y.alloc (.map #[] 0)) Y.heap.size 0 := ⟨_, World.ownsMap_made Y _ _ _⟩
theorem put_run {Y : World} {g n : Nat} {k : Int} {s : List UInt8} (h : MapN Y g n) (hn : n ≤ 1000) (h0 : 0 ≤ k) (h1 : k < 256) (hs : s.length ≤ 1048576) :
    (Instr.mapUpdate 92 (.map (some g)) (.int .u8 k) (.string (bs s))).run Tryz.prog Y = .ok () (putW Y g k s) ∧ Y.grownBy (putW Y g k s) (some g) ∧ AtN (putW Y g k s) g (n + 1) k s ∧ ∀ k' s', k' ≠ k → AtN Y g n k' s' → AtN (putW Y g k s) g (n + 1) k' s' := by
  have key : ∀ D, Y.ownsMap (H := Unit) Tryz.prog 5 (plainElem Tryz.prog 9) g n D → (Instr.mapUpdate 92 (.map (some g)) (.int .u8 k) (.string (bs s))).run Tryz.prog Y = .ok () (putW Y g k s) ∧ Y.grownBy (putW Y g k s) (some g) ∧ (putW Y g k s).ownsMap (H := Unit) Tryz.prog 5 (plainElem Tryz.prog 9) g (n + 1) (D.put (.int .u8 k) (.lit (.string s))) := by
    intro D hown
    obtain ⟨w', hrun, h2, h3⟩ := hown.update (int_keyed Tryz.underlying5) Tryz.underlying92 (by unfold maxLen; omega) (key8 h0 h1) (plainElem_string Tryz.underlying9 (s := bs s) (by rw [bs_size]; unfold maxLen; omega))
    have e : putW Y g k s = w' := by unfold putW; rw [hrun]
    rw [e]
    exact ⟨hrun, h3, h2⟩
  obtain ⟨D, hown⟩ := h
  obtain ⟨r1, r2, r3⟩ := key D hown
  refine ⟨r1, r2, ⟨_, r3, atKey_put_same (k := .int .u8 k) hown.isMap True.intro _ _⟩, fun k' s' hne hat => ?_⟩
  obtain ⟨D', hown', hat'⟩ := hat
  obtain ⟨_, _, r4⟩ := key D' hown'
  exact ⟨_, r4, by rw [atKey_put_other (by intro e; injection e with _ e2; exact hne e2)]; exact hat'⟩
theorem AtN.map {Y : World} {g n : Nat} {k : Int} {s : List UInt8} (h : AtN Y g n k s) : MapN Y g n := by
  obtain ⟨D, h, _⟩ := h; exact ⟨D, h⟩
theorem ownsMap_below {H : Type} {Y Y' : World} {P : Program} {kt : TypeId} {R : Value → Option (DataW H × List MemPlace)} {g n : Nat} {D : DataW H} (h : Y.ownsMap P kt R g n D) (hb : Below Y.heap.size Y Y') : Y'.ownsMap P kt R g n D := by
  have hl := h.lt
  obtain ⟨es, clock, h1, r⟩ := h
  exact ⟨es, clock, (hb.block g hl).trans h1, r⟩
theorem MapN.below {Y Y' : World} {g n : Nat} (h : MapN Y g n) (hb : Below Y.heap.size Y Y') : MapN Y' g n := by
  obtain ⟨D, h⟩ := h; exact ⟨D, ownsMap_below h hb⟩
theorem AtN.below {Y Y' : World} {g n : Nat} {k : Int} {s : List UInt8} (h : AtN Y g n k s) (hb : Below Y.heap.size Y Y') : AtN Y' g n k s := by
  obtain ⟨D, h, h2⟩ := h; exact ⟨D, ownsMap_below h hb, h2⟩
theorem MapN.lt {Y : World} {g n : Nat} (h : MapN Y g n) : g < Y.heap.size := by
  obtain ⟨D, h⟩ := h; exact h.lt
theorem AtN.look {Y : World} {g n : Nat} {k : Int} {s : List UInt8} (h : AtN Y g n k s) (h0 : 0 ≤ k) (h1 : k < 256) : (Instr.lookup 92 (.map (some g)) (.int .u8 k) false).run Tryz.prog Y = .ok (.string (bs s)) Y := by
  obtain ⟨D, hown, hat⟩ := h
  obtain ⟨v, ps, hrun, hv⟩ := hown.lookup (int_keyed Tryz.underlying5) Tryz.underlying92 (z := .string ByteArray.empty) (by kernel_rfl) (plainElem_string Tryz.underlying9 (s := ByteArray.empty) (by simp [maxLen])) (key8 h0 h1)
  obtain ⟨t, rfl, e, _⟩ := plainElem_string_inv Tryz.underlying9 hv
  have e2 : D.atKey (.int .u8 k) (.lit (.string [])) = .lit (.string t.data.toList) := congrArg Prod.fst e
  rw [hat] at e2
  injection e2 with e2
  injection e2 with e2
  rw [hrun, e2]; rfl
end Go.Proofs.YtihaopijnkiafaaGreatDoor
