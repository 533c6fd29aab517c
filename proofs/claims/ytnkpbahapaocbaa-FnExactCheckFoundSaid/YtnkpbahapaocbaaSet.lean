/- Sets of strings, held as maps from strings to bools that a call makes: what they hold, stores, look-ups. No conditions beyond those stated. -/
import Derived.Test.YtnkpbahapaocbaaMem
import Derived.Test.YtnkpbahapaocbaaTrueP
import Derived.Maps.OwnSet
import Derived.Maps.StringElems
import Derived.Maps.Views
import Derived.Carry
set_option linter.unusedVariables false
set_option linter.unusedSimpArgs false
set_option maxRecDepth 100000
namespace Go.Proofs.Ytnkpbahapaocbaa
open Go.RowKit Go.Maps

/-- The datum of a set of strings. -/
def setD (acc : List (List UInt8)) : DataW Unit := setOf (.lit (.bool true)) (acc.map fun s => Lit.string s)
/-- Block g is a map of at most n entries, true at the strings of acc and at no other. -/
def IsSet (Y : World) (g n : Nat) (acc : List (List UInt8)) : Prop := Y.ownsMap (H := Unit) Try.prog 9 (plainElem Try.prog 4) g n (setD acc)
theorem fold_at (s : List UInt8) : ∀ (acc : List (List UInt8)) (m : DataW Unit) (b : Bool), IsMap m → m.atKey (.string s) (.lit (.bool false)) = .lit (.bool b) →
    ((acc.map fun s => Lit.string s).foldl (fun m x => m.put x (.lit (.bool true))) m).atKey (.string s) (.lit (.bool false)) = .lit (.bool (b || decide (s ∈ acc)))
  | [], m, b, _, h => by simpa using h
  | x :: acc, m, b, hm, h => by
    rw [List.map_cons, List.foldl_cons]
    by_cases e : s = x
    · subst e
      rw [fold_at s acc _ true (hm.put _ _) (atKey_put_same (k := .string s) hm True.intro _ _)]; simp
    · rw [fold_at s acc _ b (hm.put _ _) ((atKey_put_other (by intro h2; injection h2 with h2; exact e h2) _ _).trans h)]
      simp [e]
theorem setD_at (acc : List (List UInt8)) (s : List UInt8) : (setD acc).atKey (.string s) (.lit (.bool false)) = .lit (.bool (memB s acc)) := by
  have := fold_at s acc (.map []) false isMap_empty rfl
  simpa [setD, setOf, memB] using this
/-- The world behind a store of true. -/
noncomputable def putS (Y : World) (g : Nat) (s : List UInt8) : World := match (Instr.mapUpdate 69 (.map (some g)) (.string (bs s)) (.bool true)).run Try.prog Y with
  | .ok _ w' => w'
  | _ => Y
theorem keyS {s : List UInt8} (h : s.length ≤ 1048576) : keyOf Try.prog 9 (.string (bs s)) = some (.string s) :=
  WideMaps.keyOf_string_mk Try.underlying9 (by rw [bs_size]; unfold maxLen; omega)
theorem isSet_new (Y : World) : IsSet (Y.alloc (.map #[] 0)) Y.heap.size 0 [] := World.ownsMap_made Y _ _ _
theorem putS_run {Y : World} {g n : Nat} {acc : List (List UInt8)} {s : List UInt8} (h : IsSet Y g n acc) (hn : n ≤ 1000000000) (hs : s.length ≤ 1048576) :
    (Instr.mapUpdate 69 (.map (some g)) (.string (bs s)) (.bool true)).run Try.prog Y = .ok () (putS Y g s) ∧ Y.grownBy (putS Y g s) (some g) ∧ IsSet (putS Y g s) g (n + 1) (acc ++ [s]) := by
  obtain ⟨w', hrun, h2, h3⟩ := h.update (string_keyed Try.underlying9) Try.underlying69 (by unfold maxLen; omega) (keyS hs) (plainElem_bool Try.underlying4 true)
  have e : putS Y g s = w' := by unfold putS; rw [hrun]
  rw [e]
  refine ⟨hrun, h3, ?_⟩
  have e2 : setD (acc ++ [s]) = (setD acc).put (.string s) (.lit (.bool true)) := by unfold setD; rw [List.map_append]; exact setOf_snoc _ _ _
  unfold IsSet
  rw [e2]; exact h2
theorem IsSet.below {Y Y' : World} {g n : Nat} {acc : List (List UInt8)} (h : IsSet Y g n acc) (hb : Below Y.heap.size Y Y') : IsSet Y' g n acc := by
  have hl := World.ownsMap.lt h
  obtain ⟨es, clock, h1, r⟩ := h
  exact ⟨es, clock, (hb.block g hl).trans h1, r⟩
theorem IsSet.lt {Y : World} {g n : Nat} {acc : List (List UInt8)} (h : IsSet Y g n acc) : g < Y.heap.size := World.ownsMap.lt h
theorem IsSet.le {Y : World} {g n n' : Nat} {acc : List (List UInt8)} (h : IsSet Y g n acc) (hn : n ≤ n') : IsSet Y g n' acc := World.ownsMap.mono h hn
theorem IsSet.look {Y : World} {g n : Nat} {acc : List (List UInt8)} {s : List UInt8} (h : IsSet Y g n acc) (hs : s.length ≤ 1048576) :
    (Instr.lookup 69 (.map (some g)) (.string (bs s)) false).run Try.prog Y = .ok (.bool (memB s acc)) Y := by
  obtain ⟨v, ps, hrun, hv⟩ := World.ownsMap.lookup h (string_keyed Try.underlying9) Try.underlying69 (z := .bool false) (by kernel_rfl) (plainElem_bool Try.underlying4 false) (keyS hs)
  rw [setD_at] at hv
  have hv2 : v = .bool (memB s acc) := by
    unfold plainElem at hv
    rw [Try.underlying4] at hv
    cases v <;> simp at hv
    rw [hv.1]
  rw [hrun, hv2]
end Go.Proofs.Ytnkpbahapaocbaa
