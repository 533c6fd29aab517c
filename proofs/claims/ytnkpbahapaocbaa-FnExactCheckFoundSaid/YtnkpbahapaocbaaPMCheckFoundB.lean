/- Contract of the reference's truth of a touch by its heads. No conditions beyond those stated. -/
import Derived.Test.YtnkpbahapaocbaaCutP
import Derived.Test.YtnkpbahapaocbaaExpC
import Derived.Test.YtnkpbahapaocbaaApp
import Derived.Test.YtnkpbahapaocbaaPMCheckFoundA
import Derived.Test.YtnkpbahapaocbaaCutV
import Derived.Deep.RegionLaw
import Derived.Test.YtnkpbahapaocbaaTrueP
import Derived.Lib.SlicesCompact
import Derived.Test.YtnkpbahapaocbaaFalseP
import Derived.Test.YtnkpbahapaocbaaTurnR
import Derived.Test.YtnkpbahapaocbaaEndI
import Derived.Test.YtnkpbahapaocbaaChkC
set_option linter.unusedVariables false
set_option linter.unusedSimpArgs false
set_option maxRecDepth 100000
namespace Go.Proofs.Ytnkpbahapaocbaa
open Go.RowKit

/-- What a search has found: what is left of its budget, the touches, the cuts, whether nothing was left out. -/
structure Fnd where
  left : Nat
  ts : List (List UInt8)
  cs : List (List UInt8 × Int × Int)
  ok : Bool
/-- A prefix and its extensions are examined; d: one more than the leads that are missing. -/
def exam (C : List UInt8 → (List UInt8 × Int × Int) × Bool) : Nat → List UInt8 → Fnd → Fnd
  | 0, _, F => F
  | d + 1, p, F =>
    if F.left = 0 then ⟨0, F.ts, F.cs, false⟩
    else if (C p).2 = true then ⟨F.left - 1, F.ts, F.cs ++ [(C p).1], F.ok⟩
    else if d = 0 then ⟨F.left - 1, F.ts ++ [p], F.cs, F.ok⟩
    else exam C d (p ++ [115]) (exam C d (p ++ [112]) (exam C d (p ++ [98]) ⟨F.left - 1, F.ts, F.cs, F.ok⟩))
/-- The same with a stack; n: the leads; the first number: what is left of the budget. -/
def srun (C : List UInt8 → (List UInt8 × Int × Int) × Bool) (n : Nat) : Nat → List (List UInt8) → List (List UInt8) → List (List UInt8 × Int × Int) → List (List UInt8) × List (List UInt8 × Int × Int) × Bool
  | 0, S, ts, cs => (ts, cs, S.isEmpty)
  | L + 1, [], ts, cs => (ts, cs, true)
  | L + 1, p :: S, ts, cs =>
    if (C p).2 = true then srun C n L S ts (cs ++ [(C p).1])
    else if p.length = n then srun C n L S (ts ++ [p]) cs
    else srun C n L ((p ++ [98]) :: (p ++ [112]) :: (p ++ [115]) :: S) ts cs
theorem exam_out (C : List UInt8 → (List UInt8 × Int × Int) × Bool) (d : Nat) (p : List UInt8) (F : Fnd) (h : F.left = 0) (hd : 1 ≤ d) : exam C d p F = ⟨0, F.ts, F.cs, false⟩ := by
  obtain ⟨d, rfl⟩ : ∃ k, d = k + 1 := ⟨d - 1, by omega⟩
  rw [exam, if_pos h]
theorem exam_all_out (C : List UInt8 → (List UInt8 × Int × Int) × Bool) (n : Nat) (S ts : List (List UInt8)) (cs : List (List UInt8 × Int × Int)) : S.foldl (fun F p => exam C (n - p.length + 1) p F) ⟨0, ts, cs, false⟩ = ⟨0, ts, cs, false⟩ := by
  induction S with
  | nil => rfl
  | cons p S ih => rw [List.foldl_cons, exam_out C _ _ _ rfl (by omega), ih]
theorem srun_exam (C : List UInt8 → (List UInt8 × Int × Int) × Bool) (n L : Nat) (S ts : List (List UInt8)) (cs : List (List UInt8 × Int × Int)) (hS : ∀ p ∈ S, p.length ≤ n) :
    ∃ l, S.foldl (fun F p => exam C (n - p.length + 1) p F) ⟨L, ts, cs, true⟩ = ⟨l, (srun C n L S ts cs).1, (srun C n L S ts cs).2.1, (srun C n L S ts cs).2.2⟩ := by
  induction L generalizing S ts cs with
  | zero =>
    cases S with
    | nil => exact ⟨0, rfl⟩
    | cons p S =>
      rw [List.foldl_cons, exam_out C _ _ _ rfl (by omega), exam_all_out]
      exact ⟨0, rfl⟩
  | succ L ih =>
    cases S with
    | nil => exact ⟨L + 1, rfl⟩
    | cons p S =>
      have hp := hS p (by simp)
      have hS' : ∀ q ∈ S, q.length ≤ n := fun q hq => hS q (by simp [hq])
      rw [List.foldl_cons, exam, if_neg (by simp), srun]
      by_cases h1 : (C p).2 = true
      · rw [if_pos h1, if_pos h1]
        exact ih S ts _ hS'
      · rw [if_neg h1, if_neg h1]
        by_cases h2 : p.length = n
        · rw [if_pos (show n - p.length = 0 by omega), if_pos h2]
          exact ih S _ cs hS'
        · rw [if_neg (show ¬ n - p.length = 0 by omega), if_neg h2]
          have h3 := ih ((p ++ [98]) :: (p ++ [112]) :: (p ++ [115]) :: S) ts cs (fun q hq => by
            simp only [List.mem_cons] at hq
            rcases hq with rfl | rfl | rfl | hq
            · simp; omega
            · simp; omega
            · simp; omega
            · exact hS' q hq)
          rw [List.foldl_cons, List.foldl_cons, List.foldl_cons] at h3
          simp only [List.length_append, List.length_cons, List.length_nil] at h3
          rw [show n - (p.length + (0 + 1)) + 1 = n - p.length by omega] at h3
          exact h3
/-- The program's search finds what the reference's finds. -/
theorem srun_one (C : List UInt8 → (List UInt8 × Int × Int) × Bool) (n L : Nat) : ∃ l, exam C (n + 1) [] ⟨L, [], [], true⟩ = ⟨l, (srun C n L [[]] [] []).1, (srun C n L [[]] [] []).2.1, (srun C n L [[]] [] []).2.2⟩ := by
  have := srun_exam C n L [[]] [] [] (by simp)
  simpa using this
theorem exam_room (C : List UInt8 → (List UInt8 × Int × Int) × Bool) (d : Nat) (p : List UInt8) (F : Fnd) : (exam C d p F).ts.length + (exam C d p F).cs.length + (exam C d p F).left ≤ F.ts.length + F.cs.length + F.left := by
  induction d generalizing p F with
  | zero => exact Nat.le_refl _
  | succ d ih =>
    rw [exam]
    split
    · simp; try omega
    · split
      · simp; omega
      · split
        · simp; omega
        · refine Nat.le_trans (ih _ _) (Nat.le_trans (ih _ _) (Nat.le_trans (ih _ _) ?_))
          simp; try omega
theorem srun_room (C : List UInt8 → (List UInt8 × Int × Int) × Bool) (n L : Nat) (S ts : List (List UInt8)) (cs : List (List UInt8 × Int × Int)) : (srun C n L S ts cs).1.length + (srun C n L S ts cs).2.1.length ≤ ts.length + cs.length + L := by
  induction L generalizing S ts cs with
  | zero => simp [srun]
  | succ L ih =>
    cases S with
    | nil => simp [srun]; try omega
    | cons p S =>
      rw [srun]
      split
      · refine Nat.le_trans (ih _ _ _) ?_; simp; omega
      · split
        · refine Nat.le_trans (ih _ _ _) ?_; simp; omega
        · refine Nat.le_trans (ih _ _ _) ?_; omega
end Go.Proofs.Ytnkpbahapaocbaa

set_option linter.unusedVariables false
set_option linter.unusedSimpArgs false
set_option maxRecDepth 100000
namespace Go.Proofs.Ytnkpbahapaocbaa
open Go.RowKit

theorem l1OwnSx_any (A : Option Addr) (n c : Nat) (l : List (List UInt8)) (w : World) (hr : Rd w A n (strV l)) (hn : n ≤ 100000000) :
    Calls Try.prog 34 #[.slice A n c] w (OneS w l) := by
  have hl := hid (show l.length = n by have := hr.1; rw [strV_len] at this; exact this)
  go_enter Try.func34, Try.ntmps34
  go_wp2_with (at_builtin; refine app_str _ (by rfl) _ _ (by rfl) w.heap.size _ 0 [] (by rfl) (own_of_blk (Blk.new w 9 #[]) (Nat.le_refl _) (by simp [maxLen])) A n c l (by rfl) (hr.alloc _) (by omega) (by simp) ?_; intro v5 w5 o5 g5)
  go_ret
  rw [Nat.zero_add, ← hl.out, List.nil_append] at o5
  exact ⟨_, rfl, o5, ((Below.refl _ _).alloc (Nat.le_refl _) _).grown g5 (by simp) fun q hq => by simp [Value.ownBlock] at hq; omega⟩
/-- What CalledLead answers. -/
def calledR (m : Meth) (k : List UInt8 × List UInt8) (call : List UInt8) : Meth × Bool := if (callsB m k && isCallL call) = true then (⟨m.nm, m.st, calledL m.ch k call⟩, true) else (⟨[], 0, []⟩, false)
theorem calledR_no {m : Meth} {k : List UInt8 × List UInt8} {call : List UInt8} (h : (callsB m k && isCallL call) = false) : calledR m k call = (⟨[], 0, []⟩, false) := by unfold calledR; rw [h]; rfl
/-- A method and a bool come back; the method's changes are the call's own. -/
def ResM (w : World) (R : Meth × Bool) (e : Ending) (w' : World) : Prop := ∃ v2, e = .returned (.tuple #[.agg #[.string (bs R.1.nm), .int .i64 R.1.st, v2], .bool R.2]) ∧ w'.ownsRow w.heap.size 9 1 v2 R.1.ch.length (strV R.1.ch) ∧ Below w.heap.size w w'
theorem ResM.none (w w' : World) (h : Below w.heap.size w w') : ResM w (⟨[], 0, []⟩, false) (.returned (.tuple #[.agg #[.string (bs []), .int .i64 0, .slice none 0 0], .bool false])) w' := ⟨_, rfl, World.ownsRow_nil _ _ _ _, h⟩
theorem set3_below {w w1 : World} {b g : Nat} (h : Below b w w1) (hg : b ≤ g) (x y z : Value) : Below b w (((w1.setCell ⟨g, 0, none⟩ x).setCell ⟨g, 1, none⟩ y).setCell ⟨g, 2, none⟩ z) :=
  ((h.setCell (p := ⟨g, 0, none⟩) hg _).setCell (p := ⟨g, 1, none⟩) hg _).setCell (p := ⟨g, 2, none⟩) hg _
theorem set3_own {w1 : World} {b g n : Nat} {v : Value} {xs : List Value} (h : w1.ownsRow b 9 1 v n xs) (hg : g < b) (x y z : Value) : (((w1.setCell ⟨g, 0, none⟩ x).setCell ⟨g, 1, none⟩ y).setCell ⟨g, 2, none⟩ z).ownsRow b 9 1 v n xs :=
  own_set (own_set (own_set h hg) hg) hg
theorem box3_set_ne {X : World} {g : Nat} {a b c : Value} {p : Addr} {u : Value} (h : Box3 X g a b c) (hne : g ≠ p.block) : Box3 (X.setCell p u) g a b c := by
  refine ⟨?_, ?_, ?_⟩ <;> rw [World.cell?_setCell_other _ _ _ _ (by intro e; rw [e] at hne; exact hne rfl)]
  · exact h.1
  · exact h.2.1
  · exact h.2.2
/-- The boxes of a method, of its calls, and of the method that comes back. -/
theorem box_mkR (w : World) (nm k1 k2 : List UInt8) (st : Int) (v : Value) :
    Below w.heap.size w (((w.alloc (.cells #[.string (bs nm), .int .i64 st, v] 34)).alloc (.cells #[.string (bs k1), .string (bs k2)] 36)).alloc (.cells #[.string (bs []), .int .i64 0, .slice none 0 0] 34)) ∧
    (((w.alloc (.cells #[.string (bs nm), .int .i64 st, v] 34)).alloc (.cells #[.string (bs k1), .string (bs k2)] 36)).alloc (.cells #[.string (bs []), .int .i64 0, .slice none 0 0] 34)).heap.size = w.heap.size + 1 + 1 + 1 ∧
    Hid (∀ W', Below (((w.alloc (.cells #[.string (bs nm), .int .i64 st, v] 34)).alloc (.cells #[.string (bs k1), .string (bs k2)] 36)).alloc (.cells #[.string (bs []), .int .i64 0, .slice none 0 0] 34)).heap.size (((w.alloc (.cells #[.string (bs nm), .int .i64 st, v] 34)).alloc (.cells #[.string (bs k1), .string (bs k2)] 36)).alloc (.cells #[.string (bs []), .int .i64 0, .slice none 0 0] 34)) W' →
      (Box3 W' w.heap.size (.string (bs nm)) (.int .i64 st) v ∧ W'.cell? ⟨w.heap.size + 1, 0, none⟩ = some (.string (bs k1)) ∧ W'.cell? ⟨w.heap.size + 1, 1, none⟩ = some (.string (bs k2))) ∧ Blk W' (w.heap.size + 1 + 1) 34 #[.string (bs []), .int .i64 0, .slice none 0 0]) := by
  have M1 := Blk.new w 34 #[.string (bs nm), .int .i64 st, v]
  have M2 := M1.alloc (.cells #[.string (bs k1), .string (bs k2)] 36)
  have M3 := M2.alloc (.cells #[.string (bs []), .int .i64 0, .slice none 0 0] 34)
  have K2 := Blk.new (w.alloc (.cells #[.string (bs nm), .int .i64 st, v] 34)) 36 #[.string (bs k1), .string (bs k2)]
  have K3 := K2.alloc (.cells #[.string (bs []), .int .i64 0, .slice none 0 0] 34)
  have R4 := Blk.new ((w.alloc (.cells #[.string (bs nm), .int .i64 st, v] 34)).alloc (.cells #[.string (bs k1), .string (bs k2)] 36)) 34 #[.string (bs []), .int .i64 0, .slice none 0 0]
  have B3 : Below w.heap.size w (((w.alloc (.cells #[.string (bs nm), .int .i64 st, v] 34)).alloc (.cells #[.string (bs k1), .string (bs k2)] 36)).alloc (.cells #[.string (bs []), .int .i64 0, .slice none 0 0] 34)) := (((Below.refl _ _).alloc (Nat.le_refl _) _).alloc (by simp) _).alloc (by simp; omega) _
  have hsz : (((w.alloc (.cells #[.string (bs nm), .int .i64 st, v] 34)).alloc (.cells #[.string (bs k1), .string (bs k2)] 36)).alloc (.cells #[.string (bs []), .int .i64 0, .slice none 0 0] 34)).heap.size = w.heap.size + 1 + 1 + 1 := by simp
  refine ⟨B3, hsz, ?_⟩
  simp only [alloc_size] at K3 R4
  generalize (((w.alloc (.cells #[.string (bs nm), .int .i64 st, v] 34)).alloc (.cells #[.string (bs k1), .string (bs k2)] 36)).alloc (.cells #[.string (bs []), .int .i64 0, .slice none 0 0] 34)) = W3 at *
  refine hid fun W' h => ?_
  have K := K3.below h (by omega)
  exact ⟨⟨Box3.of (M3.below h (by omega)), K.cell 0, K.cell 1⟩, R4.below h (by omega)⟩
-- GENERATED BELOW
end Go.Proofs.Ytnkpbahapaocbaa

set_option linter.unusedVariables false
set_option linter.unusedSimpArgs false
set_option maxRecDepth 100000
namespace Go.Proofs.Ytnkpbahapaocbaa
open Go.RowKit

/-- Which budgets are allowed. -/
def budB (b : Int) : Bool := decide (1 ≤ b) && decide (b ≤ 5000)
theorem budB_nat {b : Int} (h : budB b = true) : ∃ j : Nat, b = j ∧ 1 ≤ j ∧ j ≤ 5000 := by
  simp only [budB, Bool.and_eq_true, decide_eq_true_eq] at h
  exact ⟨b.toNat, by omega, by omega, by omega⟩
/-- What SearchTouches answers. -/
def foundR (m : Meth) (k : List UInt8 × List UInt8) (q b : Int) : (List (List UInt8) × List (List UInt8 × Int × Int) × Bool) × Bool :=
  if ((callsB m k && searchB q) && budB b) = true then (srun (cutF m.st.toNat m.ch k q.toNat) q.toNat b.toNat [[]] [] [], true) else (([], [], false), false)
/-- What was found comes back, in rows that the call owns. -/
def ResF (w : World) (R : (List (List UInt8) × List (List UInt8 × Int × Int) × Bool) × Bool) (e : Ending) (w' : World) : Prop :=
  ∃ v1 v2, e = .returned (.tuple #[.agg #[v1, v2, .bool R.1.2.2], .bool R.2]) ∧ w'.ownsRow w.heap.size 9 1 v1 R.1.1.length (strV R.1.1) ∧ w'.ownsRow w.heap.size 38 3 v2 R.1.2.1.length (cutV R.1.2.1) ∧ (∀ b, v1.ownBlock = some b → v2.ownBlock = some b → False) ∧ Below w.heap.size w w'
theorem ResF.none (w w' : World) (h : Below w.heap.size w w') : ResF w (([], [], false), false) (.returned (.tuple #[.agg #[.slice none 0 0, .slice none 0 0, .bool false], .bool false])) w' :=
  ⟨_, _, rfl, World.ownsRow_nil _ _ _ _, World.ownsRow_nil _ _ _ _, fun b h => by simp [Value.ownBlock] at h, h⟩
/-- The boxes of a method, of its calls, and of one more. -/
theorem box_mkX (T1 T2 T3 : TypeId) (w : World) (nm k1 k2 : List UInt8) (st : Int) (v : Value) (X : Array Value) :
    Below w.heap.size w (((w.alloc (.cells #[.string (bs nm), .int .i64 st, v] T1)).alloc (.cells #[.string (bs k1), .string (bs k2)] T2)).alloc (.cells X T3)) ∧
    (((w.alloc (.cells #[.string (bs nm), .int .i64 st, v] T1)).alloc (.cells #[.string (bs k1), .string (bs k2)] T2)).alloc (.cells X T3)).heap.size = w.heap.size + 1 + 1 + 1 ∧
    Hid (∀ W', Below (((w.alloc (.cells #[.string (bs nm), .int .i64 st, v] T1)).alloc (.cells #[.string (bs k1), .string (bs k2)] T2)).alloc (.cells X T3)).heap.size (((w.alloc (.cells #[.string (bs nm), .int .i64 st, v] T1)).alloc (.cells #[.string (bs k1), .string (bs k2)] T2)).alloc (.cells X T3)) W' →
      (Blk W' w.heap.size T1 #[.string (bs nm), .int .i64 st, v] ∧ Blk W' (w.heap.size + 1) T2 #[.string (bs k1), .string (bs k2)]) ∧ Blk W' (w.heap.size + 1 + 1) T3 X) := by
  have M1 := Blk.new w T1 #[.string (bs nm), .int .i64 st, v]
  have M3 := (M1.alloc (.cells #[.string (bs k1), .string (bs k2)] T2)).alloc (.cells X T3)
  have K3 := (Blk.new (w.alloc (.cells #[.string (bs nm), .int .i64 st, v] T1)) T2 #[.string (bs k1), .string (bs k2)]).alloc (.cells X T3)
  have R4 := Blk.new ((w.alloc (.cells #[.string (bs nm), .int .i64 st, v] T1)).alloc (.cells #[.string (bs k1), .string (bs k2)] T2)) T3 X
  have B3 : Below w.heap.size w (((w.alloc (.cells #[.string (bs nm), .int .i64 st, v] T1)).alloc (.cells #[.string (bs k1), .string (bs k2)] T2)).alloc (.cells X T3)) := (((Below.refl _ _).alloc (Nat.le_refl _) _).alloc (by simp) _).alloc (by simp; omega) _
  have hsz : (((w.alloc (.cells #[.string (bs nm), .int .i64 st, v] T1)).alloc (.cells #[.string (bs k1), .string (bs k2)] T2)).alloc (.cells X T3)).heap.size = w.heap.size + 1 + 1 + 1 := by simp
  refine ⟨B3, hsz, ?_⟩
  simp only [alloc_size] at K3 R4
  generalize (((w.alloc (.cells #[.string (bs nm), .int .i64 st, v] T1)).alloc (.cells #[.string (bs k1), .string (bs k2)] T2)).alloc (.cells X T3)) = W3 at *
  exact hid fun W' h => ⟨⟨M3.below h (by omega), K3.below h (by omega)⟩, R4.below h (by omega)⟩
/-- append of one cut onto an owned row, in a plain region. -/
theorem app_cut {ops : Array Oper} {rest : List Oper} {o : Oper} {a : Act} {Q : Exit → Act → World → Prop} (w : World) (hgd : o.guard = none) (s x : Operand)
    (ho : o.op = .call { callee := .builtin .append, args := #[s, x], argTypes := #[42, 42] })
    (base : Nat) (v : Value) (n : Nat) (xs : List (List UInt8 × Int × Int)) (hs : a.eval s = v) (hown : w.ownsRow base 38 3 v n (cutV xs))
    (B : Nat) (c : Nat) (z : List UInt8 × Int × Int) (hx : a.eval x = .slice (some ⟨B, 0, none⟩) 1 c) (hB : w.heap[B]? = some (.cells (cutC z).toArray 38 (0, 0))) (hsz : n ≤ 100000000000) (hbase : base ≤ w.heap.size) (H : Nat) (hH : w.heap.size = H)
    (h : ∀ g cap w', w'.ownsRow base 38 3 (.slice (some ⟨g, 0, none⟩) (n + 1) cap) (n + 1) (cutV (xs ++ [z])) → w.grownBy w' v.ownBlock → (v.ownBlock = some g ∨ g = H) → g < w'.heap.size → wpList Try.prog ops Q rest (a.put o.dst (.slice (some ⟨g, 0, none⟩) (n + 1) cap)) w') : wpList Try.prog ops Q (o :: rest) a w := by
  obtain ⟨i0, hi, hz0, hz1, hz2⟩ := info_parts infoCut
  refine wpList_append_lies w hgd s x 42 ho base 38 i0 _ 3 32 Try.underlying42 hi hz0 hz1 hz2 rfl (by omega) v n (cutV xs) hs hown ⟨B, 0, none⟩ 1 c (cutC z) hx rfl ?_ ?_ (by omega) (by unfold maxLen; omega) (by omega) hbase H hH ?_
  · intro j u hu
    have := World.news_of_block hB j u
    simpa using this hu
  · have := cutV_one [z]
    simpa [cutV] using this
  · intro g cap w' h1 h2 h3 h4
    refine h g cap w' ?_ h2 h3 h4
    rw [← cutV_app]
    simpa [cutV] using h1
/-- The reference's state: what was found, and the stack. -/
def SpJ (W0 : World) (G : Nat) (S ts : List (List UInt8)) (cs : List (List UInt8 × Int × Int)) (v1 v2 vS : Value) (w : World) : Prop :=
  Blk w G 44 #[v1, v2, .bool false] ∧ w.ownsRow W0.heap.size 9 1 v1 ts.length (strV ts) ∧ w.ownsRow W0.heap.size 38 3 v2 cs.length (cutV cs) ∧ w.ownsRow W0.heap.size 9 1 vS S.length (strV S.reverse) ∧ (∀ b, v1.ownBlock = some b → v2.ownBlock = some b → False) ∧ (∀ b, vS.ownBlock = some b → v1.ownBlock = some b → False) ∧ (∀ b, vS.ownBlock = some b → v2.ownBlock = some b → False) ∧ W0.grownBy w (some G)
def SpI (W0 : World) (G : Nat) (S ts : List (List UInt8)) (cs : List (List UInt8 × Int × Int)) (vS : Value) (w : World) : Prop := ∃ v1 v2, SpJ W0 G S ts cs v1 v2 vS w
/-- A cell of another block than the one at work. -/
theorem gcell {W0 w : World} {G : Nat} (hg : W0.grownBy w (some G)) {p : Addr} {v : Value} (h : W0.cell? p = some v) (hne : p.block ≠ G) : w.cell? p = some v := hg.cell h (by intro e; injection e with e; exact hne e)
theorem gthen {w w' w2 : World} {r : Option Nat} (h : w.grownBy w' r) (b : Below w'.heap.size w' w2) : w.grownBy w2 r :=
  ⟨b.os.trans h.os, b.tape.trans h.tape, b.output.trans h.output, Nat.le_trans h.size b.size, fun k hk hne => (b.block k (Nat.lt_of_lt_of_le hk h.size)).trans (h.block k hk hne)⟩
theorem gset {w w' : World} {G o : Nat} {v : Value} (h : w.grownBy w' (some G)) : w.grownBy (w'.setCell ⟨G, o, none⟩ v) (some G) :=
  ⟨h.os, h.tape, h.output, by simpa [World.setCell] using h.size, fun k hk hne => (Below.heap_setCell w' ⟨G, o, none⟩ v k (by intro e; exact hne (by rw [e]))).trans (h.block k hk hne)⟩
theorem gown {w w1 w' : World} {G : Nat} {r : Option Nat} (h : w.grownBy w1 (some G)) (h2 : w1.grownBy w' r) (hr : ∀ k, r = some k → w.heap.size ≤ k) : w.grownBy w' (some G) :=
  ⟨h2.os.trans h.os, h2.tape.trans h.tape, h2.output.trans h.output, Nat.le_trans h.size h2.size, fun k hk hne => (h2.block k (Nat.lt_of_lt_of_le hk h.size) (fun e => by have := hr k e.symm; omega)).trans (h.block k hk hne)⟩
theorem ne_new {v v' : Value} {n w0 : Nat} (hv : ∀ b, v.ownBlock = some b → b < n) {u : Value} (hu : u.ownBlock = v'.ownBlock ∨ u.ownBlock = some n) (h : ∀ b, v'.ownBlock = some b → v.ownBlock = some b → False) : ∀ b, u.ownBlock = some b → v.ownBlock = some b → False := by
  intro b e1 e2
  rcases hu with hu | hu
  · exact h b (hu.symm.trans e1) e2
  · have := hv b e2; rw [hu] at e1; injection e1 with e1; omega
section
variable {W0 w w' : World} {G : Nat} {S ts : List (List UInt8)} {cs : List (List UInt8 × Int × Int)} {v1 v2 vS : Value}
theorem SpJ.below (h : SpJ W0 G S ts cs v1 v2 vS w) (hb : Below w.heap.size w w') : SpJ W0 G S ts cs v1 v2 vS w' := by
  obtain ⟨h1, h2, h3, h4, h5, h6, h7, h8⟩ := h
  exact ⟨h1.below hb h1.lt, own_below h2 hb, own_below h3 hb, own_below h4 hb, h5, h6, h7, gthen h8 hb⟩
/-- The stack has a new value. -/
theorem SpJ.pop {p : List UInt8} {v5 : Value} (h : SpJ W0 G (p :: S) ts cs v1 v2 vS w) (hb : Below w.heap.size w w') (ho : w'.ownsRow w.heap.size 9 1 v5 S.length (strV S.reverse)) : SpJ W0 G S ts cs v1 v2 v5 w' := by
  obtain ⟨h1, h2, h3, h4, h5, h6, h7, h8⟩ := h
  refine ⟨h1.below hb h1.lt, own_below h2 hb, own_below h3 hb, own_mono ho h8.size, h5, ?_, ?_, gthen h8 hb⟩
  · intro b e1 e2; have := (ho.lt b e1).1; have := (h2.lt b e2).2; omega
  · intro b e1 e2; have := (ho.lt b e1).1; have := (h3.lt b e2).2; omega
theorem SpJ.push {v5 : Value} {p q r : List UInt8} (h : SpJ W0 G S ts cs v1 v2 vS w) (ho : w'.ownsRow W0.heap.size 9 1 v5 (S.length + 3) (strV (S.reverse ++ [r, q, p]))) (gr : w.grownBy w' vS.ownBlock) (hv : v5.ownBlock = vS.ownBlock ∨ v5.ownBlock = some w.heap.size) (hG : G < W0.heap.size) : SpJ W0 G (p :: q :: r :: S) ts cs v1 v2 v5 w' := by
  obtain ⟨h1, h2, h3, h4, h5, h6, h7, h8⟩ := h
  refine ⟨?_, own_other h2 gr fun b e1 e2 => h6 b e2 e1, own_other h3 gr fun b e1 e2 => h7 b e2 e1, ?_, h5, ne_new (w0 := 0) (fun b e => (h2.lt b e).2) hv h6, ne_new (w0 := 0) (fun b e => (h3.lt b e).2) hv h7, gown h8 gr fun b e => (h4.lt b e).1⟩
  · exact (gr.block G h1.lt (fun e => by have := (h4.lt G e.symm).1; omega)).trans h1
  · simpa using ho
theorem SpJ.cut {z : List UInt8 × Int × Int} {g cap : Nat} (h : SpJ W0 G S ts cs v1 v2 vS w) (ho : w'.ownsRow W0.heap.size 38 3 (.slice (some ⟨g, 0, none⟩) (cs.length + 1) cap) (cs.length + 1) (cutV (cs ++ [z]))) (gr : w.grownBy w' v2.ownBlock) (hv : v2.ownBlock = some g ∨ g = w.heap.size) (hG : G < W0.heap.size) : SpI W0 G S ts (cs ++ [z]) vS (w'.setCell ⟨G, 1, none⟩ (.slice (some ⟨g, 0, none⟩) (cs.length + 1) cap)) := by
  obtain ⟨h1, h2, h3, h4, h5, h6, h7, h8⟩ := h
  have hv' : (Value.slice (some ⟨g, 0, none⟩) (cs.length + 1) cap).ownBlock = v2.ownBlock ∨ (Value.slice (some ⟨g, 0, none⟩) (cs.length + 1) cap).ownBlock = some w.heap.size := hv.imp (fun h => h.symm) (fun h => by simp [Value.ownBlock, h])
  refine ⟨v1, .slice (some ⟨g, 0, none⟩) (cs.length + 1) cap, ?_, own_set (own_other h2 gr fun b e1 e2 => h5 b e1 e2) hG, ?_, own_set (own_other h4 gr fun b e1 e2 => h7 b e1 e2) hG, ?_, h6, ?_, gset (gown h8 gr fun b e => (h3.lt b e).1)⟩
  · have hB : Blk w' G 44 #[v1, v2, .bool false] := (gr.block G h1.lt (fun e => by have := (h3.lt G e.symm).1; omega)).trans h1
    exact hB.set_ 1 _
  · rw [List.length_append]; exact own_set ho hG
  · intro b e1 e2; exact ne_new (w0 := 0) (fun b e => (h2.lt b e).2) hv' (fun b e1 e2 => h5 b e2 e1) b e2 e1
  · intro b e1 e2; exact ne_new (w0 := 0) (fun b e => (h4.lt b e).2) hv' (fun b e1 e2 => h7 b e2 e1) b e2 e1
theorem SpJ.touch {p : List UInt8} {v5 : Value} (h : SpJ W0 G S ts cs v1 v2 vS w) (ho : w'.ownsRow W0.heap.size 9 1 v5 (ts.length + 1) (strV (ts ++ [p]))) (gr : w.grownBy w' v1.ownBlock) (hv : v5.ownBlock = v1.ownBlock ∨ v5.ownBlock = some w.heap.size) (hG : G < W0.heap.size) : SpI W0 G S (ts ++ [p]) cs vS (w'.setCell ⟨G, 0, none⟩ v5) := by
  obtain ⟨h1, h2, h3, h4, h5, h6, h7, h8⟩ := h
  refine ⟨v5, v2, ?_, ?_, own_set (own_other h3 gr fun b e1 e2 => h5 b e2 e1) hG, own_set (own_other h4 gr fun b e1 e2 => h6 b e1 e2) hG, ?_, ?_, h7, gset (gown h8 gr fun b e => (h2.lt b e).1)⟩
  · have hB : Blk w' G 44 #[v1, v2, .bool false] := (gr.block G h1.lt (fun e => by have := (h2.lt G e.symm).1; omega)).trans h1
    exact hB.set_ 0 _
  · rw [List.length_append]; exact own_set ho hG
  · exact ne_new (w0 := 0) (fun b e => (h3.lt b e).2) hv h5
  · intro b e1 e2; exact ne_new (w0 := 0) (fun b e => (h4.lt b e).2) hv (fun b e1 e2 => h6 b e2 e1) b e2 e1
theorem SpJ.cut_at (h : SpJ W0 G S ts cs v1 v2 vS w) (gr : w.grownBy w' v2.ownBlock) (hG : G < W0.heap.size) : w'.cell? ⟨G, 1, none⟩ = some v2 ∧ w'.frozen? ⟨G, 1, none⟩ = false := by
  obtain ⟨h1, h2, h3, h4, h5, h6, h7, h8⟩ := h
  have hB : Blk w' G 44 #[v1, v2, .bool false] := (gr.block G h1.lt (fun e => by have := (h3.lt G e.symm).1; omega)).trans h1
  exact ⟨hB.cell 1, hB.frozen 1⟩
theorem SpJ.touch_at (h : SpJ W0 G S ts cs v1 v2 vS w) (gr : w.grownBy w' v1.ownBlock) (hG : G < W0.heap.size) : w'.cell? ⟨G, 0, none⟩ = some v1 ∧ w'.frozen? ⟨G, 0, none⟩ = false := by
  obtain ⟨h1, h2, h3, h4, h5, h6, h7, h8⟩ := h
  have hB : Blk w' G 44 #[v1, v2, .bool false] := (gr.block G h1.lt (fun e => by have := (h2.lt G e.symm).1; omega)).trans h1
  exact ⟨hB.cell 0, hB.frozen 0⟩
end
theorem w64_nat (n : Nat) (h : n ≤ 100000000) : wrap64 (n : Int) = (n : Int) := by unfold wrap64; omega
set_option maxHeartbeats 400000 in
theorem specSearch_main (N : Nat) (nm : List UInt8) (ch : List (List UInt8)) (k : List UInt8 × List UInt8) (q b : Nat) (A : Option Addr) (n c : Nat) (w : World) (lo : 3 ≤ N) (hi : N ≤ 8) (hr : Rd w A n (strV ch)) (hn : n ≤ 1048576) (hcap : n ≤ c) (l1 : 1 ≤ ch.length) (hs : ∀ x ∈ ch, okChange (N : Int) x = true) (hb1 : okChange (N : Int) k.1 = true) (hb2 : okChange (N : Int) k.2 = true) (hq : q ≤ 6) (hbb : b ≤ 5000) (ok : LawOk ⟨nm, (N : Int), ch⟩ k) (hmb : methB ⟨nm, (N : Int), ch⟩ = true)
    (hg : (callsB ⟨nm, (N : Int), ch⟩ k && searchB (q : Int)) = true) (hbud : budB (b : Int) = true) :
    Calls Try.prog 15 #[.agg #[.string (bs nm), .int .i64 N, .slice A n c], .agg #[.string (bs k.1), .string (bs k.2)], .int .i64 q, .int .i64 b] w (ResF w (srun (cutF N ch k q) q b [[]] [] [], true)) := by
  have OK0 : LawOk ⟨nm, (N : Int), ch⟩ ([], []) := ⟨ok.1, ok.2.1, ok.2.2.1, ok.2.2.2.1, by simp, by simp⟩
  have GA := fun (w0 : World) (rd : Rd w0 A n (strV ch)) => hid (l13Asked_any ⟨nm, (N : Int), ch⟩ k q A n c w0 ok rd)
  rw [hg] at GA
  have GB := fun (w0 : World) => hid (l1In_any (b : Int) 1 5000 w0)
  rw [show (decide ((1 : Int) ≤ (b : Int)) && decide ((b : Int) ≤ 5000)) = true from hbud] at GB
  have GC := fun (p : List UInt8) (hp : p.length ≤ 1000) (w0 : World) (rd : Rd w0 A n (strV ch)) => hid (l13Cut_any N nm p ch k q A n c w0 lo hi rd hn hcap l1 hs hb1 hb2 hp OK0 hmb)
  have GO := fun (A1 : Option Addr) (n1 c1 : Nat) (l : List (List UInt8)) (w0 : World) (rd : Rd w0 A1 n1 (strV l)) (h : n1 ≤ 100000000) => hid (l1OwnSx_any A1 n1 c1 l w0 rd h)
  have RS := hid hr
  have hAlt := hid (show ∀ a o, A = some ⟨a, o, none⟩ → a < w.heap.size from fun a o e => by
    have hlen := hr.1
    rw [strV_len] at hlen
    obtain ⟨a', o', e', hc⟩ := hr.at_ (k := 0) (by omega)
    rw [e] at e'
    injection e' with e'
    injection e' with e1 e2
    rw [e1]
    exact World.block_lt_of_cell? w _ hc)
  generalize cutF N ch k q = C at *
  obtain ⟨R, hR⟩ : ∃ R, R = srun C q b [[]] [] [] := ⟨_, rfl⟩
  rw [← hR]
  have HR := hid hR
  obtain ⟨k1, k2⟩ := k
  dsimp only at *
  clear hr hs hb1 hb2 l1 ok OK0 hmb hg hbud hR
  go_enter Try.func15, Try.ntmps15
  go_wp2_with fail
  obtain ⟨B2, hsz, HC⟩ := box_mkX 34 36 44 w nm k1 k2 (N : Int) (.slice A n c) #[.slice none 0 0, .slice none 0 0, .bool false]
  have R2 := hid (RS.out.below B2)
  have HB2 := hid B2
  have hw2 := B2.size
  generalize (((w.alloc (.cells #[.string (bs nm), .int .i64 (N : Int), .slice A n c] 34)).alloc (.cells #[.string (bs k1), .string (bs k2)] 36)).alloc (.cells #[.slice none 0 0, .slice none 0 0, .bool false] 44)) = W2 at *
  clear B2
  have HHS8 := hid (fun W' (h : Below W2.heap.size W2 W') => (show W'.cell? ⟨w.heap.size, 0, none⟩ = some (.string (bs nm)) ∧ W'.cell? ⟨w.heap.size, 1, none⟩ = some (.int .i64 (N : Int)) ∧ W'.cell? ⟨w.heap.size, 2, none⟩ = some (.slice A n c) ∧ W'.cell? ⟨w.heap.size + 1, 0, none⟩ = some (.string (bs k1)) ∧ W'.cell? ⟨w.heap.size + 1, 1, none⟩ = some (.string (bs k2)) from by
    obtain ⟨⟨X, Y⟩, Z⟩ := HC.out _ h
    exact ⟨X.cell 0, X.cell 1, X.cell 2, Y.cell 0, Y.cell 1⟩))
  obtain ⟨n0, n1, n2, p0, p1⟩ := HHS8.out _ (Below.refl _ _)
  refine (GA _ R2.out).out.mono ?_
  rintro e w1 ⟨rfl, b1⟩
  have E1 := hid b1
  clear b1
  clear n0 n1 n2 p0 p1
  obtain ⟨n0, n1, n2, p0, p1⟩ := HHS8.out _ E1.out
  go_wp2_with fail
  refine (GB _).out.mono ?_
  rintro e w1' ⟨rfl, rfl⟩
  go_wp2_with fail
  have hs1 := E1.out.size
  have E2 := hid (show Below W2.heap.size W2 (w1.alloc (.cells #[.slice none 0 0, .slice none 0 0, .bool false] 44)) from E1.out.alloc hs1 _)
  have Z2 := Blk.new w1 44 #[.slice none 0 0, .slice none 0 0, .bool false]
  have hsz2 : (w1.alloc (.cells #[.slice none 0 0, .slice none 0 0, .bool false] 44)).heap.size = w1.heap.size + 1 := by simp
  have HBS := hid (HC.out _ E2.out)
  clear n0 n1 n2 p0 p1
  generalize (w1.alloc (.cells #[.slice none 0 0, .slice none 0 0, .bool false] 44)) = W3 at *
  have HBX := hid (show ∀ W', W3.grownBy W' (some w1.heap.size) → W'.cell? ⟨w.heap.size, 0, none⟩ = some (.string (bs nm)) ∧ W'.cell? ⟨w.heap.size, 1, none⟩ = some (.int .i64 (N : Int)) ∧ W'.cell? ⟨w.heap.size, 2, none⟩ = some (.slice A n c) ∧ W'.cell? ⟨w.heap.size + 1, 0, none⟩ = some (.string (bs k1)) ∧ W'.cell? ⟨w.heap.size + 1, 1, none⟩ = some (.string (bs k2)) from fun W' h => by
    obtain ⟨⟨X, Y⟩, Z⟩ := HBS.out
    exact ⟨gcell h (X.cell 0) (by dsimp only; omega), gcell h (X.cell 1) (by dsimp only; omega), gcell h (X.cell 2) (by dsimp only; omega), gcell h (Y.cell 0) (by dsimp only; omega), gcell h (Y.cell 1) (by dsimp only; omega)⟩)
  have HRD := hid (show ∀ W', W3.grownBy W' (some w1.heap.size) → Rd W' A n (strV ch) from fun W' h => (R2.out.below E2.out).grown h (fun a o e e2 => by have := hAlt.out a o e; injection e2 with e2; omega))
  have HGE := hid (show w1.heap.size < W3.heap.size by omega)
  have HZ3 := hid (show Blk (W3.alloc (.cells #[.string (bs [])] 9)) (w1.heap.size + 1) 9 #[.string (bs [])] from by have := Blk.new W3 9 #[.string (bs [])]; rw [hsz2] at this; exact this)
  have HSZ2 := hid hsz2
  have HSZ0 := hid hsz
  have HRX := hid HBS.out.2
  clear HBS hsz hsz2 hs1
  go_loopg [3, 11] b (fun gk u vS wr => ∃ (L : Nat) (S ts : List (List UInt8)) (cs : List (List UInt8 × Int × Int)), gk = L ∧ u = .int .i64 (L : Int) ∧ L ≤ b ∧ Hid (srun C q L S ts cs = R) ∧ Hid (∀ p ∈ S, p.length ≤ q) ∧ S.length + 2 * L ≤ 2 * b + 1 ∧ ts.length + cs.length + L ≤ b ∧ SpI W3 w1.heap.size S ts cs vS wr)
  case atStart => exact ⟨b, [[]], [], [], rfl, rfl, Nat.le_refl _, hid HR.out.symm, hid (by simp), by simp; omega, by simp, _, _, Z2.alloc _, World.ownsRow_nil _ _ _ _, World.ownsRow_nil _ _ _ _, own_of_blk HZ3.out (by have := HSZ2.out; omega) (by simp [maxLen]), fun b h => by simp [Value.ownBlock] at h, fun b h h2 => by simp [Value.ownBlock] at h2, fun b h h2 => by simp [Value.ownBlock] at h2, gthen (World.grownBy.refl _ _) ((Below.refl _ _).alloc (Nat.le_refl _) _)⟩
  case round =>
    obtain ⟨L, S, ts, cs, hgk, rfl, hL, hrun, hlen, hS, hroom, v1, v2, hJ⟩ := hrel
    have hgk' := hgk.symm
    subst hgk'
    clear hgk
    obtain ⟨A1, c1, rfl, y1, y2, y3, y4⟩ := own_shape hJ.2.1
    obtain ⟨A2, c2, rfl, y5, y6, y7, y8⟩ := own_shapeC hJ.2.2.1
    obtain ⟨A3, c3, rfl, hcc3, hcm3, rd3, y9⟩ := own_shape hJ.2.2.2.1
    clear y1 y2 y3 y4 y5 y6 y7 y8 y9
    have HJ := hid hJ
    have hBG := hJ.1
    have d0 := hBG.cell 0
    have d1 := hBG.cell 1
    have d2 := hBG.cell 2
    have f0 := hBG.frozen 0
    have f1 := hBG.frozen 1
    have f2 := hBG.frozen 2
    simp only [List.getElem?_toArray, List.getElem?_cons_zero, List.getElem?_cons_succ] at d0 d1 d2
    have HRD3 := hid rd3
    have hGr := hid hJ.2.2.2.2.2.2.2
    clear hJ hBG rd3
    cases S with
    | nil =>
      have hRR : R = (ts, cs, true) := by rw [← hrun.out]; cases L <;> rfl
      have RX : Blk wr (w.heap.size + 1 + 1) 44 #[.slice none 0 0, .slice none 0 0, .bool false] := (hGr.out.block _ (by have := HSZ2.out; have := E1.out.size; have := HSZ0.out; omega) (by intro e; injection e with e; have := E1.out.size; have := HSZ0.out; omega)).trans HRX.out
      have r0 := RX.cell 0
      have r1 := RX.cell 1
      have r2 := RX.cell 2
      have g0 := RX.frozen 0
      have g1 := RX.frozen 1
      have g2 := RX.frozen 2
      simp only [List.getElem?_toArray, List.getElem?_cons_zero, List.getElem?_cons_succ] at r0 r1 r2
      clear RX
      have hne8 : w1.heap.size ≠ w.heap.size + 1 + 1 := by have := E1.out.size; have := HSZ0.out; omega
      have HRR := hid hRR
      clear hRR hcm3 hcc3
      go_wp2
      refine bodyPost_ret (v := .tuple #[.agg #[.slice A1 ts.length c1, .slice A2 cs.length c2, .bool true], .bool true]) (by simp [results, Try.results15, go_sem, r0, r1, r2]) rfl ?_
      rw [HRR.out]
      have hb3 : w.heap.size ≤ W3.heap.size := by have := HSZ2.out; have := E1.out.size; have := HSZ0.out; omega
      have hb4 : w.heap.size ≤ w1.heap.size := by have := E1.out.size; have := HSZ0.out; omega
      have hrb : w.heap.size + 1 + 1 < W3.heap.size := by have := HSZ2.out; have := E1.out.size; have := HSZ0.out; omega
      exact ⟨_, _, rfl, own_mono (set3_own (own_set HJ.out.2.1 HGE.out) hrb _ _ _) hb3, own_mono (own_set (own_set (own_set (own_set HJ.out.2.2.1 HGE.out) hrb) hrb) hrb) hb3, HJ.out.2.2.2.2.1, cset3_below ((((HB2.out.trans (E2.out.mono hw2)).grown hGr.out hb3 (fun k e => by injection e with e; omega)).setCell (p := ⟨w1.heap.size, 2, none⟩) (by dsimp only; omega) _)) (by omega) _ _ _⟩
    | cons p S =>
      cases L with
      | zero =>
        have hRR : R = (ts, cs, false) := by rw [← hrun.out]; rfl
        have RX : Blk wr (w.heap.size + 1 + 1) 44 #[.slice none 0 0, .slice none 0 0, .bool false] := (hGr.out.block _ (by have := HSZ2.out; have := E1.out.size; have := HSZ0.out; omega) (by intro e; injection e with e; have := E1.out.size; have := HSZ0.out; omega)).trans HRX.out
        have r0 := RX.cell 0
        have r1 := RX.cell 1
        have r2 := RX.cell 2
        have g0 := RX.frozen 0
        have g1 := RX.frozen 1
        have g2 := RX.frozen 2
        simp only [List.getElem?_toArray, List.getElem?_cons_zero, List.getElem?_cons_succ] at r0 r1 r2
        clear RX
        have hne8 : w1.heap.size ≠ w.heap.size + 1 + 1 := by have := E1.out.size; have := HSZ0.out; omega
        have HRR := hid hRR
        clear hRR hcm3 hcc3
        go_wp2
        refine bodyPost_ret (v := .tuple #[.agg #[.slice A1 ts.length c1, .slice A2 cs.length c2, .bool false], .bool true]) (by simp [results, Try.results15, go_sem, r0, r1, r2]; omega) rfl ?_
        rw [HRR.out]
        have hb3 : w.heap.size ≤ W3.heap.size := by have := HSZ2.out; have := E1.out.size; have := HSZ0.out; omega
        have hb4 : w.heap.size ≤ w1.heap.size := by have := E1.out.size; have := HSZ0.out; omega
        have hrb : w.heap.size + 1 + 1 < W3.heap.size := by have := HSZ2.out; have := E1.out.size; have := HSZ0.out; omega
        exact ⟨_, _, rfl, own_mono (set3_own (own_set HJ.out.2.1 HGE.out) hrb _ _ _) hb3, own_mono (own_set (own_set (own_set (own_set HJ.out.2.2.1 HGE.out) hrb) hrb) hrb) hb3, HJ.out.2.2.2.2.1, cset3_below ((((HB2.out.trans (E2.out.mono hw2)).grown hGr.out hb3 (fun k e => by injection e with e; omega)).setCell (p := ⟨w1.heap.size, 2, none⟩) (by dsimp only; omega) _)) (by omega) _ _ _⟩
      | succ M =>
        clear d0 d1 d2 f0 f1 f2
        have hpq : p.length ≤ q := hlen.out p (by simp)
        have GCp := GC p (by omega)
        obtain ⟨R0, hR0⟩ : ∃ x, x = C p := ⟨_, rfl⟩
        rw [← hR0] at GCp
        have HX := hid (show R = if R0.2 = true then srun C q M S ts (cs ++ [R0.1]) else if p.length = q then srun C q M S (ts ++ [p]) cs else srun C q M ((p ++ [98]) :: (p ++ [112]) :: (p ++ [115]) :: S) ts cs by rw [← hrun.out, srun, ← hR0])
        have HlS := hid (show ∀ x ∈ S, x.length ≤ q from fun x hx => hlen.out x (by simp [hx]))
        obtain ⟨⟨rp, ry, rz⟩, rb⟩ := R0
        dsimp only at HX GCp
        clear hR0 hrun hlen
        obtain ⟨b5, o5, rfl, hk5, hc5⟩ := HRD3.out.str (k := S.length) (by simp)
        rw [show (p :: S).reverse[S.length]'hk5 = p by simp] at hc5
        have HT3 := hid (show Rd wr (some ⟨b5, o5, none⟩) S.length (strV S.reverse) from by
          have := HRD3.out.takeN S.length (by simp)
          simpa using this)
        obtain ⟨s, hs⟩ : ∃ s, s = S.length := ⟨_, rfl⟩
        have HS := hid hs
        rw [List.length_cons] at *
        rw [← hs] at HT3 hc5 ⊢
        have hs0 : s ≤ 10001 := by omega
        have hsc : s ≤ c3 := by omega
        have hx0 : (0 : Int) ≤ (s : Int) := Int.natCast_nonneg _
        have hx1 : (s : Int) < (s : Int) + 1 := Int.lt_succ _
        clear hs
        obtain ⟨n0, n1, n2, p0, p1⟩ := HBX.out _ hGr.out
        go_wp2_with fail
        refine (GO _ _ _ _ _ HT3.out (by omega)).out.mono ?_
        rintro e w5 ⟨v5, rfl, o5', b5'⟩
        rw [List.length_reverse] at o5'
        have HJ5 := hid (SpJ.pop HJ.out b5' o5')
        have HG5 := hid HJ5.out.2.2.2.2.2.2.2
        clear b5' o5' n0 n1 n2 p0 p1
        obtain ⟨n0, n1, n2, p0, p1⟩ := HBX.out _ HG5.out
        go_wp2_with fail
        refine (GCp _ (HRD.out _ HG5.out)).out.mono ?_
        rintro e w6 ⟨rfl, b6⟩
        have HJ6 := hid (HJ5.out.below b6)
        have HG6 := hid HJ6.out.2.2.2.2.2.2.2
        clear b6 n0 n1 n2 p0 p1 hc5 hcc3 hcm3 hsc
        obtain ⟨n0, n1, n2, p0, p1⟩ := HBX.out _ HG6.out
        dsimp only
        cases rb
        · have HX1 := hid (HX.out.trans (if_neg (by simp)))
          clear HX
          have hcA : c = c := rfl
          by_cases hpl : p.length = q
          · have HX2 := hid (HX1.out.trans (if_pos hpl))
            have hqb : ((p.length : Int) == (q : Int)) = true := by simp; omega
            clear HX1 hpl hpq hcA
            go_upto_region 13 with fail
            have HJ7 := hid (HJ6.out.below ((Below.refl _ _).alloc (Nat.le_refl _) (.cells #[.string (bs rp), .int .i64 ry, .int .i64 rz] 38)))
            generalize (w6.alloc (.cells #[.string (bs rp), .int .i64 ry, .int .i64 rz] 38)) = W7 at *
            have HG7 := hid HJ7.out.2.2.2.2.2.2.2
            clear n0 n1 n2 p0 p1
            have hBG := HJ7.out.1
            have d0 := hBG.cell 0
            simp only [List.getElem?_toArray, List.getElem?_cons_zero, List.getElem?_cons_succ] at d0
            clear hBG
            have hbase : W3.heap.size ≤ W7.heap.size := HG7.out.size
            have HO7 := hid (HJ7.out.2.1)
            have HJ8 := hid (HJ7.out.below ((Below.refl _ _).alloc (Nat.le_refl _) (.cells #[.string (bs p)] 9)))
            go_wp2_with (at_builtin; refine app_strB _ (by rfl) _ _ (by rfl) W3.heap.size _ _ ts (by rfl) (HO7.out.alloc _) (some ⟨W7.heap.size, 0, none⟩) 1 1 [p] (by rfl) (Rd.blk W7 [.string (bs p)] _) (by omega) (by simp; omega) ?_; intro v8 w8 o8 g8' hat8; obtain ⟨e1, e2⟩ := HJ8.out.touch_at g8' HGE.out; obtain ⟨A8, c8, rfl, q1, q2, q3, q4⟩ := own_shape o8; clear q1 q2 q3 q4)
            go_roundg M
            case measure => omega
            case rel => exact ⟨M, S, ts ++ [p], cs, rfl, rfl, by omega, hid HX2.out.symm, HlS, by omega, by simp; omega, HJ8.out.touch o8 g8' hat8 HGE.out⟩
          · have HX2 := hid (HX1.out.trans (if_neg hpl))
            have hqb : ((p.length : Int) == (q : Int)) = false := by simp; omega
            have hpq' : p.length + 1 ≤ q := by omega
            clear HX1 hpl hpq hcA
            go_upto_region 14 with fail
            have HJ7 := hid (HJ6.out.below ((Below.refl _ _).alloc (Nat.le_refl _) (.cells #[.string (bs rp), .int .i64 ry, .int .i64 rz] 38)))
            generalize (w6.alloc (.cells #[.string (bs rp), .int .i64 ry, .int .i64 rz] 38)) = W7 at *
            have HG7 := hid HJ7.out.2.2.2.2.2.2.2
            clear n0 n1 n2 p0 p1
            have hbase : W3.heap.size ≤ W7.heap.size := HG7.out.size
            have HO7 := hid (HJ7.out.2.2.2.1)
            have HJ8 := hid (HJ7.out.below ((Below.refl _ _).alloc (Nat.le_refl _) (.cells #[.string (bs (p ++ [115])), .string (bs (p ++ [112])), .string (bs (p ++ [98]))] 9)))
            go_wp2_with (at_builtin; refine app_strB _ (by rfl) _ _ (by rfl) W3.heap.size _ _ S.reverse (by rfl) (HO7.out.alloc _) (some ⟨W7.heap.size, 0, none⟩) 3 3 [p ++ [115], p ++ [112], p ++ [98]] (by rfl) (Rd.blk W7 [.string (bs (p ++ [115])), .string (bs (p ++ [112])), .string (bs (p ++ [98]))] _) (by omega) (by simp; omega) ?_; intro v8 w8 o8 g8' hat8)
            go_roundg M
            case measure => omega
            case rel => exact ⟨M, (p ++ [98]) :: (p ++ [112]) :: (p ++ [115]) :: S, ts, cs, rfl, rfl, by omega, hid HX2.out.symm, hid (fun x hx => by
              simp only [List.mem_cons] at hx
              rcases hx with rfl | rfl | rfl | hx
              · simp; omega
              · simp; omega
              · simp; omega
              · exact HlS.out x hx), by simp; omega, by omega, _, _, HJ8.out.push o8 g8' hat8 HGE.out⟩
        · have HX1 := hid (HX.out.trans (if_pos rfl))
          clear HX
          go_upto_region 11 with fail
          have Z7 := Blk.new w6 38 #[.string (bs rp), .int .i64 ry, .int .i64 rz]
          have HJ7 := hid (HJ6.out.below ((Below.refl _ _).alloc (Nat.le_refl _) (.cells #[.string (bs rp), .int .i64 ry, .int .i64 rz] 38)))
          generalize (w6.alloc (.cells #[.string (bs rp), .int .i64 ry, .int .i64 rz] 38)) = W7 at *
          have HG7 := hid HJ7.out.2.2.2.2.2.2.2
          clear n0 n1 n2 p0 p1
          have hBG := HJ7.out.1
          have d0 := hBG.cell 0
          have d1 := hBG.cell 1
          have d2 := hBG.cell 2
          have f0 := hBG.frozen 0
          have f1 := hBG.frozen 1
          have f2 := hBG.frozen 2
          have z0 := Z7.cell 0
          have z1 := Z7.cell 1
          have z2 := Z7.cell 2
          simp only [List.getElem?_toArray, List.getElem?_cons_zero, List.getElem?_cons_succ] at d0 d1 d2 z0 z1 z2
          clear hBG Z7
          have hroom2 : cs.length ≤ 100000000000 := by omega
          have hbase : W3.heap.size ≤ W7.heap.size := HG7.out.size
          have HO7 := hid (HJ7.out.2.2.1)
          have HJ8 := hid (HJ7.out.below ((Below.refl _ _).alloc (Nat.le_refl _) (.cells #[.string (bs rp), .int .i64 ry, .int .i64 rz] 38)))
          go_wp2_with (at_builtin; refine app_cut _ (by rfl) _ _ (by rfl) W3.heap.size _ _ cs (by rfl) (HO7.out.alloc _) W7.heap.size 1 (rp, ry, rz) (by rfl) (heap_alloc_new W7 _) hroom2 (by simp; omega) (W7.heap.size + 1) (by simp) ?_; intro g8 cap8 w8 o8 g8' hat8 hlt8; obtain ⟨e1, e2⟩ := HJ8.out.cut_at g8' HGE.out)
          go_roundg M
          case measure => omega
          case rel => exact ⟨M, S, ts, cs ++ [(rp, ry, rz)], rfl, rfl, by omega, hid HX1.out.symm, HlS, by omega, by simp; omega, HJ8.out.cut o8 g8' (by simpa using hat8) HGE.out⟩
set_option maxHeartbeats 1000000 in
theorem specSearch_law (m : Meth) (k : List UInt8 × List UInt8) (q b : Int) (A : Option Addr) (n c : Nat) (w : World) (ok : LawOk m k) (rd : Rd w A n (strV m.ch)) (hcap : n ≤ c) :
    Calls Try.prog 15 #[.agg #[.string (bs m.nm), .int .i64 m.st, .slice A n c], .agg #[.string (bs k.1), .string (bs k.2)], .int .i64 q, .int .i64 b] w (ResF w (foundR m k q b)) := by
  have hn : n ≤ 1048576 := by have h1 := rd.1; have h2 := ok.2.2.1; rw [strV_len] at h1; omega
  have GA := fun (w0 : World) (rd : Rd w0 A n (strV m.ch)) => hid (l13Asked_any m k q A n c w0 ok rd)
  cases hg0 : callsB m k && searchB q
  · rw [hg0] at GA
    have HR := hid (show foundR m k q b = (([], [], false), false) by unfold foundR; rw [hg0]; rfl)
    have GB := fun (w0 : World) => hid (l1In_any b 1 5000 w0)
    have RS := hid rd
    obtain ⟨nm, st, ch⟩ := m
    obtain ⟨k1, k2⟩ := k
    dsimp only at *
    clear hg0 ok rd
    go_enter Try.func15, Try.ntmps15
    go_wp2_with fail
    obtain ⟨B2, hsz, HC⟩ := box_mkX 34 36 44 w nm k1 k2 st (.slice A n c) #[.slice none 0 0, .slice none 0 0, .bool false]
    have R2 := hid (RS.out.below B2)
    have HB2 := hid B2
    have hw2 := B2.size
    generalize (((w.alloc (.cells #[.string (bs nm), .int .i64 st, .slice A n c] 34)).alloc (.cells #[.string (bs k1), .string (bs k2)] 36)).alloc (.cells #[.slice none 0 0, .slice none 0 0, .bool false] 44)) = W2 at *
    clear B2
    have HHS8 := hid (fun W' (h : Below W2.heap.size W2 W') => (show W'.cell? ⟨w.heap.size, 0, none⟩ = some (.string (bs nm)) ∧ W'.cell? ⟨w.heap.size, 1, none⟩ = some (.int .i64 st) ∧ W'.cell? ⟨w.heap.size, 2, none⟩ = some (.slice A n c) ∧ W'.cell? ⟨w.heap.size + 1, 0, none⟩ = some (.string (bs k1)) ∧ W'.cell? ⟨w.heap.size + 1, 1, none⟩ = some (.string (bs k2)) from by
      obtain ⟨⟨X, Y⟩, Z⟩ := HC.out _ h
      exact ⟨X.cell 0, X.cell 1, X.cell 2, Y.cell 0, Y.cell 1⟩))
    obtain ⟨n0, n1, n2, p0, p1⟩ := HHS8.out _ (Below.refl _ _)
    refine (GA _ R2.out).out.mono ?_
    rintro e w1 ⟨rfl, b1⟩
    have E1 := hid b1
    clear b1
    clear n0 n1 n2 p0 p1
    obtain ⟨n0, n1, n2, p0, p1⟩ := HHS8.out _ E1.out
    have RX := (HC.out _ E1.out).2
    have r0 := RX.cell 0
    have r1 := RX.cell 1
    have r2 := RX.cell 2
    have g0 := RX.frozen 0
    have g1 := RX.frozen 1
    have g2 := RX.frozen 2
    simp only [List.getElem?_toArray, List.getElem?_cons_zero, List.getElem?_cons_succ] at r0 r1 r2
    clear RX hsz
    go_wp2
    refine bodyPost_ret (v := .tuple #[.agg #[.slice none 0 0, .slice none 0 0, .bool false], .bool false]) (by simp [results, Try.results15, go_sem, r0, r1, r2]) rfl ?_
    rw [HR.out]
    exact ResF.none _ _ (cset3_below (HB2.out.trans (E1.out.mono hw2)) (by omega) _ _ _)
  · cases hb0 : budB b
    · rw [hg0] at GA
      have HR := hid (show foundR m k q b = (([], [], false), false) by unfold foundR; rw [hg0, hb0]; rfl)
      have GB := fun (w0 : World) => hid (l1In_any b 1 5000 w0)
      rw [show (decide ((1 : Int) ≤ b) && decide (b ≤ 5000)) = false from hb0] at GB
      have RS := hid rd
      obtain ⟨nm, st, ch⟩ := m
      obtain ⟨k1, k2⟩ := k
      dsimp only at *
      clear hg0 hb0 ok rd
      go_enter Try.func15, Try.ntmps15
      go_wp2_with fail
      obtain ⟨B2, hsz, HC⟩ := box_mkX 34 36 44 w nm k1 k2 st (.slice A n c) #[.slice none 0 0, .slice none 0 0, .bool false]
      have R2 := hid (RS.out.below B2)
      have HB2 := hid B2
      have hw2 := B2.size
      generalize (((w.alloc (.cells #[.string (bs nm), .int .i64 st, .slice A n c] 34)).alloc (.cells #[.string (bs k1), .string (bs k2)] 36)).alloc (.cells #[.slice none 0 0, .slice none 0 0, .bool false] 44)) = W2 at *
      clear B2
      have HHS8 := hid (fun W' (h : Below W2.heap.size W2 W') => (show W'.cell? ⟨w.heap.size, 0, none⟩ = some (.string (bs nm)) ∧ W'.cell? ⟨w.heap.size, 1, none⟩ = some (.int .i64 st) ∧ W'.cell? ⟨w.heap.size, 2, none⟩ = some (.slice A n c) ∧ W'.cell? ⟨w.heap.size + 1, 0, none⟩ = some (.string (bs k1)) ∧ W'.cell? ⟨w.heap.size + 1, 1, none⟩ = some (.string (bs k2)) from by
        obtain ⟨⟨X, Y⟩, Z⟩ := HC.out _ h
        exact ⟨X.cell 0, X.cell 1, X.cell 2, Y.cell 0, Y.cell 1⟩))
      obtain ⟨n0, n1, n2, p0, p1⟩ := HHS8.out _ (Below.refl _ _)
      refine (GA _ R2.out).out.mono ?_
      rintro e w1 ⟨rfl, b1⟩
      have E1 := hid b1
      clear b1
      clear n0 n1 n2 p0 p1
      obtain ⟨n0, n1, n2, p0, p1⟩ := HHS8.out _ E1.out
      have RX := (HC.out _ E1.out).2
      have r0 := RX.cell 0
      have r1 := RX.cell 1
      have r2 := RX.cell 2
      have g0 := RX.frozen 0
      have g1 := RX.frozen 1
      have g2 := RX.frozen 2
      simp only [List.getElem?_toArray, List.getElem?_cons_zero, List.getElem?_cons_succ] at r0 r1 r2
      clear RX hsz
      go_wp2_with fail
      refine (GB _).out.mono ?_
      rintro e w1' ⟨rfl, rfl⟩
      go_wp2
      refine bodyPost_ret (v := .tuple #[.agg #[.slice none 0 0, .slice none 0 0, .bool false], .bool false]) (by simp [results, Try.results15, go_sem, r0, r1, r2]) rfl ?_
      rw [HR.out]
      exact ResF.none _ _ (cset3_below (HB2.out.trans (E1.out.mono hw2)) (by omega) _ _ _)
    · have HR0 := show foundR m k q b = (srun (cutF m.st.toNat m.ch k q.toNat) q.toNat b.toNat [[]] [] [], true) by unfold foundR; rw [hg0, hb0]; rfl
      have hg1 := hg0
      rw [Bool.and_eq_true] at hg0
      have hb1 := callsB_bob hg0.1
      have hb2 := callsB_single hg0.1
      have hmb := callsB_meth (m := m) (k := k) hg0.1
      obtain ⟨N, hN, lo, hi, l1, l40, hs⟩ := meth_parts hmb
      obtain ⟨j, rfl, hj1, hj6⟩ := searchB_nat hg0.2
      obtain ⟨i, rfl, hi1, hi5⟩ := budB_nat hb0
      obtain ⟨nm, st, ch⟩ := m
      dsimp only at *
      subst hN
      simp only [Int.toNat_natCast] at HR0
      rw [HR0]
      exact specSearch_main N nm ch k j i A n c w lo hi rd hn hcap l1 hs hb1 hb2 hj6 hi5 ok hmb hg1 hb0
end Go.Proofs.Ytnkpbahapaocbaa

set_option linter.unusedVariables false
set_option linter.unusedSimpArgs false
set_option maxRecDepth 100000
namespace Go.Proofs.Ytnkpbahapaocbaa
open Go.RowKit

theorem grown_set1 {w w' : World} {G o : Nat} {v : Value} (h : w.grownBy w' (some G)) : w.grownBy (w'.setCell ⟨G, o, none⟩ v) (some G) :=
  ⟨h.os, h.tape, h.output, by simpa [World.setCell] using h.size, fun k hk hne => (Below.heap_setCell w' ⟨G, o, none⟩ v k (by intro e; exact hne (by rw [e]))).trans (h.block k hk hne)⟩
theorem grown_then {w w' w2 : World} {r : Option Nat} (h : w.grownBy w' r) (b : Below w'.heap.size w' w2) : w.grownBy w2 r :=
  ⟨b.os.trans h.os, b.tape.trans h.tape, b.output.trans h.output, Nat.le_trans h.size b.size, fun k hk hne => (b.block k (Nat.lt_of_lt_of_le hk h.size)).trans (h.block k hk hne)⟩
theorem grown_own1 {w w1 w' : World} {G : Nat} {r : Option Nat} (h : w.grownBy w1 (some G)) (h2 : w1.grownBy w' r) (hr : ∀ k, r = some k → w.heap.size ≤ k) : w.grownBy w' (some G) :=
  ⟨h2.os.trans h.os, h2.tape.trans h.tape, h2.output.trans h.output, Nat.le_trans h.size h2.size, fun k hk hne => (h2.block k (Nat.lt_of_lt_of_le hk h.size) (fun e => by have := hr k e.symm; omega)).trans (h.block k hk hne)⟩
/-- The cells of a searcher at work. -/
def srchD (nm : List UInt8) (N : Nat) (A : Option Addr) (n c : Nat) (k1 k2 : List UInt8) (q : Nat) (tr : Bool) (g : Nat) (L : Int) (v1 v2 : Value) (ok : Bool) : Array Value := #[.string (bs nm), .int .i64 (N : Int), .slice A n c, .string (bs k1), .string (bs k2), .int .i64 (q : Int), .bool tr, .map (some g), .int .i64 L, v1, v2, .bool ok]
theorem SrchAt.ofD {w : World} {G : Nat} {t : TypeId} {nm : List UInt8} {N : Nat} {A : Option Addr} {n c : Nat} {k1 k2 : List UInt8} {q : Nat} {tr : Bool} {g : Nat} {L : Int} {v1 v2 : Value} {ok : Bool} (h : Blk w G t (srchD nm N A n c k1 k2 q tr g L v1 v2 ok)) : SrchAt w G nm N A n c k1 k2 q tr g := ⟨h.cell 0, h.cell 1, h.cell 2, h.cell 3, h.cell 4, h.cell 5, h.cell 6, h.cell 7⟩
/-- What a searcher has found stands in its fields; of what was there when it began, nothing has turned but its own block. -/
def SInv (W0 : World) (G N : Nat) (nm : List UInt8) (A : Option Addr) (n c : Nat) (k1 k2 : List UInt8) (q : Nat) (tr : Bool) (g : Nat) (F : Fnd) (w : World) : Prop :=
  ∃ v1 v2, Blk w G 71 (srchD nm N A n c k1 k2 q tr g (F.left : Int) v1 v2 F.ok) ∧ w.ownsRow W0.heap.size 9 1 v1 F.ts.length (strV F.ts) ∧ w.ownsRow W0.heap.size 38 3 v2 F.cs.length (cutV F.cs) ∧ (∀ b, v1.ownBlock = some b → v2.ownBlock = some b → False) ∧ W0.grownBy w (some G)
section
variable {W0 w w' : World} {G N : Nat} {nm : List UInt8} {A : Option Addr} {n c : Nat} {k1 k2 : List UInt8} {q : Nat} {tr : Bool} {g : Nat} {F : Fnd}
theorem SInv.grown (h : SInv W0 G N nm A n c k1 k2 q tr g F w) : W0.grownBy w (some G) := by
  obtain ⟨_, _, _, _, _, _, h⟩ := h; exact h
theorem SInv.below (h : SInv W0 G N nm A n c k1 k2 q tr g F w) (hb : Below w.heap.size w w') : SInv W0 G N nm A n c k1 k2 q tr g F w' := by
  obtain ⟨v1, v2, h1, h2, h3, h4, h5⟩ := h
  exact ⟨v1, v2, h1.below hb h1.lt, own_below h2 hb, own_below h3 hb, h4, grown_then h5 hb⟩
theorem SInv.at_ (h : SInv W0 G N nm A n c k1 k2 q tr g F w) : SrchAt w G nm N A n c k1 k2 q tr g := by
  obtain ⟨v1, v2, h1, _⟩ := h; exact SrchAt.ofD h1
theorem SInv.rd (h : SInv W0 G N nm A n c k1 k2 q tr g F w) {xs : List Value} (hr : Rd W0 A n xs) (hA : ∀ b o, A = some ⟨b, o, none⟩ → b ≠ G) : Rd w A n xs :=
  hr.grown h.grown (fun b o e e2 => hA b o e (by injection e2 with e2; exact e2.symm))
theorem SInv.set (h : SInv W0 G N nm A n c k1 k2 q tr g F w) {z : Nat} {FF : List (List UInt8)} (hs : IsSet W0 g z FF) (hg : g ≠ G) : IsSet w g z FF :=
  World.ownsMap.kept hs h.grown (by intro e; injection e with e; exact hg e)
theorem srch_cut {z : List UInt8 × Int × Int} {v1 v2 : Value} {ts : List (List UInt8)} {cs : List (List UInt8 × Int × Int)} {L gb cap : Nat} {ok : Bool} (h1 : Blk w G 71 (srchD nm N A n c k1 k2 q tr g (L : Int) v1 v2 ok)) (h2 : w.ownsRow W0.heap.size 9 1 v1 ts.length (strV ts)) (h3 : w.ownsRow W0.heap.size 38 3 v2 cs.length (cutV cs)) (h5 : ∀ b, v1.ownBlock = some b → v2.ownBlock = some b → False) (h8 : W0.grownBy w (some G)) (hG : G < W0.heap.size)
    (ho : w'.ownsRow W0.heap.size 38 3 (.slice (some ⟨gb, 0, none⟩) (cs.length + 1) cap) (cs.length + 1) (cutV (cs ++ [z]))) (gr : w.grownBy w' v2.ownBlock) (hv : v2.ownBlock = some gb ∨ gb = w.heap.size) : SInv W0 G N nm A n c k1 k2 q tr g ⟨L, ts, cs ++ [z], ok⟩ (w'.setCell ⟨G, 10, none⟩ (.slice (some ⟨gb, 0, none⟩) (cs.length + 1) cap)) := by
  have hv' : (Value.slice (some ⟨gb, 0, none⟩) (cs.length + 1) cap).ownBlock = v2.ownBlock ∨ (Value.slice (some ⟨gb, 0, none⟩) (cs.length + 1) cap).ownBlock = some w.heap.size := hv.imp (fun h => h.symm) (fun h => by simp [Value.ownBlock, h])
  refine ⟨v1, .slice (some ⟨gb, 0, none⟩) (cs.length + 1) cap, ?_, own_set (own_other h2 gr fun b e1 e2 => h5 b e1 e2) hG, ?_, ?_, gset (gown h8 gr fun b e => (h3.lt b e).1)⟩
  · have hB : Blk w' G 71 (srchD nm N A n c k1 k2 q tr g (L : Int) v1 v2 ok) := (gr.block G h1.lt (fun e => by have := (h3.lt G e.symm).1; omega)).trans h1
    exact hB.set_ 10 _
  · dsimp only; rw [List.length_append]; exact own_set ho hG
  · intro b e1 e2; exact ne_new (w0 := 0) (fun b e => (h2.lt b e).2) hv' (fun b e1 e2 => h5 b e2 e1) b e2 e1
theorem srch_touch {p : List UInt8} {v1 v2 v5 : Value} {ts : List (List UInt8)} {cs : List (List UInt8 × Int × Int)} {L : Nat} {ok : Bool} (h1 : Blk w G 71 (srchD nm N A n c k1 k2 q tr g (L : Int) v1 v2 ok)) (h2 : w.ownsRow W0.heap.size 9 1 v1 ts.length (strV ts)) (h3 : w.ownsRow W0.heap.size 38 3 v2 cs.length (cutV cs)) (h5 : ∀ b, v1.ownBlock = some b → v2.ownBlock = some b → False) (h8 : W0.grownBy w (some G)) (hG : G < W0.heap.size)
    (ho : w'.ownsRow W0.heap.size 9 1 v5 (ts.length + 1) (strV (ts ++ [p]))) (gr : w.grownBy w' v1.ownBlock) (hv : v5.ownBlock = v1.ownBlock ∨ v5.ownBlock = some w.heap.size) : SInv W0 G N nm A n c k1 k2 q tr g ⟨L, ts ++ [p], cs, ok⟩ (w'.setCell ⟨G, 9, none⟩ v5) := by
  refine ⟨v5, v2, ?_, ?_, own_set (own_other h3 gr fun b e1 e2 => h5 b e2 e1) hG, ne_new (w0 := 0) (fun b e => (h3.lt b e).2) hv h5, gset (gown h8 gr fun b e => (h2.lt b e).1)⟩
  · have hB : Blk w' G 71 (srchD nm N A n c k1 k2 q tr g (L : Int) v1 v2 ok) := (gr.block G h1.lt (fun e => by have := (h2.lt G e.symm).1; omega)).trans h1
    exact hB.set_ 9 _
  · dsimp only; rw [List.length_append]; exact own_set ho hG
theorem touch_at {v1 v2 : Value} {n1 : Nat} {xs : List Value} {L : Nat} {ok : Bool} (h1 : Blk w G 71 (srchD nm N A n c k1 k2 q tr g (L : Int) v1 v2 ok)) (h2 : w.ownsRow W0.heap.size 9 1 v1 n1 xs) (hG : G < W0.heap.size) (gr : w.grownBy w' v1.ownBlock) : w'.cell? ⟨G, 9, none⟩ = some v1 ∧ w'.frozen? ⟨G, 9, none⟩ = false := by
  have hB : Blk w' G 71 (srchD nm N A n c k1 k2 q tr g (L : Int) v1 v2 ok) := (gr.block G h1.lt (fun e => by have := (h2.lt G e.symm).1; omega)).trans h1
  exact ⟨hB.cell 9, hB.frozen 9⟩
end
/-- What examine leaves. -/
def ExR (W0 : World) (G N : Nat) (nm : List UInt8) (A : Option Addr) (n c : Nat) (k1 k2 : List UInt8) (q : Nat) (tr : Bool) (g : Nat) (F : Fnd) (e : Ending) (w' : World) : Prop := e = .returned (.tuple #[]) ∧ SInv W0 G N nm A n c k1 k2 q tr g F w'
/-- The loop over the calls, i of them done. -/
def fF (C : List UInt8 → (List UInt8 × Int × Int) × Bool) (d : Nat) (p : List UInt8) (F : Fnd) (i : Nat) : Fnd := (List.range i).foldl (fun F j => exam C d (p ++ List.take 1 (List.drop j [98, 112, 115])) F) F
theorem fF_step (C : List UInt8 → (List UInt8 × Int × Int) × Bool) (d : Nat) (p : List UInt8) (F : Fnd) (i : Nat) : fF C d p F (i + 1) = exam C d (p ++ List.take 1 (List.drop i [98, 112, 115])) (fF C d p F i) := by
  simp only [fF, List.range_succ, List.foldl_append, List.foldl_cons, List.foldl_nil]
theorem fF_room (C : List UInt8 → (List UInt8 × Int × Int) × Bool) (d : Nat) (p : List UInt8) (F : Fnd) (i : Nat) : (fF C d p F i).ts.length + (fF C d p F i).cs.length + (fF C d p F i).left ≤ F.ts.length + F.cs.length + F.left := by
  induction i with
  | zero => exact Nat.le_refl _
  | succ i ih => rw [fF_step]; exact Nat.le_trans (exam_room _ _ _ _) ih
theorem call_of (i : Nat) (h : i < 3) : (List.take 1 (List.drop i [98, 112, 115] : List UInt8)).all callB = true ∧ (List.take 1 (List.drop i [98, 112, 115] : List UInt8)).length = 1 := by
  match i, h with
  | 0, _ => exact ⟨by decide, rfl⟩
  | 1, _ => exact ⟨by decide, rfl⟩
  | 2, _ => exact ⟨by decide, rfl⟩
theorem kept5 {W w5 : World} {r : Option Nat} {G B : Nat} {a b c d : Value} (h : W.cell? ⟨G, 10, none⟩ = some a ∧ W.frozen? ⟨G, 10, none⟩ = false ∧ W.cell? ⟨B, 0, none⟩ = some b ∧ W.cell? ⟨B, 1, none⟩ = some c ∧ W.cell? ⟨B, 2, none⟩ = some d) (hg : W.grownBy w5 r) (hr : ∀ x, r = some x → G < x ∧ x < B) :
    w5.cell? ⟨G, 10, none⟩ = some a ∧ w5.frozen? ⟨G, 10, none⟩ = false ∧ w5.cell? ⟨B, 0, none⟩ = some b ∧ w5.cell? ⟨B, 1, none⟩ = some c ∧ w5.cell? ⟨B, 2, none⟩ = some d := by
  obtain ⟨h0, h1, h2, h3, h4⟩ := h
  have n0 : some G ≠ r := fun e => by have := hr G e.symm; omega
  have n1 : some B ≠ r := fun e => by have := hr B e.symm; omega
  exact ⟨hg.cell h0 n0, (hg.frozen_far ⟨G, 10, none⟩ (World.block_lt_of_cell? W _ h0) n0).trans h1, hg.cell h2 n1, hg.cell h3 n1, hg.cell h4 n1⟩
set_option maxHeartbeats 4000000 in
theorem examine_step (W0 : World) (G N : Nat) (nm : List UInt8) (ch : List (List UInt8)) (k : List UInt8 × List UInt8) (q : Nat) (A : Option Addr) (n c g z : Nat) (tr : Bool) (lo : 3 ≤ N) (hi : N ≤ 8) (hr : Rd W0 A n (strV ch)) (hn : n ≤ 1048576) (l1 : 1 ≤ ch.length) (hs : ∀ x ∈ ch, okChange (N : Int) x = true) (hb1 : okChange (N : Int) k.1 = true) (hb2 : okChange (N : Int) k.2 = true) (htr : tr = trueB (leadL (roundsL N) ch)) (hset : IsSet W0 g z (quotL (leadL (roundsL N) ch) (leadL (roundsL N) ch))) (hq6 : q ≤ 6) (hA : ∀ b o, A = some ⟨b, o, none⟩ → b ≠ G) (hgG : g ≠ G) (hG : G < W0.heap.size)
    (d : Nat) (IH : ∀ (p : List UInt8) (F : Fnd) (w : World), p.length + d = q + 1 → 0 < d → p.all callB = true → F.ts.length + F.cs.length + F.left ≤ 100000 → SInv W0 G N nm A n c k.1 k.2 q tr g F w →
      Calls Try.prog 37 #[.pointer (some ⟨G, 0, none⟩), .string (bs p)] w (ExR W0 G N nm A n c k.1 k.2 q tr g (exam (cutF N ch k q) d p F)))
    (p : List UInt8) (F : Fnd) (w : World) (hd : p.length + d = q) (hcall : p.all callB = true) (hroom : F.ts.length + F.cs.length + F.left ≤ 100000) (hI : SInv W0 G N nm A n c k.1 k.2 q tr g F w) :
    Calls Try.prog 37 #[.pointer (some ⟨G, 0, none⟩), .string (bs p)] w (ExR W0 G N nm A n c k.1 k.2 q tr g (exam (cutF N ch k q) (d + 1) p F)) := by
  have GC := fun (F0 : Fnd) (w0 : World) (h0 : SInv W0 G N nm A n c k.1 k.2 q tr g F0 w0) => hid (cutOf_any N nm p ch k q A n c G g z tr w0 lo hi (h0.rd hr hA) hn l1 hs hb1 hb2 (by omega) hcall h0.at_ htr (h0.set hset hgG))
  have HE := hid (show exam (cutF N ch k q) (d + 1) p F = if F.left = 0 then ⟨0, F.ts, F.cs, false⟩ else if (cutF N ch k q p).2 = true then ⟨F.left - 1, F.ts, F.cs ++ [(cutF N ch k q p).1], F.ok⟩ else if d = 0 then ⟨F.left - 1, F.ts ++ [p], F.cs, F.ok⟩ else fF (cutF N ch k q) d p ⟨F.left - 1, F.ts, F.cs, F.ok⟩ 3 from rfl)
  have HIH := hid IH
  obtain ⟨R, hR⟩ : ∃ R, R = cutF N ch k q p := ⟨_, rfl⟩
  rw [← hR] at HE
  have GC := fun (F0 : Fnd) (w0 : World) (h0 : SInv W0 G N nm A n c k.1 k.2 q tr g F0 w0) => hid (hR ▸ (GC F0 w0 h0).out : Calls Try.prog 62 #[.pointer (some ⟨G, 0, none⟩), .string (bs p)] w0 (ResC w0 R))
  clear hR IH
  generalize cutF N ch k q = C at *
  obtain ⟨⟨rp, ry, rz⟩, rb⟩ := R
  obtain ⟨k1, k2⟩ := k
  obtain ⟨L, ts, cs, ok⟩ := F
  dsimp only at *
  clear hr hs hb1 hb2 l1 htr hset hn lo hi
  have HI := hid hI
  obtain ⟨v1, v2, hB, ho1, ho2, hne, hg⟩ := hI
  obtain ⟨A1, c1, rfl, hcc1, hcm1, rd1, _⟩ := own_shape ho1
  obtain ⟨A2, c2, rfl, hcc2, hcm2, rd2, _⟩ := own_shapeC ho2
  dsimp only at *
  have HB := hid hB
  have HO1 := hid ho1
  have HO2 := hid ho2
  have HN := hid hne
  have HGr := hid hg
  have d5 := hB.cell 5
  have d8 := hB.cell 8
  have d9 := hB.cell 9
  have d10 := hB.cell 10
  have d11 := hB.cell 11
  have f8 := hB.frozen 8
  have f11 := hB.frozen 11
  have hGw := hB.lt
  simp only [srchD, List.getElem?_toArray, List.getElem?_cons_zero, List.getElem?_cons_succ] at d5 d8 d9 d10 d11
  clear hB ho1 ho2 hne hg rd1 rd2
  by_cases hL : L = 0
  · have HR := hid (HE.out.trans (if_pos hL))
    subst hL
    have hz : (((0 : Nat) : Int) == 0) = true := rfl
    clear HE
    go_enter Try.func37, Try.ntmps37
    go_wp2
    refine bodyPost_ret (results_none rfl _ _ _) rfl ?_
    rw [HR.out]
    exact ⟨rfl, _, _, HB.out.set_ 11 (.bool false), own_set HO1.out hG, own_set HO2.out hG, HN.out, grown_set1 HGr.out⟩
  · have HE1 := hid (HE.out.trans (if_neg hL))
    obtain ⟨M, hM⟩ : ∃ M, M = L - 1 := ⟨_, rfl⟩
    rw [← hM] at HE1
    have hz : ((L : Int) == 0) = false := by simp; omega
    have hw : IntKind.i64.wrap ((L : Int) - 1) = (M : Int) := by rw [IntWalk.i64_in _ (by omega)]; omega
    have hMr : ts.length + cs.length + M ≤ 100000 := by omega
    have HML := hid hM
    clear HE hM hL
    have HI1 := hid (show SInv W0 G N nm A n c k1 k2 q tr g ⟨M, ts, cs, ok⟩ (w.setCell ⟨G, 8, none⟩ (.int .i64 (M : Int))) from ⟨_, _, HB.out.set_ 8 (.int .i64 (M : Int)), own_set HO1.out hG, own_set HO2.out hG, HN.out, grown_set1 HGr.out⟩)
    have HB1 := hid (show Blk (w.setCell ⟨G, 8, none⟩ (.int .i64 (M : Int))) G 71 (srchD nm N A n c k1 k2 q tr g (M : Int) (.slice A1 ts.length c1) (.slice A2 cs.length c2) ok) from HB.out.set_ 8 (.int .i64 (M : Int)))
    have HO11 := hid (show (w.setCell ⟨G, 8, none⟩ (.int .i64 (M : Int))).ownsRow W0.heap.size 9 1 (.slice A1 ts.length c1) ts.length (strV ts) from own_set HO1.out hG)
    have HO21 := hid (show (w.setCell ⟨G, 8, none⟩ (.int .i64 (M : Int))).ownsRow W0.heap.size 38 3 (.slice A2 cs.length c2) cs.length (cutV cs) from own_set HO2.out hG)
    have HG1 := hid (show W0.grownBy (w.setCell ⟨G, 8, none⟩ (.int .i64 (M : Int))) (some G) from grown_set1 HGr.out)
    go_enter Try.func37, Try.ntmps37
    go_wp2_with fail
    refine (GC _ _ HI1.out).out.mono ?_
    rintro e w1 ⟨rfl, b1⟩
    have HBX := hid b1
    clear d5 d8 d9 d10 d11 f8 f11
    generalize (w.setCell ⟨G, 8, none⟩ (.int .i64 (M : Int))) = W1 at *
    have HB2 := hid (HB1.out.below HBX.out HB1.out.lt)
    have HO12 := hid (own_below HO11.out HBX.out)
    have HO22 := hid (own_below HO21.out HBX.out)
    have HG2 := hid (grown_then HG1.out HBX.out)
    have hGl := HB2.out.lt
    have hW0 := HG2.out.size
    clear HI1 HB1 HO11 HO21 HG1 HBX HB HO1 HO2 HGr HI
    dsimp only
    have Z3 := Blk.new w1 38 #[.string (bs rp), .int .i64 ry, .int .i64 rz]
    have B3 : Below w1.heap.size w1 (w1.alloc (.cells #[.string (bs rp), .int .i64 ry, .int .i64 rz] 38)) := (Below.refl _ _).alloc (Nat.le_refl _) _
    have HGW := hid hGl
    cases rb
    · have HE2 := hid (HE1.out.trans (if_neg (by simp)))
      clear HE1
      by_cases hd0 : d = 0
      · have HR := hid (HE2.out.trans (if_pos hd0))
        have hql : ((p.length : Int) == (q : Int)) = true := by simp; omega
        clear HE2 hd0
        go_upto_region 6 with fail
        generalize (w1.alloc (.cells #[.string (bs rp), .int .i64 ry, .int .i64 rz] 38)) = W3 at *
        have hsz3 := B3.size
        have HB3 := hid (HB2.out.below B3 hGl)
        have HO13 := hid (own_below HO12.out B3)
        have HO23 := hid (own_below HO22.out B3)
        have HG3 := hid (grown_then HG2.out B3)
        have HW3 := hid (show W0.heap.size ≤ W3.heap.size by omega)
        clear B3 Z3
        have d5 := HB3.out.cell 5
        have d9 := HB3.out.cell 9
        simp only [srchD, List.getElem?_toArray, List.getElem?_cons_zero, List.getElem?_cons_succ] at d5 d9
        have HB4 := hid (HB3.out.alloc (.cells #[.string (bs p)] 9))
        have HO14 := hid (HO13.out.alloc (.cells #[.string (bs p)] 9))
        have HO24 := hid (HO23.out.alloc (.cells #[.string (bs p)] 9))
        have HG4 := hid (grown_then HG3.out ((Below.refl _ _).alloc (Nat.le_refl _) (.cells #[.string (bs p)] 9)))
        go_wp2_with (at_builtin; refine app_strB _ (by rfl) _ _ (by rfl) W0.heap.size _ _ ts (by rfl) (HO13.out.alloc _) (some ⟨W3.heap.size, 0, none⟩) 1 1 [p] (by rfl) (Rd.blk W3 [.string (bs p)] _) (by omega) (by simp; omega) ?_; intro v8 w8 o8 g8' hat8; obtain ⟨e1, e2⟩ := touch_at HB4.out HO14.out hG g8'; obtain ⟨A8, c8, rfl, q1, q2, q3, q4⟩ := own_shape o8; clear q1 q2 q3 q4)
        all_goals refine bodyPost_ret (results_none rfl _ _ _) rfl ?_
        all_goals rw [HR.out]
        all_goals exact ⟨rfl, srch_touch HB4.out HO14.out HO24.out HN.out HG4.out hG o8 g8' hat8⟩
      · have HR := hid (HE2.out.trans (if_neg hd0))
        have hql : ((p.length : Int) == (q : Int)) = false := by simp; omega
        have hplq : p.length + d = q := hd
        clear HE2
        go_upto_region 6 with fail
        generalize (w1.alloc (.cells #[.string (bs rp), .int .i64 ry, .int .i64 rz] 38)) = W3 at *
        have hsz3 := B3.size
        have HB3 := hid (HB2.out.below B3 hGl)
        have HO13 := hid (own_below HO12.out B3)
        have HO23 := hid (own_below HO22.out B3)
        have HG3 := hid (grown_then HG2.out B3)
        have HW3 := hid (show W0.heap.size ≤ W3.heap.size by omega)
        clear B3 Z3
        have d5 := HB3.out.cell 5
        have d9 := HB3.out.cell 9
        simp only [srchD, List.getElem?_toArray, List.getElem?_cons_zero, List.getElem?_cons_succ] at d5 d9
        clear d9
        go_wp2_with fail
        clear d5
        have HI3 := hid (show SInv W0 G N nm A n c k1 k2 q tr g ⟨M, ts, cs, ok⟩ W3 from ⟨_, _, HB3.out, HO13.out, HO23.out, HN.out, HG3.out⟩)
        clear HB3 HO13 HO23 HG3 HW3 hsz3 HB2 HO12 HO22 HG2
        go_loopg [61] 3 (fun gk x wr => ∃ i : Nat, i ≤ 3 ∧ gk = 3 - i ∧ x = .int .i64 i ∧ SInv W0 G N nm A n c k1 k2 q tr g (fF C d p ⟨M, ts, cs, ok⟩ i) wr)
        case atStart => exact ⟨0, by omega, rfl, rfl, HI3.out⟩
        case round =>
          obtain ⟨i, hi3, rfl, rfl, hI⟩ := hrel
          have HI4 := hid hI
          clear hI
          by_cases hlt : i < 3
          · have hIH := hid (HIH.out (p ++ List.take 1 (List.drop i [98, 112, 115])) (fF C d p ⟨M, ts, cs, ok⟩ i) wr (by rw [List.length_append, (call_of i hlt).2]; omega) (by omega) (by rw [List.all_append, hcall, (call_of i hlt).1]; rfl) (Nat.le_trans (fF_room C d p ⟨M, ts, cs, ok⟩ i) hMr) HI4.out)
            rw [← fF_step] at hIH
            clear hql
            go_wp2_with fail
            refine hIH.out.mono ?_
            rintro e w5 ⟨rfl, hI5⟩
            have HI5 := hid hI5
            clear hI5
            go_wp2
            go_roundg (3 - (i + 1))
            case measure => omega
            case rel => exact ⟨i + 1, by omega, rfl, by go_num, HI5.out⟩
          · obtain rfl : i = 3 := by omega
            go_wp2
            refine bodyPost_ret (results_none rfl _ _ _) rfl ?_
            rw [HR.out]
            exact ⟨rfl, HI4.out⟩
    · have HR := hid (show exam C (d + 1) p ⟨L, ts, cs, ok⟩ = ⟨M, ts, cs ++ [(rp, ry, rz)], ok⟩ from HE1.out.trans (if_pos rfl))
      clear HE1
      go_wp2_with fail
      generalize (w1.alloc (.cells #[.string (bs rp), .int .i64 ry, .int .i64 rz] 38)) = W3 at *
      have hsz3 := B3.size
      have HB3 := hid (HB2.out.below B3 hGl)
      have HO13 := hid (own_below HO12.out B3)
      have HO23 := hid (own_below HO22.out B3)
      have HG3 := hid (grown_then HG2.out B3)
      have HZ3 := hid Z3
      have hne3 : ∀ b, (Value.slice A2 cs.length c2).ownBlock = some b → W0.heap.size ≤ b ∧ b < w1.heap.size := fun b hb => HO22.out.lt b hb
      have HNE := hid hne3
      have HW3 := hid (show W0.heap.size ≤ W3.heap.size by omega)
      have HS5 := hid (fun W' (h : Below W3.heap.size W3 W') => (show W'.cell? ⟨G, 10, none⟩ = some (.slice A2 cs.length c2) ∧ W'.frozen? ⟨G, 10, none⟩ = false ∧ W'.cell? ⟨w1.heap.size, 0, none⟩ = some (.string (bs rp)) ∧ W'.cell? ⟨w1.heap.size, 1, none⟩ = some (.int .i64 ry) ∧ W'.cell? ⟨w1.heap.size, 2, none⟩ = some (.int .i64 rz) from ⟨(HB3.out.below h HB3.out.lt).cell 10, (HB3.out.below h HB3.out.lt).frozen 10, (HZ3.out.below h HZ3.out.lt).cell 0, (HZ3.out.below h HZ3.out.lt).cell 1, (HZ3.out.below h HZ3.out.lt).cell 2⟩))
      clear B3 Z3 hne3
      obtain ⟨s0, s1, s2, s3, s4⟩ := HS5.out _ (Below.refl _ _)
      obtain ⟨s5, s6, s7, s8, s9⟩ := HS5.out (W3.alloc (.cells #[.string (bs rp), .int .i64 ry, .int .i64 rz] 38)) ((Below.refl _ _).alloc (Nat.le_refl _) _)
      go_region_law (refine step_app_cut (by rfl) _ _ (by rfl) W0.heap.size (.slice A2 cs.length c2) cs.length cs (by rfl) (World.ownsRow.drew (World.ownsRow.alloc HO23.out _)) W3.heap.size 1 (rp, ry, rz) (by rfl) (heap_alloc_new W3 _) (by omega) (Nat.le_trans HW3.out (by simp)) (W3.heap.size + 1) (by simp) ?_; intro g5 cap5 w5 o5 gr5 hat5 hlt5; obtain ⟨q0, q1, q2, q3, q4⟩ := kept5 (HS5.out _ ((Below.refl _ _).alloc (Nat.le_refl _) _).drew) gr5 (fun b hb => ⟨Nat.lt_of_lt_of_le hG (HNE.out b hb).1, (HNE.out b hb).2⟩))
      all_goals go_wp2
      all_goals refine bodyPost_ret (results_none rfl _ _ _) rfl ?_
      all_goals rw [HR.out]
      all_goals exact ⟨rfl, srch_cut (Blk.drewN (HB3.out.alloc _) 1) (World.ownsRow.drew (World.ownsRow.alloc HO13.out _)) (World.ownsRow.drew (World.ownsRow.alloc HO23.out _)) HN.out (gthen HG3.out ((Below.refl _ _).alloc (Nat.le_refl _) _).drew) hG o5 gr5 (by simpa using hat5)⟩
end Go.Proofs.Ytnkpbahapaocbaa

set_option linter.unusedVariables false
set_option linter.unusedSimpArgs false
set_option maxRecDepth 100000
namespace Go.Proofs.Ytnkpbahapaocbaa
open Go.RowKit

/-- A prefix and all its extensions are examined. -/
theorem examine_any (W0 : World) (G N : Nat) (nm : List UInt8) (ch : List (List UInt8)) (k : List UInt8 × List UInt8) (q : Nat) (A : Option Addr) (n c g z : Nat) (tr : Bool) (lo : 3 ≤ N) (hi : N ≤ 8) (hr : Rd W0 A n (strV ch)) (hn : n ≤ 1048576) (l1 : 1 ≤ ch.length) (hs : ∀ x ∈ ch, okChange (N : Int) x = true) (hb1 : okChange (N : Int) k.1 = true) (hb2 : okChange (N : Int) k.2 = true) (htr : tr = trueB (leadL (roundsL N) ch)) (hset : IsSet W0 g z (quotL (leadL (roundsL N) ch) (leadL (roundsL N) ch))) (hq6 : q ≤ 6) (hA : ∀ b o, A = some ⟨b, o, none⟩ → b ≠ G) (hgG : g ≠ G) (hG : G < W0.heap.size) :
    ∀ (d : Nat) (p : List UInt8) (F : Fnd) (w : World), p.length + d = q + 1 → 0 < d → p.all callB = true → F.ts.length + F.cs.length + F.left ≤ 100000 → SInv W0 G N nm A n c k.1 k.2 q tr g F w →
      Calls Try.prog 37 #[.pointer (some ⟨G, 0, none⟩), .string (bs p)] w (ExR W0 G N nm A n c k.1 k.2 q tr g (exam (cutF N ch k q) d p F)) := by
  intro d
  induction d with
  | zero => intro p F w _ h0; exact absurd h0 (by omega)
  | succ d ih =>
    intro p F w hd _ hc hf hI
    exact examine_step W0 G N nm ch k q A n c g z tr lo hi hr hn l1 hs hb1 hb2 htr hset hq6 hA hgG hG d ih p F w (by omega) hc hf hI
theorem set_ne {w : World} {g z G : Nat} {t : TypeId} {cs : Array Value} {FF : List (List UInt8)} (h : IsSet w g z FF) (hB : Blk w G t cs) : g ≠ G := by
  rintro rfl
  obtain ⟨es, clock, he, _⟩ := h
  unfold Blk at hB
  rw [he] at hB
  injection hB with hB
  cases hB
set_option maxHeartbeats 4000000 in
theorem implSearch_main (N : Nat) (nm : List UInt8) (ch : List (List UInt8)) (k : List UInt8 × List UInt8) (q b : Nat) (A : Option Addr) (n c : Nat) (w : World) (lo : 3 ≤ N) (hi : N ≤ 8) (hr : Rd w A n (strV ch)) (hn : n ≤ 1000) (l1 : 1 ≤ ch.length) (hs : ∀ x ∈ ch, okChange (N : Int) x = true) (hb1 : okChange (N : Int) k.1 = true) (hb2 : okChange (N : Int) k.2 = true) (hq1 : 1 ≤ q) (hq : q ≤ 6) (hbb : b ≤ 5000) (ok : LawOk ⟨nm, (N : Int), ch⟩ k)
    (hg : (callsB ⟨nm, (N : Int), ch⟩ k && searchB (q : Int)) = true) (hbud : budB (b : Int) = true) :
    Calls Try.prog 16 #[.agg #[.string (bs nm), .int .i64 N, .slice A n c], .agg #[.string (bs k.1), .string (bs k.2)], .int .i64 q, .int .i64 b] w (ResF w (srun (cutF N ch k q) q b [[]] [] [], true)) := by
  have GA := fun (w0 : World) (rd : Rd w0 A n (strV ch)) => hid (goodSearch_any ⟨nm, (N : Int), ch⟩ k q A n c w0 ok rd)
  rw [hg] at GA
  have GB := fun (w0 : World) => hid (within_any (b : Int) 1 5000 w0)
  rw [show (decide ((1 : Int) ≤ (b : Int)) && decide ((b : Int) ≤ 5000)) = true from hbud] at GB
  have GN := fun (w0 : World) (rd : Rd w0 A n (strV ch)) => hid (newSearcher_any N nm ch k q A n c w0 lo hi rd hn hs)
  have GE := fun (W0 : World) (G g z : Nat) (rd : Rd W0 A n (strV ch)) (hset : IsSet W0 g z (quotL (leadL (roundsL N) ch) (leadL (roundsL N) ch))) (hA : ∀ b o, A = some ⟨b, o, none⟩ → b ≠ G) (hgG : g ≠ G) (hG : G < W0.heap.size) (hI : SInv W0 G N nm A n c k.1 k.2 q (trueB (leadL (roundsL N) ch)) g ⟨b, [], [], true⟩ W0) => hid (examine_any W0 G N nm ch k q A n c g z (trueB (leadL (roundsL N) ch)) lo hi rd (by omega) l1 hs hb1 hb2 rfl hset hq hA hgG hG (q + 1) [] ⟨b, [], [], true⟩ W0 (by simp) (by omega) rfl (by simp; omega) hI)
  have RS := hid hr
  have hAlt := hid (show ∀ a o, A = some ⟨a, o, none⟩ → a < w.heap.size from fun a o e => by
    have hlen := hr.1
    rw [strV_len] at hlen
    obtain ⟨a', o', e', hc⟩ := hr.at_ (k := 0) (by omega)
    rw [e] at e'
    injection e' with e'
    injection e' with e1 e2
    rw [e1]
    exact World.block_lt_of_cell? w _ hc)
  obtain ⟨l, hl⟩ := srun_one (cutF N ch k q) q b
  have HL := hid hl
  clear hl
  generalize quotL (leadL (roundsL N) ch) (leadL (roundsL N) ch) = FF at *
  generalize trueB (leadL (roundsL N) ch) = tr at *
  generalize cutF N ch k q = C at *
  obtain ⟨R, hR⟩ : ∃ R, R = srun C q b [[]] [] [] := ⟨_, rfl⟩
  rw [← hR] at HL ⊢
  clear hR
  rw [HL.out] at GE
  obtain ⟨ts, cs, fin⟩ := R
  obtain ⟨k1, k2⟩ := k
  dsimp only at *
  clear hr hs hb1 hb2 l1 ok hg hbud HL
  go_enter Try.func16, Try.ntmps16
  go_wp2_with fail
  obtain ⟨B2, hsz, HC⟩ := box_mkX 34 36 44 w nm k1 k2 (N : Int) (.slice A n c) #[.slice none 0 0, .slice none 0 0, .bool false]
  have R2 := hid (RS.out.below B2)
  have HB2 := hid B2
  have hw2 := B2.size
  generalize (((w.alloc (.cells #[.string (bs nm), .int .i64 (N : Int), .slice A n c] 34)).alloc (.cells #[.string (bs k1), .string (bs k2)] 36)).alloc (.cells #[.slice none 0 0, .slice none 0 0, .bool false] 44)) = W2 at *
  clear B2
  have HHS8 := hid (fun W' (h : Below W2.heap.size W2 W') => (show W'.cell? ⟨w.heap.size, 0, none⟩ = some (.string (bs nm)) ∧ W'.cell? ⟨w.heap.size, 1, none⟩ = some (.int .i64 (N : Int)) ∧ W'.cell? ⟨w.heap.size, 2, none⟩ = some (.slice A n c) ∧ W'.cell? ⟨w.heap.size + 1, 0, none⟩ = some (.string (bs k1)) ∧ W'.cell? ⟨w.heap.size + 1, 1, none⟩ = some (.string (bs k2)) from by
    obtain ⟨⟨X, Y⟩, Z⟩ := HC.out _ h
    exact ⟨X.cell 0, X.cell 1, X.cell 2, Y.cell 0, Y.cell 1⟩))
  obtain ⟨n0, n1, n2, p0, p1⟩ := HHS8.out _ (Below.refl _ _)
  refine (GA _ R2.out).out.mono ?_
  rintro e w1 ⟨rfl, b1⟩
  have E1 := hid b1
  clear b1
  clear n0 n1 n2 p0 p1
  obtain ⟨n0, n1, n2, p0, p1⟩ := HHS8.out _ E1.out
  go_wp2_with fail
  refine (GB _).out.mono ?_
  rintro e w1' ⟨rfl, rfl⟩
  go_wp2_with fail
  refine (GN _ (R2.out.below E1.out)).out.mono ?_
  rintro e w2 ⟨G, g, z, rfl, hBG, hset, hGe, b2⟩
  have E2 := hid (E1.out.trans (b2.mono E1.out.size))
  have hgG := set_ne hset hBG
  have hGl := hBG.lt
  have HBG := hid hBG
  have HST := hid hset
  have HNG := hid hgG
  have f8 := hBG.frozen 8
  have f11 := hBG.frozen 11
  have d8 := hBG.cell 8
  have d11 := hBG.cell 11
  simp only [srchC, List.getElem?_toArray, List.getElem?_cons_zero, List.getElem?_cons_succ] at d8 d11
  clear b2 hset hBG hgG n0 n1 n2 p0 p1
  go_wp2_with fail
  have hs1 := E1.out.size
  have HB3 := hid (show Blk ((w2.setCell ⟨G, 8, none⟩ (.int .i64 (b : Int))).setCell ⟨G, 11, none⟩ (.bool true)) G 71 (srchD nm N A n c k1 k2 q tr g (b : Int) (.slice none 0 0) (.slice none 0 0) true) from (HBG.out.set_ 8 _).set_ 11 _)
  have HG3 := hid (show w2.grownBy ((w2.setCell ⟨G, 8, none⟩ (.int .i64 (b : Int))).setCell ⟨G, 11, none⟩ (.bool true)) (some G) from gset (gset (World.grownBy.refl _ _)))
  have E3 := hid (show Below W2.heap.size W2 ((w2.setCell ⟨G, 8, none⟩ (.int .i64 (b : Int))).setCell ⟨G, 11, none⟩ (.bool true)) from (E2.out.setCell (p := ⟨G, 8, none⟩) (by dsimp only; omega) _).setCell (p := ⟨G, 11, none⟩) (by dsimp only; omega) _)
  clear d8 d11 f8 f11
  generalize ((w2.setCell ⟨G, 8, none⟩ (.int .i64 (b : Int))).setCell ⟨G, 11, none⟩ (.bool true)) = W3 at *
  have HST3 := hid (show IsSet W3 g z FF from World.ownsMap.kept HST.out HG3.out (by intro e; injection e with e; exact HNG.out e))
  have hl3 := HB3.out.lt
  have HI3 := hid (show SInv W3 G N nm A n c k1 k2 q tr g ⟨b, [], [], true⟩ W3 from ⟨_, _, HB3.out, World.ownsRow_nil _ _ _ _, World.ownsRow_nil _ _ _ _, fun b h => by simp [Value.ownBlock] at h, World.grownBy.refl _ _⟩)
  have HSZ := hid hsz
  have hA3 : ∀ b o, A = some ⟨b, o, none⟩ → b ≠ G := fun a o e => by have := hAlt.out a o e; omega
  refine (GE W3 G g z (R2.out.below E3.out) HST3.out hA3 HNG.out hl3 HI3.out).out.mono ?_
  rintro e w4 ⟨rfl, v1, v2, hB4, o1, o2, hne, hg4⟩
  clear hA3 hsz
  obtain ⟨A1, c1, rfl, y1, y2, y3, y4⟩ := own_shape o1
  obtain ⟨A2, c2, rfl, y5, y6, y7, y8⟩ := own_shapeC o2
  clear y1 y2 y3 y4 y5 y6 y7 y8
  have HB4 := hid hB4
  have O1 := hid o1
  have O2 := hid o2
  have HN4 := hid hne
  have HG4 := hid hg4
  have d9 := hB4.cell 9
  have d10 := hB4.cell 10
  have d11 := hB4.cell 11
  simp only [srchD, List.getElem?_toArray, List.getElem?_cons_zero, List.getElem?_cons_succ] at d9 d10 d11
  have hrb : w.heap.size + 1 + 1 < W3.heap.size := by have := HSZ.out; have := E3.out.size; omega
  have hGb : w.heap.size + 1 + 1 < G := by have := HSZ.out; omega
  have RX : Blk w4 (w.heap.size + 1 + 1) 44 #[.slice none 0 0, .slice none 0 0, .bool false] := (hg4.block _ hrb (by intro e; injection e with e; omega)).trans (HC.out _ E3.out).2
  have r0 := RX.cell 0
  have r1 := RX.cell 1
  have r2 := RX.cell 2
  have g0 := RX.frozen 0
  have g1 := RX.frozen 1
  have g2 := RX.frozen 2
  simp only [List.getElem?_toArray, List.getElem?_cons_zero, List.getElem?_cons_succ] at r0 r1 r2
  clear RX hB4 o1 o2 hne hg4

  go_wp2
  refine bodyPost_ret (v := .tuple #[.agg #[.slice A1 ts.length c1, .slice A2 cs.length c2, .bool fin], .bool true]) (by simp [results, Try.results16, go_sem, r0, r1, r2]) rfl ?_
  have hb3 : w.heap.size ≤ W3.heap.size := by omega
  exact ⟨_, _, rfl, own_mono (set3_own O1.out hrb _ _ _) hb3, own_mono (own_set (own_set (own_set O2.out hrb) hrb) hrb) hb3, HN4.out, cset3_below ((HB2.out.trans (E3.out.mono hw2)).grown HG4.out hb3 (fun k e => by injection e with e; omega)) (by omega) _ _ _⟩
set_option maxHeartbeats 1000000 in
theorem implSearch_law (m : Meth) (k : List UInt8 × List UInt8) (q b : Int) (A : Option Addr) (n c : Nat) (w : World) (ok : LawOk m k) (rd : Rd w A n (strV m.ch)) (hcap : n ≤ c) :
    Calls Try.prog 16 #[.agg #[.string (bs m.nm), .int .i64 m.st, .slice A n c], .agg #[.string (bs k.1), .string (bs k.2)], .int .i64 q, .int .i64 b] w (ResF w (foundR m k q b)) := by
  have GA := fun (w0 : World) (rd : Rd w0 A n (strV m.ch)) => hid (goodSearch_any m k q A n c w0 ok rd)
  cases hg0 : callsB m k && searchB q
  · rw [hg0] at GA
    have HR := hid (show foundR m k q b = (([], [], false), false) by unfold foundR; rw [hg0]; rfl)
    have GB := fun (w0 : World) => hid (within_any b 1 5000 w0)
    have RS := hid rd
    obtain ⟨nm, st, ch⟩ := m
    obtain ⟨k1, k2⟩ := k
    dsimp only at *
    clear hg0 ok rd
    go_enter Try.func16, Try.ntmps16
    go_wp2_with fail
    obtain ⟨B2, hsz, HC⟩ := box_mkX 34 36 44 w nm k1 k2 st (.slice A n c) #[.slice none 0 0, .slice none 0 0, .bool false]
    have R2 := hid (RS.out.below B2)
    have HB2 := hid B2
    have hw2 := B2.size
    generalize (((w.alloc (.cells #[.string (bs nm), .int .i64 st, .slice A n c] 34)).alloc (.cells #[.string (bs k1), .string (bs k2)] 36)).alloc (.cells #[.slice none 0 0, .slice none 0 0, .bool false] 44)) = W2 at *
    clear B2
    have HHS8 := hid (fun W' (h : Below W2.heap.size W2 W') => (show W'.cell? ⟨w.heap.size, 0, none⟩ = some (.string (bs nm)) ∧ W'.cell? ⟨w.heap.size, 1, none⟩ = some (.int .i64 st) ∧ W'.cell? ⟨w.heap.size, 2, none⟩ = some (.slice A n c) ∧ W'.cell? ⟨w.heap.size + 1, 0, none⟩ = some (.string (bs k1)) ∧ W'.cell? ⟨w.heap.size + 1, 1, none⟩ = some (.string (bs k2)) from by
      obtain ⟨⟨X, Y⟩, Z⟩ := HC.out _ h
      exact ⟨X.cell 0, X.cell 1, X.cell 2, Y.cell 0, Y.cell 1⟩))
    obtain ⟨n0, n1, n2, p0, p1⟩ := HHS8.out _ (Below.refl _ _)
    refine (GA _ R2.out).out.mono ?_
    rintro e w1 ⟨rfl, b1⟩
    have E1 := hid b1
    clear b1
    clear n0 n1 n2 p0 p1
    obtain ⟨n0, n1, n2, p0, p1⟩ := HHS8.out _ E1.out
    have RX := (HC.out _ (E1.out)).2
    have r0 := RX.cell 0
    have r1 := RX.cell 1
    have r2 := RX.cell 2
    have g0 := RX.frozen 0
    have g1 := RX.frozen 1
    have g2 := RX.frozen 2
    simp only [List.getElem?_toArray, List.getElem?_cons_zero, List.getElem?_cons_succ] at r0 r1 r2
    clear RX hsz
    go_wp2
    refine bodyPost_ret (v := .tuple #[.agg #[.slice none 0 0, .slice none 0 0, .bool false], .bool false]) (by simp [results, Try.results16, go_sem, r0, r1, r2]) rfl ?_
    rw [HR.out]
    exact ResF.none _ _ (cset3_below (HB2.out.trans (E1.out.mono hw2)) (by omega) _ _ _)
  · cases hb0 : budB b
    · rw [hg0] at GA
      have HR := hid (show foundR m k q b = (([], [], false), false) by unfold foundR; rw [hg0, hb0]; rfl)
      have GB := fun (w0 : World) => hid (within_any b 1 5000 w0)
      rw [show (decide ((1 : Int) ≤ b) && decide (b ≤ 5000)) = false from hb0] at GB
      have RS := hid rd
      obtain ⟨nm, st, ch⟩ := m
      obtain ⟨k1, k2⟩ := k
      dsimp only at *
      clear hg0 hb0 ok rd
      go_enter Try.func16, Try.ntmps16
      go_wp2_with fail
      obtain ⟨B2, hsz, HC⟩ := box_mkX 34 36 44 w nm k1 k2 st (.slice A n c) #[.slice none 0 0, .slice none 0 0, .bool false]
      have R2 := hid (RS.out.below B2)
      have HB2 := hid B2
      have hw2 := B2.size
      generalize (((w.alloc (.cells #[.string (bs nm), .int .i64 st, .slice A n c] 34)).alloc (.cells #[.string (bs k1), .string (bs k2)] 36)).alloc (.cells #[.slice none 0 0, .slice none 0 0, .bool false] 44)) = W2 at *
      clear B2
      have HHS8 := hid (fun W' (h : Below W2.heap.size W2 W') => (show W'.cell? ⟨w.heap.size, 0, none⟩ = some (.string (bs nm)) ∧ W'.cell? ⟨w.heap.size, 1, none⟩ = some (.int .i64 st) ∧ W'.cell? ⟨w.heap.size, 2, none⟩ = some (.slice A n c) ∧ W'.cell? ⟨w.heap.size + 1, 0, none⟩ = some (.string (bs k1)) ∧ W'.cell? ⟨w.heap.size + 1, 1, none⟩ = some (.string (bs k2)) from by
        obtain ⟨⟨X, Y⟩, Z⟩ := HC.out _ h
        exact ⟨X.cell 0, X.cell 1, X.cell 2, Y.cell 0, Y.cell 1⟩))
      obtain ⟨n0, n1, n2, p0, p1⟩ := HHS8.out _ (Below.refl _ _)
      refine (GA _ R2.out).out.mono ?_
      rintro e w1 ⟨rfl, b1⟩
      have E1 := hid b1
      clear b1
      clear n0 n1 n2 p0 p1
      obtain ⟨n0, n1, n2, p0, p1⟩ := HHS8.out _ E1.out
      have RX := (HC.out _ (E1.out)).2
      have r0 := RX.cell 0
      have r1 := RX.cell 1
      have r2 := RX.cell 2
      have g0 := RX.frozen 0
      have g1 := RX.frozen 1
      have g2 := RX.frozen 2
      simp only [List.getElem?_toArray, List.getElem?_cons_zero, List.getElem?_cons_succ] at r0 r1 r2
      clear RX hsz
      go_wp2_with fail
      refine (GB _).out.mono ?_
      rintro e w1' ⟨rfl, rfl⟩
      go_wp2
      refine bodyPost_ret (v := .tuple #[.agg #[.slice none 0 0, .slice none 0 0, .bool false], .bool false]) (by simp [results, Try.results16, go_sem, r0, r1, r2]) rfl ?_
      rw [HR.out]
      exact ResF.none _ _ (cset3_below (HB2.out.trans (E1.out.mono hw2)) (by omega) _ _ _)
    · have HR0 := show foundR m k q b = (srun (cutF m.st.toNat m.ch k q.toNat) q.toNat b.toNat [[]] [] [], true) by unfold foundR; rw [hg0, hb0]; rfl
      have hg1 := hg0
      rw [Bool.and_eq_true] at hg0
      have hb1 := callsB_bob hg0.1
      have hb2 := callsB_single hg0.1
      have hmb := callsB_meth (m := m) (k := k) hg0.1
      obtain ⟨N, hN, lo, hi, l1, l40, hs⟩ := meth_parts hmb
      obtain ⟨j, rfl, hj1, hj6⟩ := searchB_nat hg0.2
      obtain ⟨i, rfl, hi1, hi5⟩ := budB_nat hb0
      obtain ⟨nm, st, ch⟩ := m
      dsimp only at *
      subst hN
      simp only [Int.toNat_natCast] at HR0
      rw [HR0]
      have hcn : ch.length = n := by have h1 := rd.1; rw [strV_len] at h1; exact h1
      exact implSearch_main N nm ch k j i A n c w lo hi rd (by omega) l1 hs hb1 hb2 hj1 hj6 hi5 ok hg1 hb0
end Go.Proofs.Ytnkpbahapaocbaa

set_option linter.unusedVariables false
set_option linter.unusedSimpArgs false
set_option maxRecDepth 100000
namespace Go.Proofs.Ytnkpbahapaocbaa
open Go.RowKit

/-- The first k strings of a sorted list, each once. -/
def ddTo (s : List (List UInt8)) (k : Nat) : List (List UInt8) := Lib.compactUpTo s.toArray k
theorem ddTo_last (s : List (List UInt8)) : ∀ k, k < s.length → (ddTo s (k + 1)).getLast? = s[k]?
  | 0, h => by
    rw [ddTo, Lib.compactUpTo_succ]
    simp [Lib.keeps, Lib.compactUpTo, h]
  | k + 1, h => by
    rw [ddTo, Lib.compactUpTo_succ]
    by_cases hk : Lib.keeps s.toArray (k + 1) = true
    · rw [if_pos hk]; simp [h]
    · rw [if_neg hk, List.append_nil]
      have := ddTo_last s k (by omega)
      rw [ddTo] at this
      rw [this]
      simp [Lib.keeps] at hk
      simp [h, show k < s.length by omega] at hk ⊢
      exact hk.symm
theorem ddTo_first (s : List (List UInt8)) (h : 0 < s.length) : ddTo s 1 = ddTo s 0 ++ [s[0]] := by
  rw [ddTo, ddTo, Lib.compactUpTo_succ]; simp [Lib.keeps, h]
theorem ddTo_skip (s : List (List UInt8)) (k : Nat) (h : k + 1 < s.length) (he : s[k + 1] = s[k]) : ddTo s (k + 1 + 1) = ddTo s (k + 1) := by
  rw [ddTo, ddTo, Lib.compactUpTo_succ, if_neg]
  · simp
  · simp [Lib.keeps, h, show k < s.length by omega, he]
theorem ddTo_take (s : List (List UInt8)) (k : Nat) (h : k + 1 < s.length) (he : s[k + 1] ≠ s[k]) : ddTo s (k + 1 + 1) = ddTo s (k + 1) ++ [s[k + 1]] := by
  rw [ddTo, ddTo, Lib.compactUpTo_succ, if_pos]
  · simp [h]
  · simp [Lib.keeps, h, show k < s.length by omega, he]
theorem ddTo_len (s : List (List UInt8)) (k : Nat) : (ddTo s k).length ≤ k := by
  unfold ddTo Lib.compactUpTo
  rw [List.length_map]
  exact Nat.le_trans (List.length_filter_le _ _) (by simp)
theorem ddTo_pos (s : List (List UInt8)) (k : Nat) (h : k < s.length) : 0 < (ddTo s (k + 1)).length := by
  have := ddTo_last s k h
  rw [List.getElem?_eq_getElem h] at this
  cases hd : ddTo s (k + 1) with
  | nil => rw [hd] at this; cases this
  | cons a b => simp

/-- Strictly increasing. -/
def Strict (l : List (List UInt8)) : Prop := l.Pairwise fun a b => leS a b = true ∧ a ≠ b
theorem dd_prop {s : List (List UInt8)} (hs : s.Pairwise fun a b => leS a b = true) : ∀ k, k ≤ s.length → Strict (ddTo s k) ∧ ∀ x, x ∈ ddTo s k ↔ x ∈ s.take k
  | 0, _ => by simp [ddTo, Lib.compactUpTo, Strict]
  | 1, h => by
    have h0 : ddTo s 0 = [] := by simp [ddTo, Lib.compactUpTo]
    rw [ddTo_first s (by omega), h0, List.nil_append]
    refine ⟨by simp [Strict], fun x => ?_⟩
    rw [List.take_succ_eq_append_getElem (by omega)]; simp
  | k + 2, h => by
    obtain ⟨h1, h2⟩ := dd_prop hs (k + 1) (by omega)
    have hle := List.pairwise_iff_getElem.1 hs
    by_cases he : s[k + 1] = s[k]
    · rw [ddTo_skip s k (by omega) he]
      refine ⟨h1, fun x => ?_⟩
      rw [h2, List.take_succ_eq_append_getElem (i := k + 1) (by omega), List.mem_append, List.mem_singleton]
      refine ⟨.inl, fun h3 => h3.elim id fun e => ?_⟩
      rw [e, he, List.mem_take_iff_getElem]
      exact ⟨k, by omega, rfl⟩
    · rw [ddTo_take s k (by omega) he]
      refine ⟨?_, fun x => ?_⟩
      · unfold Strict
        rw [List.pairwise_append]
        refine ⟨h1, by simp, fun a ha b hb => ?_⟩
        simp only [List.mem_singleton] at hb
        subst hb
        rw [h2, List.mem_take_iff_getElem] at ha
        obtain ⟨i, hi, rfl⟩ := ha
        refine ⟨hle i (k + 1) (by omega) (by omega) (by omega), fun e => ?_⟩
        rcases Nat.lt_or_ge i k with hik | hik
        · have h3 := hle i k (by omega) (by omega) hik
          have h4 := hle k (k + 1) (by omega) (by omega) (by omega)
          rw [← e] at h4
          exact he (e.symm.trans (leS_antisymm _ _ h3 h4))
        · obtain rfl : i = k := by omega
          exact he e.symm
      · rw [List.take_succ_eq_append_getElem (i := k + 1) (by omega), List.mem_append, List.mem_append, h2]
/-- The strings of a list in increasing order, each once. -/
def setL (l : List (List UInt8)) : List (List UInt8) := ddTo (sortL l) (sortL l).length
theorem setL_prop (l : List (List UInt8)) : Strict (setL l) ∧ ∀ x, x ∈ setL l ↔ x ∈ l := by
  obtain ⟨h1, h2⟩ := dd_prop (sortL_pw l) (sortL l).length (Nat.le_refl _)
  refine ⟨h1, fun x => ?_⟩
  unfold setL
  rw [h2, List.take_length]
  exact (sortL_perm l).mem_iff
theorem setL_len (l : List (List UInt8)) : (setL l).length ≤ l.length := by
  have := ddTo_len (sortL l) (sortL l).length
  rw [sortL_len] at this
  unfold setL; rw [sortL_len]; exact this
/-- What holds each of its strings once, sorted, is the set. -/
theorem sort_set {d l : List (List UInt8)} (hd : d.Nodup) (hm : ∀ x, x ∈ d ↔ x ∈ l) : sortL d = setL l := by
  obtain ⟨h1, h2⟩ := setL_prop l
  refine sortL_uniq d (setL l) ?_ (h1.imp fun h => h.1)
  refine (List.perm_ext_iff_of_nodup (h1.imp fun h => h.2) hd).2 fun x => ?_
  rw [h2, hm]
end Go.Proofs.Ytnkpbahapaocbaa

set_option linter.unusedVariables false
set_option linter.unusedSimpArgs false
set_option maxRecDepth 100000
namespace Go.Proofs.Ytnkpbahapaocbaa
open Go.RowKit

/-- Heads i and k clash: the second over the first is in F. -/
def clashAt (F hs : List (List UInt8)) (i k : Nat) : Bool := memB (timesL (turnL (hs.getD i [])) (hs.getD k [])) F
theorem clashAt_set (L hs : List (List UInt8)) (i k : Nat) : clashAt (setL L) hs i k = clashAt L hs i k := by
  unfold clashAt memB
  rw [decide_eq_decide]
  exact (setL_prop L).2 _
/-- The clashes of head i with heads i + 1 .. k - 1. -/
def clashRow (F hs : List (List UInt8)) (i k : Nat) : List (Nat × Nat) := ((List.range k).filter fun q => decide (i < q) && clashAt F hs i q).map fun q => (i, q)
theorem clashRow_zero (F hs : List (List UInt8)) (i : Nat) : clashRow F hs i (i + 1) = [] := by
  unfold clashRow
  rw [List.map_eq_nil_iff, List.filter_eq_nil_iff]
  intro q hq
  rw [List.mem_range] at hq
  simp; omega
theorem clashRow_yes (F hs : List (List UInt8)) {i k : Nat} (h : i < k) (hc : clashAt F hs i k = true) : clashRow F hs i k ++ [(i, k)] = clashRow F hs i (k + 1) := by
  unfold clashRow
  rw [List.range_succ, List.filter_append, List.map_append]
  simp [List.filter_cons, h, hc]
theorem clashRow_no (F hs : List (List UInt8)) {i k : Nat} (hc : clashAt F hs i k = false) : clashRow F hs i k = clashRow F hs i (k + 1) := by
  unfold clashRow
  rw [List.range_succ, List.filter_append, List.map_append]
  simp [List.filter_cons, hc]
/-- The clashes of the heads ahead of head i with all later ones. -/
def clashTo (F hs : List (List UInt8)) (i : Nat) : List (Nat × Nat) := (List.range i).flatMap fun p => clashRow F hs p hs.length
theorem clashTo_zero (F hs : List (List UInt8)) : clashTo F hs 0 = [] := by simp [clashTo]
theorem clashTo_step (F hs : List (List UInt8)) (i : Nat) : clashTo F hs i ++ clashRow F hs i hs.length = clashTo F hs (i + 1) := by
  unfold clashTo
  rw [List.range_succ, List.flatMap_append]; simp
theorem clashTo_set (L hs : List (List UInt8)) (i : Nat) : clashTo (setL L) hs i = clashTo L hs i := by
  unfold clashTo clashRow
  simp only [clashAt_set]
theorem clashRow_len (F hs : List (List UInt8)) (i k : Nat) : (clashRow F hs i k).length ≤ k := by
  unfold clashRow
  rw [List.length_map]
  exact Nat.le_trans (List.length_filter_le _ _) (by simp)
theorem clashTo_len (F hs : List (List UInt8)) (i : Nat) : (clashTo F hs i).length ≤ i * hs.length := by
  induction i with
  | zero => simp [clashTo]
  | succ i ih =>
    rw [← clashTo_step, List.length_append, Nat.succ_mul]
    exact Nat.add_le_add ih (clashRow_len _ _ _ _)
end Go.Proofs.Ytnkpbahapaocbaa

set_option linter.unusedVariables false
set_option linter.unusedSimpArgs false
set_option maxRecDepth 100000
namespace Go.Proofs.Ytnkpbahapaocbaa
open Go.RowKit

theorem infoSl : (Try.prog.info? 106).map (fun i => (i.zero, i.size, i.bytes)) = some (some (.slice none 0 0), 1, 24) := by kernel_rfl
/-- append onto an owned row of slices of integers, in a plain region. -/
theorem app_sl {ops : Array Oper} {rest : List Oper} {o : Oper} {a : Act} {Q : Exit → Act → World → Prop} (w : World) (hgd : o.guard = none) (s x : Operand)
    (ho : o.op = .call { callee := .builtin .append, args := #[s, x], argTypes := #[95, 95] })
    (base : Nat) (v : Value) (n : Nat) (xs : List Value) (hs : a.eval s = v) (hown : w.ownsRow base 106 1 v n xs)
    (A : Option Addr) (m c : Nat) (news : List Value) (hx : a.eval x = .slice A m c) (hr : Rd w A m news) (h1 : ∀ u ∈ news, u.oneCell' = true) (hsz : n + m ≤ 1000000000) (hbase : base ≤ w.heap.size)
    (h : ∀ v' w', w'.ownsRow base 106 1 v' (n + m) (xs ++ news) → w.grownBy w' v.ownBlock → wpList Try.prog ops Q rest (a.put o.dst v') w') : wpList Try.prog ops Q (o :: rest) a w := by
  obtain ⟨i0, hi, hz0, hz1, hz2⟩ := info_parts infoSl
  exact wpList_plain hgd fun _ hK => wp_append_rd w s x 95 ho base 106 i0 _ 24 Try.underlying95 hi hz0 hz1 hz2 rfl v n xs hs hown A m c news hx hr h1 (by unfold maxLen; omega) (by omega) hbase fun v' w' h2 h3 _ => hK _ _ (h v' w' h2 h3)
/-- A slice of L slices of integers comes back; it is the call's own. -/
def SlicesN (w : World) (L : Nat) (e : Ending) (w' : World) : Prop := ∃ v xs, e = .returned v ∧ w'.ownsRow w.heap.size 106 1 v L xs ∧ Below w.heap.size w w'
set_option maxHeartbeats 2000000 in
theorem clashes_any (N : Nat) (nm : List UInt8) (ca hs : List (List UInt8)) (A B : Option Addr) (n c m d : Nat) (w : World) (lo : 3 ≤ N) (hi : N ≤ 8) (hra : Rd w A n (strV ca)) (hrb : Rd w B m (strV hs)) (hn : n ≤ 1000) (hm : m ≤ 1000) (hsa : ∀ x ∈ ca, okChange (N : Int) x = true) (hh : ∀ x ∈ hs, IsRow x ∧ x.length = N) :
    Calls Try.prog 95 #[.agg #[.string (bs nm), .int .i64 N, .slice A n c], .slice B m d] w (SlicesN w (clashTo (quotL (leadL (roundsL N) ca) (leadL (roundsL N) ca)) hs m).length) := by
  have HF := fun (w0 : World) (rd : Rd w0 A n (strV ca)) => hid (falseSet_any N nm nm ca ca A A n c n c w0 lo hi rd rd hn hn hsa hsa)
  have hl := hid (show hs.length = m by have := hrb.1; rw [strV_len] at this; exact this)
  have HH := hid hh
  have RA := hid hra
  have RB := hid hrb
  clear hra hrb hsa hh
  generalize quotL (leadL (roundsL N) ca) (leadL (roundsL N) ca) = F at *
  go_enter Try.func95, Try.ntmps95
  go_wp2_with fail
  obtain ⟨B2, hsz, HC⟩ := box_mk1 34 w nm (N : Int) (.slice A n c)
  have R2 := hid (RA.out.below B2)
  have RB2 := hid (RB.out.below B2)
  have HB2 := hid B2
  have hw2 := B2.size
  generalize (w.alloc (.cells #[.string (bs nm), .int .i64 (N : Int), .slice A n c] 34)) = W2 at *
  clear hsz HC B2
  refine (HF _ R2.out).out.mono ?_
  rintro e w1 ⟨g, q, rfl, hq, hS, hg, b1⟩
  have HB1 := hid b1
  have HS := hid hS
  have RB1 := hid (RB2.out.below b1)
  have hgl := hS.lt
  have hw1 := b1.size
  clear b1 hS
  go_wp2_with fail
  have HKM := hid (show ∀ k, k ≤ m → k * m ≤ 1000000 from fun k hk => Nat.le_trans (Nat.mul_le_mul (Nat.le_trans hk hm) hm) (by omega))
  go_loopg [6, 16] m (fun gk u v wr => ∃ (i : Nat) (xs : List Value), i ≤ m ∧ gk = m - i ∧ v = .int .i64 i ∧ wr.ownsRow w1.heap.size 106 1 u (clashTo F hs i).length xs ∧ Below w1.heap.size w1 wr)
  case atStart => exact ⟨0, [], by omega, by omega, rfl, own_of_blk (Blk.new _ _ #[]) (Nat.le_refl _) (by simp [maxLen]), (Below.refl _ _).alloc (Nat.le_refl _) _⟩
  case round =>
    obtain ⟨i, xs, hi', rfl, rfl, ho, hb⟩ := hrel
    by_cases hlt : i < m
    · obtain ⟨b', o', hB, hj', hc⟩ := (RB1.out.below hb).str hlt
      have rowi := hid (HH.out _ (List.getElem_mem hj'))
      have hk0 : (0 : Int) ≤ (i : Int) := by omega
      have hk1 : (i : Int) < (m : Int) := by omega
      subst hB
      have HST := hid (clashTo_step F hs i)
      have HO := hid ho
      have HB := hid hb
      have hbs := hb.size
      obtain ⟨w2, hw2'⟩ : ∃ w2, w2 = wr := ⟨_, rfl⟩
      subst hw2'
      clear ho hb
      go_wp2_with fail
      have HT := hid (fun w0 => turned_any hs[i] w0 rowi.out.1)
      have hkm := HKM.out i hi'
      have hcl := clashTo_len F hs i
      rw [hl.out] at hcl
      go_loopg [6, 9] (m - (i + 1)) (fun gk u v wr => ∃ (k : Nat) (ys : List Value), i < k ∧ k ≤ m ∧ gk = m - k ∧ v = .int .i64 k ∧ wr.ownsRow w1.heap.size 106 1 u (clashTo F hs i ++ clashRow F hs i k).length ys ∧ Below w1.heap.size w1 wr)
      case atStart => exact ⟨i + 1, xs, by omega, by omega, rfl, by go_num, by rw [clashRow_zero, List.append_nil]; exact HO.out, HB.out⟩
      case round =>
        obtain ⟨k, ys, hik, hk', rfl, rfl, ho, hb⟩ := hrel
        by_cases hltk : k < m
        · obtain ⟨b3, o3, hB3, hjk, hck⟩ := (RB1.out.below hb).str hltk
          injection hB3 with hB3
          injection hB3 with f1 f2 _
          subst f1 f2
          have rowk := hid (HH.out _ (List.getElem_mem hjk))
          have hkk0 : (0 : Int) ≤ (k : Int) := by omega
          have hkk1 : (k : Int) < (m : Int) := by omega
          have HTM := hid (fun w0 => times_any (turnL hs[i]) hs[k] w0 (turn_row rowi.out.1) rowk.out.1 (by rw [turn_len, rowi.out.2, rowk.out.2]))
          have hcA : memB (timesL (turnL hs[i]) hs[k]) F = clashAt F hs i k := by unfold clashAt; simp [List.getD, hj', hjk]
          obtain ⟨Z, hZ⟩ : ∃ Z, Z = timesL (turnL hs[i]) hs[k] := ⟨_, rfl⟩
          have hzl : Z.length ≤ 1048576 := by rw [hZ, times_len, rowk.out.2]; omega
          rw [← hZ] at HTM hcA
          have HCA := hid hcA
          have HO2 := hid ho
          have HB2' := hid hb
          have hbs2 := hb.size
          have hrl := clashRow_len F hs i k
          have HSr := hid (HS.out.below hb)
          have HC9 := hid (show ∀ W', Below wr.heap.size wr W' → W'.cell? ⟨b', o' + k, none⟩ = some (.string (bs hs[k])) from fun W' h => (h.cell (p := ⟨b', o' + k, none⟩) (World.block_lt_of_cell? wr _ hck)).trans hck)
          clear ho hb hZ hcA
          go_wp2_with fail
          go_region_held3 (fun w' => w'.cell? ⟨b', o' + k, none⟩ = some (.string (bs hs[k])))
            (first | exact HC9.out _ (Below.refl _ _) | exact HC9.out _ (Below.refl _ _).drew | exact HC9.out _ Fa | exact HC9.out _ Fb)
            (first | (go_at_call 87; refine (HT.out _).mono ?_; rintro e wa ⟨rfl, ba⟩; have Fa := (Below.refl wr.heap.size wr).drew.trans (ba.mono (Nat.le_refl _))) | (go_at_call 86; refine (HTM.out _).mono ?_; rintro e wb ⟨rfl, bb⟩; have Fb := Fa.trans (bb.mono Fa.size); have hlook := (HSr.out.below Fb).look hzl))
          have HOb := hid (own_below HO2.out Fb)
          have HBb := hid (HB2'.out.trans (Fb.mono hbs2))
          have hbb := HBb.out.size
          clear ba bb Fa Fb hlook
          cases hm' : memB Z F
          · have HN := hid (clashRow_no F hs (k := k) (i := i) (HCA.out.symm.trans hm'))
            clear hm'
            go_wp2
            go_roundg (m - (k + 1))
            case measure => omega
            case rel => exact ⟨k + 1, ys, by omega, by omega, rfl, by go_num, by rw [← HN.out]; exact HOb.out, HBb.out⟩
          · have HY := hid (clashRow_yes F hs hik (HCA.out.symm.trans hm'))
            have HLN := hid (show (clashTo F hs i ++ clashRow F hs i k).length + 1 = (clashTo F hs i ++ clashRow F hs i (k + 1)).length by rw [← HY.out, ← List.append_assoc, List.length_append (bs := [(i, k)])]; rfl)
            have hll : (clashTo F hs i ++ clashRow F hs i k).length ≤ 2000000 := by rw [List.length_append]; omega
            obtain ⟨L, hL⟩ : ∃ L, L = (clashTo F hs i ++ clashRow F hs i k).length := ⟨_, rfl⟩
            rw [← hL] at HOb HLN hll
            have hlim : L + 1 ≤ 1000000000 := by omega
            clear hm' hL
            go_wp2_with (at_builtin; refine app_sl _ (by rfl) _ _ (by rfl) w1.heap.size _ _ _ (by rfl) ((HOb.out.alloc _).alloc _) (some ⟨wb.heap.size + 1, 0, none⟩) 1 1 [.slice (some ⟨wb.heap.size, 0, none⟩) 2 2] (by rfl) (by have := Rd.blk (wb.alloc (.cells #[.int .i64 i, .int .i64 k] 3)) [.slice (some ⟨wb.heap.size, 0, none⟩) 2 2] 106; simpa using this) (by intro u hu; simp at hu; subst hu; rfl) hlim (by simp; omega) ?_; intro v5 w5 o5 g5)
            go_roundg (m - (k + 1))
            case measure => omega
            case rel =>
              rw [HLN.out] at o5
              exact ⟨k + 1, _, by omega, by omega, rfl, by go_num, o5, ((HBb.out.alloc (by omega) _).alloc (by simp; omega) _).grown g5 (by simp; omega) fun q hq => (HOb.out.lt q hq).1⟩
        · obtain rfl : k = m := by omega
          have HO2 := hid ho
          have HB2' := hid hb
          clear ho hb
          go_wp2
          go_roundg (k - (i + 1))
          case measure => omega
          case rel => exact ⟨i + 1, ys, by omega, rfl, by go_num, by rw [← HST.out, hl.out]; exact HO2.out, HB2'.out⟩
    · obtain rfl : i = m := by omega
      have HO := hid ho
      clear ho
      go_wp2
      go_ret
      exact ⟨_, xs, rfl, own_mono HO.out (Nat.le_trans hw2 hw1), HB2.out.trans ((HB1.out.trans (hb.mono hw1)).mono hw2)⟩
end Go.Proofs.Ytnkpbahapaocbaa

set_option linter.unusedVariables false
set_option linter.unusedSimpArgs false
set_option maxRecDepth 100000
namespace Go.Proofs.Ytnkpbahapaocbaa
open Go.RowKit

/-- How many heads of a touch clash. -/
def clashN (N : Nat) (cs : List (List UInt8)) (k : List UInt8 × List UInt8) (t : List UInt8) : Nat := (clashTo (quotL (leadL (roundsL N) cs) (leadL (roundsL N) cs)) ((headsTo N cs k t t.length).take t.length) t.length).length
theorem heads_take_rows' {N : Nat} (lo : 3 ≤ N) (hi : N ≤ 8) (cs : List (List UInt8)) (k : List UInt8 × List UInt8) (t : List UInt8) (j q : Nat) : ∀ x ∈ (headsTo N cs k t j).take q, IsRow x ∧ x.length = N := fun x hx => by
  have hx := List.mem_of_mem_take hx
  simp only [headsTo, List.mem_map] at hx
  obtain ⟨i, _, rfl⟩ := hx
  exact headTo_row lo hi cs k t i
theorem rd_take' {w : World} {A : Option Addr} {n k : Nat} {l : List (List UInt8)} (h : Rd w A n (strV l)) (hk : k ≤ n) : Rd w A k (strV (l.take k)) := by
  rw [strV_take]; exact h.take_ k hk
set_option maxHeartbeats 1000000 in
theorem headClashes_any (N : Nat) (nm t : List UInt8) (ch : List (List UInt8)) (k : List UInt8 × List UInt8) (A : Option Addr) (n c : Nat) (w : World) (lo : 3 ≤ N) (hi : N ≤ 8) (hr : Rd w A n (strV ch)) (hn : n ≤ 1000) (l1 : 1 ≤ ch.length) (hs : ∀ x ∈ ch, okChange (N : Int) x = true) (hb1 : okChange (N : Int) k.1 = true) (hb2 : okChange (N : Int) k.2 = true) (ht : t.length ≤ 1000) (hcall : t.all callB = true) :
    Calls Try.prog 78 #[.agg #[.string (bs nm), .int .i64 N, .slice A n c], .agg #[.string (bs k.1), .string (bs k.2)], .string (bs t)] w (SlicesN w (clashN N ch k t)) := by
  have G := fun (w0 : World) (rd : Rd w0 A n (strV ch)) => hid (heads_any N nm t ch k A n c w0 lo hi rd (by omega) l1 hs hb1 hb2 ht hcall)
  have LF := fun B d (w0 : World) (rd : Rd w0 A n (strV ch)) (rb : Rd w0 B t.length (strV ((headsTo N ch k t t.length).take t.length))) => hid (clashes_any N nm ch ((headsTo N ch k t t.length).take t.length) A B n c t.length d w0 lo hi rd rb hn ht hs (heads_take_rows' lo hi ch k t _ _))
  have HCN := hid (show clashN N ch k t = _ from rfl)
  have RS := hid hr
  obtain ⟨k1, k2⟩ := k
  clear hr hs hb1 hb2 hcall
  unfold clashN
  clear HCN
  have i0 : (0 : Int) ≤ (t.length : Int) := Int.natCast_nonneg _
  go_enter Try.func78, Try.ntmps78
  go_wp2_with fail
  obtain ⟨B2, hsz, HC⟩ := box_mk w nm k1 k2 (N : Int) (.slice A n c)
  have R2 := hid (RS.out.below B2)
  have HB2 := hid B2
  have hw2 := B2.size
  generalize ((w.alloc (.cells #[.string (bs nm), .int .i64 (N : Int), .slice A n c] 34)).alloc (.cells #[.string (bs k1), .string (bs k2)] 36)) = W2 at *
  clear B2 hsz
  have HS5 : ∀ W', Below W2.heap.size W2 W' → W'.cell? ⟨w.heap.size, 0, none⟩ = some (.string (bs nm)) ∧ W'.cell? ⟨w.heap.size, 1, none⟩ = some (.int .i64 (N : Int)) ∧ W'.cell? ⟨w.heap.size, 2, none⟩ = some (.slice A n c) ∧ W'.cell? ⟨w.heap.size + 1, 0, none⟩ = some (.string (bs k1)) ∧ W'.cell? ⟨w.heap.size + 1, 1, none⟩ = some (.string (bs k2)) := fun W' h => by
    obtain ⟨⟨a0, a1, a2⟩, a3, a4⟩ := HC.out _ h
    exact ⟨a0, a1, a2, a3, a4⟩
  have HHS5 := hid HS5
  clear HS5 HC
  obtain ⟨n0, n1, n2, q0, q1⟩ := HHS5.out _ (Below.refl W2.heap.size W2)
  go_wp2_with fail
  go_region_held3 (fun w' => w'.cell? ⟨w.heap.size, 0, none⟩ = some (.string (bs nm)) ∧ w'.cell? ⟨w.heap.size, 1, none⟩ = some (.int .i64 (N : Int)) ∧ w'.cell? ⟨w.heap.size, 2, none⟩ = some (.slice A n c) ∧ w'.cell? ⟨w.heap.size + 1, 0, none⟩ = some (.string (bs k1)) ∧ w'.cell? ⟨w.heap.size + 1, 1, none⟩ = some (.string (bs k2)))
    (first | exact HHS5.out _ (Below.refl _ _) | exact HHS5.out _ (Below.refl _ _).drew | exact HHS5.out _ Fa | exact HHS5.out _ Fb)
    (first | (go_at_call 88; refine (G _ (R2.out.below (Below.refl W2.heap.size W2).drew)).out.mono ?_; rintro e wa ⟨va, rfl, oa, ba⟩; obtain ⟨Aa, ca, rfl, hca, _, rda, _⟩ := own_shape oa; have j2 := Int.ofNat_le.2 (Nat.le_of_succ_le hca); have Fa := (Below.refl W2.heap.size W2).drew.trans (ba.mono (Nat.le_refl _))) | (go_at_call 95; refine (LF _ _ _ (R2.out.below Fa) (rd_take' rda (Nat.le_succ _))).out.mono ?_; rintro e wb ⟨vb, xb, rfl, ob, bb⟩; have Fb := Fa.trans (bb.mono Fa.size)))
  have HFb := hid Fb
  have OB := hid ob
  have hwb := Fa.size
  clear oa ba rda ob bb Fa Fb n0 n1 n2 q0 q1 j2
  go_wp2
  go_ret
  exact ⟨_, _, rfl, own_mono OB.out (Nat.le_trans hw2 hwb), HB2.out.trans (HFb.out.mono hw2)⟩
end Go.Proofs.Ytnkpbahapaocbaa

set_option linter.unusedVariables false
set_option linter.unusedSimpArgs false
set_option maxRecDepth 100000
namespace Go.Proofs.Ytnkpbahapaocbaa
open Go.RowKit

set_option maxHeartbeats 1000000 in
theorem trueByHeads_any (N : Nat) (nm t : List UInt8) (ch : List (List UInt8)) (k : List UInt8 × List UInt8) (A : Option Addr) (n c : Nat) (w : World) (lo : 3 ≤ N) (hi : N ≤ 8) (hr : Rd w A n (strV ch)) (hn : n ≤ 1000) (l1 : 1 ≤ ch.length) (hs : ∀ x ∈ ch, okChange (N : Int) x = true) (hb1 : okChange (N : Int) k.1 = true) (hb2 : okChange (N : Int) k.2 = true) (ht : t.length ≤ 1000) (hcall : t.all callB = true) :
    Calls Try.prog 55 #[.agg #[.string (bs nm), .int .i64 N, .slice A n c], .agg #[.string (bs k.1), .string (bs k.2)], .string (bs t)] w fun e w' => e = .returned (.bool (trueB (leadL (roundsL N) ch) && decide (clashN N ch k t = 0))) ∧ Below w.heap.size w w' := by
  have G1 := fun (w0 : World) (rd : Rd w0 A n (strV ch)) => hid (leadTrue_any N nm ch A n c w0 lo hi rd (by omega) hs)
  have G2 := fun (w0 : World) (rd : Rd w0 A n (strV ch)) => hid (headClashes_any N nm t ch k A n c w0 lo hi rd hn l1 hs hb1 hb2 ht hcall)
  have RS := hid hr
  generalize clashN N ch k t = q at *
  generalize trueB (leadL (roundsL N) ch) = P0 at *
  obtain ⟨k1, k2⟩ := k
  clear hr hs hb1 hb2 hcall
  go_enter Try.func55, Try.ntmps55
  go_wp2_with fail
  obtain ⟨B2, hsz, HC⟩ := box_mk w nm k1 k2 (N : Int) (.slice A n c)
  have R2 := hid (RS.out.below B2)
  have HB2 := hid B2
  have hw2 := B2.size
  generalize ((w.alloc (.cells #[.string (bs nm), .int .i64 (N : Int), .slice A n c] 34)).alloc (.cells #[.string (bs k1), .string (bs k2)] 36)) = W2 at *
  clear B2 hsz
  have HS5 : ∀ W', Below W2.heap.size W2 W' → W'.cell? ⟨w.heap.size, 0, none⟩ = some (.string (bs nm)) ∧ W'.cell? ⟨w.heap.size, 1, none⟩ = some (.int .i64 (N : Int)) ∧ W'.cell? ⟨w.heap.size, 2, none⟩ = some (.slice A n c) ∧ W'.cell? ⟨w.heap.size + 1, 0, none⟩ = some (.string (bs k1)) ∧ W'.cell? ⟨w.heap.size + 1, 1, none⟩ = some (.string (bs k2)) := fun W' h => by
    obtain ⟨⟨a0, a1, a2⟩, a3, a4⟩ := HC.out _ h
    exact ⟨a0, a1, a2, a3, a4⟩
  have HHS5 := hid HS5
  clear HS5 HC
  obtain ⟨n0, n1, n2, q0, q1⟩ := HHS5.out _ (Below.refl W2.heap.size W2)
  refine (G1 _ R2.out).out.mono ?_
  rintro e w1 ⟨rfl, b1⟩
  have HB1 := hid b1
  clear b1 n0 n1 n2 q0 q1
  obtain ⟨n0, n1, n2, q0, q1⟩ := HHS5.out _ HB1.out
  cases P0
  · go_wp2
    go_ret
    exact ⟨ret_bool (by simp), HB2.out.trans (HB1.out.mono hw2)⟩
  · go_wp2_with fail
    refine (G2 _ (R2.out.below HB1.out)).out.mono ?_
    rintro e w3 ⟨v3, xs, rfl, o3, b3⟩
    have HB3 := hid (HB1.out.trans (b3.mono HB1.out.size))
    rcases o3.2 with ⟨rfl, hx⟩ | ⟨g, cap, cur, rfl, _⟩
    · have hq0 := hid (show q = 0 by have h1 := o3.1; rw [hx] at h1; simp at h1; omega)
      clear o3 b3 n0 n1 n2 q0 q1 hx
      go_wp2
      go_ret
      exact ⟨ret_bool (by simp [hq0.out]), HB2.out.trans (HB3.out.mono hw2)⟩
    · clear o3 b3 n0 n1 n2 q0 q1
      go_wp2
      go_ret
      exact ⟨ret_bool (by rw [Bool.eq_iff_iff]; simp), HB2.out.trans (HB3.out.mono hw2)⟩
end Go.Proofs.Ytnkpbahapaocbaa

set_option linter.unusedVariables false
set_option linter.unusedSimpArgs false
set_option maxRecDepth 100000
namespace Go.Proofs.Ytnkpbahapaocbaa
open Go.RowKit

/-- Whether a touch is a solution. -/
def tstB (N : Nat) (ch : List (List UInt8)) (k : List UInt8 × List UInt8) (q : Nat) (t : List UInt8) : Bool := decide (t.length = q) && (t.all callB && ((headTo N ch k t t.length == roundsL N) && (trueB (leadL (roundsL N) ch) && decide (clashN N ch k t = 0))))
/-- What CheckFound answers. -/
def checkR (m : Meth) (k : List UInt8 × List UInt8) (q : Int) (ts : List (List UInt8)) (cs : List (List UInt8 × Int × Int)) (fin : Bool) : Bool := chkI (callsB m k && searchB q) fin (tstB m.st.toNat m.ch k q.toNat) (isCutB m.st.toNat m.ch k q.toNat) q.toNat ts cs
set_option maxHeartbeats 4000000 in
theorem implCheck_main (N : Nat) (nm : List UInt8) (ch : List (List UInt8)) (k : List UInt8 × List UInt8) (q : Nat) (ts : List (List UInt8)) (cs : List (List UInt8 × Int × Int)) (fin : Bool) (A TA CA : Option Addr) (n c tn tc cn cc : Nat) (w : World) (lo : 3 ≤ N) (hi : N ≤ 8) (hr : Rd w A n (strV ch)) (hn : n ≤ 1000) (l1 : 1 ≤ ch.length) (hs : ∀ x ∈ ch, okChange (N : Int) x = true) (hb1 : okChange (N : Int) k.1 = true) (hb2 : okChange (N : Int) k.2 = true) (hq : q ≤ 6) (ok : LawOk ⟨nm, (N : Int), ch⟩ k)
    (hg : (callsB ⟨nm, (N : Int), ch⟩ k && searchB (q : Int)) = true) (rt : Rd w TA tn (strV ts)) (rc : RdC w CA cn cs) (htn : tn ≤ 1048576) (hcn : cn ≤ 1048576) (hcl : ∀ c ∈ cs, c.1.length ≤ 1048576) :
    Calls Try.prog 24 #[.agg #[.string (bs nm), .int .i64 N, .slice A n c], .agg #[.string (bs k.1), .string (bs k.2)], .int .i64 q, .agg #[.slice TA tn tc, .slice CA cn cc, .bool fin]] w fun e w' => e = .returned (.bool (chkI true fin (tstB N ch k q) (isCutB N ch k q) q ts cs)) ∧ Below w.heap.size w w' := by
  have hlt : ts.length = tn := by have := rt.1; rw [strV_len] at this; exact this
  have hlc : cs.length = cn := rc.1
  have GA := fun (w0 : World) (rd : Rd w0 A n (strV ch)) => hid (goodSearch_any ⟨nm, (N : Int), ch⟩ k q A n c w0 ok rd)
  rw [hg] at GA
  have GI := fun (w0 : World) (rd : Rd w0 TA tn (strV ts)) => hid (increasing_any TA tn tc ts w0 rd htn)
  have GN := fun (w0 : World) (rd : Rd w0 A n (strV ch)) => hid (newSearcher_any N nm ch k q A n c w0 lo hi rd hn hs)
  have GJ := fun (G g z : Nat) (cp : List UInt8) (cy cz : Int) (hcp : cp.length ≤ 1048576) (w0 : World) (rd : Rd w0 A n (strV ch)) (h1 : SrchAt w0 G nm N A n c k.1 k.2 q (trueB (leadL (roundsL N) ch)) g) (h2 : IsSet w0 g z (quotL (leadL (roundsL N) ch) (leadL (roundsL N) ch))) => hid (justified_any N nm cp cy cz ch k q A n c G g z (trueB (leadL (roundsL N) ch)) w0 lo hi rd (by omega) l1 hs hb1 hb2 hcp hq h1 rfl h2)
  have GP := fun (n : Nat) (hn : n ≤ 6) (w0 : World) => hid (power3_any n w0 hn)
  have GE := fun (t : List UInt8) (ht : t.length ≤ 1000) (hc : t.all callB = true) (w0 : World) (rd : Rd w0 A n (strV ch)) => hid (comesRound_any N nm t ch k A n c w0 lo hi rd (by omega) l1 hs hb1 hb2 ht hc)
  have GT := fun (t : List UInt8) (ht : t.length ≤ 1000) (hc : t.all callB = true) (w0 : World) (rd : Rd w0 A n (strV ch)) => hid (trueByHeads_any N nm t ch k A n c w0 lo hi rd hn l1 hs hb1 hb2 ht hc)
  have GZ := fun (w0 : World) (r1 : Rd w0 TA tn (strV ts)) (r2 : RdC w0 CA cn cs) => hid (apart_any TA CA tn tc cn cc fin ts cs w0 r1 r2 htn hcn)
  have HCL := hid hcl
  have HJL := hid (show ∀ c, isCutB N ch k q c = true → c.1.length ≤ q from fun c h => by
    simp only [isCutB, Bool.and_eq_true, decide_eq_true_eq] at h
    exact h.1.2)
  have HTD := hid (show ∀ t, tstB N ch k q t = (decide (t.length = q) && (t.all callB && ((headTo N ch k t t.length == roundsL N) && (trueB (leadL (roundsL N) ch) && decide (clashN N ch k t = 0))))) from fun t => rfl)
  have RS := hid hr
  have RT := hid rt
  have RC := hid rc
  have HLT := hid hlt
  have HLC := hid hlc
  obtain ⟨R, hR⟩ : ∃ R, R = chkI true fin (tstB N ch k q) (isCutB N ch k q) q ts cs := ⟨_, rfl⟩
  rw [← hR]
  have HR := hid (show R = (((true && fin) && incB ts) && (csB (isCutB N ch k q) cs && (decide (ts.length + sumL q cs = 3 ^ q) && (tsB (tstB N ch k q) ts && apartB ts (cs.map fun c => c.1))))) from hR)
  generalize isCutB N ch k q = isC at *
  generalize tstB N ch k q = tst at *
  generalize hP0 : trueB (leadL (roundsL N) ch) = tr at *
  generalize quotL (leadL (roundsL N) ch) (leadL (roundsL N) ch) = FF at *
  obtain ⟨k1, k2⟩ := k
  dsimp only at *
  clear hr rt rc hs hb1 hb2 l1 ok hg hR hlt hlc hcl hP0
  go_enter Try.func24, Try.ntmps24
  go_wp2_with fail
  obtain ⟨B2, hsz, HC⟩ := box_mkX 34 36 44 w nm k1 k2 (N : Int) (.slice A n c) #[.slice TA tn tc, .slice CA cn cc, .bool fin]
  have R2 := hid (RS.out.below B2)
  have HB2 := hid B2
  have hw2 := B2.size
  generalize (((w.alloc (.cells #[.string (bs nm), .int .i64 (N : Int), .slice A n c] 34)).alloc (.cells #[.string (bs k1), .string (bs k2)] 36)).alloc (.cells #[.slice TA tn tc, .slice CA cn cc, .bool fin] 44)) = W2 at *
  clear B2 hsz
  have HHS8 := hid (fun W' (h : Below W2.heap.size W2 W') => (show W'.cell? ⟨w.heap.size, 0, none⟩ = some (.string (bs nm)) ∧ W'.cell? ⟨w.heap.size, 1, none⟩ = some (.int .i64 (N : Int)) ∧ W'.cell? ⟨w.heap.size, 2, none⟩ = some (.slice A n c) ∧ W'.cell? ⟨w.heap.size + 1, 0, none⟩ = some (.string (bs k1)) ∧ W'.cell? ⟨w.heap.size + 1, 1, none⟩ = some (.string (bs k2)) ∧ W'.cell? ⟨w.heap.size + 1 + 1, 0, none⟩ = some (.slice TA tn tc) ∧ W'.cell? ⟨w.heap.size + 1 + 1, 1, none⟩ = some (.slice CA cn cc) ∧ W'.cell? ⟨w.heap.size + 1 + 1, 2, none⟩ = some (.bool fin) from by
    obtain ⟨⟨X, Y⟩, Z⟩ := HC.out _ h
    exact ⟨X.cell 0, X.cell 1, X.cell 2, Y.cell 0, Y.cell 1, Z.cell 0, Z.cell 1, Z.cell 2⟩))
  clear HC
  obtain ⟨n0, n1, n2, p0, p1, t0, t1, t2⟩ := HHS8.out _ (Below.refl _ _)
  refine (GA _ R2.out).out.mono ?_
  rintro e w1 ⟨rfl, b1⟩
  have E1 := hid b1
  clear b1 n0 n1 n2 p0 p1 t0 t1 t2
  obtain ⟨n0, n1, n2, p0, p1, t0, t1, t2⟩ := HHS8.out _ E1.out
  cases fin
  · go_wp2
    go_ret
    exact ⟨ret_bool (by rw [HR.out]; rfl), HB2.out.trans (E1.out.mono hw2)⟩
  go_wp2_with fail
  refine (GI _ ((RT.out.below HB2.out).below E1.out)).out.mono ?_
  rintro e w2 ⟨rfl, m2, rfl⟩
  have E2 := hid (below_drewN E1.out m2)
  clear n0 n1 n2 p0 p1 t0 t1 t2
  obtain ⟨n0, n1, n2, p0, p1, t0, t1, t2⟩ := HHS8.out _ E2.out
  generalize w1.drewN m2 = w2 at *
  cases hinc : incB ts
  · rw [hinc] at HR
    clear hinc
    go_wp2
    go_ret
    exact ⟨ret_bool (by rw [HR.out]; rfl), HB2.out.trans (E2.out.mono hw2)⟩
  rw [hinc] at HR
  clear hinc
  go_wp2_with fail
  refine (GN _ (R2.out.below E2.out)).out.mono ?_
  rintro e w3 ⟨G, g, z, rfl, hBG, hset, hGe, b3⟩
  have E3 := hid (E2.out.trans (b3.mono E2.out.size))
  have HAT := hid (SrchAt.of hBG)
  have HST := hid hset
  have hs3 := E3.out.size
  have hGl := hBG.lt
  clear b3 hset hBG hGe n0 n1 n2 p0 p1 t0 t1 t2
  obtain ⟨n0, n1, n2, p0, p1, t0, t1, t2⟩ := HHS8.out _ E3.out
  have hsum0 : ts.length = tn := HLT.out
  go_upto_region 6 with fail
  clear n0 n1 n2 p0 p1 t0 t1 t2
  have HI0 := hid (show ((tn : Nat) : Int) = ((ts.length + sumL q (cs.take 0) : Nat) : Int) by rw [← HLT.out]; rfl)
  clear hsum0
  go_loopg [10, 41] cn (fun gk s u wr => ∃ i : Nat, i ≤ cn ∧ gk = cn - i ∧ s = .int .i64 ((ts.length + sumL q (cs.take i) : Nat) : Int) ∧ u = .int .i64 (i : Int) ∧ Hid (rall i (fun i => isC (gC cs i)) = true) ∧ Below w3.heap.size w3 wr)
  case atStart => exact ⟨0, by omega, by omega, by rw [HI0.out], rfl, hid rfl, Below.refl _ _⟩
  case round =>
    obtain ⟨i, hi', rfl, rfl, rfl, hall, hb⟩ := hrel
    have HBr := hid hb
    have hbs := hb.size
    have hlc := HLC.out
    have hsl := sumL_le q hq (cs.take i)
    rw [List.length_take] at hsl
    have hSb : ts.length + sumL q (cs.take i) ≤ 1000000000 := by have := HLT.out; omega
    by_cases hlt : i < cn
    · obtain ⟨bc, oc, rfl, x0, x1, x2⟩ := ((RC.out.below HB2.out).below (E3.out.trans (hb.mono hs3))).2 i (by rw [HLC.out]; exact hlt)
      have hgi : gC cs i = (cs[i]'(by rw [HLC.out]; exact hlt)) := gC_eq _
      have hcp : (cs[i]'(by rw [HLC.out]; exact hlt)).1.length ≤ 1048576 := HCL.out _ (List.getElem_mem _)
      have hnext := sumL_take q cs i (by omega)
      rw [hgi] at hnext
      have hstep : Hid (isC (cs[i]'(by rw [HLC.out]; exact hlt)) = true → rall (i + 1) (fun i => isC (gC cs i)) = true) := hid (fun h => rall_step hall.out (by rw [hgi]; exact h))
      have hbad : Hid (isC (cs[i]'(by rw [HLC.out]; exact hlt)) = false → csB isC cs = false) := hid (fun h => rall_bad (k := i) (by omega) (by rw [hgi]; exact h))
      obtain ⟨K, hK⟩ : ∃ K, K = (cs[i]'(by rw [HLC.out]; exact hlt)) := ⟨_, rfl⟩
      rw [← hK] at x0 x1 x2 hstep hbad hcp hnext
      obtain ⟨cp, cy, cz⟩ := K
      dsimp only at x0 x1 x2 hcp hnext
      have j0 : (0 : Int) ≤ (i : Int) := by omega
      have j1 : (i : Int) < (cn : Int) := by omega
      obtain ⟨S, hS⟩ : ∃ S, S = ts.length + sumL q (cs.take i) := ⟨_, rfl⟩
      rw [← hS] at hSb ⊢
      have HNX := hid (show ts.length + sumL q (cs.take (i + 1)) = S + 3 ^ (q - cp.length) by rw [hnext, hS]; omega)
      have E4 := hid (hb.alloc hb.size (.cells #[.string (bs cp), .int .i64 cy, .int .i64 cz] 38))
      have X4 := Blk.new wr 38 #[.string (bs cp), .int .i64 cy, .int .i64 cz]
      clear hb hK hgi hnext hS hsl hlc
      go_upto_region 8 with fail
      generalize (wr.alloc (.cells #[.string (bs cp), .int .i64 cy, .int .i64 cz] 38)) = W4 at *
      have HX4 := hid X4
      have c0 := X4.cell 0
      have c1 := X4.cell 1
      have c2 := X4.cell 2
      simp only [List.getElem?_toArray, List.getElem?_cons_zero, List.getElem?_cons_succ] at c0 c1 c2
      clear X4 x0 x1 x2
      have hX4l := HX4.out.lt
      go_wp2_with fail
      refine (GJ G g z cp cy cz hcp _ (R2.out.below (E3.out.trans (E4.out.mono hs3))) (HAT.out.below E4.out) (HST.out.below E4.out)).out.mono ?_
      rintro e w5 ⟨rfl, b5⟩
      have E5 := hid (E4.out.trans (b5.mono E4.out.size))
      have X5 := HX4.out.below b5 hX4l
      have d0 := X5.cell 0
      simp only [List.getElem?_toArray, List.getElem?_cons_zero, List.getElem?_cons_succ] at d0
      clear b5 X5 c0 c1 c2
      cases hj : isC (cp, cy, cz)
      · have HS2 := hid (hbad.out hj)
        clear hstep hbad hj
        go_wp2
        go_ret
        exact ⟨ret_bool (by rw [HR.out, HS2.out]; simp), HB2.out.trans ((E3.out.trans (E5.out.mono hs3)).mono hw2)⟩
      · have HS2 := hid (hstep.out hj)
        have hle := HJL.out _ hj
        dsimp only at hle
        clear hstep hbad hj
        have hw1 : IntKind.i64.wrap ((q : Int) - (cp.length : Int)) = ((q - cp.length : Nat) : Int) := by rw [IntWalk.i64_in _ (by omega)]; omega
        go_wp2_with fail
        refine (GP (q - cp.length) (by omega) _).out.mono ?_
        rintro e w6 ⟨rfl, rfl⟩
        have hpw : 3 ^ (q - cp.length) ≤ 3 ^ 6 := Nat.pow_le_pow_right (by omega) (by omega)
        generalize 3 ^ (q - cp.length) = P at *
        clear hw1
        have hw2' : IntKind.i64.wrap ((S : Int) + (P : Int)) = (S : Int) + (P : Int) := IntWalk.i64_in _ (by omega)
        go_wp2
        go_roundg (cn - (i + 1))
        case measure => omega
        case rel => exact ⟨i + 1, by omega, rfl, by rw [HNX.out]; first | rfl | (congr 1; omega), by go_num, HS2, E5.out⟩
    · obtain rfl : i = cn := by omega
      have E4 := hid (E3.out.trans (hb.mono hs3))
      have HCS := hid (show csB isC cs = true by unfold csB; rw [HLC.out]; exact hall.out)
      rw [List.take_of_length_le (by omega)] at hSb ⊢
      obtain ⟨S, hS⟩ : ∃ S, S = ts.length + sumL q cs := ⟨_, rfl⟩
      rw [← hS] at hSb ⊢ HR
      rw [HCS.out] at HR
      obtain ⟨w4, hw4⟩ : ∃ x, x = wr := ⟨_, rfl⟩
      subst hw4
      clear hall hb hsl hS hlc hbs HBr
      go_wp2_with fail
      refine (GP q hq _).out.mono ?_
      rintro e w6 ⟨rfl, rfl⟩
      by_cases hsq : S = 3 ^ q
      case neg =>
        have hne : ((S : Int) != ((3 ^ q : Nat) : Int)) = true := by simp only [bne_iff_ne, ne_eq]; omega
        have HR' := hid (show R = false by rw [HR.out, decide_eq_false hsq]; simp)
        generalize ((3 ^ q : Nat) : Int) = PQ at *
        clear hsq
        go_wp2
        go_ret
        exact ⟨ret_bool HR'.out.symm, HB2.out.trans (E4.out.mono hw2)⟩
      have hne : ((S : Int) != ((3 ^ q : Nat) : Int)) = false := by simp only [bne_eq_false_iff_eq]; omega
      have HR2 := hid (show R = (tsB tst ts && apartB ts (cs.map fun c => c.1)) by rw [HR.out, decide_eq_true hsq]; simp)
      generalize ((3 ^ q : Nat) : Int) = PQ at *
      clear hsq HR hSb
      obtain ⟨n0, n1, n2, p0, p1, t0, t1, t2⟩ := HHS8.out _ E4.out
      go_upto_region 15 with fail
      clear n0 n1 n2 p0 p1 t0 t1 t2 hne
      go_loopg [65] tn (fun gk u wr => ∃ i : Nat, i ≤ tn ∧ gk = tn - i ∧ u = .int .i64 (i : Int) ∧ Hid (rall i (fun i => tst (gS ts i)) = true) ∧ Below w4.heap.size w4 wr)
      case atStart => exact ⟨0, by omega, by omega, rfl, hid rfl, Below.refl _ _⟩
      case round =>
        obtain ⟨l, hl, rfl, rfl, hall, hb⟩ := hrel
        have E5 := hid (E4.out.trans (hb.mono E4.out.size))
        have HBr := hid hb
        have hlt5 := HLT.out
        obtain ⟨n0, n1, n2, p0, p1, t0, t1, t2⟩ := HHS8.out _ E5.out
        by_cases hlt : l < tn
        · obtain ⟨bt, ot, rfl, hkl, v0⟩ := ((RT.out.below HB2.out).below E5.out).str hlt
          have hstep : Hid (tst ts[l] = true → rall (l + 1) (fun i => tst (gS ts i)) = true) := hid (fun h => rall_step hall.out (by rw [gS_eq hkl]; exact h))
          have hbad : Hid (tst ts[l] = false → tsB tst ts = false) := hid (fun h => rall_bad (F := fun i => tst (gS ts i)) (k := l) (n := ts.length) hkl (by rw [gS_eq hkl]; exact h))
          have htd := HTD.out ts[l]
          generalize ts[l] = T at *
          have HTD1 := hid htd
          have j0 : (0 : Int) ≤ (l : Int) := by omega
          have j1 : (l : Int) < (tn : Int) := by omega
          clear hb htd hall hlt5
          by_cases hlen : T.length = q
          case neg =>
            have hq1 : ((T.length : Int) != (q : Int)) = true := by simp only [bne_iff_ne, ne_eq]; omega
            have HS2 := hid (hbad.out (by rw [HTD1.out, decide_eq_false hlen]; rfl))
            clear hlen hstep hbad
            go_wp2
            go_ret
            exact ⟨ret_bool (by rw [HR2.out, HS2.out]; rfl), HB2.out.trans (E5.out.mono hw2)⟩
          have hq1 : ((T.length : Int) != (q : Int)) = false := by simp only [bne_eq_false_iff_eq]; omega
          have hlen2 : T.length ≤ 1000 := by omega
          rw [decide_eq_true hlen, Bool.true_and] at HTD1
          clear hlen
          have GAC := hid (fun w0 => areCalls_any T w0 (by omega))
          go_wp2_with fail
          refine (GAC.out _).mono ?_
          rintro e w6 ⟨rfl, rfl⟩
          cases hac : T.all callB
          · rw [hac] at HTD1
            have HS2 := hid (hbad.out (by rw [HTD1.out]; rfl))
            clear hstep hbad hac
            go_wp2
            go_ret
            exact ⟨ret_bool (by rw [HR2.out, HS2.out]; rfl), HB2.out.trans (E5.out.mono hw2)⟩
          rw [hac, Bool.true_and] at HTD1
          have GEt := GE T hlen2 hac
          have GTt := GT T hlen2 hac
          clear hac
          go_wp2_with fail
          refine (GEt _ (R2.out.below E5.out)).out.mono ?_
          rintro e w6 ⟨rfl, b6⟩
          have E6 := hid (E5.out.trans (b6.mono E5.out.size))
          have B6 := hid (HBr.out.trans (b6.mono HBr.out.size))
          clear b6 n0 n1 n2 p0 p1 t0 t1 t2 v0
          obtain ⟨n0, n1, n2, p0, p1, t0, t1, t2⟩ := HHS8.out _ E6.out
          generalize (headTo N ch (k1, k2) T T.length == roundsL N) = B0 at *
          cases B0
          · have HS2 := hid (hbad.out (by rw [HTD1.out]; rfl))
            clear hstep hbad
            go_wp2
            go_ret
            exact ⟨ret_bool (by rw [HR2.out, HS2.out]; rfl), HB2.out.trans (E6.out.mono hw2)⟩
          rw [Bool.true_and] at HTD1
          go_wp2_with fail
          refine (GTt _ (R2.out.below E6.out)).out.mono ?_
          rintro e w7 ⟨rfl, b7⟩
          have E7 := hid (E6.out.trans (b7.mono E6.out.size))
          have B7 := hid (B6.out.trans (b7.mono B6.out.size))
          clear b7 n0 n1 n2 p0 p1 t0 t1 t2
          generalize (tr && decide (clashN N ch (k1, k2) T = 0)) = B1 at *
          cases B1
          · have HS2 := hid (hbad.out HTD1.out)
            clear hstep hbad
            go_wp2
            go_ret
            exact ⟨ret_bool (by rw [HR2.out, HS2.out]; rfl), HB2.out.trans (E7.out.mono hw2)⟩
          · have HS2 := hid (hstep.out HTD1.out)
            clear hstep hbad
            go_wp2
            go_roundg (tn - (l + 1))
            case measure => omega
            case rel => exact ⟨l + 1, by omega, rfl, by go_num, HS2, B7.out⟩
        · obtain rfl : l = tn := by omega
          have HTS := hid (show tsB tst ts = true by unfold tsB; rw [HLT.out]; exact hall.out)
          clear hall hb hlt5
          go_wp2_with fail
          refine (GZ _ ((RT.out.below HB2.out).below E5.out) ((RC.out.below HB2.out).below E5.out)).out.mono ?_
          rintro e w6 ⟨rfl, b6⟩
          have B6 := hid b6
          clear b6 n0 n1 n2 p0 p1 t0 t1 t2
          go_wp2
          go_ret
          exact ⟨ret_bool (by rw [HR2.out, HTS.out]; rfl), HB2.out.trans ((E5.out.trans (B6.out.mono E5.out.size)).mono hw2)⟩
set_option maxHeartbeats 1000000 in
theorem implCheck_law (m : Meth) (k : List UInt8 × List UInt8) (q : Int) (ts : List (List UInt8)) (cs : List (List UInt8 × Int × Int)) (fin : Bool) (A TA CA : Option Addr) (n c tn tc cn cc : Nat) (w : World) (ok : LawOk m k) (rd : Rd w A n (strV m.ch)) (hcap : n ≤ c) (rt : Rd w TA tn (strV ts)) (rc : RdC w CA cn cs) (htn : tn ≤ 1048576) (hcn : cn ≤ 1048576) (hcl : ∀ c ∈ cs, c.1.length ≤ 1048576) :
    Calls Try.prog 24 #[.agg #[.string (bs m.nm), .int .i64 m.st, .slice A n c], .agg #[.string (bs k.1), .string (bs k.2)], .int .i64 q, .agg #[.slice TA tn tc, .slice CA cn cc, .bool fin]] w fun e w' => e = .returned (.bool (checkR m k q ts cs fin)) ∧ Below w.heap.size w w' := by
  have GA := fun (w0 : World) (rd : Rd w0 A n (strV m.ch)) => hid (goodSearch_any m k q A n c w0 ok rd)
  cases hg0 : callsB m k && searchB q
  · rw [hg0] at GA
    have HR := hid (show checkR m k q ts cs fin = false by unfold checkR; rw [hg0]; rfl)
    have RS := hid rd
    obtain ⟨nm, st, ch⟩ := m
    obtain ⟨k1, k2⟩ := k
    dsimp only at *
    clear hg0 ok rd rt rc hcl
    go_enter Try.func24, Try.ntmps24
    go_wp2_with fail
    obtain ⟨B2, hsz, HC⟩ := box_mkX 34 36 44 w nm k1 k2 st (.slice A n c) #[.slice TA tn tc, .slice CA cn cc, .bool fin]
    have R2 := hid (RS.out.below B2)
    have HB2 := hid B2
    have hw2 := B2.size
    generalize (((w.alloc (.cells #[.string (bs nm), .int .i64 st, .slice A n c] 34)).alloc (.cells #[.string (bs k1), .string (bs k2)] 36)).alloc (.cells #[.slice TA tn tc, .slice CA cn cc, .bool fin] 44)) = W2 at *
    clear B2 hsz
    have HHS8 := hid (fun W' (h : Below W2.heap.size W2 W') => (show W'.cell? ⟨w.heap.size, 0, none⟩ = some (.string (bs nm)) ∧ W'.cell? ⟨w.heap.size, 1, none⟩ = some (.int .i64 st) ∧ W'.cell? ⟨w.heap.size, 2, none⟩ = some (.slice A n c) ∧ W'.cell? ⟨w.heap.size + 1, 0, none⟩ = some (.string (bs k1)) ∧ W'.cell? ⟨w.heap.size + 1, 1, none⟩ = some (.string (bs k2)) ∧ W'.cell? ⟨w.heap.size + 1 + 1, 0, none⟩ = some (.slice TA tn tc) ∧ W'.cell? ⟨w.heap.size + 1 + 1, 1, none⟩ = some (.slice CA cn cc) ∧ W'.cell? ⟨w.heap.size + 1 + 1, 2, none⟩ = some (.bool fin) from by
      obtain ⟨⟨X, Y⟩, Z⟩ := HC.out _ h
      exact ⟨X.cell 0, X.cell 1, X.cell 2, Y.cell 0, Y.cell 1, Z.cell 0, Z.cell 1, Z.cell 2⟩))
    clear HC
    obtain ⟨n0, n1, n2, p0, p1, t0, t1, t2⟩ := HHS8.out _ (Below.refl _ _)
    refine (GA _ R2.out).out.mono ?_
    rintro e w1 ⟨rfl, b1⟩
    have E1 := hid b1
    clear b1 n0 n1 n2 p0 p1 t0 t1 t2
    obtain ⟨n0, n1, n2, p0, p1, t0, t1, t2⟩ := HHS8.out _ E1.out
    go_wp2
    go_ret
    exact ⟨ret_bool HR.out.symm, HB2.out.trans (E1.out.mono hw2)⟩
  · have HR := show checkR m k q ts cs fin = chkI true fin (tstB m.st.toNat m.ch k q.toNat) (isCutB m.st.toNat m.ch k q.toNat) q.toNat ts cs by unfold checkR; rw [hg0]
    have hg1 := hg0
    rw [Bool.and_eq_true] at hg0
    have hb1 := callsB_bob hg0.1
    have hb2 := callsB_single hg0.1
    have hmb := callsB_meth (m := m) (k := k) hg0.1
    obtain ⟨N, hN, lo, hi, l1, l40, hs⟩ := meth_parts hmb
    obtain ⟨j, rfl, hj1, hj6⟩ := searchB_nat hg0.2
    obtain ⟨nm, st, ch⟩ := m
    dsimp only at *
    subst hN
    simp only [Int.toNat_natCast] at HR
    rw [HR]
    have hcn' : ch.length = n := by have h1 := rd.1; rw [strV_len] at h1; exact h1
    exact implCheck_main N nm ch k j ts cs fin A TA CA n c tn tc cn cc w lo hi rd (by omega) l1 hs hb1 hb2 hj6 ok hg1 rt rc htn hcn hcl
end Go.Proofs.Ytnkpbahapaocbaa

set_option linter.unusedVariables false
set_option linter.unusedSimpArgs false
set_option maxRecDepth 100000
namespace Go.Proofs.Ytnkpbahapaocbaa
open Go.RowKit

theorem quotL_len (rs ss : List (List UInt8)) : (quotL rs ss).length = rs.length * ss.length := by
  induction rs with
  | nil => simp [quotL]
  | cons r rs ih =>
    simp only [quotL, List.flatMap_cons, List.length_append, List.length_map, List.length_cons] at ih ⊢
    rw [ih, Nat.succ_mul, Nat.add_comm]
set_option maxHeartbeats 2000000 in
theorem l11Heads_any (N : Nat) (nm : List UInt8) (ca : List (List UInt8)) (A : Option Addr) (n c : Nat) (w : World) (lo : 3 ≤ N) (hi : N ≤ 8) (hra : Rd w A n (strV ca)) (hn : n ≤ 1000) (hsa : ∀ x ∈ ca, okChange (N : Int) x = true) :
    Calls Try.prog 94 #[.agg #[.string (bs nm), .int .i64 N, .slice A n c]] w (OneS w (setL (quotL (leadL (roundsL N) ca) (leadL (roundsL N) ca)))) := by
  have HR := fun w0 => hid (l1Rounds_any N w0 hi)
  have HU := fun (w0 : World) (rd : Rd w0 A n (strV ca)) => hid (l11Lead_any N nm (roundsL N) (N : Int) ca A n c w0 (rounds_row lo hi) (rounds_len N) rd (by omega) hsa)
  have la : (leadL (roundsL N) ca).length = n := by have := hra.1; rw [strV_len] at this; rw [lead_len, this]
  have rows := hid (lead_rows ca (rounds_row lo hi))
  have RA := hid hra
  clear hra hsa
  unfold OneS at HU
  rw [la] at HU
  rw [rounds_len] at rows
  generalize leadL (roundsL N) ca = X at *
  have LA := hid la
  clear la
  have hkm : ∀ k, k ≤ n → k * n ≤ 1000000 := fun k hk => Nat.le_trans (Nat.mul_le_mul (Nat.le_trans hk hn) hn) (by omega)
  have HKM := hid hkm
  clear hkm
  go_enter Try.func94, Try.ntmps94
  go_wp2_with fail
  obtain ⟨B2, hsz, HC⟩ := box_mk1 34 w nm (N : Int) (.slice A n c)
  have R2 := hid (RA.out.below B2)
  have HB2 := hid B2
  have hw2 := B2.size
  generalize (w.alloc (.cells #[.string (bs nm), .int .i64 (N : Int), .slice A n c] 34)) = W2 at *
  clear B2 hsz
  have HS3 : ∀ W', Below W2.heap.size W2 W' → W'.cell? ⟨w.heap.size, 0, none⟩ = some (.string (bs nm)) ∧ W'.cell? ⟨w.heap.size, 1, none⟩ = some (.int .i64 (N : Int)) ∧ W'.cell? ⟨w.heap.size, 2, none⟩ = some (.slice A n c) := fun W' h => by
    obtain ⟨a0, a1, a2⟩ := HC.out _ h
    exact ⟨a0, a1, a2⟩
  have HHS := hid HS3
  clear HS3 HC
  obtain ⟨n0, n1, n2⟩ := HHS.out _ (Below.refl W2.heap.size W2)
  go_region_held3 (fun w' => w'.cell? ⟨w.heap.size, 0, none⟩ = some (.string (bs nm)) ∧ w'.cell? ⟨w.heap.size, 1, none⟩ = some (.int .i64 (N : Int)) ∧ w'.cell? ⟨w.heap.size, 2, none⟩ = some (.slice A n c))
    (first | exact HHS.out _ (Below.refl _ _) | exact HHS.out _ (Below.refl _ _).drew | exact HHS.out _ Fa)
    (first | (go_at_call 47; refine (HR _).out.mono ?_; rintro e w' ⟨rfl, rfl⟩) | (go_at_call 73; refine (HU _ (R2.out.below (Below.refl W2.heap.size W2).drew)).out.mono ?_; rintro e wa ⟨va, rfl, oa, ba⟩; obtain ⟨Aa, ca', rfl, _, _, rda, _⟩ := own_shape oa; have Fa := (Below.refl W2.heap.size W2).drew.trans (ba.mono (Nat.le_refl _))))
  have HFa := hid Fa
  have RDa := hid rda
  have hwa := Fa.size
  clear oa ba rda Fa n0 n1 n2
  go_wp2_with fail
  skip
  go_loopg [4, 19] n (fun gk u v wr => ∃ k : Nat, k ≤ n ∧ gk = n - k ∧ v = .int .i64 k ∧ wr.ownsRow wa.heap.size 9 1 u (k * n) (strV (quotL (X.take k) X)) ∧ Below wa.heap.size wa wr)
  case atStart => exact ⟨0, by omega, by omega, rfl, by rw [quotL_zero, Nat.zero_mul]; exact World.ownsRow_nil _ _ _ _, Below.refl _ _⟩
  case round =>
    obtain ⟨k, hk, rfl, rfl, ho, hb⟩ := hrel
    by_cases hlt : k < n
    · obtain ⟨b', o', hAa, hj', hc⟩ := (RDa.out.below hb).str hlt
      subst hAa
      have hk0 : (0 : Int) ≤ (k : Int) := by omega
      have hk1 : (k : Int) < (n : Int) := by omega
      have rowk := hid (rows.out _ (List.getElem_mem hj'))
      have HSTEP := hid (quotL_step X X k hj')
      have HO := hid ho
      have HB := hid hb
      have hbs := hb.size
      have hkm := HKM.out k hk
      obtain ⟨r, hr⟩ : ∃ r, r = X[k] := ⟨_, rfl⟩
      rw [← hr] at hc rowk HSTEP
      clear ho hb hr
      obtain ⟨w1, hw1⟩ : ∃ w1, w1 = wr := ⟨_, rfl⟩
      subst hw1
      go_wp2_with fail
      skip
      go_loopg [4, 25] n (fun gk u v wr => ∃ j : Nat, j ≤ n ∧ gk = n - j ∧ v = .int .i64 j ∧ wr.ownsRow wa.heap.size 9 1 u (k * n + j) (strV (quotL (X.take k) X ++ (X.take j).map fun s => timesL r (turnL s))) ∧ Below wa.heap.size wa wr)
      case atStart => exact ⟨0, by omega, by omega, rfl, by simpa using HO.out, HB.out⟩
      case round =>
        obtain ⟨j, hj, rfl, rfl, ho, hb⟩ := hrel
        by_cases hlj : j < n
        · obtain ⟨b2, o2, e2, hj2, hc2⟩ := (RDa.out.below hb).str hlj
          injection e2 with e2
          injection e2 with f1 f2 _
          subst f1 f2
          have hj0 : (0 : Int) ≤ (j : Int) := by omega
          have hj1 : (j : Int) < (n : Int) := by omega
          have rowj := rows.out _ (List.getElem_mem hj2)
          have HMT := hid (map_take_step (fun s => timesL r (turnL s)) X j hj2)
          have HT := hid (fun w0 => l1Turn_any X[j] w0 rowj.1)
          have HTM := hid (fun w0 => l1Times_any r (turnL X[j]) w0 rowk.out.1 (turn_row rowj.1) (by rw [turn_len, rowj.2, rowk.out.2]))
          obtain ⟨Z, hZ⟩ : ∃ Z, Z = timesL r (turnL X[j]) := ⟨_, rfl⟩
          rw [← hZ] at HTM HMT
          have HO2 := hid ho
          have HB2' := hid hb
          have hbs2 := hb.size
          have hlim : k * n + j + 1 ≤ 1000000000000 := by omega
          clear ho hb hZ rowj
          go_wp2_with fail
          refine (HT.out _).mono ?_
          rintro e w2 ⟨rfl, c2⟩
          have HO3 := hid (own_below HO2.out c2)
          have HB3 := hid (HB2'.out.trans (c2.mono hbs2))
          have hbs3 := HB3.out.size
          clear c2
          go_wp2_with fail
          refine (HTM.out _).mono ?_
          rintro e w' ⟨rfl, rfl⟩
          go_wp2_with (at_builtin; refine app_str _ (by rfl) _ _ (by rfl) wa.heap.size _ _ _ (by rfl) (HO3.out.alloc _) (some ⟨w2.heap.size, 0, none⟩) 1 1 [Z] (by rfl) (Rd.blk _ [.string (bs Z)] _) hlim (by simp; omega) ?_; intro v5 w5 o5 g5)
          go_roundg (n - (j + 1))
          case measure => omega
          case rel =>
            rw [List.append_assoc, HMT.out] at o5
            exact ⟨j + 1, by omega, rfl, by go_num, o5, (HB3.out.alloc (by omega) _).grown g5 (by simp; omega) fun q hq => (HO3.out.lt q hq).1⟩
        · obtain rfl : j = n := by omega
          have e1 : (X.take j).map (fun s => timesL r (turnL s)) = X.map fun s => timesL r (turnL s) := by rw [List.take_of_length_le (by rw [LA.out]; omega)]
          rw [e1, HSTEP.out] at ho
          have HO2 := hid ho
          have HB2' := hid hb
          clear ho hb e1
          go_wp2
          go_roundg (j - (k + 1))
          case measure => omega
          case rel => exact ⟨k + 1, by omega, rfl, by go_num, by rw [Nat.succ_mul]; exact HO2.out, HB2'.out⟩
    · obtain rfl : k = n := by omega
      rw [List.take_of_length_le (by rw [LA.out]; omega)] at ho
      obtain ⟨A1, c1, rfl, _, _, rd1, _⟩ := own_shape ho
      have hkk := HKM.out k (Nat.le_refl _)
      have hql : (quotL X X).length = k * k := by rw [quotL_len, LA.out]
      have HB := hid (HFa.out.trans (hb.mono hwa))
      have HBs := HB.out.size
      clear hb ho
      go_wp2_with fail
      refine (l6Sort_any (k * k) A1 c1 (quotL X X) _ rd1 (by omega)).mono ?_
      rintro e w6 ⟨v1, rfl, o1, b1⟩
      obtain ⟨S, hS⟩ : ∃ S, S = sortL (quotL X X) := ⟨_, rfl⟩
      have HSET := hid (show setL (quotL X X) = ddTo S S.length by rw [hS]; rfl)
      rw [← hS] at o1
      have hSl : S.length = k * k := by rw [hS, sortL_len, hql]
      rw [hSl] at o1
      obtain ⟨q, hq⟩ : ∃ q, q = k * k := ⟨_, rfl⟩
      rw [← hq] at o1 hSl hkk
      obtain ⟨A2, c2, rfl, _, _, rd2, _⟩ := own_shape o1
      have HSl := hid hSl
      have RS2 := hid rd2
      have B1 := hid (HB.out.trans (b1.mono HBs))
      have B1s := B1.out.size
      clear hS rd1 o1 rd2 b1 hql hq HKM
      go_wp2
      skip
      go_loopg [9, 41] q (fun gk u v wr => ∃ j : Nat, j ≤ q ∧ gk = q - j ∧ v = .int .i64 j ∧ wr.ownsRow w6.heap.size 9 1 u (ddTo S j).length (strV (ddTo S j)) ∧ Below w6.heap.size w6 wr)
      case atStart => exact ⟨0, by omega, by omega, rfl, World.ownsRow_nil _ _ _ _, Below.refl _ _⟩
      case round =>
        obtain ⟨j, hj, rfl, rfl, oj, bj⟩ := hrel
        by_cases hjk : j < q
        · obtain ⟨b, o, rfl, hj', hc⟩ := (RS2.out.below bj).str hjk
          have hk0 : (0 : Int) ≤ (j : Int) := by omega
          have hk1 : (j : Int) < (q : Int) := by omega
          have BJ := hid bj
          have BJs := bj.size
          have OJ := hid oj
          have hdl := ddTo_len S j
          clear bj
          rcases j with _ | j
          · have hd := hid (ddTo_first S (by omega))
            have hc0 : wr.cell? ⟨b, o, none⟩ = some (.string (bs S[0])) := hc
            clear hc
            obtain ⟨A3, c3, rfl, _, _, rd3, _⟩ := own_shape oj
            have h00 : (ddTo S 0).length = 0 := by omega
            rw [h00] at OJ ⊢
            clear oj rd3 hdl
            have h00 := hid h00
            go_wp2_with (at_builtin; refine app_str _ (by rfl) _ _ (by rfl) w6.heap.size _ _ _ (by rfl) (OJ.out.alloc _) (some ⟨wr.heap.size, 0, none⟩) 1 1 [S[0]] (by rfl) (Rd.blk _ [.string (bs S[0])] _) (by omega) (by simp; omega) ?_; intro v5 w5 o5 g5)
            go_roundg (q - (0 + 1))
            case measure => omega
            case rel =>
              rw [← hd.out] at o5
              have e1 : (ddTo S (0 + 1)).length = 0 + 1 := by
                have := congrArg List.length hd.out
                rw [List.length_append, h00.out] at this
                exact this
              exact ⟨0 + 1, by omega, rfl, by go_num, by rw [e1]; exact o5, (BJ.out.alloc (by omega) _).grown g5 (by simp; omega) fun q' hq => (OJ.out.lt q' hq).1⟩
          · obtain ⟨m, hm⟩ : ∃ m, (ddTo S (j + 1)).length = m + 1 := ⟨(ddTo S (j + 1)).length - 1, by have := ddTo_pos S j (by omega); omega⟩
            have hlast : (ddTo S (j + 1))[m]? = some S[j] := by
              have := ddTo_last S j (by omega)
              rw [List.getLast?_eq_getElem?, hm, Nat.add_sub_cancel, List.getElem?_eq_getElem (show j < S.length by omega)] at this
              exact this
            rw [hm] at oj hdl
            have hm8 : m ≤ 1000000 := by omega
            have hm9 := hid hm8
            have hm10 := hid (show m + 1 + 1 ≤ 1000000000000 by omega)
            clear hm8
            obtain ⟨A3, c3, rfl, _, _, rd3, _⟩ := own_shape oj
            obtain ⟨b3, o3, rfl, hm', hc3⟩ := rd3.str (Nat.lt_succ_self m)
            rw [List.getElem?_eq_getElem hm'] at hlast
            injection hlast with hlast
            rw [hlast] at hc3
            have hmi : (((m : Int) + 1) == 0) = false := by simp; omega
            have hm0 : (0 : Int) ≤ (m : Int) := by omega
            have hm1 : (m : Int) < (m : Int) + 1 := by omega
            have hw := IntWalk.i64_in ((m : Int) + 1 - 1) (by omega)
            have hw1 : wrap64 (m : Int) = (m : Int) := by unfold wrap64; omega
            have HM := hid hm
            have Hlen := hid hdl
            rw [hm] at OJ
            clear oj rd3 hlast hm hdl
            by_cases he : S[j + 1] = S[j]
            · have hd := hid (ddTo_skip S j (by omega) he)
              have heq : (S[j] == S[j + 1]) = true := by simp [he]
              clear he
              go_wp2
              go_roundg (q - (j + 1 + 1))
              case measure => omega
              case rel =>
                exact ⟨j + 1 + 1, by omega, rfl, by go_num, by rw [hd.out, HM.out]; exact OJ.out, BJ.out⟩
            · have hd := hid (ddTo_take S j (by omega) he)
              have heq : (S[j] == S[j + 1]) = false := by simp; exact fun h => he h.symm
              clear he
              go_wp2_with (at_builtin; refine app_str _ (by rfl) _ _ (by rfl) w6.heap.size _ _ _ (by rfl) (OJ.out.alloc _) (some ⟨wr.heap.size, 0, none⟩) 1 1 [S[j + 1]] (by rfl) (Rd.blk _ [.string (bs S[j + 1])] _) (by exact hm10.out) (by simp; exact Nat.le_succ_of_le BJs) ?_; intro v5 w5 o5 g5)
              go_roundg (q - (j + 1 + 1))
              case measure => omega
              case rel =>
                rw [← hd.out] at o5
                have e1 : (ddTo S (j + 1 + 1)).length = m + 1 + 1 := by
                  have := congrArg List.length hd.out
                  rw [List.length_append, HM.out] at this
                  exact this
                exact ⟨j + 1 + 1, by omega, rfl, by go_num, by rw [e1]; exact o5, (BJ.out.alloc (by omega) _).grown g5 (by simp; omega) fun q' hq => (OJ.out.lt q' hq).1⟩
        · obtain rfl : j = q := by omega
          go_wp2
          go_ret
          have HEQ : setL (quotL X X) = ddTo S j := by rw [HSET.out, HSl.out]
          rw [HEQ]
          exact ⟨u9, rfl, own_mono (base := w6.heap.size) oj (Nat.le_trans hw2 B1s), HB2.out.trans ((B1.out.trans (bj.mono B1s)).mono hw2)⟩
end Go.Proofs.Ytnkpbahapaocbaa

set_option linter.unusedVariables false
set_option linter.unusedSimpArgs false
set_option maxRecDepth 100000
namespace Go.Proofs.Ytnkpbahapaocbaa
open Go.RowKit

set_option maxHeartbeats 2000000 in
theorem l11Clashes_any (N : Nat) (nm : List UInt8) (ca hs : List (List UInt8)) (A B : Option Addr) (n c m d : Nat) (w : World) (lo : 3 ≤ N) (hi : N ≤ 8) (hra : Rd w A n (strV ca)) (hrb : Rd w B m (strV hs)) (hn : n ≤ 1000) (hm : m ≤ 1000) (hsa : ∀ x ∈ ca, okChange (N : Int) x = true) (hh : ∀ x ∈ hs, IsRow x ∧ x.length = N) :
    Calls Try.prog 74 #[.agg #[.string (bs nm), .int .i64 N, .slice A n c], .slice B m d] w (SlicesN w (clashTo (quotL (leadL (roundsL N) ca) (leadL (roundsL N) ca)) hs m).length) := by
  have HF := fun (w0 : World) (rd : Rd w0 A n (strV ca)) => hid (l11Heads_any N nm ca A n c w0 lo hi rd hn hsa)
  have hla : (leadL (roundsL N) ca).length = n := by have := hra.1; rw [strV_len] at this; rw [lead_len, this]
  have hfl := setL_len (quotL (leadL (roundsL N) ca) (leadL (roundsL N) ca))
  rw [quotL_len, hla] at hfl
  have hnn : n * n ≤ 1000000 := Nat.le_trans (Nat.mul_le_mul hn hn) (by omega)
  have hl := hid (show hs.length = m by have := hrb.1; rw [strV_len] at this; exact this)
  have HH := hid hh
  have RA := hid hra
  have RB := hid hrb
  clear hra hrb hsa hh
  rw [← clashTo_set]
  generalize setL (quotL (leadL (roundsL N) ca) (leadL (roundsL N) ca)) = F at *
  have HFL := hid (show F.length ≤ 1048576 by omega)
  clear hla hfl hnn
  go_enter Try.func74, Try.ntmps74
  go_wp2_with fail
  obtain ⟨B2, hsz, HC⟩ := box_mk1 34 w nm (N : Int) (.slice A n c)
  have R2 := hid (RA.out.below B2)
  have RB2 := hid (RB.out.below B2)
  have HB2 := hid B2
  have hw2 := B2.size
  generalize (w.alloc (.cells #[.string (bs nm), .int .i64 (N : Int), .slice A n c] 34)) = W2 at *
  clear hsz HC B2
  refine (HF _ R2.out).out.mono ?_
  rintro e w1 ⟨vF, rfl, oF, b1⟩
  obtain ⟨AF, cF, rfl, _, _, rdF, _⟩ := own_shape oF
  have HB1 := hid b1
  have HS := hid rdF
  have RB1 := hid (RB2.out.below b1)
  have hw1 := b1.size
  clear b1 oF rdF
  go_wp2_with fail
  have HKM := hid (show ∀ k, k ≤ m → k * m ≤ 1000000 from fun k hk => Nat.le_trans (Nat.mul_le_mul (Nat.le_trans hk hm) hm) (by omega))
  skip
  go_loopg [6, 13] m (fun gk u v wr => ∃ (i : Nat) (xs : List Value), i ≤ m ∧ gk = m - i ∧ v = .int .i64 i ∧ wr.ownsRow w1.heap.size 106 1 u (clashTo F hs i).length xs ∧ Below w1.heap.size w1 wr)
  case atStart => exact ⟨0, [], by omega, by omega, rfl, World.ownsRow_nil _ _ _ _, Below.refl _ _⟩
  case round =>
    obtain ⟨i, xs, hi', rfl, rfl, ho, hb⟩ := hrel
    by_cases hlt : i < m
    · obtain ⟨b', o', hB, hj', hc⟩ := (RB1.out.below hb).str hlt
      have rowi := hid (HH.out _ (List.getElem_mem hj'))
      have hk0 : (0 : Int) ≤ (i : Int) := by omega
      have hk1 : (i : Int) < (m : Int) := by omega
      subst hB
      have HST := hid (clashTo_step F hs i)
      have HO := hid ho
      have HB := hid hb
      have hbs := hb.size
      obtain ⟨w2, hw2'⟩ : ∃ w2, w2 = wr := ⟨_, rfl⟩
      subst hw2'
      clear ho hb
      go_wp2_with fail
      have HT := hid (fun w0 => l1Turn_any hs[i] w0 rowi.out.1)
      have hkm := HKM.out i hi'
      have hcl := clashTo_len F hs i
      rw [hl.out] at hcl
      skip
      go_loopg [6, 8] (m - (i + 1)) (fun gk u v wr => ∃ (k : Nat) (ys : List Value), i < k ∧ k ≤ m ∧ gk = m - k ∧ v = .int .i64 k ∧ wr.ownsRow w1.heap.size 106 1 u (clashTo F hs i ++ clashRow F hs i k).length ys ∧ Below w1.heap.size w1 wr)
      case atStart => exact ⟨i + 1, xs, by omega, by omega, rfl, by go_num, by rw [clashRow_zero, List.append_nil]; exact HO.out, HB.out⟩
      case round =>
        obtain ⟨k, ys, hik, hk', rfl, rfl, ho, hb⟩ := hrel
        by_cases hltk : k < m
        · obtain ⟨b3, o3, hB3, hjk, hck⟩ := (RB1.out.below hb).str hltk
          injection hB3 with hB3
          injection hB3 with f1 f2 _
          subst f1 f2
          obtain ⟨b4, o4, hB4, _, hci⟩ := (RB1.out.below hb).str hlt
          injection hB4 with hB4
          injection hB4 with f3 f4 _
          subst f3 f4
          have rowk := hid (HH.out _ (List.getElem_mem hjk))
          have hkk0 : (0 : Int) ≤ (k : Int) := by omega
          have hkk1 : (k : Int) < (m : Int) := by omega
          have HTM := hid (fun w0 => l1Times_any (turnL hs[i]) hs[k] w0 (turn_row rowi.out.1) rowk.out.1 (by rw [turn_len, rowi.out.2, rowk.out.2]))
          have hcA : memB (timesL (turnL hs[i]) hs[k]) F = clashAt F hs i k := by unfold clashAt; simp [List.getD, hj', hjk]
          obtain ⟨Z, hZ⟩ : ∃ Z, Z = timesL (turnL hs[i]) hs[k] := ⟨_, rfl⟩
          have hzl : Z.length ≤ 1048576 := by rw [hZ, times_len, rowk.out.2]; omega
          rw [← hZ] at HTM hcA
          have HCA := hid hcA
          have HO2 := hid ho
          have HB2' := hid hb
          have hbs2 := hb.size
          have hrl := clashRow_len F hs i k
          have HSr := hid (HS.out.below hb)
          have HHas := hid (fun w0 rd0 => l1HasS_any AF F.length cF F Z w0 rd0 HFL.out)
          have HC9 := hid (show ∀ W', Below wr.heap.size wr W' → W'.cell? ⟨b', o' + k, none⟩ = some (.string (bs hs[k])) ∧ W'.cell? ⟨b', o' + i, none⟩ = some (.string (bs hs[i])) from fun W' h => ⟨(h.cell (p := ⟨b', o' + k, none⟩) (World.block_lt_of_cell? wr _ hck)).trans hck, (h.cell (p := ⟨b', o' + i, none⟩) (World.block_lt_of_cell? wr _ hci)).trans hci⟩)
          clear ho hb hZ hcA
          go_wp2_with fail
          go_region_held3 (fun w' => w'.cell? ⟨b', o' + k, none⟩ = some (.string (bs hs[k])) ∧ w'.cell? ⟨b', o' + i, none⟩ = some (.string (bs hs[i])))
            (first | exact HC9.out _ (Below.refl _ _) | exact HC9.out _ (Below.refl _ _).drew | exact HC9.out _ Fa)
            (first | (go_at_call 67; refine (HT.out _).mono ?_; rintro e wa ⟨rfl, ba⟩; have Fa := (Below.refl wr.heap.size wr).drew.trans (ba.mono (Nat.le_refl _))) | (go_at_call 66; refine (HTM.out _).mono ?_; rintro e w' ⟨rfl, rfl⟩) | (go_at_call 89; refine (HHas.out _ (HSr.out.below Fa)).mono ?_; rintro e w' ⟨rfl, rfl⟩))
          have HOb := hid (own_below HO2.out Fa)
          have HBb := hid (HB2'.out.trans (Fa.mono hbs2))
          have hbb := HBb.out.size
          clear ba Fa
          cases hm' : memB Z F
          · have HN := hid (clashRow_no F hs (k := k) (i := i) (HCA.out.symm.trans hm'))
            clear hm'
            go_wp2
            go_roundg (m - (k + 1))
            case measure => omega
            case rel => exact ⟨k + 1, ys, by omega, by omega, rfl, by go_num, by rw [← HN.out]; exact HOb.out, HBb.out⟩
          · have HY := hid (clashRow_yes F hs hik (HCA.out.symm.trans hm'))
            have HLN := hid (show (clashTo F hs i ++ clashRow F hs i k).length + 1 = (clashTo F hs i ++ clashRow F hs i (k + 1)).length by rw [← HY.out, ← List.append_assoc, List.length_append (bs := [(i, k)])]; rfl)
            have hll : (clashTo F hs i ++ clashRow F hs i k).length ≤ 2000000 := by rw [List.length_append]; omega
            obtain ⟨L, hL⟩ : ∃ L, L = (clashTo F hs i ++ clashRow F hs i k).length := ⟨_, rfl⟩
            rw [← hL] at HOb HLN hll
            have hlim : L + 1 ≤ 1000000000 := by omega
            clear hm' hL
            go_wp2_with (at_builtin; refine app_sl _ (by rfl) _ _ (by rfl) w1.heap.size _ _ _ (by rfl) ((HOb.out.alloc _).alloc _) (some ⟨wa.heap.size + 1, 0, none⟩) 1 1 [.slice (some ⟨wa.heap.size, 0, none⟩) 2 2] (by rfl) (by have := Rd.blk (wa.alloc (.cells #[.int .i64 i, .int .i64 k] 3)) [.slice (some ⟨wa.heap.size, 0, none⟩) 2 2] 106; simpa using this) (by intro u hu; simp at hu; subst hu; rfl) hlim (by simp; omega) ?_; intro v5 w5 o5 g5)
            go_roundg (m - (k + 1))
            case measure => omega
            case rel =>
              rw [HLN.out] at o5
              exact ⟨k + 1, _, by omega, by omega, rfl, by go_num, o5, ((HBb.out.alloc (by omega) _).alloc (by simp; omega) _).grown g5 (by simp; omega) fun q hq => (HOb.out.lt q hq).1⟩
        · obtain rfl : k = m := by omega
          have HO2 := hid ho
          have HB2' := hid hb
          clear ho hb
          go_wp2
          go_roundg (k - (i + 1))
          case measure => omega
          case rel => exact ⟨i + 1, ys, by omega, rfl, by go_num, by rw [← HST.out, hl.out]; exact HO2.out, HB2'.out⟩
    · obtain rfl : i = m := by omega
      have HO := hid ho
      clear ho
      go_wp2
      go_ret
      exact ⟨_, xs, rfl, own_mono HO.out (Nat.le_trans hw2 hw1), HB2.out.trans ((HB1.out.trans (hb.mono hw1)).mono hw2)⟩
end Go.Proofs.Ytnkpbahapaocbaa

set_option linter.unusedVariables false
set_option linter.unusedSimpArgs false
set_option maxRecDepth 100000
namespace Go.Proofs.Ytnkpbahapaocbaa
open Go.RowKit

theorem heads_take_rows2 {N : Nat} (lo : 3 ≤ N) (hi : N ≤ 8) (cs : List (List UInt8)) (k : List UInt8 × List UInt8) (t : List UInt8) (j q : Nat) : ∀ x ∈ (headsTo N cs k t j).take q, IsRow x ∧ x.length = N := heads_take_rows' lo hi cs k t j q
set_option maxHeartbeats 2000000 in
theorem l11True_any (N : Nat) (nm t : List UInt8) (ch : List (List UInt8)) (k : List UInt8 × List UInt8) (A : Option Addr) (n c : Nat) (w : World) (lo : 3 ≤ N) (hi : N ≤ 8) (hr : Rd w A n (strV ch)) (hn : n ≤ 1000) (hcap : n ≤ c) (l1 : 1 ≤ ch.length) (hs : ∀ x ∈ ch, okChange (N : Int) x = true) (hb1 : okChange (N : Int) k.1 = true) (hb2 : okChange (N : Int) k.2 = true) (ht : t.length ≤ 1000) :
    Calls Try.prog 48 #[.agg #[.string (bs nm), .int .i64 N, .slice A n c], .agg #[.string (bs k.1), .string (bs k.2)], .string (bs t)] w fun e w' => e = .returned (.bool (trueB (leadL (roundsL N) ch) && decide (clashN N ch k t = 0))) ∧ Below w.heap.size w w' := by
  have HR := fun w0 => hid (l1Rounds_any N w0 hi)
  have HL := fun (w0 : World) (rd : Rd w0 A n (strV ch)) => hid (l11Lead_any N nm (roundsL N) (N : Int) ch A n c w0 (rounds_row lo hi) (rounds_len N) rd (by omega) hs)
  have hcl : ch.length = n := by have := hr.1; rw [strV_len] at this; exact this
  have hll := hid (show (leadL (roundsL N) ch).length ≤ 1048576 by rw [lead_len, hcl]; omega)
  have HT := fun (w0 : World) A1 n1 c1 (rd : Rd w0 A1 n1 (strV (leadL (roundsL N) ch))) (h1 : n1 ≤ 1048576) => hid (l7True_any A1 n1 c1 (leadL (roundsL N) ch) w0 rd h1)
  have HH := fun (w0 : World) (rd : Rd w0 A n (strV ch)) => hid (l9Heads_any N nm t ch k A n c w0 lo hi rd (by omega) hcap l1 hs hb1 hb2 ht)
  have HC2 := fun B d (w0 : World) (rd : Rd w0 A n (strV ch)) (rb : Rd w0 B t.length (strV ((headsTo N ch k t t.length).take t.length))) => hid (l11Clashes_any N nm ch ((headsTo N ch k t t.length).take t.length) A B n c t.length d w0 lo hi rd rb hn ht hs (heads_take_rows2 lo hi ch k t _ _))
  have HCN := hid (show clashN N ch k t = (clashTo (quotL (leadL (roundsL N) ch) (leadL (roundsL N) ch)) ((headsTo N ch k t t.length).take t.length) t.length).length from rfl)
  have hTR := hid (show trueB (leadL (roundsL N) ch) = trueB (leadL (roundsL N) ch) from rfl)
  have RS := hid hr
  obtain ⟨k1, k2⟩ := k
  clear hr hs hb1 hb2 hcl hTR
  rw [HCN.out]
  generalize (clashTo (quotL (leadL (roundsL N) ch) (leadL (roundsL N) ch)) ((headsTo N ch (k1, k2) t t.length).take t.length) t.length).length = q at *
  clear HCN
  have i0 : (0 : Int) ≤ (t.length : Int) := Int.natCast_nonneg _
  generalize trueB (leadL (roundsL N) ch) = P0 at *
  generalize leadL (roundsL N) ch = X at *
  go_enter Try.func48, Try.ntmps48
  go_wp2_with fail
  obtain ⟨B2, hsz, HC⟩ := box_mk w nm k1 k2 (N : Int) (.slice A n c)
  have R2 := hid (RS.out.below B2)
  have HB2 := hid B2
  have hw2 := B2.size
  generalize ((w.alloc (.cells #[.string (bs nm), .int .i64 (N : Int), .slice A n c] 34)).alloc (.cells #[.string (bs k1), .string (bs k2)] 36)) = W2 at *
  clear B2 hsz
  have HS5 : ∀ W', Below W2.heap.size W2 W' → W'.cell? ⟨w.heap.size, 0, none⟩ = some (.string (bs nm)) ∧ W'.cell? ⟨w.heap.size, 1, none⟩ = some (.int .i64 (N : Int)) ∧ W'.cell? ⟨w.heap.size, 2, none⟩ = some (.slice A n c) ∧ W'.cell? ⟨w.heap.size + 1, 0, none⟩ = some (.string (bs k1)) ∧ W'.cell? ⟨w.heap.size + 1, 1, none⟩ = some (.string (bs k2)) := fun W' h => by
    obtain ⟨⟨a0, a1, a2⟩, a3, a4⟩ := HC.out _ h
    exact ⟨a0, a1, a2, a3, a4⟩
  have HHS5 := hid HS5
  clear HS5 HC
  have E2 : Hid (Below W2.heap.size W2 W2) := hid (Below.refl _ _)
  cases P0
  · obtain ⟨n0, n1, n2, p0, p1⟩ := HHS5.out _ E2.out
    refine wp_region_held_drew (S := fun w' => w'.cell? ⟨w.heap.size, 0, none⟩ = some (.string (bs nm)) ∧ w'.cell? ⟨w.heap.size, 1, none⟩ = some (.int .i64 (N : Int)) ∧ w'.cell? ⟨w.heap.size, 2, none⟩ = some (.slice A n c) ∧ w'.cell? ⟨w.heap.size + 1, 0, none⟩ = some (.string (bs k1)) ∧ w'.cell? ⟨w.heap.size + 1, 1, none⟩ = some (.string (bs k2))) (by kernel_rfl) (HHS5.out _ E2.out.drew) (fun hHeld => ?_)
    refine wpAnyH_take (i := 0) (v := ?_) rfl (by kernel_rfl) (by kernel_rfl) (by kernel_rfl) (fun _ _ _ h => h) (Or.inl ⟨by rfl, ?_⟩) (by assumption) ?_
    rotate_left
    · (intro w hSw; (try dsimp only at hSw); go_simp; with_reducible rfl)
    try simp only [Act.put, List.setIfInBounds_toArray, List.set_cons_zero, List.set_cons_succ]
    refine wpAnyH_take (i := 1) (v := ?_) rfl (by kernel_rfl) (by kernel_rfl) (by kernel_rfl) (fun _ _ _ h => h) (Or.inl ⟨by rfl, ?_⟩) (by assumption) ?_
    rotate_left
    · (intro w hSw; (try dsimp only at hSw); go_simp; with_reducible rfl)
    try simp only [Act.put, List.setIfInBounds_toArray, List.set_cons_zero, List.set_cons_succ]
    refine wpAnyH_take (i := 2) (v := ?_) rfl (by kernel_rfl) (by kernel_rfl) (by kernel_rfl) (fun _ _ _ h => h) (Or.inl ⟨by rfl, ?_⟩) (by assumption) ?_
    rotate_left
    · (intro w hSw; (try dsimp only at hSw); go_simp; with_reducible rfl)
    try simp only [Act.put, List.setIfInBounds_toArray, List.set_cons_zero, List.set_cons_succ]
    refine wpAnyH_ready (rs := [3]) (by kernel_rfl) (by simp) ?_
    refine AllReadyH.cons rfl (fun K hK => ?_) AllReadyH.nil
    go_simp
    go_at_call 47
    refine ((HR _).out).mono ?_
    rintro e w' ⟨rfl, rfl⟩
    go_wp2_with fail
    refine hK.out _ _ (HHS5.out _ E2.out.drew) (fun hHx => ?_)
    clear hHx hK K hHeld
    try simp only [Act.put, List.setIfInBounds_toArray, List.set_cons_zero, List.set_cons_succ]
    refine wpAnyH_ready (rs := [4]) (by kernel_rfl) (by simp) ?_
    refine AllReadyH.cons rfl (fun K hK => ?_) AllReadyH.nil
    go_simp
    go_at_call 73
    refine ((HL _ (R2.out.below E2.out.drew)).out).mono ?_
    rintro e wa ⟨va, rfl, oa, ba⟩
    obtain ⟨Aa, ca, rfl, _, _, rda, _⟩ := own_shape oa
    have Fa := E2.out.drew.trans (ba.mono E2.out.size)
    go_wp2_with fail
    refine hK.out _ _ (HHS5.out _ Fa) (fun hHx => ?_)
    clear hHx hK K
    try simp only [Act.put, List.setIfInBounds_toArray, List.set_cons_zero, List.set_cons_succ]
    refine wpAnyH_ready (rs := [5]) (by kernel_rfl) (by simp) ?_
    refine AllReadyH.cons rfl (fun K hK => ?_) AllReadyH.nil
    go_simp
    go_at_call 72
    refine ((HT _ _ _ _ rda hll.out).out).mono ?_
    rintro e wb ⟨rfl, bb⟩
    have Fb := Fa.trans (bb.mono Fa.size)
    go_wp2_with fail
    refine hK.out _ _ (HHS5.out _ Fb) (fun hHx => ?_)
    clear hHx hK K
    try simp only [Act.put, List.setIfInBounds_toArray, List.set_cons_zero, List.set_cons_succ]
    refine wpAnyH_take (i := 6) (v := ?_) rfl (by kernel_rfl) (by kernel_rfl) (by kernel_rfl) (fun _ _ _ h => h) (Or.inl ⟨by rfl, ?_⟩) (HHS5.out _ Fb) ?_
    rotate_left
    · (intro w hSw; (try dsimp only at hSw); go_simp; with_reducible rfl)
    try simp only [Act.put, List.setIfInBounds_toArray, List.set_cons_zero, List.set_cons_succ]
    refine wpAnyH_pass (i := 7) (d := some 14) (by kernel_rfl) (by kernel_rfl) (by kernel_rfl) (by kernel_rfl) (fun _ _ _ _ h => h) (by kernel_rfl) (HHS5.out _ Fb) ?_
    try simp only [Act.put, List.setIfInBounds_toArray, List.set_cons_zero, List.set_cons_succ]
    refine wpAnyH_pass (i := 8) (d := some 15) (by kernel_rfl) (by kernel_rfl) (by kernel_rfl) (by kernel_rfl) (fun _ _ _ _ h => h) (by kernel_rfl) (HHS5.out _ Fb) ?_
    try simp only [Act.put, List.setIfInBounds_toArray, List.set_cons_zero, List.set_cons_succ]
    refine wpAnyH_pass (i := 9) (d := some 16) (by kernel_rfl) (by kernel_rfl) (by kernel_rfl) (by kernel_rfl) (fun _ _ _ _ h => h) (by kernel_rfl) (HHS5.out _ Fb) ?_
    try simp only [Act.put, List.setIfInBounds_toArray, List.set_cons_zero, List.set_cons_succ]
    refine wpAnyH_pass (i := 10) (d := some 17) (by kernel_rfl) (by kernel_rfl) (by kernel_rfl) (by kernel_rfl) (fun _ _ _ _ h => h) (by kernel_rfl) (HHS5.out _ Fb) ?_
    try simp only [Act.put, List.setIfInBounds_toArray, List.set_cons_zero, List.set_cons_succ]
    refine wpAnyH_pass (i := 11) (d := some 18) (by kernel_rfl) (by kernel_rfl) (by kernel_rfl) (by kernel_rfl) (fun _ _ _ _ h => h) (by kernel_rfl) (HHS5.out _ Fb) ?_
    try simp only [Act.put, List.setIfInBounds_toArray, List.set_cons_zero, List.set_cons_succ]
    refine wpAnyH_pass (i := 12) (d := some 19) (by kernel_rfl) (by kernel_rfl) (by kernel_rfl) (by kernel_rfl) (fun _ _ _ _ h => h) (by kernel_rfl) (HHS5.out _ Fb) ?_
    try simp only [Act.put, List.setIfInBounds_toArray, List.set_cons_zero, List.set_cons_succ]
    refine wpAnyH_pass (i := 13) (d := some 20) (by kernel_rfl) (by kernel_rfl) (by kernel_rfl) (by kernel_rfl) (fun _ _ _ _ h => h) (by kernel_rfl) (HHS5.out _ Fb) ?_
    try simp only [Act.put, List.setIfInBounds_toArray, List.set_cons_zero, List.set_cons_succ]
    refine wpAnyH_pass (i := 14) (d := some 21) (by kernel_rfl) (by kernel_rfl) (by kernel_rfl) (by kernel_rfl) (fun _ _ _ _ h => h) (by kernel_rfl) (HHS5.out _ Fb) ?_
    try simp only [Act.put, List.setIfInBounds_toArray, List.set_cons_zero, List.set_cons_succ]
    refine wpAnyH_pass (i := 15) (d := some 22) (by kernel_rfl) (by kernel_rfl) (by kernel_rfl) (by kernel_rfl) (fun _ _ _ _ h => h) (by kernel_rfl) (HHS5.out _ Fb) ?_
    try simp only [Act.put, List.setIfInBounds_toArray, List.set_cons_zero, List.set_cons_succ]
    refine wpAnyH_pass (i := 16) (d := some 23) (by kernel_rfl) (by kernel_rfl) (by kernel_rfl) (by kernel_rfl) (fun _ _ _ _ h => h) (by kernel_rfl) (HHS5.out _ Fb) ?_
    try simp only [Act.put, List.setIfInBounds_toArray, List.set_cons_zero, List.set_cons_succ]
    refine wpAnyH_pass (i := 17) (d := some 24) (by kernel_rfl) (by kernel_rfl) (by kernel_rfl) (by kernel_rfl) (fun _ _ _ _ h => h) (by kernel_rfl) (HHS5.out _ Fb) ?_
    try simp only [Act.put, List.setIfInBounds_toArray, List.set_cons_zero, List.set_cons_succ]
    refine wpAnyH_ready (rs := [18]) (by kernel_rfl) (by simp) ?_
    refine AllReadyH.cons rfl (fun K hK => ?_) AllReadyH.nil
    go_simp
    refine hK.out _ _ (HHS5.out _ Fb) (fun hHx => ?_)
    clear hHx hK K
    try simp only [Act.put, List.setIfInBounds_toArray, List.set_cons_zero, List.set_cons_succ]
    refine wpAnyH_ready (rs := [19]) (by kernel_rfl) (by simp) ?_
    refine AllReadyH.cons rfl (fun K hK => ?_) AllReadyH.nil
    go_simp
    refine hK.out _ _ (HHS5.out _ Fb) (fun hHx => ?_)
    clear hHx hK K
    try simp only [Act.put, List.setIfInBounds_toArray, List.set_cons_zero, List.set_cons_succ]
    refine wpAnyH_done (by kernel_rfl) ?_ _
    have HFb := hid Fb
    clear oa ba rda bb Fa Fb n0 n1 n2 p0 p1
    go_wp2
    go_ret
    exact ⟨ret_bool (by simp), HB2.out.trans (HFb.out.mono hw2)⟩
  · obtain ⟨n0, n1, n2, p0, p1⟩ := HHS5.out _ E2.out
    go_region_held3 (fun w' => w'.cell? ⟨w.heap.size, 0, none⟩ = some (.string (bs nm)) ∧ w'.cell? ⟨w.heap.size, 1, none⟩ = some (.int .i64 (N : Int)) ∧ w'.cell? ⟨w.heap.size, 2, none⟩ = some (.slice A n c) ∧ w'.cell? ⟨w.heap.size + 1, 0, none⟩ = some (.string (bs k1)) ∧ w'.cell? ⟨w.heap.size + 1, 1, none⟩ = some (.string (bs k2)))
      (first | exact HHS5.out _ (Below.refl _ _) | exact HHS5.out _ (Below.refl _ _).drew | exact HHS5.out _ Fa | exact HHS5.out _ Fb | exact HHS5.out _ Fc | exact HHS5.out _ Fd)
      (first | (go_at_call 47; refine (HR _).out.mono ?_; rintro e w' ⟨rfl, rfl⟩) | (go_at_call 73; refine (HL _ (R2.out.below (Below.refl W2.heap.size W2).drew)).out.mono ?_; rintro e wa ⟨va, rfl, oa, ba⟩; obtain ⟨Aa, ca, rfl, _, _, rda, _⟩ := own_shape oa; have Fa := (Below.refl W2.heap.size W2).drew.trans (ba.mono (Nat.le_refl _))) | (go_at_call 72; refine (HT _ _ _ _ rda hll.out).out.mono ?_; rintro e wb ⟨rfl, bb⟩; have Fb := Fa.trans (bb.mono Fa.size)) | (go_at_call 71; refine (HH _ (R2.out.below Fb)).out.mono ?_; rintro e wc ⟨vc, rfl, oc, bc⟩; obtain ⟨Ac, cc, rfl, hcc, _, rdc, _⟩ := own_shape oc; have j2 := Int.ofNat_le.2 (Nat.le_of_succ_le hcc); have Fc := Fb.trans (bc.mono Fb.size)) | (go_at_call 74; refine (HC2 _ _ _ (R2.out.below Fc) (rd_take' rdc (Nat.le_succ _))).out.mono ?_; rintro e wd ⟨vd, xd, rfl, od, bd⟩; have Fd := Fc.trans (bd.mono Fc.size); obtain ⟨Ad, cd, rfl, _, _, _, _⟩ := own_shape od))
    have HFd := hid Fd
    clear oa ba rda bb oc bc rdc od bd Fa Fb Fc Fd n0 n1 n2 p0 p1 j2
    go_wp2
    go_ret
    exact ⟨ret_bool (by rw [Bool.eq_iff_iff]; simp), HB2.out.trans (HFd.out.mono hw2)⟩
end Go.Proofs.Ytnkpbahapaocbaa
