/- Slices of slices of strings that a call owns; a world in which one block alone has changed. No conditions beyond those stated. -/
import Derived.Test.YtamcopnghjoboaaApp
import Derived.Test.YtamcopnghjoboaaStrs
set_option linter.unusedVariables false
set_option linter.unusedSimpArgs false
set_option maxRecDepth 100000
namespace Go.Proofs.Ytamcopnghjoboaa
open Go.RowKit

theorem infoSS : (Try.prog.info? 25).map (fun i => (i.zero, i.size, i.bytes)) = some (some (.slice none 0 0), 1, 24) := by kernel_rfl
/-- append onto an owned row of slices of strings, in a plain region, with what is known of the row's block afterwards. -/
theorem app_ss {ops : Array Oper} {rest : List Oper} {o : Oper} {a : Act} {Q : Exit → Act → World → Prop} (w : World) (hgd : o.guard = none) (s x : Operand)
    (ho : o.op = .call { callee := .builtin .append, args := #[s, x], argTypes := #[34, 34] })
    (base : Nat) (v : Value) (n : Nat) (xs : List Value) (hs : a.eval s = v) (hown : w.ownsRow base 25 1 v n xs)
    (A : Option Addr) (m c : Nat) (news : List Value) (hx : a.eval x = .slice A m c) (hr : Rd w A m news) (h1 : ∀ u ∈ news, u.oneCell' = true) (hsz : n + m ≤ 1000000000) (hbase : base ≤ w.heap.size)
    (h : ∀ v' w', w'.ownsRow base 25 1 v' (n + m) (xs ++ news) → w.grownBy w' v.ownBlock → (v'.ownBlock = v.ownBlock ∨ v'.ownBlock = some w.heap.size) → wpList Try.prog ops Q rest (a.put o.dst v') w') : wpList Try.prog ops Q (o :: rest) a w := by
  obtain ⟨i0, hi, hz0, hz1, hz2⟩ := info_parts infoSS
  exact wpList_plain hgd fun _ hK => wp_append_rd w s x 34 ho base 25 i0 _ 24 Try.underlying34 hi hz0 hz1 hz2 rfl v n xs hs hown A m c news hx hr h1 (by unfold maxLen; omega) (by omega) hbase fun v' w' h2 h3 h4 => hK _ _ (h v' w' h2 h3 h4)
/-- The value is a slice of strings that reads as l; its block is not q, nor older than base. -/
def InS (w : World) (base : Nat) (q : Option Nat) (v : Value) (l : List (List UInt8)) : Prop := ∃ B c, v = .slice B l.length c ∧ l.length ≤ c ∧ Rd w B l.length (strV l) ∧ ∀ b o s, B = some ⟨b, o, s⟩ → base ≤ b ∧ b < w.heap.size ∧ q ≠ some b
theorem InS.below {w w' : World} {base : Nat} {q : Option Nat} {v : Value} {l : List (List UInt8)} (h : InS w base q v l) (hb : Below w.heap.size w w') : InS w' base q v l := by
  obtain ⟨B, c, e, hc, hr, hf⟩ := h
  exact ⟨B, c, e, hc, hr.below hb, fun b o s h => ⟨(hf b o s h).1, Nat.lt_of_lt_of_le (hf b o s h).2.1 hb.size, (hf b o s h).2.2⟩⟩
theorem InS.grown {w w' : World} {base : Nat} {q : Option Nat} {v : Value} {l : List (List UInt8)} (h : InS w base q v l) (g : w.grownBy w' q) : InS w' base q v l := by
  obtain ⟨B, c, e, hc, hr, hf⟩ := h
  exact ⟨B, c, e, hc, hr.grown g (fun b o e2 e3 => (hf b o none e2).2.2 e3), fun b o s h => ⟨(hf b o s h).1, Nat.lt_of_lt_of_le (hf b o s h).2.1 g.size, (hf b o s h).2.2⟩⟩
theorem InS.other {w : World} {base : Nat} {q q' : Option Nat} {v : Value} {l : List (List UInt8)} (h : InS w base q v l) (hq : q' = q ∨ q' = some w.heap.size) : InS w base q' v l := by
  obtain ⟨B, c, e, hc, hr, hf⟩ := h
  refine ⟨B, c, e, hc, hr, fun b o s h => ⟨(hf b o s h).1, (hf b o s h).2.1, ?_⟩⟩
  rcases hq with rfl | rfl
  · exact (hf b o s h).2.2
  · intro e2
    injection e2 with e2
    have := (hf b o s h).2.1; omega
theorem InS.mono {w : World} {base base' : Nat} {q : Option Nat} {v : Value} {l : List (List UInt8)} (h : InS w base q v l) (hb : base' ≤ base) : InS w base' q v l := by
  obtain ⟨B, c, e, hc, hr, hf⟩ := h
  exact ⟨B, c, e, hc, hr, fun b o s h => ⟨Nat.le_trans hb (hf b o s h).1, (hf b o s h).2⟩⟩
/-- The slice v of slices is the call's own, and its elements read as LL. -/
def OwnInS (w : World) (base : Nat) (v : Value) (LL : List (List (List UInt8))) : Prop := ∃ vs : List Value, w.ownsRow base 25 1 v LL.length vs ∧ ∀ (i : Nat) (h1 : i < vs.length) (h2 : i < LL.length), InS w base v.ownBlock vs[i] LL[i]
theorem OwnInS.below {w w' : World} {base : Nat} {v : Value} {LL : List (List (List UInt8))} (h : OwnInS w base v LL) (hb : Below w.heap.size w w') : OwnInS w' base v LL := by
  obtain ⟨vs, h1, h2⟩ := h
  exact ⟨vs, own_below h1 hb, fun i i1 i2 => (h2 i i1 i2).below hb⟩
theorem OwnInS.mono {w : World} {base base' : Nat} {v : Value} {LL : List (List (List UInt8))} (h : OwnInS w base v LL) (hb : base' ≤ base) : OwnInS w base' v LL := by
  obtain ⟨vs, h1, h2⟩ := h
  exact ⟨vs, own_mono h1 hb, fun i i1 i2 => (h2 i i1 i2).mono hb⟩
theorem OwnInS.nil (w : World) (base : Nat) : OwnInS w base (.slice none 0 0) [] := ⟨[], World.ownsRow_nil _ _ _ _, fun i i1 _ => by simp at i1⟩
theorem OwnInS.app {W w5 : World} {base : Nat} {u v5 : Value} {LL NN : List (List (List UInt8))} {vs ns : List Value} (hl : vs.length = LL.length) (hn : ns.length = NN.length) (h2 : ∀ (i : Nat) (h1 : i < vs.length) (h2 : i < LL.length), InS W base u.ownBlock vs[i] LL[i])
    (h3 : ∀ (i : Nat) (h1 : i < ns.length) (h2 : i < NN.length), InS W base u.ownBlock ns[i] NN[i]) (o5 : w5.ownsRow base 25 1 v5 (LL.length + NN.length) (vs ++ ns)) (g5 : W.grownBy w5 u.ownBlock) (f5 : v5.ownBlock = u.ownBlock ∨ v5.ownBlock = some W.heap.size) : OwnInS w5 base v5 (LL ++ NN) := by
  refine ⟨vs ++ ns, by rw [List.length_append]; exact o5, fun i i1 i2 => ?_⟩
  rw [List.length_append] at i1 i2
  have key : ∀ v l, InS W base u.ownBlock v l → InS w5 base v5.ownBlock v l := fun v l h => by
    obtain ⟨B, c, e, hc, hr, hf⟩ := h.grown g5
    obtain ⟨B', c', e', hc', hr', hf'⟩ := h.other f5
    rw [e] at e'
    injection e' with e1 _ _
    subst e1
    exact ⟨B, c, e, hc, hr, fun b o s h => ⟨(hf b o s h).1, (hf b o s h).2.1, (hf' b o s h).2.2⟩⟩
  by_cases hi : i < vs.length
  · rw [List.getElem_append_left hi, List.getElem_append_left (show i < LL.length by omega)]
    exact key _ _ (h2 i hi (by omega))
  · rw [List.getElem_append_right (by omega), List.getElem_append_right (by omega)]
    simp only [hl]
    exact key _ _ (h3 (i - LL.length) (by omega) (by omega))
theorem InS.one {w w' : World} {base G : Nat} {q : Option Nat} {v : Value} {l : List (List UInt8)} (h : InS w base q v l) (g : w.grownBy w' (some G)) (hG : G < base) : InS w' base q v l := by
  obtain ⟨B, c, e, hc, hr, hf⟩ := h
  exact ⟨B, c, e, hc, hr.grown g (fun b o e2 e3 => by have h1 := (hf b o none e2).1; injection e3 with e3; omega), fun b o s h => ⟨(hf b o s h).1, Nat.lt_of_lt_of_le (hf b o s h).2.1 g.size, (hf b o s h).2.2⟩⟩
theorem OwnInS.one {w w' : World} {base G : Nat} {v : Value} {LL : List (List (List UInt8))} (h : OwnInS w base v LL) (g : w.grownBy w' (some G)) (hG : G < base) : OwnInS w' base v LL := by
  obtain ⟨vs, h1, h2⟩ := h
  exact ⟨vs, own_other h1 g (fun k hk e => by have h3 := (h1.lt k hk).1; injection e with e; omega), fun i i1 i2 => (h2 i i1 i2).one g hG⟩
theorem grown_one {w w' w2 : World} {G : Nat} (h1 : w.grownBy w' (some G)) (h2 : w'.grownBy w2 (some G)) : w.grownBy w2 (some G) :=
  ⟨h2.os.trans h1.os, h2.tape.trans h1.tape, h2.output.trans h1.output, Nat.le_trans h1.size h2.size, fun k hk hne => (h2.block k (Nat.lt_of_lt_of_le hk h1.size) hne).trans (h1.block k hk hne)⟩
theorem grown_of_below {w w' : World} {r : Option Nat} (h : Below w.heap.size w w') : w.grownBy w' r := ⟨h.os, h.tape, h.output, h.size, fun k hk _ => h.block k hk⟩
theorem below_of_one {w w' : World} {b G : Nat} (h : w.grownBy w' (some G)) (h1 : b ≤ G) (h2 : b ≤ w.heap.size) : Below b w w' := ⟨h.os, h.tape, h.output, h.size, fun k hk => h.block k (by omega) (by intro e; injection e with e; omega)⟩
/-- What another row's growth leaves of a world, seen from before the row was made. -/
theorem grown_new {w w1 w' : World} {G : Nat} {r : Option Nat} (h : w.grownBy w1 (some G)) (h2 : w1.grownBy w' r) (hr : ∀ k, r = some k → w.heap.size ≤ k) : w.grownBy w' (some G) :=
  ⟨h2.os.trans h.os, h2.tape.trans h.tape, h2.output.trans h.output, Nat.le_trans h.size h2.size, fun k hk hne => (h2.block k (Nat.lt_of_lt_of_le hk h.size) (fun e => by have := hr k e.symm; omega)).trans (h.block k hk hne)⟩
theorem grown_set {w w' : World} {G o : Nat} {v : Value} (h : w.grownBy w' (some G)) : w.grownBy (w'.setCell ⟨G, o, none⟩ v) (some G) :=
  ⟨h.os, h.tape, h.output, by simp [World.setCell]; exact h.size, fun k hk hne => (Below.heap_setCell w' ⟨G, o, none⟩ v k (by intro e; exact hne (by rw [e]))).trans (h.block k hk hne)⟩
theorem grown_refl (w : World) (r : Option Nat) : w.grownBy w r := ⟨rfl, rfl, rfl, Nat.le_refl _, fun _ _ _ => rfl⟩
end Go.Proofs.Ytamcopnghjoboaa
