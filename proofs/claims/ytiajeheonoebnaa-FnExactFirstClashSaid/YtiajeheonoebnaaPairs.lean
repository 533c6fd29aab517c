/- Slices of pairs of integers that a call owns: a block for each pair, none of them shared. No conditions beyond those stated. -/
import Derived.Test.YtiajeheonoebnaaApp
import Derived.Test.YtiajeheonoebnaaHelp2
set_option linter.unusedVariables false
set_option linter.unusedSimpArgs false
set_option maxRecDepth 100000
namespace Go.Proofs.Ytiajeheonoebnaa
open Go.RowKit

theorem infoSl2 : (Try.prog.info? 54).map (fun i => (i.zero, i.size, i.bytes)) = some (some (.slice none 0 0), 1, 24) := by kernel_rfl
/-- append onto an owned row of slices of integers, in a plain region, with what is known of the row's block afterwards. -/
theorem app_slB {ops : Array Oper} {rest : List Oper} {o : Oper} {a : Act} {Q : Exit → Act → World → Prop} (w : World) (hgd : o.guard = none) (s x : Operand)
    (ho : o.op = .call { callee := .builtin .append, args := #[s, x], argTypes := #[45, 45] })
    (base : Nat) (v : Value) (n : Nat) (xs : List Value) (hs : a.eval s = v) (hown : w.ownsRow base 54 1 v n xs)
    (A : Option Addr) (m c : Nat) (news : List Value) (hx : a.eval x = .slice A m c) (hr : Rd w A m news) (h1 : ∀ u ∈ news, u.oneCell' = true) (hsz : n + m ≤ 1000000000) (hbase : base ≤ w.heap.size)
    (h : ∀ v' w', w'.ownsRow base 54 1 v' (n + m) (xs ++ news) → w.grownBy w' v.ownBlock → (v'.ownBlock = v.ownBlock ∨ v'.ownBlock = some w.heap.size) → wpList Try.prog ops Q rest (a.put o.dst v') w') : wpList Try.prog ops Q (o :: rest) a w := by
  obtain ⟨i0, hi, hz0, hz1, hz2⟩ := info_parts infoSl2
  exact wpList_plain hgd fun _ hK => wp_append_rd w s x 45 ho base 54 i0 _ 24 Try.underlying45 hi hz0 hz1 hz2 rfl v n xs hs hown A m c news hx hr h1 (by unfold maxLen; omega) (by omega) hbase fun v' w' h2 h3 h4 => hK _ _ (h v' w' h2 h3 h4)
theorem blk_grown2 {X Y : World} {g : Nat} {t : TypeId} {cs : Array Value} {r : Option Nat} (g5 : X.grownBy Y r) (h : Blk X g t cs) (hne : r ≠ some g) : Blk Y g t cs :=
  (g5.block g h.lt (fun e => hne (by first | exact e.symm | exact e))).trans h

/-- The slice value of a block of two cells. -/
def slcV (g : Nat) : Value := .slice (some ⟨g, 0, none⟩) 2 2
def pairL (p : Nat × Nat) : List Int := [(p.1 : Int), (p.2 : Int)]
/-- The slice v of pairs is the call's own, and so is each pair's block. -/
def PairsO (w : World) (base : Nat) (v : Value) (ps : List (Nat × Nat)) : Prop :=
  ∃ gs : List Nat, gs.length = ps.length ∧ w.ownsRow base 54 1 v ps.length (gs.map slcV) ∧ gs.Pairwise (· < ·) ∧ (∀ g ∈ gs, base ≤ g ∧ v.ownBlock ≠ some g) ∧ ∀ (i : Nat) (h1 : i < gs.length) (h2 : i < ps.length), Blk w gs[i] 3 (intV (pairL ps[i])).toArray
theorem PairsO.nil {w : World} {base : Nat} {v : Value} (h : w.ownsRow base 54 1 v 0 []) : PairsO w base v [] := ⟨[], rfl, h, .nil, by simp, fun i h1 _ => by simp at h1⟩
theorem PairsO.below {w w' : World} {base : Nat} {v : Value} {ps : List (Nat × Nat)} (h : PairsO w base v ps) (hb : Below w.heap.size w w') : PairsO w' base v ps := by
  obtain ⟨gs, h1, h2, h3, h4, h5⟩ := h
  exact ⟨gs, h1, own_below h2 hb, h3, h4, fun i i1 i2 => (h5 i i1 i2).below hb (h5 i i1 i2).lt⟩
theorem PairsO.mono {w : World} {base base' : Nat} {v : Value} {ps : List (Nat × Nat)} (h : PairsO w base v ps) (hb : base' ≤ base) : PairsO w base' v ps := by
  obtain ⟨gs, h1, h2, h3, h4, h5⟩ := h
  exact ⟨gs, h1, own_mono h2 hb, h3, fun g hg => ⟨Nat.le_trans hb (h4 g hg).1, (h4 g hg).2⟩, h5⟩
theorem PairsO.push {w w5 : World} {base : Nat} {v v5 : Value} {ps : List (Nat × Nat)} {gs : List Nat} {p : Nat × Nat} (h1 : gs.length = ps.length) (h2 : w.ownsRow base 54 1 v ps.length (gs.map slcV)) (h3 : gs.Pairwise (· < ·))
    (h4 : ∀ g ∈ gs, base ≤ g ∧ v.ownBlock ≠ some g) (h5 : ∀ (i : Nat) (h1 : i < gs.length) (h2 : i < ps.length), Blk w gs[i] 3 (intV (pairL ps[i])).toArray) (hb : base ≤ w.heap.size) (o : Obj)
    (o5 : w5.ownsRow base 54 1 v5 (ps.length + 1) (gs.map slcV ++ [slcV w.heap.size])) (g5 : ((w.alloc (.cells (intV (pairL p)).toArray 3)).alloc o).grownBy w5 v.ownBlock)
    (hv : v5.ownBlock = v.ownBlock ∨ v5.ownBlock = some ((w.alloc (.cells (intV (pairL p)).toArray 3)).alloc o).heap.size) : PairsO w5 base v5 (ps ++ [p]) := by
  have hlt : ∀ g ∈ gs, g < w.heap.size := fun g hg => by
    obtain ⟨i, hi, rfl⟩ := List.mem_iff_getElem.1 hg
    exact (h5 i hi (by omega)).lt
  have hsz : ((w.alloc (.cells (intV (pairL p)).toArray 3)).alloc o).heap.size = w.heap.size + 1 + 1 := by simp
  have hvl : ∀ q, v.ownBlock = some q → q < w.heap.size := fun q hq => (h2.lt q hq).2
  refine ⟨gs ++ [w.heap.size], by simp [h1], by rw [List.length_append, List.map_append]; exact o5, ?_, ?_, ?_⟩
  · rw [List.pairwise_append]
    refine ⟨h3, List.pairwise_singleton _ _, fun a ha b hb => ?_⟩
    rw [List.mem_singleton] at hb
    subst hb
    exact hlt a ha
  · intro g hg
    rw [List.mem_append, List.mem_singleton] at hg
    rcases hg with hg | rfl
    · refine ⟨(h4 g hg).1, ?_⟩
      rcases hv with e | e
      · rw [e]; exact (h4 g hg).2
      · rw [e, hsz]
        intro e2
        injection e2 with e2
        have := hlt g hg; omega
    · refine ⟨hb, ?_⟩
      rcases hv with e | e
      · rw [e]
        intro e2
        have := hvl _ e2; omega
      · rw [e, hsz]
        intro e2
        injection e2 with e2
        omega
  · intro i i1 i2
    rw [List.length_append, List.length_singleton] at i1 i2
    by_cases hi : i < gs.length
    · rw [List.getElem_append_left hi, List.getElem_append_left (show i < ps.length by omega)]
      have hB := h5 i hi (by omega)
      exact blk_grown2 g5 ((hB.alloc _).alloc _) (h4 _ (List.getElem_mem hi)).2
    · have e : i = ps.length := by omega
      subst e
      rw [List.getElem_append_right (by omega), List.getElem_append_right (by omega)]
      simp only [h1, Nat.sub_self, List.getElem_cons_zero]
      exact blk_grown2 g5 ((Blk.new w _ _).alloc _) (fun e => by have := hvl _ e; omega)

/-- The slice reads as a list of lists of integers. -/
def RdSS (w : World) (A : Option Addr) (n : Nat) (LL : List (List Int)) : Prop :=
  LL.length = n ∧ ∃ vs : List Value, Rd w A n vs ∧ ∀ (i : Nat) (h1 : i < vs.length) (h2 : i < LL.length), ∃ B c, vs[i] = .slice B LL[i].length c ∧ LL[i].length ≤ c ∧ Rd w B LL[i].length (intV LL[i])
theorem RdSS.below {w w' : World} {A : Option Addr} {n : Nat} {LL : List (List Int)} (h : RdSS w A n LL) (hb : Below w.heap.size w w') : RdSS w' A n LL := by
  obtain ⟨h1, vs, h2, h3⟩ := h
  exact ⟨h1, vs, h2.below hb, fun i i1 i2 => by
    obtain ⟨B, c, e, hc, hr⟩ := h3 i i1 i2
    exact ⟨B, c, e, hc, hr.below hb⟩⟩
theorem RdSS.drewN {w : World} {A : Option Addr} {n : Nat} {LL : List (List Int)} (h : RdSS w A n LL) (k : Nat) : RdSS (w.drewN k) A n LL := h
theorem RdSS.at_ {w : World} {A : Option Addr} {n : Nat} {LL : List (List Int)} (h : RdSS w A n LL) {k : Nat} (hk : k < n) : ∃ b o, A = some ⟨b, o, none⟩ ∧ ∃ (hk' : k < LL.length) (B : Option Addr) (c : Nat), w.cell? ⟨b, o + k, none⟩ = some (.slice B LL[k].length c) ∧ LL[k].length ≤ c ∧ Rd w B LL[k].length (intV LL[k]) := by
  obtain ⟨h1, vs, h2, h3⟩ := h
  obtain ⟨b, o, hA, hc⟩ := h2.at_ hk
  obtain ⟨B, c, e, hcc, hr⟩ := h3 k (by rw [h2.1]; exact hk) (by omega)
  exact ⟨b, o, hA, by omega, B, c, by rw [hc, e], hcc, hr⟩
theorem PairsO.rd {w : World} {base : Nat} {v : Value} {ps : List (Nat × Nat)} (h : PairsO w base v ps) : ∃ A c, v = .slice A ps.length c ∧ ps.length ≤ c ∧ RdSS w A ps.length (ps.map pairL) := by
  obtain ⟨gs, h1, h2, h3, h4, h5⟩ := h
  obtain ⟨A, c, hv, hc, _, hr, _⟩ := own_shape h2
  refine ⟨A, c, hv, hc, by simp, gs.map slcV, hr, fun i i1 i2 => ?_⟩
  rw [List.length_map] at i1 i2
  have hB := h5 i i1 i2
  refine ⟨some ⟨gs[i], 0, none⟩, 2, by simp [slcV, pairL], by simp [pairL], ?_⟩
  simp only [List.getElem_map]
  refine ⟨by simp [intV, pairL], fun _ => ⟨_, _, rfl, fun j u hj => ?_⟩⟩
  rw [Nat.zero_add, hB.cell j]
  simpa using hj
/-- The marks of n pairs, from 1 on. -/
def marksP (n : Nat) : List (Nat × Nat) := (List.range n).map fun i => (1 + 2 * i, 2 + 2 * i)
theorem marksP_len (n : Nat) : (marksP n).length = n := by simp [marksP]
theorem marksP_succ (n : Nat) : marksP (n + 1) = marksP n ++ [(1 + 2 * n, 2 + 2 * n)] := by simp [marksP, List.range_succ]
theorem marks_pair (i : Nat) : marksI (1 + 2 * i) 2 = pairL (1 + 2 * i, 2 + 2 * i) := by
  simp only [marksI, pairL, List.range_succ, List.range_zero, List.nil_append, List.map_append, List.map_cons, List.map_nil, List.cons_append]
  congr 2; omega
/-- A block that is an owned row of two is whole. -/
theorem blk_of_own {w : World} {base g : Nat} {t : TypeId} {xs : List Value} (h : w.ownsRow base t 1 (slcV g) 2 xs) : Blk w g t xs.toArray := by
  rcases h.2 with ⟨h0, _⟩ | ⟨g', cap, cur, hv, _, hg, _, _, hs, ht⟩
  · cases h0
  · unfold slcV at hv
    injection hv with e1 e2 e3
    injection e1 with e1
    injection e1 with e1 _ _
    subst e1 e3
    have : cur = xs.toArray := by
      rw [← ht]
      have e : cur.toList.take (2 * 1) = cur.toList := List.take_of_length_le (by simp [hs])
      rw [e]
    rw [← this]; exact hg
theorem pairs_set {w w' : World} {base : Nat} {v : Value} {ps : List (Nat × Nat)} {gs : List Nat} (h1 : gs.length = ps.length) (h2 : w.ownsRow base 54 1 v ps.length (gs.map slcV)) (h3 : gs.Pairwise (· < ·))
    (h4 : ∀ g ∈ gs, base ≤ g ∧ v.ownBlock ≠ some g) (h5 : ∀ (i : Nat) (h1 : i < gs.length) (h2 : i < ps.length), Blk w gs[i] 3 (intV (pairL ps[i])).toArray) (k : Nat) (hk : k < gs.length) (q : Nat × Nat)
    (g5 : w.grownBy w' (some gs[k])) (hb : Blk w' gs[k] 3 (intV (pairL q)).toArray) :
    w'.ownsRow base 54 1 v (ps.set k q).length (gs.map slcV) ∧ ∀ (i : Nat) (h1 : i < gs.length) (h2 : i < (ps.set k q).length), Blk w' gs[i] 3 (intV (pairL (ps.set k q)[i])).toArray := by
  have hg : base ≤ gs[k] ∧ v.ownBlock ≠ some gs[k] := h4 _ (List.getElem_mem hk)
  refine ⟨?_, fun i i1 i2 => ?_⟩
  · rw [List.length_set]
    refine ⟨h2.1, ?_⟩
    rcases h2.2 with h | ⟨b, cap, cur, rfl, hg', hh, r⟩
    · exact .inl h
    · exact .inr ⟨b, cap, cur, rfl, hg', (g5.block b (Array.getElem?_eq_some_iff.1 hh).1 (fun e => hg.2 (by first | exact e | exact e.symm))).trans hh, r⟩
  · rw [List.getElem_set]
    by_cases e : k = i
    · subst e
      rw [if_pos rfl]; exact hb
    · rw [if_neg e]
      refine blk_grown2 g5 (h5 i i1 (by rw [List.length_set] at i2; exact i2)) ?_
      intro e2
      injection e2 with e2
      rcases Nat.lt_trichotomy k i with hlt | rfl | hlt
      · have := (List.pairwise_iff_getElem.1 h3) k i hk i1 hlt; omega
      · exact e rfl
      · have := (List.pairwise_iff_getElem.1 h3) i k i1 hk hlt; omega
end Go.Proofs.Ytiajeheonoebnaa
