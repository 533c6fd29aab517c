/- Contracts of the reference's list of all changes of a stage. No conditions beyond those stated. -/
import Derived.Test.YtecplhpioohhmaaBtwP
import Derived.Test.YtecplhpioohhmaaCh1
import Derived.Test.YtecplhpioohhmaaRow2
import Derived.Test.YtecplhpioohhmaaPairs
set_option linter.unusedVariables false
set_option linter.unusedSimpArgs false
set_option maxRecDepth 100000
namespace Go.Proofs.Ytecplhpioohhmaa
open Go.RowKit

/-- The value is a slice of integers that reads as l; its block is not q, nor older than base. -/
def InB (w : World) (base : Nat) (q : Option Nat) (v : Value) (l : List Int) : Prop := ∃ B c, v = .slice B l.length c ∧ l.length ≤ c ∧ Rd w B l.length (intV l) ∧ ∀ b o s, B = some ⟨b, o, s⟩ → base ≤ b ∧ b < w.heap.size ∧ q ≠ some b
theorem InB.below {w w' : World} {base : Nat} {q : Option Nat} {v : Value} {l : List Int} (h : InB w base q v l) (hb : Below w.heap.size w w') : InB w' base q v l := by
  obtain ⟨B, c, e, hc, hr, hf⟩ := h
  exact ⟨B, c, e, hc, hr.below hb, fun b o s h => ⟨(hf b o s h).1, Nat.lt_of_lt_of_le (hf b o s h).2.1 hb.size, (hf b o s h).2.2⟩⟩
theorem InB.grown {w w' : World} {base : Nat} {q : Option Nat} {v : Value} {l : List Int} (h : InB w base q v l) (g : w.grownBy w' q) : InB w' base q v l := by
  obtain ⟨B, c, e, hc, hr, hf⟩ := h
  exact ⟨B, c, e, hc, hr.grown g (fun b o e2 e3 => (hf b o none e2).2.2 e3), fun b o s h => ⟨(hf b o s h).1, Nat.lt_of_lt_of_le (hf b o s h).2.1 g.size, (hf b o s h).2.2⟩⟩
theorem InB.other {w : World} {base : Nat} {q q' : Option Nat} {v : Value} {l : List Int} (h : InB w base q v l) (hq : q' = q ∨ q' = some w.heap.size) : InB w base q' v l := by
  obtain ⟨B, c, e, hc, hr, hf⟩ := h
  refine ⟨B, c, e, hc, hr, fun b o s h => ⟨(hf b o s h).1, (hf b o s h).2.1, ?_⟩⟩
  rcases hq with rfl | rfl
  · exact (hf b o s h).2.2
  · intro e2
    injection e2 with e2
    have := (hf b o s h).2.1; omega
theorem InB.mono {w : World} {base base' : Nat} {q : Option Nat} {v : Value} {l : List Int} (h : InB w base q v l) (hb : base' ≤ base) : InB w base' q v l := by
  obtain ⟨B, c, e, hc, hr, hf⟩ := h
  exact ⟨B, c, e, hc, hr, fun b o s h => ⟨Nat.le_trans hb (hf b o s h).1, (hf b o s h).2⟩⟩
/-- The slice v of slices is the call's own, and its elements read as LL. -/
def OwnIn (w : World) (base : Nat) (v : Value) (LL : List (List Int)) : Prop := ∃ vs : List Value, w.ownsRow base 29 1 v LL.length vs ∧ ∀ (i : Nat) (h1 : i < vs.length) (h2 : i < LL.length), InB w base v.ownBlock vs[i] LL[i]
theorem OwnIn.below {w w' : World} {base : Nat} {v : Value} {LL : List (List Int)} (h : OwnIn w base v LL) (hb : Below w.heap.size w w') : OwnIn w' base v LL := by
  obtain ⟨vs, h1, h2⟩ := h
  exact ⟨vs, own_below h1 hb, fun i i1 i2 => (h2 i i1 i2).below hb⟩
theorem OwnIn.mono {w : World} {base base' : Nat} {v : Value} {LL : List (List Int)} (h : OwnIn w base v LL) (hb : base' ≤ base) : OwnIn w base' v LL := by
  obtain ⟨vs, h1, h2⟩ := h
  exact ⟨vs, own_mono h1 hb, fun i i1 i2 => (h2 i i1 i2).mono hb⟩
theorem OwnIn.nil (w : World) (base : Nat) : OwnIn w base (.slice none 0 0) [] := ⟨[], World.ownsRow_nil _ _ _ _, fun i i1 _ => by simp at i1⟩
theorem OwnIn.app {W w5 : World} {base : Nat} {u v5 : Value} {LL NN : List (List Int)} {vs ns : List Value} (hl : vs.length = LL.length) (hn : ns.length = NN.length) (h2 : ∀ (i : Nat) (h1 : i < vs.length) (h2 : i < LL.length), InB W base u.ownBlock vs[i] LL[i])
    (h3 : ∀ (i : Nat) (h1 : i < ns.length) (h2 : i < NN.length), InB W base u.ownBlock ns[i] NN[i]) (o5 : w5.ownsRow base 29 1 v5 (LL.length + NN.length) (vs ++ ns)) (g5 : W.grownBy w5 u.ownBlock) (f5 : v5.ownBlock = u.ownBlock ∨ v5.ownBlock = some W.heap.size) : OwnIn w5 base v5 (LL ++ NN) := by
  refine ⟨vs ++ ns, by rw [List.length_append]; exact o5, fun i i1 i2 => ?_⟩
  rw [List.length_append] at i1 i2
  have key : ∀ v l, InB W base u.ownBlock v l → InB w5 base v5.ownBlock v l := fun v l h => by
    obtain ⟨B, c, e, hc, hr, hf⟩ := h.grown g5
    obtain ⟨B', c', e', hc', hr', hf'⟩ := h.other f5
    rw [e] at e'
    injection e' with e1 _ _
    subst e1
    exact ⟨B, c, e, hc, hr, fun b o s h => ⟨(hf b o s h).1, (hf b o s h).2.1, (hf' b o s h).2.2⟩⟩
  by_cases hi : i < vs.length
  · rw [List.getElem_append_left hi, List.getElem_append_left (show i < LL.length by omega)]
    exact key _ _ (h2 i hi (by omega))
  · rw [List.getElem_append_right (by omega), List.getElem_append_right (by omega)]
    simp only [hl]
    exact key _ _ (h3 (i - LL.length) (by omega) (by omega))
/-- A slice of slices of integers comes back; it is the call's own. -/
def OneSS (w : World) (LL : List (List Int)) (e : Ending) (w' : World) : Prop := ∃ v, e = .returned v ∧ OwnIn w' w.heap.size v LL ∧ Below w.heap.size w w'
theorem l1Num_any (n : Nat) (w : World) (h : n ≤ 8) :
    Calls Try.prog 128 #[.int .i64 n] w fun e w' => e = .returned (.string (bs [d48 n])) ∧ Below w.heap.size w w' := by
  have hu : (d48 n).toNat = 48 + n := by rw [d48, UInt8.toNat_ofNat']; omega
  have i1 : (n : Int) < 10 := by omega
  have e8 : (48 + (n : Int)) = (((d48 n).toNat : Nat) : Int) := by rw [hu]; omega
  have hcv : (convert 81 9 (.slice (some ⟨w.heap.size, 0, none⟩) 1 1)).run Try.prog (w.alloc (.cells #[.int .u8 (48 + (n : Int))] 5)) = .ok (.string (bs [d48 n])) (w.alloc (.cells #[.int .u8 (48 + (n : Int))] 5)) := by
    rw [e8]
    refine run_convert_bytes_back _ _ _ _ ⟨w.heap.size, 0, none⟩ 1 [d48 n] Try.underlying81 Try.underlying5 Try.underlying9 ?_
    intro j hj
    obtain rfl : j = 0 := by simpa using hj
    simp [Addr.add]
  clear hu e8
  go_enter Try.func128, Try.ntmps128
  go_wp2
  go_ret
  exact ⟨rfl, (Below.refl _ _).alloc (Nat.le_refl _) _⟩
theorem plB_take (l : List Nat) (k : Nat) (h : k < l.length) : plB (l.take k) ++ [d48 l[k]] = plB (l.take (k + 1)) := by
  unfold plB
  rw [List.take_succ_eq_append_getElem h, List.map_append]; rfl
theorem l2Of_any (A : Option Addr) (n c : Nat) (l : List Nat) (w : World) (hr : Rd w A n (intV (natI l))) (hn : n ≤ 1000) (h8 : ∀ p ∈ l, p ≤ 8) :
    Calls Try.prog 114 #[.slice A n c] w fun e w' => e = .returned (.string (bs (dashL (plB l)))) ∧ Below w.heap.size w w' := by
  have hl := hid (show l.length = n by have := hr.1; simpa [intV, natI] using this)
  have H8 := hid h8
  have RS := hid hr
  clear hr h8
  go_enter Try.func114, Try.ntmps114
  go_wp2
  go_loopg [3, 8] n (fun gk u v wr => ∃ k : Nat, k ≤ n ∧ gk = n - k ∧ u = .string (bs (plB (l.take k))) ∧ v = .int .i64 k ∧ Below w.heap.size w wr)
  case atStart => exact ⟨0, by omega, by omega, rfl, rfl, Below.refl _ _⟩
  case round =>
    obtain ⟨k, hk, rfl, rfl, rfl, hb⟩ := hrel
    by_cases hlt : k < n
    · obtain ⟨b, o, rfl, hk', hc⟩ := (RS.out.below hb).int hlt
      have hkl : k < l.length := by have := hl.out; omega
      have e1 : (natI l)[k] = ((l[k] : Nat) : Int) := by simp [natI]
      rw [e1] at hc
      have h8 := H8.out _ (List.getElem_mem hkl)
      have hst := hid (plB_take l k hkl)
      obtain ⟨p, hp⟩ : ∃ p, p = l[k] := ⟨_, rfl⟩
      rw [← hp] at hc h8 hst
      have hpl : (plB (l.take k)).length ≤ 1000 := by unfold plB; rw [List.length_map, List.length_take]; omega
      have HN := fun w0 => hid (l1Num_any p w0 h8)
      have HB := hid hb
      have hk0 : (0 : Int) ≤ (k : Int) := by omega
      have hk1 : (k : Int) < (n : Int) := by omega
      clear hb hp e1
      go_wp2_with fail
      refine (HN _).out.mono ?_
      rintro e w1 ⟨rfl, b1⟩
      have HB1 := hid (HB.out.trans (b1.mono HB.out.size))
      clear b1
      go_wp2
      go_roundg (n - (k + 1))
      case measure => omega
      case rel => exact ⟨k + 1, by omega, rfl, by rw [← hst.out], by go_num, HB1.out⟩
    · obtain rfl : k = n := by omega
      have ht : l.take k = l := List.take_of_length_le (by have := hl.out; omega)
      rw [ht]
      by_cases hc : plB l = []
      · have HC := hid (show dashL (plB l) = [45] from if_pos hc)
        rw [hc]
        go_wp2
        go_ret
        rw [HC.out]
        exact ⟨rfl, hb⟩
      · have hcb : (plB l == []) = false := by simpa using hc
        have HC := hid (show dashL (plB l) = plB l from if_neg hc)
        clear hc
        go_wp2
        go_ret
        rw [HC.out]
        exact ⟨rfl, hb⟩
end Go.Proofs.Ytecplhpioohhmaa
