/- Slices of methods in a law: marked. No conditions beyond those stated. -/
import Derived.Test.YtdmipllbifofmaaMs2
import Derived.Test.YtdmipllbifofmaaHelp2
import Derived.Test.YtdmipllbifofmaaStrs
set_option linter.unusedVariables false
set_option linter.unusedSimpArgs false
set_option maxRecDepth 100000
namespace Go.Proofs.Ytdmipllbifofmaa
open Go.RowKit

/-- How many changes a list of methods has. -/
def totC : List Meth → Nat
  | [] => 0
  | m :: ms => m.ch.length + totC ms
theorem totC_app (a b : List Meth) : totC (a ++ b) = totC a + totC b := by
  induction a with
  | nil => simp [totC]
  | cons m a ih => simp [totC, ih]; omega
theorem totC_take (l : List Meth) (k : Nat) (h : k < l.length) : totC (l.take (k + 1)) = totC (l.take k) + l[k].ch.length := by
  rw [List.take_succ_eq_append_getElem h, totC_app]; simp [totC]
theorem totC_le (l : List Meth) : totC l ≤ totM l := by
  induction l with
  | nil => simp [totC]
  | cons m l ih => simp [totC, totM]; omega
theorem totC_mono (l : List Meth) (k : Nat) : totC (l.take k) ≤ totC l := by
  have := totC_app (l.take k) (l.drop k)
  rw [List.take_append_drop] at this; omega
/-- From element i on, the changes of the methods of block g are the call's own. -/
def MethsFrom (w : World) (g : Nat) (ms : List Meth) (i : Nat) (vs : List Value) : Prop :=
  ∀ (j : Nat) (h0 : i ≤ j) (h1 : j < vs.length) (h2 : j < ms.length), w.cell? ⟨g, j * 3 + 2, none⟩ = some vs[j] ∧ w.ownsRow (g + 1) 9 1 vs[j] ms[j].ch.length (strV ms[j].ch)
theorem MethsFrom.below {w w' : World} {g i : Nat} {ms : List Meth} {vs : List Value} (h : MethsFrom w g ms i vs) (hb : Below w.heap.size w w') : MethsFrom w' g ms i vs := fun j h0 h1 h2 => by
  obtain ⟨c2, o⟩ := h j h0 h1 h2
  exact ⟨(hb.cell (World.block_lt_of_cell? w _ c2)).trans c2, own_below o hb⟩
theorem MethsFrom.set_ {w : World} {g i : Nat} {ms : List Meth} {vs : List Value} (h : MethsFrom w g ms i vs) (p : Nat) (hp : ∀ j, p ≠ j * 3 + 2) (v : Value) : MethsFrom (w.setCell ⟨g, p, none⟩ v) g ms i vs := fun j h0 h1 h2 => by
  obtain ⟨c2, o⟩ := h j h0 h1 h2
  exact ⟨(World.cell?_setCell_other _ _ _ _ (by intro e; injection e with _ e2 _; exact hp j e2)).trans c2, own_set o (by show g < g + 1; omega)⟩
theorem MethsFrom.next {w w' : World} {g i : Nat} {ms : List Meth} {vs : List Value} (h : MethsFrom w g ms i vs) (hi : i < vs.length) (h2 : i < ms.length) (hd : ∀ (i j : Nat) (hij : i < j) (hj : j < vs.length) (q : Nat), (vs[i]'(by omega)).ownBlock = some q → vs[j].ownBlock = some q → False)
    (hg : w.grownBy w' vs[i].ownBlock) : MethsFrom w' g ms (i + 1) vs := fun j h0 h1 h2' => by
  obtain ⟨c2, o⟩ := h j (by omega) h1 h2'
  have oi := (h i (Nat.le_refl _) hi h2).2
  refine ⟨?_, own_other o hg (fun q e1 e2 => hd i j (by omega) h1 q e2 e1)⟩
  have hl := World.block_lt_of_cell? w _ c2
  have hb := hg.block g hl (fun e => by have := (oi.lt g (by first | exact e.symm | exact e)).1; omega)
  exact (World.cell?_of_block (a := ⟨g, j * 3 + 2, none⟩) hb).trans c2
theorem Room.grown {w w' : World} {g N : Nat} {r : Option Nat} (h : Room w g N) (hg : w.grownBy w' r) (hne : r ≠ some g) : Room w' g N :=
  ⟨Nat.lt_of_lt_of_le h.1 hg.size, fun j hj => by
    obtain ⟨⟨u, hu⟩, hf⟩ := h.2 j hj
    have hb := hg.block g h.1 (fun e => hne (by first | exact e.symm | exact e))
    exact ⟨⟨u, (World.cell?_of_block (a := ⟨g, j, none⟩) hb).trans hu⟩, (World.frozen?_of_block (a := ⟨g, j, none⟩) hb).trans hf⟩⟩
set_option maxHeartbeats 1000000 in
theorem markMethodS_any (base g : Nat) (ms : List Meth) (vs : List Value) (w : World) (h : MethsTo w g ms ms.length vs) (hr : Room w g (ms.length * 3)) (hb : base ≤ g) (hn : ms.length ≤ 1048576) (hc : totC ms ≤ 1048576)
    (b9 s9 n9 : Nat) (t9 : TypeId) (v9 : Value) (xs9 : List Value) (h9 : w.ownsRow b9 t9 s9 v9 n9 xs9) (hg9 : g < b9) (hv9 : ∀ (i : Nat) (hi : i < vs.length) (q : Nat), vs[i].ownBlock = some q → q < b9) :
    Calls Try.prog 51 #[.slice (some ⟨g, 0, none⟩) ms.length ms.length, .int .i64 1] w fun e w' => (∃ K : Nat, e = .returned (.int .i64 (K : Int))) ∧ Below base w w' ∧ w'.ownsRow b9 t9 s9 v9 n9 xs9 := by
  have H9 := hid h9
  have HV9 := hid hv9
  clear h9 hv9
  have hvl := hid h.1
  have hd := hid h.2.2
  have hf0 := hid (show MethsFrom w g ms 0 vs from fun j _ h1 h2 => ⟨(h.2.1 j h1 h2).2.2.1, (h.2.1 j h1 h2).2.2.2⟩)
  have HR := hid hr
  obtain ⟨n, hn'⟩ : ∃ n, n = ms.length := ⟨_, rfl⟩
  have HL := hid hn'
  have HCM := hid (fun k => Nat.le_trans (totC_mono ms k) hc)
  rw [← hn'] at hn ⊢ HR hvl
  have hgl := hr.1
  clear h hr hn'
  go_enter Try.func51, Try.ntmps51
  go_wp2
  go_loopg [1, 5] n (fun gk u v wr => ∃ i K : Nat, i ≤ n ∧ gk = n - i ∧ u = .int .i64 (K : Int) ∧ v = .int .i64 i ∧ K = 1 + 2 * i + totC (ms.take i) ∧ MethsFrom wr g ms i vs ∧ Room wr g (n * 3) ∧ Below base w wr ∧ wr.ownsRow b9 t9 s9 v9 n9 xs9)
  case atStart => exact ⟨0, 1, by omega, by omega, rfl, rfl, by simp [totC], hf0.out, HR.out, Below.refl _ _, H9.out⟩
  case round =>
    obtain ⟨i, K, hi, rfl, rfl, rfl, hK, hm, hro, hbb, ho9⟩ := hrel
    by_cases hlt : i < n
    · have him : i < ms.length := by have := HL.out; omega
      have hiv : i < vs.length := by have := hvl.out; omega
      have hKc := HCM.out i
      have hK2 := HCM.out (i + 1)
      rw [totC_take ms i him] at hK2
      have HT1 := hid (markText_any (K : Int) K wr rfl (by omega))
      have hk0 : (0 : Int) ≤ (i : Int) := by omega
      have hk1 : (i : Int) < (n : Int) := by omega
      have HM := hid hm
      have HRO := hid hro
      have HB := hid hbb
      have HO9 := hid ho9
      have HK := hid hK
      have hKb : K ≤ 4000000 := by omega
      have HKL := hid (show K + 2 + ms[i].ch.length ≤ 4194304 by omega)
      have HKN := hid (show K + 2 + ms[i].ch.length = 1 + 2 * (i + 1) + totC (ms.take (i + 1)) by rw [totC_take ms i him]; omega)
      have HIM := hid him
      have HIV := hid hiv
      clear hm hro hbb ho9 hK hKc hK2
      go_wp2_with fail
      refine HT1.out.mono ?_
      rintro e w1 ⟨rfl, b1⟩
      have hro1 := HRO.out.below b1
      obtain ⟨⟨u0, x0⟩, f0⟩ := hro1.2 (i * 3) (by omega)
      obtain ⟨⟨u1, x1⟩, f1⟩ := hro1.2 (i * 3 + 1) (by omega)
      have x2 := ((HM.out.below b1) i (Nat.le_refl _) hiv him).1
      have HM1 := hid (HM.out.below b1)
      have HB1 := hid (HB.out.trans (b1.mono (by have := HB.out.size; omega)))
      have HRO1 := hid hro1
      have HO91 := hid (own_below HO9.out b1)
      clear b1 hro1
      have oo := (HM1.out i (Nat.le_refl _) hiv him).2
      obtain ⟨A2, c2, ev, _⟩ := own_shape oo
      rw [ev] at x2
      have HEV := hid ev
      have hw1 : IntKind.i64.wrap ((K : Int) + 1) = (K : Int) + 1 := IntWalk.i64_in _ (by omega)
      have hw2 : IntKind.i64.wrap ((K : Int) + 1 + 1) = (K : Int) + 1 + 1 := IntWalk.i64_in _ (by omega)
      clear oo ev
      go_wp2_with fail
      have o2 := (((HM1.out.set_ (i * 3) (fun j => by omega) (.string (bs (markL K)))).set_ (i * 3 + 1) (fun j => by omega) (.int .i64 ((K : Int) + 1))) i (Nat.le_refl _) HIV.out HIM.out).2
      rw [HEV.out] at o2
      have HKL' := HKL.out
      have OO := hid o2
      have hgs : g < w1.heap.size := HRO1.out.1
      clear o2
      refine (markStringS_any (g + 1) _ (K + 2) _ ms[i].ch _ _ OO.out (by omega) (by omega)).mono ?_
      rintro e w2 ⟨rfl, o2, g2⟩
      have G2 := hid g2
      clear g2 o2 HKL'
      go_wp2_with fail
      go_roundg (n - (i + 1))
      case measure => omega
      case rel =>
        have hg3 := G2.out
        rw [← HEV.out] at hg3
        have hne : vs[i].ownBlock ≠ some g := fun e => by
          have := ((HM1.out i (Nat.le_refl _) HIV.out HIM.out).2.lt g e).1
          omega
        refine ⟨i + 1, K + 2 + ms[i].ch.length, by omega, rfl, by first | rfl | (congr 1; omega), by go_num, HKN.out, ?_, ?_, ?_, ?_⟩
        · exact ((HM1.out.set_ (i * 3) (fun j => by omega) _).set_ (i * 3 + 1) (fun j => by omega) _).next HIV.out HIM.out hd.out hg3
        · exact ((HRO1.out.set_ _ _).set_ _ _).grown hg3 hne
        · exact ((HB1.out.setCell (by show base ≤ g; exact hb) _).setCell (by show base ≤ g; exact hb) _).trans ((below_of_grown OO.out G2.out (by simp [World.setCell]; omega)).mono (by omega))
        · exact own_other (own_set (own_set HO91.out (by show g < b9; exact hg9)) (by show g < b9; exact hg9)) hg3 (fun q e1 e2 => by
            have h1 := HV9.out i HIV.out q (by first | exact e2 | exact e1)
            have h2 := (H9.out.lt q (by first | exact e1 | exact e2)).1
            omega)
    · go_wp2
      go_ret
      exact ⟨⟨K, rfl⟩, hbb, ho9⟩
end Go.Proofs.Ytdmipllbifofmaa
