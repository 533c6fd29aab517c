/- Slices of methods among the arguments of a law: opened, measured. No conditions beyond those stated. -/
import Derived.Test.YtdmipllbifofmaaMeth2
import Derived.Deep.Slices
import Derived.Deep.Fields
set_option linter.unusedVariables false
set_option linter.unusedSimpArgs false
set_option maxRecDepth 100000
namespace Go.Proofs.Ytdmipllbifofmaa
open Go.RowKit Go.ChangeShapes Go.WideShapes Go.Joins
open Go.Deep (oneCellFields hone_of)

/-- The value is a slice of methods that reads as ms. -/
def InMethods (W : World) (v : Value) (ms : List Meth) : Prop := ∃ A n c, v = .slice A n c ∧ n ≤ maxLen ∧ ms.length = n ∧ ∀ (i : Nat) (hi : i < ms.length), ∃ b o v2, A = some ⟨b, o, none⟩ ∧ W.cell? ⟨b, o + i * 3, none⟩ = some (.string (bs ms[i].nm)) ∧ W.cell? ⟨b, o + i * 3 + 1, none⟩ = some (.int .i64 ms[i].st) ∧ W.cell? ⟨b, o + i * 3 + 2, none⟩ = some v2 ∧ InMethod W (.agg #[.string (bs ms[i].nm), .int .i64 ms[i].st, v2]) ms[i]
instance : Inhabited Meth := ⟨⟨[], 0, []⟩⟩
theorem addr_add (b o k : Nat) : (⟨b, o, none⟩ : Addr).add k = ⟨b, o + k, none⟩ := by unfold Addr.add; split <;> simp_all
theorem open_cells3 {H : Type} {enc : TypeId × Value → H} {P : Program} {w : World} {base : Nat} {spare : Nat → Bool} {held : Bool} {t : TypeId} {f0 f1 f2 : Field} {fuel : Nat} {c0 c1 c2 : Value} {x : DataW H × List MemPlace}
    (hs : P.underlying t = some (.struct #[f0, f1, f2])) (hone : oneCellFields P #[f0, f1, f2] = true) (hf : DataW.trod enc P w base spare held fuel t [c0, c1, c2] = some x) :
    ∃ (y0 y1 y2 : DataW H × List MemPlace) (n : Nat), DataW.trod enc P w base spare held n f0.type [c0] = some y0 ∧ DataW.trod enc P w base spare held n f1.type [c1] = some y1 ∧ DataW.trod enc P w base spare held n f2.type [c2] = some y2 := by
  obtain ⟨y0, y1, y2, n, _, _, h0, h1, h2⟩ := Deep.trod_struct3 hs hf
  obtain ⟨o0, k0⟩ := hone_of hone 0 f0 rfl
  obtain ⟨o1, k1⟩ := hone_of hone 1 f1 rfl
  obtain ⟨o2, k2⟩ := hone_of hone 2 f2 rfl
  exact ⟨y0, y1, y2, n, by simpa [o0, k0] using h0, by simpa [o1, k1] using h1, by simpa [o2, k2] using h2⟩
theorem open_inMethods {H : Type} {enc : TypeId × Value → H} {W : World} {base : Nat} {spare : Nat → Bool} {held : Bool} {r : Reach} {b0 : Nat} {v : Value} {d : DataW H} {ps : List MemPlace}
    (hval : Value.okWide Try.prog W r b0 56 v) (h : DataW.Trod enc Try.prog W base spare held 56 v d ps) : ∃ ms, InMethods W v ms := by
  obtain ⟨a0, len0, cap0, rfl⟩ := okWide_slice Try.underlying56 hval
  obtain ⟨fuel, hf⟩ := h
  have ce : Try.prog.cellsOf 24 = 3 := by kernel_rfl
  rcases Deep.open_slice Try.underlying56 hf with ⟨hcs, _⟩ | ⟨a, len, cap, m, n, D, Pl, hcs, _, hl, hm, hmm, _, hx⟩
  · injection hcs with hcs _
    injection hcs with e1 e2 e3
    subst e1 e2 e3
    exact ⟨[], none, 0, 0, rfl, by unfold maxLen; omega, rfl, fun i hi => by simp at hi⟩
  · injection hcs with hcs _
    injection hcs with e1 e2 e3
    subst e1 e2 e3
    have hlm : len0 ≤ m := by rw [hmm]; split <;> omega
    obtain ⟨b, o, s⟩ := a
    have hsp : 0 < len0 → s = none := fun h0 => by
      obtain ⟨cs', h1, _⟩ := hx 0 (by omega)
      rw [ce] at h1
      obtain ⟨_, hlen, hcell⟩ := World.cells?_some h1
      have e0 := hcell 0 (by omega)
      match cs', hlen with
      | [c0, c1, c2], _ =>
        have := World.cell?_spot e0
        simpa [Addr.add] using this
    have each : ∀ i, i < len0 → ∃ M : Meth, ∃ v2, s = none ∧ W.cell? ⟨b, o + i * 3, none⟩ = some (.string (bs M.nm)) ∧ W.cell? ⟨b, o + i * 3 + 1, none⟩ = some (.int .i64 M.st) ∧ W.cell? ⟨b, o + i * 3 + 2, none⟩ = some v2 ∧ InMethod W (.agg #[.string (bs M.nm), .int .i64 M.st, v2]) M := by
      intro i hi
      obtain ⟨cs', h1, h2⟩ := hx i (by omega)
      rw [ce] at h1
      obtain ⟨_, hlen, hcell⟩ := World.cells?_some h1
      have e0 := hcell 0 (by omega)
      have e1 := hcell 1 (by omega)
      have e2 := hcell 2 (by omega)
      have hs := hsp (by omega)
      subst hs
      match cs', hlen with
      | [c0, c1, c2], _ =>
        rw [Deep.add_add, addr_add] at e0 e1 e2
        obtain ⟨y0, y1, y2, k, t0, t1, t2⟩ := open_cells3 Try.underlying24 (by kernel_rfl) h2
        obtain ⟨s, q0, _, hs⟩ := DataW.trod_string Try.underlying9 t0
        obtain ⟨z, q1, _, hz⟩ := DataW.trod_int Try.underlying3 t1
        obtain ⟨l, hl⟩ := inStrs_of_trod t2
        injection q0 with q0 _
        injection q1 with q1 _
        subst q0 q1
        obtain ⟨s, rfl⟩ := bs_surj s
        exact ⟨⟨s, z, l⟩, c2, rfl, by simpa using e0, by simpa [Nat.add_assoc] using e1, by simpa [Nat.add_assoc] using e2, c2, rfl, by rw [← bs_size]; exact hs, hz, hl⟩
    obtain ⟨f, hfm⟩ := Deep.choose_lt each
    refine ⟨(List.range len0).map f, some ⟨b, o, s⟩, len0, cap0, rfl, by omega, by simp, fun i hi => ?_⟩
    simp only [List.length_map, List.length_range] at hi
    obtain ⟨v2, hs, h0, h1, h2, h3⟩ := hfm i hi
    subst hs
    simp only [List.getElem_map, List.getElem_range]
    exact ⟨b, o, v2, rfl, h0, h1, h2, h3⟩
theorem inMethods_below {w w' : World} {v : Value} {ms : List Meth} (h : InMethods w v ms) (hb : Below w.heap.size w w') : InMethods w' v ms := by
  obtain ⟨A, n, c, h1, h2, h3, h4⟩ := h
  refine ⟨A, n, c, h1, h2, h3, fun i hi => ?_⟩
  obtain ⟨b, o, v2, e, c0, c1, c2, hm⟩ := h4 i hi
  have hk := fun {p : Addr} {u : Value} (hc : w.cell? p = some u) => (hb.cell (World.block_lt_of_cell? w _ hc)).trans hc
  exact ⟨b, o, v2, e, hk c0, hk c1, hk c2, inMethod_below hm hb⟩
/-- What a list of methods costs of a budget. -/
def totM : List Meth → Nat
  | [] => 0
  | m :: ms => m.nm.length + m.ch.length + totL m.ch + totM ms
theorem totM_app (a b : List Meth) : totM (a ++ b) = totM a + totM b := by
  induction a with
  | nil => simp [totM]
  | cons m a ih => simp [totM, ih]; omega
theorem totM_take (l : List Meth) (k : Nat) (h : k < l.length) : totM (l.take (k + 1)) = totM (l.take k) + (l[k].nm.length + l[k].ch.length + totL l[k].ch) := by
  rw [List.take_succ_eq_append_getElem h, totM_app]; simp [totM]
theorem totM_mem {l : List Meth} {m : Meth} (h : m ∈ l) : m.nm.length + m.ch.length + totL m.ch ≤ totM l := by
  induction l with
  | nil => cases h
  | cons t l ih =>
    simp only [List.mem_cons] at h
    simp only [totM]
    rcases h with rfl | h
    · omega
    · have := ih h; omega
/-- What szMethodS answers. -/
def LeftMS (w : World) (n : Nat) (ms : List Meth) (left : Int) (e : Ending) (w' : World) : Prop := ∃ r : Int, e = .returned (.int .i64 r) ∧ Below w.heap.size w w' ∧ -1 ≤ r ∧ (0 ≤ r → r = left - n - totM ms)
theorem szMethodS_any (v : Value) (ms : List Meth) (left : Int) (w : World) (hv : InMethods w v ms) (h0 : 0 ≤ left) (h1 : left ≤ 1048576) :
    Calls Try.prog 44 #[v, .int .i64 left] w (LeftMS w ms.length ms left) := by
  obtain ⟨A, n, c, rfl, hn, hl, hel⟩ := hv
  have HE := hid hel
  have HL := hid hl
  have HZ := fun (m : Meth) (v : Value) (a : Int) (ha : 0 ≤ a) (ha1 : a ≤ 1048576) (w0 : World) (hv : InMethod w0 v m) => hid (szMethod_any m v a w0 hv ha ha1)
  have hw := IntWalk.i64_in (left - (n : Int)) (by unfold maxLen at hn; omega)
  clear hel
  go_enter Try.func44, Try.ntmps44
  by_cases hlt0 : left - (n : Int) < 0
  · go_wp2
    go_ret
    exact ⟨-1, rfl, Below.refl _ _, by omega, by omega⟩
  · go_wp2
    go_loopg [1, 5] n (fun gk u v wr => ∃ j : Nat, j ≤ n ∧ gk = n - j ∧ u = .int .i64 (left - n - totM (ms.take j)) ∧ 0 ≤ left - n - totM (ms.take j) ∧ v = .int .i64 j ∧ Below w.heap.size w wr)
    case atStart => exact ⟨0, by omega, by omega, by simp [totM], by simp [totM]; omega, rfl, Below.refl _ _⟩
    case round =>
      obtain ⟨j, hj, rfl, rfl, hpos, rfl, hb⟩ := hrel
      by_cases hlt : j < n
      · obtain ⟨b, o, v2, rfl, c0, c1, c2, hm⟩ := HE.out j (by omega)
        have hk := fun {p : Addr} {u : Value} (hc : w.cell? p = some u) => (hb.cell (World.block_lt_of_cell? w _ hc)).trans hc
        have c0 := hk c0
        have c1 := hk c1
        have c2 := hk c2
        have HM := hid (inMethod_below hm hb)
        have hstep := hid (totM_take ms j (by omega))
        have hj0 : (0 : Int) ≤ (j : Int) := by omega
        have hj1 : (j : Int) < (n : Int) := by omega
        have HB := hid hb
        clear hk hb hm
        go_wp2_with fail
        refine (HZ ms[j] _ _ (by omega) (by omega) _ HM.out).out.mono ?_
        rintro e w1 ⟨r, rfl, b1, hr1, hr2⟩
        have HB1 := hid (HB.out.trans (b1.mono HB.out.size))
        clear b1
        by_cases hneg : r < 0
        · go_wp2
          go_ret
          exact ⟨-1, rfl, HB1.out, by omega, by omega⟩
        · have hsum := hr2 (by omega)
          have HSm := hid (show r = left - n - totM (ms.take (j + 1)) by rw [hsum, hstep.out]; omega)
          have hr0 : 0 ≤ r := by omega
          clear hsum hr2
          go_wp2
          go_roundg (n - (j + 1))
          case measure => omega
          case rel => exact ⟨j + 1, by omega, rfl, by rw [← HSm.out], by rw [← HSm.out]; exact hr0, by go_num, HB1.out⟩
      · obtain rfl : j = n := by omega
        rw [List.take_of_length_le (by rw [HL.out]; omega)] at hpos ⊢
        go_wp2
        go_ret
        exact ⟨_, rfl, hb, by omega, fun _ => by rw [HL.out]⟩
end Go.Proofs.Ytdmipllbifofmaa
