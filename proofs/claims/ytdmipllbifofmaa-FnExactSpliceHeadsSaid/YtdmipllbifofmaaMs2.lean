/- Slices of methods in a law: copied, compared. No conditions beyond those stated. -/
import Derived.Test.YtdmipllbifofmaaMs
set_option linter.unusedVariables false
set_option linter.unusedSimpArgs false
set_option maxRecDepth 100000
namespace Go.Proofs.Ytdmipllbifofmaa
open Go.RowKit

/-- Block g has N cells that can be stored to. -/
def Room (w : World) (g N : Nat) : Prop := g < w.heap.size ∧ ∀ j, j < N → (∃ u, w.cell? ⟨g, j, none⟩ = some u) ∧ w.frozen? ⟨g, j, none⟩ = false
theorem Room.below {w w' : World} {g N : Nat} (h : Room w g N) (hb : Below w.heap.size w w') : Room w' g N :=
  ⟨Nat.lt_of_lt_of_le h.1 hb.size, fun j hj => by
    obtain ⟨⟨u, hu⟩, hf⟩ := h.2 j hj
    have hl := World.block_lt_of_cell? w _ hu
    exact ⟨⟨u, (hb.cell hl).trans hu⟩, (hb.frozen hl).trans hf⟩⟩
theorem Room.set_ {w : World} {g N : Nat} (h : Room w g N) (p : Nat) (v : Value) : Room (w.setCell ⟨g, p, none⟩ v) g N :=
  ⟨by simp [World.setCell]; exact h.1, fun j hj => by
    obtain ⟨⟨u, hu⟩, hf⟩ := h.2 j hj
    refine ⟨?_, by rw [World.frozen?_setCell]; exact hf⟩
    by_cases e : p = j
    · subst e
      exact ⟨v, World.cell?_setCell_same _ _ _ hu⟩
    · exact ⟨u, (World.cell?_setCell_other _ _ _ _ (by intro e2; injection e2 with _ e3 _; exact e e3)).trans hu⟩⟩
/-- The first k elements of block g are the first k methods of ms, each with changes of its own (their slices: vs). -/
def MethsTo (w : World) (g : Nat) (ms : List Meth) (k : Nat) (vs : List Value) : Prop :=
  vs.length = k ∧ (∀ (i : Nat) (h1 : i < vs.length) (h2 : i < ms.length), w.cell? ⟨g, i * 3, none⟩ = some (.string (bs ms[i].nm)) ∧ w.cell? ⟨g, i * 3 + 1, none⟩ = some (.int .i64 ms[i].st) ∧ w.cell? ⟨g, i * 3 + 2, none⟩ = some vs[i] ∧ w.ownsRow (g + 1) 9 1 vs[i] ms[i].ch.length (strV ms[i].ch)) ∧
  ∀ (i j : Nat) (hij : i < j) (hj : j < vs.length) (q : Nat), (vs[i]'(by omega)).ownBlock = some q → vs[j].ownBlock = some q → False
theorem MethsTo.below {w w' : World} {g k : Nat} {ms : List Meth} {vs : List Value} (h : MethsTo w g ms k vs) (hb : Below w.heap.size w w') : MethsTo w' g ms k vs :=
  ⟨h.1, fun i h1 h2 => by
    obtain ⟨c0, c1, c2, o⟩ := h.2.1 i h1 h2
    have hk := fun {p : Addr} {u : Value} (hc : w.cell? p = some u) => (hb.cell (World.block_lt_of_cell? w _ hc)).trans hc
    exact ⟨hk c0, hk c1, hk c2, own_below o hb⟩, h.2.2⟩
theorem MethsTo.nil (w : World) (g : Nat) (ms : List Meth) : MethsTo w g ms 0 [] := ⟨rfl, fun i h1 _ => by simp at h1, fun i j _ hj => by simp at hj⟩
theorem MethsTo.push {w : World} {g k : Nat} {ms : List Meth} {vs : List Value} {v2 : Value} (h : MethsTo w g ms k vs) (hk : k < ms.length) (N : Nat) (hr : Room w g N) (hN : k * 3 + 2 < N) (o : w.ownsRow (g + 1) 9 1 v2 ms[k].ch.length (strV ms[k].ch))
    (hd : ∀ (i : Nat) (hi : i < vs.length) q, vs[i].ownBlock = some q → v2.ownBlock = some q → False) :
    MethsTo (((w.setCell ⟨g, k * 3, none⟩ (.string (bs ms[k].nm))).setCell ⟨g, k * 3 + 1, none⟩ (.int .i64 ms[k].st)).setCell ⟨g, k * 3 + 2, none⟩ v2) g ms (k + 1) (vs ++ [v2]) := by
  have hl := h.1
  have oset : ∀ {v : Value} {n : Nat} {xs : List Value} {W : World} (p : Nat) (u : Value), W.ownsRow (g + 1) 9 1 v n xs → (W.setCell ⟨g, p, none⟩ u).ownsRow (g + 1) 9 1 v n xs := fun p u h => own_set h (by show g < g + 1; omega)
  have ne : ∀ {p q : Nat}, p ≠ q → (⟨g, p, none⟩ : Addr) ≠ ⟨g, q, none⟩ := fun h e => by injection e with _ e2 _; exact h e2
  obtain ⟨⟨u0, x0⟩, _⟩ := hr.2 (k * 3) (by omega)
  obtain ⟨⟨u1, x1⟩, _⟩ := hr.2 (k * 3 + 1) (by omega)
  obtain ⟨⟨u2, x2⟩, _⟩ := hr.2 (k * 3 + 2) (by omega)
  refine ⟨by simp [hl], fun i h1 h2 => ?_, fun i j hij hj q e1 e2 => ?_⟩
  · rw [List.length_append, List.length_singleton] at h1
    by_cases hi : i < vs.length
    · obtain ⟨c0, c1, c2, oo⟩ := h.2.1 i hi h2
      rw [List.getElem_append_left hi]
      refine ⟨?_, ?_, ?_, oset _ _ (oset _ _ (oset _ _ oo))⟩
      · rw [World.cell?_setCell_other _ _ _ _ (ne (by omega)), World.cell?_setCell_other _ _ _ _ (ne (by omega)), World.cell?_setCell_other _ _ _ _ (ne (by omega))]; exact c0
      · rw [World.cell?_setCell_other _ _ _ _ (ne (by omega)), World.cell?_setCell_other _ _ _ _ (ne (by omega)), World.cell?_setCell_other _ _ _ _ (ne (by omega))]; exact c1
      · rw [World.cell?_setCell_other _ _ _ _ (ne (by omega)), World.cell?_setCell_other _ _ _ _ (ne (by omega)), World.cell?_setCell_other _ _ _ _ (ne (by omega))]; exact c2
    · have e : i = k := by omega
      subst e
      rw [List.getElem_append_right (by omega)]
      simp only [hl, Nat.sub_self, List.getElem_cons_zero]
      refine ⟨?_, ?_, ?_, oset _ _ (oset _ _ (oset _ _ o))⟩
      · rw [World.cell?_setCell_other _ _ _ _ (ne (by omega)), World.cell?_setCell_other _ _ _ _ (ne (by omega))]
        exact World.cell?_setCell_same _ _ _ x0
      · rw [World.cell?_setCell_other _ _ _ _ (ne (by omega))]
        exact World.cell?_setCell_same _ _ _ ((World.cell?_setCell_other _ _ _ _ (ne (by omega))).trans x1)
      · exact World.cell?_setCell_same _ _ _ ((World.cell?_setCell_other _ _ _ _ (ne (by omega))).trans ((World.cell?_setCell_other _ _ _ _ (ne (by omega))).trans x2))
  · rw [List.length_append, List.length_singleton] at hj
    by_cases hj2 : j < vs.length
    · rw [List.getElem_append_left hj2] at e2
      rw [List.getElem_append_left (by omega)] at e1
      exact h.2.2 i j hij hj2 q e1 e2
    · have e : j = vs.length := by omega
      subst e
      rw [List.getElem_append_right (by omega)] at e2
      simp only [Nat.sub_self, List.getElem_cons_zero] at e2
      rw [List.getElem_append_left (by omega)] at e1
      exact hd i (by omega) q e1 e2
theorem inMs_at {W : World} {A : Option Addr} {ms : List Meth} (h : ∀ (i : Nat) (hi : i < ms.length), ∃ b o v2, A = some ⟨b, o, none⟩ ∧ W.cell? ⟨b, o + i * 3, none⟩ = some (.string (bs ms[i].nm)) ∧ W.cell? ⟨b, o + i * 3 + 1, none⟩ = some (.int .i64 ms[i].st) ∧ W.cell? ⟨b, o + i * 3 + 2, none⟩ = some v2 ∧ InMethod W (.agg #[.string (bs ms[i].nm), .int .i64 ms[i].st, v2]) ms[i]) {k : Nat} (hk : k < ms.length) :
    ∃ (M : Meth) (b o n2 c2 : Nat) (A2 : Option Addr), ms[k]'hk = M ∧ A = some ⟨b, o, none⟩ ∧ W.cell? ⟨b, o + k * 3, none⟩ = some (.string (bs M.nm)) ∧ W.cell? ⟨b, o + k * 3 + 1, none⟩ = some (.int .i64 M.st) ∧ W.cell? ⟨b, o + k * 3 + 2, none⟩ = some (.slice A2 n2 c2) ∧ Rd W A2 n2 (strV M.ch) := by
  obtain ⟨b, o, v2, hA, c0, c1, c2, v2', e2, _, _, A2, n2, cc2, rfl, _, rd2, _⟩ := h k hk
  injection e2 with e2
  have e2 : v2 = .slice A2 n2 cc2 := by simpa using e2
  subst e2
  exact ⟨ms[k], b, o, n2, cc2, A2, rfl, hA, c0, c1, c2, rd2⟩
/-- A slice of methods comes back that is the call's own, with all its changes. -/
def OneMs (w : World) (ms : List Meth) (e : Ending) (w' : World) : Prop := ∃ g vs, e = .returned (.slice (some ⟨g, 0, none⟩) ms.length ms.length) ∧ w.heap.size ≤ g ∧ Room w' g (ms.length * 3) ∧ MethsTo w' g ms ms.length vs ∧ Below w.heap.size w w'
theorem infoMth : (Try.prog.info? 30).map (fun i => (i.zero, i.size, i.bytes)) = some (some (.agg #[.string ByteArray.empty, .int .i64 0, .slice none 0 0]), 3, 48) := by kernel_rfl
set_option maxHeartbeats 1000000 in
theorem toMethodS_any (v : Value) (ms : List Meth) (w : World) (hv : InMethods w v ms) (hn : ms.length ≤ 1048576) (hs : ∀ m ∈ ms, m.ch.length ≤ 1048576) :
    Calls Try.prog 46 #[v] w (OneMs w ms) := by
  obtain ⟨A, n, c, rfl, hn0, hl, hel⟩ := hv
  obtain ⟨i0, hi, hz0, hz1, hz2⟩ := info_parts infoMth
  have HE := hid hel
  have HS := hid hs
  have HL := hid hl
  rw [hl] at hn
  obtain ⟨C, hC, hmk⟩ : ∃ C : Array Value, C.size = n * 3 ∧ (Instr.makeSlice 59 (.int .i64 n) (.int .i64 n)).run Try.prog w = .ok (.slice (some ⟨w.heap.size, 0, none⟩) n n) (w.alloc (.cells C 30)) := by
    have := run_make (P := Try.prog) w 59 30 i0 _ Try.underlying59 hi hz0 .i64 .i64 n n (by omega) (by omega) (by rw [hz2]; omega) (by omega)
    refine ⟨_, ?_, by rw [this, Int.toNat_natCast]⟩
    simp [size_madeCells, hz1]
  have HC := hid hC
  clear hel hs hi hz0 hz1 hz2 hC hl
  go_enter Try.func46, Try.ntmps46
  go_wp2
  have hr0 := hid (show Room (w.alloc (.cells C 30)) w.heap.size (n * 3) from ⟨by simp, fun j hj => ⟨⟨C[j]'(by rw [HC.out]; exact hj), by rw [(Blk.new w 30 C).cell j]; exact Array.getElem?_eq_getElem _⟩, (Blk.new w 30 C).frozen j⟩⟩)
  go_loopg [4] n (fun gk u wr => ∃ (k : Nat) (vs : List Value), k ≤ n ∧ gk = n - k ∧ u = .int .i64 k ∧ Room wr w.heap.size (n * 3) ∧ MethsTo wr w.heap.size ms k vs ∧ Below w.heap.size w wr)
  case atStart => exact ⟨0, [], by omega, by omega, rfl, hr0.out, MethsTo.nil _ _ _, (Below.refl _ _).alloc (Nat.le_refl _) _⟩
  case round =>
    obtain ⟨k, vs, hk, rfl, rfl, hro, hms, hb⟩ := hrel
    by_cases hlt : k < n
    · have hkm : k < ms.length := by have := HL.out; omega
      obtain ⟨M, b, o, n2, cc2, A2, hM, rfl, x0, x1, x2, rd2⟩ := inMs_at HE.out hkm
      have hkk := fun {p : Addr} {u : Value} (hc : w.cell? p = some u) => (hb.cell (World.block_lt_of_cell? w _ hc)).trans hc
      have c0 := hkk x0
      have c1 := hkk x1
      have c2 := hkk x2
      have RD2 := hid (rd2.below hb)
      have hch := HS.out _ (List.getElem_mem hkm)
      rw [hM] at hch
      have hn2 : n2 = M.ch.length := by have := rd2.1; rw [strV_len] at this; exact this.symm
      have HT := hid (fun w0 (rd : Rd w0 A2 n2 (strV M.ch)) => toMethod_any M A2 n2 cc2 w0 rd (by omega))
      have HM := hid hM
      have HRO := hid hro
      have HMS := hid hms
      have HB := hid hb
      have hj0 : (0 : Int) ≤ (k : Int) := by omega
      have hj1 : (k : Int) < (n : Int) := by omega
      clear hro hms hb hkk rd2 hn2 hch hM x0 x1 x2
      go_wp2_with fail
      refine (HT.out _ RD2.out).mono ?_
      rintro e w1 ⟨v3, rfl, o3, b3⟩
      obtain ⟨A3, c3, rfl, _⟩ := own_shape o3
      have hro1 := HRO.out.below b3
      obtain ⟨⟨u0, x0⟩, f0⟩ := hro1.2 (k * 3) (by omega)
      obtain ⟨⟨u1, x1⟩, f1⟩ := hro1.2 (k * 3 + 1) (by omega)
      obtain ⟨⟨u2, x2⟩, f2⟩ := hro1.2 (k * 3 + 2) (by omega)
      have HRO1 := hid hro1
      have HMS1 := hid (HMS.out.below b3)
      have HB1 := hid (HB.out.trans (b3.mono HB.out.size))
      have O3 := hid o3
      have hbs := HB.out.size
      have hgl := HRO.out.1
      clear o3 b3 hro1
      go_wp2
      go_roundg (n - (k + 1))
      case measure => omega
      case rel =>
        have hlen : ms.length = n := HL.out
        have hM := HM.out
        have o4 : w1.ownsRow (w.heap.size + 1) 9 1 (.slice A3 M.ch.length c3) M.ch.length (strV M.ch) := own_mono O3.out (by omega)
        have hp := HMS1.out.push hkm (n * 3) HRO1.out (by omega) (v2 := .slice A3 M.ch.length c3) (by rw [hM]; exact o4) (fun i hi q e1 e2 => by
          have h1 := ((HMS.out.2.1 i hi (by have := HMS.out.1; omega)).2.2.2.lt q e1).2
          have h2 := (O3.out.lt q e2).1
          omega)
        rw [hM] at hp
        exact ⟨k + 1, _, by omega, rfl, by go_num, ((HRO1.out.set_ _ _).set_ _ _).set_ _ _, hp, ((HB1.out.setCell (by show w.heap.size ≤ w.heap.size; omega) _).setCell (by show w.heap.size ≤ w.heap.size; omega) _).setCell (by show w.heap.size ≤ w.heap.size; omega) _⟩
    · obtain rfl : k = n := by omega
      have HRO := hid hro
      have HMS := hid hms
      clear hro hms
      go_wp2
      go_ret
      have hlen := HL.out
      exact ⟨_, vs, by rw [hlen]; rfl, Nat.le_refl _, by rw [hlen]; exact HRO.out, by rw [hlen]; exact HMS.out, hb⟩
/-- What is needed of a slice of methods to read it. -/
theorem methsTo_at {w : World} {g : Nat} {ms : List Meth} {vs : List Value} (h : MethsTo w g ms ms.length vs) {k : Nat} (hk : k < ms.length) :
    ∃ (M : Meth) (n2 c2 : Nat) (A2 : Option Addr), ms[k]'hk = M ∧ w.cell? ⟨g, k * 3, none⟩ = some (.string (bs M.nm)) ∧ w.cell? ⟨g, k * 3 + 1, none⟩ = some (.int .i64 M.st) ∧ w.cell? ⟨g, k * 3 + 2, none⟩ = some (.slice A2 n2 c2) ∧ n2 ≤ c2 ∧ Rd w A2 n2 (strV M.ch) := by
  obtain ⟨c0, c1, c2, o⟩ := h.2.1 k (by rw [h.1]; exact hk) hk
  obtain ⟨A, c, e, hc, _, rd, _⟩ := own_shape o
  rw [e] at c2
  exact ⟨ms[k], _, c, A, rfl, c0, c1, c2, hc, rd⟩
set_option maxHeartbeats 1000000 in
theorem eqMethodS_any (g1 g2 : Nat) (ms : List Meth) (vs1 vs2 : List Value) (w : World) (h1 : MethsTo w g1 ms ms.length vs1) (h2 : MethsTo w g2 ms ms.length vs2) (hn : ms.length ≤ 1048576) (hs : ∀ m ∈ ms, m.ch.length ≤ 1048576) :
    Calls Try.prog 48 #[.slice (some ⟨g1, 0, none⟩) ms.length ms.length, .slice (some ⟨g2, 0, none⟩) ms.length ms.length] w fun e w' => e = .returned (.bool true) ∧ Below w.heap.size w w' := by
  have H1 := hid h1
  have H2 := hid h2
  have HS := hid hs
  obtain ⟨n, hn'⟩ : ∃ n, n = ms.length := ⟨_, rfl⟩
  have HL := hid hn'
  rw [← hn'] at hn ⊢
  clear h1 h2 hs hn'
  go_enter Try.func48, Try.ntmps48
  go_wp2
  go_loopg [5] n (fun gk u wr => ∃ k : Nat, k ≤ n ∧ gk = n - k ∧ u = .int .i64 k ∧ Below w.heap.size w wr)
  case atStart => exact ⟨0, by omega, by omega, rfl, Below.refl _ _⟩
  case round =>
    obtain ⟨k, hk, rfl, rfl, hb⟩ := hrel
    by_cases hlt : k < n
    · have hkm : k < ms.length := by have := HL.out; omega
      obtain ⟨M, n1, cc1, A1, hM, x0, x1, x2, _, r1⟩ := methsTo_at (H1.out.below hb) hkm
      obtain ⟨M', n2, cc2, A2, hM', y0, y1, y2, _, r2⟩ := methsTo_at (H2.out.below hb) hkm
      rw [hM] at hM'
      subst hM'
      have hch := HS.out _ (List.getElem_mem hkm)
      rw [hM] at hch
      have hn1 : n1 = M.ch.length := by have := r1.1; rw [strV_len] at this; exact this.symm
      have HE := hid (fun w0 (rd1 : Rd w0 A1 n1 (strV M.ch)) (rd2 : Rd w0 A2 n2 (strV M.ch)) => eqMethod_any M A1 A2 n1 cc1 n2 cc2 w0 rd1 rd2 (by omega))
      have R1 := hid r1
      have R2 := hid r2
      have HB := hid hb
      have hbs := hb.size
      have hj0 : (0 : Int) ≤ (k : Int) := by omega
      have hj1 : (k : Int) < (n : Int) := by omega
      have HC9 := hid (show ∀ W', Below wr.heap.size wr W' → W'.cell? ⟨g1, k * 3, none⟩ = some (.string (bs M.nm)) ∧ W'.cell? ⟨g1, k * 3 + 1, none⟩ = some (.int .i64 M.st) ∧ W'.cell? ⟨g1, k * 3 + 2, none⟩ = some (.slice A1 n1 cc1) ∧ W'.cell? ⟨g2, k * 3, none⟩ = some (.string (bs M.nm)) ∧ W'.cell? ⟨g2, k * 3 + 1, none⟩ = some (.int .i64 M.st) ∧ W'.cell? ⟨g2, k * 3 + 2, none⟩ = some (.slice A2 n2 cc2) from fun W' h =>
        ⟨(h.cell (World.block_lt_of_cell? wr _ x0)).trans x0, (h.cell (World.block_lt_of_cell? wr _ x1)).trans x1, (h.cell (World.block_lt_of_cell? wr _ x2)).trans x2, (h.cell (World.block_lt_of_cell? wr _ y0)).trans y0, (h.cell (World.block_lt_of_cell? wr _ y1)).trans y1, (h.cell (World.block_lt_of_cell? wr _ y2)).trans y2⟩)
      clear hb x0 x1 x2 y0 y1 y2 r1 r2 hM hch hn1
      obtain ⟨z0, z1, z2, z3, z4, z5⟩ := HC9.out _ (Below.refl _ _)
      go_wp2_with fail
      go_region_held3 (fun W' => W'.cell? ⟨g1, k * 3, none⟩ = some (.string (bs M.nm)) ∧ W'.cell? ⟨g1, k * 3 + 1, none⟩ = some (.int .i64 M.st) ∧ W'.cell? ⟨g1, k * 3 + 2, none⟩ = some (.slice A1 n1 cc1) ∧ W'.cell? ⟨g2, k * 3, none⟩ = some (.string (bs M.nm)) ∧ W'.cell? ⟨g2, k * 3 + 1, none⟩ = some (.int .i64 M.st) ∧ W'.cell? ⟨g2, k * 3 + 2, none⟩ = some (.slice A2 n2 cc2))
        (first | exact HC9.out _ (Below.refl _ _) | exact HC9.out _ (Below.refl _ _).drew | exact HC9.out _ Fa)
        (first | (go_at_call 21; refine (HE.out _ (R1.out.below (Below.refl wr.heap.size wr).drew) (R2.out.below (Below.refl wr.heap.size wr).drew)).mono ?_; rintro e wa ⟨rfl, ba⟩; have Fa := (Below.refl wr.heap.size wr).drew.trans (ba.mono (Nat.le_refl _))))
      have HFa := hid (HB.out.trans (Fa.mono hbs))
      clear ba Fa z0 z1 z2 z3 z4 z5
      go_wp2
      go_roundg (n - (k + 1))
      case measure => omega
      case rel => exact ⟨k + 1, by omega, rfl, by go_num, HFa.out⟩
    · go_wp2
      go_ret
      exact ⟨rfl, hb⟩
end Go.Proofs.Ytdmipllbifofmaa
