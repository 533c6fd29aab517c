/- Slices of strings among the arguments of a law: opened as a list, measured, copied. No conditions beyond those stated. -/
import Derived.Test.YtihaopijnkiafaaGreatDoorApp
import Derived.Test.YtihaopijnkiafaaGreatDoorHelp2
set_option linter.unusedVariables false
set_option linter.unusedSimpArgs false
set_option maxRecDepth 100000
namespace Go.Proofs.YtihaopijnkiafaaGreatDoor
open Go.RowKit Go.ChangeShapes Go.WideShapes

/-- The value is a slice of strings that reads as l. -/
def InStrs (W : World) (v : Value) (l : List (List UInt8)) : Prop := ∃ A n c, v = .slice A n c ∧ n ≤ maxLen ∧ Rd W A n (strV l) ∧ ∀ s ∈ l, s.length ≤ maxLen
theorem inStrs_of_trod {H : Type} {enc : TypeId × Value → H} {W : World} {base : Nat} {spare : Nat → Bool} {held : Bool} {fuel : Nat} {v : Value} {x : DataW H × List MemPlace}
    (h : DataW.trod enc Tryz.prog W base spare held fuel 22 [v] = some x) : ∃ l, InStrs W v l := by
  rcases open_strings Tryz.underlying22 Tryz.underlying9 (by kernel_rfl) h with ⟨hcs, _⟩ | ⟨a, len, cap, ss, hcs, _, hl, hm, hz, _, hcell, hsz⟩
  · injection hcs with hcs _
    subst hcs
    exact ⟨[], none, 0, 0, rfl, by unfold maxLen; omega, Rd.nil _ _, by simp⟩
  · injection hcs with hcs _
    subst hcs
    have hlen : len ≤ ss.length := by rw [hz]; split <;> omega
    refine ⟨(ss.take len).map fun s => s.data.toList, some a, len, cap, rfl, by omega, ⟨by simp [strV]; omega, fun h0 => ?_⟩, ?_⟩
    · obtain ⟨b, o, s⟩ := a
      have hs : s = none := by simpa [Addr.add] using World.cell?_spot (hcell 0 (by omega))
      subst hs
      refine ⟨b, o, rfl, fun j u hj => ?_⟩
      simp only [strV, List.map_map, List.getElem?_map, Option.map_eq_some_iff] at hj
      obtain ⟨s, hs, rfl⟩ := hj
      have hj2 : j < len := by
        have := (List.getElem?_eq_some_iff.1 hs).1
        simp at this; omega
      have hc := hcell j (by omega)
      rw [show (⟨b, o, none⟩ : Addr).add j = ⟨b, o + j, none⟩ by unfold Addr.add; split <;> simp_all] at hc
      rw [hc]
      rw [List.getElem?_take, if_pos hj2] at hs
      simp [List.getD, hs, bs]
    · intro s hs
      simp only [List.mem_map] at hs
      obtain ⟨t, ht, rfl⟩ := hs
      have := hsz t (List.mem_of_mem_take ht)
      rw [Array.length_toList]
      exact this
theorem open_inStrs {H : Type} {enc : TypeId × Value → H} {W : World} {base : Nat} {spare : Nat → Bool} {held : Bool} {r : Reach} {b0 : Nat} {v : Value} {d : DataW H} {ps : List MemPlace}
    (hval : Value.okWide Tryz.prog W r b0 22 v) (h : DataW.Trod enc Tryz.prog W base spare held 22 v d ps) : ∃ l, InStrs W v l := by
  obtain ⟨a0, len, cap, rfl⟩ := okWide_slice Tryz.underlying22 hval
  obtain ⟨fuel, hf⟩ := h
  exact inStrs_of_trod hf

def totL : List (List UInt8) → Nat
  | [] => 0
  | s :: l => s.length + totL l
theorem totL_app (a b : List (List UInt8)) : totL (a ++ b) = totL a + totL b := by
  induction a with
  | nil => simp [totL]
  | cons s a ih => simp [totL, ih]; omega
theorem totL_take (l : List (List UInt8)) (k : Nat) (h : k < l.length) : totL (l.take (k + 1)) = totL (l.take k) + l[k].length := by
  rw [List.take_succ_eq_append_getElem h, totL_app]; simp [totL]
theorem totL_mono (l : List (List UInt8)) (k : Nat) : totL (l.take k) ≤ totL l := by
  have := totL_app (l.take k) (l.drop k)
  rw [List.take_append_drop] at this; omega
theorem totL_mem {l : List (List UInt8)} {s : List UInt8} (h : s ∈ l) : s.length ≤ totL l := by
  induction l with
  | nil => cases h
  | cons t l ih =>
    simp only [List.mem_cons] at h
    simp only [totL]
    rcases h with rfl | h
    · omega
    · have := ih h; omega
/-- What szStringS answers: what is left of a budget, or less than 0. -/
def Left (w : World) (n : Nat) (l : List (List UInt8)) (left : Int) (e : Ending) (w' : World) : Prop := ∃ r : Int, e = .returned (.int .i64 r) ∧ w = w' ∧ -1 ≤ r ∧ (0 ≤ r → r = left - n - totL l)
theorem szStringS_any (A : Option Addr) (n c : Nat) (l : List (List UInt8)) (left : Int) (w : World) (hr : Rd w A n (strV l)) (hn : n ≤ maxLen) (hs : ∀ s ∈ l, s.length ≤ maxLen) (h0 : 0 ≤ left) (h1 : left ≤ 1048576) :
    Calls Tryz.prog 11 #[.slice A n c, .int .i64 left] w (Left w n l left) := by
  have hl := hid (show l.length = n by have := hr.1; rw [strV_len] at this; exact this)
  have HS := hid hs
  clear hs
  have hw := IntWalk.i64_in (left - (n : Int)) (by unfold maxLen at hn; omega)
  go_enter Tryz.func11, Tryz.ntmps11
  by_cases hlt0 : left - (n : Int) < 0
  · go_wp2
    go_ret
    exact ⟨-1, rfl, rfl, by omega, by omega⟩
  · go_wp2
    go_loopg [1, 5] n (fun gk u v wr => ∃ j : Nat, j ≤ n ∧ gk = n - j ∧ u = .int .i64 (left - n - totL (l.take j)) ∧ 0 ≤ left - n - totL (l.take j) ∧ v = .int .i64 j ∧ w = wr)
    case atStart => exact ⟨0, by omega, by omega, by simp [totL], by simp [totL]; omega, rfl, rfl⟩
    case round =>
      obtain ⟨j, hj, rfl, rfl, hpos, rfl, rfl⟩ := hrel
      by_cases hlt : j < n
      · obtain ⟨b, o, rfl, hj', hc⟩ := hr.str hlt
        have hstep := hid (totL_take l j hj')
        have hsl := HS.out _ (List.getElem_mem hj')
        have hj0 : (0 : Int) ≤ (j : Int) := by omega
        have hj1 : (j : Int) < (n : Int) := by omega
        have hw2 := IntWalk.i64_in (left - n - totL (l.take j) - (l[j].length : Int)) (by unfold maxLen at hsl; omega)
        have HR := hid hr
        clear hr
        by_cases hneg : left - n - totL (l.take j) - (l[j].length : Int) < 0
        · go_wp2
          go_ret
          exact ⟨-1, rfl, rfl, by omega, by omega⟩
        · go_wp2
          go_roundg (n - (j + 1))
          case measure => omega
          case rel => exact ⟨j + 1, by omega, rfl, by rw [hstep.out]; go_num, by rw [hstep.out]; omega, by go_num, rfl⟩
      · obtain rfl : j = n := by omega
        go_wp2
        go_ret
        rw [List.take_of_length_le (by rw [hl.out]; omega)] at hpos ⊢
        exact ⟨_, rfl, rfl, by omega, fun _ => rfl⟩

/-- make([]string, n) is a new block of empty strings. -/
theorem make_str (n : Nat) (h : n ≤ 100000000) (w : World) : (Instr.makeSlice 22 (.int .i64 n) (.int .i64 n)).run Tryz.prog w = .ok (.slice (some ⟨w.heap.size, 0, none⟩) n n) (w.alloc (.cells (strV (List.replicate n [])).toArray 9)) := by
  obtain ⟨i0, hi, hz0, hz1, hz2⟩ := info_parts infoStr
  have := run_make (P := Tryz.prog) w 22 9 i0 _ Tryz.underlying22 hi hz0 .i64 .i64 n n (by omega) (by omega) (by rw [hz2]; omega) (by omega)
  rw [this, Int.toNat_natCast, hz1, Nat.mul_one]
  congr 3
  apply Array.ext (by simp [size_madeCells, strV])
  intro i h1 h2
  simp [madeCells, strV, Value.cells, bs, Nat.mod_one]
  rfl
theorem toStringS_any (A : Option Addr) (n c : Nat) (l : List (List UInt8)) (w : World) (hr : Rd w A n (strV l)) (hn : n ≤ 1048576) :
    Calls Tryz.prog 20 #[.slice A n c] w (OneS w l) := by
  have hl := hid (show l.length = n by have := hr.1; rw [strV_len] at this; exact this)
  go_enter Tryz.func20, Tryz.ntmps20
  have hmk := make_str n (by omega)
  have RS := hid hr
  clear hr
  go_wp2
  have o0 := own_of_blk (Blk.new w 9 (strV (List.replicate n [])).toArray) (Nat.le_refl _) (by simp [strV, maxLen]; omega)
  have e0 : (strV (List.replicate n [])).toArray.size = n := by simp [strV]
  rw [e0] at o0
  clear e0
  go_loopg [4] n (fun gk u wr => ∃ j : Nat, j ≤ n ∧ gk = n - j ∧ u = .int .i64 j ∧ wr.ownsRow w.heap.size 9 1 (.slice (some ⟨w.heap.size, 0, none⟩) n n) n (strV (l.take j ++ List.replicate (n - j) [])) ∧ Below w.heap.size w wr)
  case atStart => exact ⟨0, by omega, by omega, rfl, by simpa using o0, (Below.refl _ _).alloc (Nat.le_refl _) _⟩
  case round =>
    obtain ⟨j, hj, rfl, rfl, ho, hb⟩ := hrel
    by_cases hlt : j < n
    · obtain ⟨b, o, rfl, hj', hc0⟩ := RS.out.str hlt
      have hc := (hb.cell (World.block_lt_of_cell? _ _ hc0)).trans hc0
      have hlen : (strV (l.take j ++ List.replicate (n - j) [])).length = n := by rw [strV_len, List.length_append, List.length_take, List.length_replicate, hl.out]; omega
      obtain ⟨old, hold⟩ : ∃ u, (strV (l.take j ++ List.replicate (n - j) []))[j]? = some u := ⟨_, List.getElem?_eq_getElem (by omega)⟩
      have hcg := (ho.cellAt j (by omega)).trans hold
      have hfg := ho.frozenAt j
      have hj0 : (0 : Int) ≤ (j : Int) := by omega
      have hj1 : (j : Int) < (n : Int) := by omega
      have HO := hid ho
      have HB := hid hb
      have HBs := hb.size
      have HC := hid hc0
      clear ho hb hc0 hold hlen o0
      go_wp2
      go_roundg (n - (j + 1))
      case measure => omega
      case rel =>
        have h1 := HO.out.stored j (.string (bs l[j]))
        have h2 : (strV (l.take j ++ List.replicate (n - j) [])).set j (.string (bs l[j])) = strV (l.take (j + 1) ++ List.replicate (n - (j + 1)) []) := by
          rw [show n - j = (n - (j + 1)) + 1 by omega, List.replicate_succ, List.take_succ_eq_append_getElem hj']
          simp only [strV, List.map_append, List.map_cons, List.map_nil, List.append_assoc]
          rw [List.set_append, if_neg (by simp; omega), List.length_map, List.length_take, Nat.min_eq_left (by omega), Nat.sub_self, List.set_cons_zero]
          rfl
        rw [h2] at h1
        exact ⟨j + 1, by omega, rfl, by go_num, h1.1, HB.out.trans ((below_of_grown HO.out h1.2 HBs).mono (Nat.le_refl _))⟩
    · obtain rfl : j = n := by omega
      go_wp2
      go_ret
      rw [Nat.sub_self, List.replicate_zero, List.append_nil, List.take_of_length_le (by rw [hl.out]; omega)] at ho
      exact ⟨_, rfl, by rw [hl.out]; exact ho, hb⟩
/-- A row that is owned stays while another one turns. -/
theorem own_other {w w' : World} {base : Nat} {e : TypeId} {size : Nat} {v : Value} {n : Nat} {xs : List Value} {q : Option Nat} (h : w.ownsRow base e size v n xs) (g : w.grownBy w' q) (hne : ∀ k, v.ownBlock = some k → q = some k → False) : w'.ownsRow base e size v n xs := by
  refine ⟨h.1, ?_⟩
  rcases h.2 with h | ⟨b, cap, cur, rfl, hg, hh, r⟩
  · exact .inl h
  · exact .inr ⟨b, cap, cur, rfl, hg, (g.block b (Array.getElem?_eq_some_iff.1 hh).1 (fun e => hne b rfl (by first | exact e | exact e.symm))).trans hh, r⟩
end Go.Proofs.YtihaopijnkiafaaGreatDoor
