/- Contracts of rows under changes: the row that follows, the rows of a lead, the lead's head. No conditions beyond those stated. -/
import Derived.Test.YtihaopijnkiafaaGreatDoorChg
import Derived.Test.YtihaopijnkiafaaGreatDoorGood
import Derived.Test.YtihaopijnkiafaaGreatDoorRow2
set_option linter.unusedVariables false
set_option linter.unusedSimpArgs false
set_option maxRecDepth 100000
namespace Go.Proofs.YtihaopijnkiafaaGreatDoor
open Go.RowKit

theorem apply_any (r c : List UInt8) (w : World) (hr : IsRow r) (hc : okChange r.length c = true) :
    Calls Tryz.prog 89 #[.string (bs r), .string (bs c)] w fun e w' => e = .returned (.string (bs (applyL r c))) ∧ Below w.heap.size w w' := by
  have h8 := hr.hi
  have H1 := fun w0 => hid (changeRow_any r.length c w0 hc)
  have H2 := fun w0 => hid (times_any r (chRowL r.length c) w0 hr (chRow_row c hr.lo hr.hi) (chRow_len _ _).symm)
  clear hr hc
  go_enter Tryz.func89, Tryz.ntmps89
  go_wp2_with fail
  refine (H1 _).out.mono ?_
  rintro e w1 ⟨rfl, b1⟩
  go_wp2_with fail
  refine (H2 _).out.mono ?_
  rintro e w2 ⟨rfl, b2⟩
  go_wp2
  go_ret
  exact ⟨rfl, b1.trans (b2.mono b1.size)⟩
theorem l2Apply_any (r c : List UInt8) (w : World) (hr : IsRow r) (hc : okChange r.length c = true) :
    Calls Tryz.prog 54 #[.string (bs r), .string (bs c)] w fun e w' => e = .returned (.string (bs (applyL r c))) ∧ Below w.heap.size w w' := by
  have h8 := hr.hi
  have H1 := fun w0 => hid (l2Row_any r.length c w0 hr.lo hr.hi (by have := okChange_len hc; omega))
  have H2 := fun w0 => hid (l1Times_any r (chRowL r.length c) w0 hr (chRow_row c hr.lo hr.hi) (chRow_len _ _).symm)
  clear hr hc
  go_enter Tryz.func54, Tryz.ntmps54
  go_wp2_with fail
  refine (H1 _).out.mono ?_
  rintro e w1 ⟨rfl, b1⟩
  go_wp2_with fail
  refine (H2 _).out.mono ?_
  rintro e w2 ⟨rfl, rfl⟩
  go_wp2
  go_ret
  exact ⟨rfl, b1⟩

theorem end_take (r : List UInt8) (cs : List (List UInt8)) (k : Nat) (h : k < cs.length) : endL r (cs.take (k + 1)) = applyL (endL r (cs.take k)) cs[k] := by
  rw [List.take_succ_eq_append_getElem h, end_snoc]
theorem scan_take (r : List UInt8) (cs : List (List UInt8)) (k : Nat) (h : k < cs.length) : scanL r (cs.take k) ++ [applyL (endL r (cs.take k)) cs[k]] = scanL r (cs.take (k + 1)) := by
  rw [List.take_succ_eq_append_getElem h, scan_snoc]

/-- What l4Lead answers: the rows of a lead, the call's own, and the row behind them. -/
def LeadR (w : World) (r : List UInt8) (cs : List (List UInt8)) (e : Ending) (w' : World) : Prop := ∃ v, e = .returned (.tuple #[v, .string (bs (endL r cs))]) ∧ w'.ownsRow w.heap.size 9 1 v cs.length (strV (leadL r cs)) ∧ Below w.heap.size w w'
theorem l4Lead_any (A : Option Addr) (n c : Nat) (cs : List (List UInt8)) (r : List UInt8) (w : World) (hr : Rd w A n (strV cs)) (hn : n ≤ 1048576) (hrow : IsRow r) (hs : ∀ x ∈ cs, okChange r.length x = true) :
    Calls Tryz.prog 53 #[.slice A n c, .string (bs r)] w (LeadR w r cs) := by
  have hl := hid (show cs.length = n by have := hr.1; rw [strV_len] at this; exact this)
  have HS := hid hs
  have HR := hid hrow
  have RS := hid hr
  clear hs hrow hr
  go_enter Tryz.func53, Tryz.ntmps53
  go_wp2
  go_loopg [6, 7, 13] n (fun gk u v x wr => ∃ k : Nat, k ≤ n ∧ gk = n - k ∧ x = .int .i64 k ∧ v = .string (bs (endL r (cs.take k))) ∧ wr.ownsRow w.heap.size 9 1 u k (strV ((leadL r cs).take k)) ∧ Below w.heap.size w wr)
  case atStart => exact ⟨0, by omega, by omega, rfl, rfl, World.ownsRow_nil _ _ _ _, Below.refl _ _⟩
  case round =>
    obtain ⟨k, hk, rfl, rfl, rfl, ho, hb⟩ := hrel
    by_cases hlt : k < n
    · obtain ⟨b, o, rfl, hj', hc⟩ := (RS.out.below hb).str hlt
      have hst := hid (lead_step r cs k hj')
      have hen := hid (end_take r cs k hj')
      have hT := hid (fun w => l2Apply_any (endL r (cs.take k)) cs[k] w (end_row _ _ HR.out) (by rw [end_len]; exact HS.out _ (List.getElem_mem hj')))
      have hk0 : (0 : Int) ≤ (k : Int) := by omega
      have hk1 : (k : Int) < (n : Int) := by omega
      have HO := hid ho
      have HB := hid hb
      have HBs := hb.size
      have hlim : k + 1 ≤ 1000000000000 := by omega
      obtain ⟨X, hX⟩ : ∃ X, X = endL r (cs.take k) := ⟨_, rfl⟩
      rw [← hX] at hst hen hT
      have HXX := hid hX
      obtain ⟨Y, hY⟩ : ∃ Y, Y = cs[k] := ⟨_, rfl⟩
      rw [← hY] at hc hen hT
      rw [← hX]
      clear ho hb hX hY
      have hc2 := hid hc
      clear hc
      have hcB : ∀ (w5 : World), Below wr.heap.size wr w5 → w5.cell? ⟨b, o + k, none⟩ = some (.string (bs Y)) := fun w5 h5 => (h5.cell (World.block_lt_of_cell? wr _ hc2.out)).trans hc2.out
      have HCB := hid hcB
      clear hcB
      have hc := hc2.out
      go_wp2_with (at_builtin; refine app_str _ (by rfl) _ _ (by rfl) w.heap.size _ _ _ (by rfl) (HO.out.alloc _) (some ⟨wr.heap.size, 0, none⟩) 1 1 [X] (by rfl) (Rd.blk _ [.string (bs X)] _) hlim (by simp; omega) ?_; intro v5 w5 o5 g5)
      refine (hT.out _).mono ?_
      rintro e w6 ⟨rfl, b6⟩
      have O6 := hid (own_below o5 b6)
      have B5 := hid ((HB.out.alloc (by omega) (.cells #[.string (bs X)] 9)).grown g5 (by simp; omega) fun q hq => (HO.out.lt q hq).1)
      have B6 := hid (B5.out.trans (b6.mono B5.out.size))
      clear o5 g5 b6
      go_wp2
      go_roundg (n - (k + 1))
      case measure => omega
      case rel =>
        have h6 := O6.out
        rw [hst.out] at h6
        exact ⟨k + 1, by omega, rfl, by go_num, by rw [hen.out], h6, B6.out⟩
    · obtain rfl : k = n := by omega
      have e0 : (leadL r cs).take k = leadL r cs := List.take_of_length_le (by rw [lead_len, hl.out]; omega)
      have e1 : cs.take k = cs := List.take_of_length_le (by rw [hl.out]; omega)
      rw [e0] at ho
      rw [e1]
      obtain ⟨A2, c2, rfl, _⟩ := own_shape ho
      have HO := hid ho
      clear ho e0 e1
      go_wp2
      go_ret2
      exact ⟨_, rfl, by rw [hl.out]; exact HO.out, hb⟩
theorem rowsUnder_any (A : Option Addr) (n c : Nat) (cs : List (List UInt8)) (r : List UInt8) (w : World) (hr : Rd w A n (strV cs)) (hn : n ≤ 1048576) (hrow : IsRow r) (hs : ∀ x ∈ cs, okChange r.length x = true) :
    Calls Tryz.prog 76 #[.string (bs r), .slice A n c] w (OneS w (scanL r cs)) := by
  have hl := hid (show cs.length = n by have := hr.1; rw [strV_len] at this; exact this)
  have HS := hid hs
  have HR := hid hrow
  have RS := hid hr
  clear hs hrow hr
  go_enter Tryz.func76, Tryz.ntmps76
  go_wp2
  go_loopg [0, 5, 12] n (fun gk v u x wr => ∃ k : Nat, k ≤ n ∧ gk = n - k ∧ x = .int .i64 k ∧ v = .string (bs (endL r (cs.take k))) ∧ wr.ownsRow w.heap.size 9 1 u (k + 1) (strV (scanL r (cs.take k))) ∧ Below w.heap.size w wr)
  case atStart => exact ⟨0, by omega, by omega, rfl, rfl, own_of_blk (Blk.new _ _ #[.string (bs r)]) (Nat.le_refl _) (by simp [maxLen]), (Below.refl _ _).alloc (Nat.le_refl _) _⟩
  case round =>
    obtain ⟨k, hk, rfl, rfl, rfl, ho, hb⟩ := hrel
    by_cases hlt : k < n
    · obtain ⟨b, o, rfl, hj', hc⟩ := (RS.out.below hb).str hlt
      have hst := hid (scan_take r cs k hj')
      have hen := hid (end_take r cs k hj')
      have hT := hid (fun w => apply_any (endL r (cs.take k)) cs[k] w (end_row _ _ HR.out) (by rw [end_len]; exact HS.out _ (List.getElem_mem hj')))
      have hk0 : (0 : Int) ≤ (k : Int) := by omega
      have hk1 : (k : Int) < (n : Int) := by omega
      have HO := hid ho
      have HB := hid hb
      have HBs := hb.size
      have hlim : k + 1 + 1 ≤ 1000000000000 := by omega
      obtain ⟨Y, hY⟩ : ∃ Y, Y = cs[k] := ⟨_, rfl⟩
      rw [← hY] at hc hen hT hst
      rw [← hen.out] at hT hst
      clear ho hb hY
      obtain ⟨X2, hX2⟩ : ∃ X, X = endL r (cs.take (k + 1)) := ⟨_, rfl⟩
      rw [← hX2] at hT hst
      have HX2 := hid hX2
      clear hX2
      go_wp2_with fail
      refine (hT.out _).mono ?_
      rintro e w2 ⟨rfl, b2⟩
      have HO2 := hid (own_below HO.out b2)
      have HB2 := hid (HB.out.trans (b2.mono HBs))
      have hs2 := b2.size
      clear b2
      go_wp2_with (at_builtin; refine app_str _ (by rfl) _ _ (by rfl) w.heap.size _ _ _ (by rfl) (HO2.out.alloc _) (some ⟨w2.heap.size, 0, none⟩) 1 1 [X2] (by rfl) (Rd.blk _ [.string (bs X2)] _) hlim (by simp; omega) ?_; intro v5 w5 o5 g5)
      go_roundg (n - (k + 1))
      case measure => omega
      case rel =>
        rw [hst.out] at o5
        exact ⟨k + 1, by omega, rfl, by go_num, by rw [HX2.out], o5, (HB2.out.alloc (by omega) _).grown g5 (by simp; omega) fun q hq => (HO2.out.lt q hq).1⟩
    · obtain rfl : k = n := by omega
      have e1 : cs.take k = cs := List.take_of_length_le (by rw [hl.out]; omega)
      rw [e1] at ho ⊢
      have HSC := hid (show (scanL r cs).length = k + 1 by rw [scan_len, hl.out])
      have HO := hid ho
      clear ho e1
      go_wp2
      go_ret
      exact ⟨_, rfl, by rw [HSC.out]; exact HO.out, hb⟩

/-- What holds of a valid method: its stage as a natural number, its changes. -/
theorem meth_parts {m : Meth} (h : methB m = true) : ∃ N : Nat, m.st = N ∧ 3 ≤ N ∧ N ≤ 8 ∧ 1 ≤ m.ch.length ∧ m.ch.length ≤ 40 ∧ ∀ x ∈ m.ch, okChange (N : Int) x = true := by
  have h1 := methB_chs h
  have h2 := chsB_stage h1
  obtain ⟨N, hN⟩ := Int.eq_ofNat_of_zero_le (show 0 ≤ m.st by omega)
  have h3 := chsB_len h1
  exact ⟨N, hN, by omega, by omega, h3.1, h3.2, fun x hx => by rw [← hN]; exact chsB_ok h1 hx⟩
/-- The lead's head of changes of stage N. -/
def headL (N : Nat) (cs : List (List UInt8)) : List UInt8 := endL (roundsL N) cs
theorem headL_len (N : Nat) (cs : List (List UInt8)) : (headL N cs).length = N := by rw [headL, end_len, rounds_len]
theorem headL_row {N : Nat} (lo : 3 ≤ N) (hi : N ≤ 8) (cs : List (List UInt8)) : IsRow (headL N cs) := end_row _ _ (rounds_row lo hi)
theorem scan_last (r : List UInt8) (cs : List (List UInt8)) : (scanL r cs)[cs.length]? = some (endL r cs) := by
  have := scan_at cs r cs.length (Nat.le_refl _)
  rwa [List.take_length] at this

theorem leadHead_any (N : Nat) (nm : List UInt8) (cs : List (List UInt8)) (A : Option Addr) (n c : Nat) (w : World) (lo : 3 ≤ N) (hi : N ≤ 8) (hr : Rd w A n (strV cs)) (hn : n ≤ 1048576) (hs : ∀ x ∈ cs, okChange (N : Int) x = true) :
    Calls Tryz.prog 61 #[.agg #[.string (bs nm), .int .i64 N, .slice A n c]] w fun e w' => e = .returned (.string (bs (headL N cs))) ∧ Below w.heap.size w w' := by
  have hl := hid (show cs.length = n by have := hr.1; rw [strV_len] at this; exact this)
  have HR := fun w0 => hid (rounds_any N w0 hi)
  have HU := fun (w0 : World) (rd : Rd w0 A n (strV cs)) => hid (rowsUnder_any A n c cs (roundsL N) w0 rd hn (rounds_row lo hi) (by rw [rounds_len]; exact hs))
  have RS := hid hr
  clear hr hs
  have q1 : (w.alloc (.cells #[.string (bs nm), .int .i64 (N : Int), .slice A n c] 31)).drew.cell? ⟨w.heap.size, 1, none⟩ = some (.int .i64 (N : Int)) := (Blk.new w 31 #[.string (bs nm), .int .i64 (N : Int), .slice A n c]).cell 1
  have q2 : (w.alloc (.cells #[.string (bs nm), .int .i64 (N : Int), .slice A n c] 31)).drew.cell? ⟨w.heap.size, 2, none⟩ = some (.slice A n c) := (Blk.new w 31 #[.string (bs nm), .int .i64 (N : Int), .slice A n c]).cell 2
  have hB : w.heap.size < (w.alloc (.cells #[.string (bs nm), .int .i64 (N : Int), .slice A n c] 31)).drew.heap.size := by simp
  go_enter Tryz.func61, Tryz.ntmps61
  go_wp2_with fail
  go_region_held3 (fun w' => w'.cell? ⟨w.heap.size, 1, none⟩ = some (.int .i64 (N : Int)) ∧ w'.cell? ⟨w.heap.size, 2, none⟩ = some (.slice A n c)) (first | exact ⟨q1, q2⟩ | exact ⟨(b1.cell (p := ⟨w.heap.size, 1, none⟩) hB).trans q1, (b1.cell (p := ⟨w.heap.size, 2, none⟩) hB).trans q2⟩)
    (first | (go_at_call 38; refine (HR _).out.mono ?_; rintro e w' ⟨rfl, rfl⟩) | (go_at_call 76; refine (HU _ ((RS.out.alloc _).drewN 1)).out.mono ?_; rintro e w1 ⟨v1, rfl, o1, b1⟩))
  rw [scan_len, hl.out] at o1
  obtain ⟨A1, c1, rfl, _, _, rd1, _⟩ := own_shape o1
  obtain ⟨bq, oq, rfl, hk, hc⟩ := rd1.str (show n < n + 1 by omega)
  have e1 : (scanL (roundsL N) cs)[n] = headL N cs := by
    have h1 := scan_last (roundsL N) cs
    rw [hl.out, List.getElem?_eq_getElem hk] at h1
    injection h1
  rw [e1] at hc
  have HB := hid ((((Below.refl w.heap.size w).alloc (Nat.le_refl _) (.cells #[.string (bs nm), .int .i64 (N : Int), .slice A n c] 31)).drew).trans (b1.mono (by simp)))
  have i0 : (0 : Int) ≤ (n : Int) := Int.natCast_nonneg n
  have hw0 : wrap64 (n : Int) = (n : Int) := by unfold wrap64; omega
  clear o1 b1 rd1 e1 hk q1 q2 hB
  go_wp2
  go_ret
  exact ⟨rfl, HB.out⟩

theorem scan_lead (r : List UInt8) (cs : List (List UInt8)) : (scanL r cs).take cs.length = leadL r cs := rfl
/-- The first rows of an owned row are owned. -/
theorem own_take {w : World} {base : Nat} {e : TypeId} {A : Option Addr} {n c k : Nat} {xs : List Value} (h : w.ownsRow base e 1 (.slice A n c) n xs) (hk : k ≤ n) (hn : 0 < n) : w.ownsRow base e 1 (.slice A k c) k (xs.take k) := by
  rcases h.2 with ⟨hv, hx⟩ | ⟨g, cap, cur, hv, hg, hh, hc, hm, r1, r2⟩
  · injection hv with h1 h2 h3
    omega
  · injection hv with h1 h2 h3
    subst h1 h3
    refine ⟨by have := h.1; rw [List.length_take]; omega, .inr ⟨g, c, cur, rfl, hg, hh, by omega, hm, r1, ?_⟩⟩
    rw [← r2, List.take_take]
    congr 1
    omega
end Go.Proofs.YtihaopijnkiafaaGreatDoor
