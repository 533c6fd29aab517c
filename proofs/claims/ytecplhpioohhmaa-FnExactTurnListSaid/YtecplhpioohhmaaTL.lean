/- Contracts of TurnList, in the reference and in the program. No conditions beyond those stated. -/
import Derived.Test.YtecplhpioohhmaaConc
import Derived.Test.YtecplhpioohhmaaSort6
set_option linter.unusedVariables false
set_option linter.unusedSimpArgs false
set_option maxRecDepth 100000
namespace Go.Proofs.Ytecplhpioohhmaa
open Go.RowKit

/-- The list that begins with its row k, over that row. -/
def turnTo (l : List (List UInt8)) (k : Nat) : List (List UInt8) := (l.drop k ++ l.take k).map (timesL (turnL (l.getD k [])))
/-- What TurnList answers. -/
def turnListR (l : List (List UInt8)) (k : Int) : List (List UInt8) × Bool := if (rowsB l && (decide (0 ≤ k) && decide (k < l.length))) = true then (turnTo l k.toNat, true) else ([], false)
theorem turnTo_len (l : List (List UInt8)) (k : Nat) : (turnTo l k).length = l.length := by
  unfold turnTo
  rw [List.length_map, List.length_append, List.length_take, List.length_drop]; omega
theorem turnListR_le (l : List (List UInt8)) (k : Int) (hnl : l.length ≤ 1048576) : (turnListR l k).1.length ≤ 4000000 := by
  unfold turnListR
  split
  · show (turnTo l k.toNat).length ≤ 4000000
    rw [turnTo_len]; omega
  · simp
theorem turnListR_no {l : List (List UInt8)} {k : Int} (h : (rowsB l && (decide (0 ≤ k) && decide (k < l.length))) = false) : turnListR l k = ([], false) := by unfold turnListR; rw [h]; rfl
set_option maxHeartbeats 1000000 in
theorem implTurnList_any (A : Option Addr) (n c : Nat) (l : List (List UInt8)) (k : Int) (w : World) (hr : Rd w A n (strV l)) (hcap : n ≤ c) (hn : l.length ≤ 1048576) (hs : ∀ s ∈ l, s.length ≤ 1048576) :
    Calls Try.prog 32 #[.slice A n c, .int .i64 k] w (ResS w (turnListR l k)) := by
  have hl : l.length = n := by have := hr.1; rw [strV_len] at this; exact this
  have HG := hid (goodRows_any A n c l w hr (by omega) hs)
  cases hb : rowsB l
  · have HR := hid (turnListR_no (l := l) (k := k) (by rw [hb]; rfl))
    rw [hb] at HG
    clear hr hs hb
    go_enter Try.func32, Try.ntmps32
    go_wp2_with fail
    refine HG.out.mono ?_
    rintro e w' ⟨rfl, rfl⟩
    go_wp2
    go_ret2
    rw [HR.out]
    exact ResS.none _ _ (Below.refl _ _)
  · rw [hb] at HG
    by_cases hk : 0 ≤ k ∧ k < n
    · obtain ⟨hk0, hk1⟩ := hk
      obtain ⟨j, rfl⟩ : ∃ j : Nat, k = j := ⟨k.toNat, by omega⟩
      have hj : j < n := by omega
      have h800 := rowsB_len hb
      have HR := hid (show turnListR l (j : Int) = (turnTo l j, true) by
        unfold turnListR
        rw [hb, decide_eq_true hk0, decide_eq_true (show (j : Int) < (l.length : Int) by omega)]; rfl)
      have hjl : j < l.length := by omega
      have hrow := rowsB_row hb hjl
      obtain ⟨b, o, rfl, hj', hc0⟩ := hr.str hj
      have hgd : l.getD j [] = l[j] := by simp [List.getD, hjl]
      have hall : ∀ (i : Nat) (hi : i < (l.drop j ++ l.take j).length), IsRow (l.drop j ++ l.take j)[i] ∧ (l.drop j ++ l.take j)[i].length = (turnL l[j]).length := fun i hi => by
        have hm : (l.drop j ++ l.take j)[i] ∈ l := by
          have := List.getElem_mem hi
          rw [List.mem_append] at this
          exact this.elim List.mem_of_mem_drop List.mem_of_mem_take
        obtain ⟨q, hq, e⟩ := List.mem_iff_getElem.1 hm
        have := rowsB_row hb hq
        rw [← e, turn_len, hrow.2]
        exact this
      have hrl : (l.drop j ++ l.take j).length = n := by rw [List.length_append, List.length_take, List.length_drop]; omega
      have HTT := hid (show turnTo l j = (l.drop j ++ l.take j).map (timesL (turnL l[j])) by unfold turnTo; rw [hgd])
      obtain ⟨X, hX⟩ : ∃ X, X = l[j] := ⟨_, rfl⟩
      rw [← hX] at hc0 hrow HTT
      simp only [← hX] at hall
      have HT := hid (fun w0 => turned_any X w0 hrow.1)
      have HRo := hid (rotated_any (some ⟨b, o, none⟩) n c j l w hr hj hcap (by omega))
      have HLf := hid (fun A' c' w0 (r0 : Rd w0 A' (l.drop j ++ l.take j).length (strV (l.drop j ++ l.take j))) => leftTimes_any (turnL X) A' _ c' _ w0 r0 (by omega) (turn_row hrow.1) hall)
      have HRo2 := hid (fun w0 (rd : Rd w0 (some ⟨b, o, none⟩) n (strV l)) => rotated_any (some ⟨b, o, none⟩) n c j l w0 rd hj hcap (by omega))
      have RS := hid hr
      have hk2 : ¬ (n : Int) ≤ (j : Int) := by omega
      obtain ⟨Z, hZ⟩ : ∃ Z, Z = l.drop j ++ l.take j := ⟨_, rfl⟩
      rw [← hZ] at HLf HTT
      simp only [← hZ] at HRo2
      have HTL := hid (show (turnTo l j).length = Z.length by rw [HTT.out, List.length_map])
      clear hr hs hb hgd hall hX hrl hrow HRo hZ
      go_enter Try.func32, Try.ntmps32
      go_wp2_with fail
      refine HG.out.mono ?_
      rintro e w' ⟨rfl, rfl⟩
      go_wp2_with fail
      refine (HT.out _).mono ?_
      rintro e w1 ⟨rfl, b1⟩
      have HB1 := hid b1
      clear b1
      go_wp2_with fail
      refine (HRo2.out _ (RS.out.below HB1.out)).mono ?_
      rintro e w2 ⟨v2, rfl, o2, b2⟩
      obtain ⟨A2, c2, rfl, _, _, rd2, _⟩ := own_shape o2
      have RD2 := hid rd2
      have HB2 := hid (HB1.out.trans (b2.mono HB1.out.size))
      clear o2 rd2 b2
      go_wp2_with fail
      refine (HLf.out _ _ _ RD2.out).mono ?_
      rintro e w3 ⟨v3, rfl, o3, b3⟩
      have HB3 := hid (HB2.out.trans (b3.mono HB2.out.size))
      have O3 := hid (own_mono o3 HB2.out.size)
      clear o3 b3
      go_wp2
      go_ret2
      rw [HR.out]
      exact ⟨_, rfl, by dsimp only; rw [HTT.out]; exact O3.out, HB3.out⟩
    · have HR := hid (turnListR_no (l := l) (k := k) (by
        rw [hb, hl, Bool.true_and]
        rcases Classical.not_and_iff_not_or_not.1 hk with h | h
        · rw [decide_eq_false h]; rfl
        · rw [decide_eq_false h, Bool.and_false]))
      by_cases h0 : k < 0
      · clear hr hs hb hk
        go_enter Try.func32, Try.ntmps32
        go_wp2_with fail
        refine HG.out.mono ?_
        rintro e w' ⟨rfl, rfl⟩
        go_wp2
        go_ret2
        rw [HR.out]
        exact ResS.none _ _ (Below.refl _ _)
      · have h1 : (n : Int) ≤ k := by omega
        clear hr hs hb hk
        go_enter Try.func32, Try.ntmps32
        go_wp2_with fail
        refine HG.out.mono ?_
        rintro e w' ⟨rfl, rfl⟩
        go_wp2
        go_ret2
        rw [HR.out]
        exact ResS.none _ _ (Below.refl _ _)
set_option maxHeartbeats 1000000 in
theorem specTurnList_any (A : Option Addr) (n c : Nat) (l : List (List UInt8)) (k : Int) (w : World) (hr : Rd w A n (strV l)) (hcap : n ≤ c) (hn : l.length ≤ 1048576) (hs : ∀ s ∈ l, s.length ≤ 1048576) :
    Calls Try.prog 31 #[.slice A n c, .int .i64 k] w (ResS w (turnListR l k)) := by
  have hl : l.length = n := by have := hr.1; rw [strV_len] at this; exact this
  have HG := hid (l6Rows_any A n c l w hr (by omega) hs)
  cases hb : rowsB l
  · have HR := hid (turnListR_no (l := l) (k := k) (by rw [hb]; rfl))
    rw [hb] at HG
    clear hr hs hb
    go_enter Try.func31, Try.ntmps31
    go_wp2_with fail
    refine HG.out.mono ?_
    rintro e w' ⟨rfl, m, rfl⟩
    go_wp2
    go_ret2
    rw [HR.out]
    exact ResS.none _ _ (below_drewN (Below.refl _ _) _)
  · rw [hb] at HG
    by_cases hk : 0 ≤ k ∧ k < n
    · obtain ⟨hk0, hk1⟩ := hk
      obtain ⟨j, rfl⟩ : ∃ j : Nat, k = j := ⟨k.toNat, by omega⟩
      have hj : j < n := by omega
      have h800 := rowsB_len hb
      have HR := hid (show turnListR l (j : Int) = (turnTo l j, true) by
        unfold turnListR
        rw [hb, decide_eq_true hk0, decide_eq_true (show (j : Int) < (l.length : Int) by omega)]; rfl)
      have hjl : j < l.length := by omega
      have hrow := rowsB_row hb hjl
      obtain ⟨b, o, rfl, hj', hc0⟩ := hr.str hj
      have hgd : l.getD j [] = l[j] := by simp [List.getD, hjl]
      have hall : ∀ (i : Nat) (hi : i < (l.drop j ++ l.take j).length), IsRow (l.drop j ++ l.take j)[i] ∧ (l.drop j ++ l.take j)[i].length = (turnL l[j]).length := fun i hi => by
        have hm : (l.drop j ++ l.take j)[i] ∈ l := by
          have := List.getElem_mem hi
          rw [List.mem_append] at this
          exact this.elim List.mem_of_mem_drop List.mem_of_mem_take
        obtain ⟨q, hq, e⟩ := List.mem_iff_getElem.1 hm
        have := rowsB_row hb hq
        rw [← e, turn_len, hrow.2]
        exact this
      have hrl : (l.drop j ++ l.take j).length = n := by rw [List.length_append, List.length_take, List.length_drop]; omega
      have HTT := hid (show turnTo l j = (l.drop j ++ l.take j).map (timesL (turnL l[j])) by unfold turnTo; rw [hgd])
      obtain ⟨X, hX⟩ : ∃ X, X = l[j] := ⟨_, rfl⟩
      rw [← hX] at hc0 hrow HTT
      simp only [← hX] at hall
      obtain ⟨i0, hi, hz0, hz1, hz2⟩ := info_parts infoStr
      have hdl : (l.drop j).length = n - j := by rw [List.length_drop, hl]
      have htl : (l.take j).length = j := by rw [List.length_take]; omega
      have HRD := hid (fun w0 (rd : Rd w0 (some ⟨b, o, none⟩) n (strV l)) => (by have := rd.drop_ j (by omega); rw [← strV_drop] at this; exact this : Rd w0 (some ⟨b, o + j, none⟩) (n - j) (strV (l.drop j))))
      have HRT := hid (fun w0 (rd : Rd w0 (some ⟨b, o, none⟩) n (strV l)) => (by have := rd.take_ j (by omega); rw [← strV_take] at this; exact this : Rd w0 (some ⟨b, o, none⟩) j (strV (l.take j))))
      have HDL := hid hdl
      have HTN := hid htl
      have HRLn := hid hrl
      have HT := hid (fun w0 => l1Turn_any X w0 hrow.1)
      have HOw := hid (fun c0 w0 (rd : Rd w0 (some ⟨b, o + j, none⟩) (n - j) (strV (l.drop j))) => l1OwnS_any _ (n - j) c0 (l.drop j) w0 rd (by omega))
      have HLf := hid (fun A' c' w0 (r0 : Rd w0 A' n (strV (l.drop j ++ l.take j))) => l6Left_any (turnL X) A' n c' (l.drop j ++ l.take j) w0 r0 (by omega) (turn_row hrow.1) hall)
      have RS := hid hr
      have HI := hid (fun (a b c : Int) w0 => l1In_any a b c w0)
      have d1 : decide ((0 : Int) ≤ (j : Int)) = true := decide_eq_true hk0
      have d2 : decide ((j : Int) ≤ (n : Int) - 1) = true := decide_eq_true (by omega)
      have k2 : (j : Int) ≤ (n : Int) := by omega
      have k3 : (j : Int) ≤ (c : Int) := by omega
      have k4 : ¬ c = j := by omega
      have hn8 : n ≤ 800 := by omega
      have hsum : n - j + j = n := by omega
      have HSM := hid hsum
      have HC0 := hid hc0
      clear hr hs hb hgd hall hX hrl hrow hdl htl hsum hc0
      go_enter Try.func31, Try.ntmps31
      go_wp2_with fail
      refine HG.out.mono ?_
      rintro e w' ⟨rfl, m, rfl⟩
      go_wp2_with (go_at_call 60; refine (HI.out _ _ _ _).mono ?_; rintro e w' ⟨rfl, rfl⟩)
      obtain ⟨W, hW⟩ : ∃ W, W = w.drewN m := ⟨_, rfl⟩
      have RW := hid (show Rd W (some ⟨b, o, none⟩) n (strV l) by rw [hW]; exact RS.out.drewN m)
      have HBW := hid (show Below w.heap.size w W by rw [hW]; exact below_drewN (Below.refl _ _) m)
      have hcw : W.cell? ⟨b, o + j, none⟩ = some (.string (bs X)) := by rw [hW]; exact HC0.out
      rw [← hW]
      have hww : w.heap.size ≤ W.heap.size := HBW.out.size
      clear hW
      have HC9 := hid (show ∀ W', Below W.heap.size W W' → W'.cell? ⟨b, o + j, none⟩ = some (.string (bs X)) from fun W' h => (h.cell (p := ⟨b, o + j, none⟩) (World.block_lt_of_cell? W _ hcw)).trans hcw)
      go_region_held3 (fun w' => w'.cell? ⟨b, o + j, none⟩ = some (.string (bs X)))
        (first | exact HC9.out _ (Below.refl _ _) | exact HC9.out _ (Below.refl _ _).drew | exact HC9.out _ Fa | exact HC9.out _ Fb | exact HC9.out _ Fc | exact HC9.out _ Fd)
        (first | (go_at_call 62; refine (HT.out _).mono ?_; rintro e wa ⟨rfl, ba⟩; have Fa := (Below.refl W.heap.size W).drew.trans (ba.mono (Nat.le_refl _)))
                | (go_at_call 63; refine (HOw.out _ _ (HRD.out _ (RW.out.below Fa))).mono ?_; rintro e wb ⟨vb, rfl, ob, bb⟩; rw [HDL.out] at ob; obtain ⟨Ab, cb, rfl, _⟩ := own_shape ob; have Fb := Fa.trans (bb.mono Fa.size))
                | (refine wp_append_rd _ (.tmp 25) (.tmp 28) 35 rfl wa.heap.size 9 i0 _ 16 Try.underlying35 hi hz0 hz1 hz2 rfl _ (n - j) (strV (l.drop j)) rfl ob (some ⟨b, o, none⟩) j c (strV (l.take j)) rfl (HRT.out _ (RW.out.below Fb)) (strV_one _) (by unfold maxLen; omega) (by omega) bb.size ?_; intro v5 w5 o5 g5 f5; rw [strV_app, HSM.out] at o5; obtain ⟨A5, c5, rfl, _, _, rd5, _⟩ := own_shape o5; have Fc : Below W.heap.size W w5 := Fb.grown g5 Fb.size (fun q hq => Nat.le_trans Fa.size (ob.lt q hq).1))
                | (go_at_call 61; refine (HLf.out _ _ _ rd5).mono ?_; rintro e w6 ⟨v6, rfl, o6, b6⟩; have Fd := Fc.trans (b6.mono Fc.size)))
      have HFd := hid Fd
      have O6 := hid (own_mono o6 Fc.size)
      clear ba ob bb o5 g5 f5 rd5 o6 b6 Fa Fb Fc Fd
      go_wp2
      go_ret2
      rw [HR.out]
      exact ⟨_, rfl, by dsimp only; rw [HTT.out]; exact own_mono O6.out hww, HBW.out.trans (HFd.out.mono hww)⟩
    · have HR := hid (turnListR_no (l := l) (k := k) (by
        rw [hb, hl, Bool.true_and]
        rcases Classical.not_and_iff_not_or_not.1 hk with h | h
        · rw [decide_eq_false h]; rfl
        · rw [decide_eq_false h, Bool.and_false]))
      have hd : (decide (0 ≤ k) && decide (k ≤ (n : Int) - 1)) = false := by
        rcases Classical.not_and_iff_not_or_not.1 hk with h | h
        · rw [decide_eq_false h]; rfl
        · rw [decide_eq_false (show ¬ k ≤ (n : Int) - 1 by omega), Bool.and_false]
      have HI := hid (fun (a b c : Int) w0 => l1In_any a b c w0)
      have hn0 : n ≤ 1048576 := by omega
      clear hr hs hb hk
      go_enter Try.func31, Try.ntmps31
      go_wp2_with fail
      refine HG.out.mono ?_
      rintro e w' ⟨rfl, m, rfl⟩
      go_wp2_with (go_at_call 60; refine (HI.out _ _ _ _).mono ?_; rintro e w' ⟨rfl, rfl⟩)
      go_ret2
      rw [HR.out]
      exact ResS.none _ _ (below_drewN (Below.refl _ _) _)
end Go.Proofs.Ytecplhpioohhmaa
