/- Contracts of the changes of a list of rows: between two rows, in the reference; of a whole list, in the reference and in the program. No conditions beyond those stated. -/
import Derived.Test.YtecplhpioohhmaaAllL
import Derived.Test.YtecplhpioohhmaaBtw
import Derived.Test.YtecplhpioohhmaaLead
import Derived.Test.YtecplhpioohhmaaRowL
set_option linter.unusedVariables false
set_option linter.unusedSimpArgs false
set_option maxRecDepth 100000
namespace Go.Proofs.Ytecplhpioohhmaa
open Go.RowKit

theorem firstCh_eq (a b : List UInt8) : firstCh a b = (match (allCh a.length).find? (fun c => applyL a c == b) with | none => ([], false) | some c => (c, true)) := rfl
set_option maxHeartbeats 1000000 in
theorem specBetween_any (a b : List UInt8) (w : World) (ha : IsRow a) (hb : IsRow b) (hl : a.length = b.length) :
    Calls Try.prog 96 #[.string (bs a), .string (bs b)] w fun e w' => e = .returned (.tuple #[.string (bs (firstCh a b).1), .bool (firstCh a b).2]) ∧ Below w.heap.size w w' := by
  have h8 := ha.hi
  have HTw := hid (l1Two_any a b w (by omega) (by have := hb.hi; omega))
  have hrow : rowB a = true := (rowB_iff a).2 ha
  have hrow2 : rowB b = true := (rowB_iff b).2 hb
  have h2 : twoB a b = true := by simp [twoB, hrow, hrow2, hl]
  rw [h2] at HTw
  have HL := fun w0 => hid (l2All_any a.length w0 ha.lo ha.hi)
  have HOk := hid (allCh_ok ha.lo ha.hi)
  have HAp := hid (fun c (hc : okChange (a.length : Int) c = true) w0 => l2Apply_any a c w0 ha hc)
  have HF := hid (firstCh_eq a b)
  obtain ⟨L, hL⟩ : ∃ L, L = allCh a.length := ⟨_, rfl⟩
  have hLn : L.length ≤ 256 := by rw [hL, ← allTo_all a.length _ (Nat.le_refl _)]; exact allTo_len _ _ h8
  rw [← hL] at HL HOk HF
  clear ha hb hl hrow hrow2 h2 hL
  go_enter Try.func96, Try.ntmps96
  go_wp2_with fail
  refine HTw.out.mono ?_
  rintro e w' ⟨rfl, m, rfl⟩
  go_wp2_with fail
  refine (HL _).out.mono ?_
  rintro e w1 ⟨v1, rfl, o1, b1⟩
  obtain ⟨A1, c1, rfl, _, _, rd1, _⟩ := own_shape o1
  have RD1 := hid rd1
  have HB1 := hid ((below_drewN (Below.refl w.heap.size w) m).trans b1)
  have hw1 := HB1.out.size
  clear o1 rd1 b1
  go_wp2
  go_loopg [16] L.length (fun gk v wr => ∃ k : Nat, k ≤ L.length ∧ gk = L.length - k ∧ v = .int .i64 k ∧ Hid ((L.drop k).find? (fun c => applyL a c == b) = L.find? (fun c => applyL a c == b)) ∧ Below w1.heap.size w1 wr)
  case atStart => exact ⟨0, by omega, by omega, rfl, rfl, Below.refl _ _⟩
  case round =>
    obtain ⟨k, hk, rfl, rfl, hf, hb⟩ := hrel
    by_cases hlt : k < L.length
    · obtain ⟨b', o', rfl, hk', hc⟩ := (RD1.out.below hb).str hlt
      have hok := HOk.out _ (List.getElem_mem hk')
      have hd := hid (List.drop_eq_getElem_cons hk')
      obtain ⟨c, hcc⟩ : ∃ c, c = L[k] := ⟨_, rfl⟩
      rw [← hcc] at hc hok hd
      have HA := hid (HAp.out c hok)
      have HB := hid hb
      have hbs := hb.size
      have hk0 : (0 : Int) ≤ (k : Int) := by omega
      have hk1 : (k : Int) < (L.length : Int) := by omega
      clear hb hok hcc
      go_wp2_with fail
      refine (HA.out _).mono ?_
      rintro e w2 ⟨rfl, b2⟩
      have HB2 := hid (HB.out.trans (b2.mono hbs))
      clear b2
      cases hE : (applyL a c == b)
      · have HN := hid (show (L.drop (k + 1)).find? (fun c => applyL a c == b) = L.find? (fun c => applyL a c == b) by
          rw [← hf.out, hd.out, List.find?_cons, hE])
        go_wp2
        go_roundg (L.length - (k + 1))
        case measure => omega
        case rel => exact ⟨k + 1, by omega, rfl, by go_num, HN, HB2.out⟩
      · have HY := hid (show firstCh a b = (c, true) by
          rw [HF.out, ← hf.out, hd.out, List.find?_cons, hE])
        go_wp2
        go_ret2
        rw [HY.out]
        exact ⟨rfl, HB1.out.trans (HB2.out.mono hw1)⟩
    · have HY := hid (show firstCh a b = ([], false) by
        rw [HF.out, ← hf.out, List.drop_of_length_le (by omega)]; rfl)
      have HB := hid hb
      clear hb
      go_wp2
      go_ret2
      rw [HY.out]
      exact ⟨rfl, HB1.out.trans (HB.out.mono hw1)⟩

theorem ge2_mod {k n : Nat} (h : 0 < n) : (((k : Int) + 1) % (n : Int)) = (((k + 1) % n : Nat) : Int) := by rw [Int.natCast_emod]; rfl

set_option maxHeartbeats 1000000 in
theorem l7Changes_any (A : Option Addr) (n c : Nat) (l : List (List UInt8)) (w : World) (hr : Rd w A n (strV l)) (hs : rowsB l = true) :
    Calls Try.prog 70 #[.slice A n c] w (ResS w (changesR l)) := by
  have hl : l.length = n := by have := hr.1; rw [strV_len] at this; exact this
  have h800 := rowsB_len hs
  have HRow := hid (fun k (hk : k < l.length) => rowsB_row hs hk)
  have HL := hid hl
  have hn : n ≤ 800 := by omega
  have RS := hid hr
  have HC := hid (fun (h : okTo l l.length = true) (h0 : 0 < l.length) => show changesR l = (chgTo l l.length, true) by unfold changesR; rw [h, decide_eq_true h0]; rfl)
  have HB0 := hid (fun h : okTo l l.length = false => show changesR l = ([], false) by unfold changesR; rw [h, Bool.and_false]; rfl)
  have H1 := hid (changesR_one l)
  clear hr hs hl
  go_enter Try.func70, Try.ntmps70
  go_wp2
  go_loopg [4, 11] n (fun gk u v wr => ∃ k : Nat, k ≤ n ∧ gk = n - k ∧ v = .int .i64 k ∧ Hid (okTo l k = true) ∧ wr.ownsRow w.heap.size 9 1 u k (strV (chgTo l k)) ∧ Below w.heap.size w wr)
  case atStart => exact ⟨0, by omega, by omega, rfl, rfl, World.ownsRow_nil _ _ _ _, Below.refl _ _⟩
  case round =>
    obtain ⟨k, hk, rfl, rfl, hok, ho, hb⟩ := hrel
    by_cases hlt : k < n
    · have h0n : 0 < n := by omega
      obtain ⟨b, o, rfl, hk', hc⟩ := (RS.out.below hb).str hlt
      have hql : (k + 1) % n < n := Nat.mod_lt _ h0n
      obtain ⟨b2, o2, e2, hq', hcq⟩ := (RS.out.below hb).str hql
      injection e2 with e2
      injection e2 with f1 f2 _
      subst f1 f2
      have hrm := ge2_mod (k := k) (n := n) h0n
      obtain ⟨q, hq⟩ : ∃ q, q = (k + 1) % n := ⟨_, rfl⟩
      have hqn : q < n := by omega
      have hql' : q < l.length := by have := HL.out; omega
      have e1 : l[(k + 1) % n] = l[q] := by simp only [hq]
      rw [e1, ← hq] at hcq
      rw [← hq] at hrm
      have r1 := HRow.out k hk'
      have r2 := HRow.out q hql'
      have hnx : nxtR l k = betwR l[k] l[q] := by
        unfold nxtR
        rw [HL.out, ← hq]
        simp [List.getD, hk', hql']
      have HCL := hid (fun w0 => specBetween_any l[k] l[q] w0 r1.1 r2.1 (by rw [r1.2, r2.2]))
      have HFst := hid (betw_first r1.1 r2.1 (by rw [r1.2, r2.2]))
      obtain ⟨X, hX⟩ : ∃ X, X = l[k] := ⟨_, rfl⟩
      obtain ⟨Y, hY⟩ : ∃ Y, Y = l[q] := ⟨_, rfl⟩
      rw [← hX, ← hY] at hnx HCL HFst
      rw [← hX] at hc
      rw [← hY] at hcq
      have HNX := hid hnx
      have HO := hid ho
      have HB := hid hb
      have hbs := hb.size
      have hk0 : (0 : Int) ≤ (k : Int) := by omega
      have hk1 : (k : Int) < (n : Int) := by omega
      have hq0 : (0 : Int) ≤ (q : Int) := by omega
      have hq1 : (q : Int) < (n : Int) := by omega
      have hn0 : ((n : Int) == 0) = false := by simp; omega
      have hw1 : IntKind.i64.wrap ((k : Int) + 1) = (k : Int) + 1 := IntWalk.i64_in _ (by omega)
      obtain ⟨R, hR⟩ : ∃ R, R = firstCh X Y := ⟨_, rfl⟩
      rw [← hR] at HCL HFst
      obtain ⟨c0, ok0⟩ := R
      have HA := hid (show (betwR X Y).2 = ok0 from HFst.out.1)
      have HBB := hid (show (betwR X Y).2 = true → (betwR X Y).1 = c0 from HFst.out.2)
      clear hR
      clear ho hb hX hY hnx r1 r2 e1 hq HFst
      go_wp2_with fail
      refine (HCL.out _).mono ?_
      rintro e w2 ⟨rfl, b2⟩
      have HB2 := hid (HB.out.trans (b2.mono hbs))
      have hb2 := HB2.out.size
      have HO2 := hid (own_below HO.out b2)
      clear b2
      cases ok0
      · have HR := hid (HB0.out (okTo_bad (k := k) (by rw [HNX.out]; exact HA.out) (by have := HL.out; omega)))
        go_wp2
        go_ret2
        rw [HR.out]
        exact ResS.none _ _ HB2.out
      · have HOK := hid (show okTo l (k + 1) = true by rw [okTo_step, hok.out, HNX.out, HA.out]; rfl)
        have HCT := hid (show chgTo l k ++ [c0] = chgTo l (k + 1) by rw [← chgTo_step, HNX.out, HBB.out HA.out])
        have l2 : k + 1 ≤ 1000000000000 := by omega
        go_wp2_with (at_builtin; refine app_str _ (by rfl) _ _ (by rfl) w.heap.size _ k (chgTo l k) (by rfl) (HO2.out.alloc _) (some ⟨w2.heap.size, 0, none⟩) 1 1 [c0] (by rfl) (Rd.one _ _ _) l2 (by simp; omega) ?_; intro v5 w5 o5 g5)
        go_roundg (n - (k + 1))
        case measure => omega
        case rel =>
          rw [HCT.out] at o5
          exact ⟨k + 1, by omega, rfl, by go_num, HOK, o5, (HB2.out.alloc hb2 _).grown g5 (by simp; omega) (fun q hq => (HO2.out.lt q hq).1)⟩
    · obtain rfl : k = n := by omega
      have HO := hid ho
      have HLN := hid HL.out
      clear ho
      rcases Nat.eq_zero_or_pos k with h0 | h0
      · subst h0
        have hR := hid (H1.out (by have := HLN.out; omega))
        go_wp2
        go_ret2
        rw [hR.out]
        exact ⟨_, rfl, HO.out, hb⟩
      · have hR := hid (HC.out (by rw [HLN.out]; exact hok.out) (by have := HLN.out; omega))
        have i0 : (0 : Int) < (k : Int) := by omega
        go_wp2
        go_ret2
        rw [hR.out]
        exact ⟨_, by first | rfl | simp [i0], by dsimp only; rw [chgTo_len, HLN.out]; exact HO.out, hb⟩

set_option maxHeartbeats 1000000 in
theorem changesIn_any (A : Option Addr) (n c : Nat) (l : List (List UInt8)) (w : World) (hr : Rd w A n (strV l)) (hs : rowsB l = true) :
    Calls Try.prog 71 #[.slice A n c] w (ResS w (changesR l)) := by
  have hl : l.length = n := by have := hr.1; rw [strV_len] at this; exact this
  have h800 := rowsB_len hs
  have HRow := hid (fun k (hk : k < l.length) => rowsB_row hs hk)
  have HL := hid hl
  have hn : n ≤ 800 := by omega
  have RS := hid hr
  have HC := hid (fun (h : okTo l l.length = true) (h0 : 0 < l.length) => show changesR l = (chgTo l l.length, true) by unfold changesR; rw [h, decide_eq_true h0]; rfl)
  have HB0 := hid (fun h : okTo l l.length = false => show changesR l = ([], false) by unfold changesR; rw [h, Bool.and_false]; rfl)
  have H1 := hid (changesR_one l)
  clear hr hs hl
  by_cases h2 : n < 2
  · have i2 : (n : Int) < 2 := by omega
    have hR := hid (H1.out (by have := HL.out; omega))
    clear h2
    go_enter Try.func71, Try.ntmps71
    go_wp2
    go_ret2
    rw [hR.out]
    exact ResS.none _ _ (Below.refl _ _)
  have i2 : ¬ (n : Int) < 2 := by omega
  go_enter Try.func71, Try.ntmps71
  go_wp2
  go_loopg [4, 15] n (fun gk u v wr => ∃ k : Nat, k ≤ n ∧ gk = n - k ∧ v = .int .i64 k ∧ Hid (okTo l k = true) ∧ wr.ownsRow w.heap.size 9 1 u k (strV (chgTo l k)) ∧ Below w.heap.size w wr)
  case atStart => exact ⟨0, by omega, by omega, rfl, rfl, own_of_blk (Blk.new _ _ #[]) (Nat.le_refl _) (by simp [maxLen]), (Below.refl _ _).alloc (Nat.le_refl _) _⟩
  case round =>
    obtain ⟨k, hk, rfl, rfl, hok, ho, hb⟩ := hrel
    by_cases hlt : k < n
    · have h0n : 0 < n := by omega
      obtain ⟨b, o, rfl, hk', hc⟩ := (RS.out.below hb).str hlt
      have hql : (k + 1) % n < n := Nat.mod_lt _ h0n
      obtain ⟨b2, o2, e2, hq', hcq⟩ := (RS.out.below hb).str hql
      injection e2 with e2
      injection e2 with f1 f2 _
      subst f1 f2
      have hrm := ge2_mod (k := k) (n := n) h0n
      obtain ⟨q, hq⟩ : ∃ q, q = (k + 1) % n := ⟨_, rfl⟩
      have hqn : q < n := by omega
      have hql' : q < l.length := by have := HL.out; omega
      have e1 : l[(k + 1) % n] = l[q] := by simp only [hq]
      rw [e1, ← hq] at hcq
      rw [← hq] at hrm
      have r1 := HRow.out k hk'
      have r2 := HRow.out q hql'
      have hnx : nxtR l k = betwR l[k] l[q] := by
        unfold nxtR
        rw [HL.out, ← hq]
        simp [List.getD, hk', hql']
      have HCL := hid (fun w0 => between_any l[k] l[q] w0 r1.1 r2.1 (by rw [r1.2, r2.2]))
      have HFst := hid (betw_first r1.1 r2.1 (by rw [r1.2, r2.2]))
      obtain ⟨X, hX⟩ : ∃ X, X = l[k] := ⟨_, rfl⟩
      obtain ⟨Y, hY⟩ : ∃ Y, Y = l[q] := ⟨_, rfl⟩
      rw [← hX, ← hY] at hnx HCL HFst
      rw [← hX] at hc
      rw [← hY] at hcq
      have HNX := hid hnx
      have HO := hid ho
      have HB := hid hb
      have hbs := hb.size
      have hk0 : (0 : Int) ≤ (k : Int) := by omega
      have hk1 : (k : Int) < (n : Int) := by omega
      have hq0 : (0 : Int) ≤ (q : Int) := by omega
      have hq1 : (q : Int) < (n : Int) := by omega
      have hn0 : ((n : Int) == 0) = false := by simp; omega
      have hw1 : IntKind.i64.wrap ((k : Int) + 1) = (k : Int) + 1 := IntWalk.i64_in _ (by omega)
      obtain ⟨R, hR⟩ : ∃ R, R = betwR X Y := ⟨_, rfl⟩
      rw [← hR] at HCL
      obtain ⟨c0, ok0⟩ := R
      have HA := hid (show (betwR X Y).2 = ok0 by rw [← hR])
      have HBB := hid (show (betwR X Y).2 = true → (betwR X Y).1 = c0 by rw [← hR]; exact fun _ => rfl)
      clear hR
      clear ho hb hX hY hnx r1 r2 e1 hq HFst
      go_wp2_with fail
      refine (HCL.out _).mono ?_
      rintro e w2 ⟨rfl, m2, rfl⟩
      have HB2 := hid (HB.out.trans ((below_drewN (Below.refl _ _) m2).mono hbs))
      have hb2 := HB2.out.size
      have HO2 := hid (own_drewN HO.out m2)
      cases ok0
      · have HR := hid (HB0.out (okTo_bad (k := k) (by rw [HNX.out]; exact HA.out) (by have := HL.out; omega)))
        go_wp2
        go_ret2
        rw [HR.out]
        exact ResS.none _ _ HB2.out
      · have HOK := hid (show okTo l (k + 1) = true by rw [okTo_step, hok.out, HNX.out, HA.out]; rfl)
        have HCT := hid (show chgTo l k ++ [c0] = chgTo l (k + 1) by rw [← chgTo_step, HNX.out, HBB.out HA.out])
        have l2 : k + 1 ≤ 1000000000000 := by omega
        go_wp2_with (at_builtin; refine app_str _ (by rfl) _ _ (by rfl) w.heap.size _ k (chgTo l k) (by rfl) (HO2.out.alloc _) (some ⟨(wr.drewN m2).heap.size, 0, none⟩) 1 1 [c0] (by rfl) (Rd.one _ _ _) l2 (by simp; omega) ?_; intro v5 w5 o5 g5)
        go_roundg (n - (k + 1))
        case measure => omega
        case rel =>
          rw [HCT.out] at o5
          exact ⟨k + 1, by omega, rfl, by go_num, HOK, o5, (HB2.out.alloc hb2 _).grown g5 (by simp; omega) (fun q hq => (HO2.out.lt q hq).1)⟩
    · obtain rfl : k = n := by omega
      have HO := hid ho
      have HLN := hid HL.out
      clear ho
      have hR := hid (HC.out (by rw [HLN.out]; exact hok.out) (by have := HLN.out; omega))
      go_wp2
      go_ret2
      rw [hR.out]
      exact ⟨_, rfl, by dsimp only; rw [chgTo_len, HLN.out]; exact HO.out, hb⟩
end Go.Proofs.Ytecplhpioohhmaa
