/- Contracts of MissingIn, in the reference and in the program. No conditions beyond those stated. -/
import Derived.Test.YtecplhpioohhmaaRowOfI
import Derived.Test.YtecplhpioohhmaaHow
set_option linter.unusedVariables false
set_option linter.unusedSimpArgs false
set_option maxRecDepth 100000
namespace Go.Proofs.Ytecplhpioohhmaa
open Go.RowKit

/-- What MissingIn answers. -/
def missR (l : List (List UInt8)) : List (List UInt8) × Bool := if smallB l = true then (missTo (l.headD []).length (oftenL l) (factL (l.headD []).length), true) else ([], false)
theorem fact6 {n : Nat} (h : n ≤ 6) : factL n ≤ 720 := by
  have : n = 0 ∨ n = 1 ∨ n = 2 ∨ n = 3 ∨ n = 4 ∨ n = 5 ∨ n = 6 := by omega
  rcases this with rfl | rfl | rfl | rfl | rfl | rfl | rfl <;> decide
theorem missR_le (l : List (List UInt8)) : (missR l).1.length ≤ 4000000 := by
  unfold missR
  split
  · rename_i h
    simp only [smallB, Bool.and_eq_true, decide_eq_true_eq] at h
    have h1 := missTo_len (l.headD []).length (oftenL l) (factL (l.headD []).length)
    have h2 := fact6 h.2
    show (missTo _ _ _).length ≤ 4000000
    omega
  · simp
set_option maxHeartbeats 1000000 in
theorem specMissing_any (A : Option Addr) (n c : Nat) (l : List (List UInt8)) (w : World) (hr : Rd w A n (strV l)) (hn : l.length ≤ 1048576) (hs : ∀ s ∈ l, s.length ≤ 1048576) :
    Calls Try.prog 34 #[.slice A n c] w (ResS w (missR l)) := by
  have hl : l.length = n := by have := hr.1; rw [strV_len] at this; exact this
  have HS := hid (l7Small_any A n c l w hr (by omega) hs)
  cases h : smallB l
  · have HR := hid (show missR l = ([], false) by simp [missR, h])
    rw [h] at HS
    clear h hs hr
    go_enter Try.func34, Try.ntmps34
    go_wp2_with fail
    refine HS.out.mono ?_
    rintro e w' ⟨rfl, m, rfl⟩
    go_wp2_with fail
    go_ret2
    rw [HR.out]
    exact ResS.none _ _ (below_drewN (Below.refl _ _) _)
  · have HR0 := show missR l = (missTo (l.headD []).length (oftenL l) (factL (l.headD []).length), true) by simp [missR, h]
    have HO := hid (fun w0 (rd : Rd w0 A n (strV l)) => l7Often_any A n c l w0 rd h)
    have RS := hid hr
    rw [h] at HS
    simp only [smallB, Bool.and_eq_true, decide_eq_true_eq] at h
    obtain ⟨⟨hrows, h0⟩, h6⟩ := h
    have hrow := (rowsB_row hrows h0).1
    rw [headD_at' l h0] at hrow
    have lo := hrow.lo
    have hoft : (oftenL l).length = factL (l.headD []).length := often_len _ _ _
    have h720 := fact6 h6
    obtain ⟨bq, oq, hA, hj0, hc0⟩ := hr.str (show 0 < n by omega)
    rw [headD_at' l hj0] at hc0
    subst hA
    have HC0 := hid (show w.cell? ⟨bq, oq, none⟩ = some (.string (bs (l.headD []))) from hc0)
    obtain ⟨X, hX⟩ : ∃ X, X = l.headD [] := ⟨_, rfl⟩
    obtain ⟨L, hL⟩ : ∃ L, L = oftenL l := ⟨_, rfl⟩
    rw [← hX] at HR0 HC0 lo h6 h720 hoft
    rw [← hL] at HR0 HO hoft
    obtain ⟨M, hM⟩ : ∃ M, M = factL X.length := ⟨_, rfl⟩
    rw [← hM] at HR0 h720 hoft
    have HROf := hid (fun k (hk : k < M) w0 => specRowOf_any X.length k w0 lo (by omega) (by rw [← hM]; exact hk))
    have HR := hid HR0
    have HLN := hid hoft
    have i0 : (0 : Int) < (n : Int) := by omega
    have hX6 : X.length ≤ 6 := h6
    clear hs hr hrows hrow hc0 HR0 hX hL hM hj0 h0
    go_enter Try.func34, Try.ntmps34
    go_wp2_with fail
    refine HS.out.mono ?_
    rintro e w' ⟨rfl, mm, rfl⟩
    go_wp2_with fail
    refine (HO.out _ (RS.out.drewN mm)).mono ?_
    rintro e w1 ⟨v1, rfl, o1, b1⟩
    rw [HLN.out] at o1
    obtain ⟨A1, c1, rfl, _, _, rd1, fr1⟩ := own_shape o1
    have RD1 := hid rd1
    have FR1 := hid fr1
    have HB1 := hid ((below_drewN (Below.refl w.heap.size w) mm).trans b1)
    have hw1 := HB1.out.size
    have OWN0 := hid ((World.ownsRow_nil w1 w.heap.size 9 1 : w1.ownsRow w.heap.size 9 1 (.slice none 0 0) 0 []))
    clear o1 rd1 fr1 b1
    go_wp2
    go_loopg [4, 15] M (fun gk u v wr => ∃ k : Nat, k ≤ M ∧ gk = M - k ∧ v = .int .i64 k ∧ wr.ownsRow w.heap.size 9 1 u (missTo X.length L k).length (strV (missTo X.length L k)) ∧ Below w.heap.size w wr ∧ Rd wr A1 M (intV L) ∧ (∀ b o s, A1 = some ⟨b, o, s⟩ → b < wr.heap.size ∧ u.ownBlock ≠ some b))
    case atStart => exact ⟨0, by omega, by omega, rfl, OWN0.out, HB1.out, RD1.out, fun b o s h => ⟨(FR1.out b o s h).2, fun e => by cases e⟩⟩
    case round =>
      obtain ⟨k, hk, rfl, rfl, ho, hb, hrd, hne⟩ := hrel
      by_cases hlt : k < M
      · obtain ⟨b, o, rfl, hk', hc⟩ := hrd.int hlt
        have hgd : L.getD k 0 = L[k] := by simp [List.getD, hk']
        have hcx := (hb.cell (p := ⟨bq, oq, none⟩) (World.block_lt_of_cell? w _ HC0.out)).trans HC0.out
        have hml := missTo_len X.length L k
        have HY := hid (missTo_yes X.length L k)
        have HN := hid (missTo_no X.length L k)
        rw [hgd] at HY HN
        obtain ⟨z, hz⟩ : ∃ z, z = L[k] := ⟨_, rfl⟩
        rw [← hz] at hc HY HN
        have HRk := hid (HROf.out k hlt)
        have HO2 := hid ho
        have HB := hid hb
        have hbs := hb.size
        have HRD := hid hrd
        have HNE := hid hne
        have hk0 : (0 : Int) ≤ (k : Int) := by omega
        have hk1 : (k : Int) < (M : Int) := by omega
        clear ho hb hrd hne hgd hz
        cases hz0 : (z == 0)
        · have hN := hid (HN.out hz0)
          clear HY HN
          go_wp2
          go_roundg (M - (k + 1))
          case measure => omega
          case rel => exact ⟨k + 1, by omega, rfl, by go_num, by rw [← hN.out]; exact HO2.out, HB.out, HRD.out, HNE.out⟩
        · have hY := hid (HY.out hz0)
          have HLL := hid (show (missTo X.length L k).length + 1 = (missTo X.length L (k + 1)).length by rw [← hY.out, List.length_append]; rfl)
          obtain ⟨S, hS⟩ : ∃ S, S = missTo X.length L k := ⟨_, rfl⟩
          rw [← hS] at HO2 hY HLL hml
          have l2 : S.length + 1 ≤ 1000000000000 := by omega
          clear HY HN hS
          go_wp2_with fail
          refine (HRk.out _).mono ?_
          rintro e w' ⟨rfl, m2, rfl⟩
          have HO3 := hid (own_drewN HO2.out m2)
          have HB2 := hid (below_drewN HB.out m2)
          have hb2 := HB2.out.size
          have HRD2 := hid (HRD.out.drewN m2)
          have HNE2 := hid (fun b' o' s h => (⟨(HNE.out b' o' s h).1, (HNE.out b' o' s h).2⟩ : b' < wr.heap.size ∧ _ ≠ some b'))
          go_wp2_with (at_builtin; refine app_strB _ (by rfl) _ _ (by rfl) w.heap.size _ S.length S (by rfl) (HO3.out.alloc _) (some ⟨(wr.drewN m2).heap.size, 0, none⟩) 1 1 [unrL X.length k] (by rfl) (Rd.one _ _ _) l2 (by simp; omega) ?_; intro v5 w5 o5 g5 f5)
          go_roundg (M - (k + 1))
          case measure => omega
          case rel =>
            rw [hY.out, HLL.out] at o5
            exact ⟨k + 1, by omega, rfl, by go_num, o5, (HB2.out.alloc hb2 _).grown g5 (by simp; omega) (fun q hq => (HO3.out.lt q hq).1), (HRD2.out.alloc _).grown g5 (fun b o e e2 => (HNE2.out b o none e).2 e2), fun b o s h => ⟨by have h1 := (HNE2.out b o s h).1; have h2 := g5.size; simp at h2; omega, fun e2 => by
              rcases f5 with f5 | f5
              · exact (HNE2.out b o s h).2 (f5.symm.trans e2)
              · rw [f5] at e2
                have e3 : (World.alloc (wr.drewN m2) (.cells #[.string (bs (unrL X.length k))] 9)).heap.size = b := by injection e2
                have h1 := (HNE2.out b o s h).1
                simp at e3; omega⟩⟩
      · obtain rfl : k = M := by omega
        have HO2 := hid ho
        clear ho
        go_wp2
        go_ret2
        rw [HR.out]
        exact ⟨_, rfl, HO2.out, hb⟩
set_option maxHeartbeats 1000000 in
theorem implMissing_any (A : Option Addr) (n c : Nat) (l : List (List UInt8)) (w : World) (hr : Rd w A n (strV l)) (hn : l.length ≤ 1048576) (hs : ∀ s ∈ l, s.length ≤ 1048576) :
    Calls Try.prog 35 #[.slice A n c] w (ResS w (missR l)) := by
  have hl : l.length = n := by have := hr.1; rw [strV_len] at this; exact this
  have HS := hid (countable_any A n c l w hr (by omega) hs)
  cases h : smallB l
  · have HR := hid (show missR l = ([], false) by simp [missR, h])
    rw [h] at HS
    clear h hs hr
    go_enter Try.func35, Try.ntmps35
    go_wp2_with fail
    refine HS.out.mono ?_
    rintro e w' ⟨rfl, m, rfl⟩
    go_wp2_with fail
    go_ret2
    rw [HR.out]
    exact ResS.none _ _ (below_drewN (Below.refl _ _) _)
  · have HR0 := show missR l = (missTo (l.headD []).length (oftenL l) (factL (l.headD []).length), true) by simp [missR, h]
    have HO := hid (fun w0 (rd : Rd w0 A n (strV l)) => counts_any A n c l w0 rd h)
    have RS := hid hr
    rw [h] at HS
    simp only [smallB, Bool.and_eq_true, decide_eq_true_eq] at h
    obtain ⟨⟨hrows, h0⟩, h6⟩ := h
    have hrow := (rowsB_row hrows h0).1
    rw [headD_at' l h0] at hrow
    have lo := hrow.lo
    have hoft : (oftenL l).length = factL (l.headD []).length := often_len _ _ _
    have h720 := fact6 h6
    obtain ⟨bq, oq, hA, hj0, hc0⟩ := hr.str (show 0 < n by omega)
    rw [headD_at' l hj0] at hc0
    subst hA
    have HC0 := hid (show w.cell? ⟨bq, oq, none⟩ = some (.string (bs (l.headD []))) from hc0)
    obtain ⟨X, hX⟩ : ∃ X, X = l.headD [] := ⟨_, rfl⟩
    obtain ⟨L, hL⟩ : ∃ L, L = oftenL l := ⟨_, rfl⟩
    rw [← hX] at HR0 HC0 lo h6 h720 hoft
    rw [← hL] at HR0 HO hoft
    obtain ⟨M, hM⟩ : ∃ M, M = factL X.length := ⟨_, rfl⟩
    rw [← hM] at HR0 h720 hoft
    have HROf := hid (fun k (hk : k < M) w0 => rowOf_any X.length k w0 lo (by omega) (by rw [← hM]; exact hk))
    have HR := hid HR0
    have HLN := hid hoft
    have i0 : (0 : Int) < (n : Int) := by omega
    have hX6 : X.length ≤ 6 := h6
    clear hs hr hrows hrow hc0 HR0 hX hL hM hj0 h0
    go_enter Try.func35, Try.ntmps35
    go_wp2_with fail
    refine HS.out.mono ?_
    rintro e w' ⟨rfl, mm, rfl⟩
    go_wp2_with fail
    refine (HO.out _ ((RS.out.drewN mm).alloc _)).mono ?_
    rintro e w1 ⟨v1, rfl, o1, b1⟩
    rw [HLN.out] at o1
    obtain ⟨A1, c1, rfl, _, _, rd1, fr1⟩ := own_shape o1
    have RD1 := hid rd1
    have FR1 := hid fr1
    have HB1 := hid (((below_drewN (Below.refl w.heap.size w) mm).alloc (Nat.le_refl _) _).trans (b1.mono (by simp)))
    have hw1 := HB1.out.size
    have OWN0 := hid (own_below (own_of_blk (Blk.new (w.drewN mm) 9 #[]) (base := w.heap.size) (Nat.le_refl _) (by simp [maxLen])) b1)
    clear o1 rd1 fr1 b1
    go_wp2
    go_loopg [4, 14] M (fun gk u v wr => ∃ k : Nat, k ≤ M ∧ gk = M - k ∧ v = .int .i64 k ∧ wr.ownsRow w.heap.size 9 1 u (missTo X.length L k).length (strV (missTo X.length L k)) ∧ Below w.heap.size w wr ∧ Rd wr A1 M (intV L) ∧ (∀ b o s, A1 = some ⟨b, o, s⟩ → b < wr.heap.size ∧ u.ownBlock ≠ some b))
    case atStart => exact ⟨0, by omega, by omega, rfl, OWN0.out, HB1.out, RD1.out, fun b o s h => ⟨(FR1.out b o s h).2, fun e => by have e2 : some w.heap.size = some b := e; injection e2 with e2; have := (FR1.out b o s h).1; simp at this; omega⟩⟩
    case round =>
      obtain ⟨k, hk, rfl, rfl, ho, hb, hrd, hne⟩ := hrel
      by_cases hlt : k < M
      · obtain ⟨b, o, rfl, hk', hc⟩ := hrd.int hlt
        have hgd : L.getD k 0 = L[k] := by simp [List.getD, hk']
        have hcx := (hb.cell (p := ⟨bq, oq, none⟩) (World.block_lt_of_cell? w _ HC0.out)).trans HC0.out
        have hml := missTo_len X.length L k
        have HY := hid (missTo_yes X.length L k)
        have HN := hid (missTo_no X.length L k)
        rw [hgd] at HY HN
        obtain ⟨z, hz⟩ : ∃ z, z = L[k] := ⟨_, rfl⟩
        rw [← hz] at hc HY HN
        have HRk := hid (HROf.out k hlt)
        have HO2 := hid ho
        have HB := hid hb
        have hbs := hb.size
        have HRD := hid hrd
        have HNE := hid hne
        have hk0 : (0 : Int) ≤ (k : Int) := by omega
        have hk1 : (k : Int) < (M : Int) := by omega
        clear ho hb hrd hne hgd hz
        cases hz0 : (z == 0)
        · have hN := hid (HN.out hz0)
          clear HY HN
          go_wp2
          go_roundg (M - (k + 1))
          case measure => omega
          case rel => exact ⟨k + 1, by omega, rfl, by go_num, by rw [← hN.out]; exact HO2.out, HB.out, HRD.out, HNE.out⟩
        · have hY := hid (HY.out hz0)
          have HLL := hid (show (missTo X.length L k).length + 1 = (missTo X.length L (k + 1)).length by rw [← hY.out, List.length_append]; rfl)
          obtain ⟨S, hS⟩ : ∃ S, S = missTo X.length L k := ⟨_, rfl⟩
          rw [← hS] at HO2 hY HLL hml
          have l2 : S.length + 1 ≤ 1000000000000 := by omega
          clear HY HN hS
          go_wp2_with fail
          refine (HRk.out _).mono ?_
          rintro e w2 ⟨rfl, b2⟩
          have HO3 := hid (own_below HO2.out b2)
          have HB2 := hid (HB.out.trans (b2.mono hbs))
          have hb2 := HB2.out.size
          have HRD2 := hid (HRD.out.below b2)
          have HNE2 := hid (fun b o s h => (⟨Nat.lt_of_lt_of_le (HNE.out b o s h).1 b2.size, (HNE.out b o s h).2⟩ : b < w2.heap.size ∧ _ ≠ some b))
          clear b2
          go_wp2_with (at_builtin; refine app_strB _ (by rfl) _ _ (by rfl) w.heap.size _ S.length S (by rfl) (HO3.out.alloc _) (some ⟨w2.heap.size, 0, none⟩) 1 1 [unrL X.length k] (by rfl) (Rd.one _ _ _) l2 (by simp; omega) ?_; intro v5 w5 o5 g5 f5)
          go_roundg (M - (k + 1))
          case measure => omega
          case rel =>
            rw [hY.out, HLL.out] at o5
            exact ⟨k + 1, by omega, rfl, by go_num, o5, (HB2.out.alloc hb2 _).grown g5 (by simp; omega) (fun q hq => (HO3.out.lt q hq).1), (HRD2.out.alloc _).grown g5 (fun b o e e2 => (HNE2.out b o none e).2 e2), fun b o s h => ⟨by have h1 := (HNE2.out b o s h).1; have h2 := g5.size; simp at h2; omega, fun e2 => by
              rcases f5 with f5 | f5
              · exact (HNE2.out b o s h).2 (f5.symm.trans e2)
              · rw [f5] at e2
                have e3 : (World.alloc w2 (.cells #[.string (bs (unrL X.length k))] 9)).heap.size = b := by injection e2
                have h1 := (HNE2.out b o s h).1
                simp at e3; omega⟩⟩
      · obtain rfl : k = M := by omega
        have HO2 := hid ho
        clear ho
        have hml := missTo_len X.length L k
        obtain ⟨AO, cO, rfl, _⟩ := own_shape HO2.out
        have i8 : ¬ (800 : Int) < ((missTo X.length L k).length : Int) := by omega
        go_wp2
        go_ret2
        rw [HR.out]
        exact ⟨_, rfl, HO2.out, hb⟩
end Go.Proofs.Ytecplhpioohhmaa
