/- Contracts of FalseBetween, in the reference and in the program. No conditions beyond those stated. -/
import Derived.Test.YtiajeheonoebnaaExpF
set_option linter.unusedVariables false
set_option linter.unusedSimpArgs false
set_option maxRecDepth 100000
namespace Go.Proofs.Ytiajeheonoebnaa
open Go.RowKit

theorem meet_pos {a b : List (List UInt8)} {k : Nat} (h : k < a.length) (hm : memB a[k] b = true) : decide (0 < (meetL a b).length) = true := by
  refine decide_eq_true (List.length_pos_iff_exists_mem.2 ⟨a[k], ?_⟩)
  simp only [meetL, List.mem_filter]
  exact ⟨List.getElem_mem h, hm⟩
set_option maxHeartbeats 1000000 in
theorem l14False_any (N : Nat) (nm nm2 f : List UInt8) (ca cb : List (List UInt8)) (A B : Option Addr) (n c m d : Nat) (w : World) (lo : 3 ≤ N) (hi : N ≤ 8) (hra : Rd w A n (strV ca)) (hrb : Rd w B m (strV cb)) (hn : n ≤ 1048576) (hm : m ≤ 1048576) (hsa : ∀ x ∈ ca, okChange (N : Int) x = true) (hsb : ∀ x ∈ cb, okChange (N : Int) x = true) (hf : IsRow f) (hN : f.length = N) :
    Calls Try.prog 46 #[.agg #[.string (bs nm), .int .i64 N, .slice A n c], .agg #[.string (bs nm2), .int .i64 N, .slice B m d], .string (bs f)] w fun e w' => e = .returned (.bool (decide (0 < (meetL (leadL (roundsL N) ca) (leadL f cb)).length))) ∧ Below w.heap.size w w' := by
  have HR := fun w0 => hid (l1Rounds_any N w0 hi)
  have HU := fun (w0 : World) (rd : Rd w0 A n (strV ca)) => hid (l11Lead_any N nm (roundsL N) (N : Int) ca A n c w0 (rounds_row lo hi) (rounds_len N) rd hn hsa)
  have HF := fun (w0 : World) (rd : Rd w0 B m (strV cb)) => hid (l11Lead_any N nm2 f (N : Int) cb B m d w0 hf hN rd hm hsb)
  have hx : (leadL (roundsL N) ca).length = n := by have := hra.1; rw [strV_len] at this; rw [lead_len, this]
  have hy : (leadL f cb).length = m := by have := hrb.1; rw [strV_len] at this; rw [lead_len, this]
  have RA := hid hra
  have RB := hid hrb
  clear hra hrb hsa hsb
  generalize leadL (roundsL N) ca = X at *
  generalize leadL f cb = Y at *
  have HX := hid hx
  have HY := hid hy
  have hxb : X.length ≤ 1048576 := by omega
  clear hx hy
  go_enter Try.func46, Try.ntmps46
  go_wp2_with fail
  obtain ⟨B2, hsz, HC⟩ := box_mkM 28 28 w nm nm2 (N : Int) (N : Int) (.slice A n c) (.slice B m d)
  have RA2 := hid (RA.out.below B2)
  have RB2 := hid (RB.out.below B2)
  have HB2 := hid B2
  have hw2 := B2.size
  generalize ((w.alloc (.cells #[.string (bs nm), .int .i64 (N : Int), .slice A n c] 28)).alloc (.cells #[.string (bs nm2), .int .i64 (N : Int), .slice B m d] 28)) = W2 at *
  clear B2 hsz
  have HS5 : ∀ W', Below W2.heap.size W2 W' → W'.cell? ⟨w.heap.size, 0, none⟩ = some (.string (bs nm)) ∧ W'.cell? ⟨w.heap.size, 1, none⟩ = some (.int .i64 (N : Int)) ∧ W'.cell? ⟨w.heap.size, 2, none⟩ = some (.slice A n c) ∧ W'.cell? ⟨w.heap.size + 1, 0, none⟩ = some (.string (bs nm2)) ∧ W'.cell? ⟨w.heap.size + 1, 1, none⟩ = some (.int .i64 (N : Int)) ∧ W'.cell? ⟨w.heap.size + 1, 2, none⟩ = some (.slice B m d) := fun W' h => by
    obtain ⟨⟨a0, a1, a2⟩, a3, a4, a5⟩ := HC.out _ h
    exact ⟨a0, a1, a2, a3, a4, a5⟩
  have HHS := hid HS5
  clear HS5 HC
  refine (HF _ RB2.out).out.mono ?_
  rintro e w3 ⟨v3, rfl, o3, b3⟩
  obtain ⟨A3, c3, rfl, _, _, rd3, _⟩ := own_shape o3
  have HB3 := hid b3
  have RD3 := hid rd3
  clear o3 b3 rd3
  obtain ⟨n0, n1, n2, q0, q1, q2⟩ := HHS.out _ HB3.out
  go_wp2_with fail
  go_region_held3 (fun w' => w'.cell? ⟨w.heap.size, 0, none⟩ = some (.string (bs nm)) ∧ w'.cell? ⟨w.heap.size, 1, none⟩ = some (.int .i64 (N : Int)) ∧ w'.cell? ⟨w.heap.size, 2, none⟩ = some (.slice A n c) ∧ w'.cell? ⟨w.heap.size + 1, 0, none⟩ = some (.string (bs nm2)) ∧ w'.cell? ⟨w.heap.size + 1, 1, none⟩ = some (.int .i64 (N : Int)) ∧ w'.cell? ⟨w.heap.size + 1, 2, none⟩ = some (.slice B m d))
    (first | exact HHS.out _ HB3.out | exact HHS.out _ HB3.out.drew | exact HHS.out _ Fa)
    (first | (go_at_call 54; refine (HR _).out.mono ?_; rintro e w' ⟨rfl, rfl⟩) | (go_at_call 85; refine (HU _ (RA2.out.below HB3.out.drew)).out.mono ?_; rintro e wa ⟨va, rfl, oa, ba⟩; obtain ⟨Aa, ca', rfl, _, _, rda, _⟩ := own_shape oa; have Fa := HB3.out.drew.trans (ba.mono HB3.out.size)))
  have HFa := hid Fa
  have RDa := hid rda
  have RD3a := hid (RD3.out.below ((Below.refl w3.heap.size w3).drew.trans ba))
  clear oa ba rda Fa n0 n1 n2 q0 q1 q2
  go_wp2_with fail
  go_loopg [19] X.length (fun gk v wr => ∃ j : Nat, j ≤ X.length ∧ gk = X.length - j ∧ v = .int .i64 j ∧ Hid (meetL (X.take j) Y = []) ∧ wr = wa)
  case atStart => exact ⟨0, by omega, by omega, rfl, hid (meetL_zero _ _), rfl⟩
  case round =>
    obtain ⟨j, hj, rfl, rfl, hh, rfl⟩ := hrel
    by_cases hlt : j < X.length
    · obtain ⟨b', o', rfl, hj', hc⟩ := RDa.out.str hlt
      have hk0 : (0 : Int) ≤ (j : Int) := by omega
      have hk1 : (j : Int) < (X.length : Int) := by omega
      have HHas := hid (fun w0 rd0 => l1HasS_any A3 Y.length c3 Y X[j] w0 rd0 (by rw [HY.out]; exact hm))
      cases hm : memB X[j] Y
      · have HM := hid ((meetL_no hj' hm).symm.trans hh.out)
        have HM2 := hid hm
        clear hm
        go_wp2_with fail
        refine (HHas.out _ RD3a.out).mono ?_
        rintro e w' ⟨rfl, rfl⟩
        rw [HM2.out]
        go_wp2
        go_roundg (X.length - (j + 1))
        case measure => omega
        case rel => exact ⟨j + 1, by omega, rfl, by go_num, HM, rfl⟩
      · have HM := hid (meet_pos hj' hm)
        have HM2 := hid hm
        clear hm
        go_wp2_with fail
        refine (HHas.out _ RD3a.out).mono ?_
        rintro e w' ⟨rfl, rfl⟩
        rw [HM2.out]
        go_wp2
        go_ret
        exact ⟨ret_bool HM.out.symm, HB2.out.trans (HFa.out.mono hw2)⟩
    · obtain rfl : j = X.length := by omega
      have h1 := hh.out
      rw [List.take_of_length_le (Nat.le_refl _)] at h1
      have HM := hid (show decide (0 < (meetL X Y).length) = false by rw [h1]; rfl)
      clear h1
      go_wp2
      go_ret
      exact ⟨ret_bool HM.out.symm, HB2.out.trans (HFa.out.mono hw2)⟩
/-- Which two methods and row are valid. -/
def betweenB (a b : Meth) (f : List UInt8) : Bool := methB a && rowOfB a.st f && methB b && decide (a.st = b.st)
/-- What FalseBetween answers. -/
def betweenR (a b : Meth) (f : List UInt8) : Bool × Bool := if betweenB a b f = true then (decide (0 < (meetL (leadL (roundsL a.st.toNat) a.ch) (leadL f b.ch)).length), true) else (false, false)
theorem betweenR_no {a b : Meth} {f : List UInt8} (h : betweenB a b f = false) : betweenR a b f = (false, false) := if_neg (by rw [h]; simp)
set_option maxHeartbeats 2000000 in
theorem specFalseBetween_law (a b : Meth) (f : List UInt8) (A B : Option Addr) (n c m d : Nat) (w : World) (oka : LawOk a ([], [])) (okb : LawOk b ([], [])) (ra : Rd w A n (strV a.ch)) (rb : Rd w B m (strV b.ch)) (lf : f.length ≤ 1048576) :
    Calls Try.prog 12 #[.agg #[.string (bs a.nm), .int .i64 a.st, .slice A n c], .agg #[.string (bs b.nm), .int .i64 b.st, .slice B m d], .string (bs f)] w fun e w' => e = .returned (.tuple #[.bool (betweenR a b f).1, .bool (betweenR a b f).2]) ∧ Below w.heap.size w w' := by
  have hn : n ≤ 1048576 := by have h1 := ra.1; have h2 := oka.2.2.1; rw [strV_len] at h1; omega
  have hm : m ≤ 1048576 := by have h1 := rb.1; have h2 := okb.2.2.1; rw [strV_len] at h1; omega
  have G1 := fun (w0 : World) (rd : Rd w0 A n (strV a.ch)) => hid (l11Asked_any a f A n c w0 oka rd hn lf)
  have G2 := fun (w0 : World) (rd : Rd w0 B m (strV b.ch)) => hid (l4Good_any b B m d w0 okb.1 okb.2.1 rd hm okb.2.2.2.1)
  have RA := hid ra
  have RB := hid rb
  clear ra rb oka okb
  cases hv : betweenB a b f
  · rw [betweenR_no hv]
    simp only [betweenB] at hv
    generalize methB a = P0 at *
    generalize rowOfB a.st f = P2 at *
    generalize methB b = P1 at *
    obtain ⟨nm, st, ch⟩ := a
    obtain ⟨nm2, st2, ch2⟩ := b
    dsimp only at *
    by_cases hst : st = st2
    all_goals
      have hne : (st != st2) = !decide (st = st2) := by rw [Bool.eq_iff_iff]; simp
      first | (rw [decide_eq_true hst] at hv hne) | (rw [decide_eq_false hst] at hv hne)
      simp only [Bool.not_true, Bool.not_false] at hne
      clear hst
      cases P0 <;> cases P1 <;> cases P2 <;> first | (exfalso; simp at hv; done) | skip
    all_goals
      clear hv
      go_enter Try.func12, Try.ntmps12
      go_wp2_with fail
      obtain ⟨B2, hsz, HC⟩ := box_mkM 28 28 w nm nm2 st st2 (.slice A n c) (.slice B m d)
      have RA2 := hid (RA.out.below B2)
      have RB2 := hid (RB.out.below B2)
      have HB2 := hid B2
      have hw2 := B2.size
      generalize ((w.alloc (.cells #[.string (bs nm), .int .i64 st, .slice A n c] 28)).alloc (.cells #[.string (bs nm2), .int .i64 st2, .slice B m d] 28)) = W2 at *
      clear B2 hsz
      have HS5 : ∀ W', Below W2.heap.size W2 W' → W'.cell? ⟨w.heap.size, 0, none⟩ = some (.string (bs nm)) ∧ W'.cell? ⟨w.heap.size, 1, none⟩ = some (.int .i64 st) ∧ W'.cell? ⟨w.heap.size, 2, none⟩ = some (.slice A n c) ∧ W'.cell? ⟨w.heap.size + 1, 0, none⟩ = some (.string (bs nm2)) ∧ W'.cell? ⟨w.heap.size + 1, 1, none⟩ = some (.int .i64 st2) ∧ W'.cell? ⟨w.heap.size + 1, 2, none⟩ = some (.slice B m d) := fun W' h => by
        obtain ⟨⟨a0, a1, a2⟩, a3, a4, a5⟩ := HC.out _ h
        exact ⟨a0, a1, a2, a3, a4, a5⟩
      have HHS := hid HS5
      clear HS5 HC
      obtain ⟨n0, n1, n2, q0, q1, q2⟩ := HHS.out _ (Below.refl W2.heap.size W2)
      refine (G1 _ RA2.out).out.mono ?_
      rintro e w3 ⟨rfl, b3⟩
      have HB3 := hid b3
      clear b3 n0 n1 n2 q0 q1 q2
      obtain ⟨n0, n1, n2, q0, q1, q2⟩ := HHS.out _ HB3.out
      first
        | (go_wp2_with fail
           go_ret2
           exact ⟨rfl, HB2.out.trans (HB3.out.mono hw2)⟩)
        | (go_wp2_with fail
           refine (G2 _ (RB2.out.below HB3.out)).out.mono ?_
           rintro e w4 ⟨rfl, b4⟩
           have HB4 := hid (HB3.out.trans (b4.mono HB3.out.size))
           clear b4 n0 n1 n2 q0 q1 q2
           obtain ⟨n0, n1, n2, q0, q1, q2⟩ := HHS.out _ HB4.out
           first
             | (go_wp2_with fail
                go_ret2
                exact ⟨rfl, HB2.out.trans (HB4.out.mono hw2)⟩))
  · have hv' := hv
    simp only [betweenB, Bool.and_eq_true, decide_eq_true_eq] at hv'
    obtain ⟨⟨⟨hA, hF⟩, hB⟩, hst⟩ := hv'
    obtain ⟨N, hN, lo, hi, l1, l40, hsa⟩ := meth_parts hA
    obtain ⟨N2, hN2, _, _, l1b, l40b, hsb⟩ := meth_parts hB
    have hR : betweenR a b f = (decide (0 < (meetL (leadL (roundsL a.st.toNat) a.ch) (leadL f b.ch)).length), true) := if_pos hv
    rw [hR]
    rw [hA, hF] at G1
    rw [hB] at G2
    simp only [Bool.and_self] at G1
    have hnn : n ≤ 1000 := by have h1 := RA.out.1; rw [strV_len] at h1; omega
    have hmm : m ≤ 1000 := by have h1 := RB.out.1; rw [strV_len] at h1; omega
    obtain ⟨nm, st, ch⟩ := a
    obtain ⟨nm2, st2, ch2⟩ := b
    dsimp only at *
    subst hst
    subst hN
    obtain rfl : N = N2 := by omega
    have hrf := rowOfB_row (N := N) (f := f) hF
    have hne : ((N : Int) != (N : Int)) = false := by simp
    have BC := fun (w0 : World) (rda : Rd w0 A n (strV ch)) (rdb : Rd w0 B m (strV ch2)) => hid (l14False_any N nm nm2 f ch ch2 A B n c m d w0 lo hi rda rdb hn hm hsa hsb hrf.1 hrf.2)
    simp only [Int.toNat_natCast] at *
    generalize hbb : decide (0 < (meetL (leadL (roundsL N) ch) (leadL f ch2)).length) = bb at *
    clear hv hA hF hB hR hsa hsb hrf hN2 hbb
    go_enter Try.func12, Try.ntmps12
    go_wp2_with fail
    obtain ⟨B2, hsz, HC⟩ := box_mkM 28 28 w nm nm2 (N : Int) (N : Int) (.slice A n c) (.slice B m d)
    have RA2 := hid (RA.out.below B2)
    have RB2 := hid (RB.out.below B2)
    have HB2 := hid B2
    have hw2 := B2.size
    generalize ((w.alloc (.cells #[.string (bs nm), .int .i64 (N : Int), .slice A n c] 28)).alloc (.cells #[.string (bs nm2), .int .i64 (N : Int), .slice B m d] 28)) = W2 at *
    clear B2 hsz
    have HS5 : ∀ W', Below W2.heap.size W2 W' → W'.cell? ⟨w.heap.size, 0, none⟩ = some (.string (bs nm)) ∧ W'.cell? ⟨w.heap.size, 1, none⟩ = some (.int .i64 (N : Int)) ∧ W'.cell? ⟨w.heap.size, 2, none⟩ = some (.slice A n c) ∧ W'.cell? ⟨w.heap.size + 1, 0, none⟩ = some (.string (bs nm2)) ∧ W'.cell? ⟨w.heap.size + 1, 1, none⟩ = some (.int .i64 (N : Int)) ∧ W'.cell? ⟨w.heap.size + 1, 2, none⟩ = some (.slice B m d) := fun W' h => by
      obtain ⟨⟨a0, a1, a2⟩, a3, a4, a5⟩ := HC.out _ h
      exact ⟨a0, a1, a2, a3, a4, a5⟩
    have HHS := hid HS5
    clear HS5 HC
    obtain ⟨n0, n1, n2, q0, q1, q2⟩ := HHS.out _ (Below.refl W2.heap.size W2)
    refine (G1 _ RA2.out).out.mono ?_
    rintro e w3 ⟨rfl, b3⟩
    have HB3 := hid b3
    clear b3 n0 n1 n2 q0 q1 q2
    obtain ⟨n0, n1, n2, q0, q1, q2⟩ := HHS.out _ HB3.out
    go_wp2_with fail
    refine (G2 _ (RB2.out.below HB3.out)).out.mono ?_
    rintro e w4 ⟨rfl, b4⟩
    have HB4 := hid (HB3.out.trans (b4.mono HB3.out.size))
    clear b4 n0 n1 n2 q0 q1 q2
    obtain ⟨n0, n1, n2, q0, q1, q2⟩ := HHS.out _ HB4.out
    go_wp2_with fail
    refine (BC _ (RA2.out.below HB4.out) (RB2.out.below HB4.out)).out.mono ?_
    rintro e w5 ⟨rfl, b5⟩
    have HB5 := hid (HB4.out.trans (b5.mono HB4.out.size))
    clear b5 n0 n1 n2 q0 q1 q2
    go_wp2
    go_ret2
    exact ⟨rfl, HB2.out.trans (HB5.out.mono hw2)⟩
set_option maxHeartbeats 2000000 in
theorem implFalseBetween_law (a b : Meth) (f : List UInt8) (A B : Option Addr) (n c m d : Nat) (w : World) (oka : LawOk a ([], [])) (okb : LawOk b ([], [])) (ra : Rd w A n (strV a.ch)) (rb : Rd w B m (strV b.ch)) (lf : f.length ≤ 1048576) :
    Calls Try.prog 14 #[.agg #[.string (bs a.nm), .int .i64 a.st, .slice A n c], .agg #[.string (bs b.nm), .int .i64 b.st, .slice B m d], .string (bs f)] w fun e w' => e = .returned (.tuple #[.bool (betweenR a b f).1, .bool (betweenR a b f).2]) ∧ Below w.heap.size w w' := by
  have hn : n ≤ 1048576 := by have h1 := ra.1; have h2 := oka.2.2.1; rw [strV_len] at h1; omega
  have hm : m ≤ 1048576 := by have h1 := rb.1; have h2 := okb.2.2.1; rw [strV_len] at h1; omega
  have G1 := fun (w0 : World) (rd : Rd w0 A n (strV a.ch)) => hid (goodMethod_any a A n c w0 oka.1 oka.2.1 rd hn oka.2.2.2.1)
  have G2 := fun (w0 : World) (rd : Rd w0 B m (strV b.ch)) => hid (goodMethod_any b B m d w0 okb.1 okb.2.1 rd hm okb.2.2.2.1)
  have G3 := fun (w0 : World) => hid (isRowOfI_any a.st f w0 (by omega))
  have RA := hid ra
  have RB := hid rb
  clear ra rb oka okb
  cases hv : betweenB a b f
  · rw [betweenR_no hv]
    simp only [betweenB] at hv
    generalize methB a = P0 at *
    generalize rowOfB a.st f = P2 at *
    generalize methB b = P1 at *
    obtain ⟨nm, st, ch⟩ := a
    obtain ⟨nm2, st2, ch2⟩ := b
    dsimp only at *
    by_cases hst : st = st2
    all_goals
      have hne : (st != st2) = !decide (st = st2) := by rw [Bool.eq_iff_iff]; simp
      first | (rw [decide_eq_true hst] at hv hne) | (rw [decide_eq_false hst] at hv hne)
      simp only [Bool.not_true, Bool.not_false] at hne
      clear hst
      cases P0 <;> cases P1 <;> cases P2 <;> first | (exfalso; simp at hv; done) | skip
    all_goals
      clear hv
      go_enter Try.func14, Try.ntmps14
      go_wp2_with fail
      obtain ⟨B2, hsz, HC⟩ := box_mkM 28 28 w nm nm2 st st2 (.slice A n c) (.slice B m d)
      have RA2 := hid (RA.out.below B2)
      have RB2 := hid (RB.out.below B2)
      have HB2 := hid B2
      have hw2 := B2.size
      generalize ((w.alloc (.cells #[.string (bs nm), .int .i64 st, .slice A n c] 28)).alloc (.cells #[.string (bs nm2), .int .i64 st2, .slice B m d] 28)) = W2 at *
      clear B2 hsz
      have HS5 : ∀ W', Below W2.heap.size W2 W' → W'.cell? ⟨w.heap.size, 0, none⟩ = some (.string (bs nm)) ∧ W'.cell? ⟨w.heap.size, 1, none⟩ = some (.int .i64 st) ∧ W'.cell? ⟨w.heap.size, 2, none⟩ = some (.slice A n c) ∧ W'.cell? ⟨w.heap.size + 1, 0, none⟩ = some (.string (bs nm2)) ∧ W'.cell? ⟨w.heap.size + 1, 1, none⟩ = some (.int .i64 st2) ∧ W'.cell? ⟨w.heap.size + 1, 2, none⟩ = some (.slice B m d) := fun W' h => by
        obtain ⟨⟨a0, a1, a2⟩, a3, a4, a5⟩ := HC.out _ h
        exact ⟨a0, a1, a2, a3, a4, a5⟩
      have HHS := hid HS5
      clear HS5 HC
      obtain ⟨n0, n1, n2, q0, q1, q2⟩ := HHS.out _ (Below.refl W2.heap.size W2)
      refine (G1 _ RA2.out).out.mono ?_
      rintro e w3 ⟨rfl, b3⟩
      have HB3 := hid b3
      clear b3 n0 n1 n2 q0 q1 q2
      obtain ⟨n0, n1, n2, q0, q1, q2⟩ := HHS.out _ HB3.out
      first
        | (go_wp2_with fail
           go_ret2
           exact ⟨rfl, HB2.out.trans (HB3.out.mono hw2)⟩)
        | (go_wp2_with fail
           refine (G2 _ (RB2.out.below HB3.out)).out.mono ?_
           rintro e w4 ⟨rfl, b4⟩
           have HB4 := hid (HB3.out.trans (b4.mono HB3.out.size))
           clear b4 n0 n1 n2 q0 q1 q2
           obtain ⟨n0, n1, n2, q0, q1, q2⟩ := HHS.out _ HB4.out
           first
             | (go_wp2_with fail
                go_ret2
                exact ⟨rfl, HB2.out.trans (HB4.out.mono hw2)⟩)
             | (go_wp2_with fail
                refine (G3 _).out.mono ?_
                rintro e w' ⟨rfl, rfl⟩
                go_wp2_with fail
                go_ret2
                exact ⟨rfl, HB2.out.trans (HB4.out.mono hw2)⟩))
  · have hv' := hv
    simp only [betweenB, Bool.and_eq_true, decide_eq_true_eq] at hv'
    obtain ⟨⟨⟨hA, hF⟩, hB⟩, hst⟩ := hv'
    obtain ⟨N, hN, lo, hi, l1, l40, hsa⟩ := meth_parts hA
    obtain ⟨N2, hN2, _, _, l1b, l40b, hsb⟩ := meth_parts hB
    have hR : betweenR a b f = (decide (0 < (meetL (leadL (roundsL a.st.toNat) a.ch) (leadL f b.ch)).length), true) := if_pos hv
    rw [hR]
    rw [hA] at G1
    rw [hB] at G2
    rw [hF] at G3
    have hnn : n ≤ 1000 := by have h1 := RA.out.1; rw [strV_len] at h1; omega
    have hmm : m ≤ 1000 := by have h1 := RB.out.1; rw [strV_len] at h1; omega
    obtain ⟨nm, st, ch⟩ := a
    obtain ⟨nm2, st2, ch2⟩ := b
    dsimp only at *
    subst hst
    subst hN
    obtain rfl : N = N2 := by omega
    have hrf := rowOfB_row (N := N) (f := f) hF
    have hne : ((N : Int) != (N : Int)) = false := by simp
    have BC := fun (w0 : World) (rda : Rd w0 A n (strV ch)) (rdb : Rd w0 B m (strV ch2)) => hid (falseSet_any N nm nm2 ch ch2 A B n c m d w0 lo hi rda rdb hnn hmm hsa hsb)
    have HQ := hid (quot_meetN ch ch2 hrf)
    simp only [Int.toNat_natCast] at *
    generalize hbb : decide (0 < (meetL (leadL (roundsL N) ch) (leadL f ch2)).length) = bb at *
    clear hv hA hF hB hR hsa hsb hrf hN2 hbb
    go_enter Try.func14, Try.ntmps14
    go_wp2_with fail
    obtain ⟨B2, hsz, HC⟩ := box_mkM 28 28 w nm nm2 (N : Int) (N : Int) (.slice A n c) (.slice B m d)
    have RA2 := hid (RA.out.below B2)
    have RB2 := hid (RB.out.below B2)
    have HB2 := hid B2
    have hw2 := B2.size
    generalize ((w.alloc (.cells #[.string (bs nm), .int .i64 (N : Int), .slice A n c] 28)).alloc (.cells #[.string (bs nm2), .int .i64 (N : Int), .slice B m d] 28)) = W2 at *
    clear B2 hsz
    have HS5 : ∀ W', Below W2.heap.size W2 W' → W'.cell? ⟨w.heap.size, 0, none⟩ = some (.string (bs nm)) ∧ W'.cell? ⟨w.heap.size, 1, none⟩ = some (.int .i64 (N : Int)) ∧ W'.cell? ⟨w.heap.size, 2, none⟩ = some (.slice A n c) ∧ W'.cell? ⟨w.heap.size + 1, 0, none⟩ = some (.string (bs nm2)) ∧ W'.cell? ⟨w.heap.size + 1, 1, none⟩ = some (.int .i64 (N : Int)) ∧ W'.cell? ⟨w.heap.size + 1, 2, none⟩ = some (.slice B m d) := fun W' h => by
      obtain ⟨⟨a0, a1, a2⟩, a3, a4, a5⟩ := HC.out _ h
      exact ⟨a0, a1, a2, a3, a4, a5⟩
    have HHS := hid HS5
    clear HS5 HC
    obtain ⟨n0, n1, n2, q0, q1, q2⟩ := HHS.out _ (Below.refl W2.heap.size W2)
    refine (G1 _ RA2.out).out.mono ?_
    rintro e w3 ⟨rfl, b3⟩
    have HB3 := hid b3
    clear b3 n0 n1 n2 q0 q1 q2
    obtain ⟨n0, n1, n2, q0, q1, q2⟩ := HHS.out _ HB3.out
    go_wp2_with fail
    refine (G2 _ (RB2.out.below HB3.out)).out.mono ?_
    rintro e w4 ⟨rfl, b4⟩
    have HB4 := hid (HB3.out.trans (b4.mono HB3.out.size))
    clear b4 n0 n1 n2 q0 q1 q2
    obtain ⟨n0, n1, n2, q0, q1, q2⟩ := HHS.out _ HB4.out
    go_wp2_with fail
    refine (G3 _).out.mono ?_
    rintro e w' ⟨rfl, rfl⟩
    go_wp2_with fail
    refine (BC _ (RA2.out.below HB4.out) (RB2.out.below HB4.out)).out.mono ?_
    rintro e w5 ⟨g, q, rfl, hq, hS, hg, b5⟩
    have HB5 := hid (HB4.out.trans (b5.mono HB4.out.size))
    have hlook := hS.look lf
    rw [HQ.out] at hlook
    clear hS b5 n0 n1 n2 q0 q1 q2
    go_wp2
    go_ret2
    exact ⟨rfl, HB2.out.trans (HB5.out.mono hw2)⟩
end Go.Proofs.Ytiajeheonoebnaa
