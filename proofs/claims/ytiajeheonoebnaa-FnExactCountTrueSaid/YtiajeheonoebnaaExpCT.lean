/- Contracts of CountTrue, in the reference and in the program. No conditions beyond those stated. -/
import Derived.Test.YtiajeheonoebnaaSrch
import Derived.Test.YtiajeheonoebnaaRowsT
import Derived.Test.YtiajeheonoebnaaTrue
import Derived.Test.YtiajeheonoebnaaSkip
import Derived.Test.YtiajeheonoebnaaLeadT
set_option linter.unusedVariables false
set_option linter.unusedSimpArgs false
set_option maxRecDepth 100000
namespace Go.Proofs.Ytiajeheonoebnaa
open Go.RowKit

/-- Which touches come round and are true. -/
def goodT (N : Nat) (ch : List (List UInt8)) (k : List UInt8 × List UInt8) (t : List UInt8) : Bool := (headTo N ch k t t.length == roundsL N) && trueB (touchL N ch k t)
/-- How many of them there are. -/
def cntT (N : Nat) (ch : List (List UInt8)) (k : List UInt8 × List UInt8) (l : List (List UInt8)) : Nat := (l.filter (goodT N ch k)).length
theorem cntT_le (N : Nat) (ch : List (List UInt8)) (k : List UInt8 × List UInt8) (l : List (List UInt8)) : cntT N ch k l ≤ l.length := List.length_filter_le _ _
theorem cntT_yes {N : Nat} {ch : List (List UInt8)} {k : List UInt8 × List UInt8} {l : List (List UInt8)} {i : Nat} (h : i < l.length) (hg : goodT N ch k l[i] = true) : cntT N ch k (l.take i) + 1 = cntT N ch k (l.take (i + 1)) := by
  unfold cntT
  rw [List.take_succ_eq_append_getElem h, List.filter_append]
  simp [List.filter_cons, hg]
theorem cntT_no {N : Nat} {ch : List (List UInt8)} {k : List UInt8 × List UInt8} {l : List (List UInt8)} {i : Nat} (h : i < l.length) (hg : goodT N ch k l[i] = false) : cntT N ch k (l.take i) = cntT N ch k (l.take (i + 1)) := by
  unfold cntT
  rw [List.take_succ_eq_append_getElem h, List.filter_append]
  simp [List.filter_cons, hg]
theorem allT_calls (n : Nat) : ∀ s ∈ allT n, s.all callB = true := by
  induction n with
  | zero => intro s hs; simp [allT] at hs; simp [hs]
  | succ n ih =>
    intro s hs
    simp only [allT, nextT, List.mem_flatMap] at hs
    obtain ⟨x, hx, hs⟩ := hs
    have h := ih x hx
    simp only [List.mem_cons, List.not_mem_nil, or_false] at hs
    rcases hs with rfl | rfl | rfl <;> (rw [List.all_append, h]; decide)
/-- What CountTrue answers. -/
def countTrueR (m : Meth) (k : List UInt8 × List UInt8) (q : Int) : Int × Bool := if (callsB m k && searchB q) = true then ((cntT m.st.toNat m.ch k (allT q.toNat) : Nat), true) else (0, false)
set_option maxHeartbeats 4000000 in
theorem specCountTrue_law (m : Meth) (k : List UInt8 × List UInt8) (q : Int) (A : Option Addr) (n c : Nat) (w : World) (ok : LawOk m k) (rd : Rd w A n (strV m.ch)) (hcap : n ≤ c) :
    Calls Try.prog 19 #[.agg #[.string (bs m.nm), .int .i64 m.st, .slice A n c], .agg #[.string (bs k.1), .string (bs k.2)], .int .i64 q] w fun e w' => e = .returned (.tuple #[.int .i64 (countTrueR m k q).1, .bool (countTrueR m k q).2]) ∧ Below w.heap.size w w' := by
  have hn : n ≤ 1048576 := by have h1 := rd.1; have h2 := ok.2.2.1; rw [strV_len] at h1; omega
  have hcl : m.ch.length = n := by have h1 := rd.1; rw [strV_len] at h1; exact h1
  have GC0 := fun (w0 : World) (rd : Rd w0 A n (strV m.ch)) => hid (l13Asked_any m k q A n c w0 ok rd)
  have RS := hid rd
  have HOK := hid ok
  clear rd ok
  cases hg0 : callsB m k && searchB q
  · rw [hg0] at GC0
    have HR := hid (show countTrueR m k q = (0, false) from by unfold countTrueR; rw [if_neg (by rw [hg0]; simp)])
    obtain ⟨nm, st, ch⟩ := m
    obtain ⟨k1, k2⟩ := k
    dsimp only at *
    clear HOK hg0
    go_enter Try.func19, Try.ntmps19
    go_wp2_with fail
    obtain ⟨B2, hsz, HC⟩ := box_mk w nm k1 k2 st (.slice A n c)
    have R2 := hid (RS.out.below B2)
    have HB2 := hid B2
    have hw2 := B2.size
    generalize ((w.alloc (.cells #[.string (bs nm), .int .i64 st, .slice A n c] 28)).alloc (.cells #[.string (bs k1), .string (bs k2)] 39)) = W2 at *
    clear B2 hsz
    have HS5 : ∀ W', Below W2.heap.size W2 W' → W'.cell? ⟨w.heap.size, 0, none⟩ = some (.string (bs nm)) ∧ W'.cell? ⟨w.heap.size, 1, none⟩ = some (.int .i64 st) ∧ W'.cell? ⟨w.heap.size, 2, none⟩ = some (.slice A n c) ∧ W'.cell? ⟨w.heap.size + 1, 0, none⟩ = some (.string (bs k1)) ∧ W'.cell? ⟨w.heap.size + 1, 1, none⟩ = some (.string (bs k2)) := fun W' h => by
      obtain ⟨⟨a0, a1, a2⟩, a3, a4⟩ := HC.out _ h
      exact ⟨a0, a1, a2, a3, a4⟩
    have HHS5 := hid HS5
    clear HS5 HC
    have E0 : Hid (Below W2.heap.size W2 W2) := hid (Below.refl _ _)
    obtain ⟨n0, n1, n2, p0, p1⟩ := HHS5.out _ E0.out
    refine (GC0 _ (R2.out.below E0.out)).out.mono ?_
    rintro e wx0 ⟨rfl, bx⟩
    have E1 := hid (E0.out.trans (bx.mono E0.out.size))
    clear bx
    clear n0 n1 n2 p0 p1
    obtain ⟨n0, n1, n2, p0, p1⟩ := HHS5.out _ E1.out
    go_wp2
    go_ret2
    rw [HR.out]
    exact ⟨rfl, HB2.out.trans (E1.out.mono hw2)⟩
  · rw [hg0] at GC0
    have hcalls : callsB m k = true := by simp only [Bool.and_eq_true] at hg0; exact hg0.1
    have HR := hid (show countTrueR m k q = (((cntT m.st.toNat m.ch k (allT q.toNat) : Nat) : Int), true) from by unfold countTrueR; rw [if_pos hg0])
    have hm : methB m = true := callsB_meth (m := m) (k := k) hcalls
    have hb1 := callsB_bob hcalls
    have hb2 := callsB_single hcalls
    obtain ⟨N, hN, lo, hi, l1, l40, hs⟩ := meth_parts hm
    clear hm hcalls
    obtain ⟨nm, st, ch⟩ := m
    obtain ⟨k1, k2⟩ := k
    dsimp only at *
    subst hN
    have BC0 := True.intro
    obtain ⟨j, hj, j1, j6⟩ := searchB_nat (q := q) (by simp only [Bool.and_eq_true] at hg0; exact hg0.2)
    subst hj
    obtain ⟨T, hT⟩ : ∃ T, T = allT j := ⟨_, rfl⟩
    have hTl : T.length ≤ 729 := by rw [hT]; exact allT_le j j6
    have HTs := hid (fun s (hs : s ∈ T) => (show s.length = j by rw [hT] at hs; exact allT_str j s hs))
    have HTc := hid (fun s (hs : s ∈ T) => (show s.all callB = true by rw [hT] at hs; exact allT_calls j s hs))
    have HCT := hid (show countTrueR ⟨nm, (N : Int), ch⟩ (k1, k2) (j : Int) = (((cntT N ch (k1, k2) T : Nat) : Int), true) by rw [hT]; exact HR.out)
    have HTL := hid (fun (t : List UInt8) (ht : t.length ≤ 1000) => (show (touchL N ch (k1, k2) t).length ≤ 1048576 by
      rw [touchL_len, hcl]
      exact Nat.le_trans (Nat.mul_le_mul ht (show n ≤ 1000 by omega)) (by omega)))
    obtain ⟨Rn, hRn⟩ : ∃ x, x = roundsL N := ⟨_, rfl⟩
    have HGT := hid (fun t => (show goodT N ch (k1, k2) t = ((headTo N ch (k1, k2) t t.length == Rn) && trueB (touchL N ch (k1, k2) t)) by rw [hRn]; rfl))
    have ALL := fun (w0 : World) => hid (l13All_any j w0 j6)
    rw [← hT] at ALL
    have GE := fun (t : List UInt8) (ht : t.length ≤ 1000) (w0 : World) (rd : Rd w0 A n (strV ch)) => hid (l9End_any N nm t ch (k1, k2) A n c w0 lo hi rd (by omega) hcap l1 hs hb1 hb2 ht)
    have GR := fun (t : List UInt8) (ht : t.length ≤ 1000) (w0 : World) (rd : Rd w0 A n (strV ch)) => hid (l9Rows_any N nm t ch (k1, k2) A n c w0 lo hi rd (by omega) hcap l1 hs hb1 hb2 ht)
    have GT := fun (t : List UInt8) (w0 : World) A1 n1 c1 (rd : Rd w0 A1 n1 (strV (touchL N ch (k1, k2) t))) (h1 : n1 ≤ 1048576) => hid (l7True_any A1 n1 c1 _ w0 rd h1)
    have GN := fun w0 => hid (l1Rounds_any N w0 hi)
    rw [← hRn] at GN
    clear hRn hT HR
    clear HOK hb1 hb2 hs hcl hg0
    go_enter Try.func19, Try.ntmps19
    go_wp2_with fail
    obtain ⟨B2, hsz, HC⟩ := box_mk w nm k1 k2 (N : Int) (.slice A n c)
    have R2 := hid (RS.out.below B2)
    have HB2 := hid B2
    have hw2 := B2.size
    generalize ((w.alloc (.cells #[.string (bs nm), .int .i64 (N : Int), .slice A n c] 28)).alloc (.cells #[.string (bs k1), .string (bs k2)] 39)) = W2 at *
    clear B2 hsz
    have HS5 : ∀ W', Below W2.heap.size W2 W' → W'.cell? ⟨w.heap.size, 0, none⟩ = some (.string (bs nm)) ∧ W'.cell? ⟨w.heap.size, 1, none⟩ = some (.int .i64 (N : Int)) ∧ W'.cell? ⟨w.heap.size, 2, none⟩ = some (.slice A n c) ∧ W'.cell? ⟨w.heap.size + 1, 0, none⟩ = some (.string (bs k1)) ∧ W'.cell? ⟨w.heap.size + 1, 1, none⟩ = some (.string (bs k2)) := fun W' h => by
      obtain ⟨⟨a0, a1, a2⟩, a3, a4⟩ := HC.out _ h
      exact ⟨a0, a1, a2, a3, a4⟩
    have HHS5 := hid HS5
    clear HS5 HC
    have E0 : Hid (Below W2.heap.size W2 W2) := hid (Below.refl _ _)
    obtain ⟨n0, n1, n2, p0, p1⟩ := HHS5.out _ E0.out
    refine (GC0 _ (R2.out.below E0.out)).out.mono ?_
    rintro e wx0 ⟨rfl, bx⟩
    have E1 := hid (E0.out.trans (bx.mono E0.out.size))
    clear bx
    clear n0 n1 n2 p0 p1
    have E2 := E1
    obtain ⟨n0, n1, n2, p0, p1⟩ := HHS5.out _ E2.out
    go_wp2_with fail
    refine (ALL _).out.mono ?_
    rintro e wx ⟨vL, rfl, oL, bL⟩
    obtain ⟨AL, cL, rfl, _, _, rdL, _⟩ := own_shape oL
    have RL := hid rdL
    have EL := hid (E2.out.trans (bL.mono E2.out.size))
    have hszL : W2.heap.size ≤ wx.heap.size := EL.out.size
    clear oL bL rdL n0 n1 n2 p0 p1
    obtain ⟨M, hM⟩ : ∃ M, M = T.length := ⟨_, rfl⟩
    rw [← hM] at RL hTl
    have HM := hid hM
    simp only [← hM]
    clear hM
    go_wp2
    go_loopg [8, 19] M (fun gk u v wr => ∃ i : Nat, i ≤ M ∧ gk = M - i ∧ u = .int .i64 ((cntT N ch (k1, k2) (T.take i) : Nat) : Int) ∧ v = .int .i64 i ∧ Below wx.heap.size wx wr)
    case atStart => exact ⟨0, by omega, by omega, by simp [cntT], rfl, Below.refl _ _⟩
    case round =>
      obtain ⟨i, hi', rfl, rfl, rfl, hb⟩ := hrel
      by_cases hlt : i < M
      · obtain ⟨b', o', rfl, hj', hc⟩ := (RL.out.below hb).str hlt
        have hk0 : (0 : Int) ≤ (i : Int) := by omega
        have hk1 : (i : Int) < (M : Int) := by omega
        obtain ⟨t, ht⟩ : ∃ t, t = T[i] := ⟨_, rfl⟩
        have ht1 : t.length = j := HTs.out t (by rw [ht]; exact List.getElem_mem _)
        have ht2 : t.length ≤ 1000 := by omega
        have ht3 := hid (HTc.out t (by rw [ht]; exact List.getElem_mem _))
        have HY := hid (fun h : goodT N ch (k1, k2) t = true => cntT_yes (N := N) (ch := ch) (k := (k1, k2)) hj' (by rw [← ht]; exact h))
        have HN := hid (fun h : goodT N ch (k1, k2) t = false => cntT_no (N := N) (ch := ch) (k := (k1, k2)) hj' (by rw [← ht]; exact h))
        have hq1 : cntT N ch (k1, k2) (T.take i) ≤ 729 := Nat.le_trans (cntT_le _ _ _ _) (by rw [List.length_take]; omega)
        obtain ⟨z, hz⟩ : ∃ z, z = cntT N ch (k1, k2) (T.take i) := ⟨_, rfl⟩
        rw [← hz] at HY HN hq1
        simp only [← hz]
        rw [← ht] at hc
        have HGt := hid (HGT.out t)
        have hTLt := HTL.out t ht2
        have GEt := GE t ht2
        have GRt := GR t ht2
        have GTt := GT t
        obtain ⟨Hd, hHd⟩ : ∃ x, x = headTo N ch (k1, k2) t t.length := ⟨_, rfl⟩
        obtain ⟨X, hX⟩ : ∃ x, x = touchL N ch (k1, k2) t := ⟨_, rfl⟩
        rw [← hHd] at GEt HGt
        rw [← hX] at GRt GTt HGt hTLt
        have HLX := hid hTLt
        clear hHd hX hTLt ht
        have EB := hid (EL.out.trans (hb.mono hszL))
        have HBw := hid hb
        have hbs := hb.size
        clear hb
        clear hz
        cases hg : (Hd == Rn)
        · have hgd : goodT N ch (k1, k2) t = false := by rw [HGt.out, hg]; rfl
          have HN1 := hid (HN.out hgd)
          clear hgd HY HN HGt
          obtain ⟨n0, n1, n2, p0, p1⟩ := HHS5.out _ EB.out
          go_wp2_with fail
          refine wp_region_held_drew (S := fun w' => w'.cell? ⟨w.heap.size, 0, none⟩ = some (.string (bs nm)) ∧ w'.cell? ⟨w.heap.size, 1, none⟩ = some (.int .i64 (N : Int)) ∧ w'.cell? ⟨w.heap.size, 2, none⟩ = some (.slice A n c) ∧ w'.cell? ⟨w.heap.size + 1, 0, none⟩ = some (.string (bs k1)) ∧ w'.cell? ⟨w.heap.size + 1, 1, none⟩ = some (.string (bs k2))) (by kernel_rfl) (HHS5.out _ EB.out.drew) (fun hHeld => ?_)
          refine wpAnyH_take (i := 0) (v := ?_) rfl (by kernel_rfl) (by kernel_rfl) (by kernel_rfl) (fun _ _ _ h => h) (Or.inl ⟨by rfl, ?_⟩) (by assumption) ?_
          rotate_left
          · (intro w hSw; (try dsimp only at hSw); go_simp; with_reducible rfl)
          try simp only [Act.put, List.setIfInBounds_toArray, List.set_cons_zero, List.set_cons_succ]
          refine wpAnyH_take (i := 1) (v := ?_) rfl (by kernel_rfl) (by kernel_rfl) (by kernel_rfl) (fun _ _ _ h => h) (Or.inl ⟨by rfl, ?_⟩) (by assumption) ?_
          rotate_left
          · (intro w hSw; (try dsimp only at hSw); go_simp; with_reducible rfl)
          try simp only [Act.put, List.setIfInBounds_toArray, List.set_cons_zero, List.set_cons_succ]
          refine wpAnyH_take (i := 2) (v := ?_) rfl (by kernel_rfl) (by kernel_rfl) (by kernel_rfl) (fun _ _ _ h => h) (Or.inl ⟨by rfl, ?_⟩) (by assumption) ?_
          rotate_left
          · (intro w hSw; (try dsimp only at hSw); go_simp; with_reducible rfl)
          try simp only [Act.put, List.setIfInBounds_toArray, List.set_cons_zero, List.set_cons_succ]
          refine wpAnyH_take (i := 4) (v := ?_) rfl (by kernel_rfl) (by kernel_rfl) (by kernel_rfl) (fun _ _ _ h => h) (Or.inl ⟨by rfl, ?_⟩) (by assumption) ?_
          rotate_left
          · (intro w hSw; (try dsimp only at hSw); go_simp; with_reducible rfl)
          try simp only [Act.put, List.setIfInBounds_toArray, List.set_cons_zero, List.set_cons_succ]
          refine wpAnyH_take (i := 5) (v := ?_) rfl (by kernel_rfl) (by kernel_rfl) (by kernel_rfl) (fun _ _ _ h => h) (Or.inl ⟨by rfl, ?_⟩) (by assumption) ?_
          rotate_left
          · (intro w hSw; (try dsimp only at hSw); go_simp; with_reducible rfl)
          try simp only [Act.put, List.setIfInBounds_toArray, List.set_cons_zero, List.set_cons_succ]
          refine wpAnyH_ready (rs := [3]) (by kernel_rfl) (by simp) ?_
          refine AllReadyH.cons rfl (fun K hK => ?_) AllReadyH.nil
          go_simp
          go_at_call 53
          refine ((GEt _ (R2.out.below EB.out.drew)).out).mono ?_
          rintro e wa ⟨rfl, ba⟩
          have Fa := EB.out.drew.trans (ba.mono EB.out.size)
          go_wp2_with fail
          refine hK.out _ _ (HHS5.out _ Fa) (fun hHx => ?_)
          clear hHx hK K hHeld
          try simp only [Act.put, List.setIfInBounds_toArray, List.set_cons_zero, List.set_cons_succ]
          refine wpAnyH_ready (rs := [6]) (by kernel_rfl) (by simp) ?_
          refine AllReadyH.cons rfl (fun K hK => ?_) AllReadyH.nil
          go_simp
          go_at_call 54
          refine ((GN _).out).mono ?_
          rintro e w' ⟨rfl, rfl⟩
          go_wp2_with fail
          refine hK.out _ _ (HHS5.out _ Fa) (fun hHx => ?_)
          clear hHx hK K
          try simp only [Act.put, List.setIfInBounds_toArray, List.set_cons_zero, List.set_cons_succ]
          refine wpAnyH_take (i := 7) (v := ?_) rfl (by kernel_rfl) (by kernel_rfl) (by kernel_rfl) (fun _ _ _ h => h) (Or.inl ⟨by rfl, ?_⟩) (HHS5.out _ Fa) ?_
          rotate_left
          · (intro w hSw; (try dsimp only at hSw); go_simp; with_reducible rfl)
          try simp only [Act.put, List.setIfInBounds_toArray, List.set_cons_zero, List.set_cons_succ]
          refine wpAnyH_take (i := 8) (v := ?_) rfl (by kernel_rfl) (by kernel_rfl) (by kernel_rfl) (fun _ _ _ h => h) (Or.inl ⟨by rfl, ?_⟩) (HHS5.out _ Fa) ?_
          rotate_left
          · (intro w hSw; (try dsimp only at hSw); go_simp; with_reducible rfl)
          try simp only [Act.put, List.setIfInBounds_toArray, List.set_cons_zero, List.set_cons_succ]
          refine wpAnyH_pass (i := 9) (d := some 32) (by kernel_rfl) (by kernel_rfl) (by kernel_rfl) (by kernel_rfl) (fun _ _ _ _ h => h) (by kernel_rfl) (HHS5.out _ Fa) ?_
          try simp only [Act.put, List.setIfInBounds_toArray, List.set_cons_zero, List.set_cons_succ]
          refine wpAnyH_pass (i := 10) (d := some 33) (by kernel_rfl) (by kernel_rfl) (by kernel_rfl) (by kernel_rfl) (fun _ _ _ _ h => h) (by kernel_rfl) (HHS5.out _ Fa) ?_
          try simp only [Act.put, List.setIfInBounds_toArray, List.set_cons_zero, List.set_cons_succ]
          refine wpAnyH_pass (i := 11) (d := some 34) (by kernel_rfl) (by kernel_rfl) (by kernel_rfl) (by kernel_rfl) (fun _ _ _ _ h => h) (by kernel_rfl) (HHS5.out _ Fa) ?_
          try simp only [Act.put, List.setIfInBounds_toArray, List.set_cons_zero, List.set_cons_succ]
          refine wpAnyH_pass (i := 12) (d := some 35) (by kernel_rfl) (by kernel_rfl) (by kernel_rfl) (by kernel_rfl) (fun _ _ _ _ h => h) (by kernel_rfl) (HHS5.out _ Fa) ?_
          try simp only [Act.put, List.setIfInBounds_toArray, List.set_cons_zero, List.set_cons_succ]
          refine wpAnyH_pass (i := 13) (d := some 36) (by kernel_rfl) (by kernel_rfl) (by kernel_rfl) (by kernel_rfl) (fun _ _ _ _ h => h) (by kernel_rfl) (HHS5.out _ Fa) ?_
          try simp only [Act.put, List.setIfInBounds_toArray, List.set_cons_zero, List.set_cons_succ]
          refine wpAnyH_ready (rs := [14]) (by kernel_rfl) (by simp) ?_
          refine AllReadyH.cons rfl (fun K hK => ?_) AllReadyH.nil
          go_simp
          refine hK.out _ _ (HHS5.out _ Fa) (fun hHx => ?_)
          clear hHx hK K
          try simp only [Act.put, List.setIfInBounds_toArray, List.set_cons_zero, List.set_cons_succ]
          refine wpAnyH_done (by kernel_rfl) ?_ _
          have HBa := hid (HBw.out.drew.trans (ba.mono hbs))
          clear ba Fa n0 n1 n2 p0 p1
          go_wp2
          go_roundg (M - (i + 1))
          case measure => omega
          case rel => exact ⟨i + 1, by omega, rfl, by rw [← HN1.out], by go_num, HBa.out⟩
        · obtain ⟨n0, n1, n2, p0, p1⟩ := HHS5.out _ EB.out
          obtain ⟨Tb, hTb⟩ : ∃ x, x = trueB X := ⟨_, rfl⟩
          rw [← hTb] at GTt HGt
          clear hTb
          go_wp2_with fail
          go_region_held3 (fun w' => w'.cell? ⟨w.heap.size, 0, none⟩ = some (.string (bs nm)) ∧ w'.cell? ⟨w.heap.size, 1, none⟩ = some (.int .i64 (N : Int)) ∧ w'.cell? ⟨w.heap.size, 2, none⟩ = some (.slice A n c) ∧ w'.cell? ⟨w.heap.size + 1, 0, none⟩ = some (.string (bs k1)) ∧ w'.cell? ⟨w.heap.size + 1, 1, none⟩ = some (.string (bs k2)))
            (first | exact HHS5.out _ EB.out | exact HHS5.out _ EB.out.drew | exact HHS5.out _ Fa | exact HHS5.out _ Fb | exact HHS5.out _ Fc)
            (first | (go_at_call 53; refine (GEt _ (R2.out.below EB.out.drew)).out.mono ?_; rintro e wa ⟨rfl, ba⟩; have Fa := EB.out.drew.trans (ba.mono EB.out.size)) | (go_at_call 54; refine (GN _).out.mono ?_; rintro e w' ⟨rfl, rfl⟩) | (go_at_call 56; refine (GRt _ (R2.out.below Fa)).out.mono ?_; rintro e wb ⟨vb, rfl, ob, bb⟩; obtain ⟨Ab, cb, rfl, _, _, rdb, _⟩ := own_shape ob; have Fb := Fa.trans (bb.mono Fa.size)) | (go_at_call 55; refine (GTt _ _ _ _ rdb HLX.out).out.mono ?_; rintro e wc ⟨rfl, bc⟩; have Fc := Fb.trans (bc.mono Fb.size)))
          have HBc := hid (HBw.out.drew.trans ((ba.trans ((bb.trans (bc.mono bb.size)).mono ba.size)).mono hbs))
          clear ba ob bb rdb bc Fa Fb Fc n0 n1 n2 p0 p1
          cases Tb
          · have HN1 := hid (HN.out (by rw [HGt.out, hg]; rfl))
            clear HY HN HGt
            go_wp2
            go_roundg (M - (i + 1))
            case measure => omega
            case rel => exact ⟨i + 1, by omega, rfl, by rw [← HN1.out], by go_num, HBc.out⟩
          · have HY1 := hid (HY.out (by rw [HGt.out, hg]; rfl))
            clear HY HN HGt
            go_wp2
            go_roundg (M - (i + 1))
            case measure => omega
            case rel => exact ⟨i + 1, by omega, rfl, by rw [← HY1.out]; go_num, by go_num, HBc.out⟩
      · obtain rfl : i = M := by omega
        rw [List.take_of_length_le (by rw [← HM.out]; omega)]
        have EB := hid (EL.out.trans (hb.mono hszL))
        clear hb
        go_wp2
        go_ret2
        rw [HCT.out]
        exact ⟨rfl, HB2.out.trans (EB.out.mono hw2)⟩
set_option maxHeartbeats 4000000 in
theorem implCountTrue_law (m : Meth) (k : List UInt8 × List UInt8) (q : Int) (A : Option Addr) (n c : Nat) (w : World) (ok : LawOk m k) (rd : Rd w A n (strV m.ch)) (hcap : n ≤ c) :
    Calls Try.prog 21 #[.agg #[.string (bs m.nm), .int .i64 m.st, .slice A n c], .agg #[.string (bs k.1), .string (bs k.2)], .int .i64 q] w fun e w' => e = .returned (.tuple #[.int .i64 (countTrueR m k q).1, .bool (countTrueR m k q).2]) ∧ Below w.heap.size w w' := by
  have hn : n ≤ 1048576 := by have h1 := rd.1; have h2 := ok.2.2.1; rw [strV_len] at h1; omega
  have hcl : m.ch.length = n := by have h1 := rd.1; rw [strV_len] at h1; exact h1
  have GC0 := fun (w0 : World) (rd : Rd w0 A n (strV m.ch)) => hid (goodSearch_any m k q A n c w0 ok rd)
  have RS := hid rd
  have HOK := hid ok
  clear rd ok
  cases hg0 : callsB m k && searchB q
  · rw [hg0] at GC0
    have HR := hid (show countTrueR m k q = (0, false) from by unfold countTrueR; rw [if_neg (by rw [hg0]; simp)])
    obtain ⟨nm, st, ch⟩ := m
    obtain ⟨k1, k2⟩ := k
    dsimp only at *
    clear HOK hg0
    go_enter Try.func21, Try.ntmps21
    go_wp2_with fail
    obtain ⟨B2, hsz, HC⟩ := box_mk w nm k1 k2 st (.slice A n c)
    have R2 := hid (RS.out.below B2)
    have HB2 := hid B2
    have hw2 := B2.size
    generalize ((w.alloc (.cells #[.string (bs nm), .int .i64 st, .slice A n c] 28)).alloc (.cells #[.string (bs k1), .string (bs k2)] 39)) = W2 at *
    clear B2 hsz
    have HS5 : ∀ W', Below W2.heap.size W2 W' → W'.cell? ⟨w.heap.size, 0, none⟩ = some (.string (bs nm)) ∧ W'.cell? ⟨w.heap.size, 1, none⟩ = some (.int .i64 st) ∧ W'.cell? ⟨w.heap.size, 2, none⟩ = some (.slice A n c) ∧ W'.cell? ⟨w.heap.size + 1, 0, none⟩ = some (.string (bs k1)) ∧ W'.cell? ⟨w.heap.size + 1, 1, none⟩ = some (.string (bs k2)) := fun W' h => by
      obtain ⟨⟨a0, a1, a2⟩, a3, a4⟩ := HC.out _ h
      exact ⟨a0, a1, a2, a3, a4⟩
    have HHS5 := hid HS5
    clear HS5 HC
    have E0 : Hid (Below W2.heap.size W2 W2) := hid (Below.refl _ _)
    obtain ⟨n0, n1, n2, p0, p1⟩ := HHS5.out _ E0.out
    refine (GC0 _ (R2.out.below E0.out)).out.mono ?_
    rintro e wx0 ⟨rfl, bx⟩
    have E1 := hid (E0.out.trans (bx.mono E0.out.size))
    clear bx
    clear n0 n1 n2 p0 p1
    obtain ⟨n0, n1, n2, p0, p1⟩ := HHS5.out _ E1.out
    go_wp2
    go_ret2
    rw [HR.out]
    exact ⟨rfl, HB2.out.trans (E1.out.mono hw2)⟩
  · rw [hg0] at GC0
    have hcalls : callsB m k = true := by simp only [Bool.and_eq_true] at hg0; exact hg0.1
    have HR := hid (show countTrueR m k q = (((cntT m.st.toNat m.ch k (allT q.toNat) : Nat) : Int), true) from by unfold countTrueR; rw [if_pos hg0])
    have hm : methB m = true := callsB_meth (m := m) (k := k) hcalls
    have hb1 := callsB_bob hcalls
    have hb2 := callsB_single hcalls
    obtain ⟨N, hN, lo, hi, l1, l40, hs⟩ := meth_parts hm
    clear hm hcalls
    obtain ⟨nm, st, ch⟩ := m
    obtain ⟨k1, k2⟩ := k
    dsimp only at *
    subst hN
    have BC0 := True.intro
    obtain ⟨j, hj, j1, j6⟩ := searchB_nat (q := q) (by simp only [Bool.and_eq_true] at hg0; exact hg0.2)
    subst hj
    obtain ⟨T, hT⟩ : ∃ T, T = allT j := ⟨_, rfl⟩
    have hTl : T.length ≤ 729 := by rw [hT]; exact allT_le j j6
    have HTs := hid (fun s (hs : s ∈ T) => (show s.length = j by rw [hT] at hs; exact allT_str j s hs))
    have HTc := hid (fun s (hs : s ∈ T) => (show s.all callB = true by rw [hT] at hs; exact allT_calls j s hs))
    have HCT := hid (show countTrueR ⟨nm, (N : Int), ch⟩ (k1, k2) (j : Int) = (((cntT N ch (k1, k2) T : Nat) : Int), true) by rw [hT]; exact HR.out)
    have HTL := hid (fun (t : List UInt8) (ht : t.length ≤ 1000) => (show (touchL N ch (k1, k2) t).length ≤ 1048576 by
      rw [touchL_len, hcl]
      exact Nat.le_trans (Nat.mul_le_mul ht (show n ≤ 1000 by omega)) (by omega)))
    obtain ⟨Rn, hRn⟩ : ∃ x, x = roundsL N := ⟨_, rfl⟩
    have HGT := hid (fun t => (show goodT N ch (k1, k2) t = ((headTo N ch (k1, k2) t t.length == Rn) && trueB (touchL N ch (k1, k2) t)) by rw [hRn]; rfl))
    have ALL := fun (w0 : World) => hid (allTouches_any j w0 j6)
    rw [← hT] at ALL
    have GH := fun (t : List UInt8) (ht : t.length ≤ 1000) (hc : t.all callB = true) (w0 : World) (rd : Rd w0 A n (strV ch)) => hid (heads_any N nm t ch (k1, k2) A n c w0 lo hi rd (by omega) l1 hs hb1 hb2 ht hc)
    have GF := fun (t : List UInt8) (ht : t.length ≤ 1000) B d (w0 : World) (rd : Rd w0 A n (strV ch)) (rb : Rd w0 B t.length (strV ((headsTo N ch (k1, k2) t t.length).take t.length))) => hid (leadsFrom_any N nm (N : Int) ch ((headsTo N ch (k1, k2) t t.length).take t.length) A B n c t.length d w0 rd rb (by omega) ht hs (heads_take_rows lo hi ch (k1, k2) t _ _))
    have GT := fun (t : List UInt8) (w0 : World) A1 n1 c1 (rd : Rd w0 A1 n1 (strV (touchL N ch (k1, k2) t))) (h1 : n1 ≤ 1048576) => hid (isTrue_any A1 n1 c1 (touchL N ch (k1, k2) t) w0 rd h1 (row_short hi (touchL_rows lo hi ch (k1, k2) t)))
    have GN := fun w0 => hid (rounds_any N w0 hi)
    rw [← hRn] at GN
    clear hRn hT HR
    clear HOK hb1 hb2 hs hcl hg0
    go_enter Try.func21, Try.ntmps21
    go_wp2_with fail
    obtain ⟨B2, hsz, HC⟩ := box_mk w nm k1 k2 (N : Int) (.slice A n c)
    have R2 := hid (RS.out.below B2)
    have HB2 := hid B2
    have hw2 := B2.size
    generalize ((w.alloc (.cells #[.string (bs nm), .int .i64 (N : Int), .slice A n c] 28)).alloc (.cells #[.string (bs k1), .string (bs k2)] 39)) = W2 at *
    clear B2 hsz
    have HS5 : ∀ W', Below W2.heap.size W2 W' → W'.cell? ⟨w.heap.size, 0, none⟩ = some (.string (bs nm)) ∧ W'.cell? ⟨w.heap.size, 1, none⟩ = some (.int .i64 (N : Int)) ∧ W'.cell? ⟨w.heap.size, 2, none⟩ = some (.slice A n c) ∧ W'.cell? ⟨w.heap.size + 1, 0, none⟩ = some (.string (bs k1)) ∧ W'.cell? ⟨w.heap.size + 1, 1, none⟩ = some (.string (bs k2)) := fun W' h => by
      obtain ⟨⟨a0, a1, a2⟩, a3, a4⟩ := HC.out _ h
      exact ⟨a0, a1, a2, a3, a4⟩
    have HHS5 := hid HS5
    clear HS5 HC
    have E0 : Hid (Below W2.heap.size W2 W2) := hid (Below.refl _ _)
    obtain ⟨n0, n1, n2, p0, p1⟩ := HHS5.out _ E0.out
    refine (GC0 _ (R2.out.below E0.out)).out.mono ?_
    rintro e wx0 ⟨rfl, bx⟩
    have E1 := hid (E0.out.trans (bx.mono E0.out.size))
    clear bx
    clear n0 n1 n2 p0 p1
    have E2 := E1
    obtain ⟨n0, n1, n2, p0, p1⟩ := HHS5.out _ E2.out
    go_wp2_with fail
    refine (ALL _).out.mono ?_
    rintro e wx ⟨vL, rfl, oL, bL⟩
    obtain ⟨AL, cL, rfl, _, _, rdL, _⟩ := own_shape oL
    have RL := hid rdL
    have EL := hid (E2.out.trans (bL.mono E2.out.size))
    have hszL : W2.heap.size ≤ wx.heap.size := EL.out.size
    clear oL bL rdL n0 n1 n2 p0 p1
    obtain ⟨M, hM⟩ : ∃ M, M = T.length := ⟨_, rfl⟩
    rw [← hM] at RL hTl
    have HM := hid hM
    simp only [← hM]
    clear hM
    go_wp2
    go_loopg [8, 20] M (fun gk u v wr => ∃ i : Nat, i ≤ M ∧ gk = M - i ∧ u = .int .i64 ((cntT N ch (k1, k2) (T.take i) : Nat) : Int) ∧ v = .int .i64 i ∧ Below wx.heap.size wx wr)
    case atStart => exact ⟨0, by omega, by omega, by simp [cntT], rfl, Below.refl _ _⟩
    case round =>
      obtain ⟨i, hi', rfl, rfl, rfl, hb⟩ := hrel
      by_cases hlt : i < M
      · obtain ⟨b', o', rfl, hj', hc⟩ := (RL.out.below hb).str hlt
        have hk0 : (0 : Int) ≤ (i : Int) := by omega
        have hk1 : (i : Int) < (M : Int) := by omega
        obtain ⟨t, ht⟩ : ∃ t, t = T[i] := ⟨_, rfl⟩
        have ht1 : t.length = j := HTs.out t (by rw [ht]; exact List.getElem_mem _)
        have ht2 : t.length ≤ 1000 := by omega
        have ht3 := hid (HTc.out t (by rw [ht]; exact List.getElem_mem _))
        have HY := hid (fun h : goodT N ch (k1, k2) t = true => cntT_yes (N := N) (ch := ch) (k := (k1, k2)) hj' (by rw [← ht]; exact h))
        have HN := hid (fun h : goodT N ch (k1, k2) t = false => cntT_no (N := N) (ch := ch) (k := (k1, k2)) hj' (by rw [← ht]; exact h))
        have hq1 : cntT N ch (k1, k2) (T.take i) ≤ 729 := Nat.le_trans (cntT_le _ _ _ _) (by rw [List.length_take]; omega)
        obtain ⟨z, hz⟩ : ∃ z, z = cntT N ch (k1, k2) (T.take i) := ⟨_, rfl⟩
        rw [← hz] at HY HN hq1
        simp only [← hz]
        rw [← ht] at hc
        have HGt := hid (HGT.out t)
        have hTLt := HTL.out t ht2
        have GHt := GH t ht2 ht3.out
        have GFt := GF t ht2
        have GTt := GT t
        obtain ⟨Hd, hHd⟩ : ∃ x, x = headTo N ch (k1, k2) t t.length := ⟨_, rfl⟩
        obtain ⟨X, hX⟩ : ∃ x, x = touchL N ch (k1, k2) t := ⟨_, rfl⟩
        have hXL : leadsL ch ((headsTo N ch (k1, k2) t t.length).take t.length) = X := hX.symm
        rw [hXL] at GFt
        rw [← hHd] at HGt
        rw [← hX] at GTt HGt hTLt
        have HLX := hid hTLt
        obtain ⟨Hs, hHs⟩ : ∃ x, x = headsTo N ch (k1, k2) t t.length := ⟨_, rfl⟩
        have HHd := hid (fun (h : j < Hs.length) => (show Hs[j] = Hd by subst hHs hHd; subst ht1; exact headsTo_last N ch (k1, k2) t t.length h))
        rw [← hHs] at GHt GFt
        rw [ht1] at GHt GFt
        clear hHd hX hTLt hXL hHs ht
        have EB := hid (EL.out.trans (hb.mono hszL))
        have HBw := hid hb
        have hbs := hb.size
        clear hb
        obtain ⟨n0, n1, n2, p0, p1⟩ := HHS5.out _ EB.out
        go_wp2_with fail
        refine (GHt _ (R2.out.below EB.out)).out.mono ?_
        rintro e w1 ⟨v1, rfl, o1, b1⟩
        obtain ⟨A1, c1, rfl, hc1, _, rd1, _⟩ := own_shape o1
        have RD1 := hid rd1
        have E1b := hid (EB.out.trans (b1.mono EB.out.size))
        have HBw1 := hid (HBw.out.trans (b1.mono hbs))
        have hb1s : wx.heap.size ≤ w1.heap.size := HBw1.out.size
        obtain ⟨bq, oq, rfl, hkq, hcq⟩ := rd1.str (show j < j + 1 by omega)
        rw [HHd.out hkq] at hcq
        have HS8 : ∀ W', Below w1.heap.size w1 W' → W'.cell? ⟨w.heap.size, 0, none⟩ = some (.string (bs nm)) ∧ W'.cell? ⟨w.heap.size, 1, none⟩ = some (.int .i64 (N : Int)) ∧ W'.cell? ⟨w.heap.size, 2, none⟩ = some (.slice A n c) ∧ W'.cell? ⟨w.heap.size + 1, 0, none⟩ = some (.string (bs k1)) ∧ W'.cell? ⟨w.heap.size + 1, 1, none⟩ = some (.string (bs k2)) ∧ W'.cell? ⟨bq, oq + j, none⟩ = some (.string (bs Hd)) := fun W' h => by
          obtain ⟨a0, a1, a2, a3, a4⟩ := HHS5.out _ (E1b.out.trans (h.mono E1b.out.size))
          exact ⟨a0, a1, a2, a3, a4, (h.cell (p := ⟨bq, oq + j, none⟩) (World.block_lt_of_cell? w1 _ hcq)).trans hcq⟩
        have HHS8 := hid HS8
        have j2 := Int.ofNat_le.2 (Nat.le_of_succ_le hc1)
        have q1' : (j : Int) < (j : Int) + 1 := by omega
        have q2' : (j : Int) ≤ (j : Int) + 1 := by omega
        have q0' : (0 : Int) ≤ (j : Int) := by omega
        clear HS8 hkq hcq o1 b1 rd1 hc1 n0 n1 n2 p0 p1
        clear hz
        cases hg : (Hd == Rn)
        · have hgd : goodT N ch (k1, k2) t = false := by rw [HGt.out, hg]; rfl
          have HN1 := hid (HN.out hgd)
          clear hgd HY HN HGt
          obtain ⟨n0, n1, n2, p0, p1, q0⟩ := HHS8.out _ (Below.refl _ _)
          go_wp2_with fail
          refine wp_region_held_drew (S := fun w' => w'.cell? ⟨w.heap.size, 0, none⟩ = some (.string (bs nm)) ∧ w'.cell? ⟨w.heap.size, 1, none⟩ = some (.int .i64 (N : Int)) ∧ w'.cell? ⟨w.heap.size, 2, none⟩ = some (.slice A n c) ∧ w'.cell? ⟨w.heap.size + 1, 0, none⟩ = some (.string (bs k1)) ∧ w'.cell? ⟨w.heap.size + 1, 1, none⟩ = some (.string (bs k2)) ∧ w'.cell? ⟨bq, oq + j, none⟩ = some (.string (bs Hd))) (by kernel_rfl) (HHS8.out _ (Below.refl _ _).drew) (fun hHeld => ?_)
          refine wpAnyH_take (i := 0) (v := ?_) rfl (by kernel_rfl) (by kernel_rfl) (by kernel_rfl) (fun _ _ _ h => h) (Or.inl ⟨by rfl, ?_⟩) (by assumption) ?_
          rotate_left
          · (intro w hSw; (try dsimp only at hSw); go_simp; with_reducible rfl)
          try simp only [Act.put, List.setIfInBounds_toArray, List.set_cons_zero, List.set_cons_succ]
          refine wpAnyH_take (i := 1) (v := ?_) rfl (by kernel_rfl) (by kernel_rfl) (by kernel_rfl) (fun _ _ _ h => h) (Or.inl ⟨by rfl, ?_⟩) (by assumption) ?_
          rotate_left
          · (intro w hSw; (try dsimp only at hSw); go_simp; with_reducible rfl)
          try simp only [Act.put, List.setIfInBounds_toArray, List.set_cons_zero, List.set_cons_succ]
          refine wpAnyH_take (i := 2) (v := ?_) rfl (by kernel_rfl) (by kernel_rfl) (by kernel_rfl) (fun _ _ _ h => h) (Or.inl ⟨by rfl, ?_⟩) (by assumption) ?_
          rotate_left
          · (intro w hSw; (try dsimp only at hSw); go_simp; with_reducible rfl)
          try simp only [Act.put, List.setIfInBounds_toArray, List.set_cons_zero, List.set_cons_succ]
          refine wpAnyH_take (i := 3) (v := ?_) rfl (by kernel_rfl) (by kernel_rfl) (by kernel_rfl) (fun _ _ _ h => h) (Or.inl ⟨by rfl, ?_⟩) (by assumption) ?_
          rotate_left
          · (intro w hSw; (try dsimp only at hSw); go_simp; with_reducible rfl)
          try simp only [Act.put, List.setIfInBounds_toArray, List.set_cons_zero, List.set_cons_succ]
          refine wpAnyH_take (i := 4) (v := ?_) rfl (by kernel_rfl) (by kernel_rfl) (by kernel_rfl) (fun _ _ _ h => h) (Or.inl ⟨by rfl, ?_⟩) (by assumption) ?_
          rotate_left
          · (intro w hSw; (try dsimp only at hSw); go_simp; with_reducible rfl)
          try simp only [Act.put, List.setIfInBounds_toArray, List.set_cons_zero, List.set_cons_succ]
          refine wpAnyH_take (i := 5) (v := ?_) rfl (by kernel_rfl) (by kernel_rfl) (by kernel_rfl) (fun _ _ _ h => h) (Or.inl ⟨by rfl, ?_⟩) (by assumption) ?_
          rotate_left
          · (intro w hSw; (try dsimp only at hSw); go_simp; with_reducible rfl)
          try simp only [Act.put, List.setIfInBounds_toArray, List.set_cons_zero, List.set_cons_succ]
          refine wpAnyH_ready (rs := [6]) (by kernel_rfl) (by simp) ?_
          refine AllReadyH.cons rfl (fun K hK => ?_) AllReadyH.nil
          go_simp
          go_at_call 60
          refine ((GN _).out).mono ?_
          rintro e w' ⟨rfl, rfl⟩
          go_wp2_with fail
          refine hK.out _ _ (HHS8.out _ (Below.refl _ _).drew) (fun hHx => ?_)
          clear hHx hK K hHeld
          try simp only [Act.put, List.setIfInBounds_toArray, List.set_cons_zero, List.set_cons_succ]
          refine wpAnyH_take (i := 7) (v := ?_) rfl (by kernel_rfl) (by kernel_rfl) (by kernel_rfl) (fun _ _ _ h => h) (Or.inl ⟨by rfl, ?_⟩) (HHS8.out _ (Below.refl _ _).drew) ?_
          rotate_left
          · (intro w hSw; (try dsimp only at hSw); go_simp; with_reducible rfl)
          try simp only [Act.put, List.setIfInBounds_toArray, List.set_cons_zero, List.set_cons_succ]
          refine wpAnyH_take (i := 8) (v := ?_) rfl (by kernel_rfl) (by kernel_rfl) (by kernel_rfl) (fun _ _ _ h => h) (Or.inl ⟨by rfl, ?_⟩) (HHS8.out _ (Below.refl _ _).drew) ?_
          rotate_left
          · (intro w hSw; (try dsimp only at hSw); go_simp; with_reducible rfl)
          try simp only [Act.put, List.setIfInBounds_toArray, List.set_cons_zero, List.set_cons_succ]
          refine wpAnyH_pass (i := 9) (d := some 37) (by kernel_rfl) (by kernel_rfl) (by kernel_rfl) (by kernel_rfl) (fun _ _ _ _ h => h) (by kernel_rfl) (HHS8.out _ (Below.refl _ _).drew) ?_
          try simp only [Act.put, List.setIfInBounds_toArray, List.set_cons_zero, List.set_cons_succ]
          refine wpAnyH_pass (i := 10) (d := some 38) (by kernel_rfl) (by kernel_rfl) (by kernel_rfl) (by kernel_rfl) (fun _ _ _ _ h => h) (by kernel_rfl) (HHS8.out _ (Below.refl _ _).drew) ?_
          try simp only [Act.put, List.setIfInBounds_toArray, List.set_cons_zero, List.set_cons_succ]
          refine wpAnyH_pass (i := 11) (d := some 39) (by kernel_rfl) (by kernel_rfl) (by kernel_rfl) (by kernel_rfl) (fun _ _ _ _ h => h) (by kernel_rfl) (HHS8.out _ (Below.refl _ _).drew) ?_
          try simp only [Act.put, List.setIfInBounds_toArray, List.set_cons_zero, List.set_cons_succ]
          refine wpAnyH_pass (i := 12) (d := some 40) (by kernel_rfl) (by kernel_rfl) (by kernel_rfl) (by kernel_rfl) (fun _ _ _ _ h => h) (by kernel_rfl) (HHS8.out _ (Below.refl _ _).drew) ?_
          try simp only [Act.put, List.setIfInBounds_toArray, List.set_cons_zero, List.set_cons_succ]
          refine wpAnyH_pass (i := 13) (d := some 41) (by kernel_rfl) (by kernel_rfl) (by kernel_rfl) (by kernel_rfl) (fun _ _ _ _ h => h) (by kernel_rfl) (HHS8.out _ (Below.refl _ _).drew) ?_
          try simp only [Act.put, List.setIfInBounds_toArray, List.set_cons_zero, List.set_cons_succ]
          refine wpAnyH_pass (i := 14) (d := some 42) (by kernel_rfl) (by kernel_rfl) (by kernel_rfl) (by kernel_rfl) (fun _ _ _ _ h => h) (by kernel_rfl) (HHS8.out _ (Below.refl _ _).drew) ?_
          try simp only [Act.put, List.setIfInBounds_toArray, List.set_cons_zero, List.set_cons_succ]
          refine wpAnyH_ready (rs := [15]) (by kernel_rfl) (by simp) ?_
          refine AllReadyH.cons rfl (fun K hK => ?_) AllReadyH.nil
          go_simp
          refine hK.out _ _ (HHS8.out _ (Below.refl _ _).drew) (fun hHx => ?_)
          clear hHx hK K
          try simp only [Act.put, List.setIfInBounds_toArray, List.set_cons_zero, List.set_cons_succ]
          refine wpAnyH_done (by kernel_rfl) ?_ _
          have HBa := hid HBw1.out.drew
          clear n0 n1 n2 p0 p1 q0
          go_wp2
          go_roundg (M - (i + 1))
          case measure => omega
          case rel => exact ⟨i + 1, by omega, rfl, by rw [← HN1.out], by go_num, HBa.out⟩
        · obtain ⟨n0, n1, n2, p0, p1, q0⟩ := HHS8.out _ (Below.refl _ _)
          obtain ⟨Tb, hTb⟩ : ∃ x, x = trueB X := ⟨_, rfl⟩
          rw [← hTb] at GTt HGt
          clear hTb
          go_wp2_with fail
          go_region_held3 (fun w' => w'.cell? ⟨w.heap.size, 0, none⟩ = some (.string (bs nm)) ∧ w'.cell? ⟨w.heap.size, 1, none⟩ = some (.int .i64 (N : Int)) ∧ w'.cell? ⟨w.heap.size, 2, none⟩ = some (.slice A n c) ∧ w'.cell? ⟨w.heap.size + 1, 0, none⟩ = some (.string (bs k1)) ∧ w'.cell? ⟨w.heap.size + 1, 1, none⟩ = some (.string (bs k2)) ∧ w'.cell? ⟨bq, oq + j, none⟩ = some (.string (bs Hd)))
            (first | exact HHS8.out _ (Below.refl _ _) | exact HHS8.out _ (Below.refl _ _).drew | exact HHS8.out _ Fa | exact HHS8.out _ Fb)
            (first | (go_at_call 60; refine (GN _).out.mono ?_; rintro e w' ⟨rfl, rfl⟩) | (go_at_call 62; refine (GFt _ _ _ (R2.out.below E1b.out.drew) (rd_take (RD1.out.below (Below.refl _ _).drew) (Nat.le_succ _))).out.mono ?_; rintro e wa ⟨va, rfl, oa, ba⟩; obtain ⟨Aa, ca, rfl, _, _, rda, _⟩ := own_shape oa; have Fa := (Below.refl w1.heap.size w1).drew.trans (ba.mono (Nat.le_refl _))) | (go_at_call 61; refine (GTt _ _ _ _ rda HLX.out).out.mono ?_; rintro e wb ⟨rfl, bb⟩; have Fb := Fa.trans (bb.mono Fa.size)))
          have HBc := hid (HBw1.out.trans (Fb.mono hb1s))
          clear oa ba rda bb Fa Fb n0 n1 n2 p0 p1 q0
          cases Tb
          · have HN1 := hid (HN.out (by rw [HGt.out, hg]; rfl))
            clear HY HN HGt
            go_wp2
            go_roundg (M - (i + 1))
            case measure => omega
            case rel => exact ⟨i + 1, by omega, rfl, by rw [← HN1.out], by go_num, HBc.out⟩
          · have HY1 := hid (HY.out (by rw [HGt.out, hg]; rfl))
            clear HY HN HGt
            go_wp2
            go_roundg (M - (i + 1))
            case measure => omega
            case rel => exact ⟨i + 1, by omega, rfl, by rw [← HY1.out]; go_num, by go_num, HBc.out⟩
      · obtain rfl : i = M := by omega
        rw [List.take_of_length_le (by rw [← HM.out]; omega)]
        have EB := hid (EL.out.trans (hb.mono hszL))
        clear hb
        go_wp2
        go_ret2
        rw [HCT.out]
        exact ⟨rfl, HB2.out.trans (EB.out.mono hw2)⟩
end Go.Proofs.Ytiajeheonoebnaa
