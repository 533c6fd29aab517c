/- Contract of the set of false lead heads of two methods. No conditions beyond those stated. -/
import Derived.Test.YtiajeheonoebnaaShared
import Derived.Test.YtiajeheonoebnaaTurnR
set_option linter.unusedVariables false
set_option linter.unusedSimpArgs false
set_option maxRecDepth 100000
namespace Go.Proofs.Ytiajeheonoebnaa
open Go.RowKit

/-- A set of strings comes back; it is the call's own. -/
def SetR (w : World) (acc : List (List UInt8)) (e : Ending) (w' : World) : Prop := ∃ g q, e = .returned (.map (some g)) ∧ q ≤ 10000000 ∧ IsSet w' g q acc ∧ w.heap.size ≤ g ∧ Below w.heap.size w w'
theorem quotL_zero (rs ss : List (List UInt8)) : quotL (rs.take 0) ss = [] := by simp [quotL]
theorem quotL_step (rs ss : List (List UInt8)) (k : Nat) (h : k < rs.length) : quotL (rs.take k) ss ++ (ss.map fun s => timesL rs[k] (turnL s)) = quotL (rs.take (k + 1)) ss := by
  unfold quotL
  rw [List.take_succ_eq_append_getElem h, List.flatMap_append]
  simp
theorem map_take_step {α β : Type} (f : α → β) (ss : List α) (j : Nat) (h : j < ss.length) : (ss.take j).map f ++ [f ss[j]] = (ss.take (j + 1)).map f := by
  rw [List.take_succ_eq_append_getElem h, List.map_append]; rfl
set_option maxHeartbeats 2000000 in
theorem falseSet_any (N : Nat) (nm nm2 : List UInt8) (ca cb : List (List UInt8)) (A B : Option Addr) (n c m d : Nat) (w : World) (lo : 3 ≤ N) (hi : N ≤ 8) (hra : Rd w A n (strV ca)) (hrb : Rd w B m (strV cb)) (hn : n ≤ 1000) (hm : m ≤ 1000) (hsa : ∀ x ∈ ca, okChange (N : Int) x = true) (hsb : ∀ x ∈ cb, okChange (N : Int) x = true) :
    Calls Try.prog 49 #[.agg #[.string (bs nm), .int .i64 N, .slice A n c], .agg #[.string (bs nm2), .int .i64 N, .slice B m d]] w (SetR w (quotL (leadL (roundsL N) ca) (leadL (roundsL N) cb))) := by
  have HR := fun w0 => hid (rounds_any N w0 hi)
  have HUa := fun (w0 : World) (rd : Rd w0 A n (strV ca)) => hid (leadRows_any N nm (roundsL N) (N : Int) ca A n c w0 (rounds_row lo hi) (rounds_len N) rd (by omega) hsa)
  have HUb := fun (w0 : World) (rd : Rd w0 B m (strV cb)) => hid (leadRows_any N nm2 (roundsL N) (N : Int) cb B m d w0 (rounds_row lo hi) (rounds_len N) rd (by omega) hsb)
  have la : (leadL (roundsL N) ca).length = n := by have := hra.1; rw [strV_len] at this; rw [lead_len, this]
  have lb : (leadL (roundsL N) cb).length = m := by have := hrb.1; rw [strV_len] at this; rw [lead_len, this]
  have rowsA := hid (lead_rows ca (rounds_row lo hi))
  have rowsB := hid (lead_rows cb (rounds_row lo hi))
  have RA := hid hra
  have RB := hid hrb
  clear hra hrb hsa hsb
  unfold OneS at HUa HUb
  rw [la] at HUa
  rw [lb] at HUb
  rw [rounds_len] at rowsA rowsB
  generalize leadL (roundsL N) ca = X at *
  generalize leadL (roundsL N) cb = Y at *
  have LA := hid la
  have LB := hid lb
  clear la lb
  have hmm := @run_makeMap Try.prog
  obtain ⟨B2, hsz, HC⟩ := box_mkM 28 28 w nm nm2 (N : Int) (N : Int) (.slice A n c) (.slice B m d)
  have RA2 := hid (RA.out.below B2)
  have RB2 := hid (RB.out.below B2)
  have HB2 := hid B2
  have hw2 := B2.size
  have HSZ := hid hsz
  go_enter Try.func49, Try.ntmps49
  go_wp2_with fail
  clear hsz B2
  generalize ((w.alloc (.cells #[.string (bs nm), .int .i64 (N : Int), .slice A n c] 28)).alloc (.cells #[.string (bs nm2), .int .i64 (N : Int), .slice B m d] 28)) = W2 at *
  rw [← HSZ.out]
  have HS5 : ∀ W', Below W2.heap.size W2 W' → W'.cell? ⟨w.heap.size, 0, none⟩ = some (.string (bs nm)) ∧ W'.cell? ⟨w.heap.size, 1, none⟩ = some (.int .i64 (N : Int)) ∧ W'.cell? ⟨w.heap.size, 2, none⟩ = some (.slice A n c) ∧ W'.cell? ⟨w.heap.size + 1, 0, none⟩ = some (.string (bs nm2)) ∧ W'.cell? ⟨w.heap.size + 1, 1, none⟩ = some (.int .i64 (N : Int)) ∧ W'.cell? ⟨w.heap.size + 1, 2, none⟩ = some (.slice B m d) := fun W' h => by
    obtain ⟨⟨a0, a1, a2⟩, a3, a4, a5⟩ := HC.out _ h
    exact ⟨a0, a1, a2, a3, a4, a5⟩
  have HHS := hid HS5
  clear HS5 HC
  have S0 := hid (isSet_new W2)
  have HB3 := hid ((Below.refl W2.heap.size W2).alloc (Nat.le_refl _) (.map #[] 0))
  generalize W2.alloc (.map #[] 0) = W3 at *
  have hw3 := HB3.out.size
  obtain ⟨n0, n1, n2, q0, q1, q2⟩ := HHS.out _ HB3.out
  go_region_held3 (fun w' => w'.cell? ⟨w.heap.size, 0, none⟩ = some (.string (bs nm)) ∧ w'.cell? ⟨w.heap.size, 1, none⟩ = some (.int .i64 (N : Int)) ∧ w'.cell? ⟨w.heap.size, 2, none⟩ = some (.slice A n c) ∧ w'.cell? ⟨w.heap.size + 1, 0, none⟩ = some (.string (bs nm2)) ∧ w'.cell? ⟨w.heap.size + 1, 1, none⟩ = some (.int .i64 (N : Int)) ∧ w'.cell? ⟨w.heap.size + 1, 2, none⟩ = some (.slice B m d))
    (first | exact HHS.out _ HB3.out | exact HHS.out _ HB3.out.drew | exact HHS.out _ Fa)
    (first | (go_at_call 60; refine (HR _).out.mono ?_; rintro e w' ⟨rfl, rfl⟩) | (go_at_call 90; refine (HUa _ (RA2.out.below HB3.out.drew)).out.mono ?_; rintro e wa ⟨va, rfl, oa, ba⟩; obtain ⟨Aa, ca', rfl, _, _, rda, fra⟩ := own_shape oa; have Fa := HB3.out.drew.trans (ba.mono HB3.out.size)))
  have HFa := hid Fa
  have RDa := hid rda
  have HNA := hid (show ∀ b o, Aa = some ⟨b, o, none⟩ → W2.heap.size < b from fun b o h => Nat.lt_of_lt_of_le S0.out.lt (fra b o none h).1)
  have Sa := hid (S0.out.below ((Below.refl W3.heap.size W3).drew.trans ba))
  have hwa := Fa.size
  clear oa ba rda fra Fa n0 n1 n2 q0 q1 q2
  go_wp2_with fail
  have hkm : ∀ k, k ≤ n → k * m ≤ 1000000 := fun k hk => Nat.le_trans (Nat.mul_le_mul (Nat.le_trans hk hn) hm) (by omega)
  have HKM := hid hkm
  clear hkm
  go_loopg [17] n (fun gk v wr => ∃ k : Nat, k ≤ n ∧ gk = n - k ∧ v = .int .i64 k ∧ IsSet wr W2.heap.size (k * m) (quotL (X.take k) Y) ∧ Below W2.heap.size W2 wr ∧ Rd wr Aa n (strV X))
  case atStart => exact ⟨0, by omega, by omega, rfl, by rw [quotL_zero]; exact Sa.out.le (by omega), HFa.out, RDa.out⟩
  case round =>
    obtain ⟨k, hk, rfl, rfl, hS, hb, hx⟩ := hrel
    by_cases hlt : k < n
    · obtain ⟨b', o', rfl, hj', hc⟩ := hx.str hlt
      have hk0 : (0 : Int) ≤ (k : Int) := by omega
      have hk1 : (k : Int) < (n : Int) := by omega
      have rowk := hid (rowsA.out _ (List.getElem_mem hj'))
      have HSTEP := hid (quotL_step X Y k hj')
      have HS := hid hS
      have HB := hid hb
      have HX := hid hx
      have hbs := hb.size
      have hkm := HKM.out k hk
      obtain ⟨r, hr⟩ : ∃ r, r = X[k] := ⟨_, rfl⟩
      rw [← hr] at hc rowk HSTEP
      clear hS hb hx hr
      obtain ⟨n0, n1, n2, q0, q1, q2⟩ := HHS.out _ HB.out
      go_wp2_with fail
      go_region_held3 (fun w' => w'.cell? ⟨w.heap.size, 0, none⟩ = some (.string (bs nm)) ∧ w'.cell? ⟨w.heap.size, 1, none⟩ = some (.int .i64 (N : Int)) ∧ w'.cell? ⟨w.heap.size, 2, none⟩ = some (.slice A n c) ∧ w'.cell? ⟨w.heap.size + 1, 0, none⟩ = some (.string (bs nm2)) ∧ w'.cell? ⟨w.heap.size + 1, 1, none⟩ = some (.int .i64 (N : Int)) ∧ w'.cell? ⟨w.heap.size + 1, 2, none⟩ = some (.slice B m d))
        (first | exact HHS.out _ HB.out | exact HHS.out _ HB.out.drew | exact HHS.out _ Fb)
        (first | (go_at_call 60; refine (HR _).out.mono ?_; rintro e w' ⟨rfl, rfl⟩) | (go_at_call 90; refine (HUb _ (RB2.out.below HB.out.drew)).out.mono ?_; rintro e wb ⟨vb, rfl, ob, bb⟩; obtain ⟨Ab, cb', rfl, _, _, rdb, frb⟩ := own_shape ob; have Fb := HB.out.drew.trans (bb.mono HB.out.size)))
      have BRW := (Below.refl wr.heap.size wr).drew.trans bb
      have HFb := hid Fb
      have RDb := hid rdb
      have HNB := hid (show ∀ b o, Ab = some ⟨b, o, none⟩ → W2.heap.size < b from fun b o h => Nat.lt_of_lt_of_le HS.out.lt (frb b o none h).1)
      have RXb := hid (HX.out.below BRW)
      have Sb := hid (HS.out.below BRW)
      have hgb := BRW.size
      clear ob bb rdb frb Fb BRW n0 n1 n2 q0 q1 q2
      obtain ⟨w1, hw1⟩ : ∃ w1, w1 = wr := ⟨_, rfl⟩
      subst hw1
      go_wp2_with fail
      go_loopg [27] m (fun gk v wr => ∃ j : Nat, j ≤ m ∧ gk = m - j ∧ v = .int .i64 j ∧ IsSet wr W2.heap.size (k * m + j) (quotL (X.take k) Y ++ (Y.take j).map fun s => timesL r (turnL s)) ∧ Below W2.heap.size W2 wr ∧ Rd wr Ab m (strV Y) ∧ Rd wr (some ⟨b', o', none⟩) n (strV X))
      case atStart => exact ⟨0, by omega, by omega, rfl, by simpa using Sb.out, HFb.out, RDb.out, RXb.out⟩
      case round =>
        obtain ⟨j, hj, rfl, rfl, hS, hb, hy, hx⟩ := hrel
        by_cases hlj : j < m
        · obtain ⟨b2, o2, rfl, hj2, hc2⟩ := hy.str hlj
          have hj0 : (0 : Int) ≤ (j : Int) := by omega
          have hj1 : (j : Int) < (m : Int) := by omega
          have rowj := rowsB.out _ (List.getElem_mem hj2)
          have HMT := hid (map_take_step (fun s => timesL r (turnL s)) Y j hj2)
          have HT := hid (fun w0 => turned_any Y[j] w0 rowj.1)
          have HTM := hid (fun w0 => times_any r (turnL Y[j]) w0 rowk.out.1 (turn_row rowj.1) (by rw [turn_len, rowj.2, rowk.out.2]))
          obtain ⟨Z, hZ⟩ : ∃ Z, Z = timesL r (turnL Y[j]) := ⟨_, rfl⟩
          have hzl : Z.length ≤ 1048576 := by rw [hZ, times_len, turn_len, rowj.2]; omega
          rw [← hZ] at HTM
          rw [← hZ] at HMT
          have HS2 := hid hS
          have HB2' := hid hb
          have HY2 := hid hy
          have HX2 := hid hx
          have hbs2 := hb.size
          clear hS hb hy hx hZ rowj
          go_wp2_with fail
          refine (HT.out _).mono ?_
          rintro e w2 ⟨rfl, c2⟩
          go_wp2_with fail
          refine (HTM.out _).mono ?_
          rintro e w3 ⟨rfl, c3⟩
          have BR := c2.trans (c3.mono c2.size)
          have hmj : k * m + j ≤ 1000000000 := by omega
          obtain ⟨hput, hgr, hset⟩ := putS_run (HS2.out.below BR) hmj hzl
          have HG := hid hgr
          have HSET := hid hset
          have HB3' := hid (HB2'.out.trans (BR.mono hbs2))
          have HY3 := hid (HY2.out.below BR)
          have HX3 := hid (HX2.out.below BR)
          have hRg : W2.heap.size < w3.heap.size := Nat.lt_of_lt_of_le HS2.out.lt BR.size
          clear hgr hset c2 c3 BR hc2
          go_wp2
          go_roundg (m - (j + 1))
          case measure => omega
          case rel =>
            refine ⟨j + 1, by omega, rfl, by go_num, ?_, HB3'.out.grown HG.out HB3'.out.size (fun q hq => by injection hq with hq; subst hq; exact Nat.le_refl _), HY3.out.grown HG.out (fun b o e q => by injection q with q; have := HNB.out b o e; omega), HX3.out.grown HG.out (fun b o e q => by injection q with q; have := HNA.out b o e; omega)⟩
            have h1 := HSET.out
            rw [List.append_assoc, HMT.out] at h1
            exact h1
        · obtain rfl : j = m := by omega
          have e1 : (Y.take j).map (fun s => timesL r (turnL s)) = Y.map fun s => timesL r (turnL s) := by rw [List.take_of_length_le (by rw [LB.out]; omega)]
          rw [e1, HSTEP.out] at hS
          have HS2 := hid hS
          have HB2' := hid hb
          have HX2 := hid hx
          clear hS hb hy hx e1
          go_wp2
          go_roundg (n - (k + 1))
          case measure => omega
          case rel => exact ⟨k + 1, by omega, rfl, by go_num, HS2.out.le (by rw [Nat.succ_mul]; exact Nat.le_refl _), HB2'.out, HX2.out⟩
    · obtain rfl : k = n := by omega
      rw [List.take_of_length_le (by rw [LA.out]; omega)] at hS
      have HS := hid hS
      clear hS
      go_wp2
      go_ret
      exact ⟨_, _, rfl, Nat.le_trans (HKM.out _ (Nat.le_refl _)) (by omega), HS.out, hw2, HB2.out.trans (hb.mono hw2)⟩
end Go.Proofs.Ytiajeheonoebnaa
