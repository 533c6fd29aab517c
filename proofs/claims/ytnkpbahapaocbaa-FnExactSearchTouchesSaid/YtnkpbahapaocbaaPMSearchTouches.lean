/- The statement of FnExactSearchTouches: called with any arguments that can be read as data, the law returns true, and every argument reads afterwards as it read before. No conditions. -/
import Derived.Test.YtnkpbahapaocbaaShared
import Derived.Test.YtnkpbahapaocbaaTurnR
import Derived.Test.YtnkpbahapaocbaaEndI
import Derived.Test.YtnkpbahapaocbaaLeads
import Derived.Test.YtnkpbahapaocbaaCutL
import Derived.Test.YtnkpbahapaocbaaSrch
import Derived.Test.YtnkpbahapaocbaaHeadsS
import Derived.Test.YtnkpbahapaocbaaExpL
import Derived.Test.YtnkpbahapaocbaaHeads
import Derived.Test.YtnkpbahapaocbaaLeadT
import Derived.Test.YtnkpbahapaocbaaBase
import Derived.Test.YtnkpbahapaocbaaApp
import Derived.Test.YtnkpbahapaocbaaCutP
import Derived.Test.YtnkpbahapaocbaaExpC
import Derived.Deep.RegionLaw
import Derived.Test.YtnkpbahapaocbaaHelp
import Derived.Test.YtnkpbahapaocbaaHelp2
import Derived.Test.YtnkpbahapaocbaaStrs
import Derived.Test.YtnkpbahapaocbaaMeth2
import Derived.Test.YtnkpbahapaocbaaRows
import Derived.ShutString
import Derived.ChangeOld
set_option linter.unusedVariables false
set_option linter.unusedSimpArgs false
set_option maxRecDepth 100000
namespace Go.Proofs.Ytnkpbahapaocbaa
open Go.RowKit

/-- A set of strings comes back; it is the call's own. -/
def SetR (w : World) (acc : List (List UInt8)) (e : Ending) (w' : World) : Prop := ∃ g q, e = .returned (.map (some g)) ∧ q ≤ 10000000 ∧ IsSet w' g q acc ∧ w.heap.size ≤ g ∧ Below w.heap.size w w'
theorem quotL_zero (rs ss : List (List UInt8)) : quotL (rs.take 0) ss = [] := by simp [quotL]
theorem quotL_step (rs ss : List (List UInt8)) (k : Nat) (h : k < rs.length) : quotL (rs.take k) ss ++ (ss.map fun s => timesL rs[k] (turnL s)) = quotL (rs.take (k + 1)) ss := by
  unfold quotL
  rw [List.take_succ_eq_append_getElem h, List.flatMap_append]
  simp
theorem map_take_step {α β : Type} (f : α → β) (ss : List α) (j : Nat) (h : j < ss.length) : (ss.take j).map f ++ [f ss[j]] = (ss.take (j + 1)).map f := by
  rw [List.take_succ_eq_append_getElem h, List.map_append]; rfl
set_option maxHeartbeats 2000000 in
theorem falseSet_any (N : Nat) (nm nm2 : List UInt8) (ca cb : List (List UInt8)) (A B : Option Addr) (n c m d : Nat) (w : World) (lo : 3 ≤ N) (hi : N ≤ 8) (hra : Rd w A n (strV ca)) (hrb : Rd w B m (strV cb)) (hn : n ≤ 1000) (hm : m ≤ 1000) (hsa : ∀ x ∈ ca, okChange (N : Int) x = true) (hsb : ∀ x ∈ cb, okChange (N : Int) x = true) :
    Calls Try.prog 61 #[.agg #[.string (bs nm), .int .i64 N, .slice A n c], .agg #[.string (bs nm2), .int .i64 N, .slice B m d]] w (SetR w (quotL (leadL (roundsL N) ca) (leadL (roundsL N) cb))) := by
  have HR := fun w0 => hid (rounds_any N w0 hi)
  have HUa := fun (w0 : World) (rd : Rd w0 A n (strV ca)) => hid (leadRows_any N nm (roundsL N) (N : Int) ca A n c w0 (rounds_row lo hi) (rounds_len N) rd (by omega) hsa)
  have HUb := fun (w0 : World) (rd : Rd w0 B m (strV cb)) => hid (leadRows_any N nm2 (roundsL N) (N : Int) cb B m d w0 (rounds_row lo hi) (rounds_len N) rd (by omega) hsb)
  have la : (leadL (roundsL N) ca).length = n := by have := hra.1; rw [strV_len] at this; rw [lead_len, this]
  have lb : (leadL (roundsL N) cb).length = m := by have := hrb.1; rw [strV_len] at this; rw [lead_len, this]
  have rowsA := hid (lead_rows ca (rounds_row lo hi))
  have rowsB := hid (lead_rows cb (rounds_row lo hi))
  have RA := hid hra
  have RB := hid hrb
  clear hra hrb hsa hsb
  unfold OneS at HUa HUb
  rw [la] at HUa
  rw [lb] at HUb
  rw [rounds_len] at rowsA rowsB
  generalize leadL (roundsL N) ca = X at *
  generalize leadL (roundsL N) cb = Y at *
  have LA := hid la
  have LB := hid lb
  clear la lb
  have hmm := @run_makeMap Try.prog
  obtain ⟨B2, hsz, HC⟩ := box_mkM 34 34 w nm nm2 (N : Int) (N : Int) (.slice A n c) (.slice B m d)
  have RA2 := hid (RA.out.below B2)
  have RB2 := hid (RB.out.below B2)
  have HB2 := hid B2
  have hw2 := B2.size
  have HSZ := hid hsz
  go_enter Try.func61, Try.ntmps61
  go_wp2_with fail
  clear hsz B2
  generalize ((w.alloc (.cells #[.string (bs nm), .int .i64 (N : Int), .slice A n c] 34)).alloc (.cells #[.string (bs nm2), .int .i64 (N : Int), .slice B m d] 34)) = W2 at *
  rw [← HSZ.out]
  have HS5 : ∀ W', Below W2.heap.size W2 W' → W'.cell? ⟨w.heap.size, 0, none⟩ = some (.string (bs nm)) ∧ W'.cell? ⟨w.heap.size, 1, none⟩ = some (.int .i64 (N : Int)) ∧ W'.cell? ⟨w.heap.size, 2, none⟩ = some (.slice A n c) ∧ W'.cell? ⟨w.heap.size + 1, 0, none⟩ = some (.string (bs nm2)) ∧ W'.cell? ⟨w.heap.size + 1, 1, none⟩ = some (.int .i64 (N : Int)) ∧ W'.cell? ⟨w.heap.size + 1, 2, none⟩ = some (.slice B m d) := fun W' h => by
    obtain ⟨⟨a0, a1, a2⟩, a3, a4, a5⟩ := HC.out _ h
    exact ⟨a0, a1, a2, a3, a4, a5⟩
  have HHS := hid HS5
  clear HS5 HC
  have S0 := hid (isSet_new W2)
  have HB3 := hid ((Below.refl W2.heap.size W2).alloc (Nat.le_refl _) (.map #[] 0))
  generalize W2.alloc (.map #[] 0) = W3 at *
  have hw3 := HB3.out.size
  obtain ⟨n0, n1, n2, q0, q1, q2⟩ := HHS.out _ HB3.out
  go_region_held3 (fun w' => w'.cell? ⟨w.heap.size, 0, none⟩ = some (.string (bs nm)) ∧ w'.cell? ⟨w.heap.size, 1, none⟩ = some (.int .i64 (N : Int)) ∧ w'.cell? ⟨w.heap.size, 2, none⟩ = some (.slice A n c) ∧ w'.cell? ⟨w.heap.size + 1, 0, none⟩ = some (.string (bs nm2)) ∧ w'.cell? ⟨w.heap.size + 1, 1, none⟩ = some (.int .i64 (N : Int)) ∧ w'.cell? ⟨w.heap.size + 1, 2, none⟩ = some (.slice B m d))
    (first | exact HHS.out _ HB3.out | exact HHS.out _ HB3.out.drew | exact HHS.out _ Fa)
    (first | (go_at_call 77; refine (HR _).out.mono ?_; rintro e w' ⟨rfl, rfl⟩) | (go_at_call 85; refine (HUa _ (RA2.out.below HB3.out.drew)).out.mono ?_; rintro e wa ⟨va, rfl, oa, ba⟩; obtain ⟨Aa, ca', rfl, _, _, rda, fra⟩ := own_shape oa; have Fa := HB3.out.drew.trans (ba.mono HB3.out.size)))
  have HFa := hid Fa
  have RDa := hid rda
  have HNA := hid (show ∀ b o, Aa = some ⟨b, o, none⟩ → W2.heap.size < b from fun b o h => Nat.lt_of_lt_of_le S0.out.lt (fra b o none h).1)
  have Sa := hid (S0.out.below ((Below.refl W3.heap.size W3).drew.trans ba))
  have hwa := Fa.size
  clear oa ba rda fra Fa n0 n1 n2 q0 q1 q2
  go_wp2_with fail
  have hkm : ∀ k, k ≤ n → k * m ≤ 1000000 := fun k hk => Nat.le_trans (Nat.mul_le_mul (Nat.le_trans hk hn) hm) (by omega)
  have HKM := hid hkm
  clear hkm
  go_loopg [17] n (fun gk v wr => ∃ k : Nat, k ≤ n ∧ gk = n - k ∧ v = .int .i64 k ∧ IsSet wr W2.heap.size (k * m) (quotL (X.take k) Y) ∧ Below W2.heap.size W2 wr ∧ Rd wr Aa n (strV X))
  case atStart => exact ⟨0, by omega, by omega, rfl, by rw [quotL_zero]; exact Sa.out.le (by omega), HFa.out, RDa.out⟩
  case round =>
    obtain ⟨k, hk, rfl, rfl, hS, hb, hx⟩ := hrel
    by_cases hlt : k < n
    · obtain ⟨b', o', rfl, hj', hc⟩ := hx.str hlt
      have hk0 : (0 : Int) ≤ (k : Int) := by omega
      have hk1 : (k : Int) < (n : Int) := by omega
      have rowk := hid (rowsA.out _ (List.getElem_mem hj'))
      have HSTEP := hid (quotL_step X Y k hj')
      have HS := hid hS
      have HB := hid hb
      have HX := hid hx
      have hbs := hb.size
      have hkm := HKM.out k hk
      obtain ⟨r, hr⟩ : ∃ r, r = X[k] := ⟨_, rfl⟩
      rw [← hr] at hc rowk HSTEP
      clear hS hb hx hr
      obtain ⟨n0, n1, n2, q0, q1, q2⟩ := HHS.out _ HB.out
      go_wp2_with fail
      go_region_held3 (fun w' => w'.cell? ⟨w.heap.size, 0, none⟩ = some (.string (bs nm)) ∧ w'.cell? ⟨w.heap.size, 1, none⟩ = some (.int .i64 (N : Int)) ∧ w'.cell? ⟨w.heap.size, 2, none⟩ = some (.slice A n c) ∧ w'.cell? ⟨w.heap.size + 1, 0, none⟩ = some (.string (bs nm2)) ∧ w'.cell? ⟨w.heap.size + 1, 1, none⟩ = some (.int .i64 (N : Int)) ∧ w'.cell? ⟨w.heap.size + 1, 2, none⟩ = some (.slice B m d))
        (first | exact HHS.out _ HB.out | exact HHS.out _ HB.out.drew | exact HHS.out _ Fb)
        (first | (go_at_call 77; refine (HR _).out.mono ?_; rintro e w' ⟨rfl, rfl⟩) | (go_at_call 85; refine (HUb _ (RB2.out.below HB.out.drew)).out.mono ?_; rintro e wb ⟨vb, rfl, ob, bb⟩; obtain ⟨Ab, cb', rfl, _, _, rdb, frb⟩ := own_shape ob; have Fb := HB.out.drew.trans (bb.mono HB.out.size)))
      have BRW := (Below.refl wr.heap.size wr).drew.trans bb
      have HFb := hid Fb
      have RDb := hid rdb
      have HNB := hid (show ∀ b o, Ab = some ⟨b, o, none⟩ → W2.heap.size < b from fun b o h => Nat.lt_of_lt_of_le HS.out.lt (frb b o none h).1)
      have RXb := hid (HX.out.below BRW)
      have Sb := hid (HS.out.below BRW)
      have hgb := BRW.size
      clear ob bb rdb frb Fb BRW n0 n1 n2 q0 q1 q2
      obtain ⟨w1, hw1⟩ : ∃ w1, w1 = wr := ⟨_, rfl⟩
      subst hw1
      go_wp2_with fail
      go_loopg [27] m (fun gk v wr => ∃ j : Nat, j ≤ m ∧ gk = m - j ∧ v = .int .i64 j ∧ IsSet wr W2.heap.size (k * m + j) (quotL (X.take k) Y ++ (Y.take j).map fun s => timesL r (turnL s)) ∧ Below W2.heap.size W2 wr ∧ Rd wr Ab m (strV Y) ∧ Rd wr (some ⟨b', o', none⟩) n (strV X))
      case atStart => exact ⟨0, by omega, by omega, rfl, by simpa using Sb.out, HFb.out, RDb.out, RXb.out⟩
      case round =>
        obtain ⟨j, hj, rfl, rfl, hS, hb, hy, hx⟩ := hrel
        by_cases hlj : j < m
        · obtain ⟨b2, o2, rfl, hj2, hc2⟩ := hy.str hlj
          have hj0 : (0 : Int) ≤ (j : Int) := by omega
          have hj1 : (j : Int) < (m : Int) := by omega
          have rowj := rowsB.out _ (List.getElem_mem hj2)
          have HMT := hid (map_take_step (fun s => timesL r (turnL s)) Y j hj2)
          have HT := hid (fun w0 => turned_any Y[j] w0 rowj.1)
          have HTM := hid (fun w0 => times_any r (turnL Y[j]) w0 rowk.out.1 (turn_row rowj.1) (by rw [turn_len, rowj.2, rowk.out.2]))
          obtain ⟨Z, hZ⟩ : ∃ Z, Z = timesL r (turnL Y[j]) := ⟨_, rfl⟩
          have hzl : Z.length ≤ 1048576 := by rw [hZ, times_len, turn_len, rowj.2]; omega
          rw [← hZ] at HTM
          rw [← hZ] at HMT
          have HS2 := hid hS
          have HB2' := hid hb
          have HY2 := hid hy
          have HX2 := hid hx
          have hbs2 := hb.size
          clear hS hb hy hx hZ rowj
          go_wp2_with fail
          refine (HT.out _).mono ?_
          rintro e w2 ⟨rfl, c2⟩
          go_wp2_with fail
          refine (HTM.out _).mono ?_
          rintro e w3 ⟨rfl, c3⟩
          have BR := c2.trans (c3.mono c2.size)
          have hmj : k * m + j ≤ 1000000000 := by omega
          obtain ⟨hput, hgr, hset⟩ := putS_run (HS2.out.below BR) hmj hzl
          have HG := hid hgr
          have HSET := hid hset
          have HB3' := hid (HB2'.out.trans (BR.mono hbs2))
          have HY3 := hid (HY2.out.below BR)
          have HX3 := hid (HX2.out.below BR)
          have hRg : W2.heap.size < w3.heap.size := Nat.lt_of_lt_of_le HS2.out.lt BR.size
          clear hgr hset c2 c3 BR hc2
          go_wp2
          go_roundg (m - (j + 1))
          case measure => omega
          case rel =>
            refine ⟨j + 1, by omega, rfl, by go_num, ?_, HB3'.out.grown HG.out HB3'.out.size (fun q hq => by injection hq with hq; subst hq; exact Nat.le_refl _), HY3.out.grown HG.out (fun b o e q => by injection q with q; have := HNB.out b o e; omega), HX3.out.grown HG.out (fun b o e q => by injection q with q; have := HNA.out b o e; omega)⟩
            have h1 := HSET.out
            rw [List.append_assoc, HMT.out] at h1
            exact h1
        · obtain rfl : j = m := by omega
          have e1 : (Y.take j).map (fun s => timesL r (turnL s)) = Y.map fun s => timesL r (turnL s) := by rw [List.take_of_length_le (by rw [LB.out]; omega)]
          rw [e1, HSTEP.out] at hS
          have HS2 := hid hS
          have HB2' := hid hb
          have HX2 := hid hx
          clear hS hb hy hx e1
          go_wp2
          go_roundg (n - (k + 1))
          case measure => omega
          case rel => exact ⟨k + 1, by omega, rfl, by go_num, HS2.out.le (by rw [Nat.succ_mul]; exact Nat.le_refl _), HB2'.out, HX2.out⟩
    · obtain rfl : k = n := by omega
      rw [List.take_of_length_le (by rw [LA.out]; omega)] at hS
      have HS := hid hS
      clear hS
      go_wp2
      go_ret
      exact ⟨_, _, rfl, Nat.le_trans (HKM.out _ (Nat.le_refl _)) (by omega), HS.out, hw2, HB2.out.trans (hb.mono hw2)⟩
end Go.Proofs.Ytnkpbahapaocbaa

set_option linter.unusedVariables false
set_option linter.unusedSimpArgs false
set_option maxRecDepth 100000
namespace Go.Proofs.Ytnkpbahapaocbaa
open Go.RowKit

theorem quot_meetN {N : Nat} {f : List UInt8} (ca cb : List (List UInt8)) (hf : IsRow f ∧ f.length = N) : memB f (quotL (leadL (roundsL N) ca) (leadL (roundsL N) cb)) = decide (0 < (meetL (leadL (roundsL N) ca) (leadL f cb)).length) := by
  obtain ⟨h1, rfl⟩ := hf
  exact quot_meet ca cb h1
/-- What IsFalseHead answers. -/
def isFalseR (m : Meth) (f : List UInt8) : Bool × Bool := if (methB m && rowOfB m.st f) = true then (decide (0 < (meetL (leadL (roundsL m.st.toNat) m.ch) (leadL f m.ch)).length), true) else (false, false)
end Go.Proofs.Ytnkpbahapaocbaa

set_option linter.unusedVariables false
set_option linter.unusedSimpArgs false
set_option maxRecDepth 100000
namespace Go.Proofs.Ytnkpbahapaocbaa
open Go.RowKit

theorem goodTouch_len {t : List UInt8} (h : goodTouch t = true) : t.length ≤ 1000 := by
  simp only [goodTouch, Bool.and_eq_true, decide_eq_true_eq] at h; omega
theorem goodTouch_calls {t : List UInt8} (h : goodTouch t = true) : t.all callB = true := by
  simp only [goodTouch, Bool.and_eq_true] at h; first | exact h.2 | exact h.1.2 | exact h.1.1 | exact h.1
/-- What TouchEnd answers. -/
def touchEndR (m : Meth) (k : List UInt8 × List UInt8) (t : List UInt8) : List UInt8 × Bool := if (callsB m k && goodTouch t) = true then (headTo m.st.toNat m.ch k t t.length, true) else ([], false)
/-- What IsRound answers. -/
def isRoundR (m : Meth) (k : List UInt8 × List UInt8) (t : List UInt8) : Bool × Bool := if (callsB m k && goodTouch t) = true then (headTo m.st.toNat m.ch k t t.length == roundsL m.st.toNat, true) else (false, false)
end Go.Proofs.Ytnkpbahapaocbaa

set_option linter.unusedVariables false
set_option linter.unusedSimpArgs false
set_option maxRecDepth 100000
namespace Go.Proofs.Ytnkpbahapaocbaa
open Go.RowKit

/-- The rows of a touch. -/
def touchL (N : Nat) (cs : List (List UInt8)) (k : List UInt8 × List UInt8) (t : List UInt8) : List (List UInt8) := leadsL cs ((headsTo N cs k t t.length).take t.length)
theorem touchL_len (N : Nat) (cs : List (List UInt8)) (k : List UInt8 × List UInt8) (t : List UInt8) : (touchL N cs k t).length = t.length * cs.length := by
  rw [touchL, leadsL_len, List.length_take, headsTo_len, Nat.min_eq_left (by omega)]
theorem headsTo_rows {N : Nat} (lo : 3 ≤ N) (hi : N ≤ 8) (cs : List (List UInt8)) (k : List UInt8 × List UInt8) (t : List UInt8) (j : Nat) : ∀ x ∈ headsTo N cs k t j, IsRow x ∧ x.length = N := by
  intro x hx
  simp only [headsTo, List.mem_map] at hx
  obtain ⟨i, _, rfl⟩ := hx
  exact headTo_row lo hi cs k t i
theorem heads_take_rows {N : Nat} (lo : 3 ≤ N) (hi : N ≤ 8) (cs : List (List UInt8)) (k : List UInt8 × List UInt8) (t : List UInt8) (j q : Nat) : ∀ x ∈ (headsTo N cs k t j).take q, IsRow x ∧ x.length = N :=
  fun x hx => headsTo_rows lo hi cs k t j x (List.mem_of_mem_take hx)
theorem touchL_rows {N : Nat} (lo : 3 ≤ N) (hi : N ≤ 8) (cs : List (List UInt8)) (k : List UInt8 × List UInt8) (t : List UInt8) : ∀ x ∈ touchL N cs k t, IsRow x ∧ x.length = N :=
  leadsL_rows cs (heads_take_rows lo hi cs k t _ _)
theorem rd_take {w : World} {A : Option Addr} {n k : Nat} {l : List (List UInt8)} (h : Rd w A n (strV l)) (hk : k ≤ n) : Rd w A k (strV (l.take k)) := by
  rw [strV_take]; exact h.take_ k hk
/-- The rows of a touch, if there are not too many. -/
def rowsR (N : Nat) (cs : List (List UInt8)) (k : List UInt8 × List UInt8) (t : List UInt8) : List (List UInt8) × Bool := if t.length * cs.length ≤ 800 then (touchL N cs k t, true) else ([], false)
end Go.Proofs.Ytnkpbahapaocbaa

namespace Go.Proofs.Ytnkpbahapaocbaa
end Go.Proofs.Ytnkpbahapaocbaa

set_option linter.unusedVariables false
set_option linter.unusedSimpArgs false
set_option maxRecDepth 100000
namespace Go.Proofs.Ytnkpbahapaocbaa
open Go.RowKit

theorem cset3_below {w w1 : World} {b g : Nat} (h : Below b w w1) (hg : b ≤ g) (x y z : Value) : Below b w (((w1.setCell ⟨g, 0, none⟩ x).setCell ⟨g, 1, none⟩ y).setCell ⟨g, 2, none⟩ z) :=
  ((h.setCell (p := ⟨g, 0, none⟩) hg _).setCell (p := ⟨g, 1, none⟩) hg _).setCell (p := ⟨g, 2, none⟩) hg _
/-- The boxes of a method, of its calls, and of a cut. -/
theorem box_mkC (T1 T2 T3 : TypeId) (w : World) (nm k1 k2 cp : List UInt8) (st cy cz : Int) (v : Value) :
    Below w.heap.size w (((w.alloc (.cells #[.string (bs nm), .int .i64 st, v] T1)).alloc (.cells #[.string (bs k1), .string (bs k2)] T2)).alloc (.cells #[.string (bs cp), .int .i64 cy, .int .i64 cz] T3)) ∧
    (((w.alloc (.cells #[.string (bs nm), .int .i64 st, v] T1)).alloc (.cells #[.string (bs k1), .string (bs k2)] T2)).alloc (.cells #[.string (bs cp), .int .i64 cy, .int .i64 cz] T3)).heap.size = w.heap.size + 1 + 1 + 1 ∧
    Hid (∀ W', Below (((w.alloc (.cells #[.string (bs nm), .int .i64 st, v] T1)).alloc (.cells #[.string (bs k1), .string (bs k2)] T2)).alloc (.cells #[.string (bs cp), .int .i64 cy, .int .i64 cz] T3)).heap.size (((w.alloc (.cells #[.string (bs nm), .int .i64 st, v] T1)).alloc (.cells #[.string (bs k1), .string (bs k2)] T2)).alloc (.cells #[.string (bs cp), .int .i64 cy, .int .i64 cz] T3)) W' →
      Box3 W' w.heap.size (.string (bs nm)) (.int .i64 st) v ∧ (W'.cell? ⟨w.heap.size + 1, 0, none⟩ = some (.string (bs k1)) ∧ W'.cell? ⟨w.heap.size + 1, 1, none⟩ = some (.string (bs k2))) ∧ Blk W' (w.heap.size + 1 + 1) T3 #[.string (bs cp), .int .i64 cy, .int .i64 cz]) := by
  have M1 := Blk.new w T1 #[.string (bs nm), .int .i64 st, v]
  have M3 := (M1.alloc (.cells #[.string (bs k1), .string (bs k2)] T2)).alloc (.cells #[.string (bs cp), .int .i64 cy, .int .i64 cz] T3)
  have K3 := (Blk.new (w.alloc (.cells #[.string (bs nm), .int .i64 st, v] T1)) T2 #[.string (bs k1), .string (bs k2)]).alloc (.cells #[.string (bs cp), .int .i64 cy, .int .i64 cz] T3)
  have R4 := Blk.new ((w.alloc (.cells #[.string (bs nm), .int .i64 st, v] T1)).alloc (.cells #[.string (bs k1), .string (bs k2)] T2)) T3 #[.string (bs cp), .int .i64 cy, .int .i64 cz]
  have B3 : Below w.heap.size w (((w.alloc (.cells #[.string (bs nm), .int .i64 st, v] T1)).alloc (.cells #[.string (bs k1), .string (bs k2)] T2)).alloc (.cells #[.string (bs cp), .int .i64 cy, .int .i64 cz] T3)) := (((Below.refl _ _).alloc (Nat.le_refl _) _).alloc (by simp) _).alloc (by simp; omega) _
  have hsz : (((w.alloc (.cells #[.string (bs nm), .int .i64 st, v] T1)).alloc (.cells #[.string (bs k1), .string (bs k2)] T2)).alloc (.cells #[.string (bs cp), .int .i64 cy, .int .i64 cz] T3)).heap.size = w.heap.size + 1 + 1 + 1 := by simp
  refine ⟨B3, hsz, ?_⟩
  simp only [alloc_size] at K3 R4
  generalize (((w.alloc (.cells #[.string (bs nm), .int .i64 st, v] T1)).alloc (.cells #[.string (bs k1), .string (bs k2)] T2)).alloc (.cells #[.string (bs cp), .int .i64 cy, .int .i64 cz] T3)) = W3 at *
  refine hid fun W' h => ?_
  have K := K3.below h (by omega)
  exact ⟨Box3.of (M3.below h (by omega)), ⟨K.cell 0, K.cell 1⟩, R4.below h (by omega)⟩
theorem headsTo_get (N : Nat) (cs : List (List UInt8)) (k : List UInt8 × List UInt8) (t : List UInt8) (j i : Nat) (h : i < (headsTo N cs k t j).length) : (headsTo N cs k t j)[i] = headTo N cs k t i := by simp [headsTo]
theorem l13Prefix_any (l : List UInt8) (q : Int) (w : World) (hl : l.length ≤ 140737488351232) :
    Calls Try.prog 58 #[.string (bs l), .int .i64 q] w fun e w' => e = .returned (.bool (l.all callB && decide ((l.length : Int) ≤ q))) ∧ w = w' := by
  go_enter Try.func58, Try.ntmps58
  go_wp2_with fail
  go_loop [5] (fun i => ∃ k : Nat, k ≤ l.length ∧ i = .int .i64 k ∧ Hid ((l.take k).all callB = true)) (fun i => l.length - (intOf i).toNat)
  case atStart => exact ⟨0, Nat.zero_le _, rfl, rfl⟩
  case round =>
    obtain ⟨k, hk, rfl, hall⟩ := hrel
    by_cases hlt : k < l.length
    · have hc := hid (isCallL_at l k hlt)
      go_wp2_with (go_at_call 70; refine (l8Call_any _ _).mono ?_; rintro e w' ⟨rfl, rfl⟩)
      · have h1 : (!isCallL (List.take 1 (List.drop k l))) = true := by assumption
        rw [hc.out] at h1
        go_ret
        exact ⟨ret_bool (by simp [all_not callB l k hlt (by simpa using h1)]), rfl⟩
      · have h1 : (!isCallL (List.take 1 (List.drop k l))) = false := by assumption
        rw [hc.out] at h1
        exact ⟨⟨k + 1, by omega, by go_num, hid (by rw [all_succ _ _ _ hlt, hall.out]; simpa using h1)⟩, by simp [intOf]; omega⟩
    · go_wp2
      go_ret
      have hkk : k = l.length := by omega
      subst hkk
      have h2 := hall.out
      rw [List.take_length] at h2
      exact ⟨ret_bool (by first | (simp only [h2, Bool.true_and]; done) | (simp only [h2, Bool.true_and]; first | rfl | exact decide_eq_decide.2 (by omega))), rfl⟩
-- GENERATED
set_option maxHeartbeats 1000000 in
theorem l13Heads_any (N : Nat) (nm t : List UInt8) (ch : List (List UInt8)) (k : List UInt8 × List UInt8) (A : Option Addr) (n c : Nat) (w : World) (lo : 3 ≤ N) (hi : N ≤ 8) (hr : Rd w A n (strV ch)) (hn : n ≤ 1048576) (hcap : n ≤ c) (l1 : 1 ≤ ch.length) (hs : ∀ x ∈ ch, okChange (N : Int) x = true) (hb1 : okChange (N : Int) k.1 = true) (hb2 : okChange (N : Int) k.2 = true) (ht : t.length ≤ 1000) :
    Calls Try.prog 63 #[.agg #[.string (bs nm), .int .i64 N, .slice A n c], .agg #[.string (bs k.1), .string (bs k.2)], .string (bs t)] w (OneSn w (t.length + 1) (headsTo N ch k t t.length)) := by
  have G := fun (w0 : World) (rd : Rd w0 A n (strV ch)) => hid (l9Heads_any N nm t ch k A n c w0 lo hi rd hn hcap l1 hs hb1 hb2 ht)
  have RS := hid hr
  obtain ⟨k1, k2⟩ := k
  dsimp only at *
  clear hr hs hb1 hb2
  go_enter Try.func63, Try.ntmps63
  go_wp2_with fail
  obtain ⟨B2, hsz, HC⟩ := box_mk w nm k1 k2 (N : Int) (.slice A n c)
  have R2 := hid (RS.out.below B2)
  have HB2 := hid B2
  have hw2 := B2.size
  clear hsz HC
  refine (G _ R2.out).out.mono ?_
  rintro e w1 ⟨v1, rfl, o1, b1⟩
  obtain ⟨A1, c1, rfl, _⟩ := own_shape o1
  have O1 := hid o1
  have HB1 := hid (HB2.out.trans (b1.mono hw2))
  clear o1 b1 B2
  go_wp2
  go_ret
  exact ⟨_, rfl, own_mono O1.out hw2, HB1.out⟩
set_option maxHeartbeats 4000000 in
theorem l13Cut_any (N : Nat) (nm p : List UInt8) (ch : List (List UInt8)) (k : List UInt8 × List UInt8) (q : Nat) (A : Option Addr) (n c : Nat) (w : World) (lo : 3 ≤ N) (hi : N ≤ 8) (hr : Rd w A n (strV ch)) (hn : n ≤ 1048576) (hcap : n ≤ c) (l1 : 1 ≤ ch.length) (hs : ∀ x ∈ ch, okChange (N : Int) x = true) (hb1 : okChange (N : Int) k.1 = true) (hb2 : okChange (N : Int) k.2 = true) (hp : p.length ≤ 1000) (hok : LawOk ⟨nm, (N : Int), ch⟩ ([], [])) (hmb : methB ⟨nm, (N : Int), ch⟩ = true) :
    Calls Try.prog 35 #[.agg #[.string (bs nm), .int .i64 N, .slice A n c], .agg #[.string (bs k.1), .string (bs k.2)], .int .i64 q, .string (bs p)] w (ResC w (cutF N ch k q p)) := by
  have G := fun (w0 : World) (rd : Rd w0 A n (strV ch)) => hid (l13Heads_any N nm p ch k A n c w0 lo hi rd hn hcap l1 hs hb1 hb2 hp)
  have GL := fun (w0 : World) (rd : Rd w0 A n (strV ch)) => hid (specIsLeadTrue_law ⟨nm, (N : Int), ch⟩ A n c w0 hok rd hcap)
  rw [show leadTrueR ⟨nm, (N : Int), ch⟩ = (trueB (leadL (roundsL N) ch), true) by unfold leadTrueR; rw [if_pos hmb]; simp] at GL
  have GR := fun (w0 : World) => hid (l1Rounds_any N w0 hi)
  have HRW := hid (fun i => headTo_row lo hi ch k p i)
  have GT := fun (i : Nat) (w0 : World) => hid (l1Turn_any (headTo N ch k p i) w0 (HRW.out i).1)
  have hrw2 := hid (show ∀ i, IsRow (timesL (turnL (headTo N ch k p i)) (headTo N ch k p p.length)) ∧ (timesL (turnL (headTo N ch k p i)) (headTo N ch k p p.length)).length = N from fun i => (⟨times_row (turn_row (HRW.out i).1) (HRW.out p.length).1 (by rw [turn_len, (HRW.out i).2, (HRW.out p.length).2]), by rw [times_len, (HRW.out p.length).2]⟩))
  have GM := fun (i : Nat) (w0 : World) => hid (l1Times_any (turnL (headTo N ch k p i)) (headTo N ch k p p.length) w0 (turn_row (HRW.out i).1) (HRW.out p.length).1 (by rw [turn_len, (HRW.out i).2, (HRW.out p.length).2]))
  have GS := fun (i : Nat) (w0 : World) (rd : Rd w0 A n (strV ch)) => hid (l11Shared_any N nm (timesL (turnL (headTo N ch k p i)) (headTo N ch k p p.length)) ch A n c w0 lo hi rd hn hs (hrw2.out i).1 (hrw2.out i).2)
  have HM := hid (show ∀ i, hitP N ch k p i = decide (0 < (meetL (leadL (roundsL N) ch) (leadL (timesL (turnL (headTo N ch k p i)) (headTo N ch k p p.length)) ch)).length) from fun i => quot_meetN ch ch (hrw2.out i))
  have HG := hid (fun i (h : i < (headsTo N ch k p p.length).length) => headsTo_get N ch k p p.length i h)
  have RS := hid hr
  have HC0 := hid (show cutF N ch k q p = if p = [] then ((([] : List UInt8), (1 : Int), (0 : Int)), !trueB (leadL (roundsL N) ch)) else if p.length = q then ((p, (3 : Int), (0 : Int)), decide (headTo N ch k p p.length ≠ roundsL N)) else match hitIdx (hitP N ch k p) p.length with | some i => ((p, (2 : Int), (i : Int)), true) | none => (([], (0 : Int), (0 : Int)), false) from rfl)
  obtain ⟨k1, k2⟩ := k
  dsimp only at *
  clear hr hs hb1 hb2 hok hmb l1
  have i0 : (0 : Int) ≤ (p.length : Int) := Int.natCast_nonneg _
  have i1 : (p.length : Int) < (p.length : Int) + 1 := by omega
  have i2 : (p.length : Int) ≤ (p.length : Int) + 1 := by omega
  go_enter Try.func35, Try.ntmps35
  go_wp2_with fail
  obtain ⟨B2, hsz, HC⟩ := box_mkC 34 36 38 w nm k1 k2 [] (N : Int) 0 0 (.slice A n c)
  have R2 := hid (RS.out.below B2)
  have HB2 := hid B2
  have hw2 := B2.size
  generalize (((w.alloc (.cells #[.string (bs nm), .int .i64 (N : Int), .slice A n c] 34)).alloc (.cells #[.string (bs k1), .string (bs k2)] 36)).alloc (.cells #[.string (bs []), .int .i64 0, .int .i64 0] 38)) = W2 at *
  clear B2 hsz
  have HHS5 := hid (fun W' (h : Below W2.heap.size W2 W') => (show W'.cell? ⟨w.heap.size, 0, none⟩ = some (.string (bs nm)) ∧ W'.cell? ⟨w.heap.size, 1, none⟩ = some (.int .i64 (N : Int)) ∧ W'.cell? ⟨w.heap.size, 2, none⟩ = some (.slice A n c) ∧ W'.cell? ⟨w.heap.size + 1, 0, none⟩ = some (.string (bs k1)) ∧ W'.cell? ⟨w.heap.size + 1, 1, none⟩ = some (.string (bs k2)) from by
    obtain ⟨⟨a0, a1, a2⟩, ⟨a3, a4⟩, _⟩ := HC.out _ h
    exact ⟨a0, a1, a2, a3, a4⟩))
  have HRB := hid (fun W' h => (HC.out W' h).2.2)
  clear HC
  obtain ⟨n0, n1, n2, p0, p1⟩ := HHS5.out _ (Below.refl _ _)
  refine (G _ R2.out).out.mono ?_
  rintro e w1 ⟨v1, rfl, o1, b1⟩
  obtain ⟨A1, c1, rfl, hc1, _, rd1, _⟩ := own_shape o1
  have E1 := hid b1
  have hs1 := b1.size
  have hc1' := Int.ofNat_le.2 (Nat.le_of_succ_le hc1)
  have AT := hid (fun (i : Nat) (hi : i < p.length + 1) => (show ∃ b o, A1 = some ⟨b, o, none⟩ ∧ w1.cell? ⟨b, o + i, none⟩ = some (.string (bs (headTo N ch (k1, k2) p i))) from by
    obtain ⟨b, o, e, hk, hc⟩ := rd1.str hi
    rw [HG.out i hk] at hc
    exact ⟨b, o, e, hc⟩))
  obtain ⟨b, o, rfl, hl⟩ := AT.out p.length (Nat.lt_succ_self _)
  have AT2 := hid (fun (i : Nat) (hi : i < p.length + 1) => (show w1.cell? ⟨b, o + i, none⟩ = some (.string (bs (headTo N ch (k1, k2) p i))) from by
    obtain ⟨b', o', e, hc⟩ := AT.out i hi
    obtain ⟨rfl, rfl⟩ : b = b' ∧ o = o' := by injection e with e; injection e with e1 e2; exact ⟨e1, e2⟩
    exact hc))
  clear AT b1 o1 rd1 n0 n1 n2 p0 p1
  obtain ⟨n0, n1, n2, p0, p1⟩ := HHS5.out _ E1.out
  obtain ⟨E, hE⟩ : ∃ E, E = headTo N ch (k1, k2) p p.length := ⟨_, rfl⟩
  rw [← hE] at hl GM GS hrw2 HM HC0
  have HE := hid hE
  clear hE
  by_cases hp0 : p = []
  · have HR := hid (HC0.out.trans (if_pos hp0))
    have hpb : (p == []) = true := by simpa using hp0
    clear hp0 HC0
    go_wp2_with fail
    refine (GL _ (R2.out.below E1.out)).out.mono ?_
    rintro e w2 ⟨rfl, b2⟩
    have E2 := hid (E1.out.trans (b2.mono hs1))
    clear b2
    have RX := HRB.out _ E2.out
    have r0 := RX.cell 0
    have r1 := RX.cell 1
    have r2 := RX.cell 2
    have g0 := RX.frozen 0
    have g1 := RX.frozen 1
    have g2 := RX.frozen 2
    simp only [List.getElem?_toArray, List.getElem?_cons_zero, List.getElem?_cons_succ] at r0 r1 r2
    clear RX
    go_wp2
    refine bodyPost_ret (v := .tuple #[.agg #[.string (bs []), .int .i64 1, .int .i64 0], .bool (!trueB (leadL (roundsL N) ch))]) (by simp [results, Try.results35, go_sem, r0, r1, r2]) rfl ?_
    rw [HR.out]
    exact ⟨rfl, cset3_below (HB2.out.trans ((E2.out).mono hw2)) (by omega) _ _ _⟩
  · have hpb : (p == []) = false := by simpa using hp0
    have HC1 := hid (HC0.out.trans (if_neg hp0))
    clear hp0 HC0
    by_cases hq : p.length = q
    · have HR := hid (HC1.out.trans (if_pos hq))
      have hqb : ((p.length : Int) == (q : Int)) = true := by simp; omega
      clear hq HC1
      go_wp2_with fail
      refine (GR _).out.mono ?_
      rintro e w2 ⟨rfl, rfl⟩
      obtain ⟨B, hB⟩ : ∃ B, B = decide (E ≠ roundsL N) := ⟨_, rfl⟩
      rw [← hB] at HR
      have hb1 : (E != roundsL N) = B := by rw [hB, Bool.eq_iff_iff]; simp
      have hb2 : (E == roundsL N) = !B := by rw [← hb1]; simp [bne]
      have HBB := hid hB
      clear hB
      have RX := HRB.out _ E1.out
      have r0 := RX.cell 0
      have r1 := RX.cell 1
      have r2 := RX.cell 2
      have g0 := RX.frozen 0
      have g1 := RX.frozen 1
      have g2 := RX.frozen 2
      simp only [List.getElem?_toArray, List.getElem?_cons_zero, List.getElem?_cons_succ] at r0 r1 r2
      clear RX
      go_wp2
      refine bodyPost_ret (v := .tuple #[.agg #[.string (bs p), .int .i64 3, .int .i64 0], .bool B]) (by simp [results, Try.results35, go_sem, r0, r1, r2]) rfl ?_
      rw [HR.out]
      exact ⟨rfl, cset3_below (HB2.out.trans ((E1.out).mono hw2)) (by omega) _ _ _⟩
    · have HC2 := hid (HC1.out.trans (if_neg hq))
      have hqb : ((p.length : Int) == (q : Int)) = false := by simp; omega
      clear hq HC1
      go_wp2_with fail
      clear hl
      go_loopg [51] p.length (fun gk x wr => ∃ i : Nat, i ≤ p.length ∧ gk = p.length - i ∧ x = .int .i64 i ∧ Hid (hitIdx (hitP N ch (k1, k2) p) i = none) ∧ Below w1.heap.size w1 wr)
      case atStart => exact ⟨0, by omega, by omega, rfl, hid rfl, Below.refl _ _⟩
      case round =>
        obtain ⟨i, hil, rfl, rfl, hno, hb⟩ := hrel
        have HB := hid hb
        have Er := hid (E1.out.trans (hb.mono hs1))
        by_cases hlt : i < p.length
        · have hc := AT2.out i (by omega)
          have hci : wr.cell? ⟨b, o + i, none⟩ = some (.string (bs (headTo N ch (k1, k2) p i))) := (hb.cell (World.block_lt_of_cell? w1 _ hc)).trans hc
          have j0 : (0 : Int) ≤ (i : Int) := by omega
          have j1 : (i : Int) < (p.length : Int) := by omega
          have GTi := GT i
          have GMi := GM i
          have GSi := GS i
          have HMi := hid (HM.out i)
          obtain ⟨H, hH⟩ : ∃ H, H = headTo N ch (k1, k2) p i := ⟨_, rfl⟩
          rw [← hH] at GTi GMi GSi HMi hci
          clear hH hb hc n0 n1 n2 p0 p1
          obtain ⟨n0, n1, n2, p0, p1⟩ := HHS5.out _ Er.out
          go_wp2_with fail
          go_region_held3 (fun w' => w'.cell? ⟨w.heap.size, 0, none⟩ = some (.string (bs nm)) ∧ w'.cell? ⟨w.heap.size, 1, none⟩ = some (.int .i64 (N : Int)) ∧ w'.cell? ⟨w.heap.size, 2, none⟩ = some (.slice A n c) ∧ w'.cell? ⟨w.heap.size + 1, 0, none⟩ = some (.string (bs k1)) ∧ w'.cell? ⟨w.heap.size + 1, 1, none⟩ = some (.string (bs k2)))
            (first | exact HHS5.out _ Er.out | exact HHS5.out _ Er.out.drew | exact HHS5.out _ Fa | exact HHS5.out _ Fb)
            (first | (go_at_call 67; refine (GTi _).out.mono ?_; rintro e wa ⟨rfl, ba⟩; have Fa := Er.out.drew.trans (ba.mono Er.out.size)) | (go_at_call 66; refine (GMi _).out.mono ?_; rintro e w' ⟨rfl, rfl⟩) | (go_at_call 65; refine (GSi _ (R2.out.below Fa)).out.mono ?_; rintro e wb ⟨vb, rfl, ob, bb⟩; obtain ⟨Ab, cb, rfl, _⟩ := own_shape ob; have Fb := Fa.trans (bb.mono Fa.size)))
          have E3 := hid Fb
          have B3 := hid (HB.out.trans (((Below.refl wr.heap.size wr).drew.trans ((ba.trans (bb.mono ba.size)).mono (Nat.le_refl _))).mono HB.out.size))
          clear ba ob bb Fa Fb n0 n1 n2 p0 p1 hci
          generalize (meetL (leadL (roundsL N) ch) (leadL (timesL (turnL H) E) ch)).length = LL at *
          cases hh : hitP N ch (k1, k2) p i
          · have hLL : ¬ 0 < LL := by have := HMi.out; rw [hh] at this; simpa using this
            have hL2 : ¬ (0 : Int) < (LL : Int) := by omega
            have hL3 : LL = 0 := by omega
            have HH2 := hid (hitIdx_no hno.out hh)
            clear hLL hh HMi
            go_wp2
            go_roundg (p.length - (i + 1))
            case measure => omega
            case rel => exact ⟨i + 1, by omega, rfl, by go_num, HH2, B3.out⟩
          · have hLL : 0 < LL := by have := HMi.out; rw [hh] at this; simpa using this
            have hL2 : (0 : Int) < (LL : Int) := by omega
            have HR := hid (show cutF N ch (k1, k2) q p = ((p, 2, (i : Int)), true) by rw [HC2.out, hitIdx_yes hno.out hh p.length hlt])
            clear hLL hh HMi
            have RX := HRB.out _ E3.out
            have r0 := RX.cell 0
            have r1 := RX.cell 1
            have r2 := RX.cell 2
            have g0 := RX.frozen 0
            have g1 := RX.frozen 1
            have g2 := RX.frozen 2
            simp only [List.getElem?_toArray, List.getElem?_cons_zero, List.getElem?_cons_succ] at r0 r1 r2
            clear RX
            go_wp2
            refine bodyPost_ret (v := .tuple #[.agg #[.string (bs p), .int .i64 2, .int .i64 i], .bool true]) (by simp [results, Try.results35, go_sem, r0, r1, r2]) rfl ?_
            rw [HR.out]
            exact ⟨rfl, cset3_below (HB2.out.trans ((E3.out).mono hw2)) (by omega) _ _ _⟩
        · obtain rfl : i = p.length := by omega
          have HR := hid (show cutF N ch (k1, k2) q p = (([], 0, 0), false) by rw [HC2.out, hno.out])
          clear hb
          have RX := HRB.out _ Er.out
          have r0 := RX.cell 0
          have r1 := RX.cell 1
          have r2 := RX.cell 2
          have g0 := RX.frozen 0
          have g1 := RX.frozen 1
          have g2 := RX.frozen 2
          simp only [List.getElem?_toArray, List.getElem?_cons_zero, List.getElem?_cons_succ] at r0 r1 r2
          clear RX
          go_wp2
          refine bodyPost_ret (v := .tuple #[.agg #[.string (bs []), .int .i64 0, .int .i64 0], .bool false]) (by simp [results, Try.results35, go_sem, r0, r1, r2]) rfl ?_
          rw [HR.out]
          exact ⟨rfl, cset3_below (HB2.out.trans ((Er.out).mono hw2)) (by omega) _ _ _⟩
end Go.Proofs.Ytnkpbahapaocbaa

set_option linter.unusedVariables false
set_option linter.unusedSimpArgs false
set_option maxRecDepth 100000
namespace Go.Proofs.Ytnkpbahapaocbaa
open Go.RowKit

theorem cut_eq (a b : List UInt8) (y z y2 z2 : Int) : decide ((a, y, z) = (b, y2, z2)) = ((a == b) && ((y == y2) && (z == z2))) := by
  rw [Bool.eq_iff_iff]; simp
/-- What IsCut answers. -/
def isCutR (m : Meth) (k : List UInt8 × List UInt8) (q : Int) (c : List UInt8 × Int × Int) : Bool × Bool := if (callsB m k && searchB q) = true then (isCutB m.st.toNat m.ch k q.toNat c, true) else (false, false)
set_option maxHeartbeats 4000000 in
theorem l13IsCut_any (N : Nat) (nm cp : List UInt8) (cy cz : Int) (ch : List (List UInt8)) (k : List UInt8 × List UInt8) (q : Nat) (A : Option Addr) (n c : Nat) (w : World) (lo : 3 ≤ N) (hi : N ≤ 8) (hr : Rd w A n (strV ch)) (hn : n ≤ 1048576) (hcap : n ≤ c) (l1 : 1 ≤ ch.length) (hs : ∀ x ∈ ch, okChange (N : Int) x = true) (hb1 : okChange (N : Int) k.1 = true) (hb2 : okChange (N : Int) k.2 = true) (hp : cp.length ≤ 1048576) (hq : q ≤ 6) (hok : LawOk ⟨nm, (N : Int), ch⟩ ([], [])) (hmb : methB ⟨nm, (N : Int), ch⟩ = true) :
    Calls Try.prog 27 #[.agg #[.string (bs nm), .int .i64 N, .slice A n c], .agg #[.string (bs k.1), .string (bs k.2)], .int .i64 q, .agg #[.string (bs cp), .int .i64 cy, .int .i64 cz]] w fun e w' => e = .returned (.bool (isCutB N ch k q (cp, cy, cz))) ∧ Below w.heap.size w w' := by
  have GP := fun (w0 : World) => hid (l13Prefix_any cp (q : Int) w0 (by omega))
  have hd : decide ((cp.length : Int) ≤ (q : Int)) = decide (cp.length ≤ q) := decide_eq_decide.2 (by omega)
  rw [hd] at GP
  have GC := fun (h : cp.length ≤ 1000) (w0 : World) (rd : Rd w0 A n (strV ch)) => hid (l13Cut_any N nm cp ch k q A n c w0 lo hi rd hn hcap l1 hs hb1 hb2 h hok hmb)
  have RS := hid hr
  have HI := hid (show isCutB N ch k q (cp, cy, cz) = ((cp.all callB && decide (cp.length ≤ q)) && ((cutF N ch k q cp).2 && decide ((cutF N ch k q cp).1 = (cp, cy, cz)))) from rfl)
  generalize isCutB N ch k q (cp, cy, cz) = RR at *
  generalize cutF N ch k q cp = R at *
  obtain ⟨⟨rp, ry, rz⟩, rb⟩ := R
  dsimp only at HI
  rw [cut_eq] at HI
  obtain ⟨k1, k2⟩ := k
  dsimp only at *
  clear hr hs hb1 hb2 hok hmb l1 hd
  cases h0 : (cp.all callB && decide (cp.length ≤ q))
  · rw [h0] at GP HI
    have HR := hid (show RR = false by rw [HI.out]; rfl)
    clear h0 HI
    go_enter Try.func27, Try.ntmps27
    go_wp2_with fail
    obtain ⟨B2, hsz, HC⟩ := box_mkC 34 36 38 w nm k1 k2 cp (N : Int) cy cz (.slice A n c)
    have R2 := hid (RS.out.below B2)
    have HB2 := hid B2
    have hw2 := B2.size
    generalize (((w.alloc (.cells #[.string (bs nm), .int .i64 (N : Int), .slice A n c] 34)).alloc (.cells #[.string (bs k1), .string (bs k2)] 36)).alloc (.cells #[.string (bs cp), .int .i64 cy, .int .i64 cz] 38)) = W2 at *
    clear B2 hsz
    have HHS8 := hid (fun W' (h : Below W2.heap.size W2 W') => (show W'.cell? ⟨w.heap.size, 0, none⟩ = some (.string (bs nm)) ∧ W'.cell? ⟨w.heap.size, 1, none⟩ = some (.int .i64 (N : Int)) ∧ W'.cell? ⟨w.heap.size, 2, none⟩ = some (.slice A n c) ∧ W'.cell? ⟨w.heap.size + 1, 0, none⟩ = some (.string (bs k1)) ∧ W'.cell? ⟨w.heap.size + 1, 1, none⟩ = some (.string (bs k2)) ∧ W'.cell? ⟨w.heap.size + 1 + 1, 0, none⟩ = some (.string (bs cp)) ∧ W'.cell? ⟨w.heap.size + 1 + 1, 1, none⟩ = some (.int .i64 cy) ∧ W'.cell? ⟨w.heap.size + 1 + 1, 2, none⟩ = some (.int .i64 cz) from by
      obtain ⟨⟨a0, a1, a2⟩, ⟨a3, a4⟩, X⟩ := HC.out _ h
      exact ⟨a0, a1, a2, a3, a4, X.cell 0, X.cell 1, X.cell 2⟩))
    clear HC
    obtain ⟨n0, n1, n2, p0, p1, d0, d1, d2⟩ := HHS8.out _ (Below.refl _ _)
    refine (GP _).out.mono ?_
    rintro e w' ⟨rfl, rfl⟩
    go_wp2
    go_ret
    exact ⟨ret_bool HR.out.symm, HB2.out⟩
  · rw [h0] at GP HI
    have hlen : cp.length ≤ 1000 := by
      rw [Bool.and_eq_true, decide_eq_true_eq] at h0
      have := h0.2; omega
    have GC := GC hlen
    clear h0
    go_enter Try.func27, Try.ntmps27
    go_wp2_with fail
    obtain ⟨B2, hsz, HC⟩ := box_mkC 34 36 38 w nm k1 k2 cp (N : Int) cy cz (.slice A n c)
    have R2 := hid (RS.out.below B2)
    have HB2 := hid B2
    have hw2 := B2.size
    generalize (((w.alloc (.cells #[.string (bs nm), .int .i64 (N : Int), .slice A n c] 34)).alloc (.cells #[.string (bs k1), .string (bs k2)] 36)).alloc (.cells #[.string (bs cp), .int .i64 cy, .int .i64 cz] 38)) = W2 at *
    clear B2 hsz
    have HHS8 := hid (fun W' (h : Below W2.heap.size W2 W') => (show W'.cell? ⟨w.heap.size, 0, none⟩ = some (.string (bs nm)) ∧ W'.cell? ⟨w.heap.size, 1, none⟩ = some (.int .i64 (N : Int)) ∧ W'.cell? ⟨w.heap.size, 2, none⟩ = some (.slice A n c) ∧ W'.cell? ⟨w.heap.size + 1, 0, none⟩ = some (.string (bs k1)) ∧ W'.cell? ⟨w.heap.size + 1, 1, none⟩ = some (.string (bs k2)) ∧ W'.cell? ⟨w.heap.size + 1 + 1, 0, none⟩ = some (.string (bs cp)) ∧ W'.cell? ⟨w.heap.size + 1 + 1, 1, none⟩ = some (.int .i64 cy) ∧ W'.cell? ⟨w.heap.size + 1 + 1, 2, none⟩ = some (.int .i64 cz) from by
      obtain ⟨⟨a0, a1, a2⟩, ⟨a3, a4⟩, X⟩ := HC.out _ h
      exact ⟨a0, a1, a2, a3, a4, X.cell 0, X.cell 1, X.cell 2⟩))
    clear HC
    obtain ⟨n0, n1, n2, p0, p1, d0, d1, d2⟩ := HHS8.out _ (Below.refl _ _)
    refine (GP _).out.mono ?_
    rintro e w' ⟨rfl, rfl⟩
    go_wp2_with fail
    refine (GC _ R2.out).out.mono ?_
    rintro e w1 ⟨rfl, b1⟩
    have E1 := hid b1
    clear b1
    clear n0 n1 n2 p0 p1 d0 d1 d2
    obtain ⟨n0, n1, n2, p0, p1, d0, d1, d2⟩ := HHS8.out _ E1.out
    obtain ⟨B0, h0⟩ : ∃ b, (rp == cp) = b := ⟨_, rfl⟩
    obtain ⟨B1, h1⟩ : ∃ b, (ry == cy) = b := ⟨_, rfl⟩
    obtain ⟨B2, h2⟩ : ∃ b, (rz == cz) = b := ⟨_, rfl⟩
    have HR := hid (show RR = (rb && (B0 && (B1 && B2))) by rw [HI.out, h0, h1, h2]; rfl)
    clear HI
    dsimp only
    cases rb
    · go_wp2
      go_ret
      exact ⟨ret_bool (by rw [HR.out]; rfl), HB2.out.trans ((E1.out.alloc E1.out.size _).mono hw2)⟩
    · have E2 := hid (E1.out.alloc E1.out.size (.cells #[.string (bs rp), .int .i64 ry, .int .i64 rz] 38))
      obtain ⟨_, _, _, _, _, c0', c1', c2'⟩ := HHS8.out _ E2.out
      cases B0 <;> cases B1 <;> cases B2
      all_goals go_wp2
      all_goals go_ret
      all_goals exact ⟨ret_bool (by rw [HR.out]; rfl), HB2.out.trans ((E1.out.alloc E1.out.size _).mono hw2)⟩
set_option maxHeartbeats 2000000 in
theorem specIsCut_law (m : Meth) (k : List UInt8 × List UInt8) (q : Int) (cc : List UInt8 × Int × Int) (A : Option Addr) (n c : Nat) (w : World) (ok : LawOk m k) (rd : Rd w A n (strV m.ch)) (hcap : n ≤ c) (hcp : cc.1.length ≤ 1048576) :
    Calls Try.prog 9 #[.agg #[.string (bs m.nm), .int .i64 m.st, .slice A n c], .agg #[.string (bs k.1), .string (bs k.2)], .int .i64 q, .agg #[.string (bs cc.1), .int .i64 cc.2.1, .int .i64 cc.2.2]] w fun e w' => e = .returned (.tuple #[.bool (isCutR m k q cc).1, .bool (isCutR m k q cc).2]) ∧ Below w.heap.size w w' := by
  have hn : n ≤ 1048576 := by have h1 := rd.1; have h2 := ok.2.2.1; rw [strV_len] at h1; omega
  have GC0 := fun (w0 : World) (rd : Rd w0 A n (strV m.ch)) => hid (l13Asked_any m k q A n c w0 ok rd)
  have RS := hid rd
  have OK0 : LawOk m ([], []) := ⟨ok.1, ok.2.1, ok.2.2.1, ok.2.2.2.1, by simp, by simp⟩
  clear rd
  obtain ⟨cp, cy, cz⟩ := cc
  dsimp only at hcp ⊢
  cases hg0 : callsB m k && searchB q
  · rw [hg0] at GC0
    have HR := hid (show isCutR m k q (cp, cy, cz) = (false, false) by unfold isCutR; rw [hg0]; rfl)
    obtain ⟨nm, st, ch⟩ := m
    obtain ⟨k1, k2⟩ := k
    dsimp only at *
    clear hg0 ok OK0
    go_enter Try.func9, Try.ntmps9
    go_wp2_with fail
    obtain ⟨B2, hsz, HC⟩ := box_mkC 34 36 38 w nm k1 k2 cp st cy cz (.slice A n c)
    have R2 := hid (RS.out.below B2)
    have HB2 := hid B2
    have hw2 := B2.size
    generalize (((w.alloc (.cells #[.string (bs nm), .int .i64 st, .slice A n c] 34)).alloc (.cells #[.string (bs k1), .string (bs k2)] 36)).alloc (.cells #[.string (bs cp), .int .i64 cy, .int .i64 cz] 38)) = W2 at *
    clear B2 hsz
    have HHS8 := hid (fun W' (h : Below W2.heap.size W2 W') => (show W'.cell? ⟨w.heap.size, 0, none⟩ = some (.string (bs nm)) ∧ W'.cell? ⟨w.heap.size, 1, none⟩ = some (.int .i64 st) ∧ W'.cell? ⟨w.heap.size, 2, none⟩ = some (.slice A n c) ∧ W'.cell? ⟨w.heap.size + 1, 0, none⟩ = some (.string (bs k1)) ∧ W'.cell? ⟨w.heap.size + 1, 1, none⟩ = some (.string (bs k2)) ∧ W'.cell? ⟨w.heap.size + 1 + 1, 0, none⟩ = some (.string (bs cp)) ∧ W'.cell? ⟨w.heap.size + 1 + 1, 1, none⟩ = some (.int .i64 cy) ∧ W'.cell? ⟨w.heap.size + 1 + 1, 2, none⟩ = some (.int .i64 cz) from by
      obtain ⟨⟨a0, a1, a2⟩, ⟨a3, a4⟩, X⟩ := HC.out _ h
      exact ⟨a0, a1, a2, a3, a4, X.cell 0, X.cell 1, X.cell 2⟩))
    clear HC
    obtain ⟨n0, n1, n2, p0, p1, d0, d1, d2⟩ := HHS8.out _ (Below.refl _ _)
    refine (GC0 _ R2.out).out.mono ?_
    rintro e w1 ⟨rfl, b1⟩
    have E1 := hid b1
    clear b1
    clear n0 n1 n2 p0 p1 d0 d1 d2
    obtain ⟨n0, n1, n2, p0, p1, d0, d1, d2⟩ := HHS8.out _ E1.out
    go_wp2
    go_ret2
    rw [HR.out]
    exact ⟨rfl, HB2.out.trans (E1.out.mono hw2)⟩
  · rw [hg0] at GC0
    have HR0 := show isCutR m k q (cp, cy, cz) = (isCutB m.st.toNat m.ch k q.toNat (cp, cy, cz), true) by unfold isCutR; rw [hg0]; rfl
    rw [Bool.and_eq_true] at hg0
    have hb1 := callsB_bob hg0.1
    have hb2 := callsB_single hg0.1
    have hmb := callsB_meth (m := m) (k := k) hg0.1
    obtain ⟨N, hN, lo, hi, l1, l40, hs⟩ := meth_parts hmb
    obtain ⟨j, rfl, hj1, hj6⟩ := searchB_nat hg0.2
    obtain ⟨nm, st, ch⟩ := m
    dsimp only at *
    subst hN
    simp only [Int.toNat_natCast] at HR0
    have HR := hid HR0
    have GI := fun (w0 : World) (rd : Rd w0 A n (strV ch)) => hid (l13IsCut_any N nm cp cy cz ch k j A n c w0 lo hi rd hn hcap l1 hs hb1 hb2 hcp hj6 OK0 hmb)
    clear hg0 hb1 hb2 hmb lo hi l1 l40 hs ok OK0 HR0
    generalize isCutB N ch k j (cp, cy, cz) = RR at *
    obtain ⟨k1, k2⟩ := k
    dsimp only at *
    go_enter Try.func9, Try.ntmps9
    go_wp2_with fail
    obtain ⟨B2, hsz, HC⟩ := box_mkC 34 36 38 w nm k1 k2 cp (N : Int) cy cz (.slice A n c)
    have R2 := hid (RS.out.below B2)
    have HB2 := hid B2
    have hw2 := B2.size
    generalize (((w.alloc (.cells #[.string (bs nm), .int .i64 (N : Int), .slice A n c] 34)).alloc (.cells #[.string (bs k1), .string (bs k2)] 36)).alloc (.cells #[.string (bs cp), .int .i64 cy, .int .i64 cz] 38)) = W2 at *
    clear B2 hsz
    have HHS8 := hid (fun W' (h : Below W2.heap.size W2 W') => (show W'.cell? ⟨w.heap.size, 0, none⟩ = some (.string (bs nm)) ∧ W'.cell? ⟨w.heap.size, 1, none⟩ = some (.int .i64 (N : Int)) ∧ W'.cell? ⟨w.heap.size, 2, none⟩ = some (.slice A n c) ∧ W'.cell? ⟨w.heap.size + 1, 0, none⟩ = some (.string (bs k1)) ∧ W'.cell? ⟨w.heap.size + 1, 1, none⟩ = some (.string (bs k2)) ∧ W'.cell? ⟨w.heap.size + 1 + 1, 0, none⟩ = some (.string (bs cp)) ∧ W'.cell? ⟨w.heap.size + 1 + 1, 1, none⟩ = some (.int .i64 cy) ∧ W'.cell? ⟨w.heap.size + 1 + 1, 2, none⟩ = some (.int .i64 cz) from by
      obtain ⟨⟨a0, a1, a2⟩, ⟨a3, a4⟩, X⟩ := HC.out _ h
      exact ⟨a0, a1, a2, a3, a4, X.cell 0, X.cell 1, X.cell 2⟩))
    clear HC
    obtain ⟨n0, n1, n2, p0, p1, d0, d1, d2⟩ := HHS8.out _ (Below.refl _ _)
    refine (GC0 _ R2.out).out.mono ?_
    rintro e w1 ⟨rfl, b1⟩
    have E1 := hid b1
    clear b1
    clear n0 n1 n2 p0 p1 d0 d1 d2
    obtain ⟨n0, n1, n2, p0, p1, d0, d1, d2⟩ := HHS8.out _ E1.out
    go_wp2_with fail
    refine (GI _ (R2.out.below E1.out)).out.mono ?_
    rintro e w2 ⟨rfl, b2⟩
    have E2 := hid (E1.out.trans (b2.mono E1.out.size))
    clear b2
    go_wp2
    go_ret2
    rw [HR.out]
    exact ⟨rfl, HB2.out.trans (E2.out.mono hw2)⟩
end Go.Proofs.Ytnkpbahapaocbaa

set_option linter.unusedVariables false
set_option linter.unusedSimpArgs false
set_option maxRecDepth 100000
namespace Go.Proofs.Ytnkpbahapaocbaa
open Go.RowKit

/-- The fields of a searcher that a cut asks. -/
def SrchAt (w' : World) (G : Nat) (nm : List UInt8) (N : Nat) (A : Option Addr) (n c : Nat) (k1 k2 : List UInt8) (q : Nat) (tr : Bool) (g : Nat) : Prop := w'.cell? ⟨G, 0, none⟩ = some (.string (bs nm)) ∧ w'.cell? ⟨G, 1, none⟩ = some (.int .i64 (N : Int)) ∧ w'.cell? ⟨G, 2, none⟩ = some (.slice A n c) ∧ w'.cell? ⟨G, 3, none⟩ = some (.string (bs k1)) ∧ w'.cell? ⟨G, 4, none⟩ = some (.string (bs k2)) ∧ w'.cell? ⟨G, 5, none⟩ = some (.int .i64 (q : Int)) ∧ w'.cell? ⟨G, 6, none⟩ = some (.bool tr) ∧ w'.cell? ⟨G, 7, none⟩ = some (.map (some g))
theorem SrchAt.below {w w' : World} {G : Nat} {nm : List UInt8} {N : Nat} {A : Option Addr} {n c : Nat} {k1 k2 : List UInt8} {q : Nat} {tr : Bool} {g : Nat} (h : SrchAt w G nm N A n c k1 k2 q tr g) (hb : Below w.heap.size w w') : SrchAt w' G nm N A n c k1 k2 q tr g := by
  obtain ⟨h0, h1, h2, h3, h4, h5, h6, h7⟩ := h
  have hk := fun {p : Addr} {u : Value} (hc : w.cell? p = some u) => (hb.cell (World.block_lt_of_cell? w _ hc)).trans hc
  exact ⟨hk h0, hk h1, hk h2, hk h3, hk h4, hk h5, hk h6, hk h7⟩
theorem SrchAt.lt {w : World} {G : Nat} {nm : List UInt8} {N : Nat} {A : Option Addr} {n c : Nat} {k1 k2 : List UInt8} {q : Nat} {tr : Bool} {g : Nat} (h : SrchAt w G nm N A n c k1 k2 q tr g) : G < w.heap.size := World.block_lt_of_cell? w _ h.1
theorem cell_set3 {X : World} {p : Addr} {v : Value} {g : Nat} (h : X.cell? p = some v) (hne : p.block ≠ g) (x y z : Value) : (((X.setCell ⟨g, 0, none⟩ x).setCell ⟨g, 1, none⟩ y).setCell ⟨g, 2, none⟩ z).cell? p = some v := by
  rw [World.cell?_setCell_other _ _ _ _ (by intro e; exact hne (by rw [← e])), World.cell?_setCell_other _ _ _ _ (by intro e; exact hne (by rw [← e])), World.cell?_setCell_other _ _ _ _ (by intro e; exact hne (by rw [← e]))]
  exact h
theorem SrchAt.set3 {w : World} {G : Nat} {nm : List UInt8} {N : Nat} {A : Option Addr} {n c : Nat} {k1 k2 : List UInt8} {q : Nat} {tr : Bool} {g b : Nat} (h : SrchAt w G nm N A n c k1 k2 q tr g) (hne : G ≠ b) (x y z : Value) : SrchAt (((w.setCell ⟨b, 0, none⟩ x).setCell ⟨b, 1, none⟩ y).setCell ⟨b, 2, none⟩ z) G nm N A n c k1 k2 q tr g := by
  obtain ⟨h0, h1, h2, h3, h4, h5, h6, h7⟩ := h
  exact ⟨cell_set3 h0 hne _ _ _, cell_set3 h1 hne _ _ _, cell_set3 h2 hne _ _ _, cell_set3 h3 hne _ _ _, cell_set3 h4 hne _ _ _, cell_set3 h5 hne _ _ _, cell_set3 h6 hne _ _ _, cell_set3 h7 hne _ _ _⟩
/-- The cells of a new searcher. -/
def srchC (nm : List UInt8) (N : Nat) (A : Option Addr) (n c : Nat) (k1 k2 : List UInt8) (q : Nat) (tr : Bool) (g : Nat) : Array Value := #[.string (bs nm), .int .i64 (N : Int), .slice A n c, .string (bs k1), .string (bs k2), .int .i64 (q : Int), .bool tr, .map (some g), .int .i64 0, .slice none 0 0, .slice none 0 0, .bool false]
theorem SrchAt.of {w : World} {G : Nat} {t : TypeId} {nm : List UInt8} {N : Nat} {A : Option Addr} {n c : Nat} {k1 k2 : List UInt8} {q : Nat} {tr : Bool} {g : Nat} (h : Blk w G t (srchC nm N A n c k1 k2 q tr g)) : SrchAt w G nm N A n c k1 k2 q tr g := ⟨h.cell 0, h.cell 1, h.cell 2, h.cell 3, h.cell 4, h.cell 5, h.cell 6, h.cell 7⟩
set_option maxHeartbeats 4000000 in
theorem newSearcher_any (N : Nat) (nm : List UInt8) (ch : List (List UInt8)) (k : List UInt8 × List UInt8) (q : Nat) (A : Option Addr) (n c : Nat) (w : World) (lo : 3 ≤ N) (hi : N ≤ 8) (hr : Rd w A n (strV ch)) (hn : n ≤ 1000) (hs : ∀ x ∈ ch, okChange (N : Int) x = true) :
    Calls Try.prog 30 #[.agg #[.string (bs nm), .int .i64 N, .slice A n c], .agg #[.string (bs k.1), .string (bs k.2)], .int .i64 (q : Int)] w fun e w' => ∃ G g z, e = .returned (.pointer (some ⟨G, 0, none⟩)) ∧ Blk w' G 71 (srchC nm N A n c k.1 k.2 q (trueB (leadL (roundsL N) ch)) g) ∧ IsSet w' g z (quotL (leadL (roundsL N) ch) (leadL (roundsL N) ch)) ∧ w.heap.size ≤ G ∧ Below w.heap.size w w' := by
  have GL := fun (w0 : World) (rd : Rd w0 A n (strV ch)) => hid (leadTrue_any N nm ch A n c w0 lo hi rd (by omega) hs)
  have GF := fun (w0 : World) (rd : Rd w0 A n (strV ch)) => hid (falseSet_any N nm nm ch ch A A n c n c w0 lo hi rd rd hn hn hs hs)
  have RS := hid hr
  generalize quotL (leadL (roundsL N) ch) (leadL (roundsL N) ch) = FF at *
  generalize trueB (leadL (roundsL N) ch) = tr at *
  obtain ⟨k1, k2⟩ := k
  dsimp only at *
  clear hr hs
  go_enter Try.func30, Try.ntmps30
  go_wp2_with fail
  obtain ⟨B2, hsz, HC⟩ := box_mk w nm k1 k2 (N : Int) (.slice A n c)
  have R2 := hid (RS.out.below B2)
  have HB2 := hid B2
  have hw2 := B2.size
  generalize ((w.alloc (.cells #[.string (bs nm), .int .i64 (N : Int), .slice A n c] 34)).alloc (.cells #[.string (bs k1), .string (bs k2)] 36)) = W2 at *
  clear B2 hsz
  have HHS5 := hid (fun W' (h : Below W2.heap.size W2 W') => (show W'.cell? ⟨w.heap.size, 0, none⟩ = some (.string (bs nm)) ∧ W'.cell? ⟨w.heap.size, 1, none⟩ = some (.int .i64 (N : Int)) ∧ W'.cell? ⟨w.heap.size, 2, none⟩ = some (.slice A n c) ∧ W'.cell? ⟨w.heap.size + 1, 0, none⟩ = some (.string (bs k1)) ∧ W'.cell? ⟨w.heap.size + 1, 1, none⟩ = some (.string (bs k2)) from by
    obtain ⟨⟨a0, a1, a2⟩, a3, a4⟩ := HC.out _ h
    exact ⟨a0, a1, a2, a3, a4⟩))
  clear HC
  obtain ⟨n0, n1, n2, p0, p1⟩ := HHS5.out _ (Below.refl _ _)
  have F0 : Below W2.heap.size W2 W2.drew := (Below.refl _ _).drew
  go_region_held3 (fun w' => w'.cell? ⟨w.heap.size, 0, none⟩ = some (.string (bs nm)) ∧ w'.cell? ⟨w.heap.size, 1, none⟩ = some (.int .i64 (N : Int)) ∧ w'.cell? ⟨w.heap.size, 2, none⟩ = some (.slice A n c) ∧ w'.cell? ⟨w.heap.size + 1, 0, none⟩ = some (.string (bs k1)) ∧ w'.cell? ⟨w.heap.size + 1, 1, none⟩ = some (.string (bs k2)))
    (first | exact HHS5.out _ (Below.refl _ _) | exact HHS5.out _ F0 | exact HHS5.out _ Fa | exact HHS5.out _ Fb | exact HHS5.out _ (Fb.alloc Fb.size _))
    (first | (go_at_call 60; refine (GL _ (R2.out.below F0)).out.mono ?_; rintro e wa ⟨rfl, ba⟩; have Fa := F0.trans (ba.mono (Nat.le_refl _))) | (go_at_call 61; refine (GF _ (R2.out.below Fa)).out.mono ?_; rintro e wb ⟨g, z, rfl, hz, hset, hge, bb⟩; have Fb := Fa.trans (bb.mono Fa.size)))
  have HFb := hid Fb
  have HSet := hid hset
  clear ba bb hset Fa Fb F0 n0 n1 n2 p0 p1 hz hge
  have hsb := HFb.out.size
  go_wp2
  go_ret
  exact ⟨_, g, z, rfl, Blk.new wb 71 (srchC nm N A n c k1 k2 q tr g), HSet.out.below ((Below.refl _ _).alloc (Nat.le_refl _) _), Nat.le_trans hw2 hsb, HB2.out.trans ((HFb.out.alloc hsb _).mono hw2)⟩
set_option maxHeartbeats 4000000 in
theorem cutOf_any (N : Nat) (nm p : List UInt8) (ch : List (List UInt8)) (k : List UInt8 × List UInt8) (q : Nat) (A : Option Addr) (n c G g z : Nat) (tr : Bool) (w : World) (lo : 3 ≤ N) (hi : N ≤ 8) (hr : Rd w A n (strV ch)) (hn : n ≤ 1048576) (l1 : 1 ≤ ch.length) (hs : ∀ x ∈ ch, okChange (N : Int) x = true) (hb1 : okChange (N : Int) k.1 = true) (hb2 : okChange (N : Int) k.2 = true) (hp : p.length ≤ 1000) (hcall : p.all callB = true) (hsr : SrchAt w G nm N A n c k.1 k.2 q tr g) (htr : tr = trueB (leadL (roundsL N) ch)) (hset : IsSet w g z (quotL (leadL (roundsL N) ch) (leadL (roundsL N) ch))) :
    Calls Try.prog 62 #[.pointer (some ⟨G, 0, none⟩), .string (bs p)] w (ResC w (cutF N ch k q p)) := by
  have GH := fun (w0 : World) (rd : Rd w0 A n (strV ch)) => hid (heads_any N nm p ch k A n c w0 lo hi rd hn l1 hs hb1 hb2 hp hcall)
  have GR := fun (w0 : World) => hid (rounds_any N w0 hi)
  have HRW := hid (fun i => headTo_row lo hi ch k p i)
  have GT := fun (i : Nat) (w0 : World) => hid (turned_any (headTo N ch k p i) w0 (HRW.out i).1)
  have GM := fun (i : Nat) (w0 : World) => hid (times_any (turnL (headTo N ch k p i)) (headTo N ch k p p.length) w0 (turn_row (HRW.out i).1) (HRW.out p.length).1 (by rw [turn_len, (HRW.out i).2, (HRW.out p.length).2]))
  have HZL := hid (show ∀ i, (timesL (turnL (headTo N ch k p i)) (headTo N ch k p p.length)).length ≤ 1048576 from fun i => by rw [times_len, (HRW.out p.length).2]; omega)
  have HM := hid (show ∀ i, hitP N ch k p i = memB (timesL (turnL (headTo N ch k p i)) (headTo N ch k p p.length)) (quotL (leadL (roundsL N) ch) (leadL (roundsL N) ch)) from fun i => rfl)
  have HG := hid (fun i (h : i < (headsTo N ch k p p.length).length) => headsTo_get N ch k p p.length i h)
  have RS := hid hr
  have HC0 := hid (show cutF N ch k q p = if p = [] then ((([] : List UInt8), (1 : Int), (0 : Int)), !trueB (leadL (roundsL N) ch)) else if p.length = q then ((p, (3 : Int), (0 : Int)), decide (headTo N ch k p p.length ≠ roundsL N)) else match hitIdx (hitP N ch k p) p.length with | some i => ((p, (2 : Int), (i : Int)), true) | none => (([], (0 : Int), (0 : Int)), false) from rfl)
  rw [← htr] at HC0
  have HSR := hid hsr
  have HST := hid hset
  have hGw := hsr.lt
  generalize quotL (leadL (roundsL N) ch) (leadL (roundsL N) ch) = FF at *
  obtain ⟨k1, k2⟩ := k
  dsimp only at *
  clear hr hs hb1 hb2 l1 hcall hset htr
  have i0 : (0 : Int) ≤ (p.length : Int) := Int.natCast_nonneg _
  have i1 : (p.length : Int) < (p.length : Int) + 1 := by omega
  have i2 : (p.length : Int) ≤ (p.length : Int) + 1 := by omega
  obtain ⟨s0, s1, s2, s3, s4, s5, s6, s7⟩ := hsr
  go_enter Try.func62, Try.ntmps62
  go_wp2_with fail
  have B2 : Below w.heap.size w (w.alloc (.cells #[.string (bs []), .int .i64 0, .int .i64 0] 38)) := (Below.refl _ _).alloc (Nat.le_refl _) _
  have Z2 := Blk.new w 38 #[.string (bs []), .int .i64 0, .int .i64 0]
  have hsz : (w.alloc (.cells #[.string (bs []), .int .i64 0, .int .i64 0] 38)).heap.size = w.heap.size + 1 := by simp
  generalize (w.alloc (.cells #[.string (bs []), .int .i64 0, .int .i64 0] 38)) = W2 at *
  have HB2 := hid B2
  have hw2 := B2.size
  have R2 := hid (RS.out.below B2)
  have HRB := hid (fun W' (h : Below W2.heap.size W2 W') => Z2.below h (by omega))
  have HHS := hid (fun W' (h : Below W2.heap.size W2 W') => HSR.out.below (HB2.out.trans (h.mono hw2)))
  have HT2 := hid (fun W' (h : Below W2.heap.size W2 W') => HST.out.below (HB2.out.trans (h.mono hw2)))
  have hGne : G ≠ w.heap.size := by omega
  clear B2 Z2 hsz s0 s1 s2 s3 s4 s5 s6 s7
  obtain ⟨s0, s1, s2, s3, s4, s5, s6, s7⟩ := HHS.out _ (Below.refl _ _)
  go_region_held3 (fun w' => w'.cell? ⟨G, 0, none⟩ = some (.string (bs nm)) ∧ w'.cell? ⟨G, 1, none⟩ = some (.int .i64 (N : Int)) ∧ w'.cell? ⟨G, 2, none⟩ = some (.slice A n c) ∧ w'.cell? ⟨G, 3, none⟩ = some (.string (bs k1)) ∧ w'.cell? ⟨G, 4, none⟩ = some (.string (bs k2)) ∧ w'.cell? ⟨G, 5, none⟩ = some (.int .i64 (q : Int)) ∧ w'.cell? ⟨G, 6, none⟩ = some (.bool tr) ∧ w'.cell? ⟨G, 7, none⟩ = some (.map (some g)))
    (first | exact HHS.out _ (Below.refl _ _) | exact HHS.out _ (Below.refl _ _).drew | exact HHS.out _ Fa)
    (first | (go_at_call 88; refine (GH _ (R2.out.below (Below.refl W2.heap.size W2).drew)).out.mono ?_; rintro e w1 ⟨v1, rfl, o1, b1⟩; obtain ⟨A1, c1, rfl, hc1, _, rd1, _⟩ := own_shape o1; have Fa := (Below.refl W2.heap.size W2).drew.trans (b1.mono (Nat.le_refl _))))
  have E1 := hid Fa
  have hs1 := Fa.size
  have hc1' := Int.ofNat_le.2 (Nat.le_of_succ_le hc1)
  have AT := hid (fun (i : Nat) (hi : i < p.length + 1) => (show ∃ b o, A1 = some ⟨b, o, none⟩ ∧ w1.cell? ⟨b, o + i, none⟩ = some (.string (bs (headTo N ch (k1, k2) p i))) from by
    obtain ⟨b, o, e, hk, hc⟩ := rd1.str hi
    rw [HG.out i hk] at hc
    exact ⟨b, o, e, hc⟩))
  obtain ⟨b, o, rfl, hl⟩ := AT.out p.length (Nat.lt_succ_self _)
  have AT2 := hid (fun (i : Nat) (hi : i < p.length + 1) => (show w1.cell? ⟨b, o + i, none⟩ = some (.string (bs (headTo N ch (k1, k2) p i))) from by
    obtain ⟨b', o', e, hc⟩ := AT.out i hi
    obtain ⟨rfl, rfl⟩ : b = b' ∧ o = o' := by injection e with e; injection e with e1 e2; exact ⟨e1, e2⟩
    exact hc))
  clear AT b1 o1 rd1 Fa
  clear s0 s1 s2 s3 s4 s5 s6 s7
  obtain ⟨s0, s1, s2, s3, s4, s5, s6, s7⟩ := HHS.out _ E1.out
  obtain ⟨E, hE⟩ : ∃ E, E = headTo N ch (k1, k2) p p.length := ⟨_, rfl⟩
  rw [← hE] at hl GM HZL HM HC0
  have HE := hid hE
  clear hE
  by_cases hp0 : p = []
  · have HR := hid (HC0.out.trans (if_pos hp0))
    have hpb : (p == []) = true := by simpa using hp0
    clear hp0 HC0
    have RX := HRB.out _ E1.out
    have r0 := RX.cell 0
    have r1 := RX.cell 1
    have r2 := RX.cell 2
    have g0 := RX.frozen 0
    have g1 := RX.frozen 1
    have g2 := RX.frozen 2
    simp only [List.getElem?_toArray, List.getElem?_cons_zero, List.getElem?_cons_succ] at r0 r1 r2
    clear RX
    go_wp2_with fail
    go_region_held3 (fun w' => w'.cell? ⟨G, 0, none⟩ = some (.string (bs nm)) ∧ w'.cell? ⟨G, 1, none⟩ = some (.int .i64 (N : Int)) ∧ w'.cell? ⟨G, 2, none⟩ = some (.slice A n c) ∧ w'.cell? ⟨G, 3, none⟩ = some (.string (bs k1)) ∧ w'.cell? ⟨G, 4, none⟩ = some (.string (bs k2)) ∧ w'.cell? ⟨G, 5, none⟩ = some (.int .i64 (q : Int)) ∧ w'.cell? ⟨G, 6, none⟩ = some (.bool tr) ∧ w'.cell? ⟨G, 7, none⟩ = some (.map (some g)))
      (first | exact HHS.out _ E1.out | exact HHS.out _ E1.out.drew | exact (HHS.out _ E1.out.drew).set3 hGne _ _ _)
      (fail)
    all_goals go_wp2
    all_goals refine bodyPost_ret (v := .tuple #[.agg #[.string (bs []), .int .i64 1, .int .i64 0], .bool (!tr)]) (by simp [results, Try.results62, go_sem, r0, r1, r2]) rfl ?_
    all_goals rw [HR.out]
    all_goals exact ⟨rfl, cset3_below (HB2.out.trans ((E1.out.drew).mono hw2)) (by omega) _ _ _⟩
  · have hpb : (p == []) = false := by simpa using hp0
    have HC1 := hid (HC0.out.trans (if_neg hp0))
    clear hp0 HC0
    by_cases hq : p.length = q
    · have HR := hid (HC1.out.trans (if_pos hq))
      have hqb : ((p.length : Int) == (q : Int)) = true := by simp; omega
      clear hq HC1
      go_wp2_with fail
      refine (GR _).out.mono ?_
      rintro e w2 ⟨rfl, rfl⟩
      obtain ⟨B, hB⟩ : ∃ B, B = decide (E ≠ roundsL N) := ⟨_, rfl⟩
      rw [← hB] at HR
      have hb1 : (E != roundsL N) = B := by rw [hB, Bool.eq_iff_iff]; simp
      have hb2 : (E == roundsL N) = !B := by rw [← hb1]; simp [bne]
      have HBB := hid hB
      clear hB
      have RX := HRB.out _ E1.out
      have r0 := RX.cell 0
      have r1 := RX.cell 1
      have r2 := RX.cell 2
      have g0 := RX.frozen 0
      have g1 := RX.frozen 1
      have g2 := RX.frozen 2
      simp only [List.getElem?_toArray, List.getElem?_cons_zero, List.getElem?_cons_succ] at r0 r1 r2
      clear RX
      go_wp2
      refine bodyPost_ret (v := .tuple #[.agg #[.string (bs p), .int .i64 3, .int .i64 0], .bool B]) (by simp [results, Try.results62, go_sem, r0, r1, r2]) rfl ?_
      rw [HR.out]
      exact ⟨rfl, cset3_below (HB2.out.trans ((E1.out).mono hw2)) (by omega) _ _ _⟩
    · have HC2 := hid (HC1.out.trans (if_neg hq))
      have hqb : ((p.length : Int) == (q : Int)) = false := by simp; omega
      clear hq HC1
      go_wp2_with fail
      clear hl
      go_loopg [57] p.length (fun gk x wr => ∃ i : Nat, i ≤ p.length ∧ gk = p.length - i ∧ x = .int .i64 i ∧ Hid (hitIdx (hitP N ch (k1, k2) p) i = none) ∧ Below w1.heap.size w1 wr)
      case atStart => exact ⟨0, by omega, by omega, rfl, hid rfl, Below.refl _ _⟩
      case round =>
        obtain ⟨i, hil, rfl, rfl, hno, hb⟩ := hrel
        have HB := hid hb
        have Er := hid (E1.out.trans (hb.mono hs1))
        by_cases hlt : i < p.length
        · have hc := AT2.out i (by omega)
          have hci : wr.cell? ⟨b, o + i, none⟩ = some (.string (bs (headTo N ch (k1, k2) p i))) := (hb.cell (World.block_lt_of_cell? w1 _ hc)).trans hc
          have j0 : (0 : Int) ≤ (i : Int) := by omega
          have j1 : (i : Int) < (p.length : Int) := by omega
          have GTi := GT i
          have GMi := GM i
          have HZi := HZL.out i
          have HMi := hid (HM.out i)
          obtain ⟨H, hH⟩ : ∃ H, H = headTo N ch (k1, k2) p i := ⟨_, rfl⟩
          rw [← hH] at GTi GMi HMi hci HZi
          clear hH hb hc
          clear s0 s1 s2 s3 s4 s5 s6 s7
          obtain ⟨s0, s1, s2, s3, s4, s5, s6, s7⟩ := HHS.out _ Er.out
          obtain ⟨Z, hZ⟩ : ∃ Z, Z = timesL (turnL H) E := ⟨_, rfl⟩
          rw [← hZ] at GMi HMi HZi
          clear hZ
          go_wp2_with fail
          go_region_held3 (fun w' => w'.cell? ⟨G, 0, none⟩ = some (.string (bs nm)) ∧ w'.cell? ⟨G, 1, none⟩ = some (.int .i64 (N : Int)) ∧ w'.cell? ⟨G, 2, none⟩ = some (.slice A n c) ∧ w'.cell? ⟨G, 3, none⟩ = some (.string (bs k1)) ∧ w'.cell? ⟨G, 4, none⟩ = some (.string (bs k2)) ∧ w'.cell? ⟨G, 5, none⟩ = some (.int .i64 (q : Int)) ∧ w'.cell? ⟨G, 6, none⟩ = some (.bool tr) ∧ w'.cell? ⟨G, 7, none⟩ = some (.map (some g)))
            (first | exact HHS.out _ Er.out | exact HHS.out _ Er.out.drew | exact HHS.out _ Fa | exact HHS.out _ Fb)
            (first | (go_at_call 87; refine (GTi _).out.mono ?_; rintro e wa ⟨rfl, ba⟩; have Fa := Er.out.drew.trans (ba.mono Er.out.size)) | (go_at_call 86; refine (GMi _).out.mono ?_; rintro e wb ⟨rfl, bb⟩; have Fb := Fa.trans (bb.mono Fa.size); have hlook := (HT2.out _ Fb).look HZi))
          have E3 := hid Fb
          have B3 := hid (HB.out.trans (((Below.refl wr.heap.size wr).drew.trans ((ba.trans (bb.mono ba.size)).mono (Nat.le_refl _))).mono HB.out.size))
          clear ba bb Fa Fb s0 s1 s2 s3 s4 s5 s6 s7 hci hlook
          have hh := HMi.out
          generalize memB Z FF = MB at hh ⊢
          cases MB
          · have HH2 := hid (hitIdx_no hno.out hh)
            clear hh HMi
            go_wp2
            go_roundg (p.length - (i + 1))
            case measure => omega
            case rel => exact ⟨i + 1, by omega, rfl, by go_num, HH2, B3.out⟩
          · have HR := hid (show cutF N ch (k1, k2) q p = ((p, 2, (i : Int)), true) by rw [HC2.out, hitIdx_yes hno.out hh p.length hlt])
            clear hh HMi
            have RX := HRB.out _ E3.out
            have r0 := RX.cell 0
            have r1 := RX.cell 1
            have r2 := RX.cell 2
            have g0 := RX.frozen 0
            have g1 := RX.frozen 1
            have g2 := RX.frozen 2
            simp only [List.getElem?_toArray, List.getElem?_cons_zero, List.getElem?_cons_succ] at r0 r1 r2
            clear RX
            go_wp2
            refine bodyPost_ret (v := .tuple #[.agg #[.string (bs p), .int .i64 2, .int .i64 i], .bool true]) (by simp [results, Try.results62, go_sem, r0, r1, r2]) rfl ?_
            rw [HR.out]
            exact ⟨rfl, cset3_below (HB2.out.trans ((E3.out).mono hw2)) (by omega) _ _ _⟩
        · obtain rfl : i = p.length := by omega
          have HR := hid (show cutF N ch (k1, k2) q p = (([], 0, 0), false) by rw [HC2.out, hno.out])
          clear hb
          have RX := HRB.out _ Er.out
          have r0 := RX.cell 0
          have r1 := RX.cell 1
          have r2 := RX.cell 2
          have g0 := RX.frozen 0
          have g1 := RX.frozen 1
          have g2 := RX.frozen 2
          simp only [List.getElem?_toArray, List.getElem?_cons_zero, List.getElem?_cons_succ] at r0 r1 r2
          clear RX
          go_wp2
          refine bodyPost_ret (v := .tuple #[.agg #[.string (bs []), .int .i64 0, .int .i64 0], .bool false]) (by simp [results, Try.results62, go_sem, r0, r1, r2]) rfl ?_
          rw [HR.out]
          exact ⟨rfl, cset3_below (HB2.out.trans ((Er.out).mono hw2)) (by omega) _ _ _⟩
end Go.Proofs.Ytnkpbahapaocbaa

set_option linter.unusedVariables false
set_option linter.unusedSimpArgs false
namespace Go.Proofs.Ytnkpbahapaocbaa
open Go.RowKit

/-- An operation that its guard passes over is taken first. -/
theorem wpAnyH_pass {P : Program} {ops : Array Oper} {Q : Exit → Act → World → Prop} {md : Region.Mode} {S : World → Prop} {i : Nat} {d : Option Tmp} {fuel : Nat} {listed : Array Bool} {a : Act} {w : World} (hd : (ops[i]?).map (fun o => o.dst) = some d)
    (hs : Region.noSelect ops = true) (hf : Region.free md ops listed i = true) (hr : (Region.ready md ops listed).contains i = true)
    (hQ : ∀ c a v w, Q (.panic c) (a.put d v) w → Q (.panic c) a w) (hw : (ops[i]?).map (fun o => Region.wanted o (yielded ops a.tmps)) = some false) (hS : S w)
    (h : wpAnyH P md ops Q S fuel (listed.setIfInBounds i true) (a.put d undef) w) : wpAnyH P md ops Q S (fuel + 1) listed a w := by
  cases ho : ops[i]? with
  | none => rw [ho] at hd; cases hd
  | some o =>
    rw [ho] at hd hw
    simp only [Option.map_some, Option.some.injEq] at hd hw
    subst hd
    exact wpAnyH_take ho hs hf hr (fun c a w => hQ c a undef w) (Or.inr ⟨hw, rfl⟩) hS h
end Go.Proofs.Ytnkpbahapaocbaa

set_option linter.unusedVariables false
set_option linter.unusedSimpArgs false
set_option maxRecDepth 100000
namespace Go.Proofs.Ytnkpbahapaocbaa
open Go.RowKit

set_option maxHeartbeats 4000000 in
theorem justified_any (N : Nat) (nm cp : List UInt8) (cy cz : Int) (ch : List (List UInt8)) (k : List UInt8 × List UInt8) (q : Nat) (A : Option Addr) (n c G g z : Nat) (tr : Bool) (w : World) (lo : 3 ≤ N) (hi : N ≤ 8) (hr : Rd w A n (strV ch)) (hn : n ≤ 1048576) (l1 : 1 ≤ ch.length) (hs : ∀ x ∈ ch, okChange (N : Int) x = true) (hb1 : okChange (N : Int) k.1 = true) (hb2 : okChange (N : Int) k.2 = true) (hp : cp.length ≤ 1048576) (hq6 : q ≤ 6) (hsr : SrchAt w G nm N A n c k.1 k.2 q tr g) (htr : tr = trueB (leadL (roundsL N) ch)) (hset : IsSet w g z (quotL (leadL (roundsL N) ch) (leadL (roundsL N) ch))) :
    Calls Try.prog 31 #[.pointer (some ⟨G, 0, none⟩), .agg #[.string (bs cp), .int .i64 cy, .int .i64 cz]] w fun e w' => e = .returned (.bool (isCutB N ch k q (cp, cy, cz))) ∧ Below w.heap.size w w' := by
  have GA := fun (w0 : World) => hid (areCalls_any cp w0 (by omega))
  have GC := fun (h : cp.length ≤ 1000) (hc : cp.all callB = true) (w0 : World) (rd : Rd w0 A n (strV ch)) (h1 : SrchAt w0 G nm N A n c k.1 k.2 q tr g) (h2 : IsSet w0 g z (quotL (leadL (roundsL N) ch) (leadL (roundsL N) ch))) => hid (cutOf_any N nm cp ch k q A n c G g z tr w0 lo hi rd hn l1 hs hb1 hb2 h hc h1 htr h2)
  have RS := hid hr
  have HSR := hid hsr
  have HST := hid hset
  have HI := hid (show isCutB N ch k q (cp, cy, cz) = ((cp.all callB && decide (cp.length ≤ q)) && ((cutF N ch k q cp).2 && decide ((cp, cy, cz) = (cutF N ch k q cp).1))) by
    rw [show decide ((cp, cy, cz) = (cutF N ch k q cp).1) = decide ((cutF N ch k q cp).1 = (cp, cy, cz)) from decide_eq_decide.2 ⟨Eq.symm, Eq.symm⟩]; rfl)
  generalize isCutB N ch k q (cp, cy, cz) = RR at *
  generalize cutF N ch k q cp = R at *
  generalize quotL (leadL (roundsL N) ch) (leadL (roundsL N) ch) = FF at *
  obtain ⟨⟨rp, ry, rz⟩, rb⟩ := R
  dsimp only at HI
  rw [cut_eq] at HI
  obtain ⟨k1, k2⟩ := k
  dsimp only at *
  clear hr hs hb1 hb2 l1 hsr hset htr
  have i0 : (0 : Int) ≤ (cp.length : Int) := Int.natCast_nonneg _
  by_cases hlq : cp.length ≤ q
  · have hlq2 : ¬ (q : Int) < (cp.length : Int) := by omega
    have hdec : decide ((q : Int) < (cp.length : Int)) = false := decide_eq_false hlq2
    have hdec2 : decide (q < cp.length) = false := decide_eq_false (by omega)
    have hlen : cp.length ≤ 1000 := by omega
    rw [decide_eq_true hlq, Bool.and_true] at HI
    have GC := GC hlen
    clear hlq
    cases h0 : cp.all callB
    · rw [h0] at GA HI
      have HR := hid (show RR = false by rw [HI.out]; rfl)
      clear h0 HI GC
      go_enter Try.func31, Try.ntmps31
      go_wp2_with fail
      have B2 : Below w.heap.size w (w.alloc (.cells #[.string (bs cp), .int .i64 cy, .int .i64 cz] 38)) := (Below.refl _ _).alloc (Nat.le_refl _) _
      have Z2 := Blk.new w 38 #[.string (bs cp), .int .i64 cy, .int .i64 cz]
      have hsz : (w.alloc (.cells #[.string (bs cp), .int .i64 cy, .int .i64 cz] 38)).heap.size = w.heap.size + 1 := by simp
      generalize (w.alloc (.cells #[.string (bs cp), .int .i64 cy, .int .i64 cz] 38)) = W2 at *
      have HB2 := hid B2
      have hw2 := B2.size
      have R2 := hid (RS.out.below B2)
      have HCB := hid (fun W' (h : Below W2.heap.size W2 W') => Z2.below h (by omega))
      have HHS := hid (fun W' (h : Below W2.heap.size W2 W') => HSR.out.below (HB2.out.trans (h.mono hw2)))
      have HT2 := hid (fun W' (h : Below W2.heap.size W2 W') => HST.out.below (HB2.out.trans (h.mono hw2)))
      have HS2 := hid (fun W' (h : Below W2.heap.size W2 W') => (show W'.cell? ⟨w.heap.size, 0, none⟩ = some (.string (bs cp)) ∧ W'.cell? ⟨G, 5, none⟩ = some (.int .i64 (q : Int)) from ⟨(HCB.out W' h).cell 0, (HHS.out W' h).2.2.2.2.2.1⟩))
      clear B2 Z2 hsz
      obtain ⟨s0, s1⟩ := HS2.out _ (Below.refl _ _)
      go_region_held3 (fun w' => w'.cell? ⟨w.heap.size, 0, none⟩ = some (.string (bs cp)) ∧ w'.cell? ⟨G, 5, none⟩ = some (.int .i64 (q : Int)))
        (first | exact HS2.out _ (Below.refl _ _) | exact HS2.out _ (Below.refl _ _).drew)
        (first | (go_at_call 53; refine (GA _).out.mono ?_; rintro e w' ⟨rfl, rfl⟩))
      go_wp2
      go_ret
      exact ⟨ret_bool HR.out.symm, HB2.out.drew⟩
    · rw [h0] at GA HI
      have GC := GC h0
      clear h0
      go_enter Try.func31, Try.ntmps31
      go_wp2_with fail
      have B2 : Below w.heap.size w (w.alloc (.cells #[.string (bs cp), .int .i64 cy, .int .i64 cz] 38)) := (Below.refl _ _).alloc (Nat.le_refl _) _
      have Z2 := Blk.new w 38 #[.string (bs cp), .int .i64 cy, .int .i64 cz]
      have hsz : (w.alloc (.cells #[.string (bs cp), .int .i64 cy, .int .i64 cz] 38)).heap.size = w.heap.size + 1 := by simp
      generalize (w.alloc (.cells #[.string (bs cp), .int .i64 cy, .int .i64 cz] 38)) = W2 at *
      have HB2 := hid B2
      have hw2 := B2.size
      have R2 := hid (RS.out.below B2)
      have HCB := hid (fun W' (h : Below W2.heap.size W2 W') => Z2.below h (by omega))
      have HHS := hid (fun W' (h : Below W2.heap.size W2 W') => HSR.out.below (HB2.out.trans (h.mono hw2)))
      have HT2 := hid (fun W' (h : Below W2.heap.size W2 W') => HST.out.below (HB2.out.trans (h.mono hw2)))
      have HS2 := hid (fun W' (h : Below W2.heap.size W2 W') => (show W'.cell? ⟨w.heap.size, 0, none⟩ = some (.string (bs cp)) ∧ W'.cell? ⟨G, 5, none⟩ = some (.int .i64 (q : Int)) from ⟨(HCB.out W' h).cell 0, (HHS.out W' h).2.2.2.2.2.1⟩))
      clear B2 Z2 hsz
      obtain ⟨s0, s1⟩ := HS2.out _ (Below.refl _ _)
      go_region_held3 (fun w' => w'.cell? ⟨w.heap.size, 0, none⟩ = some (.string (bs cp)) ∧ w'.cell? ⟨G, 5, none⟩ = some (.int .i64 (q : Int)))
        (first | exact HS2.out _ (Below.refl _ _) | exact HS2.out _ (Below.refl _ _).drew)
        (first | (go_at_call 53; refine (GA _).out.mono ?_; rintro e w' ⟨rfl, rfl⟩))
      go_wp2_with fail
      have F1 : Below W2.heap.size W2 W2.drew := (Below.refl _ _).drew
      refine (GC _ (R2.out.below F1) (HHS.out _ F1) (HT2.out _ F1)).out.mono ?_
      rintro e w1 ⟨rfl, b1⟩
      have E1 := hid (F1.trans (b1.mono (Nat.le_refl _)))
      clear b1 s0 s1 F1
      have E2 := hid (E1.out.alloc E1.out.size (.cells #[.string (bs rp), .int .i64 ry, .int .i64 rz] 38))
      have X1 := HCB.out _ E1.out
      have X2 := HCB.out _ E2.out
      have c0 := X1.cell 0
      have c1 := X1.cell 1
      have c2 := X1.cell 2
      have c0' := X2.cell 0
      have c1' := X2.cell 1
      have c2' := X2.cell 2
      simp only [List.getElem?_toArray, List.getElem?_cons_zero, List.getElem?_cons_succ] at c0 c1 c2 c0' c1' c2'
      clear X1 X2
      obtain ⟨B0, h0⟩ : ∃ b, (cp == rp) = b := ⟨_, rfl⟩
      obtain ⟨B1, h1⟩ : ∃ b, (cy == ry) = b := ⟨_, rfl⟩
      obtain ⟨B2, h2⟩ : ∃ b, (cz == rz) = b := ⟨_, rfl⟩
      have HR := hid (show RR = (rb && (B0 && (B1 && B2))) by rw [HI.out, h0, h1, h2]; rfl)
      clear HI
      dsimp only
      cases rb
      · go_wp2
        go_ret
        exact ⟨ret_bool (by rw [HR.out]; rfl), HB2.out.trans (E2.out.mono hw2)⟩
      · cases B0 <;> cases B1 <;> cases B2
        all_goals go_wp2
        all_goals go_ret
        all_goals exact ⟨ret_bool (by rw [HR.out]; rfl), HB2.out.trans (E2.out.mono hw2)⟩
  · have hlq2 : (q : Int) < (cp.length : Int) := by omega
    have hdec : decide ((q : Int) < (cp.length : Int)) = true := decide_eq_true hlq2
    have hdec2 : decide (q < cp.length) = true := decide_eq_true (by omega)
    have HR := hid (show RR = false by rw [HI.out, decide_eq_false hlq]; simp)
    clear hlq HI GC
    go_enter Try.func31, Try.ntmps31
    go_wp2_with fail
    have B2 : Below w.heap.size w (w.alloc (.cells #[.string (bs cp), .int .i64 cy, .int .i64 cz] 38)) := (Below.refl _ _).alloc (Nat.le_refl _) _
    have Z2 := Blk.new w 38 #[.string (bs cp), .int .i64 cy, .int .i64 cz]
    have hsz : (w.alloc (.cells #[.string (bs cp), .int .i64 cy, .int .i64 cz] 38)).heap.size = w.heap.size + 1 := by simp
    generalize (w.alloc (.cells #[.string (bs cp), .int .i64 cy, .int .i64 cz] 38)) = W2 at *
    have HB2 := hid B2
    have hw2 := B2.size
    have R2 := hid (RS.out.below B2)
    have HCB := hid (fun W' (h : Below W2.heap.size W2 W') => Z2.below h (by omega))
    have HHS := hid (fun W' (h : Below W2.heap.size W2 W') => HSR.out.below (HB2.out.trans (h.mono hw2)))
    have HT2 := hid (fun W' (h : Below W2.heap.size W2 W') => HST.out.below (HB2.out.trans (h.mono hw2)))
    have HS2 := hid (fun W' (h : Below W2.heap.size W2 W') => (show W'.cell? ⟨w.heap.size, 0, none⟩ = some (.string (bs cp)) ∧ W'.cell? ⟨G, 5, none⟩ = some (.int .i64 (q : Int)) from ⟨(HCB.out W' h).cell 0, (HHS.out W' h).2.2.2.2.2.1⟩))
    clear B2 Z2 hsz
    obtain ⟨s0, s1⟩ := HS2.out _ (Below.refl _ _)
    refine wp_region_held_drew (S := fun w' => w'.cell? ⟨w.heap.size, 0, none⟩ = some (.string (bs cp)) ∧ w'.cell? ⟨G, 5, none⟩ = some (.int .i64 (q : Int))) (by kernel_rfl) (HS2.out _ (Below.refl _ _).drew) (fun hHeld => ?_)
    refine wpAnyH_take (i := 0) (v := ?_) rfl (by kernel_rfl) (by kernel_rfl) (by kernel_rfl) (fun _ _ _ h => h) (Or.inl ⟨by rfl, ?_⟩) (by assumption) ?_
    rotate_left
    · (intro w hSw; (try dsimp only at hSw); go_simp; with_reducible rfl)
    try simp only [Act.put, List.setIfInBounds_toArray, List.set_cons_zero, List.set_cons_succ]
    refine wpAnyH_take (i := 1) (v := ?_) rfl (by kernel_rfl) (by kernel_rfl) (by kernel_rfl) (fun _ _ _ h => h) (Or.inl ⟨by rfl, ?_⟩) (by assumption) ?_
    rotate_left
    · (intro w hSw; (try dsimp only at hSw); go_simp; with_reducible rfl)
    try simp only [Act.put, List.setIfInBounds_toArray, List.set_cons_zero, List.set_cons_succ]
    refine wpAnyH_take (i := 2) (v := ?_) rfl (by kernel_rfl) (by kernel_rfl) (by kernel_rfl) (fun _ _ _ h => h) (Or.inl ⟨by rfl, ?_⟩) (by assumption) ?_
    rotate_left
    · (intro w hSw; (try dsimp only at hSw); go_simp; with_reducible rfl)
    try simp only [Act.put, List.setIfInBounds_toArray, List.set_cons_zero, List.set_cons_succ]
    refine wpAnyH_take (i := 3) (v := ?_) rfl (by kernel_rfl) (by kernel_rfl) (by kernel_rfl) (fun _ _ _ h => h) (Or.inl ⟨by rfl, ?_⟩) (by assumption) ?_
    rotate_left
    · (intro w hSw; (try dsimp only at hSw); go_simp; with_reducible rfl)
    try simp only [Act.put, List.setIfInBounds_toArray, List.set_cons_zero, List.set_cons_succ]
    refine wpAnyH_take (i := 4) (v := ?_) rfl (by kernel_rfl) (by kernel_rfl) (by kernel_rfl) (fun _ _ _ h => h) (Or.inl ⟨by rfl, ?_⟩) (by assumption) ?_
    rotate_left
    · (intro w hSw; (try dsimp only at hSw); go_simp; with_reducible rfl)
    try simp only [Act.put, List.setIfInBounds_toArray, List.set_cons_zero, List.set_cons_succ]
    refine wpAnyH_take (i := 5) (v := ?_) rfl (by kernel_rfl) (by kernel_rfl) (by kernel_rfl) (fun _ _ _ h => h) (Or.inl ⟨by rfl, ?_⟩) (by assumption) ?_
    rotate_left
    · (intro w hSw; (try dsimp only at hSw); go_simp; with_reducible rfl)
    try simp only [Act.put, List.setIfInBounds_toArray, List.set_cons_zero, List.set_cons_succ]
    refine wpAnyH_take (i := 6) (v := ?_) rfl (by kernel_rfl) (by kernel_rfl) (by kernel_rfl) (fun _ _ _ h => h) (Or.inl ⟨by rfl, ?_⟩) (by assumption) ?_
    rotate_left
    · (intro w hSw; (try dsimp only at hSw); go_simp; with_reducible rfl)
    try simp only [Act.put, List.setIfInBounds_toArray, List.set_cons_zero, List.set_cons_succ]
    refine wpAnyH_take (i := 7) (v := ?_) rfl (by kernel_rfl) (by kernel_rfl) (by kernel_rfl) (fun _ _ _ h => h) (Or.inl ⟨by rfl, ?_⟩) (by assumption) ?_
    rotate_left
    · (intro w hSw; (try dsimp only at hSw); go_simp; with_reducible rfl)
    try simp only [Act.put, List.setIfInBounds_toArray, List.set_cons_zero, List.set_cons_succ]
    refine wpAnyH_take (i := 8) (v := ?_) rfl (by kernel_rfl) (by kernel_rfl) (by kernel_rfl) (fun _ _ _ h => h) (Or.inl ⟨by rfl, ?_⟩) (by assumption) ?_
    rotate_left
    · (intro w hSw; (try dsimp only at hSw); go_simp; with_reducible rfl)
    try simp only [Act.put, List.setIfInBounds_toArray, List.set_cons_zero, List.set_cons_succ]
    refine wpAnyH_pass (i := 9) (d := some 16) (by kernel_rfl) (by kernel_rfl) (by kernel_rfl) (by kernel_rfl) (fun _ _ _ _ h => h) (by kernel_rfl) (by assumption) ?_
    try simp only [Act.put, List.setIfInBounds_toArray, List.set_cons_zero, List.set_cons_succ]
    refine wpAnyH_pass (i := 10) (d := some 17) (by kernel_rfl) (by kernel_rfl) (by kernel_rfl) (by kernel_rfl) (fun _ _ _ _ h => h) (by kernel_rfl) (by assumption) ?_
    try simp only [Act.put, List.setIfInBounds_toArray, List.set_cons_zero, List.set_cons_succ]
    refine wpAnyH_pass (i := 11) (d := some 18) (by kernel_rfl) (by kernel_rfl) (by kernel_rfl) (by kernel_rfl) (fun _ _ _ _ h => h) (by kernel_rfl) (by assumption) ?_
    try simp only [Act.put, List.setIfInBounds_toArray, List.set_cons_zero, List.set_cons_succ]
    refine wpAnyH_pass (i := 12) (d := some 19) (by kernel_rfl) (by kernel_rfl) (by kernel_rfl) (by kernel_rfl) (fun _ _ _ _ h => h) (by kernel_rfl) (by assumption) ?_
    try simp only [Act.put, List.setIfInBounds_toArray, List.set_cons_zero, List.set_cons_succ]
    refine wpAnyH_ready (rs := [13]) (by kernel_rfl) (by simp) ?_
    refine AllReadyH.cons rfl (fun K hK => ?_) AllReadyH.nil
    go_simp
    refine hK.out _ _ (by assumption) (fun hHx => ?_)
    clear hHx hK K
    try simp only [Act.put, List.setIfInBounds_toArray, List.set_cons_zero, List.set_cons_succ]
    refine wpAnyH_done (by kernel_rfl) ?_ _
    go_wp2
    go_ret
    exact ⟨ret_bool HR.out.symm, HB2.out.drew⟩
set_option maxHeartbeats 2000000 in
theorem implIsCut_law (m : Meth) (k : List UInt8 × List UInt8) (q : Int) (cc : List UInt8 × Int × Int) (A : Option Addr) (n c : Nat) (w : World) (ok : LawOk m k) (rd : Rd w A n (strV m.ch)) (hcap : n ≤ c) (hcp : cc.1.length ≤ 1048576) :
    Calls Try.prog 13 #[.agg #[.string (bs m.nm), .int .i64 m.st, .slice A n c], .agg #[.string (bs k.1), .string (bs k.2)], .int .i64 q, .agg #[.string (bs cc.1), .int .i64 cc.2.1, .int .i64 cc.2.2]] w fun e w' => e = .returned (.tuple #[.bool (isCutR m k q cc).1, .bool (isCutR m k q cc).2]) ∧ Below w.heap.size w w' := by
  have hn : n ≤ 1048576 := by have h1 := rd.1; have h2 := ok.2.2.1; rw [strV_len] at h1; omega
  have GC0 := fun (w0 : World) (rd : Rd w0 A n (strV m.ch)) => hid (goodSearch_any m k q A n c w0 ok rd)
  have RS := hid rd
  have OK0 : LawOk m ([], []) := ⟨ok.1, ok.2.1, ok.2.2.1, ok.2.2.2.1, by simp, by simp⟩
  clear rd
  obtain ⟨cp, cy, cz⟩ := cc
  dsimp only at hcp ⊢
  cases hg0 : callsB m k && searchB q
  · rw [hg0] at GC0
    have HR := hid (show isCutR m k q (cp, cy, cz) = (false, false) by unfold isCutR; rw [hg0]; rfl)
    obtain ⟨nm, st, ch⟩ := m
    obtain ⟨k1, k2⟩ := k
    dsimp only at *
    clear hg0 ok OK0
    go_enter Try.func13, Try.ntmps13
    go_wp2_with fail
    obtain ⟨B2, hsz, HC⟩ := box_mkC 34 36 38 w nm k1 k2 cp st cy cz (.slice A n c)
    have R2 := hid (RS.out.below B2)
    have HB2 := hid B2
    have hw2 := B2.size
    generalize (((w.alloc (.cells #[.string (bs nm), .int .i64 st, .slice A n c] 34)).alloc (.cells #[.string (bs k1), .string (bs k2)] 36)).alloc (.cells #[.string (bs cp), .int .i64 cy, .int .i64 cz] 38)) = W2 at *
    clear B2 hsz
    have HHS8 := hid (fun W' (h : Below W2.heap.size W2 W') => (show W'.cell? ⟨w.heap.size, 0, none⟩ = some (.string (bs nm)) ∧ W'.cell? ⟨w.heap.size, 1, none⟩ = some (.int .i64 st) ∧ W'.cell? ⟨w.heap.size, 2, none⟩ = some (.slice A n c) ∧ W'.cell? ⟨w.heap.size + 1, 0, none⟩ = some (.string (bs k1)) ∧ W'.cell? ⟨w.heap.size + 1, 1, none⟩ = some (.string (bs k2)) ∧ W'.cell? ⟨w.heap.size + 1 + 1, 0, none⟩ = some (.string (bs cp)) ∧ W'.cell? ⟨w.heap.size + 1 + 1, 1, none⟩ = some (.int .i64 cy) ∧ W'.cell? ⟨w.heap.size + 1 + 1, 2, none⟩ = some (.int .i64 cz) from by
      obtain ⟨⟨a0, a1, a2⟩, ⟨a3, a4⟩, X⟩ := HC.out _ h
      exact ⟨a0, a1, a2, a3, a4, X.cell 0, X.cell 1, X.cell 2⟩))
    clear HC
    obtain ⟨n0, n1, n2, p0, p1, d0, d1, d2⟩ := HHS8.out _ (Below.refl _ _)
    refine (GC0 _ R2.out).out.mono ?_
    rintro e w1 ⟨rfl, b1⟩
    have E1 := hid b1
    clear b1
    clear n0 n1 n2 p0 p1 d0 d1 d2
    obtain ⟨n0, n1, n2, p0, p1, d0, d1, d2⟩ := HHS8.out _ E1.out
    go_wp2
    go_ret2
    rw [HR.out]
    exact ⟨rfl, HB2.out.trans (E1.out.mono hw2)⟩
  · rw [hg0] at GC0
    have HR0 := show isCutR m k q (cp, cy, cz) = (isCutB m.st.toNat m.ch k q.toNat (cp, cy, cz), true) by unfold isCutR; rw [hg0]; rfl
    rw [Bool.and_eq_true] at hg0
    have hb1 := callsB_bob hg0.1
    have hb2 := callsB_single hg0.1
    have hmb := callsB_meth (m := m) (k := k) hg0.1
    obtain ⟨N, hN, lo, hi, l1, l40, hs⟩ := meth_parts hmb
    obtain ⟨j, rfl, hj1, hj6⟩ := searchB_nat hg0.2
    obtain ⟨nm, st, ch⟩ := m
    dsimp only at *
    subst hN
    simp only [Int.toNat_natCast] at HR0
    have HR := hid HR0
    have hcn : ch.length = n := by have h1 := RS.out.1; rw [strV_len] at h1; exact h1
    have GN := fun (w0 : World) (rd : Rd w0 A n (strV ch)) => hid (newSearcher_any N nm ch k j A n c w0 lo hi rd (by omega) hs)
    have GJ := fun (G g z : Nat) (w0 : World) (rd : Rd w0 A n (strV ch)) (h1 : SrchAt w0 G nm N A n c k.1 k.2 j (trueB (leadL (roundsL N) ch)) g) (h2 : IsSet w0 g z (quotL (leadL (roundsL N) ch) (leadL (roundsL N) ch))) => hid (justified_any N nm cp cy cz ch k j A n c G g z (trueB (leadL (roundsL N) ch)) w0 lo hi rd hn l1 hs hb1 hb2 hcp hj6 h1 rfl h2)
    clear hg0 hb1 hb2 hmb lo hi l1 l40 hs ok OK0 HR0
    generalize isCutB N ch k j (cp, cy, cz) = RR at *
    obtain ⟨k1, k2⟩ := k
    dsimp only at *
    go_enter Try.func13, Try.ntmps13
    go_wp2_with fail
    obtain ⟨B2, hsz, HC⟩ := box_mkC 34 36 38 w nm k1 k2 cp (N : Int) cy cz (.slice A n c)
    have R2 := hid (RS.out.below B2)
    have HB2 := hid B2
    have hw2 := B2.size
    generalize (((w.alloc (.cells #[.string (bs nm), .int .i64 (N : Int), .slice A n c] 34)).alloc (.cells #[.string (bs k1), .string (bs k2)] 36)).alloc (.cells #[.string (bs cp), .int .i64 cy, .int .i64 cz] 38)) = W2 at *
    clear B2 hsz
    have HHS8 := hid (fun W' (h : Below W2.heap.size W2 W') => (show W'.cell? ⟨w.heap.size, 0, none⟩ = some (.string (bs nm)) ∧ W'.cell? ⟨w.heap.size, 1, none⟩ = some (.int .i64 (N : Int)) ∧ W'.cell? ⟨w.heap.size, 2, none⟩ = some (.slice A n c) ∧ W'.cell? ⟨w.heap.size + 1, 0, none⟩ = some (.string (bs k1)) ∧ W'.cell? ⟨w.heap.size + 1, 1, none⟩ = some (.string (bs k2)) ∧ W'.cell? ⟨w.heap.size + 1 + 1, 0, none⟩ = some (.string (bs cp)) ∧ W'.cell? ⟨w.heap.size + 1 + 1, 1, none⟩ = some (.int .i64 cy) ∧ W'.cell? ⟨w.heap.size + 1 + 1, 2, none⟩ = some (.int .i64 cz) from by
      obtain ⟨⟨a0, a1, a2⟩, ⟨a3, a4⟩, X⟩ := HC.out _ h
      exact ⟨a0, a1, a2, a3, a4, X.cell 0, X.cell 1, X.cell 2⟩))
    clear HC
    obtain ⟨n0, n1, n2, p0, p1, d0, d1, d2⟩ := HHS8.out _ (Below.refl _ _)
    refine (GC0 _ R2.out).out.mono ?_
    rintro e w1 ⟨rfl, b1⟩
    have E1 := hid b1
    clear b1
    clear n0 n1 n2 p0 p1 d0 d1 d2
    obtain ⟨n0, n1, n2, p0, p1, d0, d1, d2⟩ := HHS8.out _ E1.out
    go_wp2_with fail
    go_region_held3 (fun w' => w'.cell? ⟨w.heap.size, 0, none⟩ = some (.string (bs nm)) ∧ w'.cell? ⟨w.heap.size, 1, none⟩ = some (.int .i64 (N : Int)) ∧ w'.cell? ⟨w.heap.size, 2, none⟩ = some (.slice A n c) ∧ w'.cell? ⟨w.heap.size + 1, 0, none⟩ = some (.string (bs k1)) ∧ w'.cell? ⟨w.heap.size + 1, 1, none⟩ = some (.string (bs k2)) ∧ w'.cell? ⟨w.heap.size + 1 + 1, 0, none⟩ = some (.string (bs cp)) ∧ w'.cell? ⟨w.heap.size + 1 + 1, 1, none⟩ = some (.int .i64 cy) ∧ w'.cell? ⟨w.heap.size + 1 + 1, 2, none⟩ = some (.int .i64 cz))
      (first | exact HHS8.out _ E1.out | exact HHS8.out _ E1.out.drew | exact HHS8.out _ Fa | exact HHS8.out _ Fb)
      (first | (go_at_call 30; refine (GN _ (R2.out.below E1.out.drew)).out.mono ?_; rintro e wa ⟨G, g, z, rfl, hG, hz, _, ba⟩; have Fa := E1.out.drew.trans (ba.mono E1.out.size)) | (go_at_call 31; refine (GJ _ _ _ _ (R2.out.below Fa) (SrchAt.of hG) hz).out.mono ?_; rintro e wb ⟨rfl, bb⟩; have Fb := Fa.trans (bb.mono Fa.size)))
    have E2 := hid Fb
    clear ba bb Fa Fb hG hz n0 n1 n2 p0 p1 d0 d1 d2
    go_wp2
    go_ret2
    rw [HR.out]
    exact ⟨rfl, HB2.out.trans (E2.out.mono hw2)⟩
end Go.Proofs.Ytnkpbahapaocbaa

set_option linter.unusedVariables false
set_option linter.unusedSimpArgs false
set_option maxRecDepth 100000
namespace Go.Proofs.Ytnkpbahapaocbaa
open Go.RowKit

/-- The cells of one cut. -/
def cutC (c : List UInt8 × Int × Int) : List Value := [.string (bs c.1), .int .i64 c.2.1, .int .i64 c.2.2]
/-- The cells of a row of cuts. -/
def cutV : List (List UInt8 × Int × Int) → List Value
  | [] => []
  | c :: l => cutC c ++ cutV l
theorem cutV_len (l : List (List UInt8 × Int × Int)) : (cutV l).length = l.length * 3 := by
  induction l with
  | nil => rfl
  | cons c l ih => simp only [cutV, cutC, List.length_append, List.length_cons, List.length_nil, ih]; omega
theorem cutV_app (a b : List (List UInt8 × Int × Int)) : cutV a ++ cutV b = cutV (a ++ b) := by
  induction a with
  | nil => rfl
  | cons c a ih => simp only [cutV, List.cons_append, List.append_assoc, ih]
theorem cutV_one (l : List (List UInt8 × Int × Int)) : ∀ u ∈ cutV l, u.oneCell' = true := by
  induction l with
  | nil => intro u hu; cases hu
  | cons c l ih =>
    intro u hu
    simp only [cutV, cutC, List.cons_append, List.nil_append, List.mem_cons] at hu
    rcases hu with rfl | rfl | rfl | hu
    · rfl
    · rfl
    · rfl
    · exact ih u hu
theorem cutV_at (l : List (List UInt8 × Int × Int)) (i : Nat) (h : i < l.length) : (cutV l)[i * 3]? = some (.string (bs l[i].1)) ∧ (cutV l)[i * 3 + 1]? = some (.int .i64 l[i].2.1) ∧ (cutV l)[i * 3 + 2]? = some (.int .i64 l[i].2.2) := by
  induction l generalizing i with
  | nil => simp at h
  | cons c l ih =>
    cases i with
    | zero => exact ⟨rfl, rfl, rfl⟩
    | succ i =>
      obtain ⟨h0, h1, h2⟩ := ih i (by simpa using h)
      have e : ∀ r, (cutV (c :: l))[(i + 1) * 3 + r]? = (cutV l)[i * 3 + r]? := fun r => by
        rw [cutV, List.getElem?_append_right (by simp only [cutC, List.length_cons, List.length_nil]; omega)]
        simp only [cutC, List.length_cons, List.length_nil]
        congr 1; omega
      exact ⟨(e 0).trans h0, (e 1).trans h1, (e 2).trans h2⟩
theorem cutV_set (a b : List (List UInt8 × Int × Int)) (x y : List UInt8 × Int × Int) (j : Nat) (hj : a.length = j) : (((cutV (a ++ x :: b)).set (j * 3) (.string (bs y.1))).set (j * 3 + 1) (.int .i64 y.2.1)).set (j * 3 + 2) (.int .i64 y.2.2) = cutV (a ++ y :: b) := by
  have hl : (cutV a).length = j * 3 := by rw [cutV_len, hj]
  rw [← cutV_app, ← cutV_app, List.set_append_right _ _ (by omega), List.set_append_right _ _ (by omega), List.set_append_right _ _ (by omega)]
  rw [hl, Nat.sub_self, show j * 3 + 1 - j * 3 = 1 by omega, show j * 3 + 2 - j * 3 = 2 by omega]
  rfl
/-- A slice of cuts reads so. -/
def RdC (w : World) (A : Option Addr) (n : Nat) (l : List (List UInt8 × Int × Int)) : Prop :=
  l.length = n ∧ ∀ (i : Nat) (h : i < l.length), ∃ b o, A = some ⟨b, o, none⟩ ∧ w.cell? ⟨b, o + i * 3, none⟩ = some (.string (bs l[i].1)) ∧ w.cell? ⟨b, o + i * 3 + 1, none⟩ = some (.int .i64 l[i].2.1) ∧ w.cell? ⟨b, o + i * 3 + 2, none⟩ = some (.int .i64 l[i].2.2)
theorem RdC.keep {w w' : World} {A : Option Addr} {n : Nat} {l : List (List UInt8 × Int × Int)} (h : RdC w A n l) (hk : ∀ b o u, w.cell? ⟨b, o, none⟩ = some u → w'.cell? ⟨b, o, none⟩ = some u) : RdC w' A n l :=
  ⟨h.1, fun i hi => by
    obtain ⟨b, o, e, c0, c1, c2⟩ := h.2 i hi
    exact ⟨b, o, e, hk _ _ _ c0, hk _ _ _ c1, hk _ _ _ c2⟩⟩
theorem RdC.below {w w' : World} {A : Option Addr} {n : Nat} {l : List (List UInt8 × Int × Int)} (h : RdC w A n l) (hb : Below w.heap.size w w') : RdC w' A n l :=
  h.keep fun b o u hc => (hb.cell (World.block_lt_of_cell? w _ hc)).trans hc
theorem RdC.alloc {w : World} {A : Option Addr} {n : Nat} {l : List (List UInt8 × Int × Int)} (h : RdC w A n l) (o : Obj) : RdC (w.alloc o) A n l := h.below ((Below.refl _ _).alloc (Nat.le_refl _) _)
theorem own_shapeC {w : World} {base : Nat} {v : Value} {n : Nat} {l : List (List UInt8 × Int × Int)} (h : w.ownsRow base 38 3 v n (cutV l)) : ∃ A c, v = .slice A n c ∧ n ≤ c ∧ c ≤ maxLen ∧ RdC w A n l ∧ ∀ b o s, A = some ⟨b, o, s⟩ → base ≤ b ∧ b < w.heap.size := by
  have hx : l.length = n := by have := h.1; rw [cutV_len] at this; omega
  rcases h.2 with ⟨rfl, rfl⟩ | ⟨g, cap, cur, rfl, hb, hg, hc, hm, _⟩
  · exact ⟨none, 0, rfl, Nat.le_refl _, by unfold maxLen; omega, ⟨hx, fun i hi => by omega⟩, by simp⟩
  · refine ⟨some ⟨g, 0, none⟩, cap, rfl, hc, hm, ⟨hx, fun i hi => ⟨g, 0, rfl, ?_⟩⟩, ?_⟩
    · obtain ⟨c0, c1, c2⟩ := cutV_at l i hi
      have h0 := (h.cellAt (i * 3) (by omega)).trans c0
      have h1 := (h.cellAt (i * 3 + 1) (by omega)).trans c1
      have h2 := (h.cellAt (i * 3 + 2) (by omega)).trans c2
      simp only [Nat.zero_add]
      exact ⟨h0, h1, h2⟩
    · intro b o s e
      injection e with e
      injection e with e1 _ _
      exact ⟨by omega, by rw [← e1]; exact (Array.getElem?_eq_some_iff.1 hg).1⟩
theorem infoCut : (Try.prog.info? 38).map (fun i => (i.zero, i.size, i.bytes)) = some (some (.agg #[.string ByteArray.empty, .int .i64 0, .int .i64 0]), 3, 32) := by kernel_rfl
/-- append of one cut onto an owned row, at a step of a region that draws. -/
theorem step_app_cut {ops : Array Oper} {o : Oper} {a : Act} {w : World} {K : Act → World → Prop} {Q : Exit → Act → World → Prop} {E : Prop} (hgd : o.guard = none) (s x : Operand)
    (ho : o.op = .call { callee := .builtin .append, args := #[s, x], argTypes := #[42, 42] })
    (base : Nat) (v : Value) (n : Nat) (xs : List (List UInt8 × Int × Int)) (hs : a.eval s = v) (hown : w.ownsRow base 38 3 v n (cutV xs))
    (B : Nat) (c : Nat) (z : List UInt8 × Int × Int) (hx : a.eval x = .slice (some ⟨B, 0, none⟩) 1 c) (hB : w.heap[B]? = some (.cells (cutC z).toArray 38 (0, 0))) (hsz : n ≤ 100000000000) (hbase : base ≤ w.heap.size) (H : Nat) (hH : w.heap.size = H)
    (h : ∀ g cap w', w'.ownsRow base 38 3 (.slice (some ⟨g, 0, none⟩) (n + 1) cap) (n + 1) (cutV (xs ++ [z])) → w.grownBy w' v.ownBlock → (v.ownBlock = some g ∨ g = H) → g < w'.heap.size → K (a.put o.dst (.slice (some ⟨g, 0, none⟩) (n + 1) cap)) w') :
    if Region.wanted o (yielded ops a.tmps) = true then Oper.wp Try.prog o a w K Q else E := by
  obtain ⟨i0, hi, hz0, hz1, hz2⟩ := info_parts infoCut
  refine step_append_lies w hgd s x 42 ho base 38 i0 _ 3 32 Try.underlying42 hi hz0 hz1 hz2 rfl (by omega) v n (cutV xs) hs hown ⟨B, 0, none⟩ 1 c (cutC z) hx rfl ?_ ?_ (by omega) (by unfold maxLen; omega) (by omega) hbase H hH ?_
  · intro j u hu
    have := World.news_of_block hB j u
    simpa using this hu
  · have := cutV_one [z]
    simpa [cutV] using this
  · intro g cap w' h1 h2 h3 h4
    refine h g cap w' ?_ h2 h3 h4
    rw [← cutV_app]
    simpa [cutV] using h1
end Go.Proofs.Ytnkpbahapaocbaa

set_option linter.unusedVariables false
set_option linter.unusedSimpArgs false
set_option maxRecDepth 100000
namespace Go.Proofs.Ytnkpbahapaocbaa
open Go.RowKit

/-- What a search has found: what is left of its budget, the touches, the cuts, whether nothing was left out. -/
structure Fnd where
  left : Nat
  ts : List (List UInt8)
  cs : List (List UInt8 × Int × Int)
  ok : Bool
/-- A prefix and its extensions are examined; d: one more than the leads that are missing. -/
def exam (C : List UInt8 → (List UInt8 × Int × Int) × Bool) : Nat → List UInt8 → Fnd → Fnd
  | 0, _, F => F
  | d + 1, p, F =>
    if F.left = 0 then ⟨0, F.ts, F.cs, false⟩
    else if (C p).2 = true then ⟨F.left - 1, F.ts, F.cs ++ [(C p).1], F.ok⟩
    else if d = 0 then ⟨F.left - 1, F.ts ++ [p], F.cs, F.ok⟩
    else exam C d (p ++ [115]) (exam C d (p ++ [112]) (exam C d (p ++ [98]) ⟨F.left - 1, F.ts, F.cs, F.ok⟩))
/-- The same with a stack; n: the leads; the first number: what is left of the budget. -/
def srun (C : List UInt8 → (List UInt8 × Int × Int) × Bool) (n : Nat) : Nat → List (List UInt8) → List (List UInt8) → List (List UInt8 × Int × Int) → List (List UInt8) × List (List UInt8 × Int × Int) × Bool
  | 0, S, ts, cs => (ts, cs, S.isEmpty)
  | L + 1, [], ts, cs => (ts, cs, true)
  | L + 1, p :: S, ts, cs =>
    if (C p).2 = true then srun C n L S ts (cs ++ [(C p).1])
    else if p.length = n then srun C n L S (ts ++ [p]) cs
    else srun C n L ((p ++ [98]) :: (p ++ [112]) :: (p ++ [115]) :: S) ts cs
theorem exam_out (C : List UInt8 → (List UInt8 × Int × Int) × Bool) (d : Nat) (p : List UInt8) (F : Fnd) (h : F.left = 0) (hd : 1 ≤ d) : exam C d p F = ⟨0, F.ts, F.cs, false⟩ := by
  obtain ⟨d, rfl⟩ : ∃ k, d = k + 1 := ⟨d - 1, by omega⟩
  rw [exam, if_pos h]
theorem exam_all_out (C : List UInt8 → (List UInt8 × Int × Int) × Bool) (n : Nat) (S ts : List (List UInt8)) (cs : List (List UInt8 × Int × Int)) : S.foldl (fun F p => exam C (n - p.length + 1) p F) ⟨0, ts, cs, false⟩ = ⟨0, ts, cs, false⟩ := by
  induction S with
  | nil => rfl
  | cons p S ih => rw [List.foldl_cons, exam_out C _ _ _ rfl (by omega), ih]
theorem srun_exam (C : List UInt8 → (List UInt8 × Int × Int) × Bool) (n L : Nat) (S ts : List (List UInt8)) (cs : List (List UInt8 × Int × Int)) (hS : ∀ p ∈ S, p.length ≤ n) :
    ∃ l, S.foldl (fun F p => exam C (n - p.length + 1) p F) ⟨L, ts, cs, true⟩ = ⟨l, (srun C n L S ts cs).1, (srun C n L S ts cs).2.1, (srun C n L S ts cs).2.2⟩ := by
  induction L generalizing S ts cs with
  | zero =>
    cases S with
    | nil => exact ⟨0, rfl⟩
    | cons p S =>
      rw [List.foldl_cons, exam_out C _ _ _ rfl (by omega), exam_all_out]
      exact ⟨0, rfl⟩
  | succ L ih =>
    cases S with
    | nil => exact ⟨L + 1, rfl⟩
    | cons p S =>
      have hp := hS p (by simp)
      have hS' : ∀ q ∈ S, q.length ≤ n := fun q hq => hS q (by simp [hq])
      rw [List.foldl_cons, exam, if_neg (by simp), srun]
      by_cases h1 : (C p).2 = true
      · rw [if_pos h1, if_pos h1]
        exact ih S ts _ hS'
      · rw [if_neg h1, if_neg h1]
        by_cases h2 : p.length = n
        · rw [if_pos (show n - p.length = 0 by omega), if_pos h2]
          exact ih S _ cs hS'
        · rw [if_neg (show ¬ n - p.length = 0 by omega), if_neg h2]
          have h3 := ih ((p ++ [98]) :: (p ++ [112]) :: (p ++ [115]) :: S) ts cs (fun q hq => by
            simp only [List.mem_cons] at hq
            rcases hq with rfl | rfl | rfl | hq
            · simp; omega
            · simp; omega
            · simp; omega
            · exact hS' q hq)
          rw [List.foldl_cons, List.foldl_cons, List.foldl_cons] at h3
          simp only [List.length_append, List.length_cons, List.length_nil] at h3
          rw [show n - (p.length + (0 + 1)) + 1 = n - p.length by omega] at h3
          exact h3
/-- The program's search finds what the reference's finds. -/
theorem srun_one (C : List UInt8 → (List UInt8 × Int × Int) × Bool) (n L : Nat) : ∃ l, exam C (n + 1) [] ⟨L, [], [], true⟩ = ⟨l, (srun C n L [[]] [] []).1, (srun C n L [[]] [] []).2.1, (srun C n L [[]] [] []).2.2⟩ := by
  have := srun_exam C n L [[]] [] [] (by simp)
  simpa using this
theorem exam_room (C : List UInt8 → (List UInt8 × Int × Int) × Bool) (d : Nat) (p : List UInt8) (F : Fnd) : (exam C d p F).ts.length + (exam C d p F).cs.length + (exam C d p F).left ≤ F.ts.length + F.cs.length + F.left := by
  induction d generalizing p F with
  | zero => exact Nat.le_refl _
  | succ d ih =>
    rw [exam]
    split
    · simp; try omega
    · split
      · simp; omega
      · split
        · simp; omega
        · refine Nat.le_trans (ih _ _) (Nat.le_trans (ih _ _) (Nat.le_trans (ih _ _) ?_))
          simp; try omega
theorem srun_room (C : List UInt8 → (List UInt8 × Int × Int) × Bool) (n L : Nat) (S ts : List (List UInt8)) (cs : List (List UInt8 × Int × Int)) : (srun C n L S ts cs).1.length + (srun C n L S ts cs).2.1.length ≤ ts.length + cs.length + L := by
  induction L generalizing S ts cs with
  | zero => simp [srun]
  | succ L ih =>
    cases S with
    | nil => simp [srun]; try omega
    | cons p S =>
      rw [srun]
      split
      · refine Nat.le_trans (ih _ _ _) ?_; simp; omega
      · split
        · refine Nat.le_trans (ih _ _ _) ?_; simp; omega
        · refine Nat.le_trans (ih _ _ _) ?_; omega
end Go.Proofs.Ytnkpbahapaocbaa

set_option linter.unusedVariables false
set_option linter.unusedSimpArgs false
set_option maxRecDepth 100000
namespace Go.Proofs.Ytnkpbahapaocbaa
open Go.RowKit

theorem l1OwnSx_any (A : Option Addr) (n c : Nat) (l : List (List UInt8)) (w : World) (hr : Rd w A n (strV l)) (hn : n ≤ 100000000) :
    Calls Try.prog 34 #[.slice A n c] w (OneS w l) := by
  have hl := hid (show l.length = n by have := hr.1; rw [strV_len] at this; exact this)
  go_enter Try.func34, Try.ntmps34
  go_wp2_with (at_builtin; refine app_str _ (by rfl) _ _ (by rfl) w.heap.size _ 0 [] (by rfl) (own_of_blk (Blk.new w 9 #[]) (Nat.le_refl _) (by simp [maxLen])) A n c l (by rfl) (hr.alloc _) (by omega) (by simp) ?_; intro v5 w5 o5 g5)
  go_ret
  rw [Nat.zero_add, ← hl.out, List.nil_append] at o5
  exact ⟨_, rfl, o5, ((Below.refl _ _).alloc (Nat.le_refl _) _).grown g5 (by simp) fun q hq => by simp [Value.ownBlock] at hq; omega⟩
/-- What CalledLead answers. -/
def calledR (m : Meth) (k : List UInt8 × List UInt8) (call : List UInt8) : Meth × Bool := if (callsB m k && isCallL call) = true then (⟨m.nm, m.st, calledL m.ch k call⟩, true) else (⟨[], 0, []⟩, false)
theorem calledR_no {m : Meth} {k : List UInt8 × List UInt8} {call : List UInt8} (h : (callsB m k && isCallL call) = false) : calledR m k call = (⟨[], 0, []⟩, false) := by unfold calledR; rw [h]; rfl
/-- A method and a bool come back; the method's changes are the call's own. -/
def ResM (w : World) (R : Meth × Bool) (e : Ending) (w' : World) : Prop := ∃ v2, e = .returned (.tuple #[.agg #[.string (bs R.1.nm), .int .i64 R.1.st, v2], .bool R.2]) ∧ w'.ownsRow w.heap.size 9 1 v2 R.1.ch.length (strV R.1.ch) ∧ Below w.heap.size w w'
theorem ResM.none (w w' : World) (h : Below w.heap.size w w') : ResM w (⟨[], 0, []⟩, false) (.returned (.tuple #[.agg #[.string (bs []), .int .i64 0, .slice none 0 0], .bool false])) w' := ⟨_, rfl, World.ownsRow_nil _ _ _ _, h⟩
theorem set3_below {w w1 : World} {b g : Nat} (h : Below b w w1) (hg : b ≤ g) (x y z : Value) : Below b w (((w1.setCell ⟨g, 0, none⟩ x).setCell ⟨g, 1, none⟩ y).setCell ⟨g, 2, none⟩ z) :=
  ((h.setCell (p := ⟨g, 0, none⟩) hg _).setCell (p := ⟨g, 1, none⟩) hg _).setCell (p := ⟨g, 2, none⟩) hg _
theorem set3_own {w1 : World} {b g n : Nat} {v : Value} {xs : List Value} (h : w1.ownsRow b 9 1 v n xs) (hg : g < b) (x y z : Value) : (((w1.setCell ⟨g, 0, none⟩ x).setCell ⟨g, 1, none⟩ y).setCell ⟨g, 2, none⟩ z).ownsRow b 9 1 v n xs :=
  own_set (own_set (own_set h hg) hg) hg
theorem box3_set_ne {X : World} {g : Nat} {a b c : Value} {p : Addr} {u : Value} (h : Box3 X g a b c) (hne : g ≠ p.block) : Box3 (X.setCell p u) g a b c := by
  refine ⟨?_, ?_, ?_⟩ <;> rw [World.cell?_setCell_other _ _ _ _ (by intro e; rw [e] at hne; exact hne rfl)]
  · exact h.1
  · exact h.2.1
  · exact h.2.2
/-- The boxes of a method, of its calls, and of the method that comes back. -/
theorem box_mkR (w : World) (nm k1 k2 : List UInt8) (st : Int) (v : Value) :
    Below w.heap.size w (((w.alloc (.cells #[.string (bs nm), .int .i64 st, v] 34)).alloc (.cells #[.string (bs k1), .string (bs k2)] 36)).alloc (.cells #[.string (bs []), .int .i64 0, .slice none 0 0] 34)) ∧
    (((w.alloc (.cells #[.string (bs nm), .int .i64 st, v] 34)).alloc (.cells #[.string (bs k1), .string (bs k2)] 36)).alloc (.cells #[.string (bs []), .int .i64 0, .slice none 0 0] 34)).heap.size = w.heap.size + 1 + 1 + 1 ∧
    Hid (∀ W', Below (((w.alloc (.cells #[.string (bs nm), .int .i64 st, v] 34)).alloc (.cells #[.string (bs k1), .string (bs k2)] 36)).alloc (.cells #[.string (bs []), .int .i64 0, .slice none 0 0] 34)).heap.size (((w.alloc (.cells #[.string (bs nm), .int .i64 st, v] 34)).alloc (.cells #[.string (bs k1), .string (bs k2)] 36)).alloc (.cells #[.string (bs []), .int .i64 0, .slice none 0 0] 34)) W' →
      (Box3 W' w.heap.size (.string (bs nm)) (.int .i64 st) v ∧ W'.cell? ⟨w.heap.size + 1, 0, none⟩ = some (.string (bs k1)) ∧ W'.cell? ⟨w.heap.size + 1, 1, none⟩ = some (.string (bs k2))) ∧ Blk W' (w.heap.size + 1 + 1) 34 #[.string (bs []), .int .i64 0, .slice none 0 0]) := by
  have M1 := Blk.new w 34 #[.string (bs nm), .int .i64 st, v]
  have M2 := M1.alloc (.cells #[.string (bs k1), .string (bs k2)] 36)
  have M3 := M2.alloc (.cells #[.string (bs []), .int .i64 0, .slice none 0 0] 34)
  have K2 := Blk.new (w.alloc (.cells #[.string (bs nm), .int .i64 st, v] 34)) 36 #[.string (bs k1), .string (bs k2)]
  have K3 := K2.alloc (.cells #[.string (bs []), .int .i64 0, .slice none 0 0] 34)
  have R4 := Blk.new ((w.alloc (.cells #[.string (bs nm), .int .i64 st, v] 34)).alloc (.cells #[.string (bs k1), .string (bs k2)] 36)) 34 #[.string (bs []), .int .i64 0, .slice none 0 0]
  have B3 : Below w.heap.size w (((w.alloc (.cells #[.string (bs nm), .int .i64 st, v] 34)).alloc (.cells #[.string (bs k1), .string (bs k2)] 36)).alloc (.cells #[.string (bs []), .int .i64 0, .slice none 0 0] 34)) := (((Below.refl _ _).alloc (Nat.le_refl _) _).alloc (by simp) _).alloc (by simp; omega) _
  have hsz : (((w.alloc (.cells #[.string (bs nm), .int .i64 st, v] 34)).alloc (.cells #[.string (bs k1), .string (bs k2)] 36)).alloc (.cells #[.string (bs []), .int .i64 0, .slice none 0 0] 34)).heap.size = w.heap.size + 1 + 1 + 1 := by simp
  refine ⟨B3, hsz, ?_⟩
  simp only [alloc_size] at K3 R4
  generalize (((w.alloc (.cells #[.string (bs nm), .int .i64 st, v] 34)).alloc (.cells #[.string (bs k1), .string (bs k2)] 36)).alloc (.cells #[.string (bs []), .int .i64 0, .slice none 0 0] 34)) = W3 at *
  refine hid fun W' h => ?_
  have K := K3.below h (by omega)
  exact ⟨⟨Box3.of (M3.below h (by omega)), K.cell 0, K.cell 1⟩, R4.below h (by omega)⟩
-- GENERATED BELOW
end Go.Proofs.Ytnkpbahapaocbaa

set_option linter.unusedVariables false
set_option linter.unusedSimpArgs false
set_option maxRecDepth 100000
namespace Go.Proofs.Ytnkpbahapaocbaa
open Go.RowKit

/-- Which budgets are allowed. -/
def budB (b : Int) : Bool := decide (1 ≤ b) && decide (b ≤ 5000)
theorem budB_nat {b : Int} (h : budB b = true) : ∃ j : Nat, b = j ∧ 1 ≤ j ∧ j ≤ 5000 := by
  simp only [budB, Bool.and_eq_true, decide_eq_true_eq] at h
  exact ⟨b.toNat, by omega, by omega, by omega⟩
/-- What SearchTouches answers. -/
def foundR (m : Meth) (k : List UInt8 × List UInt8) (q b : Int) : (List (List UInt8) × List (List UInt8 × Int × Int) × Bool) × Bool :=
  if ((callsB m k && searchB q) && budB b) = true then (srun (cutF m.st.toNat m.ch k q.toNat) q.toNat b.toNat [[]] [] [], true) else (([], [], false), false)
/-- What was found comes back, in rows that the call owns. -/
def ResF (w : World) (R : (List (List UInt8) × List (List UInt8 × Int × Int) × Bool) × Bool) (e : Ending) (w' : World) : Prop :=
  ∃ v1 v2, e = .returned (.tuple #[.agg #[v1, v2, .bool R.1.2.2], .bool R.2]) ∧ w'.ownsRow w.heap.size 9 1 v1 R.1.1.length (strV R.1.1) ∧ w'.ownsRow w.heap.size 38 3 v2 R.1.2.1.length (cutV R.1.2.1) ∧ (∀ b, v1.ownBlock = some b → v2.ownBlock = some b → False) ∧ Below w.heap.size w w'
theorem ResF.none (w w' : World) (h : Below w.heap.size w w') : ResF w (([], [], false), false) (.returned (.tuple #[.agg #[.slice none 0 0, .slice none 0 0, .bool false], .bool false])) w' :=
  ⟨_, _, rfl, World.ownsRow_nil _ _ _ _, World.ownsRow_nil _ _ _ _, fun b h => by simp [Value.ownBlock] at h, h⟩
/-- The boxes of a method, of its calls, and of one more. -/
theorem box_mkX (T1 T2 T3 : TypeId) (w : World) (nm k1 k2 : List UInt8) (st : Int) (v : Value) (X : Array Value) :
    Below w.heap.size w (((w.alloc (.cells #[.string (bs nm), .int .i64 st, v] T1)).alloc (.cells #[.string (bs k1), .string (bs k2)] T2)).alloc (.cells X T3)) ∧
    (((w.alloc (.cells #[.string (bs nm), .int .i64 st, v] T1)).alloc (.cells #[.string (bs k1), .string (bs k2)] T2)).alloc (.cells X T3)).heap.size = w.heap.size + 1 + 1 + 1 ∧
    Hid (∀ W', Below (((w.alloc (.cells #[.string (bs nm), .int .i64 st, v] T1)).alloc (.cells #[.string (bs k1), .string (bs k2)] T2)).alloc (.cells X T3)).heap.size (((w.alloc (.cells #[.string (bs nm), .int .i64 st, v] T1)).alloc (.cells #[.string (bs k1), .string (bs k2)] T2)).alloc (.cells X T3)) W' →
      (Blk W' w.heap.size T1 #[.string (bs nm), .int .i64 st, v] ∧ Blk W' (w.heap.size + 1) T2 #[.string (bs k1), .string (bs k2)]) ∧ Blk W' (w.heap.size + 1 + 1) T3 X) := by
  have M1 := Blk.new w T1 #[.string (bs nm), .int .i64 st, v]
  have M3 := (M1.alloc (.cells #[.string (bs k1), .string (bs k2)] T2)).alloc (.cells X T3)
  have K3 := (Blk.new (w.alloc (.cells #[.string (bs nm), .int .i64 st, v] T1)) T2 #[.string (bs k1), .string (bs k2)]).alloc (.cells X T3)
  have R4 := Blk.new ((w.alloc (.cells #[.string (bs nm), .int .i64 st, v] T1)).alloc (.cells #[.string (bs k1), .string (bs k2)] T2)) T3 X
  have B3 : Below w.heap.size w (((w.alloc (.cells #[.string (bs nm), .int .i64 st, v] T1)).alloc (.cells #[.string (bs k1), .string (bs k2)] T2)).alloc (.cells X T3)) := (((Below.refl _ _).alloc (Nat.le_refl _) _).alloc (by simp) _).alloc (by simp; omega) _
  have hsz : (((w.alloc (.cells #[.string (bs nm), .int .i64 st, v] T1)).alloc (.cells #[.string (bs k1), .string (bs k2)] T2)).alloc (.cells X T3)).heap.size = w.heap.size + 1 + 1 + 1 := by simp
  refine ⟨B3, hsz, ?_⟩
  simp only [alloc_size] at K3 R4
  generalize (((w.alloc (.cells #[.string (bs nm), .int .i64 st, v] T1)).alloc (.cells #[.string (bs k1), .string (bs k2)] T2)).alloc (.cells X T3)) = W3 at *
  exact hid fun W' h => ⟨⟨M3.below h (by omega), K3.below h (by omega)⟩, R4.below h (by omega)⟩
/-- append of one cut onto an owned row, in a plain region. -/
theorem app_cut {ops : Array Oper} {rest : List Oper} {o : Oper} {a : Act} {Q : Exit → Act → World → Prop} (w : World) (hgd : o.guard = none) (s x : Operand)
    (ho : o.op = .call { callee := .builtin .append, args := #[s, x], argTypes := #[42, 42] })
    (base : Nat) (v : Value) (n : Nat) (xs : List (List UInt8 × Int × Int)) (hs : a.eval s = v) (hown : w.ownsRow base 38 3 v n (cutV xs))
    (B : Nat) (c : Nat) (z : List UInt8 × Int × Int) (hx : a.eval x = .slice (some ⟨B, 0, none⟩) 1 c) (hB : w.heap[B]? = some (.cells (cutC z).toArray 38 (0, 0))) (hsz : n ≤ 100000000000) (hbase : base ≤ w.heap.size) (H : Nat) (hH : w.heap.size = H)
    (h : ∀ g cap w', w'.ownsRow base 38 3 (.slice (some ⟨g, 0, none⟩) (n + 1) cap) (n + 1) (cutV (xs ++ [z])) → w.grownBy w' v.ownBlock → (v.ownBlock = some g ∨ g = H) → g < w'.heap.size → wpList Try.prog ops Q rest (a.put o.dst (.slice (some ⟨g, 0, none⟩) (n + 1) cap)) w') : wpList Try.prog ops Q (o :: rest) a w := by
  obtain ⟨i0, hi, hz0, hz1, hz2⟩ := info_parts infoCut
  refine wpList_append_lies w hgd s x 42 ho base 38 i0 _ 3 32 Try.underlying42 hi hz0 hz1 hz2 rfl (by omega) v n (cutV xs) hs hown ⟨B, 0, none⟩ 1 c (cutC z) hx rfl ?_ ?_ (by omega) (by unfold maxLen; omega) (by omega) hbase H hH ?_
  · intro j u hu
    have := World.news_of_block hB j u
    simpa using this hu
  · have := cutV_one [z]
    simpa [cutV] using this
  · intro g cap w' h1 h2 h3 h4
    refine h g cap w' ?_ h2 h3 h4
    rw [← cutV_app]
    simpa [cutV] using h1
/-- The reference's state: what was found, and the stack. -/
def SpJ (W0 : World) (G : Nat) (S ts : List (List UInt8)) (cs : List (List UInt8 × Int × Int)) (v1 v2 vS : Value) (w : World) : Prop :=
  Blk w G 44 #[v1, v2, .bool false] ∧ w.ownsRow W0.heap.size 9 1 v1 ts.length (strV ts) ∧ w.ownsRow W0.heap.size 38 3 v2 cs.length (cutV cs) ∧ w.ownsRow W0.heap.size 9 1 vS S.length (strV S.reverse) ∧ (∀ b, v1.ownBlock = some b → v2.ownBlock = some b → False) ∧ (∀ b, vS.ownBlock = some b → v1.ownBlock = some b → False) ∧ (∀ b, vS.ownBlock = some b → v2.ownBlock = some b → False) ∧ W0.grownBy w (some G)
def SpI (W0 : World) (G : Nat) (S ts : List (List UInt8)) (cs : List (List UInt8 × Int × Int)) (vS : Value) (w : World) : Prop := ∃ v1 v2, SpJ W0 G S ts cs v1 v2 vS w
/-- A cell of another block than the one at work. -/
theorem gcell {W0 w : World} {G : Nat} (hg : W0.grownBy w (some G)) {p : Addr} {v : Value} (h : W0.cell? p = some v) (hne : p.block ≠ G) : w.cell? p = some v := hg.cell h (by intro e; injection e with e; exact hne e)
theorem gthen {w w' w2 : World} {r : Option Nat} (h : w.grownBy w' r) (b : Below w'.heap.size w' w2) : w.grownBy w2 r :=
  ⟨b.os.trans h.os, b.tape.trans h.tape, b.output.trans h.output, Nat.le_trans h.size b.size, fun k hk hne => (b.block k (Nat.lt_of_lt_of_le hk h.size)).trans (h.block k hk hne)⟩
theorem gset {w w' : World} {G o : Nat} {v : Value} (h : w.grownBy w' (some G)) : w.grownBy (w'.setCell ⟨G, o, none⟩ v) (some G) :=
  ⟨h.os, h.tape, h.output, by simpa [World.setCell] using h.size, fun k hk hne => (Below.heap_setCell w' ⟨G, o, none⟩ v k (by intro e; exact hne (by rw [e]))).trans (h.block k hk hne)⟩
theorem gown {w w1 w' : World} {G : Nat} {r : Option Nat} (h : w.grownBy w1 (some G)) (h2 : w1.grownBy w' r) (hr : ∀ k, r = some k → w.heap.size ≤ k) : w.grownBy w' (some G) :=
  ⟨h2.os.trans h.os, h2.tape.trans h.tape, h2.output.trans h.output, Nat.le_trans h.size h2.size, fun k hk hne => (h2.block k (Nat.lt_of_lt_of_le hk h.size) (fun e => by have := hr k e.symm; omega)).trans (h.block k hk hne)⟩
theorem ne_new {v v' : Value} {n w0 : Nat} (hv : ∀ b, v.ownBlock = some b → b < n) {u : Value} (hu : u.ownBlock = v'.ownBlock ∨ u.ownBlock = some n) (h : ∀ b, v'.ownBlock = some b → v.ownBlock = some b → False) : ∀ b, u.ownBlock = some b → v.ownBlock = some b → False := by
  intro b e1 e2
  rcases hu with hu | hu
  · exact h b (hu.symm.trans e1) e2
  · have := hv b e2; rw [hu] at e1; injection e1 with e1; omega
section
variable {W0 w w' : World} {G : Nat} {S ts : List (List UInt8)} {cs : List (List UInt8 × Int × Int)} {v1 v2 vS : Value}
theorem SpJ.below (h : SpJ W0 G S ts cs v1 v2 vS w) (hb : Below w.heap.size w w') : SpJ W0 G S ts cs v1 v2 vS w' := by
  obtain ⟨h1, h2, h3, h4, h5, h6, h7, h8⟩ := h
  exact ⟨h1.below hb h1.lt, own_below h2 hb, own_below h3 hb, own_below h4 hb, h5, h6, h7, gthen h8 hb⟩
/-- The stack has a new value. -/
theorem SpJ.pop {p : List UInt8} {v5 : Value} (h : SpJ W0 G (p :: S) ts cs v1 v2 vS w) (hb : Below w.heap.size w w') (ho : w'.ownsRow w.heap.size 9 1 v5 S.length (strV S.reverse)) : SpJ W0 G S ts cs v1 v2 v5 w' := by
  obtain ⟨h1, h2, h3, h4, h5, h6, h7, h8⟩ := h
  refine ⟨h1.below hb h1.lt, own_below h2 hb, own_below h3 hb, own_mono ho h8.size, h5, ?_, ?_, gthen h8 hb⟩
  · intro b e1 e2; have := (ho.lt b e1).1; have := (h2.lt b e2).2; omega
  · intro b e1 e2; have := (ho.lt b e1).1; have := (h3.lt b e2).2; omega
theorem SpJ.push {v5 : Value} {p q r : List UInt8} (h : SpJ W0 G S ts cs v1 v2 vS w) (ho : w'.ownsRow W0.heap.size 9 1 v5 (S.length + 3) (strV (S.reverse ++ [r, q, p]))) (gr : w.grownBy w' vS.ownBlock) (hv : v5.ownBlock = vS.ownBlock ∨ v5.ownBlock = some w.heap.size) (hG : G < W0.heap.size) : SpJ W0 G (p :: q :: r :: S) ts cs v1 v2 v5 w' := by
  obtain ⟨h1, h2, h3, h4, h5, h6, h7, h8⟩ := h
  refine ⟨?_, own_other h2 gr fun b e1 e2 => h6 b e2 e1, own_other h3 gr fun b e1 e2 => h7 b e2 e1, ?_, h5, ne_new (w0 := 0) (fun b e => (h2.lt b e).2) hv h6, ne_new (w0 := 0) (fun b e => (h3.lt b e).2) hv h7, gown h8 gr fun b e => (h4.lt b e).1⟩
  · exact (gr.block G h1.lt (fun e => by have := (h4.lt G e.symm).1; omega)).trans h1
  · simpa using ho
theorem SpJ.cut {z : List UInt8 × Int × Int} {g cap : Nat} (h : SpJ W0 G S ts cs v1 v2 vS w) (ho : w'.ownsRow W0.heap.size 38 3 (.slice (some ⟨g, 0, none⟩) (cs.length + 1) cap) (cs.length + 1) (cutV (cs ++ [z]))) (gr : w.grownBy w' v2.ownBlock) (hv : v2.ownBlock = some g ∨ g = w.heap.size) (hG : G < W0.heap.size) : SpI W0 G S ts (cs ++ [z]) vS (w'.setCell ⟨G, 1, none⟩ (.slice (some ⟨g, 0, none⟩) (cs.length + 1) cap)) := by
  obtain ⟨h1, h2, h3, h4, h5, h6, h7, h8⟩ := h
  have hv' : (Value.slice (some ⟨g, 0, none⟩) (cs.length + 1) cap).ownBlock = v2.ownBlock ∨ (Value.slice (some ⟨g, 0, none⟩) (cs.length + 1) cap).ownBlock = some w.heap.size := hv.imp (fun h => h.symm) (fun h => by simp [Value.ownBlock, h])
  refine ⟨v1, .slice (some ⟨g, 0, none⟩) (cs.length + 1) cap, ?_, own_set (own_other h2 gr fun b e1 e2 => h5 b e1 e2) hG, ?_, own_set (own_other h4 gr fun b e1 e2 => h7 b e1 e2) hG, ?_, h6, ?_, gset (gown h8 gr fun b e => (h3.lt b e).1)⟩
  · have hB : Blk w' G 44 #[v1, v2, .bool false] := (gr.block G h1.lt (fun e => by have := (h3.lt G e.symm).1; omega)).trans h1
    exact hB.set_ 1 _
  · rw [List.length_append]; exact own_set ho hG
  · intro b e1 e2; exact ne_new (w0 := 0) (fun b e => (h2.lt b e).2) hv' (fun b e1 e2 => h5 b e2 e1) b e2 e1
  · intro b e1 e2; exact ne_new (w0 := 0) (fun b e => (h4.lt b e).2) hv' (fun b e1 e2 => h7 b e2 e1) b e2 e1
theorem SpJ.touch {p : List UInt8} {v5 : Value} (h : SpJ W0 G S ts cs v1 v2 vS w) (ho : w'.ownsRow W0.heap.size 9 1 v5 (ts.length + 1) (strV (ts ++ [p]))) (gr : w.grownBy w' v1.ownBlock) (hv : v5.ownBlock = v1.ownBlock ∨ v5.ownBlock = some w.heap.size) (hG : G < W0.heap.size) : SpI W0 G S (ts ++ [p]) cs vS (w'.setCell ⟨G, 0, none⟩ v5) := by
  obtain ⟨h1, h2, h3, h4, h5, h6, h7, h8⟩ := h
  refine ⟨v5, v2, ?_, ?_, own_set (own_other h3 gr fun b e1 e2 => h5 b e2 e1) hG, own_set (own_other h4 gr fun b e1 e2 => h6 b e1 e2) hG, ?_, ?_, h7, gset (gown h8 gr fun b e => (h2.lt b e).1)⟩
  · have hB : Blk w' G 44 #[v1, v2, .bool false] := (gr.block G h1.lt (fun e => by have := (h2.lt G e.symm).1; omega)).trans h1
    exact hB.set_ 0 _
  · rw [List.length_append]; exact own_set ho hG
  · exact ne_new (w0 := 0) (fun b e => (h3.lt b e).2) hv h5
  · intro b e1 e2; exact ne_new (w0 := 0) (fun b e => (h4.lt b e).2) hv (fun b e1 e2 => h6 b e2 e1) b e2 e1
theorem SpJ.cut_at (h : SpJ W0 G S ts cs v1 v2 vS w) (gr : w.grownBy w' v2.ownBlock) (hG : G < W0.heap.size) : w'.cell? ⟨G, 1, none⟩ = some v2 ∧ w'.frozen? ⟨G, 1, none⟩ = false := by
  obtain ⟨h1, h2, h3, h4, h5, h6, h7, h8⟩ := h
  have hB : Blk w' G 44 #[v1, v2, .bool false] := (gr.block G h1.lt (fun e => by have := (h3.lt G e.symm).1; omega)).trans h1
  exact ⟨hB.cell 1, hB.frozen 1⟩
theorem SpJ.touch_at (h : SpJ W0 G S ts cs v1 v2 vS w) (gr : w.grownBy w' v1.ownBlock) (hG : G < W0.heap.size) : w'.cell? ⟨G, 0, none⟩ = some v1 ∧ w'.frozen? ⟨G, 0, none⟩ = false := by
  obtain ⟨h1, h2, h3, h4, h5, h6, h7, h8⟩ := h
  have hB : Blk w' G 44 #[v1, v2, .bool false] := (gr.block G h1.lt (fun e => by have := (h2.lt G e.symm).1; omega)).trans h1
  exact ⟨hB.cell 0, hB.frozen 0⟩
end
theorem w64_nat (n : Nat) (h : n ≤ 100000000) : wrap64 (n : Int) = (n : Int) := by unfold wrap64; omega
set_option maxHeartbeats 400000 in
theorem specSearch_main (N : Nat) (nm : List UInt8) (ch : List (List UInt8)) (k : List UInt8 × List UInt8) (q b : Nat) (A : Option Addr) (n c : Nat) (w : World) (lo : 3 ≤ N) (hi : N ≤ 8) (hr : Rd w A n (strV ch)) (hn : n ≤ 1048576) (hcap : n ≤ c) (l1 : 1 ≤ ch.length) (hs : ∀ x ∈ ch, okChange (N : Int) x = true) (hb1 : okChange (N : Int) k.1 = true) (hb2 : okChange (N : Int) k.2 = true) (hq : q ≤ 6) (hbb : b ≤ 5000) (ok : LawOk ⟨nm, (N : Int), ch⟩ k) (hmb : methB ⟨nm, (N : Int), ch⟩ = true)
    (hg : (callsB ⟨nm, (N : Int), ch⟩ k && searchB (q : Int)) = true) (hbud : budB (b : Int) = true) :
    Calls Try.prog 15 #[.agg #[.string (bs nm), .int .i64 N, .slice A n c], .agg #[.string (bs k.1), .string (bs k.2)], .int .i64 q, .int .i64 b] w (ResF w (srun (cutF N ch k q) q b [[]] [] [], true)) := by
  have OK0 : LawOk ⟨nm, (N : Int), ch⟩ ([], []) := ⟨ok.1, ok.2.1, ok.2.2.1, ok.2.2.2.1, by simp, by simp⟩
  have GA := fun (w0 : World) (rd : Rd w0 A n (strV ch)) => hid (l13Asked_any ⟨nm, (N : Int), ch⟩ k q A n c w0 ok rd)
  rw [hg] at GA
  have GB := fun (w0 : World) => hid (l1In_any (b : Int) 1 5000 w0)
  rw [show (decide ((1 : Int) ≤ (b : Int)) && decide ((b : Int) ≤ 5000)) = true from hbud] at GB
  have GC := fun (p : List UInt8) (hp : p.length ≤ 1000) (w0 : World) (rd : Rd w0 A n (strV ch)) => hid (l13Cut_any N nm p ch k q A n c w0 lo hi rd hn hcap l1 hs hb1 hb2 hp OK0 hmb)
  have GO := fun (A1 : Option Addr) (n1 c1 : Nat) (l : List (List UInt8)) (w0 : World) (rd : Rd w0 A1 n1 (strV l)) (h : n1 ≤ 100000000) => hid (l1OwnSx_any A1 n1 c1 l w0 rd h)
  have RS := hid hr
  have hAlt := hid (show ∀ a o, A = some ⟨a, o, none⟩ → a < w.heap.size from fun a o e => by
    have hlen := hr.1
    rw [strV_len] at hlen
    obtain ⟨a', o', e', hc⟩ := hr.at_ (k := 0) (by omega)
    rw [e] at e'
    injection e' with e'
    injection e' with e1 e2
    rw [e1]
    exact World.block_lt_of_cell? w _ hc)
  generalize cutF N ch k q = C at *
  obtain ⟨R, hR⟩ : ∃ R, R = srun C q b [[]] [] [] := ⟨_, rfl⟩
  rw [← hR]
  have HR := hid hR
  obtain ⟨k1, k2⟩ := k
  dsimp only at *
  clear hr hs hb1 hb2 l1 ok OK0 hmb hg hbud hR
  go_enter Try.func15, Try.ntmps15
  go_wp2_with fail
  obtain ⟨B2, hsz, HC⟩ := box_mkX 34 36 44 w nm k1 k2 (N : Int) (.slice A n c) #[.slice none 0 0, .slice none 0 0, .bool false]
  have R2 := hid (RS.out.below B2)
  have HB2 := hid B2
  have hw2 := B2.size
  generalize (((w.alloc (.cells #[.string (bs nm), .int .i64 (N : Int), .slice A n c] 34)).alloc (.cells #[.string (bs k1), .string (bs k2)] 36)).alloc (.cells #[.slice none 0 0, .slice none 0 0, .bool false] 44)) = W2 at *
  clear B2
  have HHS8 := hid (fun W' (h : Below W2.heap.size W2 W') => (show W'.cell? ⟨w.heap.size, 0, none⟩ = some (.string (bs nm)) ∧ W'.cell? ⟨w.heap.size, 1, none⟩ = some (.int .i64 (N : Int)) ∧ W'.cell? ⟨w.heap.size, 2, none⟩ = some (.slice A n c) ∧ W'.cell? ⟨w.heap.size + 1, 0, none⟩ = some (.string (bs k1)) ∧ W'.cell? ⟨w.heap.size + 1, 1, none⟩ = some (.string (bs k2)) from by
    obtain ⟨⟨X, Y⟩, Z⟩ := HC.out _ h
    exact ⟨X.cell 0, X.cell 1, X.cell 2, Y.cell 0, Y.cell 1⟩))
  obtain ⟨n0, n1, n2, p0, p1⟩ := HHS8.out _ (Below.refl _ _)
  refine (GA _ R2.out).out.mono ?_
  rintro e w1 ⟨rfl, b1⟩
  have E1 := hid b1
  clear b1
  clear n0 n1 n2 p0 p1
  obtain ⟨n0, n1, n2, p0, p1⟩ := HHS8.out _ E1.out
  go_wp2_with fail
  refine (GB _).out.mono ?_
  rintro e w1' ⟨rfl, rfl⟩
  go_wp2_with fail
  have hs1 := E1.out.size
  have E2 := hid (show Below W2.heap.size W2 (w1.alloc (.cells #[.slice none 0 0, .slice none 0 0, .bool false] 44)) from E1.out.alloc hs1 _)
  have Z2 := Blk.new w1 44 #[.slice none 0 0, .slice none 0 0, .bool false]
  have hsz2 : (w1.alloc (.cells #[.slice none 0 0, .slice none 0 0, .bool false] 44)).heap.size = w1.heap.size + 1 := by simp
  have HBS := hid (HC.out _ E2.out)
  clear n0 n1 n2 p0 p1
  generalize (w1.alloc (.cells #[.slice none 0 0, .slice none 0 0, .bool false] 44)) = W3 at *
  have HBX := hid (show ∀ W', W3.grownBy W' (some w1.heap.size) → W'.cell? ⟨w.heap.size, 0, none⟩ = some (.string (bs nm)) ∧ W'.cell? ⟨w.heap.size, 1, none⟩ = some (.int .i64 (N : Int)) ∧ W'.cell? ⟨w.heap.size, 2, none⟩ = some (.slice A n c) ∧ W'.cell? ⟨w.heap.size + 1, 0, none⟩ = some (.string (bs k1)) ∧ W'.cell? ⟨w.heap.size + 1, 1, none⟩ = some (.string (bs k2)) from fun W' h => by
    obtain ⟨⟨X, Y⟩, Z⟩ := HBS.out
    exact ⟨gcell h (X.cell 0) (by dsimp only; omega), gcell h (X.cell 1) (by dsimp only; omega), gcell h (X.cell 2) (by dsimp only; omega), gcell h (Y.cell 0) (by dsimp only; omega), gcell h (Y.cell 1) (by dsimp only; omega)⟩)
  have HRD := hid (show ∀ W', W3.grownBy W' (some w1.heap.size) → Rd W' A n (strV ch) from fun W' h => (R2.out.below E2.out).grown h (fun a o e e2 => by have := hAlt.out a o e; injection e2 with e2; omega))
  have HGE := hid (show w1.heap.size < W3.heap.size by omega)
  have HZ3 := hid (show Blk (W3.alloc (.cells #[.string (bs [])] 9)) (w1.heap.size + 1) 9 #[.string (bs [])] from by have := Blk.new W3 9 #[.string (bs [])]; rw [hsz2] at this; exact this)
  have HSZ2 := hid hsz2
  have HSZ0 := hid hsz
  have HRX := hid HBS.out.2
  clear HBS hsz hsz2 hs1
  go_loopg [3, 11] b (fun gk u vS wr => ∃ (L : Nat) (S ts : List (List UInt8)) (cs : List (List UInt8 × Int × Int)), gk = L ∧ u = .int .i64 (L : Int) ∧ L ≤ b ∧ Hid (srun C q L S ts cs = R) ∧ Hid (∀ p ∈ S, p.length ≤ q) ∧ S.length + 2 * L ≤ 2 * b + 1 ∧ ts.length + cs.length + L ≤ b ∧ SpI W3 w1.heap.size S ts cs vS wr)
  case atStart => exact ⟨b, [[]], [], [], rfl, rfl, Nat.le_refl _, hid HR.out.symm, hid (by simp), by simp; omega, by simp, _, _, Z2.alloc _, World.ownsRow_nil _ _ _ _, World.ownsRow_nil _ _ _ _, own_of_blk HZ3.out (by have := HSZ2.out; omega) (by simp [maxLen]), fun b h => by simp [Value.ownBlock] at h, fun b h h2 => by simp [Value.ownBlock] at h2, fun b h h2 => by simp [Value.ownBlock] at h2, gthen (World.grownBy.refl _ _) ((Below.refl _ _).alloc (Nat.le_refl _) _)⟩
  case round =>
    obtain ⟨L, S, ts, cs, hgk, rfl, hL, hrun, hlen, hS, hroom, v1, v2, hJ⟩ := hrel
    have hgk' := hgk.symm
    subst hgk'
    clear hgk
    obtain ⟨A1, c1, rfl, y1, y2, y3, y4⟩ := own_shape hJ.2.1
    obtain ⟨A2, c2, rfl, y5, y6, y7, y8⟩ := own_shapeC hJ.2.2.1
    obtain ⟨A3, c3, rfl, hcc3, hcm3, rd3, y9⟩ := own_shape hJ.2.2.2.1
    clear y1 y2 y3 y4 y5 y6 y7 y8 y9
    have HJ := hid hJ
    have hBG := hJ.1
    have d0 := hBG.cell 0
    have d1 := hBG.cell 1
    have d2 := hBG.cell 2
    have f0 := hBG.frozen 0
    have f1 := hBG.frozen 1
    have f2 := hBG.frozen 2
    simp only [List.getElem?_toArray, List.getElem?_cons_zero, List.getElem?_cons_succ] at d0 d1 d2
    have HRD3 := hid rd3
    have hGr := hid hJ.2.2.2.2.2.2.2
    clear hJ hBG rd3
    cases S with
    | nil =>
      have hRR : R = (ts, cs, true) := by rw [← hrun.out]; cases L <;> rfl
      have RX : Blk wr (w.heap.size + 1 + 1) 44 #[.slice none 0 0, .slice none 0 0, .bool false] := (hGr.out.block _ (by have := HSZ2.out; have := E1.out.size; have := HSZ0.out; omega) (by intro e; injection e with e; have := E1.out.size; have := HSZ0.out; omega)).trans HRX.out
      have r0 := RX.cell 0
      have r1 := RX.cell 1
      have r2 := RX.cell 2
      have g0 := RX.frozen 0
      have g1 := RX.frozen 1
      have g2 := RX.frozen 2
      simp only [List.getElem?_toArray, List.getElem?_cons_zero, List.getElem?_cons_succ] at r0 r1 r2
      clear RX
      have hne8 : w1.heap.size ≠ w.heap.size + 1 + 1 := by have := E1.out.size; have := HSZ0.out; omega
      have HRR := hid hRR
      clear hRR hcm3 hcc3
      go_wp2
      refine bodyPost_ret (v := .tuple #[.agg #[.slice A1 ts.length c1, .slice A2 cs.length c2, .bool true], .bool true]) (by simp [results, Try.results15, go_sem, r0, r1, r2]) rfl ?_
      rw [HRR.out]
      have hb3 : w.heap.size ≤ W3.heap.size := by have := HSZ2.out; have := E1.out.size; have := HSZ0.out; omega
      have hb4 : w.heap.size ≤ w1.heap.size := by have := E1.out.size; have := HSZ0.out; omega
      have hrb : w.heap.size + 1 + 1 < W3.heap.size := by have := HSZ2.out; have := E1.out.size; have := HSZ0.out; omega
      exact ⟨_, _, rfl, own_mono (set3_own (own_set HJ.out.2.1 HGE.out) hrb _ _ _) hb3, own_mono (own_set (own_set (own_set (own_set HJ.out.2.2.1 HGE.out) hrb) hrb) hrb) hb3, HJ.out.2.2.2.2.1, cset3_below ((((HB2.out.trans (E2.out.mono hw2)).grown hGr.out hb3 (fun k e => by injection e with e; omega)).setCell (p := ⟨w1.heap.size, 2, none⟩) (by dsimp only; omega) _)) (by omega) _ _ _⟩
    | cons p S =>
      cases L with
      | zero =>
        have hRR : R = (ts, cs, false) := by rw [← hrun.out]; rfl
        have RX : Blk wr (w.heap.size + 1 + 1) 44 #[.slice none 0 0, .slice none 0 0, .bool false] := (hGr.out.block _ (by have := HSZ2.out; have := E1.out.size; have := HSZ0.out; omega) (by intro e; injection e with e; have := E1.out.size; have := HSZ0.out; omega)).trans HRX.out
        have r0 := RX.cell 0
        have r1 := RX.cell 1
        have r2 := RX.cell 2
        have g0 := RX.frozen 0
        have g1 := RX.frozen 1
        have g2 := RX.frozen 2
        simp only [List.getElem?_toArray, List.getElem?_cons_zero, List.getElem?_cons_succ] at r0 r1 r2
        clear RX
        have hne8 : w1.heap.size ≠ w.heap.size + 1 + 1 := by have := E1.out.size; have := HSZ0.out; omega
        have HRR := hid hRR
        clear hRR hcm3 hcc3
        go_wp2
        refine bodyPost_ret (v := .tuple #[.agg #[.slice A1 ts.length c1, .slice A2 cs.length c2, .bool false], .bool true]) (by simp [results, Try.results15, go_sem, r0, r1, r2]; omega) rfl ?_
        rw [HRR.out]
        have hb3 : w.heap.size ≤ W3.heap.size := by have := HSZ2.out; have := E1.out.size; have := HSZ0.out; omega
        have hb4 : w.heap.size ≤ w1.heap.size := by have := E1.out.size; have := HSZ0.out; omega
        have hrb : w.heap.size + 1 + 1 < W3.heap.size := by have := HSZ2.out; have := E1.out.size; have := HSZ0.out; omega
        exact ⟨_, _, rfl, own_mono (set3_own (own_set HJ.out.2.1 HGE.out) hrb _ _ _) hb3, own_mono (own_set (own_set (own_set (own_set HJ.out.2.2.1 HGE.out) hrb) hrb) hrb) hb3, HJ.out.2.2.2.2.1, cset3_below ((((HB2.out.trans (E2.out.mono hw2)).grown hGr.out hb3 (fun k e => by injection e with e; omega)).setCell (p := ⟨w1.heap.size, 2, none⟩) (by dsimp only; omega) _)) (by omega) _ _ _⟩
      | succ M =>
        clear d0 d1 d2 f0 f1 f2
        have hpq : p.length ≤ q := hlen.out p (by simp)
        have GCp := GC p (by omega)
        obtain ⟨R0, hR0⟩ : ∃ x, x = C p := ⟨_, rfl⟩
        rw [← hR0] at GCp
        have HX := hid (show R = if R0.2 = true then srun C q M S ts (cs ++ [R0.1]) else if p.length = q then srun C q M S (ts ++ [p]) cs else srun C q M ((p ++ [98]) :: (p ++ [112]) :: (p ++ [115]) :: S) ts cs by rw [← hrun.out, srun, ← hR0])
        have HlS := hid (show ∀ x ∈ S, x.length ≤ q from fun x hx => hlen.out x (by simp [hx]))
        obtain ⟨⟨rp, ry, rz⟩, rb⟩ := R0
        dsimp only at HX GCp
        clear hR0 hrun hlen
        obtain ⟨b5, o5, rfl, hk5, hc5⟩ := HRD3.out.str (k := S.length) (by simp)
        rw [show (p :: S).reverse[S.length]'hk5 = p by simp] at hc5
        have HT3 := hid (show Rd wr (some ⟨b5, o5, none⟩) S.length (strV S.reverse) from by
          have := HRD3.out.takeN S.length (by simp)
          simpa using this)
        obtain ⟨s, hs⟩ : ∃ s, s = S.length := ⟨_, rfl⟩
        have HS := hid hs
        rw [List.length_cons] at *
        rw [← hs] at HT3 hc5 ⊢
        have hs0 : s ≤ 10001 := by omega
        have hsc : s ≤ c3 := by omega
        have hx0 : (0 : Int) ≤ (s : Int) := Int.natCast_nonneg _
        have hx1 : (s : Int) < (s : Int) + 1 := Int.lt_succ _
        clear hs
        obtain ⟨n0, n1, n2, p0, p1⟩ := HBX.out _ hGr.out
        go_wp2_with fail
        refine (GO _ _ _ _ _ HT3.out (by omega)).out.mono ?_
        rintro e w5 ⟨v5, rfl, o5', b5'⟩
        rw [List.length_reverse] at o5'
        have HJ5 := hid (SpJ.pop HJ.out b5' o5')
        have HG5 := hid HJ5.out.2.2.2.2.2.2.2
        clear b5' o5' n0 n1 n2 p0 p1
        obtain ⟨n0, n1, n2, p0, p1⟩ := HBX.out _ HG5.out
        go_wp2_with fail
        refine (GCp _ (HRD.out _ HG5.out)).out.mono ?_
        rintro e w6 ⟨rfl, b6⟩
        have HJ6 := hid (HJ5.out.below b6)
        have HG6 := hid HJ6.out.2.2.2.2.2.2.2
        clear b6 n0 n1 n2 p0 p1 hc5 hcc3 hcm3 hsc
        obtain ⟨n0, n1, n2, p0, p1⟩ := HBX.out _ HG6.out
        dsimp only
        cases rb
        · have HX1 := hid (HX.out.trans (if_neg (by simp)))
          clear HX
          have hcA : c = c := rfl
          by_cases hpl : p.length = q
          · have HX2 := hid (HX1.out.trans (if_pos hpl))
            have hqb : ((p.length : Int) == (q : Int)) = true := by simp; omega
            clear HX1 hpl hpq hcA
            go_upto_region 13 with fail
            have HJ7 := hid (HJ6.out.below ((Below.refl _ _).alloc (Nat.le_refl _) (.cells #[.string (bs rp), .int .i64 ry, .int .i64 rz] 38)))
            generalize (w6.alloc (.cells #[.string (bs rp), .int .i64 ry, .int .i64 rz] 38)) = W7 at *
            have HG7 := hid HJ7.out.2.2.2.2.2.2.2
            clear n0 n1 n2 p0 p1
            have hBG := HJ7.out.1
            have d0 := hBG.cell 0
            simp only [List.getElem?_toArray, List.getElem?_cons_zero, List.getElem?_cons_succ] at d0
            clear hBG
            have hbase : W3.heap.size ≤ W7.heap.size := HG7.out.size
            have HO7 := hid (HJ7.out.2.1)
            have HJ8 := hid (HJ7.out.below ((Below.refl _ _).alloc (Nat.le_refl _) (.cells #[.string (bs p)] 9)))
            go_wp2_with (at_builtin; refine app_strB _ (by rfl) _ _ (by rfl) W3.heap.size _ _ ts (by rfl) (HO7.out.alloc _) (some ⟨W7.heap.size, 0, none⟩) 1 1 [p] (by rfl) (Rd.blk W7 [.string (bs p)] _) (by omega) (by simp; omega) ?_; intro v8 w8 o8 g8' hat8; obtain ⟨e1, e2⟩ := HJ8.out.touch_at g8' HGE.out; obtain ⟨A8, c8, rfl, q1, q2, q3, q4⟩ := own_shape o8; clear q1 q2 q3 q4)
            go_roundg M
            case measure => omega
            case rel => exact ⟨M, S, ts ++ [p], cs, rfl, rfl, by omega, hid HX2.out.symm, HlS, by omega, by simp; omega, HJ8.out.touch o8 g8' hat8 HGE.out⟩
          · have HX2 := hid (HX1.out.trans (if_neg hpl))
            have hqb : ((p.length : Int) == (q : Int)) = false := by simp; omega
            have hpq' : p.length + 1 ≤ q := by omega
            clear HX1 hpl hpq hcA
            go_upto_region 14 with fail
            have HJ7 := hid (HJ6.out.below ((Below.refl _ _).alloc (Nat.le_refl _) (.cells #[.string (bs rp), .int .i64 ry, .int .i64 rz] 38)))
            generalize (w6.alloc (.cells #[.string (bs rp), .int .i64 ry, .int .i64 rz] 38)) = W7 at *
            have HG7 := hid HJ7.out.2.2.2.2.2.2.2
            clear n0 n1 n2 p0 p1
            have hbase : W3.heap.size ≤ W7.heap.size := HG7.out.size
            have HO7 := hid (HJ7.out.2.2.2.1)
            have HJ8 := hid (HJ7.out.below ((Below.refl _ _).alloc (Nat.le_refl _) (.cells #[.string (bs (p ++ [115])), .string (bs (p ++ [112])), .string (bs (p ++ [98]))] 9)))
            go_wp2_with (at_builtin; refine app_strB _ (by rfl) _ _ (by rfl) W3.heap.size _ _ S.reverse (by rfl) (HO7.out.alloc _) (some ⟨W7.heap.size, 0, none⟩) 3 3 [p ++ [115], p ++ [112], p ++ [98]] (by rfl) (Rd.blk W7 [.string (bs (p ++ [115])), .string (bs (p ++ [112])), .string (bs (p ++ [98]))] _) (by omega) (by simp; omega) ?_; intro v8 w8 o8 g8' hat8)
            go_roundg M
            case measure => omega
            case rel => exact ⟨M, (p ++ [98]) :: (p ++ [112]) :: (p ++ [115]) :: S, ts, cs, rfl, rfl, by omega, hid HX2.out.symm, hid (fun x hx => by
              simp only [List.mem_cons] at hx
              rcases hx with rfl | rfl | rfl | hx
              · simp; omega
              · simp; omega
              · simp; omega
              · exact HlS.out x hx), by simp; omega, by omega, _, _, HJ8.out.push o8 g8' hat8 HGE.out⟩
        · have HX1 := hid (HX.out.trans (if_pos rfl))
          clear HX
          go_upto_region 11 with fail
          have Z7 := Blk.new w6 38 #[.string (bs rp), .int .i64 ry, .int .i64 rz]
          have HJ7 := hid (HJ6.out.below ((Below.refl _ _).alloc (Nat.le_refl _) (.cells #[.string (bs rp), .int .i64 ry, .int .i64 rz] 38)))
          generalize (w6.alloc (.cells #[.string (bs rp), .int .i64 ry, .int .i64 rz] 38)) = W7 at *
          have HG7 := hid HJ7.out.2.2.2.2.2.2.2
          clear n0 n1 n2 p0 p1
          have hBG := HJ7.out.1
          have d0 := hBG.cell 0
          have d1 := hBG.cell 1
          have d2 := hBG.cell 2
          have f0 := hBG.frozen 0
          have f1 := hBG.frozen 1
          have f2 := hBG.frozen 2
          have z0 := Z7.cell 0
          have z1 := Z7.cell 1
          have z2 := Z7.cell 2
          simp only [List.getElem?_toArray, List.getElem?_cons_zero, List.getElem?_cons_succ] at d0 d1 d2 z0 z1 z2
          clear hBG Z7
          have hroom2 : cs.length ≤ 100000000000 := by omega
          have hbase : W3.heap.size ≤ W7.heap.size := HG7.out.size
          have HO7 := hid (HJ7.out.2.2.1)
          have HJ8 := hid (HJ7.out.below ((Below.refl _ _).alloc (Nat.le_refl _) (.cells #[.string (bs rp), .int .i64 ry, .int .i64 rz] 38)))
          go_wp2_with (at_builtin; refine app_cut _ (by rfl) _ _ (by rfl) W3.heap.size _ _ cs (by rfl) (HO7.out.alloc _) W7.heap.size 1 (rp, ry, rz) (by rfl) (heap_alloc_new W7 _) hroom2 (by simp; omega) (W7.heap.size + 1) (by simp) ?_; intro g8 cap8 w8 o8 g8' hat8 hlt8; obtain ⟨e1, e2⟩ := HJ8.out.cut_at g8' HGE.out)
          go_roundg M
          case measure => omega
          case rel => exact ⟨M, S, ts, cs ++ [(rp, ry, rz)], rfl, rfl, by omega, hid HX1.out.symm, HlS, by omega, by simp; omega, HJ8.out.cut o8 g8' (by simpa using hat8) HGE.out⟩
set_option maxHeartbeats 1000000 in
theorem specSearch_law (m : Meth) (k : List UInt8 × List UInt8) (q b : Int) (A : Option Addr) (n c : Nat) (w : World) (ok : LawOk m k) (rd : Rd w A n (strV m.ch)) (hcap : n ≤ c) :
    Calls Try.prog 15 #[.agg #[.string (bs m.nm), .int .i64 m.st, .slice A n c], .agg #[.string (bs k.1), .string (bs k.2)], .int .i64 q, .int .i64 b] w (ResF w (foundR m k q b)) := by
  have hn : n ≤ 1048576 := by have h1 := rd.1; have h2 := ok.2.2.1; rw [strV_len] at h1; omega
  have GA := fun (w0 : World) (rd : Rd w0 A n (strV m.ch)) => hid (l13Asked_any m k q A n c w0 ok rd)
  cases hg0 : callsB m k && searchB q
  · rw [hg0] at GA
    have HR := hid (show foundR m k q b = (([], [], false), false) by unfold foundR; rw [hg0]; rfl)
    have GB := fun (w0 : World) => hid (l1In_any b 1 5000 w0)
    have RS := hid rd
    obtain ⟨nm, st, ch⟩ := m
    obtain ⟨k1, k2⟩ := k
    dsimp only at *
    clear hg0 ok rd
    go_enter Try.func15, Try.ntmps15
    go_wp2_with fail
    obtain ⟨B2, hsz, HC⟩ := box_mkX 34 36 44 w nm k1 k2 st (.slice A n c) #[.slice none 0 0, .slice none 0 0, .bool false]
    have R2 := hid (RS.out.below B2)
    have HB2 := hid B2
    have hw2 := B2.size
    generalize (((w.alloc (.cells #[.string (bs nm), .int .i64 st, .slice A n c] 34)).alloc (.cells #[.string (bs k1), .string (bs k2)] 36)).alloc (.cells #[.slice none 0 0, .slice none 0 0, .bool false] 44)) = W2 at *
    clear B2
    have HHS8 := hid (fun W' (h : Below W2.heap.size W2 W') => (show W'.cell? ⟨w.heap.size, 0, none⟩ = some (.string (bs nm)) ∧ W'.cell? ⟨w.heap.size, 1, none⟩ = some (.int .i64 st) ∧ W'.cell? ⟨w.heap.size, 2, none⟩ = some (.slice A n c) ∧ W'.cell? ⟨w.heap.size + 1, 0, none⟩ = some (.string (bs k1)) ∧ W'.cell? ⟨w.heap.size + 1, 1, none⟩ = some (.string (bs k2)) from by
      obtain ⟨⟨X, Y⟩, Z⟩ := HC.out _ h
      exact ⟨X.cell 0, X.cell 1, X.cell 2, Y.cell 0, Y.cell 1⟩))
    obtain ⟨n0, n1, n2, p0, p1⟩ := HHS8.out _ (Below.refl _ _)
    refine (GA _ R2.out).out.mono ?_
    rintro e w1 ⟨rfl, b1⟩
    have E1 := hid b1
    clear b1
    clear n0 n1 n2 p0 p1
    obtain ⟨n0, n1, n2, p0, p1⟩ := HHS8.out _ E1.out
    have RX := (HC.out _ E1.out).2
    have r0 := RX.cell 0
    have r1 := RX.cell 1
    have r2 := RX.cell 2
    have g0 := RX.frozen 0
    have g1 := RX.frozen 1
    have g2 := RX.frozen 2
    simp only [List.getElem?_toArray, List.getElem?_cons_zero, List.getElem?_cons_succ] at r0 r1 r2
    clear RX hsz
    go_wp2
    refine bodyPost_ret (v := .tuple #[.agg #[.slice none 0 0, .slice none 0 0, .bool false], .bool false]) (by simp [results, Try.results15, go_sem, r0, r1, r2]) rfl ?_
    rw [HR.out]
    exact ResF.none _ _ (cset3_below (HB2.out.trans (E1.out.mono hw2)) (by omega) _ _ _)
  · cases hb0 : budB b
    · rw [hg0] at GA
      have HR := hid (show foundR m k q b = (([], [], false), false) by unfold foundR; rw [hg0, hb0]; rfl)
      have GB := fun (w0 : World) => hid (l1In_any b 1 5000 w0)
      rw [show (decide ((1 : Int) ≤ b) && decide (b ≤ 5000)) = false from hb0] at GB
      have RS := hid rd
      obtain ⟨nm, st, ch⟩ := m
      obtain ⟨k1, k2⟩ := k
      dsimp only at *
      clear hg0 hb0 ok rd
      go_enter Try.func15, Try.ntmps15
      go_wp2_with fail
      obtain ⟨B2, hsz, HC⟩ := box_mkX 34 36 44 w nm k1 k2 st (.slice A n c) #[.slice none 0 0, .slice none 0 0, .bool false]
      have R2 := hid (RS.out.below B2)
      have HB2 := hid B2
      have hw2 := B2.size
      generalize (((w.alloc (.cells #[.string (bs nm), .int .i64 st, .slice A n c] 34)).alloc (.cells #[.string (bs k1), .string (bs k2)] 36)).alloc (.cells #[.slice none 0 0, .slice none 0 0, .bool false] 44)) = W2 at *
      clear B2
      have HHS8 := hid (fun W' (h : Below W2.heap.size W2 W') => (show W'.cell? ⟨w.heap.size, 0, none⟩ = some (.string (bs nm)) ∧ W'.cell? ⟨w.heap.size, 1, none⟩ = some (.int .i64 st) ∧ W'.cell? ⟨w.heap.size, 2, none⟩ = some (.slice A n c) ∧ W'.cell? ⟨w.heap.size + 1, 0, none⟩ = some (.string (bs k1)) ∧ W'.cell? ⟨w.heap.size + 1, 1, none⟩ = some (.string (bs k2)) from by
        obtain ⟨⟨X, Y⟩, Z⟩ := HC.out _ h
        exact ⟨X.cell 0, X.cell 1, X.cell 2, Y.cell 0, Y.cell 1⟩))
      obtain ⟨n0, n1, n2, p0, p1⟩ := HHS8.out _ (Below.refl _ _)
      refine (GA _ R2.out).out.mono ?_
      rintro e w1 ⟨rfl, b1⟩
      have E1 := hid b1
      clear b1
      clear n0 n1 n2 p0 p1
      obtain ⟨n0, n1, n2, p0, p1⟩ := HHS8.out _ E1.out
      have RX := (HC.out _ E1.out).2
      have r0 := RX.cell 0
      have r1 := RX.cell 1
      have r2 := RX.cell 2
      have g0 := RX.frozen 0
      have g1 := RX.frozen 1
      have g2 := RX.frozen 2
      simp only [List.getElem?_toArray, List.getElem?_cons_zero, List.getElem?_cons_succ] at r0 r1 r2
      clear RX hsz
      go_wp2_with fail
      refine (GB _).out.mono ?_
      rintro e w1' ⟨rfl, rfl⟩
      go_wp2
      refine bodyPost_ret (v := .tuple #[.agg #[.slice none 0 0, .slice none 0 0, .bool false], .bool false]) (by simp [results, Try.results15, go_sem, r0, r1, r2]) rfl ?_
      rw [HR.out]
      exact ResF.none _ _ (cset3_below (HB2.out.trans (E1.out.mono hw2)) (by omega) _ _ _)
    · have HR0 := show foundR m k q b = (srun (cutF m.st.toNat m.ch k q.toNat) q.toNat b.toNat [[]] [] [], true) by unfold foundR; rw [hg0, hb0]; rfl
      have hg1 := hg0
      rw [Bool.and_eq_true] at hg0
      have hb1 := callsB_bob hg0.1
      have hb2 := callsB_single hg0.1
      have hmb := callsB_meth (m := m) (k := k) hg0.1
      obtain ⟨N, hN, lo, hi, l1, l40, hs⟩ := meth_parts hmb
      obtain ⟨j, rfl, hj1, hj6⟩ := searchB_nat hg0.2
      obtain ⟨i, rfl, hi1, hi5⟩ := budB_nat hb0
      obtain ⟨nm, st, ch⟩ := m
      dsimp only at *
      subst hN
      simp only [Int.toNat_natCast] at HR0
      rw [HR0]
      exact specSearch_main N nm ch k j i A n c w lo hi rd hn hcap l1 hs hb1 hb2 hj6 hi5 ok hmb hg1 hb0
end Go.Proofs.Ytnkpbahapaocbaa

set_option linter.unusedVariables false
set_option linter.unusedSimpArgs false
set_option maxRecDepth 100000
namespace Go.Proofs.Ytnkpbahapaocbaa
open Go.RowKit

theorem grown_set1 {w w' : World} {G o : Nat} {v : Value} (h : w.grownBy w' (some G)) : w.grownBy (w'.setCell ⟨G, o, none⟩ v) (some G) :=
  ⟨h.os, h.tape, h.output, by simpa [World.setCell] using h.size, fun k hk hne => (Below.heap_setCell w' ⟨G, o, none⟩ v k (by intro e; exact hne (by rw [e]))).trans (h.block k hk hne)⟩
theorem grown_then {w w' w2 : World} {r : Option Nat} (h : w.grownBy w' r) (b : Below w'.heap.size w' w2) : w.grownBy w2 r :=
  ⟨b.os.trans h.os, b.tape.trans h.tape, b.output.trans h.output, Nat.le_trans h.size b.size, fun k hk hne => (b.block k (Nat.lt_of_lt_of_le hk h.size)).trans (h.block k hk hne)⟩
theorem grown_own1 {w w1 w' : World} {G : Nat} {r : Option Nat} (h : w.grownBy w1 (some G)) (h2 : w1.grownBy w' r) (hr : ∀ k, r = some k → w.heap.size ≤ k) : w.grownBy w' (some G) :=
  ⟨h2.os.trans h.os, h2.tape.trans h.tape, h2.output.trans h.output, Nat.le_trans h.size h2.size, fun k hk hne => (h2.block k (Nat.lt_of_lt_of_le hk h.size) (fun e => by have := hr k e.symm; omega)).trans (h.block k hk hne)⟩
/-- The cells of a searcher at work. -/
def srchD (nm : List UInt8) (N : Nat) (A : Option Addr) (n c : Nat) (k1 k2 : List UInt8) (q : Nat) (tr : Bool) (g : Nat) (L : Int) (v1 v2 : Value) (ok : Bool) : Array Value := #[.string (bs nm), .int .i64 (N : Int), .slice A n c, .string (bs k1), .string (bs k2), .int .i64 (q : Int), .bool tr, .map (some g), .int .i64 L, v1, v2, .bool ok]
theorem SrchAt.ofD {w : World} {G : Nat} {t : TypeId} {nm : List UInt8} {N : Nat} {A : Option Addr} {n c : Nat} {k1 k2 : List UInt8} {q : Nat} {tr : Bool} {g : Nat} {L : Int} {v1 v2 : Value} {ok : Bool} (h : Blk w G t (srchD nm N A n c k1 k2 q tr g L v1 v2 ok)) : SrchAt w G nm N A n c k1 k2 q tr g := ⟨h.cell 0, h.cell 1, h.cell 2, h.cell 3, h.cell 4, h.cell 5, h.cell 6, h.cell 7⟩
/-- What a searcher has found stands in its fields; of what was there when it began, nothing has turned but its own block. -/
def SInv (W0 : World) (G N : Nat) (nm : List UInt8) (A : Option Addr) (n c : Nat) (k1 k2 : List UInt8) (q : Nat) (tr : Bool) (g : Nat) (F : Fnd) (w : World) : Prop :=
  ∃ v1 v2, Blk w G 71 (srchD nm N A n c k1 k2 q tr g (F.left : Int) v1 v2 F.ok) ∧ w.ownsRow W0.heap.size 9 1 v1 F.ts.length (strV F.ts) ∧ w.ownsRow W0.heap.size 38 3 v2 F.cs.length (cutV F.cs) ∧ (∀ b, v1.ownBlock = some b → v2.ownBlock = some b → False) ∧ W0.grownBy w (some G)
section
variable {W0 w w' : World} {G N : Nat} {nm : List UInt8} {A : Option Addr} {n c : Nat} {k1 k2 : List UInt8} {q : Nat} {tr : Bool} {g : Nat} {F : Fnd}
theorem SInv.grown (h : SInv W0 G N nm A n c k1 k2 q tr g F w) : W0.grownBy w (some G) := by
  obtain ⟨_, _, _, _, _, _, h⟩ := h; exact h
theorem SInv.below (h : SInv W0 G N nm A n c k1 k2 q tr g F w) (hb : Below w.heap.size w w') : SInv W0 G N nm A n c k1 k2 q tr g F w' := by
  obtain ⟨v1, v2, h1, h2, h3, h4, h5⟩ := h
  exact ⟨v1, v2, h1.below hb h1.lt, own_below h2 hb, own_below h3 hb, h4, grown_then h5 hb⟩
theorem SInv.at_ (h : SInv W0 G N nm A n c k1 k2 q tr g F w) : SrchAt w G nm N A n c k1 k2 q tr g := by
  obtain ⟨v1, v2, h1, _⟩ := h; exact SrchAt.ofD h1
theorem SInv.rd (h : SInv W0 G N nm A n c k1 k2 q tr g F w) {xs : List Value} (hr : Rd W0 A n xs) (hA : ∀ b o, A = some ⟨b, o, none⟩ → b ≠ G) : Rd w A n xs :=
  hr.grown h.grown (fun b o e e2 => hA b o e (by injection e2 with e2; exact e2.symm))
theorem SInv.set (h : SInv W0 G N nm A n c k1 k2 q tr g F w) {z : Nat} {FF : List (List UInt8)} (hs : IsSet W0 g z FF) (hg : g ≠ G) : IsSet w g z FF :=
  World.ownsMap.kept hs h.grown (by intro e; injection e with e; exact hg e)
theorem srch_cut {z : List UInt8 × Int × Int} {v1 v2 : Value} {ts : List (List UInt8)} {cs : List (List UInt8 × Int × Int)} {L gb cap : Nat} {ok : Bool} (h1 : Blk w G 71 (srchD nm N A n c k1 k2 q tr g (L : Int) v1 v2 ok)) (h2 : w.ownsRow W0.heap.size 9 1 v1 ts.length (strV ts)) (h3 : w.ownsRow W0.heap.size 38 3 v2 cs.length (cutV cs)) (h5 : ∀ b, v1.ownBlock = some b → v2.ownBlock = some b → False) (h8 : W0.grownBy w (some G)) (hG : G < W0.heap.size)
    (ho : w'.ownsRow W0.heap.size 38 3 (.slice (some ⟨gb, 0, none⟩) (cs.length + 1) cap) (cs.length + 1) (cutV (cs ++ [z]))) (gr : w.grownBy w' v2.ownBlock) (hv : v2.ownBlock = some gb ∨ gb = w.heap.size) : SInv W0 G N nm A n c k1 k2 q tr g ⟨L, ts, cs ++ [z], ok⟩ (w'.setCell ⟨G, 10, none⟩ (.slice (some ⟨gb, 0, none⟩) (cs.length + 1) cap)) := by
  have hv' : (Value.slice (some ⟨gb, 0, none⟩) (cs.length + 1) cap).ownBlock = v2.ownBlock ∨ (Value.slice (some ⟨gb, 0, none⟩) (cs.length + 1) cap).ownBlock = some w.heap.size := hv.imp (fun h => h.symm) (fun h => by simp [Value.ownBlock, h])
  refine ⟨v1, .slice (some ⟨gb, 0, none⟩) (cs.length + 1) cap, ?_, own_set (own_other h2 gr fun b e1 e2 => h5 b e1 e2) hG, ?_, ?_, gset (gown h8 gr fun b e => (h3.lt b e).1)⟩
  · have hB : Blk w' G 71 (srchD nm N A n c k1 k2 q tr g (L : Int) v1 v2 ok) := (gr.block G h1.lt (fun e => by have := (h3.lt G e.symm).1; omega)).trans h1
    exact hB.set_ 10 _
  · dsimp only; rw [List.length_append]; exact own_set ho hG
  · intro b e1 e2; exact ne_new (w0 := 0) (fun b e => (h2.lt b e).2) hv' (fun b e1 e2 => h5 b e2 e1) b e2 e1
theorem srch_touch {p : List UInt8} {v1 v2 v5 : Value} {ts : List (List UInt8)} {cs : List (List UInt8 × Int × Int)} {L : Nat} {ok : Bool} (h1 : Blk w G 71 (srchD nm N A n c k1 k2 q tr g (L : Int) v1 v2 ok)) (h2 : w.ownsRow W0.heap.size 9 1 v1 ts.length (strV ts)) (h3 : w.ownsRow W0.heap.size 38 3 v2 cs.length (cutV cs)) (h5 : ∀ b, v1.ownBlock = some b → v2.ownBlock = some b → False) (h8 : W0.grownBy w (some G)) (hG : G < W0.heap.size)
    (ho : w'.ownsRow W0.heap.size 9 1 v5 (ts.length + 1) (strV (ts ++ [p]))) (gr : w.grownBy w' v1.ownBlock) (hv : v5.ownBlock = v1.ownBlock ∨ v5.ownBlock = some w.heap.size) : SInv W0 G N nm A n c k1 k2 q tr g ⟨L, ts ++ [p], cs, ok⟩ (w'.setCell ⟨G, 9, none⟩ v5) := by
  refine ⟨v5, v2, ?_, ?_, own_set (own_other h3 gr fun b e1 e2 => h5 b e2 e1) hG, ne_new (w0 := 0) (fun b e => (h3.lt b e).2) hv h5, gset (gown h8 gr fun b e => (h2.lt b e).1)⟩
  · have hB : Blk w' G 71 (srchD nm N A n c k1 k2 q tr g (L : Int) v1 v2 ok) := (gr.block G h1.lt (fun e => by have := (h2.lt G e.symm).1; omega)).trans h1
    exact hB.set_ 9 _
  · dsimp only; rw [List.length_append]; exact own_set ho hG
theorem touch_at {v1 v2 : Value} {n1 : Nat} {xs : List Value} {L : Nat} {ok : Bool} (h1 : Blk w G 71 (srchD nm N A n c k1 k2 q tr g (L : Int) v1 v2 ok)) (h2 : w.ownsRow W0.heap.size 9 1 v1 n1 xs) (hG : G < W0.heap.size) (gr : w.grownBy w' v1.ownBlock) : w'.cell? ⟨G, 9, none⟩ = some v1 ∧ w'.frozen? ⟨G, 9, none⟩ = false := by
  have hB : Blk w' G 71 (srchD nm N A n c k1 k2 q tr g (L : Int) v1 v2 ok) := (gr.block G h1.lt (fun e => by have := (h2.lt G e.symm).1; omega)).trans h1
  exact ⟨hB.cell 9, hB.frozen 9⟩
end
/-- What examine leaves. -/
def ExR (W0 : World) (G N : Nat) (nm : List UInt8) (A : Option Addr) (n c : Nat) (k1 k2 : List UInt8) (q : Nat) (tr : Bool) (g : Nat) (F : Fnd) (e : Ending) (w' : World) : Prop := e = .returned (.tuple #[]) ∧ SInv W0 G N nm A n c k1 k2 q tr g F w'
/-- The loop over the calls, i of them done. -/
def fF (C : List UInt8 → (List UInt8 × Int × Int) × Bool) (d : Nat) (p : List UInt8) (F : Fnd) (i : Nat) : Fnd := (List.range i).foldl (fun F j => exam C d (p ++ List.take 1 (List.drop j [98, 112, 115])) F) F
theorem fF_step (C : List UInt8 → (List UInt8 × Int × Int) × Bool) (d : Nat) (p : List UInt8) (F : Fnd) (i : Nat) : fF C d p F (i + 1) = exam C d (p ++ List.take 1 (List.drop i [98, 112, 115])) (fF C d p F i) := by
  simp only [fF, List.range_succ, List.foldl_append, List.foldl_cons, List.foldl_nil]
theorem fF_room (C : List UInt8 → (List UInt8 × Int × Int) × Bool) (d : Nat) (p : List UInt8) (F : Fnd) (i : Nat) : (fF C d p F i).ts.length + (fF C d p F i).cs.length + (fF C d p F i).left ≤ F.ts.length + F.cs.length + F.left := by
  induction i with
  | zero => exact Nat.le_refl _
  | succ i ih => rw [fF_step]; exact Nat.le_trans (exam_room _ _ _ _) ih
theorem call_of (i : Nat) (h : i < 3) : (List.take 1 (List.drop i [98, 112, 115] : List UInt8)).all callB = true ∧ (List.take 1 (List.drop i [98, 112, 115] : List UInt8)).length = 1 := by
  match i, h with
  | 0, _ => exact ⟨by decide, rfl⟩
  | 1, _ => exact ⟨by decide, rfl⟩
  | 2, _ => exact ⟨by decide, rfl⟩
theorem kept5 {W w5 : World} {r : Option Nat} {G B : Nat} {a b c d : Value} (h : W.cell? ⟨G, 10, none⟩ = some a ∧ W.frozen? ⟨G, 10, none⟩ = false ∧ W.cell? ⟨B, 0, none⟩ = some b ∧ W.cell? ⟨B, 1, none⟩ = some c ∧ W.cell? ⟨B, 2, none⟩ = some d) (hg : W.grownBy w5 r) (hr : ∀ x, r = some x → G < x ∧ x < B) :
    w5.cell? ⟨G, 10, none⟩ = some a ∧ w5.frozen? ⟨G, 10, none⟩ = false ∧ w5.cell? ⟨B, 0, none⟩ = some b ∧ w5.cell? ⟨B, 1, none⟩ = some c ∧ w5.cell? ⟨B, 2, none⟩ = some d := by
  obtain ⟨h0, h1, h2, h3, h4⟩ := h
  have n0 : some G ≠ r := fun e => by have := hr G e.symm; omega
  have n1 : some B ≠ r := fun e => by have := hr B e.symm; omega
  exact ⟨hg.cell h0 n0, (hg.frozen_far ⟨G, 10, none⟩ (World.block_lt_of_cell? W _ h0) n0).trans h1, hg.cell h2 n1, hg.cell h3 n1, hg.cell h4 n1⟩
set_option maxHeartbeats 4000000 in
theorem examine_step (W0 : World) (G N : Nat) (nm : List UInt8) (ch : List (List UInt8)) (k : List UInt8 × List UInt8) (q : Nat) (A : Option Addr) (n c g z : Nat) (tr : Bool) (lo : 3 ≤ N) (hi : N ≤ 8) (hr : Rd W0 A n (strV ch)) (hn : n ≤ 1048576) (l1 : 1 ≤ ch.length) (hs : ∀ x ∈ ch, okChange (N : Int) x = true) (hb1 : okChange (N : Int) k.1 = true) (hb2 : okChange (N : Int) k.2 = true) (htr : tr = trueB (leadL (roundsL N) ch)) (hset : IsSet W0 g z (quotL (leadL (roundsL N) ch) (leadL (roundsL N) ch))) (hq6 : q ≤ 6) (hA : ∀ b o, A = some ⟨b, o, none⟩ → b ≠ G) (hgG : g ≠ G) (hG : G < W0.heap.size)
    (d : Nat) (IH : ∀ (p : List UInt8) (F : Fnd) (w : World), p.length + d = q + 1 → 0 < d → p.all callB = true → F.ts.length + F.cs.length + F.left ≤ 100000 → SInv W0 G N nm A n c k.1 k.2 q tr g F w →
      Calls Try.prog 37 #[.pointer (some ⟨G, 0, none⟩), .string (bs p)] w (ExR W0 G N nm A n c k.1 k.2 q tr g (exam (cutF N ch k q) d p F)))
    (p : List UInt8) (F : Fnd) (w : World) (hd : p.length + d = q) (hcall : p.all callB = true) (hroom : F.ts.length + F.cs.length + F.left ≤ 100000) (hI : SInv W0 G N nm A n c k.1 k.2 q tr g F w) :
    Calls Try.prog 37 #[.pointer (some ⟨G, 0, none⟩), .string (bs p)] w (ExR W0 G N nm A n c k.1 k.2 q tr g (exam (cutF N ch k q) (d + 1) p F)) := by
  have GC := fun (F0 : Fnd) (w0 : World) (h0 : SInv W0 G N nm A n c k.1 k.2 q tr g F0 w0) => hid (cutOf_any N nm p ch k q A n c G g z tr w0 lo hi (h0.rd hr hA) hn l1 hs hb1 hb2 (by omega) hcall h0.at_ htr (h0.set hset hgG))
  have HE := hid (show exam (cutF N ch k q) (d + 1) p F = if F.left = 0 then ⟨0, F.ts, F.cs, false⟩ else if (cutF N ch k q p).2 = true then ⟨F.left - 1, F.ts, F.cs ++ [(cutF N ch k q p).1], F.ok⟩ else if d = 0 then ⟨F.left - 1, F.ts ++ [p], F.cs, F.ok⟩ else fF (cutF N ch k q) d p ⟨F.left - 1, F.ts, F.cs, F.ok⟩ 3 from rfl)
  have HIH := hid IH
  obtain ⟨R, hR⟩ : ∃ R, R = cutF N ch k q p := ⟨_, rfl⟩
  rw [← hR] at HE
  have GC := fun (F0 : Fnd) (w0 : World) (h0 : SInv W0 G N nm A n c k.1 k.2 q tr g F0 w0) => hid (hR ▸ (GC F0 w0 h0).out : Calls Try.prog 62 #[.pointer (some ⟨G, 0, none⟩), .string (bs p)] w0 (ResC w0 R))
  clear hR IH
  generalize cutF N ch k q = C at *
  obtain ⟨⟨rp, ry, rz⟩, rb⟩ := R
  obtain ⟨k1, k2⟩ := k
  obtain ⟨L, ts, cs, ok⟩ := F
  dsimp only at *
  clear hr hs hb1 hb2 l1 htr hset hn lo hi
  have HI := hid hI
  obtain ⟨v1, v2, hB, ho1, ho2, hne, hg⟩ := hI
  obtain ⟨A1, c1, rfl, hcc1, hcm1, rd1, _⟩ := own_shape ho1
  obtain ⟨A2, c2, rfl, hcc2, hcm2, rd2, _⟩ := own_shapeC ho2
  dsimp only at *
  have HB := hid hB
  have HO1 := hid ho1
  have HO2 := hid ho2
  have HN := hid hne
  have HGr := hid hg
  have d5 := hB.cell 5
  have d8 := hB.cell 8
  have d9 := hB.cell 9
  have d10 := hB.cell 10
  have d11 := hB.cell 11
  have f8 := hB.frozen 8
  have f11 := hB.frozen 11
  have hGw := hB.lt
  simp only [srchD, List.getElem?_toArray, List.getElem?_cons_zero, List.getElem?_cons_succ] at d5 d8 d9 d10 d11
  clear hB ho1 ho2 hne hg rd1 rd2
  by_cases hL : L = 0
  · have HR := hid (HE.out.trans (if_pos hL))
    subst hL
    have hz : (((0 : Nat) : Int) == 0) = true := rfl
    clear HE
    go_enter Try.func37, Try.ntmps37
    go_wp2
    refine bodyPost_ret (results_none rfl _ _ _) rfl ?_
    rw [HR.out]
    exact ⟨rfl, _, _, HB.out.set_ 11 (.bool false), own_set HO1.out hG, own_set HO2.out hG, HN.out, grown_set1 HGr.out⟩
  · have HE1 := hid (HE.out.trans (if_neg hL))
    obtain ⟨M, hM⟩ : ∃ M, M = L - 1 := ⟨_, rfl⟩
    rw [← hM] at HE1
    have hz : ((L : Int) == 0) = false := by simp; omega
    have hw : IntKind.i64.wrap ((L : Int) - 1) = (M : Int) := by rw [IntWalk.i64_in _ (by omega)]; omega
    have hMr : ts.length + cs.length + M ≤ 100000 := by omega
    have HML := hid hM
    clear HE hM hL
    have HI1 := hid (show SInv W0 G N nm A n c k1 k2 q tr g ⟨M, ts, cs, ok⟩ (w.setCell ⟨G, 8, none⟩ (.int .i64 (M : Int))) from ⟨_, _, HB.out.set_ 8 (.int .i64 (M : Int)), own_set HO1.out hG, own_set HO2.out hG, HN.out, grown_set1 HGr.out⟩)
    have HB1 := hid (show Blk (w.setCell ⟨G, 8, none⟩ (.int .i64 (M : Int))) G 71 (srchD nm N A n c k1 k2 q tr g (M : Int) (.slice A1 ts.length c1) (.slice A2 cs.length c2) ok) from HB.out.set_ 8 (.int .i64 (M : Int)))
    have HO11 := hid (show (w.setCell ⟨G, 8, none⟩ (.int .i64 (M : Int))).ownsRow W0.heap.size 9 1 (.slice A1 ts.length c1) ts.length (strV ts) from own_set HO1.out hG)
    have HO21 := hid (show (w.setCell ⟨G, 8, none⟩ (.int .i64 (M : Int))).ownsRow W0.heap.size 38 3 (.slice A2 cs.length c2) cs.length (cutV cs) from own_set HO2.out hG)
    have HG1 := hid (show W0.grownBy (w.setCell ⟨G, 8, none⟩ (.int .i64 (M : Int))) (some G) from grown_set1 HGr.out)
    go_enter Try.func37, Try.ntmps37
    go_wp2_with fail
    refine (GC _ _ HI1.out).out.mono ?_
    rintro e w1 ⟨rfl, b1⟩
    have HBX := hid b1
    clear d5 d8 d9 d10 d11 f8 f11
    generalize (w.setCell ⟨G, 8, none⟩ (.int .i64 (M : Int))) = W1 at *
    have HB2 := hid (HB1.out.below HBX.out HB1.out.lt)
    have HO12 := hid (own_below HO11.out HBX.out)
    have HO22 := hid (own_below HO21.out HBX.out)
    have HG2 := hid (grown_then HG1.out HBX.out)
    have hGl := HB2.out.lt
    have hW0 := HG2.out.size
    clear HI1 HB1 HO11 HO21 HG1 HBX HB HO1 HO2 HGr HI
    dsimp only
    have Z3 := Blk.new w1 38 #[.string (bs rp), .int .i64 ry, .int .i64 rz]
    have B3 : Below w1.heap.size w1 (w1.alloc (.cells #[.string (bs rp), .int .i64 ry, .int .i64 rz] 38)) := (Below.refl _ _).alloc (Nat.le_refl _) _
    have HGW := hid hGl
    cases rb
    · have HE2 := hid (HE1.out.trans (if_neg (by simp)))
      clear HE1
      by_cases hd0 : d = 0
      · have HR := hid (HE2.out.trans (if_pos hd0))
        have hql : ((p.length : Int) == (q : Int)) = true := by simp; omega
        clear HE2 hd0
        go_upto_region 6 with fail
        generalize (w1.alloc (.cells #[.string (bs rp), .int .i64 ry, .int .i64 rz] 38)) = W3 at *
        have hsz3 := B3.size
        have HB3 := hid (HB2.out.below B3 hGl)
        have HO13 := hid (own_below HO12.out B3)
        have HO23 := hid (own_below HO22.out B3)
        have HG3 := hid (grown_then HG2.out B3)
        have HW3 := hid (show W0.heap.size ≤ W3.heap.size by omega)
        clear B3 Z3
        have d5 := HB3.out.cell 5
        have d9 := HB3.out.cell 9
        simp only [srchD, List.getElem?_toArray, List.getElem?_cons_zero, List.getElem?_cons_succ] at d5 d9
        have HB4 := hid (HB3.out.alloc (.cells #[.string (bs p)] 9))
        have HO14 := hid (HO13.out.alloc (.cells #[.string (bs p)] 9))
        have HO24 := hid (HO23.out.alloc (.cells #[.string (bs p)] 9))
        have HG4 := hid (grown_then HG3.out ((Below.refl _ _).alloc (Nat.le_refl _) (.cells #[.string (bs p)] 9)))
        go_wp2_with (at_builtin; refine app_strB _ (by rfl) _ _ (by rfl) W0.heap.size _ _ ts (by rfl) (HO13.out.alloc _) (some ⟨W3.heap.size, 0, none⟩) 1 1 [p] (by rfl) (Rd.blk W3 [.string (bs p)] _) (by omega) (by simp; omega) ?_; intro v8 w8 o8 g8' hat8; obtain ⟨e1, e2⟩ := touch_at HB4.out HO14.out hG g8'; obtain ⟨A8, c8, rfl, q1, q2, q3, q4⟩ := own_shape o8; clear q1 q2 q3 q4)
        all_goals refine bodyPost_ret (results_none rfl _ _ _) rfl ?_
        all_goals rw [HR.out]
        all_goals exact ⟨rfl, srch_touch HB4.out HO14.out HO24.out HN.out HG4.out hG o8 g8' hat8⟩
      · have HR := hid (HE2.out.trans (if_neg hd0))
        have hql : ((p.length : Int) == (q : Int)) = false := by simp; omega
        have hplq : p.length + d = q := hd
        clear HE2
        go_upto_region 6 with fail
        generalize (w1.alloc (.cells #[.string (bs rp), .int .i64 ry, .int .i64 rz] 38)) = W3 at *
        have hsz3 := B3.size
        have HB3 := hid (HB2.out.below B3 hGl)
        have HO13 := hid (own_below HO12.out B3)
        have HO23 := hid (own_below HO22.out B3)
        have HG3 := hid (grown_then HG2.out B3)
        have HW3 := hid (show W0.heap.size ≤ W3.heap.size by omega)
        clear B3 Z3
        have d5 := HB3.out.cell 5
        have d9 := HB3.out.cell 9
        simp only [srchD, List.getElem?_toArray, List.getElem?_cons_zero, List.getElem?_cons_succ] at d5 d9
        clear d9
        go_wp2_with fail
        clear d5
        have HI3 := hid (show SInv W0 G N nm A n c k1 k2 q tr g ⟨M, ts, cs, ok⟩ W3 from ⟨_, _, HB3.out, HO13.out, HO23.out, HN.out, HG3.out⟩)
        clear HB3 HO13 HO23 HG3 HW3 hsz3 HB2 HO12 HO22 HG2
        go_loopg [61] 3 (fun gk x wr => ∃ i : Nat, i ≤ 3 ∧ gk = 3 - i ∧ x = .int .i64 i ∧ SInv W0 G N nm A n c k1 k2 q tr g (fF C d p ⟨M, ts, cs, ok⟩ i) wr)
        case atStart => exact ⟨0, by omega, rfl, rfl, HI3.out⟩
        case round =>
          obtain ⟨i, hi3, rfl, rfl, hI⟩ := hrel
          have HI4 := hid hI
          clear hI
          by_cases hlt : i < 3
          · have hIH := hid (HIH.out (p ++ List.take 1 (List.drop i [98, 112, 115])) (fF C d p ⟨M, ts, cs, ok⟩ i) wr (by rw [List.length_append, (call_of i hlt).2]; omega) (by omega) (by rw [List.all_append, hcall, (call_of i hlt).1]; rfl) (Nat.le_trans (fF_room C d p ⟨M, ts, cs, ok⟩ i) hMr) HI4.out)
            rw [← fF_step] at hIH
            clear hql
            go_wp2_with fail
            refine hIH.out.mono ?_
            rintro e w5 ⟨rfl, hI5⟩
            have HI5 := hid hI5
            clear hI5
            go_wp2
            go_roundg (3 - (i + 1))
            case measure => omega
            case rel => exact ⟨i + 1, by omega, rfl, by go_num, HI5.out⟩
          · obtain rfl : i = 3 := by omega
            go_wp2
            refine bodyPost_ret (results_none rfl _ _ _) rfl ?_
            rw [HR.out]
            exact ⟨rfl, HI4.out⟩
    · have HR := hid (show exam C (d + 1) p ⟨L, ts, cs, ok⟩ = ⟨M, ts, cs ++ [(rp, ry, rz)], ok⟩ from HE1.out.trans (if_pos rfl))
      clear HE1
      go_wp2_with fail
      generalize (w1.alloc (.cells #[.string (bs rp), .int .i64 ry, .int .i64 rz] 38)) = W3 at *
      have hsz3 := B3.size
      have HB3 := hid (HB2.out.below B3 hGl)
      have HO13 := hid (own_below HO12.out B3)
      have HO23 := hid (own_below HO22.out B3)
      have HG3 := hid (grown_then HG2.out B3)
      have HZ3 := hid Z3
      have hne3 : ∀ b, (Value.slice A2 cs.length c2).ownBlock = some b → W0.heap.size ≤ b ∧ b < w1.heap.size := fun b hb => HO22.out.lt b hb
      have HNE := hid hne3
      have HW3 := hid (show W0.heap.size ≤ W3.heap.size by omega)
      have HS5 := hid (fun W' (h : Below W3.heap.size W3 W') => (show W'.cell? ⟨G, 10, none⟩ = some (.slice A2 cs.length c2) ∧ W'.frozen? ⟨G, 10, none⟩ = false ∧ W'.cell? ⟨w1.heap.size, 0, none⟩ = some (.string (bs rp)) ∧ W'.cell? ⟨w1.heap.size, 1, none⟩ = some (.int .i64 ry) ∧ W'.cell? ⟨w1.heap.size, 2, none⟩ = some (.int .i64 rz) from ⟨(HB3.out.below h HB3.out.lt).cell 10, (HB3.out.below h HB3.out.lt).frozen 10, (HZ3.out.below h HZ3.out.lt).cell 0, (HZ3.out.below h HZ3.out.lt).cell 1, (HZ3.out.below h HZ3.out.lt).cell 2⟩))
      clear B3 Z3 hne3
      obtain ⟨s0, s1, s2, s3, s4⟩ := HS5.out _ (Below.refl _ _)
      obtain ⟨s5, s6, s7, s8, s9⟩ := HS5.out (W3.alloc (.cells #[.string (bs rp), .int .i64 ry, .int .i64 rz] 38)) ((Below.refl _ _).alloc (Nat.le_refl _) _)
      go_region_law (refine step_app_cut (by rfl) _ _ (by rfl) W0.heap.size (.slice A2 cs.length c2) cs.length cs (by rfl) (World.ownsRow.drew (World.ownsRow.alloc HO23.out _)) W3.heap.size 1 (rp, ry, rz) (by rfl) (heap_alloc_new W3 _) (by omega) (Nat.le_trans HW3.out (by simp)) (W3.heap.size + 1) (by simp) ?_; intro g5 cap5 w5 o5 gr5 hat5 hlt5; obtain ⟨q0, q1, q2, q3, q4⟩ := kept5 (HS5.out _ ((Below.refl _ _).alloc (Nat.le_refl _) _).drew) gr5 (fun b hb => ⟨Nat.lt_of_lt_of_le hG (HNE.out b hb).1, (HNE.out b hb).2⟩))
      all_goals go_wp2
      all_goals refine bodyPost_ret (results_none rfl _ _ _) rfl ?_
      all_goals rw [HR.out]
      all_goals exact ⟨rfl, srch_cut (Blk.drewN (HB3.out.alloc _) 1) (World.ownsRow.drew (World.ownsRow.alloc HO13.out _)) (World.ownsRow.drew (World.ownsRow.alloc HO23.out _)) HN.out (gthen HG3.out ((Below.refl _ _).alloc (Nat.le_refl _) _).drew) hG o5 gr5 (by simpa using hat5)⟩
end Go.Proofs.Ytnkpbahapaocbaa

set_option linter.unusedVariables false
set_option linter.unusedSimpArgs false
set_option maxRecDepth 100000
namespace Go.Proofs.Ytnkpbahapaocbaa
open Go.RowKit

/-- A prefix and all its extensions are examined. -/
theorem examine_any (W0 : World) (G N : Nat) (nm : List UInt8) (ch : List (List UInt8)) (k : List UInt8 × List UInt8) (q : Nat) (A : Option Addr) (n c g z : Nat) (tr : Bool) (lo : 3 ≤ N) (hi : N ≤ 8) (hr : Rd W0 A n (strV ch)) (hn : n ≤ 1048576) (l1 : 1 ≤ ch.length) (hs : ∀ x ∈ ch, okChange (N : Int) x = true) (hb1 : okChange (N : Int) k.1 = true) (hb2 : okChange (N : Int) k.2 = true) (htr : tr = trueB (leadL (roundsL N) ch)) (hset : IsSet W0 g z (quotL (leadL (roundsL N) ch) (leadL (roundsL N) ch))) (hq6 : q ≤ 6) (hA : ∀ b o, A = some ⟨b, o, none⟩ → b ≠ G) (hgG : g ≠ G) (hG : G < W0.heap.size) :
    ∀ (d : Nat) (p : List UInt8) (F : Fnd) (w : World), p.length + d = q + 1 → 0 < d → p.all callB = true → F.ts.length + F.cs.length + F.left ≤ 100000 → SInv W0 G N nm A n c k.1 k.2 q tr g F w →
      Calls Try.prog 37 #[.pointer (some ⟨G, 0, none⟩), .string (bs p)] w (ExR W0 G N nm A n c k.1 k.2 q tr g (exam (cutF N ch k q) d p F)) := by
  intro d
  induction d with
  | zero => intro p F w _ h0; exact absurd h0 (by omega)
  | succ d ih =>
    intro p F w hd _ hc hf hI
    exact examine_step W0 G N nm ch k q A n c g z tr lo hi hr hn l1 hs hb1 hb2 htr hset hq6 hA hgG hG d ih p F w (by omega) hc hf hI
theorem set_ne {w : World} {g z G : Nat} {t : TypeId} {cs : Array Value} {FF : List (List UInt8)} (h : IsSet w g z FF) (hB : Blk w G t cs) : g ≠ G := by
  rintro rfl
  obtain ⟨es, clock, he, _⟩ := h
  unfold Blk at hB
  rw [he] at hB
  injection hB with hB
  cases hB
set_option maxHeartbeats 4000000 in
theorem implSearch_main (N : Nat) (nm : List UInt8) (ch : List (List UInt8)) (k : List UInt8 × List UInt8) (q b : Nat) (A : Option Addr) (n c : Nat) (w : World) (lo : 3 ≤ N) (hi : N ≤ 8) (hr : Rd w A n (strV ch)) (hn : n ≤ 1000) (l1 : 1 ≤ ch.length) (hs : ∀ x ∈ ch, okChange (N : Int) x = true) (hb1 : okChange (N : Int) k.1 = true) (hb2 : okChange (N : Int) k.2 = true) (hq1 : 1 ≤ q) (hq : q ≤ 6) (hbb : b ≤ 5000) (ok : LawOk ⟨nm, (N : Int), ch⟩ k)
    (hg : (callsB ⟨nm, (N : Int), ch⟩ k && searchB (q : Int)) = true) (hbud : budB (b : Int) = true) :
    Calls Try.prog 16 #[.agg #[.string (bs nm), .int .i64 N, .slice A n c], .agg #[.string (bs k.1), .string (bs k.2)], .int .i64 q, .int .i64 b] w (ResF w (srun (cutF N ch k q) q b [[]] [] [], true)) := by
  have GA := fun (w0 : World) (rd : Rd w0 A n (strV ch)) => hid (goodSearch_any ⟨nm, (N : Int), ch⟩ k q A n c w0 ok rd)
  rw [hg] at GA
  have GB := fun (w0 : World) => hid (within_any (b : Int) 1 5000 w0)
  rw [show (decide ((1 : Int) ≤ (b : Int)) && decide ((b : Int) ≤ 5000)) = true from hbud] at GB
  have GN := fun (w0 : World) (rd : Rd w0 A n (strV ch)) => hid (newSearcher_any N nm ch k q A n c w0 lo hi rd hn hs)
  have GE := fun (W0 : World) (G g z : Nat) (rd : Rd W0 A n (strV ch)) (hset : IsSet W0 g z (quotL (leadL (roundsL N) ch) (leadL (roundsL N) ch))) (hA : ∀ b o, A = some ⟨b, o, none⟩ → b ≠ G) (hgG : g ≠ G) (hG : G < W0.heap.size) (hI : SInv W0 G N nm A n c k.1 k.2 q (trueB (leadL (roundsL N) ch)) g ⟨b, [], [], true⟩ W0) => hid (examine_any W0 G N nm ch k q A n c g z (trueB (leadL (roundsL N) ch)) lo hi rd (by omega) l1 hs hb1 hb2 rfl hset hq hA hgG hG (q + 1) [] ⟨b, [], [], true⟩ W0 (by simp) (by omega) rfl (by simp; omega) hI)
  have RS := hid hr
  have hAlt := hid (show ∀ a o, A = some ⟨a, o, none⟩ → a < w.heap.size from fun a o e => by
    have hlen := hr.1
    rw [strV_len] at hlen
    obtain ⟨a', o', e', hc⟩ := hr.at_ (k := 0) (by omega)
    rw [e] at e'
    injection e' with e'
    injection e' with e1 e2
    rw [e1]
    exact World.block_lt_of_cell? w _ hc)
  obtain ⟨l, hl⟩ := srun_one (cutF N ch k q) q b
  have HL := hid hl
  clear hl
  generalize quotL (leadL (roundsL N) ch) (leadL (roundsL N) ch) = FF at *
  generalize trueB (leadL (roundsL N) ch) = tr at *
  generalize cutF N ch k q = C at *
  obtain ⟨R, hR⟩ : ∃ R, R = srun C q b [[]] [] [] := ⟨_, rfl⟩
  rw [← hR] at HL ⊢
  clear hR
  rw [HL.out] at GE
  obtain ⟨ts, cs, fin⟩ := R
  obtain ⟨k1, k2⟩ := k
  dsimp only at *
  clear hr hs hb1 hb2 l1 ok hg hbud HL
  go_enter Try.func16, Try.ntmps16
  go_wp2_with fail
  obtain ⟨B2, hsz, HC⟩ := box_mkX 34 36 44 w nm k1 k2 (N : Int) (.slice A n c) #[.slice none 0 0, .slice none 0 0, .bool false]
  have R2 := hid (RS.out.below B2)
  have HB2 := hid B2
  have hw2 := B2.size
  generalize (((w.alloc (.cells #[.string (bs nm), .int .i64 (N : Int), .slice A n c] 34)).alloc (.cells #[.string (bs k1), .string (bs k2)] 36)).alloc (.cells #[.slice none 0 0, .slice none 0 0, .bool false] 44)) = W2 at *
  clear B2
  have HHS8 := hid (fun W' (h : Below W2.heap.size W2 W') => (show W'.cell? ⟨w.heap.size, 0, none⟩ = some (.string (bs nm)) ∧ W'.cell? ⟨w.heap.size, 1, none⟩ = some (.int .i64 (N : Int)) ∧ W'.cell? ⟨w.heap.size, 2, none⟩ = some (.slice A n c) ∧ W'.cell? ⟨w.heap.size + 1, 0, none⟩ = some (.string (bs k1)) ∧ W'.cell? ⟨w.heap.size + 1, 1, none⟩ = some (.string (bs k2)) from by
    obtain ⟨⟨X, Y⟩, Z⟩ := HC.out _ h
    exact ⟨X.cell 0, X.cell 1, X.cell 2, Y.cell 0, Y.cell 1⟩))
  obtain ⟨n0, n1, n2, p0, p1⟩ := HHS8.out _ (Below.refl _ _)
  refine (GA _ R2.out).out.mono ?_
  rintro e w1 ⟨rfl, b1⟩
  have E1 := hid b1
  clear b1
  clear n0 n1 n2 p0 p1
  obtain ⟨n0, n1, n2, p0, p1⟩ := HHS8.out _ E1.out
  go_wp2_with fail
  refine (GB _).out.mono ?_
  rintro e w1' ⟨rfl, rfl⟩
  go_wp2_with fail
  refine (GN _ (R2.out.below E1.out)).out.mono ?_
  rintro e w2 ⟨G, g, z, rfl, hBG, hset, hGe, b2⟩
  have E2 := hid (E1.out.trans (b2.mono E1.out.size))
  have hgG := set_ne hset hBG
  have hGl := hBG.lt
  have HBG := hid hBG
  have HST := hid hset
  have HNG := hid hgG
  have f8 := hBG.frozen 8
  have f11 := hBG.frozen 11
  have d8 := hBG.cell 8
  have d11 := hBG.cell 11
  simp only [srchC, List.getElem?_toArray, List.getElem?_cons_zero, List.getElem?_cons_succ] at d8 d11
  clear b2 hset hBG hgG n0 n1 n2 p0 p1
  go_wp2_with fail
  have hs1 := E1.out.size
  have HB3 := hid (show Blk ((w2.setCell ⟨G, 8, none⟩ (.int .i64 (b : Int))).setCell ⟨G, 11, none⟩ (.bool true)) G 71 (srchD nm N A n c k1 k2 q tr g (b : Int) (.slice none 0 0) (.slice none 0 0) true) from (HBG.out.set_ 8 _).set_ 11 _)
  have HG3 := hid (show w2.grownBy ((w2.setCell ⟨G, 8, none⟩ (.int .i64 (b : Int))).setCell ⟨G, 11, none⟩ (.bool true)) (some G) from gset (gset (World.grownBy.refl _ _)))
  have E3 := hid (show Below W2.heap.size W2 ((w2.setCell ⟨G, 8, none⟩ (.int .i64 (b : Int))).setCell ⟨G, 11, none⟩ (.bool true)) from (E2.out.setCell (p := ⟨G, 8, none⟩) (by dsimp only; omega) _).setCell (p := ⟨G, 11, none⟩) (by dsimp only; omega) _)
  clear d8 d11 f8 f11
  generalize ((w2.setCell ⟨G, 8, none⟩ (.int .i64 (b : Int))).setCell ⟨G, 11, none⟩ (.bool true)) = W3 at *
  have HST3 := hid (show IsSet W3 g z FF from World.ownsMap.kept HST.out HG3.out (by intro e; injection e with e; exact HNG.out e))
  have hl3 := HB3.out.lt
  have HI3 := hid (show SInv W3 G N nm A n c k1 k2 q tr g ⟨b, [], [], true⟩ W3 from ⟨_, _, HB3.out, World.ownsRow_nil _ _ _ _, World.ownsRow_nil _ _ _ _, fun b h => by simp [Value.ownBlock] at h, World.grownBy.refl _ _⟩)
  have HSZ := hid hsz
  have hA3 : ∀ b o, A = some ⟨b, o, none⟩ → b ≠ G := fun a o e => by have := hAlt.out a o e; omega
  refine (GE W3 G g z (R2.out.below E3.out) HST3.out hA3 HNG.out hl3 HI3.out).out.mono ?_
  rintro e w4 ⟨rfl, v1, v2, hB4, o1, o2, hne, hg4⟩
  clear hA3 hsz
  obtain ⟨A1, c1, rfl, y1, y2, y3, y4⟩ := own_shape o1
  obtain ⟨A2, c2, rfl, y5, y6, y7, y8⟩ := own_shapeC o2
  clear y1 y2 y3 y4 y5 y6 y7 y8
  have HB4 := hid hB4
  have O1 := hid o1
  have O2 := hid o2
  have HN4 := hid hne
  have HG4 := hid hg4
  have d9 := hB4.cell 9
  have d10 := hB4.cell 10
  have d11 := hB4.cell 11
  simp only [srchD, List.getElem?_toArray, List.getElem?_cons_zero, List.getElem?_cons_succ] at d9 d10 d11
  have hrb : w.heap.size + 1 + 1 < W3.heap.size := by have := HSZ.out; have := E3.out.size; omega
  have hGb : w.heap.size + 1 + 1 < G := by have := HSZ.out; omega
  have RX : Blk w4 (w.heap.size + 1 + 1) 44 #[.slice none 0 0, .slice none 0 0, .bool false] := (hg4.block _ hrb (by intro e; injection e with e; omega)).trans (HC.out _ E3.out).2
  have r0 := RX.cell 0
  have r1 := RX.cell 1
  have r2 := RX.cell 2
  have g0 := RX.frozen 0
  have g1 := RX.frozen 1
  have g2 := RX.frozen 2
  simp only [List.getElem?_toArray, List.getElem?_cons_zero, List.getElem?_cons_succ] at r0 r1 r2
  clear RX hB4 o1 o2 hne hg4

  go_wp2
  refine bodyPost_ret (v := .tuple #[.agg #[.slice A1 ts.length c1, .slice A2 cs.length c2, .bool fin], .bool true]) (by simp [results, Try.results16, go_sem, r0, r1, r2]) rfl ?_
  have hb3 : w.heap.size ≤ W3.heap.size := by omega
  exact ⟨_, _, rfl, own_mono (set3_own O1.out hrb _ _ _) hb3, own_mono (own_set (own_set (own_set O2.out hrb) hrb) hrb) hb3, HN4.out, cset3_below ((HB2.out.trans (E3.out.mono hw2)).grown HG4.out hb3 (fun k e => by injection e with e; omega)) (by omega) _ _ _⟩
set_option maxHeartbeats 1000000 in
theorem implSearch_law (m : Meth) (k : List UInt8 × List UInt8) (q b : Int) (A : Option Addr) (n c : Nat) (w : World) (ok : LawOk m k) (rd : Rd w A n (strV m.ch)) (hcap : n ≤ c) :
    Calls Try.prog 16 #[.agg #[.string (bs m.nm), .int .i64 m.st, .slice A n c], .agg #[.string (bs k.1), .string (bs k.2)], .int .i64 q, .int .i64 b] w (ResF w (foundR m k q b)) := by
  have GA := fun (w0 : World) (rd : Rd w0 A n (strV m.ch)) => hid (goodSearch_any m k q A n c w0 ok rd)
  cases hg0 : callsB m k && searchB q
  · rw [hg0] at GA
    have HR := hid (show foundR m k q b = (([], [], false), false) by unfold foundR; rw [hg0]; rfl)
    have GB := fun (w0 : World) => hid (within_any b 1 5000 w0)
    have RS := hid rd
    obtain ⟨nm, st, ch⟩ := m
    obtain ⟨k1, k2⟩ := k
    dsimp only at *
    clear hg0 ok rd
    go_enter Try.func16, Try.ntmps16
    go_wp2_with fail
    obtain ⟨B2, hsz, HC⟩ := box_mkX 34 36 44 w nm k1 k2 st (.slice A n c) #[.slice none 0 0, .slice none 0 0, .bool false]
    have R2 := hid (RS.out.below B2)
    have HB2 := hid B2
    have hw2 := B2.size
    generalize (((w.alloc (.cells #[.string (bs nm), .int .i64 st, .slice A n c] 34)).alloc (.cells #[.string (bs k1), .string (bs k2)] 36)).alloc (.cells #[.slice none 0 0, .slice none 0 0, .bool false] 44)) = W2 at *
    clear B2
    have HHS8 := hid (fun W' (h : Below W2.heap.size W2 W') => (show W'.cell? ⟨w.heap.size, 0, none⟩ = some (.string (bs nm)) ∧ W'.cell? ⟨w.heap.size, 1, none⟩ = some (.int .i64 st) ∧ W'.cell? ⟨w.heap.size, 2, none⟩ = some (.slice A n c) ∧ W'.cell? ⟨w.heap.size + 1, 0, none⟩ = some (.string (bs k1)) ∧ W'.cell? ⟨w.heap.size + 1, 1, none⟩ = some (.string (bs k2)) from by
      obtain ⟨⟨X, Y⟩, Z⟩ := HC.out _ h
      exact ⟨X.cell 0, X.cell 1, X.cell 2, Y.cell 0, Y.cell 1⟩))
    obtain ⟨n0, n1, n2, p0, p1⟩ := HHS8.out _ (Below.refl _ _)
    refine (GA _ R2.out).out.mono ?_
    rintro e w1 ⟨rfl, b1⟩
    have E1 := hid b1
    clear b1
    clear n0 n1 n2 p0 p1
    obtain ⟨n0, n1, n2, p0, p1⟩ := HHS8.out _ E1.out
    have RX := (HC.out _ (E1.out)).2
    have r0 := RX.cell 0
    have r1 := RX.cell 1
    have r2 := RX.cell 2
    have g0 := RX.frozen 0
    have g1 := RX.frozen 1
    have g2 := RX.frozen 2
    simp only [List.getElem?_toArray, List.getElem?_cons_zero, List.getElem?_cons_succ] at r0 r1 r2
    clear RX hsz
    go_wp2
    refine bodyPost_ret (v := .tuple #[.agg #[.slice none 0 0, .slice none 0 0, .bool false], .bool false]) (by simp [results, Try.results16, go_sem, r0, r1, r2]) rfl ?_
    rw [HR.out]
    exact ResF.none _ _ (cset3_below (HB2.out.trans (E1.out.mono hw2)) (by omega) _ _ _)
  · cases hb0 : budB b
    · rw [hg0] at GA
      have HR := hid (show foundR m k q b = (([], [], false), false) by unfold foundR; rw [hg0, hb0]; rfl)
      have GB := fun (w0 : World) => hid (within_any b 1 5000 w0)
      rw [show (decide ((1 : Int) ≤ b) && decide (b ≤ 5000)) = false from hb0] at GB
      have RS := hid rd
      obtain ⟨nm, st, ch⟩ := m
      obtain ⟨k1, k2⟩ := k
      dsimp only at *
      clear hg0 hb0 ok rd
      go_enter Try.func16, Try.ntmps16
      go_wp2_with fail
      obtain ⟨B2, hsz, HC⟩ := box_mkX 34 36 44 w nm k1 k2 st (.slice A n c) #[.slice none 0 0, .slice none 0 0, .bool false]
      have R2 := hid (RS.out.below B2)
      have HB2 := hid B2
      have hw2 := B2.size
      generalize (((w.alloc (.cells #[.string (bs nm), .int .i64 st, .slice A n c] 34)).alloc (.cells #[.string (bs k1), .string (bs k2)] 36)).alloc (.cells #[.slice none 0 0, .slice none 0 0, .bool false] 44)) = W2 at *
      clear B2
      have HHS8 := hid (fun W' (h : Below W2.heap.size W2 W') => (show W'.cell? ⟨w.heap.size, 0, none⟩ = some (.string (bs nm)) ∧ W'.cell? ⟨w.heap.size, 1, none⟩ = some (.int .i64 st) ∧ W'.cell? ⟨w.heap.size, 2, none⟩ = some (.slice A n c) ∧ W'.cell? ⟨w.heap.size + 1, 0, none⟩ = some (.string (bs k1)) ∧ W'.cell? ⟨w.heap.size + 1, 1, none⟩ = some (.string (bs k2)) from by
        obtain ⟨⟨X, Y⟩, Z⟩ := HC.out _ h
        exact ⟨X.cell 0, X.cell 1, X.cell 2, Y.cell 0, Y.cell 1⟩))
      obtain ⟨n0, n1, n2, p0, p1⟩ := HHS8.out _ (Below.refl _ _)
      refine (GA _ R2.out).out.mono ?_
      rintro e w1 ⟨rfl, b1⟩
      have E1 := hid b1
      clear b1
      clear n0 n1 n2 p0 p1
      obtain ⟨n0, n1, n2, p0, p1⟩ := HHS8.out _ E1.out
      have RX := (HC.out _ (E1.out)).2
      have r0 := RX.cell 0
      have r1 := RX.cell 1
      have r2 := RX.cell 2
      have g0 := RX.frozen 0
      have g1 := RX.frozen 1
      have g2 := RX.frozen 2
      simp only [List.getElem?_toArray, List.getElem?_cons_zero, List.getElem?_cons_succ] at r0 r1 r2
      clear RX hsz
      go_wp2_with fail
      refine (GB _).out.mono ?_
      rintro e w1' ⟨rfl, rfl⟩
      go_wp2
      refine bodyPost_ret (v := .tuple #[.agg #[.slice none 0 0, .slice none 0 0, .bool false], .bool false]) (by simp [results, Try.results16, go_sem, r0, r1, r2]) rfl ?_
      rw [HR.out]
      exact ResF.none _ _ (cset3_below (HB2.out.trans (E1.out.mono hw2)) (by omega) _ _ _)
    · have HR0 := show foundR m k q b = (srun (cutF m.st.toNat m.ch k q.toNat) q.toNat b.toNat [[]] [] [], true) by unfold foundR; rw [hg0, hb0]; rfl
      have hg1 := hg0
      rw [Bool.and_eq_true] at hg0
      have hb1 := callsB_bob hg0.1
      have hb2 := callsB_single hg0.1
      have hmb := callsB_meth (m := m) (k := k) hg0.1
      obtain ⟨N, hN, lo, hi, l1, l40, hs⟩ := meth_parts hmb
      obtain ⟨j, rfl, hj1, hj6⟩ := searchB_nat hg0.2
      obtain ⟨i, rfl, hi1, hi5⟩ := budB_nat hb0
      obtain ⟨nm, st, ch⟩ := m
      dsimp only at *
      subst hN
      simp only [Int.toNat_natCast] at HR0
      rw [HR0]
      have hcn : ch.length = n := by have h1 := rd.1; rw [strV_len] at h1; exact h1
      exact implSearch_main N nm ch k j i A n c w lo hi rd (by omega) l1 hs hb1 hb2 hj1 hj6 hi5 ok hg1 hb0
end Go.Proofs.Ytnkpbahapaocbaa

set_option linter.unusedVariables false
set_option linter.unusedSimpArgs false
set_option maxRecDepth 100000
namespace Go.Proofs.Ytnkpbahapaocbaa
open Go.RowKit

theorem eqCut_any (c : List UInt8 × Int × Int) (w : World) :
    Calls Try.prog 68 #[.agg #[.string (bs c.1), .int .i64 c.2.1, .int .i64 c.2.2], .agg #[.string (bs c.1), .int .i64 c.2.1, .int .i64 c.2.2]] w fun e w' => e = .returned (.bool true) ∧ Below w.heap.size w w' := by
  obtain ⟨s, y, z⟩ := c
  dsimp only
  go_enter Try.func68, Try.ntmps68
  go_wp2
  go_ret
  exact ⟨rfl, ((Below.refl _ _).alloc (Nat.le_refl _) _).alloc (by simp) _⟩
set_option maxHeartbeats 1000000 in
theorem eqCutS_any (A B : Option Addr) (n ca n2 cb : Nat) (l : List (List UInt8 × Int × Int)) (w : World) (ha : RdC w A n l) (hb : RdC w B n2 l) (hn : n ≤ 1048576) :
    Calls Try.prog 38 #[.slice A n ca, .slice B n2 cb] w fun e w' => e = .returned (.bool true) ∧ Below w.heap.size w w' := by
  have hnn : n2 = n := by rw [← ha.1, ← hb.1]
  subst hnn
  have HA := hid ha
  have HB := hid hb
  have HL := hid ha.1
  clear ha hb
  go_enter Try.func38, Try.ntmps38
  go_wp2
  go_loopg [5] n2 (fun gk u wr => ∃ k : Nat, k ≤ n2 ∧ gk = n2 - k ∧ u = .int .i64 k ∧ Below w.heap.size w wr)
  case atStart => exact ⟨0, by omega, by omega, rfl, Below.refl _ _⟩
  case round =>
    obtain ⟨k, hk, rfl, rfl, hb⟩ := hrel
    by_cases hlt : k < n2
    · have hkm : k < l.length := by have := HL.out; omega
      obtain ⟨b1, o1, rfl, x0, x1, x2⟩ := (HA.out.below hb).2 k hkm
      obtain ⟨b2, o2, rfl, y0, y1, y2⟩ := (HB.out.below hb).2 k hkm
      have HE := hid (fun w0 => eqCut_any l[k] w0)
      have HBB := hid hb
      have hbs := hb.size
      have hj0 : (0 : Int) ≤ (k : Int) := by omega
      have hj1 : (k : Int) < (n2 : Int) := by omega
      generalize l[k] = C at *
      obtain ⟨s, y, z⟩ := C
      dsimp only at *
      have HC9 := hid (show ∀ W', Below wr.heap.size wr W' → W'.cell? ⟨b1, o1 + k * 3, none⟩ = some (.string (bs s)) ∧ W'.cell? ⟨b1, o1 + k * 3 + 1, none⟩ = some (.int .i64 y) ∧ W'.cell? ⟨b1, o1 + k * 3 + 2, none⟩ = some (.int .i64 z) ∧ W'.cell? ⟨b2, o2 + k * 3, none⟩ = some (.string (bs s)) ∧ W'.cell? ⟨b2, o2 + k * 3 + 1, none⟩ = some (.int .i64 y) ∧ W'.cell? ⟨b2, o2 + k * 3 + 2, none⟩ = some (.int .i64 z) from fun W' h =>
        ⟨(h.cell (World.block_lt_of_cell? wr _ x0)).trans x0, (h.cell (World.block_lt_of_cell? wr _ x1)).trans x1, (h.cell (World.block_lt_of_cell? wr _ x2)).trans x2, (h.cell (World.block_lt_of_cell? wr _ y0)).trans y0, (h.cell (World.block_lt_of_cell? wr _ y1)).trans y1, (h.cell (World.block_lt_of_cell? wr _ y2)).trans y2⟩)
      clear hb x0 x1 x2 y0 y1 y2
      obtain ⟨z0, z1, z2, z3, z4, z5⟩ := HC9.out _ (Below.refl _ _)
      go_wp2_with fail
      go_region_held3 (fun W' => W'.cell? ⟨b1, o1 + k * 3, none⟩ = some (.string (bs s)) ∧ W'.cell? ⟨b1, o1 + k * 3 + 1, none⟩ = some (.int .i64 y) ∧ W'.cell? ⟨b1, o1 + k * 3 + 2, none⟩ = some (.int .i64 z) ∧ W'.cell? ⟨b2, o2 + k * 3, none⟩ = some (.string (bs s)) ∧ W'.cell? ⟨b2, o2 + k * 3 + 1, none⟩ = some (.int .i64 y) ∧ W'.cell? ⟨b2, o2 + k * 3 + 2, none⟩ = some (.int .i64 z))
        (first | exact HC9.out _ (Below.refl _ _) | exact HC9.out _ (Below.refl _ _).drew | exact HC9.out _ Fa)
        (first | (go_at_call 68; refine (HE.out _).mono ?_; rintro e wa ⟨rfl, ba⟩; have Fa := (Below.refl wr.heap.size wr).drew.trans (ba.mono (Nat.le_refl _))))
      have HFa := hid (HBB.out.trans (Fa.mono hbs))
      clear ba Fa z0 z1 z2 z3 z4 z5
      go_wp2
      go_roundg (n2 - (k + 1))
      case measure => omega
      case rel => exact ⟨k + 1, by omega, rfl, by go_num, HFa.out⟩
    · go_wp2
      go_ret
      exact ⟨rfl, hb⟩
/-- The cuts that markCutS leaves. -/
def marksC (k n : Nat) : List (List UInt8 × Int × Int) := (List.range n).map fun i => (markL (k + 3 * i), ((k + 3 * i + 1 : Nat) : Int), ((k + 3 * i + 2 : Nat) : Int))
theorem marksC_len (k n : Nat) : (marksC k n).length = n := by simp [marksC]
theorem marksC_step (k j : Nat) (l : List (List UInt8 × Int × Int)) (h : j < l.length) :
    (((cutV (marksC k j ++ l.drop j)).set (j * 3) (.string (bs (markL (k + 3 * j))))).set (j * 3 + 1) (.int .i64 ((k + 3 * j + 1 : Nat) : Int))).set (j * 3 + 2) (.int .i64 ((k + 3 * j + 2 : Nat) : Int)) = cutV (marksC k (j + 1) ++ l.drop (j + 1)) := by
  rw [List.drop_eq_getElem_cons h]
  have := cutV_set (marksC k j) (l.drop (j + 1)) l[j] (markL (k + 3 * j), ((k + 3 * j + 1 : Nat) : Int), ((k + 3 * j + 2 : Nat) : Int)) j (marksC_len k j)
  dsimp only at this
  rw [this]
  congr 1
  simp only [marksC, List.range_succ, List.map_append, List.map_cons, List.map_nil, List.append_assoc, List.cons_append, List.nil_append]
set_option maxHeartbeats 1000000 in
theorem markCutS_row (g base n cap k : Nat) (l : List (List UInt8 × Int × Int)) (w : World) (hown : w.ownsRow base 38 3 (.slice (some ⟨g, 0, none⟩) n cap) n (cutV l)) (hk : k + 3 * n ≤ 4194304) :
    Calls Try.prog 40 #[.slice (some ⟨g, 0, none⟩) n cap, .int .i64 (k : Int)] w fun e w' => e = .returned (.int .i64 ((k + 3 * n : Nat) : Int)) ∧ w'.ownsRow base 38 3 (.slice (some ⟨g, 0, none⟩) n cap) n (cutV (marksC k n)) ∧ w.grownBy w' (some g) := by
  have hl := hid (show l.length = n by have := hown.1; rw [cutV_len] at this; omega)
  go_enter Try.func40, Try.ntmps40
  go_wp2
  go_loopg [1, 5] n (fun gk u v wr => ∃ j : Nat, j ≤ n ∧ gk = n - j ∧ u = .int .i64 ((k + 3 * j : Nat) : Int) ∧ v = .int .i64 j ∧ wr.ownsRow base 38 3 (.slice (some ⟨g, 0, none⟩) n cap) n (cutV (marksC k j ++ l.drop j)) ∧ w.grownBy wr (some g))
  case atStart => exact ⟨0, by omega, by omega, by go_num, rfl, by simpa [marksC] using hown, World.grownBy.refl _ _⟩
  case round =>
    obtain ⟨j, hj, rfl, rfl, rfl, ho, hg⟩ := hrel
    by_cases hlt : j < n
    · have hlen : (marksC k j ++ l.drop j).length = n := by simp [marksC]; have := hl.out; omega
      have hj0 : (0 : Int) ≤ (j : Int) := by omega
      have hj1 : (j : Int) < (n : Int) := by omega
      have HT1 := hid (markText_any ((k + 3 * j : Nat) : Int) (k + 3 * j) wr rfl (by omega))
      have HG := hid hg
      have HO := hid ho
      obtain ⟨K, hK⟩ : ∃ K, K = k + 3 * j := ⟨_, rfl⟩
      have HKE := hid hK
      rw [← hK] at HT1 ⊢
      have hKb : K ≤ 4194304 := by omega
      have HLE := hid hlen
      clear hg ho hK hlen
      have hw1 : IntKind.i64.wrap ((K : Int) + 1) = (K : Int) + 1 := IntWalk.i64_in _ (by omega)
      have hw2 : IntKind.i64.wrap ((K : Int) + 1 + 1) = (K : Int) + 1 + 1 := IntWalk.i64_in _ (by omega)
      go_wp2_with fail
      refine HT1.out.mono ?_
      rintro e w1 ⟨rfl, b1⟩
      have ho1 := own_below HO.out b1
      obtain ⟨q0, q1, q2⟩ := cutV_at _ j (by rw [HLE.out]; exact hlt)
      have c0 := (ho1.cellAt (j * 3) (by omega)).trans q0
      have c1 := (ho1.cellAt (j * 3 + 1) (by omega)).trans q1
      have c2 := (ho1.cellAt (j * 3 + 2) (by omega)).trans q2
      have f0 := ho1.frozenAt (j * 3)
      have f1 := ho1.frozenAt (j * 3 + 1)
      have f2 := ho1.frozenAt (j * 3 + 2)
      have HO1 := hid ho1
      have HB1 := hid b1
      have HGL := hid ((ho1.lt g rfl).2)
      clear q0 q1 q2 ho1 b1
      go_wp2
      go_roundg (n - (j + 1))
      case measure => omega
      case rel =>
        have s1 := HO1.out.stored (j * 3) (.string (bs (markL K)))
        have s2 := s1.1.stored (j * 3 + 1) (.int .i64 ((K : Int) + 1))
        have s3 := s2.1.stored (j * 3 + 2) (.int .i64 ((K : Int) + 1 + 1))
        have h1 := s3.1
        have h2 := marksC_step k j l (by have := hl.out; omega)
        have hK := HKE.out
        rw [← hK] at h2
        have e1 : ((K + 1 : Nat) : Int) = (K : Int) + 1 := by omega
        have e2 : ((K + 2 : Nat) : Int) = (K : Int) + 1 + 1 := by omega
        rw [e1, e2] at h2
        rw [h2] at h1
        exact ⟨j + 1, by omega, rfl, by first | go_num | (congr 2; omega), by go_num, h1, HG.out.trans (((grown_below HB1.out s1.2).trans s2.2).trans s3.2)⟩
    · obtain rfl : j = n := by omega
      rw [List.drop_of_length_le (by rw [hl.out]; omega), List.append_nil] at ho
      have HO := hid ho
      clear ho
      go_wp2
      go_ret
      exact ⟨rfl, HO.out, hg⟩
theorem markCutS_nil (k : Nat) (w : World) (hk : k ≤ 4194304) :
    Calls Try.prog 40 #[.slice none 0 0, .int .i64 k] w fun e w' => e = .returned (.int .i64 (k : Int)) ∧ w = w' := by
  go_enter Try.func40, Try.ntmps40
  go_wp2
  go_rounds 1
  go_ret
  exact ⟨rfl, rfl⟩
theorem markCutS_any (base n : Nat) (k : Nat) (l : List (List UInt8 × Int × Int)) (v : Value) (w : World) (hown : w.ownsRow base 38 3 v n (cutV l)) (hk : k + 3 * n ≤ 4194304) :
    Calls Try.prog 40 #[v, .int .i64 (k : Int)] w fun e w' => e = .returned (.int .i64 ((k + 3 * n : Nat) : Int)) ∧ w'.ownsRow base 38 3 v n (cutV (marksC k n)) ∧ w.grownBy w' v.ownBlock := by
  rcases hown.2 with ⟨rfl, rfl⟩ | ⟨g, cap, cur, rfl, _⟩
  · refine (markCutS_nil k w (by omega)).mono ?_
    rintro e w' ⟨rfl, rfl⟩
    exact ⟨rfl, World.ownsRow_nil _ _ _ _, World.grownBy.refl _ _⟩
  · exact markCutS_row g base n cap k l w hown hk
set_option maxHeartbeats 1000000 in
theorem heldCutS_any (A : Option Addr) (n c : Nat) (k : Nat) (w : World) (h : RdC w A n (marksC k n)) (hk : k + 3 * n ≤ 4194304) :
    Calls Try.prog 42 #[.slice A n c, .int .i64 (k : Int)] w fun e w' => e = .returned (.int .i64 ((k + 3 * n : Nat) : Int)) ∧ Below w.heap.size w w' := by
  have HA := hid h
  clear h
  go_enter Try.func42, Try.ntmps42
  go_wp2
  go_loopg [1, 5] n (fun gk u v wr => ∃ j : Nat, j ≤ n ∧ gk = n - j ∧ u = .int .i64 ((k + 3 * j : Nat) : Int) ∧ v = .int .i64 j ∧ Below w.heap.size w wr)
  case atStart => exact ⟨0, by omega, by omega, by go_num, rfl, Below.refl _ _⟩
  case round =>
    obtain ⟨j, hj, rfl, rfl, rfl, hb⟩ := hrel
    by_cases hlt : j < n
    · have hjm : j < (marksC k n).length := by rw [marksC_len]; exact hlt
      obtain ⟨b, o, rfl, x0, x1, x2⟩ := (HA.out.below hb).2 j hjm
      have e0 : (marksC k n)[j] = (markL (k + 3 * j), ((k + 3 * j + 1 : Nat) : Int), ((k + 3 * j + 2 : Nat) : Int)) := by simp [marksC]
      rw [e0] at x0 x1 x2
      dsimp only at x0 x1 x2
      have HT1 := fun (w0 : World) => hid (markText_any ((k + 3 * j : Nat) : Int) (k + 3 * j) w0 rfl (by omega))
      obtain ⟨K, hK⟩ : ∃ K, K = k + 3 * j := ⟨_, rfl⟩
      have HKE := hid hK
      rw [← hK] at HT1 x0 x1 x2 ⊢
      have e1 : ((K + 1 : Nat) : Int) = (K : Int) + 1 := by omega
      have e2 : ((K + 2 : Nat) : Int) = (K : Int) + 1 + 1 := by omega
      rw [e1] at x1
      rw [e2] at x2
      have hKb : K ≤ 4194304 := by omega
      have HBB := hid hb
      have hbs := hb.size
      have hj0 : (0 : Int) ≤ (j : Int) := by omega
      have hj1 : (j : Int) < (n : Int) := by omega
      have hw1 : IntKind.i64.wrap ((K : Int) + 1) = (K : Int) + 1 := IntWalk.i64_in _ (by omega)
      have hw2 : IntKind.i64.wrap ((K : Int) + 1 + 1) = (K : Int) + 1 + 1 := IntWalk.i64_in _ (by omega)
      have HC9 := hid (show ∀ W', Below wr.heap.size wr W' → W'.cell? ⟨b, o + j * 3, none⟩ = some (.string (bs (markL K))) ∧ W'.cell? ⟨b, o + j * 3 + 1, none⟩ = some (.int .i64 ((K : Int) + 1)) ∧ W'.cell? ⟨b, o + j * 3 + 2, none⟩ = some (.int .i64 ((K : Int) + 1 + 1)) from fun W' h =>
        ⟨(h.cell (World.block_lt_of_cell? wr _ x0)).trans x0, (h.cell (World.block_lt_of_cell? wr _ x1)).trans x1, (h.cell (World.block_lt_of_cell? wr _ x2)).trans x2⟩)
      clear hb hK e0 e1 e2 x0 x1 x2
      obtain ⟨z0, z1, z2⟩ := HC9.out _ (Below.refl _ _)
      go_wp2_with fail
      go_region_held3 (fun W' => W'.cell? ⟨b, o + j * 3, none⟩ = some (.string (bs (markL K))))
        (first | exact (HC9.out _ (Below.refl _ _)).1 | exact (HC9.out _ (Below.refl _ _).drew).1 | exact (HC9.out _ Fa).1)
        (first | (go_at_call 69; refine (HT1 _).out.mono ?_; rintro e wa ⟨rfl, ba⟩; have Fa := (Below.refl wr.heap.size wr).drew.trans (ba.mono (Nat.le_refl _))))
      have HFa := hid (HBB.out.trans (Fa.mono hbs))
      obtain ⟨_, y1, y2⟩ := HC9.out _ Fa
      clear ba Fa z0 z1 z2
      go_wp2
      go_roundg (n - (j + 1))
      case measure => omega
      case rel =>
        have hK := HKE.out
        exact ⟨j + 1, by omega, rfl, by first | go_num | (congr 2; omega), by go_num, HFa.out⟩
    · obtain rfl : j = n := by omega
      go_wp2
      go_ret
      exact ⟨rfl, hb⟩

/-- The cells of what was found. -/
theorem eqFound_any (A A' B B' : Option Addr) (n n' m m' ca ca' cb cb' : Nat) (ok : Bool) (ts : List (List UInt8)) (cs : List (List UInt8 × Int × Int)) (w : World) (h1 : Rd w A n (strV ts)) (h2 : Rd w A' n' (strV ts)) (h3 : RdC w B m cs) (h4 : RdC w B' m' cs) (hn : n ≤ 1048576) (hm : m ≤ 1048576) :
    Calls Try.prog 17 #[.agg #[.slice A n ca, .slice B m cb, .bool ok], .agg #[.slice A' n' ca', .slice B' m' cb', .bool ok]] w fun e w' => e = .returned (.bool true) ∧ Below w.heap.size w w' := by
  have hnn : n' = n := by have h1 := h1.1; have h2 := h2.1; omega
  have hmm : m' = m := by rw [← h3.1, ← h4.1]
  subst hnn hmm
  have HE := hid (fun w0 (h1 : Rd w0 A n' (strV ts)) (h2 : Rd w0 A' n' (strV ts)) => (eqStringS_any A A' n' n' ca ca' ts ts w0 h1 h2 (by omega) (by omega)).mono (fun e w' h => (⟨h.1.trans (ret_bool (decide_eq_true rfl)), h.2⟩ : e = .returned (.bool true) ∧ ∃ k, w' = w0.drewN k)))
  have HC := hid (fun w0 (h1 : RdC w0 B m' cs) (h2 : RdC w0 B' m' cs) => eqCutS_any B B' m' cb m' cb' cs w0 h1 h2 hm)
  have R1 := hid h1
  have R2 := hid h2
  have R3 := hid h3
  have R4 := hid h4
  clear h1 h2 h3 h4
  go_enter Try.func17, Try.ntmps17
  go_wp2_with fail
  have Z2 := (Blk.new w 44 #[.slice A n' ca, .slice B m' cb, .bool ok]).alloc (.cells #[.slice A' n' ca', .slice B' m' cb', .bool ok] 44)
  have Z3 := Blk.new (w.alloc (.cells #[.slice A n' ca, .slice B m' cb, .bool ok] 44)) 44 #[.slice A' n' ca', .slice B' m' cb', .bool ok]
  have B2 : Below w.heap.size w ((w.alloc (.cells #[.slice A n' ca, .slice B m' cb, .bool ok] 44)).alloc (.cells #[.slice A' n' ca', .slice B' m' cb', .bool ok] 44)) := ((Below.refl _ _).alloc (Nat.le_refl _) _).alloc (by simp) _
  have hsz : ((w.alloc (.cells #[.slice A n' ca, .slice B m' cb, .bool ok] 44)).alloc (.cells #[.slice A' n' ca', .slice B' m' cb', .bool ok] 44)).heap.size = w.heap.size + 2 := by simp
  rw [show (w.alloc (.cells #[.slice A n' ca, .slice B m' cb, .bool ok] 44)).heap.size = w.heap.size + 1 by simp] at Z3
  generalize ((w.alloc (.cells #[.slice A n' ca, .slice B m' cb, .bool ok] 44)).alloc (.cells #[.slice A' n' ca', .slice B' m' cb', .bool ok] 44)) = W2 at *
  have HB2 := hid B2
  have HZ2 := hid Z2
  have HZ3 := hid Z3
  clear B2 Z2 Z3
  refine (HE.out _ (R1.out.below HB2.out) (R2.out.below HB2.out)).mono ?_
  rintro e w1 ⟨rfl, q, rfl⟩
  have F1 : Below W2.heap.size W2 (W2.drewN q) := below_drewN (Below.refl _ _) q
  have HF1 := hid F1
  have X2 := HZ2.out.below F1 (by omega)
  have X3 := HZ3.out.below F1 (by omega)
  generalize W2.drewN q = W3 at *
  have x0 := X2.cell 0
  have x1 := X2.cell 1
  have x2 := X2.cell 2
  have y0 := X3.cell 0
  have y1 := X3.cell 1
  have y2 := X3.cell 2
  simp only [List.getElem?_toArray, List.getElem?_cons_zero, List.getElem?_cons_succ] at x0 x1 x2 y0 y1 y2
  clear X2 X3 F1
  go_wp2_with fail
  have HB3 := hid (HB2.out.trans (HF1.out.mono HB2.out.size))
  refine (HC.out _ (R3.out.below HB3.out) (R4.out.below HB3.out)).mono ?_
  rintro e w4 ⟨rfl, b4⟩
  have HB4 := hid b4
  have k2 := (b4.cell (World.block_lt_of_cell? _ _ x2)).trans x2
  have k5 := (b4.cell (World.block_lt_of_cell? _ _ y2)).trans y2
  clear b4 x0 x1 x2 y0 y1 y2
  go_wp2
  go_ret
  exact ⟨rfl, HB3.out.trans (HB4.out.mono HB3.out.size)⟩
theorem markFound_any (base : Nat) (v1 v2 : Value) (n m : Nat) (ok : Bool) (ts : List (List UInt8)) (cs : List (List UInt8 × Int × Int)) (w : World) (o1 : w.ownsRow base 9 1 v1 n (strV ts)) (o2 : w.ownsRow base 38 3 v2 m (cutV cs)) (hne : ∀ q, v1.ownBlock = some q → v2.ownBlock = some q → False) (hn : n ≤ 1000000) (hm : m ≤ 1000000) (hb : base ≤ w.heap.size) :
    Calls Try.prog 19 #[.agg #[v1, v2, .bool ok], .int .i64 1] w fun e w' => e = .returned (.int .i64 ((1 + n + 3 * m : Nat) : Int)) ∧ w'.ownsRow base 9 1 v1 n (strV (marksS 1 n)) ∧ w'.ownsRow base 38 3 v2 m (cutV (marksC (1 + n) m)) ∧ Below base w w' ∧ (∀ (G : Nat) (t : TypeId) (cs : Array Value), Blk w G t cs → v1.ownBlock ≠ some G → v2.ownBlock ≠ some G → Blk w' G t cs) := by
  have HM := fun (w0 : World) (o0 : w0.ownsRow base 9 1 v1 n (strV ts)) => hid (markStringS_any base n 1 1 ts v1 w0 o0 rfl (by omega))
  have HC := fun (w0 : World) (o0 : w0.ownsRow base 38 3 v2 m (cutV cs)) => hid (markCutS_any base m (1 + n) cs v2 w0 o0 (by omega))
  have HO := hid o1
  have HP := hid o2
  have HN := hid hne
  obtain ⟨A, c, rfl, _⟩ := own_shape o1
  obtain ⟨B, d, rfl, _⟩ := own_shapeC o2
  have hl1 := hid (o1.lt)
  have hl2 := hid (o2.lt)
  clear o1 o2 hne
  go_enter Try.func19, Try.ntmps19
  go_wp2_with fail
  have Z2 := Blk.new w 44 #[.slice A n c, .slice B m d, .bool ok]
  have B2 : Below w.heap.size w (w.alloc (.cells #[.slice A n c, .slice B m d, .bool ok] 44)) := (Below.refl _ _).alloc (Nat.le_refl _) _
  have O2 := hid (HO.out.alloc (.cells #[.slice A n c, .slice B m d, .bool ok] 44))
  have P2 := hid (HP.out.alloc (.cells #[.slice A n c, .slice B m d, .bool ok] 44))
  generalize (w.alloc (.cells #[.slice A n c, .slice B m d, .bool ok] 44)) = W2 at *
  have HB2 := hid B2
  have HZ2 := hid Z2
  clear B2 Z2
  refine (HM _ O2.out).out.mono ?_
  rintro e w1 ⟨rfl, o1, g1⟩
  have HG1 := hid g1
  have HO1 := hid o1
  have hb1 := g1.block w.heap.size HZ2.out.lt (fun e => by have := (hl1.out _ e.symm).2; omega)
  have X2 : Blk w1 w.heap.size 44 #[.slice A n c, .slice B m d, .bool ok] := hb1.trans HZ2.out
  have x0 := X2.cell 0
  have x1 := X2.cell 1
  have x2 := X2.cell 2
  simp only [List.getElem?_toArray, List.getElem?_cons_zero, List.getElem?_cons_succ] at x0 x1 x2
  have P1 := hid (own_other P2.out g1 (fun q e1 e2 => by first | exact HN.out q e2 e1 | exact HN.out q e1 e2))
  clear g1 o1 hb1 X2
  go_wp2_with fail
  refine (HC _ P1.out).out.mono ?_
  rintro e w2 ⟨rfl, p2, g2⟩
  have HG2 := hid g2
  have HP2 := hid p2
  clear g2 p2 x0 x1 x2
  go_wp2
  go_ret
  refine ⟨rfl, own_other HO1.out HG2.out (fun q e1 e2 => by first | exact HN.out q e2 e1 | exact HN.out q e1 e2), HP2.out, ?_, ?_⟩
  rotate_left
  · intro g t cs h n1 n2
    have h1 := h.below HB2.out h.lt
    have h2 : Blk w1 g t cs := (HG1.out.block g h1.lt (fun e => n1 e.symm)).trans h1
    exact (HG2.out.block g h2.lt (fun e => n2 e.symm)).trans h2
  have s1 := HB2.out.size
  have s2 := HG1.out.size
  exact ((HB2.out.mono hb).trans (below_of_grown O2.out HG1.out (by omega))).trans (below_of_grown P1.out HG2.out (by omega))
theorem heldFound_any (A B : Option Addr) (n m ca cb : Nat) (ok : Bool) (w : World) (h1 : Rd w A n (strV (marksS 1 n))) (h2 : RdC w B m (marksC (1 + n) m)) (hn : n ≤ 1000000) (hm : m ≤ 1000000) :
    Calls Try.prog 20 #[.agg #[.slice A n ca, .slice B m cb, .bool ok], .int .i64 1] w fun e w' => e = .returned (.int .i64 ((1 + n + 3 * m : Nat) : Int)) ∧ Below w.heap.size w w' := by
  have HM := fun (w0 : World) (r0 : Rd w0 A n (strV (marksS 1 n))) => hid (heldStringS_any A n ca 1 1 w0 r0 rfl (by omega))
  have HC := fun (w0 : World) (r0 : RdC w0 B m (marksC (1 + n) m)) => hid (heldCutS_any B m cb (1 + n) w0 r0 (by omega))
  have R1 := hid h1
  have R2 := hid h2
  clear h1 h2
  go_enter Try.func20, Try.ntmps20
  go_wp2_with fail
  have Z2 := Blk.new w 44 #[.slice A n ca, .slice B m cb, .bool ok]
  have B2 : Below w.heap.size w (w.alloc (.cells #[.slice A n ca, .slice B m cb, .bool ok] 44)) := (Below.refl _ _).alloc (Nat.le_refl _) _
  have hsz : (w.alloc (.cells #[.slice A n ca, .slice B m cb, .bool ok] 44)).heap.size = w.heap.size + 1 := by simp
  generalize (w.alloc (.cells #[.slice A n ca, .slice B m cb, .bool ok] 44)) = W2 at *
  have HB2 := hid B2
  have HZ2 := hid Z2
  clear B2 Z2
  refine (HM _ (R1.out.below HB2.out)).out.mono ?_
  rintro e w1 ⟨rfl, b1⟩
  have HB1 := hid b1
  have X2 := HZ2.out.below b1 (by omega)
  have x0 := X2.cell 0
  have x1 := X2.cell 1
  have x2 := X2.cell 2
  simp only [List.getElem?_toArray, List.getElem?_cons_zero, List.getElem?_cons_succ] at x0 x1 x2
  clear b1 X2
  have hneg : ¬ ((1 + n : Nat) : Int) < 0 := by omega
  have HB3 := hid (HB2.out.trans (HB1.out.mono HB2.out.size))
  go_wp2_with fail
  refine (HC _ (R2.out.below HB3.out)).out.mono ?_
  rintro e w2 ⟨rfl, b2⟩
  have HB4 := hid b2
  have hneg2 : ¬ ((1 + n + 3 * m : Nat) : Int) < 0 := by omega
  clear b2 x0 x1 x2
  go_wp2
  go_ret
  exact ⟨rfl, HB3.out.trans (HB4.out.mono HB3.out.size)⟩
end Go.Proofs.Ytnkpbahapaocbaa

set_option linter.unusedVariables false
set_option linter.unusedSimpArgs false
set_option maxRecDepth 100000
namespace Go.Proofs.Ytnkpbahapaocbaa
open Go.RowKit

theorem below_go {X Y Z : World} (h : Below X.heap.size X Y) (h2 : Below Y.heap.size Y Z) : Below X.heap.size X Z := h.trans (h2.mono h.size)
theorem below_al {X Y : World} (h : Below X.heap.size X Y) (o : Obj) : Below X.heap.size X (Y.alloc o) := h.alloc h.size o
theorem below_mid {X Y Z : World} {o : Obj} (h : Below X.heap.size X Y) (h2 : Below (Y.alloc o).heap.size (Y.alloc o) Z) : Below X.heap.size X Z := below_go (below_al h o) h2
theorem own_rd {w : World} {base n c : Nat} {A : Option Addr} {xs : List Value} (h : w.ownsRow base 9 1 (.slice A n c) n xs) : Rd w A n xs := by
  obtain ⟨A', c', e', _, _, rd', _⟩ := own_shape h
  obtain ⟨rfl, rfl⟩ : A = A' ∧ c = c' := by injection e' with e1 e2 e3; exact ⟨e1, e3⟩
  exact rd'
theorem own_rdC {w : World} {base n c : Nat} {A : Option Addr} {l : List (List UInt8 × Int × Int)} (h : w.ownsRow base 38 3 (.slice A n c) n (cutV l)) : RdC w A n l := by
  obtain ⟨A', c', e', _, _, rd', _⟩ := own_shapeC h
  obtain ⟨rfl, rfl⟩ : A = A' ∧ c = c' := by injection e' with e1 e2 e3; exact ⟨e1, e3⟩
  exact rd'
theorem foundR_le (m : Meth) (k : List UInt8 × List UInt8) (q b : Int) : (foundR m k q b).1.1.length ≤ 1000000 ∧ (foundR m k q b).1.2.1.length ≤ 1000000 := by
  unfold foundR
  split
  · rename_i h
    rw [Bool.and_eq_true] at h
    obtain ⟨j, rfl, h1, h5⟩ := budB_nat h.2
    have := srun_room (cutF m.st.toNat m.ch k q.toNat) q.toNat j [[]] [] []
    simp only [List.length_nil] at this
    constructor
    · show (srun _ _ _ _ _ _).1.length ≤ _
      simp only [Int.toNat_natCast]; omega
    · show (srun _ _ _ _ _ _).2.1.length ≤ _
      simp only [Int.toNat_natCast]; omega
  · simp
/-- What was found, its parts named. -/
def ResFx (w : World) (ts : List (List UInt8)) (cs : List (List UInt8 × Int × Int)) (fin ok : Bool) (e : Ending) (w' : World) : Prop :=
  ∃ v1 v2, e = .returned (.tuple #[.agg #[v1, v2, .bool fin], .bool ok]) ∧ w'.ownsRow w.heap.size 9 1 v1 ts.length (strV ts) ∧ w'.ownsRow w.heap.size 38 3 v2 cs.length (cutV cs) ∧ (∀ b, v1.ownBlock = some b → v2.ownBlock = some b → False) ∧ Below w.heap.size w w'
theorem ResF.x {w : World} {ts : List (List UInt8)} {cs : List (List UInt8 × Int × Int)} {fin ok : Bool} {e : Ending} {w' : World} (h : ResF w ((ts, cs, fin), ok) e w') : ResFx w ts cs fin ok e w' := h
/-- A box holds what was found; its rows are the call's own. -/
def BoxF (W : World) (ts : List (List UInt8)) (cs : List (List UInt8 × Int × Int)) (fin : Bool) (s : Value) (Z : World) : Prop := ∃ (G : Nat) (A : Option Addr) (c : Nat) (B : Option Addr) (d : Nat), s = .pointer (some ⟨G, 0, none⟩) ∧ Blk Z G 44 #[.slice A ts.length c, .slice B cs.length d, .bool fin] ∧ Below W.heap.size W Z ∧ Z.ownsRow W.heap.size 9 1 (.slice A ts.length c) ts.length (strV ts) ∧ Z.ownsRow W.heap.size 38 3 (.slice B cs.length d) cs.length (cutV cs) ∧ (∀ q, (Value.slice A ts.length c).ownBlock = some q → q ≠ G) ∧ (∀ q, (Value.slice B cs.length d).ownBlock = some q → q ≠ G) ∧ (∀ q, (Value.slice A ts.length c).ownBlock = some q → (Value.slice B cs.length d).ownBlock = some q → False) ∧ W.heap.size ≤ G
set_option maxHeartbeats 4000000 in
theorem LawSearchTouches.walk (v : Value) (m : Meth) (u : Value) (k : List UInt8 × List UInt8) (q : Int) (bud : Int) (w : World) (hv : InMethod w v m) (hu : InCalls w u k) (wq : (Lit.int .i64 q).wf = true) (wbud : (Lit.int .i64 bud).wf = true) :
    Calls Try.prog 4 #[v, u, .int .i64 q, .int .i64 bud] w fun e w' => e = .returned (.bool true) ∧ Below w.heap.size w w' := by
  obtain ⟨nm, st, ch⟩ := m
  obtain ⟨k1, k2⟩ := k
  have SZ := fun left w0 (hw0 : InMethod w0 v ⟨nm, st, ch⟩) h0 h1 => hid (szMethod_any ⟨nm, st, ch⟩ v left w0 hw0 h0 h1)
  have HIM := hid (fun (w0 : World) (hb : Below w.heap.size w w0) => inMethod_below hv hb)
  obtain ⟨_, rfl, hn, wst, A, n, c, rfl, hn2, hr, hs⟩ := hv
  obtain ⟨rfl, hk1, hk2⟩ := hu
  have SK := fun left w0 h0 h1 => hid (szCalls_any (k1, k2) left w0 hk1 hk2 h0 h1)
  dsimp only at *
  have hln : ch.length = n := by have := hr.1; rw [strV_len] at this; exact this
  have HR := hid hr
  have HS := hid hs
  clear hr hs
  go_enter Try.func4, Try.ntmps4
  go_wp2_with fail
  obtain ⟨B2, hsz, HC⟩ := box_mk2 24 26 w nm k1 k2 st (.slice A n c)
  generalize ((w.alloc (.cells #[.string (bs nm), .int .i64 st, .slice A n c] 24)).alloc (.cells #[.string (bs k1), .string (bs k2)] 26)) = W2 at *
  have HB2 := hid B2
  have HIM2 := hid (HIM.out W2 B2)
  have R2 := hid (HR.out.below B2)
  have hw2 : w.heap.size ≤ W2.heap.size := B2.size
  clear B2 hsz
  refine (SZ _ _ HIM2.out (by decide) (by decide)).out.mono ?_
  rintro e w1 ⟨r, rfl, b1, hr1, hr2⟩
  have HB1 := hid b1
  have hs1 := b1.size
  obtain ⟨⟨m0, m1, m2⟩, q0, q1⟩ := HC.out _ b1
  clear b1
  by_cases hneg : r < 0
  · go_wp2
    go_ret
    exact ⟨rfl, HB2.out.trans (HB1.out.mono hw2)⟩
  have hsum := hr2 (by omega)
  have r1 : r ≤ 1048576 := by omega
  have r0 : 0 ≤ r := by omega
  clear hr1 hr2
  have HSUM := hid hsum
  clear hsum
  go_wp2_with fail
  refine (SK _ _ r0 r1).out.mono ?_
  rintro e ws ⟨r', rfl, bs', hr1', hr2'⟩
  have HBs := hid (HB1.out.trans (bs'.mono hs1))
  obtain ⟨⟨m0', m1', m2'⟩, q0', q1'⟩ := HC.out _ HBs.out
  clear bs'
  by_cases hneg' : r' < 0
  · go_wp2
    go_ret
    exact ⟨rfl, HB2.out.trans (HBs.out.mono hw2)⟩
  have hsum' := hr2' (by omega)
  have hsum := HSUM.out
  clear hr1' hr2'
  have OK : LawOk ⟨nm, st, ch⟩ (k1, k2) := ⟨wst, by dsimp only; omega, by dsimp only; omega, fun s h => by have := totL_mem h; dsimp only at *; omega, by dsimp only; omega, by dsimp only; omega⟩
  have HOK := hid OK
  have hn1 : n ≤ 1048576 := by omega
  clear OK hsum hsum' HSUM hln
  have TM := fun w0 (b0 : Below W2.heap.size W2 w0) => hid (toMethod_any ⟨nm, st, ch⟩ A n c w0 (R2.out.below b0) hn1)
  have TK := fun w0 => hid (toCalls_any (k1, k2) w0)
  have SP := fun A0 c0 w0 (rd : Rd w0 A0 ch.length (strV ch)) (hc0 : ch.length ≤ c0) => hid (specSearch_law ⟨nm, st, ch⟩ (k1, k2) q bud A0 ch.length c0 w0 HOK.out rd hc0)
  have IM := fun A0 c0 w0 (rd : Rd w0 A0 ch.length (strV ch)) (hc0 : ch.length ≤ c0) => hid (implSearch_law ⟨nm, st, ch⟩ (k1, k2) q bud A0 ch.length c0 w0 HOK.out rd hc0)
  have HS5 : ∀ W', Below W2.heap.size W2 W' → W'.cell? ⟨w.heap.size, 0, none⟩ = some (.string (bs nm)) ∧ W'.cell? ⟨w.heap.size, 1, none⟩ = some (.int .i64 st) ∧ W'.cell? ⟨w.heap.size, 2, none⟩ = some (.slice A n c) ∧ W'.cell? ⟨w.heap.size + 1, 0, none⟩ = some (.string (bs k1)) ∧ W'.cell? ⟨w.heap.size + 1, 1, none⟩ = some (.string (bs k2)) := fun W' h => by
    obtain ⟨⟨a0, a1, a2⟩, a3, a4⟩ := HC.out _ h
    exact ⟨a0, a1, a2, a3, a4⟩
  have HHS5 := hid HS5
  clear HS5
  clear m0 m1 m2 q0 q1 m0' m1' m2' q0' q1'
  obtain ⟨R, hRR⟩ : ∃ R, R = foundR ⟨nm, st, ch⟩ (k1, k2) q bud := ⟨_, rfl⟩
  have hzs : R.1.1.length ≤ 1000000 ∧ R.1.2.1.length ≤ 1000000 := by rw [hRR]; exact foundR_le _ _ _ _
  rw [← hRR] at SP IM
  obtain ⟨⟨ts, cs, fin⟩, ok⟩ := R
  dsimp only at hzs
  have HLT1 : ts.length ≤ 1000000 := hzs.1
  have HLT2 : cs.length ≤ 1000000 := hzs.2
  clear hRR hzs
  have HSs := hid (fun W' (h : Below ws.heap.size ws W') => HHS5.out W' (HBs.out.trans (h.mono HBs.out.size)))
  have TMs := fun w0 (b0 : Below ws.heap.size ws w0) => TM w0 (HBs.out.trans (b0.mono HBs.out.size))
  obtain ⟨n0, n1, n2, p0, p1⟩ := HHS5.out _ HBs.out
  go_wp2_with fail
  have F0 : Below ws.heap.size ws ws.drew := (Below.refl _ _).drew
  go_cut [10, 11] (fun s8 s9 wx => BoxF ws ts cs fin s8 wx ∧ s9 = .bool ok)
  case first =>
    go_region_held3 (fun w' => w'.cell? ⟨w.heap.size, 0, none⟩ = some (.string (bs nm)) ∧ w'.cell? ⟨w.heap.size, 1, none⟩ = some (.int .i64 st) ∧ w'.cell? ⟨w.heap.size, 2, none⟩ = some (.slice A n c) ∧ w'.cell? ⟨w.heap.size + 1, 0, none⟩ = some (.string (bs k1)) ∧ w'.cell? ⟨w.heap.size + 1, 1, none⟩ = some (.string (bs k2)))
      (first | exact HSs.out _ (Below.refl _ _) | exact HSs.out _ F0 | exact HSs.out _ (below_al F0 _) | exact HSs.out _ Fa | exact HSs.out _ (below_al Fa _) | exact HSs.out _ Fb | exact HSs.out _ (below_al Fb _) | exact HSs.out _ Fc | exact HSs.out _ (below_al Fc _) | exact HSs.out _ (set3_below Fc (Nat.le_refl _) _ _ _) | exact HSs.out _ (set3_below Fc Fa.size _ _ _) | exact HSs.out _ (set3_below Fc Fb.size _ _ _) | exact HSs.out _ (set3_below Fc Fc.size _ _ _) | exact HSs.out _ (set3_below (below_al Fc _) (Nat.le_refl _) _ _ _) | exact HSs.out _ (set3_below (below_al Fc _) Fa.size _ _ _) | exact HSs.out _ (set3_below (below_al Fc _) Fb.size _ _ _) | exact HSs.out _ (set3_below (below_al Fc _) Fc.size _ _ _))
      (first | (go_at_call 10; refine (TMs _ (by first | exact F0 | exact below_al F0 _)).out.mono ?_; rintro e wa ⟨va, rfl, oa, ba⟩; obtain ⟨Aa, ca, rfl, hca, _, rda, _⟩ := own_shape oa; have Fa : Below ws.heap.size ws wa := (by first | exact below_go F0 ba | exact below_mid F0 ba); first | (have Za : Blk wa ws.heap.size 44 #[.slice none 0 0, .slice none 0 0, .bool false] := (Blk.new ws.drew 44 #[.slice none 0 0, .slice none 0 0, .bool false]).below ba (Blk.new ws.drew 44 #[.slice none 0 0, .slice none 0 0, .bool false]).lt) | skip) | (go_at_call 11; refine (TK _).out.mono ?_; rintro e wb ⟨rfl, bb⟩; have Fb : Below ws.heap.size ws wb := (by first | exact below_go Fa bb | exact below_mid Fa bb); have rdb : Rd wb Aa ch.length (strV ch) := (by first | exact rda.below bb | exact (rda.alloc _).below bb); first | (have Zb := Za.below bb Za.lt) | (have Zb : Blk wb wa.heap.size 44 #[.slice none 0 0, .slice none 0 0, .bool false] := (Blk.new wa 44 #[.slice none 0 0, .slice none 0 0, .bool false]).below bb (Blk.new wa 44 #[.slice none 0 0, .slice none 0 0, .bool false]).lt) | skip) | (go_at_call 15; refine (SP _ _ _ (by first | exact rdb | exact rdb.alloc _) hca).out.mono ?_; rintro e wc hx; obtain ⟨vc, vf, rfl, oc, of', nf, bc⟩ := ResF.x hx; obtain ⟨Ac, cc, rfl, _⟩ := own_shape oc; obtain ⟨Ae, ce, rfl, _⟩ := own_shapeC of'; have Fc : Below ws.heap.size ws wc := (by first | exact below_go Fb bc | exact below_mid Fb bc); have oc2 : wc.ownsRow ws.heap.size 9 1 (.slice Ac ts.length cc) ts.length (strV ts) := (by first | exact own_mono oc Fb.size | exact own_mono oc (below_al Fb _).size); have of2 : wc.ownsRow ws.heap.size 38 3 (.slice Ae cs.length ce) cs.length (cutV cs) := (by first | exact own_mono of' Fb.size | exact own_mono of' (below_al Fb _).size); first | (have Zc := Zb.below bc Zb.lt; have zf := hid Zc; obtain ⟨z0, z1, z2⟩ := Box3.of Zc; have y0 := Zc.frozen 0; have y1 := Zc.frozen 1; have y2 := Zc.frozen 2) | (have Zc : Blk wc wb.heap.size 44 #[.slice none 0 0, .slice none 0 0, .bool false] := (Blk.new wb 44 #[.slice none 0 0, .slice none 0 0, .bool false]).below bc (Blk.new wb 44 #[.slice none 0 0, .slice none 0 0, .bool false]).lt; have zf := hid Zc; obtain ⟨z0, z1, z2⟩ := Box3.of Zc; have y0 := Zc.frozen 0; have y1 := Zc.frozen 1; have y2 := Zc.frozen 2) | skip))
    all_goals first
      | (
          have HX : Blk (wc.alloc (.cells #[.slice Ac ts.length cc, .slice Ae cs.length ce, .bool fin] 44)) wc.heap.size 44 #[.slice Ac ts.length cc, .slice Ae cs.length ce, .bool fin] := Blk.new _ _ _
          have BX := below_al Fc (.cells #[.slice Ac ts.length cc, .slice Ae cs.length ce, .bool fin] 44)
          have OX := own_below oc2 ((Below.refl _ _).alloc (Nat.le_refl _) (.cells #[.slice Ac ts.length cc, .slice Ae cs.length ce, .bool fin] 44))
          have NE : ∀ q, (Value.slice Ac ts.length cc).ownBlock = some q → q ≠ wc.heap.size := fun q hq => by have := (oc.lt q hq).2; omega
          have NF : ∀ q, (Value.slice Ae cs.length ce).ownBlock = some q → q ≠ wc.heap.size := fun q hq => by have := (of'.lt q hq).2; omega
          have OF := own_below of2 ((Below.refl _ _).alloc (Nat.le_refl _) (.cells #[.slice Ac ts.length cc, .slice Ae cs.length ce, .bool fin] 44))
          have LE := Fc.size
          go_wp2_with fail
          go_meet
          exact ⟨⟨_, Ac, cc, Ae, ce, rfl, HX, BX, OX, OF, NE, NF, nf, LE⟩, rfl⟩)
      | (
          have HX : Blk (((wc.setCell ⟨ws.heap.size, 0, none⟩ (.slice Ac ts.length cc)).setCell ⟨ws.heap.size, 1, none⟩ (.slice Ae cs.length ce)).setCell ⟨ws.heap.size, 2, none⟩ (.bool fin)) (ws.heap.size) 44 #[.slice Ac ts.length cc, .slice Ae cs.length ce, .bool fin] := by simpa using ((zf.out.set_ 0 (.slice Ac ts.length cc)).set_ 1 (.slice Ae cs.length ce)).set_ 2 (.bool fin)
          have BX : Below ws.heap.size ws (((wc.setCell ⟨ws.heap.size, 0, none⟩ (.slice Ac ts.length cc)).setCell ⟨ws.heap.size, 1, none⟩ (.slice Ae cs.length ce)).setCell ⟨ws.heap.size, 2, none⟩ (.bool fin)) := set3_below Fc (Nat.le_refl _) _ _ _
          have NG : ∀ q, (Value.slice Ac ts.length cc).ownBlock = some q ∨ (Value.slice Ae cs.length ce).ownBlock = some q → q ≠ ws.heap.size := fun q hq => by
            have h1 := (hq.elim (fun hq => (oc.lt q hq).1) (fun hq => (of'.lt q hq).1))
            have h2 := ba.size
            have h4 := bb.size
            have h6 := hq
            clear hq
            (try simp only [drew_size, alloc_size] at h1)
            (try simp only [drew_size, alloc_size] at h4)
            (try simp only [drew_size, alloc_size] at h2)
            omega
          have NE : ∀ q, (Value.slice Ac ts.length cc).ownBlock = some q → q ≠ ws.heap.size := fun q hq => NG q (.inl hq)
          have NF : ∀ q, (Value.slice Ae cs.length ce).ownBlock = some q → q ≠ ws.heap.size := fun q hq => NG q (.inr hq)
          have OX := own_far3 oc2 NE (.slice Ac ts.length cc) (.slice Ae cs.length ce) (.bool fin)
          have OF := own_far3 of2 NF (.slice Ac ts.length cc) (.slice Ae cs.length ce) (.bool fin)
          have LE : ws.heap.size ≤ ws.heap.size := (Nat.le_refl _)
          go_wp2_with fail
          go_meet
          exact ⟨⟨_, Ac, cc, Ae, ce, rfl, HX, BX, OX, OF, NE, NF, nf, LE⟩, rfl⟩)
      | (
          have HX : Blk (((wc.setCell ⟨wa.heap.size, 0, none⟩ (.slice Ac ts.length cc)).setCell ⟨wa.heap.size, 1, none⟩ (.slice Ae cs.length ce)).setCell ⟨wa.heap.size, 2, none⟩ (.bool fin)) (wa.heap.size) 44 #[.slice Ac ts.length cc, .slice Ae cs.length ce, .bool fin] := by simpa using ((zf.out.set_ 0 (.slice Ac ts.length cc)).set_ 1 (.slice Ae cs.length ce)).set_ 2 (.bool fin)
          have BX : Below ws.heap.size ws (((wc.setCell ⟨wa.heap.size, 0, none⟩ (.slice Ac ts.length cc)).setCell ⟨wa.heap.size, 1, none⟩ (.slice Ae cs.length ce)).setCell ⟨wa.heap.size, 2, none⟩ (.bool fin)) := set3_below Fc Fa.size _ _ _
          have NG : ∀ q, (Value.slice Ac ts.length cc).ownBlock = some q ∨ (Value.slice Ae cs.length ce).ownBlock = some q → q ≠ wa.heap.size := fun q hq => by
            have h1 := (hq.elim (fun hq => (oc.lt q hq).1) (fun hq => (of'.lt q hq).1))
            have h2 := ba.size
            have h4 := bb.size
            have h6 := hq
            clear hq
            (try simp only [drew_size, alloc_size] at h1)
            (try simp only [drew_size, alloc_size] at h4)
            (try simp only [drew_size, alloc_size] at h2)
            omega
          have NE : ∀ q, (Value.slice Ac ts.length cc).ownBlock = some q → q ≠ wa.heap.size := fun q hq => NG q (.inl hq)
          have NF : ∀ q, (Value.slice Ae cs.length ce).ownBlock = some q → q ≠ wa.heap.size := fun q hq => NG q (.inr hq)
          have OX := own_far3 oc2 NE (.slice Ac ts.length cc) (.slice Ae cs.length ce) (.bool fin)
          have OF := own_far3 of2 NF (.slice Ac ts.length cc) (.slice Ae cs.length ce) (.bool fin)
          have LE : ws.heap.size ≤ wa.heap.size := Fa.size
          go_wp2_with fail
          go_meet
          exact ⟨⟨_, Ac, cc, Ae, ce, rfl, HX, BX, OX, OF, NE, NF, nf, LE⟩, rfl⟩)
      | (
          have HX : Blk (((wc.setCell ⟨wb.heap.size, 0, none⟩ (.slice Ac ts.length cc)).setCell ⟨wb.heap.size, 1, none⟩ (.slice Ae cs.length ce)).setCell ⟨wb.heap.size, 2, none⟩ (.bool fin)) (wb.heap.size) 44 #[.slice Ac ts.length cc, .slice Ae cs.length ce, .bool fin] := by simpa using ((zf.out.set_ 0 (.slice Ac ts.length cc)).set_ 1 (.slice Ae cs.length ce)).set_ 2 (.bool fin)
          have BX : Below ws.heap.size ws (((wc.setCell ⟨wb.heap.size, 0, none⟩ (.slice Ac ts.length cc)).setCell ⟨wb.heap.size, 1, none⟩ (.slice Ae cs.length ce)).setCell ⟨wb.heap.size, 2, none⟩ (.bool fin)) := set3_below Fc Fb.size _ _ _
          have NG : ∀ q, (Value.slice Ac ts.length cc).ownBlock = some q ∨ (Value.slice Ae cs.length ce).ownBlock = some q → q ≠ wb.heap.size := fun q hq => by
            have h1 := (hq.elim (fun hq => (oc.lt q hq).1) (fun hq => (of'.lt q hq).1))
            have h2 := ba.size
            have h4 := bb.size
            have h6 := hq
            clear hq
            (try simp only [drew_size, alloc_size] at h1)
            (try simp only [drew_size, alloc_size] at h4)
            (try simp only [drew_size, alloc_size] at h2)
            omega
          have NE : ∀ q, (Value.slice Ac ts.length cc).ownBlock = some q → q ≠ wb.heap.size := fun q hq => NG q (.inl hq)
          have NF : ∀ q, (Value.slice Ae cs.length ce).ownBlock = some q → q ≠ wb.heap.size := fun q hq => NG q (.inr hq)
          have OX := own_far3 oc2 NE (.slice Ac ts.length cc) (.slice Ae cs.length ce) (.bool fin)
          have OF := own_far3 of2 NF (.slice Ac ts.length cc) (.slice Ae cs.length ce) (.bool fin)
          have LE : ws.heap.size ≤ wb.heap.size := Fb.size
          go_wp2_with fail
          go_meet
          exact ⟨⟨_, Ac, cc, Ae, ce, rfl, HX, BX, OX, OF, NE, NF, nf, LE⟩, rfl⟩)
  case rest =>
  obtain ⟨Z1, hZ1⟩ : ∃ z, z = wc := ⟨_, rfl⟩
  subst hZ1
  obtain ⟨⟨G8, A8, c8, D8, d8, rfl, X8, B8, O8, P8, N8, M8, K8, L8⟩, rfl⟩ := hcut
  have HEc := hid (HBs.out.trans (B8.mono HBs.out.size))
  have HX8 := hid X8
  have HR8 := hid (show Rd Z1 A8 ts.length (strV ts) from own_rd O8)
  have HC8 := hid (show RdC Z1 D8 cs.length cs from own_rdC P8)
  have hl8 := X8.lt
  clear X8 B8 O8 P8 N8 M8 K8 L8 n0 n1 n2 p0 p1 F0 HSs TMs
  obtain ⟨n0, n1, n2, p0, p1⟩ := HHS5.out _ HEc.out
  go_wp2_with fail
  refine (TM _ HEc.out).out.mono ?_
  rintro e wd ⟨vd, rfl, od, bd⟩
  obtain ⟨Ad, cd, rfl, hcd, _, rdd, _⟩ := own_shape od
  have hbd := bd.size
  have E5 := hid (below_al bd (.cells #[.string (bs nm), .int .i64 st, .slice Ad ch.length cd] 34))
  have X5 := Blk.new wd 34 #[.string (bs nm), .int .i64 st, .slice Ad ch.length cd]
  have HR5 := hid (rdd.alloc (.cells #[.string (bs nm), .int .i64 st, .slice Ad ch.length cd] 34))
  have OD5 := hid (own_below od ((Below.refl _ _).alloc (Nat.le_refl _) (.cells #[.string (bs nm), .int .i64 st, .slice Ad ch.length cd] 34)))
  have hsz5 : wd.heap.size < (wd.alloc (.cells #[.string (bs nm), .int .i64 st, .slice Ad ch.length cd] 34)).heap.size := by simp
  have HLT := hid (fun q hq => (od.lt q hq).2 : ∀ q, (Value.slice Ad ch.length cd).ownBlock = some q → q < wd.heap.size)
  have HSZ1 := hid (HEc.out.size)
  clear od bd rdd n0 n1 n2 p0 p1
  go_wp2_with fail
  generalize (wd.alloc (.cells #[.string (bs nm), .int .i64 st, .slice Ad ch.length cd] 34)) = W5 at *
  have HHS8 := hid (fun W' (h : Below W5.heap.size W5 W') => (show W'.cell? ⟨w.heap.size, 0, none⟩ = some (.string (bs nm)) ∧ W'.cell? ⟨w.heap.size, 1, none⟩ = some (.int .i64 st) ∧ W'.cell? ⟨w.heap.size, 2, none⟩ = some (.slice A n c) ∧ W'.cell? ⟨w.heap.size + 1, 0, none⟩ = some (.string (bs k1)) ∧ W'.cell? ⟨w.heap.size + 1, 1, none⟩ = some (.string (bs k2)) ∧ W'.cell? ⟨wd.heap.size, 0, none⟩ = some (.string (bs nm)) ∧ W'.cell? ⟨wd.heap.size, 1, none⟩ = some (.int .i64 st) ∧ W'.cell? ⟨wd.heap.size, 2, none⟩ = some (.slice Ad ch.length cd) from by
    obtain ⟨a0, a1, a2, a3, a4⟩ := HHS5.out _ (HEc.out.trans ((below_go E5.out h).mono HEc.out.size))
    have X := X5.below h hsz5
    exact ⟨a0, a1, a2, a3, a4, X.cell 0, X.cell 1, X.cell 2⟩))
  have HX5 := hid X5
  clear X5
  obtain ⟨n0, n1, n2, p0, p1, x0, x1, x2⟩ := HHS8.out _ (Below.refl _ _)
  have F0 : Below W5.heap.size W5 W5.drew := (Below.refl _ _).drew
  go_cut [13, 14] (fun s8 s9 wx => BoxF W5 ts cs fin s8 wx ∧ s9 = .bool ok)
  case first =>
    go_region_held3 (fun w' => w'.cell? ⟨w.heap.size, 0, none⟩ = some (.string (bs nm)) ∧ w'.cell? ⟨w.heap.size, 1, none⟩ = some (.int .i64 st) ∧ w'.cell? ⟨w.heap.size, 2, none⟩ = some (.slice A n c) ∧ w'.cell? ⟨w.heap.size + 1, 0, none⟩ = some (.string (bs k1)) ∧ w'.cell? ⟨w.heap.size + 1, 1, none⟩ = some (.string (bs k2)) ∧ w'.cell? ⟨wd.heap.size, 0, none⟩ = some (.string (bs nm)) ∧ w'.cell? ⟨wd.heap.size, 1, none⟩ = some (.int .i64 st) ∧ w'.cell? ⟨wd.heap.size, 2, none⟩ = some (.slice Ad ch.length cd))
      (first | exact HHS8.out _ (Below.refl _ _) | exact HHS8.out _ F0 | exact HHS8.out _ (below_al F0 _) | exact HHS8.out _ Fa | exact HHS8.out _ (below_al Fa _) | exact HHS8.out _ Fb | exact HHS8.out _ (below_al Fb _) | exact HHS8.out _ Fc | exact HHS8.out _ (below_al Fc _) | exact HHS8.out _ (set3_below Fc (Nat.le_refl _) _ _ _) | exact HHS8.out _ (set3_below Fc Fa.size _ _ _) | exact HHS8.out _ (set3_below Fc Fb.size _ _ _) | exact HHS8.out _ (set3_below Fc Fc.size _ _ _) | exact HHS8.out _ (set3_below (below_al Fc _) (Nat.le_refl _) _ _ _) | exact HHS8.out _ (set3_below (below_al Fc _) Fa.size _ _ _) | exact HHS8.out _ (set3_below (below_al Fc _) Fb.size _ _ _) | exact HHS8.out _ (set3_below (below_al Fc _) Fc.size _ _ _))
      (first | (go_at_call 11; refine (TK _).out.mono ?_; rintro e wb ⟨rfl, bb⟩; have Fb : Below W5.heap.size W5 wb := (by first | exact below_go F0 bb | exact below_mid F0 bb); have rdb : Rd wb Ad ch.length (strV ch) := HR5.out.below Fb; first | (have Zb : Blk wb W5.heap.size 44 #[.slice none 0 0, .slice none 0 0, .bool false] := (Blk.new W5.drew 44 #[.slice none 0 0, .slice none 0 0, .bool false]).below bb (Blk.new W5.drew 44 #[.slice none 0 0, .slice none 0 0, .bool false]).lt) | skip) | (go_at_call 16; refine (IM _ _ _ (by first | exact rdb | exact rdb.alloc _) hcd).out.mono ?_; rintro e wc hx; obtain ⟨vc, vf, rfl, oc, of', nf, bc⟩ := ResF.x hx; obtain ⟨Ac, cc, rfl, _⟩ := own_shape oc; obtain ⟨Ae, ce, rfl, _⟩ := own_shapeC of'; have Fc : Below W5.heap.size W5 wc := (by first | exact below_go Fb bc | exact below_mid Fb bc); have oc2 : wc.ownsRow W5.heap.size 9 1 (.slice Ac ts.length cc) ts.length (strV ts) := (by first | exact own_mono oc Fb.size | exact own_mono oc (below_al Fb _).size); have of2 : wc.ownsRow W5.heap.size 38 3 (.slice Ae cs.length ce) cs.length (cutV cs) := (by first | exact own_mono of' Fb.size | exact own_mono of' (below_al Fb _).size); first | (have Zc := Zb.below bc Zb.lt; have zf := hid Zc; obtain ⟨z0, z1, z2⟩ := Box3.of Zc; have y0 := Zc.frozen 0; have y1 := Zc.frozen 1; have y2 := Zc.frozen 2) | (have Zc : Blk wc wb.heap.size 44 #[.slice none 0 0, .slice none 0 0, .bool false] := (Blk.new wb 44 #[.slice none 0 0, .slice none 0 0, .bool false]).below bc (Blk.new wb 44 #[.slice none 0 0, .slice none 0 0, .bool false]).lt; have zf := hid Zc; obtain ⟨z0, z1, z2⟩ := Box3.of Zc; have y0 := Zc.frozen 0; have y1 := Zc.frozen 1; have y2 := Zc.frozen 2) | skip))
    all_goals first
      | (
          have HX : Blk (wc.alloc (.cells #[.slice Ac ts.length cc, .slice Ae cs.length ce, .bool fin] 44)) wc.heap.size 44 #[.slice Ac ts.length cc, .slice Ae cs.length ce, .bool fin] := Blk.new _ _ _
          have BX := below_al Fc (.cells #[.slice Ac ts.length cc, .slice Ae cs.length ce, .bool fin] 44)
          have OX := own_below oc2 ((Below.refl _ _).alloc (Nat.le_refl _) (.cells #[.slice Ac ts.length cc, .slice Ae cs.length ce, .bool fin] 44))
          have NE : ∀ q, (Value.slice Ac ts.length cc).ownBlock = some q → q ≠ wc.heap.size := fun q hq => by have := (oc.lt q hq).2; omega
          have NF : ∀ q, (Value.slice Ae cs.length ce).ownBlock = some q → q ≠ wc.heap.size := fun q hq => by have := (of'.lt q hq).2; omega
          have OF := own_below of2 ((Below.refl _ _).alloc (Nat.le_refl _) (.cells #[.slice Ac ts.length cc, .slice Ae cs.length ce, .bool fin] 44))
          have LE := Fc.size
          go_wp2_with fail
          go_meet
          exact ⟨⟨_, Ac, cc, Ae, ce, rfl, HX, BX, OX, OF, NE, NF, nf, LE⟩, rfl⟩)
      | (
          have HX : Blk (((wc.setCell ⟨W5.heap.size, 0, none⟩ (.slice Ac ts.length cc)).setCell ⟨W5.heap.size, 1, none⟩ (.slice Ae cs.length ce)).setCell ⟨W5.heap.size, 2, none⟩ (.bool fin)) (W5.heap.size) 44 #[.slice Ac ts.length cc, .slice Ae cs.length ce, .bool fin] := by simpa using ((zf.out.set_ 0 (.slice Ac ts.length cc)).set_ 1 (.slice Ae cs.length ce)).set_ 2 (.bool fin)
          have BX : Below W5.heap.size W5 (((wc.setCell ⟨W5.heap.size, 0, none⟩ (.slice Ac ts.length cc)).setCell ⟨W5.heap.size, 1, none⟩ (.slice Ae cs.length ce)).setCell ⟨W5.heap.size, 2, none⟩ (.bool fin)) := set3_below Fc (Nat.le_refl _) _ _ _
          have NG : ∀ q, (Value.slice Ac ts.length cc).ownBlock = some q ∨ (Value.slice Ae cs.length ce).ownBlock = some q → q ≠ W5.heap.size := fun q hq => by
            have h1 := (hq.elim (fun hq => (oc.lt q hq).1) (fun hq => (of'.lt q hq).1))
            skip
            have h4 := bb.size
            have h6 := hq
            clear hq
            (try simp only [drew_size, alloc_size] at h1)
            (try simp only [drew_size, alloc_size] at h4)
            skip
            omega
          have NE : ∀ q, (Value.slice Ac ts.length cc).ownBlock = some q → q ≠ W5.heap.size := fun q hq => NG q (.inl hq)
          have NF : ∀ q, (Value.slice Ae cs.length ce).ownBlock = some q → q ≠ W5.heap.size := fun q hq => NG q (.inr hq)
          have OX := own_far3 oc2 NE (.slice Ac ts.length cc) (.slice Ae cs.length ce) (.bool fin)
          have OF := own_far3 of2 NF (.slice Ac ts.length cc) (.slice Ae cs.length ce) (.bool fin)
          have LE : W5.heap.size ≤ W5.heap.size := (Nat.le_refl _)
          go_wp2_with fail
          go_meet
          exact ⟨⟨_, Ac, cc, Ae, ce, rfl, HX, BX, OX, OF, NE, NF, nf, LE⟩, rfl⟩)
      | (
          have HX : Blk (((wc.setCell ⟨wb.heap.size, 0, none⟩ (.slice Ac ts.length cc)).setCell ⟨wb.heap.size, 1, none⟩ (.slice Ae cs.length ce)).setCell ⟨wb.heap.size, 2, none⟩ (.bool fin)) (wb.heap.size) 44 #[.slice Ac ts.length cc, .slice Ae cs.length ce, .bool fin] := by simpa using ((zf.out.set_ 0 (.slice Ac ts.length cc)).set_ 1 (.slice Ae cs.length ce)).set_ 2 (.bool fin)
          have BX : Below W5.heap.size W5 (((wc.setCell ⟨wb.heap.size, 0, none⟩ (.slice Ac ts.length cc)).setCell ⟨wb.heap.size, 1, none⟩ (.slice Ae cs.length ce)).setCell ⟨wb.heap.size, 2, none⟩ (.bool fin)) := set3_below Fc Fb.size _ _ _
          have NG : ∀ q, (Value.slice Ac ts.length cc).ownBlock = some q ∨ (Value.slice Ae cs.length ce).ownBlock = some q → q ≠ wb.heap.size := fun q hq => by
            have h1 := (hq.elim (fun hq => (oc.lt q hq).1) (fun hq => (of'.lt q hq).1))
            skip
            have h4 := bb.size
            have h6 := hq
            clear hq
            (try simp only [drew_size, alloc_size] at h1)
            (try simp only [drew_size, alloc_size] at h4)
            skip
            omega
          have NE : ∀ q, (Value.slice Ac ts.length cc).ownBlock = some q → q ≠ wb.heap.size := fun q hq => NG q (.inl hq)
          have NF : ∀ q, (Value.slice Ae cs.length ce).ownBlock = some q → q ≠ wb.heap.size := fun q hq => NG q (.inr hq)
          have OX := own_far3 oc2 NE (.slice Ac ts.length cc) (.slice Ae cs.length ce) (.bool fin)
          have OF := own_far3 of2 NF (.slice Ac ts.length cc) (.slice Ae cs.length ce) (.bool fin)
          have LE : W5.heap.size ≤ wb.heap.size := Fb.size
          go_wp2_with fail
          go_meet
          exact ⟨⟨_, Ac, cc, Ae, ce, rfl, HX, BX, OX, OF, NE, NF, nf, LE⟩, rfl⟩)
  case rest =>
  obtain ⟨Z2, hZ2⟩ : ∃ z, z = wc := ⟨_, rfl⟩
  subst hZ2
  obtain ⟨⟨G11, A11, c11, D11, d11, rfl, X11, B11, O11, P11, N11, M11, K11, L11⟩, rfl⟩ := hcut
  have HB11 := hid B11
  have HX11 := hid X11
  have HO11 := hid O11
  have HN11 := hid N11
  have HP11 := hid P11
  have HM11 := hid M11
  have HK11 := hid K11
  have HC11 := hid (show RdC Z2 D11 cs.length cs from own_rdC P11)
  have HL11 := hid L11
  have HR11 := hid (show Rd Z2 A11 ts.length (strV ts) from own_rd O11)
  have hl11 := X11.lt
  have E12 := hid (below_go E5.out B11)
  have HE12 := hid (HEc.out.trans (E12.out.mono HSZ1.out))
  clear X11 B11 O11 P11 N11 M11 K11 L11 n0 n1 n2 p0 p1 x0 x1 x2 F0
  obtain ⟨n0, n1, n2, p0, p1, x0, x1, x2⟩ := HHS8.out _ HB11.out
  have y := HX8.out.below E12.out hl8
  have y0 := y.cell 0
  have y1 := y.cell 1
  have y2 := y.cell 2
  simp only [List.getElem?_toArray, List.getElem?_cons_zero, List.getElem?_cons_succ] at y0 y1 y2
  clear y
  have z := HX11.out
  have z0 := z.cell 0
  have z1 := z.cell 1
  have z2 := z.cell 2
  simp only [List.getElem?_toArray, List.getElem?_cons_zero, List.getElem?_cons_succ] at z0 z1 z2
  clear z
  go_wp2_with fail
  refine (eqFound_any A11 A8 D11 D8 ts.length ts.length cs.length cs.length c11 c8 d11 d8 fin ts cs _ HR11.out (HR8.out.below E12.out) HC11.out (HC8.out.below E12.out) (by omega) (by omega)).mono ?_
  rintro e w13 ⟨rfl, b13⟩
  have B13 := hid (below_go HB11.out b13)
  have BZ := hid b13
  clear b13 n0 n1 n2 p0 p1 x0 x1 x2 y0 y1 y2 z0 z1 z2
  obtain ⟨n0, n1, n2, p0, p1, x0, x1, x2⟩ := HHS8.out _ B13.out
  go_wp2_with fail
  go_region_held3 (fun w' => w'.cell? ⟨w.heap.size, 0, none⟩ = some (.string (bs nm)) ∧ w'.cell? ⟨w.heap.size, 1, none⟩ = some (.int .i64 st) ∧ w'.cell? ⟨w.heap.size, 2, none⟩ = some (.slice A n c) ∧ w'.cell? ⟨w.heap.size + 1, 0, none⟩ = some (.string (bs k1)) ∧ w'.cell? ⟨w.heap.size + 1, 1, none⟩ = some (.string (bs k2)) ∧ w'.cell? ⟨wd.heap.size, 0, none⟩ = some (.string (bs nm)) ∧ w'.cell? ⟨wd.heap.size, 1, none⟩ = some (.int .i64 st) ∧ w'.cell? ⟨wd.heap.size, 2, none⟩ = some (.slice Ad ch.length cd))
    (first | exact HHS8.out _ B13.out | exact HHS8.out _ B13.out.drew | exact HHS8.out _ Eh | exact HHS8.out _ Ei)
    (first | (go_at_call 10; refine (TM _ (HEc.out.trans ((below_go E5.out B13.out.drew).mono HSZ1.out))).out.mono ?_; rintro e wh ⟨vh, rfl, oh, bh⟩; obtain ⟨Ah, ch', rfl, _, _, rdh, _⟩ := own_shape oh; have Eh := below_go B13.out.drew bh) | (go_at_call 14; refine (eqMethod_any ⟨nm, st, ch⟩ Ad Ah ch.length cd ch.length ch' _ (HR5.out.below Eh) rdh (by have := HOK.out.2.2.1; dsimp only at this; omega)).mono ?_; rintro e wi ⟨rfl, bi⟩; have Ei := below_go Eh bi))
  have HEi := hid Ei
  have BZi := hid (BZ.out.trans (((Below.refl w13.heap.size w13).drew.trans ((bh.trans (bi.mono bh.size)).mono (Nat.le_refl _))).mono BZ.out.size))
  clear oh bh rdh bi Eh Ei n0 n1 n2 p0 p1 x0 x1 x2
  obtain ⟨n0, n1, n2, p0, p1, x0, x1, x2⟩ := HHS8.out _ HEi.out
  go_wp2_with fail
  refine (markMethod_any Z1.heap.size ⟨nm, st, ch⟩ _ ch.length _ (own_below OD5.out HEi.out) (by have := HOK.out.2.2.1; dsimp only at this; omega) (Nat.le_trans E5.out.size HEi.out.size)).mono ?_
  rintro e wj ⟨rfl, oj, gj⟩
  have hneX : ∀ q, (Value.slice Ad ch.length cd).ownBlock = some q → q < W5.heap.size := fun q hq => (OD5.out.lt q hq).2
  have Bcj := hid ((below_go E5.out HEi.out).trans (below_of_grown (own_below OD5.out HEi.out) gj (Nat.le_trans E5.out.size HEi.out.size)))
  have Xj := hid (blk_grown gj (HX11.out.below BZi.out hl11) (fun e => by have h1 := hneX _ e; have h2 := HL11.out; omega))
  have Oj := hid (own_other (own_below HO11.out BZi.out) gj (fun q hq hq2 => by have h1 := hneX q hq2; have h2 := (HO11.out.lt q hq).1; omega))
  have Pj := hid (own_other (own_below HP11.out BZi.out) gj (fun q hq hq2 => by have h1 := hneX q hq2; have h2 := (HP11.out.lt q hq).1; omega))
  have Rj := hid (show Rd wj A11 ts.length (strV ts) from own_rd Oj.out)
  have Cj := hid (show RdC wj D11 cs.length cs from own_rdC Pj.out)
  have hsj : W5.heap.size ≤ wj.heap.size := Nat.le_trans HEi.out.size gj.size
  clear oj gj hneX n0 n1 n2 p0 p1 x0 x1 x2
  have HE2j := hid (HEc.out.trans (Bcj.out.mono HSZ1.out))
  obtain ⟨n0, n1, n2, p0, p1⟩ := HHS5.out _ HE2j.out
  have y := HX8.out.below Bcj.out hl8
  have y0 := y.cell 0
  have y1 := y.cell 1
  have y2 := y.cell 2
  simp only [List.getElem?_toArray, List.getElem?_cons_zero, List.getElem?_cons_succ] at y0 y1 y2
  clear y
  have z := Xj.out
  have z0 := z.cell 0
  have z1 := z.cell 1
  have z2 := z.cell 2
  simp only [List.getElem?_toArray, List.getElem?_cons_zero, List.getElem?_cons_succ] at z0 z1 z2
  clear z
  go_wp2_with fail
  refine (eqFound_any A11 A8 D11 D8 ts.length ts.length cs.length cs.length c11 c8 d11 d8 fin ts cs _ Rj.out (HR8.out.below Bcj.out) Cj.out (HC8.out.below Bcj.out) (by omega) (by omega)).mono ?_
  rintro e wk ⟨rfl, bk⟩
  have Bck := hid (below_go Bcj.out bk)
  have Xk := hid (Xj.out.below bk Xj.out.lt)
  have Ok := hid (own_below Oj.out bk)
  have Pk := hid (own_below Pj.out bk)
  have hsk : W5.heap.size ≤ wk.heap.size := Nat.le_trans hsj bk.size
  clear bk n0 n1 n2 p0 p1 y0 y1 y2 z0 z1 z2
  have HE2k := hid (HEc.out.trans (Bck.out.mono HSZ1.out))
  obtain ⟨n0, n1, n2, p0, p1⟩ := HHS5.out _ HE2k.out
  have z := Xk.out
  have z0 := z.cell 0
  have z1 := z.cell 1
  have z2 := z.cell 2
  simp only [List.getElem?_toArray, List.getElem?_cons_zero, List.getElem?_cons_succ] at z0 z1 z2
  clear z
  go_wp2_with fail
  refine (markFound_any W5.heap.size _ _ ts.length cs.length fin ts cs _ Ok.out Pk.out HK11.out HLT1 HLT2 hsk).mono ?_
  rintro e wl ⟨rfl, ol, pl, gl, kl⟩
  have Bcl := hid (Bck.out.trans (gl.mono E5.out.size))
  have Xl := hid (kl _ _ _ Xk.out (fun e => HN11.out _ e rfl) (fun e => HM11.out _ e rfl))
  have Rl := hid (show Rd wl A11 ts.length (strV (marksS 1 ts.length)) from own_rd ol)
  have Cl := hid (show RdC wl D11 cs.length (marksC (1 + ts.length) cs.length) from own_rdC pl)
  clear ol pl gl kl n0 n1 n2 p0 p1 z0 z1 z2
  have HE2l := hid (HEc.out.trans (Bcl.out.mono HSZ1.out))
  obtain ⟨n0, n1, n2, p0, p1⟩ := HHS5.out _ HE2l.out
  have z := Xl.out
  have z0 := z.cell 0
  have z1 := z.cell 1
  have z2 := z.cell 2
  simp only [List.getElem?_toArray, List.getElem?_cons_zero, List.getElem?_cons_succ] at z0 z1 z2
  clear z
  go_wp2_with fail
  refine (heldFound_any A11 D11 ts.length cs.length c11 d11 fin _ Rl.out Cl.out HLT1 HLT2).mono ?_
  rintro e wm ⟨rfl, bm⟩
  have Bcm := hid (below_go Bcl.out bm)
  have Xm := hid (Xl.out.below bm Xl.out.lt)
  have Rm := hid (Rl.out.below bm)
  have Cm := hid (Cl.out.below bm)
  clear bm n0 n1 n2 p0 p1 z0 z1 z2
  have HE2m := hid (HEc.out.trans (Bcm.out.mono HSZ1.out))
  have HSm := hid (fun W' (h : Below wm.heap.size wm W') => HHS5.out W' (HE2m.out.trans (h.mono HE2m.out.size)))
  have TMm := fun w0 (b0 : Below wm.heap.size wm w0) => TM w0 (HE2m.out.trans (b0.mono HE2m.out.size))
  obtain ⟨n0, n1, n2, p0, p1⟩ := HHS5.out _ HE2m.out
  go_wp2_with fail
  have F0 : Below wm.heap.size wm wm.drew := (Below.refl _ _).drew
  go_cut [18, 19] (fun s8 s9 wx => BoxF wm ts cs fin s8 wx ∧ s9 = .bool ok)
  case first =>
    go_region_held3 (fun w' => w'.cell? ⟨w.heap.size, 0, none⟩ = some (.string (bs nm)) ∧ w'.cell? ⟨w.heap.size, 1, none⟩ = some (.int .i64 st) ∧ w'.cell? ⟨w.heap.size, 2, none⟩ = some (.slice A n c) ∧ w'.cell? ⟨w.heap.size + 1, 0, none⟩ = some (.string (bs k1)) ∧ w'.cell? ⟨w.heap.size + 1, 1, none⟩ = some (.string (bs k2)))
      (first | exact HSm.out _ (Below.refl _ _) | exact HSm.out _ F0 | exact HSm.out _ (below_al F0 _) | exact HSm.out _ Fa | exact HSm.out _ (below_al Fa _) | exact HSm.out _ Fb | exact HSm.out _ (below_al Fb _) | exact HSm.out _ Fc | exact HSm.out _ (below_al Fc _) | exact HSm.out _ (set3_below Fc (Nat.le_refl _) _ _ _) | exact HSm.out _ (set3_below Fc Fa.size _ _ _) | exact HSm.out _ (set3_below Fc Fb.size _ _ _) | exact HSm.out _ (set3_below Fc Fc.size _ _ _) | exact HSm.out _ (set3_below (below_al Fc _) (Nat.le_refl _) _ _ _) | exact HSm.out _ (set3_below (below_al Fc _) Fa.size _ _ _) | exact HSm.out _ (set3_below (below_al Fc _) Fb.size _ _ _) | exact HSm.out _ (set3_below (below_al Fc _) Fc.size _ _ _))
      (first | (go_at_call 10; refine (TMm _ (by first | exact F0 | exact below_al F0 _)).out.mono ?_; rintro e wa ⟨va, rfl, oa, ba⟩; obtain ⟨Aa, ca, rfl, hca, _, rda, _⟩ := own_shape oa; have Fa : Below wm.heap.size wm wa := (by first | exact below_go F0 ba | exact below_mid F0 ba); first | (have Za : Blk wa wm.heap.size 44 #[.slice none 0 0, .slice none 0 0, .bool false] := (Blk.new wm.drew 44 #[.slice none 0 0, .slice none 0 0, .bool false]).below ba (Blk.new wm.drew 44 #[.slice none 0 0, .slice none 0 0, .bool false]).lt) | skip) | (go_at_call 11; refine (TK _).out.mono ?_; rintro e wb ⟨rfl, bb⟩; have Fb : Below wm.heap.size wm wb := (by first | exact below_go Fa bb | exact below_mid Fa bb); have rdb : Rd wb Aa ch.length (strV ch) := (by first | exact rda.below bb | exact (rda.alloc _).below bb); first | (have Zb := Za.below bb Za.lt) | (have Zb : Blk wb wa.heap.size 44 #[.slice none 0 0, .slice none 0 0, .bool false] := (Blk.new wa 44 #[.slice none 0 0, .slice none 0 0, .bool false]).below bb (Blk.new wa 44 #[.slice none 0 0, .slice none 0 0, .bool false]).lt) | skip) | (go_at_call 16; refine (IM _ _ _ (by first | exact rdb | exact rdb.alloc _) hca).out.mono ?_; rintro e wc hx; obtain ⟨vc, vf, rfl, oc, of', nf, bc⟩ := ResF.x hx; obtain ⟨Ac, cc, rfl, _⟩ := own_shape oc; obtain ⟨Ae, ce, rfl, _⟩ := own_shapeC of'; have Fc : Below wm.heap.size wm wc := (by first | exact below_go Fb bc | exact below_mid Fb bc); have oc2 : wc.ownsRow wm.heap.size 9 1 (.slice Ac ts.length cc) ts.length (strV ts) := (by first | exact own_mono oc Fb.size | exact own_mono oc (below_al Fb _).size); have of2 : wc.ownsRow wm.heap.size 38 3 (.slice Ae cs.length ce) cs.length (cutV cs) := (by first | exact own_mono of' Fb.size | exact own_mono of' (below_al Fb _).size); first | (have Zc := Zb.below bc Zb.lt; have zf := hid Zc; obtain ⟨z0, z1, z2⟩ := Box3.of Zc; have y0 := Zc.frozen 0; have y1 := Zc.frozen 1; have y2 := Zc.frozen 2) | (have Zc : Blk wc wb.heap.size 44 #[.slice none 0 0, .slice none 0 0, .bool false] := (Blk.new wb 44 #[.slice none 0 0, .slice none 0 0, .bool false]).below bc (Blk.new wb 44 #[.slice none 0 0, .slice none 0 0, .bool false]).lt; have zf := hid Zc; obtain ⟨z0, z1, z2⟩ := Box3.of Zc; have y0 := Zc.frozen 0; have y1 := Zc.frozen 1; have y2 := Zc.frozen 2) | skip))
    all_goals first
      | (
          have HX : Blk (wc.alloc (.cells #[.slice Ac ts.length cc, .slice Ae cs.length ce, .bool fin] 44)) wc.heap.size 44 #[.slice Ac ts.length cc, .slice Ae cs.length ce, .bool fin] := Blk.new _ _ _
          have BX := below_al Fc (.cells #[.slice Ac ts.length cc, .slice Ae cs.length ce, .bool fin] 44)
          have OX := own_below oc2 ((Below.refl _ _).alloc (Nat.le_refl _) (.cells #[.slice Ac ts.length cc, .slice Ae cs.length ce, .bool fin] 44))
          have NE : ∀ q, (Value.slice Ac ts.length cc).ownBlock = some q → q ≠ wc.heap.size := fun q hq => by have := (oc.lt q hq).2; omega
          have NF : ∀ q, (Value.slice Ae cs.length ce).ownBlock = some q → q ≠ wc.heap.size := fun q hq => by have := (of'.lt q hq).2; omega
          have OF := own_below of2 ((Below.refl _ _).alloc (Nat.le_refl _) (.cells #[.slice Ac ts.length cc, .slice Ae cs.length ce, .bool fin] 44))
          have LE := Fc.size
          go_wp2_with fail
          go_meet
          exact ⟨⟨_, Ac, cc, Ae, ce, rfl, HX, BX, OX, OF, NE, NF, nf, LE⟩, rfl⟩)
      | (
          have HX : Blk (((wc.setCell ⟨wm.heap.size, 0, none⟩ (.slice Ac ts.length cc)).setCell ⟨wm.heap.size, 1, none⟩ (.slice Ae cs.length ce)).setCell ⟨wm.heap.size, 2, none⟩ (.bool fin)) (wm.heap.size) 44 #[.slice Ac ts.length cc, .slice Ae cs.length ce, .bool fin] := by simpa using ((zf.out.set_ 0 (.slice Ac ts.length cc)).set_ 1 (.slice Ae cs.length ce)).set_ 2 (.bool fin)
          have BX : Below wm.heap.size wm (((wc.setCell ⟨wm.heap.size, 0, none⟩ (.slice Ac ts.length cc)).setCell ⟨wm.heap.size, 1, none⟩ (.slice Ae cs.length ce)).setCell ⟨wm.heap.size, 2, none⟩ (.bool fin)) := set3_below Fc (Nat.le_refl _) _ _ _
          have NG : ∀ q, (Value.slice Ac ts.length cc).ownBlock = some q ∨ (Value.slice Ae cs.length ce).ownBlock = some q → q ≠ wm.heap.size := fun q hq => by
            have h1 := (hq.elim (fun hq => (oc.lt q hq).1) (fun hq => (of'.lt q hq).1))
            have h2 := ba.size
            have h4 := bb.size
            have h6 := hq
            clear hq
            (try simp only [drew_size, alloc_size] at h1)
            (try simp only [drew_size, alloc_size] at h4)
            (try simp only [drew_size, alloc_size] at h2)
            omega
          have NE : ∀ q, (Value.slice Ac ts.length cc).ownBlock = some q → q ≠ wm.heap.size := fun q hq => NG q (.inl hq)
          have NF : ∀ q, (Value.slice Ae cs.length ce).ownBlock = some q → q ≠ wm.heap.size := fun q hq => NG q (.inr hq)
          have OX := own_far3 oc2 NE (.slice Ac ts.length cc) (.slice Ae cs.length ce) (.bool fin)
          have OF := own_far3 of2 NF (.slice Ac ts.length cc) (.slice Ae cs.length ce) (.bool fin)
          have LE : wm.heap.size ≤ wm.heap.size := (Nat.le_refl _)
          go_wp2_with fail
          go_meet
          exact ⟨⟨_, Ac, cc, Ae, ce, rfl, HX, BX, OX, OF, NE, NF, nf, LE⟩, rfl⟩)
      | (
          have HX : Blk (((wc.setCell ⟨wa.heap.size, 0, none⟩ (.slice Ac ts.length cc)).setCell ⟨wa.heap.size, 1, none⟩ (.slice Ae cs.length ce)).setCell ⟨wa.heap.size, 2, none⟩ (.bool fin)) (wa.heap.size) 44 #[.slice Ac ts.length cc, .slice Ae cs.length ce, .bool fin] := by simpa using ((zf.out.set_ 0 (.slice Ac ts.length cc)).set_ 1 (.slice Ae cs.length ce)).set_ 2 (.bool fin)
          have BX : Below wm.heap.size wm (((wc.setCell ⟨wa.heap.size, 0, none⟩ (.slice Ac ts.length cc)).setCell ⟨wa.heap.size, 1, none⟩ (.slice Ae cs.length ce)).setCell ⟨wa.heap.size, 2, none⟩ (.bool fin)) := set3_below Fc Fa.size _ _ _
          have NG : ∀ q, (Value.slice Ac ts.length cc).ownBlock = some q ∨ (Value.slice Ae cs.length ce).ownBlock = some q → q ≠ wa.heap.size := fun q hq => by
            have h1 := (hq.elim (fun hq => (oc.lt q hq).1) (fun hq => (of'.lt q hq).1))
            have h2 := ba.size
            have h4 := bb.size
            have h6 := hq
            clear hq
            (try simp only [drew_size, alloc_size] at h1)
            (try simp only [drew_size, alloc_size] at h4)
            (try simp only [drew_size, alloc_size] at h2)
            omega
          have NE : ∀ q, (Value.slice Ac ts.length cc).ownBlock = some q → q ≠ wa.heap.size := fun q hq => NG q (.inl hq)
          have NF : ∀ q, (Value.slice Ae cs.length ce).ownBlock = some q → q ≠ wa.heap.size := fun q hq => NG q (.inr hq)
          have OX := own_far3 oc2 NE (.slice Ac ts.length cc) (.slice Ae cs.length ce) (.bool fin)
          have OF := own_far3 of2 NF (.slice Ac ts.length cc) (.slice Ae cs.length ce) (.bool fin)
          have LE : wm.heap.size ≤ wa.heap.size := Fa.size
          go_wp2_with fail
          go_meet
          exact ⟨⟨_, Ac, cc, Ae, ce, rfl, HX, BX, OX, OF, NE, NF, nf, LE⟩, rfl⟩)
      | (
          have HX : Blk (((wc.setCell ⟨wb.heap.size, 0, none⟩ (.slice Ac ts.length cc)).setCell ⟨wb.heap.size, 1, none⟩ (.slice Ae cs.length ce)).setCell ⟨wb.heap.size, 2, none⟩ (.bool fin)) (wb.heap.size) 44 #[.slice Ac ts.length cc, .slice Ae cs.length ce, .bool fin] := by simpa using ((zf.out.set_ 0 (.slice Ac ts.length cc)).set_ 1 (.slice Ae cs.length ce)).set_ 2 (.bool fin)
          have BX : Below wm.heap.size wm (((wc.setCell ⟨wb.heap.size, 0, none⟩ (.slice Ac ts.length cc)).setCell ⟨wb.heap.size, 1, none⟩ (.slice Ae cs.length ce)).setCell ⟨wb.heap.size, 2, none⟩ (.bool fin)) := set3_below Fc Fb.size _ _ _
          have NG : ∀ q, (Value.slice Ac ts.length cc).ownBlock = some q ∨ (Value.slice Ae cs.length ce).ownBlock = some q → q ≠ wb.heap.size := fun q hq => by
            have h1 := (hq.elim (fun hq => (oc.lt q hq).1) (fun hq => (of'.lt q hq).1))
            have h2 := ba.size
            have h4 := bb.size
            have h6 := hq
            clear hq
            (try simp only [drew_size, alloc_size] at h1)
            (try simp only [drew_size, alloc_size] at h4)
            (try simp only [drew_size, alloc_size] at h2)
            omega
          have NE : ∀ q, (Value.slice Ac ts.length cc).ownBlock = some q → q ≠ wb.heap.size := fun q hq => NG q (.inl hq)
          have NF : ∀ q, (Value.slice Ae cs.length ce).ownBlock = some q → q ≠ wb.heap.size := fun q hq => NG q (.inr hq)
          have OX := own_far3 oc2 NE (.slice Ac ts.length cc) (.slice Ae cs.length ce) (.bool fin)
          have OF := own_far3 of2 NF (.slice Ac ts.length cc) (.slice Ae cs.length ce) (.bool fin)
          have LE : wm.heap.size ≤ wb.heap.size := Fb.size
          go_wp2_with fail
          go_meet
          exact ⟨⟨_, Ac, cc, Ae, ce, rfl, HX, BX, OX, OF, NE, NF, nf, LE⟩, rfl⟩)
  case rest =>
  obtain ⟨Z3, hZ3⟩ : ∃ z, z = wc := ⟨_, rfl⟩
  subst hZ3
  obtain ⟨⟨G16, A16, c16, D16, d16, rfl, X16, B16, O16, P16, N16, M16, K16, L16⟩, rfl⟩ := hcut
  have HB16 := hid B16
  have HR16 := hid (show Rd Z3 A16 ts.length (strV ts) from own_rd O16)
  have HC16 := hid (show RdC Z3 D16 cs.length cs from own_rdC P16)
  have HX16 := hid X16
  have Bc16 := hid (below_go Bcm.out B16)
  have X11n := hid (Xm.out.below B16 Xm.out.lt)
  have R11n := hid (Rm.out.below B16)
  have C11n := hid (Cm.out.below B16)
  clear X16 B16 O16 P16 N16 M16 K16 L16 n0 n1 n2 p0 p1 F0
  have HE16 := hid (HEc.out.trans (Bc16.out.mono HSZ1.out))
  have y := HX8.out.below Bc16.out hl8
  have y0 := y.cell 0
  have y1 := y.cell 1
  have y2 := y.cell 2
  simp only [List.getElem?_toArray, List.getElem?_cons_zero, List.getElem?_cons_succ] at y0 y1 y2
  clear y
  have z := HX16.out
  have z0 := z.cell 0
  have z1 := z.cell 1
  have z2 := z.cell 2
  simp only [List.getElem?_toArray, List.getElem?_cons_zero, List.getElem?_cons_succ] at z0 z1 z2
  clear z
  go_wp2_with fail
  refine (eqFound_any A16 A8 D16 D8 ts.length ts.length cs.length cs.length c16 c8 d16 d8 fin ts cs _ HR16.out (HR8.out.below Bc16.out) HC16.out (HC8.out.below Bc16.out) (by omega) (by omega)).mono ?_
  rintro e wn ⟨rfl, bn⟩
  have Bcn := hid (below_go Bc16.out bn)
  have Xn := hid (X11n.out.below bn X11n.out.lt)
  have Rn := hid (R11n.out.below bn)
  have Cn := hid (C11n.out.below bn)
  clear bn y0 y1 y2 z0 z1 z2
  have z := Xn.out
  have z0 := z.cell 0
  have z1 := z.cell 1
  have z2 := z.cell 2
  simp only [List.getElem?_toArray, List.getElem?_cons_zero, List.getElem?_cons_succ] at z0 z1 z2
  clear z
  go_wp2_with fail
  refine (heldFound_any A11 D11 ts.length cs.length c11 d11 fin _ Rn.out Cn.out HLT1 HLT2).mono ?_
  rintro e wo ⟨rfl, bo⟩
  have Bco := hid (below_go Bcn.out bo)
  clear bo z0 z1 z2
  go_wp2
  go_ret
  exact ⟨rfl, HB2.out.trans ((HEc.out.trans (Bco.out.mono HSZ1.out)).mono hw2)⟩
end Go.Proofs.Ytnkpbahapaocbaa

namespace Go.Proofs.Ytnkpbahapaocbaa.PSearchTouches
open Go.ChangeShapes Go.WideShapes Go.ChangeAt Go.RowKit
open Go.ChangeMaps (open_string shut_string)
set_option linter.unusedVariables false

theorem own : ownKnob Try.prog.godebug = none := by kernel_rfl
theorem laidOut : laidOutB Try.prog = true := by kernel_rfl

set_option maxRecDepth 100000 in
theorem lifted (os : Os) (started : os.Started) (H : Type) (enc : TypeId × Value → H) :
    ReturnsInHanded {} Try.checked os 4 .any (Rows.fnExactSearchTouchesSpec.pre6 enc Try.prog Try.f4 Rows.fnExactSearchTouchesRow.domain false) (Rows.fnExactSearchTouchesSpec.post enc Try.prog Try.f4 false true false false) := by
  refine returnsInHanded_of_change (C := Try.checked) own started (by kernel_rfl) Try.func4
    (ChangeSpec.witness6 (enc := enc) (C := Try.checked) false ⟨#[], #[.agg #[.string ByteArray.empty, .int .i64 0, .slice none 0 0], .agg #[.string ByteArray.empty, .string ByteArray.empty], .int .i64 0, .int .i64 0], []⟩ 8 (by kernel_rfl) (by kernel_rfl) (by kernel_rfl) (by kernel_rfl)) ?_
  intro W base args ds gs before hval0 hW hcnd _
  have hval : ∀ (j : Nat) t v, Try.f4.params[j]? = some t → args[j]? = some v → Value.okWide Try.prog W .any base t v := hval0
  have hW' := hW
  obtain ⟨p, q, hA0, hV, rfl, hfz, hnd⟩ := hW
  have hA : DataW.TrodAll enc Try.prog W 0 (fun _ => true) true Try.f4.params.toList args.toList ds p := hA0
  rw [Try.params4] at hA hval
  obtain ⟨v0, vs0, d0, ds0, p0, q0, hargs, rfl, rfl, h0, r0⟩ := trodAll_cons hA
  obtain ⟨v1, vs1, d1, ds1, p1, q1, rfl, rfl, rfl, h1, r1⟩ := trodAll_cons r0
  obtain ⟨v2, vs2, d2, ds2, p2, q2, rfl, rfl, rfl, h2, r2⟩ := trodAll_cons r1
  obtain ⟨v3, vs3, d3, ds3, p3, q3, rfl, rfl, rfl, h3, r3⟩ := trodAll_cons r2
  obtain ⟨rfl, rfl, rfl⟩ := trodAll_nil r3
  obtain rfl : args = #[v0, v1, v2, v3] := by cases args; simp_all
  obtain ⟨rfl, rfl⟩ := trodVars_none hV
  have k0 := h0
  have lt0 : ∀ x ∈ p0, x.block < W.heap.size := by obtain ⟨m, hm⟩ := k0; exact DataW.trod_lt m _ _ _ hm
  obtain ⟨a0, w0⟩ := open_inMethod (hval 0 24 v0 rfl rfl) h0
  have k1 := h1
  have lt1 : ∀ x ∈ p1, x.block < W.heap.size := by obtain ⟨m, hm⟩ := k1; exact DataW.trod_lt m _ _ _ hm
  obtain ⟨a1, w1⟩ := open_inCalls (hval 1 26 v1 rfl rfl) h1
  obtain ⟨a2, rfl, rfl, rfl, w2⟩ := open_int Try.underlying3 (hval 2 3 v2 rfl rfl) h2
  obtain ⟨a3, rfl, rfl, rfl, w3⟩ := open_int Try.underlying3 (hval 3 3 v3 rfl rfl) h3
  clear hA0 hval0
  refine (LawSearchTouches.walk v0 a0 v1 a1 a2 a3 W w0 w1 w2 w3).mono fun e W' ⟨he, bel⟩ => ?_
  subst he
  exact ⟨_, rfl, _, _, _, [], _, [], hW', trodAll_mk1 (shut_bool Try.underlying4 _), (trodAll_cons_mk (Below.trod laidOut (by kernel_rfl) (of_decide_eq_true (by kernel_rfl)) k0 bel lt0) (trodAll_cons_mk (Below.trod laidOut (by kernel_rfl) (of_decide_eq_true (by kernel_rfl)) k1 bel lt1) (trodAll_cons_mk (shut_int Try.underlying3 w2) (trodAll_cons_mk (shut_int Try.underlying3 w3) trodAll_mk0)))), rfl, bel.frame _, fun h => by cases h⟩

theorem over : Rows.fnExactSearchTouchesRow.holds Try.pinned (OpenSpec.ofChange Rows.fnExactSearchTouchesSpec) :=
  OpenClaim.holds_of_wide 4 Try.f4 rfl rfl rfl rfl rfl rfl rfl ⟨rfl, rfl, rfl, rfl, rfl⟩ rfl rfl rfl rfl rfl (by kernel_rfl) Try.func4 (by kernel_rfl)
    (of_decide_eq_true (by kernel_rfl)) (by unfold Func.isWrapper; first | (rw [if_pos (by decide +kernel)]; kernel_rfl) | (rw [if_neg (by decide +kernel)]; exact ⟨rfl, rfl⟩))
    (fun os started H enc _ => lifted os started H enc)

theorem proved : Rows.FnExactSearchTouchesSaid := over
#print axioms proved
end Go.Proofs.Ytnkpbahapaocbaa.PSearchTouches
