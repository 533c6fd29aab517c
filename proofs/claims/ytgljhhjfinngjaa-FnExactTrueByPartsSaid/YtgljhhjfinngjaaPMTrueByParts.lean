/- The statement of FnExactTrueByParts: called with any arguments that can be read as data, the law returns true, and every argument reads afterwards as it read before. No conditions. -/
import Derived.Test.YtgljhhjfinngjaaPartR
import Derived.Test.YtgljhhjfinngjaaExpR
import Derived.Test.YtgljhhjfinngjaaExpL
import Derived.Test.YtgljhhjfinngjaaRows
import Derived.ShutString
import Derived.ChangeOld
set_option linter.unusedVariables false
set_option linter.unusedSimpArgs false
set_option maxRecDepth 100000
namespace Go.Proofs.Ytgljhhjfinngjaa
open Go.RowKit

theorem rowsR_ok (N : Nat) (cs : List (List UInt8)) (k : List UInt8 × List UInt8) (t : List UInt8) (h : (rowsR N cs k t).2 = true) : rowsR N cs k t = (touchL N cs k t, true) := by
  unfold rowsR at h ⊢
  split
  · rfl
  · rename_i h2; rw [if_neg h2] at h; cases h
/-- What PartRows answers. -/
def partRowsR (m : Meth) (k : List UInt8 × List UInt8) (t : List UInt8) : List (List UInt8) × Bool := if (touchRowsR m k t).2 = true then (leastsL (headTo m.st.toNat m.ch k t t.length) (touchL m.st.toNat m.ch k t), true) else ([], false)
theorem touchRowsR_ok {m : Meth} {k : List UInt8 × List UInt8} {t : List UInt8} (h : (touchRowsR m k t).2 = true) : (callsB m k && goodTouch t) = true ∧ t.length * m.ch.length ≤ 800 ∧ touchRowsR m k t = (touchL m.st.toNat m.ch k t, true) := by
  unfold touchRowsR at h ⊢
  split
  · rename_i h1
    rw [if_pos h1] at h
    refine ⟨h1, ?_, rowsR_ok _ _ _ _ h⟩
    unfold rowsR at h
    split at h
    · assumption
    · cases h
  · rename_i h1; rw [if_neg h1] at h; cases h
theorem partRowsR_le (m : Meth) (k : List UInt8 × List UInt8) (t : List UInt8) : (partRowsR m k t).1.length ≤ 4000000 := by
  unfold partRowsR
  split
  · rename_i h
    obtain ⟨_, h2, _⟩ := touchRowsR_ok h
    dsimp only
    rw [leastsL_len, touchL_len]; omega
  · simp
set_option maxHeartbeats 1000000 in
theorem implPartRows_law (m : Meth) (k : List UInt8 × List UInt8) (t : List UInt8) (A : Option Addr) (n c : Nat) (w : World) (ok : LawOk m k) (rd : Rd w A n (strV m.ch)) (hcap : n ≤ c) (lt : t.length ≤ 1048576) :
    Calls Try.prog 32 #[.agg #[.string (bs m.nm), .int .i64 m.st, .slice A n c], .agg #[.string (bs k.1), .string (bs k.2)], .string (bs t)] w (ResS w (partRowsR m k t)) := by
  have hcl : m.ch.length = n := by have h1 := rd.1; rw [strV_len] at h1; exact h1
  have GC0 := fun (w0 : World) (rd : Rd w0 A n (strV m.ch)) => hid (implTouchRows_law m k t A n c w0 ok rd hcap lt)
  have RS := hid rd
  clear rd ok
  cases hg0 : (touchRowsR m k t).2
  · have HR := hid (show partRowsR m k t = ([], false) from by unfold partRowsR; rw [if_neg (by rw [hg0]; simp)])
    have HG := hid hg0
    generalize touchRowsR m k t = Q at *
    obtain ⟨Q1, Q2⟩ := Q
    obtain rfl : Q2 = false := HG.out
    rw [HR.out]
    obtain ⟨nm, st, ch⟩ := m
    obtain ⟨k1, k2⟩ := k
    dsimp only at *
    clear hg0 HG HR hcl
    go_enter Try.func32, Try.ntmps32
    go_wp2_with fail
    obtain ⟨B2, hsz, HC⟩ := box_mk w nm k1 k2 st (.slice A n c)
    refine (GC0 _ (RS.out.below B2)).out.mono ?_
    rintro e w1 ⟨v1, rfl, o1, b1⟩
    have HB := hid (B2.trans (b1.mono B2.size))
    obtain ⟨A1, c1, rfl, _⟩ := own_shape o1
    clear o1 b1 B2 hsz HC
    go_wp2
    go_ret2
    exact ResS.none _ _ HB.out
  · obtain ⟨hg, h800, hT⟩ := touchRowsR_ok hg0
    have HR := hid (show partRowsR m k t = (leastsL (headTo m.st.toNat m.ch k t t.length) (touchL m.st.toNat m.ch k t), true) from by unfold partRowsR; rw [if_pos hg0])
    rw [HR.out]
    simp only [hT] at GC0
    have hcalls : callsB m k = true := by simp only [Bool.and_eq_true] at hg; exact hg.1
    have hgt : goodTouch t = true := by simp only [Bool.and_eq_true] at hg; exact hg.2
    have hm : methB m = true := callsB_meth (m := m) (k := k) hcalls
    have hb1 := callsB_bob hcalls
    have hb2 := callsB_single hcalls
    obtain ⟨N, hN, lo, hi, l1, l40, hs⟩ := meth_parts hm
    clear hm hcalls HR hg hg0 hT
    obtain ⟨nm, st, ch⟩ := m
    obtain ⟨k1, k2⟩ := k
    dsimp only at *
    subst hN
    simp only [Int.toNat_natCast] at *
    have BC0 := fun (w0 : World) (rd : Rd w0 A n (strV ch)) => hid (touchEnd_any N nm t ch (k1, k2) A n c w0 lo hi rd (by omega) l1 hs hb1 hb2 (goodTouch_len hgt) (goodTouch_calls hgt))
    have hTL := hid (touchL_len N ch (k1, k2) t)
    have BC1 := fun (w0 : World) A1 c1 (rd : Rd w0 A1 (touchL N ch (k1, k2) t).length (strV (touchL N ch (k1, k2) t))) => hid (leastOnes_any N (headTo N ch (k1, k2) t t.length) (touchL N ch (k1, k2) t) A1 _ c1 w0 (headTo_row lo hi ch (k1, k2) t _).1 (headTo_row lo hi ch (k1, k2) t _).2 rd (by rw [hTL.out]; omega) (touchL_rows lo hi ch (k1, k2) t))
    clear hb1 hb2 hs hgt hcl h800
    go_enter Try.func32, Try.ntmps32
    go_wp2_with fail
    obtain ⟨B2, hsz, HC⟩ := box_mk w nm k1 k2 (N : Int) (.slice A n c)
    have R2 := hid (RS.out.below B2)
    have HB2 := hid B2
    have hw2 := B2.size
    generalize ((w.alloc (.cells #[.string (bs nm), .int .i64 (N : Int), .slice A n c] 31)).alloc (.cells #[.string (bs k1), .string (bs k2)] 33)) = W2 at *
    clear B2 hsz
    have HS5 : ∀ W', Below W2.heap.size W2 W' → W'.cell? ⟨w.heap.size, 0, none⟩ = some (.string (bs nm)) ∧ W'.cell? ⟨w.heap.size, 1, none⟩ = some (.int .i64 (N : Int)) ∧ W'.cell? ⟨w.heap.size, 2, none⟩ = some (.slice A n c) ∧ W'.cell? ⟨w.heap.size + 1, 0, none⟩ = some (.string (bs k1)) ∧ W'.cell? ⟨w.heap.size + 1, 1, none⟩ = some (.string (bs k2)) := fun W' h => by
      obtain ⟨⟨a0, a1, a2⟩, a3, a4⟩ := HC.out _ h
      exact ⟨a0, a1, a2, a3, a4⟩
    have HHS5 := hid HS5
    clear HS5 HC
    refine (GC0 _ R2.out).out.mono ?_
    rintro e w1 ⟨v1, rfl, o1, b1⟩
    obtain ⟨A1, c1, rfl, _, _, rd1, _⟩ := own_shape o1
    have E1 := hid b1
    have RD1 := hid rd1
    clear o1 b1 rd1
    obtain ⟨n0, n1, n2, p0, p1⟩ := HHS5.out _ E1.out
    go_wp2_with fail
    refine (BC0 _ (R2.out.below E1.out)).out.mono ?_
    rintro e wa ⟨rfl, ba⟩
    have Fa := E1.out.trans (ba.mono E1.out.size)
    have RDa := RD1.out.below ba
    have HFa := hid Fa
    have HRDa := hid RDa
    have hwa := Fa.size
    clear ba RDa Fa n0 n1 n2 p0 p1
    go_wp2_with fail
    refine (BC1 _ _ _ HRDa.out).out.mono ?_
    rintro e wb ⟨vb, rfl, ob, bb⟩
    have OB := hid ob
    obtain ⟨Ab, cb, rfl, _⟩ := own_shape ob
    have HFb := hid (HFa.out.trans (bb.mono hwa))
    clear ob bb
    go_wp2
    go_ret2
    exact ⟨_, rfl, own_mono OB.out (Nat.le_trans hw2 hwa), HB2.out.trans (HFb.out.mono hw2)⟩
set_option maxHeartbeats 1000000 in
theorem specPartRows_law (m : Meth) (k : List UInt8 × List UInt8) (t : List UInt8) (A : Option Addr) (n c : Nat) (w : World) (ok : LawOk m k) (rd : Rd w A n (strV m.ch)) (hcap : n ≤ c) (lt : t.length ≤ 1048576) :
    Calls Try.prog 31 #[.agg #[.string (bs m.nm), .int .i64 m.st, .slice A n c], .agg #[.string (bs k.1), .string (bs k.2)], .string (bs t)] w (ResS w (partRowsR m k t)) := by
  have hcl : m.ch.length = n := by have h1 := rd.1; rw [strV_len] at h1; exact h1
  have GC0 := fun (w0 : World) (rd : Rd w0 A n (strV m.ch)) => hid (specTouchRows_law m k t A n c w0 ok rd hcap lt)
  have RS := hid rd
  clear rd ok
  cases hg0 : (touchRowsR m k t).2
  · have HR := hid (show partRowsR m k t = ([], false) from by unfold partRowsR; rw [if_neg (by rw [hg0]; simp)])
    have HG := hid hg0
    generalize touchRowsR m k t = Q at *
    obtain ⟨Q1, Q2⟩ := Q
    obtain rfl : Q2 = false := HG.out
    rw [HR.out]
    obtain ⟨nm, st, ch⟩ := m
    obtain ⟨k1, k2⟩ := k
    dsimp only at *
    clear hg0 HG HR hcl
    go_enter Try.func31, Try.ntmps31
    go_wp2_with fail
    obtain ⟨B2, hsz, HC⟩ := box_mk w nm k1 k2 st (.slice A n c)
    refine (GC0 _ (RS.out.below B2)).out.mono ?_
    rintro e w1 ⟨v1, rfl, o1, b1⟩
    have HB := hid (B2.trans (b1.mono B2.size))
    obtain ⟨A1, c1, rfl, _⟩ := own_shape o1
    clear o1 b1 B2 hsz HC
    go_wp2
    go_ret2
    exact ResS.none _ _ HB.out
  · obtain ⟨hg, h800, hT⟩ := touchRowsR_ok hg0
    have HR := hid (show partRowsR m k t = (leastsL (headTo m.st.toNat m.ch k t t.length) (touchL m.st.toNat m.ch k t), true) from by unfold partRowsR; rw [if_pos hg0])
    rw [HR.out]
    simp only [hT] at GC0
    have hcalls : callsB m k = true := by simp only [Bool.and_eq_true] at hg; exact hg.1
    have hgt : goodTouch t = true := by simp only [Bool.and_eq_true] at hg; exact hg.2
    have hm : methB m = true := callsB_meth (m := m) (k := k) hcalls
    have hb1 := callsB_bob hcalls
    have hb2 := callsB_single hcalls
    obtain ⟨N, hN, lo, hi, l1, l40, hs⟩ := meth_parts hm
    clear hm hcalls HR hg hg0 hT
    obtain ⟨nm, st, ch⟩ := m
    obtain ⟨k1, k2⟩ := k
    dsimp only at *
    subst hN
    simp only [Int.toNat_natCast] at *
    have BC0 := fun (w0 : World) (rd : Rd w0 A n (strV ch)) => hid (l12Rows_any N nm t ch (k1, k2) A n c w0 lo hi rd (by omega) hcap l1 hs hb1 hb2 (goodTouch_len hgt))
    clear hb1 hb2 hs hgt hcl h800
    go_enter Try.func31, Try.ntmps31
    go_wp2_with fail
    obtain ⟨B2, hsz, HC⟩ := box_mk w nm k1 k2 (N : Int) (.slice A n c)
    have R2 := hid (RS.out.below B2)
    have HB2 := hid B2
    have hw2 := B2.size
    generalize ((w.alloc (.cells #[.string (bs nm), .int .i64 (N : Int), .slice A n c] 31)).alloc (.cells #[.string (bs k1), .string (bs k2)] 33)) = W2 at *
    clear B2 hsz
    have HS5 : ∀ W', Below W2.heap.size W2 W' → W'.cell? ⟨w.heap.size, 0, none⟩ = some (.string (bs nm)) ∧ W'.cell? ⟨w.heap.size, 1, none⟩ = some (.int .i64 (N : Int)) ∧ W'.cell? ⟨w.heap.size, 2, none⟩ = some (.slice A n c) ∧ W'.cell? ⟨w.heap.size + 1, 0, none⟩ = some (.string (bs k1)) ∧ W'.cell? ⟨w.heap.size + 1, 1, none⟩ = some (.string (bs k2)) := fun W' h => by
      obtain ⟨⟨a0, a1, a2⟩, a3, a4⟩ := HC.out _ h
      exact ⟨a0, a1, a2, a3, a4⟩
    have HHS5 := hid HS5
    clear HS5 HC
    refine (GC0 _ R2.out).out.mono ?_
    rintro e w1 ⟨v1, rfl, o1, b1⟩
    obtain ⟨A1, c1, rfl, _, _, rd1, _⟩ := own_shape o1
    have E1 := hid b1
    have RD1 := hid rd1
    clear o1 b1 rd1
    obtain ⟨n0, n1, n2, p0, p1⟩ := HHS5.out _ E1.out
    go_wp2_with fail
    refine (BC0 _ (R2.out.below E1.out)).out.mono ?_
    rintro e w3 ⟨v3, rfl, o3, b3⟩
    have OB := hid o3
    obtain ⟨A3, c3, rfl, _⟩ := own_shape o3
    have HFb := hid (E1.out.trans (b3.mono E1.out.size))
    clear o3 b3 n0 n1 n2 p0 p1
    go_wp2
    go_ret2
    exact ⟨_, rfl, own_mono OB.out (Nat.le_trans hw2 E1.out.size), HB2.out.trans (HFb.out.mono hw2)⟩
end Go.Proofs.Ytgljhhjfinngjaa

set_option linter.unusedVariables false
set_option linter.unusedSimpArgs false
set_option maxRecDepth 100000
namespace Go.Proofs.Ytgljhhjfinngjaa
open Go.RowKit

/-- An operation that its guard passes over is taken first. -/
theorem wpAnyH_skip {P : Program} {ops : Array Oper} {Q : Exit → Act → World → Prop} {md : Region.Mode} {S : World → Prop} {i : Nat} {d : Option Tmp} {fuel : Nat} {listed : Array Bool} {a : Act} {w : World} (hd : (ops[i]?).map (fun o => o.dst) = some d)
    (hs : Region.noSelect ops = true) (hf : Region.free md ops listed i = true) (hr : (Region.ready md ops listed).contains i = true)
    (hQ : ∀ c a v w, Q (.panic c) (a.put d v) w → Q (.panic c) a w) (hw : (ops[i]?).map (fun o => Region.wanted o (yielded ops a.tmps)) = some false) (hS : S w)
    (h : wpAnyH P md ops Q S fuel (listed.setIfInBounds i true) (a.put d undef) w) : wpAnyH P md ops Q S (fuel + 1) listed a w := by
  cases ho : ops[i]? with
  | none => rw [ho] at hd; cases hd
  | some o =>
    rw [ho] at hd hw
    simp only [Option.map_some, Option.some.injEq] at hd hw
    subst hd
    exact wpAnyH_take ho hs hf hr (fun c a w => hQ c a undef w) (Or.inr ⟨hw, rfl⟩) hS h
/-- What TrueByParts answers. -/
def trueByPartsR (m : Meth) (k : List UInt8 × List UInt8) (t : List UInt8) : Bool × Bool := if (callsB m k && goodTouch t) = true then (trueB (leadL (roundsL m.st.toNat) m.ch) && trueB (leastsL (headTo m.st.toNat m.ch k t t.length) (touchL m.st.toNat m.ch k t)), true) else (false, false)
set_option maxHeartbeats 2000000 in
theorem implTrueByParts_law (m : Meth) (k : List UInt8 × List UInt8) (t : List UInt8) (A : Option Addr) (n c : Nat) (w : World) (ok : LawOk m k) (rd : Rd w A n (strV m.ch)) (hcap : n ≤ c) (lt : t.length ≤ 1048576) :
    Calls Try.prog 34 #[.agg #[.string (bs m.nm), .int .i64 m.st, .slice A n c], .agg #[.string (bs k.1), .string (bs k.2)], .string (bs t)] w fun e w' => e = .returned (.tuple #[.bool (trueByPartsR m k t).1, .bool (trueByPartsR m k t).2]) ∧ Below w.heap.size w w' := by
  have hn : n ≤ 1048576 := by have h1 := rd.1; have h2 := ok.2.2.1; rw [strV_len] at h1; omega
  have hcl : m.ch.length = n := by have h1 := rd.1; rw [strV_len] at h1; exact h1
  have GC0 := fun (w0 : World) (rd : Rd w0 A n (strV m.ch)) => hid (goodFor_any m k t A n c w0 ok rd lt)
  have RS := hid rd
  have HOK := hid ok
  clear rd ok
  cases hg0 : callsB m k && goodTouch t
  · rw [hg0] at GC0
    have HR := hid (show trueByPartsR m k t = (false, false) from by unfold trueByPartsR; rw [if_neg (by rw [hg0]; simp)])
    obtain ⟨nm, st, ch⟩ := m
    obtain ⟨k1, k2⟩ := k
    dsimp only at *
    clear HOK hg0
    go_enter Try.func34, Try.ntmps34
    go_wp2_with fail
    obtain ⟨B2, hsz, HC⟩ := box_mk w nm k1 k2 st (.slice A n c)
    have R2 := hid (RS.out.below B2)
    have HB2 := hid B2
    have hw2 := B2.size
    generalize ((w.alloc (.cells #[.string (bs nm), .int .i64 st, .slice A n c] 31)).alloc (.cells #[.string (bs k1), .string (bs k2)] 33)) = W2 at *
    clear B2 hsz
    have HS5 : ∀ W', Below W2.heap.size W2 W' → W'.cell? ⟨w.heap.size, 0, none⟩ = some (.string (bs nm)) ∧ W'.cell? ⟨w.heap.size, 1, none⟩ = some (.int .i64 st) ∧ W'.cell? ⟨w.heap.size, 2, none⟩ = some (.slice A n c) ∧ W'.cell? ⟨w.heap.size + 1, 0, none⟩ = some (.string (bs k1)) ∧ W'.cell? ⟨w.heap.size + 1, 1, none⟩ = some (.string (bs k2)) := fun W' h => by
      obtain ⟨⟨a0, a1, a2⟩, a3, a4⟩ := HC.out _ h
      exact ⟨a0, a1, a2, a3, a4⟩
    have HHS5 := hid HS5
    clear HS5 HC
    have E0 : Hid (Below W2.heap.size W2 W2) := hid (Below.refl _ _)
    obtain ⟨n0, n1, n2, p0, p1⟩ := HHS5.out _ E0.out
    refine (GC0 _ (R2.out.below E0.out)).out.mono ?_
    rintro e wx0 ⟨rfl, bx⟩
    have E1 := hid (E0.out.trans (bx.mono E0.out.size))
    clear bx
    clear n0 n1 n2 p0 p1
    obtain ⟨n0, n1, n2, p0, p1⟩ := HHS5.out _ E1.out
    go_wp2
    go_ret2
    rw [HR.out]
    exact ⟨rfl, HB2.out.trans (E1.out.mono hw2)⟩
  · rw [hg0] at GC0
    have hcalls : callsB m k = true := by simp only [Bool.and_eq_true] at hg0; exact hg0.1
    have HR := hid (show trueByPartsR m k t = (trueB (leadL (roundsL m.st.toNat) m.ch) && trueB (leastsL (headTo m.st.toNat m.ch k t t.length) (touchL m.st.toNat m.ch k t)), true) from by unfold trueByPartsR; rw [if_pos hg0])
    have hm : methB m = true := callsB_meth (m := m) (k := k) hcalls
    have hb1 := callsB_bob hcalls
    have hb2 := callsB_single hcalls
    obtain ⟨N, hN, lo, hi, l1, l40, hs⟩ := meth_parts hm
    clear hm hcalls
    obtain ⟨nm, st, ch⟩ := m
    obtain ⟨k1, k2⟩ := k
    dsimp only at *
    subst hN
    have BC0 := fun (w0 : World) (rd : Rd w0 A n (strV ch)) => hid (heads_any N nm t ch (k1, k2) A n c w0 lo hi rd hn l1 hs hb1 hb2 (goodTouch_len (by simp only [Bool.and_eq_true] at hg0; exact hg0.2)) (goodTouch_calls (by simp only [Bool.and_eq_true] at hg0; exact hg0.2)))
    have BC1 := fun (w0 : World) (rd : Rd w0 A n (strV ch)) => hid (leadTrue_any N nm ch A n c w0 lo hi rd hn hs)
    obtain ⟨P0, hP0⟩ : ∃ P, P = trueB (leadL (roundsL N) ch) := ⟨_, rfl⟩
    obtain ⟨P1, hP1⟩ : ∃ P, P = trueB (leastsL (headTo N ch (k1, k2) t t.length) (touchL N ch (k1, k2) t)) := ⟨_, rfl⟩
    have HR' := hid (show trueByPartsR ⟨nm, (N : Int), ch⟩ (k1, k2) t = (P0 && P1, true) by rw [hP0, hP1]; exact HR.out)
    rw [← hP0] at BC1
    have hTL := hid (show (touchL N ch (k1, k2) t).length = t.length * n by rw [touchL_len, hcl])
    have hlen := goodTouch_len (t := t) (by simp only [Bool.and_eq_true] at hg0; exact hg0.2)
    have hp : t.length * n ≤ 1000000 := Nat.le_trans (Nat.mul_le_mul hlen (show n ≤ 1000 by omega)) (by omega)
    have hE := headTo_row lo hi ch (k1, k2) t t.length
    have LF := fun B d (w0 : World) (rd : Rd w0 A n (strV ch)) (rb : Rd w0 B t.length (strV ((headsTo N ch (k1, k2) t t.length).take t.length))) => hid (leadsFrom_any N nm (N : Int) ch ((headsTo N ch (k1, k2) t t.length).take t.length) A B n c t.length d w0 rd rb (by omega) hlen hs (heads_take_rows lo hi ch (k1, k2) t _ _))
    have LO := fun (w0 : World) A1 c1 (rd : Rd w0 A1 (touchL N ch (k1, k2) t).length (strV (touchL N ch (k1, k2) t))) => hid (leastOnes_any N (headTo N ch (k1, k2) t t.length) (touchL N ch (k1, k2) t) A1 _ c1 w0 hE.1 hE.2 rd (by rw [hTL.out]; omega) (touchL_rows lo hi ch (k1, k2) t))
    have IT := fun (w0 : World) A1 c1 (rd : Rd w0 A1 (leastsL (headTo N ch (k1, k2) t t.length) (touchL N ch (k1, k2) t)).length (strV (leastsL (headTo N ch (k1, k2) t t.length) (touchL N ch (k1, k2) t)))) => hid (isTrue_any A1 _ c1 _ w0 rd (by rw [leastsL_len, hTL.out]; omega) (leastsL_short hi hE.1 hE.2 (touchL_rows lo hi ch (k1, k2) t)))
    rw [← hP1] at IT
    have i0 : (0 : Int) ≤ (t.length : Int) := Int.natCast_nonneg _
    have i1 : (t.length : Int) < (t.length : Int) + 1 := by omega
    have i2 : (t.length : Int) ≤ (t.length : Int) + 1 := by omega
    clear hP0 hP1 hE hp
    clear HOK hb1 hb2 hs hcl hg0
    go_enter Try.func34, Try.ntmps34
    go_wp2_with fail
    obtain ⟨B2, hsz, HC⟩ := box_mk w nm k1 k2 (N : Int) (.slice A n c)
    have R2 := hid (RS.out.below B2)
    have HB2 := hid B2
    have hw2 := B2.size
    generalize ((w.alloc (.cells #[.string (bs nm), .int .i64 (N : Int), .slice A n c] 31)).alloc (.cells #[.string (bs k1), .string (bs k2)] 33)) = W2 at *
    clear B2 hsz
    have HS5 : ∀ W', Below W2.heap.size W2 W' → W'.cell? ⟨w.heap.size, 0, none⟩ = some (.string (bs nm)) ∧ W'.cell? ⟨w.heap.size, 1, none⟩ = some (.int .i64 (N : Int)) ∧ W'.cell? ⟨w.heap.size, 2, none⟩ = some (.slice A n c) ∧ W'.cell? ⟨w.heap.size + 1, 0, none⟩ = some (.string (bs k1)) ∧ W'.cell? ⟨w.heap.size + 1, 1, none⟩ = some (.string (bs k2)) := fun W' h => by
      obtain ⟨⟨a0, a1, a2⟩, a3, a4⟩ := HC.out _ h
      exact ⟨a0, a1, a2, a3, a4⟩
    have HHS5 := hid HS5
    clear HS5 HC
    have E0 : Hid (Below W2.heap.size W2 W2) := hid (Below.refl _ _)
    obtain ⟨n0, n1, n2, p0, p1⟩ := HHS5.out _ E0.out
    refine (GC0 _ (R2.out.below E0.out)).out.mono ?_
    rintro e wx0 ⟨rfl, bx⟩
    have E1 := hid (E0.out.trans (bx.mono E0.out.size))
    clear bx
    clear n0 n1 n2 p0 p1
    obtain ⟨n0, n1, n2, p0, p1⟩ := HHS5.out _ E1.out
    go_wp2_with fail
    refine (BC0 _ (R2.out.below E1.out)).out.mono ?_
    rintro e wx1 ⟨vx1, rfl, ox1, bx⟩
    have E2 := hid (E1.out.trans (bx.mono E1.out.size))
    clear bx
    obtain ⟨Ax1, cx1, rfl, hcx1, _, rdx1, _⟩ := own_shape ox1
    have RX1 := hid rdx1
    have OX1 := hid ox1
    clear rdx1 ox1
    clear n0 n1 n2 p0 p1
    skip
    cases P0
    · obtain ⟨n0, n1, n2, p0, p1⟩ := HHS5.out _ E2.out
      go_wp2_with fail
      refine wp_region_held_drew (S := fun w' => w'.cell? ⟨w.heap.size, 0, none⟩ = some (.string (bs nm)) ∧ w'.cell? ⟨w.heap.size, 1, none⟩ = some (.int .i64 (N : Int)) ∧ w'.cell? ⟨w.heap.size, 2, none⟩ = some (.slice A n c) ∧ w'.cell? ⟨w.heap.size + 1, 0, none⟩ = some (.string (bs k1)) ∧ w'.cell? ⟨w.heap.size + 1, 1, none⟩ = some (.string (bs k2))) (by kernel_rfl) (HHS5.out _ E2.out.drew) (fun hHeld => ?_)
      refine wpAnyH_take (i := 0) (v := ?_) rfl (by kernel_rfl) (by kernel_rfl) (by kernel_rfl) (fun _ _ _ h => h) (Or.inl ⟨by rfl, ?_⟩) (by assumption) ?_
      rotate_left
      · (intro w hSw; (try dsimp only at hSw); go_simp; with_reducible rfl)
      try simp only [Act.put, List.setIfInBounds_toArray, List.set_cons_zero, List.set_cons_succ]
      refine wpAnyH_ready (rs := [1]) (by kernel_rfl) (by simp) ?_
      refine AllReadyH.cons rfl (fun K hK => ?_) AllReadyH.nil
      go_simp
      go_at_call 60
      refine (BC1 _ (R2.out.below E2.out.drew)).out.mono ?_
      rintro e wa ⟨rfl, ba⟩
      have Fa := E2.out.drew.trans (ba.mono E2.out.size)
      go_wp2_with fail
      refine hK.out _ _ (HHS5.out _ Fa) (fun hHx => ?_)
      clear hHx hK K hHeld
      try simp only [Act.put, List.setIfInBounds_toArray, List.set_cons_zero, List.set_cons_succ]
      refine wpAnyH_take (i := 2) (v := ?_) rfl (by kernel_rfl) (by kernel_rfl) (by kernel_rfl) (fun _ _ _ h => h) (Or.inl ⟨by rfl, ?_⟩) (HHS5.out _ Fa) ?_
      rotate_left
      · (intro w hSw; (try dsimp only at hSw); go_simp; with_reducible rfl)
      try simp only [Act.put, List.setIfInBounds_toArray, List.set_cons_zero, List.set_cons_succ]
      refine wpAnyH_skip (i := 3) (d := some 21) (by kernel_rfl) (by kernel_rfl) (by kernel_rfl) (by kernel_rfl) (fun _ _ _ _ h => h) (by kernel_rfl) (HHS5.out _ Fa) ?_
      try simp only [Act.put, List.setIfInBounds_toArray, List.set_cons_zero, List.set_cons_succ]
      refine wpAnyH_skip (i := 4) (d := some 22) (by kernel_rfl) (by kernel_rfl) (by kernel_rfl) (by kernel_rfl) (fun _ _ _ _ h => h) (by kernel_rfl) (HHS5.out _ Fa) ?_
      try simp only [Act.put, List.setIfInBounds_toArray, List.set_cons_zero, List.set_cons_succ]
      refine wpAnyH_skip (i := 5) (d := some 23) (by kernel_rfl) (by kernel_rfl) (by kernel_rfl) (by kernel_rfl) (fun _ _ _ _ h => h) (by kernel_rfl) (HHS5.out _ Fa) ?_
      try simp only [Act.put, List.setIfInBounds_toArray, List.set_cons_zero, List.set_cons_succ]
      refine wpAnyH_skip (i := 6) (d := some 24) (by kernel_rfl) (by kernel_rfl) (by kernel_rfl) (by kernel_rfl) (fun _ _ _ _ h => h) (by kernel_rfl) (HHS5.out _ Fa) ?_
      try simp only [Act.put, List.setIfInBounds_toArray, List.set_cons_zero, List.set_cons_succ]
      refine wpAnyH_skip (i := 7) (d := some 25) (by kernel_rfl) (by kernel_rfl) (by kernel_rfl) (by kernel_rfl) (fun _ _ _ _ h => h) (by kernel_rfl) (HHS5.out _ Fa) ?_
      try simp only [Act.put, List.setIfInBounds_toArray, List.set_cons_zero, List.set_cons_succ]
      refine wpAnyH_skip (i := 8) (d := some 26) (by kernel_rfl) (by kernel_rfl) (by kernel_rfl) (by kernel_rfl) (fun _ _ _ _ h => h) (by kernel_rfl) (HHS5.out _ Fa) ?_
      try simp only [Act.put, List.setIfInBounds_toArray, List.set_cons_zero, List.set_cons_succ]
      refine wpAnyH_skip (i := 9) (d := some 27) (by kernel_rfl) (by kernel_rfl) (by kernel_rfl) (by kernel_rfl) (fun _ _ _ _ h => h) (by kernel_rfl) (HHS5.out _ Fa) ?_
      try simp only [Act.put, List.setIfInBounds_toArray, List.set_cons_zero, List.set_cons_succ]
      refine wpAnyH_skip (i := 10) (d := some 28) (by kernel_rfl) (by kernel_rfl) (by kernel_rfl) (by kernel_rfl) (fun _ _ _ _ h => h) (by kernel_rfl) (HHS5.out _ Fa) ?_
      try simp only [Act.put, List.setIfInBounds_toArray, List.set_cons_zero, List.set_cons_succ]
      refine wpAnyH_skip (i := 11) (d := some 29) (by kernel_rfl) (by kernel_rfl) (by kernel_rfl) (by kernel_rfl) (fun _ _ _ _ h => h) (by kernel_rfl) (HHS5.out _ Fa) ?_
      try simp only [Act.put, List.setIfInBounds_toArray, List.set_cons_zero, List.set_cons_succ]
      refine wpAnyH_skip (i := 12) (d := some 30) (by kernel_rfl) (by kernel_rfl) (by kernel_rfl) (by kernel_rfl) (fun _ _ _ _ h => h) (by kernel_rfl) (HHS5.out _ Fa) ?_
      try simp only [Act.put, List.setIfInBounds_toArray, List.set_cons_zero, List.set_cons_succ]
      refine wpAnyH_skip (i := 13) (d := some 31) (by kernel_rfl) (by kernel_rfl) (by kernel_rfl) (by kernel_rfl) (fun _ _ _ _ h => h) (by kernel_rfl) (HHS5.out _ Fa) ?_
      try simp only [Act.put, List.setIfInBounds_toArray, List.set_cons_zero, List.set_cons_succ]
      refine wpAnyH_skip (i := 14) (d := some 32) (by kernel_rfl) (by kernel_rfl) (by kernel_rfl) (by kernel_rfl) (fun _ _ _ _ h => h) (by kernel_rfl) (HHS5.out _ Fa) ?_
      try simp only [Act.put, List.setIfInBounds_toArray, List.set_cons_zero, List.set_cons_succ]
      refine wpAnyH_skip (i := 15) (d := some 33) (by kernel_rfl) (by kernel_rfl) (by kernel_rfl) (by kernel_rfl) (fun _ _ _ _ h => h) (by kernel_rfl) (HHS5.out _ Fa) ?_
      try simp only [Act.put, List.setIfInBounds_toArray, List.set_cons_zero, List.set_cons_succ]
      refine wpAnyH_ready (rs := [16]) (by kernel_rfl) (by simp) ?_
      refine AllReadyH.cons rfl (fun K hK => ?_) AllReadyH.nil
      go_simp
      refine hK.out _ _ (HHS5.out _ Fa) (fun hHx => ?_)
      clear hHx hK K
      try simp only [Act.put, List.setIfInBounds_toArray, List.set_cons_zero, List.set_cons_succ]
      refine wpAnyH_ready (rs := [17]) (by kernel_rfl) (by simp) ?_
      refine AllReadyH.cons rfl (fun K hK => ?_) AllReadyH.nil
      go_simp
      refine hK.out _ _ (HHS5.out _ Fa) (fun hHx => ?_)
      clear hHx hK K
      try simp only [Act.put, List.setIfInBounds_toArray, List.set_cons_zero, List.set_cons_succ]
      refine wpAnyH_ready (rs := [18]) (by kernel_rfl) (by simp) ?_
      refine AllReadyH.cons rfl (fun K hK => ?_) AllReadyH.nil
      go_simp
      refine hK.out _ _ (HHS5.out _ Fa) (fun hHx => ?_)
      clear hHx hK K
      try simp only [Act.put, List.setIfInBounds_toArray, List.set_cons_zero, List.set_cons_succ]
      refine wpAnyH_done (by kernel_rfl) ?_ _
      have HFa := hid Fa
      clear ba Fa n0 n1 n2 p0 p1
      go_wp2
      go_ret2
      rw [HR'.out]
      exact ⟨rfl, HB2.out.trans (HFa.out.mono hw2)⟩
    · have hcx2 := hcx1
      obtain ⟨bq, oq, rfl, hk, hc⟩ := RX1.out.str (show t.length < t.length + 1 by omega)
      rw [headsTo_last] at hc
      have j2 := Int.ofNat_le.2 (Nat.le_of_succ_le hcx2)
      have HS8 : ∀ W', Below wx1.heap.size wx1 W' → W'.cell? ⟨w.heap.size, 0, none⟩ = some (.string (bs nm)) ∧ W'.cell? ⟨w.heap.size, 1, none⟩ = some (.int .i64 (N : Int)) ∧ W'.cell? ⟨w.heap.size, 2, none⟩ = some (.slice A n c) ∧ W'.cell? ⟨w.heap.size + 1, 0, none⟩ = some (.string (bs k1)) ∧ W'.cell? ⟨w.heap.size + 1, 1, none⟩ = some (.string (bs k2)) ∧ W'.cell? ⟨bq, oq + t.length, none⟩ = some (.string (bs (headTo N ch (k1, k2) t t.length))) := fun W' h => by
        obtain ⟨a0, a1, a2, a3, a4⟩ := HHS5.out _ (E2.out.trans (h.mono E2.out.size))
        exact ⟨a0, a1, a2, a3, a4, (h.cell (p := ⟨bq, oq + t.length, none⟩) (World.block_lt_of_cell? wx1 _ hc)).trans hc⟩
      have HHS8 := hid HS8
      clear HS8 hk hc
      obtain ⟨n0, n1, n2, p0, p1, q0⟩ := HHS8.out _ (Below.refl _ _)
      go_wp2_with fail
      go_region_held3 (fun w' => w'.cell? ⟨w.heap.size, 0, none⟩ = some (.string (bs nm)) ∧ w'.cell? ⟨w.heap.size, 1, none⟩ = some (.int .i64 (N : Int)) ∧ w'.cell? ⟨w.heap.size, 2, none⟩ = some (.slice A n c) ∧ w'.cell? ⟨w.heap.size + 1, 0, none⟩ = some (.string (bs k1)) ∧ w'.cell? ⟨w.heap.size + 1, 1, none⟩ = some (.string (bs k2)) ∧ w'.cell? ⟨bq, oq + t.length, none⟩ = some (.string (bs (headTo N ch (k1, k2) t t.length))))
        (first | exact HHS8.out _ (Below.refl _ _) | exact HHS8.out _ (Below.refl _ _).drew | exact HHS8.out _ F0 | exact HHS8.out _ Fa | exact HHS8.out _ Fb | exact HHS8.out _ Fc)
        (first | (go_at_call 60; refine (BC1 _ (R2.out.below E2.out.drew)).out.mono ?_; rintro e wz ⟨rfl, bz⟩; have F0 := (Below.refl wx1.heap.size wx1).drew.trans (bz.mono (Nat.le_refl _))) | (go_at_call 62; refine (LF _ _ _ (R2.out.below (E2.out.trans (F0.mono E2.out.size))) (rd_take (RX1.out.below F0) (Nat.le_succ _))).out.mono ?_; rintro e wa ⟨va, rfl, oa, ba⟩; obtain ⟨Aa, ca, rfl, _, _, rda, _⟩ := own_shape oa; have Fa := F0.trans (ba.mono F0.size)) | (go_at_call 57; refine (LO _ _ _ rda).out.mono ?_; rintro e wb ⟨vb, rfl, ob, bb⟩; obtain ⟨Ab, cb, rfl, _, _, rdb, _⟩ := own_shape ob; have Fb := Fa.trans (bb.mono Fa.size)) | (go_at_call 61; refine (IT _ _ _ rdb).out.mono ?_; rintro e wc ⟨rfl, bc⟩; have Fc := Fb.trans (bc.mono Fb.size)))
      have HFc := hid Fc
      clear bz oa ba rda ob bb rdb bc F0 Fa Fb Fc n0 n1 n2 p0 p1 q0
      go_wp2
      go_ret2
      rw [HR'.out]
      exact ⟨rfl, HB2.out.trans ((E2.out.trans (HFc.out.mono E2.out.size)).mono hw2)⟩
set_option maxHeartbeats 2000000 in
theorem specTrueByParts_law (m : Meth) (k : List UInt8 × List UInt8) (t : List UInt8) (A : Option Addr) (n c : Nat) (w : World) (ok : LawOk m k) (rd : Rd w A n (strV m.ch)) (hcap : n ≤ c) (lt : t.length ≤ 1048576) :
    Calls Try.prog 33 #[.agg #[.string (bs m.nm), .int .i64 m.st, .slice A n c], .agg #[.string (bs k.1), .string (bs k.2)], .string (bs t)] w fun e w' => e = .returned (.tuple #[.bool (trueByPartsR m k t).1, .bool (trueByPartsR m k t).2]) ∧ Below w.heap.size w w' := by
  have hn : n ≤ 1048576 := by have h1 := rd.1; have h2 := ok.2.2.1; rw [strV_len] at h1; omega
  have hcl : m.ch.length = n := by have h1 := rd.1; rw [strV_len] at h1; exact h1
  have GC0 := fun (w0 : World) (rd : Rd w0 A n (strV m.ch)) => hid (l9Asked_any m k t A n c w0 ok rd lt)
  have RS := hid rd
  have HOK := hid ok
  clear rd ok
  cases hg0 : callsB m k && goodTouch t
  · rw [hg0] at GC0
    have HR := hid (show trueByPartsR m k t = (false, false) from by unfold trueByPartsR; rw [if_neg (by rw [hg0]; simp)])
    obtain ⟨nm, st, ch⟩ := m
    obtain ⟨k1, k2⟩ := k
    dsimp only at *
    clear HOK hg0
    go_enter Try.func33, Try.ntmps33
    go_wp2_with fail
    obtain ⟨B2, hsz, HC⟩ := box_mk w nm k1 k2 st (.slice A n c)
    have R2 := hid (RS.out.below B2)
    have HB2 := hid B2
    have hw2 := B2.size
    generalize ((w.alloc (.cells #[.string (bs nm), .int .i64 st, .slice A n c] 31)).alloc (.cells #[.string (bs k1), .string (bs k2)] 33)) = W2 at *
    clear B2 hsz
    have HS5 : ∀ W', Below W2.heap.size W2 W' → W'.cell? ⟨w.heap.size, 0, none⟩ = some (.string (bs nm)) ∧ W'.cell? ⟨w.heap.size, 1, none⟩ = some (.int .i64 st) ∧ W'.cell? ⟨w.heap.size, 2, none⟩ = some (.slice A n c) ∧ W'.cell? ⟨w.heap.size + 1, 0, none⟩ = some (.string (bs k1)) ∧ W'.cell? ⟨w.heap.size + 1, 1, none⟩ = some (.string (bs k2)) := fun W' h => by
      obtain ⟨⟨a0, a1, a2⟩, a3, a4⟩ := HC.out _ h
      exact ⟨a0, a1, a2, a3, a4⟩
    have HHS5 := hid HS5
    clear HS5 HC
    have E0 : Hid (Below W2.heap.size W2 W2) := hid (Below.refl _ _)
    obtain ⟨n0, n1, n2, p0, p1⟩ := HHS5.out _ E0.out
    refine (GC0 _ (R2.out.below E0.out)).out.mono ?_
    rintro e wx0 ⟨rfl, bx⟩
    have E1 := hid (E0.out.trans (bx.mono E0.out.size))
    clear bx
    clear n0 n1 n2 p0 p1
    obtain ⟨n0, n1, n2, p0, p1⟩ := HHS5.out _ E1.out
    go_wp2
    go_ret2
    rw [HR.out]
    exact ⟨rfl, HB2.out.trans (E1.out.mono hw2)⟩
  · rw [hg0] at GC0
    have hcalls : callsB m k = true := by simp only [Bool.and_eq_true] at hg0; exact hg0.1
    have HR := hid (show trueByPartsR m k t = (trueB (leadL (roundsL m.st.toNat) m.ch) && trueB (leastsL (headTo m.st.toNat m.ch k t t.length) (touchL m.st.toNat m.ch k t)), true) from by unfold trueByPartsR; rw [if_pos hg0])
    have hm : methB m = true := callsB_meth (m := m) (k := k) hcalls
    have hb1 := callsB_bob hcalls
    have hb2 := callsB_single hcalls
    obtain ⟨N, hN, lo, hi, l1, l40, hs⟩ := meth_parts hm
    clear hm hcalls
    obtain ⟨nm, st, ch⟩ := m
    obtain ⟨k1, k2⟩ := k
    dsimp only at *
    subst hN
    have BC0 := fun (w0 : World) (rd : Rd w0 A n (strV ch)) => hid (specIsLeadTrue_law ⟨nm, (N : Int), ch⟩ A n c w0 ⟨HOK.out.1, HOK.out.2.1, HOK.out.2.2.1, HOK.out.2.2.2.1, by simp, by simp⟩ rd hcap)
    obtain ⟨P0, hP0⟩ : ∃ P, P = trueB (leadL (roundsL N) ch) := ⟨_, rfl⟩
    obtain ⟨P1, hP1⟩ : ∃ P, P = trueB (leastsL (headTo N ch (k1, k2) t t.length) (touchL N ch (k1, k2) t)) := ⟨_, rfl⟩
    have HR' := hid (show trueByPartsR ⟨nm, (N : Int), ch⟩ (k1, k2) t = (P0 && P1, true) by rw [hP0, hP1]; exact HR.out)
    have hLT : leadTrueR ⟨nm, (N : Int), ch⟩ = (P0, true) := by
      unfold leadTrueR
      rw [if_pos (callsB_meth (k := (k1, k2)) (by simp only [Bool.and_eq_true] at hg0; exact hg0.1)), hP0]; rfl
    simp only [hLT] at BC0
    clear hLT
    have BC1 := fun (w0 : World) (rd : Rd w0 A n (strV ch)) => hid (l12Rows_any N nm t ch (k1, k2) A n c w0 lo hi rd (by omega) hcap l1 hs hb1 hb2 (goodTouch_len (by simp only [Bool.and_eq_true] at hg0; exact hg0.2)))
    have hTL := hid (show (touchL N ch (k1, k2) t).length = t.length * n by rw [touchL_len, hcl])
    have hlen := goodTouch_len (t := t) (by simp only [Bool.and_eq_true] at hg0; exact hg0.2)
    have hp : t.length * n ≤ 1000000 := Nat.le_trans (Nat.mul_le_mul hlen (show n ≤ 1000 by omega)) (by omega)
    have IT := fun (w0 : World) A1 c1 (rd : Rd w0 A1 (leastsL (headTo N ch (k1, k2) t t.length) (touchL N ch (k1, k2) t)).length (strV (leastsL (headTo N ch (k1, k2) t t.length) (touchL N ch (k1, k2) t)))) => hid (l7True_any A1 _ c1 _ w0 rd (by rw [leastsL_len, hTL.out]; omega))
    rw [← hP1] at IT
    clear hP0 hP1 hp hlen
    clear HOK hb1 hb2 hs hcl hg0
    go_enter Try.func33, Try.ntmps33
    go_wp2_with fail
    obtain ⟨B2, hsz, HC⟩ := box_mk w nm k1 k2 (N : Int) (.slice A n c)
    have R2 := hid (RS.out.below B2)
    have HB2 := hid B2
    have hw2 := B2.size
    generalize ((w.alloc (.cells #[.string (bs nm), .int .i64 (N : Int), .slice A n c] 31)).alloc (.cells #[.string (bs k1), .string (bs k2)] 33)) = W2 at *
    clear B2 hsz
    have HS5 : ∀ W', Below W2.heap.size W2 W' → W'.cell? ⟨w.heap.size, 0, none⟩ = some (.string (bs nm)) ∧ W'.cell? ⟨w.heap.size, 1, none⟩ = some (.int .i64 (N : Int)) ∧ W'.cell? ⟨w.heap.size, 2, none⟩ = some (.slice A n c) ∧ W'.cell? ⟨w.heap.size + 1, 0, none⟩ = some (.string (bs k1)) ∧ W'.cell? ⟨w.heap.size + 1, 1, none⟩ = some (.string (bs k2)) := fun W' h => by
      obtain ⟨⟨a0, a1, a2⟩, a3, a4⟩ := HC.out _ h
      exact ⟨a0, a1, a2, a3, a4⟩
    have HHS5 := hid HS5
    clear HS5 HC
    have E0 : Hid (Below W2.heap.size W2 W2) := hid (Below.refl _ _)
    obtain ⟨n0, n1, n2, p0, p1⟩ := HHS5.out _ E0.out
    refine (GC0 _ (R2.out.below E0.out)).out.mono ?_
    rintro e wx0 ⟨rfl, bx⟩
    have E1 := hid (E0.out.trans (bx.mono E0.out.size))
    clear bx
    clear n0 n1 n2 p0 p1
    obtain ⟨n0, n1, n2, p0, p1⟩ := HHS5.out _ E1.out
    go_wp2_with fail
    refine (BC0 _ (R2.out.below E1.out)).out.mono ?_
    rintro e wx1 ⟨rfl, bx⟩
    have E2 := hid (E1.out.trans (bx.mono E1.out.size))
    have E3 := E2
    clear bx n0 n1 n2 p0 p1
    cases P0
    · obtain ⟨n0, n1, n2, p0, p1⟩ := HHS5.out _ E2.out
      go_wp2
      go_ret2
      rw [HR'.out]
      exact ⟨rfl, HB2.out.trans (E2.out.mono hw2)⟩
    · obtain ⟨n0, n1, n2, p0, p1⟩ := HHS5.out _ E2.out
      go_wp2_with fail
      refine (BC1 _ (R2.out.below E2.out)).out.mono ?_
      rintro e wb ⟨vb, rfl, ob, bb⟩
      obtain ⟨Ab, cb, rfl, _, _, rdb, _⟩ := own_shape ob
      have E4 := hid (E2.out.trans (bb.mono E2.out.size))
      have RDb := hid rdb
      clear ob bb rdb n0 n1 n2 p0 p1
      go_wp2_with fail
      refine (IT _ _ _ RDb.out).out.mono ?_
      rintro e wc ⟨rfl, bc⟩
      have E5 := hid (E4.out.trans (bc.mono E4.out.size))
      clear bc
      go_wp2
      go_ret2
      rw [HR'.out]
      exact ⟨rfl, HB2.out.trans (E5.out.mono hw2)⟩
end Go.Proofs.Ytgljhhjfinngjaa

set_option linter.unusedVariables false
set_option linter.unusedSimpArgs false
set_option maxRecDepth 100000
namespace Go.Proofs.Ytgljhhjfinngjaa
open Go.RowKit

set_option maxHeartbeats 4000000 in
theorem LawTrueByParts.walk (v : Value) (m : Meth) (u : Value) (k : List UInt8 × List UInt8) (t : List UInt8) (w : World) (hv : InMethod w v m) (hu : InCalls w u k) (wt : t.length ≤ maxLen) :
    Calls Try.prog 9 #[v, u, .string (bs t)] w fun e w' => e = .returned (.bool true) ∧ Below w.heap.size w w' := by
  obtain ⟨nm, st, ch⟩ := m
  obtain ⟨k1, k2⟩ := k
  have SZ := fun left w0 (hw0 : InMethod w0 v ⟨nm, st, ch⟩) h0 h1 => hid (szMethod_any ⟨nm, st, ch⟩ v left w0 hw0 h0 h1)
  have HIM := hid (fun (w0 : World) (hb : Below w.heap.size w w0) => inMethod_below hv hb)
  obtain ⟨_, rfl, hn, wst, A, n, c, rfl, hn2, hr, hs⟩ := hv
  obtain ⟨rfl, hk1, hk2⟩ := hu
  have SK := fun left w0 h0 h1 => hid (szCalls_any (k1, k2) left w0 hk1 hk2 h0 h1)
  dsimp only at *
  have hln : ch.length = n := by have := hr.1; rw [strV_len] at this; exact this
  have HR := hid hr
  have HS := hid hs
  clear hr hs
  by_cases lt : t.length ≤ 1048576
  case neg =>
    have hi : (1048576 : Int) < (t.length : Int) := by omega
    go_enter Try.func9, Try.ntmps9
    go_wp2
    go_ret
    exact ⟨rfl, ((Below.refl _ _).alloc (Nat.le_refl _) _).alloc (by simp) _⟩
  have it : ¬ (1048576 : Int) < (t.length : Int) := by omega
  go_enter Try.func9, Try.ntmps9
  go_wp2_with fail
  obtain ⟨B2, hsz, HC⟩ := box_mk2 24 26 w nm k1 k2 st (.slice A n c)
  generalize ((w.alloc (.cells #[.string (bs nm), .int .i64 st, .slice A n c] 24)).alloc (.cells #[.string (bs k1), .string (bs k2)] 26)) = W2 at *
  have HB2 := hid B2
  have HIM2 := hid (HIM.out W2 B2)
  have R2 := hid (HR.out.below B2)
  have hw2 : w.heap.size ≤ W2.heap.size := B2.size
  clear B2 hsz
  refine (SZ _ _ HIM2.out (by decide) (by decide)).out.mono ?_
  rintro e w1 ⟨r, rfl, b1, hr1, hr2⟩
  have HB1 := hid b1
  have hs1 := b1.size
  obtain ⟨⟨m0, m1, m2⟩, q0, q1⟩ := HC.out _ b1
  clear b1
  by_cases hneg : r < 0
  · go_wp2
    go_ret
    exact ⟨rfl, HB2.out.trans (HB1.out.mono hw2)⟩
  have hsum := hr2 (by omega)
  have r1 : r ≤ 1048576 := by omega
  have r0 : 0 ≤ r := by omega
  clear hr1 hr2
  have HSUM := hid hsum
  clear hsum
  go_wp2_with fail
  refine (SK _ _ r0 r1).out.mono ?_
  rintro e ws ⟨r', rfl, bs', hr1', hr2'⟩
  have HBs := hid (HB1.out.trans (bs'.mono hs1))
  obtain ⟨⟨m0', m1', m2'⟩, q0', q1'⟩ := HC.out _ HBs.out
  clear bs'
  by_cases hneg' : r' < 0
  · go_wp2
    go_ret
    exact ⟨rfl, HB2.out.trans (HBs.out.mono hw2)⟩
  have hsum' := hr2' (by omega)
  have hsum := HSUM.out
  clear hr1' hr2'
  have OK : LawOk ⟨nm, st, ch⟩ (k1, k2) := ⟨wst, by dsimp only; omega, by dsimp only; omega, fun s h => by have := totL_mem h; dsimp only at *; omega, by dsimp only; omega, by dsimp only; omega⟩
  have HOK := hid OK
  have hn1 : n ≤ 1048576 := by omega
  clear OK hsum hsum' HSUM hln
  have TM := fun w0 (b0 : Below W2.heap.size W2 w0) => hid (toMethod_any ⟨nm, st, ch⟩ A n c w0 (R2.out.below b0) hn1)
  have TK := fun w0 => hid (toCalls_any (k1, k2) w0)
  have SP := fun A0 c0 w0 (rd : Rd w0 A0 ch.length (strV ch)) (hc0 : ch.length ≤ c0) => hid (specTrueByParts_law ⟨nm, st, ch⟩ (k1, k2) t A0 ch.length c0 w0 HOK.out rd hc0 lt)
  have IM := fun A0 c0 w0 (rd : Rd w0 A0 ch.length (strV ch)) (hc0 : ch.length ≤ c0) => hid (implTrueByParts_law ⟨nm, st, ch⟩ (k1, k2) t A0 ch.length c0 w0 HOK.out rd hc0 lt)
  have HS5 : ∀ W', Below W2.heap.size W2 W' → W'.cell? ⟨w.heap.size, 0, none⟩ = some (.string (bs nm)) ∧ W'.cell? ⟨w.heap.size, 1, none⟩ = some (.int .i64 st) ∧ W'.cell? ⟨w.heap.size, 2, none⟩ = some (.slice A n c) ∧ W'.cell? ⟨w.heap.size + 1, 0, none⟩ = some (.string (bs k1)) ∧ W'.cell? ⟨w.heap.size + 1, 1, none⟩ = some (.string (bs k2)) := fun W' h => by
    obtain ⟨⟨a0, a1, a2⟩, a3, a4⟩ := HC.out _ h
    exact ⟨a0, a1, a2, a3, a4⟩
  have HHS5 := hid HS5
  clear HS5
  clear m0 m1 m2 q0 q1 m0' m1' m2' q0' q1'
  obtain ⟨m0, m1, m2, q0, q1⟩ := HHS5.out _ HBs.out
  go_wp2_with fail
  go_region_held3 (fun w' => w'.cell? ⟨w.heap.size, 0, none⟩ = some (.string (bs nm)) ∧ w'.cell? ⟨w.heap.size, 1, none⟩ = some (.int .i64 st) ∧ w'.cell? ⟨w.heap.size, 2, none⟩ = some (.slice A n c) ∧ w'.cell? ⟨w.heap.size + 1, 0, none⟩ = some (.string (bs k1)) ∧ w'.cell? ⟨w.heap.size + 1, 1, none⟩ = some (.string (bs k2)))
    (first | exact HHS5.out _ HBs.out | exact HHS5.out _ HBs.out.drew | exact HHS5.out _ Ea | exact HHS5.out _ Eb | exact HHS5.out _ Ec)
    (first | (go_at_call 15; refine (TM _ HBs.out.drew).out.mono ?_; rintro e wa ⟨va, rfl, oa, ba⟩; obtain ⟨Aa, ca, rfl, hca, _, rda, _⟩ := own_shape oa; have Ea : Below W2.heap.size W2 wa := HBs.out.drew.trans (ba.mono HBs.out.size)) | (go_at_call 16; refine (TK _).out.mono ?_; rintro e wb ⟨rfl, bb⟩; have Eb := Ea.trans (bb.mono Ea.size); have rdb := rda.below bb) | (go_at_call 33; refine (SP _ _ _ rdb hca).out.mono ?_; rintro e wc ⟨rfl, bc⟩; have Ec := Eb.trans (bc.mono Eb.size)))
  have HEc := hid Ec
  obtain ⟨n0, n1, n2, p0, p1⟩ := HHS5.out _ Ec
  clear oa ba bb rda rdb bc Ea Eb Ec
  go_wp2_with fail
  refine (TM _ HEc.out).out.mono ?_
  rintro e wd ⟨vd, rfl, od, bd⟩
  obtain ⟨Ad, cd, rfl, hcd, _, rdd, _⟩ := own_shape od
  have Ed := HEc.out.trans (bd.mono HEc.out.size)
  have X5 := Blk.new wd 31 #[.string (bs nm), .int .i64 st, .slice Ad ch.length cd]
  have E5 : Below W2.heap.size W2 (wd.alloc (.cells #[.string (bs nm), .int .i64 st, .slice Ad ch.length cd] 31)) := Ed.alloc Ed.size _
  have R5 : Rd (wd.alloc (.cells #[.string (bs nm), .int .i64 st, .slice Ad ch.length cd] 31)) Ad ch.length (strV ch) := rdd.alloc _
  have hsz5 : wd.heap.size < (wd.alloc (.cells #[.string (bs nm), .int .i64 st, .slice Ad ch.length cd] 31)).heap.size := by simp
  have hcont : ∀ (P : World → Prop), P (wd.alloc (.cells #[.string (bs nm), .int .i64 st, .slice Ad ch.length cd] 31)) → P (wd.alloc (.cells #[.string (bs nm), .int .i64 st, .slice Ad ch.length cd] 31)) := fun _ h => h
  clear hcont
  have HS8 : ∀ W', Below (wd.alloc (.cells #[.string (bs nm), .int .i64 st, .slice Ad ch.length cd] 31)).heap.size (wd.alloc (.cells #[.string (bs nm), .int .i64 st, .slice Ad ch.length cd] 31)) W' → W'.cell? ⟨w.heap.size, 0, none⟩ = some (.string (bs nm)) ∧ W'.cell? ⟨w.heap.size, 1, none⟩ = some (.int .i64 st) ∧ W'.cell? ⟨w.heap.size, 2, none⟩ = some (.slice A n c) ∧ W'.cell? ⟨w.heap.size + 1, 0, none⟩ = some (.string (bs k1)) ∧ W'.cell? ⟨w.heap.size + 1, 1, none⟩ = some (.string (bs k2)) ∧ W'.cell? ⟨wd.heap.size, 0, none⟩ = some (.string (bs nm)) ∧ W'.cell? ⟨wd.heap.size, 1, none⟩ = some (.int .i64 st) ∧ W'.cell? ⟨wd.heap.size, 2, none⟩ = some (.slice Ad ch.length cd) := fun W' h => by
    obtain ⟨a0, a1, a2, a3, a4⟩ := HHS5.out _ (E5.trans (h.mono E5.size))
    have X := X5.below h hsz5
    exact ⟨a0, a1, a2, a3, a4, X.cell 0, X.cell 1, X.cell 2⟩
  have HHS8 := hid HS8
  have HE5 := hid E5
  have HR5 := hid R5
  clear n0 n1 n2 p0 p1 HS8 E5 R5 X5 od bd rdd Ed
  go_wp2_with fail
  generalize (wd.alloc (.cells #[.string (bs nm), .int .i64 st, .slice Ad ch.length cd] 31)) = W5 at *
  obtain ⟨n0, n1, n2, p0, p1, x0, x1, x2⟩ := HHS8.out W5 (Below.refl _ _)
  go_region_held3 (fun w' => w'.cell? ⟨w.heap.size, 0, none⟩ = some (.string (bs nm)) ∧ w'.cell? ⟨w.heap.size, 1, none⟩ = some (.int .i64 st) ∧ w'.cell? ⟨w.heap.size, 2, none⟩ = some (.slice A n c) ∧ w'.cell? ⟨w.heap.size + 1, 0, none⟩ = some (.string (bs k1)) ∧ w'.cell? ⟨w.heap.size + 1, 1, none⟩ = some (.string (bs k2)) ∧ w'.cell? ⟨wd.heap.size, 0, none⟩ = some (.string (bs nm)) ∧ w'.cell? ⟨wd.heap.size, 1, none⟩ = some (.int .i64 st) ∧ w'.cell? ⟨wd.heap.size, 2, none⟩ = some (.slice Ad ch.length cd))
    (first | exact HHS8.out _ (Below.refl _ _) | exact HHS8.out _ (Below.refl _ _).drew | exact HHS8.out _ Ef | exact HHS8.out _ Eg)
    (first | (go_at_call 16; refine (TK _).out.mono ?_; rintro e wf ⟨rfl, bf⟩; have Ef : Below W5.heap.size W5 wf := (Below.refl _ _).drew.trans bf) | (go_at_call 34; refine (IM _ _ _ (HR5.out.below Ef) hcd).out.mono ?_; rintro e wg ⟨rfl, bg⟩; have Eg := Ef.trans (bg.mono Ef.size)))
  have HEg := hid Eg
  clear bf bg Ef Eg
  clear n0 n1 n2 p0 p1 x0 x1 x2
  obtain ⟨n0, n1, n2, p0, p1, x0, x1, x2⟩ := HHS8.out _ HEg.out
  go_wp2_with fail
  go_region_held3 (fun w' => w'.cell? ⟨w.heap.size, 0, none⟩ = some (.string (bs nm)) ∧ w'.cell? ⟨w.heap.size, 1, none⟩ = some (.int .i64 st) ∧ w'.cell? ⟨w.heap.size, 2, none⟩ = some (.slice A n c) ∧ w'.cell? ⟨w.heap.size + 1, 0, none⟩ = some (.string (bs k1)) ∧ w'.cell? ⟨w.heap.size + 1, 1, none⟩ = some (.string (bs k2)) ∧ w'.cell? ⟨wd.heap.size, 0, none⟩ = some (.string (bs nm)) ∧ w'.cell? ⟨wd.heap.size, 1, none⟩ = some (.int .i64 st) ∧ w'.cell? ⟨wd.heap.size, 2, none⟩ = some (.slice Ad ch.length cd))
    (first | exact HHS8.out _ HEg.out | exact HHS8.out _ HEg.out.drew | exact HHS8.out _ Eh | exact HHS8.out _ Ei)
    (first | (go_at_call 15; refine (TM _ (HE5.out.trans ((HEg.out.drew).mono HE5.out.size))).out.mono ?_; rintro e wh ⟨vh, rfl, oh, bh⟩; obtain ⟨Ah, ch', rfl, _, _, rdh, _⟩ := own_shape oh; have Eh := HEg.out.drew.trans (bh.mono HEg.out.size)) | (go_at_call 18; refine (eqMethod_any ⟨nm, st, ch⟩ Ad Ah ch.length cd ch.length ch' _ (HR5.out.below Eh) rdh (by have := HOK.out.2.2.1; dsimp only at this; omega)).mono ?_; rintro e wi ⟨rfl, bi⟩; have Ei := Eh.trans (bi.mono Eh.size)))
  have HEi := hid Ei
  clear oh bh rdh bi Eh Ei n0 n1 n2 p0 p1 x0 x1 x2
  go_wp2
  go_ret
  exact ⟨rfl, HB2.out.trans ((HE5.out.trans (HEi.out.mono HE5.out.size)).mono hw2)⟩
end Go.Proofs.Ytgljhhjfinngjaa


namespace Go.Proofs.Ytgljhhjfinngjaa.PTrueByParts
open Go.ChangeShapes Go.WideShapes Go.ChangeAt Go.RowKit
open Go.ChangeMaps (open_string shut_string)
set_option linter.unusedVariables false

theorem own : ownKnob Try.prog.godebug = none := by kernel_rfl
theorem laidOut : laidOutB Try.prog = true := by kernel_rfl

set_option maxRecDepth 100000 in
theorem lifted (os : Os) (started : os.Started) (H : Type) (enc : TypeId × Value → H) :
    ReturnsInHanded {} Try.checked os 9 .any (Rows.fnExactTrueByPartsSpec.pre6 enc Try.prog Try.f9 Rows.fnExactTrueByPartsRow.domain false) (Rows.fnExactTrueByPartsSpec.post enc Try.prog Try.f9 false true false false) := by
  refine returnsInHanded_of_change (C := Try.checked) own started (by kernel_rfl) Try.func9
    (ChangeSpec.witness6 (enc := enc) (C := Try.checked) false ⟨#[], #[.agg #[.string ByteArray.empty, .int .i64 0, .slice none 0 0], .agg #[.string ByteArray.empty, .string ByteArray.empty], .string ByteArray.empty], []⟩ 8 (by kernel_rfl) (by kernel_rfl) (by kernel_rfl) (by kernel_rfl)) ?_
  intro W base args ds gs before hval0 hW hcnd _
  have hval : ∀ (j : Nat) t v, Try.f9.params[j]? = some t → args[j]? = some v → Value.okWide Try.prog W .any base t v := hval0
  have hW' := hW
  obtain ⟨p, q, hA0, hV, rfl, hfz, hnd⟩ := hW
  have hA : DataW.TrodAll enc Try.prog W 0 (fun _ => true) true Try.f9.params.toList args.toList ds p := hA0
  rw [Try.params9] at hA hval
  obtain ⟨v0, vs0, d0, ds0, p0, q0, hargs, rfl, rfl, h0, r0⟩ := trodAll_cons hA
  obtain ⟨v1, vs1, d1, ds1, p1, q1, rfl, rfl, rfl, h1, r1⟩ := trodAll_cons r0
  obtain ⟨v2, vs2, d2, ds2, p2, q2, rfl, rfl, rfl, h2, r2⟩ := trodAll_cons r1
  obtain ⟨rfl, rfl, rfl⟩ := trodAll_nil r2
  obtain rfl : args = #[v0, v1, v2] := by cases args; simp_all
  obtain ⟨rfl, rfl⟩ := trodVars_none hV
  have k0 := h0
  have lt0 : ∀ x ∈ p0, x.block < W.heap.size := by obtain ⟨m, hm⟩ := k0; exact DataW.trod_lt m _ _ _ hm
  obtain ⟨a0, w0⟩ := open_inMethod (hval 0 24 v0 rfl rfl) h0
  have k1 := h1
  have lt1 : ∀ x ∈ p1, x.block < W.heap.size := by obtain ⟨m, hm⟩ := k1; exact DataW.trod_lt m _ _ _ hm
  obtain ⟨a1, w1⟩ := open_inCalls (hval 1 26 v1 rfl rfl) h1
  obtain ⟨a2, rfl, rfl, rfl, w2⟩ := open_string Try.underlying9 (hval 2 9 v2 rfl rfl) h2
  obtain ⟨l2, rfl⟩ := bs_surj a2
  have wl2 : l2.length ≤ maxLen := by rw [← bs_size]; exact w2
  clear hA0 hval0
  refine (LawTrueByParts.walk v0 a0 v1 a1 l2 W w0 w1 wl2).mono fun e W' ⟨he, bel⟩ => ?_
  subst he
  exact ⟨_, rfl, _, _, _, [], _, [], hW', trodAll_mk1 (shut_bool Try.underlying4 _), (trodAll_cons_mk (Below.trod laidOut (by kernel_rfl) (of_decide_eq_true (by kernel_rfl)) k0 bel lt0) (trodAll_cons_mk (Below.trod laidOut (by kernel_rfl) (of_decide_eq_true (by kernel_rfl)) k1 bel lt1) (trodAll_cons_mk (shut_string Try.underlying9 w2) trodAll_mk0))), rfl, bel.frame _, fun h => by cases h⟩

theorem over : Rows.fnExactTrueByPartsRow.holds Try.pinned (OpenSpec.ofChange Rows.fnExactTrueByPartsSpec) :=
  OpenClaim.holds_of_wide 9 Try.f9 rfl rfl rfl rfl rfl rfl rfl ⟨rfl, rfl, rfl, rfl, rfl⟩ rfl rfl rfl rfl rfl (by kernel_rfl) Try.func9 (by kernel_rfl)
    (of_decide_eq_true (by kernel_rfl)) (by unfold Func.isWrapper; first | (rw [if_pos (by decide +kernel)]; kernel_rfl) | (rw [if_neg (by decide +kernel)]; exact ⟨rfl, rfl⟩))
    (fun os started H enc _ => lifted os started H enc)

theorem proved : Rows.FnExactTrueByPartsSaid := over
#print axioms proved
end Go.Proofs.Ytgljhhjfinngjaa.PTrueByParts
