/- Contracts of WholeOf, in the reference and in the program. No conditions beyond those stated. -/
import Derived.Test.YtgljhhjfinngjaaWhole
set_option linter.unusedVariables false
set_option linter.unusedSimpArgs false
set_option maxRecDepth 100000
namespace Go.Proofs.Ytgljhhjfinngjaa
open Go.RowKit

/-- What WholeOf answers. -/
def wholeR (m : Meth) (k : List UInt8 × List UInt8) (t : List UInt8) : List UInt8 × Bool := if (callsB m k && goodTouch t) = true then (if ordL (headTo m.st.toNat m.ch k t t.length) * t.length ≤ 60 then (repL t (ordL (headTo m.st.toNat m.ch k t t.length)), true) else ([], false)) else ([], false)
set_option maxHeartbeats 1000000 in
theorem specWholeOf_law (m : Meth) (k : List UInt8 × List UInt8) (t : List UInt8) (A : Option Addr) (n c : Nat) (w : World) (ok : LawOk m k) (rd : Rd w A n (strV m.ch)) (hcap : n ≤ c) (lt : t.length ≤ 1048576) :
    Calls Try.prog 21 #[.agg #[.string (bs m.nm), .int .i64 m.st, .slice A n c], .agg #[.string (bs k.1), .string (bs k.2)], .string (bs t)] w fun e w' => e = .returned (.tuple #[.string (bs (wholeR m k t).1), .bool (wholeR m k t).2]) ∧ Below w.heap.size w w' := by
  have hn : n ≤ 1048576 := by have h1 := rd.1; have h2 := ok.2.2.1; rw [strV_len] at h1; omega
  have hcl : m.ch.length = n := by have h1 := rd.1; rw [strV_len] at h1; exact h1
  have GC0 := fun (w0 : World) (rd : Rd w0 A n (strV m.ch)) => hid (l9Asked_any m k t A n c w0 ok rd lt)
  have RS := hid rd
  have HOK := hid ok
  clear rd ok
  cases hg0 : callsB m k && goodTouch t
  · rw [hg0] at GC0
    have HR := hid (show wholeR m k t = ([], false) from by unfold wholeR; rw [if_neg (by rw [hg0]; simp)])
    obtain ⟨nm, st, ch⟩ := m
    obtain ⟨k1, k2⟩ := k
    dsimp only at *
    clear HOK hg0
    go_enter Try.func21, Try.ntmps21
    go_wp2_with fail
    obtain ⟨B2, hsz, HC⟩ := box_mk w nm k1 k2 st (.slice A n c)
    have R2 := hid (RS.out.below B2)
    have HB2 := hid B2
    have hw2 := B2.size
    generalize ((w.alloc (.cells #[.string (bs nm), .int .i64 st, .slice A n c] 31)).alloc (.cells #[.string (bs k1), .string (bs k2)] 33)) = W2 at *
    clear B2 hsz
    have HS5 : ∀ W', Below W2.heap.size W2 W' → W'.cell? ⟨w.heap.size, 0, none⟩ = some (.string (bs nm)) ∧ W'.cell? ⟨w.heap.size, 1, none⟩ = some (.int .i64 st) ∧ W'.cell? ⟨w.heap.size, 2, none⟩ = some (.slice A n c) ∧ W'.cell? ⟨w.heap.size + 1, 0, none⟩ = some (.string (bs k1)) ∧ W'.cell? ⟨w.heap.size + 1, 1, none⟩ = some (.string (bs k2)) := fun W' h => by
      obtain ⟨⟨a0, a1, a2⟩, a3, a4⟩ := HC.out _ h
      exact ⟨a0, a1, a2, a3, a4⟩
    have HHS5 := hid HS5
    clear HS5 HC
    have E0 : Hid (Below W2.heap.size W2 W2) := hid (Below.refl _ _)
    obtain ⟨n0, n1, n2, p0, p1⟩ := HHS5.out _ E0.out
    refine (GC0 _ (R2.out.below E0.out)).out.mono ?_
    rintro e wx0 ⟨rfl, bx⟩
    have E1 := hid (E0.out.trans (bx.mono E0.out.size))
    clear bx
    clear n0 n1 n2 p0 p1
    obtain ⟨n0, n1, n2, p0, p1⟩ := HHS5.out _ E1.out
    go_wp2
    go_ret2
    rw [HR.out]
    exact ⟨rfl, HB2.out.trans (E1.out.mono hw2)⟩
  · rw [hg0] at GC0
    have hcalls : callsB m k = true := by simp only [Bool.and_eq_true] at hg0; exact hg0.1
    have HR := hid (show wholeR m k t = (if ordL (headTo m.st.toNat m.ch k t t.length) * t.length ≤ 60 then (repL t (ordL (headTo m.st.toNat m.ch k t t.length)), true) else ([], false)) from by unfold wholeR; rw [if_pos hg0])
    have hm : methB m = true := callsB_meth (m := m) (k := k) hcalls
    have hb1 := callsB_bob hcalls
    have hb2 := callsB_single hcalls
    obtain ⟨N, hN, lo, hi, l1, l40, hs⟩ := meth_parts hm
    clear hm hcalls
    obtain ⟨nm, st, ch⟩ := m
    obtain ⟨k1, k2⟩ := k
    dsimp only at *
    subst hN
    have BC0 := fun (w0 : World) (rd : Rd w0 A n (strV ch)) => hid (l12Whole_any N nm t ch (k1, k2) A n c w0 lo hi rd hn hcap l1 hs hb1 hb2 (goodTouch_len (by simp only [Bool.and_eq_true] at hg0; exact hg0.2)))
    have hgt := hg0
    simp only [Bool.and_eq_true] at hgt
    have hE := (headTo_row lo hi ch (k1, k2) t t.length).1
    have hpos := ord_pos hE
    have hle := ord_le hE
    have hlen := goodTouch_len hgt.2
    have hgr := goodTouch_rep hgt.2 hpos
    obtain ⟨q, hq⟩ : ∃ q, q = ordL (headTo N ch (k1, k2) t t.length) := ⟨_, rfl⟩
    have hR0 : wholeR ⟨nm, (N : Int), ch⟩ (k1, k2) t = (if q * t.length ≤ 60 then (repL t q, true) else ([], false)) := by rw [hq]; exact HR.out
    rw [← hq] at hpos hle hgr
    have HR1 := hid (fun h : q * t.length ≤ 60 => show wholeR ⟨nm, (N : Int), ch⟩ (k1, k2) t = (repL t q, true) by rw [hR0, if_pos h])
    have HR0 := hid (fun h : ¬ q * t.length ≤ 60 => show wholeR ⟨nm, (N : Int), ch⟩ (k1, k2) t = ([], false) by rw [hR0, if_neg h])
    rw [← hq] at BC0
    have hrl : (repL t q).length ≤ 1000000 := by rw [repL_len]; exact Nat.le_trans (Nat.mul_le_mul (show q ≤ 1000 by omega) hlen) (by omega)
    have GW := fun w0 => hid (l9Good_any (repL t q) w0 (by omega))
    rw [hgr] at GW
    have HQ := hid hq
    clear hgt hE hgr hR0 hq hrl
    clear HOK hb1 hb2 hs hcl hg0
    go_enter Try.func21, Try.ntmps21
    go_wp2_with fail
    obtain ⟨B2, hsz, HC⟩ := box_mk w nm k1 k2 (N : Int) (.slice A n c)
    have R2 := hid (RS.out.below B2)
    have HB2 := hid B2
    have hw2 := B2.size
    generalize ((w.alloc (.cells #[.string (bs nm), .int .i64 (N : Int), .slice A n c] 31)).alloc (.cells #[.string (bs k1), .string (bs k2)] 33)) = W2 at *
    clear B2 hsz
    have HS5 : ∀ W', Below W2.heap.size W2 W' → W'.cell? ⟨w.heap.size, 0, none⟩ = some (.string (bs nm)) ∧ W'.cell? ⟨w.heap.size, 1, none⟩ = some (.int .i64 (N : Int)) ∧ W'.cell? ⟨w.heap.size, 2, none⟩ = some (.slice A n c) ∧ W'.cell? ⟨w.heap.size + 1, 0, none⟩ = some (.string (bs k1)) ∧ W'.cell? ⟨w.heap.size + 1, 1, none⟩ = some (.string (bs k2)) := fun W' h => by
      obtain ⟨⟨a0, a1, a2⟩, a3, a4⟩ := HC.out _ h
      exact ⟨a0, a1, a2, a3, a4⟩
    have HHS5 := hid HS5
    clear HS5 HC
    have E0 : Hid (Below W2.heap.size W2 W2) := hid (Below.refl _ _)
    obtain ⟨n0, n1, n2, p0, p1⟩ := HHS5.out _ E0.out
    refine (GC0 _ (R2.out.below E0.out)).out.mono ?_
    rintro e wx0 ⟨rfl, bx⟩
    have E1 := hid (E0.out.trans (bx.mono E0.out.size))
    clear bx
    clear n0 n1 n2 p0 p1
    have E2 := E1
    obtain ⟨n0, n1, n2, p0, p1⟩ := HHS5.out _ E2.out
    go_wp2_with fail
    refine (BC0 _ (R2.out.below E2.out)).out.mono ?_
    rintro e wa ⟨rfl, ba⟩
    have E3 := hid (E2.out.trans (ba.mono E2.out.size))
    clear ba n0 n1 n2 p0 p1
    obtain ⟨n0, n1, n2, p0, p1⟩ := HHS5.out _ E3.out
    go_wp2_with fail
    refine (GW _).out.mono ?_
    rintro e w' ⟨rfl, rfl⟩
    by_cases h60 : q * t.length ≤ 60
    · rw [decide_eq_true h60]
      have HA := hid (HR1.out h60)
      clear h60
      go_wp2_with fail
      refine (BC0 _ (R2.out.below E3.out)).out.mono ?_
      rintro e wb ⟨rfl, bb⟩
      have E4 := hid (E3.out.trans (bb.mono E3.out.size))
      clear bb n0 n1 n2 p0 p1
      go_wp2
      go_ret2
      rw [HA.out]
      exact ⟨rfl, HB2.out.trans (E4.out.mono hw2)⟩
    · rw [decide_eq_false h60]
      have HA := hid (HR0.out h60)
      clear h60
      go_wp2
      go_ret2
      rw [HA.out]
      exact ⟨rfl, HB2.out.trans (E3.out.mono hw2)⟩
theorem implWholeOf_law (m : Meth) (k : List UInt8 × List UInt8) (t : List UInt8) (A : Option Addr) (n c : Nat) (w : World) (ok : LawOk m k) (rd : Rd w A n (strV m.ch)) (hcap : n ≤ c) (lt : t.length ≤ 1048576) :
    Calls Try.prog 22 #[.agg #[.string (bs m.nm), .int .i64 m.st, .slice A n c], .agg #[.string (bs k.1), .string (bs k.2)], .string (bs t)] w fun e w' => e = .returned (.tuple #[.string (bs (wholeR m k t).1), .bool (wholeR m k t).2]) ∧ Below w.heap.size w w' := by
  have GC0 := fun (w0 : World) (rd : Rd w0 A n (strV m.ch)) => hid (implPartsIn_law m k t A n c w0 ok rd hcap lt)
  have RS := hid rd
  clear rd ok
  cases hg0 : (callsB m k && goodTouch t)
  · have HR := hid (show wholeR m k t = ([], false) from by unfold wholeR; rw [if_neg (by rw [hg0]; simp)])
    have hP : partsInR m k t = (0, false) := by unfold partsInR; rw [if_neg (by rw [hg0]; simp)]
    simp only [hP] at GC0
    rw [HR.out]
    obtain ⟨nm, st, ch⟩ := m
    obtain ⟨k1, k2⟩ := k
    dsimp only at *
    clear hg0 HR hP
    go_enter Try.func22, Try.ntmps22
    go_wp2_with fail
    obtain ⟨B2, hsz, HC⟩ := box_mk w nm k1 k2 st (.slice A n c)
    refine (GC0 _ (RS.out.below B2)).out.mono ?_
    rintro e w1 ⟨rfl, b1⟩
    have HB := hid (B2.trans (b1.mono B2.size))
    clear b1 B2 hsz HC
    go_wp2
    go_ret2
    exact ⟨rfl, HB.out⟩
  · have hgt := hg0
    simp only [Bool.and_eq_true] at hgt
    obtain ⟨N, hN, lo, hi, l1, l40, hs⟩ := meth_parts (callsB_meth hgt.1)
    obtain ⟨q, hq⟩ : ∃ q, q = ordL (headTo m.st.toNat m.ch k t t.length) := ⟨_, rfl⟩
    have hP : partsInR m k t = ((q : Int), true) := by unfold partsInR; rw [if_pos hg0, hq]
    have hW : wholeR m k t = (if q * t.length ≤ 60 then (repL t q, true) else ([], false)) := by unfold wholeR; rw [if_pos hg0, hq]
    have hE := (headTo_row (N := m.st.toNat) (by omega) (by omega) m.ch k t t.length).1
    have hle : q ≤ 840 := by rw [hq]; exact ord_le hE
    have hlen := goodTouch_len hgt.2
    have hp : q * t.length ≤ 1000000 := Nat.le_trans (Nat.mul_le_mul (show q ≤ 1000 by omega) hlen) (by omega)
    have hpi : (q : Int) * (t.length : Int) = ((q * t.length : Nat) : Int) := by simp
    have p0' : (0 : Int) ≤ (q : Int) * (t.length : Int) := by rw [hpi]; omega
    have p1' : (q : Int) * (t.length : Int) ≤ 1000000 := by rw [hpi]; omega
    simp only [hP] at GC0
    have RP := fun w0 => hid (repeat_any t (q : Int) q w0 rfl (by omega) (by omega))
    clear hgt hN hs hE hq hg0 hP
    by_cases h60 : q * t.length ≤ 60
    · rw [hW, if_pos h60]
      have hbi : ¬ ((60 : Int) < (q : Int) * (t.length : Int)) := by rw [hpi]; omega
      obtain ⟨nm, st, ch⟩ := m
      obtain ⟨k1, k2⟩ := k
      dsimp only at *
      clear h60 hpi hW
      go_enter Try.func22, Try.ntmps22
      go_wp2_with fail
      obtain ⟨B2, hsz, HC⟩ := box_mk w nm k1 k2 st (.slice A n c)
      refine (GC0 _ (RS.out.below B2)).out.mono ?_
      rintro e w1 ⟨rfl, b1⟩
      have HB := hid (B2.trans (b1.mono B2.size))
      clear b1 B2 hsz HC
      go_wp2_with fail
      refine (RP _).out.mono ?_
      rintro e w2 ⟨rfl, b2⟩
      have HB2 := hid (HB.out.trans (b2.mono HB.out.size))
      clear b2
      go_wp2
      go_ret2
      exact ⟨rfl, HB2.out⟩
    · rw [hW, if_neg h60]
      have hbi : ((60 : Int) < (q : Int) * (t.length : Int)) := by rw [hpi]; omega
      obtain ⟨nm, st, ch⟩ := m
      obtain ⟨k1, k2⟩ := k
      dsimp only at *
      clear h60 hpi hW
      go_enter Try.func22, Try.ntmps22
      go_wp2_with fail
      obtain ⟨B2, hsz, HC⟩ := box_mk w nm k1 k2 st (.slice A n c)
      refine (GC0 _ (RS.out.below B2)).out.mono ?_
      rintro e w1 ⟨rfl, b1⟩
      have HB := hid (B2.trans (b1.mono B2.size))
      clear b1 B2 hsz HC
      go_wp2
      go_ret2
      exact ⟨rfl, HB.out⟩
end Go.Proofs.Ytgljhhjfinngjaa
