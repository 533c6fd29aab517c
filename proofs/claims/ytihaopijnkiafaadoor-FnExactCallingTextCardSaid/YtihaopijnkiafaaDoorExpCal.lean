/- Contracts of CallingText, in the reference and in the program. No conditions beyond those stated. -/
import Derived.Test.YtihaopijnkiafaaDoorCalI
set_option linter.unusedVariables false
set_option linter.unusedSimpArgs false
set_option maxRecDepth 100000
namespace Go.Proofs.YtihaopijnkiafaaDoor
open Go.RowKit

theorem goodTouch_len60 {t : List UInt8} (h : goodTouch t = true) : t.length ≤ 60 := by
  simp only [goodTouch, Bool.and_eq_true, decide_eq_true_eq] at h; omega
/-- Whether it is a bell of the method. -/
def bellB (m : Meth) (b : Int) : Bool := decide (1 ≤ b) && decide (b ≤ m.st)
theorem isBellB_any (m : Meth) (b : Int) (w : World) :
    Calls Tryd.prog 17 #[.int .i64 m.st, .int .i64 b] w fun e w' => e = .returned (.bool (bellB m b)) ∧ w = w' := isBell_any m.st b w
theorem l10AskedB_any (m : Meth) (k : List UInt8 × List UInt8) (q : Int) (A : Option Addr) (n c : Nat) (w : World) (ok : LawOk m k) (rd : Rd w A n (strV m.ch)) :
    Calls Tryd.prog 12 #[.agg #[.string (bs m.nm), .int .i64 m.st, .slice A n c], .agg #[.string (bs k.1), .string (bs k.2)], .int .i64 q] w fun e w' => e = .returned (.bool (callsB m k && bellB m q)) ∧ Below w.heap.size w w' := l10Asked_any m k q A n c w ok rd
/-- What CallingText answers. -/
def callingR (m : Meth) (k : List UInt8 × List UInt8) (t : List UInt8) (b : Int) : List UInt8 × Bool := if (callsB m k && (goodTouch t && bellB m b)) = true then (calText (plP m.st.toNat m.ch k t b) t, true) else ([], false)
theorem callingR_yes {m : Meth} {k : List UInt8 × List UInt8} {t : List UInt8} {b : Int} (h : (callsB m k && (goodTouch t && bellB m b)) = true) : callingR m k t b = (calText (plP m.st.toNat m.ch k t b) t, true) := by unfold callingR; rw [if_pos h]
theorem callingR_no {m : Meth} {k : List UInt8 × List UInt8} {t : List UInt8} {b : Int} (h : (callsB m k && (goodTouch t && bellB m b)) = false) : callingR m k t b = ([], false) := by unfold callingR; rw [if_neg (by rw [h]; simp)]
set_option maxHeartbeats 1000000 in
theorem implCallingText_law (m : Meth) (k : List UInt8 × List UInt8) (t : List UInt8) (b : Int) (A : Option Addr) (n c : Nat) (w : World) (ok : LawOk m k) (rd : Rd w A n (strV m.ch)) (hcap : n ≤ c) (lt : t.length ≤ 1048576) :
    Calls Tryd.prog 9 #[.agg #[.string (bs m.nm), .int .i64 m.st, .slice A n c], .agg #[.string (bs k.1), .string (bs k.2)], .string (bs t), .int .i64 b] w fun e w' => e = .returned (.tuple #[.string (bs (callingR m k t b).1), .bool (callingR m k t b).2]) ∧ Below w.heap.size w w' := by
  have hn : n ≤ 1048576 := by have h1 := rd.1; have h2 := ok.2.2.1; rw [strV_len] at h1; omega
  have hcl : m.ch.length = n := by have h1 := rd.1; rw [strV_len] at h1; exact h1
  have GC0 := fun (w0 : World) (rd : Rd w0 A n (strV m.ch)) => hid (goodFor_any m k t A n c w0 ok rd lt)
  have GC1 := fun (w0 : World) (rd : Rd w0 A n (strV m.ch)) => hid (isBellB_any m b w0)
  have RS := hid rd
  have HOK := hid ok
  clear rd ok
  cases hg0 : callsB m k && goodTouch t
  · rw [hg0] at GC0
    have HR := hid (show callingR m k t b = ([], false) from callingR_no (by rw [Bool.and_eq_false_iff] at hg0; rcases hg0 with h | h <;> simp [h]))
    obtain ⟨nm, st, ch⟩ := m
    obtain ⟨k1, k2⟩ := k
    dsimp only at *
    clear HOK hg0
    go_enter Tryd.func9, Tryd.ntmps9
    go_wp2_with fail
    obtain ⟨B2, hsz, HC⟩ := box_mk w nm k1 k2 st (.slice A n c)
    have R2 := hid (RS.out.below B2)
    have HB2 := hid B2
    have hw2 := B2.size
    generalize ((w.alloc (.cells #[.string (bs nm), .int .i64 st, .slice A n c] 31)).alloc (.cells #[.string (bs k1), .string (bs k2)] 33)) = W2 at *
    clear B2 hsz
    have HS5 : ∀ W', Below W2.heap.size W2 W' → W'.cell? ⟨w.heap.size, 0, none⟩ = some (.string (bs nm)) ∧ W'.cell? ⟨w.heap.size, 1, none⟩ = some (.int .i64 st) ∧ W'.cell? ⟨w.heap.size, 2, none⟩ = some (.slice A n c) ∧ W'.cell? ⟨w.heap.size + 1, 0, none⟩ = some (.string (bs k1)) ∧ W'.cell? ⟨w.heap.size + 1, 1, none⟩ = some (.string (bs k2)) := fun W' h => by
      obtain ⟨⟨a0, a1, a2⟩, a3, a4⟩ := HC.out _ h
      exact ⟨a0, a1, a2, a3, a4⟩
    have HHS5 := hid HS5
    clear HS5 HC
    have E0 : Hid (Below W2.heap.size W2 W2) := hid (Below.refl _ _)
    obtain ⟨n0, n1, n2, p0, p1⟩ := HHS5.out _ E0.out
    refine (GC0 _ (R2.out.below E0.out)).out.mono ?_
    rintro e wx0 ⟨rfl, bx⟩
    have E1 := hid (E0.out.trans (bx.mono E0.out.size))
    clear bx
    clear n0 n1 n2 p0 p1
    obtain ⟨n0, n1, n2, p0, p1⟩ := HHS5.out _ E1.out
    go_wp2
    go_ret2
    rw [HR.out]
    exact ⟨rfl, HB2.out.trans (E1.out.mono hw2)⟩
  · rw [hg0] at GC0
    cases hg1 : bellB m b
    · rw [hg1] at GC1
      have HR := hid (show callingR m k t b = ([], false) from callingR_no (by simp [hg1]))
      obtain ⟨nm, st, ch⟩ := m
      obtain ⟨k1, k2⟩ := k
      dsimp only at *
      clear HOK hg0 hg1
      go_enter Tryd.func9, Tryd.ntmps9
      go_wp2_with fail
      obtain ⟨B2, hsz, HC⟩ := box_mk w nm k1 k2 st (.slice A n c)
      have R2 := hid (RS.out.below B2)
      have HB2 := hid B2
      have hw2 := B2.size
      generalize ((w.alloc (.cells #[.string (bs nm), .int .i64 st, .slice A n c] 31)).alloc (.cells #[.string (bs k1), .string (bs k2)] 33)) = W2 at *
      clear B2 hsz
      have HS5 : ∀ W', Below W2.heap.size W2 W' → W'.cell? ⟨w.heap.size, 0, none⟩ = some (.string (bs nm)) ∧ W'.cell? ⟨w.heap.size, 1, none⟩ = some (.int .i64 st) ∧ W'.cell? ⟨w.heap.size, 2, none⟩ = some (.slice A n c) ∧ W'.cell? ⟨w.heap.size + 1, 0, none⟩ = some (.string (bs k1)) ∧ W'.cell? ⟨w.heap.size + 1, 1, none⟩ = some (.string (bs k2)) := fun W' h => by
        obtain ⟨⟨a0, a1, a2⟩, a3, a4⟩ := HC.out _ h
        exact ⟨a0, a1, a2, a3, a4⟩
      have HHS5 := hid HS5
      clear HS5 HC
      have E0 : Hid (Below W2.heap.size W2 W2) := hid (Below.refl _ _)
      obtain ⟨n0, n1, n2, p0, p1⟩ := HHS5.out _ E0.out
      refine (GC0 _ (R2.out.below E0.out)).out.mono ?_
      rintro e wx0 ⟨rfl, bx⟩
      have E1 := hid (E0.out.trans (bx.mono E0.out.size))
      clear bx
      clear n0 n1 n2 p0 p1
      obtain ⟨n0, n1, n2, p0, p1⟩ := HHS5.out _ E1.out
      go_wp2_with fail
      refine (GC1 _ (R2.out.below E1.out)).out.mono ?_
      rintro e w' ⟨rfl, rfl⟩
      have E2 := E1
      clear n0 n1 n2 p0 p1
      obtain ⟨n0, n1, n2, p0, p1⟩ := HHS5.out _ E2.out
      go_wp2
      go_ret2
      rw [HR.out]
      exact ⟨rfl, HB2.out.trans (E2.out.mono hw2)⟩
    · rw [hg1] at GC1
      have hcalls : callsB m k = true := by simp only [Bool.and_eq_true] at hg0; exact hg0.1
      have HR := hid (show callingR m k t b = (calText (plP m.st.toNat m.ch k t b) t, true) from callingR_yes (by simp only [Bool.and_eq_true] at hg0 hg1 ⊢; simp [hg0, hg1]))
      have hm : methB m = true := callsB_meth (m := m) (k := k) hcalls
      have hb1 := callsB_bob hcalls
      have hb2 := callsB_single hcalls
      obtain ⟨N, hN, lo, hi, l1, l40, hs⟩ := meth_parts hm
      clear hm hcalls
      obtain ⟨nm, st, ch⟩ := m
      obtain ⟨k1, k2⟩ := k
      dsimp only at *
      subst hN
      have BC0 := fun (w0 : World) (rd : Rd w0 A n (strV ch)) => hid (callingText_any N nm t b ch (k1, k2) A n c w0 lo hi rd hn hcap l1 hs hb1 hb2 (goodTouch_len60 (by simp only [Bool.and_eq_true] at hg0; exact hg0.2)) (goodTouch_calls (by simp only [Bool.and_eq_true] at hg0; exact hg0.2)))
      clear HOK hb1 hb2 hs hcl hg0 hg1
      go_enter Tryd.func9, Tryd.ntmps9
      go_wp2_with fail
      obtain ⟨B2, hsz, HC⟩ := box_mk w nm k1 k2 (N : Int) (.slice A n c)
      have R2 := hid (RS.out.below B2)
      have HB2 := hid B2
      have hw2 := B2.size
      generalize ((w.alloc (.cells #[.string (bs nm), .int .i64 (N : Int), .slice A n c] 31)).alloc (.cells #[.string (bs k1), .string (bs k2)] 33)) = W2 at *
      clear B2 hsz
      have HS5 : ∀ W', Below W2.heap.size W2 W' → W'.cell? ⟨w.heap.size, 0, none⟩ = some (.string (bs nm)) ∧ W'.cell? ⟨w.heap.size, 1, none⟩ = some (.int .i64 (N : Int)) ∧ W'.cell? ⟨w.heap.size, 2, none⟩ = some (.slice A n c) ∧ W'.cell? ⟨w.heap.size + 1, 0, none⟩ = some (.string (bs k1)) ∧ W'.cell? ⟨w.heap.size + 1, 1, none⟩ = some (.string (bs k2)) := fun W' h => by
        obtain ⟨⟨a0, a1, a2⟩, a3, a4⟩ := HC.out _ h
        exact ⟨a0, a1, a2, a3, a4⟩
      have HHS5 := hid HS5
      clear HS5 HC
      have E0 : Hid (Below W2.heap.size W2 W2) := hid (Below.refl _ _)
      obtain ⟨n0, n1, n2, p0, p1⟩ := HHS5.out _ E0.out
      refine (GC0 _ (R2.out.below E0.out)).out.mono ?_
      rintro e wx0 ⟨rfl, bx⟩
      have E1 := hid (E0.out.trans (bx.mono E0.out.size))
      clear bx
      clear n0 n1 n2 p0 p1
      obtain ⟨n0, n1, n2, p0, p1⟩ := HHS5.out _ E1.out
      go_wp2_with fail
      refine (GC1 _ (R2.out.below E1.out)).out.mono ?_
      rintro e w' ⟨rfl, rfl⟩
      have E2 := E1
      clear n0 n1 n2 p0 p1
      obtain ⟨n0, n1, n2, p0, p1⟩ := HHS5.out _ E2.out
      go_wp2_with fail
      refine (BC0 _ (R2.out.below E2.out)).out.mono ?_
      rintro e wx2 ⟨rfl, bx⟩
      have E3 := hid (E2.out.trans (bx.mono E2.out.size))
      clear bx
      clear n0 n1 n2 p0 p1
      obtain ⟨n0, n1, n2, p0, p1⟩ := HHS5.out _ E3.out
      go_wp2
      go_ret2
      rw [HR.out]
      exact ⟨rfl, HB2.out.trans (E3.out.mono hw2)⟩
set_option maxHeartbeats 1000000 in
theorem specCallingText_law (m : Meth) (k : List UInt8 × List UInt8) (t : List UInt8) (b : Int) (A : Option Addr) (n c : Nat) (w : World) (ok : LawOk m k) (rd : Rd w A n (strV m.ch)) (hcap : n ≤ c) (lt : t.length ≤ 1048576) :
    Calls Tryd.prog 6 #[.agg #[.string (bs m.nm), .int .i64 m.st, .slice A n c], .agg #[.string (bs k.1), .string (bs k.2)], .string (bs t), .int .i64 b] w fun e w' => e = .returned (.tuple #[.string (bs (callingR m k t b).1), .bool (callingR m k t b).2]) ∧ Below w.heap.size w w' := by
  have hn : n ≤ 1048576 := by have h1 := rd.1; have h2 := ok.2.2.1; rw [strV_len] at h1; omega
  have hcl : m.ch.length = n := by have h1 := rd.1; rw [strV_len] at h1; exact h1
  have GC0 := fun (w0 : World) (rd : Rd w0 A n (strV m.ch)) => hid (l10AskedB_any m k b A n c w0 ok rd)
  have GC1 := fun (w0 : World) (rd : Rd w0 A n (strV m.ch)) => hid (l9Good_any t w0 (by omega))
  have RS := hid rd
  have HOK := hid ok
  clear rd ok
  cases hg0 : callsB m k && bellB m b
  · rw [hg0] at GC0
    have HR := hid (show callingR m k t b = ([], false) from callingR_no (by rw [Bool.and_eq_false_iff] at hg0; rcases hg0 with h | h <;> simp [h]))
    obtain ⟨nm, st, ch⟩ := m
    obtain ⟨k1, k2⟩ := k
    dsimp only at *
    clear HOK hg0
    go_enter Tryd.func6, Tryd.ntmps6
    go_wp2_with fail
    obtain ⟨B2, hsz, HC⟩ := box_mk w nm k1 k2 st (.slice A n c)
    have R2 := hid (RS.out.below B2)
    have HB2 := hid B2
    have hw2 := B2.size
    generalize ((w.alloc (.cells #[.string (bs nm), .int .i64 st, .slice A n c] 31)).alloc (.cells #[.string (bs k1), .string (bs k2)] 33)) = W2 at *
    clear B2 hsz
    have HS5 : ∀ W', Below W2.heap.size W2 W' → W'.cell? ⟨w.heap.size, 0, none⟩ = some (.string (bs nm)) ∧ W'.cell? ⟨w.heap.size, 1, none⟩ = some (.int .i64 st) ∧ W'.cell? ⟨w.heap.size, 2, none⟩ = some (.slice A n c) ∧ W'.cell? ⟨w.heap.size + 1, 0, none⟩ = some (.string (bs k1)) ∧ W'.cell? ⟨w.heap.size + 1, 1, none⟩ = some (.string (bs k2)) := fun W' h => by
      obtain ⟨⟨a0, a1, a2⟩, a3, a4⟩ := HC.out _ h
      exact ⟨a0, a1, a2, a3, a4⟩
    have HHS5 := hid HS5
    clear HS5 HC
    have E0 : Hid (Below W2.heap.size W2 W2) := hid (Below.refl _ _)
    obtain ⟨n0, n1, n2, p0, p1⟩ := HHS5.out _ E0.out
    refine (GC0 _ (R2.out.below E0.out)).out.mono ?_
    rintro e wx0 ⟨rfl, bx⟩
    have E1 := hid (E0.out.trans (bx.mono E0.out.size))
    clear bx
    clear n0 n1 n2 p0 p1
    obtain ⟨n0, n1, n2, p0, p1⟩ := HHS5.out _ E1.out
    go_wp2
    go_ret2
    rw [HR.out]
    exact ⟨rfl, HB2.out.trans (E1.out.mono hw2)⟩
  · rw [hg0] at GC0
    cases hg1 : goodTouch t
    · rw [hg1] at GC1
      have HR := hid (show callingR m k t b = ([], false) from callingR_no (by simp [hg1]))
      obtain ⟨nm, st, ch⟩ := m
      obtain ⟨k1, k2⟩ := k
      dsimp only at *
      clear HOK hg0 hg1
      go_enter Tryd.func6, Tryd.ntmps6
      go_wp2_with fail
      obtain ⟨B2, hsz, HC⟩ := box_mk w nm k1 k2 st (.slice A n c)
      have R2 := hid (RS.out.below B2)
      have HB2 := hid B2
      have hw2 := B2.size
      generalize ((w.alloc (.cells #[.string (bs nm), .int .i64 st, .slice A n c] 31)).alloc (.cells #[.string (bs k1), .string (bs k2)] 33)) = W2 at *
      clear B2 hsz
      have HS5 : ∀ W', Below W2.heap.size W2 W' → W'.cell? ⟨w.heap.size, 0, none⟩ = some (.string (bs nm)) ∧ W'.cell? ⟨w.heap.size, 1, none⟩ = some (.int .i64 st) ∧ W'.cell? ⟨w.heap.size, 2, none⟩ = some (.slice A n c) ∧ W'.cell? ⟨w.heap.size + 1, 0, none⟩ = some (.string (bs k1)) ∧ W'.cell? ⟨w.heap.size + 1, 1, none⟩ = some (.string (bs k2)) := fun W' h => by
        obtain ⟨⟨a0, a1, a2⟩, a3, a4⟩ := HC.out _ h
        exact ⟨a0, a1, a2, a3, a4⟩
      have HHS5 := hid HS5
      clear HS5 HC
      have E0 : Hid (Below W2.heap.size W2 W2) := hid (Below.refl _ _)
      obtain ⟨n0, n1, n2, p0, p1⟩ := HHS5.out _ E0.out
      refine (GC0 _ (R2.out.below E0.out)).out.mono ?_
      rintro e wx0 ⟨rfl, bx⟩
      have E1 := hid (E0.out.trans (bx.mono E0.out.size))
      clear bx
      clear n0 n1 n2 p0 p1
      obtain ⟨n0, n1, n2, p0, p1⟩ := HHS5.out _ E1.out
      go_wp2_with fail
      refine (GC1 _ (R2.out.below E1.out)).out.mono ?_
      rintro e w' ⟨rfl, rfl⟩
      have E2 := E1
      clear n0 n1 n2 p0 p1
      obtain ⟨n0, n1, n2, p0, p1⟩ := HHS5.out _ E2.out
      go_wp2
      go_ret2
      rw [HR.out]
      exact ⟨rfl, HB2.out.trans (E2.out.mono hw2)⟩
    · rw [hg1] at GC1
      have hcalls : callsB m k = true := by simp only [Bool.and_eq_true] at hg0; exact hg0.1
      have HR := hid (show callingR m k t b = (calText (plP m.st.toNat m.ch k t b) t, true) from callingR_yes (by simp only [Bool.and_eq_true] at hg0 hg1 ⊢; simp [hg0, hg1]))
      have hm : methB m = true := callsB_meth (m := m) (k := k) hcalls
      have hb1 := callsB_bob hcalls
      have hb2 := callsB_single hcalls
      obtain ⟨N, hN, lo, hi, l1, l40, hs⟩ := meth_parts hm
      clear hm hcalls
      obtain ⟨nm, st, ch⟩ := m
      obtain ⟨k1, k2⟩ := k
      dsimp only at *
      subst hN
      have BC0 := fun (w0 : World) (rd : Rd w0 A n (strV ch)) => hid (l10Calling_any N nm t b ch (k1, k2) A n c w0 lo hi rd hn hcap l1 hs hb1 hb2 (goodTouch_len60 hg1))
      clear HOK hb1 hb2 hs hcl hg0 hg1
      go_enter Tryd.func6, Tryd.ntmps6
      go_wp2_with fail
      obtain ⟨B2, hsz, HC⟩ := box_mk w nm k1 k2 (N : Int) (.slice A n c)
      have R2 := hid (RS.out.below B2)
      have HB2 := hid B2
      have hw2 := B2.size
      generalize ((w.alloc (.cells #[.string (bs nm), .int .i64 (N : Int), .slice A n c] 31)).alloc (.cells #[.string (bs k1), .string (bs k2)] 33)) = W2 at *
      clear B2 hsz
      have HS5 : ∀ W', Below W2.heap.size W2 W' → W'.cell? ⟨w.heap.size, 0, none⟩ = some (.string (bs nm)) ∧ W'.cell? ⟨w.heap.size, 1, none⟩ = some (.int .i64 (N : Int)) ∧ W'.cell? ⟨w.heap.size, 2, none⟩ = some (.slice A n c) ∧ W'.cell? ⟨w.heap.size + 1, 0, none⟩ = some (.string (bs k1)) ∧ W'.cell? ⟨w.heap.size + 1, 1, none⟩ = some (.string (bs k2)) := fun W' h => by
        obtain ⟨⟨a0, a1, a2⟩, a3, a4⟩ := HC.out _ h
        exact ⟨a0, a1, a2, a3, a4⟩
      have HHS5 := hid HS5
      clear HS5 HC
      have E0 : Hid (Below W2.heap.size W2 W2) := hid (Below.refl _ _)
      obtain ⟨n0, n1, n2, p0, p1⟩ := HHS5.out _ E0.out
      refine (GC0 _ (R2.out.below E0.out)).out.mono ?_
      rintro e wx0 ⟨rfl, bx⟩
      have E1 := hid (E0.out.trans (bx.mono E0.out.size))
      clear bx
      clear n0 n1 n2 p0 p1
      obtain ⟨n0, n1, n2, p0, p1⟩ := HHS5.out _ E1.out
      go_wp2_with fail
      refine (GC1 _ (R2.out.below E1.out)).out.mono ?_
      rintro e w' ⟨rfl, rfl⟩
      have E2 := E1
      clear n0 n1 n2 p0 p1
      obtain ⟨n0, n1, n2, p0, p1⟩ := HHS5.out _ E2.out
      go_wp2_with fail
      refine (BC0 _ (R2.out.below E2.out)).out.mono ?_
      rintro e wx2 ⟨rfl, bx⟩
      have E3 := hid (E2.out.trans (bx.mono E2.out.size))
      clear bx
      clear n0 n1 n2 p0 p1
      obtain ⟨n0, n1, n2, p0, p1⟩ := HHS5.out _ E3.out
      go_wp2
      go_ret2
      rw [HR.out]
      exact ⟨rfl, HB2.out.trans (E3.out.mono hw2)⟩
end Go.Proofs.YtihaopijnkiafaaDoor
