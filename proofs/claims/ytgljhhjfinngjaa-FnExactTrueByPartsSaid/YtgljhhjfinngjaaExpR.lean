/- Contracts of TouchRows, in the reference and in the program. No conditions beyond those stated. -/
import Derived.Test.YtgljhhjfinngjaaRowsT
set_option linter.unusedVariables false
set_option linter.unusedSimpArgs false
set_option maxRecDepth 100000
namespace Go.Proofs.Ytgljhhjfinngjaa
open Go.RowKit

/-- What TouchRows answers. -/
def touchRowsR (m : Meth) (k : List UInt8 × List UInt8) (t : List UInt8) : List (List UInt8) × Bool := if (callsB m k && goodTouch t) = true then rowsR m.st.toNat m.ch k t else ([], false)
theorem rowsR_le (N : Nat) (cs : List (List UInt8)) (k : List UInt8 × List UInt8) (t : List UInt8) : (rowsR N cs k t).1.length ≤ 800 := by
  unfold rowsR
  split
  · dsimp only; rw [touchL_len]; assumption
  · simp
theorem touchRowsR_le (m : Meth) (k : List UInt8 × List UInt8) (t : List UInt8) : (touchRowsR m k t).1.length ≤ 4000000 := by
  unfold touchRowsR
  split
  · exact Nat.le_trans (rowsR_le _ _ _ _) (by omega)
  · simp
set_option maxHeartbeats 1000000 in
theorem implTouchRows_law (m : Meth) (k : List UInt8 × List UInt8) (t : List UInt8) (A : Option Addr) (n c : Nat) (w : World) (ok : LawOk m k) (rd : Rd w A n (strV m.ch)) (hcap : n ≤ c) (lt : t.length ≤ 1048576) :
    Calls Try.prog 30 #[.agg #[.string (bs m.nm), .int .i64 m.st, .slice A n c], .agg #[.string (bs k.1), .string (bs k.2)], .string (bs t)] w (ResS w (touchRowsR m k t)) := by
  have hn : n ≤ 1048576 := by have h1 := rd.1; have h2 := ok.2.2.1; rw [strV_len] at h1; omega
  have hcl : m.ch.length = n := by have h1 := rd.1; rw [strV_len] at h1; exact h1
  have GC0 := fun (w0 : World) (rd : Rd w0 A n (strV m.ch)) => hid (goodFor_any m k t A n c w0 ok rd lt)
  have RS := hid rd
  have HOK := hid ok
  clear rd ok
  cases hg0 : callsB m k && goodTouch t
  · rw [hg0] at GC0
    have HR := hid (show touchRowsR m k t = ([], false) from by unfold touchRowsR; rw [if_neg (by rw [hg0]; simp)])
    obtain ⟨nm, st, ch⟩ := m
    obtain ⟨k1, k2⟩ := k
    dsimp only at *
    clear HOK hg0
    go_enter Try.func30, Try.ntmps30
    go_wp2_with fail
    obtain ⟨B2, hsz, HC⟩ := box_mk w nm k1 k2 st (.slice A n c)
    have R2 := hid (RS.out.below B2)
    have HB2 := hid B2
    have hw2 := B2.size
    generalize ((w.alloc (.cells #[.string (bs nm), .int .i64 st, .slice A n c] 31)).alloc (.cells #[.string (bs k1), .string (bs k2)] 33)) = W2 at *
    clear B2 hsz
    have HS5 : ∀ W', Below W2.heap.size W2 W' → W'.cell? ⟨w.heap.size, 0, none⟩ = some (.string (bs nm)) ∧ W'.cell? ⟨w.heap.size, 1, none⟩ = some (.int .i64 st) ∧ W'.cell? ⟨w.heap.size, 2, none⟩ = some (.slice A n c) ∧ W'.cell? ⟨w.heap.size + 1, 0, none⟩ = some (.string (bs k1)) ∧ W'.cell? ⟨w.heap.size + 1, 1, none⟩ = some (.string (bs k2)) := fun W' h => by
      obtain ⟨⟨a0, a1, a2⟩, a3, a4⟩ := HC.out _ h
      exact ⟨a0, a1, a2, a3, a4⟩
    have HHS5 := hid HS5
    clear HS5 HC
    have E0 : Hid (Below W2.heap.size W2 W2) := hid (Below.refl _ _)
    obtain ⟨n0, n1, n2, p0, p1⟩ := HHS5.out _ E0.out
    refine (GC0 _ (R2.out.below E0.out)).out.mono ?_
    rintro e wx0 ⟨rfl, bx⟩
    have E1 := hid (E0.out.trans (bx.mono E0.out.size))
    clear bx
    clear n0 n1 n2 p0 p1
    obtain ⟨n0, n1, n2, p0, p1⟩ := HHS5.out _ E1.out
    go_wp2
    go_ret2
    rw [HR.out]
    exact ResS.none _ _ (HB2.out.trans (E1.out.mono hw2))
  · rw [hg0] at GC0
    have hcalls : callsB m k = true := by simp only [Bool.and_eq_true] at hg0; exact hg0.1
    have HR := hid (show touchRowsR m k t = rowsR m.st.toNat m.ch k t from by unfold touchRowsR; rw [if_pos hg0])
    have hm : methB m = true := callsB_meth (m := m) (k := k) hcalls
    have hb1 := callsB_bob hcalls
    have hb2 := callsB_single hcalls
    obtain ⟨N, hN, lo, hi, l1, l40, hs⟩ := meth_parts hm
    clear hm hcalls
    obtain ⟨nm, st, ch⟩ := m
    obtain ⟨k1, k2⟩ := k
    dsimp only at *
    subst hN
    have BC0 := fun (w0 : World) (rd : Rd w0 A n (strV ch)) => hid (touchRows_any N nm t ch (k1, k2) A n c w0 lo hi rd (by omega) l1 hs hb1 hb2 (goodTouch_len (by simp only [Bool.and_eq_true] at hg0; exact hg0.2)) (goodTouch_calls (by simp only [Bool.and_eq_true] at hg0; exact hg0.2)))
    clear HOK hb1 hb2 hs hcl hg0
    go_enter Try.func30, Try.ntmps30
    go_wp2_with fail
    obtain ⟨B2, hsz, HC⟩ := box_mk w nm k1 k2 (N : Int) (.slice A n c)
    have R2 := hid (RS.out.below B2)
    have HB2 := hid B2
    have hw2 := B2.size
    generalize ((w.alloc (.cells #[.string (bs nm), .int .i64 (N : Int), .slice A n c] 31)).alloc (.cells #[.string (bs k1), .string (bs k2)] 33)) = W2 at *
    clear B2 hsz
    have HS5 : ∀ W', Below W2.heap.size W2 W' → W'.cell? ⟨w.heap.size, 0, none⟩ = some (.string (bs nm)) ∧ W'.cell? ⟨w.heap.size, 1, none⟩ = some (.int .i64 (N : Int)) ∧ W'.cell? ⟨w.heap.size, 2, none⟩ = some (.slice A n c) ∧ W'.cell? ⟨w.heap.size + 1, 0, none⟩ = some (.string (bs k1)) ∧ W'.cell? ⟨w.heap.size + 1, 1, none⟩ = some (.string (bs k2)) := fun W' h => by
      obtain ⟨⟨a0, a1, a2⟩, a3, a4⟩ := HC.out _ h
      exact ⟨a0, a1, a2, a3, a4⟩
    have HHS5 := hid HS5
    clear HS5 HC
    have E0 : Hid (Below W2.heap.size W2 W2) := hid (Below.refl _ _)
    obtain ⟨n0, n1, n2, p0, p1⟩ := HHS5.out _ E0.out
    refine (GC0 _ (R2.out.below E0.out)).out.mono ?_
    rintro e wx0 ⟨rfl, bx⟩
    have E1 := hid (E0.out.trans (bx.mono E0.out.size))
    clear bx
    clear n0 n1 n2 p0 p1
    obtain ⟨n0, n1, n2, p0, p1⟩ := HHS5.out _ E1.out
    go_wp2_with fail
    refine (BC0 _ (R2.out.below E1.out)).out.mono ?_
    rintro e wx1 ⟨vx1, rfl, ox1, bx⟩
    have E2 := hid (E1.out.trans (bx.mono E1.out.size))
    clear bx
    obtain ⟨Ax1, cx1, rfl, hcx1, _, rdx1, _⟩ := own_shape ox1
    have RX1 := hid rdx1
    have OX1 := hid ox1
    clear rdx1 ox1
    clear n0 n1 n2 p0 p1
    obtain ⟨n0, n1, n2, p0, p1⟩ := HHS5.out _ E2.out
    go_wp2
    go_ret2
    rw [HR.out]
    exact ⟨_, rfl, own_mono OX1.out (Nat.le_trans hw2 E1.out.size), HB2.out.trans (E2.out.mono hw2)⟩
set_option maxHeartbeats 1000000 in
theorem specTouchRows_law (m : Meth) (k : List UInt8 × List UInt8) (t : List UInt8) (A : Option Addr) (n c : Nat) (w : World) (ok : LawOk m k) (rd : Rd w A n (strV m.ch)) (hcap : n ≤ c) (lt : t.length ≤ 1048576) :
    Calls Try.prog 29 #[.agg #[.string (bs m.nm), .int .i64 m.st, .slice A n c], .agg #[.string (bs k.1), .string (bs k.2)], .string (bs t)] w (ResS w (touchRowsR m k t)) := by
  have hn : n ≤ 1048576 := by have h1 := rd.1; have h2 := ok.2.2.1; rw [strV_len] at h1; omega
  have hcl : m.ch.length = n := by have h1 := rd.1; rw [strV_len] at h1; exact h1
  have GC0 := fun (w0 : World) (rd : Rd w0 A n (strV m.ch)) => hid (l9Asked_any m k t A n c w0 ok rd lt)
  have RS := hid rd
  have HOK := hid ok
  clear rd ok
  cases hg0 : callsB m k && goodTouch t
  · rw [hg0] at GC0
    have HR := hid (show touchRowsR m k t = ([], false) from by unfold touchRowsR; rw [if_neg (by rw [hg0]; simp)])
    obtain ⟨nm, st, ch⟩ := m
    obtain ⟨k1, k2⟩ := k
    dsimp only at *
    clear HOK hg0
    go_enter Try.func29, Try.ntmps29
    go_wp2_with fail
    obtain ⟨B2, hsz, HC⟩ := box_mk w nm k1 k2 st (.slice A n c)
    have R2 := hid (RS.out.below B2)
    have HB2 := hid B2
    have hw2 := B2.size
    generalize ((w.alloc (.cells #[.string (bs nm), .int .i64 st, .slice A n c] 31)).alloc (.cells #[.string (bs k1), .string (bs k2)] 33)) = W2 at *
    clear B2 hsz
    have HS5 : ∀ W', Below W2.heap.size W2 W' → W'.cell? ⟨w.heap.size, 0, none⟩ = some (.string (bs nm)) ∧ W'.cell? ⟨w.heap.size, 1, none⟩ = some (.int .i64 st) ∧ W'.cell? ⟨w.heap.size, 2, none⟩ = some (.slice A n c) ∧ W'.cell? ⟨w.heap.size + 1, 0, none⟩ = some (.string (bs k1)) ∧ W'.cell? ⟨w.heap.size + 1, 1, none⟩ = some (.string (bs k2)) := fun W' h => by
      obtain ⟨⟨a0, a1, a2⟩, a3, a4⟩ := HC.out _ h
      exact ⟨a0, a1, a2, a3, a4⟩
    have HHS5 := hid HS5
    clear HS5 HC
    have E0 : Hid (Below W2.heap.size W2 W2) := hid (Below.refl _ _)
    obtain ⟨n0, n1, n2, p0, p1⟩ := HHS5.out _ E0.out
    refine (GC0 _ (R2.out.below E0.out)).out.mono ?_
    rintro e wx0 ⟨rfl, bx⟩
    have E1 := hid (E0.out.trans (bx.mono E0.out.size))
    clear bx
    clear n0 n1 n2 p0 p1
    obtain ⟨n0, n1, n2, p0, p1⟩ := HHS5.out _ E1.out
    go_wp2
    go_ret2
    rw [HR.out]
    exact ResS.none _ _ (HB2.out.trans (E1.out.mono hw2))
  · rw [hg0] at GC0
    have hcalls : callsB m k = true := by simp only [Bool.and_eq_true] at hg0; exact hg0.1
    have HR := hid (show touchRowsR m k t = rowsR m.st.toNat m.ch k t from by unfold touchRowsR; rw [if_pos hg0])
    have hm : methB m = true := callsB_meth (m := m) (k := k) hcalls
    have hb1 := callsB_bob hcalls
    have hb2 := callsB_single hcalls
    obtain ⟨N, hN, lo, hi, l1, l40, hs⟩ := meth_parts hm
    clear hm hcalls
    obtain ⟨nm, st, ch⟩ := m
    obtain ⟨k1, k2⟩ := k
    dsimp only at *
    subst hN
    have BC0 := fun (w0 : World) (rd : Rd w0 A n (strV ch)) => hid (l9Rows_any N nm t ch (k1, k2) A n c w0 lo hi rd (by omega) hcap l1 hs hb1 hb2 (goodTouch_len (by simp only [Bool.and_eq_true] at hg0; exact hg0.2)))
    have hlen := goodTouch_len (t := t) (by simp only [Bool.and_eq_true] at hg0; exact hg0.2)
    have hp : t.length * n ≤ 1000000 := Nat.le_trans (Nat.mul_le_mul hlen (show n ≤ 1000 by omega)) (by omega)
    have hpi : (t.length : Int) * (n : Int) = ((t.length * n : Nat) : Int) := by simp
    have p0 : (0 : Int) ≤ (t.length : Int) * (n : Int) := by rw [hpi]; omega
    have p1 : (t.length : Int) * (n : Int) ≤ 1000000 := by rw [hpi]; omega
    have HR1 := hid (fun h : ¬ (800 : Int) < (t.length : Int) * (n : Int) => show rowsR N ch (k1, k2) t = (touchL N ch (k1, k2) t, true) by unfold rowsR; rw [hcl, if_pos (by rw [hpi] at h; omega)])
    have HR0 := hid (fun h : (800 : Int) < (t.length : Int) * (n : Int) => show rowsR N ch (k1, k2) t = ([], false) by unfold rowsR; rw [hcl, if_neg (by rw [hpi] at h; omega)])
    clear hpi
    clear HOK hb1 hb2 hs hcl hg0
    go_enter Try.func29, Try.ntmps29
    go_wp2_with fail
    obtain ⟨B2, hsz, HC⟩ := box_mk w nm k1 k2 (N : Int) (.slice A n c)
    have R2 := hid (RS.out.below B2)
    have HB2 := hid B2
    have hw2 := B2.size
    generalize ((w.alloc (.cells #[.string (bs nm), .int .i64 (N : Int), .slice A n c] 31)).alloc (.cells #[.string (bs k1), .string (bs k2)] 33)) = W2 at *
    clear B2 hsz
    have HS5 : ∀ W', Below W2.heap.size W2 W' → W'.cell? ⟨w.heap.size, 0, none⟩ = some (.string (bs nm)) ∧ W'.cell? ⟨w.heap.size, 1, none⟩ = some (.int .i64 (N : Int)) ∧ W'.cell? ⟨w.heap.size, 2, none⟩ = some (.slice A n c) ∧ W'.cell? ⟨w.heap.size + 1, 0, none⟩ = some (.string (bs k1)) ∧ W'.cell? ⟨w.heap.size + 1, 1, none⟩ = some (.string (bs k2)) := fun W' h => by
      obtain ⟨⟨a0, a1, a2⟩, a3, a4⟩ := HC.out _ h
      exact ⟨a0, a1, a2, a3, a4⟩
    have HHS5 := hid HS5
    clear HS5 HC
    have E0 : Hid (Below W2.heap.size W2 W2) := hid (Below.refl _ _)
    obtain ⟨n0, n1, n2, p0, p1⟩ := HHS5.out _ E0.out
    refine (GC0 _ (R2.out.below E0.out)).out.mono ?_
    rintro e wx0 ⟨rfl, bx⟩
    have E1 := hid (E0.out.trans (bx.mono E0.out.size))
    clear bx
    clear n0 n1 n2 p0 p1
    have E2 := E1
    obtain ⟨n0, n1, n2, p0, p1⟩ := HHS5.out _ E2.out
    go_wp2_with fail
    · have hb8 : (800 : Int) < (t.length : Int) * (n : Int) := by assumption
      go_ret2
      rw [HR.out]
      show ResS w (rowsR N ch (k1, k2) t) _ _
      rw [HR0.out hb8]
      exact ResS.none _ _ (HB2.out.trans (E2.out.mono hw2))
    · have hb8 : ¬ (800 : Int) < (t.length : Int) * (n : Int) := by first | assumption | omega
      have HR8 := hid (HR1.out (by omega))
      refine (BC0 _ (R2.out.below E2.out)).out.mono ?_
      rintro e wx1 ⟨vx1, rfl, ox1, bx⟩
      have E3 := hid (E2.out.trans (bx.mono E2.out.size))
      obtain ⟨Ax1, cx1, rfl, hcx1, _, rdx1, _⟩ := own_shape ox1
      have OX1 := hid ox1
      clear bx rdx1 ox1 n0 n1 n2 p0 p1
      obtain ⟨n0, n1, n2, p0, p1⟩ := HHS5.out _ E3.out
      go_wp2
      go_ret2
      rw [HR.out]
      show ResS w (rowsR N ch (k1, k2) t) _ _
      rw [HR8.out]
      exact ⟨_, rfl, own_mono OX1.out (Nat.le_trans hw2 E2.out.size), HB2.out.trans (E3.out.mono hw2)⟩
end Go.Proofs.Ytgljhhjfinngjaa
