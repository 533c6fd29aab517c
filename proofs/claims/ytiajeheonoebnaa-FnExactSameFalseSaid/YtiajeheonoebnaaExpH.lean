/- Contracts of FalseHeads, in the reference and in the program. No conditions beyond those stated. -/
import Derived.Test.YtiajeheonoebnaaFHeads
import Derived.Test.YtiajeheonoebnaaSHeads
set_option linter.unusedVariables false
set_option linter.unusedSimpArgs false
set_option maxRecDepth 100000
namespace Go.Proofs.Ytiajeheonoebnaa
open Go.RowKit

/-- The false lead heads of a method. -/
def falsesL (m : Meth) : List (List UInt8) := setL (quotL (leadL (roundsL m.st.toNat) m.ch) (leadL (roundsL m.st.toNat) m.ch))
/-- What FalseHeads answers. -/
def falseHeadsR (m : Meth) : List (List UInt8) × Bool := if methB m = true then (if (falsesL m).length ≤ 800 then (falsesL m, true) else ([], false)) else ([], false)
theorem falseHeadsR_le (m : Meth) : (falseHeadsR m).1.length ≤ 4000000 := by
  unfold falseHeadsR
  split
  · split
    · dsimp only; omega
    · simp
  · simp
set_option maxHeartbeats 1000000 in
theorem implFalseHeads_law (m : Meth) (A : Option Addr) (n c : Nat) (w : World) (ok : LawOk m ([], [])) (rd : Rd w A n (strV m.ch)) (hcap : n ≤ c) :
    Calls Try.prog 40 #[.agg #[.string (bs m.nm), .int .i64 m.st, .slice A n c]] w (ResS w (falseHeadsR m)) := by
  have hn : n ≤ 1048576 := by have h1 := rd.1; have h2 := ok.2.2.1; rw [strV_len] at h1; omega
  have hcl : m.ch.length = n := by have h1 := rd.1; rw [strV_len] at h1; exact h1
  have GC0 := fun (w0 : World) (rd : Rd w0 A n (strV m.ch)) => hid (goodMethod_any m A n c w0 ok.1 ok.2.1 rd hn ok.2.2.2.1)
  have RS := hid rd
  have HOK := hid ok
  clear rd ok
  cases hg0 : methB m
  · rw [hg0] at GC0
    have HR := hid (show falseHeadsR m = ([], false) from by unfold falseHeadsR; rw [if_neg (by rw [hg0]; simp)])
    obtain ⟨nm, st, ch⟩ := m
    dsimp only at *
    clear HOK hg0
    go_enter Try.func40, Try.ntmps40
    go_wp2_with fail
    obtain ⟨B2, hsz, HC⟩ := box_mk1 28 w nm st (.slice A n c)
    have R2 := hid (RS.out.below B2)
    have HB2 := hid B2
    have hw2 := B2.size
    generalize (w.alloc (.cells #[.string (bs nm), .int .i64 st, .slice A n c] 28)) = W2 at *
    clear B2 hsz
    have HS5 : ∀ W', Below W2.heap.size W2 W' → W'.cell? ⟨w.heap.size, 0, none⟩ = some (.string (bs nm)) ∧ W'.cell? ⟨w.heap.size, 1, none⟩ = some (.int .i64 st) ∧ W'.cell? ⟨w.heap.size, 2, none⟩ = some (.slice A n c) := fun W' h => by
      obtain ⟨a0, a1, a2⟩ := HC.out _ h
      exact ⟨a0, a1, a2⟩
    have HHS5 := hid HS5
    clear HS5 HC
    have E0 : Hid (Below W2.heap.size W2 W2) := hid (Below.refl _ _)
    obtain ⟨n0, n1, n2⟩ := HHS5.out _ E0.out
    refine (GC0 _ (R2.out.below E0.out)).out.mono ?_
    rintro e wx0 ⟨rfl, bx⟩
    have E1 := hid (E0.out.trans (bx.mono E0.out.size))
    clear bx
    clear n0 n1 n2
    obtain ⟨n0, n1, n2⟩ := HHS5.out _ E1.out
    go_wp2
    go_ret2
    rw [HR.out]
    exact ResS.none _ _ (HB2.out.trans (E1.out.mono hw2))
  · rw [hg0] at GC0
    have hm : methB m = true := by exact hg0
    have HR := hid (show falseHeadsR m = (if (falsesL m).length ≤ 800 then (falsesL m, true) else ([], false)) from by unfold falseHeadsR; rw [if_pos hg0])
    obtain ⟨N, hN, lo, hi, l1, l40, hs⟩ := meth_parts hm
    clear hm
    obtain ⟨nm, st, ch⟩ := m
    dsimp only at *
    subst hN
    have BC0 := fun (w0 : World) (rd : Rd w0 A n (strV ch)) => hid (falseHeads_any N nm ch A n c w0 lo hi rd (by omega) hs)
    obtain ⟨SQ, hSQ⟩ : ∃ S, S = falsesL ⟨nm, (N : Int), ch⟩ := ⟨_, rfl⟩
    have hSQ2 : setL (quotL (leadL (roundsL N) ch) (leadL (roundsL N) ch)) = SQ := by rw [hSQ]; rfl
    have hR0 : falseHeadsR ⟨nm, (N : Int), ch⟩ = (if SQ.length ≤ 800 then (SQ, true) else ([], false)) := by rw [hSQ]; exact HR.out
    have HR1 := hid (fun h : SQ.length ≤ 800 => show falseHeadsR ⟨nm, (N : Int), ch⟩ = (SQ, true) by rw [hR0, if_pos h])
    have HR0 := hid (fun h : ¬ SQ.length ≤ 800 => show falseHeadsR ⟨nm, (N : Int), ch⟩ = ([], false) by rw [hR0, if_neg h])
    rw [hSQ2] at BC0
    clear hSQ hSQ2 hR0
    clear HOK hs hcl hg0
    go_enter Try.func40, Try.ntmps40
    go_wp2_with fail
    obtain ⟨B2, hsz, HC⟩ := box_mk1 28 w nm (N : Int) (.slice A n c)
    have R2 := hid (RS.out.below B2)
    have HB2 := hid B2
    have hw2 := B2.size
    generalize (w.alloc (.cells #[.string (bs nm), .int .i64 (N : Int), .slice A n c] 28)) = W2 at *
    clear B2 hsz
    have HS5 : ∀ W', Below W2.heap.size W2 W' → W'.cell? ⟨w.heap.size, 0, none⟩ = some (.string (bs nm)) ∧ W'.cell? ⟨w.heap.size, 1, none⟩ = some (.int .i64 (N : Int)) ∧ W'.cell? ⟨w.heap.size, 2, none⟩ = some (.slice A n c) := fun W' h => by
      obtain ⟨a0, a1, a2⟩ := HC.out _ h
      exact ⟨a0, a1, a2⟩
    have HHS5 := hid HS5
    clear HS5 HC
    have E0 : Hid (Below W2.heap.size W2 W2) := hid (Below.refl _ _)
    obtain ⟨n0, n1, n2⟩ := HHS5.out _ E0.out
    refine (GC0 _ (R2.out.below E0.out)).out.mono ?_
    rintro e wx0 ⟨rfl, bx⟩
    have E1 := hid (E0.out.trans (bx.mono E0.out.size))
    clear bx
    clear n0 n1 n2
    obtain ⟨n0, n1, n2⟩ := HHS5.out _ E1.out
    go_wp2_with fail
    refine (BC0 _ (R2.out.below E1.out)).out.mono ?_
    rintro e wx1 ⟨vx1, rfl, ox1, bx⟩
    have E2 := hid (E1.out.trans (bx.mono E1.out.size))
    clear bx
    obtain ⟨Ax1, cx1, rfl, hcx1, _, rdx1, _⟩ := own_shape ox1
    have RX1 := hid rdx1
    have OX1 := hid ox1
    clear rdx1 ox1
    clear n0 n1 n2
    by_cases h8 : SQ.length ≤ 800
    · have hbi : ¬ ((800 : Int) < (SQ.length : Int)) := by omega
      have HA := hid (HR1.out h8)
      go_wp2
      go_ret2
      rw [HA.out]
      exact ⟨_, rfl, own_mono OX1.out (Nat.le_trans hw2 E1.out.size), HB2.out.trans (E2.out.mono hw2)⟩
    · have hbi : (800 : Int) < (SQ.length : Int) := by omega
      have HA := hid (HR0.out h8)
      go_wp2
      go_ret2
      rw [HA.out]
      exact ResS.none _ _ (HB2.out.trans (E2.out.mono hw2))
set_option maxHeartbeats 1000000 in
theorem specFalseHeads_law (m : Meth) (A : Option Addr) (n c : Nat) (w : World) (ok : LawOk m ([], [])) (rd : Rd w A n (strV m.ch)) (hcap : n ≤ c) :
    Calls Try.prog 39 #[.agg #[.string (bs m.nm), .int .i64 m.st, .slice A n c]] w (ResS w (falseHeadsR m)) := by
  have hn : n ≤ 1048576 := by have h1 := rd.1; have h2 := ok.2.2.1; rw [strV_len] at h1; omega
  have hcl : m.ch.length = n := by have h1 := rd.1; rw [strV_len] at h1; exact h1
  have GC0 := fun (w0 : World) (rd : Rd w0 A n (strV m.ch)) => hid (l4Good_any m A n c w0 ok.1 ok.2.1 rd hn ok.2.2.2.1)
  have RS := hid rd
  have HOK := hid ok
  clear rd ok
  cases hg0 : methB m
  · rw [hg0] at GC0
    have HR := hid (show falseHeadsR m = ([], false) from by unfold falseHeadsR; rw [if_neg (by rw [hg0]; simp)])
    obtain ⟨nm, st, ch⟩ := m
    dsimp only at *
    clear HOK hg0
    go_enter Try.func39, Try.ntmps39
    go_wp2_with fail
    obtain ⟨B2, hsz, HC⟩ := box_mk1 28 w nm st (.slice A n c)
    have R2 := hid (RS.out.below B2)
    have HB2 := hid B2
    have hw2 := B2.size
    generalize (w.alloc (.cells #[.string (bs nm), .int .i64 st, .slice A n c] 28)) = W2 at *
    clear B2 hsz
    have HS5 : ∀ W', Below W2.heap.size W2 W' → W'.cell? ⟨w.heap.size, 0, none⟩ = some (.string (bs nm)) ∧ W'.cell? ⟨w.heap.size, 1, none⟩ = some (.int .i64 st) ∧ W'.cell? ⟨w.heap.size, 2, none⟩ = some (.slice A n c) := fun W' h => by
      obtain ⟨a0, a1, a2⟩ := HC.out _ h
      exact ⟨a0, a1, a2⟩
    have HHS5 := hid HS5
    clear HS5 HC
    have E0 : Hid (Below W2.heap.size W2 W2) := hid (Below.refl _ _)
    obtain ⟨n0, n1, n2⟩ := HHS5.out _ E0.out
    refine (GC0 _ (R2.out.below E0.out)).out.mono ?_
    rintro e wx0 ⟨rfl, bx⟩
    have E1 := hid (E0.out.trans (bx.mono E0.out.size))
    clear bx
    clear n0 n1 n2
    obtain ⟨n0, n1, n2⟩ := HHS5.out _ E1.out
    go_wp2
    go_ret2
    rw [HR.out]
    exact ResS.none _ _ (HB2.out.trans (E1.out.mono hw2))
  · rw [hg0] at GC0
    have hm : methB m = true := by exact hg0
    have HR := hid (show falseHeadsR m = (if (falsesL m).length ≤ 800 then (falsesL m, true) else ([], false)) from by unfold falseHeadsR; rw [if_pos hg0])
    obtain ⟨N, hN, lo, hi, l1, l40, hs⟩ := meth_parts hm
    clear hm
    obtain ⟨nm, st, ch⟩ := m
    dsimp only at *
    subst hN
    have BC0 := fun (w0 : World) (rd : Rd w0 A n (strV ch)) => hid (l11Heads_any N nm ch A n c w0 lo hi rd (by omega) hs)
    obtain ⟨SQ, hSQ⟩ : ∃ S, S = falsesL ⟨nm, (N : Int), ch⟩ := ⟨_, rfl⟩
    have hSQ2 : setL (quotL (leadL (roundsL N) ch) (leadL (roundsL N) ch)) = SQ := by rw [hSQ]; rfl
    have hR0 : falseHeadsR ⟨nm, (N : Int), ch⟩ = (if SQ.length ≤ 800 then (SQ, true) else ([], false)) := by rw [hSQ]; exact HR.out
    have HR1 := hid (fun h : SQ.length ≤ 800 => show falseHeadsR ⟨nm, (N : Int), ch⟩ = (SQ, true) by rw [hR0, if_pos h])
    have HR0 := hid (fun h : ¬ SQ.length ≤ 800 => show falseHeadsR ⟨nm, (N : Int), ch⟩ = ([], false) by rw [hR0, if_neg h])
    rw [hSQ2] at BC0
    clear hSQ hSQ2 hR0
    clear HOK hs hcl hg0
    go_enter Try.func39, Try.ntmps39
    go_wp2_with fail
    obtain ⟨B2, hsz, HC⟩ := box_mk1 28 w nm (N : Int) (.slice A n c)
    have R2 := hid (RS.out.below B2)
    have HB2 := hid B2
    have hw2 := B2.size
    generalize (w.alloc (.cells #[.string (bs nm), .int .i64 (N : Int), .slice A n c] 28)) = W2 at *
    clear B2 hsz
    have HS5 : ∀ W', Below W2.heap.size W2 W' → W'.cell? ⟨w.heap.size, 0, none⟩ = some (.string (bs nm)) ∧ W'.cell? ⟨w.heap.size, 1, none⟩ = some (.int .i64 (N : Int)) ∧ W'.cell? ⟨w.heap.size, 2, none⟩ = some (.slice A n c) := fun W' h => by
      obtain ⟨a0, a1, a2⟩ := HC.out _ h
      exact ⟨a0, a1, a2⟩
    have HHS5 := hid HS5
    clear HS5 HC
    have E0 : Hid (Below W2.heap.size W2 W2) := hid (Below.refl _ _)
    obtain ⟨n0, n1, n2⟩ := HHS5.out _ E0.out
    refine (GC0 _ (R2.out.below E0.out)).out.mono ?_
    rintro e wx0 ⟨rfl, bx⟩
    have E1 := hid (E0.out.trans (bx.mono E0.out.size))
    clear bx
    clear n0 n1 n2
    obtain ⟨n0, n1, n2⟩ := HHS5.out _ E1.out
    go_wp2_with fail
    refine (BC0 _ (R2.out.below E1.out)).out.mono ?_
    rintro e wx1 ⟨vx1, rfl, ox1, bx⟩
    have E2 := hid (E1.out.trans (bx.mono E1.out.size))
    clear bx
    obtain ⟨Ax1, cx1, rfl, hcx1, _, rdx1, _⟩ := own_shape ox1
    have RX1 := hid rdx1
    have OX1 := hid ox1
    clear rdx1 ox1
    clear n0 n1 n2
    by_cases h8 : SQ.length ≤ 800
    · have hbi : ¬ ((800 : Int) < (SQ.length : Int)) := by omega
      have HA := hid (HR1.out h8)
      go_wp2
      go_ret2
      rw [HA.out]
      exact ⟨_, rfl, own_mono OX1.out (Nat.le_trans hw2 E1.out.size), HB2.out.trans (E2.out.mono hw2)⟩
    · have hbi : (800 : Int) < (SQ.length : Int) := by omega
      have HA := hid (HR0.out h8)
      go_wp2
      go_ret2
      rw [HA.out]
      exact ResS.none _ _ (HB2.out.trans (E2.out.mono hw2))
end Go.Proofs.Ytiajeheonoebnaa
