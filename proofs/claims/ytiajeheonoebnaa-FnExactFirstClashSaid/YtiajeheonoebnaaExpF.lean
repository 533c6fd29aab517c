/- Contracts of IsFalseHead, in the reference and in the program. No conditions beyond those stated. -/
import Derived.Test.YtiajeheonoebnaaFalse
set_option linter.unusedVariables false
set_option linter.unusedSimpArgs false
set_option maxRecDepth 100000
namespace Go.Proofs.Ytiajeheonoebnaa
open Go.RowKit

theorem quot_meetN {N : Nat} {f : List UInt8} (ca cb : List (List UInt8)) (hf : IsRow f ∧ f.length = N) : memB f (quotL (leadL (roundsL N) ca) (leadL (roundsL N) cb)) = decide (0 < (meetL (leadL (roundsL N) ca) (leadL f cb)).length) := by
  obtain ⟨h1, rfl⟩ := hf
  exact quot_meet ca cb h1
/-- What IsFalseHead answers. -/
def isFalseR (m : Meth) (f : List UInt8) : Bool × Bool := if (methB m && rowOfB m.st f) = true then (decide (0 < (meetL (leadL (roundsL m.st.toNat) m.ch) (leadL f m.ch)).length), true) else (false, false)
set_option maxHeartbeats 1000000 in
theorem specIsFalseHead_law (m : Meth) (f : List UInt8) (A : Option Addr) (n c : Nat) (w : World) (ok : LawOk m ([], [])) (rd : Rd w A n (strV m.ch)) (hcap : n ≤ c) (lf : f.length ≤ 1048576) :
    Calls Try.prog 16 #[.agg #[.string (bs m.nm), .int .i64 m.st, .slice A n c], .string (bs f)] w fun e w' => e = .returned (.tuple #[.bool (isFalseR m f).1, .bool (isFalseR m f).2]) ∧ Below w.heap.size w w' := by
  have hn : n ≤ 1048576 := by have h1 := rd.1; have h2 := ok.2.2.1; rw [strV_len] at h1; omega
  have hcl : m.ch.length = n := by have h1 := rd.1; rw [strV_len] at h1; exact h1
  have GC0 := fun (w0 : World) (rd : Rd w0 A n (strV m.ch)) => hid (l11Asked_any m f A n c w0 ok rd hn lf)
  have RS := hid rd
  have HOK := hid ok
  clear rd ok
  cases hg0 : methB m && rowOfB m.st f
  · rw [hg0] at GC0
    have HR := hid (show isFalseR m f = (false, false) from by unfold isFalseR; rw [if_neg (by rw [hg0]; simp)])
    obtain ⟨nm, st, ch⟩ := m
    dsimp only at *
    clear HOK hg0
    go_enter Try.func16, Try.ntmps16
    go_wp2_with fail
    obtain ⟨B2, hsz, HC⟩ := box_mk1 28 w nm st (.slice A n c)
    have R2 := hid (RS.out.below B2)
    have HB2 := hid B2
    have hw2 := B2.size
    generalize (w.alloc (.cells #[.string (bs nm), .int .i64 st, .slice A n c] 28)) = W2 at *
    clear B2 hsz
    have HS5 : ∀ W', Below W2.heap.size W2 W' → W'.cell? ⟨w.heap.size, 0, none⟩ = some (.string (bs nm)) ∧ W'.cell? ⟨w.heap.size, 1, none⟩ = some (.int .i64 st) ∧ W'.cell? ⟨w.heap.size, 2, none⟩ = some (.slice A n c) := fun W' h => by
      obtain ⟨a0, a1, a2⟩ := HC.out _ h
      exact ⟨a0, a1, a2⟩
    have HHS5 := hid HS5
    clear HS5 HC
    have E0 : Hid (Below W2.heap.size W2 W2) := hid (Below.refl _ _)
    obtain ⟨n0, n1, n2⟩ := HHS5.out _ E0.out
    refine (GC0 _ (R2.out.below E0.out)).out.mono ?_
    rintro e wx0 ⟨rfl, bx⟩
    have E1 := hid (E0.out.trans (bx.mono E0.out.size))
    clear bx
    clear n0 n1 n2
    obtain ⟨n0, n1, n2⟩ := HHS5.out _ E1.out
    go_wp2
    go_ret2
    rw [HR.out]
    exact ⟨rfl, HB2.out.trans (E1.out.mono hw2)⟩
  · rw [hg0] at GC0
    have hm : methB m = true := by simp only [Bool.and_eq_true] at hg0; exact hg0.1
    have HR := hid (show isFalseR m f = (decide (0 < (meetL (leadL (roundsL m.st.toNat) m.ch) (leadL f m.ch)).length), true) from by unfold isFalseR; rw [if_pos (by simp [hg0])])
    obtain ⟨N, hN, lo, hi, l1, l40, hs⟩ := meth_parts hm
    clear hm
    obtain ⟨nm, st, ch⟩ := m
    dsimp only at *
    subst hN
    have hrf := rowOfB_row (N := N) (f := f) (by simp only [Bool.and_eq_true] at hg0; exact hg0.2)
    have BC0 := fun (w0 : World) (rd : Rd w0 A n (strV ch)) => hid (l11Shared_any N nm f ch A n c w0 lo hi rd hn hs hrf.1 hrf.2)
    clear HOK hs hcl hg0
    go_enter Try.func16, Try.ntmps16
    go_wp2_with fail
    obtain ⟨B2, hsz, HC⟩ := box_mk1 28 w nm (N : Int) (.slice A n c)
    have R2 := hid (RS.out.below B2)
    have HB2 := hid B2
    have hw2 := B2.size
    generalize (w.alloc (.cells #[.string (bs nm), .int .i64 (N : Int), .slice A n c] 28)) = W2 at *
    clear B2 hsz
    have HS5 : ∀ W', Below W2.heap.size W2 W' → W'.cell? ⟨w.heap.size, 0, none⟩ = some (.string (bs nm)) ∧ W'.cell? ⟨w.heap.size, 1, none⟩ = some (.int .i64 (N : Int)) ∧ W'.cell? ⟨w.heap.size, 2, none⟩ = some (.slice A n c) := fun W' h => by
      obtain ⟨a0, a1, a2⟩ := HC.out _ h
      exact ⟨a0, a1, a2⟩
    have HHS5 := hid HS5
    clear HS5 HC
    have E0 : Hid (Below W2.heap.size W2 W2) := hid (Below.refl _ _)
    obtain ⟨n0, n1, n2⟩ := HHS5.out _ E0.out
    refine (GC0 _ (R2.out.below E0.out)).out.mono ?_
    rintro e wx0 ⟨rfl, bx⟩
    have E1 := hid (E0.out.trans (bx.mono E0.out.size))
    clear bx
    clear n0 n1 n2
    obtain ⟨n0, n1, n2⟩ := HHS5.out _ E1.out
    go_wp2_with fail
    refine (BC0 _ (R2.out.below E1.out)).out.mono ?_
    rintro e wx1 ⟨vx1, rfl, ox1, bx⟩
    have E2 := hid (E1.out.trans (bx.mono E1.out.size))
    clear bx
    obtain ⟨Ax1, cx1, rfl, hcx1, _, rdx1, _⟩ := own_shape ox1
    have RX1 := hid rdx1
    have OX1 := hid ox1
    clear rdx1 ox1
    clear n0 n1 n2
    obtain ⟨n0, n1, n2⟩ := HHS5.out _ E2.out
    go_wp2
    go_ret2
    rw [HR.out]
    exact ⟨by simp, HB2.out.trans (E2.out.mono hw2)⟩
set_option maxHeartbeats 1000000 in
theorem implIsFalseHead_law (m : Meth) (f : List UInt8) (A : Option Addr) (n c : Nat) (w : World) (ok : LawOk m ([], [])) (rd : Rd w A n (strV m.ch)) (hcap : n ≤ c) (lf : f.length ≤ 1048576) :
    Calls Try.prog 17 #[.agg #[.string (bs m.nm), .int .i64 m.st, .slice A n c], .string (bs f)] w fun e w' => e = .returned (.tuple #[.bool (isFalseR m f).1, .bool (isFalseR m f).2]) ∧ Below w.heap.size w w' := by
  have hn : n ≤ 1048576 := by have h1 := rd.1; have h2 := ok.2.2.1; rw [strV_len] at h1; omega
  have hcl : m.ch.length = n := by have h1 := rd.1; rw [strV_len] at h1; exact h1
  have GC0 := fun (w0 : World) (rd : Rd w0 A n (strV m.ch)) => hid (goodMethod_any m A n c w0 ok.1 ok.2.1 rd hn ok.2.2.2.1)
  have GC1 := fun (w0 : World) (rd : Rd w0 A n (strV m.ch)) => hid (isRowOfI_any m.st f w0 (by omega))
  have RS := hid rd
  have HOK := hid ok
  clear rd ok
  cases hg0 : methB m
  · rw [hg0] at GC0
    have HR := hid (show isFalseR m f = (false, false) from by unfold isFalseR; rw [if_neg (by simp [hg0])])
    obtain ⟨nm, st, ch⟩ := m
    dsimp only at *
    clear HOK hg0
    go_enter Try.func17, Try.ntmps17
    go_wp2_with fail
    obtain ⟨B2, hsz, HC⟩ := box_mk1 28 w nm st (.slice A n c)
    have R2 := hid (RS.out.below B2)
    have HB2 := hid B2
    have hw2 := B2.size
    generalize (w.alloc (.cells #[.string (bs nm), .int .i64 st, .slice A n c] 28)) = W2 at *
    clear B2 hsz
    have HS5 : ∀ W', Below W2.heap.size W2 W' → W'.cell? ⟨w.heap.size, 0, none⟩ = some (.string (bs nm)) ∧ W'.cell? ⟨w.heap.size, 1, none⟩ = some (.int .i64 st) ∧ W'.cell? ⟨w.heap.size, 2, none⟩ = some (.slice A n c) := fun W' h => by
      obtain ⟨a0, a1, a2⟩ := HC.out _ h
      exact ⟨a0, a1, a2⟩
    have HHS5 := hid HS5
    clear HS5 HC
    have E0 : Hid (Below W2.heap.size W2 W2) := hid (Below.refl _ _)
    obtain ⟨n0, n1, n2⟩ := HHS5.out _ E0.out
    refine (GC0 _ (R2.out.below E0.out)).out.mono ?_
    rintro e wx0 ⟨rfl, bx⟩
    have E1 := hid (E0.out.trans (bx.mono E0.out.size))
    clear bx
    clear n0 n1 n2
    obtain ⟨n0, n1, n2⟩ := HHS5.out _ E1.out
    go_wp2
    go_ret2
    rw [HR.out]
    exact ⟨rfl, HB2.out.trans (E1.out.mono hw2)⟩
  · rw [hg0] at GC0
    cases hg1 : rowOfB m.st f
    · rw [hg1] at GC1
      have HR := hid (show isFalseR m f = (false, false) from by unfold isFalseR; rw [if_neg (by simp [hg1])])
      obtain ⟨nm, st, ch⟩ := m
      dsimp only at *
      clear HOK hg0 hg1
      go_enter Try.func17, Try.ntmps17
      go_wp2_with fail
      obtain ⟨B2, hsz, HC⟩ := box_mk1 28 w nm st (.slice A n c)
      have R2 := hid (RS.out.below B2)
      have HB2 := hid B2
      have hw2 := B2.size
      generalize (w.alloc (.cells #[.string (bs nm), .int .i64 st, .slice A n c] 28)) = W2 at *
      clear B2 hsz
      have HS5 : ∀ W', Below W2.heap.size W2 W' → W'.cell? ⟨w.heap.size, 0, none⟩ = some (.string (bs nm)) ∧ W'.cell? ⟨w.heap.size, 1, none⟩ = some (.int .i64 st) ∧ W'.cell? ⟨w.heap.size, 2, none⟩ = some (.slice A n c) := fun W' h => by
        obtain ⟨a0, a1, a2⟩ := HC.out _ h
        exact ⟨a0, a1, a2⟩
      have HHS5 := hid HS5
      clear HS5 HC
      have E0 : Hid (Below W2.heap.size W2 W2) := hid (Below.refl _ _)
      obtain ⟨n0, n1, n2⟩ := HHS5.out _ E0.out
      refine (GC0 _ (R2.out.below E0.out)).out.mono ?_
      rintro e wx0 ⟨rfl, bx⟩
      have E1 := hid (E0.out.trans (bx.mono E0.out.size))
      clear bx
      clear n0 n1 n2
      obtain ⟨n0, n1, n2⟩ := HHS5.out _ E1.out
      go_wp2_with fail
      refine (GC1 _ (R2.out.below E1.out)).out.mono ?_
      rintro e w' ⟨rfl, rfl⟩
      have E2 := E1
      clear n0 n1 n2
      obtain ⟨n0, n1, n2⟩ := HHS5.out _ E2.out
      go_wp2
      go_ret2
      rw [HR.out]
      exact ⟨rfl, HB2.out.trans (E2.out.mono hw2)⟩
    · rw [hg1] at GC1
      have hm : methB m = true := by exact hg0
      have HR := hid (show isFalseR m f = (decide (0 < (meetL (leadL (roundsL m.st.toNat) m.ch) (leadL f m.ch)).length), true) from by unfold isFalseR; rw [if_pos (by simp [hg0, hg1])])
      obtain ⟨N, hN, lo, hi, l1, l40, hs⟩ := meth_parts hm
      clear hm
      obtain ⟨nm, st, ch⟩ := m
      dsimp only at *
      subst hN
      have hrf := rowOfB_row (N := N) (f := f) (by exact hg1)
      have BC0 := fun (w0 : World) (rd : Rd w0 A n (strV ch)) => hid (falseSet_any N nm nm ch ch A A n c n c w0 lo hi rd rd (by omega) (by omega) hs hs)
      have HQ := hid (quot_meetN ch ch hrf)
      clear HOK hs hcl hg0 hg1
      go_enter Try.func17, Try.ntmps17
      go_wp2_with fail
      obtain ⟨B2, hsz, HC⟩ := box_mk1 28 w nm (N : Int) (.slice A n c)
      have R2 := hid (RS.out.below B2)
      have HB2 := hid B2
      have hw2 := B2.size
      generalize (w.alloc (.cells #[.string (bs nm), .int .i64 (N : Int), .slice A n c] 28)) = W2 at *
      clear B2 hsz
      have HS5 : ∀ W', Below W2.heap.size W2 W' → W'.cell? ⟨w.heap.size, 0, none⟩ = some (.string (bs nm)) ∧ W'.cell? ⟨w.heap.size, 1, none⟩ = some (.int .i64 (N : Int)) ∧ W'.cell? ⟨w.heap.size, 2, none⟩ = some (.slice A n c) := fun W' h => by
        obtain ⟨a0, a1, a2⟩ := HC.out _ h
        exact ⟨a0, a1, a2⟩
      have HHS5 := hid HS5
      clear HS5 HC
      have E0 : Hid (Below W2.heap.size W2 W2) := hid (Below.refl _ _)
      obtain ⟨n0, n1, n2⟩ := HHS5.out _ E0.out
      refine (GC0 _ (R2.out.below E0.out)).out.mono ?_
      rintro e wx0 ⟨rfl, bx⟩
      have E1 := hid (E0.out.trans (bx.mono E0.out.size))
      clear bx
      clear n0 n1 n2
      obtain ⟨n0, n1, n2⟩ := HHS5.out _ E1.out
      go_wp2_with fail
      refine (GC1 _ (R2.out.below E1.out)).out.mono ?_
      rintro e w' ⟨rfl, rfl⟩
      have E2 := E1
      clear n0 n1 n2
      obtain ⟨n0, n1, n2⟩ := HHS5.out _ E2.out
      go_wp2_with fail
      refine (BC0 _ (R2.out.below E2.out)).out.mono ?_
      rintro e wx ⟨g, q, rfl, hq, hS, hg, bx⟩
      have E3 := hid (E2.out.trans (bx.mono E2.out.size))
      have hlook := hS.look lf
      rw [HQ.out] at hlook
      have HLK := hid hlook
      obtain ⟨bb, hbb⟩ : ∃ bb, bb = decide (0 < (meetL (leadL (roundsL N) ch) (leadL f ch)).length) := ⟨_, rfl⟩
      rw [← hbb] at hlook
      have HBB := hid hbb
      clear hbb HLK hS bx n0 n1 n2
      obtain ⟨n0, n1, n2⟩ := HHS5.out _ E3.out
      go_wp2
      go_ret2
      rw [HR.out]
      exact ⟨by rw [HBB.out]; rfl, HB2.out.trans (E3.out.mono hw2)⟩
end Go.Proofs.Ytiajeheonoebnaa
