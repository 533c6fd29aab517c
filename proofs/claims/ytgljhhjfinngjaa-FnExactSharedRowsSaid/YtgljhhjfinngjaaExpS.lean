/- Contracts of SharedRows, in the reference and in the program. No conditions beyond those stated. -/
import Derived.Test.YtgljhhjfinngjaaShared
set_option linter.unusedVariables false
set_option linter.unusedSimpArgs false
set_option maxRecDepth 100000
namespace Go.Proofs.Ytgljhhjfinngjaa
open Go.RowKit

/-- What SharedRows answers. -/
def sharedR (m : Meth) (f : List UInt8) : List (List UInt8) × Bool := if (methB m && rowOfB m.st f) = true then (meetL (leadL (roundsL m.st.toNat) m.ch) (leadL f m.ch), true) else ([], false)
theorem sharedR_le (m : Meth) (f : List UInt8) : (sharedR m f).1.length ≤ 4000000 := by
  unfold sharedR
  split
  · rename_i h
    simp only [Bool.and_eq_true] at h
    obtain ⟨N, hN, lo, hi, l1, l40, hs⟩ := meth_parts h.1
    have h1 := meetL_len (leadL (roundsL m.st.toNat) m.ch) (leadL f m.ch)
    rw [lead_len] at h1
    dsimp only
    omega
  · simp
set_option maxHeartbeats 1000000 in
theorem specSharedRows_law (m : Meth) (f : List UInt8) (A : Option Addr) (n c : Nat) (w : World) (ok : LawOk m ([], [])) (rd : Rd w A n (strV m.ch)) (hcap : n ≤ c) (lf : f.length ≤ 1048576) :
    Calls Try.prog 37 #[.agg #[.string (bs m.nm), .int .i64 m.st, .slice A n c], .string (bs f)] w (ResS w (sharedR m f)) := by
  have hn : n ≤ 1048576 := by have h1 := rd.1; have h2 := ok.2.2.1; rw [strV_len] at h1; omega
  have hcl : m.ch.length = n := by have h1 := rd.1; rw [strV_len] at h1; exact h1
  have GC0 := fun (w0 : World) (rd : Rd w0 A n (strV m.ch)) => hid (l11Asked_any m f A n c w0 ok rd hn lf)
  have RS := hid rd
  have HOK := hid ok
  clear rd ok
  cases hg0 : methB m && rowOfB m.st f
  · rw [hg0] at GC0
    have HR := hid (show sharedR m f = ([], false) from by unfold sharedR; rw [if_neg (by rw [hg0]; simp)])
    obtain ⟨nm, st, ch⟩ := m
    dsimp only at *
    clear HOK hg0
    go_enter Try.func37, Try.ntmps37
    go_wp2_with fail
    obtain ⟨B2, hsz, HC⟩ := box_mk1 31 w nm st (.slice A n c)
    have R2 := hid (RS.out.below B2)
    have HB2 := hid B2
    have hw2 := B2.size
    generalize (w.alloc (.cells #[.string (bs nm), .int .i64 st, .slice A n c] 31)) = W2 at *
    clear B2 hsz
    have HS5 : ∀ W', Below W2.heap.size W2 W' → W'.cell? ⟨w.heap.size, 0, none⟩ = some (.string (bs nm)) ∧ W'.cell? ⟨w.heap.size, 1, none⟩ = some (.int .i64 st) ∧ W'.cell? ⟨w.heap.size, 2, none⟩ = some (.slice A n c) := fun W' h => by
      obtain ⟨a0, a1, a2⟩ := HC.out _ h
      exact ⟨a0, a1, a2⟩
    have HHS5 := hid HS5
    clear HS5 HC
    have E0 : Hid (Below W2.heap.size W2 W2) := hid (Below.refl _ _)
    obtain ⟨n0, n1, n2⟩ := HHS5.out _ E0.out
    refine (GC0 _ (R2.out.below E0.out)).out.mono ?_
    rintro e wx0 ⟨rfl, bx⟩
    have E1 := hid (E0.out.trans (bx.mono E0.out.size))
    clear bx
    clear n0 n1 n2
    obtain ⟨n0, n1, n2⟩ := HHS5.out _ E1.out
    go_wp2
    go_ret2
    rw [HR.out]
    exact ResS.none _ _ (HB2.out.trans (E1.out.mono hw2))
  · rw [hg0] at GC0
    have hm : methB m = true := by simp only [Bool.and_eq_true] at hg0; exact hg0.1
    have HR := hid (show sharedR m f = (meetL (leadL (roundsL m.st.toNat) m.ch) (leadL f m.ch), true) from by unfold sharedR; rw [if_pos (by simp [hg0])])
    obtain ⟨N, hN, lo, hi, l1, l40, hs⟩ := meth_parts hm
    clear hm
    obtain ⟨nm, st, ch⟩ := m
    dsimp only at *
    subst hN
    have hrf := rowOfB_row (N := N) (f := f) (by simp only [Bool.and_eq_true] at hg0; exact hg0.2)
    have BC0 := fun (w0 : World) (rd : Rd w0 A n (strV ch)) => hid (l11Shared_any N nm f ch A n c w0 lo hi rd hn hs hrf.1 hrf.2)
    clear HOK hs hcl hg0
    go_enter Try.func37, Try.ntmps37
    go_wp2_with fail
    obtain ⟨B2, hsz, HC⟩ := box_mk1 31 w nm (N : Int) (.slice A n c)
    have R2 := hid (RS.out.below B2)
    have HB2 := hid B2
    have hw2 := B2.size
    generalize (w.alloc (.cells #[.string (bs nm), .int .i64 (N : Int), .slice A n c] 31)) = W2 at *
    clear B2 hsz
    have HS5 : ∀ W', Below W2.heap.size W2 W' → W'.cell? ⟨w.heap.size, 0, none⟩ = some (.string (bs nm)) ∧ W'.cell? ⟨w.heap.size, 1, none⟩ = some (.int .i64 (N : Int)) ∧ W'.cell? ⟨w.heap.size, 2, none⟩ = some (.slice A n c) := fun W' h => by
      obtain ⟨a0, a1, a2⟩ := HC.out _ h
      exact ⟨a0, a1, a2⟩
    have HHS5 := hid HS5
    clear HS5 HC
    have E0 : Hid (Below W2.heap.size W2 W2) := hid (Below.refl _ _)
    obtain ⟨n0, n1, n2⟩ := HHS5.out _ E0.out
    refine (GC0 _ (R2.out.below E0.out)).out.mono ?_
    rintro e wx0 ⟨rfl, bx⟩
    have E1 := hid (E0.out.trans (bx.mono E0.out.size))
    clear bx
    clear n0 n1 n2
    obtain ⟨n0, n1, n2⟩ := HHS5.out _ E1.out
    go_wp2_with fail
    refine (BC0 _ (R2.out.below E1.out)).out.mono ?_
    rintro e wx1 ⟨vx1, rfl, ox1, bx⟩
    have E2 := hid (E1.out.trans (bx.mono E1.out.size))
    clear bx
    obtain ⟨Ax1, cx1, rfl, hcx1, _, rdx1, _⟩ := own_shape ox1
    have RX1 := hid rdx1
    have OX1 := hid ox1
    clear rdx1 ox1
    clear n0 n1 n2
    obtain ⟨n0, n1, n2⟩ := HHS5.out _ E2.out
    go_wp2
    go_ret2
    rw [HR.out]
    exact ⟨_, rfl, own_mono OX1.out (Nat.le_trans hw2 E1.out.size), HB2.out.trans (E2.out.mono hw2)⟩
set_option maxHeartbeats 1000000 in
theorem implSharedRows_law (m : Meth) (f : List UInt8) (A : Option Addr) (n c : Nat) (w : World) (ok : LawOk m ([], [])) (rd : Rd w A n (strV m.ch)) (hcap : n ≤ c) (lf : f.length ≤ 1048576) :
    Calls Try.prog 38 #[.agg #[.string (bs m.nm), .int .i64 m.st, .slice A n c], .string (bs f)] w (ResS w (sharedR m f)) := by
  have hn : n ≤ 1048576 := by have h1 := rd.1; have h2 := ok.2.2.1; rw [strV_len] at h1; omega
  have hcl : m.ch.length = n := by have h1 := rd.1; rw [strV_len] at h1; exact h1
  have GC0 := fun (w0 : World) (rd : Rd w0 A n (strV m.ch)) => hid (goodMethod_any m A n c w0 ok.1 ok.2.1 rd hn ok.2.2.2.1)
  have GC1 := fun (w0 : World) (rd : Rd w0 A n (strV m.ch)) => hid (isRowOfI_any m.st f w0 (by omega))
  have RS := hid rd
  have HOK := hid ok
  clear rd ok
  cases hg0 : methB m
  · rw [hg0] at GC0
    have HR := hid (show sharedR m f = ([], false) from by unfold sharedR; rw [if_neg (by simp [hg0])])
    obtain ⟨nm, st, ch⟩ := m
    dsimp only at *
    clear HOK hg0
    go_enter Try.func38, Try.ntmps38
    go_wp2_with fail
    obtain ⟨B2, hsz, HC⟩ := box_mk1 31 w nm st (.slice A n c)
    have R2 := hid (RS.out.below B2)
    have HB2 := hid B2
    have hw2 := B2.size
    generalize (w.alloc (.cells #[.string (bs nm), .int .i64 st, .slice A n c] 31)) = W2 at *
    clear B2 hsz
    have HS5 : ∀ W', Below W2.heap.size W2 W' → W'.cell? ⟨w.heap.size, 0, none⟩ = some (.string (bs nm)) ∧ W'.cell? ⟨w.heap.size, 1, none⟩ = some (.int .i64 st) ∧ W'.cell? ⟨w.heap.size, 2, none⟩ = some (.slice A n c) := fun W' h => by
      obtain ⟨a0, a1, a2⟩ := HC.out _ h
      exact ⟨a0, a1, a2⟩
    have HHS5 := hid HS5
    clear HS5 HC
    have E0 : Hid (Below W2.heap.size W2 W2) := hid (Below.refl _ _)
    obtain ⟨n0, n1, n2⟩ := HHS5.out _ E0.out
    refine (GC0 _ (R2.out.below E0.out)).out.mono ?_
    rintro e wx0 ⟨rfl, bx⟩
    have E1 := hid (E0.out.trans (bx.mono E0.out.size))
    clear bx
    clear n0 n1 n2
    obtain ⟨n0, n1, n2⟩ := HHS5.out _ E1.out
    go_wp2
    go_ret2
    rw [HR.out]
    exact ResS.none _ _ (HB2.out.trans (E1.out.mono hw2))
  · rw [hg0] at GC0
    cases hg1 : rowOfB m.st f
    · rw [hg1] at GC1
      have HR := hid (show sharedR m f = ([], false) from by unfold sharedR; rw [if_neg (by simp [hg1])])
      obtain ⟨nm, st, ch⟩ := m
      dsimp only at *
      clear HOK hg0 hg1
      go_enter Try.func38, Try.ntmps38
      go_wp2_with fail
      obtain ⟨B2, hsz, HC⟩ := box_mk1 31 w nm st (.slice A n c)
      have R2 := hid (RS.out.below B2)
      have HB2 := hid B2
      have hw2 := B2.size
      generalize (w.alloc (.cells #[.string (bs nm), .int .i64 st, .slice A n c] 31)) = W2 at *
      clear B2 hsz
      have HS5 : ∀ W', Below W2.heap.size W2 W' → W'.cell? ⟨w.heap.size, 0, none⟩ = some (.string (bs nm)) ∧ W'.cell? ⟨w.heap.size, 1, none⟩ = some (.int .i64 st) ∧ W'.cell? ⟨w.heap.size, 2, none⟩ = some (.slice A n c) := fun W' h => by
        obtain ⟨a0, a1, a2⟩ := HC.out _ h
        exact ⟨a0, a1, a2⟩
      have HHS5 := hid HS5
      clear HS5 HC
      have E0 : Hid (Below W2.heap.size W2 W2) := hid (Below.refl _ _)
      obtain ⟨n0, n1, n2⟩ := HHS5.out _ E0.out
      refine (GC0 _ (R2.out.below E0.out)).out.mono ?_
      rintro e wx0 ⟨rfl, bx⟩
      have E1 := hid (E0.out.trans (bx.mono E0.out.size))
      clear bx
      clear n0 n1 n2
      obtain ⟨n0, n1, n2⟩ := HHS5.out _ E1.out
      go_wp2_with fail
      refine (GC1 _ (R2.out.below E1.out)).out.mono ?_
      rintro e w' ⟨rfl, rfl⟩
      have E2 := E1
      clear n0 n1 n2
      obtain ⟨n0, n1, n2⟩ := HHS5.out _ E2.out
      go_wp2
      go_ret2
      rw [HR.out]
      exact ResS.none _ _ (HB2.out.trans (E2.out.mono hw2))
    · rw [hg1] at GC1
      have hm : methB m = true := by exact hg0
      have HR := hid (show sharedR m f = (meetL (leadL (roundsL m.st.toNat) m.ch) (leadL f m.ch), true) from by unfold sharedR; rw [if_pos (by simp [hg0, hg1])])
      obtain ⟨N, hN, lo, hi, l1, l40, hs⟩ := meth_parts hm
      clear hm
      obtain ⟨nm, st, ch⟩ := m
      dsimp only at *
      subst hN
      have hrf := rowOfB_row (N := N) (f := f) (by exact hg1)
      have BC0 := fun (w0 : World) (rd : Rd w0 A n (strV ch)) => hid (leadRows_any N nm (roundsL N) (N : Int) ch A n c w0 (rounds_row lo hi) (rounds_len N) rd hn hs)
      have BC1 := fun (w0 : World) (rd : Rd w0 A n (strV ch)) => hid (leadRows_any N nm f (N : Int) ch A n c w0 hrf.1 hrf.2 rd hn hs)
      have BC2 := fun (w0 : World) => hid (rounds_any N w0 hi)
      have BC3 := fun (w0 : World) A1 B1 c1 d1 (ra : Rd w0 A1 (leadL (roundsL N) ch).length (strV (leadL (roundsL N) ch))) (rb : Rd w0 B1 (leadL f ch).length (strV (leadL f ch))) => hid (meeting_any A1 B1 _ _ c1 d1 (leadL (roundsL N) ch) (leadL f ch) w0 ra rb (by rw [lead_len]; omega) (by rw [lead_len]; omega) (lead_short lo hi ch) (row_short hi (fun x hx => ⟨(lead_rows ch hrf.1 x hx).1, ((lead_rows ch hrf.1 x hx).2).trans hrf.2⟩)))
      clear HOK hs hcl hg0 hg1
      go_enter Try.func38, Try.ntmps38
      go_wp2_with fail
      obtain ⟨B2, hsz, HC⟩ := box_mk1 31 w nm (N : Int) (.slice A n c)
      have R2 := hid (RS.out.below B2)
      have HB2 := hid B2
      have hw2 := B2.size
      generalize (w.alloc (.cells #[.string (bs nm), .int .i64 (N : Int), .slice A n c] 31)) = W2 at *
      clear B2 hsz
      have HS5 : ∀ W', Below W2.heap.size W2 W' → W'.cell? ⟨w.heap.size, 0, none⟩ = some (.string (bs nm)) ∧ W'.cell? ⟨w.heap.size, 1, none⟩ = some (.int .i64 (N : Int)) ∧ W'.cell? ⟨w.heap.size, 2, none⟩ = some (.slice A n c) := fun W' h => by
        obtain ⟨a0, a1, a2⟩ := HC.out _ h
        exact ⟨a0, a1, a2⟩
      have HHS5 := hid HS5
      clear HS5 HC
      have E0 : Hid (Below W2.heap.size W2 W2) := hid (Below.refl _ _)
      obtain ⟨n0, n1, n2⟩ := HHS5.out _ E0.out
      refine (GC0 _ (R2.out.below E0.out)).out.mono ?_
      rintro e wx0 ⟨rfl, bx⟩
      have E1 := hid (E0.out.trans (bx.mono E0.out.size))
      clear bx
      clear n0 n1 n2
      obtain ⟨n0, n1, n2⟩ := HHS5.out _ E1.out
      go_wp2_with fail
      refine (GC1 _ (R2.out.below E1.out)).out.mono ?_
      rintro e w' ⟨rfl, rfl⟩
      have E2 := E1
      clear n0 n1 n2
      obtain ⟨n0, n1, n2⟩ := HHS5.out _ E2.out
      go_wp2_with fail
      go_region_held3 (fun w' => w'.cell? ⟨w.heap.size, 0, none⟩ = some (.string (bs nm)) ∧ w'.cell? ⟨w.heap.size, 1, none⟩ = some (.int .i64 (N : Int)) ∧ w'.cell? ⟨w.heap.size, 2, none⟩ = some (.slice A n c))
        (first | exact HHS5.out _ E2.out | exact HHS5.out _ E2.out.drew | exact HHS5.out _ Fa | exact HHS5.out _ Fb | exact HHS5.out _ Fc)
        (first | (go_at_call 72; refine (BC2 _).out.mono ?_; rintro e w' ⟨rfl, rfl⟩) | (go_at_call 71; (with_reducible refine (BC0 _ (R2.out.below E2.out.drew)).out.mono ?_); rintro e wa ⟨va, rfl, oa, ba⟩; obtain ⟨Aa, ca, rfl, _, _, rda, _⟩ := own_shape oa; have Fa := E2.out.drew.trans (ba.mono E2.out.size)) | (go_at_call 71; (with_reducible refine (BC1 _ (R2.out.below Fa)).out.mono ?_); rintro e wb ⟨vb, rfl, ob, bb⟩; obtain ⟨Ab, cb, rfl, _, _, rdb, _⟩ := own_shape ob; have Fb := Fa.trans (bb.mono Fa.size); have rda2 := rda.below bb) | (go_at_call 70; refine (BC3 _ _ _ _ _ rda2 rdb).out.mono ?_; rintro e wc ⟨vc, rfl, oc, bc⟩; have Fc := Fb.trans (bc.mono Fb.size)))
      have E3 := hid Fc
      have OC := hid oc
      have hwc := Fb.size
      have E4 := E3
      have E5 := E3
      have E6 := E3
      clear oa ba rda ob bb rdb rda2 oc bc Fa Fb Fc n0 n1 n2
      obtain ⟨n0, n1, n2⟩ := HHS5.out _ E6.out
      go_wp2
      go_ret2
      rw [HR.out]
      exact ⟨_, rfl, own_mono OC.out (Nat.le_trans hw2 hwc), HB2.out.trans (E6.out.mono hw2)⟩
end Go.Proofs.Ytgljhhjfinngjaa
