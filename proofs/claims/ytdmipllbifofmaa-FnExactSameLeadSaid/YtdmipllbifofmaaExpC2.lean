/- Contracts of SameLead, in the reference and in the program. No conditions beyond those stated. -/
import Derived.Test.YtdmipllbifofmaaExpC
set_option linter.unusedVariables false
set_option linter.unusedSimpArgs false
set_option maxRecDepth 100000
namespace Go.Proofs.Ytdmipllbifofmaa
open Go.RowKit

/-- What SameLead answers. -/
def sameLeadR (m : Meth) (k : List UInt8 × List UInt8) (a b : List UInt8) : Bool × Bool := if (callsB m k && isCallL a && isCallL b) = true then (callHeadL m.st.toNat m.ch k a == callHeadL m.st.toNat m.ch k b, true) else (false, false)
set_option maxHeartbeats 1000000 in
theorem implSameLead_law (m : Meth) (k : List UInt8 × List UInt8) (a : List UInt8) (b : List UInt8) (A : Option Addr) (n c : Nat) (w : World) (ok : LawOk m k) (rd : Rd w A n (strV m.ch)) (hcap : n ≤ c) :
    Calls Try.prog 29 #[.agg #[.string (bs m.nm), .int .i64 m.st, .slice A n c], .agg #[.string (bs k.1), .string (bs k.2)], .string (bs a), .string (bs b)] w fun e w' => e = .returned (.tuple #[.bool (sameLeadR m k a b).1, .bool (sameLeadR m k a b).2]) ∧ Below w.heap.size w w' := by
  have hn : n ≤ 1048576 := by have h1 := rd.1; have h2 := ok.2.2.1; rw [strV_len] at h1; omega
  have hcl : m.ch.length = n := by have h1 := rd.1; rw [strV_len] at h1; exact h1
  have GC0 := fun (w0 : World) (rd : Rd w0 A n (strV m.ch)) => hid (goodCalls_law m k A n c w0 ok rd)
  have GC1 := fun (w0 : World) (rd : Rd w0 A n (strV m.ch)) => hid (isCall_any a w0)
  have GC2 := fun (w0 : World) (rd : Rd w0 A n (strV m.ch)) => hid (isCall_any b w0)
  have RS := hid rd
  have HOK := hid ok
  clear rd ok
  cases hg0 : callsB m k
  · rw [hg0] at GC0
    have HR := hid (show sameLeadR m k a b = (false, false) from by unfold sameLeadR; rw [if_neg (by simp only [hg0, Bool.and_false, Bool.false_and]; simp)])
    obtain ⟨nm, st, ch⟩ := m
    obtain ⟨k1, k2⟩ := k
    dsimp only at *
    clear HOK hg0
    go_enter Try.func29, Try.ntmps29
    go_wp2_with fail
    obtain ⟨B2, hsz, HC⟩ := box_mk w nm k1 k2 st (.slice A n c)
    have R2 := hid (RS.out.below B2)
    have HB2 := hid B2
    have hw2 := B2.size
    generalize ((w.alloc (.cells #[.string (bs nm), .int .i64 st, .slice A n c] 30)).alloc (.cells #[.string (bs k1), .string (bs k2)] 32)) = W2 at *
    clear B2 hsz
    have HS5 : ∀ W', Below W2.heap.size W2 W' → W'.cell? ⟨w.heap.size, 0, none⟩ = some (.string (bs nm)) ∧ W'.cell? ⟨w.heap.size, 1, none⟩ = some (.int .i64 st) ∧ W'.cell? ⟨w.heap.size, 2, none⟩ = some (.slice A n c) ∧ W'.cell? ⟨w.heap.size + 1, 0, none⟩ = some (.string (bs k1)) ∧ W'.cell? ⟨w.heap.size + 1, 1, none⟩ = some (.string (bs k2)) := fun W' h => by
      obtain ⟨⟨a0, a1, a2⟩, a3, a4⟩ := HC.out _ h
      exact ⟨a0, a1, a2, a3, a4⟩
    have HHS5 := hid HS5
    clear HS5 HC
    have E0 : Hid (Below W2.heap.size W2 W2) := hid (Below.refl _ _)
    obtain ⟨n0, n1, n2, p0, p1⟩ := HHS5.out _ E0.out
    refine (GC0 _ (R2.out.below E0.out)).out.mono ?_
    rintro e wx0 ⟨rfl, bx⟩
    have E1 := hid (E0.out.trans (bx.mono E0.out.size))
    clear bx
    clear n0 n1 n2 p0 p1
    obtain ⟨n0, n1, n2, p0, p1⟩ := HHS5.out _ E1.out
    go_wp2
    go_ret2
    rw [HR.out]
    exact ⟨rfl, HB2.out.trans (E1.out.mono hw2)⟩
  · rw [hg0] at GC0
    cases hg1 : isCallL a
    · rw [hg1] at GC1
      have HR := hid (show sameLeadR m k a b = (false, false) from by unfold sameLeadR; rw [if_neg (by simp only [hg0, hg1, Bool.and_false, Bool.false_and]; simp)])
      obtain ⟨nm, st, ch⟩ := m
      obtain ⟨k1, k2⟩ := k
      dsimp only at *
      clear HOK hg0 hg1
      go_enter Try.func29, Try.ntmps29
      go_wp2_with fail
      obtain ⟨B2, hsz, HC⟩ := box_mk w nm k1 k2 st (.slice A n c)
      have R2 := hid (RS.out.below B2)
      have HB2 := hid B2
      have hw2 := B2.size
      generalize ((w.alloc (.cells #[.string (bs nm), .int .i64 st, .slice A n c] 30)).alloc (.cells #[.string (bs k1), .string (bs k2)] 32)) = W2 at *
      clear B2 hsz
      have HS5 : ∀ W', Below W2.heap.size W2 W' → W'.cell? ⟨w.heap.size, 0, none⟩ = some (.string (bs nm)) ∧ W'.cell? ⟨w.heap.size, 1, none⟩ = some (.int .i64 st) ∧ W'.cell? ⟨w.heap.size, 2, none⟩ = some (.slice A n c) ∧ W'.cell? ⟨w.heap.size + 1, 0, none⟩ = some (.string (bs k1)) ∧ W'.cell? ⟨w.heap.size + 1, 1, none⟩ = some (.string (bs k2)) := fun W' h => by
        obtain ⟨⟨a0, a1, a2⟩, a3, a4⟩ := HC.out _ h
        exact ⟨a0, a1, a2, a3, a4⟩
      have HHS5 := hid HS5
      clear HS5 HC
      have E0 : Hid (Below W2.heap.size W2 W2) := hid (Below.refl _ _)
      obtain ⟨n0, n1, n2, p0, p1⟩ := HHS5.out _ E0.out
      refine (GC0 _ (R2.out.below E0.out)).out.mono ?_
      rintro e wx0 ⟨rfl, bx⟩
      have E1 := hid (E0.out.trans (bx.mono E0.out.size))
      clear bx
      clear n0 n1 n2 p0 p1
      obtain ⟨n0, n1, n2, p0, p1⟩ := HHS5.out _ E1.out
      go_wp2_with fail
      refine (GC1 _ (R2.out.below E1.out)).out.mono ?_
      rintro e w' ⟨rfl, rfl⟩
      have E2 := E1
      clear n0 n1 n2 p0 p1
      obtain ⟨n0, n1, n2, p0, p1⟩ := HHS5.out _ E2.out
      go_wp2
      go_ret2
      rw [HR.out]
      exact ⟨rfl, HB2.out.trans (E2.out.mono hw2)⟩
    · rw [hg1] at GC1
      cases hg2 : isCallL b
      · rw [hg2] at GC2
        have HR := hid (show sameLeadR m k a b = (false, false) from by unfold sameLeadR; rw [if_neg (by simp only [hg0, hg1, hg2, Bool.and_false, Bool.false_and]; simp)])
        obtain ⟨nm, st, ch⟩ := m
        obtain ⟨k1, k2⟩ := k
        dsimp only at *
        clear HOK hg0 hg1 hg2
        go_enter Try.func29, Try.ntmps29
        go_wp2_with fail
        obtain ⟨B2, hsz, HC⟩ := box_mk w nm k1 k2 st (.slice A n c)
        have R2 := hid (RS.out.below B2)
        have HB2 := hid B2
        have hw2 := B2.size
        generalize ((w.alloc (.cells #[.string (bs nm), .int .i64 st, .slice A n c] 30)).alloc (.cells #[.string (bs k1), .string (bs k2)] 32)) = W2 at *
        clear B2 hsz
        have HS5 : ∀ W', Below W2.heap.size W2 W' → W'.cell? ⟨w.heap.size, 0, none⟩ = some (.string (bs nm)) ∧ W'.cell? ⟨w.heap.size, 1, none⟩ = some (.int .i64 st) ∧ W'.cell? ⟨w.heap.size, 2, none⟩ = some (.slice A n c) ∧ W'.cell? ⟨w.heap.size + 1, 0, none⟩ = some (.string (bs k1)) ∧ W'.cell? ⟨w.heap.size + 1, 1, none⟩ = some (.string (bs k2)) := fun W' h => by
          obtain ⟨⟨a0, a1, a2⟩, a3, a4⟩ := HC.out _ h
          exact ⟨a0, a1, a2, a3, a4⟩
        have HHS5 := hid HS5
        clear HS5 HC
        have E0 : Hid (Below W2.heap.size W2 W2) := hid (Below.refl _ _)
        obtain ⟨n0, n1, n2, p0, p1⟩ := HHS5.out _ E0.out
        refine (GC0 _ (R2.out.below E0.out)).out.mono ?_
        rintro e wx0 ⟨rfl, bx⟩
        have E1 := hid (E0.out.trans (bx.mono E0.out.size))
        clear bx
        clear n0 n1 n2 p0 p1
        obtain ⟨n0, n1, n2, p0, p1⟩ := HHS5.out _ E1.out
        go_wp2_with fail
        refine (GC1 _ (R2.out.below E1.out)).out.mono ?_
        rintro e w' ⟨rfl, rfl⟩
        have E2 := E1
        clear n0 n1 n2 p0 p1
        obtain ⟨n0, n1, n2, p0, p1⟩ := HHS5.out _ E2.out
        go_wp2_with fail
        refine (GC2 _ (R2.out.below E2.out)).out.mono ?_
        rintro e w' ⟨rfl, rfl⟩
        have E3 := E2
        clear n0 n1 n2 p0 p1
        obtain ⟨n0, n1, n2, p0, p1⟩ := HHS5.out _ E3.out
        go_wp2
        go_ret2
        rw [HR.out]
        exact ⟨rfl, HB2.out.trans (E3.out.mono hw2)⟩
      · rw [hg2] at GC2
        have hcalls : callsB m k = true := by exact hg0
        have HR := hid (show sameLeadR m k a b = (callHeadL m.st.toNat m.ch k a == callHeadL m.st.toNat m.ch k b, true) from by unfold sameLeadR; rw [if_pos (by simp only [hg0, hg1, hg2, Bool.and_self])])
        have hm : methB m = true := callsB_meth (m := m) (k := k) hcalls
        have hb1 := callsB_bob hcalls
        have hb2 := callsB_single hcalls
        obtain ⟨N, hN, lo, hi, l1, l40, hs⟩ := meth_parts hm
        clear hm hcalls
        obtain ⟨nm, st, ch⟩ := m
        obtain ⟨k1, k2⟩ := k
        dsimp only at *
        subst hN
        have BC0 := fun (call : List UInt8) (w0 : World) (rd : Rd w0 A n (strV ch)) => hid (callHead_any N nm call ch (k1, k2) A n c w0 lo hi rd hn l1 hs hb1 hb2)
        clear HOK hb1 hb2 hs hcl hg0 hg1 hg2
        go_enter Try.func29, Try.ntmps29
        go_wp2_with fail
        obtain ⟨B2, hsz, HC⟩ := box_mk w nm k1 k2 (N : Int) (.slice A n c)
        have R2 := hid (RS.out.below B2)
        have HB2 := hid B2
        have hw2 := B2.size
        generalize ((w.alloc (.cells #[.string (bs nm), .int .i64 (N : Int), .slice A n c] 30)).alloc (.cells #[.string (bs k1), .string (bs k2)] 32)) = W2 at *
        clear B2 hsz
        have HS5 : ∀ W', Below W2.heap.size W2 W' → W'.cell? ⟨w.heap.size, 0, none⟩ = some (.string (bs nm)) ∧ W'.cell? ⟨w.heap.size, 1, none⟩ = some (.int .i64 (N : Int)) ∧ W'.cell? ⟨w.heap.size, 2, none⟩ = some (.slice A n c) ∧ W'.cell? ⟨w.heap.size + 1, 0, none⟩ = some (.string (bs k1)) ∧ W'.cell? ⟨w.heap.size + 1, 1, none⟩ = some (.string (bs k2)) := fun W' h => by
          obtain ⟨⟨a0, a1, a2⟩, a3, a4⟩ := HC.out _ h
          exact ⟨a0, a1, a2, a3, a4⟩
        have HHS5 := hid HS5
        clear HS5 HC
        have E0 : Hid (Below W2.heap.size W2 W2) := hid (Below.refl _ _)
        obtain ⟨n0, n1, n2, p0, p1⟩ := HHS5.out _ E0.out
        refine (GC0 _ (R2.out.below E0.out)).out.mono ?_
        rintro e wx0 ⟨rfl, bx⟩
        have E1 := hid (E0.out.trans (bx.mono E0.out.size))
        clear bx
        clear n0 n1 n2 p0 p1
        obtain ⟨n0, n1, n2, p0, p1⟩ := HHS5.out _ E1.out
        go_wp2_with fail
        refine (GC1 _ (R2.out.below E1.out)).out.mono ?_
        rintro e w' ⟨rfl, rfl⟩
        have E2 := E1
        clear n0 n1 n2 p0 p1
        obtain ⟨n0, n1, n2, p0, p1⟩ := HHS5.out _ E2.out
        go_wp2_with fail
        refine (GC2 _ (R2.out.below E2.out)).out.mono ?_
        rintro e w' ⟨rfl, rfl⟩
        have E3 := E2
        clear n0 n1 n2 p0 p1
        obtain ⟨n0, n1, n2, p0, p1⟩ := HHS5.out _ E3.out
        go_wp2_with fail
        go_region_held3 (fun w' => w'.cell? ⟨w.heap.size, 0, none⟩ = some (.string (bs nm)) ∧ w'.cell? ⟨w.heap.size, 1, none⟩ = some (.int .i64 (N : Int)) ∧ w'.cell? ⟨w.heap.size, 2, none⟩ = some (.slice A n c) ∧ w'.cell? ⟨w.heap.size + 1, 0, none⟩ = some (.string (bs k1)) ∧ w'.cell? ⟨w.heap.size + 1, 1, none⟩ = some (.string (bs k2)))
          (first | exact HHS5.out _ E3.out | exact HHS5.out _ E3.out.drew | exact HHS5.out _ Fa | exact HHS5.out _ Fb)
          (first | (go_at_call 67; refine (BC0 _ _ (R2.out.below E3.out.drew)).out.mono ?_; rintro e wa ⟨rfl, ba⟩; have Fa := E3.out.drew.trans (ba.mono E3.out.size)) | (go_at_call 67; refine (BC0 _ _ (R2.out.below Fa)).out.mono ?_; rintro e wb ⟨rfl, bb⟩; have Fb := Fa.trans (bb.mono Fa.size)))
        have E4 := hid Fb
        clear ba bb Fa Fb n0 n1 n2 p0 p1
        obtain ⟨n0, n1, n2, p0, p1⟩ := HHS5.out _ E4.out
        go_wp2
        go_ret2
        rw [HR.out]
        exact ⟨rfl, HB2.out.trans (E4.out.mono hw2)⟩
set_option maxHeartbeats 1000000 in
theorem specSameLead_law (m : Meth) (k : List UInt8 × List UInt8) (a : List UInt8) (b : List UInt8) (A : Option Addr) (n c : Nat) (w : World) (ok : LawOk m k) (rd : Rd w A n (strV m.ch)) (hcap : n ≤ c) :
    Calls Try.prog 28 #[.agg #[.string (bs m.nm), .int .i64 m.st, .slice A n c], .agg #[.string (bs k.1), .string (bs k.2)], .string (bs a), .string (bs b)] w fun e w' => e = .returned (.tuple #[.bool (sameLeadR m k a b).1, .bool (sameLeadR m k a b).2]) ∧ Below w.heap.size w w' := by
  have hn : n ≤ 1048576 := by have h1 := rd.1; have h2 := ok.2.2.1; rw [strV_len] at h1; omega
  have hcl : m.ch.length = n := by have h1 := rd.1; rw [strV_len] at h1; exact h1
  have GC0 := fun (w0 : World) (rd : Rd w0 A n (strV m.ch)) => hid (l8Asked_any m k a A n c w0 ok rd)
  have GC1 := fun (w0 : World) (rd : Rd w0 A n (strV m.ch)) => hid (l8Call_any b w0)
  have RS := hid rd
  have HOK := hid ok
  clear rd ok
  cases hg0 : callsB m k && isCallL a
  · rw [hg0] at GC0
    have HR := hid (show sameLeadR m k a b = (false, false) from by unfold sameLeadR; rw [if_neg (by simp only [hg0, Bool.and_false, Bool.false_and]; simp)])
    obtain ⟨nm, st, ch⟩ := m
    obtain ⟨k1, k2⟩ := k
    dsimp only at *
    clear HOK hg0
    go_enter Try.func28, Try.ntmps28
    go_wp2_with fail
    obtain ⟨B2, hsz, HC⟩ := box_mk w nm k1 k2 st (.slice A n c)
    have R2 := hid (RS.out.below B2)
    have HB2 := hid B2
    have hw2 := B2.size
    generalize ((w.alloc (.cells #[.string (bs nm), .int .i64 st, .slice A n c] 30)).alloc (.cells #[.string (bs k1), .string (bs k2)] 32)) = W2 at *
    clear B2 hsz
    have HS5 : ∀ W', Below W2.heap.size W2 W' → W'.cell? ⟨w.heap.size, 0, none⟩ = some (.string (bs nm)) ∧ W'.cell? ⟨w.heap.size, 1, none⟩ = some (.int .i64 st) ∧ W'.cell? ⟨w.heap.size, 2, none⟩ = some (.slice A n c) ∧ W'.cell? ⟨w.heap.size + 1, 0, none⟩ = some (.string (bs k1)) ∧ W'.cell? ⟨w.heap.size + 1, 1, none⟩ = some (.string (bs k2)) := fun W' h => by
      obtain ⟨⟨a0, a1, a2⟩, a3, a4⟩ := HC.out _ h
      exact ⟨a0, a1, a2, a3, a4⟩
    have HHS5 := hid HS5
    clear HS5 HC
    have E0 : Hid (Below W2.heap.size W2 W2) := hid (Below.refl _ _)
    obtain ⟨n0, n1, n2, p0, p1⟩ := HHS5.out _ E0.out
    refine (GC0 _ (R2.out.below E0.out)).out.mono ?_
    rintro e wx0 ⟨rfl, bx⟩
    have E1 := hid (E0.out.trans (bx.mono E0.out.size))
    clear bx
    clear n0 n1 n2 p0 p1
    obtain ⟨n0, n1, n2, p0, p1⟩ := HHS5.out _ E1.out
    go_wp2
    go_ret2
    rw [HR.out]
    exact ⟨rfl, HB2.out.trans (E1.out.mono hw2)⟩
  · rw [hg0] at GC0
    cases hg1 : isCallL b
    · rw [hg1] at GC1
      have HR := hid (show sameLeadR m k a b = (false, false) from by unfold sameLeadR; rw [if_neg (by simp only [hg0, hg1, Bool.and_false, Bool.false_and]; simp)])
      obtain ⟨nm, st, ch⟩ := m
      obtain ⟨k1, k2⟩ := k
      dsimp only at *
      clear HOK hg0 hg1
      go_enter Try.func28, Try.ntmps28
      go_wp2_with fail
      obtain ⟨B2, hsz, HC⟩ := box_mk w nm k1 k2 st (.slice A n c)
      have R2 := hid (RS.out.below B2)
      have HB2 := hid B2
      have hw2 := B2.size
      generalize ((w.alloc (.cells #[.string (bs nm), .int .i64 st, .slice A n c] 30)).alloc (.cells #[.string (bs k1), .string (bs k2)] 32)) = W2 at *
      clear B2 hsz
      have HS5 : ∀ W', Below W2.heap.size W2 W' → W'.cell? ⟨w.heap.size, 0, none⟩ = some (.string (bs nm)) ∧ W'.cell? ⟨w.heap.size, 1, none⟩ = some (.int .i64 st) ∧ W'.cell? ⟨w.heap.size, 2, none⟩ = some (.slice A n c) ∧ W'.cell? ⟨w.heap.size + 1, 0, none⟩ = some (.string (bs k1)) ∧ W'.cell? ⟨w.heap.size + 1, 1, none⟩ = some (.string (bs k2)) := fun W' h => by
        obtain ⟨⟨a0, a1, a2⟩, a3, a4⟩ := HC.out _ h
        exact ⟨a0, a1, a2, a3, a4⟩
      have HHS5 := hid HS5
      clear HS5 HC
      have E0 : Hid (Below W2.heap.size W2 W2) := hid (Below.refl _ _)
      obtain ⟨n0, n1, n2, p0, p1⟩ := HHS5.out _ E0.out
      refine (GC0 _ (R2.out.below E0.out)).out.mono ?_
      rintro e wx0 ⟨rfl, bx⟩
      have E1 := hid (E0.out.trans (bx.mono E0.out.size))
      clear bx
      clear n0 n1 n2 p0 p1
      obtain ⟨n0, n1, n2, p0, p1⟩ := HHS5.out _ E1.out
      go_wp2_with fail
      refine (GC1 _ (R2.out.below E1.out)).out.mono ?_
      rintro e w' ⟨rfl, rfl⟩
      have E2 := E1
      clear n0 n1 n2 p0 p1
      obtain ⟨n0, n1, n2, p0, p1⟩ := HHS5.out _ E2.out
      go_wp2
      go_ret2
      rw [HR.out]
      exact ⟨rfl, HB2.out.trans (E2.out.mono hw2)⟩
    · rw [hg1] at GC1
      have hcalls : callsB m k = true := by simp only [Bool.and_eq_true] at hg0; exact hg0.1
      have HR := hid (show sameLeadR m k a b = (callHeadL m.st.toNat m.ch k a == callHeadL m.st.toNat m.ch k b, true) from by unfold sameLeadR; rw [if_pos (by simp only [hg0, hg1, Bool.and_self])])
      have hm : methB m = true := callsB_meth (m := m) (k := k) hcalls
      have hb1 := callsB_bob hcalls
      have hb2 := callsB_single hcalls
      obtain ⟨N, hN, lo, hi, l1, l40, hs⟩ := meth_parts hm
      clear hm hcalls
      obtain ⟨nm, st, ch⟩ := m
      obtain ⟨k1, k2⟩ := k
      dsimp only at *
      subst hN
      have BC0 := fun (call : List UInt8) (w0 : World) (rd : Rd w0 A n (strV ch)) => hid (l8Head_any N nm call ch (k1, k2) A n c w0 lo hi rd hn hcap l1 hs hb1 hb2)
      clear HOK hb1 hb2 hs hcl hg0 hg1
      go_enter Try.func28, Try.ntmps28
      go_wp2_with fail
      obtain ⟨B2, hsz, HC⟩ := box_mk w nm k1 k2 (N : Int) (.slice A n c)
      have R2 := hid (RS.out.below B2)
      have HB2 := hid B2
      have hw2 := B2.size
      generalize ((w.alloc (.cells #[.string (bs nm), .int .i64 (N : Int), .slice A n c] 30)).alloc (.cells #[.string (bs k1), .string (bs k2)] 32)) = W2 at *
      clear B2 hsz
      have HS5 : ∀ W', Below W2.heap.size W2 W' → W'.cell? ⟨w.heap.size, 0, none⟩ = some (.string (bs nm)) ∧ W'.cell? ⟨w.heap.size, 1, none⟩ = some (.int .i64 (N : Int)) ∧ W'.cell? ⟨w.heap.size, 2, none⟩ = some (.slice A n c) ∧ W'.cell? ⟨w.heap.size + 1, 0, none⟩ = some (.string (bs k1)) ∧ W'.cell? ⟨w.heap.size + 1, 1, none⟩ = some (.string (bs k2)) := fun W' h => by
        obtain ⟨⟨a0, a1, a2⟩, a3, a4⟩ := HC.out _ h
        exact ⟨a0, a1, a2, a3, a4⟩
      have HHS5 := hid HS5
      clear HS5 HC
      have E0 : Hid (Below W2.heap.size W2 W2) := hid (Below.refl _ _)
      obtain ⟨n0, n1, n2, p0, p1⟩ := HHS5.out _ E0.out
      refine (GC0 _ (R2.out.below E0.out)).out.mono ?_
      rintro e wx0 ⟨rfl, bx⟩
      have E1 := hid (E0.out.trans (bx.mono E0.out.size))
      clear bx
      clear n0 n1 n2 p0 p1
      obtain ⟨n0, n1, n2, p0, p1⟩ := HHS5.out _ E1.out
      go_wp2_with fail
      refine (GC1 _ (R2.out.below E1.out)).out.mono ?_
      rintro e w' ⟨rfl, rfl⟩
      have E2 := E1
      clear n0 n1 n2 p0 p1
      obtain ⟨n0, n1, n2, p0, p1⟩ := HHS5.out _ E2.out
      go_wp2_with fail
      go_region_held3 (fun w' => w'.cell? ⟨w.heap.size, 0, none⟩ = some (.string (bs nm)) ∧ w'.cell? ⟨w.heap.size, 1, none⟩ = some (.int .i64 (N : Int)) ∧ w'.cell? ⟨w.heap.size, 2, none⟩ = some (.slice A n c) ∧ w'.cell? ⟨w.heap.size + 1, 0, none⟩ = some (.string (bs k1)) ∧ w'.cell? ⟨w.heap.size + 1, 1, none⟩ = some (.string (bs k2)))
        (first | exact HHS5.out _ E2.out | exact HHS5.out _ E2.out.drew | exact HHS5.out _ Fa | exact HHS5.out _ Fb)
        (first | (go_at_call 66; refine (BC0 _ _ (R2.out.below E2.out.drew)).out.mono ?_; rintro e wa ⟨rfl, ba⟩; have Fa := E2.out.drew.trans (ba.mono E2.out.size)) | (go_at_call 66; refine (BC0 _ _ (R2.out.below Fa)).out.mono ?_; rintro e wb ⟨rfl, bb⟩; have Fb := Fa.trans (bb.mono Fa.size)))
      have E3 := hid Fb
      clear ba bb Fa Fb n0 n1 n2 p0 p1
      obtain ⟨n0, n1, n2, p0, p1⟩ := HHS5.out _ E3.out
      go_wp2
      go_ret2
      rw [HR.out]
      exact ⟨rfl, HB2.out.trans (E3.out.mono hw2)⟩
end Go.Proofs.Ytdmipllbifofmaa
