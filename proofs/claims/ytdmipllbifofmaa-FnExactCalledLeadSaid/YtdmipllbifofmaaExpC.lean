/- Contracts of the exported functions on called leads, in the reference and in the program. No conditions beyond those stated. -/
import Derived.Test.YtdmipllbifofmaaHead
import Derived.Test.YtdmipllbifofmaaOrd
set_option linter.unusedVariables false
set_option linter.unusedSimpArgs false
set_option maxRecDepth 100000
namespace Go.Proofs.Ytdmipllbifofmaa
open Go.RowKit

theorem l8Asked_any (m : Meth) (k : List UInt8 × List UInt8) (call : List UInt8) (A : Option Addr) (n c : Nat) (w : World) (ok : LawOk m k) (rd : Rd w A n (strV m.ch)) :
    Calls Try.prog 61 #[.agg #[.string (bs m.nm), .int .i64 m.st, .slice A n c], .agg #[.string (bs k.1), .string (bs k.2)], .string (bs call)] w fun e w' => e = .returned (.bool (callsB m k && isCallL call)) ∧ Below w.heap.size w w' := by
  have G := fun (w0 : World) (rd : Rd w0 A n (strV m.ch)) => hid (l8Good_law m k A n c w0 ok rd)
  have G2 := fun w0 => hid (l8Call_any call w0)
  have RS := hid rd
  generalize callsB m k = P0 at *
  generalize isCallL call = P1 at *
  obtain ⟨nm, st, ch⟩ := m
  obtain ⟨k1, k2⟩ := k
  dsimp only at *
  clear rd ok
  go_enter Try.func61, Try.ntmps61
  go_wp2_with fail
  obtain ⟨B2, hsz, HC⟩ := box_mk w nm k1 k2 st (.slice A n c)
  refine (G _ (RS.out.below B2)).out.mono ?_
  rintro e w1 ⟨rfl, b1⟩
  have HB := hid (B2.trans (b1.mono B2.size))
  clear b1 B2 hsz HC
  cases P0
  · go_wp2
    go_ret
    exact ⟨rfl, HB.out⟩
  · go_wp2_with fail
    refine (G2 _).out.mono ?_
    rintro e w2 ⟨rfl, rfl⟩
    go_wp2
    go_ret
    exact ⟨rfl, HB.out⟩
/-- A slice of n strings comes back; it is the call's own. -/
def OneSn (w : World) (n : Nat) (l : List (List UInt8)) (e : Ending) (w' : World) : Prop := ∃ v, e = .returned v ∧ w'.ownsRow w.heap.size 9 1 v n (strV l) ∧ Below w.heap.size w w'
theorem oneS_len {w w' : World} {n : Nat} {l : List (List UInt8)} {e : Ending} (h : OneS w l e w') (hl : l.length = n) : OneSn w n l e w' := by
  subst hl; exact h
/-- What CallHead answers. -/
def callHeadR (m : Meth) (k : List UInt8 × List UInt8) (call : List UInt8) : List UInt8 × Bool := if (callsB m k && isCallL call) = true then (callHeadL m.st.toNat m.ch k call, true) else ([], false)
set_option maxHeartbeats 1000000 in
theorem implCallHead_law (m : Meth) (k : List UInt8 × List UInt8) (call : List UInt8) (A : Option Addr) (n c : Nat) (w : World) (ok : LawOk m k) (rd : Rd w A n (strV m.ch)) (hcap : n ≤ c) :
    Calls Try.prog 27 #[.agg #[.string (bs m.nm), .int .i64 m.st, .slice A n c], .agg #[.string (bs k.1), .string (bs k.2)], .string (bs call)] w fun e w' => e = .returned (.tuple #[.string (bs (callHeadR m k call).1), .bool (callHeadR m k call).2]) ∧ Below w.heap.size w w' := by
  have hn : n ≤ 1048576 := by have h1 := rd.1; have h2 := ok.2.2.1; rw [strV_len] at h1; omega
  have hcl : m.ch.length = n := by have h1 := rd.1; rw [strV_len] at h1; exact h1
  have GC0 := fun (w0 : World) (rd : Rd w0 A n (strV m.ch)) => hid (goodCalls_law m k A n c w0 ok rd)
  have GC1 := fun (w0 : World) (rd : Rd w0 A n (strV m.ch)) => hid (isCall_any call w0)
  have RS := hid rd
  have HOK := hid ok
  clear rd ok
  cases hg0 : callsB m k
  · rw [hg0] at GC0
    have HR := hid (show callHeadR m k call = ([], false) from by unfold callHeadR; rw [if_neg (by simp [hg0])])
    obtain ⟨nm, st, ch⟩ := m
    obtain ⟨k1, k2⟩ := k
    dsimp only at *
    clear HOK hg0
    go_enter Try.func27, Try.ntmps27
    go_wp2_with fail
    obtain ⟨B2, hsz, HC⟩ := box_mk w nm k1 k2 st (.slice A n c)
    have R2 := hid (RS.out.below B2)
    have HB2 := hid B2
    have hw2 := B2.size
    generalize ((w.alloc (.cells #[.string (bs nm), .int .i64 st, .slice A n c] 30)).alloc (.cells #[.string (bs k1), .string (bs k2)] 32)) = W2 at *
    clear B2 hsz
    have HS5 : ∀ W', Below W2.heap.size W2 W' → W'.cell? ⟨w.heap.size, 0, none⟩ = some (.string (bs nm)) ∧ W'.cell? ⟨w.heap.size, 1, none⟩ = some (.int .i64 st) ∧ W'.cell? ⟨w.heap.size, 2, none⟩ = some (.slice A n c) ∧ W'.cell? ⟨w.heap.size + 1, 0, none⟩ = some (.string (bs k1)) ∧ W'.cell? ⟨w.heap.size + 1, 1, none⟩ = some (.string (bs k2)) := fun W' h => by
      obtain ⟨⟨a0, a1, a2⟩, a3, a4⟩ := HC.out _ h
      exact ⟨a0, a1, a2, a3, a4⟩
    have HHS5 := hid HS5
    clear HS5 HC
    have E0 : Hid (Below W2.heap.size W2 W2) := hid (Below.refl _ _)
    obtain ⟨n0, n1, n2, p0, p1⟩ := HHS5.out _ E0.out
    refine (GC0 _ (R2.out.below E0.out)).out.mono ?_
    rintro e wx0 ⟨rfl, bx⟩
    have E1 := hid (E0.out.trans (bx.mono E0.out.size))
    clear bx
    clear n0 n1 n2 p0 p1
    obtain ⟨n0, n1, n2, p0, p1⟩ := HHS5.out _ E1.out
    go_wp2
    go_ret2
    rw [HR.out]
    exact ⟨rfl, HB2.out.trans (E1.out.mono hw2)⟩
  · rw [hg0] at GC0
    cases hg1 : isCallL call
    · rw [hg1] at GC1
      have HR := hid (show callHeadR m k call = ([], false) from by unfold callHeadR; rw [if_neg (by simp [hg1])])
      obtain ⟨nm, st, ch⟩ := m
      obtain ⟨k1, k2⟩ := k
      dsimp only at *
      clear HOK hg0 hg1
      go_enter Try.func27, Try.ntmps27
      go_wp2_with fail
      obtain ⟨B2, hsz, HC⟩ := box_mk w nm k1 k2 st (.slice A n c)
      have R2 := hid (RS.out.below B2)
      have HB2 := hid B2
      have hw2 := B2.size
      generalize ((w.alloc (.cells #[.string (bs nm), .int .i64 st, .slice A n c] 30)).alloc (.cells #[.string (bs k1), .string (bs k2)] 32)) = W2 at *
      clear B2 hsz
      have HS5 : ∀ W', Below W2.heap.size W2 W' → W'.cell? ⟨w.heap.size, 0, none⟩ = some (.string (bs nm)) ∧ W'.cell? ⟨w.heap.size, 1, none⟩ = some (.int .i64 st) ∧ W'.cell? ⟨w.heap.size, 2, none⟩ = some (.slice A n c) ∧ W'.cell? ⟨w.heap.size + 1, 0, none⟩ = some (.string (bs k1)) ∧ W'.cell? ⟨w.heap.size + 1, 1, none⟩ = some (.string (bs k2)) := fun W' h => by
        obtain ⟨⟨a0, a1, a2⟩, a3, a4⟩ := HC.out _ h
        exact ⟨a0, a1, a2, a3, a4⟩
      have HHS5 := hid HS5
      clear HS5 HC
      have E0 : Hid (Below W2.heap.size W2 W2) := hid (Below.refl _ _)
      obtain ⟨n0, n1, n2, p0, p1⟩ := HHS5.out _ E0.out
      refine (GC0 _ (R2.out.below E0.out)).out.mono ?_
      rintro e wx0 ⟨rfl, bx⟩
      have E1 := hid (E0.out.trans (bx.mono E0.out.size))
      clear bx
      clear n0 n1 n2 p0 p1
      obtain ⟨n0, n1, n2, p0, p1⟩ := HHS5.out _ E1.out
      go_wp2_with fail
      refine (GC1 _ (R2.out.below E1.out)).out.mono ?_
      rintro e w' ⟨rfl, rfl⟩
      have E2 := E1
      clear n0 n1 n2 p0 p1
      obtain ⟨n0, n1, n2, p0, p1⟩ := HHS5.out _ E2.out
      go_wp2
      go_ret2
      rw [HR.out]
      exact ⟨rfl, HB2.out.trans (E2.out.mono hw2)⟩
    · rw [hg1] at GC1
      have hcalls : callsB m k = true := by exact hg0
      have HR := hid (show callHeadR m k call = (callHeadL m.st.toNat m.ch k call, true) from by unfold callHeadR; rw [if_pos (by simp [hg0, hg1])])
      have hm : methB m = true := callsB_meth (m := m) (k := k) hcalls
      have hb1 := callsB_bob hcalls
      have hb2 := callsB_single hcalls
      obtain ⟨N, hN, lo, hi, l1, l40, hs⟩ := meth_parts hm
      clear hm hcalls
      obtain ⟨nm, st, ch⟩ := m
      obtain ⟨k1, k2⟩ := k
      dsimp only at *
      subst hN
      have BC0 := fun (w0 : World) (rd : Rd w0 A n (strV ch)) => hid (callHead_any N nm call ch (k1, k2) A n c w0 lo hi rd hn l1 hs hb1 hb2)
      clear HOK hb1 hb2 hs hcl hg0 hg1
      go_enter Try.func27, Try.ntmps27
      go_wp2_with fail
      obtain ⟨B2, hsz, HC⟩ := box_mk w nm k1 k2 (N : Int) (.slice A n c)
      have R2 := hid (RS.out.below B2)
      have HB2 := hid B2
      have hw2 := B2.size
      generalize ((w.alloc (.cells #[.string (bs nm), .int .i64 (N : Int), .slice A n c] 30)).alloc (.cells #[.string (bs k1), .string (bs k2)] 32)) = W2 at *
      clear B2 hsz
      have HS5 : ∀ W', Below W2.heap.size W2 W' → W'.cell? ⟨w.heap.size, 0, none⟩ = some (.string (bs nm)) ∧ W'.cell? ⟨w.heap.size, 1, none⟩ = some (.int .i64 (N : Int)) ∧ W'.cell? ⟨w.heap.size, 2, none⟩ = some (.slice A n c) ∧ W'.cell? ⟨w.heap.size + 1, 0, none⟩ = some (.string (bs k1)) ∧ W'.cell? ⟨w.heap.size + 1, 1, none⟩ = some (.string (bs k2)) := fun W' h => by
        obtain ⟨⟨a0, a1, a2⟩, a3, a4⟩ := HC.out _ h
        exact ⟨a0, a1, a2, a3, a4⟩
      have HHS5 := hid HS5
      clear HS5 HC
      have E0 : Hid (Below W2.heap.size W2 W2) := hid (Below.refl _ _)
      obtain ⟨n0, n1, n2, p0, p1⟩ := HHS5.out _ E0.out
      refine (GC0 _ (R2.out.below E0.out)).out.mono ?_
      rintro e wx0 ⟨rfl, bx⟩
      have E1 := hid (E0.out.trans (bx.mono E0.out.size))
      clear bx
      clear n0 n1 n2 p0 p1
      obtain ⟨n0, n1, n2, p0, p1⟩ := HHS5.out _ E1.out
      go_wp2_with fail
      refine (GC1 _ (R2.out.below E1.out)).out.mono ?_
      rintro e w' ⟨rfl, rfl⟩
      have E2 := E1
      clear n0 n1 n2 p0 p1
      obtain ⟨n0, n1, n2, p0, p1⟩ := HHS5.out _ E2.out
      go_wp2_with fail
      refine (BC0 _ (R2.out.below E2.out)).out.mono ?_
      rintro e wx2 ⟨rfl, bx⟩
      have E3 := hid (E2.out.trans (bx.mono E2.out.size))
      clear bx
      clear n0 n1 n2 p0 p1
      obtain ⟨n0, n1, n2, p0, p1⟩ := HHS5.out _ E3.out
      go_wp2
      go_ret2
      rw [HR.out]
      exact ⟨rfl, HB2.out.trans (E3.out.mono hw2)⟩
set_option maxHeartbeats 1000000 in
theorem specCallHead_law (m : Meth) (k : List UInt8 × List UInt8) (call : List UInt8) (A : Option Addr) (n c : Nat) (w : World) (ok : LawOk m k) (rd : Rd w A n (strV m.ch)) (hcap : n ≤ c) :
    Calls Try.prog 26 #[.agg #[.string (bs m.nm), .int .i64 m.st, .slice A n c], .agg #[.string (bs k.1), .string (bs k.2)], .string (bs call)] w fun e w' => e = .returned (.tuple #[.string (bs (callHeadR m k call).1), .bool (callHeadR m k call).2]) ∧ Below w.heap.size w w' := by
  have hn : n ≤ 1048576 := by have h1 := rd.1; have h2 := ok.2.2.1; rw [strV_len] at h1; omega
  have hcl : m.ch.length = n := by have h1 := rd.1; rw [strV_len] at h1; exact h1
  have GC0 := fun (w0 : World) (rd : Rd w0 A n (strV m.ch)) => hid (l8Asked_any m k call A n c w0 ok rd)
  have RS := hid rd
  have HOK := hid ok
  clear rd ok
  cases hg0 : callsB m k && isCallL call
  · rw [hg0] at GC0
    have HR := hid (show callHeadR m k call = ([], false) from by unfold callHeadR; rw [if_neg (by rw [hg0]; simp)])
    obtain ⟨nm, st, ch⟩ := m
    obtain ⟨k1, k2⟩ := k
    dsimp only at *
    clear HOK hg0
    go_enter Try.func26, Try.ntmps26
    go_wp2_with fail
    obtain ⟨B2, hsz, HC⟩ := box_mk w nm k1 k2 st (.slice A n c)
    have R2 := hid (RS.out.below B2)
    have HB2 := hid B2
    have hw2 := B2.size
    generalize ((w.alloc (.cells #[.string (bs nm), .int .i64 st, .slice A n c] 30)).alloc (.cells #[.string (bs k1), .string (bs k2)] 32)) = W2 at *
    clear B2 hsz
    have HS5 : ∀ W', Below W2.heap.size W2 W' → W'.cell? ⟨w.heap.size, 0, none⟩ = some (.string (bs nm)) ∧ W'.cell? ⟨w.heap.size, 1, none⟩ = some (.int .i64 st) ∧ W'.cell? ⟨w.heap.size, 2, none⟩ = some (.slice A n c) ∧ W'.cell? ⟨w.heap.size + 1, 0, none⟩ = some (.string (bs k1)) ∧ W'.cell? ⟨w.heap.size + 1, 1, none⟩ = some (.string (bs k2)) := fun W' h => by
      obtain ⟨⟨a0, a1, a2⟩, a3, a4⟩ := HC.out _ h
      exact ⟨a0, a1, a2, a3, a4⟩
    have HHS5 := hid HS5
    clear HS5 HC
    have E0 : Hid (Below W2.heap.size W2 W2) := hid (Below.refl _ _)
    obtain ⟨n0, n1, n2, p0, p1⟩ := HHS5.out _ E0.out
    refine (GC0 _ (R2.out.below E0.out)).out.mono ?_
    rintro e wx0 ⟨rfl, bx⟩
    have E1 := hid (E0.out.trans (bx.mono E0.out.size))
    clear bx
    clear n0 n1 n2 p0 p1
    obtain ⟨n0, n1, n2, p0, p1⟩ := HHS5.out _ E1.out
    go_wp2
    go_ret2
    rw [HR.out]
    exact ⟨rfl, HB2.out.trans (E1.out.mono hw2)⟩
  · rw [hg0] at GC0
    have hcalls : callsB m k = true := by simp only [Bool.and_eq_true] at hg0; exact hg0.1
    have HR := hid (show callHeadR m k call = (callHeadL m.st.toNat m.ch k call, true) from by unfold callHeadR; rw [if_pos (by simp [hg0])])
    have hm : methB m = true := callsB_meth (m := m) (k := k) hcalls
    have hb1 := callsB_bob hcalls
    have hb2 := callsB_single hcalls
    obtain ⟨N, hN, lo, hi, l1, l40, hs⟩ := meth_parts hm
    clear hm hcalls
    obtain ⟨nm, st, ch⟩ := m
    obtain ⟨k1, k2⟩ := k
    dsimp only at *
    subst hN
    have BC0 := fun (w0 : World) (rd : Rd w0 A n (strV ch)) => hid (l8Head_any N nm call ch (k1, k2) A n c w0 lo hi rd hn hcap l1 hs hb1 hb2)
    clear HOK hb1 hb2 hs hcl hg0
    go_enter Try.func26, Try.ntmps26
    go_wp2_with fail
    obtain ⟨B2, hsz, HC⟩ := box_mk w nm k1 k2 (N : Int) (.slice A n c)
    have R2 := hid (RS.out.below B2)
    have HB2 := hid B2
    have hw2 := B2.size
    generalize ((w.alloc (.cells #[.string (bs nm), .int .i64 (N : Int), .slice A n c] 30)).alloc (.cells #[.string (bs k1), .string (bs k2)] 32)) = W2 at *
    clear B2 hsz
    have HS5 : ∀ W', Below W2.heap.size W2 W' → W'.cell? ⟨w.heap.size, 0, none⟩ = some (.string (bs nm)) ∧ W'.cell? ⟨w.heap.size, 1, none⟩ = some (.int .i64 (N : Int)) ∧ W'.cell? ⟨w.heap.size, 2, none⟩ = some (.slice A n c) ∧ W'.cell? ⟨w.heap.size + 1, 0, none⟩ = some (.string (bs k1)) ∧ W'.cell? ⟨w.heap.size + 1, 1, none⟩ = some (.string (bs k2)) := fun W' h => by
      obtain ⟨⟨a0, a1, a2⟩, a3, a4⟩ := HC.out _ h
      exact ⟨a0, a1, a2, a3, a4⟩
    have HHS5 := hid HS5
    clear HS5 HC
    have E0 : Hid (Below W2.heap.size W2 W2) := hid (Below.refl _ _)
    obtain ⟨n0, n1, n2, p0, p1⟩ := HHS5.out _ E0.out
    refine (GC0 _ (R2.out.below E0.out)).out.mono ?_
    rintro e wx0 ⟨rfl, bx⟩
    have E1 := hid (E0.out.trans (bx.mono E0.out.size))
    clear bx
    clear n0 n1 n2 p0 p1
    obtain ⟨n0, n1, n2, p0, p1⟩ := HHS5.out _ E1.out
    go_wp2_with fail
    refine (BC0 _ (R2.out.below E1.out)).out.mono ?_
    rintro e wx1 ⟨rfl, bx⟩
    have E2 := hid (E1.out.trans (bx.mono E1.out.size))
    clear bx
    clear n0 n1 n2 p0 p1
    obtain ⟨n0, n1, n2, p0, p1⟩ := HHS5.out _ E2.out
    go_wp2
    go_ret2
    rw [HR.out]
    exact ⟨rfl, HB2.out.trans (E2.out.mono hw2)⟩
/-- What CallRow answers. -/
def callRowR (m : Meth) (k : List UInt8 × List UInt8) (call : List UInt8) : List UInt8 × Bool := if (callsB m k && isCallL call) = true then (callRowL m.st.toNat m.ch k call, true) else ([], false)
set_option maxHeartbeats 1000000 in
theorem implCallRow_law (m : Meth) (k : List UInt8 × List UInt8) (call : List UInt8) (A : Option Addr) (n c : Nat) (w : World) (ok : LawOk m k) (rd : Rd w A n (strV m.ch)) (hcap : n ≤ c) :
    Calls Try.prog 31 #[.agg #[.string (bs m.nm), .int .i64 m.st, .slice A n c], .agg #[.string (bs k.1), .string (bs k.2)], .string (bs call)] w fun e w' => e = .returned (.tuple #[.string (bs (callRowR m k call).1), .bool (callRowR m k call).2]) ∧ Below w.heap.size w w' := by
  have hn : n ≤ 1048576 := by have h1 := rd.1; have h2 := ok.2.2.1; rw [strV_len] at h1; omega
  have hcl : m.ch.length = n := by have h1 := rd.1; rw [strV_len] at h1; exact h1
  have GC0 := fun (w0 : World) (rd : Rd w0 A n (strV m.ch)) => hid (goodCalls_law m k A n c w0 ok rd)
  have GC1 := fun (w0 : World) (rd : Rd w0 A n (strV m.ch)) => hid (isCall_any call w0)
  have RS := hid rd
  have HOK := hid ok
  clear rd ok
  cases hg0 : callsB m k
  · rw [hg0] at GC0
    have HR := hid (show callRowR m k call = ([], false) from by unfold callRowR; rw [if_neg (by simp [hg0])])
    obtain ⟨nm, st, ch⟩ := m
    obtain ⟨k1, k2⟩ := k
    dsimp only at *
    clear HOK hg0
    go_enter Try.func31, Try.ntmps31
    go_wp2_with fail
    obtain ⟨B2, hsz, HC⟩ := box_mk w nm k1 k2 st (.slice A n c)
    have R2 := hid (RS.out.below B2)
    have HB2 := hid B2
    have hw2 := B2.size
    generalize ((w.alloc (.cells #[.string (bs nm), .int .i64 st, .slice A n c] 30)).alloc (.cells #[.string (bs k1), .string (bs k2)] 32)) = W2 at *
    clear B2 hsz
    have HS5 : ∀ W', Below W2.heap.size W2 W' → W'.cell? ⟨w.heap.size, 0, none⟩ = some (.string (bs nm)) ∧ W'.cell? ⟨w.heap.size, 1, none⟩ = some (.int .i64 st) ∧ W'.cell? ⟨w.heap.size, 2, none⟩ = some (.slice A n c) ∧ W'.cell? ⟨w.heap.size + 1, 0, none⟩ = some (.string (bs k1)) ∧ W'.cell? ⟨w.heap.size + 1, 1, none⟩ = some (.string (bs k2)) := fun W' h => by
      obtain ⟨⟨a0, a1, a2⟩, a3, a4⟩ := HC.out _ h
      exact ⟨a0, a1, a2, a3, a4⟩
    have HHS5 := hid HS5
    clear HS5 HC
    have E0 : Hid (Below W2.heap.size W2 W2) := hid (Below.refl _ _)
    obtain ⟨n0, n1, n2, p0, p1⟩ := HHS5.out _ E0.out
    refine (GC0 _ (R2.out.below E0.out)).out.mono ?_
    rintro e wx0 ⟨rfl, bx⟩
    have E1 := hid (E0.out.trans (bx.mono E0.out.size))
    clear bx
    clear n0 n1 n2 p0 p1
    obtain ⟨n0, n1, n2, p0, p1⟩ := HHS5.out _ E1.out
    go_wp2
    go_ret2
    rw [HR.out]
    exact ⟨rfl, HB2.out.trans (E1.out.mono hw2)⟩
  · rw [hg0] at GC0
    cases hg1 : isCallL call
    · rw [hg1] at GC1
      have HR := hid (show callRowR m k call = ([], false) from by unfold callRowR; rw [if_neg (by simp [hg1])])
      obtain ⟨nm, st, ch⟩ := m
      obtain ⟨k1, k2⟩ := k
      dsimp only at *
      clear HOK hg0 hg1
      go_enter Try.func31, Try.ntmps31
      go_wp2_with fail
      obtain ⟨B2, hsz, HC⟩ := box_mk w nm k1 k2 st (.slice A n c)
      have R2 := hid (RS.out.below B2)
      have HB2 := hid B2
      have hw2 := B2.size
      generalize ((w.alloc (.cells #[.string (bs nm), .int .i64 st, .slice A n c] 30)).alloc (.cells #[.string (bs k1), .string (bs k2)] 32)) = W2 at *
      clear B2 hsz
      have HS5 : ∀ W', Below W2.heap.size W2 W' → W'.cell? ⟨w.heap.size, 0, none⟩ = some (.string (bs nm)) ∧ W'.cell? ⟨w.heap.size, 1, none⟩ = some (.int .i64 st) ∧ W'.cell? ⟨w.heap.size, 2, none⟩ = some (.slice A n c) ∧ W'.cell? ⟨w.heap.size + 1, 0, none⟩ = some (.string (bs k1)) ∧ W'.cell? ⟨w.heap.size + 1, 1, none⟩ = some (.string (bs k2)) := fun W' h => by
        obtain ⟨⟨a0, a1, a2⟩, a3, a4⟩ := HC.out _ h
        exact ⟨a0, a1, a2, a3, a4⟩
      have HHS5 := hid HS5
      clear HS5 HC
      have E0 : Hid (Below W2.heap.size W2 W2) := hid (Below.refl _ _)
      obtain ⟨n0, n1, n2, p0, p1⟩ := HHS5.out _ E0.out
      refine (GC0 _ (R2.out.below E0.out)).out.mono ?_
      rintro e wx0 ⟨rfl, bx⟩
      have E1 := hid (E0.out.trans (bx.mono E0.out.size))
      clear bx
      clear n0 n1 n2 p0 p1
      obtain ⟨n0, n1, n2, p0, p1⟩ := HHS5.out _ E1.out
      go_wp2_with fail
      refine (GC1 _ (R2.out.below E1.out)).out.mono ?_
      rintro e w' ⟨rfl, rfl⟩
      have E2 := E1
      clear n0 n1 n2 p0 p1
      obtain ⟨n0, n1, n2, p0, p1⟩ := HHS5.out _ E2.out
      go_wp2
      go_ret2
      rw [HR.out]
      exact ⟨rfl, HB2.out.trans (E2.out.mono hw2)⟩
    · rw [hg1] at GC1
      have hcalls : callsB m k = true := by exact hg0
      have HR := hid (show callRowR m k call = (callRowL m.st.toNat m.ch k call, true) from by unfold callRowR; rw [if_pos (by simp [hg0, hg1])])
      have hm : methB m = true := callsB_meth (m := m) (k := k) hcalls
      have hb1 := callsB_bob hcalls
      have hb2 := callsB_single hcalls
      obtain ⟨N, hN, lo, hi, l1, l40, hs⟩ := meth_parts hm
      clear hm hcalls
      obtain ⟨nm, st, ch⟩ := m
      obtain ⟨k1, k2⟩ := k
      dsimp only at *
      subst hN
      have BC0 := fun (w0 : World) (rd : Rd w0 A n (strV ch)) => hid (callRow_any N nm call ch (k1, k2) A n c w0 lo hi rd hn hcap l1 hs hb1 hb2)
      clear HOK hb1 hb2 hs hcl hg0 hg1
      go_enter Try.func31, Try.ntmps31
      go_wp2_with fail
      obtain ⟨B2, hsz, HC⟩ := box_mk w nm k1 k2 (N : Int) (.slice A n c)
      have R2 := hid (RS.out.below B2)
      have HB2 := hid B2
      have hw2 := B2.size
      generalize ((w.alloc (.cells #[.string (bs nm), .int .i64 (N : Int), .slice A n c] 30)).alloc (.cells #[.string (bs k1), .string (bs k2)] 32)) = W2 at *
      clear B2 hsz
      have HS5 : ∀ W', Below W2.heap.size W2 W' → W'.cell? ⟨w.heap.size, 0, none⟩ = some (.string (bs nm)) ∧ W'.cell? ⟨w.heap.size, 1, none⟩ = some (.int .i64 (N : Int)) ∧ W'.cell? ⟨w.heap.size, 2, none⟩ = some (.slice A n c) ∧ W'.cell? ⟨w.heap.size + 1, 0, none⟩ = some (.string (bs k1)) ∧ W'.cell? ⟨w.heap.size + 1, 1, none⟩ = some (.string (bs k2)) := fun W' h => by
        obtain ⟨⟨a0, a1, a2⟩, a3, a4⟩ := HC.out _ h
        exact ⟨a0, a1, a2, a3, a4⟩
      have HHS5 := hid HS5
      clear HS5 HC
      have E0 : Hid (Below W2.heap.size W2 W2) := hid (Below.refl _ _)
      obtain ⟨n0, n1, n2, p0, p1⟩ := HHS5.out _ E0.out
      refine (GC0 _ (R2.out.below E0.out)).out.mono ?_
      rintro e wx0 ⟨rfl, bx⟩
      have E1 := hid (E0.out.trans (bx.mono E0.out.size))
      clear bx
      clear n0 n1 n2 p0 p1
      obtain ⟨n0, n1, n2, p0, p1⟩ := HHS5.out _ E1.out
      go_wp2_with fail
      refine (GC1 _ (R2.out.below E1.out)).out.mono ?_
      rintro e w' ⟨rfl, rfl⟩
      have E2 := E1
      clear n0 n1 n2 p0 p1
      obtain ⟨n0, n1, n2, p0, p1⟩ := HHS5.out _ E2.out
      go_wp2_with fail
      refine (BC0 _ (R2.out.below E2.out)).out.mono ?_
      rintro e wx2 ⟨rfl, bx⟩
      have E3 := hid (E2.out.trans (bx.mono E2.out.size))
      clear bx
      clear n0 n1 n2 p0 p1
      obtain ⟨n0, n1, n2, p0, p1⟩ := HHS5.out _ E3.out
      go_wp2
      go_ret2
      rw [HR.out]
      exact ⟨rfl, HB2.out.trans (E3.out.mono hw2)⟩
set_option maxHeartbeats 1000000 in
theorem specCallRow_law (m : Meth) (k : List UInt8 × List UInt8) (call : List UInt8) (A : Option Addr) (n c : Nat) (w : World) (ok : LawOk m k) (rd : Rd w A n (strV m.ch)) (hcap : n ≤ c) :
    Calls Try.prog 30 #[.agg #[.string (bs m.nm), .int .i64 m.st, .slice A n c], .agg #[.string (bs k.1), .string (bs k.2)], .string (bs call)] w fun e w' => e = .returned (.tuple #[.string (bs (callRowR m k call).1), .bool (callRowR m k call).2]) ∧ Below w.heap.size w w' := by
  have hn : n ≤ 1048576 := by have h1 := rd.1; have h2 := ok.2.2.1; rw [strV_len] at h1; omega
  have hcl : m.ch.length = n := by have h1 := rd.1; rw [strV_len] at h1; exact h1
  have GC0 := fun (w0 : World) (rd : Rd w0 A n (strV m.ch)) => hid (l8Asked_any m k call A n c w0 ok rd)
  have RS := hid rd
  have HOK := hid ok
  clear rd ok
  cases hg0 : callsB m k && isCallL call
  · rw [hg0] at GC0
    have HR := hid (show callRowR m k call = ([], false) from by unfold callRowR; rw [if_neg (by rw [hg0]; simp)])
    obtain ⟨nm, st, ch⟩ := m
    obtain ⟨k1, k2⟩ := k
    dsimp only at *
    clear HOK hg0
    go_enter Try.func30, Try.ntmps30
    go_wp2_with fail
    obtain ⟨B2, hsz, HC⟩ := box_mk w nm k1 k2 st (.slice A n c)
    have R2 := hid (RS.out.below B2)
    have HB2 := hid B2
    have hw2 := B2.size
    generalize ((w.alloc (.cells #[.string (bs nm), .int .i64 st, .slice A n c] 30)).alloc (.cells #[.string (bs k1), .string (bs k2)] 32)) = W2 at *
    clear B2 hsz
    have HS5 : ∀ W', Below W2.heap.size W2 W' → W'.cell? ⟨w.heap.size, 0, none⟩ = some (.string (bs nm)) ∧ W'.cell? ⟨w.heap.size, 1, none⟩ = some (.int .i64 st) ∧ W'.cell? ⟨w.heap.size, 2, none⟩ = some (.slice A n c) ∧ W'.cell? ⟨w.heap.size + 1, 0, none⟩ = some (.string (bs k1)) ∧ W'.cell? ⟨w.heap.size + 1, 1, none⟩ = some (.string (bs k2)) := fun W' h => by
      obtain ⟨⟨a0, a1, a2⟩, a3, a4⟩ := HC.out _ h
      exact ⟨a0, a1, a2, a3, a4⟩
    have HHS5 := hid HS5
    clear HS5 HC
    have E0 : Hid (Below W2.heap.size W2 W2) := hid (Below.refl _ _)
    obtain ⟨n0, n1, n2, p0, p1⟩ := HHS5.out _ E0.out
    refine (GC0 _ (R2.out.below E0.out)).out.mono ?_
    rintro e wx0 ⟨rfl, bx⟩
    have E1 := hid (E0.out.trans (bx.mono E0.out.size))
    clear bx
    clear n0 n1 n2 p0 p1
    obtain ⟨n0, n1, n2, p0, p1⟩ := HHS5.out _ E1.out
    go_wp2
    go_ret2
    rw [HR.out]
    exact ⟨rfl, HB2.out.trans (E1.out.mono hw2)⟩
  · rw [hg0] at GC0
    have hcalls : callsB m k = true := by simp only [Bool.and_eq_true] at hg0; exact hg0.1
    have HR := hid (show callRowR m k call = (callRowL m.st.toNat m.ch k call, true) from by unfold callRowR; rw [if_pos (by simp [hg0])])
    have hm : methB m = true := callsB_meth (m := m) (k := k) hcalls
    have hb1 := callsB_bob hcalls
    have hb2 := callsB_single hcalls
    obtain ⟨N, hN, lo, hi, l1, l40, hs⟩ := meth_parts hm
    clear hm hcalls
    obtain ⟨nm, st, ch⟩ := m
    obtain ⟨k1, k2⟩ := k
    dsimp only at *
    subst hN
    have BC0 := fun (w0 : World) (rd : Rd w0 A n (strV ch)) => hid (l8Row_any N nm call ch (k1, k2) A n c w0 lo hi rd hn hcap l1 hs hb1 hb2)
    clear HOK hb1 hb2 hs hcl hg0
    go_enter Try.func30, Try.ntmps30
    go_wp2_with fail
    obtain ⟨B2, hsz, HC⟩ := box_mk w nm k1 k2 (N : Int) (.slice A n c)
    have R2 := hid (RS.out.below B2)
    have HB2 := hid B2
    have hw2 := B2.size
    generalize ((w.alloc (.cells #[.string (bs nm), .int .i64 (N : Int), .slice A n c] 30)).alloc (.cells #[.string (bs k1), .string (bs k2)] 32)) = W2 at *
    clear B2 hsz
    have HS5 : ∀ W', Below W2.heap.size W2 W' → W'.cell? ⟨w.heap.size, 0, none⟩ = some (.string (bs nm)) ∧ W'.cell? ⟨w.heap.size, 1, none⟩ = some (.int .i64 (N : Int)) ∧ W'.cell? ⟨w.heap.size, 2, none⟩ = some (.slice A n c) ∧ W'.cell? ⟨w.heap.size + 1, 0, none⟩ = some (.string (bs k1)) ∧ W'.cell? ⟨w.heap.size + 1, 1, none⟩ = some (.string (bs k2)) := fun W' h => by
      obtain ⟨⟨a0, a1, a2⟩, a3, a4⟩ := HC.out _ h
      exact ⟨a0, a1, a2, a3, a4⟩
    have HHS5 := hid HS5
    clear HS5 HC
    have E0 : Hid (Below W2.heap.size W2 W2) := hid (Below.refl _ _)
    obtain ⟨n0, n1, n2, p0, p1⟩ := HHS5.out _ E0.out
    refine (GC0 _ (R2.out.below E0.out)).out.mono ?_
    rintro e wx0 ⟨rfl, bx⟩
    have E1 := hid (E0.out.trans (bx.mono E0.out.size))
    clear bx
    clear n0 n1 n2 p0 p1
    obtain ⟨n0, n1, n2, p0, p1⟩ := HHS5.out _ E1.out
    go_wp2_with fail
    refine (BC0 _ (R2.out.below E1.out)).out.mono ?_
    rintro e wx1 ⟨rfl, bx⟩
    have E2 := hid (E1.out.trans (bx.mono E1.out.size))
    clear bx
    clear n0 n1 n2 p0 p1
    obtain ⟨n0, n1, n2, p0, p1⟩ := HHS5.out _ E2.out
    go_wp2
    go_ret2
    rw [HR.out]
    exact ⟨rfl, HB2.out.trans (E2.out.mono hw2)⟩
/-- What CallOrder answers. -/
def callOrderR (m : Meth) (k : List UInt8 × List UInt8) (call : List UInt8) : Int × Bool := if (callsB m k && isCallL call) = true then ((ordL (callRowL m.st.toNat m.ch k call) : Nat), true) else (0, false)
set_option maxHeartbeats 1000000 in
theorem implCallOrder_law (m : Meth) (k : List UInt8 × List UInt8) (call : List UInt8) (A : Option Addr) (n c : Nat) (w : World) (ok : LawOk m k) (rd : Rd w A n (strV m.ch)) (hcap : n ≤ c) :
    Calls Try.prog 38 #[.agg #[.string (bs m.nm), .int .i64 m.st, .slice A n c], .agg #[.string (bs k.1), .string (bs k.2)], .string (bs call)] w fun e w' => e = .returned (.tuple #[.int .i64 (callOrderR m k call).1, .bool (callOrderR m k call).2]) ∧ Below w.heap.size w w' := by
  have hn : n ≤ 1048576 := by have h1 := rd.1; have h2 := ok.2.2.1; rw [strV_len] at h1; omega
  have hcl : m.ch.length = n := by have h1 := rd.1; rw [strV_len] at h1; exact h1
  have GC0 := fun (w0 : World) (rd : Rd w0 A n (strV m.ch)) => hid (goodCalls_law m k A n c w0 ok rd)
  have GC1 := fun (w0 : World) (rd : Rd w0 A n (strV m.ch)) => hid (isCall_any call w0)
  have RS := hid rd
  have HOK := hid ok
  clear rd ok
  cases hg0 : callsB m k
  · rw [hg0] at GC0
    have HR := hid (show callOrderR m k call = (0, false) from by unfold callOrderR; rw [if_neg (by simp [hg0])])
    obtain ⟨nm, st, ch⟩ := m
    obtain ⟨k1, k2⟩ := k
    dsimp only at *
    clear HOK hg0
    go_enter Try.func38, Try.ntmps38
    go_wp2_with fail
    obtain ⟨B2, hsz, HC⟩ := box_mk w nm k1 k2 st (.slice A n c)
    have R2 := hid (RS.out.below B2)
    have HB2 := hid B2
    have hw2 := B2.size
    generalize ((w.alloc (.cells #[.string (bs nm), .int .i64 st, .slice A n c] 30)).alloc (.cells #[.string (bs k1), .string (bs k2)] 32)) = W2 at *
    clear B2 hsz
    have HS5 : ∀ W', Below W2.heap.size W2 W' → W'.cell? ⟨w.heap.size, 0, none⟩ = some (.string (bs nm)) ∧ W'.cell? ⟨w.heap.size, 1, none⟩ = some (.int .i64 st) ∧ W'.cell? ⟨w.heap.size, 2, none⟩ = some (.slice A n c) ∧ W'.cell? ⟨w.heap.size + 1, 0, none⟩ = some (.string (bs k1)) ∧ W'.cell? ⟨w.heap.size + 1, 1, none⟩ = some (.string (bs k2)) := fun W' h => by
      obtain ⟨⟨a0, a1, a2⟩, a3, a4⟩ := HC.out _ h
      exact ⟨a0, a1, a2, a3, a4⟩
    have HHS5 := hid HS5
    clear HS5 HC
    have E0 : Hid (Below W2.heap.size W2 W2) := hid (Below.refl _ _)
    obtain ⟨n0, n1, n2, p0, p1⟩ := HHS5.out _ E0.out
    refine (GC0 _ (R2.out.below E0.out)).out.mono ?_
    rintro e wx0 ⟨rfl, bx⟩
    have E1 := hid (E0.out.trans (bx.mono E0.out.size))
    clear bx
    clear n0 n1 n2 p0 p1
    obtain ⟨n0, n1, n2, p0, p1⟩ := HHS5.out _ E1.out
    go_wp2
    go_ret2
    rw [HR.out]
    exact ⟨rfl, HB2.out.trans (E1.out.mono hw2)⟩
  · rw [hg0] at GC0
    cases hg1 : isCallL call
    · rw [hg1] at GC1
      have HR := hid (show callOrderR m k call = (0, false) from by unfold callOrderR; rw [if_neg (by simp [hg1])])
      obtain ⟨nm, st, ch⟩ := m
      obtain ⟨k1, k2⟩ := k
      dsimp only at *
      clear HOK hg0 hg1
      go_enter Try.func38, Try.ntmps38
      go_wp2_with fail
      obtain ⟨B2, hsz, HC⟩ := box_mk w nm k1 k2 st (.slice A n c)
      have R2 := hid (RS.out.below B2)
      have HB2 := hid B2
      have hw2 := B2.size
      generalize ((w.alloc (.cells #[.string (bs nm), .int .i64 st, .slice A n c] 30)).alloc (.cells #[.string (bs k1), .string (bs k2)] 32)) = W2 at *
      clear B2 hsz
      have HS5 : ∀ W', Below W2.heap.size W2 W' → W'.cell? ⟨w.heap.size, 0, none⟩ = some (.string (bs nm)) ∧ W'.cell? ⟨w.heap.size, 1, none⟩ = some (.int .i64 st) ∧ W'.cell? ⟨w.heap.size, 2, none⟩ = some (.slice A n c) ∧ W'.cell? ⟨w.heap.size + 1, 0, none⟩ = some (.string (bs k1)) ∧ W'.cell? ⟨w.heap.size + 1, 1, none⟩ = some (.string (bs k2)) := fun W' h => by
        obtain ⟨⟨a0, a1, a2⟩, a3, a4⟩ := HC.out _ h
        exact ⟨a0, a1, a2, a3, a4⟩
      have HHS5 := hid HS5
      clear HS5 HC
      have E0 : Hid (Below W2.heap.size W2 W2) := hid (Below.refl _ _)
      obtain ⟨n0, n1, n2, p0, p1⟩ := HHS5.out _ E0.out
      refine (GC0 _ (R2.out.below E0.out)).out.mono ?_
      rintro e wx0 ⟨rfl, bx⟩
      have E1 := hid (E0.out.trans (bx.mono E0.out.size))
      clear bx
      clear n0 n1 n2 p0 p1
      obtain ⟨n0, n1, n2, p0, p1⟩ := HHS5.out _ E1.out
      go_wp2_with fail
      refine (GC1 _ (R2.out.below E1.out)).out.mono ?_
      rintro e w' ⟨rfl, rfl⟩
      have E2 := E1
      clear n0 n1 n2 p0 p1
      obtain ⟨n0, n1, n2, p0, p1⟩ := HHS5.out _ E2.out
      go_wp2
      go_ret2
      rw [HR.out]
      exact ⟨rfl, HB2.out.trans (E2.out.mono hw2)⟩
    · rw [hg1] at GC1
      have hcalls : callsB m k = true := by exact hg0
      have HR := hid (show callOrderR m k call = (((ordL (callRowL m.st.toNat m.ch k call) : Nat) : Int), true) from by unfold callOrderR; rw [if_pos (by simp [hg0, hg1])])
      have hm : methB m = true := callsB_meth (m := m) (k := k) hcalls
      have hb1 := callsB_bob hcalls
      have hb2 := callsB_single hcalls
      obtain ⟨N, hN, lo, hi, l1, l40, hs⟩ := meth_parts hm
      clear hm hcalls
      obtain ⟨nm, st, ch⟩ := m
      obtain ⟨k1, k2⟩ := k
      dsimp only at *
      subst hN
      have BC0 := fun (w0 : World) (rd : Rd w0 A n (strV ch)) => hid (callRow_any N nm call ch (k1, k2) A n c w0 lo hi rd hn hcap l1 hs hb1 hb2)
      have BC1 := fun (w0 : World) => hid ((powers_any (callRowL N ch (k1, k2) call) w0 (callRowL_row lo hi _ _ _)).mono (fun e w' h => oneS_len h (powersTo_len _ _)))
      clear HOK hb1 hb2 hs hcl hg0 hg1
      go_enter Try.func38, Try.ntmps38
      go_wp2_with fail
      obtain ⟨B2, hsz, HC⟩ := box_mk w nm k1 k2 (N : Int) (.slice A n c)
      have R2 := hid (RS.out.below B2)
      have HB2 := hid B2
      have hw2 := B2.size
      generalize ((w.alloc (.cells #[.string (bs nm), .int .i64 (N : Int), .slice A n c] 30)).alloc (.cells #[.string (bs k1), .string (bs k2)] 32)) = W2 at *
      clear B2 hsz
      have HS5 : ∀ W', Below W2.heap.size W2 W' → W'.cell? ⟨w.heap.size, 0, none⟩ = some (.string (bs nm)) ∧ W'.cell? ⟨w.heap.size, 1, none⟩ = some (.int .i64 (N : Int)) ∧ W'.cell? ⟨w.heap.size, 2, none⟩ = some (.slice A n c) ∧ W'.cell? ⟨w.heap.size + 1, 0, none⟩ = some (.string (bs k1)) ∧ W'.cell? ⟨w.heap.size + 1, 1, none⟩ = some (.string (bs k2)) := fun W' h => by
        obtain ⟨⟨a0, a1, a2⟩, a3, a4⟩ := HC.out _ h
        exact ⟨a0, a1, a2, a3, a4⟩
      have HHS5 := hid HS5
      clear HS5 HC
      have E0 : Hid (Below W2.heap.size W2 W2) := hid (Below.refl _ _)
      obtain ⟨n0, n1, n2, p0, p1⟩ := HHS5.out _ E0.out
      refine (GC0 _ (R2.out.below E0.out)).out.mono ?_
      rintro e wx0 ⟨rfl, bx⟩
      have E1 := hid (E0.out.trans (bx.mono E0.out.size))
      clear bx
      clear n0 n1 n2 p0 p1
      obtain ⟨n0, n1, n2, p0, p1⟩ := HHS5.out _ E1.out
      go_wp2_with fail
      refine (GC1 _ (R2.out.below E1.out)).out.mono ?_
      rintro e w' ⟨rfl, rfl⟩
      have E2 := E1
      clear n0 n1 n2 p0 p1
      obtain ⟨n0, n1, n2, p0, p1⟩ := HHS5.out _ E2.out
      go_wp2_with fail
      refine (BC0 _ (R2.out.below E2.out)).out.mono ?_
      rintro e wx2 ⟨rfl, bx⟩
      have E3 := hid (E2.out.trans (bx.mono E2.out.size))
      clear bx
      clear n0 n1 n2 p0 p1
      obtain ⟨n0, n1, n2, p0, p1⟩ := HHS5.out _ E3.out
      go_wp2_with fail
      refine (BC1 _).out.mono ?_
      rintro e wx3 ⟨vx3, rfl, ox3, bx⟩
      have E4 := hid (E3.out.trans (bx.mono E3.out.size))
      clear bx
      obtain ⟨Ax3, cx3, rfl, hcx3, _, rdx3, _⟩ := own_shape ox3
      have RX3 := hid rdx3
      have OX3 := hid ox3
      clear rdx3 ox3
      clear n0 n1 n2 p0 p1
      obtain ⟨n0, n1, n2, p0, p1⟩ := HHS5.out _ E4.out
      go_wp2
      go_ret2
      rw [HR.out]
      exact ⟨rfl, HB2.out.trans (E4.out.mono hw2)⟩
set_option maxHeartbeats 1000000 in
theorem specCallOrder_law (m : Meth) (k : List UInt8 × List UInt8) (call : List UInt8) (A : Option Addr) (n c : Nat) (w : World) (ok : LawOk m k) (rd : Rd w A n (strV m.ch)) (hcap : n ≤ c) :
    Calls Try.prog 37 #[.agg #[.string (bs m.nm), .int .i64 m.st, .slice A n c], .agg #[.string (bs k.1), .string (bs k.2)], .string (bs call)] w fun e w' => e = .returned (.tuple #[.int .i64 (callOrderR m k call).1, .bool (callOrderR m k call).2]) ∧ Below w.heap.size w w' := by
  have hn : n ≤ 1048576 := by have h1 := rd.1; have h2 := ok.2.2.1; rw [strV_len] at h1; omega
  have hcl : m.ch.length = n := by have h1 := rd.1; rw [strV_len] at h1; exact h1
  have GC0 := fun (w0 : World) (rd : Rd w0 A n (strV m.ch)) => hid (l8Asked_any m k call A n c w0 ok rd)
  have RS := hid rd
  have HOK := hid ok
  clear rd ok
  cases hg0 : callsB m k && isCallL call
  · rw [hg0] at GC0
    have HR := hid (show callOrderR m k call = (0, false) from by unfold callOrderR; rw [if_neg (by rw [hg0]; simp)])
    obtain ⟨nm, st, ch⟩ := m
    obtain ⟨k1, k2⟩ := k
    dsimp only at *
    clear HOK hg0
    go_enter Try.func37, Try.ntmps37
    go_wp2_with fail
    obtain ⟨B2, hsz, HC⟩ := box_mk w nm k1 k2 st (.slice A n c)
    have R2 := hid (RS.out.below B2)
    have HB2 := hid B2
    have hw2 := B2.size
    generalize ((w.alloc (.cells #[.string (bs nm), .int .i64 st, .slice A n c] 30)).alloc (.cells #[.string (bs k1), .string (bs k2)] 32)) = W2 at *
    clear B2 hsz
    have HS5 : ∀ W', Below W2.heap.size W2 W' → W'.cell? ⟨w.heap.size, 0, none⟩ = some (.string (bs nm)) ∧ W'.cell? ⟨w.heap.size, 1, none⟩ = some (.int .i64 st) ∧ W'.cell? ⟨w.heap.size, 2, none⟩ = some (.slice A n c) ∧ W'.cell? ⟨w.heap.size + 1, 0, none⟩ = some (.string (bs k1)) ∧ W'.cell? ⟨w.heap.size + 1, 1, none⟩ = some (.string (bs k2)) := fun W' h => by
      obtain ⟨⟨a0, a1, a2⟩, a3, a4⟩ := HC.out _ h
      exact ⟨a0, a1, a2, a3, a4⟩
    have HHS5 := hid HS5
    clear HS5 HC
    have E0 : Hid (Below W2.heap.size W2 W2) := hid (Below.refl _ _)
    obtain ⟨n0, n1, n2, p0, p1⟩ := HHS5.out _ E0.out
    refine (GC0 _ (R2.out.below E0.out)).out.mono ?_
    rintro e wx0 ⟨rfl, bx⟩
    have E1 := hid (E0.out.trans (bx.mono E0.out.size))
    clear bx
    clear n0 n1 n2 p0 p1
    obtain ⟨n0, n1, n2, p0, p1⟩ := HHS5.out _ E1.out
    go_wp2
    go_ret2
    rw [HR.out]
    exact ⟨rfl, HB2.out.trans (E1.out.mono hw2)⟩
  · rw [hg0] at GC0
    have hcalls : callsB m k = true := by simp only [Bool.and_eq_true] at hg0; exact hg0.1
    have HR := hid (show callOrderR m k call = (((ordL (callRowL m.st.toNat m.ch k call) : Nat) : Int), true) from by unfold callOrderR; rw [if_pos (by simp [hg0])])
    have hm : methB m = true := callsB_meth (m := m) (k := k) hcalls
    have hb1 := callsB_bob hcalls
    have hb2 := callsB_single hcalls
    obtain ⟨N, hN, lo, hi, l1, l40, hs⟩ := meth_parts hm
    clear hm hcalls
    obtain ⟨nm, st, ch⟩ := m
    obtain ⟨k1, k2⟩ := k
    dsimp only at *
    subst hN
    have BC0 := fun (w0 : World) (rd : Rd w0 A n (strV ch)) => hid (l8Row_any N nm call ch (k1, k2) A n c w0 lo hi rd hn hcap l1 hs hb1 hb2)
    have BC1 := fun (w0 : World) => hid (l1Order_any (callRowL N ch (k1, k2) call) w0 (callRowL_row lo hi _ _ _))
    clear HOK hb1 hb2 hs hcl hg0
    go_enter Try.func37, Try.ntmps37
    go_wp2_with fail
    obtain ⟨B2, hsz, HC⟩ := box_mk w nm k1 k2 (N : Int) (.slice A n c)
    have R2 := hid (RS.out.below B2)
    have HB2 := hid B2
    have hw2 := B2.size
    generalize ((w.alloc (.cells #[.string (bs nm), .int .i64 (N : Int), .slice A n c] 30)).alloc (.cells #[.string (bs k1), .string (bs k2)] 32)) = W2 at *
    clear B2 hsz
    have HS5 : ∀ W', Below W2.heap.size W2 W' → W'.cell? ⟨w.heap.size, 0, none⟩ = some (.string (bs nm)) ∧ W'.cell? ⟨w.heap.size, 1, none⟩ = some (.int .i64 (N : Int)) ∧ W'.cell? ⟨w.heap.size, 2, none⟩ = some (.slice A n c) ∧ W'.cell? ⟨w.heap.size + 1, 0, none⟩ = some (.string (bs k1)) ∧ W'.cell? ⟨w.heap.size + 1, 1, none⟩ = some (.string (bs k2)) := fun W' h => by
      obtain ⟨⟨a0, a1, a2⟩, a3, a4⟩ := HC.out _ h
      exact ⟨a0, a1, a2, a3, a4⟩
    have HHS5 := hid HS5
    clear HS5 HC
    have E0 : Hid (Below W2.heap.size W2 W2) := hid (Below.refl _ _)
    obtain ⟨n0, n1, n2, p0, p1⟩ := HHS5.out _ E0.out
    refine (GC0 _ (R2.out.below E0.out)).out.mono ?_
    rintro e wx0 ⟨rfl, bx⟩
    have E1 := hid (E0.out.trans (bx.mono E0.out.size))
    clear bx
    clear n0 n1 n2 p0 p1
    obtain ⟨n0, n1, n2, p0, p1⟩ := HHS5.out _ E1.out
    go_wp2_with fail
    refine (BC0 _ (R2.out.below E1.out)).out.mono ?_
    rintro e wx1 ⟨rfl, bx⟩
    have E2 := hid (E1.out.trans (bx.mono E1.out.size))
    clear bx
    clear n0 n1 n2 p0 p1
    obtain ⟨n0, n1, n2, p0, p1⟩ := HHS5.out _ E2.out
    go_wp2_with fail
    refine (BC1 _).out.mono ?_
    rintro e w' ⟨rfl, rfl⟩
    have E3 := E2
    clear n0 n1 n2 p0 p1
    obtain ⟨n0, n1, n2, p0, p1⟩ := HHS5.out _ E3.out
    go_wp2
    go_ret2
    rw [HR.out]
    exact ⟨rfl, HB2.out.trans (E3.out.mono hw2)⟩
end Go.Proofs.Ytdmipllbifofmaa
