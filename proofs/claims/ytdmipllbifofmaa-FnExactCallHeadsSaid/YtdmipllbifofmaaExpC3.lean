/- Contracts of CallHeads, in the reference and in the program. No conditions beyond those stated. -/
import Derived.Test.YtdmipllbifofmaaExpC
set_option linter.unusedVariables false
set_option linter.unusedSimpArgs false
set_option maxRecDepth 100000
namespace Go.Proofs.Ytdmipllbifofmaa
open Go.RowKit

/-- The lead heads of p, b and s. -/
def headsL (N : Nat) (cs : List (List UInt8)) (k : List UInt8 × List UInt8) : List (List UInt8) := [callHeadL N cs k [112], callHeadL N cs k [98], callHeadL N cs k [115]]
/-- What CallHeads answers. -/
def callHeadsR (m : Meth) (k : List UInt8 × List UInt8) : List (List UInt8) × Bool := if callsB m k = true then (headsL m.st.toNat m.ch k, true) else ([], false)
theorem callHeadsR_le (m : Meth) (k : List UInt8 × List UInt8) : (callHeadsR m k).1.length ≤ 4000000 := by unfold callHeadsR headsL; split <;> simp
set_option maxHeartbeats 1000000 in
theorem callHeads_any (N : Nat) (nm : List UInt8) (ch : List (List UInt8)) (k : List UInt8 × List UInt8) (A : Option Addr) (n c : Nat) (w : World) (lo : 3 ≤ N) (hi : N ≤ 8) (hr : Rd w A n (strV ch)) (hn : n ≤ 1048576) (l1 : 1 ≤ ch.length) (hs : ∀ x ∈ ch, okChange (N : Int) x = true) (hb1 : okChange (N : Int) k.1 = true) (hb2 : okChange (N : Int) k.2 = true) :
    Calls Try.prog 71 #[.agg #[.string (bs nm), .int .i64 N, .slice A n c], .agg #[.string (bs k.1), .string (bs k.2)]] w (OneSn w 3 (headsL N ch k)) := by
  obtain ⟨k1, k2⟩ := k
  have BC0 := fun (call : List UInt8) (w0 : World) (rd : Rd w0 A n (strV ch)) => hid (callHead_any N nm call ch (k1, k2) A n c w0 lo hi rd hn l1 hs hb1 hb2)
  have RS := hid hr
  clear hr hs hb1 hb2
  go_enter Try.func71, Try.ntmps71
  go_wp2_with fail
  obtain ⟨B2, hsz, HC⟩ := box_mk w nm k1 k2 (N : Int) (.slice A n c)
  have R2 := hid (RS.out.below B2)
  have HB2 := hid B2
  have hw2 := B2.size
  generalize ((w.alloc (.cells #[.string (bs nm), .int .i64 (N : Int), .slice A n c] 30)).alloc (.cells #[.string (bs k1), .string (bs k2)] 32)) = W2 at *
  clear B2 hsz
  have HS5 : ∀ W', Below W2.heap.size W2 W' → W'.cell? ⟨w.heap.size, 0, none⟩ = some (.string (bs nm)) ∧ W'.cell? ⟨w.heap.size, 1, none⟩ = some (.int .i64 (N : Int)) ∧ W'.cell? ⟨w.heap.size, 2, none⟩ = some (.slice A n c) ∧ W'.cell? ⟨w.heap.size + 1, 0, none⟩ = some (.string (bs k1)) ∧ W'.cell? ⟨w.heap.size + 1, 1, none⟩ = some (.string (bs k2)) := fun W' h => by
    obtain ⟨⟨a0, a1, a2⟩, a3, a4⟩ := HC.out _ h
    exact ⟨a0, a1, a2, a3, a4⟩
  have HHS5 := hid HS5
  clear HS5 HC
  obtain ⟨n0, n1, n2, p0, p1⟩ := HHS5.out _ (Below.refl W2.heap.size W2)
  go_region_held3 (fun w' => w'.cell? ⟨w.heap.size, 0, none⟩ = some (.string (bs nm)) ∧ w'.cell? ⟨w.heap.size, 1, none⟩ = some (.int .i64 (N : Int)) ∧ w'.cell? ⟨w.heap.size, 2, none⟩ = some (.slice A n c) ∧ w'.cell? ⟨w.heap.size + 1, 0, none⟩ = some (.string (bs k1)) ∧ w'.cell? ⟨w.heap.size + 1, 1, none⟩ = some (.string (bs k2)))
    (first | exact HHS5.out _ (Below.refl W2.heap.size W2) | exact HHS5.out _ ((Below.refl W2.heap.size W2)).drew | exact HHS5.out _ Fa | exact HHS5.out _ Fb | exact HHS5.out _ Fc | exact HHS5.out _ (Fc.alloc Fc.size _))
    (first | (go_at_call 67; refine (BC0 _ _ (R2.out.below ((Below.refl W2.heap.size W2)).drew)).out.mono ?_; rintro e wa ⟨rfl, ba⟩; have Fa := ((Below.refl W2.heap.size W2)).drew.trans (ba.mono ((Below.refl W2.heap.size W2)).size)) | (go_at_call 67; refine (BC0 _ _ (R2.out.below Fa)).out.mono ?_; rintro e wb ⟨rfl, bb⟩; have Fb := Fa.trans (bb.mono Fa.size)) | (go_at_call 67; refine (BC0 _ _ (R2.out.below Fb)).out.mono ?_; rintro e wc ⟨rfl, bc⟩; have Fc := Fb.trans (bc.mono Fb.size)))
  have HFc := hid Fc
  clear ba bb bc Fa Fb Fc n0 n1 n2 p0 p1
  go_wp2
  go_ret
  exact ⟨_, rfl, own_mono (own_of_blk (Blk.new wc _ #[.string (bs (callHeadL N ch (k1, k2) [112])), .string (bs (callHeadL N ch (k1, k2) [98])), .string (bs (callHeadL N ch (k1, k2) [115]))]) (Nat.le_refl _) (by simp [maxLen])) (Nat.le_trans hw2 HFc.out.size), HB2.out.trans ((HFc.out.alloc HFc.out.size _).mono hw2)⟩
set_option maxHeartbeats 1000000 in
theorem implCallHeads_law (m : Meth) (k : List UInt8 × List UInt8) (A : Option Addr) (n c : Nat) (w : World) (ok : LawOk m k) (rd : Rd w A n (strV m.ch)) (hcap : n ≤ c) :
    Calls Try.prog 33 #[.agg #[.string (bs m.nm), .int .i64 m.st, .slice A n c], .agg #[.string (bs k.1), .string (bs k.2)]] w (ResS w (callHeadsR m k)) := by
  have hn : n ≤ 1048576 := by have h1 := rd.1; have h2 := ok.2.2.1; rw [strV_len] at h1; omega
  have hcl : m.ch.length = n := by have h1 := rd.1; rw [strV_len] at h1; exact h1
  have GC0 := fun (w0 : World) (rd : Rd w0 A n (strV m.ch)) => hid (goodCalls_law m k A n c w0 ok rd)
  have RS := hid rd
  have HOK := hid ok
  clear rd ok
  cases hg0 : callsB m k
  · rw [hg0] at GC0
    have HR := hid (show callHeadsR m k = ([], false) from by unfold callHeadsR; rw [if_neg (by rw [hg0]; simp)])
    obtain ⟨nm, st, ch⟩ := m
    obtain ⟨k1, k2⟩ := k
    dsimp only at *
    clear HOK hg0
    go_enter Try.func33, Try.ntmps33
    go_wp2_with fail
    obtain ⟨B2, hsz, HC⟩ := box_mk w nm k1 k2 st (.slice A n c)
    have R2 := hid (RS.out.below B2)
    have HB2 := hid B2
    have hw2 := B2.size
    generalize ((w.alloc (.cells #[.string (bs nm), .int .i64 st, .slice A n c] 30)).alloc (.cells #[.string (bs k1), .string (bs k2)] 32)) = W2 at *
    clear B2 hsz
    have HS5 : ∀ W', Below W2.heap.size W2 W' → W'.cell? ⟨w.heap.size, 0, none⟩ = some (.string (bs nm)) ∧ W'.cell? ⟨w.heap.size, 1, none⟩ = some (.int .i64 st) ∧ W'.cell? ⟨w.heap.size, 2, none⟩ = some (.slice A n c) ∧ W'.cell? ⟨w.heap.size + 1, 0, none⟩ = some (.string (bs k1)) ∧ W'.cell? ⟨w.heap.size + 1, 1, none⟩ = some (.string (bs k2)) := fun W' h => by
      obtain ⟨⟨a0, a1, a2⟩, a3, a4⟩ := HC.out _ h
      exact ⟨a0, a1, a2, a3, a4⟩
    have HHS5 := hid HS5
    clear HS5 HC
    have E0 : Hid (Below W2.heap.size W2 W2) := hid (Below.refl _ _)
    obtain ⟨n0, n1, n2, p0, p1⟩ := HHS5.out _ E0.out
    refine (GC0 _ (R2.out.below E0.out)).out.mono ?_
    rintro e wx0 ⟨rfl, bx⟩
    have E1 := hid (E0.out.trans (bx.mono E0.out.size))
    clear bx
    clear n0 n1 n2 p0 p1
    obtain ⟨n0, n1, n2, p0, p1⟩ := HHS5.out _ E1.out
    go_wp2
    go_ret2
    rw [HR.out]
    exact ResS.none _ _ (HB2.out.trans (E1.out.mono hw2))
  · rw [hg0] at GC0
    have hcalls : callsB m k = true := by exact hg0
    have HR := hid (show callHeadsR m k = (headsL m.st.toNat m.ch k, true) from by unfold callHeadsR; rw [if_pos hg0])
    have hm : methB m = true := callsB_meth (m := m) (k := k) hcalls
    have hb1 := callsB_bob hcalls
    have hb2 := callsB_single hcalls
    obtain ⟨N, hN, lo, hi, l1, l40, hs⟩ := meth_parts hm
    clear hm hcalls
    obtain ⟨nm, st, ch⟩ := m
    obtain ⟨k1, k2⟩ := k
    dsimp only at *
    subst hN
    have BC0 := fun (w0 : World) (rd : Rd w0 A n (strV ch)) => hid (callHeads_any N nm ch (k1, k2) A n c w0 lo hi rd hn l1 hs hb1 hb2)
    clear HOK hb1 hb2 hs hcl hg0
    go_enter Try.func33, Try.ntmps33
    go_wp2_with fail
    obtain ⟨B2, hsz, HC⟩ := box_mk w nm k1 k2 (N : Int) (.slice A n c)
    have R2 := hid (RS.out.below B2)
    have HB2 := hid B2
    have hw2 := B2.size
    generalize ((w.alloc (.cells #[.string (bs nm), .int .i64 (N : Int), .slice A n c] 30)).alloc (.cells #[.string (bs k1), .string (bs k2)] 32)) = W2 at *
    clear B2 hsz
    have HS5 : ∀ W', Below W2.heap.size W2 W' → W'.cell? ⟨w.heap.size, 0, none⟩ = some (.string (bs nm)) ∧ W'.cell? ⟨w.heap.size, 1, none⟩ = some (.int .i64 (N : Int)) ∧ W'.cell? ⟨w.heap.size, 2, none⟩ = some (.slice A n c) ∧ W'.cell? ⟨w.heap.size + 1, 0, none⟩ = some (.string (bs k1)) ∧ W'.cell? ⟨w.heap.size + 1, 1, none⟩ = some (.string (bs k2)) := fun W' h => by
      obtain ⟨⟨a0, a1, a2⟩, a3, a4⟩ := HC.out _ h
      exact ⟨a0, a1, a2, a3, a4⟩
    have HHS5 := hid HS5
    clear HS5 HC
    have E0 : Hid (Below W2.heap.size W2 W2) := hid (Below.refl _ _)
    obtain ⟨n0, n1, n2, p0, p1⟩ := HHS5.out _ E0.out
    refine (GC0 _ (R2.out.below E0.out)).out.mono ?_
    rintro e wx0 ⟨rfl, bx⟩
    have E1 := hid (E0.out.trans (bx.mono E0.out.size))
    clear bx
    clear n0 n1 n2 p0 p1
    obtain ⟨n0, n1, n2, p0, p1⟩ := HHS5.out _ E1.out
    go_wp2_with fail
    refine (BC0 _ (R2.out.below E1.out)).out.mono ?_
    rintro e wx1 ⟨vx1, rfl, ox1, bx⟩
    have E2 := hid (E1.out.trans (bx.mono E1.out.size))
    clear bx
    obtain ⟨Ax1, cx1, rfl, hcx1, _, rdx1, _⟩ := own_shape ox1
    have RX1 := hid rdx1
    have OX1 := hid ox1
    clear rdx1 ox1
    clear n0 n1 n2 p0 p1
    obtain ⟨n0, n1, n2, p0, p1⟩ := HHS5.out _ E2.out
    go_wp2
    go_ret2
    rw [HR.out]
    exact ⟨_, rfl, own_mono OX1.out (Nat.le_trans hw2 E1.out.size), HB2.out.trans (E2.out.mono hw2)⟩
set_option maxHeartbeats 1000000 in
theorem specCallHeads_law (m : Meth) (k : List UInt8 × List UInt8) (A : Option Addr) (n c : Nat) (w : World) (ok : LawOk m k) (rd : Rd w A n (strV m.ch)) (hcap : n ≤ c) :
    Calls Try.prog 32 #[.agg #[.string (bs m.nm), .int .i64 m.st, .slice A n c], .agg #[.string (bs k.1), .string (bs k.2)]] w (ResS w (callHeadsR m k)) := by
  have hn : n ≤ 1048576 := by have h1 := rd.1; have h2 := ok.2.2.1; rw [strV_len] at h1; omega
  have hcl : m.ch.length = n := by have h1 := rd.1; rw [strV_len] at h1; exact h1
  have GC0 := fun (w0 : World) (rd : Rd w0 A n (strV m.ch)) => hid (l8Good_law m k A n c w0 ok rd)
  have RS := hid rd
  have HOK := hid ok
  clear rd ok
  cases hg0 : callsB m k
  · rw [hg0] at GC0
    have HR := hid (show callHeadsR m k = ([], false) from by unfold callHeadsR; rw [if_neg (by rw [hg0]; simp)])
    obtain ⟨nm, st, ch⟩ := m
    obtain ⟨k1, k2⟩ := k
    dsimp only at *
    clear HOK hg0
    go_enter Try.func32, Try.ntmps32
    go_wp2_with fail
    obtain ⟨B2, hsz, HC⟩ := box_mk w nm k1 k2 st (.slice A n c)
    have R2 := hid (RS.out.below B2)
    have HB2 := hid B2
    have hw2 := B2.size
    generalize ((w.alloc (.cells #[.string (bs nm), .int .i64 st, .slice A n c] 30)).alloc (.cells #[.string (bs k1), .string (bs k2)] 32)) = W2 at *
    clear B2 hsz
    have HS5 : ∀ W', Below W2.heap.size W2 W' → W'.cell? ⟨w.heap.size, 0, none⟩ = some (.string (bs nm)) ∧ W'.cell? ⟨w.heap.size, 1, none⟩ = some (.int .i64 st) ∧ W'.cell? ⟨w.heap.size, 2, none⟩ = some (.slice A n c) ∧ W'.cell? ⟨w.heap.size + 1, 0, none⟩ = some (.string (bs k1)) ∧ W'.cell? ⟨w.heap.size + 1, 1, none⟩ = some (.string (bs k2)) := fun W' h => by
      obtain ⟨⟨a0, a1, a2⟩, a3, a4⟩ := HC.out _ h
      exact ⟨a0, a1, a2, a3, a4⟩
    have HHS5 := hid HS5
    clear HS5 HC
    have E0 : Hid (Below W2.heap.size W2 W2) := hid (Below.refl _ _)
    obtain ⟨n0, n1, n2, p0, p1⟩ := HHS5.out _ E0.out
    refine (GC0 _ (R2.out.below E0.out)).out.mono ?_
    rintro e wx0 ⟨rfl, bx⟩
    have E1 := hid (E0.out.trans (bx.mono E0.out.size))
    clear bx
    clear n0 n1 n2 p0 p1
    obtain ⟨n0, n1, n2, p0, p1⟩ := HHS5.out _ E1.out
    go_wp2
    go_ret2
    rw [HR.out]
    exact ResS.none _ _ (HB2.out.trans (E1.out.mono hw2))
  · rw [hg0] at GC0
    have hcalls : callsB m k = true := by exact hg0
    have HR := hid (show callHeadsR m k = (headsL m.st.toNat m.ch k, true) from by unfold callHeadsR; rw [if_pos hg0])
    have hm : methB m = true := callsB_meth (m := m) (k := k) hcalls
    have hb1 := callsB_bob hcalls
    have hb2 := callsB_single hcalls
    obtain ⟨N, hN, lo, hi, l1, l40, hs⟩ := meth_parts hm
    clear hm hcalls
    obtain ⟨nm, st, ch⟩ := m
    obtain ⟨k1, k2⟩ := k
    dsimp only at *
    subst hN
    have BC0 := fun (call : List UInt8) (w0 : World) (rd : Rd w0 A n (strV ch)) => hid (l8Head_any N nm call ch (k1, k2) A n c w0 lo hi rd hn hcap l1 hs hb1 hb2)
    clear HOK hb1 hb2 hs hcl hg0
    go_enter Try.func32, Try.ntmps32
    go_wp2_with fail
    obtain ⟨B2, hsz, HC⟩ := box_mk w nm k1 k2 (N : Int) (.slice A n c)
    have R2 := hid (RS.out.below B2)
    have HB2 := hid B2
    have hw2 := B2.size
    generalize ((w.alloc (.cells #[.string (bs nm), .int .i64 (N : Int), .slice A n c] 30)).alloc (.cells #[.string (bs k1), .string (bs k2)] 32)) = W2 at *
    clear B2 hsz
    have HS5 : ∀ W', Below W2.heap.size W2 W' → W'.cell? ⟨w.heap.size, 0, none⟩ = some (.string (bs nm)) ∧ W'.cell? ⟨w.heap.size, 1, none⟩ = some (.int .i64 (N : Int)) ∧ W'.cell? ⟨w.heap.size, 2, none⟩ = some (.slice A n c) ∧ W'.cell? ⟨w.heap.size + 1, 0, none⟩ = some (.string (bs k1)) ∧ W'.cell? ⟨w.heap.size + 1, 1, none⟩ = some (.string (bs k2)) := fun W' h => by
      obtain ⟨⟨a0, a1, a2⟩, a3, a4⟩ := HC.out _ h
      exact ⟨a0, a1, a2, a3, a4⟩
    have HHS5 := hid HS5
    clear HS5 HC
    have E0 : Hid (Below W2.heap.size W2 W2) := hid (Below.refl _ _)
    obtain ⟨n0, n1, n2, p0, p1⟩ := HHS5.out _ E0.out
    refine (GC0 _ (R2.out.below E0.out)).out.mono ?_
    rintro e wx0 ⟨rfl, bx⟩
    have E1 := hid (E0.out.trans (bx.mono E0.out.size))
    clear bx
    clear n0 n1 n2 p0 p1
    obtain ⟨n0, n1, n2, p0, p1⟩ := HHS5.out _ E1.out
    go_wp2_with fail
    go_region_held3 (fun w' => w'.cell? ⟨w.heap.size, 0, none⟩ = some (.string (bs nm)) ∧ w'.cell? ⟨w.heap.size, 1, none⟩ = some (.int .i64 (N : Int)) ∧ w'.cell? ⟨w.heap.size, 2, none⟩ = some (.slice A n c) ∧ w'.cell? ⟨w.heap.size + 1, 0, none⟩ = some (.string (bs k1)) ∧ w'.cell? ⟨w.heap.size + 1, 1, none⟩ = some (.string (bs k2)))
      (first | exact HHS5.out _ E1.out | exact HHS5.out _ (E1.out).drew | exact HHS5.out _ Fa | exact HHS5.out _ Fb | exact HHS5.out _ Fc | exact HHS5.out _ (Fc.alloc Fc.size _))
      (first | (go_at_call 66; refine (BC0 _ _ (R2.out.below (E1.out).drew)).out.mono ?_; rintro e wa ⟨rfl, ba⟩; have Fa := (E1.out).drew.trans (ba.mono (E1.out).size)) | (go_at_call 66; refine (BC0 _ _ (R2.out.below Fa)).out.mono ?_; rintro e wb ⟨rfl, bb⟩; have Fb := Fa.trans (bb.mono Fa.size)) | (go_at_call 66; refine (BC0 _ _ (R2.out.below Fb)).out.mono ?_; rintro e wc ⟨rfl, bc⟩; have Fc := Fb.trans (bc.mono Fb.size)))
    have E2 := hid (Fc.alloc Fc.size (.cells #[.string (bs (callHeadL N ch (k1, k2) [112])), .string (bs (callHeadL N ch (k1, k2) [98])), .string (bs (callHeadL N ch (k1, k2) [115]))] 9))
    have hszc := Fc.size
    clear ba bb bc Fa Fb Fc n0 n1 n2 p0 p1
    obtain ⟨n0, n1, n2, p0, p1⟩ := HHS5.out _ E2.out
    go_wp2
    go_ret2
    rw [HR.out]
    exact ⟨_, rfl, own_mono (own_of_blk (Blk.new wc _ #[.string (bs (callHeadL N ch (k1, k2) [112])), .string (bs (callHeadL N ch (k1, k2) [98])), .string (bs (callHeadL N ch (k1, k2) [115]))]) (Nat.le_refl _) (by simp [maxLen])) (Nat.le_trans hw2 hszc), HB2.out.trans (E2.out.mono hw2)⟩
end Go.Proofs.Ytdmipllbifofmaa
