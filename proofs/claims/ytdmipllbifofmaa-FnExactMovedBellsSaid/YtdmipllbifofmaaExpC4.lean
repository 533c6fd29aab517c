/- Contracts of MovedBells, in the reference and in the program. No conditions beyond those stated. -/
import Derived.Test.YtdmipllbifofmaaExpC
import Derived.Test.YtdmipllbifofmaaChg
set_option linter.unusedVariables false
set_option linter.unusedSimpArgs false
set_option maxRecDepth 100000
namespace Go.Proofs.Ytdmipllbifofmaa
open Go.RowKit

/-- The positions up to k at which a row differs from rounds. -/
def movedTo (r : List UInt8) (k : Nat) : List Nat := ((List.range k).filter fun i => r.getD i 0 != b49 i).map (· + 1)
theorem movedTo_len (r : List UInt8) (k : Nat) : (movedTo r k).length ≤ k := by
  unfold movedTo
  rw [List.length_map]
  exact Nat.le_trans (List.length_filter_le _ _) (by simp)
theorem movedTo_yes (r : List UInt8) (k : Nat) (h : (r.getD k 0 != b49 k) = true) : movedTo r k ++ [k + 1] = movedTo r (k + 1) := by
  unfold movedTo
  rw [List.range_succ, List.filter_append, List.map_append]
  congr 1
  rw [List.filter_cons, if_pos h]; rfl
theorem movedTo_no (r : List UInt8) (k : Nat) (h : (r.getD k 0 != b49 k) = false) : movedTo r k = movedTo r (k + 1) := by
  unfold movedTo
  rw [List.range_succ, List.filter_append, List.map_append]
  rw [List.filter_cons, if_neg (by rw [h]; simp)]; simp
/-- What MovedBells answers. -/
def movedR (m : Meth) (k : List UInt8 × List UInt8) (call : List UInt8) : List Int × Bool := if (callsB m k && isCallL call) = true then (natI (movedTo (callRowL m.st.toNat m.ch k call) m.st.toNat), true) else ([], false)
theorem movedR_le (m : Meth) (k : List UInt8 × List UInt8) (call : List UInt8) : (movedR m k call).1.length ≤ 4000000 := by
  unfold movedR
  split
  · rename_i h
    simp only [Bool.and_eq_true] at h
    obtain ⟨N, hN, _, hi, _⟩ := meth_parts (callsB_meth h.1)
    have := movedTo_len (callRowL m.st.toNat m.ch k call) m.st.toNat
    simp only [natI_len]
    omega
  · simp
theorem differing_any (r : List UInt8) (w : World) (hr : IsRow r) :
    Calls Try.prog 76 #[.string (bs r), .string (bs (roundsL r.length))] w (OneI w (natI (movedTo r r.length))) := by
  have h8 := hr.hi
  have hrl := hid (rounds_len r.length)
  obtain ⟨S, hS⟩ : ∃ S, S = roundsL r.length := ⟨_, rfl⟩
  rw [← hS] at hrl ⊢
  have HSR := hid hS
  clear hr hS
  go_enter Try.func76, Try.ntmps76
  go_wp2
  go_loopg [5, 10] r.length (fun gk u v wr => ∃ k : Nat, k ≤ r.length ∧ gk = r.length - k ∧ v = .int .i64 k ∧ wr.ownsRow w.heap.size 3 1 u (movedTo r k).length (intV (natI (movedTo r k))) ∧ Below w.heap.size w wr)
  case atStart => exact ⟨0, by omega, by omega, rfl, own_of_blk (Blk.new _ _ #[]) (Nat.le_refl _) (by simp [maxLen]), (Below.refl _ _).alloc (Nat.le_refl _) _⟩
  case round =>
    obtain ⟨k, hk, rfl, rfl, ho, hb⟩ := hrel
    have hml := movedTo_len r k
    by_cases hlt : k < r.length
    · have hk2 : k < S.length := by rw [hrl.out]; exact hlt
      have hy : S[k] = b49 k := by rw [← gd_at _ _ hk2, HSR.out, rounds_at hlt]
      have HY := hid hy
      have hg := hid (gd_at r k hlt)
      have i0 : (0 : Int) ≤ (k : Int) := by omega
      have i1 : (k : Int) < (r.length : Int) := by omega
      have i2 : (k : Int) < (S.length : Int) := by omega
      have HO := hid ho
      have HB := hid hb
      have HBs := hb.size
      clear ho hb hy
      go_wp2
      go_quiet (fail)
      go_wp2_with (at_builtin; refine app_int _ (by rfl) _ _ (by rfl) w.heap.size _ _ _ (by rfl) ((own_drewN HO.out _).alloc _) (some ⟨wr.heap.size, 0, none⟩) 1 1 [(k : Int) + 1] (by rfl) (Rd.blk (wr.drewN _) [.int .i64 ((k : Int) + 1)] _) (by omega) (by simp; omega) ?_; intro v5 w5 o5 g5)
      · have h0 : ((r[k].toNat : Int) != (S[k].toNat : Int)) = true := by assumption
        have h1 : (r[k] != S[k]) = true := by
          simp only [bne_iff_ne] at h0 ⊢
          intro e
          exact h0 (by rw [e])
        have hst := hid (movedTo_yes r k (by rw [hg.out, ← HY.out]; exact h1))
        go_roundg (r.length - (k + 1))
        case measure => omega
        case rel =>
          rw [show natI (movedTo r k) ++ [(k : Int) + 1] = natI (movedTo r (k + 1)) by rw [← hst.out]; simp [natI], show (movedTo r k).length + 1 = (movedTo r (k + 1)).length by rw [← hst.out]; simp] at o5
          exact ⟨k + 1, by omega, rfl, by go_num, o5, ((below_drewN HB.out _).alloc (by simp; omega) _).grown g5 (by simp; omega) fun q hq => (HO.out.lt q hq).1⟩
      · have h0 : ((r[k].toNat : Int) != (S[k].toNat : Int)) = false := by assumption
        have h1 : (r[k] != S[k]) = false := by
          have e : (r[k].toNat : Int) = (S[k].toNat : Int) := by simpa using h0
          have e2 : r[k] = S[k] := UInt8.toNat_inj.1 (by omega)
          rw [e2]; simp
        have hst := hid (movedTo_no r k (by rw [hg.out, ← HY.out]; exact h1))
        go_roundg (r.length - (k + 1))
        case measure => omega
        case rel => exact ⟨k + 1, by omega, rfl, by go_num, by rw [← hst.out]; exact own_drewN HO.out _, below_drewN HB.out _⟩
    · obtain rfl : k = r.length := by omega
      obtain ⟨A2, c2, rfl, _⟩ := own_shape ho
      have HO := hid ho
      clear ho
      go_wp2
      go_ret
      exact ⟨_, rfl, by rw [natI_len]; exact HO.out, hb⟩
set_option maxHeartbeats 1000000 in
theorem implMovedBells_law (m : Meth) (k : List UInt8 × List UInt8) (call : List UInt8) (A : Option Addr) (n c : Nat) (w : World) (ok : LawOk m k) (rd : Rd w A n (strV m.ch)) (hcap : n ≤ c) :
    Calls Try.prog 40 #[.agg #[.string (bs m.nm), .int .i64 m.st, .slice A n c], .agg #[.string (bs k.1), .string (bs k.2)], .string (bs call)] w (ResI w (movedR m k call)) := by
  have hn : n ≤ 1048576 := by have h1 := rd.1; have h2 := ok.2.2.1; rw [strV_len] at h1; omega
  have hcl : m.ch.length = n := by have h1 := rd.1; rw [strV_len] at h1; exact h1
  have GC0 := fun (w0 : World) (rd : Rd w0 A n (strV m.ch)) => hid (goodCalls_law m k A n c w0 ok rd)
  have GC1 := fun (w0 : World) (rd : Rd w0 A n (strV m.ch)) => hid (isCall_any call w0)
  have RS := hid rd
  have HOK := hid ok
  clear rd ok
  cases hg0 : callsB m k
  · rw [hg0] at GC0
    have HR := hid (show movedR m k call = ([], false) from by unfold movedR; rw [if_neg (by simp [hg0])])
    obtain ⟨nm, st, ch⟩ := m
    obtain ⟨k1, k2⟩ := k
    dsimp only at *
    clear HOK hg0
    go_enter Try.func40, Try.ntmps40
    go_wp2_with fail
    obtain ⟨B2, hsz, HC⟩ := box_mk w nm k1 k2 st (.slice A n c)
    have R2 := hid (RS.out.below B2)
    have HB2 := hid B2
    have hw2 := B2.size
    generalize ((w.alloc (.cells #[.string (bs nm), .int .i64 st, .slice A n c] 30)).alloc (.cells #[.string (bs k1), .string (bs k2)] 32)) = W2 at *
    clear B2 hsz
    have HS5 : ∀ W', Below W2.heap.size W2 W' → W'.cell? ⟨w.heap.size, 0, none⟩ = some (.string (bs nm)) ∧ W'.cell? ⟨w.heap.size, 1, none⟩ = some (.int .i64 st) ∧ W'.cell? ⟨w.heap.size, 2, none⟩ = some (.slice A n c) ∧ W'.cell? ⟨w.heap.size + 1, 0, none⟩ = some (.string (bs k1)) ∧ W'.cell? ⟨w.heap.size + 1, 1, none⟩ = some (.string (bs k2)) := fun W' h => by
      obtain ⟨⟨a0, a1, a2⟩, a3, a4⟩ := HC.out _ h
      exact ⟨a0, a1, a2, a3, a4⟩
    have HHS5 := hid HS5
    clear HS5 HC
    have E0 : Hid (Below W2.heap.size W2 W2) := hid (Below.refl _ _)
    obtain ⟨n0, n1, n2, p0, p1⟩ := HHS5.out _ E0.out
    refine (GC0 _ (R2.out.below E0.out)).out.mono ?_
    rintro e wx0 ⟨rfl, bx⟩
    have E1 := hid (E0.out.trans (bx.mono E0.out.size))
    clear bx
    clear n0 n1 n2 p0 p1
    obtain ⟨n0, n1, n2, p0, p1⟩ := HHS5.out _ E1.out
    go_wp2
    go_ret2
    rw [HR.out]
    exact ResI.none _ _ (HB2.out.trans (E1.out.mono hw2))
  · rw [hg0] at GC0
    cases hg1 : isCallL call
    · rw [hg1] at GC1
      have HR := hid (show movedR m k call = ([], false) from by unfold movedR; rw [if_neg (by simp [hg1])])
      obtain ⟨nm, st, ch⟩ := m
      obtain ⟨k1, k2⟩ := k
      dsimp only at *
      clear HOK hg0 hg1
      go_enter Try.func40, Try.ntmps40
      go_wp2_with fail
      obtain ⟨B2, hsz, HC⟩ := box_mk w nm k1 k2 st (.slice A n c)
      have R2 := hid (RS.out.below B2)
      have HB2 := hid B2
      have hw2 := B2.size
      generalize ((w.alloc (.cells #[.string (bs nm), .int .i64 st, .slice A n c] 30)).alloc (.cells #[.string (bs k1), .string (bs k2)] 32)) = W2 at *
      clear B2 hsz
      have HS5 : ∀ W', Below W2.heap.size W2 W' → W'.cell? ⟨w.heap.size, 0, none⟩ = some (.string (bs nm)) ∧ W'.cell? ⟨w.heap.size, 1, none⟩ = some (.int .i64 st) ∧ W'.cell? ⟨w.heap.size, 2, none⟩ = some (.slice A n c) ∧ W'.cell? ⟨w.heap.size + 1, 0, none⟩ = some (.string (bs k1)) ∧ W'.cell? ⟨w.heap.size + 1, 1, none⟩ = some (.string (bs k2)) := fun W' h => by
        obtain ⟨⟨a0, a1, a2⟩, a3, a4⟩ := HC.out _ h
        exact ⟨a0, a1, a2, a3, a4⟩
      have HHS5 := hid HS5
      clear HS5 HC
      have E0 : Hid (Below W2.heap.size W2 W2) := hid (Below.refl _ _)
      obtain ⟨n0, n1, n2, p0, p1⟩ := HHS5.out _ E0.out
      refine (GC0 _ (R2.out.below E0.out)).out.mono ?_
      rintro e wx0 ⟨rfl, bx⟩
      have E1 := hid (E0.out.trans (bx.mono E0.out.size))
      clear bx
      clear n0 n1 n2 p0 p1
      obtain ⟨n0, n1, n2, p0, p1⟩ := HHS5.out _ E1.out
      go_wp2_with fail
      refine (GC1 _ (R2.out.below E1.out)).out.mono ?_
      rintro e w' ⟨rfl, rfl⟩
      have E2 := E1
      clear n0 n1 n2 p0 p1
      obtain ⟨n0, n1, n2, p0, p1⟩ := HHS5.out _ E2.out
      go_wp2
      go_ret2
      rw [HR.out]
      exact ResI.none _ _ (HB2.out.trans (E2.out.mono hw2))
    · rw [hg1] at GC1
      have hcalls : callsB m k = true := by exact hg0
      have HR := hid (show movedR m k call = (natI (movedTo (callRowL m.st.toNat m.ch k call) m.st.toNat), true) from by unfold movedR; rw [if_pos (by simp [hg0, hg1])])
      have hm : methB m = true := callsB_meth (m := m) (k := k) hcalls
      have hb1 := callsB_bob hcalls
      have hb2 := callsB_single hcalls
      obtain ⟨N, hN, lo, hi, l1, l40, hs⟩ := meth_parts hm
      clear hm hcalls
      obtain ⟨nm, st, ch⟩ := m
      obtain ⟨k1, k2⟩ := k
      dsimp only at *
      subst hN
      have BC1 := fun (w0 : World) => hid (rounds_any N w0 hi)
      have BC2 := fun (w0 : World) => hid (by have h := differing_any (callRowL N ch (k1, k2) call) w0 (callRowL_row lo hi _ _ _); rw [callRowL_len] at h; exact h)
      have BC0 := fun (w0 : World) (rd : Rd w0 A n (strV ch)) => hid (callRow_any N nm call ch (k1, k2) A n c w0 lo hi rd hn hcap l1 hs hb1 hb2)
      clear HOK hb1 hb2 hs hcl hg0 hg1
      go_enter Try.func40, Try.ntmps40
      go_wp2_with fail
      obtain ⟨B2, hsz, HC⟩ := box_mk w nm k1 k2 (N : Int) (.slice A n c)
      have R2 := hid (RS.out.below B2)
      have HB2 := hid B2
      have hw2 := B2.size
      generalize ((w.alloc (.cells #[.string (bs nm), .int .i64 (N : Int), .slice A n c] 30)).alloc (.cells #[.string (bs k1), .string (bs k2)] 32)) = W2 at *
      clear B2 hsz
      have HS5 : ∀ W', Below W2.heap.size W2 W' → W'.cell? ⟨w.heap.size, 0, none⟩ = some (.string (bs nm)) ∧ W'.cell? ⟨w.heap.size, 1, none⟩ = some (.int .i64 (N : Int)) ∧ W'.cell? ⟨w.heap.size, 2, none⟩ = some (.slice A n c) ∧ W'.cell? ⟨w.heap.size + 1, 0, none⟩ = some (.string (bs k1)) ∧ W'.cell? ⟨w.heap.size + 1, 1, none⟩ = some (.string (bs k2)) := fun W' h => by
        obtain ⟨⟨a0, a1, a2⟩, a3, a4⟩ := HC.out _ h
        exact ⟨a0, a1, a2, a3, a4⟩
      have HHS5 := hid HS5
      clear HS5 HC
      have E0 : Hid (Below W2.heap.size W2 W2) := hid (Below.refl _ _)
      obtain ⟨n0, n1, n2, p0, p1⟩ := HHS5.out _ E0.out
      refine (GC0 _ (R2.out.below E0.out)).out.mono ?_
      rintro e wx0 ⟨rfl, bx⟩
      have E1 := hid (E0.out.trans (bx.mono E0.out.size))
      clear bx
      clear n0 n1 n2 p0 p1
      obtain ⟨n0, n1, n2, p0, p1⟩ := HHS5.out _ E1.out
      go_wp2_with fail
      refine (GC1 _ (R2.out.below E1.out)).out.mono ?_
      rintro e w' ⟨rfl, rfl⟩
      have E2 := E1
      clear n0 n1 n2 p0 p1
      obtain ⟨n0, n1, n2, p0, p1⟩ := HHS5.out _ E2.out
      go_wp2_with fail
      go_region_held3 (fun w' => w'.cell? ⟨w.heap.size, 0, none⟩ = some (.string (bs nm)) ∧ w'.cell? ⟨w.heap.size, 1, none⟩ = some (.int .i64 (N : Int)) ∧ w'.cell? ⟨w.heap.size, 2, none⟩ = some (.slice A n c) ∧ w'.cell? ⟨w.heap.size + 1, 0, none⟩ = some (.string (bs k1)) ∧ w'.cell? ⟨w.heap.size + 1, 1, none⟩ = some (.string (bs k2)))
        (first | exact HHS5.out _ E2.out | exact HHS5.out _ E2.out.drew | exact HHS5.out _ Fa | exact HHS5.out _ Fb)
        (first | (go_at_call 70; refine (BC0 _ (R2.out.below E2.out.drew)).out.mono ?_; rintro e wa ⟨rfl, ba⟩; have Fa := E2.out.drew.trans (ba.mono E2.out.size)) | (go_at_call 77; refine (BC1 _).out.mono ?_; rintro e w' ⟨rfl, rfl⟩) | (go_at_call 76; refine (BC2 _).out.mono ?_; rintro e wb ⟨vb, rfl, ob, bb⟩; obtain ⟨Ab, cb, rfl, _⟩ := own_shape ob; have Fb := Fa.trans (bb.mono Fa.size)))
      have E3 := hid Fb
      have OB := hid ob
      have hsa := Fa.size
      clear ba bb ob Fa Fb n0 n1 n2 p0 p1
      obtain ⟨n0, n1, n2, p0, p1⟩ := HHS5.out _ E3.out
      go_wp2
      go_ret2
      rw [HR.out]
      exact ⟨_, rfl, own_mono OB.out (Nat.le_trans hw2 hsa), HB2.out.trans (E3.out.mono hw2)⟩
set_option maxHeartbeats 1000000 in
theorem specMovedBells_law (m : Meth) (k : List UInt8 × List UInt8) (call : List UInt8) (A : Option Addr) (n c : Nat) (w : World) (ok : LawOk m k) (rd : Rd w A n (strV m.ch)) (hcap : n ≤ c) :
    Calls Try.prog 39 #[.agg #[.string (bs m.nm), .int .i64 m.st, .slice A n c], .agg #[.string (bs k.1), .string (bs k.2)], .string (bs call)] w (ResI w (movedR m k call)) := by
  have hn : n ≤ 1048576 := by have h1 := rd.1; have h2 := ok.2.2.1; rw [strV_len] at h1; omega
  have hcl : m.ch.length = n := by have h1 := rd.1; rw [strV_len] at h1; exact h1
  have GC0 := fun (w0 : World) (rd : Rd w0 A n (strV m.ch)) => hid (l8Asked_any m k call A n c w0 ok rd)
  have RS := hid rd
  have HOK := hid ok
  clear rd ok
  cases hg0 : callsB m k && isCallL call
  · rw [hg0] at GC0
    have HR := hid (show movedR m k call = ([], false) from by unfold movedR; rw [if_neg (by rw [hg0]; simp)])
    obtain ⟨nm, st, ch⟩ := m
    obtain ⟨k1, k2⟩ := k
    dsimp only at *
    clear HOK hg0
    go_enter Try.func39, Try.ntmps39
    go_wp2_with fail
    obtain ⟨B2, hsz, HC⟩ := box_mk w nm k1 k2 st (.slice A n c)
    have R2 := hid (RS.out.below B2)
    have HB2 := hid B2
    have hw2 := B2.size
    generalize ((w.alloc (.cells #[.string (bs nm), .int .i64 st, .slice A n c] 30)).alloc (.cells #[.string (bs k1), .string (bs k2)] 32)) = W2 at *
    clear B2 hsz
    have HS5 : ∀ W', Below W2.heap.size W2 W' → W'.cell? ⟨w.heap.size, 0, none⟩ = some (.string (bs nm)) ∧ W'.cell? ⟨w.heap.size, 1, none⟩ = some (.int .i64 st) ∧ W'.cell? ⟨w.heap.size, 2, none⟩ = some (.slice A n c) ∧ W'.cell? ⟨w.heap.size + 1, 0, none⟩ = some (.string (bs k1)) ∧ W'.cell? ⟨w.heap.size + 1, 1, none⟩ = some (.string (bs k2)) := fun W' h => by
      obtain ⟨⟨a0, a1, a2⟩, a3, a4⟩ := HC.out _ h
      exact ⟨a0, a1, a2, a3, a4⟩
    have HHS5 := hid HS5
    clear HS5 HC
    have E0 : Hid (Below W2.heap.size W2 W2) := hid (Below.refl _ _)
    obtain ⟨n0, n1, n2, p0, p1⟩ := HHS5.out _ E0.out
    refine (GC0 _ (R2.out.below E0.out)).out.mono ?_
    rintro e wx0 ⟨rfl, bx⟩
    have E1 := hid (E0.out.trans (bx.mono E0.out.size))
    clear bx
    clear n0 n1 n2 p0 p1
    obtain ⟨n0, n1, n2, p0, p1⟩ := HHS5.out _ E1.out
    go_wp2
    go_ret2
    rw [HR.out]
    exact ResI.none _ _ (HB2.out.trans (E1.out.mono hw2))
  · rw [hg0] at GC0
    have hcalls : callsB m k = true := by simp only [Bool.and_eq_true] at hg0; exact hg0.1
    have HR := hid (show movedR m k call = (natI (movedTo (callRowL m.st.toNat m.ch k call) m.st.toNat), true) from by unfold movedR; rw [if_pos (by simp [hg0])])
    have hm : methB m = true := callsB_meth (m := m) (k := k) hcalls
    have hb1 := callsB_bob hcalls
    have hb2 := callsB_single hcalls
    obtain ⟨N, hN, lo, hi, l1, l40, hs⟩ := meth_parts hm
    clear hm hcalls
    obtain ⟨nm, st, ch⟩ := m
    obtain ⟨k1, k2⟩ := k
    dsimp only at *
    subst hN
    have BC0 := fun (w0 : World) (rd : Rd w0 A n (strV ch)) => hid (l8Row_any N nm call ch (k1, k2) A n c w0 lo hi rd hn hcap l1 hs hb1 hb2)
    clear HOK hb1 hb2 hs hcl hg0
    go_enter Try.func39, Try.ntmps39
    go_wp2_with fail
    obtain ⟨B2, hsz, HC⟩ := box_mk w nm k1 k2 (N : Int) (.slice A n c)
    have R2 := hid (RS.out.below B2)
    have HB2 := hid B2
    have hw2 := B2.size
    generalize ((w.alloc (.cells #[.string (bs nm), .int .i64 (N : Int), .slice A n c] 30)).alloc (.cells #[.string (bs k1), .string (bs k2)] 32)) = W2 at *
    clear B2 hsz
    have HS5 : ∀ W', Below W2.heap.size W2 W' → W'.cell? ⟨w.heap.size, 0, none⟩ = some (.string (bs nm)) ∧ W'.cell? ⟨w.heap.size, 1, none⟩ = some (.int .i64 (N : Int)) ∧ W'.cell? ⟨w.heap.size, 2, none⟩ = some (.slice A n c) ∧ W'.cell? ⟨w.heap.size + 1, 0, none⟩ = some (.string (bs k1)) ∧ W'.cell? ⟨w.heap.size + 1, 1, none⟩ = some (.string (bs k2)) := fun W' h => by
      obtain ⟨⟨a0, a1, a2⟩, a3, a4⟩ := HC.out _ h
      exact ⟨a0, a1, a2, a3, a4⟩
    have HHS5 := hid HS5
    clear HS5 HC
    have E0 : Hid (Below W2.heap.size W2 W2) := hid (Below.refl _ _)
    obtain ⟨n0, n1, n2, p0, p1⟩ := HHS5.out _ E0.out
    refine (GC0 _ (R2.out.below E0.out)).out.mono ?_
    rintro e wx0 ⟨rfl, bx⟩
    have E1 := hid (E0.out.trans (bx.mono E0.out.size))
    clear bx
    clear n0 n1 n2 p0 p1
    obtain ⟨n0, n1, n2, p0, p1⟩ := HHS5.out _ E1.out
    go_wp2_with fail
    refine (BC0 _ (R2.out.below E1.out)).out.mono ?_
    rintro e wx1 ⟨rfl, bx⟩
    have E2 := hid (E1.out.trans (bx.mono E1.out.size))
    clear bx
    clear n0 n1 n2 p0 p1
    obtain ⟨n0, n1, n2, p0, p1⟩ := HHS5.out _ E2.out
    go_wp2
    have HE2 := hid E2.out
    have h8 : N ≤ 8 := hi
    have HROW := hid (callRowL_row lo hi ch (k1, k2) call)
    have hrl := hid (callRowL_len N ch (k1, k2) call)
    obtain ⟨r, hr⟩ : ∃ r, r = callRowL N ch (k1, k2) call := ⟨_, rfl⟩
    rw [← hr] at HROW hrl
    have HRR := hid hr
    rw [← hr]
    clear hr n0 n1 n2 p0 p1 BC0 GC0
    go_loopg [9, 10] N (fun gk u v wr => ∃ q : Nat, q ≤ N ∧ gk = N - q ∧ v = .int .i64 ((q : Int) + 1) ∧ wr.ownsRow W2.heap.size 3 1 u (movedTo r q).length (intV (natI (movedTo r q))) ∧ Below W2.heap.size W2 wr)
    case atStart => exact ⟨0, by omega, by omega, rfl, World.ownsRow_nil _ _ _ _, HE2.out⟩
    case round =>
      obtain ⟨q, hq, rfl, rfl, ho, hb⟩ := hrel
      have hml := movedTo_len r q
      have HO := hid ho
      have HB := hid hb
      have HBs := hb.size
      have hb48 := hid hrl.out
      clear ho hb
      by_cases hlt : q < N
      · have hq2 : q < r.length := by rw [hrl.out]; exact hlt
        have hrg := HROW.out.rng q hq2
        rw [gd_at _ _ hq2] at hrg
        have hAT := hid (fun w => l1At_any r q ((q : Int) + 1) w hq2 (by omega) rfl (by rw [hrl.out]; omega))
        have hg := hid (gd_at r q hq2)
        have hi1 : (q : Int) + 1 ≤ (r.length : Int) := by omega
        have hbn := b49_nat q (by omega)
        cases hc : (r.getD q 0 != b49 q)
        · have hst := hid (movedTo_no r q hc)
          have he : r[q] = b49 q := by rw [hg.out] at hc; simpa using hc
          have hcmp : (((r[q].toNat : Nat) : Int) - 48 != (q : Int) + 1) = false := by rw [he, hbn]; simp; omega
          clear hc he hbn
          go_wp2_with fail
          refine (hAT.out _).mono ?_
          rintro e w' ⟨rfl, rfl⟩
          go_wp2
          go_roundg (N - (q + 1))
          case measure => omega
          case rel => exact ⟨q + 1, by omega, rfl, by go_num, by rw [← hst.out]; exact HO.out, HB.out⟩
        · have hst := hid (movedTo_yes r q hc)
          have he : r[q] ≠ b49 q := by rw [hg.out] at hc; simpa using hc
          have hcmp : (((r[q].toNat : Nat) : Int) - 48 != (q : Int) + 1) = true := by
            simp only [bne_iff_ne]
            intro e2
            exact he (UInt8.toNat_inj.1 (by rw [hbn]; omega))
          clear hc he hbn
          go_wp2_with fail
          refine (hAT.out _).mono ?_
          rintro e w' ⟨rfl, rfl⟩
          go_wp2_with (at_builtin; refine app_int _ (by rfl) _ _ (by rfl) W2.heap.size _ _ _ (by rfl) (HO.out.alloc _) (some ⟨wr.heap.size, 0, none⟩) 1 1 [(q : Int) + 1] (by rfl) (Rd.blk _ [.int .i64 ((q : Int) + 1)] _) (by omega) (by simp; omega) ?_; intro v5 w5 o5 g5)
          go_roundg (N - (q + 1))
          case measure => omega
          case rel =>
            rw [show natI (movedTo r q) ++ [(q : Int) + 1] = natI (movedTo r (q + 1)) by rw [← hst.out]; simp [natI], show (movedTo r q).length + 1 = (movedTo r (q + 1)).length by rw [← hst.out]; simp] at o5
            exact ⟨q + 1, by omega, rfl, by go_num, o5, (HB.out.alloc (by omega) _).grown g5 (by simp; omega) fun q hq => (HO.out.lt q hq).1⟩
      · obtain rfl : q = N := by omega
        obtain ⟨A2, c2, rfl, _⟩ := own_shape HO.out
        have hi1 : ¬ (q : Int) + 1 ≤ (r.length : Int) := by rw [hrl.out]; omega
        go_wp2
        go_ret2
        rw [HR.out]
        have e : movedTo (callRowL (q : Int).toNat ch (k1, k2) call) (q : Int).toNat = movedTo r q := by rw [Int.toNat_natCast, ← HRR.out]
        dsimp only
        rw [e]
        exact ⟨_, rfl, by rw [natI_len]; exact own_mono HO.out hw2, HB2.out.trans (HB.out.mono hw2)⟩
end Go.Proofs.Ytdmipllbifofmaa
