/- The statement of FnExactPartRows: called with any arguments that can be read as data, the law returns true, and every argument reads afterwards as it read before. No conditions. -/
import Derived.Test.YtgljhhjfinngjaaPartR
import Derived.Test.YtgljhhjfinngjaaExpR
import Derived.Test.YtgljhhjfinngjaaExpL
import Derived.Test.YtgljhhjfinngjaaRows
import Derived.ShutString
import Derived.ChangeOld
set_option linter.unusedVariables false
set_option linter.unusedSimpArgs false
set_option maxRecDepth 100000
namespace Go.Proofs.Ytgljhhjfinngjaa
open Go.RowKit

theorem rowsR_ok (N : Nat) (cs : List (List UInt8)) (k : List UInt8 × List UInt8) (t : List UInt8) (h : (rowsR N cs k t).2 = true) : rowsR N cs k t = (touchL N cs k t, true) := by
  unfold rowsR at h ⊢
  split
  · rfl
  · rename_i h2; rw [if_neg h2] at h; cases h
/-- What PartRows answers. -/
def partRowsR (m : Meth) (k : List UInt8 × List UInt8) (t : List UInt8) : List (List UInt8) × Bool := if (touchRowsR m k t).2 = true then (leastsL (headTo m.st.toNat m.ch k t t.length) (touchL m.st.toNat m.ch k t), true) else ([], false)
theorem touchRowsR_ok {m : Meth} {k : List UInt8 × List UInt8} {t : List UInt8} (h : (touchRowsR m k t).2 = true) : (callsB m k && goodTouch t) = true ∧ t.length * m.ch.length ≤ 800 ∧ touchRowsR m k t = (touchL m.st.toNat m.ch k t, true) := by
  unfold touchRowsR at h ⊢
  split
  · rename_i h1
    rw [if_pos h1] at h
    refine ⟨h1, ?_, rowsR_ok _ _ _ _ h⟩
    unfold rowsR at h
    split at h
    · assumption
    · cases h
  · rename_i h1; rw [if_neg h1] at h; cases h
theorem partRowsR_le (m : Meth) (k : List UInt8 × List UInt8) (t : List UInt8) : (partRowsR m k t).1.length ≤ 4000000 := by
  unfold partRowsR
  split
  · rename_i h
    obtain ⟨_, h2, _⟩ := touchRowsR_ok h
    dsimp only
    rw [leastsL_len, touchL_len]; omega
  · simp
set_option maxHeartbeats 1000000 in
theorem implPartRows_law (m : Meth) (k : List UInt8 × List UInt8) (t : List UInt8) (A : Option Addr) (n c : Nat) (w : World) (ok : LawOk m k) (rd : Rd w A n (strV m.ch)) (hcap : n ≤ c) (lt : t.length ≤ 1048576) :
    Calls Try.prog 32 #[.agg #[.string (bs m.nm), .int .i64 m.st, .slice A n c], .agg #[.string (bs k.1), .string (bs k.2)], .string (bs t)] w (ResS w (partRowsR m k t)) := by
  have hcl : m.ch.length = n := by have h1 := rd.1; rw [strV_len] at h1; exact h1
  have GC0 := fun (w0 : World) (rd : Rd w0 A n (strV m.ch)) => hid (implTouchRows_law m k t A n c w0 ok rd hcap lt)
  have RS := hid rd
  clear rd ok
  cases hg0 : (touchRowsR m k t).2
  · have HR := hid (show partRowsR m k t = ([], false) from by unfold partRowsR; rw [if_neg (by rw [hg0]; simp)])
    have HG := hid hg0
    generalize touchRowsR m k t = Q at *
    obtain ⟨Q1, Q2⟩ := Q
    obtain rfl : Q2 = false := HG.out
    rw [HR.out]
    obtain ⟨nm, st, ch⟩ := m
    obtain ⟨k1, k2⟩ := k
    dsimp only at *
    clear hg0 HG HR hcl
    go_enter Try.func32, Try.ntmps32
    go_wp2_with fail
    obtain ⟨B2, hsz, HC⟩ := box_mk w nm k1 k2 st (.slice A n c)
    refine (GC0 _ (RS.out.below B2)).out.mono ?_
    rintro e w1 ⟨v1, rfl, o1, b1⟩
    have HB := hid (B2.trans (b1.mono B2.size))
    obtain ⟨A1, c1, rfl, _⟩ := own_shape o1
    clear o1 b1 B2 hsz HC
    go_wp2
    go_ret2
    exact ResS.none _ _ HB.out
  · obtain ⟨hg, h800, hT⟩ := touchRowsR_ok hg0
    have HR := hid (show partRowsR m k t = (leastsL (headTo m.st.toNat m.ch k t t.length) (touchL m.st.toNat m.ch k t), true) from by unfold partRowsR; rw [if_pos hg0])
    rw [HR.out]
    simp only [hT] at GC0
    have hcalls : callsB m k = true := by simp only [Bool.and_eq_true] at hg; exact hg.1
    have hgt : goodTouch t = true := by simp only [Bool.and_eq_true] at hg; exact hg.2
    have hm : methB m = true := callsB_meth (m := m) (k := k) hcalls
    have hb1 := callsB_bob hcalls
    have hb2 := callsB_single hcalls
    obtain ⟨N, hN, lo, hi, l1, l40, hs⟩ := meth_parts hm
    clear hm hcalls HR hg hg0 hT
    obtain ⟨nm, st, ch⟩ := m
    obtain ⟨k1, k2⟩ := k
    dsimp only at *
    subst hN
    simp only [Int.toNat_natCast] at *
    have BC0 := fun (w0 : World) (rd : Rd w0 A n (strV ch)) => hid (touchEnd_any N nm t ch (k1, k2) A n c w0 lo hi rd (by omega) l1 hs hb1 hb2 (goodTouch_len hgt) (goodTouch_calls hgt))
    have hTL := hid (touchL_len N ch (k1, k2) t)
    have BC1 := fun (w0 : World) A1 c1 (rd : Rd w0 A1 (touchL N ch (k1, k2) t).length (strV (touchL N ch (k1, k2) t))) => hid (leastOnes_any N (headTo N ch (k1, k2) t t.length) (touchL N ch (k1, k2) t) A1 _ c1 w0 (headTo_row lo hi ch (k1, k2) t _).1 (headTo_row lo hi ch (k1, k2) t _).2 rd (by rw [hTL.out]; omega) (touchL_rows lo hi ch (k1, k2) t))
    clear hb1 hb2 hs hgt hcl h800
    go_enter Try.func32, Try.ntmps32
    go_wp2_with fail
    obtain ⟨B2, hsz, HC⟩ := box_mk w nm k1 k2 (N : Int) (.slice A n c)
    have R2 := hid (RS.out.below B2)
    have HB2 := hid B2
    have hw2 := B2.size
    generalize ((w.alloc (.cells #[.string (bs nm), .int .i64 (N : Int), .slice A n c] 31)).alloc (.cells #[.string (bs k1), .string (bs k2)] 33)) = W2 at *
    clear B2 hsz
    have HS5 : ∀ W', Below W2.heap.size W2 W' → W'.cell? ⟨w.heap.size, 0, none⟩ = some (.string (bs nm)) ∧ W'.cell? ⟨w.heap.size, 1, none⟩ = some (.int .i64 (N : Int)) ∧ W'.cell? ⟨w.heap.size, 2, none⟩ = some (.slice A n c) ∧ W'.cell? ⟨w.heap.size + 1, 0, none⟩ = some (.string (bs k1)) ∧ W'.cell? ⟨w.heap.size + 1, 1, none⟩ = some (.string (bs k2)) := fun W' h => by
      obtain ⟨⟨a0, a1, a2⟩, a3, a4⟩ := HC.out _ h
      exact ⟨a0, a1, a2, a3, a4⟩
    have HHS5 := hid HS5
    clear HS5 HC
    refine (GC0 _ R2.out).out.mono ?_
    rintro e w1 ⟨v1, rfl, o1, b1⟩
    obtain ⟨A1, c1, rfl, _, _, rd1, _⟩ := own_shape o1
    have E1 := hid b1
    have RD1 := hid rd1
    clear o1 b1 rd1
    obtain ⟨n0, n1, n2, p0, p1⟩ := HHS5.out _ E1.out
    go_wp2_with fail
    refine (BC0 _ (R2.out.below E1.out)).out.mono ?_
    rintro e wa ⟨rfl, ba⟩
    have Fa := E1.out.trans (ba.mono E1.out.size)
    have RDa := RD1.out.below ba
    have HFa := hid Fa
    have HRDa := hid RDa
    have hwa := Fa.size
    clear ba RDa Fa n0 n1 n2 p0 p1
    go_wp2_with fail
    refine (BC1 _ _ _ HRDa.out).out.mono ?_
    rintro e wb ⟨vb, rfl, ob, bb⟩
    have OB := hid ob
    obtain ⟨Ab, cb, rfl, _⟩ := own_shape ob
    have HFb := hid (HFa.out.trans (bb.mono hwa))
    clear ob bb
    go_wp2
    go_ret2
    exact ⟨_, rfl, own_mono OB.out (Nat.le_trans hw2 hwa), HB2.out.trans (HFb.out.mono hw2)⟩
set_option maxHeartbeats 1000000 in
theorem specPartRows_law (m : Meth) (k : List UInt8 × List UInt8) (t : List UInt8) (A : Option Addr) (n c : Nat) (w : World) (ok : LawOk m k) (rd : Rd w A n (strV m.ch)) (hcap : n ≤ c) (lt : t.length ≤ 1048576) :
    Calls Try.prog 31 #[.agg #[.string (bs m.nm), .int .i64 m.st, .slice A n c], .agg #[.string (bs k.1), .string (bs k.2)], .string (bs t)] w (ResS w (partRowsR m k t)) := by
  have hcl : m.ch.length = n := by have h1 := rd.1; rw [strV_len] at h1; exact h1
  have GC0 := fun (w0 : World) (rd : Rd w0 A n (strV m.ch)) => hid (specTouchRows_law m k t A n c w0 ok rd hcap lt)
  have RS := hid rd
  clear rd ok
  cases hg0 : (touchRowsR m k t).2
  · have HR := hid (show partRowsR m k t = ([], false) from by unfold partRowsR; rw [if_neg (by rw [hg0]; simp)])
    have HG := hid hg0
    generalize touchRowsR m k t = Q at *
    obtain ⟨Q1, Q2⟩ := Q
    obtain rfl : Q2 = false := HG.out
    rw [HR.out]
    obtain ⟨nm, st, ch⟩ := m
    obtain ⟨k1, k2⟩ := k
    dsimp only at *
    clear hg0 HG HR hcl
    go_enter Try.func31, Try.ntmps31
    go_wp2_with fail
    obtain ⟨B2, hsz, HC⟩ := box_mk w nm k1 k2 st (.slice A n c)
    refine (GC0 _ (RS.out.below B2)).out.mono ?_
    rintro e w1 ⟨v1, rfl, o1, b1⟩
    have HB := hid (B2.trans (b1.mono B2.size))
    obtain ⟨A1, c1, rfl, _⟩ := own_shape o1
    clear o1 b1 B2 hsz HC
    go_wp2
    go_ret2
    exact ResS.none _ _ HB.out
  · obtain ⟨hg, h800, hT⟩ := touchRowsR_ok hg0
    have HR := hid (show partRowsR m k t = (leastsL (headTo m.st.toNat m.ch k t t.length) (touchL m.st.toNat m.ch k t), true) from by unfold partRowsR; rw [if_pos hg0])
    rw [HR.out]
    simp only [hT] at GC0
    have hcalls : callsB m k = true := by simp only [Bool.and_eq_true] at hg; exact hg.1
    have hgt : goodTouch t = true := by simp only [Bool.and_eq_true] at hg; exact hg.2
    have hm : methB m = true := callsB_meth (m := m) (k := k) hcalls
    have hb1 := callsB_bob hcalls
    have hb2 := callsB_single hcalls
    obtain ⟨N, hN, lo, hi, l1, l40, hs⟩ := meth_parts hm
    clear hm hcalls HR hg hg0 hT
    obtain ⟨nm, st, ch⟩ := m
    obtain ⟨k1, k2⟩ := k
    dsimp only at *
    subst hN
    simp only [Int.toNat_natCast] at *
    have BC0 := fun (w0 : World) (rd : Rd w0 A n (strV ch)) => hid (l12Rows_any N nm t ch (k1, k2) A n c w0 lo hi rd (by omega) hcap l1 hs hb1 hb2 (goodTouch_len hgt))
    clear hb1 hb2 hs hgt hcl h800
    go_enter Try.func31, Try.ntmps31
    go_wp2_with fail
    obtain ⟨B2, hsz, HC⟩ := box_mk w nm k1 k2 (N : Int) (.slice A n c)
    have R2 := hid (RS.out.below B2)
    have HB2 := hid B2
    have hw2 := B2.size
    generalize ((w.alloc (.cells #[.string (bs nm), .int .i64 (N : Int), .slice A n c] 31)).alloc (.cells #[.string (bs k1), .string (bs k2)] 33)) = W2 at *
    clear B2 hsz
    have HS5 : ∀ W', Below W2.heap.size W2 W' → W'.cell? ⟨w.heap.size, 0, none⟩ = some (.string (bs nm)) ∧ W'.cell? ⟨w.heap.size, 1, none⟩ = some (.int .i64 (N : Int)) ∧ W'.cell? ⟨w.heap.size, 2, none⟩ = some (.slice A n c) ∧ W'.cell? ⟨w.heap.size + 1, 0, none⟩ = some (.string (bs k1)) ∧ W'.cell? ⟨w.heap.size + 1, 1, none⟩ = some (.string (bs k2)) := fun W' h => by
      obtain ⟨⟨a0, a1, a2⟩, a3, a4⟩ := HC.out _ h
      exact ⟨a0, a1, a2, a3, a4⟩
    have HHS5 := hid HS5
    clear HS5 HC
    refine (GC0 _ R2.out).out.mono ?_
    rintro e w1 ⟨v1, rfl, o1, b1⟩
    obtain ⟨A1, c1, rfl, _, _, rd1, _⟩ := own_shape o1
    have E1 := hid b1
    have RD1 := hid rd1
    clear o1 b1 rd1
    obtain ⟨n0, n1, n2, p0, p1⟩ := HHS5.out _ E1.out
    go_wp2_with fail
    refine (BC0 _ (R2.out.below E1.out)).out.mono ?_
    rintro e w3 ⟨v3, rfl, o3, b3⟩
    have OB := hid o3
    obtain ⟨A3, c3, rfl, _⟩ := own_shape o3
    have HFb := hid (E1.out.trans (b3.mono E1.out.size))
    clear o3 b3 n0 n1 n2 p0 p1
    go_wp2
    go_ret2
    exact ⟨_, rfl, own_mono OB.out (Nat.le_trans hw2 E1.out.size), HB2.out.trans (HFb.out.mono hw2)⟩
end Go.Proofs.Ytgljhhjfinngjaa

set_option linter.unusedVariables false
set_option linter.unusedSimpArgs false
set_option maxRecDepth 100000
namespace Go.Proofs.Ytgljhhjfinngjaa
open Go.RowKit

set_option maxHeartbeats 4000000 in
theorem LawPartRows.walk (v : Value) (m : Meth) (u : Value) (k : List UInt8 × List UInt8) (t : List UInt8) (w : World) (hv : InMethod w v m) (hu : InCalls w u k) (wt : t.length ≤ maxLen) :
    Calls Try.prog 8 #[v, u, .string (bs t)] w fun e w' => e = .returned (.bool true) ∧ Below w.heap.size w w' := by
  obtain ⟨nm, st, ch⟩ := m
  obtain ⟨k1, k2⟩ := k
  have SZ := fun left w0 (hw0 : InMethod w0 v ⟨nm, st, ch⟩) h0 h1 => hid (szMethod_any ⟨nm, st, ch⟩ v left w0 hw0 h0 h1)
  have HIM := hid (fun (w0 : World) (hb : Below w.heap.size w w0) => inMethod_below hv hb)
  obtain ⟨_, rfl, hn, wst, A, n, c, rfl, hn2, hr, hs⟩ := hv
  obtain ⟨rfl, hk1, hk2⟩ := hu
  have SK := fun left w0 h0 h1 => hid (szCalls_any (k1, k2) left w0 hk1 hk2 h0 h1)
  dsimp only at *
  have hln : ch.length = n := by have := hr.1; rw [strV_len] at this; exact this
  have HR := hid hr
  have HS := hid hs
  clear hr hs
  by_cases lt : t.length ≤ 1048576
  case neg =>
    have hi : (1048576 : Int) < (t.length : Int) := by omega
    go_enter Try.func8, Try.ntmps8
    go_wp2
    go_ret
    exact ⟨rfl, ((Below.refl _ _).alloc (Nat.le_refl _) _).alloc (by simp) _⟩
  have it : ¬ (1048576 : Int) < (t.length : Int) := by omega
  go_enter Try.func8, Try.ntmps8
  go_wp2_with fail
  obtain ⟨B2, hsz, HC⟩ := box_mk2 24 26 w nm k1 k2 st (.slice A n c)
  generalize ((w.alloc (.cells #[.string (bs nm), .int .i64 st, .slice A n c] 24)).alloc (.cells #[.string (bs k1), .string (bs k2)] 26)) = W2 at *
  have HB2 := hid B2
  have HIM2 := hid (HIM.out W2 B2)
  have R2 := hid (HR.out.below B2)
  have hw2 : w.heap.size ≤ W2.heap.size := B2.size
  clear B2 hsz
  refine (SZ _ _ HIM2.out (by decide) (by decide)).out.mono ?_
  rintro e w1 ⟨r, rfl, b1, hr1, hr2⟩
  have HB1 := hid b1
  have hs1 := b1.size
  obtain ⟨⟨m0, m1, m2⟩, q0, q1⟩ := HC.out _ b1
  clear b1
  by_cases hneg : r < 0
  · go_wp2
    go_ret
    exact ⟨rfl, HB2.out.trans (HB1.out.mono hw2)⟩
  have hsum := hr2 (by omega)
  have r1 : r ≤ 1048576 := by omega
  have r0 : 0 ≤ r := by omega
  clear hr1 hr2
  have HSUM := hid hsum
  clear hsum
  go_wp2_with fail
  refine (SK _ _ r0 r1).out.mono ?_
  rintro e ws ⟨r', rfl, bs', hr1', hr2'⟩
  have HBs := hid (HB1.out.trans (bs'.mono hs1))
  obtain ⟨⟨m0', m1', m2'⟩, q0', q1'⟩ := HC.out _ HBs.out
  clear bs'
  by_cases hneg' : r' < 0
  · go_wp2
    go_ret
    exact ⟨rfl, HB2.out.trans (HBs.out.mono hw2)⟩
  have hsum' := hr2' (by omega)
  have hsum := HSUM.out
  clear hr1' hr2'
  have OK : LawOk ⟨nm, st, ch⟩ (k1, k2) := ⟨wst, by dsimp only; omega, by dsimp only; omega, fun s h => by have := totL_mem h; dsimp only at *; omega, by dsimp only; omega, by dsimp only; omega⟩
  have HOK := hid OK
  have hn1 : n ≤ 1048576 := by omega
  clear OK hsum hsum' HSUM hln
  obtain ⟨R, hRR⟩ : ∃ R, R = partRowsR ⟨nm, st, ch⟩ (k1, k2) t := ⟨_, rfl⟩
  have hzs : R.1.length ≤ 4000000 := by rw [hRR]; exact partRowsR_le _ _ _
  have TM := fun w0 (b0 : Below W2.heap.size W2 w0) => hid (toMethod_any ⟨nm, st, ch⟩ A n c w0 (R2.out.below b0) hn1)
  have TK := fun w0 => hid (toCalls_any (k1, k2) w0)
  have SP := fun A0 c0 w0 (rd : Rd w0 A0 ch.length (strV ch)) (hc0 : ch.length ≤ c0) => hid (specPartRows_law ⟨nm, st, ch⟩ (k1, k2) t A0 ch.length c0 w0 HOK.out rd hc0 lt)
  rw [← hRR] at SP
  have IM := fun A0 c0 w0 (rd : Rd w0 A0 ch.length (strV ch)) (hc0 : ch.length ≤ c0) => hid (implPartRows_law ⟨nm, st, ch⟩ (k1, k2) t A0 ch.length c0 w0 HOK.out rd hc0 lt)
  rw [← hRR] at IM
  obtain ⟨zs, ok⟩ := R
  dsimp only at hzs
  clear hRR
  have HS5 : ∀ W', Below W2.heap.size W2 W' → W'.cell? ⟨w.heap.size, 0, none⟩ = some (.string (bs nm)) ∧ W'.cell? ⟨w.heap.size, 1, none⟩ = some (.int .i64 st) ∧ W'.cell? ⟨w.heap.size, 2, none⟩ = some (.slice A n c) ∧ W'.cell? ⟨w.heap.size + 1, 0, none⟩ = some (.string (bs k1)) ∧ W'.cell? ⟨w.heap.size + 1, 1, none⟩ = some (.string (bs k2)) := fun W' h => by
    obtain ⟨⟨a0, a1, a2⟩, a3, a4⟩ := HC.out _ h
    exact ⟨a0, a1, a2, a3, a4⟩
  have HHS5 := hid HS5
  clear HS5
  clear m0 m1 m2 q0 q1 m0' m1' m2' q0' q1'
  obtain ⟨m0, m1, m2, q0, q1⟩ := HHS5.out _ HBs.out
  go_wp2_with fail
  go_region_held3 (fun w' => w'.cell? ⟨w.heap.size, 0, none⟩ = some (.string (bs nm)) ∧ w'.cell? ⟨w.heap.size, 1, none⟩ = some (.int .i64 st) ∧ w'.cell? ⟨w.heap.size, 2, none⟩ = some (.slice A n c) ∧ w'.cell? ⟨w.heap.size + 1, 0, none⟩ = some (.string (bs k1)) ∧ w'.cell? ⟨w.heap.size + 1, 1, none⟩ = some (.string (bs k2)))
    (first | exact HHS5.out _ HBs.out | exact HHS5.out _ HBs.out.drew | exact HHS5.out _ Ea | exact HHS5.out _ Eb | exact HHS5.out _ Ec)
    (first | (go_at_call 15; refine (TM _ HBs.out.drew).out.mono ?_; rintro e wa ⟨va, rfl, oa, ba⟩; obtain ⟨Aa, ca, rfl, hca, _, rda, _⟩ := own_shape oa; have Ea : Below W2.heap.size W2 wa := HBs.out.drew.trans (ba.mono HBs.out.size)) | (go_at_call 16; refine (TK _).out.mono ?_; rintro e wb ⟨rfl, bb⟩; have Eb := Ea.trans (bb.mono Ea.size); have rdb := rda.below bb) | (go_at_call 31; refine (SP _ _ _ rdb hca).out.mono ?_; rintro e wc ⟨vc, rfl, oc, bc⟩; obtain ⟨Ac, cc, rfl, _, _, rdc, _⟩ := own_shape oc; have Ec := Eb.trans (bc.mono Eb.size)))
  have HEc := hid Ec
  obtain ⟨n0, n1, n2, p0, p1⟩ := HHS5.out _ Ec
  have RC := hid rdc
  have RCc := hid rdc
  have HE2c := hid Ec
  have hszc := Ec.size
  clear oa ba oc rdc bb rda rdb bc Ea Eb Ec
  go_wp2_with fail
  refine (TM _ HEc.out).out.mono ?_
  rintro e wd ⟨vd, rfl, od, bd⟩
  obtain ⟨Ad, cd, rfl, hcd, _, rdd, _⟩ := own_shape od
  have RCd := hid (RC.out.below bd)
  have hbcd := bd.size
  have Bcd := hid bd
  have ODd := hid od
  have Ed := HEc.out.trans (bd.mono HEc.out.size)
  have X5 := Blk.new wd 31 #[.string (bs nm), .int .i64 st, .slice Ad ch.length cd]
  have E5 : Below W2.heap.size W2 (wd.alloc (.cells #[.string (bs nm), .int .i64 st, .slice Ad ch.length cd] 31)) := Ed.alloc Ed.size _
  have R5 : Rd (wd.alloc (.cells #[.string (bs nm), .int .i64 st, .slice Ad ch.length cd] 31)) Ad ch.length (strV ch) := rdd.alloc _
  have hsz5 : wd.heap.size < (wd.alloc (.cells #[.string (bs nm), .int .i64 st, .slice Ad ch.length cd] 31)).heap.size := by simp
  have hcont : ∀ (P : World → Prop), P (wd.alloc (.cells #[.string (bs nm), .int .i64 st, .slice Ad ch.length cd] 31)) → P (wd.alloc (.cells #[.string (bs nm), .int .i64 st, .slice Ad ch.length cd] 31)) := fun _ h => h
  clear hcont
  have HS8 : ∀ W', Below (wd.alloc (.cells #[.string (bs nm), .int .i64 st, .slice Ad ch.length cd] 31)).heap.size (wd.alloc (.cells #[.string (bs nm), .int .i64 st, .slice Ad ch.length cd] 31)) W' → W'.cell? ⟨w.heap.size, 0, none⟩ = some (.string (bs nm)) ∧ W'.cell? ⟨w.heap.size, 1, none⟩ = some (.int .i64 st) ∧ W'.cell? ⟨w.heap.size, 2, none⟩ = some (.slice A n c) ∧ W'.cell? ⟨w.heap.size + 1, 0, none⟩ = some (.string (bs k1)) ∧ W'.cell? ⟨w.heap.size + 1, 1, none⟩ = some (.string (bs k2)) ∧ W'.cell? ⟨wd.heap.size, 0, none⟩ = some (.string (bs nm)) ∧ W'.cell? ⟨wd.heap.size, 1, none⟩ = some (.int .i64 st) ∧ W'.cell? ⟨wd.heap.size, 2, none⟩ = some (.slice Ad ch.length cd) := fun W' h => by
    obtain ⟨a0, a1, a2, a3, a4⟩ := HHS5.out _ (E5.trans (h.mono E5.size))
    have X := X5.below h hsz5
    exact ⟨a0, a1, a2, a3, a4, X.cell 0, X.cell 1, X.cell 2⟩
  have RC5 : Hid (Rd (wd.alloc (.cells #[.string (bs nm), .int .i64 st, .slice Ad ch.length cd] 31)) Ac zs.length (strV zs)) := hid (RCd.out.alloc _)
  have OD5 : Hid (World.ownsRow (wd.alloc (.cells #[.string (bs nm), .int .i64 st, .slice Ad ch.length cd] 31)) wc.heap.size 9 1 (.slice Ad ch.length cd) ch.length (strV ch)) := hid (own_below ODd.out ((Below.refl _ _).alloc (Nat.le_refl _) _))
  have Bc5 : Hid (Below wc.heap.size wc (wd.alloc (.cells #[.string (bs nm), .int .i64 st, .slice Ad ch.length cd] 31))) := hid (Bcd.out.alloc hbcd _)
  have X5b := hid X5
  have HLT := hid (fun q hq => (ODd.out.lt q hq).2 : ∀ q, (Value.slice Ad ch.length cd).ownBlock = some q → q < wd.heap.size)
  have HE5c := hid E5
  clear RC RCd Bcd ODd
  have HHS8 := hid HS8
  have HE5 := hid E5
  have HR5 := hid R5
  clear n0 n1 n2 p0 p1 HS8 E5 R5 X5 od bd rdd Ed
  go_wp2_with fail
  generalize (wd.alloc (.cells #[.string (bs nm), .int .i64 st, .slice Ad ch.length cd] 31)) = W5 at *
  obtain ⟨n0, n1, n2, p0, p1, x0, x1, x2⟩ := HHS8.out W5 (Below.refl _ _)
  go_region_held3 (fun w' => w'.cell? ⟨w.heap.size, 0, none⟩ = some (.string (bs nm)) ∧ w'.cell? ⟨w.heap.size, 1, none⟩ = some (.int .i64 st) ∧ w'.cell? ⟨w.heap.size, 2, none⟩ = some (.slice A n c) ∧ w'.cell? ⟨w.heap.size + 1, 0, none⟩ = some (.string (bs k1)) ∧ w'.cell? ⟨w.heap.size + 1, 1, none⟩ = some (.string (bs k2)) ∧ w'.cell? ⟨wd.heap.size, 0, none⟩ = some (.string (bs nm)) ∧ w'.cell? ⟨wd.heap.size, 1, none⟩ = some (.int .i64 st) ∧ w'.cell? ⟨wd.heap.size, 2, none⟩ = some (.slice Ad ch.length cd))
    (first | exact HHS8.out _ (Below.refl _ _) | exact HHS8.out _ (Below.refl _ _).drew | exact HHS8.out _ Ef | exact HHS8.out _ Eg)
    (first | (go_at_call 16; refine (TK _).out.mono ?_; rintro e wf ⟨rfl, bf⟩; have Ef : Below W5.heap.size W5 wf := (Below.refl _ _).drew.trans bf) | (go_at_call 32; refine (IM _ _ _ (HR5.out.below Ef) hcd).out.mono ?_; rintro e wg ⟨vg, rfl, og, bg⟩; obtain ⟨Ag, cg, rfl, _, _, rdg, _⟩ := own_shape og; have Eg := Ef.trans (bg.mono Ef.size)))
  have HEg := hid Eg
  have OG := hid (own_mono og (Ef.size))
  have RG := hid rdg
  clear og rdg
  clear bf bg Ef Eg
  clear n0 n1 n2 p0 p1 x0 x1 x2
  obtain ⟨n0, n1, n2, p0, p1, x0, x1, x2⟩ := HHS8.out _ HEg.out
  go_wp2_with fail
  refine (eqStringS_any _ _ _ _ _ _ zs zs _ RG.out (RC5.out.below HEg.out) (by omega) (by omega)).mono ?_
  rintro e w' ⟨rfl, q1, rfl⟩
  have HEg1 := hid (below_drewN HEg.out q1)
  clear n0 n1 n2 p0 p1 x0 x1 x2
  obtain ⟨n0, n1, n2, p0, p1, x0, x1, x2⟩ := HHS8.out _ HEg1.out
  go_wp2_with fail
  go_region_held3 (fun w' => w'.cell? ⟨w.heap.size, 0, none⟩ = some (.string (bs nm)) ∧ w'.cell? ⟨w.heap.size, 1, none⟩ = some (.int .i64 st) ∧ w'.cell? ⟨w.heap.size, 2, none⟩ = some (.slice A n c) ∧ w'.cell? ⟨w.heap.size + 1, 0, none⟩ = some (.string (bs k1)) ∧ w'.cell? ⟨w.heap.size + 1, 1, none⟩ = some (.string (bs k2)) ∧ w'.cell? ⟨wd.heap.size, 0, none⟩ = some (.string (bs nm)) ∧ w'.cell? ⟨wd.heap.size, 1, none⟩ = some (.int .i64 st) ∧ w'.cell? ⟨wd.heap.size, 2, none⟩ = some (.slice Ad ch.length cd))
    (first | exact HHS8.out _ HEg1.out | exact HHS8.out _ HEg1.out.drew | exact HHS8.out _ Eh | exact HHS8.out _ Ei)
    (first | (go_at_call 15; refine (TM _ (HE5.out.trans ((HEg1.out.drew).mono HE5.out.size))).out.mono ?_; rintro e wh ⟨vh, rfl, oh, bh⟩; obtain ⟨Ah, ch', rfl, _, _, rdh, _⟩ := own_shape oh; have Eh := HEg1.out.drew.trans (bh.mono HEg1.out.size)) | (go_at_call 18; refine (eqMethod_any ⟨nm, st, ch⟩ Ad Ah ch.length cd ch.length ch' _ (HR5.out.below Eh) rdh (by have := HOK.out.2.2.1; dsimp only at this; omega)).mono ?_; rintro e wi ⟨rfl, bi⟩; have Ei := Eh.trans (bi.mono Eh.size)))
  have HEi := hid Ei
  have OGi := hid (own_below OG.out ((below_drewN (Below.refl wg.heap.size wg) q1).drew.trans ((bh.trans (bi.mono bh.size)).mono (Nat.le_refl _))))
  clear oh bh rdh bi Eh Ei n0 n1 n2 p0 p1 x0 x1 x2
  obtain ⟨n0, n1, n2, p0, p1, x0, x1, x2⟩ := HHS8.out _ HEi.out
  go_wp2_with fail
  refine (markMethod_any wc.heap.size ⟨nm, st, ch⟩ _ ch.length _ (own_below OD5.out HEi.out) (by have := HOK.out.2.2.1; dsimp only at this; omega) (Nat.le_trans Bc5.out.size HEi.out.size)).mono ?_
  rintro e wj ⟨rfl, oj, gj⟩
  have hneX : ∀ q, (Value.slice Ad ch.length cd).ownBlock = some q → q < W5.heap.size := fun q hq => (OD5.out.lt q hq).2
  have hneW : ∀ q, (Value.slice Ad ch.length cd).ownBlock = some q → q < wd.heap.size := HLT.out
  have Bcj := hid ((Bc5.out.trans (HEi.out.mono Bc5.out.size)).trans (below_of_grown (own_below OD5.out HEi.out) gj (Nat.le_trans Bc5.out.size HEi.out.size)))
  have Xj : Blk wj wd.heap.size 31 #[.string (bs nm), .int .i64 st, .slice Ad ch.length cd] := blk_grown gj (X5b.out.below HEi.out X5b.out.lt) (fun e => by have := hneW _ e; omega)
  have OGj := hid (own_other OGi.out gj (fun q hq hq2 => by have h1 := hneX q hq2; have h2 := (OGi.out.lt q hq).1; omega))
  have RCj := hid (RCc.out.below Bcj.out)
  obtain ⟨Agj, cgj, egj, _, _, rdgj, _⟩ := own_shape OGj.out
  obtain ⟨rfl, rfl⟩ : Ag = Agj ∧ cg = cgj := by injection egj with e1 e2 e3; exact ⟨e1, e3⟩
  have RGj := hid rdgj
  clear egj rdgj oj
  have HE2j := hid (HE2c.out.trans (Bcj.out.mono hszc))
  have hgj := gj.size
  clear n0 n1 n2 p0 p1 x0 x1 x2 gj hneX hneW
  have x0 := Xj.cell 0
  have x1 := Xj.cell 1
  have x2 := Xj.cell 2
  simp only [List.getElem?_toArray, List.getElem?_cons_zero, List.getElem?_cons_succ] at x0 x1 x2
  obtain ⟨n0, n1, n2, p0, p1⟩ := HHS5.out _ HE2j.out
  go_wp2_with fail
  refine (eqStringS_any _ _ _ _ _ _ zs zs _ RGj.out RCj.out (by omega) (by omega)).mono ?_
  rintro e w' ⟨rfl, q2, rfl⟩
  have hsz5c : wc.heap.size ≤ W5.heap.size := Bc5.out.size
  have hszk : W5.heap.size ≤ (wj.drewN q2).heap.size := Nat.le_trans HEi.out.size hgj
  have HE2k := hid (below_drewN HE2j.out q2)
  have OGk := hid (own_drewN OGj.out q2)
  have Bck := hid (below_drewN Bcj.out q2)
  clear n0 n1 n2 p0 p1 x0 x1 x2
  obtain ⟨n0, n1, n2, p0, p1⟩ := HHS5.out _ HE2k.out
  go_wp2_with fail
  refine (markStringS_any _ _ 1 _ zs _ _ OGk.out rfl (by omega)).mono ?_
  rintro e wl ⟨rfl, ol, gl⟩
  have Bcl := hid (Bck.out.trans ((below_of_grown OGk.out gl hszk).mono hsz5c))
  have HE2l := hid (HE2c.out.trans (Bcl.out.mono hszc))
  obtain ⟨Agl, cgl, egl, _, _, rdgl, _⟩ := own_shape ol
  obtain ⟨rfl, rfl⟩ : Ag = Agl ∧ cg = cgl := by injection egl with e1 e2 e3; exact ⟨e1, e3⟩
  have RGl := hid rdgl
  have RCl := hid (RCc.out.below Bcl.out)
  clear egl rdgl ol gl n0 n1 n2 p0 p1
  obtain ⟨n0, n1, n2, p0, p1⟩ := HHS5.out _ HE2l.out
  go_wp2_with fail
  refine (heldStringS_any _ _ _ 1 _ _ RGl.out rfl (by omega)).mono ?_
  rintro e wm ⟨rfl, bb⟩
  have HE2m := hid (HE2l.out.trans (bb.mono HE2l.out.size))
  have RGm := hid (RGl.out.below bb)
  have RCm := hid (RCl.out.below bb)
  clear bb n0 n1 n2 p0 p1
  obtain ⟨n0, n1, n2, p0, p1⟩ := HHS5.out _ HE2m.out
  go_wp2_with fail
  go_region_held3 (fun w' => w'.cell? ⟨w.heap.size, 0, none⟩ = some (.string (bs nm)) ∧ w'.cell? ⟨w.heap.size, 1, none⟩ = some (.int .i64 st) ∧ w'.cell? ⟨w.heap.size, 2, none⟩ = some (.slice A n c) ∧ w'.cell? ⟨w.heap.size + 1, 0, none⟩ = some (.string (bs k1)) ∧ w'.cell? ⟨w.heap.size + 1, 1, none⟩ = some (.string (bs k2)))
    (first | exact HHS5.out _ HE2m.out | exact HHS5.out _ HE2m.out.drew | exact HHS5.out _ En | exact HHS5.out _ Eo | exact HHS5.out _ Ep)
    (first | (go_at_call 15; refine (TM _ HE2m.out.drew).out.mono ?_; rintro e wn ⟨vn, rfl, on, bn⟩; obtain ⟨An, cn, rfl, hcn, _, rdn, _⟩ := own_shape on; have En := HE2m.out.drew.trans (bn.mono HE2m.out.size)) | (go_at_call 16; refine (TK _).out.mono ?_; rintro e wo ⟨rfl, bo⟩; have Eo := En.trans (bo.mono En.size)) | (go_at_call 32; refine (IM _ _ _ (rdn.below bo) hcn).out.mono ?_; rintro e wp ⟨vp, rfl, op, bp⟩; obtain ⟨Ap, cp, rfl, _, _, rdp, _⟩ := own_shape op; have Ep := Eo.trans (bp.mono Eo.size)))
  have Bp := hid ((Below.refl wm.heap.size wm).drew.trans (bn.trans ((bo.trans (bp.mono bo.size)).mono bn.size)))
  have HE2p := hid (HE2m.out.trans (Bp.out.mono HE2m.out.size))
  have RP := hid rdp
  have RCp := hid (RCm.out.below Bp.out)
  have RGp := hid (RGm.out.below Bp.out)
  clear n0 n1 n2 p0 p1 on bn rdn bo bp op rdp En Eo Ep
  obtain ⟨n0, n1, n2, p0, p1⟩ := HHS5.out _ HE2p.out
  go_wp2_with fail
  refine (eqStringS_any _ _ _ _ _ _ zs zs _ RP.out RCp.out (by omega) (by omega)).mono ?_
  rintro e w' ⟨rfl, q3, rfl⟩
  have HE2q := hid (below_drewN HE2p.out q3)
  clear n0 n1 n2 p0 p1
  obtain ⟨n0, n1, n2, p0, p1⟩ := HHS5.out _ HE2q.out
  go_wp2_with fail
  refine (heldStringS_any _ _ _ 1 _ _ (RGp.out.drewN q3) rfl (by omega)).mono ?_
  rintro e wr ⟨rfl, bb⟩
  have HE2r := hid (HE2q.out.trans (bb.mono HE2q.out.size))
  clear bb n0 n1 n2 p0 p1
  obtain ⟨n0, n1, n2, p0, p1⟩ := HHS5.out _ HE2r.out
  go_wp2
  go_ret
  exact ⟨rfl, HB2.out.trans (HE2r.out.mono hw2)⟩
end Go.Proofs.Ytgljhhjfinngjaa


namespace Go.Proofs.Ytgljhhjfinngjaa.PPartRows
open Go.ChangeShapes Go.WideShapes Go.ChangeAt Go.RowKit
open Go.ChangeMaps (open_string shut_string)
set_option linter.unusedVariables false

theorem own : ownKnob Try.prog.godebug = none := by kernel_rfl
theorem laidOut : laidOutB Try.prog = true := by kernel_rfl

set_option maxRecDepth 100000 in
theorem lifted (os : Os) (started : os.Started) (H : Type) (enc : TypeId × Value → H) :
    ReturnsInHanded {} Try.checked os 8 .any (Rows.fnExactPartRowsSpec.pre6 enc Try.prog Try.f8 Rows.fnExactPartRowsRow.domain false) (Rows.fnExactPartRowsSpec.post enc Try.prog Try.f8 false true false false) := by
  refine returnsInHanded_of_change (C := Try.checked) own started (by kernel_rfl) Try.func8
    (ChangeSpec.witness6 (enc := enc) (C := Try.checked) false ⟨#[], #[.agg #[.string ByteArray.empty, .int .i64 0, .slice none 0 0], .agg #[.string ByteArray.empty, .string ByteArray.empty], .string ByteArray.empty], []⟩ 8 (by kernel_rfl) (by kernel_rfl) (by kernel_rfl) (by kernel_rfl)) ?_
  intro W base args ds gs before hval0 hW hcnd _
  have hval : ∀ (j : Nat) t v, Try.f8.params[j]? = some t → args[j]? = some v → Value.okWide Try.prog W .any base t v := hval0
  have hW' := hW
  obtain ⟨p, q, hA0, hV, rfl, hfz, hnd⟩ := hW
  have hA : DataW.TrodAll enc Try.prog W 0 (fun _ => true) true Try.f8.params.toList args.toList ds p := hA0
  rw [Try.params8] at hA hval
  obtain ⟨v0, vs0, d0, ds0, p0, q0, hargs, rfl, rfl, h0, r0⟩ := trodAll_cons hA
  obtain ⟨v1, vs1, d1, ds1, p1, q1, rfl, rfl, rfl, h1, r1⟩ := trodAll_cons r0
  obtain ⟨v2, vs2, d2, ds2, p2, q2, rfl, rfl, rfl, h2, r2⟩ := trodAll_cons r1
  obtain ⟨rfl, rfl, rfl⟩ := trodAll_nil r2
  obtain rfl : args = #[v0, v1, v2] := by cases args; simp_all
  obtain ⟨rfl, rfl⟩ := trodVars_none hV
  have k0 := h0
  have lt0 : ∀ x ∈ p0, x.block < W.heap.size := by obtain ⟨m, hm⟩ := k0; exact DataW.trod_lt m _ _ _ hm
  obtain ⟨a0, w0⟩ := open_inMethod (hval 0 24 v0 rfl rfl) h0
  have k1 := h1
  have lt1 : ∀ x ∈ p1, x.block < W.heap.size := by obtain ⟨m, hm⟩ := k1; exact DataW.trod_lt m _ _ _ hm
  obtain ⟨a1, w1⟩ := open_inCalls (hval 1 26 v1 rfl rfl) h1
  obtain ⟨a2, rfl, rfl, rfl, w2⟩ := open_string Try.underlying9 (hval 2 9 v2 rfl rfl) h2
  obtain ⟨l2, rfl⟩ := bs_surj a2
  have wl2 : l2.length ≤ maxLen := by rw [← bs_size]; exact w2
  clear hA0 hval0
  refine (LawPartRows.walk v0 a0 v1 a1 l2 W w0 w1 wl2).mono fun e W' ⟨he, bel⟩ => ?_
  subst he
  exact ⟨_, rfl, _, _, _, [], _, [], hW', trodAll_mk1 (shut_bool Try.underlying4 _), (trodAll_cons_mk (Below.trod laidOut (by kernel_rfl) (of_decide_eq_true (by kernel_rfl)) k0 bel lt0) (trodAll_cons_mk (Below.trod laidOut (by kernel_rfl) (of_decide_eq_true (by kernel_rfl)) k1 bel lt1) (trodAll_cons_mk (shut_string Try.underlying9 w2) trodAll_mk0))), rfl, bel.frame _, fun h => by cases h⟩

theorem over : Rows.fnExactPartRowsRow.holds Try.pinned (OpenSpec.ofChange Rows.fnExactPartRowsSpec) :=
  OpenClaim.holds_of_wide 8 Try.f8 rfl rfl rfl rfl rfl rfl rfl ⟨rfl, rfl, rfl, rfl, rfl⟩ rfl rfl rfl rfl rfl (by kernel_rfl) Try.func8 (by kernel_rfl)
    (of_decide_eq_true (by kernel_rfl)) (by unfold Func.isWrapper; first | (rw [if_pos (by decide +kernel)]; kernel_rfl) | (rw [if_neg (by decide +kernel)]; exact ⟨rfl, rfl⟩))
    (fun os started H enc _ => lifted os started H enc)

theorem proved : Rows.FnExactPartRowsSaid := over
#print axioms proved
end Go.Proofs.Ytgljhhjfinngjaa.PPartRows
