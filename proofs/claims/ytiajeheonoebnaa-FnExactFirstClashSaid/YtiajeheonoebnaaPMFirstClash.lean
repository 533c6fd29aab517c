/- The statement of FnExactFirstClash: called with any arguments that can be read as data, the law returns true, and every argument reads afterwards as it read before. No conditions. -/
import Derived.Test.YtiajeheonoebnaaHead
import Derived.Test.YtiajeheonoebnaaHeadsP
import Derived.Test.YtiajeheonoebnaaTouch
import Derived.Test.YtiajeheonoebnaaHeads
import Derived.Test.YtiajeheonoebnaaClashQ
import Derived.Test.YtiajeheonoebnaaFClP
import Derived.Test.YtiajeheonoebnaaSkip
import Derived.Test.YtiajeheonoebnaaMeth2
import Derived.Test.YtiajeheonoebnaaRows
import Derived.ShutString
import Derived.ChangeOld
set_option linter.unusedVariables false
set_option linter.unusedSimpArgs false
set_option maxRecDepth 100000
namespace Go.Proofs.Ytiajeheonoebnaa
open Go.RowKit

set_option maxHeartbeats 2000000 in
theorem l9Heads_any (N : Nat) (nm t : List UInt8) (ch : List (List UInt8)) (k : List UInt8 × List UInt8) (A : Option Addr) (n c : Nat) (w : World) (lo : 3 ≤ N) (hi : N ≤ 8) (hr : Rd w A n (strV ch)) (hn : n ≤ 1048576) (hcap : n ≤ c) (l1 : 1 ≤ ch.length) (hs : ∀ x ∈ ch, okChange (N : Int) x = true) (hb1 : okChange (N : Int) k.1 = true) (hb2 : okChange (N : Int) k.2 = true) (ht : t.length ≤ 1000) :
    Calls Try.prog 73 #[.agg #[.string (bs nm), .int .i64 N, .slice A n c], .agg #[.string (bs k.1), .string (bs k.2)], .string (bs t)] w (OneSn w (t.length + 1) (headsTo N ch k t t.length)) := by
  have BC := fun (call : List UInt8) (w0 : World) (rd : Rd w0 A n (strV ch)) => hid (l8Head_any N nm call ch k A n c w0 lo hi rd hn hcap l1 hs hb1 hb2)
  have RS := hid hr
  obtain ⟨k1, k2⟩ := k
  clear hr hs hb1 hb2
  have HRN := fun w0 => hid (l1Rounds_any N w0 hi)
  go_enter Try.func73, Try.ntmps73
  go_wp2_with fail
  obtain ⟨B2, hsz, HC⟩ := box_mk w nm k1 k2 (N : Int) (.slice A n c)
  have R2 := hid (RS.out.below B2)
  have HB2 := hid B2
  have hw2 := B2.size
  generalize ((w.alloc (.cells #[.string (bs nm), .int .i64 (N : Int), .slice A n c] 28)).alloc (.cells #[.string (bs k1), .string (bs k2)] 39)) = W2 at *
  clear B2 hsz
  have HS5 : ∀ W', Below W2.heap.size W2 W' → W'.cell? ⟨w.heap.size, 0, none⟩ = some (.string (bs nm)) ∧ W'.cell? ⟨w.heap.size, 1, none⟩ = some (.int .i64 (N : Int)) ∧ W'.cell? ⟨w.heap.size, 2, none⟩ = some (.slice A n c) ∧ W'.cell? ⟨w.heap.size + 1, 0, none⟩ = some (.string (bs k1)) ∧ W'.cell? ⟨w.heap.size + 1, 1, none⟩ = some (.string (bs k2)) := fun W' h => by
    obtain ⟨⟨a0, a1, a2⟩, a3, a4⟩ := HC.out _ h
    exact ⟨a0, a1, a2, a3, a4⟩
  have HHS5 := hid HS5
  clear HS5 HC
  obtain ⟨n0, n1, n2, p0, p1⟩ := HHS5.out _ (Below.refl W2.heap.size W2)
  refine (HRN _).out.mono ?_
  rintro e w' ⟨rfl, rfl⟩
  go_wp2
  clear n0 n1 n2 p0 p1
  go_loopg [7, 8, 9] t.length (fun gk v u x wr => ∃ j : Nat, j ≤ t.length ∧ gk = t.length - j ∧ x = .int .i64 j ∧ v = .string (bs (headTo N ch (k1, k2) t j)) ∧ wr.ownsRow W2.heap.size 9 1 u (j + 1) (strV (headsTo N ch (k1, k2) t j)) ∧ Below W2.heap.size W2 wr)
  case atStart => exact ⟨0, by omega, by omega, rfl, rfl, own_of_blk (Blk.new _ _ #[.string (bs (roundsL N))]) (Nat.le_refl _) (by simp [maxLen]), (Below.refl _ _).alloc (Nat.le_refl _) _⟩
  case round =>
    obtain ⟨j, hj, rfl, rfl, rfl, ho, hb⟩ := hrel
    by_cases hlt : j < t.length
    · have hrow := headTo_row lo hi ch (k1, k2) t j
      obtain ⟨Hd, hHd⟩ : ∃ H, H = headTo N ch (k1, k2) t j := ⟨_, rfl⟩
      rw [← hHd] at hrow
      rw [← hHd]
      have hgd := gd_at t j hlt
      obtain ⟨S, hS⟩ : ∃ S, S = callHeadL N ch (k1, k2) [t[j]] := ⟨_, rfl⟩
      have hnx := hid (show timesL Hd S = headTo N ch (k1, k2) t (j + 1) by rw [headTo, ← hHd, hgd, hS])
      have hT := hid (fun w0 => l1Times_any Hd S w0 hrow.1 (by rw [hS]; exact callHeadL_row lo hi _ _ _) (by rw [hrow.2, hS, callHeadL_len]))
      rw [hnx.out] at hT
      have hC := fun w0 rd => BC [t[j]] w0 rd
      rw [← hS] at hC
      have hst := hid (headsTo_step N ch (k1, k2) t j)
      have ht1 := hid (take1_drop t j hlt)
      have i0 : (0 : Int) ≤ (j : Int) := by omega
      have i1 : (j : Int) < (t.length : Int) := by omega
      have i2 : (j : Int) + 1 ≤ (t.length : Int) := by omega
      have HO := hid ho
      have HB := hid hb
      have HBs := hb.size
      have hlim : j + 1 + 1 ≤ 1000000000000 := by omega
      obtain ⟨Nx, hNx⟩ : ∃ X, X = headTo N ch (k1, k2) t (j + 1) := ⟨_, rfl⟩
      rw [← hNx] at hT hst
      have HNX := hid hNx
      clear ho hb hgd hS hHd hNx hrow hnx
      obtain ⟨n0, n1, n2, p0, p1⟩ := HHS5.out _ HB.out
      have ht2 := ht1.out
      have i3 : (j : Int) ≤ (j : Int) + 1 := by omega
      have i4 : (0 : Int) ≤ (j : Int) + 1 := by omega
      have i5 : ((j : Int) + 1).toNat = j + 1 := by omega
      have i6 : j + 1 - j = 1 := by omega
      have hw1 := IntWalk.i64_in ((j : Int) + 1) (by omega)
      go_wp2_with fail
      go_region_held3 (fun w' => w'.cell? ⟨w.heap.size, 0, none⟩ = some (.string (bs nm)) ∧ w'.cell? ⟨w.heap.size, 1, none⟩ = some (.int .i64 (N : Int)) ∧ w'.cell? ⟨w.heap.size, 2, none⟩ = some (.slice A n c) ∧ w'.cell? ⟨w.heap.size + 1, 0, none⟩ = some (.string (bs k1)) ∧ w'.cell? ⟨w.heap.size + 1, 1, none⟩ = some (.string (bs k2)))
        (first | exact HHS5.out _ HB.out | exact HHS5.out _ HB.out.drew | exact HHS5.out _ Fa)
        (first | (go_at_call 105; refine (hC _ (R2.out.below HB.out.drew)).out.mono ?_; rintro e w2 ⟨rfl, b2⟩; have Fa := HB.out.drew.trans (b2.mono HBs)) | (go_at_call 102; refine (hT.out _).mono ?_; rintro e w3 ⟨rfl, rfl⟩))
      have HO2 := hid (own_below HO.out ((Below.refl wr.heap.size wr).drew.trans b2))
      have HB2' := hid Fa
      have hs2 : wr.heap.size ≤ w2.heap.size := b2.size
      clear b2 Fa n0 n1 n2 p0 p1 hw1
      go_wp2_with (at_builtin; refine app_str _ (by rfl) _ _ (by rfl) W2.heap.size _ _ _ (by rfl) (HO2.out.alloc _) (some ⟨w2.heap.size, 0, none⟩) 1 1 [Nx] (by rfl) (Rd.blk _ [.string (bs Nx)] _) hlim (by simp; omega) ?_; intro v5 w5 o5 g5)
      go_roundg (t.length - (j + 1))
      case measure => omega
      case rel =>
        rw [hst.out] at o5
        exact ⟨j + 1, by omega, rfl, by go_num, by rw [HNX.out], o5, (HB2'.out.alloc (by omega) _).grown g5 (by simp; omega) fun q hq => (HO2.out.lt q hq).1⟩
    · obtain rfl : j = t.length := by omega
      go_wp2
      go_ret
      exact ⟨_, rfl, own_mono ho hw2, HB2.out.trans (hb.mono hw2)⟩
end Go.Proofs.Ytiajeheonoebnaa

set_option linter.unusedVariables false
set_option linter.unusedSimpArgs false
set_option maxRecDepth 100000
namespace Go.Proofs.Ytiajeheonoebnaa
open Go.RowKit

theorem l9Asked_any (m : Meth) (k : List UInt8 × List UInt8) (t : List UInt8) (A : Option Addr) (n c : Nat) (w : World) (ok : LawOk m k) (rd : Rd w A n (strV m.ch)) (ht : t.length ≤ 1048576) :
    Calls Try.prog 63 #[.agg #[.string (bs m.nm), .int .i64 m.st, .slice A n c], .agg #[.string (bs k.1), .string (bs k.2)], .string (bs t)] w fun e w' => e = .returned (.bool (callsB m k && goodTouch t)) ∧ Below w.heap.size w w' := by
  have G := fun (w0 : World) (rd : Rd w0 A n (strV m.ch)) => hid (l8Good_law m k A n c w0 ok rd)
  have G2 := fun w0 => hid (l9Good_any t w0 (by omega))
  have RS := hid rd
  generalize callsB m k = P0 at *
  generalize goodTouch t = P1 at *
  obtain ⟨nm, st, ch⟩ := m
  obtain ⟨k1, k2⟩ := k
  dsimp only at *
  clear rd ok
  go_enter Try.func63, Try.ntmps63
  go_wp2_with fail
  obtain ⟨B2, hsz, HC⟩ := box_mk w nm k1 k2 st (.slice A n c)
  refine (G _ (RS.out.below B2)).out.mono ?_
  rintro e w1 ⟨rfl, b1⟩
  have HB := hid (B2.trans (b1.mono B2.size))
  clear b1 B2 hsz HC
  cases P0
  · go_wp2
    go_ret
    exact ⟨rfl, HB.out⟩
  · go_wp2_with fail
    refine (G2 _).out.mono ?_
    rintro e w2 ⟨rfl, rfl⟩
    go_wp2
    go_ret
    exact ⟨rfl, HB.out⟩
theorem headsTo_last (N : Nat) (cs : List (List UInt8)) (k : List UInt8 × List UInt8) (t : List UInt8) (j : Nat) (h : j < (headsTo N cs k t j).length) : (headsTo N cs k t j)[j] = headTo N cs k t j := by simp [headsTo]
theorem l9End_any (N : Nat) (nm t : List UInt8) (ch : List (List UInt8)) (k : List UInt8 × List UInt8) (A : Option Addr) (n c : Nat) (w : World) (lo : 3 ≤ N) (hi : N ≤ 8) (hr : Rd w A n (strV ch)) (hn : n ≤ 1048576) (hcap : n ≤ c) (l1 : 1 ≤ ch.length) (hs : ∀ x ∈ ch, okChange (N : Int) x = true) (hb1 : okChange (N : Int) k.1 = true) (hb2 : okChange (N : Int) k.2 = true) (ht : t.length ≤ 1000) :
    Calls Try.prog 53 #[.agg #[.string (bs nm), .int .i64 N, .slice A n c], .agg #[.string (bs k.1), .string (bs k.2)], .string (bs t)] w fun e w' => e = .returned (.string (bs (headTo N ch k t t.length))) ∧ Below w.heap.size w w' := by
  have G := fun (w0 : World) (rd : Rd w0 A n (strV ch)) => hid (l9Heads_any N nm t ch k A n c w0 lo hi rd hn hcap l1 hs hb1 hb2 ht)
  have RS := hid hr
  obtain ⟨k1, k2⟩ := k
  clear hr hs hb1 hb2
  have i0 : (0 : Int) ≤ (t.length : Int) := by omega
  have i1 : (t.length : Int) < (t.length : Int) + 1 := by omega
  go_enter Try.func53, Try.ntmps53
  go_wp2_with fail
  obtain ⟨B2, hsz, HC⟩ := box_mk w nm k1 k2 (N : Int) (.slice A n c)
  refine (G _ (RS.out.below B2)).out.mono ?_
  rintro e w1 ⟨v1, rfl, o1, b1⟩
  have HB := hid (B2.trans (b1.mono B2.size))
  obtain ⟨A1, c1, rfl, _, _, rd1, _⟩ := own_shape o1
  obtain ⟨bq, oq, rfl, hk, hc⟩ := rd1.str (show t.length < t.length + 1 by omega)
  rw [headsTo_last] at hc
  clear b1 B2 hsz HC o1 rd1 hk
  go_wp2
  go_ret
  exact ⟨rfl, HB.out⟩
end Go.Proofs.Ytiajeheonoebnaa

set_option linter.unusedVariables false
set_option linter.unusedSimpArgs false
set_option maxRecDepth 100000
namespace Go.Proofs.Ytiajeheonoebnaa
open Go.RowKit

theorem goodFor_any (m : Meth) (k : List UInt8 × List UInt8) (t : List UInt8) (A : Option Addr) (n c : Nat) (w : World) (ok : LawOk m k) (rd : Rd w A n (strV m.ch)) (ht : t.length ≤ 1048576) :
    Calls Try.prog 65 #[.agg #[.string (bs m.nm), .int .i64 m.st, .slice A n c], .agg #[.string (bs k.1), .string (bs k.2)], .string (bs t)] w fun e w' => e = .returned (.bool (callsB m k && goodTouch t)) ∧ Below w.heap.size w w' := by
  have G := fun (w0 : World) (rd : Rd w0 A n (strV m.ch)) => hid (goodCalls_law m k A n c w0 ok rd)
  have G2 := fun w0 => hid (implGoodTouch_any t w0 (by omega))
  have RS := hid rd
  generalize callsB m k = P0 at *
  generalize goodTouch t = P1 at *
  obtain ⟨nm, st, ch⟩ := m
  obtain ⟨k1, k2⟩ := k
  dsimp only at *
  clear rd ok
  go_enter Try.func65, Try.ntmps65
  go_wp2_with fail
  obtain ⟨B2, hsz, HC⟩ := box_mk w nm k1 k2 st (.slice A n c)
  refine (G _ (RS.out.below B2)).out.mono ?_
  rintro e w1 ⟨rfl, b1⟩
  have HB := hid (B2.trans (b1.mono B2.size))
  clear b1 B2 hsz HC
  cases P0
  · go_wp2
    go_ret
    exact ⟨rfl, HB.out⟩
  · go_wp2_with fail
    refine (G2 _).out.mono ?_
    rintro e w2 ⟨rfl, rfl⟩
    go_wp2
    go_ret
    exact ⟨rfl, HB.out⟩
end Go.Proofs.Ytiajeheonoebnaa

set_option linter.unusedVariables false
set_option linter.unusedSimpArgs false
set_option maxRecDepth 100000
namespace Go.Proofs.Ytiajeheonoebnaa
open Go.RowKit

/-- The clashes of the heads of a touch. -/
def clsL (N : Nat) (cs : List (List UInt8)) (k : List UInt8 × List UInt8) (t : List UInt8) : List (Nat × Nat) := clashTo (quotL (leadL (roundsL N) cs) (leadL (roundsL N) cs)) ((headsTo N cs k t t.length).take t.length) t.length
theorem heads_take_rowsQ {N : Nat} (lo : 3 ≤ N) (hi : N ≤ 8) (cs : List (List UInt8)) (k : List UInt8 × List UInt8) (t : List UInt8) (j q : Nat) : ∀ x ∈ (headsTo N cs k t j).take q, IsRow x ∧ x.length = N := fun x hx => by
  have hx := List.mem_of_mem_take hx
  simp only [headsTo, List.mem_map] at hx
  obtain ⟨i, _, rfl⟩ := hx
  exact headTo_row lo hi cs k t i
theorem rd_takeQ {w : World} {A : Option Addr} {n k : Nat} {l : List (List UInt8)} (h : Rd w A n (strV l)) (hk : k ≤ n) : Rd w A k (strV (l.take k)) := by
  rw [strV_take]; exact h.take_ k hk
set_option maxHeartbeats 1000000 in
theorem headClashesP_any (N : Nat) (nm t : List UInt8) (ch : List (List UInt8)) (k : List UInt8 × List UInt8) (A : Option Addr) (n c : Nat) (w : World) (lo : 3 ≤ N) (hi : N ≤ 8) (hr : Rd w A n (strV ch)) (hn : n ≤ 1000) (l1 : 1 ≤ ch.length) (hs : ∀ x ∈ ch, okChange (N : Int) x = true) (hb1 : okChange (N : Int) k.1 = true) (hb2 : okChange (N : Int) k.2 = true) (ht : t.length ≤ 1000) (hcall : t.all callB = true) :
    Calls Try.prog 74 #[.agg #[.string (bs nm), .int .i64 N, .slice A n c], .agg #[.string (bs k.1), .string (bs k.2)], .string (bs t)] w (PairsR w (clsL N ch k t)) := by
  have G := fun (w0 : World) (rd : Rd w0 A n (strV ch)) => hid (heads_any N nm t ch k A n c w0 lo hi rd (by omega) l1 hs hb1 hb2 ht hcall)
  have LF := fun B d (w0 : World) (rd : Rd w0 A n (strV ch)) (rb : Rd w0 B t.length (strV ((headsTo N ch k t t.length).take t.length))) => hid (clashesP_any N nm ch ((headsTo N ch k t t.length).take t.length) A B n c t.length d w0 lo hi rd rb hn ht hs (heads_take_rowsQ lo hi ch k t _ _))
  have RS := hid hr
  obtain ⟨k1, k2⟩ := k
  clear hr hs hb1 hb2 hcall
  unfold clsL
  have i0 : (0 : Int) ≤ (t.length : Int) := Int.natCast_nonneg _
  go_enter Try.func74, Try.ntmps74
  go_wp2_with fail
  obtain ⟨B2, hsz, HC⟩ := box_mk w nm k1 k2 (N : Int) (.slice A n c)
  have R2 := hid (RS.out.below B2)
  have HB2 := hid B2
  have hw2 := B2.size
  generalize ((w.alloc (.cells #[.string (bs nm), .int .i64 (N : Int), .slice A n c] 28)).alloc (.cells #[.string (bs k1), .string (bs k2)] 39)) = W2 at *
  clear B2 hsz
  have HS5 : ∀ W', Below W2.heap.size W2 W' → W'.cell? ⟨w.heap.size, 0, none⟩ = some (.string (bs nm)) ∧ W'.cell? ⟨w.heap.size, 1, none⟩ = some (.int .i64 (N : Int)) ∧ W'.cell? ⟨w.heap.size, 2, none⟩ = some (.slice A n c) ∧ W'.cell? ⟨w.heap.size + 1, 0, none⟩ = some (.string (bs k1)) ∧ W'.cell? ⟨w.heap.size + 1, 1, none⟩ = some (.string (bs k2)) := fun W' h => by
    obtain ⟨⟨a0, a1, a2⟩, a3, a4⟩ := HC.out _ h
    exact ⟨a0, a1, a2, a3, a4⟩
  have HHS5 := hid HS5
  clear HS5 HC
  obtain ⟨n0, n1, n2, q0, q1⟩ := HHS5.out _ (Below.refl W2.heap.size W2)
  go_wp2_with fail
  go_region_held3 (fun w' => w'.cell? ⟨w.heap.size, 0, none⟩ = some (.string (bs nm)) ∧ w'.cell? ⟨w.heap.size, 1, none⟩ = some (.int .i64 (N : Int)) ∧ w'.cell? ⟨w.heap.size, 2, none⟩ = some (.slice A n c) ∧ w'.cell? ⟨w.heap.size + 1, 0, none⟩ = some (.string (bs k1)) ∧ w'.cell? ⟨w.heap.size + 1, 1, none⟩ = some (.string (bs k2)))
    (first | exact HHS5.out _ (Below.refl _ _) | exact HHS5.out _ (Below.refl _ _).drew | exact HHS5.out _ Fa | exact HHS5.out _ Fb)
    (first | (go_at_call 59; refine (G _ (R2.out.below (Below.refl W2.heap.size W2).drew)).out.mono ?_; rintro e wa ⟨va, rfl, oa, ba⟩; obtain ⟨Aa, ca, rfl, hca, _, rda, _⟩ := own_shape oa; have j2 := Int.ofNat_le.2 (Nat.le_of_succ_le hca); have Fa := (Below.refl W2.heap.size W2).drew.trans (ba.mono (Nat.le_refl _))) | (go_at_call 71; refine (LF _ _ _ (R2.out.below Fa) (rd_takeQ rda (Nat.le_succ _))).out.mono ?_; rintro e wb ⟨vb, rfl, ob, bb⟩; have Fb := Fa.trans (bb.mono Fa.size)))
  have HFb := hid Fb
  have OB := hid ob
  have hwb := Fa.size
  clear oa ba rda ob bb Fa Fb n0 n1 n2 q0 q1 j2
  go_wp2
  go_ret
  exact ⟨_, rfl, OB.out.mono (Nat.le_trans hw2 hwb), HB2.out.trans (HFb.out.mono hw2)⟩
end Go.Proofs.Ytiajeheonoebnaa

set_option linter.unusedVariables false
set_option linter.unusedSimpArgs false
set_option maxRecDepth 100000
namespace Go.Proofs.Ytiajeheonoebnaa
open Go.RowKit

theorem fcl_len {t : List UInt8} (h : goodTouch t = true) : t.length ≤ 1000 := by
  simp only [goodTouch, Bool.and_eq_true, decide_eq_true_eq] at h; omega
theorem fcl_calls {t : List UInt8} (h : goodTouch t = true) : t.all callB = true := by
  simp only [goodTouch, Bool.and_eq_true] at h; first | exact h.2 | exact h.1.2 | exact h.1.1 | exact h.1
/-- The first of some clashes. -/
def firstL (ps : List (Nat × Nat)) : List Int × Bool := if ps.length = 0 then ([], false) else (pairL (pAt ps (bestI ps ps.length)), true)
/-- What FirstClash answers. -/
def firstR (m : Meth) (k : List UInt8 × List UInt8) (t : List UInt8) : List Int × Bool := if (callsB m k && goodTouch t) = true then firstL (clsL m.st.toNat m.ch k t) else ([], false)
theorem firstR_le (m : Meth) (k : List UInt8 × List UInt8) (t : List UInt8) : (firstR m k t).1.length ≤ 4000000 := by
  unfold firstR firstL
  split
  · split
    · simp
    · simp [pairL]
  · simp
theorem clsL_len (N : Nat) (cs : List (List UInt8)) (k : List UInt8 × List UInt8) (t : List UInt8) (h : t.length ≤ 1000) : (clsL N cs k t).length ≤ 1000000 := by
  unfold clsL
  refine Nat.le_trans (clashTo_len _ _ _) (Nat.le_trans (Nat.mul_le_mul h (show _ ≤ 1000 from ?_)) (by omega))
  rw [List.length_take]; omega
theorem pairs_blk {w : World} {base : Nat} {v : Value} {ps : List (Nat × Nat)} (h : PairsO w base v ps) : ∃ (gs : List Nat) (A : Option Addr) (c : Nat), v = .slice A ps.length c ∧ gs.length = ps.length ∧ Rd w A ps.length (gs.map slcV) ∧ (∀ g ∈ gs, base ≤ g) ∧ ∀ (i : Nat) (h1 : i < gs.length) (h2 : i < ps.length), Blk w gs[i] 3 (intV (pairL ps[i])).toArray := by
  obtain ⟨gs, h1, h2, h3, h4, h5⟩ := h
  obtain ⟨A, c, e, _, _, rd, _⟩ := own_shape h2
  exact ⟨gs, A, c, e, h1, rd, fun g hg => (h4 g hg).1, h5⟩
theorem pair_own {w : World} {base g : Nat} {p : Nat × Nat} (h : Blk w g 3 (intV (pairL p)).toArray) (hb : base ≤ g) : w.ownsRow base 3 1 (slcV g) (pairL p).length (intV (pairL p)) := own_of_blk (cs := (intV (pairL p)).toArray) h hb (by simp [maxLen, pairL, intV])
set_option maxHeartbeats 2000000 in
theorem implFirstClash_law (m : Meth) (k : List UInt8 × List UInt8) (t : List UInt8) (A : Option Addr) (n c : Nat) (w : World) (ok : LawOk m k) (rd : Rd w A n (strV m.ch)) (hcap : n ≤ c) (lt : t.length ≤ 1048576) :
    Calls Try.prog 35 #[.agg #[.string (bs m.nm), .int .i64 m.st, .slice A n c], .agg #[.string (bs k.1), .string (bs k.2)], .string (bs t)] w (ResI w (firstR m k t)) := by
  have hn : n ≤ 1048576 := by have h1 := rd.1; have h2 := ok.2.2.1; rw [strV_len] at h1; omega
  have hcl : m.ch.length = n := by have h1 := rd.1; rw [strV_len] at h1; exact h1
  have GC0 := fun (w0 : World) (rd : Rd w0 A n (strV m.ch)) => hid (goodFor_any m k t A n c w0 ok rd lt)
  have RS := hid rd
  clear rd ok
  cases hg0 : callsB m k && goodTouch t
  · rw [hg0] at GC0
    have HR := hid (show firstR m k t = ([], false) by unfold firstR; rw [hg0]; rfl)
    obtain ⟨nm, st, ch⟩ := m
    clear hg0
    obtain ⟨k1, k2⟩ := k
    dsimp only at *
    go_enter Try.func35, Try.ntmps35
    go_wp2_with fail
    obtain ⟨B2, hsz, HC⟩ := box_mk w nm k1 k2 st (.slice A n c)
    have R2 := hid (RS.out.below B2)
    have HB2 := hid B2
    have hw2 := B2.size
    generalize ((w.alloc (.cells #[.string (bs nm), .int .i64 st, .slice A n c] 28)).alloc (.cells #[.string (bs k1), .string (bs k2)] 39)) = W2 at *
    clear B2 hsz
    have HHS5 := hid (fun W' (h : Below W2.heap.size W2 W') => (show W'.cell? ⟨w.heap.size, 0, none⟩ = some (.string (bs nm)) ∧ W'.cell? ⟨w.heap.size, 1, none⟩ = some (.int .i64 st) ∧ W'.cell? ⟨w.heap.size, 2, none⟩ = some (.slice A n c) ∧ W'.cell? ⟨w.heap.size + 1, 0, none⟩ = some (.string (bs k1)) ∧ W'.cell? ⟨w.heap.size + 1, 1, none⟩ = some (.string (bs k2)) from by
      obtain ⟨⟨a0, a1, a2⟩, a3, a4⟩ := HC.out _ h
      exact ⟨a0, a1, a2, a3, a4⟩))
    clear HC
    obtain ⟨n0, n1, n2, p0, p1⟩ := HHS5.out _ (Below.refl _ _)
    refine (GC0 _ R2.out).out.mono ?_
    rintro e w1 ⟨rfl, b1⟩
    have E1 := hid b1
    have hs1 := b1.size
    clear b1 n0 n1 n2 p0 p1
    obtain ⟨n0, n1, n2, p0, p1⟩ := HHS5.out _ E1.out
    go_wp2
    go_ret2
    rw [HR.out]
    exact ResI.none _ _ (HB2.out.trans (E1.out.mono hw2))
  · rw [hg0] at GC0
    have HR := hid (show firstR m k t = firstL (clsL m.st.toNat m.ch k t) by unfold firstR; rw [hg0]; rfl)
    rw [Bool.and_eq_true] at hg0
    have hb1 := callsB_bob hg0.1
    have hb2 := callsB_single hg0.1
    obtain ⟨N, hN, lo, hi, l1, l40, hs⟩ := meth_parts (callsB_meth hg0.1)
    have ht := fcl_len hg0.2
    have hcall := fcl_calls hg0.2
    obtain ⟨nm, st, ch⟩ := m
    dsimp only at *
    subst hN
    simp only [Int.toNat_natCast] at HR
    have hpl := clsL_len N ch k t ht
    have hsort := hid (show (clsL N ch k t).Pairwise (fun a b => a.1 ≤ b.1) from clashTo_sorted _ _ _)
    have BC := fun (w0 : World) (rd : Rd w0 A n (strV ch)) => hid (headClashesP_any N nm t ch k A n c w0 lo hi rd (by omega) l1 hs hb1 hb2 ht hcall)
    generalize clsL N ch k t = ps at *
    have HPL := hid hpl
    clear hg0 hb1 hb2 lo hi l1 l40 hs ht hcall hcl
    obtain ⟨k1, k2⟩ := k
    dsimp only at *
    go_enter Try.func35, Try.ntmps35
    go_wp2_with fail
    obtain ⟨B2, hsz, HC⟩ := box_mk w nm k1 k2 (N : Int) (.slice A n c)
    have R2 := hid (RS.out.below B2)
    have HB2 := hid B2
    have hw2 := B2.size
    generalize ((w.alloc (.cells #[.string (bs nm), .int .i64 (N : Int), .slice A n c] 28)).alloc (.cells #[.string (bs k1), .string (bs k2)] 39)) = W2 at *
    clear B2 hsz
    have HHS5 := hid (fun W' (h : Below W2.heap.size W2 W') => (show W'.cell? ⟨w.heap.size, 0, none⟩ = some (.string (bs nm)) ∧ W'.cell? ⟨w.heap.size, 1, none⟩ = some (.int .i64 (N : Int)) ∧ W'.cell? ⟨w.heap.size, 2, none⟩ = some (.slice A n c) ∧ W'.cell? ⟨w.heap.size + 1, 0, none⟩ = some (.string (bs k1)) ∧ W'.cell? ⟨w.heap.size + 1, 1, none⟩ = some (.string (bs k2)) from by
      obtain ⟨⟨a0, a1, a2⟩, a3, a4⟩ := HC.out _ h
      exact ⟨a0, a1, a2, a3, a4⟩))
    clear HC
    obtain ⟨n0, n1, n2, p0, p1⟩ := HHS5.out _ (Below.refl _ _)
    refine (GC0 _ R2.out).out.mono ?_
    rintro e w1 ⟨rfl, b1⟩
    have E1 := hid b1
    have hs1 := b1.size
    clear b1 n0 n1 n2 p0 p1
    obtain ⟨n0, n1, n2, p0, p1⟩ := HHS5.out _ E1.out
    go_wp2_with fail
    refine (BC _ (R2.out.below E1.out)).out.mono ?_
    rintro e w2 ⟨v2, rfl, o2, b2⟩
    obtain ⟨gs, A2, c2, rfl, hgl, rd2, hgb, hbk⟩ := pairs_blk o2
    have E2 := hid (E1.out.trans (b2.mono E1.out.size))
    have RD2 := hid rd2
    have HGB := hid hgb
    have HBK := hid hbk
    clear o2 b2 rd2 hgb hbk n0 n1 n2 p0 p1
    obtain ⟨q, hq⟩ : ∃ q, q = ps.length := ⟨_, rfl⟩
    rw [← hq] at RD2 ⊢ hpl
    by_cases h0 : q = 0
    · have HR2 := hid (show firstL ps = ([], false) by unfold firstL; rw [if_pos (by omega)])
      subst h0
      clear hq hgl
      go_wp2
      go_ret2
      rw [HR.out, HR2.out]
      exact ResI.none _ _ (HB2.out.trans (E2.out.mono hw2))
    · have HR2 := hid (show firstL ps = (pairL (pAt ps (bestI ps ps.length)), true) by unfold firstL; rw [if_neg (by omega)])
      have HQ := hid hq
      have HGL := hid hgl
      have MF := hid (fun w0 (b0 : Below w2.heap.size w2 w0) => minFunc_any A2 q c2 ps gs w0 (RD2.out.below b0) hgl (fun i h1 h2 => (HBK.out i h1 h2).below b0 (HBK.out i h1 h2).lt) (by omega) (by omega))
      have i1 : ((q : Int) == 0) = false := by simp; omega
      have i2 : ¬ (q : Int) = 0 := by omega
      clear hq hgl h0
      go_wp2_with fail
      refine (MF.out _ (Below.refl _ _)).mono ?_
      rintro e w3 ⟨rfl, b3⟩
      have E3 := hid (E2.out.trans (b3.mono E2.out.size))
      have B3 := hid b3
      clear b3
      unfold slcV
      go_wp2
      go_ret2
      rw [HR.out, HR2.out]
      have hq := HQ.out
      have hgl := HGL.out
      have hlt := bestI_lt ps q (by have := i2; omega)
      have hbC := bestC_eq hsort.out q (by omega)
      have hbl := HBK.out (bestI ps q) (by omega) (by omega)
      refine ⟨slcV (gs.getD (bestC ps q) 0), rfl, ?_, HB2.out.trans (E3.out.mono hw2)⟩
      rw [hbC, ← hq]
      have e1 : gs.getD (bestI ps q) 0 = gs[bestI ps q] := by simp [List.getD, show bestI ps q < gs.length by omega]
      rw [e1, pAt_get _ _ (by omega)]
      exact pair_own (hbl.below B3.out hbl.lt) (by have := HGB.out _ (List.getElem_mem (show bestI ps q < gs.length by omega)); omega)
set_option maxHeartbeats 4000000 in
theorem specFirstClash_law (m : Meth) (k : List UInt8 × List UInt8) (t : List UInt8) (A : Option Addr) (n c : Nat) (w : World) (ok : LawOk m k) (rd : Rd w A n (strV m.ch)) (hcap : n ≤ c) (lt : t.length ≤ 1048576) :
    Calls Try.prog 34 #[.agg #[.string (bs m.nm), .int .i64 m.st, .slice A n c], .agg #[.string (bs k.1), .string (bs k.2)], .string (bs t)] w (ResI w (firstR m k t)) := by
  have hn : n ≤ 1048576 := by have h1 := rd.1; have h2 := ok.2.2.1; rw [strV_len] at h1; omega
  have hcl : m.ch.length = n := by have h1 := rd.1; rw [strV_len] at h1; exact h1
  have GC0 := fun (w0 : World) (rd : Rd w0 A n (strV m.ch)) => hid (l9Asked_any m k t A n c w0 ok rd lt)
  have RS := hid rd
  clear rd ok
  cases hg0 : callsB m k && goodTouch t
  · rw [hg0] at GC0
    have HR := hid (show firstR m k t = ([], false) by unfold firstR; rw [hg0]; rfl)
    obtain ⟨nm, st, ch⟩ := m
    clear hg0
    obtain ⟨k1, k2⟩ := k
    dsimp only at *
    go_enter Try.func34, Try.ntmps34
    go_wp2_with fail
    obtain ⟨B2, hsz, HC⟩ := box_mk w nm k1 k2 st (.slice A n c)
    have R2 := hid (RS.out.below B2)
    have HB2 := hid B2
    have hw2 := B2.size
    generalize ((w.alloc (.cells #[.string (bs nm), .int .i64 st, .slice A n c] 28)).alloc (.cells #[.string (bs k1), .string (bs k2)] 39)) = W2 at *
    clear B2 hsz
    have HHS5 := hid (fun W' (h : Below W2.heap.size W2 W') => (show W'.cell? ⟨w.heap.size, 0, none⟩ = some (.string (bs nm)) ∧ W'.cell? ⟨w.heap.size, 1, none⟩ = some (.int .i64 st) ∧ W'.cell? ⟨w.heap.size, 2, none⟩ = some (.slice A n c) ∧ W'.cell? ⟨w.heap.size + 1, 0, none⟩ = some (.string (bs k1)) ∧ W'.cell? ⟨w.heap.size + 1, 1, none⟩ = some (.string (bs k2)) from by
      obtain ⟨⟨a0, a1, a2⟩, a3, a4⟩ := HC.out _ h
      exact ⟨a0, a1, a2, a3, a4⟩))
    clear HC
    obtain ⟨n0, n1, n2, p0, p1⟩ := HHS5.out _ (Below.refl _ _)
    refine (GC0 _ R2.out).out.mono ?_
    rintro e w1 ⟨rfl, b1⟩
    have E1 := hid b1
    have hs1 := b1.size
    clear b1 n0 n1 n2 p0 p1
    obtain ⟨n0, n1, n2, p0, p1⟩ := HHS5.out _ E1.out
    go_wp2
    go_ret2
    rw [HR.out]
    exact ResI.none _ _ (HB2.out.trans (E1.out.mono hw2))
  · rw [hg0] at GC0
    have HR := hid (show firstR m k t = firstL (clsL m.st.toNat m.ch k t) by unfold firstR; rw [hg0]; rfl)
    rw [Bool.and_eq_true] at hg0
    have hb1 := callsB_bob hg0.1
    have hb2 := callsB_single hg0.1
    obtain ⟨N, hN, lo, hi, l1, l40, hs⟩ := meth_parts (callsB_meth hg0.1)
    have ht := fcl_len hg0.2
    have hcall := fcl_calls hg0.2
    obtain ⟨nm, st, ch⟩ := m
    dsimp only at *
    subst hN
    simp only [Int.toNat_natCast] at HR
    have hpl := clsL_len N ch k t ht
    have hsort := hid (show (clsL N ch k t).Pairwise (fun a b => a.1 ≤ b.1) from clashTo_sorted _ _ _)
    have G := fun (w0 : World) (rd : Rd w0 A n (strV ch)) => hid (l9Heads_any N nm t ch k A n c w0 lo hi rd hn hcap l1 hs hb1 hb2 ht)
    have LF := fun B d (w0 : World) (rd : Rd w0 A n (strV ch)) (rb : Rd w0 B t.length (strV ((headsTo N ch k t t.length).take t.length))) => hid (show Calls Try.prog 69 #[.agg #[.string (bs nm), .int .i64 N, .slice A n c], .slice B t.length d] w0 (PairsR w0 (clsL N ch k t)) from l11ClashesP_any N nm ch ((headsTo N ch k t t.length).take t.length) A B n c t.length d w0 lo hi rd rb (by omega) ht hs (heads_take_rowsQ lo hi ch k t _ _))
    generalize clsL N ch k t = ps at *
    generalize headsTo N ch k t t.length = hds at *
    have HPL := hid hpl
    have i0 : (0 : Int) ≤ (t.length : Int) := Int.natCast_nonneg _
    clear hg0 hb1 hb2 lo hi l1 l40 hs ht hcall hcl
    obtain ⟨k1, k2⟩ := k
    dsimp only at *
    go_enter Try.func34, Try.ntmps34
    go_wp2_with fail
    obtain ⟨B2, hsz, HC⟩ := box_mk w nm k1 k2 (N : Int) (.slice A n c)
    have R2 := hid (RS.out.below B2)
    have HB2 := hid B2
    have hw2 := B2.size
    generalize ((w.alloc (.cells #[.string (bs nm), .int .i64 (N : Int), .slice A n c] 28)).alloc (.cells #[.string (bs k1), .string (bs k2)] 39)) = W2 at *
    clear B2 hsz
    have HHS5 := hid (fun W' (h : Below W2.heap.size W2 W') => (show W'.cell? ⟨w.heap.size, 0, none⟩ = some (.string (bs nm)) ∧ W'.cell? ⟨w.heap.size, 1, none⟩ = some (.int .i64 (N : Int)) ∧ W'.cell? ⟨w.heap.size, 2, none⟩ = some (.slice A n c) ∧ W'.cell? ⟨w.heap.size + 1, 0, none⟩ = some (.string (bs k1)) ∧ W'.cell? ⟨w.heap.size + 1, 1, none⟩ = some (.string (bs k2)) from by
      obtain ⟨⟨a0, a1, a2⟩, a3, a4⟩ := HC.out _ h
      exact ⟨a0, a1, a2, a3, a4⟩))
    clear HC
    obtain ⟨n0, n1, n2, p0, p1⟩ := HHS5.out _ (Below.refl _ _)
    refine (GC0 _ R2.out).out.mono ?_
    rintro e w1 ⟨rfl, b1⟩
    have E1 := hid b1
    have hs1 := b1.size
    clear b1 n0 n1 n2 p0 p1
    obtain ⟨n0, n1, n2, p0, p1⟩ := HHS5.out _ E1.out
    go_wp2_with fail
    go_region_held3 (fun w' => w'.cell? ⟨w.heap.size, 0, none⟩ = some (.string (bs nm)) ∧ w'.cell? ⟨w.heap.size, 1, none⟩ = some (.int .i64 (N : Int)) ∧ w'.cell? ⟨w.heap.size, 2, none⟩ = some (.slice A n c) ∧ w'.cell? ⟨w.heap.size + 1, 0, none⟩ = some (.string (bs k1)) ∧ w'.cell? ⟨w.heap.size + 1, 1, none⟩ = some (.string (bs k2)))
      (first | exact HHS5.out _ E1.out | exact HHS5.out _ E1.out.drew | exact HHS5.out _ Fa | exact HHS5.out _ Fb)
      (first | (go_at_call 73; refine (G _ (R2.out.below E1.out.drew)).out.mono ?_; rintro e wa ⟨va, rfl, oa, ba⟩; obtain ⟨Aa, ca, rfl, hca, _, rda, _⟩ := own_shape oa; have j2 := Int.ofNat_le.2 (Nat.le_of_succ_le hca); have Fa := E1.out.drew.trans (ba.mono E1.out.size)) | (go_at_call 69; refine (LF _ _ _ (R2.out.below Fa) (rd_takeQ rda (Nat.le_succ _))).out.mono ?_; rintro e w2 ⟨v2, rfl, o2, b2⟩; obtain ⟨gs, A2, c2, rfl, hgl, rd2, hgb, hbk⟩ := pairs_blk o2; have Fb := Fa.trans (b2.mono Fa.size)))
    have E2 := hid Fb
    have RD2 := hid rd2
    have hsa := Fa.size
    have HGB := hid (fun g hg => (Nat.le_trans hsa (hgb g hg) : W2.heap.size ≤ g))
    obtain ⟨q, hq⟩ : ∃ q, q = ps.length := ⟨_, rfl⟩
    rw [← hq] at RD2 hpl ⊢
    have HQ := hid hq
    have HGL := hid hgl
    have BK := hid (fun (k : Nat) (hk : k < q) => (show Blk w2 (gs.getD k 0) 3 (intV (pairL (pAt ps k))).toArray from by
      have := hbk k (by omega) (by omega)
      rw [pAt_get _ _ (by omega)]
      simpa [List.getD, show k < gs.length by omega] using this))
    have AT := hid (fun (k : Nat) (hk : k < q) => (show ∃ b o, A2 = some ⟨b, o, none⟩ ∧ w2.cell? ⟨b, o + k, none⟩ = some (.slice (some ⟨gs.getD k 0, 0, none⟩) 2 2) from by
      obtain ⟨b, o, hA, hc⟩ := RD2.out.at_ hk
      refine ⟨b, o, hA, ?_⟩
      rw [hc]
      simp [List.getD, slcV, show k < gs.length by omega]))
    clear oa ba rda o2 b2 rd2 hgb hbk Fa Fb hsa n0 n1 n2 p0 p1 j2 hq hgl RD2
    go_wp2_with fail
    go_loopg [8, 26] q (fun gk u v wr => ∃ k : Nat, k ≤ q ∧ gk = q - k ∧ v = .int .i64 k ∧ u = (if k = 0 then .slice none 0 0 else slcV (gs.getD (bestI ps k) 0)) ∧ Below w2.heap.size w2 wr)
    case atStart => exact ⟨0, by omega, by omega, rfl, rfl, Below.refl _ _⟩
    case round =>
      obtain ⟨k, hk, rfl, rfl, rfl, hb⟩ := hrel
      by_cases hlt : k < q
      · obtain ⟨b, o, rfl, hc⟩ := AT.out k hlt
        have hck : wr.cell? ⟨b, o + k, none⟩ = some (.slice (some ⟨gs.getD k 0, 0, none⟩) 2 2) := (hb.cell (World.block_lt_of_cell? w2 _ hc)).trans hc
        have X := (BK.out k hlt).below hb (BK.out k hlt).lt
        have HN := hid (show bestI ps (k + 1) = if (pAt ps k).2 < (pAt ps (bestI ps k)).2 then k else bestI ps k from rfl)
        obtain ⟨gk, hgk⟩ : ∃ g, g = gs.getD k 0 := ⟨_, rfl⟩
        rw [← hgk] at hck X
        obtain ⟨P2, hP2⟩ : ∃ p, p = ((pAt ps k).2 : Int) := ⟨_, rfl⟩
        have hx1 : wr.cell? ⟨gk, 1, none⟩ = some (.int .i64 P2) := by rw [hP2]; exact X.cell 1
        have HX := hid (fun W' (h : Below wr.heap.size wr W') => (h.cell (World.block_lt_of_cell? wr _ hx1)).trans hx1)
        have HGK := hid hgk
        have HP2 := hid hP2
        have j0 : (0 : Int) ≤ (k : Int) := by omega
        have j1 : (k : Int) < (q : Int) := by omega
        have HB := hid hb
        clear hc X hgk hP2 hb
        by_cases h0 : k = 0
        · have HR1 := hid (show bestI ps (k + 1) = k by rw [h0]; simp [bestI])
          rw [if_pos h0]
          clear h0
          go_wp2_with fail
          refine wp_region_held_drew (S := fun w' => w'.cell? ⟨gk, 1, none⟩ = some (.int .i64 P2)) (by kernel_rfl) (HX.out _ (Below.refl _ _).drew) (fun hHeld => ?_)
          refine wpAnyH_take (i := 0) (v := ?_) rfl (by kernel_rfl) (by kernel_rfl) (by kernel_rfl) (fun _ _ _ h => h) (Or.inl ⟨by rfl, ?_⟩) (by assumption) ?_
          rotate_left
          · (intro w hSw; (try dsimp only at hSw); go_simp; with_reducible rfl)
          try simp only [Act.put, List.setIfInBounds_toArray, List.set_cons_zero, List.set_cons_succ]
          refine wpAnyH_take (i := 1) (v := ?_) rfl (by kernel_rfl) (by kernel_rfl) (by kernel_rfl) (fun _ _ _ h => h) (Or.inl ⟨by rfl, ?_⟩) (by assumption) ?_
          rotate_left
          · (intro w hSw; (try dsimp only at hSw); go_simp; with_reducible rfl)
          try simp only [Act.put, List.setIfInBounds_toArray, List.set_cons_zero, List.set_cons_succ]
          refine wpAnyH_take (i := 2) (v := ?_) rfl (by kernel_rfl) (by kernel_rfl) (by kernel_rfl) (fun _ _ _ h => h) (Or.inl ⟨by rfl, ?_⟩) (by assumption) ?_
          rotate_left
          · (intro w hSw; (try dsimp only at hSw); go_simp; with_reducible rfl)
          try simp only [Act.put, List.setIfInBounds_toArray, List.set_cons_zero, List.set_cons_succ]
          refine wpAnyH_take (i := 3) (v := ?_) rfl (by kernel_rfl) (by kernel_rfl) (by kernel_rfl) (fun _ _ _ h => h) (Or.inl ⟨by rfl, ?_⟩) (by assumption) ?_
          rotate_left
          · (intro w hSw; (try dsimp only at hSw); go_simp; with_reducible rfl)
          try simp only [Act.put, List.setIfInBounds_toArray, List.set_cons_zero, List.set_cons_succ]
          refine wpAnyH_pass (i := 4) (d := some 34) (by kernel_rfl) (by kernel_rfl) (by kernel_rfl) (by kernel_rfl) (fun _ _ _ _ h => h) (by kernel_rfl) (by assumption) ?_
          try simp only [Act.put, List.setIfInBounds_toArray, List.set_cons_zero, List.set_cons_succ]
          refine wpAnyH_pass (i := 5) (d := some 35) (by kernel_rfl) (by kernel_rfl) (by kernel_rfl) (by kernel_rfl) (fun _ _ _ _ h => h) (by kernel_rfl) (by assumption) ?_
          try simp only [Act.put, List.setIfInBounds_toArray, List.set_cons_zero, List.set_cons_succ]
          refine wpAnyH_pass (i := 6) (d := some 36) (by kernel_rfl) (by kernel_rfl) (by kernel_rfl) (by kernel_rfl) (fun _ _ _ _ h => h) (by kernel_rfl) (by assumption) ?_
          try simp only [Act.put, List.setIfInBounds_toArray, List.set_cons_zero, List.set_cons_succ]
          refine wpAnyH_pass (i := 7) (d := some 37) (by kernel_rfl) (by kernel_rfl) (by kernel_rfl) (by kernel_rfl) (fun _ _ _ _ h => h) (by kernel_rfl) (by assumption) ?_
          try simp only [Act.put, List.setIfInBounds_toArray, List.set_cons_zero, List.set_cons_succ]
          refine wpAnyH_pass (i := 8) (d := some 38) (by kernel_rfl) (by kernel_rfl) (by kernel_rfl) (by kernel_rfl) (fun _ _ _ _ h => h) (by kernel_rfl) (by assumption) ?_
          try simp only [Act.put, List.setIfInBounds_toArray, List.set_cons_zero, List.set_cons_succ]
          refine wpAnyH_pass (i := 9) (d := some 39) (by kernel_rfl) (by kernel_rfl) (by kernel_rfl) (by kernel_rfl) (fun _ _ _ _ h => h) (by kernel_rfl) (by assumption) ?_
          try simp only [Act.put, List.setIfInBounds_toArray, List.set_cons_zero, List.set_cons_succ]
          refine wpAnyH_pass (i := 10) (d := some 40) (by kernel_rfl) (by kernel_rfl) (by kernel_rfl) (by kernel_rfl) (fun _ _ _ _ h => h) (by kernel_rfl) (by assumption) ?_
          try simp only [Act.put, List.setIfInBounds_toArray, List.set_cons_zero, List.set_cons_succ]
          refine wpAnyH_ready (rs := [11]) (by kernel_rfl) (by simp) ?_
          refine AllReadyH.cons rfl (fun K hK => ?_) AllReadyH.nil
          go_simp
          refine hK.out _ _ (by assumption) (fun hHx => ?_)
          clear hHx hK K
          try simp only [Act.put, List.setIfInBounds_toArray, List.set_cons_zero, List.set_cons_succ]
          refine wpAnyH_done (by kernel_rfl) ?_ _
          go_wp2
          go_roundg (q - (k + 1))
          case measure => omega
          case rel => exact ⟨k + 1, by omega, rfl, by go_num, by rw [if_neg (by omega), HR1.out, ← HGK.out]; rfl, HB.out.drew⟩
        · rw [if_neg h0]
          have hjl := bestI_lt ps k (by omega)
          have Y := (BK.out (bestI ps k) (by omega)).below HB.out (BK.out (bestI ps k) (by omega)).lt
          obtain ⟨gm, hgm⟩ : ∃ g, g = gs.getD (bestI ps k) 0 := ⟨_, rfl⟩
          rw [← hgm] at Y ⊢
          obtain ⟨M2, hM2⟩ : ∃ p, p = ((pAt ps (bestI ps k)).2 : Int) := ⟨_, rfl⟩
          have hy1 : wr.cell? ⟨gm, 1, none⟩ = some (.int .i64 M2) := by rw [hM2]; exact Y.cell 1
          have HY := hid (fun W' (h : Below wr.heap.size wr W') => (h.cell (World.block_lt_of_cell? wr _ hy1)).trans hy1)
          have HGM := hid hgm
          have HM2 := hid hM2
          have HH0 := hid h0
          clear Y hgm hM2 hjl h0
          unfold slcV
          by_cases hr : P2 < M2
          · have HR1 := hid (show bestI ps (k + 1) = k by rw [HN.out, if_pos (by have h1 := HP2.out; have h2 := HM2.out; omega)])
            go_wp2_with fail
            go_region_held3 (fun w' => w'.cell? ⟨gk, 1, none⟩ = some (.int .i64 P2) ∧ w'.cell? ⟨gm, 1, none⟩ = some (.int .i64 M2))
              (first | exact ⟨HX.out _ (Below.refl _ _), HY.out _ (Below.refl _ _)⟩ | exact ⟨HX.out _ (Below.refl _ _).drew, HY.out _ (Below.refl _ _).drew⟩)
              (fail)
            go_wp2
            go_roundg (q - (k + 1))
            case measure => omega
            case rel => exact ⟨k + 1, by omega, rfl, by go_num, by rw [if_neg (by omega), HR1.out, ← HGK.out]; rfl, HB.out.drew⟩
          · have HR1 := hid (show bestI ps (k + 1) = bestI ps k by rw [HN.out, if_neg (by have h1 := HP2.out; have h2 := HM2.out; omega)])
            go_wp2_with fail
            go_region_held3 (fun w' => w'.cell? ⟨gk, 1, none⟩ = some (.int .i64 P2) ∧ w'.cell? ⟨gm, 1, none⟩ = some (.int .i64 M2))
              (first | exact ⟨HX.out _ (Below.refl _ _), HY.out _ (Below.refl _ _)⟩ | exact ⟨HX.out _ (Below.refl _ _).drew, HY.out _ (Below.refl _ _).drew⟩)
              (fail)
            go_wp2
            go_roundg (q - (k + 1))
            case measure => omega
            case rel => exact ⟨k + 1, by omega, rfl, by go_num, by rw [if_neg (by omega), HR1.out, ← HGM.out]; rfl, HB.out.drew⟩
      · obtain rfl : k = q := by omega
        have E3 := hid (E2.out.trans (hb.mono E2.out.size))
        by_cases h0 : k = 0
        · rw [if_pos h0]
          have HR2 := hid (show firstL ps = ([], false) by unfold firstL; rw [if_pos (by have := HQ.out; omega)])
          clear hb h0
          go_wp2
          go_ret2
          rw [HR.out, HR2.out]
          exact ResI.none _ _ (HB2.out.trans (E3.out.mono hw2))
        · rw [if_neg h0]
          have HR2 := hid (show firstL ps = (pairL (pAt ps (bestI ps ps.length)), true) by unfold firstL; rw [if_neg (by have := HQ.out; omega)])
          have hlt := bestI_lt ps k (by omega)
          have Y := hid ((BK.out (bestI ps k) hlt).below hb (BK.out (bestI ps k) hlt).lt)
          have hg2 := hid (show W2.heap.size ≤ gs.getD (bestI ps k) 0 by
            have hgl := HGL.out
            have hq := HQ.out
            have e1 : gs.getD (bestI ps k) 0 = gs[bestI ps k]'(by omega) := by simp [List.getD, show bestI ps k < gs.length by omega]
            rw [e1]
            exact HGB.out _ (List.getElem_mem _))
          clear hb h0 hlt
          unfold slcV
          go_wp2
          go_ret2
          rw [HR.out, HR2.out, ← HQ.out]
          exact ⟨slcV (gs.getD (bestI ps k) 0), rfl, pair_own Y.out (Nat.le_trans hw2 hg2.out), HB2.out.trans (E3.out.mono hw2)⟩
end Go.Proofs.Ytiajeheonoebnaa

set_option linter.unusedVariables false
set_option linter.unusedSimpArgs false
set_option maxRecDepth 100000
namespace Go.Proofs.Ytiajeheonoebnaa
open Go.RowKit

set_option maxHeartbeats 4000000 in
theorem LawFirstClash.walk (v : Value) (m : Meth) (u : Value) (k : List UInt8 × List UInt8) (t : List UInt8) (w : World) (hv : InMethod w v m) (hu : InCalls w u k) (wt : t.length ≤ maxLen) :
    Calls Try.prog 8 #[v, u, .string (bs t)] w fun e w' => e = .returned (.bool true) ∧ Below w.heap.size w w' := by
  obtain ⟨nm, st, ch⟩ := m
  obtain ⟨k1, k2⟩ := k
  have SZ := fun left w0 (hw0 : InMethod w0 v ⟨nm, st, ch⟩) h0 h1 => hid (szMethod_any ⟨nm, st, ch⟩ v left w0 hw0 h0 h1)
  have HIM := hid (fun (w0 : World) (hb : Below w.heap.size w w0) => inMethod_below hv hb)
  obtain ⟨_, rfl, hn, wst, A, n, c, rfl, hn2, hr, hs⟩ := hv
  obtain ⟨rfl, hk1, hk2⟩ := hu
  have SK := fun left w0 h0 h1 => hid (szCalls_any (k1, k2) left w0 hk1 hk2 h0 h1)
  dsimp only at *
  have hln : ch.length = n := by have := hr.1; rw [strV_len] at this; exact this
  have HR := hid hr
  have HS := hid hs
  clear hr hs
  by_cases lt : t.length ≤ 1048576
  case neg =>
    have hi : (1048576 : Int) < (t.length : Int) := by omega
    go_enter Try.func8, Try.ntmps8
    go_wp2
    go_ret
    exact ⟨rfl, ((Below.refl _ _).alloc (Nat.le_refl _) _).alloc (by simp) _⟩
  have it : ¬ (1048576 : Int) < (t.length : Int) := by omega
  go_enter Try.func8, Try.ntmps8
  go_wp2_with fail
  obtain ⟨B2, hsz, HC⟩ := box_mk2 24 35 w nm k1 k2 st (.slice A n c)
  generalize ((w.alloc (.cells #[.string (bs nm), .int .i64 st, .slice A n c] 24)).alloc (.cells #[.string (bs k1), .string (bs k2)] 35)) = W2 at *
  have HB2 := hid B2
  have HIM2 := hid (HIM.out W2 B2)
  have R2 := hid (HR.out.below B2)
  have hw2 : w.heap.size ≤ W2.heap.size := B2.size
  clear B2 hsz
  refine (SZ _ _ HIM2.out (by decide) (by decide)).out.mono ?_
  rintro e w1 ⟨r, rfl, b1, hr1, hr2⟩
  have HB1 := hid b1
  have hs1 := b1.size
  obtain ⟨⟨m0, m1, m2⟩, q0, q1⟩ := HC.out _ b1
  clear b1
  by_cases hneg : r < 0
  · go_wp2
    go_ret
    exact ⟨rfl, HB2.out.trans (HB1.out.mono hw2)⟩
  have hsum := hr2 (by omega)
  have r1 : r ≤ 1048576 := by omega
  have r0 : 0 ≤ r := by omega
  clear hr1 hr2
  have HSUM := hid hsum
  clear hsum
  go_wp2_with fail
  refine (SK _ _ r0 r1).out.mono ?_
  rintro e ws ⟨r', rfl, bs', hr1', hr2'⟩
  have HBs := hid (HB1.out.trans (bs'.mono hs1))
  obtain ⟨⟨m0', m1', m2'⟩, q0', q1'⟩ := HC.out _ HBs.out
  clear bs'
  by_cases hneg' : r' < 0
  · go_wp2
    go_ret
    exact ⟨rfl, HB2.out.trans (HBs.out.mono hw2)⟩
  have hsum' := hr2' (by omega)
  have hsum := HSUM.out
  clear hr1' hr2'
  have OK : LawOk ⟨nm, st, ch⟩ (k1, k2) := ⟨wst, by dsimp only; omega, by dsimp only; omega, fun s h => by have := totL_mem h; dsimp only at *; omega, by dsimp only; omega, by dsimp only; omega⟩
  have HOK := hid OK
  have hn1 : n ≤ 1048576 := by omega
  clear OK hsum hsum' HSUM hln
  obtain ⟨R, hRR⟩ : ∃ R, R = firstR ⟨nm, st, ch⟩ (k1, k2) t := ⟨_, rfl⟩
  have hzs : R.1.length ≤ 4000000 := by rw [hRR]; exact firstR_le _ _ _
  have TM := fun w0 (b0 : Below W2.heap.size W2 w0) => hid (toMethod_any ⟨nm, st, ch⟩ A n c w0 (R2.out.below b0) hn1)
  have TK := fun w0 => hid (toCalls_any (k1, k2) w0)
  have SP := fun A0 c0 w0 (rd : Rd w0 A0 ch.length (strV ch)) (hc0 : ch.length ≤ c0) => hid (specFirstClash_law ⟨nm, st, ch⟩ (k1, k2) t A0 ch.length c0 w0 HOK.out rd hc0 lt)
  rw [← hRR] at SP
  have IM := fun A0 c0 w0 (rd : Rd w0 A0 ch.length (strV ch)) (hc0 : ch.length ≤ c0) => hid (implFirstClash_law ⟨nm, st, ch⟩ (k1, k2) t A0 ch.length c0 w0 HOK.out rd hc0 lt)
  rw [← hRR] at IM
  obtain ⟨zs, ok⟩ := R
  dsimp only at hzs
  clear hRR
  have HS5 : ∀ W', Below W2.heap.size W2 W' → W'.cell? ⟨w.heap.size, 0, none⟩ = some (.string (bs nm)) ∧ W'.cell? ⟨w.heap.size, 1, none⟩ = some (.int .i64 st) ∧ W'.cell? ⟨w.heap.size, 2, none⟩ = some (.slice A n c) ∧ W'.cell? ⟨w.heap.size + 1, 0, none⟩ = some (.string (bs k1)) ∧ W'.cell? ⟨w.heap.size + 1, 1, none⟩ = some (.string (bs k2)) := fun W' h => by
    obtain ⟨⟨a0, a1, a2⟩, a3, a4⟩ := HC.out _ h
    exact ⟨a0, a1, a2, a3, a4⟩
  have HHS5 := hid HS5
  clear HS5
  clear m0 m1 m2 q0 q1 m0' m1' m2' q0' q1'
  obtain ⟨m0, m1, m2, q0, q1⟩ := HHS5.out _ HBs.out
  go_wp2_with fail
  go_region_held3 (fun w' => w'.cell? ⟨w.heap.size, 0, none⟩ = some (.string (bs nm)) ∧ w'.cell? ⟨w.heap.size, 1, none⟩ = some (.int .i64 st) ∧ w'.cell? ⟨w.heap.size, 2, none⟩ = some (.slice A n c) ∧ w'.cell? ⟨w.heap.size + 1, 0, none⟩ = some (.string (bs k1)) ∧ w'.cell? ⟨w.heap.size + 1, 1, none⟩ = some (.string (bs k2)))
    (first | exact HHS5.out _ HBs.out | exact HHS5.out _ HBs.out.drew | exact HHS5.out _ Ea | exact HHS5.out _ Eb | exact HHS5.out _ Ec)
    (first | (go_at_call 13; refine (TM _ HBs.out.drew).out.mono ?_; rintro e wa ⟨va, rfl, oa, ba⟩; obtain ⟨Aa, ca, rfl, hca, _, rda, _⟩ := own_shape oa; have Ea : Below W2.heap.size W2 wa := HBs.out.drew.trans (ba.mono HBs.out.size)) | (go_at_call 20; refine (TK _).out.mono ?_; rintro e wb ⟨rfl, bb⟩; have Eb := Ea.trans (bb.mono Ea.size); have rdb := rda.below bb) | (go_at_call 34; refine (SP _ _ _ rdb hca).out.mono ?_; rintro e wc ⟨vc, rfl, oc, bc⟩; obtain ⟨Ac, cc, rfl, _, _, rdc, _⟩ := own_shape oc; have Ec := Eb.trans (bc.mono Eb.size)))
  have HEc := hid Ec
  obtain ⟨n0, n1, n2, p0, p1⟩ := HHS5.out _ Ec
  have RC := hid rdc
  have RCc := hid rdc
  have HE2c := hid Ec
  have hszc := Ec.size
  clear oa ba oc rdc bb rda rdb bc Ea Eb Ec
  go_wp2_with fail
  refine (TM _ HEc.out).out.mono ?_
  rintro e wd ⟨vd, rfl, od, bd⟩
  obtain ⟨Ad, cd, rfl, hcd, _, rdd, _⟩ := own_shape od
  have RCd := hid (RC.out.below bd)
  have hbcd := bd.size
  have Bcd := hid bd
  have ODd := hid od
  have Ed := HEc.out.trans (bd.mono HEc.out.size)
  have X5 := Blk.new wd 28 #[.string (bs nm), .int .i64 st, .slice Ad ch.length cd]
  have E5 : Below W2.heap.size W2 (wd.alloc (.cells #[.string (bs nm), .int .i64 st, .slice Ad ch.length cd] 28)) := Ed.alloc Ed.size _
  have R5 : Rd (wd.alloc (.cells #[.string (bs nm), .int .i64 st, .slice Ad ch.length cd] 28)) Ad ch.length (strV ch) := rdd.alloc _
  have hsz5 : wd.heap.size < (wd.alloc (.cells #[.string (bs nm), .int .i64 st, .slice Ad ch.length cd] 28)).heap.size := by simp
  have hcont : ∀ (P : World → Prop), P (wd.alloc (.cells #[.string (bs nm), .int .i64 st, .slice Ad ch.length cd] 28)) → P (wd.alloc (.cells #[.string (bs nm), .int .i64 st, .slice Ad ch.length cd] 28)) := fun _ h => h
  clear hcont
  have HS8 : ∀ W', Below (wd.alloc (.cells #[.string (bs nm), .int .i64 st, .slice Ad ch.length cd] 28)).heap.size (wd.alloc (.cells #[.string (bs nm), .int .i64 st, .slice Ad ch.length cd] 28)) W' → W'.cell? ⟨w.heap.size, 0, none⟩ = some (.string (bs nm)) ∧ W'.cell? ⟨w.heap.size, 1, none⟩ = some (.int .i64 st) ∧ W'.cell? ⟨w.heap.size, 2, none⟩ = some (.slice A n c) ∧ W'.cell? ⟨w.heap.size + 1, 0, none⟩ = some (.string (bs k1)) ∧ W'.cell? ⟨w.heap.size + 1, 1, none⟩ = some (.string (bs k2)) ∧ W'.cell? ⟨wd.heap.size, 0, none⟩ = some (.string (bs nm)) ∧ W'.cell? ⟨wd.heap.size, 1, none⟩ = some (.int .i64 st) ∧ W'.cell? ⟨wd.heap.size, 2, none⟩ = some (.slice Ad ch.length cd) := fun W' h => by
    obtain ⟨a0, a1, a2, a3, a4⟩ := HHS5.out _ (E5.trans (h.mono E5.size))
    have X := X5.below h hsz5
    exact ⟨a0, a1, a2, a3, a4, X.cell 0, X.cell 1, X.cell 2⟩
  have RC5 : Hid (Rd (wd.alloc (.cells #[.string (bs nm), .int .i64 st, .slice Ad ch.length cd] 28)) Ac zs.length (intV zs)) := hid (RCd.out.alloc _)
  have OD5 : Hid (World.ownsRow (wd.alloc (.cells #[.string (bs nm), .int .i64 st, .slice Ad ch.length cd] 28)) wc.heap.size 9 1 (.slice Ad ch.length cd) ch.length (strV ch)) := hid (own_below ODd.out ((Below.refl _ _).alloc (Nat.le_refl _) _))
  have Bc5 : Hid (Below wc.heap.size wc (wd.alloc (.cells #[.string (bs nm), .int .i64 st, .slice Ad ch.length cd] 28))) := hid (Bcd.out.alloc hbcd _)
  have X5b := hid X5
  have HLT := hid (fun q hq => (ODd.out.lt q hq).2 : ∀ q, (Value.slice Ad ch.length cd).ownBlock = some q → q < wd.heap.size)
  have HE5c := hid E5
  clear RC RCd Bcd ODd
  have HHS8 := hid HS8
  have HE5 := hid E5
  have HR5 := hid R5
  clear n0 n1 n2 p0 p1 HS8 E5 R5 X5 od bd rdd Ed
  go_wp2_with fail
  generalize (wd.alloc (.cells #[.string (bs nm), .int .i64 st, .slice Ad ch.length cd] 28)) = W5 at *
  obtain ⟨n0, n1, n2, p0, p1, x0, x1, x2⟩ := HHS8.out W5 (Below.refl _ _)
  go_region_held3 (fun w' => w'.cell? ⟨w.heap.size, 0, none⟩ = some (.string (bs nm)) ∧ w'.cell? ⟨w.heap.size, 1, none⟩ = some (.int .i64 st) ∧ w'.cell? ⟨w.heap.size, 2, none⟩ = some (.slice A n c) ∧ w'.cell? ⟨w.heap.size + 1, 0, none⟩ = some (.string (bs k1)) ∧ w'.cell? ⟨w.heap.size + 1, 1, none⟩ = some (.string (bs k2)) ∧ w'.cell? ⟨wd.heap.size, 0, none⟩ = some (.string (bs nm)) ∧ w'.cell? ⟨wd.heap.size, 1, none⟩ = some (.int .i64 st) ∧ w'.cell? ⟨wd.heap.size, 2, none⟩ = some (.slice Ad ch.length cd))
    (first | exact HHS8.out _ (Below.refl _ _) | exact HHS8.out _ (Below.refl _ _).drew | exact HHS8.out _ Ef | exact HHS8.out _ Eg)
    (first | (go_at_call 20; refine (TK _).out.mono ?_; rintro e wf ⟨rfl, bf⟩; have Ef : Below W5.heap.size W5 wf := (Below.refl _ _).drew.trans bf) | (go_at_call 35; refine (IM _ _ _ (HR5.out.below Ef) hcd).out.mono ?_; rintro e wg ⟨vg, rfl, og, bg⟩; obtain ⟨Ag, cg, rfl, _, _, rdg, _⟩ := own_shape og; have Eg := Ef.trans (bg.mono Ef.size)))
  have HEg := hid Eg
  have OG := hid (own_mono og (Ef.size))
  have RG := hid rdg
  clear og rdg
  clear bf bg Ef Eg
  clear n0 n1 n2 p0 p1 x0 x1 x2
  obtain ⟨n0, n1, n2, p0, p1, x0, x1, x2⟩ := HHS8.out _ HEg.out
  go_wp2_with fail
  refine (eqIntS_any _ _ _ _ _ _ zs zs _ RG.out (RC5.out.below HEg.out) (by omega) (by omega)).mono ?_
  rintro e w' ⟨rfl, q1, rfl⟩
  have HEg1 := hid (below_drewN HEg.out q1)
  clear n0 n1 n2 p0 p1 x0 x1 x2
  obtain ⟨n0, n1, n2, p0, p1, x0, x1, x2⟩ := HHS8.out _ HEg1.out
  go_wp2_with fail
  go_region_held3 (fun w' => w'.cell? ⟨w.heap.size, 0, none⟩ = some (.string (bs nm)) ∧ w'.cell? ⟨w.heap.size, 1, none⟩ = some (.int .i64 st) ∧ w'.cell? ⟨w.heap.size, 2, none⟩ = some (.slice A n c) ∧ w'.cell? ⟨w.heap.size + 1, 0, none⟩ = some (.string (bs k1)) ∧ w'.cell? ⟨w.heap.size + 1, 1, none⟩ = some (.string (bs k2)) ∧ w'.cell? ⟨wd.heap.size, 0, none⟩ = some (.string (bs nm)) ∧ w'.cell? ⟨wd.heap.size, 1, none⟩ = some (.int .i64 st) ∧ w'.cell? ⟨wd.heap.size, 2, none⟩ = some (.slice Ad ch.length cd))
    (first | exact HHS8.out _ HEg1.out | exact HHS8.out _ HEg1.out.drew | exact HHS8.out _ Eh | exact HHS8.out _ Ei)
    (first | (go_at_call 13; refine (TM _ (HE5.out.trans ((HEg1.out.drew).mono HE5.out.size))).out.mono ?_; rintro e wh ⟨vh, rfl, oh, bh⟩; obtain ⟨Ah, ch', rfl, _, _, rdh, _⟩ := own_shape oh; have Eh := HEg1.out.drew.trans (bh.mono HEg1.out.size)) | (go_at_call 15; refine (eqMethod_any ⟨nm, st, ch⟩ Ad Ah ch.length cd ch.length ch' _ (HR5.out.below Eh) rdh (by have := HOK.out.2.2.1; dsimp only at this; omega)).mono ?_; rintro e wi ⟨rfl, bi⟩; have Ei := Eh.trans (bi.mono Eh.size)))
  have HEi := hid Ei
  have OGi := hid (own_below OG.out ((below_drewN (Below.refl wg.heap.size wg) q1).drew.trans ((bh.trans (bi.mono bh.size)).mono (Nat.le_refl _))))
  clear oh bh rdh bi Eh Ei n0 n1 n2 p0 p1 x0 x1 x2
  obtain ⟨n0, n1, n2, p0, p1, x0, x1, x2⟩ := HHS8.out _ HEi.out
  go_wp2_with fail
  refine (markMethod_any wc.heap.size ⟨nm, st, ch⟩ _ ch.length _ (own_below OD5.out HEi.out) (by have := HOK.out.2.2.1; dsimp only at this; omega) (Nat.le_trans Bc5.out.size HEi.out.size)).mono ?_
  rintro e wj ⟨rfl, oj, gj⟩
  have hneX : ∀ q, (Value.slice Ad ch.length cd).ownBlock = some q → q < W5.heap.size := fun q hq => (OD5.out.lt q hq).2
  have hneW : ∀ q, (Value.slice Ad ch.length cd).ownBlock = some q → q < wd.heap.size := HLT.out
  have Bcj := hid ((Bc5.out.trans (HEi.out.mono Bc5.out.size)).trans (below_of_grown (own_below OD5.out HEi.out) gj (Nat.le_trans Bc5.out.size HEi.out.size)))
  have Xj : Blk wj wd.heap.size 28 #[.string (bs nm), .int .i64 st, .slice Ad ch.length cd] := blk_grown gj (X5b.out.below HEi.out X5b.out.lt) (fun e => by have := hneW _ e; omega)
  have OGj := hid (own_other OGi.out gj (fun q hq hq2 => by have h1 := hneX q hq2; have h2 := (OGi.out.lt q hq).1; omega))
  have RCj := hid (RCc.out.below Bcj.out)
  obtain ⟨Agj, cgj, egj, _, _, rdgj, _⟩ := own_shape OGj.out
  obtain ⟨rfl, rfl⟩ : Ag = Agj ∧ cg = cgj := by injection egj with e1 e2 e3; exact ⟨e1, e3⟩
  have RGj := hid rdgj
  clear egj rdgj oj
  have HE2j := hid (HE2c.out.trans (Bcj.out.mono hszc))
  have hgj := gj.size
  clear n0 n1 n2 p0 p1 x0 x1 x2 gj hneX hneW
  have x0 := Xj.cell 0
  have x1 := Xj.cell 1
  have x2 := Xj.cell 2
  simp only [List.getElem?_toArray, List.getElem?_cons_zero, List.getElem?_cons_succ] at x0 x1 x2
  obtain ⟨n0, n1, n2, p0, p1⟩ := HHS5.out _ HE2j.out
  go_wp2_with fail
  refine (eqIntS_any _ _ _ _ _ _ zs zs _ RGj.out RCj.out (by omega) (by omega)).mono ?_
  rintro e w' ⟨rfl, q2, rfl⟩
  have hsz5c : wc.heap.size ≤ W5.heap.size := Bc5.out.size
  have hszk : W5.heap.size ≤ (wj.drewN q2).heap.size := Nat.le_trans HEi.out.size hgj
  have HE2k := hid (below_drewN HE2j.out q2)
  have OGk := hid (own_drewN OGj.out q2)
  have Bck := hid (below_drewN Bcj.out q2)
  clear n0 n1 n2 p0 p1 x0 x1 x2
  obtain ⟨n0, n1, n2, p0, p1⟩ := HHS5.out _ HE2k.out
  go_wp2_with fail
  refine (markIntS_any _ _ 1 _ zs _ _ OGk.out rfl (by omega)).mono ?_
  rintro e wl ⟨rfl, ol, gl⟩
  have Bcl := hid (Bck.out.trans ((below_of_grown OGk.out gl hszk).mono hsz5c))
  have HE2l := hid (HE2c.out.trans (Bcl.out.mono hszc))
  obtain ⟨Agl, cgl, egl, _, _, rdgl, _⟩ := own_shape ol
  obtain ⟨rfl, rfl⟩ : Ag = Agl ∧ cg = cgl := by injection egl with e1 e2 e3; exact ⟨e1, e3⟩
  have RGl := hid rdgl
  have RCl := hid (RCc.out.below Bcl.out)
  clear egl rdgl ol gl n0 n1 n2 p0 p1
  obtain ⟨n0, n1, n2, p0, p1⟩ := HHS5.out _ HE2l.out
  go_wp2_with fail
  refine (heldIntS_any _ _ _ 1 _ _ RGl.out rfl (by omega)).mono ?_
  rintro e wm ⟨rfl, hbb⟩
  have bb : Below wl.heap.size wl wm := by rw [← hbb]; exact Below.refl _ _
  clear hbb
  have HE2m := hid (HE2l.out.trans (bb.mono HE2l.out.size))
  have RGm := hid (RGl.out.below bb)
  have RCm := hid (RCl.out.below bb)
  clear bb n0 n1 n2 p0 p1
  obtain ⟨n0, n1, n2, p0, p1⟩ := HHS5.out _ HE2m.out
  go_wp2_with fail
  go_region_held3 (fun w' => w'.cell? ⟨w.heap.size, 0, none⟩ = some (.string (bs nm)) ∧ w'.cell? ⟨w.heap.size, 1, none⟩ = some (.int .i64 st) ∧ w'.cell? ⟨w.heap.size, 2, none⟩ = some (.slice A n c) ∧ w'.cell? ⟨w.heap.size + 1, 0, none⟩ = some (.string (bs k1)) ∧ w'.cell? ⟨w.heap.size + 1, 1, none⟩ = some (.string (bs k2)))
    (first | exact HHS5.out _ HE2m.out | exact HHS5.out _ HE2m.out.drew | exact HHS5.out _ En | exact HHS5.out _ Eo | exact HHS5.out _ Ep)
    (first | (go_at_call 13; refine (TM _ HE2m.out.drew).out.mono ?_; rintro e wn ⟨vn, rfl, on, bn⟩; obtain ⟨An, cn, rfl, hcn, _, rdn, _⟩ := own_shape on; have En := HE2m.out.drew.trans (bn.mono HE2m.out.size)) | (go_at_call 20; refine (TK _).out.mono ?_; rintro e wo ⟨rfl, bo⟩; have Eo := En.trans (bo.mono En.size)) | (go_at_call 35; refine (IM _ _ _ (rdn.below bo) hcn).out.mono ?_; rintro e wp ⟨vp, rfl, op, bp⟩; obtain ⟨Ap, cp, rfl, _, _, rdp, _⟩ := own_shape op; have Ep := Eo.trans (bp.mono Eo.size)))
  have Bp := hid ((Below.refl wm.heap.size wm).drew.trans (bn.trans ((bo.trans (bp.mono bo.size)).mono bn.size)))
  have HE2p := hid (HE2m.out.trans (Bp.out.mono HE2m.out.size))
  have RP := hid rdp
  have RCp := hid (RCm.out.below Bp.out)
  have RGp := hid (RGm.out.below Bp.out)
  clear n0 n1 n2 p0 p1 on bn rdn bo bp op rdp En Eo Ep
  obtain ⟨n0, n1, n2, p0, p1⟩ := HHS5.out _ HE2p.out
  go_wp2_with fail
  refine (eqIntS_any _ _ _ _ _ _ zs zs _ RP.out RCp.out (by omega) (by omega)).mono ?_
  rintro e w' ⟨rfl, q3, rfl⟩
  have HE2q := hid (below_drewN HE2p.out q3)
  clear n0 n1 n2 p0 p1
  obtain ⟨n0, n1, n2, p0, p1⟩ := HHS5.out _ HE2q.out
  go_wp2_with fail
  refine (heldIntS_any _ _ _ 1 _ _ (RGp.out.drewN q3) rfl (by omega)).mono ?_
  rintro e wr ⟨rfl, hbb⟩
  have bb : Below (wp.drewN q3).heap.size (wp.drewN q3) wr := by rw [← hbb]; exact Below.refl _ _
  clear hbb
  have HE2r := hid (HE2q.out.trans (bb.mono HE2q.out.size))
  clear bb n0 n1 n2 p0 p1
  obtain ⟨n0, n1, n2, p0, p1⟩ := HHS5.out _ HE2r.out
  go_wp2
  go_ret
  exact ⟨rfl, HB2.out.trans (HE2r.out.mono hw2)⟩
end Go.Proofs.Ytiajeheonoebnaa


namespace Go.Proofs.Ytiajeheonoebnaa.PFirstClash
open Go.ChangeShapes Go.WideShapes Go.ChangeAt Go.RowKit
open Go.ChangeMaps (open_string shut_string)
set_option linter.unusedVariables false

theorem own : ownKnob Try.prog.godebug = none := by kernel_rfl
theorem laidOut : laidOutB Try.prog = true := by kernel_rfl

set_option maxRecDepth 100000 in
theorem lifted (os : Os) (started : os.Started) (H : Type) (enc : TypeId × Value → H) :
    ReturnsInHanded {} Try.checked os 8 .any (Rows.fnExactFirstClashSpec.pre6 enc Try.prog Try.f8 Rows.fnExactFirstClashRow.domain false) (Rows.fnExactFirstClashSpec.post enc Try.prog Try.f8 false true false false) := by
  refine returnsInHanded_of_change (C := Try.checked) own started (by kernel_rfl) Try.func8
    (ChangeSpec.witness6 (enc := enc) (C := Try.checked) false ⟨#[], #[.agg #[.string ByteArray.empty, .int .i64 0, .slice none 0 0], .agg #[.string ByteArray.empty, .string ByteArray.empty], .string ByteArray.empty], []⟩ 8 (by kernel_rfl) (by kernel_rfl) (by kernel_rfl) (by kernel_rfl)) ?_
  intro W base args ds gs before hval0 hW hcnd _
  have hval : ∀ (j : Nat) t v, Try.f8.params[j]? = some t → args[j]? = some v → Value.okWide Try.prog W .any base t v := hval0
  have hW' := hW
  obtain ⟨p, q, hA0, hV, rfl, hfz, hnd⟩ := hW
  have hA : DataW.TrodAll enc Try.prog W 0 (fun _ => true) true Try.f8.params.toList args.toList ds p := hA0
  rw [Try.params8] at hA hval
  obtain ⟨v0, vs0, d0, ds0, p0, q0, hargs, rfl, rfl, h0, r0⟩ := trodAll_cons hA
  obtain ⟨v1, vs1, d1, ds1, p1, q1, rfl, rfl, rfl, h1, r1⟩ := trodAll_cons r0
  obtain ⟨v2, vs2, d2, ds2, p2, q2, rfl, rfl, rfl, h2, r2⟩ := trodAll_cons r1
  obtain ⟨rfl, rfl, rfl⟩ := trodAll_nil r2
  obtain rfl : args = #[v0, v1, v2] := by cases args; simp_all
  obtain ⟨rfl, rfl⟩ := trodVars_none hV
  have k0 := h0
  have lt0 : ∀ x ∈ p0, x.block < W.heap.size := by obtain ⟨m, hm⟩ := k0; exact DataW.trod_lt m _ _ _ hm
  obtain ⟨a0, w0⟩ := open_inMethod (hval 0 24 v0 rfl rfl) h0
  have k1 := h1
  have lt1 : ∀ x ∈ p1, x.block < W.heap.size := by obtain ⟨m, hm⟩ := k1; exact DataW.trod_lt m _ _ _ hm
  obtain ⟨a1, w1⟩ := open_inCalls (hval 1 35 v1 rfl rfl) h1
  obtain ⟨a2, rfl, rfl, rfl, w2⟩ := open_string Try.underlying9 (hval 2 9 v2 rfl rfl) h2
  obtain ⟨l2, rfl⟩ := bs_surj a2
  have wl2 : l2.length ≤ maxLen := by rw [← bs_size]; exact w2
  clear hA0 hval0
  refine (LawFirstClash.walk v0 a0 v1 a1 l2 W w0 w1 wl2).mono fun e W' ⟨he, bel⟩ => ?_
  subst he
  exact ⟨_, rfl, _, _, _, [], _, [], hW', trodAll_mk1 (shut_bool Try.underlying4 _), (trodAll_cons_mk (Below.trod laidOut (by kernel_rfl) (of_decide_eq_true (by kernel_rfl)) k0 bel lt0) (trodAll_cons_mk (Below.trod laidOut (by kernel_rfl) (of_decide_eq_true (by kernel_rfl)) k1 bel lt1) (trodAll_cons_mk (shut_string Try.underlying9 w2) trodAll_mk0))), rfl, bel.frame _, fun h => by cases h⟩

theorem over : Rows.fnExactFirstClashRow.holds Try.pinned (OpenSpec.ofChange Rows.fnExactFirstClashSpec) :=
  OpenClaim.holds_of_wide 8 Try.f8 rfl rfl rfl rfl rfl rfl rfl ⟨rfl, rfl, rfl, rfl, rfl⟩ rfl rfl rfl rfl rfl (by kernel_rfl) Try.func8 (by kernel_rfl)
    (of_decide_eq_true (by kernel_rfl)) (by unfold Func.isWrapper; first | (rw [if_pos (by decide +kernel)]; kernel_rfl) | (rw [if_neg (by decide +kernel)]; exact ⟨rfl, rfl⟩))
    (fun os started H enc _ => lifted os started H enc)

theorem proved : Rows.FnExactFirstClashSaid := over
#print axioms proved
end Go.Proofs.Ytiajeheonoebnaa.PFirstClash
