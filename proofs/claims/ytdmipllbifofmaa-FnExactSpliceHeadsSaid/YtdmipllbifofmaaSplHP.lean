/- Plain laws of the heads of a splice; the reference's heads. No conditions beyond those stated. -/
import Derived.Test.YtdmipllbifofmaaHead
import Derived.Test.YtdmipllbifofmaaHeadsP
import Derived.Test.YtdmipllbifofmaaSpliced
import Derived.Test.YtdmipllbifofmaaSplice2
set_option linter.unusedVariables false
set_option linter.unusedSimpArgs false
set_option maxRecDepth 100000
namespace Go.Proofs.Ytdmipllbifofmaa
open Go.RowKit

/-- The head behind i leads of a splice. -/
def spHead (N : Nat) (ms : List Meth) (k : List UInt8 × List UInt8) (l : List UInt8) : Nat → List UInt8
  | 0 => roundsL N
  | i + 1 => timesL (spHead N ms k l i) (callHeadL N (ms.getD ((l.getD (2 * i) 0).toNat - 65) default).ch k [l.getD (2 * i + 1) 0])
theorem spHead_row {N : Nat} (lo : 3 ≤ N) (hi : N ≤ 8) (ms : List Meth) (k : List UInt8 × List UInt8) (l : List UInt8) (i : Nat) : IsRow (spHead N ms k l i) ∧ (spHead N ms k l i).length = N := by
  induction i with
  | zero => exact ⟨rounds_row lo hi, rounds_len N⟩
  | succ i ih => exact ⟨times_row ih.1 (callHeadL_row lo hi _ _ _) (by rw [ih.2, callHeadL_len]), by rw [spHead, times_len, callHeadL_len]⟩
/-- Rounds and the heads behind the first j leads. -/
def spHeads (N : Nat) (ms : List Meth) (k : List UInt8 × List UInt8) (l : List UInt8) (j : Nat) : List (List UInt8) := (List.range (j + 1)).map (spHead N ms k l)
theorem spHeads_len (N : Nat) (ms : List Meth) (k : List UInt8 × List UInt8) (l : List UInt8) (j : Nat) : (spHeads N ms k l j).length = j + 1 := by simp [spHeads]
theorem spHeads_step (N : Nat) (ms : List Meth) (k : List UInt8 × List UInt8) (l : List UInt8) (j : Nat) : spHeads N ms k l j ++ [spHead N ms k l (j + 1)] = spHeads N ms k l (j + 1) := by
  simp only [spHeads]
  rw [List.range_succ (n := j + 1), List.map_append]; rfl
/-- Methods of one stage whose changes are good. -/
def MsOk (N : Nat) (ms : List Meth) : Prop := ∀ m ∈ ms, m.st = (N : Int) ∧ 1 ≤ m.ch.length ∧ m.ch.length ≤ 1048576 ∧ ∀ x ∈ m.ch, okChange (N : Int) x = true
theorem w64_byte (b : UInt8) : wrap64 (b.toNat : Int) = (b.toNat : Int) := by have := UInt8.toNat_lt b; unfold wrap64; omega
theorem w64_sub (b : UInt8) : wrap64 ((b.toNat : Int) - 65) = (b.toNat : Int) - 65 := by have := UInt8.toNat_lt b; unfold wrap64; omega
set_option maxHeartbeats 2000000 in
theorem l14Heads_any (N g : Nat) (ms : List Meth) (vs : List Value) (k1 k2 l : List UInt8) (w : World) (lo : 3 ≤ N) (hi : N ≤ 8) (h : MethsTo w g ms ms.length vs) (hm : MsOk N ms) (hn : ms.length ≤ 1048576) (hb1 : okChange (N : Int) k1 = true) (hb2 : okChange (N : Int) k2 = true) (hsp : isSpliceL ms.length l = true) :
    Calls Try.prog 81 #[.slice (some ⟨g, 0, none⟩) ms.length ms.length, .agg #[.string (bs k1), .string (bs k2)], .string (bs l)] w (OneSn w (l.length / 2 + 1) (spHeads N ms (k1, k2) l (l.length / 2))) := by
  have H := hid h
  have HM := hid hm
  have BC := hid (fun (M : Meth) (hM : M ∈ ms) (A : Option Addr) (n c : Nat) (call : List UInt8) (w0 : World) (rd : Rd w0 A n (strV M.ch)) (hcap : n ≤ c) (hn : n ≤ 1048576) => l8Head_any N M.nm call M.ch (k1, k2) A n c w0 lo hi rd hn hcap (hm M hM).2.1 (hm M hM).2.2.2 hb1 hb2)
  have HP := hid (fun (k i : Nat) (hi : i = 2 * k) (hlt : i + 1 < l.length) => isSpliceL_pair hsp k i hi hlt)
  obtain ⟨hmod, _, hlen⟩ := isSpliceL_len hsp
  have HMOD := hid hmod
  have hpos : 0 < ms.length := by simp [isSpliceL] at hsp; omega
  have HRN := hid (fun w0 => l1Rounds_any N w0 hi)
  obtain ⟨z0, y1, z2, z3⟩ := h.2.1 0 (by rw [h.1]; exact hpos) hpos
  clear z0 z2 z3
  rw [(hm _ (List.getElem_mem hpos)).1] at y1
  have y1 : w.cell? ⟨g, 1, none⟩ = some (.int .i64 (N : Int)) := by simpa using y1
  have Y1 := hid y1
  have y2 : (w.alloc (.cells #[.string (bs k1), .string (bs k2)] 32)).cell? ⟨g, 1, none⟩ = some (.int .i64 (N : Int)) := (((Below.refl w.heap.size w).alloc (Nat.le_refl _) _).cell (World.block_lt_of_cell? w _ y1)).trans y1
  obtain ⟨n, hn'⟩ : ∃ n, n = ms.length := ⟨_, rfl⟩
  have HL := hid hn'
  rw [← hn'] at hn ⊢ hpos
  have hi0 : (0 : Int) < (n : Int) := by omega
  clear h hm hn' hsp hmod hb1 hb2 y1
  go_enter Try.func81, Try.ntmps81
  go_wp2_with fail
  have K1 := Blk.new w 32 #[.string (bs k1), .string (bs k2)]
  have BK : Below w.heap.size w (w.alloc (.cells #[.string (bs k1), .string (bs k2)] 32)) := (Below.refl _ _).alloc (Nat.le_refl _) _
  have hwK : w.heap.size ≤ (w.alloc (.cells #[.string (bs k1), .string (bs k2)] 32)).heap.size := BK.size
  have KC := hid (⟨K1.cell 0, K1.cell 1⟩ : _ ∧ _)
  clear K1
  generalize (w.alloc (.cells #[.string (bs k1), .string (bs k2)] 32)) = W1 at *
  have HBK := hid BK
  have HCC := hid (show ∀ w', Below W1.heap.size W1 w' → w'.cell? ⟨w.heap.size, 0, none⟩ = some (.string (bs k1)) ∧ w'.cell? ⟨w.heap.size, 1, none⟩ = some (.string (bs k2)) from fun w' h =>
    ⟨(h.cell (World.block_lt_of_cell? _ _ KC.out.1)).trans KC.out.1, (h.cell (World.block_lt_of_cell? _ _ KC.out.2)).trans KC.out.2⟩)
  clear KC BK y2
  refine (HRN.out _).mono ?_
  rintro e w' ⟨rfl, rfl⟩
  go_wp2
  go_loopg [7, 8, 9] l.length (fun gk v u x wr => ∃ j k : Nat, j ≤ l.length ∧ Hid (j = 2 * k) ∧ gk = l.length - j ∧ x = .int .i64 j ∧ v = .string (bs (spHead N ms (k1, k2) l k)) ∧ wr.ownsRow W1.heap.size 9 1 u (k + 1) (strV (spHeads N ms (k1, k2) l k)) ∧ Below W1.heap.size W1 wr)
  case atStart => exact ⟨0, 0, by omega, hid rfl, by omega, rfl, rfl, own_of_blk (Blk.new _ _ #[.string (bs (roundsL N))]) (Nat.le_refl _) (by simp [maxLen]), (Below.refl _ _).alloc (Nat.le_refl _) _⟩
  case round =>
    obtain ⟨j, k, hj, hjk, rfl, rfl, rfl, ho, hb⟩ := hrel
    by_cases hlt : j < l.length
    · have hlt2 : j + 1 < l.length := by have := hjk.out; have := HMOD.out; omega
      have hp := HP.out k j hjk.out hlt2
      obtain ⟨q, hq⟩ : ∃ q, q = l[j].toNat - 65 := ⟨_, rfl⟩
      have hnl : n = ms.length := HL.out
      have hqn : q < ms.length := by omega
      have hqi : (q : Int) < (n : Int) := by omega
      have hqnn : q < n := by omega
      have hql : (l[j].toNat : Int) - 65 = (q : Int) := by omega
      have hbw := hid (HBK.out.trans (hb.mono hwK))
      obtain ⟨M, n1, cc1, A1, hM, x0, x1, x2, hcap, r1⟩ := methsTo_at (H.out.below hbw.out) hqn
      have hMm : M ∈ ms := by rw [← hM]; exact List.getElem_mem hqn
      have hmo := HM.out M hMm
      rw [hmo.1] at x1
      have hn1 : n1 ≤ 1048576 := by have := r1.1; rw [strV_len] at this; have := hmo.2.2.1; omega
      have hrow := spHead_row lo hi ms (k1, k2) l k
      obtain ⟨Hd, hHd⟩ : ∃ H, H = spHead N ms (k1, k2) l k := ⟨_, rfl⟩
      rw [← hHd] at hrow
      rw [← hHd]
      obtain ⟨S, hS⟩ : ∃ S, S = callHeadL N M.ch (k1, k2) [l[j + 1]] := ⟨_, rfl⟩
      have hnx := hid (show timesL Hd S = spHead N ms (k1, k2) l (k + 1) by
        have e1 : l.getD (2 * k) 0 = l[j] := by rw [← hjk.out]; exact getD_at l j hlt
        have e2 : l.getD (2 * k + 1) 0 = l[j + 1] := by rw [← hjk.out]; exact getD_at l (j + 1) hlt2
        have e3 : ms.getD q default = M := by simp [List.getD, hqn, hM]
        rw [spHead, ← hHd, e1, e2, ← hq, e3, hS])
      have hT := hid (fun w0 => l1Times_any Hd S w0 hrow.1 (by rw [hS]; exact callHeadL_row lo hi _ _ _) (by rw [hrow.2, hS, callHeadL_len]))
      rw [hnx.out] at hT
      have hC := hid (fun w0 rd => BC.out M hMm A1 n1 cc1 [l[j + 1]] w0 rd hcap hn1)
      rw [← hS] at hC
      have hst := hid (spHeads_step N ms (k1, k2) l k)
      have ht1 := hid (take1_drop l (j + 1) hlt2)
      have HW0 := hid (w64_byte l[j])
      have HW1 := hid ((w64_sub l[j]).trans hql)
      have hkb : k ≤ 60 := by have := hjk.out; omega
      have hlim : k + 1 + 1 ≤ 1000000000000 := by omega
      have i0 : (0 : Int) ≤ (j : Int) := by omega
      have i1 : (j : Int) < (l.length : Int) := by omega
      have i2 : (j : Int) + 2 ≤ (l.length : Int) := by omega
      have i3 : (j : Int) + 1 ≤ (j : Int) + 2 := by omega
      have i4 : (0 : Int) ≤ (j : Int) + 1 := by omega
      have i5 : ((j : Int) + 1).toNat = j + 1 := by omega
      have i6 : ((j : Int) + 2).toNat = j + 2 := by omega
      have i7 : j + 2 - (j + 1) = 1 := by omega
      have i8 : (0 : Int) ≤ (q : Int) := by omega
      have HW4 := hid (IntWalk.i64_in (l[j].toNat : Int) (by have := UInt8.toNat_lt l[j]; omega))
      have HW5 := hid ((IntWalk.i64_in ((l[j].toNat : Int) - 65) (by have := UInt8.toNat_lt l[j]; omega)).trans hql)
      have HW2 := hid (IntWalk.i64_in ((j : Int) + 1) (by omega))
      have HW3 := hid (IntWalk.i64_in ((j : Int) + 2) (by omega))
      have HO := hid ho
      have HB := hid hb
      have HBs := hb.size
      have R1 := hid r1
      obtain ⟨Nx, hNx⟩ : ∃ X, X = spHead N ms (k1, k2) l (k + 1) := ⟨_, rfl⟩
      rw [← hNx] at hT hst
      have HNX := hid hNx
      have HS5 := hid (show ∀ w', Below wr.heap.size wr w' → w'.cell? ⟨w.heap.size, 0, none⟩ = some (.string (bs k1)) ∧ w'.cell? ⟨w.heap.size, 1, none⟩ = some (.string (bs k2)) ∧ w'.cell? ⟨g, q * 3, none⟩ = some (.string (bs M.nm)) ∧ w'.cell? ⟨g, q * 3 + 1, none⟩ = some (.int .i64 (N : Int)) ∧ w'.cell? ⟨g, q * 3 + 2, none⟩ = some (.slice A1 n1 cc1) from fun w' h => by
        obtain ⟨a0, a1⟩ := HCC.out _ (HB.out.trans (h.mono HB.out.size))
        exact ⟨a0, a1, (h.cell (World.block_lt_of_cell? _ _ x0)).trans x0, (h.cell (World.block_lt_of_cell? _ _ x1)).trans x1, (h.cell (World.block_lt_of_cell? _ _ x2)).trans x2⟩)
      have HLT2 := hid hlt2
      clear ho hb hS hHd hNx hrow hnx x0 x1 x2 r1 hmo hM hMm hq hql hnl hp hcap
      obtain ⟨n0, n1', n2, p0, p1⟩ := HS5.out _ (Below.refl _ _)
      have ht2 := ht1.out
      have hwq0 := HW0.out
      have hwq := HW1.out
      have hwq4 := HW4.out
      have hwq5 := HW5.out
      have hw1 := HW2.out
      have hw2 := HW3.out
      go_wp2_with fail
      go_region_held3 (fun w' => w'.cell? ⟨w.heap.size, 0, none⟩ = some (.string (bs k1)) ∧ w'.cell? ⟨w.heap.size, 1, none⟩ = some (.string (bs k2)) ∧ w'.cell? ⟨g, q * 3, none⟩ = some (.string (bs M.nm)) ∧ w'.cell? ⟨g, q * 3 + 1, none⟩ = some (.int .i64 (N : Int)) ∧ w'.cell? ⟨g, q * 3 + 2, none⟩ = some (.slice A1 n1 cc1))
        (first | exact HS5.out _ (Below.refl _ _) | exact HS5.out _ (Below.refl _ _).drew | exact HS5.out _ Fa)
        (first | (go_at_call 66; refine (hC.out _ (R1.out.below (Below.refl wr.heap.size wr).drew)).mono ?_; rintro e w2 ⟨rfl, b2⟩; have Fa := (Below.refl wr.heap.size wr).drew.trans (b2.mono (Nat.le_refl _))) | (go_at_call 102; refine (hT.out _).mono ?_; rintro e w3 ⟨rfl, rfl⟩))
      have HO2 := hid (own_below HO.out ((Below.refl wr.heap.size wr).drew.trans b2))
      have HB2' := hid (HB.out.trans (Fa.mono HBs))
      have hs2 : wr.heap.size ≤ w2.heap.size := b2.size
      clear b2 Fa n0 n1' n2 p0 p1 hw1 hw2 hwq hwq0 hwq4 hwq5
      go_wp2_with (at_builtin; refine app_str _ (by rfl) _ _ (by rfl) W1.heap.size _ _ _ (by rfl) (HO2.out.alloc _) (some ⟨w2.heap.size, 0, none⟩) 1 1 [Nx] (by rfl) (Rd.blk _ [.string (bs Nx)] _) hlim (by simp; omega) ?_; intro v5 w5 o5 g5)
      go_roundg (l.length - (j + 2))
      case measure => omega
      case rel =>
        rw [hst.out] at o5
        have := HLT2.out
        exact ⟨j + 2, k + 1, by omega, hid (by have := hjk.out; omega), rfl, by go_num, by rw [HNX.out], o5, (HB2'.out.alloc (by omega) _).grown g5 (by simp; omega) fun q hq => (HO2.out.lt q hq).1⟩
    · obtain rfl : j = l.length := by omega
      have hk : l.length / 2 = k := by have := hjk.out; omega
      rw [← hk] at ho
      go_wp2
      go_ret
      exact ⟨_, rfl, own_mono ho hwK, HBK.out.trans (hb.mono hwK)⟩
end Go.Proofs.Ytdmipllbifofmaa
