/- Plain laws of the heads of a splice; the program's heads. No conditions beyond those stated. -/
import Derived.Test.YtdmipllbifofmaaHead
import Derived.Test.YtdmipllbifofmaaSplHP
set_option linter.unusedVariables false
set_option linter.unusedSimpArgs false
set_option maxRecDepth 100000
namespace Go.Proofs.Ytdmipllbifofmaa
open Go.RowKit

set_option maxHeartbeats 2000000 in
theorem spliceHeads_any (N g : Nat) (ms : List Meth) (vs : List Value) (k1 k2 l : List UInt8) (w : World) (lo : 3 ≤ N) (hi : N ≤ 8) (h : MethsTo w g ms ms.length vs) (hm : MsOk N ms) (hn : ms.length ≤ 1048576) (hb1 : okChange (N : Int) k1 = true) (hb2 : okChange (N : Int) k2 = true) (hsp : isSpliceL ms.length l = true) :
    Calls Try.prog 83 #[.slice (some ⟨g, 0, none⟩) ms.length ms.length, .agg #[.string (bs k1), .string (bs k2)], .string (bs l)] w (OneSn w (l.length / 2 + 1) (spHeads N ms (k1, k2) l (l.length / 2))) := by
  have H := hid h
  have HM := hid hm
  have BC := hid (fun (M : Meth) (hM : M ∈ ms) (A : Option Addr) (n c : Nat) (call : List UInt8) (w0 : World) (rd : Rd w0 A n (strV M.ch)) (hn : n ≤ 1048576) => callHead_any N M.nm call M.ch (k1, k2) A n c w0 lo hi rd hn (hm M hM).2.1 (hm M hM).2.2.2 hb1 hb2)
  have HP := hid (fun (k i : Nat) (hi : i = 2 * k) (hlt : i + 1 < l.length) => isSpliceL_pair hsp k i hi hlt)
  obtain ⟨hmod, _, hlen⟩ := isSpliceL_len hsp
  have HMOD := hid hmod
  have hpos : 0 < ms.length := by simp [isSpliceL] at hsp; omega
  have HRN := hid (fun w0 => rounds_any N w0 hi)
  obtain ⟨z0, y1, z2, z3⟩ := h.2.1 0 (by rw [h.1]; exact hpos) hpos
  clear z0 z2 z3
  rw [(hm _ (List.getElem_mem hpos)).1] at y1
  have y1 : w.cell? ⟨g, 1, none⟩ = some (.int .i64 (N : Int)) := by simpa using y1
  have Y1 := hid y1
  have y2 : (w.alloc (.cells #[.string (bs k1), .string (bs k2)] 32)).cell? ⟨g, 1, none⟩ = some (.int .i64 (N : Int)) := (((Below.refl w.heap.size w).alloc (Nat.le_refl _) _).cell (World.block_lt_of_cell? w _ y1)).trans y1
  obtain ⟨n, hn'⟩ : ∃ n, n = ms.length := ⟨_, rfl⟩
  have HL := hid hn'
  rw [← hn'] at hn ⊢ hpos
  have hi0 : (0 : Int) < (n : Int) := by omega
  obtain ⟨L, hL⟩ : ∃ L, L = l.length / 2 := ⟨_, rfl⟩
  have HLL := hid (show l.length = 2 * L by omega)
  have hqq2 : (l.length : Int).tdiv 2 = (L : Int) := by rw [Int.tdiv_eq_ediv_of_nonneg (by omega)]; omega
  have hqq3 : (l.length : Int) / 2 = (L : Int) := by omega
  have hLb : L ≤ 60 := by omega
  rw [← hL]
  clear h hm hn' hsp hmod hb1 hb2 y1 hL
  go_enter Try.func83, Try.ntmps83
  go_wp2_with fail
  have K1 := Blk.new w 32 #[.string (bs k1), .string (bs k2)]
  have BK : Below w.heap.size w (w.alloc (.cells #[.string (bs k1), .string (bs k2)] 32)) := (Below.refl _ _).alloc (Nat.le_refl _) _
  have hwK : w.heap.size ≤ (w.alloc (.cells #[.string (bs k1), .string (bs k2)] 32)).heap.size := BK.size
  have KC := hid (⟨K1.cell 0, K1.cell 1⟩ : _ ∧ _)
  clear K1
  generalize (w.alloc (.cells #[.string (bs k1), .string (bs k2)] 32)) = W1 at *
  have HBK := hid BK
  have HCC := hid (show ∀ w', Below W1.heap.size W1 w' → w'.cell? ⟨w.heap.size, 0, none⟩ = some (.string (bs k1)) ∧ w'.cell? ⟨w.heap.size, 1, none⟩ = some (.string (bs k2)) from fun w' h =>
    ⟨(h.cell (World.block_lt_of_cell? _ _ KC.out.1)).trans KC.out.1, (h.cell (World.block_lt_of_cell? _ _ KC.out.2)).trans KC.out.2⟩)
  clear KC BK y2
  refine (HRN.out _).mono ?_
  rintro e w' ⟨rfl, rfl⟩
  go_wp2
  go_loopg [7, 8, 20] L (fun gk v u x wr => ∃ k : Nat, k ≤ L ∧ gk = L - k ∧ x = .int .i64 k ∧ v = .string (bs (spHead N ms (k1, k2) l k)) ∧ wr.ownsRow W1.heap.size 9 1 u (k + 1) (strV (spHeads N ms (k1, k2) l k)) ∧ Below W1.heap.size W1 wr)
  case atStart => exact ⟨0, by omega, by omega, rfl, rfl, own_of_blk (Blk.new _ _ #[.string (bs (roundsL N))]) (Nat.le_refl _) (by simp [maxLen]), (Below.refl _ _).alloc (Nat.le_refl _) _⟩
  case round =>
    obtain ⟨k, hk, rfl, rfl, rfl, ho, hb⟩ := hrel
    by_cases hltk : k < L
    · have hlt2 : 2 * k + 1 < l.length := by have := HLL.out; omega
      have hlt : 2 * k < l.length := by omega
      have hkL0 : (0 : Int) ≤ (k : Int) := by omega
      have hkL1 : (k : Int) < (L : Int) := by omega
      have hp := HP.out k (2 * k) rfl hlt2
      obtain ⟨q, hq⟩ : ∃ q, q = l[2 * k].toNat - 65 := ⟨_, rfl⟩
      have hnl : n = ms.length := HL.out
      have hqn : q < ms.length := by omega
      have hqi : (q : Int) < (n : Int) := by omega
      have hqnn : q < n := by omega
      have hql : (l[2 * k].toNat : Int) - 65 = (q : Int) := by omega
      have hbw := hid (HBK.out.trans (hb.mono hwK))
      obtain ⟨M, n1, cc1, A1, hM, x0, x1, x2, hcap, r1⟩ := methsTo_at (H.out.below hbw.out) hqn
      have hMm : M ∈ ms := by rw [← hM]; exact List.getElem_mem hqn
      have hmo := HM.out M hMm
      rw [hmo.1] at x1
      have hn1 : n1 ≤ 1048576 := by have := r1.1; rw [strV_len] at this; have := hmo.2.2.1; omega
      have hrow := spHead_row lo hi ms (k1, k2) l k
      obtain ⟨Hd, hHd⟩ : ∃ H, H = spHead N ms (k1, k2) l k := ⟨_, rfl⟩
      rw [← hHd] at hrow
      rw [← hHd]
      obtain ⟨S, hS⟩ : ∃ S, S = callHeadL N M.ch (k1, k2) [l[2 * k + 1]] := ⟨_, rfl⟩
      have hnx := hid (show timesL Hd S = spHead N ms (k1, k2) l (k + 1) by
        have e1 : l.getD (2 * k) 0 = l[2 * k] := getD_at l (2 * k) hlt
        have e2 : l.getD (2 * k + 1) 0 = l[2 * k + 1] := getD_at l (2 * k + 1) hlt2
        have e3 : ms.getD q default = M := by simp [List.getD, hqn, hM]
        rw [spHead, ← hHd, e1, e2, ← hq, e3, hS])
      have hT := hid (fun w0 => times_any Hd S w0 hrow.1 (by rw [hS]; exact callHeadL_row lo hi _ _ _) (by rw [hrow.2, hS, callHeadL_len]))
      rw [hnx.out] at hT
      have hC := hid (fun w0 rd => BC.out M hMm A1 n1 cc1 [l[2 * k + 1]] w0 rd hn1)
      rw [← hS] at hC
      have hst := hid (spHeads_step N ms (k1, k2) l k)
      have ht1 := hid (take1_drop l (2 * k + 1) hlt2)
      have hMA := hid (fun w0 => methodAt_any l (k : Int) k w0 rfl (by omega) hlt hp.1)
      rw [hql] at hMA
      have hlim : k + 1 + 1 ≤ 1000000000000 := by omega
      have i0 : (0 : Int) ≤ (2 * (k : Int)) := by omega
      have i1 : (2 * (k : Int)) < (l.length : Int) := by omega
      have i2 : (2 * (k : Int)) + 2 ≤ (l.length : Int) := by omega
      have i3 : (2 * (k : Int)) + 1 ≤ (2 * (k : Int)) + 2 := by omega
      have i4 : (0 : Int) ≤ (2 * (k : Int)) + 1 := by omega
      have i5 : ((2 * (k : Int)) + 1).toNat = 2 * k + 1 := by omega
      have i6 : ((2 * (k : Int)) + 2).toNat = 2 * k + 2 := by omega
      have i7 : 2 * k + 2 - (2 * k + 1) = 1 := by omega
      have i8 : (0 : Int) ≤ (q : Int) := by omega
      have HW0 := hid (IntWalk.i64_in (2 * (k : Int)) (by omega))
      have HW2 := hid (IntWalk.i64_in ((2 * (k : Int)) + 1) (by omega))
      have HW3 := hid (IntWalk.i64_in ((2 * (k : Int)) + 2) (by omega))
      have HO := hid ho
      have HB := hid hb
      have HBs := hb.size
      have R1 := hid r1
      obtain ⟨Nx, hNx⟩ : ∃ X, X = spHead N ms (k1, k2) l (k + 1) := ⟨_, rfl⟩
      rw [← hNx] at hT hst
      have HNX := hid hNx
      have HS5 := hid (show ∀ w', Below wr.heap.size wr w' → w'.cell? ⟨w.heap.size, 0, none⟩ = some (.string (bs k1)) ∧ w'.cell? ⟨w.heap.size, 1, none⟩ = some (.string (bs k2)) ∧ w'.cell? ⟨g, q * 3, none⟩ = some (.string (bs M.nm)) ∧ w'.cell? ⟨g, q * 3 + 1, none⟩ = some (.int .i64 (N : Int)) ∧ w'.cell? ⟨g, q * 3 + 2, none⟩ = some (.slice A1 n1 cc1) from fun w' h => by
        obtain ⟨a0, a1⟩ := HCC.out _ (HB.out.trans (h.mono HB.out.size))
        exact ⟨a0, a1, (h.cell (World.block_lt_of_cell? _ _ x0)).trans x0, (h.cell (World.block_lt_of_cell? _ _ x1)).trans x1, (h.cell (World.block_lt_of_cell? _ _ x2)).trans x2⟩)
      have HLT2 := hid hlt2
      clear ho hb hS hHd hNx hrow hnx x0 x1 x2 r1 hmo hM hMm hq hql hnl hp hcap
      obtain ⟨n0, n1', n2, p0, p1⟩ := HS5.out _ (Below.refl _ _)
      have ht2 := ht1.out
      have hw0 := HW0.out
      have hw1 := HW2.out
      have hw2 := HW3.out
      go_wp2_with fail
      go_region_held3 (fun w' => w'.cell? ⟨w.heap.size, 0, none⟩ = some (.string (bs k1)) ∧ w'.cell? ⟨w.heap.size, 1, none⟩ = some (.string (bs k2)) ∧ w'.cell? ⟨g, q * 3, none⟩ = some (.string (bs M.nm)) ∧ w'.cell? ⟨g, q * 3 + 1, none⟩ = some (.int .i64 (N : Int)) ∧ w'.cell? ⟨g, q * 3 + 2, none⟩ = some (.slice A1 n1 cc1))
        (first | exact HS5.out _ (Below.refl _ _) | exact HS5.out _ (Below.refl _ _).drew | exact HS5.out _ Fa | exact HS5.out _ Fb)
        (first | (go_at_call 110; refine (hMA.out _).mono ?_; rintro e w9 ⟨rfl, rfl⟩) | (go_at_call 67; refine (hC.out _ (R1.out.below (Below.refl wr.heap.size wr).drew)).mono ?_; rintro e w2 ⟨rfl, b2⟩; have Fa := (Below.refl wr.heap.size wr).drew.trans (b2.mono (Nat.le_refl _))) | (go_at_call 105; refine (hT.out _).mono ?_; rintro e w3 ⟨rfl, b3⟩; have Fb := Fa.trans (b3.mono Fa.size)))
      have HO2 := hid (own_below HO.out Fb)
      have HB2' := hid (HB.out.trans (Fb.mono HBs))
      have hs2 : wr.heap.size ≤ w3.heap.size := Fb.size
      clear b2 b3 Fa Fb n0 n1' n2 p0 p1 hw1 hw2 hw0
      go_wp2_with (at_builtin; refine app_str _ (by rfl) _ _ (by rfl) W1.heap.size _ _ _ (by rfl) (HO2.out.alloc _) (some ⟨w3.heap.size, 0, none⟩) 1 1 [Nx] (by rfl) (Rd.blk _ [.string (bs Nx)] _) hlim (by simp; omega) ?_; intro v5 w5 o5 g5)
      go_roundg (L - (k + 1))
      case measure => omega
      case rel =>
        rw [hst.out] at o5
        exact ⟨k + 1, by omega, rfl, by go_num, by rw [HNX.out], o5, (HB2'.out.alloc (by omega) _).grown g5 (by simp; omega) fun q hq => (HO2.out.lt q hq).1⟩
    · obtain rfl : k = L := by omega
      go_wp2
      go_ret
      exact ⟨_, rfl, own_mono ho hwK, HBK.out.trans (hb.mono hwK)⟩
end Go.Proofs.Ytdmipllbifofmaa
