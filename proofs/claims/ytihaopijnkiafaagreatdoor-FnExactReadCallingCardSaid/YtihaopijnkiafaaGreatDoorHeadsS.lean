/- Contract of the reference's heads of a touch. No conditions beyond those stated. -/
import Derived.Test.YtihaopijnkiafaaGreatDoorHead
import Derived.Test.YtihaopijnkiafaaGreatDoorHeadsP
set_option linter.unusedVariables false
set_option linter.unusedSimpArgs false
set_option maxRecDepth 100000
namespace Go.Proofs.YtihaopijnkiafaaGreatDoor
open Go.RowKit

set_option maxHeartbeats 2000000 in
theorem l9Heads_any (N : Nat) (nm t : List UInt8) (ch : List (List UInt8)) (k : List UInt8 × List UInt8) (A : Option Addr) (n c : Nat) (w : World) (lo : 3 ≤ N) (hi : N ≤ 8) (hr : Rd w A n (strV ch)) (hn : n ≤ 1048576) (hcap : n ≤ c) (l1 : 1 ≤ ch.length) (hs : ∀ x ∈ ch, okChange (N : Int) x = true) (hb1 : okChange (N : Int) k.1 = true) (hb2 : okChange (N : Int) k.2 = true) (ht : t.length ≤ 1000) :
    Calls Tryz.prog 34 #[.agg #[.string (bs nm), .int .i64 N, .slice A n c], .agg #[.string (bs k.1), .string (bs k.2)], .string (bs t)] w (OneSn w (t.length + 1) (headsTo N ch k t t.length)) := by
  have BC := fun (call : List UInt8) (w0 : World) (rd : Rd w0 A n (strV ch)) => hid (l8Head_any N nm call ch k A n c w0 lo hi rd hn hcap l1 hs hb1 hb2)
  have RS := hid hr
  obtain ⟨k1, k2⟩ := k
  clear hr hs hb1 hb2
  have HRN := fun w0 => hid (l1Rounds_any N w0 hi)
  go_enter Tryz.func34, Tryz.ntmps34
  go_wp2_with fail
  obtain ⟨B2, hsz, HC⟩ := box_mk w nm k1 k2 (N : Int) (.slice A n c)
  have R2 := hid (RS.out.below B2)
  have HB2 := hid B2
  have hw2 := B2.size
  generalize ((w.alloc (.cells #[.string (bs nm), .int .i64 (N : Int), .slice A n c] 31)).alloc (.cells #[.string (bs k1), .string (bs k2)] 33)) = W2 at *
  clear B2 hsz
  have HS5 : ∀ W', Below W2.heap.size W2 W' → W'.cell? ⟨w.heap.size, 0, none⟩ = some (.string (bs nm)) ∧ W'.cell? ⟨w.heap.size, 1, none⟩ = some (.int .i64 (N : Int)) ∧ W'.cell? ⟨w.heap.size, 2, none⟩ = some (.slice A n c) ∧ W'.cell? ⟨w.heap.size + 1, 0, none⟩ = some (.string (bs k1)) ∧ W'.cell? ⟨w.heap.size + 1, 1, none⟩ = some (.string (bs k2)) := fun W' h => by
    obtain ⟨⟨a0, a1, a2⟩, a3, a4⟩ := HC.out _ h
    exact ⟨a0, a1, a2, a3, a4⟩
  have HHS5 := hid HS5
  clear HS5 HC
  obtain ⟨n0, n1, n2, p0, p1⟩ := HHS5.out _ (Below.refl W2.heap.size W2)
  refine (HRN _).out.mono ?_
  rintro e w' ⟨rfl, rfl⟩
  go_wp2
  clear n0 n1 n2 p0 p1
  go_loopg [7, 8, 9] t.length (fun gk v u x wr => ∃ j : Nat, j ≤ t.length ∧ gk = t.length - j ∧ x = .int .i64 j ∧ v = .string (bs (headTo N ch (k1, k2) t j)) ∧ wr.ownsRow W2.heap.size 9 1 u (j + 1) (strV (headsTo N ch (k1, k2) t j)) ∧ Below W2.heap.size W2 wr)
  case atStart => exact ⟨0, by omega, by omega, rfl, rfl, own_of_blk (Blk.new _ _ #[.string (bs (roundsL N))]) (Nat.le_refl _) (by simp [maxLen]), (Below.refl _ _).alloc (Nat.le_refl _) _⟩
  case round =>
    obtain ⟨j, hj, rfl, rfl, rfl, ho, hb⟩ := hrel
    by_cases hlt : j < t.length
    · have hrow := headTo_row lo hi ch (k1, k2) t j
      obtain ⟨Hd, hHd⟩ : ∃ H, H = headTo N ch (k1, k2) t j := ⟨_, rfl⟩
      rw [← hHd] at hrow
      rw [← hHd]
      have hgd := gd_at t j hlt
      obtain ⟨S, hS⟩ : ∃ S, S = callHeadL N ch (k1, k2) [t[j]] := ⟨_, rfl⟩
      have hnx := hid (show timesL Hd S = headTo N ch (k1, k2) t (j + 1) by rw [headTo, ← hHd, hgd, hS])
      have hT := hid (fun w0 => l1Times_any Hd S w0 hrow.1 (by rw [hS]; exact callHeadL_row lo hi _ _ _) (by rw [hrow.2, hS, callHeadL_len]))
      rw [hnx.out] at hT
      have hC := fun w0 rd => BC [t[j]] w0 rd
      rw [← hS] at hC
      have hst := hid (headsTo_step N ch (k1, k2) t j)
      have ht1 := hid (take1_drop t j hlt)
      have i0 : (0 : Int) ≤ (j : Int) := by omega
      have i1 : (j : Int) < (t.length : Int) := by omega
      have i2 : (j : Int) + 1 ≤ (t.length : Int) := by omega
      have HO := hid ho
      have HB := hid hb
      have HBs := hb.size
      have hlim : j + 1 + 1 ≤ 1000000000000 := by omega
      obtain ⟨Nx, hNx⟩ : ∃ X, X = headTo N ch (k1, k2) t (j + 1) := ⟨_, rfl⟩
      rw [← hNx] at hT hst
      have HNX := hid hNx
      clear ho hb hgd hS hHd hNx hrow hnx
      obtain ⟨n0, n1, n2, p0, p1⟩ := HHS5.out _ HB.out
      have ht2 := ht1.out
      have i3 : (j : Int) ≤ (j : Int) + 1 := by omega
      have i4 : (0 : Int) ≤ (j : Int) + 1 := by omega
      have i5 : ((j : Int) + 1).toNat = j + 1 := by omega
      have i6 : j + 1 - j = 1 := by omega
      have hw1 := IntWalk.i64_in ((j : Int) + 1) (by omega)
      go_wp2_with fail
      go_region_held3 (fun w' => w'.cell? ⟨w.heap.size, 0, none⟩ = some (.string (bs nm)) ∧ w'.cell? ⟨w.heap.size, 1, none⟩ = some (.int .i64 (N : Int)) ∧ w'.cell? ⟨w.heap.size, 2, none⟩ = some (.slice A n c) ∧ w'.cell? ⟨w.heap.size + 1, 0, none⟩ = some (.string (bs k1)) ∧ w'.cell? ⟨w.heap.size + 1, 1, none⟩ = some (.string (bs k2)))
        (first | exact HHS5.out _ HB.out | exact HHS5.out _ HB.out.drew | exact HHS5.out _ Fa)
        (first | (go_at_call 32; refine (hC _ (R2.out.below HB.out.drew)).out.mono ?_; rintro e w2 ⟨rfl, b2⟩; have Fa := HB.out.drew.trans (b2.mono HBs)) | (go_at_call 16; refine (hT.out _).mono ?_; rintro e w3 ⟨rfl, rfl⟩))
      have HO2 := hid (own_below HO.out ((Below.refl wr.heap.size wr).drew.trans b2))
      have HB2' := hid Fa
      have hs2 : wr.heap.size ≤ w2.heap.size := b2.size
      clear b2 Fa n0 n1 n2 p0 p1 hw1
      go_wp2_with (at_builtin; refine app_str _ (by rfl) _ _ (by rfl) W2.heap.size _ _ _ (by rfl) (HO2.out.alloc _) (some ⟨w2.heap.size, 0, none⟩) 1 1 [Nx] (by rfl) (Rd.blk _ [.string (bs Nx)] _) hlim (by simp; omega) ?_; intro v5 w5 o5 g5)
      go_roundg (t.length - (j + 1))
      case measure => omega
      case rel =>
        rw [hst.out] at o5
        exact ⟨j + 1, by omega, rfl, by go_num, by rw [HNX.out], o5, (HB2'.out.alloc (by omega) _).grown g5 (by simp; omega) fun q hq => (HO2.out.lt q hq).1⟩
    · obtain rfl : j = t.length := by omega
      go_wp2
      go_ret
      exact ⟨_, rfl, own_mono ho hw2, HB2.out.trans (hb.mono hw2)⟩
end Go.Proofs.YtihaopijnkiafaaGreatDoor
