/- Contract of the least rows of the sets of all rows of a part, in the reference. No conditions beyond those stated. -/
import Derived.Test.YtgljhhjfinngjaaLeastO
set_option linter.unusedVariables false
set_option linter.unusedSimpArgs false
set_option maxRecDepth 100000
namespace Go.Proofs.Ytgljhhjfinngjaa
open Go.RowKit

set_option maxHeartbeats 1000000 in
theorem l12Rows_any (N : Nat) (nm t : List UInt8) (ch : List (List UInt8)) (k : List UInt8 × List UInt8) (A : Option Addr) (n c : Nat) (w : World) (lo : 3 ≤ N) (hi : N ≤ 8) (hr : Rd w A n (strV ch)) (hn : n ≤ 1000) (hcap : n ≤ c) (l1 : 1 ≤ ch.length) (hs : ∀ x ∈ ch, okChange (N : Int) x = true) (hb1 : okChange (N : Int) k.1 = true) (hb2 : okChange (N : Int) k.2 = true) (ht : t.length ≤ 1000) :
    Calls Try.prog 56 #[.agg #[.string (bs nm), .int .i64 N, .slice A n c], .agg #[.string (bs k.1), .string (bs k.2)], .string (bs t)] w (OneS w (leastsL (headTo N ch k t t.length) (touchL N ch k t))) := by
  have hlc : ch.length = n := by have := hr.1; rw [strV_len] at this; exact this
  have G1 := fun (w0 : World) (rd : Rd w0 A n (strV ch)) => hid (l9End_any N nm t ch k A n c w0 lo hi rd (by omega) hcap l1 hs hb1 hb2 ht)
  have G2 := fun (w0 : World) (rd : Rd w0 A n (strV ch)) => hid (l9Rows_any N nm t ch k A n c w0 lo hi rd hn hcap l1 hs hb1 hb2 ht)
  have HH := hid (touchL_rows lo hi ch k t)
  have he := (headTo_row lo hi ch k t t.length)
  have hT : (touchL N ch k t).length ≤ 1000000 := by rw [touchL_len, hlc]; exact Nat.le_trans (Nat.mul_le_mul ht hn) (by omega)
  have RS := hid hr
  generalize headTo N ch k t t.length = e at *
  generalize touchL N ch k t = rows at *
  have HP := hid (fun x w (h : IsRow x ∧ x.length = N) => l12Set_any e x w he.1 h.1 (by rw [he.2, h.2]))
  have hpos := ord_pos he.1
  have hle := ord_le he.1
  obtain ⟨k1, k2⟩ := k
  clear hr hs hb1 hb2 he hlc
  go_enter Try.func56, Try.ntmps56
  go_wp2_with fail
  obtain ⟨B2, hsz, HC⟩ := box_mk w nm k1 k2 (N : Int) (.slice A n c)
  have R2 := hid (RS.out.below B2)
  have HB2 := hid B2
  have hw2 := B2.size
  generalize ((w.alloc (.cells #[.string (bs nm), .int .i64 (N : Int), .slice A n c] 31)).alloc (.cells #[.string (bs k1), .string (bs k2)] 33)) = W2 at *
  clear B2 hsz
  have HS5 : ∀ W', Below W2.heap.size W2 W' → W'.cell? ⟨w.heap.size, 0, none⟩ = some (.string (bs nm)) ∧ W'.cell? ⟨w.heap.size, 1, none⟩ = some (.int .i64 (N : Int)) ∧ W'.cell? ⟨w.heap.size, 2, none⟩ = some (.slice A n c) ∧ W'.cell? ⟨w.heap.size + 1, 0, none⟩ = some (.string (bs k1)) ∧ W'.cell? ⟨w.heap.size + 1, 1, none⟩ = some (.string (bs k2)) := fun W' h => by
    obtain ⟨⟨a0, a1, a2⟩, a3, a4⟩ := HC.out _ h
    exact ⟨a0, a1, a2, a3, a4⟩
  have HHS5 := hid HS5
  clear HS5 HC
  refine (G1 _ R2.out).out.mono ?_
  rintro e' w1 ⟨rfl, b1⟩
  have HB1 := hid b1
  clear b1
  obtain ⟨n0, n1, n2, q0, q1⟩ := HHS5.out _ HB1.out
  go_wp2_with fail
  refine (G2 _ (R2.out.below HB1.out)).out.mono ?_
  rintro e' w3 ⟨v3, rfl, o3, b3⟩
  obtain ⟨A3, c3, rfl, _, _, rd3, _⟩ := own_shape o3
  have HB3 := hid (HB1.out.trans (b3.mono HB1.out.size))
  have RT := hid rd3
  have hw3 := HB3.out.size
  clear o3 b3 rd3 n0 n1 n2 q0 q1
  go_wp2_with fail
  
  go_loopg [8, 20] rows.length (fun gk u v wr => ∃ k : Nat, k ≤ rows.length ∧ gk = rows.length - k ∧ v = .int .i64 k ∧ wr.ownsRow w3.heap.size 9 1 u k (strV (leastsL e (rows.take k))) ∧ Below w3.heap.size w3 wr)
  case atStart => exact ⟨0, by omega, by omega, rfl, World.ownsRow_nil _ _ _ _, Below.refl _ _⟩
  case round =>
    obtain ⟨k, hk, rfl, rfl, ho, hb⟩ := hrel
    by_cases hlt : k < rows.length
    · obtain ⟨b, o, rfl, hj', hc⟩ := (RT.out.below hb).str hlt
      have hrow := HH.out _ (List.getElem_mem hj')
      have hst := hid (leastsL_step e rows k hj')
      have hT2 := hid (fun w => HP.out rows[k] w hrow)
      have hk0 : (0 : Int) ≤ (k : Int) := by omega
      have hk1 : (k : Int) < (rows.length : Int) := by omega
      have HO := hid ho
      have HB := hid hb
      have HBs := hb.size
      have i0 : (0 : Int) < (ordL e : Int) := by omega
      have hlim : k + 1 ≤ 1000000000000 := by omega
      obtain ⟨Z, hZ⟩ : ∃ Z, Z = leastOf e rows[k] := ⟨_, rfl⟩
      have HZ := hid hZ
      rw [← hZ] at hst
      clear ho hb hrow hZ
      go_wp2_with fail
      refine (hT2.out _).mono ?_
      rintro e' w4 ⟨v1, rfl, o1, b1⟩
      rw [sortL_len, setTo_len] at o1
      obtain ⟨A1, c1, rfl, _, _, rd1, _⟩ := own_shape o1
      obtain ⟨b', o', rfl, hj2, hc2⟩ := rd1.str (show 0 < ordL e by omega)
      have hat : (sortL (setTo e rows[k] (ordL e)))[0] = Z := by rw [HZ.out]; exact headD_at2 _ hj2
      rw [hat] at hc2
      have hc0 : w4.cell? ⟨b', o', none⟩ = some (.string (bs Z)) := hc2
      have HO1 := hid (own_below HO.out b1)
      have HB1' := hid (HB.out.trans (b1.mono HBs))
      have B1s := b1.size
      clear hc2 hat o1 rd1 b1 hj2
      go_wp2_with (at_builtin; refine app_str _ (by rfl) _ _ (by rfl) w3.heap.size _ _ _ (by rfl) (HO1.out.alloc _) (some ⟨w4.heap.size, 0, none⟩) 1 1 [Z] (by rfl) (Rd.blk _ [.string (bs Z)] _) hlim (by simp; omega) ?_; intro v5 w5 o5 g5)
      go_roundg (rows.length - (k + 1))
      case measure => omega
      case rel =>
        rw [hst.out] at o5
        exact ⟨k + 1, by omega, rfl, by go_num, o5, (HB1'.out.alloc (by omega) _).grown g5 (by simp; omega) fun q hq => (HO1.out.lt q hq).1⟩
    · obtain rfl : k = rows.length := by omega
      rw [List.take_of_length_le (Nat.le_refl _)] at ho
      have HO := hid ho
      clear ho
      go_wp2
      go_ret
      exact ⟨_, rfl, by rw [leastsL_len]; exact own_mono HO.out (Nat.le_trans hw2 hw3), HB2.out.trans ((HB3.out.trans (hb.mono hw3)).mono hw2)⟩
end Go.Proofs.Ytgljhhjfinngjaa
