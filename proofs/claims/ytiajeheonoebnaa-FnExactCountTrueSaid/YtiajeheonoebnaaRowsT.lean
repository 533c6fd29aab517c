/- Contracts of the rows of a touch, in the reference and in the program. No conditions beyond those stated. -/
import Derived.Test.YtiajeheonoebnaaExpT
import Derived.Test.YtiajeheonoebnaaLeads
set_option linter.unusedVariables false
set_option linter.unusedSimpArgs false
set_option maxRecDepth 100000
namespace Go.Proofs.Ytiajeheonoebnaa
open Go.RowKit

/-- The rows of a touch. -/
def touchL (N : Nat) (cs : List (List UInt8)) (k : List UInt8 × List UInt8) (t : List UInt8) : List (List UInt8) := leadsL cs ((headsTo N cs k t t.length).take t.length)
theorem touchL_len (N : Nat) (cs : List (List UInt8)) (k : List UInt8 × List UInt8) (t : List UInt8) : (touchL N cs k t).length = t.length * cs.length := by
  rw [touchL, leadsL_len, List.length_take, headsTo_len, Nat.min_eq_left (by omega)]
theorem headsTo_rows {N : Nat} (lo : 3 ≤ N) (hi : N ≤ 8) (cs : List (List UInt8)) (k : List UInt8 × List UInt8) (t : List UInt8) (j : Nat) : ∀ x ∈ headsTo N cs k t j, IsRow x ∧ x.length = N := by
  intro x hx
  simp only [headsTo, List.mem_map] at hx
  obtain ⟨i, _, rfl⟩ := hx
  exact headTo_row lo hi cs k t i
theorem heads_take_rows {N : Nat} (lo : 3 ≤ N) (hi : N ≤ 8) (cs : List (List UInt8)) (k : List UInt8 × List UInt8) (t : List UInt8) (j q : Nat) : ∀ x ∈ (headsTo N cs k t j).take q, IsRow x ∧ x.length = N :=
  fun x hx => headsTo_rows lo hi cs k t j x (List.mem_of_mem_take hx)
theorem touchL_rows {N : Nat} (lo : 3 ≤ N) (hi : N ≤ 8) (cs : List (List UInt8)) (k : List UInt8 × List UInt8) (t : List UInt8) : ∀ x ∈ touchL N cs k t, IsRow x ∧ x.length = N :=
  leadsL_rows cs (heads_take_rows lo hi cs k t _ _)
theorem rd_take {w : World} {A : Option Addr} {n k : Nat} {l : List (List UInt8)} (h : Rd w A n (strV l)) (hk : k ≤ n) : Rd w A k (strV (l.take k)) := by
  rw [strV_take]; exact h.take_ k hk
/-- The rows of a touch, if there are not too many. -/
def rowsR (N : Nat) (cs : List (List UInt8)) (k : List UInt8 × List UInt8) (t : List UInt8) : List (List UInt8) × Bool := if t.length * cs.length ≤ 800 then (touchL N cs k t, true) else ([], false)
set_option maxHeartbeats 1000000 in
theorem l9Rows_any (N : Nat) (nm t : List UInt8) (ch : List (List UInt8)) (k : List UInt8 × List UInt8) (A : Option Addr) (n c : Nat) (w : World) (lo : 3 ≤ N) (hi : N ≤ 8) (hr : Rd w A n (strV ch)) (hn : n ≤ 1000) (hcap : n ≤ c) (l1 : 1 ≤ ch.length) (hs : ∀ x ∈ ch, okChange (N : Int) x = true) (hb1 : okChange (N : Int) k.1 = true) (hb2 : okChange (N : Int) k.2 = true) (ht : t.length ≤ 1000) :
    Calls Try.prog 56 #[.agg #[.string (bs nm), .int .i64 N, .slice A n c], .agg #[.string (bs k.1), .string (bs k.2)], .string (bs t)] w (OneS w (touchL N ch k t)) := by
  have lc := hid (show ch.length = n by have := hr.1; rw [strV_len] at this; exact this)
  have G := fun (w0 : World) (rd : Rd w0 A n (strV ch)) => hid (l9Heads_any N nm t ch k A n c w0 lo hi rd (by omega) hcap l1 hs hb1 hb2 ht)
  have HL := fun r (h1 : IsRow r) (h2 : r.length = N) (w0 : World) (rd : Rd w0 A n (strV ch)) => hid (l4Lead_any A n c ch r w0 rd (by omega) h1 (by rw [h2]; exact hs))
  have HH := hid (heads_take_rows lo hi ch k t t.length t.length)
  have RS := hid hr
  have HTL := hid (show touchL N ch k t = leadsL ch ((headsTo N ch k t t.length).take t.length) from rfl)
  have lh := hid (show ((headsTo N ch k t t.length).take t.length).length = t.length by rw [List.length_take, headsTo_len]; omega)
  obtain ⟨k1, k2⟩ := k
  clear hr hs hb1 hb2
  have i0 : (0 : Int) ≤ (t.length : Int) := Int.natCast_nonneg _
  have i1 : (t.length : Int) ≤ (t.length : Int) + 1 := by omega
  go_enter Try.func56, Try.ntmps56
  go_wp2_with fail
  obtain ⟨B2, hsz, HC⟩ := box_mk w nm k1 k2 (N : Int) (.slice A n c)
  have R2 := hid (RS.out.below B2)
  have HB2 := hid B2
  have hw2 := B2.size
  generalize ((w.alloc (.cells #[.string (bs nm), .int .i64 (N : Int), .slice A n c] 28)).alloc (.cells #[.string (bs k1), .string (bs k2)] 39)) = W2 at *
  clear B2 hsz
  have HS5 : ∀ W', Below W2.heap.size W2 W' → W'.cell? ⟨w.heap.size, 0, none⟩ = some (.string (bs nm)) ∧ W'.cell? ⟨w.heap.size, 1, none⟩ = some (.int .i64 (N : Int)) ∧ W'.cell? ⟨w.heap.size, 2, none⟩ = some (.slice A n c) ∧ W'.cell? ⟨w.heap.size + 1, 0, none⟩ = some (.string (bs k1)) ∧ W'.cell? ⟨w.heap.size + 1, 1, none⟩ = some (.string (bs k2)) := fun W' h => by
    obtain ⟨⟨a0, a1, a2⟩, a3, a4⟩ := HC.out _ h
    exact ⟨a0, a1, a2, a3, a4⟩
  have HHS5 := hid HS5
  clear HS5 HC
  obtain ⟨n0, n1, n2, q0, q1⟩ := HHS5.out _ (Below.refl W2.heap.size W2)
  go_wp2_with fail
  refine (G _ R2.out).out.mono ?_
  rintro e w1 ⟨v1, rfl, o1, b1⟩
  obtain ⟨A1, c1, rfl, hc1, _, rd1, _⟩ := own_shape o1
  have RT := hid (rd_take rd1 (Nat.le_succ t.length))
  have HB1 := hid b1
  have j2 := Int.ofNat_le.2 (Nat.le_of_succ_le hc1)
  have hw1 := b1.size
  clear o1 b1 rd1 hc1 n0 n1 n2 q0 q1
  go_wp2
  have HHt := HH
  obtain ⟨hs, hhs⟩ : ∃ hs, hs = (headsTo N ch (k1, k2) t t.length).take t.length := ⟨_, rfl⟩
  rw [← hhs] at HTL lh RT HHt
  clear HH hhs
  go_loopg [7, 20] t.length (fun gk u v wr => ∃ k : Nat, k ≤ t.length ∧ gk = t.length - k ∧ v = .int .i64 k ∧ wr.ownsRow w1.heap.size 9 1 u (leadsL ch (hs.take k)).length (strV (leadsL ch (hs.take k))) ∧ Below w1.heap.size w1 wr)
  case atStart => exact ⟨0, by omega, by omega, rfl, World.ownsRow_nil _ _ _ _, Below.refl _ _⟩
  case round =>
    obtain ⟨k, hk, rfl, rfl, ho, hb⟩ := hrel
    by_cases hlt : k < t.length
    · obtain ⟨b', o', rfl, hj', hc⟩ := (RT.out.below hb).str hlt
      have h1 := HHt.out _ (List.getElem_mem hj')
      have HLk := hid (HL hs[k] h1.1 h1.2)
      have hst := hid (leadsL_step ch hs k hj')
      have hk0 : (0 : Int) ≤ (k : Int) := by omega
      have hk1 : (k : Int) < (t.length : Int) := by omega
      have hll : (leadsL ch (hs.take k)).length ≤ 1000000 := by
        rw [leadsL_len, List.length_take, lc.out]
        exact Nat.le_trans (Nat.mul_le_mul (Nat.le_trans (Nat.min_le_left _ _) (show k ≤ 1000 by omega)) hn) (by omega)
      obtain ⟨X, hX⟩ : ∃ X, X = leadL hs[k] ch := ⟨_, rfl⟩
      have hxl : X.length = n := by rw [hX, lead_len, lc.out]
      obtain ⟨q, hq⟩ : ∃ q, q = (leadsL ch (hs.take k)).length := ⟨_, rfl⟩
      unfold LeadR at HLk
      rw [← hX] at HLk hst
      have HLN := hid (show q + X.length = (leadsL ch (hs.take (k + 1))).length by rw [← hst.out, hq, List.length_append])
      rw [← hq] at ho hll
      have HXL := hid (hxl.trans lc.out.symm)
      have HO := hid ho
      have HB := hid (HB1.out.trans (hb.mono hw1))
      have HBw := hid hb
      have HBs := hb.size
      have hlim : q + X.length ≤ 1000000000000 := by omega
      obtain ⟨n0, n1, n2, q0, q1⟩ := HHS5.out _ HB.out
      clear ho hb h1 hX hxl hq
      go_wp2_with fail
      refine (HLk.out _ (R2.out.below HB.out)).out.mono ?_
      rintro e w2 ⟨v2, rfl, o2, b2⟩
      rw [← HXL.out] at o2
      obtain ⟨A2, c2, rfl, _, _, rd2, _⟩ := own_shape o2
      have HO2 := hid (own_below HO.out b2)
      have HB2' := hid (HBw.out.trans (b2.mono HBs))
      have hs2 := b2.size
      have RD2 := hid rd2
      clear b2 o2 rd2 n0 n1 n2 q0 q1
      go_wp2_with (at_builtin; refine app_str _ (by rfl) _ _ (by rfl) w1.heap.size _ _ _ (by rfl) HO2.out A2 X.length c2 X (by rfl) RD2.out hlim (by omega) ?_; intro v5 w5 o5 g5)
      go_roundg (t.length - (k + 1))
      case measure => omega
      case rel =>
        rw [hst.out, HLN.out] at o5
        exact ⟨k + 1, by omega, rfl, by go_num, o5, HB2'.out.grown g5 (by omega) fun q hq => (HO2.out.lt q hq).1⟩
    · obtain rfl : k = t.length := by omega
      rw [List.take_of_length_le (by rw [lh.out]; omega), ← HTL.out] at ho
      have HO := hid ho
      clear ho
      go_wp2
      go_ret
      exact ⟨_, rfl, own_mono HO.out (Nat.le_trans hw2 hw1), HB2.out.trans ((HB1.out.trans (hb.mono hw1)).mono hw2)⟩
end Go.Proofs.Ytiajeheonoebnaa
