/- Contracts of the lead head of a called lead, and of the effect of a call alone. No conditions beyond those stated. -/
import Derived.Test.YtihaopijnkiafaaGreatDoorCalls
set_option linter.unusedVariables false
set_option linter.unusedSimpArgs false
set_option maxRecDepth 100000
namespace Go.Proofs.YtihaopijnkiafaaGreatDoor
open Go.RowKit

theorem callHead_any (N : Nat) (nm call : List UInt8) (cs : List (List UInt8)) (k : List UInt8 × List UInt8) (A : Option Addr) (n c : Nat) (w : World) (lo : 3 ≤ N) (hi : N ≤ 8) (hr : Rd w A n (strV cs)) (hn : n ≤ 1048576) (h1 : 1 ≤ cs.length) (hs : ∀ x ∈ cs, okChange (N : Int) x = true) (hk1 : okChange (N : Int) k.1 = true) (hk2 : okChange (N : Int) k.2 = true) :
    Calls Tryz.prog 39 #[.agg #[.string (bs nm), .int .i64 N, .slice A n c], .agg #[.string (bs k.1), .string (bs k.2)], .string (bs call)] w fun e w' => e = .returned (.string (bs (callHeadL N cs k call))) ∧ Below w.heap.size w w' := by
  have CL := fun (w0 : World) (rd : Rd w0 A n (strV cs)) => hid (calledLead_any nm call N cs k A n c w0 rd hn h1)
  have hlen := calledL_len k call h1
  have hcl : cs.length = n := by have := hr.1; rw [strV_len] at this; exact this
  have LH := fun (w0 : World) (A1 : Option Addr) (c1 : Nat) (rd : Rd w0 A1 cs.length (strV (calledL cs k call))) => hid (leadHead_any N nm (calledL cs k call) A1 cs.length c1 w0 lo hi rd (by omega) (calledL_ok hs h1 hk1 hk2))
  have HLEN := hid hlen
  have HR := hid (show callHeadL N cs k call = headL N (calledL cs k call) from rfl)
  have RS := hid hr
  obtain ⟨k1, k2⟩ := k
  clear hlen hcl hr hs hk1 hk2
  go_enter Tryz.func39, Tryz.ntmps39
  go_wp2_with fail
  obtain ⟨B2, hsz, HC⟩ := box_mk w nm k1 k2 N (.slice A n c)
  refine (CL _ (RS.out.below B2)).out.mono ?_
  rintro e w1 ⟨v1, rfl, o1, b1⟩
  have HB := hid (B2.trans (b1.mono B2.size))
  dsimp only at o1
  rw [HLEN.out] at o1
  obtain ⟨A1, c1, rfl, _, _, rd1, _⟩ := own_shape o1
  have RD1 := hid rd1
  clear b1 B2 hsz HC o1 rd1
  go_wp2_with fail
  refine (LH _ A1 c1 RD1.out).out.mono ?_
  rintro e w2 ⟨rfl, b2⟩
  have HB2 := hid (HB.out.trans (b2.mono HB.out.size))
  clear b2
  go_wp2
  go_ret
  exact ⟨rfl, HB2.out⟩

theorem Rd.takeN {w : World} {A : Option Addr} {n : Nat} {cs : List (List UInt8)} (h : Rd w A n (strV cs)) (k : Nat) (hk : k ≤ n) : Rd w A k (strV (cs.take k)) := by
  rw [strV_take]; exact h.take_ k hk
set_option maxHeartbeats 1000000 in
theorem l8Head_any (N : Nat) (nm call : List UInt8) (cs : List (List UInt8)) (k : List UInt8 × List UInt8) (A : Option Addr) (n c : Nat) (w : World) (lo : 3 ≤ N) (hi : N ≤ 8) (hr : Rd w A n (strV cs)) (hn : n ≤ 1048576) (hcap : n ≤ c) (h1 : 1 ≤ cs.length) (hs : ∀ x ∈ cs, okChange (N : Int) x = true) (hk1 : okChange (N : Int) k.1 = true) (hk2 : okChange (N : Int) k.2 = true) :
    Calls Tryz.prog 32 #[.agg #[.string (bs nm), .int .i64 N, .slice A n c], .agg #[.string (bs k.1), .string (bs k.2)], .string (bs call)] w fun e w' => e = .returned (.string (bs (callHeadL N cs k call))) ∧ Below w.heap.size w w' := by
  have hcl : cs.length = n := by have := hr.1; rw [strV_len] at this; exact this
  obtain ⟨j, rfl⟩ : ∃ j, n = j + 1 := ⟨n - 1, by omega⟩
  have hj : j ≤ cs.length := by omega
  obtain ⟨bA, oA, rfl⟩ : ∃ b o, A = some ⟨b, o, none⟩ := by
    obtain ⟨b, o, e, _⟩ := hr.at_ (show j < j + 1 by omega)
    exact ⟨b, o, e⟩
  have LR := fun w0 => hid (l1Rounds_any N w0 hi)
  have LL := fun (w0 : World) (rd : Rd w0 (some ⟨bA, oA, none⟩) j (strV (cs.take j))) => hid (l4Lead_any (some ⟨bA, oA, none⟩) j c (cs.take j) (roundsL N) w0 rd (by omega) (rounds_row lo hi) (by rw [rounds_len]; exact fun x hx => hs x (List.mem_of_mem_take hx)))
  have LC := fun (w0 : World) (rd : Rd w0 (some ⟨bA, oA, none⟩) (j + 1) (strV cs)) => hid (l8Change_any nm call N cs k (some ⟨bA, oA, none⟩) (j + 1) c w0 rd hn h1)
  have LA := fun w0 => hid (l2Apply_any (headL N (cs.take j)) (lastC cs k call) w0 (headL_row lo hi _) (by rw [headL_len]; exact lastC_ok hs h1 hk1 hk2))
  have HR := hid (show applyL (headL N (cs.take j)) (lastC cs k call) = callHeadL N cs k call by rw [callHeadL_eq, show cs.length - 1 = j by omega])
  have HE := hid (show endL (roundsL N) (cs.take j) = headL N (cs.take j) from rfl)
  have RS := hid hr
  obtain ⟨k1, k2⟩ := k
  have i0 : (0 : Int) ≤ (j : Int) := by omega
  have i1 : (j : Int) ≤ (j : Int) + 1 := by omega
  have i2 : j ≤ j + 1 := by omega
  have i3 : (j : Int) ≤ (c : Int) := by omega
  have hw0 : wrap64 (j : Int) = (j : Int) := by unfold wrap64; omega
  clear hcl hr hs hk1 hk2 hj
  go_enter Tryz.func32, Tryz.ntmps32
  go_wp2_with fail
  obtain ⟨B2, hsz, HC⟩ := box_mk w nm k1 k2 N (.slice (some ⟨bA, oA, none⟩) (j + 1) c)
  have R2 := hid (RS.out.below B2)
  have HB2 := hid B2
  have hw2 := B2.size
  generalize ((w.alloc (.cells #[.string (bs nm), .int .i64 (N : Int), .slice (some ⟨bA, oA, none⟩) (j + 1) c] 31)).alloc (.cells #[.string (bs k1), .string (bs k2)] 33)) = W2 at *
  obtain ⟨⟨m0, m1, m2⟩, q0, q1⟩ := HC.out W2 (Below.refl _ _)
  clear B2 hsz
  have HS5 : ∀ W', Below W2.heap.size W2 W' → W'.cell? ⟨w.heap.size, 0, none⟩ = some (.string (bs nm)) ∧ W'.cell? ⟨w.heap.size, 1, none⟩ = some (.int .i64 (N : Int)) ∧ W'.cell? ⟨w.heap.size, 2, none⟩ = some (.slice (some ⟨bA, oA, none⟩) (j + 1) c) ∧ W'.cell? ⟨w.heap.size + 1, 0, none⟩ = some (.string (bs k1)) ∧ W'.cell? ⟨w.heap.size + 1, 1, none⟩ = some (.string (bs k2)) := fun W' h => by
    obtain ⟨⟨a0, a1, a2⟩, a3, a4⟩ := HC.out _ h
    exact ⟨a0, a1, a2, a3, a4⟩
  have HHS5 := hid HS5
  clear HS5
  go_region_held3 (fun w' => w'.cell? ⟨w.heap.size, 0, none⟩ = some (.string (bs nm)) ∧ w'.cell? ⟨w.heap.size, 1, none⟩ = some (.int .i64 (N : Int)) ∧ w'.cell? ⟨w.heap.size, 2, none⟩ = some (.slice (some ⟨bA, oA, none⟩) (j + 1) c) ∧ w'.cell? ⟨w.heap.size + 1, 0, none⟩ = some (.string (bs k1)) ∧ w'.cell? ⟨w.heap.size + 1, 1, none⟩ = some (.string (bs k2)))
    (first | exact HHS5.out _ (Below.refl _ _).drew | exact HHS5.out _ Ea)
    (first | (go_at_call 13; refine (LR _).out.mono ?_; rintro e w' ⟨rfl, rfl⟩) | (go_at_call 53; refine (LL _ ((R2.out.takeN j i2).drewN 1)).out.mono ?_; rintro e wa ⟨va, rfl, oa, ba⟩; obtain ⟨Aa, ca, rfl, _⟩ := own_shape oa; have Ea : Below W2.heap.size W2 wa := (Below.refl _ _).drew.trans ba))
  have HEa := hid Ea
  obtain ⟨n0, n1, n2, p0, p1⟩ := HHS5.out _ Ea
  have HRa := hid (R2.out.below Ea)
  clear oa ba Ea m0 m1 m2 q0 q1
  rw [HE.out]
  go_wp2_with fail
  refine (LC _ HRa.out).out.mono ?_
  rintro e wb ⟨rfl, bb⟩
  have HEb := hid (HEa.out.trans (bb.mono HEa.out.size))
  clear bb n0 n1 n2 p0 p1
  go_wp2_with fail
  refine (LA _).out.mono ?_
  rintro e wc ⟨rfl, bc⟩
  have HEc := hid (HEb.out.trans (bc.mono HEb.out.size))
  clear bc
  go_wp2
  go_ret
  exact ⟨ret_str HR.out, HB2.out.trans (HEc.out.mono hw2)⟩

/-- The effect of a call alone. -/
def callRowL (N : Nat) (cs : List (List UInt8)) (k : List UInt8 × List UInt8) (call : List UInt8) : List UInt8 := timesL (turnL (headL N cs)) (callHeadL N cs k call)
theorem callRowL_len (N : Nat) (cs : List (List UInt8)) (k : List UInt8 × List UInt8) (call : List UInt8) : (callRowL N cs k call).length = N := by rw [callRowL, times_len, callHeadL_len]
theorem callRowL_row {N : Nat} (lo : 3 ≤ N) (hi : N ≤ 8) (cs : List (List UInt8)) (k : List UInt8 × List UInt8) (call : List UInt8) : IsRow (callRowL N cs k call) := times_row (turn_row (headL_row lo hi cs)) (callHeadL_row lo hi cs k call) (by rw [turn_len, headL_len, callHeadL_len])
end Go.Proofs.YtihaopijnkiafaaGreatDoor
