/- Contracts of the program's clashes of the heads of a touch. No conditions beyond those stated. -/
import Derived.Test.YtiajeheonoebnaaEndI
import Derived.Test.YtiajeheonoebnaaClash
set_option linter.unusedVariables false
set_option linter.unusedSimpArgs false
set_option maxRecDepth 100000
namespace Go.Proofs.Ytiajeheonoebnaa
open Go.RowKit

/-- How many heads of a touch clash. -/
def clashN (N : Nat) (cs : List (List UInt8)) (k : List UInt8 × List UInt8) (t : List UInt8) : Nat := (clashTo (quotL (leadL (roundsL N) cs) (leadL (roundsL N) cs)) ((headsTo N cs k t t.length).take t.length) t.length).length
theorem heads_take_rows' {N : Nat} (lo : 3 ≤ N) (hi : N ≤ 8) (cs : List (List UInt8)) (k : List UInt8 × List UInt8) (t : List UInt8) (j q : Nat) : ∀ x ∈ (headsTo N cs k t j).take q, IsRow x ∧ x.length = N := fun x hx => by
  have hx := List.mem_of_mem_take hx
  simp only [headsTo, List.mem_map] at hx
  obtain ⟨i, _, rfl⟩ := hx
  exact headTo_row lo hi cs k t i
theorem rd_take' {w : World} {A : Option Addr} {n k : Nat} {l : List (List UInt8)} (h : Rd w A n (strV l)) (hk : k ≤ n) : Rd w A k (strV (l.take k)) := by
  rw [strV_take]; exact h.take_ k hk
set_option maxHeartbeats 1000000 in
theorem headClashes_any (N : Nat) (nm t : List UInt8) (ch : List (List UInt8)) (k : List UInt8 × List UInt8) (A : Option Addr) (n c : Nat) (w : World) (lo : 3 ≤ N) (hi : N ≤ 8) (hr : Rd w A n (strV ch)) (hn : n ≤ 1000) (l1 : 1 ≤ ch.length) (hs : ∀ x ∈ ch, okChange (N : Int) x = true) (hb1 : okChange (N : Int) k.1 = true) (hb2 : okChange (N : Int) k.2 = true) (ht : t.length ≤ 1000) (hcall : t.all callB = true) :
    Calls Try.prog 74 #[.agg #[.string (bs nm), .int .i64 N, .slice A n c], .agg #[.string (bs k.1), .string (bs k.2)], .string (bs t)] w (SlicesN w (clashN N ch k t)) := by
  have G := fun (w0 : World) (rd : Rd w0 A n (strV ch)) => hid (heads_any N nm t ch k A n c w0 lo hi rd (by omega) l1 hs hb1 hb2 ht hcall)
  have LF := fun B d (w0 : World) (rd : Rd w0 A n (strV ch)) (rb : Rd w0 B t.length (strV ((headsTo N ch k t t.length).take t.length))) => hid (clashes_any N nm ch ((headsTo N ch k t t.length).take t.length) A B n c t.length d w0 lo hi rd rb hn ht hs (heads_take_rows' lo hi ch k t _ _))
  have HCN := hid (show clashN N ch k t = _ from rfl)
  have RS := hid hr
  obtain ⟨k1, k2⟩ := k
  clear hr hs hb1 hb2 hcall
  unfold clashN
  clear HCN
  have i0 : (0 : Int) ≤ (t.length : Int) := Int.natCast_nonneg _
  go_enter Try.func74, Try.ntmps74
  go_wp2_with fail
  obtain ⟨B2, hsz, HC⟩ := box_mk w nm k1 k2 (N : Int) (.slice A n c)
  have R2 := hid (RS.out.below B2)
  have HB2 := hid B2
  have hw2 := B2.size
  generalize ((w.alloc (.cells #[.string (bs nm), .int .i64 (N : Int), .slice A n c] 28)).alloc (.cells #[.string (bs k1), .string (bs k2)] 39)) = W2 at *
  clear B2 hsz
  have HS5 : ∀ W', Below W2.heap.size W2 W' → W'.cell? ⟨w.heap.size, 0, none⟩ = some (.string (bs nm)) ∧ W'.cell? ⟨w.heap.size, 1, none⟩ = some (.int .i64 (N : Int)) ∧ W'.cell? ⟨w.heap.size, 2, none⟩ = some (.slice A n c) ∧ W'.cell? ⟨w.heap.size + 1, 0, none⟩ = some (.string (bs k1)) ∧ W'.cell? ⟨w.heap.size + 1, 1, none⟩ = some (.string (bs k2)) := fun W' h => by
    obtain ⟨⟨a0, a1, a2⟩, a3, a4⟩ := HC.out _ h
    exact ⟨a0, a1, a2, a3, a4⟩
  have HHS5 := hid HS5
  clear HS5 HC
  obtain ⟨n0, n1, n2, q0, q1⟩ := HHS5.out _ (Below.refl W2.heap.size W2)
  go_wp2_with fail
  go_region_held3 (fun w' => w'.cell? ⟨w.heap.size, 0, none⟩ = some (.string (bs nm)) ∧ w'.cell? ⟨w.heap.size, 1, none⟩ = some (.int .i64 (N : Int)) ∧ w'.cell? ⟨w.heap.size, 2, none⟩ = some (.slice A n c) ∧ w'.cell? ⟨w.heap.size + 1, 0, none⟩ = some (.string (bs k1)) ∧ w'.cell? ⟨w.heap.size + 1, 1, none⟩ = some (.string (bs k2)))
    (first | exact HHS5.out _ (Below.refl _ _) | exact HHS5.out _ (Below.refl _ _).drew | exact HHS5.out _ Fa | exact HHS5.out _ Fb)
    (first | (go_at_call 59; refine (G _ (R2.out.below (Below.refl W2.heap.size W2).drew)).out.mono ?_; rintro e wa ⟨va, rfl, oa, ba⟩; obtain ⟨Aa, ca, rfl, hca, _, rda, _⟩ := own_shape oa; have j2 := Int.ofNat_le.2 (Nat.le_of_succ_le hca); have Fa := (Below.refl W2.heap.size W2).drew.trans (ba.mono (Nat.le_refl _))) | (go_at_call 71; refine (LF _ _ _ (R2.out.below Fa) (rd_take' rda (Nat.le_succ _))).out.mono ?_; rintro e wb ⟨vb, xb, rfl, ob, bb⟩; have Fb := Fa.trans (bb.mono Fa.size)))
  have HFb := hid Fb
  have OB := hid ob
  have hwb := Fa.size
  clear oa ba rda ob bb Fa Fb n0 n1 n2 q0 q1 j2
  go_wp2
  go_ret
  exact ⟨_, _, rfl, own_mono OB.out (Nat.le_trans hw2 hwb), HB2.out.trans (HFb.out.mono hw2)⟩
end Go.Proofs.Ytiajeheonoebnaa
