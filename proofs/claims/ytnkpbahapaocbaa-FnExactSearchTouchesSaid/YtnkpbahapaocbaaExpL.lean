/- Contracts of IsLeadTrue and SharedRows, in the reference and in the program. No conditions beyond those stated. -/
import Derived.Test.YtnkpbahapaocbaaLeadT
set_option linter.unusedVariables false
set_option linter.unusedSimpArgs false
set_option maxRecDepth 100000
namespace Go.Proofs.Ytnkpbahapaocbaa
open Go.RowKit

/-- What IsLeadTrue answers. -/
def leadTrueR (m : Meth) : Bool × Bool := if methB m = true then (trueB (leadL (roundsL m.st.toNat) m.ch), true) else (false, false)
set_option maxHeartbeats 1000000 in
theorem specIsLeadTrue_law (m : Meth) (A : Option Addr) (n c : Nat) (w : World) (ok : LawOk m ([], [])) (rd : Rd w A n (strV m.ch)) (hcap : n ≤ c) :
    Calls Try.prog 64 #[.agg #[.string (bs m.nm), .int .i64 m.st, .slice A n c]] w fun e w' => e = .returned (.tuple #[.bool (leadTrueR m).1, .bool (leadTrueR m).2]) ∧ Below w.heap.size w w' := by
  have hn : n ≤ 1048576 := by have h1 := rd.1; have h2 := ok.2.2.1; rw [strV_len] at h1; omega
  have hcl : m.ch.length = n := by have h1 := rd.1; rw [strV_len] at h1; exact h1
  have GC0 := fun (w0 : World) (rd : Rd w0 A n (strV m.ch)) => hid (l4Good_any m A n c w0 ok.1 ok.2.1 rd hn ok.2.2.2.1)
  have RS := hid rd
  have HOK := hid ok
  clear rd ok
  cases hg0 : methB m
  · rw [hg0] at GC0
    have HR := hid (show leadTrueR m = (false, false) from by unfold leadTrueR; rw [if_neg (by simp [hg0])])
    obtain ⟨nm, st, ch⟩ := m
    dsimp only at *
    clear HOK hg0
    go_enter Try.func64, Try.ntmps64
    go_wp2_with fail
    obtain ⟨B2, hsz, HC⟩ := box_mk1 34 w nm st (.slice A n c)
    have R2 := hid (RS.out.below B2)
    have HB2 := hid B2
    have hw2 := B2.size
    generalize (w.alloc (.cells #[.string (bs nm), .int .i64 st, .slice A n c] 34)) = W2 at *
    clear B2 hsz
    have HS5 : ∀ W', Below W2.heap.size W2 W' → W'.cell? ⟨w.heap.size, 0, none⟩ = some (.string (bs nm)) ∧ W'.cell? ⟨w.heap.size, 1, none⟩ = some (.int .i64 st) ∧ W'.cell? ⟨w.heap.size, 2, none⟩ = some (.slice A n c) := fun W' h => by
      obtain ⟨a0, a1, a2⟩ := HC.out _ h
      exact ⟨a0, a1, a2⟩
    have HHS5 := hid HS5
    clear HS5 HC
    have E0 : Hid (Below W2.heap.size W2 W2) := hid (Below.refl _ _)
    obtain ⟨n0, n1, n2⟩ := HHS5.out _ E0.out
    refine (GC0 _ (R2.out.below E0.out)).out.mono ?_
    rintro e wx0 ⟨rfl, bx⟩
    have E1 := hid (E0.out.trans (bx.mono E0.out.size))
    clear bx
    clear n0 n1 n2
    obtain ⟨n0, n1, n2⟩ := HHS5.out _ E1.out
    go_wp2
    go_ret2
    rw [HR.out]
    exact ⟨rfl, HB2.out.trans (E1.out.mono hw2)⟩
  · rw [hg0] at GC0
    have hm : methB m = true := by exact hg0
    have HR := hid (show leadTrueR m = (trueB (leadL (roundsL m.st.toNat) m.ch), true) from by unfold leadTrueR; rw [if_pos (by simp [hg0])])
    obtain ⟨N, hN, lo, hi, l1, l40, hs⟩ := meth_parts hm
    clear hm
    obtain ⟨nm, st, ch⟩ := m
    dsimp only at *
    subst hN
    have BC0 := fun (w0 : World) (rd : Rd w0 A n (strV ch)) => hid (l11Lead_any N nm (roundsL N) (N : Int) ch A n c w0 (rounds_row lo hi) (rounds_len N) rd hn hs)
    have BC1 := fun (w0 : World) => hid (l1Rounds_any N w0 hi)
    have BC2 := fun (w0 : World) A1 n1 c1 (rd : Rd w0 A1 n1 (strV (leadL (roundsL N) ch))) (h1 : n1 ≤ 1048576) => hid (l7True_any A1 n1 c1 (leadL (roundsL N) ch) w0 rd h1)
    have HLL := hid (show (leadL (roundsL N) ch).length ≤ 1048576 by rw [lead_len]; omega)
    clear HOK hs hcl hg0
    go_enter Try.func64, Try.ntmps64
    go_wp2_with fail
    obtain ⟨B2, hsz, HC⟩ := box_mk1 34 w nm (N : Int) (.slice A n c)
    have R2 := hid (RS.out.below B2)
    have HB2 := hid B2
    have hw2 := B2.size
    generalize (w.alloc (.cells #[.string (bs nm), .int .i64 (N : Int), .slice A n c] 34)) = W2 at *
    clear B2 hsz
    have HS5 : ∀ W', Below W2.heap.size W2 W' → W'.cell? ⟨w.heap.size, 0, none⟩ = some (.string (bs nm)) ∧ W'.cell? ⟨w.heap.size, 1, none⟩ = some (.int .i64 (N : Int)) ∧ W'.cell? ⟨w.heap.size, 2, none⟩ = some (.slice A n c) := fun W' h => by
      obtain ⟨a0, a1, a2⟩ := HC.out _ h
      exact ⟨a0, a1, a2⟩
    have HHS5 := hid HS5
    clear HS5 HC
    have E0 : Hid (Below W2.heap.size W2 W2) := hid (Below.refl _ _)
    obtain ⟨n0, n1, n2⟩ := HHS5.out _ E0.out
    refine (GC0 _ (R2.out.below E0.out)).out.mono ?_
    rintro e wx0 ⟨rfl, bx⟩
    have E1 := hid (E0.out.trans (bx.mono E0.out.size))
    clear bx
    clear n0 n1 n2
    obtain ⟨n0, n1, n2⟩ := HHS5.out _ E1.out
    go_wp2_with fail
    go_region_held3 (fun w' => w'.cell? ⟨w.heap.size, 0, none⟩ = some (.string (bs nm)) ∧ w'.cell? ⟨w.heap.size, 1, none⟩ = some (.int .i64 (N : Int)) ∧ w'.cell? ⟨w.heap.size, 2, none⟩ = some (.slice A n c))
      (first | exact HHS5.out _ E1.out | exact HHS5.out _ E1.out.drew | exact HHS5.out _ Fa | exact HHS5.out _ Fb)
      (first | (go_at_call 47; refine (BC1 _).out.mono ?_; rintro e w' ⟨rfl, rfl⟩) | (go_at_call 73; refine (BC0 _ (R2.out.below E1.out.drew)).out.mono ?_; rintro e wa ⟨va, rfl, oa, ba⟩; obtain ⟨Aa, ca, rfl, _, _, rda, _⟩ := own_shape oa; have Fa := E1.out.drew.trans (ba.mono E1.out.size)) | (go_at_call 72; refine (BC2 _ _ _ _ rda HLL.out).out.mono ?_; rintro e wb ⟨rfl, bb⟩; have Fb := Fa.trans (bb.mono Fa.size)))
    have E2 := hid Fb
    have E3 := E2
    have E4 := E2
    clear oa ba rda bb Fa Fb n0 n1 n2
    obtain ⟨n0, n1, n2⟩ := HHS5.out _ E4.out
    go_wp2
    go_ret2
    rw [HR.out]
    exact ⟨rfl, HB2.out.trans (E4.out.mono hw2)⟩
end Go.Proofs.Ytnkpbahapaocbaa
