/- Contracts: whether a lead is true, in the program; the rows that two leads share, in the reference. No conditions beyond those stated. -/
import Derived.Test.YtnkpbahapaocbaaLeads
import Derived.Test.YtnkpbahapaocbaaTrue
import Derived.Test.YtnkpbahapaocbaaMeet
import Derived.Test.YtnkpbahapaocbaaFalseP
import Derived.Test.YtnkpbahapaocbaaBox1
set_option linter.unusedVariables false
set_option linter.unusedSimpArgs false
set_option maxRecDepth 100000
namespace Go.Proofs.Ytnkpbahapaocbaa
open Go.RowKit

theorem row_short {l : List (List UInt8)} {N : Nat} (hi : N ≤ 8) (h : ∀ x ∈ l, IsRow x ∧ x.length = N) : ∀ s ∈ l, s.length ≤ 1048576 := fun s hs => by have := (h s hs).2; omega
theorem lead_short {N : Nat} (lo : 3 ≤ N) (hi : N ≤ 8) (cs : List (List UInt8)) : ∀ s ∈ leadL (roundsL N) cs, s.length ≤ 1048576 := fun s hs => by
  have := (lead_rows cs (rounds_row lo hi) s hs).2
  rw [rounds_len] at this; omega
theorem leadTrue_any (N : Nat) (nm : List UInt8) (cs : List (List UInt8)) (A : Option Addr) (n c : Nat) (w : World) (lo : 3 ≤ N) (hi : N ≤ 8) (hr : Rd w A n (strV cs)) (hn : n ≤ 1048576) (hs : ∀ x ∈ cs, okChange (N : Int) x = true) :
    Calls Try.prog 60 #[.agg #[.string (bs nm), .int .i64 N, .slice A n c]] w fun e w' => e = .returned (.bool (trueB (leadL (roundsL N) cs))) ∧ Below w.heap.size w w' := by
  have HR := fun w0 => hid (rounds_any N w0 hi)
  have HU := fun (w0 : World) (rd : Rd w0 A n (strV cs)) => hid (leadRows_any N nm (roundsL N) (N : Int) cs A n c w0 (rounds_row lo hi) (rounds_len N) rd hn hs)
  have HT := fun (w0 : World) A1 n1 c1 (rd : Rd w0 A1 n1 (strV (leadL (roundsL N) cs))) (h1 : n1 ≤ 1048576) => hid (isTrue_any A1 n1 c1 (leadL (roundsL N) cs) w0 rd h1 (lead_short lo hi cs))
  have hl : cs.length = n := by have := hr.1; rw [strV_len] at this; exact this
  have hll := hid (show (leadL (roundsL N) cs).length ≤ 1048576 by rw [lead_len, hl]; exact hn)
  have RS := hid hr
  clear hr hs hl
  generalize leadL (roundsL N) cs = X at *
  go_enter Try.func60, Try.ntmps60
  go_wp2_with fail
  obtain ⟨B2, hsz, HC⟩ := box_mk1 34 w nm (N : Int) (.slice A n c)
  have R2 := hid (RS.out.below B2)
  have HB2 := hid B2
  have hw2 := B2.size
  generalize (w.alloc (.cells #[.string (bs nm), .int .i64 (N : Int), .slice A n c] 34)) = W2 at *
  clear B2 hsz
  have HS3 : ∀ W', Below W2.heap.size W2 W' → W'.cell? ⟨w.heap.size, 0, none⟩ = some (.string (bs nm)) ∧ W'.cell? ⟨w.heap.size, 1, none⟩ = some (.int .i64 (N : Int)) ∧ W'.cell? ⟨w.heap.size, 2, none⟩ = some (.slice A n c) := fun W' h => by
    obtain ⟨a0, a1, a2⟩ := HC.out _ h
    exact ⟨a0, a1, a2⟩
  have HHS := hid HS3
  clear HS3 HC
  obtain ⟨n0, n1, n2⟩ := HHS.out _ (Below.refl W2.heap.size W2)
  go_region_held3 (fun w' => w'.cell? ⟨w.heap.size, 0, none⟩ = some (.string (bs nm)) ∧ w'.cell? ⟨w.heap.size, 1, none⟩ = some (.int .i64 (N : Int)) ∧ w'.cell? ⟨w.heap.size, 2, none⟩ = some (.slice A n c))
    (first | exact HHS.out _ (Below.refl _ _) | exact HHS.out _ (Below.refl _ _).drew | exact HHS.out _ Fa | exact HHS.out _ Fb)
    (first | (go_at_call 77; refine (HR _).out.mono ?_; rintro e w' ⟨rfl, rfl⟩) | (go_at_call 85; refine (HU _ (R2.out.below (Below.refl W2.heap.size W2).drew)).out.mono ?_; rintro e wa ⟨va, rfl, oa, ba⟩; obtain ⟨Aa, ca, rfl, _, _, rda, _⟩ := own_shape oa; have Fa := (Below.refl W2.heap.size W2).drew.trans (ba.mono (Nat.le_refl _))) | (go_at_call 84; refine (HT _ _ _ _ rda hll.out).out.mono ?_; rintro e wb ⟨rfl, bb⟩; have Fb := Fa.trans (bb.mono Fa.size)))
  have HFb := hid Fb
  clear oa ba rda bb Fa Fb n0 n1 n2
  go_wp2
  go_ret
  exact ⟨rfl, HB2.out.trans (HFb.out.mono hw2)⟩
end Go.Proofs.Ytnkpbahapaocbaa
