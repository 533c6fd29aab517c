/- Contracts of the program's guard of a touch with its method, and of its last head. No conditions beyond those stated. -/
import Derived.Test.YtnkpbahapaocbaaHeads
import Derived.Test.YtnkpbahapaocbaaEndS
set_option linter.unusedVariables false
set_option linter.unusedSimpArgs false
set_option maxRecDepth 100000
namespace Go.Proofs.Ytnkpbahapaocbaa
open Go.RowKit

theorem touchEnd_any (N : Nat) (nm t : List UInt8) (ch : List (List UInt8)) (k : List UInt8 × List UInt8) (A : Option Addr) (n c : Nat) (w : World) (lo : 3 ≤ N) (hi : N ≤ 8) (hr : Rd w A n (strV ch)) (hn : n ≤ 1048576) (l1 : 1 ≤ ch.length) (hs : ∀ x ∈ ch, okChange (N : Int) x = true) (hb1 : okChange (N : Int) k.1 = true) (hb2 : okChange (N : Int) k.2 = true) (ht : t.length ≤ 1000) (hcall : t.all callB = true) :
    Calls Try.prog 76 #[.agg #[.string (bs nm), .int .i64 N, .slice A n c], .agg #[.string (bs k.1), .string (bs k.2)], .string (bs t)] w fun e w' => e = .returned (.string (bs (headTo N ch k t t.length))) ∧ Below w.heap.size w w' := by
  have G := fun (w0 : World) (rd : Rd w0 A n (strV ch)) => hid (heads_any N nm t ch k A n c w0 lo hi rd hn l1 hs hb1 hb2 ht hcall)
  have RS := hid hr
  obtain ⟨k1, k2⟩ := k
  clear hr hs hb1 hb2 hcall
  have i0 : (0 : Int) ≤ (t.length : Int) := by omega
  have i1 : (t.length : Int) < (t.length : Int) + 1 := by omega
  go_enter Try.func76, Try.ntmps76
  go_wp2_with fail
  obtain ⟨B2, hsz, HC⟩ := box_mk w nm k1 k2 (N : Int) (.slice A n c)
  refine (G _ (RS.out.below B2)).out.mono ?_
  rintro e w1 ⟨v1, rfl, o1, b1⟩
  have HB := hid (B2.trans (b1.mono B2.size))
  obtain ⟨A1, c1, rfl, _, _, rd1, _⟩ := own_shape o1
  obtain ⟨bq, oq, rfl, hk, hc⟩ := rd1.str (show t.length < t.length + 1 by omega)
  rw [headsTo_last] at hc
  clear b1 B2 hsz HC o1 rd1 hk
  go_wp2
  go_ret
  exact ⟨rfl, HB.out⟩
theorem comesRound_any (N : Nat) (nm t : List UInt8) (ch : List (List UInt8)) (k : List UInt8 × List UInt8) (A : Option Addr) (n c : Nat) (w : World) (lo : 3 ≤ N) (hi : N ≤ 8) (hr : Rd w A n (strV ch)) (hn : n ≤ 1048576) (l1 : 1 ≤ ch.length) (hs : ∀ x ∈ ch, okChange (N : Int) x = true) (hb1 : okChange (N : Int) k.1 = true) (hb2 : okChange (N : Int) k.2 = true) (ht : t.length ≤ 1000) (hcall : t.all callB = true) :
    Calls Try.prog 54 #[.agg #[.string (bs nm), .int .i64 N, .slice A n c], .agg #[.string (bs k.1), .string (bs k.2)], .string (bs t)] w fun e w' => e = .returned (.bool (headTo N ch k t t.length == roundsL N)) ∧ Below w.heap.size w w' := by
  have G := fun (w0 : World) (rd : Rd w0 A n (strV ch)) => hid (touchEnd_any N nm t ch k A n c w0 lo hi rd hn l1 hs hb1 hb2 ht hcall)
  have HR := fun w0 => hid (rounds_any N w0 hi)
  have RS := hid hr
  obtain ⟨k1, k2⟩ := k
  clear hr hs hb1 hb2 hcall
  go_enter Try.func54, Try.ntmps54
  go_wp2_with fail
  obtain ⟨B2, hsz, HC⟩ := box_mk w nm k1 k2 (N : Int) (.slice A n c)
  have R2 := hid (RS.out.below B2)
  have HB2 := hid B2
  have hw2 := B2.size
  generalize ((w.alloc (.cells #[.string (bs nm), .int .i64 (N : Int), .slice A n c] 34)).alloc (.cells #[.string (bs k1), .string (bs k2)] 36)) = W2 at *
  clear B2 hsz
  have HS5 : ∀ W', Below W2.heap.size W2 W' → W'.cell? ⟨w.heap.size, 0, none⟩ = some (.string (bs nm)) ∧ W'.cell? ⟨w.heap.size, 1, none⟩ = some (.int .i64 (N : Int)) ∧ W'.cell? ⟨w.heap.size, 2, none⟩ = some (.slice A n c) ∧ W'.cell? ⟨w.heap.size + 1, 0, none⟩ = some (.string (bs k1)) ∧ W'.cell? ⟨w.heap.size + 1, 1, none⟩ = some (.string (bs k2)) := fun W' h => by
    obtain ⟨⟨a0, a1, a2⟩, a3, a4⟩ := HC.out _ h
    exact ⟨a0, a1, a2, a3, a4⟩
  have HHS5 := hid HS5
  clear HS5 HC
  obtain ⟨n0, n1, n2, p0, p1⟩ := HHS5.out _ (Below.refl W2.heap.size W2)
  go_region_held3 (fun w' => w'.cell? ⟨w.heap.size, 0, none⟩ = some (.string (bs nm)) ∧ w'.cell? ⟨w.heap.size, 1, none⟩ = some (.int .i64 (N : Int)) ∧ w'.cell? ⟨w.heap.size, 2, none⟩ = some (.slice A n c) ∧ w'.cell? ⟨w.heap.size + 1, 0, none⟩ = some (.string (bs k1)) ∧ w'.cell? ⟨w.heap.size + 1, 1, none⟩ = some (.string (bs k2)))
    (first | exact HHS5.out _ (Below.refl _ _) | exact HHS5.out _ (Below.refl _ _).drew | exact HHS5.out _ Fa)
    (first | (go_at_call 76; refine (G _ (R2.out.below (Below.refl W2.heap.size W2).drew)).out.mono ?_; rintro e wa ⟨rfl, ba⟩; have Fa := (Below.refl W2.heap.size W2).drew.trans (ba.mono (Nat.le_refl _))) | (go_at_call 77; refine (HR _).out.mono ?_; rintro e w' ⟨rfl, rfl⟩))
  have HFa := hid Fa
  clear ba Fa n0 n1 n2 p0 p1
  go_wp2
  go_ret
  exact ⟨rfl, HB2.out.trans (HFa.out.mono hw2)⟩
end Go.Proofs.Ytnkpbahapaocbaa
