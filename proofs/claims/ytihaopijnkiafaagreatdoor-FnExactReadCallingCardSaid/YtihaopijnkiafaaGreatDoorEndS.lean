/- Contracts of the reference's guard of a touch with its method, and of its last head. No conditions beyond those stated. -/
import Derived.Test.YtihaopijnkiafaaGreatDoorHeadsS
import Derived.Test.YtihaopijnkiafaaGreatDoorTouch
set_option linter.unusedVariables false
set_option linter.unusedSimpArgs false
set_option maxRecDepth 100000
namespace Go.Proofs.YtihaopijnkiafaaGreatDoor
open Go.RowKit

theorem headsTo_last (N : Nat) (cs : List (List UInt8)) (k : List UInt8 × List UInt8) (t : List UInt8) (j : Nat) (h : j < (headsTo N cs k t j).length) : (headsTo N cs k t j)[j] = headTo N cs k t j := by simp [headsTo]
theorem l9End_any (N : Nat) (nm t : List UInt8) (ch : List (List UInt8)) (k : List UInt8 × List UInt8) (A : Option Addr) (n c : Nat) (w : World) (lo : 3 ≤ N) (hi : N ≤ 8) (hr : Rd w A n (strV ch)) (hn : n ≤ 1048576) (hcap : n ≤ c) (l1 : 1 ≤ ch.length) (hs : ∀ x ∈ ch, okChange (N : Int) x = true) (hb1 : okChange (N : Int) k.1 = true) (hb2 : okChange (N : Int) k.2 = true) (ht : t.length ≤ 1000) :
    Calls Tryz.prog 17 #[.agg #[.string (bs nm), .int .i64 N, .slice A n c], .agg #[.string (bs k.1), .string (bs k.2)], .string (bs t)] w fun e w' => e = .returned (.string (bs (headTo N ch k t t.length))) ∧ Below w.heap.size w w' := by
  have G := fun (w0 : World) (rd : Rd w0 A n (strV ch)) => hid (l9Heads_any N nm t ch k A n c w0 lo hi rd hn hcap l1 hs hb1 hb2 ht)
  have RS := hid hr
  obtain ⟨k1, k2⟩ := k
  clear hr hs hb1 hb2
  have i0 : (0 : Int) ≤ (t.length : Int) := by omega
  have i1 : (t.length : Int) < (t.length : Int) + 1 := by omega
  go_enter Tryz.func17, Tryz.ntmps17
  go_wp2_with fail
  obtain ⟨B2, hsz, HC⟩ := box_mk w nm k1 k2 (N : Int) (.slice A n c)
  refine (G _ (RS.out.below B2)).out.mono ?_
  rintro e w1 ⟨v1, rfl, o1, b1⟩
  have HB := hid (B2.trans (b1.mono B2.size))
  obtain ⟨A1, c1, rfl, _, _, rd1, _⟩ := own_shape o1
  obtain ⟨bq, oq, rfl, hk, hc⟩ := rd1.str (show t.length < t.length + 1 by omega)
  rw [headsTo_last] at hc
  clear b1 B2 hsz HC o1 rd1 hk
  go_wp2
  go_ret
  exact ⟨rfl, HB.out⟩
end Go.Proofs.YtihaopijnkiafaaGreatDoor
