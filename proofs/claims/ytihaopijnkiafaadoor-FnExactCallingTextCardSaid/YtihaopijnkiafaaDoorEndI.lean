/- Contracts of the program's guard of a touch with its method, and of its last head. No conditions beyond those stated. -/
import Derived.Test.YtihaopijnkiafaaDoorHeads
import Derived.Test.YtihaopijnkiafaaDoorEndS
set_option linter.unusedVariables false
set_option linter.unusedSimpArgs false
set_option maxRecDepth 100000
namespace Go.Proofs.YtihaopijnkiafaaDoor
open Go.RowKit

theorem goodFor_any (m : Meth) (k : List UInt8 × List UInt8) (t : List UInt8) (A : Option Addr) (n c : Nat) (w : World) (ok : LawOk m k) (rd : Rd w A n (strV m.ch)) (ht : t.length ≤ 1048576) :
    Calls Tryd.prog 16 #[.agg #[.string (bs m.nm), .int .i64 m.st, .slice A n c], .agg #[.string (bs k.1), .string (bs k.2)], .string (bs t)] w fun e w' => e = .returned (.bool (callsB m k && goodTouch t)) ∧ Below w.heap.size w w' := by
  have G := fun (w0 : World) (rd : Rd w0 A n (strV m.ch)) => hid (goodCalls_law m k A n c w0 ok rd)
  have G2 := fun w0 => hid (implGoodTouch_any t w0 (by omega))
  have RS := hid rd
  generalize callsB m k = P0 at *
  generalize goodTouch t = P1 at *
  obtain ⟨nm, st, ch⟩ := m
  obtain ⟨k1, k2⟩ := k
  dsimp only at *
  clear rd ok
  go_enter Tryd.func16, Tryd.ntmps16
  go_wp2_with fail
  obtain ⟨B2, hsz, HC⟩ := box_mk w nm k1 k2 st (.slice A n c)
  refine (G _ (RS.out.below B2)).out.mono ?_
  rintro e w1 ⟨rfl, b1⟩
  have HB := hid (B2.trans (b1.mono B2.size))
  clear b1 B2 hsz HC
  cases P0
  · go_wp2
    go_ret
    exact ⟨rfl, HB.out⟩
  · go_wp2_with fail
    refine (G2 _).out.mono ?_
    rintro e w2 ⟨rfl, rfl⟩
    go_wp2
    go_ret
    exact ⟨rfl, HB.out⟩
end Go.Proofs.YtihaopijnkiafaaDoor
