/- Contracts of rows under changes: the row that follows, the rows of a lead, the lead's head. No conditions beyond those stated. -/
import Derived.Test.YtecplhpioohhmaaChg
import Derived.Test.YtecplhpioohhmaaGood
import Derived.Test.YtecplhpioohhmaaRow2
set_option linter.unusedVariables false
set_option linter.unusedSimpArgs false
set_option maxRecDepth 100000
namespace Go.Proofs.Ytecplhpioohhmaa
open Go.RowKit

theorem l2Apply_any (r c : List UInt8) (w : World) (hr : IsRow r) (hc : okChange r.length c = true) :
    Calls Try.prog 108 #[.string (bs r), .string (bs c)] w fun e w' => e = .returned (.string (bs (applyL r c))) ∧ Below w.heap.size w w' := by
  have h8 := hr.hi
  have H1 := fun w0 => hid (l2Row_any r.length c w0 hr.lo hr.hi (by have := okChange_len hc; omega))
  have H2 := fun w0 => hid (l1Times_any r (chRowL r.length c) w0 hr (chRow_row c hr.lo hr.hi) (chRow_len _ _).symm)
  clear hr hc
  go_enter Try.func108, Try.ntmps108
  go_wp2_with fail
  refine (H1 _).out.mono ?_
  rintro e w1 ⟨rfl, b1⟩
  go_wp2_with fail
  refine (H2 _).out.mono ?_
  rintro e w2 ⟨rfl, rfl⟩
  go_wp2
  go_ret
  exact ⟨rfl, b1⟩

theorem end_take (r : List UInt8) (cs : List (List UInt8)) (k : Nat) (h : k < cs.length) : endL r (cs.take (k + 1)) = applyL (endL r (cs.take k)) cs[k] := by
  rw [List.take_succ_eq_append_getElem h, end_snoc]
theorem scan_take (r : List UInt8) (cs : List (List UInt8)) (k : Nat) (h : k < cs.length) : scanL r (cs.take k) ++ [applyL (endL r (cs.take k)) cs[k]] = scanL r (cs.take (k + 1)) := by
  rw [List.take_succ_eq_append_getElem h, scan_snoc]

/-- What l4Lead answers: the rows of a lead, the call's own, and the row behind them. -/
def LeadR (w : World) (r : List UInt8) (cs : List (List UInt8)) (e : Ending) (w' : World) : Prop := ∃ v, e = .returned (.tuple #[v, .string (bs (endL r cs))]) ∧ w'.ownsRow w.heap.size 9 1 v cs.length (strV (leadL r cs)) ∧ Below w.heap.size w w'
/-- What holds of a valid method: its stage as a natural number, its changes. -/
theorem meth_parts {m : Meth} (h : methB m = true) : ∃ N : Nat, m.st = N ∧ 3 ≤ N ∧ N ≤ 8 ∧ 1 ≤ m.ch.length ∧ m.ch.length ≤ 40 ∧ ∀ x ∈ m.ch, okChange (N : Int) x = true := by
  have h1 := methB_chs h
  have h2 := chsB_stage h1
  obtain ⟨N, hN⟩ := Int.eq_ofNat_of_zero_le (show 0 ≤ m.st by omega)
  have h3 := chsB_len h1
  exact ⟨N, hN, by omega, by omega, h3.1, h3.2, fun x hx => by rw [← hN]; exact chsB_ok h1 hx⟩
/-- The lead's head of changes of stage N. -/
def headL (N : Nat) (cs : List (List UInt8)) : List UInt8 := endL (roundsL N) cs
theorem headL_len (N : Nat) (cs : List (List UInt8)) : (headL N cs).length = N := by rw [headL, end_len, rounds_len]
theorem headL_row {N : Nat} (lo : 3 ≤ N) (hi : N ≤ 8) (cs : List (List UInt8)) : IsRow (headL N cs) := end_row _ _ (rounds_row lo hi)
theorem scan_last (r : List UInt8) (cs : List (List UInt8)) : (scanL r cs)[cs.length]? = some (endL r cs) := by
  have := scan_at cs r cs.length (Nat.le_refl _)
  rwa [List.take_length] at this

theorem scan_lead (r : List UInt8) (cs : List (List UInt8)) : (scanL r cs).take cs.length = leadL r cs := rfl
/-- The first rows of an owned row are owned. -/
theorem own_take {w : World} {base : Nat} {e : TypeId} {A : Option Addr} {n c k : Nat} {xs : List Value} (h : w.ownsRow base e 1 (.slice A n c) n xs) (hk : k ≤ n) (hn : 0 < n) : w.ownsRow base e 1 (.slice A k c) k (xs.take k) := by
  rcases h.2 with ⟨hv, hx⟩ | ⟨g, cap, cur, hv, hg, hh, hc, hm, r1, r2⟩
  · injection hv with h1 h2 h3
    omega
  · injection hv with h1 h2 h3
    subst h1 h3
    refine ⟨by have := h.1; rw [List.length_take]; omega, .inr ⟨g, c, cur, rfl, hg, hh, by omega, hm, r1, ?_⟩⟩
    rw [← r2, List.take_take]
    congr 1
    omega
end Go.Proofs.Ytecplhpioohhmaa
