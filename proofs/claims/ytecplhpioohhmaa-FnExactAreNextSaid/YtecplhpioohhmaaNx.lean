/- Contracts of AreNext and ChangesIn, in the reference and in the program. No conditions beyond those stated. -/
import Derived.Test.YtecplhpioohhmaaChgs
set_option linter.unusedVariables false
set_option linter.unusedSimpArgs false
set_option maxRecDepth 100000
namespace Go.Proofs.Ytecplhpioohhmaa
open Go.RowKit

/-- What ChangesIn answers. -/
def changesInR (l : List (List UInt8)) : List (List UInt8) × Bool := if rowsB l = true then changesR l else ([], false)
/-- What AreNext answers. -/
def areNextR (l : List (List UInt8)) : Bool × Bool := if rowsB l = true then ((changesR l).2, true) else (false, false)
theorem changesInR_le (l : List (List UInt8)) : (changesInR l).1.length ≤ 4000000 := by
  unfold changesInR
  split
  · rename_i h
    have := rowsB_len h
    unfold changesR
    split
    · simp only [chgTo_len]; omega
    · simp
  · simp
theorem specChangesIn_any (A : Option Addr) (n c : Nat) (l : List (List UInt8)) (w : World) (hr : Rd w A n (strV l)) (hn : l.length ≤ 1048576) (hs : ∀ s ∈ l, s.length ≤ 1048576) :
    Calls Try.prog 38 #[.slice A n c] w (ResS w (changesInR l)) := by
  have hl : l.length = n := by have := hr.1; rw [strV_len] at this; exact this
  have HG := hid (l6Rows_any A n c l w hr (by omega) hs)
  cases hb : rowsB l
  · have HR := hid (show changesInR l = ([], false) by unfold changesInR; rw [hb]; rfl)
    rw [hb] at HG
    clear hr hs hb
    go_enter Try.func38, Try.ntmps38
    go_wp2_with fail
    refine HG.out.mono ?_
    rintro e w' ⟨rfl, m, rfl⟩
    go_wp2
    go_ret2
    rw [HR.out]
    exact ResS.none _ _ (below_drewN (Below.refl _ _) _)
  · have HR := hid (show changesInR l = changesR l by unfold changesInR; rw [hb]; rfl)
    have HC := hid (fun (m : Nat) => l7Changes_any A n c l (w.drewN m) (hr.drewN m) hb)
    rw [hb] at HG
    clear hr hs hb
    obtain ⟨R, hRR⟩ : ∃ R, R = changesR l := ⟨_, rfl⟩
    rw [← hRR] at HR HC
    obtain ⟨L, ok⟩ := R
    go_enter Try.func38, Try.ntmps38
    go_wp2_with fail
    refine HG.out.mono ?_
    rintro e w' ⟨rfl, m, rfl⟩
    go_wp2_with fail
    refine (HC.out m).mono ?_
    rintro e w1 ⟨v1, rfl, o1, b1⟩
    obtain ⟨A1, c1, rfl, _⟩ := own_shape o1
    go_wp2
    go_ret2
    rw [HR.out]
    exact ⟨_, rfl, o1, (below_drewN (Below.refl w.heap.size w) _).trans b1⟩
theorem implChangesIn_any (A : Option Addr) (n c : Nat) (l : List (List UInt8)) (w : World) (hr : Rd w A n (strV l)) (hn : l.length ≤ 1048576) (hs : ∀ s ∈ l, s.length ≤ 1048576) :
    Calls Try.prog 39 #[.slice A n c] w (ResS w (changesInR l)) := by
  have hl : l.length = n := by have := hr.1; rw [strV_len] at this; exact this
  have HG := hid (goodRows_any A n c l w hr (by omega) hs)
  cases hb : rowsB l
  · have HR := hid (show changesInR l = ([], false) by unfold changesInR; rw [hb]; rfl)
    rw [hb] at HG
    clear hr hs hb
    go_enter Try.func39, Try.ntmps39
    go_wp2_with fail
    refine HG.out.mono ?_
    rintro e w' ⟨rfl, rfl⟩
    go_wp2
    go_ret2
    rw [HR.out]
    exact ResS.none _ _ (Below.refl _ _)
  · have HR := hid (show changesInR l = changesR l by unfold changesInR; rw [hb]; rfl)
    have HC := hid (fun (m : Nat) => changesIn_any A n c l (w.drewN m) (hr.drewN m) hb)
    rw [hb] at HG
    clear hr hs hb
    obtain ⟨R, hRR⟩ : ∃ R, R = changesR l := ⟨_, rfl⟩
    rw [← hRR] at HR HC
    obtain ⟨L, ok⟩ := R
    go_enter Try.func39, Try.ntmps39
    go_wp2_with fail
    refine HG.out.mono ?_
    rintro e w' ⟨rfl, rfl⟩
    go_wp2_with fail
    refine (HC.out 0).mono ?_
    rintro e w1 ⟨v1, rfl, o1, b1⟩
    obtain ⟨A1, c1, rfl, _⟩ := own_shape o1
    go_wp2
    go_ret2
    rw [HR.out]
    exact ⟨_, rfl, o1, (below_drewN (Below.refl w.heap.size w) _).trans b1⟩
theorem specAreNext_any (A : Option Addr) (n c : Nat) (l : List (List UInt8)) (w : World) (hr : Rd w A n (strV l)) (hn : l.length ≤ 1048576) (hs : ∀ s ∈ l, s.length ≤ 1048576) :
    Calls Try.prog 36 #[.slice A n c] w fun e w' => e = .returned (.tuple #[.bool (areNextR l).1, .bool (areNextR l).2]) ∧ Below w.heap.size w w' := by
  have hl : l.length = n := by have := hr.1; rw [strV_len] at this; exact this
  have HG := hid (l6Rows_any A n c l w hr (by omega) hs)
  cases hb : rowsB l
  · have HR := hid (show areNextR l = (false, false) by unfold areNextR; rw [hb]; rfl)
    rw [hb] at HG
    clear hr hs hb
    go_enter Try.func36, Try.ntmps36
    go_wp2_with fail
    refine HG.out.mono ?_
    rintro e w' ⟨rfl, m, rfl⟩
    go_wp2
    go_ret2
    rw [HR.out]
    exact ⟨rfl, (below_drewN (Below.refl _ _) _)⟩
  · have HR := hid (show areNextR l = ((changesR l).2, true) by unfold areNextR; rw [hb]; rfl)
    have HC := hid (fun (m : Nat) => l7Changes_any A n c l (w.drewN m) (hr.drewN m) hb)
    rw [hb] at HG
    clear hr hs hb
    obtain ⟨R, hRR⟩ : ∃ R, R = changesR l := ⟨_, rfl⟩
    rw [← hRR] at HR HC
    obtain ⟨L, ok⟩ := R
    go_enter Try.func36, Try.ntmps36
    go_wp2_with fail
    refine HG.out.mono ?_
    rintro e w' ⟨rfl, m, rfl⟩
    go_wp2_with fail
    refine (HC.out m).mono ?_
    rintro e w1 ⟨v1, rfl, o1, b1⟩
    obtain ⟨A1, c1, rfl, _⟩ := own_shape o1
    go_wp2
    go_ret2
    rw [HR.out]
    exact ⟨rfl, (below_drewN (Below.refl w.heap.size w) _).trans b1⟩
theorem implAreNext_any (A : Option Addr) (n c : Nat) (l : List (List UInt8)) (w : World) (hr : Rd w A n (strV l)) (hn : l.length ≤ 1048576) (hs : ∀ s ∈ l, s.length ≤ 1048576) :
    Calls Try.prog 37 #[.slice A n c] w fun e w' => e = .returned (.tuple #[.bool (areNextR l).1, .bool (areNextR l).2]) ∧ Below w.heap.size w w' := by
  have hl : l.length = n := by have := hr.1; rw [strV_len] at this; exact this
  have HG := hid (goodRows_any A n c l w hr (by omega) hs)
  cases hb : rowsB l
  · have HR := hid (show areNextR l = (false, false) by unfold areNextR; rw [hb]; rfl)
    rw [hb] at HG
    clear hr hs hb
    go_enter Try.func37, Try.ntmps37
    go_wp2_with fail
    refine HG.out.mono ?_
    rintro e w' ⟨rfl, rfl⟩
    go_wp2
    go_ret2
    rw [HR.out]
    exact ⟨rfl, (Below.refl _ _)⟩
  · have HR := hid (show areNextR l = ((changesR l).2, true) by unfold areNextR; rw [hb]; rfl)
    have HC := hid (fun (m : Nat) => changesIn_any A n c l (w.drewN m) (hr.drewN m) hb)
    rw [hb] at HG
    clear hr hs hb
    obtain ⟨R, hRR⟩ : ∃ R, R = changesR l := ⟨_, rfl⟩
    rw [← hRR] at HR HC
    obtain ⟨L, ok⟩ := R
    go_enter Try.func37, Try.ntmps37
    go_wp2_with fail
    refine HG.out.mono ?_
    rintro e w' ⟨rfl, rfl⟩
    go_wp2_with fail
    refine (HC.out 0).mono ?_
    rintro e w1 ⟨v1, rfl, o1, b1⟩
    obtain ⟨A1, c1, rfl, _⟩ := own_shape o1
    go_wp2
    go_ret2
    rw [HR.out]
    exact ⟨rfl, (below_drewN (Below.refl w.heap.size w) _).trans b1⟩
end Go.Proofs.Ytecplhpioohhmaa
