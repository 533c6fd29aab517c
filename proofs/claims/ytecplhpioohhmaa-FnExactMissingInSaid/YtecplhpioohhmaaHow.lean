/- Contracts of HowOften itself, in the reference and in the program. No conditions beyond those stated. -/
import Derived.Test.YtecplhpioohhmaaOften
set_option linter.unusedVariables false
set_option linter.unusedSimpArgs false
set_option maxRecDepth 100000
namespace Go.Proofs.Ytecplhpioohhmaa
open Go.RowKit

theorem l7Small_any (A : Option Addr) (n c : Nat) (l : List (List UInt8)) (w : World) (hr : Rd w A n (strV l)) (hn : n ≤ 1048576) (hs : ∀ s ∈ l, s.length ≤ 1048576) :
    Calls Try.prog 55 #[.slice A n c] w fun e w' => e = .returned (.bool (smallB l)) ∧ ∃ m, w' = w.drewN m := by
  have hl := hid (show l.length = n by have := hr.1; rw [strV_len] at this; exact this)
  have HROWS := hid (l6Rows_any A n c l w hr hn hs)
  cases h1 : rowsB l
  · have HR := hid (show smallB l = false by simp [smallB, h1])
    rw [h1] at HROWS
    clear hs hr h1
    go_enter Try.func55, Try.ntmps55
    go_wp2_with fail
    refine HROWS.out.mono ?_
    rintro e w' ⟨rfl, m, rfl⟩
    go_wp2_with fail
    go_ret
    exact ⟨ret_bool HR.out.symm, _, rfl⟩
  · rw [h1] at HROWS
    by_cases h0 : 0 < n
    · obtain ⟨b, o, rfl, hj0, hc0⟩ := hr.str h0
      rw [headD_at' l hj0] at hc0
      have hc1 : ∀ q, (w.drewN q).cell? ⟨b, o, none⟩ = some (.string (bs (l.headD []))) := fun _ => hc0
      have hc2 : w.cell? ⟨b, o, none⟩ = some (.string (bs (l.headD []))) := hc0
      have hR : smallB l = decide ((l.headD []).length ≤ 6) := by
        simp only [smallB, h1, Bool.true_and, hl.out, decide_eq_true h0]
      have HR := hid hR
      have i0 : (0 : Int) < (n : Int) := by omega
      obtain ⟨F, hF⟩ : ∃ F, F = l.headD [] := ⟨_, rfl⟩
      rw [← hF] at hc1 hc2 HR
      clear hs hr h1 hc0 hR hF hj0
      by_cases h6 : F.length ≤ 6
      · have h6i : (F.length : Int) ≤ 6 := by omega
        go_enter Try.func55, Try.ntmps55
        go_wp2_with fail
        refine HROWS.out.mono ?_
        rintro e w' ⟨rfl, m, rfl⟩
        go_wp2_with fail
        go_ret
        exact ⟨ret_bool (by rw [HR.out, decide_eq_true h6]), _, rfl⟩
      · have h6i : ¬ (F.length : Int) ≤ 6 := by omega
        go_enter Try.func55, Try.ntmps55
        go_wp2_with fail
        refine HROWS.out.mono ?_
        rintro e w' ⟨rfl, m, rfl⟩
        go_wp2_with fail
        go_ret
        exact ⟨ret_bool (by rw [HR.out]; first | (simp [h6]; done) | (simp; omega)), _, rfl⟩
    · have HR := hid (show smallB l = false by simp [smallB, hl.out, show ¬ 0 < n from h0])
      have i0 : ¬ (0 : Int) < (n : Int) := by omega
      clear hs hr h1
      go_enter Try.func55, Try.ntmps55
      go_wp2_with fail
      refine HROWS.out.mono ?_
      rintro e w' ⟨rfl, m, rfl⟩
      go_wp2_with fail
      go_ret
      exact ⟨ret_bool HR.out.symm, _, rfl⟩
theorem countable_any (A : Option Addr) (n c : Nat) (l : List (List UInt8)) (w : World) (hr : Rd w A n (strV l)) (hn : n ≤ 1048576) (hs : ∀ s ∈ l, s.length ≤ 1048576) :
    Calls Try.prog 57 #[.slice A n c] w fun e w' => e = .returned (.bool (smallB l)) ∧ ∃ m, w' = w.drewN m := by
  have hl := hid (show l.length = n by have := hr.1; rw [strV_len] at this; exact this)
  have HROWS := hid (goodRows_any A n c l w hr hn hs)
  cases h1 : rowsB l
  · have HR := hid (show smallB l = false by simp [smallB, h1])
    rw [h1] at HROWS
    clear hs hr h1
    go_enter Try.func57, Try.ntmps57
    go_wp2_with fail
    refine HROWS.out.mono ?_
    rintro e w' ⟨rfl, rfl⟩
    go_wp2_with fail
    go_ret
    exact ⟨ret_bool HR.out.symm, 0, rfl⟩
  · rw [h1] at HROWS
    by_cases h0 : 0 < n
    · obtain ⟨b, o, rfl, hj0, hc0⟩ := hr.str h0
      rw [headD_at' l hj0] at hc0
      have hc1 : ∀ q, (w.drewN q).cell? ⟨b, o, none⟩ = some (.string (bs (l.headD []))) := fun _ => hc0
      have hc2 : w.cell? ⟨b, o, none⟩ = some (.string (bs (l.headD []))) := hc0
      have hR : smallB l = decide ((l.headD []).length ≤ 6) := by
        simp only [smallB, h1, Bool.true_and, hl.out, decide_eq_true h0]
      have HR := hid hR
      have i0 : (0 : Int) < (n : Int) := by omega
      obtain ⟨F, hF⟩ : ∃ F, F = l.headD [] := ⟨_, rfl⟩
      rw [← hF] at hc1 hc2 HR
      clear hs hr h1 hc0 hR hF hj0
      by_cases h6 : F.length ≤ 6
      · have h6i : (F.length : Int) ≤ 6 := by omega
        go_enter Try.func57, Try.ntmps57
        go_wp2_with fail
        refine HROWS.out.mono ?_
        rintro e w' ⟨rfl, rfl⟩
        go_wp2_with fail
        go_ret
        exact ⟨ret_bool (by rw [HR.out, decide_eq_true h6]), 0, rfl⟩
      · have h6i : ¬ (F.length : Int) ≤ 6 := by omega
        go_enter Try.func57, Try.ntmps57
        go_wp2_with fail
        refine HROWS.out.mono ?_
        rintro e w' ⟨rfl, rfl⟩
        go_wp2_with fail
        go_ret
        exact ⟨ret_bool (by rw [HR.out]; first | (simp [h6]; done) | (simp; omega)), 0, rfl⟩
    · have HR := hid (show smallB l = false by simp [smallB, hl.out, show ¬ 0 < n from h0])
      have i0 : ¬ (0 : Int) < (n : Int) := by omega
      clear hs hr h1
      go_enter Try.func57, Try.ntmps57
      go_wp2_with fail
      refine HROWS.out.mono ?_
      rintro e w' ⟨rfl, rfl⟩
      go_wp2_with fail
      go_ret
      exact ⟨ret_bool HR.out.symm, 0, rfl⟩
/-- What HowOften answers. -/
def howOftenR (l : List (List UInt8)) : List Int × Bool := if smallB l = true then (oftenL l, true) else ([], false)
theorem howOftenR_le (l : List (List UInt8)) : (howOftenR l).1.length ≤ 40320 := by
  unfold howOftenR
  split
  · rename_i h
    simp only [smallB, Bool.and_eq_true, decide_eq_true_eq] at h
    show (oftenL l).length ≤ 40320
    rw [oftenL, often_len]
    exact fact_le _ (by omega)
  · simp
theorem specHowOften_any (A : Option Addr) (n c : Nat) (l : List (List UInt8)) (w : World) (hr : Rd w A n (strV l)) (hn : n ≤ 1048576) (hs : ∀ s ∈ l, s.length ≤ 1048576) :
    Calls Try.prog 26 #[.slice A n c] w (ResI w (howOftenR l)) := by
  have HS := hid (l7Small_any A n c l w hr hn hs)
  cases h : smallB l
  · have HR := hid (show howOftenR l = ([], false) by simp [howOftenR, h])
    rw [h] at HS
    clear h hs hr
    go_enter Try.func26, Try.ntmps26
    go_wp2_with fail
    refine HS.out.mono ?_
    rintro e w' ⟨rfl, m, rfl⟩
    go_wp2_with fail
    go_ret2
    rw [HR.out]
    exact ResI.none _ _ (below_drewN (Below.refl _ _) _)
  · have HR := hid (show howOftenR l = (oftenL l, true) by simp [howOftenR, h])
    have HO := hid (fun m => l7Often_any A n c l (w.drewN m) (hr.drewN m) h)
    rw [h] at HS
    clear h hs hr
    go_enter Try.func26, Try.ntmps26
    go_wp2_with fail
    refine HS.out.mono ?_
    rintro e w' ⟨rfl, m, rfl⟩
    go_wp2_with fail
    refine (HO.out m).mono ?_
    rintro e w1 ⟨v1, rfl, o1, b1⟩
    obtain ⟨A1, c1, rfl, _⟩ := own_shape o1
    go_wp2_with fail
    go_ret2
    rw [HR.out]
    exact ⟨_, rfl, o1, (below_drewN (Below.refl _ _) _).trans b1⟩
theorem implHowOften_any (A : Option Addr) (n c : Nat) (l : List (List UInt8)) (w : World) (hr : Rd w A n (strV l)) (hn : n ≤ 1048576) (hs : ∀ s ∈ l, s.length ≤ 1048576) :
    Calls Try.prog 28 #[.slice A n c] w (ResI w (howOftenR l)) := by
  have HS := hid (countable_any A n c l w hr hn hs)
  cases h : smallB l
  · have HR := hid (show howOftenR l = ([], false) by simp [howOftenR, h])
    rw [h] at HS
    clear h hs hr
    go_enter Try.func28, Try.ntmps28
    go_wp2_with fail
    refine HS.out.mono ?_
    rintro e w' ⟨rfl, m, rfl⟩
    go_wp2_with fail
    go_ret2
    rw [HR.out]
    exact ResI.none _ _ (below_drewN (Below.refl _ _) _)
  · have HR := hid (show howOftenR l = (oftenL l, true) by simp [howOftenR, h])
    have HO := hid (fun m => counts_any A n c l (w.drewN m) (hr.drewN m) h)
    rw [h] at HS
    clear h hs hr
    go_enter Try.func28, Try.ntmps28
    go_wp2_with fail
    refine HS.out.mono ?_
    rintro e w' ⟨rfl, m, rfl⟩
    go_wp2_with fail
    refine (HO.out m).mono ?_
    rintro e w1 ⟨v1, rfl, o1, b1⟩
    obtain ⟨A1, c1, rfl, _⟩ := own_shape o1
    go_wp2_with fail
    go_ret2
    rw [HR.out]
    exact ⟨_, rfl, o1, (below_drewN (Below.refl _ _) _).trans b1⟩
end Go.Proofs.Ytecplhpioohhmaa
