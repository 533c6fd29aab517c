/- Contracts of LeastIn. No conditions beyond those stated. -/
import Derived.Test.YtecplhpioohhmaaPart2
set_option linter.unusedVariables false
set_option linter.unusedSimpArgs false
set_option maxRecDepth 100000
namespace Go.Proofs.Ytecplhpioohhmaa
open Go.RowKit

theorem headD_at (l : List (List UInt8)) (h : 0 < l.length) : l[0] = l.headD [] := by
  match l, h with
  | _ :: _, _ => rfl
/-- What LeastIn answers. -/
def leastInR (e x : List UInt8) : List UInt8 × Bool := if twoB e x = true then ((sortL (setTo e x (ordL e))).headD [], true) else ([], false)
theorem specLeastIn_any (e x : List UInt8) (w : World) (he : e.length ≤ 1048576) (hx : x.length ≤ 1048576) :
    Calls Try.prog 42 #[.string (bs e), .string (bs x)] w fun e' w' => e' = .returned (.tuple #[.string (bs (leastInR e x).1), .bool (leastInR e x).2]) ∧ Below w.heap.size w w' := by
  cases h : twoB e x
  · have hr := hid (show leastInR e x = ([], false) by simp [leastInR, h])
    go_enter Try.func42, Try.ntmps42
    go_wp2_with fail
    refine (l1Two_any e x _ (by omega) (by omega)).mono ?_
    rintro e' w' ⟨rfl, m, rfl⟩
    rw [h]
    go_wp2_with fail
    go_ret2
    rw [hr.out]
    exact ⟨rfl, below_drewN (Below.refl _ _) _⟩
  · have hr := hid (show leastInR e x = ((sortL (setTo e x (ordL e))).headD [], true) by simp [leastInR, h])
    obtain ⟨h1, h2, h3⟩ := twoB_row h
    have H3 := hid h3
    have hp := ord_pos h1
    have hle := ord_le h1
    clear h3
    go_enter Try.func42, Try.ntmps42
    go_wp2_with fail
    refine (l1Two_any e x _ (by omega) (by omega)).mono ?_
    rintro e' w' ⟨rfl, m, rfl⟩
    rw [h]
    go_wp2_with fail
    refine (l12Set_any e x _ h1 h2 H3.out).mono ?_
    rintro e' w1 ⟨v1, rfl, o1, b1⟩
    rw [sortL_len, setTo_len] at o1
    obtain ⟨A1, c1, rfl, _, _, rd1, _⟩ := own_shape o1
    obtain ⟨b, o, rfl, hj', hc⟩ := rd1.str (show 0 < ordL e by omega)
    have i0 : (0 : Int) < (ordL e : Int) := by omega
    have hat : (sortL (setTo e x (ordL e)))[0] = (sortL (setTo e x (ordL e))).headD [] := by
      exact headD_at _ hj'
    rw [hat] at hc
    have hc0 : w1.cell? ⟨b, o, none⟩ = some (.string (bs ((sortL (setTo e x (ordL e))).headD []))) := hc
    obtain ⟨Z, hZ⟩ : ∃ Z, Z = (sortL (setTo e x (ordL e))).headD [] := ⟨_, rfl⟩
    rw [← hZ] at hc0 hr
    have B1 := hid b1
    clear hc hat hZ o1 rd1 b1
    go_wp2
    go_ret2
    rw [hr.out]
    exact ⟨rfl, (below_drewN (Below.refl _ _) _).trans B1.out⟩
theorem implLeastIn_any (e x : List UInt8) (w : World) (he : e.length ≤ 1048576) (hx : x.length ≤ 1048576) :
    Calls Try.prog 43 #[.string (bs e), .string (bs x)] w fun e' w' => e' = .returned (.tuple #[.string (bs (leastInR e x).1), .bool (leastInR e x).2]) ∧ Below w.heap.size w w' := by
  cases h : twoB e x
  · have hr := hid (show leastInR e x = ([], false) by simp [leastInR, h])
    have hr2 := show partSetR e x = ([], false) by simp [partSetR, h]
    go_enter Try.func43, Try.ntmps43
    go_wp2_with fail
    refine (implPartSet_any e x _ he hx).mono ?_
    rw [hr2]
    rintro e' w1 ⟨v1, rfl, o1, b1⟩
    obtain ⟨A1, c1, rfl, _⟩ := own_shape o1
    go_wp2_with fail
    go_ret2
    rw [hr.out]
    exact ⟨rfl, b1⟩
  · have hr := hid (show leastInR e x = ((sortL (setTo e x (ordL e))).headD [], true) by simp [leastInR, h])
    have hr2 := show partSetR e x = (sortL (setTo e x (ordL e)), true) by simp [partSetR, h]
    obtain ⟨h1, h2, h3⟩ := twoB_row h
    have hp := ord_pos h1
    have hle := ord_le h1
    clear h3
    go_enter Try.func43, Try.ntmps43
    go_wp2_with fail
    refine (implPartSet_any e x _ he hx).mono ?_
    rw [hr2]
    rintro e' w1 ⟨v1, rfl, o1, b1⟩
    have o2 : w1.ownsRow w.heap.size 9 1 v1 (ordL e) (strV (sortL (setTo e x (ordL e)))) := by
      have := o1
      rwa [sortL_len, setTo_len] at this
    obtain ⟨A1, c1, rfl, _, _, rd1, _⟩ := own_shape o2
    obtain ⟨b, o, rfl, hj', hc⟩ := rd1.str (show 0 < ordL e by omega)
    have i0 : (0 : Int) < (ordL e : Int) := by omega
    have hat : (sortL (setTo e x (ordL e)))[0] = (sortL (setTo e x (ordL e))).headD [] := by
      exact headD_at _ hj'
    rw [hat] at hc
    have hc0 : w1.cell? ⟨b, o, none⟩ = some (.string (bs ((sortL (setTo e x (ordL e))).headD []))) := hc
    obtain ⟨Z, hZ⟩ : ∃ Z, Z = (sortL (setTo e x (ordL e))).headD [] := ⟨_, rfl⟩
    rw [← hZ] at hc0 hr
    have B1 := hid b1
    clear hc hat hZ o1 o2 rd1 b1 hr2
    go_wp2
    go_ret2
    rw [hr.out]
    exact ⟨rfl, B1.out⟩
end Go.Proofs.Ytecplhpioohhmaa
