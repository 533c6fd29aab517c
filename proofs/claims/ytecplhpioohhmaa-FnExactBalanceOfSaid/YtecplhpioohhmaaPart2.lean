/- Contracts of PartSet and LeastIn themselves. No conditions beyond those stated. -/
import Derived.Test.YtecplhpioohhmaaPart
set_option linter.unusedVariables false
set_option linter.unusedSimpArgs false
set_option maxRecDepth 100000
namespace Go.Proofs.Ytecplhpioohhmaa
open Go.RowKit

def twoB (a b : List UInt8) : Bool := rowB a && rowB b && decide (a.length = b.length)
theorem twoB_row {a b : List UInt8} (h : twoB a b = true) : IsRow a ∧ IsRow b ∧ a.length = b.length := by
  simp only [twoB, Bool.and_eq_true, decide_eq_true_eq] at h
  exact ⟨(rowB_iff a).1 h.1.1, (rowB_iff b).1 h.1.2, h.2⟩
theorem l1Two_any (a b : List UInt8) (w : World) (ha : a.length ≤ 140737488351232) (hb : b.length ≤ 140737488351232) :
    Calls Try.prog 72 #[.string (bs a), .string (bs b)] w fun e w' => e = .returned (.bool (twoB a b)) ∧ ∃ m, w' = w.drewN m := by
  cases h1 : rowB a
  · have hr := hid (show twoB a b = false by simp [twoB, h1])
    go_enter Try.func72, Try.ntmps72
    go_wp2_with fail
    refine (l1Row_any a _ ha).mono ?_
    rintro e w' ⟨rfl, m, rfl⟩
    rw [h1]
    go_wp2_with fail
    go_ret
    exact ⟨ret_bool hr.out.symm, _, rfl⟩
  · cases h2 : rowB b
    · have hr := hid (show twoB a b = false by simp [twoB, h2])
      go_enter Try.func72, Try.ntmps72
      go_wp2_with fail
      refine (l1Row_any a _ ha).mono ?_
      rintro e w' ⟨rfl, m, rfl⟩
      rw [h1]
      go_wp2_with fail
      refine (l1Row_any b _ hb).mono ?_
      rintro e w' ⟨rfl, m2, rfl⟩
      rw [h2]
      go_wp2_with fail
      go_ret
      exact ⟨ret_bool hr.out.symm, _, (by first | exact rfl | exact World.drewN_drewN _ _ _)⟩
    · have hr := hid (show twoB a b = decide (a.length = b.length) by simp [twoB, h1, h2])
      go_enter Try.func72, Try.ntmps72
      go_wp2_with fail
      refine (l1Row_any a _ ha).mono ?_
      rintro e w' ⟨rfl, m, rfl⟩
      rw [h1]
      go_wp2_with fail
      refine (l1Row_any b _ hb).mono ?_
      rintro e w' ⟨rfl, m2, rfl⟩
      rw [h2]
      by_cases hl : a.length = b.length
      · have hli : ((a.length : Int) == (b.length : Int)) = true := by simp; omega
        have HL := hid hl
        clear hl
        go_wp2_with fail
        go_ret
        rw [hr.out]
        exact ⟨ret_bool (by simp [HL.out]), _, (by first | exact rfl | exact World.drewN_drewN _ _ _)⟩
      · have hli : ((a.length : Int) == (b.length : Int)) = false := by simp; omega
        have HL := hid hl
        clear hl
        go_wp2_with fail
        go_ret
        rw [hr.out]
        exact ⟨ret_bool (by simp [HL.out]), _, (by first | exact rfl | exact World.drewN_drewN _ _ _)⟩
theorem isRowOf_any (n : Nat) (r : List UInt8) (w : World) (hn : n ≤ 140737488351232) (hl : r.length ≤ 140737488351232) :
    Calls Try.prog 75 #[.int .i64 n, .string (bs r)] w fun e w' => e = .returned (.bool (decide (n = r.length) && rowB r)) ∧ w = w' := by
  by_cases h : n = r.length
  · subst h
    go_enter Try.func75, Try.ntmps75
    go_wp2_with (go_at_call 74; refine (goodRow_any _ _ hl).mono ?_; rintro e w' ⟨rfl, rfl⟩)
    go_ret
    exact ⟨ret_bool (by simp), rfl⟩
  · have hli : ((r.length : Int) == (n : Int)) = false := by simp; omega
    have H := hid h
    clear h
    go_enter Try.func75, Try.ntmps75
    go_wp2_with fail
    go_ret
    exact ⟨ret_bool (by simp [H.out]), rfl⟩

/-- What PartSet answers. -/
def partSetR (e x : List UInt8) : List (List UInt8) × Bool := if twoB e x = true then (sortL (setTo e x (ordL e)), true) else ([], false)
theorem partSetR_le (e x : List UInt8) : (partSetR e x).1.length ≤ 840 := by
  unfold partSetR
  split
  · rename_i h
    rw [sortL_len, setTo_len]
    exact ord_le (twoB_row h).1
  · simp
theorem specPartSet_any (e x : List UInt8) (w : World) (he : e.length ≤ 1048576) (hx : x.length ≤ 1048576) :
    Calls Try.prog 40 #[.string (bs e), .string (bs x)] w (ResS w (partSetR e x)) := by
  cases h : twoB e x
  · have hr := hid (show partSetR e x = ([], false) by simp [partSetR, h])
    go_enter Try.func40, Try.ntmps40
    go_wp2_with fail
    refine (l1Two_any e x _ (by omega) (by omega)).mono ?_
    rintro e' w' ⟨rfl, m, rfl⟩
    rw [h]
    go_wp2_with fail
    go_ret2
    rw [hr.out]
    exact ResS.none _ _ (below_drewN (Below.refl _ _) _)
  · have hr := hid (show partSetR e x = (sortL (setTo e x (ordL e)), true) by simp [partSetR, h])
    obtain ⟨h1, h2, h3⟩ := twoB_row h
    have H3 := hid h3
    clear h3
    go_enter Try.func40, Try.ntmps40
    go_wp2_with fail
    refine (l1Two_any e x _ (by omega) (by omega)).mono ?_
    rintro e' w' ⟨rfl, m, rfl⟩
    rw [h]
    go_wp2_with fail
    refine (l12Set_any e x _ h1 h2 H3.out).mono ?_
    rintro e' w1 ⟨v1, rfl, o1, b1⟩
    obtain ⟨A1, c1, rfl, _⟩ := own_shape o1
    go_wp2_with fail
    go_ret2
    rw [hr.out]
    exact ⟨_, rfl, o1, (below_drewN (Below.refl _ _) _).trans b1⟩
theorem implPartSet_any (e x : List UInt8) (w : World) (he : e.length ≤ 1048576) (hx : x.length ≤ 1048576) :
    Calls Try.prog 41 #[.string (bs e), .string (bs x)] w (ResS w (partSetR e x)) := by
  cases h : twoB e x
  · have hr := hid (show partSetR e x = ([], false) by simp [partSetR, h])
    cases h1 : rowB e
    · go_enter Try.func41, Try.ntmps41
      go_wp2_with (go_at_call 74; refine (goodRow_any _ _ (by omega)).mono ?_; rintro e w' ⟨rfl, rfl⟩)
      go_ret2
      rw [hr.out]
      exact ResS.none _ _ (Below.refl _ _)
    · have h2 : (decide (e.length = x.length) && rowB x) = false := by
        simp only [twoB, h1, Bool.true_and] at h
        rw [Bool.and_comm]; exact h
      go_enter Try.func41, Try.ntmps41
      go_wp2_with (first
        | (go_at_call 74; refine (goodRow_any _ _ (by omega)).mono ?_; rintro e w' ⟨rfl, rfl⟩)
        | (go_at_call 75; refine (isRowOf_any e.length x _ (by omega) (by omega)).mono ?_; rintro e w' ⟨rfl, rfl⟩; rw [h2]))
      go_ret2
      rw [hr.out]
      exact ResS.none _ _ (Below.refl _ _)
  · have hr := hid (show partSetR e x = (sortL (setTo e x (ordL e)), true) by simp [partSetR, h])
    obtain ⟨h1, h2, h3⟩ := twoB_row h
    have h4 := (rowB_iff e).2 h1
    have h5 : (decide (e.length = x.length) && rowB x) = true := by rw [(rowB_iff x).2 h2, h3]; simp
    have H3 := hid h3
    clear h3
    go_enter Try.func41, Try.ntmps41
    go_wp2_with (first
      | (go_at_call 74; refine (goodRow_any _ _ (by omega)).mono ?_; rintro e w' ⟨rfl, rfl⟩)
      | (go_at_call 75; refine (isRowOf_any e.length x _ (by omega) (by omega)).mono ?_; rintro e w' ⟨rfl, rfl⟩; rw [h5]))
    refine (partSet_any e x _ h1 h2 H3.out).mono ?_
    rintro e' w1 ⟨v1, rfl, o1, b1⟩
    obtain ⟨A1, c1, rfl, _⟩ := own_shape o1
    go_wp2_with fail
    go_ret2
    rw [hr.out]
    exact ⟨_, rfl, o1, b1⟩
end Go.Proofs.Ytecplhpioohhmaa
