/- Contracts of the functions that say whether a list is one of rows of one stage. No conditions beyond those stated. -/
import Derived.Test.YtiajeheonoebnaaPart2
import Derived.Test.YtiajeheonoebnaaStrs
set_option linter.unusedVariables false
set_option linter.unusedSimpArgs false
set_option maxRecDepth 100000
namespace Go.Proofs.Ytiajeheonoebnaa
open Go.RowKit

/-- Whether a list holds rows of one stage, at most 800. -/
def rowsB (l : List (List UInt8)) : Bool := l.all (fun r => rowB r && decide (r.length = (l.headD []).length)) && decide (l.length ≤ 800)
theorem rowsB_bad (l : List (List UInt8)) (k : Nat) (h : k < l.length) (hb : (rowB l[k] && decide (l[k].length = (l.headD []).length)) = false) : rowsB l = false := by
  cases e : rowsB l
  · rfl
  · simp only [rowsB, Bool.and_eq_true, List.all_eq_true] at e
    have h2 := e.1 _ (List.getElem_mem h)
    have h3 : (rowB l[k] && decide (l[k].length = (l.headD []).length)) = true := by
      rw [Bool.and_eq_true]; simpa using h2
    rw [hb] at h3; cases h3
theorem rowsB_all (l : List (List UInt8)) (h : ∀ (k : Nat) (hk : k < l.length), (rowB l[k] && decide (l[k].length = (l.headD []).length)) = true) : rowsB l = decide (l.length ≤ 800) := by
  unfold rowsB
  rw [List.all_eq_true.2, Bool.true_and]
  intro x hx
  obtain ⟨k, hk, rfl⟩ := List.mem_iff_getElem.1 hx
  exact h k hk
theorem rowsB_row {l : List (List UInt8)} (h : rowsB l = true) {k : Nat} (hk : k < l.length) : IsRow l[k] ∧ l[k].length = (l.headD []).length := by
  simp only [rowsB, Bool.and_eq_true, List.all_eq_true] at h
  have := h.1 _ (List.getElem_mem hk)
  exact ⟨(rowB_iff _).1 this.1, by simpa using this.2⟩
theorem rowsB_len {l : List (List UInt8)} (h : rowsB l = true) : l.length ≤ 800 := by
  simp only [rowsB, Bool.and_eq_true, decide_eq_true_eq] at h
  exact h.2
theorem headD_at' (l : List (List UInt8)) (h : 0 < l.length) : l[0] = l.headD [] := by
  match l, h with
  | _ :: _, _ => rfl

theorem l6Rows_any (A : Option Addr) (n c : Nat) (l : List (List UInt8)) (w : World) (hr : Rd w A n (strV l)) (hn : n ≤ 1048576) (hs : ∀ s ∈ l, s.length ≤ 1048576) :
    Calls Try.prog 67 #[.slice A n c] w fun e w' => e = .returned (.bool (rowsB l)) ∧ ∃ m, w' = w.drewN m := by
  have hl := hid (show l.length = n by have := hr.1; rw [strV_len] at this; exact this)
  have HS := hid hs
  have RS := hid hr
  clear hs hr
  go_enter Try.func67, Try.ntmps67
  go_wp2
  go_loopg [7] n (fun gk u wr => ∃ k m : Nat, k ≤ n ∧ gk = n - k ∧ u = .int .i64 k ∧ Hid (∀ (j : Nat) (hj : j < l.length), j < k → (rowB l[j] && decide (l[j].length = (l.headD []).length)) = true) ∧ wr = w.drewN m)
  case atStart => exact ⟨0, 0, by omega, by omega, rfl, hid (fun j hj h => by omega), rfl⟩
  case round =>
    obtain ⟨k, m, hk, rfl, rfl, hall, rfl⟩ := hrel
    by_cases hlt : k < n
    · obtain ⟨b, o, rfl, hj', hc⟩ := (RS.out.drewN m).str hlt
      obtain ⟨b', o', hA, hj0, hc0⟩ := RS.out.str (show 0 < n by omega)
      injection hA with hA
      injection hA with e1 e2 e3
      subst e1 e2
      rw [headD_at' l hj0] at hc0
      have hc1 : ∀ q, (w.drewN q).cell? ⟨b, o, none⟩ = some (.string (bs (l.headD []))) := fun _ => hc0
      have hsl := HS.out _ (List.getElem_mem hj')
      have hk0 : (0 : Int) ≤ (k : Int) := by omega
      have hk1 : (k : Int) < (n : Int) := by omega
      have i0 : (0 : Int) < (n : Int) := by omega
      obtain ⟨F, hF⟩ : ∃ F, F = l.headD [] := ⟨_, rfl⟩
      rw [← hF] at hc1 hall
      have HF := hid hF
      clear hF hc0
      cases hb : rowB l[k]
      · have HR := hid (rowsB_bad l k hj' (by rw [hb]; rfl))
        go_wp2_with fail
        refine (l1Row_any l[k] _ (by omega)).mono ?_
        rintro e w' ⟨rfl, q, rfl⟩
        rw [hb]
        go_wp2_with fail
        go_ret
        exact ⟨ret_bool HR.out.symm, _, by first | exact rfl | exact World.drewN_drewN _ _ _⟩
      · by_cases he : l[k].length = F.length
        · have hei : ((l[k].length : Int) == (F.length : Int)) = true := by simp; omega
          have HE := hid he
          clear he
          go_wp2_with fail
          refine (l1Row_any l[k] _ (by omega)).mono ?_
          rintro e w' ⟨rfl, q, rfl⟩
          rw [hb]
          go_wp2_with fail
          go_roundg (n - (k + 1))
          case measure => omega
          case rel =>
            have HX : ∀ (j : Nat) (hj : j < l.length), j < k + 1 → (rowB l[j] && decide (l[j].length = F.length)) = true := fun j hj hjk => by
              by_cases e : j = k
              · subst e; rw [hb, HE.out]; simp
              · exact hall.out j hj (by omega)
            exact ⟨k + 1, _, by omega, rfl, by go_num, hid (by rw [← HF.out]; exact HX), by first | exact rfl | exact World.drewN_drewN _ _ _⟩
        · have hei : ((l[k].length : Int) == (F.length : Int)) = false := by simp; omega
          have HE := hid he
          clear he
          have HR := hid (rowsB_bad l k hj' (by rw [hb, ← HF.out]; simp [HE.out]))
          go_wp2_with fail
          refine (l1Row_any l[k] _ (by omega)).mono ?_
          rintro e w' ⟨rfl, q, rfl⟩
          rw [hb]
          go_wp2_with fail
          go_ret
          exact ⟨ret_bool HR.out.symm, _, by first | exact rfl | exact World.drewN_drewN _ _ _⟩
    · obtain rfl : k = n := by omega
      have HR := hid (rowsB_all l fun j hj => hall.out j hj (by rw [← hl.out]; exact hj))
      go_wp2
      go_ret
      rw [HR.out]
      exact ⟨ret_bool (by rw [hl.out]; apply decide_eq_decide.2; omega), _, rfl⟩
theorem goodRows_any (A : Option Addr) (n c : Nat) (l : List (List UInt8)) (w : World) (hr : Rd w A n (strV l)) (hn : n ≤ 1048576) (hs : ∀ s ∈ l, s.length ≤ 1048576) :
    Calls Try.prog 104 #[.slice A n c] w fun e w' => e = .returned (.bool (rowsB l)) ∧ w = w' := by
  have hl := hid (show l.length = n by have := hr.1; rw [strV_len] at this; exact this)
  have HS := hid hs
  have RS := hid hr
  clear hs hr
  go_enter Try.func104, Try.ntmps104
  by_cases h8 : n ≤ 800
  · go_wp2
    go_loopg [10] n (fun gk u wr => ∃ k : Nat, k ≤ n ∧ gk = n - k ∧ u = .int .i64 k ∧ Hid (∀ (j : Nat) (hj : j < l.length), j < k → (rowB l[j] && decide (l[j].length = (l.headD []).length)) = true) ∧ w = wr)
    case atStart => exact ⟨0, by omega, by omega, rfl, hid (fun j hj h => by omega), rfl⟩
    case round =>
      obtain ⟨k, hk, rfl, rfl, hall, rfl⟩ := hrel
      by_cases hlt : k < n
      · obtain ⟨b, o, rfl, hj', hc⟩ := RS.out.str hlt
        obtain ⟨b', o', hA, hj0, hc0⟩ := RS.out.str (show 0 < n by omega)
        injection hA with hA
        injection hA with e1 e2 e3
        subst e1 e2
        rw [headD_at' l hj0] at hc0
        have hc1 : w.cell? ⟨b, o, none⟩ = some (.string (bs (l.headD []))) := hc0
        have hsl := HS.out _ (List.getElem_mem hj')
        have hk0 : (0 : Int) ≤ (k : Int) := by omega
        have hk1 : (k : Int) < (n : Int) := by omega
        have i0 : (0 : Int) < (n : Int) := by omega
        have hFl : (l.headD []).length ≤ 1048576 := by rw [← headD_at' l hj0]; exact HS.out _ (List.getElem_mem hj0)
        obtain ⟨F, hF⟩ : ∃ F, F = l.headD [] := ⟨_, rfl⟩
        rw [← hF] at hc1 hall hFl
        have HF := hid hF
        clear hF hc0
        cases hb : decide (F.length = l[k].length) && rowB l[k]
        · have HR := hid (rowsB_bad l k hj' (by rw [← HF.out, Bool.and_comm, ← hb]; congr 1; apply decide_eq_decide.2; omega))
          go_wp2_with (go_at_call 48; refine (isRowOf_any F.length l[k] _ (by omega) (by omega)).mono ?_; rintro e w' ⟨rfl, rfl⟩; rw [hb])
          go_ret
          exact ⟨ret_bool HR.out.symm, rfl⟩
        · have HX : ∀ (j : Nat) (hj : j < l.length), j < k + 1 → (rowB l[j] && decide (l[j].length = F.length)) = true := fun j hj hjk => by
            by_cases e : j = k
            · subst e
              rw [Bool.and_comm, ← hb]; congr 1; apply decide_eq_decide.2; omega
            · exact hall.out j hj (by omega)
          have HXX := hid HX
          clear HX
          go_wp2_with (go_at_call 48; refine (isRowOf_any F.length l[k] _ (by omega) (by omega)).mono ?_; rintro e w' ⟨rfl, rfl⟩; rw [hb])
          go_roundg (n - (k + 1))
          case measure => omega
          case rel => exact ⟨k + 1, by omega, rfl, by go_num, hid (by rw [← HF.out]; exact HXX.out), rfl⟩
      · obtain rfl : k = n := by omega
        have HR := hid (rowsB_all l fun j hj => hall.out j hj (by rw [← hl.out]; exact hj))
        go_wp2
        go_ret
        rw [HR.out]
        exact ⟨ret_bool (by rw [hl.out]; simp [h8]), rfl⟩
  · have hb : (800 : Int) < (n : Int) := by omega
    go_wp2
    go_ret
    exact ⟨ret_bool (by have := hl.out; simp [rowsB, show ¬ l.length ≤ 800 by omega]), rfl⟩
end Go.Proofs.Ytiajeheonoebnaa
