/- Contracts of the law package's helpers that mark the elements of a slice and look whether the marks are held. No conditions beyond those stated. -/
import Derived.Test.YtnkpbahapaocbaaHelp
set_option linter.unusedVariables false
set_option linter.unusedSimpArgs false
set_option maxRecDepth 100000
namespace Go.Proofs.Ytnkpbahapaocbaa
open Go.RowKit

/-- The marks that markStringS lays, from number k on. -/
def marksS (k n : Nat) : List (List UInt8) := (List.range n).map fun i => markL (k + i)
def marksI (k n : Nat) : List Int := (List.range n).map fun i => ((k + i : Nat) : Int)
theorem set_step {α : Type} (f : Nat → α) (l : List α) (j : Nat) (h : j < l.length) : ((List.range j).map f ++ l.drop j).set j (f j) = (List.range (j + 1)).map f ++ l.drop (j + 1) := by
  have e : j - ((List.range j).map f).length = 0 := by simp
  rw [List.set_append, if_neg (by simp), e, List.drop_eq_getElem_cons h, List.set_cons_zero, List.range_succ, List.map_append, List.append_assoc]
  rfl

theorem grown_below {a b c : World} {row : Option Nat} (h : Below a.heap.size a b) (k : b.grownBy c row) : a.grownBy c row :=
  ⟨k.os.trans h.os, k.tape.trans h.tape, k.output.trans h.output, Nat.le_trans h.size k.size, fun i hi hne => (k.block i (Nat.lt_of_lt_of_le hi h.size) hne).trans (h.block i hi)⟩
theorem marksS_len (k n : Nat) : (marksS k n).length = n := by simp [marksS]
theorem markStringS_row (g base n cap k : Nat) (l : List (List UInt8)) (w : World) (hown : w.ownsRow base 9 1 (.slice (some ⟨g, 0, none⟩) n cap) n (strV l)) (hk : k + n ≤ 4194304) :
    Calls Try.prog 39 #[.slice (some ⟨g, 0, none⟩) n cap, .int .i64 k] w fun e w' => e = .returned (.int .i64 ((k + n : Nat) : Int)) ∧ w'.ownsRow base 9 1 (.slice (some ⟨g, 0, none⟩) n cap) n (strV (marksS k n)) ∧ w.grownBy w' (some g) := by
  have hl := hid (show l.length = n by have := hown.1; rw [strV_len] at this; omega)
  go_enter Try.func39, Try.ntmps39
  go_wp2
  go_loopg [1, 5] n (fun gk u v wr => ∃ j : Nat, j ≤ n ∧ gk = n - j ∧ u = .int .i64 ((k : Int) + j) ∧ v = .int .i64 j ∧ wr.ownsRow base 9 1 (.slice (some ⟨g, 0, none⟩) n cap) n (strV (marksS k j ++ l.drop j)) ∧ w.grownBy wr (some g))
  case atStart => exact ⟨0, by omega, by omega, by go_num, rfl, hown, World.grownBy.refl _ _⟩
  case round =>
    obtain ⟨j, hj, rfl, rfl, rfl, ho, hg⟩ := hrel
    by_cases hlt : j < n
    · have hlen : (strV (marksS k j ++ l.drop j)).length = n := by simp [strV, marksS]; have := hl.out; omega
      obtain ⟨old, hold⟩ : ∃ u, (strV (marksS k j ++ l.drop j))[j]? = some u := ⟨_, List.getElem?_eq_getElem (by omega)⟩
      have hc := (ho.cellAt j (by omega)).trans hold
      have hf := ho.frozenAt j
      have hj0 : (0 : Int) ≤ (j : Int) := by omega
      have hj1 : (j : Int) < (n : Int) := by omega
      have hg' := hid hg
      have hgs := hg.size
      go_wp2_with fail
      refine (markText_any _ (k + j) _ (by omega) (by omega)).mono ?_
      rintro e w1 ⟨rfl, hb1⟩
      have hlt1 : g < wr.heap.size := (ho.lt g rfl).2
      have hc1 : w1.cell? ⟨g, j, none⟩ = some old := (hb1.cell (p := ⟨g, j, none⟩) hlt1).trans hc
      have hf1 : w1.frozen? ⟨g, j, none⟩ = false := (hb1.frozen (p := ⟨g, j, none⟩) hlt1).trans hf
      have ho1 := own_below ho hb1
      clear hc hf ho hold hg
      go_wp2
      go_roundg (n - (j + 1))
      case measure => omega
      case rel =>
        have h1 := ho1.stored j (.string (bs (markL (k + j))))
        have h2 : (strV (marksS k j ++ l.drop j)).set j (.string (bs (markL (k + j)))) = strV (marksS k (j + 1) ++ l.drop (j + 1)) := by
          have := set_step (fun i => markL (k + i)) l j (by have := hl.out; omega)
          simp only [strV, marksS] at this ⊢
          rw [← this, List.map_set]
        rw [h2] at h1
        exact ⟨j + 1, by omega, rfl, by go_num, by go_num, h1.1, hg'.out.trans (grown_below hb1 h1.2)⟩
    · go_wp2
      go_ret
      have ej : j = n := by omega
      subst ej
      rw [List.drop_of_length_le (by have := hl.out; omega), List.append_nil] at ho
      exact ⟨ret_int (by omega), ho, hg⟩

theorem markStringS_nil (k : Nat) (w : World) (hk : k ≤ 4194304) :
    Calls Try.prog 39 #[.slice none 0 0, .int .i64 k] w fun e w' => e = .returned (.int .i64 (k : Int)) ∧ w = w' := by
  go_enter Try.func39, Try.ntmps39
  go_wp2
  go_rounds 1
  go_ret
  exact ⟨rfl, rfl⟩
/-- markStringS on a row that is owned. -/
theorem markStringS_any (base n : Nat) (k : Nat) (kk : Int) (l : List (List UInt8)) (v : Value) (w : World) (hown : w.ownsRow base 9 1 v n (strV l)) (hkk : kk = k) (hk : k + n ≤ 4194304) :
    Calls Try.prog 39 #[v, .int .i64 kk] w fun e w' => e = .returned (.int .i64 ((k + n : Nat) : Int)) ∧ w'.ownsRow base 9 1 v n (strV (marksS k n)) ∧ w.grownBy w' v.ownBlock := by
  subst hkk
  rcases hown.2 with ⟨rfl, rfl⟩ | ⟨g, cap, cur, rfl, _⟩
  · refine (markStringS_nil k w (by omega)).mono ?_
    rintro e w' ⟨rfl, rfl⟩
    exact ⟨rfl, World.ownsRow_nil _ _ _ _, World.grownBy.refl _ _⟩
  · exact markStringS_row g base n cap k l w hown hk

theorem heldStringS_any (A : Option Addr) (n c : Nat) (k : Nat) (kk : Int) (w : World) (hr : Rd w A n (strV (marksS k n))) (hkk : kk = k) (hk : k + n ≤ 4194304) :
    Calls Try.prog 41 #[.slice A n c, .int .i64 kk] w fun e w' => e = .returned (.int .i64 ((k + n : Nat) : Int)) ∧ Below w.heap.size w w' := by
  subst hkk
  go_enter Try.func41, Try.ntmps41
  go_wp2
  go_loopg [1, 5] n (fun gk u v wr => ∃ j : Nat, j ≤ n ∧ gk = n - j ∧ u = .int .i64 ((k : Int) + j) ∧ v = .int .i64 j ∧ Below w.heap.size w wr)
  case atStart => exact ⟨0, by omega, by omega, by go_num, rfl, Below.refl _ _⟩
  case round =>
    obtain ⟨j, hj, rfl, rfl, rfl, hb⟩ := hrel
    by_cases hlt : j < n
    · obtain ⟨b, o, rfl, hj', hc⟩ := hr.str hlt
      have hbl : b < w.heap.size := World.block_lt_of_cell? w _ hc
      have hm : (marksS k n)[j] = markL (k + j) := by simp [marksS]
      rw [hm] at hc
      have hc' := (hb.cell (p := ⟨b, o + j, none⟩) hbl).trans hc
      have hj0 : (0 : Int) ≤ (j : Int) := by omega
      have hj1 : (j : Int) < (n : Int) := by omega
      have hb' := hid hb
      have hbs := hb.size
      have hbl2 : b < wr.heap.size := by omega
      have hr' := hid hr
      clear hb hc hm hr
      go_wp2
      go_region_held3 (fun w' => w'.cell? ⟨b, o + j, none⟩ = some (.string (bs (markL (k + j))))) (first | exact hc' | exact (hb1.cell (p := ⟨b, o + j, none⟩) hbl2).trans hc')
        (first | (go_at_call 69; refine (markText_any _ (k + j) _ (by omega) (by omega)).mono ?_; rintro e w1 ⟨rfl, hb1⟩))
      go_wp2
      go_roundg (n - (j + 1))
      case measure => omega
      case rel => exact ⟨j + 1, by omega, rfl, by go_num, by go_num, hb'.out.drew.trans (hb1.mono hbs)⟩
    · go_wp2
      go_ret
      exact ⟨ret_int (by omega), hb⟩

end Go.Proofs.Ytnkpbahapaocbaa
