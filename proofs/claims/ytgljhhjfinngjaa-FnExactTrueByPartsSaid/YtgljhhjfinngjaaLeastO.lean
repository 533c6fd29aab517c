/- Contracts of the least rows of the sets of some rows, in the program. No conditions beyond those stated. -/
import Derived.Test.YtgljhhjfinngjaaRowsT
import Derived.Test.YtgljhhjfinngjaaPart
set_option linter.unusedVariables false
set_option linter.unusedSimpArgs false
set_option maxRecDepth 100000
namespace Go.Proofs.Ytgljhhjfinngjaa
open Go.RowKit

theorem headD_at2 (l : List (List UInt8)) (h : 0 < l.length) : l[0] = l.headD [] := by
  match l, h with
  | _ :: _, _ => rfl
/-- The least row of a set. -/
def leastOf (e x : List UInt8) : List UInt8 := (sortL (setTo e x (ordL e))).headD []
/-- The least rows of the sets of some rows. -/
def leastsL (e : List UInt8) (rows : List (List UInt8)) : List (List UInt8) := rows.map (leastOf e)
theorem leastsL_len (e : List UInt8) (rows : List (List UInt8)) : (leastsL e rows).length = rows.length := by simp [leastsL]
theorem leastsL_step (e : List UInt8) (rows : List (List UInt8)) (k : Nat) (h : k < rows.length) : leastsL e (rows.take k) ++ [leastOf e rows[k]] = leastsL e (rows.take (k + 1)) := by
  unfold leastsL
  rw [List.take_succ_eq_append_getElem h, List.map_append]; rfl
theorem leastOf_len {e x : List UInt8} (he : IsRow e) (hl : e.length = x.length) : (leastOf e x).length = e.length := by
  have hp := ord_pos he
  have h1 : 0 < (sortL (setTo e x (ordL e))).length := by rw [sortL_len, setTo_len]; omega
  have h2 : leastOf e x ∈ sortL (setTo e x (ordL e)) := by unfold leastOf; rw [← headD_at2 _ h1]; exact List.getElem_mem h1
  have h3 := (sortL_perm _).mem_iff.1 h2
  simp only [setTo, List.mem_map] at h3
  obtain ⟨i, _, h3⟩ := h3
  rw [← h3, times_len, hl]
theorem leastsL_short {N : Nat} {e : List UInt8} {rows : List (List UInt8)} (hi : N ≤ 8) (he : IsRow e) (hN : e.length = N) (h : ∀ x ∈ rows, IsRow x ∧ x.length = N) : ∀ s ∈ leastsL e rows, s.length ≤ 1048576 := by
  intro s hs
  simp only [leastsL, List.mem_map] at hs
  obtain ⟨x, hx, rfl⟩ := hs
  rw [leastOf_len he (by rw [hN, (h x hx).2])]; omega
theorem leastOnes_any (N : Nat) (e : List UInt8) (rows : List (List UInt8)) (A : Option Addr) (n c : Nat) (w : World) (he : IsRow e) (hN : e.length = N) (hr : Rd w A n (strV rows)) (hn : n ≤ 1048576) (hs : ∀ x ∈ rows, IsRow x ∧ x.length = N) :
    Calls Try.prog 57 #[.string (bs e), .slice A n c] w (OneS w (leastsL e rows)) := by
  have hl := hid (show rows.length = n by have := hr.1; rw [strV_len] at this; exact this)
  have HS := hid hs
  have HE := hid he
  have HP := hid (fun x w (h : IsRow x ∧ x.length = N) => partSet_any e x w he h.1 (by rw [hN, h.2]))
  have hpos := ord_pos he
  have hle := ord_le he
  have RS := hid hr
  clear hs he hr hN
  go_enter Try.func57, Try.ntmps57
  go_wp2

  go_loopg [5, 11] n (fun gk u v wr => ∃ k : Nat, k ≤ n ∧ gk = n - k ∧ v = .int .i64 k ∧ wr.ownsRow w.heap.size 9 1 u k (strV (leastsL e (rows.take k))) ∧ Below w.heap.size w wr)
  case atStart => exact ⟨0, by omega, by omega, rfl, own_of_blk (Blk.new _ _ #[]) (Nat.le_refl _) (by simp [maxLen]), (Below.refl _ _).alloc (Nat.le_refl _) _⟩
  case round =>
    obtain ⟨k, hk, rfl, rfl, ho, hb⟩ := hrel
    by_cases hlt : k < n
    · obtain ⟨b, o, rfl, hj', hc⟩ := (RS.out.below hb).str hlt
      have hrow := HS.out _ (List.getElem_mem hj')
      have hst := hid (leastsL_step e rows k hj')
      have hT := hid (fun w => HP.out rows[k] w hrow)
      have hk0 : (0 : Int) ≤ (k : Int) := by omega
      have hk1 : (k : Int) < (n : Int) := by omega
      have HO := hid ho
      have HB := hid hb
      have HBs := hb.size
      have i0 : (0 : Int) < (ordL e : Int) := by omega
      have hlim : k + 1 ≤ 1000000000000 := by omega
      obtain ⟨Z, hZ⟩ : ∃ Z, Z = leastOf e rows[k] := ⟨_, rfl⟩
      have HZ := hid hZ
      rw [← hZ] at hst
      clear ho hb hrow hZ
      go_wp2_with fail
      refine (hT.out _).mono ?_
      rintro e' w1 ⟨v1, rfl, o1, b1⟩
      rw [sortL_len, setTo_len] at o1
      obtain ⟨A1, c1, rfl, _, _, rd1, _⟩ := own_shape o1
      obtain ⟨b', o', rfl, hj2, hc2⟩ := rd1.str (show 0 < ordL e by omega)
      have hat : (sortL (setTo e rows[k] (ordL e)))[0] = Z := by rw [HZ.out]; exact headD_at2 _ hj2
      rw [hat] at hc2
      have hc0 : w1.cell? ⟨b', o', none⟩ = some (.string (bs Z)) := hc2
      have HO1 := hid (own_below HO.out b1)
      have HB1 := hid (HB.out.trans (b1.mono HBs))
      have B1s := b1.size
      clear hc2 hat o1 rd1 b1 hj2
      go_wp2_with (at_builtin; refine app_str _ (by rfl) _ _ (by rfl) w.heap.size _ _ _ (by rfl) (HO1.out.alloc _) (some ⟨w1.heap.size, 0, none⟩) 1 1 [Z] (by rfl) (Rd.blk _ [.string (bs Z)] _) hlim (by simp; omega) ?_; intro v5 w5 o5 g5)
      go_roundg (n - (k + 1))
      case measure => omega
      case rel =>
        rw [hst.out] at o5
        exact ⟨k + 1, by omega, rfl, by go_num, o5, (HB1.out.alloc (by omega) _).grown g5 (by simp; omega) fun q hq => (HO1.out.lt q hq).1⟩
    · obtain rfl : k = n := by omega
      go_wp2
      go_ret
      have e' : leastsL e rows = leastsL e (rows.take k) := by rw [List.take_of_length_le (by rw [hl.out]; omega)]
      rw [← e'] at ho
      exact ⟨_, rfl, by rw [leastsL_len, hl.out]; exact ho, hb⟩
end Go.Proofs.Ytgljhhjfinngjaa
