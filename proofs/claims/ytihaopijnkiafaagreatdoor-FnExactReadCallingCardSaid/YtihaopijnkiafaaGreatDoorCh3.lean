/- Contract of the program's test of a change. No conditions beyond those stated. -/
import Derived.Test.YtihaopijnkiafaaGreatDoorCh1
import Derived.Test.YtihaopijnkiafaaGreatDoorCh2
set_option linter.unusedVariables false
set_option linter.unusedSimpArgs false
set_option maxRecDepth 100000
namespace Go.Proofs.YtihaopijnkiafaaGreatDoor
open Go.RowKit

/-- Naturals as cells. -/
def natI (d : List Nat) : List Int := d.map fun (x : Nat) => (x : Int)
theorem natI_len (d : List Nat) : (natI d).length = d.length := by simp [natI]
theorem natI_at (d : List Nat) (k : Nat) (h : k < (natI d).length) : (natI d)[k] = ((d[k]'(by rw [← natI_len]; exact h) : Nat) : Int) := by simp [natI]
theorem Rd.nat {w : World} {A : Option Addr} {n : Nat} {d : List Nat} (h : Rd w A n (intV (natI d))) {k : Nat} (hk : k < n) : ∃ b o, A = some ⟨b, o, none⟩ ∧ ∃ hk' : k < d.length, w.cell? ⟨b, o + k, none⟩ = some (.int .i64 ((d[k] : Nat) : Int)) := by
  obtain ⟨b, o, hA, hk', hc⟩ := h.int hk
  rw [natI_at] at hc
  exact ⟨b, o, hA, by rw [← natI_len]; exact hk', hc⟩
theorem arePlaces_nil (n : Int) (A : Option Addr) (c : Nat) (w : World) :
    Calls Tryz.prog 60 #[.int .i64 n, .slice A 0 c] w fun e w' => e = .returned (.bool false) ∧ w = w' := by
  go_enter Tryz.func60, Tryz.ntmps60
  go_wp2
  go_ret
  exact ⟨rfl, rfl⟩
theorem lastOf_at : ∀ (d : List Nat) (p : Nat) (h : 0 < d.length), lastOf p d = d[d.length - 1]
  | [x], _, _ => rfl
  | x :: y :: d, p, _ => by
    rw [lastOf, lastOf_at (y :: d) x (by simp)]
    simp
theorem chn_drop (d : List Nat) (p k : Nat) (h : k < d.length) : chn p (d.drop k) = (decide (p < d[k]) && decide (d[k] % 2 ≠ p % 2) && chn d[k] (d.drop (k + 1))) := by
  rw [List.drop_eq_getElem_cons h, chn]
/-- Why a list is not the places of a change. -/
def DrewB (w : World) (b : Bool) (e : Ending) (w' : World) : Prop := e = .returned (.bool b) ∧ ∃ m, w' = w.drewN m

set_option maxHeartbeats 2000000 in
theorem arePlaces_pos (n m c : Nat) (A : Option Addr) (d : List Nat) (w : World) (hr : Rd w A (m + 1) (intV (natI d))) (hd : ∀ x ∈ d, 1 ≤ x ∧ x ≤ 8) (hm : m ≤ 2000000) (hn : n ≤ 8) :
    Calls Tryz.prog 60 #[.int .i64 n, .slice A (m + 1) c] w (DrewB w (arePl n d)) := by
  have hl := hid (show d.length = m + 1 by have := hr.1; rw [intV_len] at this; simpa [natI] using this)
  obtain ⟨b, o, rfl, h0, c0⟩ := hr.nat (show 0 < m + 1 by omega)
  obtain ⟨b', o', hA, h1, c1⟩ := hr.nat (show m < m + 1 by omega)
  injection hA with hA
  injection hA with e1 e2 e3
  subst e1 e2
  have HD := hid hd
  have RS := hid hr
  have d0 := hd _ (List.getElem_mem h0)
  have d1 := hd _ (List.getElem_mem h1)
  have c0' : w.cell? ⟨b, o, none⟩ = some (.int .i64 (d[0] : Int)) := c0
  clear c0 hd hr
  have hne : d ≠ [] := fun e => by rw [e] at h0; simp at h0
  have HP := hid (show arePl n d = (decide (m + 1 ≠ n) && decide (d[m] % 2 = n % 2) && decide (d[m] ≤ n) && chn 0 d) by
    have e4 : lastOf 0 d = d[m] := by rw [lastOf_at d 0 h0]; congr 1; have := hl.out; omega
    rw [arePl, e4, hl.out, decide_eq_true hne]; rfl)
  have HC := hid (show chn 0 d = (decide (d[0] % 2 ≠ 0) && chn d[0] (d.drop 1)) by
    have := chn_drop d 0 0 h0
    rw [List.drop_zero] at this
    rw [this, decide_eq_true (show 0 < d[0] by omega)]; simp)
  have HD0 := hid (show 1 ≤ d[0] ∧ d[0] ≤ 8 from d0)
  have hw0 : wrap64 (m : Int) = (m : Int) := by unfold wrap64; omega
  have i0 : (0 : Int) ≤ (m : Int) := by omega
  have hm0 : Int.tmod ((d[0] : Nat) : Int) 2 = ((d[0] : Nat) : Int) % 2 := Int.tmod_eq_emod_of_nonneg (by omega)
  have hm1 : Int.tmod ((d[m] : Nat) : Int) 2 = ((d[m] : Nat) : Int) % 2 := Int.tmod_eq_emod_of_nonneg (by omega)
  have hm2 : Int.tmod (n : Int) 2 = (n : Int) % 2 := Int.tmod_eq_emod_of_nonneg (by omega)
  obtain ⟨x0, hx0⟩ : ∃ x, x = d[0] := ⟨_, rfl⟩
  obtain ⟨x1, hx1⟩ : ∃ x, x = d[m] := ⟨_, rfl⟩
  rw [← hx0] at hm0 c0' HC d0
  rw [← hx1] at hm1 c1 HP d1
  have X0 := hid hx0
  clear hx0 hx1 hne
  by_cases t1 : m + 1 = n
  · have HR := hid (show arePl n d = false by rw [HP.out]; simp [t1])
    have z1 : ((m : Int) + 1 == (n : Int)) = true := by simp; omega
    go_enter Tryz.func60, Tryz.ntmps60
    go_wp2
    go_ret
    exact ⟨ret_bool HR.out.symm, 0, rfl⟩
  · have z1 : ((m : Int) + 1 == (n : Int)) = false := by simp; omega
    by_cases t2 : x0 % 2 = 0
    · have HR := hid (show arePl n d = false by rw [HP.out, HC.out]; simp [t2])
      have z2 : (((x0 : Nat) : Int) % 2 == 0) = true := by simp; omega
      go_enter Tryz.func60, Tryz.ntmps60
      go_wp2
      go_ret
      exact ⟨ret_bool HR.out.symm, 0, rfl⟩
    · have z2 : (((x0 : Nat) : Int) % 2 == 0) = false := by simp; omega
      by_cases t3 : x1 % 2 = n % 2
      · have z3 : (((x1 : Nat) : Int) % 2 != (n : Int) % 2) = false := by simp; omega
        by_cases t4 : x1 ≤ n
        · have HR := hid (show arePl n d = chn x0 (d.drop 1) by rw [HP.out, HC.out]; simp [t1, t2, t3, t4])
          have z4 : ¬ ((n : Int) < ((x1 : Nat) : Int)) := by omega
          clear t1 t2 t3 t4
          go_enter Tryz.func60, Tryz.ntmps60
          go_wp2
          clear hw0
          go_loopg [5] m (fun gk v wr => ∃ k q : Nat, 1 ≤ k ∧ k ≤ m + 1 ∧ gk = m + 1 - k ∧ v = .int .i64 k ∧ Hid (∀ (hk : k - 1 < d.length), chn d[k - 1] (d.drop k) = chn x0 (d.drop 1)) ∧ wr = w.drewN q)
          case atStart => exact ⟨1, 0, by omega, by omega, by omega, rfl, hid (fun hk => by rw [X0.out]), rfl⟩
          case round =>
            obtain ⟨k, q, hk1, hk, rfl, rfl, hh, rfl⟩ := hrel
            obtain ⟨j, rfl⟩ : ∃ j, k = j + 1 := ⟨k - 1, by omega⟩
            by_cases hlt : j < m
            · obtain ⟨b2, o2, hA2, h2, c2⟩ := RS.out.nat (show j < m + 1 by omega)
              injection hA2 with hA2
              injection hA2 with e1 e2 e3
              subst e1 e2
              obtain ⟨b3, o3, hA3, h3, c3⟩ := RS.out.nat (show j + 1 < m + 1 by omega)
              injection hA3 with hA3
              injection hA3 with e1 e2 e3
              subst e1 e2
              have dj := HD.out _ (List.getElem_mem h2)
              have dk := HD.out _ (List.getElem_mem h3)
              have hst := hid (chn_drop d d[j] (j + 1) h3)
              have hold := hid (hh.out h2)
              simp only [Nat.add_sub_cancel] at hold
              have Q2 : ∀ q, (w.drewN q).cell? ⟨b, o + j, none⟩ = some (.int .i64 ((d[j] : Nat) : Int)) := fun _ => c2
              have Q3 : ∀ q, (w.drewN q).cell? ⟨b, o + (j + 1), none⟩ = some (.int .i64 ((d[j + 1] : Nat) : Int)) := fun _ => c3
              obtain ⟨y0, hy0⟩ : ∃ x, x = d[j] := ⟨_, rfl⟩
              obtain ⟨y1, hy1⟩ : ∃ x, x = d[j + 1] := ⟨_, rfl⟩
              rw [← hy0] at dj Q2 hst hold
              rw [← hy1] at dk Q3 hst
              have Y1 := hid hy1
              have i1 : (j : Int) < (m : Int) := by omega
              have i2 : (0 : Int) ≤ (j : Int) := by omega
              clear hy0 c2 c3 hh
              by_cases s1 : y1 ≤ y0
              · have HF := hid (show chn x0 (d.drop 1) = false by rw [← hold.out, hst.out]; simp [show ¬ y0 < y1 by omega])
                have s1i : ((y1 : Nat) : Int) ≤ ((y0 : Nat) : Int) := by omega
                have s1d : decide (((y1 : Nat) : Int) ≤ ((y0 : Nat) : Int)) = true := decide_eq_true s1i
                have w2 : (0 : Int) ≤ (j : Int) + 1 - 1 := by omega
                have w3 : ((j : Int) + 1 - 1).toNat = j := by omega
                have w4 : ((j : Int) + 1).toNat = j + 1 := by omega
                have w5 : (j : Int) + 1 - 1 < (m : Int) + 1 := by omega
                have w6 : (j : Int) + 1 < (m : Int) + 1 := by omega
                have w7 : (0 : Int) ≤ (j : Int) + 1 := by omega
                have w8 : -9223372036854775808 ≤ (j : Int) + 1 - 1 ∧ (j : Int) + 1 - 1 < 9223372036854775808 := by omega
                have w1 := IntWalk.i64_in ((j : Int) + 1 - 1) (by first | exact w8 | omega)
                clear hy1 w8
                go_wp2
                go_quiet (fail)
                go_wp2
                go_ret
                exact ⟨ret_bool (HR.out.trans HF.out).symm, _, World.drewN_drewN _ _ _⟩
              · have s1i : ¬ ((y1 : Nat) : Int) ≤ ((y0 : Nat) : Int) := by omega
                have s1d : decide (((y1 : Nat) : Int) ≤ ((y0 : Nat) : Int)) = false := decide_eq_false s1i
                have w2 : (0 : Int) ≤ (j : Int) + 1 - 1 := by omega
                have w3 : ((j : Int) + 1 - 1).toNat = j := by omega
                have w4 : ((j : Int) + 1).toNat = j + 1 := by omega
                have w5 : (j : Int) + 1 - 1 < (m : Int) + 1 := by omega
                have w6 : (j : Int) + 1 < (m : Int) + 1 := by omega
                have w7 : (0 : Int) ≤ (j : Int) + 1 := by omega
                have w8 : -9223372036854775808 ≤ (j : Int) + 1 - 1 ∧ (j : Int) + 1 - 1 ≤ 9223372036854775807 := by omega
                have w9 : -9223372036854775808 ≤ ((y1 : Nat) : Int) - ((y0 : Nat) : Int) ∧ ((y1 : Nat) : Int) - ((y0 : Nat) : Int) ≤ 9223372036854775807 := by omega
                have wa : Int.tmod (((y1 : Nat) : Int) - ((y0 : Nat) : Int)) 2 = (((y1 : Nat) : Int) - ((y0 : Nat) : Int)) % 2 := Int.tmod_eq_emod_of_nonneg (by omega)
                by_cases s2 : (y1 - y0) % 2 = 0
                · have HF := hid (show chn x0 (d.drop 1) = false by rw [← hold.out, hst.out]; simp [show y0 < y1 by omega, show y1 % 2 = y0 % 2 by omega])
                  have s2d : ((((y1 : Nat) : Int) - ((y0 : Nat) : Int)) % 2 == 0) = true := by simp; omega
                  have wb := IntWalk.i64_in _ w8
                  have wc := IntWalk.i64_in _ w9
                  clear hy1 w8 w9
                  go_wp2
                  go_quiet (fail)
                  go_wp2
                  go_ret
                  exact ⟨ret_bool (HR.out.trans HF.out).symm, _, World.drewN_drewN _ _ _⟩
                · have HF := hid (show ∀ (hk : j + 2 - 1 < d.length), chn d[j + 2 - 1] (d.drop (j + 2)) = chn x0 (d.drop 1) from fun hk => by
                    rw [← hold.out, hst.out]
                    simp only [show j + 2 - 1 = j + 1 by omega, ← hy1]
                    simp [show y0 < y1 by omega, show ¬ y1 % 2 = y0 % 2 by omega])
                  have s2d : ((((y1 : Nat) : Int) - ((y0 : Nat) : Int)) % 2 == 0) = false := by simp; omega
                  have HM := hid (show j + 2 ≤ m + 1 ∧ 1 ≤ j + 2 ∧ m + 1 - (j + 2) < m + 1 - (j + 1) by omega)
                  have wb := IntWalk.i64_in _ w8
                  have wc := IntWalk.i64_in _ w9
                  clear hy1 w8 w9
                  go_wp2
                  go_quiet (fail)
                  go_wp2
                  go_roundg (m + 1 - (j + 2))
                  case measure => exact HM.out.2.2
                  case rel => exact ⟨j + 2, _, HM.out.2.1, HM.out.1, rfl, by go_num, HF, by first | rfl | exact World.drewN_drewN _ _ _⟩
            · obtain rfl : j = m := Nat.le_antisymm (Nat.le_of_succ_le_succ hk) (Nat.le_of_not_lt hlt)
              have HX := hid (hh.out h1)
              simp only [Nat.add_sub_cancel] at HX
              have E := HX.out
              rw [List.drop_of_length_le (Nat.le_of_eq hl.out)] at E
              have E2 := hid (show chn x0 (d.drop 1) = true from E.symm)
              clear E HX hh
              go_wp2
              go_ret
              exact ⟨ret_bool (HR.out.trans E2.out).symm, _, rfl⟩
        · have HR := hid (show arePl n d = false by rw [HP.out]; simp [t4])
          have z4 : ((n : Int) < ((x1 : Nat) : Int)) := by omega
          go_enter Tryz.func60, Tryz.ntmps60
          go_wp2
          go_ret
          exact ⟨ret_bool HR.out.symm, 0, rfl⟩
      · have HR := hid (show arePl n d = false by rw [HP.out]; simp [t3])
        have z3 : (((x1 : Nat) : Int) % 2 != (n : Int) % 2) = true := by simp; omega
        go_enter Tryz.func60, Tryz.ntmps60
        go_wp2
        go_ret
        exact ⟨ret_bool HR.out.symm, 0, rfl⟩
theorem isStage_no (n : Int) (h : ¬ (3 ≤ n ∧ n ≤ 8)) : (decide (3 ≤ n) && decide (n ≤ 8)) = false := by simp; omega
theorem goodChange_no (n : Int) (c : List UInt8) (w : World) (h : ¬ (3 ≤ n ∧ n ≤ 8)) :
    Calls Tryz.prog 37 #[.int .i64 n, .string (bs c)] w fun e w' => e = .returned (.bool (okChange n c)) ∧ w = w' := by
  have HR := hid (okChange_no n c h)
  have hd := isStage_no n h
  clear h
  go_enter Tryz.func37, Tryz.ntmps37
  go_wp2_with (go_at_call 58; refine (isStage_any _ _).mono ?_; rintro e w' ⟨rfl, rfl⟩; rw [hd])
  go_ret
  rw [HR.out]
  exact ⟨rfl, rfl⟩
theorem digI_nat (c : List UInt8) (h : allDig c = true) : digI c = natI (digs c) := by
  simp only [digI, natI, digs, List.map_map]
  apply List.map_congr_left
  intro x hx
  have := List.all_eq_true.1 h x hx
  simp at this
  simp only [Function.comp]
  omega
theorem digs_bd (c : List UInt8) (h : allDig c = true) : ∀ x ∈ digs c, 1 ≤ x ∧ x ≤ 8 := by
  intro x hx
  obtain ⟨y, hy, rfl⟩ := List.mem_map.1 hx
  have := List.all_eq_true.1 h y hy
  simp at this
  omega
theorem goodChange_any (n : Int) (c : List UInt8) (w : World) (wn : (Lit.int .i64 n).wf = true) (hc : c.length ≤ 1048576) :
    Calls Tryz.prog 37 #[.int .i64 n, .string (bs c)] w fun e w' => e = .returned (.bool (okChange n c)) ∧ Below w.heap.size w w' := by
  by_cases hs : 3 ≤ n ∧ n ≤ 8
  · obtain ⟨h3, h8⟩ := hs
    obtain ⟨m, rfl⟩ := Int.eq_ofNat_of_zero_le (show 0 ≤ n by omega)
    have hd : (decide (3 ≤ (m : Int)) && decide ((m : Int) ≤ 8)) = true := by simp; omega
    by_cases h1 : c = [45]
    · subst h1
      have HR := hid (okChange_dash (m : Int) h3 h8)
      have hnn : (0 : Int) ≤ (m : Int) := by omega
      have htm : Int.tmod (m : Int) 2 = (m : Int) % 2 := Int.tmod_eq_emod_of_nonneg hnn
      go_enter Tryz.func37, Tryz.ntmps37
      go_wp2_with (go_at_call 58; refine (isStage_any _ _).mono ?_; rintro e w' ⟨rfl, rfl⟩; rw [hd])
      go_ret
      rw [HR.out]
      exact ⟨ret_bool (by first | rfl | (rw [Bool.eq_iff_iff, beq_iff_eq, decide_eq_true_eq]) | (simp)), Below.refl _ _⟩
    · have b1 : (c == [45]) = false := by simpa using h1
      have HP := hid (okChange_pl m c (by omega) (by omega) h1)
      have PL := fun w0 => hid (places_any c w0 hc)
      cases ha : allDig c
      · have HR := hid (show okChange m c = false by rw [HP.out, ha]; rfl)
        have PR : placesR c = ([], false) := by unfold placesR; rw [ha]; rfl
        rw [PR] at PL
        clear PR h1 ha
        go_enter Tryz.func37, Tryz.ntmps37
        go_wp2_with fail
        refine (isStage_any _ _).mono ?_
        rw [hd]
        rintro e w' ⟨rfl, rfl⟩
        go_wp2_with fail
        refine (PL _).out.mono ?_
        rintro e w1 ⟨v1, rfl, o1, b1'⟩
        obtain ⟨A1, c1, rfl, _⟩ := own_shape o1
        go_wp2
        go_ret
        exact ⟨ret_bool HR.out.symm, b1'⟩
      · have HR := hid (show okChange m c = arePl m (digs c) by rw [HP.out, ha]; rfl)
        have PR : placesR c = (natI (digs c), true) := by unfold placesR; rw [ha, digI_nat c ha]; rfl
        rw [PR] at PL
        have DB := hid (digs_bd c ha)
        have hdl : (natI (digs c)).length = c.length := by rw [natI_len]; simp [digs]
        clear PR ha
        have key : ∀ (A : Option Addr) (c1 : Nat) (w0 : World), Rd w0 A c.length (intV (natI (digs c))) → Hid (Calls Tryz.prog 60 #[.int .i64 m, .slice A c.length c1] w0 (DrewB w0 (arePl m (digs c)))) := by
          intro A c1 w0 rd
          rcases Nat.eq_zero_or_pos c.length with h0 | h0
          · have e0 : c = [] := List.eq_nil_of_length_eq_zero h0
            subst e0
            exact hid ((arePlaces_nil m A c1 w0).mono fun e w' h => ⟨h.1.trans (ret_bool (by simp [arePl, digs])), 0, h.2.symm⟩)
          · obtain ⟨j, hj⟩ : ∃ j, c.length = j + 1 := ⟨c.length - 1, by omega⟩
            rw [hj] at rd ⊢
            exact hid (arePlaces_pos m j c1 A (digs c) w0 rd DB.out (by omega) (by omega))
        have HDL := hid hdl
        clear hdl h1
        go_enter Tryz.func37, Tryz.ntmps37
        go_wp2_with fail
        refine (isStage_any _ _).mono ?_
        rw [hd]
        rintro e w' ⟨rfl, rfl⟩
        go_wp2_with fail
        refine (PL _).out.mono ?_
        rintro e w1 ⟨v1, rfl, o1, b1'⟩
        dsimp only at o1
        rw [HDL.out] at o1
        obtain ⟨A1, c1, rfl, _, _, rd1, _⟩ := own_shape o1
        go_wp2_with fail
        refine (key A1 c1 _ rd1).out.mono ?_
        rintro e w2 ⟨rfl, q, rfl⟩
        go_wp2
        go_ret
        exact ⟨ret_bool HR.out.symm, below_drewN b1' q⟩
  · exact (goodChange_no n c w hs).mono fun e w' h => ⟨h.1, by rw [← h.2]; exact Below.refl _ _⟩
end Go.Proofs.YtihaopijnkiafaaGreatDoor
