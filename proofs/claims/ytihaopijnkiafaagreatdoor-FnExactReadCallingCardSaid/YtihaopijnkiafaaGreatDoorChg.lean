/- Contracts of the row that a change makes of rounds, in the reference and in the program. No conditions beyond those stated. -/
import Derived.Test.YtihaopijnkiafaaGreatDoorChgP
import Derived.Test.YtihaopijnkiafaaGreatDoorBytes
import Derived.Test.YtihaopijnkiafaaGreatDoorRow2
import Derived.Test.YtihaopijnkiafaaGreatDoorTurnR
import Derived.Test.YtihaopijnkiafaaGreatDoorShelf
import Derived.RegionTactic
import Derived.ChangeAlike
set_option linter.unusedVariables false
set_option linter.unusedSimpArgs false
set_option maxRecDepth 100000
namespace Go.Proofs.YtihaopijnkiafaaGreatDoor
open Go.RowKit

theorem l2Stays_any (c : List UInt8) (p : Nat) (w : World) (hc : c.length ≤ 1048576) (hp : p ≤ 1000) :
    Calls Tryz.prog 88 #[.string (bs c), .int .i64 p] w fun e w' => e = .returned (.bool (stays c p)) ∧ w = w' := by
  go_enter Tryz.func88, Tryz.ntmps88
  go_wp2
  go_loopg [5] c.length (fun gk v wr => ∃ k : Nat, k ≤ c.length ∧ gk = c.length - k ∧ v = .int .i64 k ∧ Hid (∀ (j : Nat) (hj : j < c.length), j < k → c[j].toNat ≠ 48 + p) ∧ w = wr)
  case atStart => exact ⟨0, by omega, by omega, rfl, hid (fun j hj h => by omega), rfl⟩
  case round =>
    obtain ⟨k, hk, rfl, rfl, hall, rfl⟩ := hrel
    by_cases hlt : k < c.length
    · have hu := UInt8.toNat_lt c[k]
      by_cases h1 : c[k].toNat = 48 + p
      · have HR := hid (stays_not c p k hlt h1)
        have hb : ((c[k].toNat : Int) - 48 == (p : Int)) = true := by simp; omega
        clear h1
        go_wp2
        go_ret
        exact ⟨ret_bool HR.out.symm, rfl⟩
      · have hb : ((c[k].toNat : Int) - 48 == (p : Int)) = false := by simp; omega
        have HX : ∀ (j : Nat) (hj : j < c.length), j < k + 1 → c[j].toNat ≠ 48 + p := fun j hj hjk => by
          by_cases e : j = k
          · subst e; exact h1
          · exact hall.out j hj (by omega)
        have HXX := hid HX
        clear HX h1
        go_wp2
        go_roundg (c.length - (k + 1))
        case measure => omega
        case rel => exact ⟨k + 1, by omega, rfl, by go_num, HXX, rfl⟩
    · obtain rfl : k = c.length := by omega
      have HR := hid (stays_no c p fun j hj => hall.out j hj hj)
      go_wp2
      go_ret
      exact ⟨ret_bool HR.out.symm, rfl⟩

theorem l2Row_any (n : Nat) (c : List UInt8) (w : World) (lo : 3 ≤ n) (hi : n ≤ 8) (hc : c.length ≤ 1048576) :
    Calls Tryz.prog 75 #[.int .i64 n, .string (bs c)] w fun e w' => e = .returned (.string (bs (chRowL n c))) ∧ Below w.heap.size w w' := by
  obtain ⟨cap, W, hcv, hrow, hbW, hWs, hcap⟩ := row_of_string (P := Tryz.prog) w 9 64 5 (roundsL n) Tryz.underlying9 Tryz.underlying64 Tryz.underlying5
  rw [rounds_len] at hcv hcap
  have HROW := hid hrow
  have HBW := hid hbW
  have HR := fun w0 => hid (l1Rounds_any n w0 hi)
  clear hrow hbW hWs
  go_enter Tryz.func75, Tryz.ntmps75
  go_wp2_with fail
  refine (HR _).out.mono ?_
  rintro e w0 ⟨rfl, rfl⟩
  go_wp2
  go_loopg [6] n (fun gk v wr => ∃ (q : Nat) (l : List UInt8), q ≤ n ∧ gk = n - q ∧ v = .int .i64 ((q : Int) + 1) ∧ Hid (chW n c q l) ∧ Row wr w.heap.size (bytesV l) ∧ Below w.heap.size w wr)
  case atStart => exact ⟨0, roundsL n, by omega, by omega, rfl, chW_zero n c, HROW.out, HBW.out⟩
  case round =>
    obtain ⟨q, l, hq, rfl, rfl, hcw, hro, hbe⟩ := hrel
    have hlen := chW_len hcw.out hq
    by_cases hlt : q + 1 < n
    · have hST := fun w0 => hid (l2Stays_any c (q + 1) w0 hc (by omega))
      have ec : (((q + 1 : Nat) : Int)) = (q : Int) + 1 := by omega
      rw [ec] at hST
      clear ec
      cases hs : stays c (q + 1)
      · rw [hs] at hST
        have hj0 : q < (bytesV l).length := by rw [bytesV_len, hlen]; omega
        have hcc := hro.cell hj0
        have hff := hro.frozen hj0
        have hr1 := hro.set_ hj0 (.int .u8 (49 + ((q : Int) + 1 - 1 + 1)))
        rw [show (49 : Int) + ((q : Int) + 1 - 1 + 1) = 49 + ((q : Int) + 1) by omega] at hr1
        have hj1 : q + 1 < ((bytesV l).set q (.int .u8 (49 + ((q : Int) + 1)))).length := by rw [List.length_set, bytesV_len, hlen]; omega
        have hcc1 := hr1.cell hj1
        have hff1 := hr1.frozen hj1
        have hr2 := hr1.set_ hj1 (.int .u8 (48 + ((q : Int) + 1)))
        have hv1 : 49 + ((q : Int) + 1) = ((b49 (q + 1)).toNat : Int) := by rw [b49_val (q + 1) (by omega)]; omega
        have hv0 : 48 + ((q : Int) + 1) = ((b49 q).toNat : Int) := by rw [b49_val q (by omega)]; omega
        have HV := hid (And.intro hv1 hv0)
        clear hv1 hv0
        obtain ⟨old0, ho0⟩ : ∃ u, (bytesV l)[q] = u := ⟨_, rfl⟩
        rw [ho0] at hcc
        obtain ⟨old1, ho1⟩ : ∃ u, ((bytesV l).set q (.int .u8 (49 + ((q : Int) + 1))))[q + 1] = u := ⟨_, rfl⟩
        rw [ho1] at hcc1
        clear ho0 ho1
        have HR2 := hid hr2
        have wk1 : IntKind.u8.wrap (49 + ((q : Int) + 1)) = 49 + ((q : Int) + 1) := by rw [IntKind.wrap_u8]; omega
        have wk0 : IntKind.u8.wrap (48 + ((q : Int) + 1)) = 48 + ((q : Int) + 1) := by rw [IntKind.wrap_u8]; omega
        have i1 : (q : Int) + 1 < (n : Int) := by omega
        have i0 : (q : Int) < (n : Int) := by omega
        have HCW := hid (chW_swap hcw.out hlt hs)
        have HBE := hid hbe
        clear hr1 hr2 hbe hro
        go_wp2_with fail
        refine (hST _).out.mono ?_
        rintro e w2 ⟨rfl, rfl⟩
        go_wp2
        go_roundg (n - (q + 2))
        case measure => omega
        case rel =>
          have h1 := HR2.out
          rw [show ((bytesV l).set q (.int .u8 (49 + ((q : Int) + 1)))).set (q + 1) (.int .u8 (48 + ((q : Int) + 1))) = bytesV ((l.set q (b49 (q + 1))).set (q + 1) (b49 q)) by rw [HV.out.1, HV.out.2, bytesV_set, bytesV_set]] at h1
          exact ⟨q + 2, _, by omega, rfl, by go_num, HCW, h1, (HBE.out.setCell (Nat.le_refl _) _).setCell (Nat.le_refl _) _⟩
      · rw [hs] at hST
        have HCW := hid (chW_stay hcw.out hlt hs)
        clear hs
        go_wp2_with fail
        refine (hST _).out.mono ?_
        rintro e w2 ⟨rfl, rfl⟩
        go_wp2
        go_roundg (n - (q + 1))
        case measure => omega
        case rel => exact ⟨q + 1, l, by omega, rfl, by go_num, HCW, hro, hbe⟩
    · have HE := hid (chW_end hcw.out hlt hq)
      have e := HE.out
      rw [e] at hro hlen
      have hst : (convert 64 9 (.slice (some ⟨w.heap.size, 0, none⟩) n cap)).run Tryz.prog wr = .ok (.string (bs (chRowL n c))) wr := by
        have h2 := string_of_row (P := Tryz.prog) _ 64 9 5 w.heap.size cap _ Tryz.underlying64 Tryz.underlying5 Tryz.underlying9 hro
        rwa [chRow_len] at h2
      have HBE := hid hbe
      clear hro hbe hlen e
      go_wp2
      go_ret
      exact ⟨rfl, HBE.out⟩

/-- A slice of integers comes back; it is the call's own. -/
def OneI (w : World) (l : List Int) (e : Ending) (w' : World) : Prop := ∃ v, e = .returned v ∧ w'.ownsRow w.heap.size 3 1 v l.length (intV l) ∧ Below w.heap.size w w'
/-- The places that stay in a change. -/
def stayL (c : List UInt8) : List Nat := if c = [45] then [] else digs c
theorem stayL_has {n : Int} {c : List UInt8} (h : okChange n c = true) (p : Nat) : (natI (stayL c)).contains (p : Int) = stays c p := by
  unfold stayL
  split
  · rename_i e
    subst e
    rw [stays_dash]; rfl
  · rename_i e
    exact contains_stays c p (okChange_dig h e)
theorem stayL_len {n : Int} {c : List UInt8} (h : okChange n c = true) : (stayL c).length ≤ 8 := by
  unfold stayL
  split
  · simp
  · have := okChange_len h
    simpa [digs] using this
theorem placesOf_any (n : Int) (c : List UInt8) (w : World) (h : okChange n c = true) :
    Calls Tryz.prog 115 #[.string (bs c)] w (OneI w (natI (stayL c))) := by
  by_cases h1 : c = [45]
  · subst h1
    go_enter Tryz.func115, Tryz.ntmps115
    go_wp2
    go_ret
    exact ⟨_, rfl, own_of_blk (Blk.new _ _ #[]) (Nat.le_refl _) (by simp [maxLen]), (Below.refl _ _).alloc (Nat.le_refl _) _⟩
  · have b1 : (c == [45]) = false := by simpa using h1
    have hd := okChange_dig h h1
    have PL := fun w0 => hid (places_any c w0 (by have := okChange_len h; omega))
    have PR : placesR c = (natI (digs c), true) := by unfold placesR; rw [hd, digI_nat c hd]; rfl
    rw [PR] at PL
    have HR := hid (show stayL c = digs c from if_neg h1)
    clear PR h1 hd h
    go_enter Tryz.func115, Tryz.ntmps115
    go_wp2_with fail
    refine (PL _).out.mono ?_
    rintro e w1 ⟨v1, rfl, o1, b1'⟩
    obtain ⟨A1, c1, rfl, _⟩ := own_shape o1
    go_wp2
    go_ret
    rw [HR.out]
    exact ⟨_, rfl, o1, b1'⟩
theorem containsInt_any (A : Option Addr) (n c : Nat) (l : List Int) (x : Int) (w : World) (hr : Rd w A n (intV l)) (hn : n ≤ 1048576) :
    Calls Tryz.prog 116 #[.slice A n c, .int .i64 x] w fun e w' => e = .returned (.bool (l.contains x)) ∧ w = w' := by
  have hl : l.length = n := by have := hr.1; rw [intV_len] at this; exact this
  rcases Nat.eq_zero_or_pos n with h0 | h0
  · subst h0
    have e : l = [] := List.eq_nil_of_length_eq_zero hl
    subst e
    exact (Tryz.slices_Contains_int_empty A c x w).mono fun e w' h => ⟨h.1, h.2.symm⟩
  · obtain ⟨b, o, rfl, hc⟩ := hr.2 h0
    refine (Tryz.slices_Contains_int b o n c l x w (by omega) (by omega) (fun j hj => ?_)).mono fun e w' h => ⟨?_, h.2.symm⟩
    · refine hc j _ ?_
      rw [intV, List.getElem?_map, List.getElem?_eq_getElem hj]
      simp [List.getD, hj]
    · rw [List.take_of_length_le (by omega)] at h
      exact h.1
theorem swapsOf_any (n : Nat) (c : List UInt8) (w : World) (h : okChange n c = true) :
    Calls Tryz.prog 107 #[.int .i64 n, .string (bs c)] w (OneI w (natI (swapsR n c n))) := by
  have hst8 := stayL_len h
  have HHAS := hid (stayL_has h)
  have PL := fun w0 => hid (placesOf_any n c w0 h)
  have hn8 : n ≤ 8 := by
    have := okChange_no (n : Int) c
    apply Classical.byContradiction
    intro h2
    rw [this (by omega)] at h; cases h
  clear h
  go_enter Tryz.func107, Tryz.ntmps107
  go_wp2_with fail
  refine (PL _).out.mono ?_
  rintro e w1 ⟨v1, rfl, o1, b1⟩
  rw [natI_len] at o1
  obtain ⟨A1, c1, rfl, _, _, rd1, _⟩ := own_shape o1
  have RS := hid rd1
  have HB1 := hid b1
  have HS1 := b1.size
  clear rd1 o1 b1
  go_wp2
  go_loopg [6, 7] n (fun gk u v wr => ∃ (q : Nat) (D : List Nat), q ≤ n ∧ gk = n - q ∧ v = .int .i64 ((q : Int) + 1) ∧ Hid (D ++ swapsR n c (n - q) = swapsR n c n) ∧ wr.ownsRow w1.heap.size 3 1 u D.length (intV (natI D)) ∧ Below w1.heap.size w1 wr)
  case atStart => exact ⟨0, [], by omega, by omega, rfl, hid (by simp), own_of_blk (Blk.new _ _ #[]) (Nat.le_refl _) (by simp [maxLen]), (Below.refl _ _).alloc (Nat.le_refl _) _⟩
  case round =>
    obtain ⟨q, D, hq, rfl, rfl, hD, ho, hb⟩ := hrel
    have hDl : D.length ≤ n := by
      have h1 := congrArg List.length hD.out
      have h2 := swapsR_len n c n
      rw [List.length_append] at h1
      omega
    by_cases hlt : q + 1 < n
    · have hCT := hid (containsInt_any A1 (stayL c).length c1 (natI (stayL c)) ((q : Int) + 1) wr (RS.out.below hb) (by omega))
      have e1 := HHAS.out (q + 1)
      rw [show (((q + 1 : Nat)) : Int) = (q : Int) + 1 by omega] at e1
      rw [e1] at hCT
      have HO := hid ho
      have HB := hid hb
      have HBs := hb.size
      clear ho hb e1
      cases hs : stays c (q + 1)
      · rw [hs] at hCT
        have hst := hid (swapsR_swap n c q hlt hs)
        have hD2 := hid (show (D ++ [q + 1]) ++ swapsR n c (n - (q + 2)) = swapsR n c n by rw [← hD.out, hst.out, List.append_assoc]; rfl)
        have e2 : intV (natI D) ++ [.int .i64 ((q : Int) + 1)] = intV (natI (D ++ [q + 1])) := by simp [intV, natI]
        have E2 := hid e2
        clear hs e2
        go_wp2_with fail
        refine hCT.out.mono ?_
        rintro e w' ⟨rfl, rfl⟩
        go_wp2_with (at_builtin; refine app_int _ (by rfl) _ _ (by rfl) w1.heap.size _ _ _ (by rfl) (HO.out.alloc _) (some ⟨wr.heap.size, 0, none⟩) 1 1 [(q : Int) + 1] (by rfl) (Rd.blk _ [.int .i64 ((q : Int) + 1)] _) (by omega) (by simp; omega) ?_; intro v5 w5 o5 g5)
        go_roundg (n - (q + 2))
        case measure => omega
        case rel =>
          rw [show natI D ++ [(q : Int) + 1] = natI (D ++ [q + 1]) by simp [natI]] at o5
          exact ⟨q + 2, D ++ [q + 1], by omega, rfl, by go_num, hD2, by rw [List.length_append]; exact o5, (HB.out.alloc (by omega) _).grown g5 (by simp; omega) fun q hq => (HO.out.lt q hq).1⟩
      · rw [hs] at hCT
        have hst := hid (swapsR_stay n c q hlt hs)
        have hD2 := hid (show D ++ swapsR n c (n - (q + 1)) = swapsR n c n by rw [← hD.out, hst.out])
        clear hs
        go_wp2_with fail
        refine hCT.out.mono ?_
        rintro e w' ⟨rfl, rfl⟩
        go_wp2
        go_roundg (n - (q + 1))
        case measure => omega
        case rel => exact ⟨q + 1, D, by omega, rfl, by go_num, hD2, HO.out, HB.out⟩
    · have hst := hid (swapsR_last n c q hlt)
      have hD2 := hid (show D = swapsR n c n by rw [← hD.out, hst.out, List.append_nil])
      obtain ⟨A2, c2, rfl, _⟩ := own_shape ho
      have HO := hid ho
      have HB := hid hb
      clear ho hb
      go_wp2
      go_ret
      rw [← hD2.out]
      exact ⟨_, rfl, own_mono (by rw [natI_len]; exact HO.out) HS1, HB1.out.trans (HB.out.mono HS1)⟩

theorem Rd.setFar {w : World} {A : Option Addr} {n : Nat} {xs : List Value} {p : Addr} (h : Rd w A n xs) (hne : ∀ b o, A = some ⟨b, o, none⟩ → p.block ≠ b) (u : Value) : Rd (w.setCell p u) A n xs :=
  ⟨h.1, fun hn => by
    obtain ⟨b, o, e, hc⟩ := h.2 hn
    refine ⟨b, o, e, fun j v hv => ?_⟩
    rw [World.cell?_setCell_other _ _ _ _ (by intro e2; exact hne b o e (by rw [e2]))]
    exact hc j v hv⟩
theorem swaps_take (n : Nat) (c : List UInt8) (l : List Nat) (k : Nat) (h : k < l.length) (r : List UInt8) : swapAll r (l.take (k + 1)) = swap1 (swapAll r (l.take k)) l[k] := by
  rw [List.take_succ_eq_append_getElem h, swapAll, List.foldl_append]; rfl
theorem changeRow_any (n : Nat) (c : List UInt8) (w : World) (h : okChange n c = true) :
    Calls Tryz.prog 97 #[.int .i64 n, .string (bs c)] w fun e w' => e = .returned (.string (bs (chRowL n c))) ∧ Below w.heap.size w w' := by
  have hn8 : n ≤ 8 := by
    have := okChange_no (n : Int) c
    apply Classical.byContradiction
    intro h2
    rw [this (by omega)] at h; cases h
  obtain ⟨cap, W, hcv, hrow, hbW, hWs, hcap⟩ := row_of_string (P := Tryz.prog) w 9 64 5 (roundsL n) Tryz.underlying9 Tryz.underlying64 Tryz.underlying5
  rw [rounds_len] at hcv hcap
  have HROW := hid hrow
  have HBW := hid hbW
  have HWS := hid hWs
  have HR := fun w0 => hid (rounds_any n w0 hn8)
  have SW := fun w0 => hid (swapsOf_any n c w0 h)
  have SBD := hid (fun p hp => swapsR_bd n c n (Nat.le_refl _) p hp)
  have SLN := swapsR_len n c n
  have HSR := hid (swaps_row n c)
  clear hrow hbW hWs h
  obtain ⟨S, hS⟩ : ∃ S, S = swapsR n c n := ⟨_, rfl⟩
  rw [← hS] at SW SBD SLN HSR
  clear hS
  go_enter Tryz.func97, Tryz.ntmps97
  go_wp2_with fail
  refine (HR _).out.mono ?_
  rintro e w0 ⟨rfl, rfl⟩
  go_wp2_with fail
  refine (SW _).out.mono ?_
  rintro e w1 ⟨v1, rfl, o1, b1⟩
  rw [natI_len] at o1
  obtain ⟨A1, c1, rfl, _, _, rd1, hA1⟩ := own_shape o1
  have HFAR := hid (show ∀ b o, A1 = some ⟨b, o, none⟩ → w.heap.size ≠ b from fun b o e => by have h1 := (hA1 b o none e).1; have h2 := HWS.out; omega)
  have RS := hid rd1
  have HR1 := hid (HROW.out.below b1)
  have HB1 := hid (HBW.out.trans (b1.mono HBW.out.size))
  have HS1 := b1.size
  clear rd1 o1 b1 hA1
  go_wp2
  go_loopg [15] S.length (fun gk v wr => ∃ k : Nat, k ≤ S.length ∧ gk = S.length - k ∧ v = .int .i64 k ∧ Rd wr A1 S.length (intV (natI S)) ∧ Row wr w.heap.size (bytesV (swapAll (roundsL n) (S.take k))) ∧ Below w.heap.size w wr)
  case atStart => exact ⟨0, by omega, by omega, rfl, RS.out, HR1.out, HB1.out⟩
  case round =>
    obtain ⟨k, hk, rfl, rfl, hrd, hro, hbe⟩ := hrel
    have hlen : (swapAll (roundsL n) (S.take k)).length = n := by rw [swapAll_len, rounds_len]
    by_cases hlt : k < S.length
    · obtain ⟨b, o, rfl, hk', hc⟩ := hrd.nat hlt
      have hp := SBD.out _ (List.getElem_mem hk')
      have hst := hid (swaps_take n c S k hk' (roundsL n))
      obtain ⟨p, hpe⟩ : ∃ p, S[k] = p + 1 := ⟨S[k] - 1, by omega⟩
      rw [hpe] at hp hc hst
      obtain ⟨L, hL⟩ : ∃ L, L = swapAll (roundsL n) (S.take k) := ⟨_, rfl⟩
      rw [← hL] at hro hlen hst
      have hj0 : p < (bytesV L).length := by rw [bytesV_len, hlen]; omega
      have hj1 : p + 1 < (bytesV L).length := by rw [bytesV_len, hlen]; omega
      have hcc0 := hro.cell hj0
      have hcc1 := hro.cell hj1
      have hff0 := hro.frozen hj0
      have hff1 := hro.frozen hj1
      have HRO := hid hro
      have HRD := hid hrd
      have HBE := hid hbe
      have i0 : (0 : Int) ≤ (p : Int) := by omega
      have i1 : (p : Int) + 1 < (n : Int) := by omega
      have i2 : (k : Int) < (S.length : Int) := by omega
      have i3 : (p : Int) + 1 - 1 = (p : Int) := by omega
      have i4 : (0 : Int) ≤ (p : Int) + 1 := by omega
      have i5 : (p : Int) < (n : Int) := by omega
      have i6 : ((p : Int) + 1).toNat = p + 1 := by omega
      have i7 := IntWalk.i64_in (p : Int) (by omega)
      clear hL hro hrd hbe hpe
      go_wp2
      go_region
      all_goals
        go_wp2
        go_roundg (S.length - (k + 1))
        case measure => omega
        case rel =>
          have h1 := HRO.out.set_ hj0 (.int .u8 (L[p + 1].toNat : Int))
          have hj1' : p + 1 < ((bytesV L).set p (.int .u8 (L[p + 1].toNat : Int))).length := by rw [List.length_set]; exact hj1
          have h2 := h1.set_ hj1' (.int .u8 (L[p].toNat : Int))
          rw [bytesV_set, bytesV_set] at h2
          have e5 : swap1 L (p + 1) = (L.set p L[p + 1]).set (p + 1) L[p] := by
            have q1 : p + 1 < L.length := by omega
            have q0 : p < L.length := by omega
            simp [swap1, List.getD, q1, q0]
          rw [← e5, ← hst.out] at h2
          exact ⟨k + 1, by omega, rfl, by go_num, ((HRD.out.setFar (p := ⟨w.heap.size, p, none⟩) HFAR.out _).setFar (p := ⟨w.heap.size, p + 1, none⟩) HFAR.out _).drewN 1, h2.drewN 1, ((HBE.out.setCell (p := ⟨w.heap.size, p, none⟩) (Nat.le_refl _) _).setCell (p := ⟨w.heap.size, p + 1, none⟩) (Nat.le_refl _) _).drew⟩
    · obtain rfl : k = S.length := by omega
      rw [List.take_length, HSR.out] at hro
      have hst : (convert 64 9 (.slice (some ⟨w.heap.size, 0, none⟩) n cap)).run Tryz.prog wr = .ok (.string (bs (chRowL n c))) wr := by
        have h2 := string_of_row (P := Tryz.prog) _ 64 9 5 w.heap.size cap _ Tryz.underlying64 Tryz.underlying5 Tryz.underlying9 hro
        rwa [chRow_len] at h2
      have HBE := hid hbe
      clear hro hbe hlen hrd
      go_wp2
      go_ret
      exact ⟨rfl, HBE.out⟩
end Go.Proofs.YtihaopijnkiafaaGreatDoor
