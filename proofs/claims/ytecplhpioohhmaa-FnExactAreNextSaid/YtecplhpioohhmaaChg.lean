/- Contracts of the row that a change makes of rounds, in the reference and in the program. No conditions beyond those stated. -/
import Derived.Test.YtecplhpioohhmaaChgP
import Derived.Test.YtecplhpioohhmaaBytes
import Derived.Test.YtecplhpioohhmaaRow2
import Derived.Test.YtecplhpioohhmaaTurnR
import Derived.Test.YtecplhpioohhmaaShelf
import Derived.RegionTactic
import Derived.ChangeAlike
set_option linter.unusedVariables false
set_option linter.unusedSimpArgs false
set_option maxRecDepth 100000
namespace Go.Proofs.Ytecplhpioohhmaa
open Go.RowKit

theorem l2Stays_any (c : List UInt8) (p : Nat) (w : World) (hc : c.length ≤ 1048576) (hp : p ≤ 1000) :
    Calls Try.prog 130 #[.string (bs c), .int .i64 p] w fun e w' => e = .returned (.bool (stays c p)) ∧ w = w' := by
  go_enter Try.func130, Try.ntmps130
  go_wp2
  go_loopg [5] c.length (fun gk v wr => ∃ k : Nat, k ≤ c.length ∧ gk = c.length - k ∧ v = .int .i64 k ∧ Hid (∀ (j : Nat) (hj : j < c.length), j < k → c[j].toNat ≠ 48 + p) ∧ w = wr)
  case atStart => exact ⟨0, by omega, by omega, rfl, hid (fun j hj h => by omega), rfl⟩
  case round =>
    obtain ⟨k, hk, rfl, rfl, hall, rfl⟩ := hrel
    by_cases hlt : k < c.length
    · have hu := UInt8.toNat_lt c[k]
      by_cases h1 : c[k].toNat = 48 + p
      · have HR := hid (stays_not c p k hlt h1)
        have hb : ((c[k].toNat : Int) - 48 == (p : Int)) = true := by simp; omega
        clear h1
        go_wp2
        go_ret
        exact ⟨ret_bool HR.out.symm, rfl⟩
      · have hb : ((c[k].toNat : Int) - 48 == (p : Int)) = false := by simp; omega
        have HX : ∀ (j : Nat) (hj : j < c.length), j < k + 1 → c[j].toNat ≠ 48 + p := fun j hj hjk => by
          by_cases e : j = k
          · subst e; exact h1
          · exact hall.out j hj (by omega)
        have HXX := hid HX
        clear HX h1
        go_wp2
        go_roundg (c.length - (k + 1))
        case measure => omega
        case rel => exact ⟨k + 1, by omega, rfl, by go_num, HXX, rfl⟩
    · obtain rfl : k = c.length := by omega
      have HR := hid (stays_no c p fun j hj => hall.out j hj hj)
      go_wp2
      go_ret
      exact ⟨ret_bool HR.out.symm, rfl⟩

theorem l2Row_any (n : Nat) (c : List UInt8) (w : World) (lo : 3 ≤ n) (hi : n ≤ 8) (hc : c.length ≤ 1048576) :
    Calls Try.prog 116 #[.int .i64 n, .string (bs c)] w fun e w' => e = .returned (.string (bs (chRowL n c))) ∧ Below w.heap.size w w' := by
  obtain ⟨cap, W, hcv, hrow, hbW, hWs, hcap⟩ := row_of_string (P := Try.prog) w 9 81 5 (roundsL n) Try.underlying9 Try.underlying81 Try.underlying5
  rw [rounds_len] at hcv hcap
  have HROW := hid hrow
  have HBW := hid hbW
  have HR := fun w0 => hid (l1Rounds_any n w0 hi)
  clear hrow hbW hWs
  go_enter Try.func116, Try.ntmps116
  go_wp2_with fail
  refine (HR _).out.mono ?_
  rintro e w0 ⟨rfl, rfl⟩
  go_wp2
  go_loopg [6] n (fun gk v wr => ∃ (q : Nat) (l : List UInt8), q ≤ n ∧ gk = n - q ∧ v = .int .i64 ((q : Int) + 1) ∧ Hid (chW n c q l) ∧ Row wr w.heap.size (bytesV l) ∧ Below w.heap.size w wr)
  case atStart => exact ⟨0, roundsL n, by omega, by omega, rfl, chW_zero n c, HROW.out, HBW.out⟩
  case round =>
    obtain ⟨q, l, hq, rfl, rfl, hcw, hro, hbe⟩ := hrel
    have hlen := chW_len hcw.out hq
    by_cases hlt : q + 1 < n
    · have hST := fun w0 => hid (l2Stays_any c (q + 1) w0 hc (by omega))
      have ec : (((q + 1 : Nat) : Int)) = (q : Int) + 1 := by omega
      rw [ec] at hST
      clear ec
      cases hs : stays c (q + 1)
      · rw [hs] at hST
        have hj0 : q < (bytesV l).length := by rw [bytesV_len, hlen]; omega
        have hcc := hro.cell hj0
        have hff := hro.frozen hj0
        have hr1 := hro.set_ hj0 (.int .u8 (49 + ((q : Int) + 1 - 1 + 1)))
        rw [show (49 : Int) + ((q : Int) + 1 - 1 + 1) = 49 + ((q : Int) + 1) by omega] at hr1
        have hj1 : q + 1 < ((bytesV l).set q (.int .u8 (49 + ((q : Int) + 1)))).length := by rw [List.length_set, bytesV_len, hlen]; omega
        have hcc1 := hr1.cell hj1
        have hff1 := hr1.frozen hj1
        have hr2 := hr1.set_ hj1 (.int .u8 (48 + ((q : Int) + 1)))
        have hv1 : 49 + ((q : Int) + 1) = ((b49 (q + 1)).toNat : Int) := by rw [b49_val (q + 1) (by omega)]; omega
        have hv0 : 48 + ((q : Int) + 1) = ((b49 q).toNat : Int) := by rw [b49_val q (by omega)]; omega
        have HV := hid (And.intro hv1 hv0)
        clear hv1 hv0
        obtain ⟨old0, ho0⟩ : ∃ u, (bytesV l)[q] = u := ⟨_, rfl⟩
        rw [ho0] at hcc
        obtain ⟨old1, ho1⟩ : ∃ u, ((bytesV l).set q (.int .u8 (49 + ((q : Int) + 1))))[q + 1] = u := ⟨_, rfl⟩
        rw [ho1] at hcc1
        clear ho0 ho1
        have HR2 := hid hr2
        have wk1 : IntKind.u8.wrap (49 + ((q : Int) + 1)) = 49 + ((q : Int) + 1) := by rw [IntKind.wrap_u8]; omega
        have wk0 : IntKind.u8.wrap (48 + ((q : Int) + 1)) = 48 + ((q : Int) + 1) := by rw [IntKind.wrap_u8]; omega
        have i1 : (q : Int) + 1 < (n : Int) := by omega
        have i0 : (q : Int) < (n : Int) := by omega
        have HCW := hid (chW_swap hcw.out hlt hs)
        have HBE := hid hbe
        clear hr1 hr2 hbe hro
        go_wp2_with fail
        refine (hST _).out.mono ?_
        rintro e w2 ⟨rfl, rfl⟩
        go_wp2
        go_roundg (n - (q + 2))
        case measure => omega
        case rel =>
          have h1 := HR2.out
          rw [show ((bytesV l).set q (.int .u8 (49 + ((q : Int) + 1)))).set (q + 1) (.int .u8 (48 + ((q : Int) + 1))) = bytesV ((l.set q (b49 (q + 1))).set (q + 1) (b49 q)) by rw [HV.out.1, HV.out.2, bytesV_set, bytesV_set]] at h1
          exact ⟨q + 2, _, by omega, rfl, by go_num, HCW, h1, (HBE.out.setCell (Nat.le_refl _) _).setCell (Nat.le_refl _) _⟩
      · rw [hs] at hST
        have HCW := hid (chW_stay hcw.out hlt hs)
        clear hs
        go_wp2_with fail
        refine (hST _).out.mono ?_
        rintro e w2 ⟨rfl, rfl⟩
        go_wp2
        go_roundg (n - (q + 1))
        case measure => omega
        case rel => exact ⟨q + 1, l, by omega, rfl, by go_num, HCW, hro, hbe⟩
    · have HE := hid (chW_end hcw.out hlt hq)
      have e := HE.out
      rw [e] at hro hlen
      have hst : (convert 81 9 (.slice (some ⟨w.heap.size, 0, none⟩) n cap)).run Try.prog wr = .ok (.string (bs (chRowL n c))) wr := by
        have h2 := string_of_row (P := Try.prog) _ 81 9 5 w.heap.size cap _ Try.underlying81 Try.underlying5 Try.underlying9 hro
        rwa [chRow_len] at h2
      have HBE := hid hbe
      clear hro hbe hlen e
      go_wp2
      go_ret
      exact ⟨rfl, HBE.out⟩

/-- A slice of integers comes back; it is the call's own. -/
def OneI (w : World) (l : List Int) (e : Ending) (w' : World) : Prop := ∃ v, e = .returned v ∧ w'.ownsRow w.heap.size 3 1 v l.length (intV l) ∧ Below w.heap.size w w'
/-- The places that stay in a change. -/
def stayL (c : List UInt8) : List Nat := if c = [45] then [] else digs c
theorem stayL_has {n : Int} {c : List UInt8} (h : okChange n c = true) (p : Nat) : (natI (stayL c)).contains (p : Int) = stays c p := by
  unfold stayL
  split
  · rename_i e
    subst e
    rw [stays_dash]; rfl
  · rename_i e
    exact contains_stays c p (okChange_dig h e)
theorem stayL_len {n : Int} {c : List UInt8} (h : okChange n c = true) : (stayL c).length ≤ 8 := by
  unfold stayL
  split
  · simp
  · have := okChange_len h
    simpa [digs] using this
theorem Rd.setFar {w : World} {A : Option Addr} {n : Nat} {xs : List Value} {p : Addr} (h : Rd w A n xs) (hne : ∀ b o, A = some ⟨b, o, none⟩ → p.block ≠ b) (u : Value) : Rd (w.setCell p u) A n xs :=
  ⟨h.1, fun hn => by
    obtain ⟨b, o, e, hc⟩ := h.2 hn
    refine ⟨b, o, e, fun j v hv => ?_⟩
    rw [World.cell?_setCell_other _ _ _ _ (by intro e2; exact hne b o e (by rw [e2]))]
    exact hc j v hv⟩
theorem swaps_take (n : Nat) (c : List UInt8) (l : List Nat) (k : Nat) (h : k < l.length) (r : List UInt8) : swapAll r (l.take (k + 1)) = swap1 (swapAll r (l.take k)) l[k] := by
  rw [List.take_succ_eq_append_getElem h, swapAll, List.foldl_append]; rfl
end Go.Proofs.Ytecplhpioohhmaa
