/- Contracts of the tests that no string occurs twice, in the reference and in the program. No conditions beyond those stated. -/
import Derived.Test.YtnkpbahapaocbaaSet
import Derived.Test.YtnkpbahapaocbaaTrueP
import Derived.Test.YtnkpbahapaocbaaSort6
set_option linter.unusedVariables false
set_option linter.unusedSimpArgs false
set_option maxRecDepth 100000
namespace Go.Proofs.Ytnkpbahapaocbaa
open Go.RowKit

theorem isTrue_any (A : Option Addr) (n c : Nat) (l : List (List UInt8)) (w : World) (hr : Rd w A n (strV l)) (hn : n ≤ 1048576) (hs : ∀ s ∈ l, s.length ≤ 1048576) :
    Calls Try.prog 84 #[.slice A n c] w fun e w' => e = .returned (.bool (trueB l)) ∧ Below w.heap.size w w' := by
  have hl := hid (show l.length = n by have := hr.1; rw [strV_len] at this; exact this)
  have HS := hid hs
  have RS := hid hr
  clear hs hr
  have hmm := @run_makeMap Try.prog
  go_enter Try.func84, Try.ntmps84
  go_wp2
  go_loopg [9] n (fun gk v wr => ∃ k : Nat, k ≤ n ∧ gk = n - k ∧ v = .int .i64 k ∧ Hid (trueB (l.take k) = true) ∧ IsSet wr w.heap.size k (l.take k) ∧ Below w.heap.size w wr)
  case atStart => exact ⟨0, by omega, by omega, rfl, hid (trueB_zero l), isSet_new w, (Below.refl _ _).alloc (Nat.le_refl _) _⟩
  case round =>
    obtain ⟨k, hk, rfl, rfl, hh, ho, hb⟩ := hrel
    by_cases hlt : k < n
    · obtain ⟨b, o, rfl, hj', hc⟩ := (RS.out.below hb).str hlt
      have hsl := HS.out _ (List.getElem_mem hj')
      have HLK := hid (ho.look hsl)
      obtain ⟨hput, hgr, hset⟩ := putS_run ho (by omega) hsl
      have hk0 : (0 : Int) ≤ (k : Int) := by omega
      have hk1 : (k : Int) < (n : Int) := by omega
      have HG := hid hgr
      have HSET := hid hset
      have HB := hid hb
      have HJ := hid hj'
      clear hgr hset hb ho
      cases hm : memB l[k] (l.take k)
      · have HM := hid (trueB_step hj' hh.out hm)
        have hlook : _ = Result.ok (Value.bool false) wr := HLK.out.trans (congrArg (fun b => Result.ok (Value.bool b) wr) hm)
        clear hm
        go_wp2
        go_roundg (n - (k + 1))
        case measure => omega
        case rel => exact ⟨k + 1, by omega, rfl, by go_num, HM, by rw [List.take_succ_eq_append_getElem HJ.out]; exact HSET.out, HB.out.grown HG.out HB.out.size (fun q hq => by injection hq with hq; subst hq; exact Nat.le_refl _)⟩
      · have HM := hid (trueB_bad hj' hm)
        have hlook : _ = Result.ok (Value.bool true) wr := HLK.out.trans (congrArg (fun b => Result.ok (Value.bool b) wr) hm)
        clear hm
        go_wp2
        go_ret
        exact ⟨ret_bool HM.out.symm, HB.out⟩
    · obtain rfl : k = n := by omega
      have h1 := hh.out
      rw [List.take_of_length_le (by rw [hl.out]; omega)] at h1
      have HM := hid h1
      clear h1
      go_wp2
      go_ret
      exact ⟨ret_bool HM.out.symm, hb⟩

theorem l7True_any (A : Option Addr) (n c : Nat) (l : List (List UInt8)) (w : World) (hr : Rd w A n (strV l)) (hn : n ≤ 1048576) :
    Calls Try.prog 72 #[.slice A n c] w fun e w' => e = .returned (.bool (trueB l)) ∧ Below w.heap.size w w' := by
  have hl := hid (show l.length = n by have := hr.1; rw [strV_len] at this; exact this)
  have H6 := fun w0 (rd : Rd w0 A n (strV l)) => hid (l6Sort_any n A c l w0 rd (by omega))
  go_enter Try.func72, Try.ntmps72
  go_wp2_with fail
  refine (H6 _ hr).out.mono ?_
  rintro e w1 ⟨v1, rfl, o1, b1⟩
  rw [sortL_len, hl.out] at o1
  obtain ⟨A1, c1, rfl, _, _, rd1, _⟩ := own_shape o1
  obtain ⟨s, hsd⟩ : ∃ s, s = sortL l := ⟨_, rfl⟩
  rw [← hsd] at rd1
  have HSD := hid hsd
  have hsl : s.length = n := by rw [hsd, sortL_len, hl.out]
  have HSL := hid hsl
  have B1 := hid b1
  have R1 := hid rd1
  clear hsd o1 hr b1 rd1 hsl
  go_wp2
  go_loopg [4] n (fun gk v wr => ∃ k q : Nat, (k + 1 ≤ n ∨ k = 0) ∧ gk = n - k ∧ v = .int .i64 ((k : Int) + 1) ∧ Hid (∀ j (h : j + 1 < s.length), j < k → s[j + 1] ≠ s[j]) ∧ wr = w1.drewN q)
  case atStart => exact ⟨0, 0, by omega, by omega, rfl, hid (fun j _ h => by omega), rfl⟩
  case round =>
    obtain ⟨k, q, hk, rfl, rfl, hh, rfl⟩ := hrel
    by_cases hlt : k + 1 < n
    · obtain ⟨b, o, rfl, hj', hc⟩ := R1.out.str hlt
      obtain ⟨b', o', e', hj2, hc2⟩ := R1.out.str (show k < n by omega)
      injection e' with e'
      injection e' with e1 e2 e3
      subst e1 e2
      clear e3
      have i0 : (0 : Int) ≤ (k : Int) := by omega
      have i1 : (k : Int) < (n : Int) := by omega
      have i2 : (k : Int) + 1 < (n : Int) := by omega
      have i3 : (0 : Int) ≤ (k : Int) + 1 := by omega
      have i4 : ((k : Int) + 1).toNat = k + 1 := by omega
      have hw1 : IntKind.i64.wrap ((k : Int) + 1 - 1) = (k : Int) := by rw [Int.add_sub_cancel]; exact IntWalk.i64_in _ (by omega)
      have hw2 : wrap64 (k : Int) = (k : Int) := by unfold wrap64; omega
      cases hm : (s[k + 1] == s[k])
      · have HH := hid (show ∀ j (h : j + 1 < s.length), j < k + 1 → s[j + 1] ≠ s[j] from fun j h hjk => by
          by_cases e : j = k
          · subst e; simpa using hm
          · exact hh.out j h (by omega))
        go_wp2
        go_quiet (fail)
        go_wp2
        clear hw1 hw2
        go_roundg (n - (k + 1))
        case measure => omega
        case rel => exact ⟨k + 1, _, by omega, rfl, by go_num, HH, rfl⟩
      · have HM := hid (true_sorted_bad HSD.out k (by rw [HSL.out]; exact hlt) (by simpa using hm))
        go_wp2
        go_quiet (fail)
        go_wp2
        go_ret
        exact ⟨ret_bool HM.out.symm, below_drewN (below_drewN B1.out q) _⟩
    · have HM := hid (true_sorted HSD.out fun j h => hh.out j h (by rw [HSL.out] at h; omega))
      have i2 : ¬ ((k : Int) + 1 < (n : Int)) := by omega
      go_wp2
      go_ret
      exact ⟨ret_bool HM.out.symm, below_drewN B1.out q⟩
end Go.Proofs.Ytnkpbahapaocbaa
