/- Contracts of isSplice, methodAt and SwitchesIn. No conditions beyond those stated. -/
import Derived.Test.YtdmipllbifofmaaSplice
set_option linter.unusedVariables false
set_option linter.unusedSimpArgs false
namespace Go.Proofs.Ytdmipllbifofmaa
open Go.RowKit

theorem isSplice_any (n : Int) (l : List UInt8) (w : World) (hl : l.length ≤ 1048576) (hn : 0 ≤ n) (hn2 : n ≤ 1048576) :
    Calls Try.prog 118 #[.int .i64 n, .string (bs l)] w fun e w' => e = .returned (.bool (isSpliceL n l)) ∧ w = w' := by
  by_cases h1 : 1 ≤ n ∧ n ≤ 4
  · obtain ⟨ha, hb⟩ := h1
    by_cases h2 : l.length % 2 = 0
    · by_cases h3 : 1 ≤ l.length / 2 ∧ l.length / 2 ≤ 60
      · obtain ⟨hc, hd⟩ := h3
        have h2' : ((l.length : Int) % 2 == 1) = false := by simp; omega
        have hc' : decide (1 ≤ (l.length : Int) / 2) = true := by simp; omega
        have hd' : decide ((l.length : Int) / 2 ≤ 60) = true := by simp; omega
        have h4 : l.length ≤ 120 := by omega
        have h5 : 2 ≤ l.length := by omega
        have H2 := hid h2
        clear h2
        go_enter Try.func118, Try.ntmps118
        go_wp2_with (go_at_call 79; refine (within_any _ _ _ _).mono ?_; rintro e w' ⟨rfl, rfl⟩)
        go_loopg [5] l.length (fun gk v wr => ∃ i : Nat, i ≤ l.length ∧ gk = l.length - i ∧ v = .int .i64 i ∧ Hid (∃ k, i = 2 * k ∧ pairsTo n l k = true) ∧ w = wr)
        case atStart => exact ⟨0, by omega, by omega, rfl, ⟨0, rfl, rfl⟩, rfl⟩
        case round =>
          obtain ⟨i, hi, rfl, rfl, hh, rfl⟩ := hrel
          by_cases hlt' : i < l.length
          · have hlt : i + 1 < l.length := by
              obtain ⟨k, hk, _⟩ := hh.out
              have := H2.out
              omega
            have hu : l[i].toNat < 256 := UInt8.toNat_lt l[i]
            by_cases h1 : l[i].toNat < 65
            · go_wp2
              go_ret
              obtain ⟨k, hk, hp⟩ := hh.out
              exact ⟨ret_bool (isSpliceL_no n l k (by omega) (by rw [pairAt_at n l k i hk hlt]; simp; omega)).symm, rfl⟩
            · by_cases h2 : n ≤ (l[i].toNat : Int) - 65
              · go_wp2
                go_ret
                obtain ⟨k, hk, hp⟩ := hh.out
                exact ⟨ret_bool (isSpliceL_no n l k (by omega) (by rw [pairAt_at n l k i hk hlt]; simp; omega)).symm, rfl⟩
              · cases hc : callB l[i + 1]
                · go_wp2_with (go_at_call 64; refine (isCall_at l (i + 1) hlt _).mono ?_; rintro e w' ⟨rfl, rfl⟩)
                  go_ret
                  obtain ⟨k, hk, hp⟩ := hh.out
                  exact ⟨ret_bool (isSpliceL_no n l k (by omega) (by rw [pairAt_at n l k i hk hlt]; simp [hc])).symm, rfl⟩
                · go_wp2_with (go_at_call 64; refine (isCall_at l (i + 1) hlt _).mono ?_; rintro e w' ⟨rfl, rfl⟩)
                  go_roundg (l.length - (i + 2))
                  case measure => omega
                  case rel =>
                    obtain ⟨k, hk, hp⟩ := hh.out
                    exact ⟨i + 2, by omega, rfl, by go_num, hid ⟨k + 1, by omega, by rw [pairsTo_succ, hp, pairAt_at n l k i hk hlt]; simp [hc]; omega⟩, rfl⟩
          · go_wp2
            go_ret
            obtain ⟨k, hk, hp⟩ := hh.out
            obtain rfl : k = l.length / 2 := by omega
            exact ⟨ret_bool (by simp [isSpliceL, hp, ha, hb, H2.out, h4, h5]), rfl⟩
      · have hr : isSpliceL n l = false := by
          have : (decide (2 ≤ l.length) && decide (l.length ≤ 120)) = false := by simp; omega
          rcases Bool.and_eq_false_iff.1 this with h | h <;> simp only [isSpliceL, h, Bool.and_false, Bool.false_and]
        have h2' : ((l.length : Int) % 2 == 1) = false := by simp; omega
        have hcd : (decide (1 ≤ (l.length : Int) / 2) && decide ((l.length : Int) / 2 ≤ 60)) = false := by simp; omega
        clear h2 h3
        go_enter Try.func118, Try.ntmps118
        go_wp2_with (go_at_call 79; refine (within_any _ _ _ _).mono ?_; rintro e w' ⟨rfl, rfl⟩)
        go_ret
        exact ⟨ret_bool hr.symm, rfl⟩
    · have hr : isSpliceL n l = false := by simp only [isSpliceL, h2, decide_false, Bool.and_false, Bool.false_and]
      have h2' : ((l.length : Int) % 2 == 1) = true := by simp; omega
      clear h2
      go_enter Try.func118, Try.ntmps118
      go_wp2_with (go_at_call 79; refine (within_any _ _ _ _).mono ?_; rintro e w' ⟨rfl, rfl⟩)
      go_ret
      exact ⟨ret_bool hr.symm, rfl⟩
  · have h2 : (decide (1 ≤ n) && decide (n ≤ 4)) = false := by simp; omega
    have hr : isSpliceL n l = false := by simp only [isSpliceL, h2, Bool.false_and]
    clear h1
    go_enter Try.func118, Try.ntmps118
    go_wp2_with (go_at_call 79; refine (within_any _ _ _ _).mono ?_; rintro e w' ⟨rfl, rfl⟩)
    go_ret
    exact ⟨ret_bool hr.symm, rfl⟩

/-- The number of changes of method from pair to pair, over the first k pairs. -/
def switchesTo (l : List UInt8) (k : Nat) : Nat := ((List.range k).filter fun i => decide (0 < i) && !(l.getD (2 * i) 0 == l.getD (2 * (i - 1)) 0)).length
/-- What SwitchesIn answers. -/
def switchesR (l : List UInt8) : Nat × Bool := if isSpliceL 4 l = true then (switchesTo l (l.length / 2), true) else (0, false)
theorem methodAt_nat (l : List UInt8) (i : Nat) (w : World) (hl : l.length ≤ 1048576) (hi : 2 * i < l.length) (h65 : 65 ≤ l[2 * i].toNat) :
    Calls Try.prog 110 #[.string (bs l), .int .i64 i] w fun e w' => e = .returned (.int .i64 ((l[2 * i].toNat : Int) - 65)) ∧ w = w' := by
  have hu : l[2 * i].toNat < 256 := UInt8.toNat_lt _
  go_enter Try.func110, Try.ntmps110
  go_wp2
  go_ret
  exact ⟨ret_int (by omega), rfl⟩
theorem methodAt_any (l : List UInt8) (n : Int) (i : Nat) (w : World) (hn : n = i) (hl : l.length ≤ 1048576) (hi : 2 * i < l.length) (h65 : 65 ≤ l[2 * i].toNat) :
    Calls Try.prog 110 #[.string (bs l), .int .i64 n] w fun e w' => e = .returned (.int .i64 ((l[2 * i].toNat : Int) - 65)) ∧ w = w' := by
  subst hn; exact methodAt_nat l i w hl hi h65
theorem getD_at (l : List UInt8) (i : Nat) (h : i < l.length) : l.getD i 0 = l[i] := by simp [List.getD_eq_getElem?_getD, List.getElem?_eq_getElem h]

theorem switchesTo_succ (l : List UInt8) (k : Nat) : switchesTo l (k + 1) = switchesTo l k + (if 0 < k ∧ l.getD (2 * k) 0 ≠ l.getD (2 * (k - 1)) 0 then 1 else 0) := by
  simp only [switchesTo, List.range_succ, List.filter_append, List.length_append]
  congr 1
  by_cases h : 0 < k ∧ l.getD (2 * k) 0 ≠ l.getD (2 * (k - 1)) 0
  · have h1 : (l.getD (2 * k) 0 == l.getD (2 * (k - 1)) 0) = false := by simpa using h.2
    rw [if_pos h, List.filter_cons_of_pos (by simp only [h1, Bool.not_false, Bool.and_true, decide_eq_true_eq]; exact h.1)]
    rfl
  · rw [if_neg h]
    rw [Classical.not_and_iff_not_or_not] at h
    rcases h with h | h <;> simp [List.filter_cons] <;> simp_all
theorem switchesTo_le (l : List UInt8) (k : Nat) : switchesTo l k ≤ k := by
  have := List.length_filter_le (fun i => decide (0 < i) && !(l.getD (2 * i) 0 == l.getD (2 * (i - 1)) 0)) (List.range k)
  simpa [switchesTo] using this
theorem switchesR_bad (l : List UInt8) (h : isSpliceL 4 l = false) : switchesR l = (0, false) := if_neg (by simp [h])
theorem switchesR_yes (l : List UInt8) (h : isSpliceL 4 l = true) : switchesR l = (switchesTo l (l.length / 2), true) := if_pos h
theorem isSpliceL_len {n : Int} {l : List UInt8} (h : isSpliceL n l = true) : l.length % 2 = 0 ∧ 2 ≤ l.length ∧ l.length ≤ 120 := by
  simp [isSpliceL] at h; omega
theorem isSpliceL_pair {n : Int} {l : List UInt8} (h : isSpliceL n l = true) (k i : Nat) (hi : i = 2 * k) (hlt : i + 1 < l.length) : 65 ≤ l[i].toNat ∧ (l[i].toNat : Int) - 65 < n ∧ callB l[i + 1] = true := by
  have hp : pairsTo n l (l.length / 2) = true := by simp [isSpliceL] at h; exact h.2
  have := List.all_eq_true.1 hp k (List.mem_range.2 (by omega))
  rw [pairAt_at n l k i hi hlt] at this
  simpa [and_assoc] using this

end Go.Proofs.Ytdmipllbifofmaa
