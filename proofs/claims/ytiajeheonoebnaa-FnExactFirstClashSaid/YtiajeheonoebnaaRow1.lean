/- Contracts of the two functions that say whether a text is a row. No conditions beyond those stated. -/
import Derived.Test.YtiajeheonoebnaaIn
import Derived.Test.YtiajeheonoebnaaRowP
set_option linter.unusedVariables false
set_option linter.unusedSimpArgs false
set_option maxRecDepth 100000
namespace Go.Proofs.Ytiajeheonoebnaa
open Go.RowKit

/-- The first k places hold bells of the stage, each another one. -/
def rowTo (r : List UInt8) (k : Nat) : Prop := ∀ i, i < k → 49 ≤ (r.getD i 0).toNat ∧ (r.getD i 0).toNat < 49 + r.length ∧ ∀ j, j < i → r.getD j 0 ≠ r.getD i 0
/-- Whether a text is a row. -/
def rowB (r : List UInt8) : Bool := decide (3 ≤ r.length) && decide (r.length ≤ 8) && (List.range r.length).all fun i => decide (49 ≤ (r.getD i 0).toNat) && decide ((r.getD i 0).toNat < 49 + r.length) && (List.range i).all fun j => r.getD j 0 != r.getD i 0
theorem rowB_to (r : List UInt8) (h1 : 3 ≤ r.length) (h2 : r.length ≤ 8) : rowB r = true ↔ rowTo r r.length := by
  simp only [rowB, h1, h2, decide_true, Bool.true_and, List.all_eq_true, List.mem_range, Bool.and_eq_true, decide_eq_true_eq, bne_iff_ne, ne_eq, rowTo]
  constructor
  · intro h i hi
    exact ⟨(h i hi).1.1, (h i hi).1.2, (h i hi).2⟩
  · intro h i hi
    exact ⟨⟨(h i hi).1, (h i hi).2.1⟩, (h i hi).2.2⟩
theorem rowB_len {r : List UInt8} (h : rowB r = true) : 3 ≤ r.length ∧ r.length ≤ 8 := by
  simp only [rowB, Bool.and_eq_true, decide_eq_true_eq] at h
  exact ⟨h.1.1, h.1.2⟩
theorem rowB_iff (r : List UInt8) : rowB r = true ↔ IsRow r := by
  constructor
  · intro h
    obtain ⟨h1, h2⟩ := rowB_len h
    have h3 := (rowB_to r h1 h2).1 h
    refine ⟨h1, h2, fun i hi => ⟨(h3 i hi).1, (h3 i hi).2.1⟩, fun i j hi hj e => ?_⟩
    rcases Nat.lt_trichotomy i j with h4 | h4 | h4
    · exact absurd e ((h3 j hj).2.2 i h4)
    · exact h4
    · exact absurd e.symm ((h3 i hi).2.2 j h4)
  · intro h
    refine (rowB_to r h.lo h.hi).2 fun i hi => ⟨(h.rng i hi).1, (h.rng i hi).2, fun j hj e => ?_⟩
    have := h.inj j i (by omega) hi e
    omega
theorem rowB_no (r : List UInt8) (h : ¬ (3 ≤ r.length ∧ r.length ≤ 8)) : rowB r = false := by
  cases e : rowB r
  · rfl
  · exact absurd (rowB_len e) h
theorem rowB_bad (r : List UInt8) (i : Nat) (hi : i < r.length) (h : ¬ (49 ≤ r[i].toNat ∧ r[i].toNat < 49 + r.length)) : rowB r = false := by
  cases e : rowB r
  · rfl
  · have := ((rowB_iff r).1 e).rng i hi
    rw [gd_at _ _ hi] at this
    exact absurd this h
theorem rowB_twice (r : List UInt8) (i j : Nat) (hi : i < r.length) (hj : j < r.length) (hne : i ≠ j) (h : r[i] = r[j]) : rowB r = false := by
  cases e : rowB r
  · rfl
  · exact absurd (((rowB_iff r).1 e).inj i j hi hj (by rw [gd_at _ _ hi, gd_at _ _ hj, h])) hne
theorem rowTo_step {r : List UInt8} {k : Nat} (h : rowTo r k) (hk : k < r.length) (h1 : 49 ≤ r[k].toNat) (h2 : r[k].toNat < 49 + r.length) (h3 : ∀ j (hj : j < r.length), j < k → r[j] ≠ r[k]) : rowTo r (k + 1) := by
  intro i hi
  by_cases e : i = k
  · subst e
    rw [gd_at _ _ hk]
    exact ⟨h1, h2, fun j hj => by rw [gd_at _ _ (by omega)]; exact h3 j (by omega) hj⟩
  · exact h i (by omega)

theorem l1Row_any (l : List UInt8) (w : World) (hl : l.length ≤ 140737488351232) :
    Calls Try.prog 82 #[.string (bs l)] w fun e w' => e = .returned (.bool (rowB l)) ∧ ∃ m, w' = w.drewN m := by
  by_cases hlen : 3 ≤ l.length ∧ l.length ≤ 8
  · obtain ⟨h3, h8⟩ := hlen
    have hd : (decide (3 ≤ (l.length : Int)) && decide ((l.length : Int) ≤ 8)) = true := by simp; omega
    go_enter Try.func82, Try.ntmps82
    go_wp2_with (go_at_call 68; refine (l1In_any _ _ _ _).mono ?_; rintro e w' ⟨rfl, rfl⟩)
    go_loopg [3] l.length (fun gk u wr => ∃ k m : Nat, k ≤ l.length ∧ gk = l.length - k ∧ u = .int .i64 k ∧ Hid (rowTo l k) ∧ wr = w.drewN m)
    case atStart => exact ⟨0, 0, by omega, by omega, rfl, hid (fun i hi => by omega), rfl⟩
    case round =>
      obtain ⟨k, m, hk, rfl, rfl, hh, rfl⟩ := hrel
      by_cases hlt : k < l.length
      · have hu := UInt8.toNat_lt l[k]
        by_cases h1 : l[k].toNat < 49
        · go_wp2
          go_ret
          exact ⟨ret_bool (rowB_bad l k hlt (by omega)).symm, _, rfl⟩
        · by_cases h2 : (l.length : Int) < (l[k].toNat : Int) - 48
          · go_wp2
            go_ret
            exact ⟨ret_bool (rowB_bad l k hlt (by omega)).symm, _, rfl⟩
          · go_wp2
            go_loopg [4] k (fun gk u wr => ∃ j q : Nat, j ≤ k ∧ gk = k - j ∧ u = .int .i64 j ∧ Hid (∀ i (hi : i < l.length), i < j → l[i] ≠ l[k]) ∧ wr = w.drewN q)
            case atStart => exact ⟨0, m, by omega, by omega, rfl, hid (fun i hi h => by omega), rfl⟩
            case round =>
              obtain ⟨j, q, hj, rfl, rfl, hj2, rfl⟩ := hrel
              by_cases hjk : j < k
              · have hjl : j < l.length := by omega
                have i0 : (0 : Int) ≤ (j : Int) := by omega
                have i1 : (j : Int) < (l.length : Int) := by omega
                have i2 : (0 : Int) ≤ (k : Int) := by omega
                have i3 : (k : Int) < (l.length : Int) := by omega
                by_cases he : l[j] = l[k]
                · have heq : ((l[j].toNat : Int) == (l[k].toNat : Int)) = true := by rw [he]; simp
                  have HE := hid he
                  clear he
                  go_wp2
                  go_quiet (fail)
                  go_wp2
                  go_ret
                  exact ⟨ret_bool (rowB_twice l j k hjl hlt (by omega) HE.out).symm, _, World.drewN_drewN _ _ _⟩
                · have heq : ((l[j].toNat : Int) == (l[k].toNat : Int)) = false := by
                    simp only [beq_eq_false_iff_ne, ne_eq]
                    intro h
                    exact he (UInt8.toNat_inj.1 (by omega))
                  have HE := hid he
                  clear he
                  go_wp2
                  go_quiet (fail)
                  go_wp2
                  go_roundg (k - (j + 1))
                  case measure => omega
                  case rel =>
                    have HX : ∀ i (hi : i < l.length), i < j + 1 → l[i] ≠ l[k] := fun i hi hij => by
                      by_cases e : i = j
                      · subst e; exact HE.out
                      · exact hj2.out i hi (by omega)
                    exact ⟨j + 1, _, by omega, rfl, by go_num, hid HX, rfl⟩
              · obtain rfl : j = k := by omega
                go_wp2
                go_roundg (l.length - (j + 1))
                case measure => omega
                case rel => exact ⟨j + 1, _, by omega, rfl, by go_num, hid (rowTo_step hh.out hlt (by omega) (by omega) hj2.out), rfl⟩
      · obtain rfl : k = l.length := by omega
        go_wp2
        go_ret
        exact ⟨ret_bool ((rowB_to l h3 h8).2 hh.out).symm, _, rfl⟩
  · have hr := hid (rowB_no l hlen)
    have hd : (decide (3 ≤ (l.length : Int)) && decide ((l.length : Int) ≤ 8)) = false := by simp; omega
    clear hlen
    go_enter Try.func82, Try.ntmps82
    go_wp2_with (go_at_call 68; refine (l1In_any _ _ _ _).mono ?_; rintro e w' ⟨rfl, rfl⟩)
    go_ret
    exact ⟨ret_bool hr.out.symm, 0, rfl⟩

theorem isStage_any (n : Int) (w : World) :
    Calls Try.prog 109 #[.int .i64 n] w fun e w' => e = .returned (.bool (decide (3 ≤ n) && decide (n ≤ 8))) ∧ w = w' := by
  go_enter Try.func109, Try.ntmps109
  go_wp2
  all_goals (go_ret; exact ⟨ret_bool (by simp [*] <;> omega), rfl⟩)
theorem bits_test : ((List.range 256).all fun s => (List.range 8).all fun d => decide (bits .and .i64 ((s : Int) / 2 ^ d) 1 = if s.testBit d then 1 else 0) && decide (bits .or .i64 (s : Int) (wrap64 (2 ^ d)) = ((s ||| 2 ^ d : Nat) : Int)) && decide (s ||| 2 ^ d < 256)) = true := by decide +kernel
theorem bits_at {s d : Nat} (hs : s < 256) (hd : d < 8) : bits .and .i64 ((s : Int) / 2 ^ d) 1 = (if s.testBit d then 1 else 0) ∧ bits .or .i64 (s : Int) (wrap64 (2 ^ d)) = ((s ||| 2 ^ d : Nat) : Int) ∧ s ||| 2 ^ d < 256 := by
  have := List.all_eq_true.1 (List.all_eq_true.1 bits_test s (List.mem_range.2 hs)) d (List.mem_range.2 hd)
  simp only [Bool.and_eq_true, decide_eq_true_eq] at this
  exact ⟨this.1.1, this.1.2, this.2⟩
/-- The bits of s tell which bells are among the first k. -/
def Seen (r : List UInt8) (s k : Nat) : Prop := rowTo r k ∧ ∀ b, s.testBit b = true ↔ ∃ i, i < k ∧ (r.getD i 0).toNat = 49 + b
theorem goodRow_any (l : List UInt8) (w : World) (hl : l.length ≤ 140737488351232) :
    Calls Try.prog 89 #[.string (bs l)] w fun e w' => e = .returned (.bool (rowB l)) ∧ w = w' := by
  by_cases hlen : 3 ≤ l.length ∧ l.length ≤ 8
  · obtain ⟨h3, h8⟩ := hlen
    have hd : (decide (3 ≤ (l.length : Int)) && decide ((l.length : Int) ≤ 8)) = true := by simp; omega
    go_enter Try.func89, Try.ntmps89
    go_wp2_with (go_at_call 109; refine (isStage_any _ _).mono ?_; rintro e w' ⟨rfl, rfl⟩)
    go_loopg [3, 12] l.length (fun gk u v wr => ∃ k s : Nat, k ≤ l.length ∧ gk = l.length - k ∧ u = .int .i64 s ∧ v = .int .i64 k ∧ s < 256 ∧ Hid (Seen l s k) ∧ w = wr)
    case atStart => exact ⟨0, 0, by omega, by omega, rfl, rfl, by omega, hid ⟨fun i hi => by omega, fun b => by simp⟩, rfl⟩
    case round =>
      obtain ⟨k, s, hk, rfl, rfl, rfl, hs, hh, rfl⟩ := hrel
      by_cases hlt : k < l.length
      · have hu := UInt8.toNat_lt l[k]
        by_cases h1 : l[k].toNat < 49
        · go_wp2
          go_ret
          exact ⟨ret_bool (rowB_bad l k hlt (by omega)).symm, rfl⟩
        · by_cases h2 : (l.length : Int) ≤ (l[k].toNat : Int) - 49
          · go_wp2
            go_ret
            exact ⟨ret_bool (rowB_bad l k hlt (by omega)).symm, rfl⟩
          · have c0 : (0 : Int) ≤ (l[k].toNat : Int) - 49 := by omega
            have c1 : (l[k].toNat : Int) - 49 ≤ 64 := by omega
            obtain ⟨q1, q2, q3⟩ := bits_at (s := s) (d := l[k].toNat - 49) hs (by omega)
            cases hb : s.testBit (l[k].toNat - 49)
            · rw [hb, if_neg (by simp)] at q1
              have HB := hid hb
              clear hb
              go_wp2
              go_roundg (l.length - (k + 1))
              case measure => omega
              case rel =>
                have h4 : ∀ j (hj : j < l.length), j < k → l[j] ≠ l[k] := fun j hj hjk e => by
                  have h5 := (hh.out.2 (l[k].toNat - 49)).2 ⟨j, hjk, by rw [gd_at _ _ hj, e]; omega⟩
                  rw [HB.out] at h5; cases h5
                have h6 : ∀ b, (s ||| 2 ^ (l[k].toNat - 49)).testBit b = true ↔ ∃ i, i < k + 1 ∧ (l.getD i 0).toNat = 49 + b := fun b => by
                  rw [Nat.testBit_or, Bool.or_eq_true, Nat.testBit_two_pow, decide_eq_true_eq]
                  constructor
                  · rintro (h | h)
                    · obtain ⟨i, h7, h8⟩ := (hh.out.2 b).1 h
                      exact ⟨i, by omega, h8⟩
                    · exact ⟨k, by omega, by rw [gd_at _ _ hlt]; omega⟩
                  · rintro ⟨i, h7, h8⟩
                    by_cases e : i = k
                    · subst e
                      rw [gd_at _ _ hlt] at h8
                      exact .inr (by omega)
                    · exact .inl ((hh.out.2 b).2 ⟨i, by omega, h8⟩)
                exact ⟨k + 1, _, by omega, rfl, rfl, by go_num, q3, hid ⟨rowTo_step hh.out.1 hlt (by omega) (by omega) h4, h6⟩, rfl⟩
            · rw [hb, if_pos rfl] at q1
              have HB := hid hb
              clear hb
              go_wp2
              go_ret
              obtain ⟨j, hj, e⟩ := (hh.out.2 _).1 HB.out
              have hjl : j < l.length := by omega
              rw [gd_at _ _ hjl] at e
              exact ⟨ret_bool (rowB_twice l j k hjl hlt (by omega) (UInt8.toNat_inj.1 (by omega))).symm, rfl⟩
      · obtain rfl : k = l.length := by omega
        go_wp2
        go_ret
        exact ⟨ret_bool ((rowB_to l h3 h8).2 hh.out.1).symm, rfl⟩
  · have hr := hid (rowB_no l hlen)
    have hd : (decide (3 ≤ (l.length : Int)) && decide ((l.length : Int) ≤ 8)) = false := by simp; omega
    clear hlen
    go_enter Try.func89, Try.ntmps89
    go_wp2_with (go_at_call 109; refine (isStage_any _ _).mono ?_; rintro e w' ⟨rfl, rfl⟩)
    go_ret
    exact ⟨ret_bool hr.out.symm, rfl⟩
end Go.Proofs.Ytiajeheonoebnaa
