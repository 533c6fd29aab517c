/- Contracts of SplitParts in the reference, and the plain law that its test and the program's agree. No conditions beyond those stated. -/
import Derived.Test.YtgfppbkibmegoaaDoorTurn
import Derived.Test.YtgfppbkibmegoaaDoorShStr
set_option linter.unusedVariables false
set_option linter.unusedSimpArgs false
set_option maxRecDepth 100000
namespace Go.Proofs.YtgfppbkibmegoaaDoor
open Go.RowKit

/-! ### plain -/

theorem repL_succ (u : List UInt8) (m : Nat) : repL u (m + 1) = u ++ repL u m := by simp [repL, List.replicate_succ]
theorem repL_snoc (u : List UInt8) (m : Nat) : repL u m ++ u = repL u (m + 1) := by
  induction m with
  | zero => simp [repL]
  | succ m ih => rw [repL_succ, List.append_assoc, ih, ← repL_succ]
theorem repL_len (u : List UInt8) (m : Nat) : (repL u m).length = m * u.length := by simp [repL]
theorem rep_of_rot (u : List UInt8) (n k : Nat) (hu : u.length = n) (hn : 1 ≤ n) : ∀ r : List UInt8, r.length = k * n → r ++ u = u ++ r → r = repL u k := by
  induction k with
  | zero => intro r hr _; simp at hr; simp [hr, repL]
  | succ k ih =>
    intro r hr h
    have hlen : n ≤ r.length := by rw [hr, Nat.succ_mul]; omega
    have h1 : r.take n = u := by
      have h0 := congrArg (List.take n) h
      have e1 : List.take n (r ++ u) = List.take n r := List.take_append_of_le_length hlen
      have e2 : List.take n (u ++ r) = List.take n u := List.take_append_of_le_length (by omega)
      rw [e1, e2, List.take_of_length_le (by omega : u.length ≤ n)] at h0
      exact h0
    have h2 : r = u ++ r.drop n := by rw [← h1, List.take_append_drop]
    rw [h2, repL_succ]
    congr 1
    apply ih
    · rw [List.length_drop, hr, Nat.succ_mul]; omega
    · have h3 := h
      rw [h2] at h3
      rw [List.append_assoc] at h3
      exact List.append_cancel_left h3
theorem rot_iff (l : List UInt8) (n m : Nat) (hn : 1 ≤ n) (hm : 1 ≤ m) (hl : l.length = m * n) : l.drop n ++ l.take n = l ↔ repL (l.take n) m = l := by
  obtain ⟨m, rfl⟩ : ∃ k, m = k + 1 := ⟨m - 1, by omega⟩
  rw [Nat.succ_mul] at hl
  have hu : (l.take n).length = n := by rw [List.length_take]; omega
  constructor
  · intro h
    have h2 : l.drop n ++ l.take n = l.take n ++ l.drop n := by rw [h, List.take_append_drop]
    have := rep_of_rot (l.take n) n m hu hn (l.drop n) (by rw [List.length_drop]; omega) h2
    rw [repL_succ, ← this, List.take_append_drop]
  · intro h
    have h1 : l.drop n = repL (l.take n) m := by
      have := congrArg (List.drop n) h
      rw [repL_succ, List.drop_append_of_le_length (by omega), List.drop_of_length_le (by omega), List.nil_append] at this
      exact this.symm
    rw [h1, repL_snoc]; exact h

/-- Whether a touch is its first n calls over and over. -/
def isPart (l : List UInt8) (n : Nat) : Bool := decide (l.length % n = 0) && decide (l.drop n ++ l.take n = l)
def splitFrom (l : List UInt8) : Nat → Nat → Nat
  | 0, n => n
  | f + 1, n => if isPart l n = true then n else splitFrom l f (n + 1)
def splitN (l : List UInt8) : Nat := splitFrom l l.length 1
theorem isPart_all (l : List UInt8) : isPart l l.length = true := by simp [isPart]
theorem isPart_rep (l : List UInt8) (n : Nat) (hn : 1 ≤ n) (hl : 1 ≤ l.length) (hle : n ≤ l.length) (hm : l.length % n = 0) : isPart l n = decide (repL (l.take n) (l.length / n) = l) := by
  have := rot_iff l n (l.length / n) hn (Nat.div_pos hle hn) (by have := Nat.div_add_mod l.length n; rw [hm, Nat.add_zero, Nat.mul_comm] at this; exact this.symm)
  simp [isPart, hm, this]
/-- What SplitParts answers. -/
def splitR (l : List UInt8) : List UInt8 × Nat × Bool := if goodTouch l = true then (l.take (splitN l), l.length / splitN l, true) else ([], 0, false)
theorem splitR_yes (l : List UInt8) (h : goodTouch l = true) : splitR l = (l.take (splitN l), l.length / splitN l, true) := if_pos h
theorem splitR_bad (l : List UInt8) (h : goodTouch l = false) : splitR l = ([], 0, false) := if_neg (by simp [h])

theorem wrap_div (a n : Nat) (h : a ≤ 1048576) : wrap64 ((a : Int) / (n : Int)) = ((a / n : Nat) : Int) := by
  rw [← Int.natCast_ediv]
  have := Nat.div_le_self a n
  generalize a / n = q at this ⊢
  unfold wrap64
  omega
theorem specSplitParts_any (l : List UInt8) (w : World) (hl : l.length ≤ 1048576) :
    Calls Tryd.prog 13 #[.string (bs l)] w fun e w' => e = .returned (.tuple #[.string (bs (splitR l).1), .int .i64 ((splitR l).2.1 : Int), .bool (splitR l).2.2]) ∧ ∃ m, w' = w.drewN m := by
  cases hg : goodTouch l
  · have hr := hid (splitR_bad l hg)
    go_enter Tryd.func13, Tryd.ntmps13
    go_wp2_with (go_at_call 6; refine (l9Good_any _ _ (by omega)).mono ?_; rintro e w' ⟨rfl, rfl⟩)
    go_ret3
    rw [hr.out]
    exact ⟨rfl, 0, rfl⟩
  · have hr := hid (splitR_yes l hg)
    have hlen := (goodTouch_len60 hg).2
    have h1 := (goodTouch_len60 hg).1
    go_enter Tryd.func13, Tryd.ntmps13
    go_wp2_with (go_at_call 6; refine (l9Good_any _ _ (by omega)).mono ?_; rintro e w' ⟨rfl, rfl⟩)
    go_loopg [5] (l.length - 1) (fun gk u wr => ∃ n m : Nat, 1 ≤ n ∧ n ≤ l.length ∧ gk = l.length - n ∧ u = .int .i64 n ∧ Hid (splitFrom l (l.length + 1 - n) n = splitN l) ∧ wr = w.drewN m)
    case atStart => exact ⟨1, 0, by omega, by omega, by omega, rfl, rfl, rfl⟩
    case round =>
      obtain ⟨n, m, hn1, hn, rfl, rfl, hh, rfl⟩ := hrel
      have hnp : (0 : Int) < (n : Int) := by omega
      by_cases hlt : n < l.length
      · by_cases hmod : l.length % n = 0
        · have hmod' : ((l.length : Int) % (n : Int) == 0) = true := by simp; omega
          by_cases hrot : l.drop n ++ l.take n = l
          · have hrot' : (l.drop n ++ l.take n == l) = true := by simpa using hrot
            have hp : splitN l = n := by
              rw [← hh.out, show l.length + 1 - n = (l.length - n) + 1 by omega, splitFrom, if_pos (by simp [isPart, hmod, hrot])]
            have hp := hid hp
            have hmod2 := hid hmod
            clear hmod hrot
            go_wp2_with (go_at_call 18; refine (l9Turn_any _ _ _ (by omega) (by omega) (by omega)).mono ?_; rintro e w' ⟨rfl, nq1, rfl⟩)
            have hn0 : ((n : Int) == 0) = false := by simp; omega
            have hi1 : (n : Int) ≤ (l.length : Int) := by omega
            go_quiet (fail)
            go_wp2
            go_ret3
            rw [hr.out, hp.out]
            refine ⟨?_, _, World.drewN_drewN _ _ _⟩
            rw [wrap_div l.length n hl]
            rfl
          · have hrot' : (l.drop n ++ l.take n == l) = false := by simpa using hrot
            have hp : splitFrom l (l.length + 1 - (n + 1)) (n + 1) = splitN l := by
              have := hh.out
              rw [show l.length + 1 - n = (l.length - n) + 1 by omega, splitFrom, if_neg (by simp [isPart, hrot])] at this
              rw [← this, show l.length + 1 - (n + 1) = l.length - n by omega]
            have hp := hid hp
            have hmod2 := hid hmod
            clear hmod hrot
            go_wp2_with (go_at_call 18; refine (l9Turn_any _ _ _ (by omega) (by omega) (by omega)).mono ?_; rintro e w' ⟨rfl, nq1, rfl⟩)
            go_roundg (l.length - (n + 1))
            case measure => omega
            case rel => exact ⟨n + 1, _, by omega, by omega, rfl, by go_num, hp, rfl⟩
        · have hmod' : ((l.length : Int) % (n : Int) == 0) = false := by simp; omega
          have hp : splitFrom l (l.length + 1 - (n + 1)) (n + 1) = splitN l := by
            have := hh.out
            rw [show l.length + 1 - n = (l.length - n) + 1 by omega, splitFrom, if_neg (by simp [isPart, hmod])] at this
            rw [← this, show l.length + 1 - (n + 1) = l.length - n by omega]
          have hp := hid hp
          clear hmod
          go_wp2
          go_roundg (l.length - (n + 1))
          case measure => omega
          case rel => exact ⟨n + 1, _, by omega, by omega, rfl, by go_num, hp, rfl⟩
      · have en : n = l.length := by omega
        subst en
        have hp : splitN l = l.length := by
          rw [← hh.out, show l.length + 1 - l.length = 0 + 1 by omega, splitFrom, if_pos (isPart_all l)]
        go_wp2
        go_ret3
        rw [hr.out, hp, List.take_length, Nat.div_self (by omega)]
        exact ⟨rfl, _, rfl⟩

theorem splitParts_any (l : List UInt8) (w : World) (hl : l.length ≤ 60) (h1 : 1 ≤ l.length) :
    Calls Tryd.prog 9 #[.string (bs l)] w fun e w' => e = .returned (.tuple #[.string (bs (l.take (splitN l))), .int .i64 ((l.length / splitN l : Nat) : Int)]) ∧ Below w.heap.size w w' := by
  go_enter Tryd.func9, Tryd.ntmps9
  go_wp2
  go_loopg [4] (l.length - 1) (fun gk u wr => ∃ n : Nat, 1 ≤ n ∧ n ≤ l.length ∧ gk = l.length - n ∧ u = .int .i64 n ∧ Hid (splitFrom l (l.length + 1 - n) n = splitN l) ∧ Below w.heap.size w wr)
  case atStart => exact ⟨1, by omega, by omega, by omega, rfl, rfl, Below.refl _ _⟩
  case round =>
    obtain ⟨n, hn1, hn, rfl, rfl, hh, hb⟩ := hrel
    have hnp : (0 : Int) < (n : Int) := by omega
    have hn0 : ((n : Int) == 0) = false := by simp; omega
    have hi1 : (n : Int) ≤ (l.length : Int) := by omega
    have hb' := hid hb
    have hbs := hb.size
    clear hb
    by_cases hmod : l.length % n = 0
    · have hmod' : ((l.length : Int) % (n : Int) == 0) = true := by simp; omega
      have hpr := hid (isPart_rep l n hn1 h1 hn hmod)
      have hdl := Nat.div_le_self l.length n
      have hw := wrap_div l.length n (by omega)
      have htm : (l.length : Int).tmod (n : Int) = 0 := by rw [Int.tmod_eq_emod_of_nonneg (by omega)]; omega
      have hwq : IntKind.i64.wrap ((l.length : Int) / (n : Int)) = ((l.length / n : Nat) : Int) := by
        rw [← Int.natCast_ediv]
        generalize l.length / n = q at hdl
        exact IntWalk.i64_in _ (by omega)
      have hnz : ¬ n = 0 := by omega
      have hmod2 := hid hmod
      clear hmod
      go_wp2
      go_region_held3 (fun _ => True) (trivial) (first | (go_at_call 16; refine (repeat_any (l.take n) _ (l.length / n) _ (Int.natCast_ediv _ _).symm (by omega) (by simp; omega)).mono ?_; rintro e w1 ⟨rfl, hb1⟩))
      go_wp2
      · have h2 : (repL (l.take n) (l.length / n) == l) = true := by assumption
        have hp : splitN l = n := by
          rw [← hh.out, show l.length + 1 - n = (l.length - n) + 1 by omega, splitFrom, if_pos (by rw [hpr.out]; simpa using h2)]
        have hp := hid hp
        go_quiet (fail)
        go_wp2
        go_ret2
        rw [hp.out]
        refine ⟨?_, below_drewN (hb'.out.drew.trans (hb1.mono hbs)) _⟩
        rfl
      · have h2 : (repL (l.take n) (l.length / n) == l) = false := by assumption
        have hp : splitFrom l (l.length + 1 - (n + 1)) (n + 1) = splitN l := by
          have := hh.out
          rw [show l.length + 1 - n = (l.length - n) + 1 by omega, splitFrom, if_neg (by rw [hpr.out]; simpa using h2)] at this
          rw [← this, show l.length + 1 - (n + 1) = l.length - n by omega]
        have hnl : n < l.length := by
          rcases Nat.lt_or_ge n l.length with h | h
          · exact h
          · have e : n = l.length := by omega
            have h3 := hpr.out
            rw [e, isPart_all] at h3
            rw [e] at h2
            simp [h2] at h3
            simp [h3] at h2
        go_roundg (l.length - (n + 1))
        case measure => omega
        case rel => exact ⟨n + 1, by omega, by omega, rfl, by go_num, hid hp, hb'.out.drew.trans (hb1.mono hbs)⟩
    · have htm : ((l.length : Int).tmod (n : Int) == 0) = false := by rw [Int.tmod_eq_emod_of_nonneg (by omega)]; simp; omega
      have hmod' : ((l.length : Int) % (n : Int) == 0) = false := by simp; omega
      have hp : splitFrom l (l.length + 1 - (n + 1)) (n + 1) = splitN l := by
        have := hh.out
        rw [show l.length + 1 - n = (l.length - n) + 1 by omega, splitFrom, if_neg (by simp [isPart, hmod])] at this
        rw [← this, show l.length + 1 - (n + 1) = l.length - n by omega]
      have hnl : n < l.length := by
        rcases Nat.lt_or_ge n l.length with h | h
        · exact h
        · have e : n = l.length := by omega
          rw [e, Nat.mod_self] at hmod
          exact absurd rfl hmod
      have hnz : ¬ n = 0 := by omega
      have hp := hid hp
      clear hmod
      go_wp2
      go_quiet (fail)
      go_wp2
      go_roundg (l.length - (n + 1))
      case measure => omega
      case rel => exact ⟨n + 1, by omega, by omega, rfl, by go_num, hp, below_drewN hb'.out _⟩

end Go.Proofs.YtgfppbkibmegoaaDoor
