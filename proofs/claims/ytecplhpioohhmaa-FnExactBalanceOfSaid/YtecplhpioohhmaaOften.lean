/- Contracts of HowOften, in the reference and in the program. No conditions beyond those stated. -/
import Derived.Test.YtecplhpioohhmaaRowL
import Derived.Test.YtecplhpioohhmaaRank
set_option linter.unusedVariables false
set_option linter.unusedSimpArgs false
set_option maxRecDepth 100000
namespace Go.Proofs.Ytecplhpioohhmaa
open Go.RowKit

/-- A slice of integers comes back; it is the call's own. -/
def OneI (w : World) (l : List Int) (e : Ending) (w' : World) : Prop := ∃ v, e = .returned v ∧ w'.ownsRow w.heap.size 3 1 v l.length (intV l) ∧ Below w.heap.size w w'
def stepO (h : List Int) (q : Nat) : List Int := h.set q (h.getD q 0 + 1)
/-- How often each rank occurs among the first k rows. -/
def oftenTo (l : List (List UInt8)) (N k : Nat) : List Int := (l.take k).foldl (fun h r => stepO h (rankL r)) (List.replicate N 0)
theorem often_len (l : List (List UInt8)) (N k : Nat) : (oftenTo l N k).length = N := by
  unfold oftenTo
  have : ∀ (m : List (List UInt8)) (h : List Int), (m.foldl (fun h r => stepO h (rankL r)) h).length = h.length := by
    intro m
    induction m with
    | nil => intro h; rfl
    | cons a m ih => intro h; rw [List.foldl_cons, ih]; simp [stepO]
  rw [this]; simp
theorem often_step (l : List (List UInt8)) (N k : Nat) (h : k < l.length) : oftenTo l N (k + 1) = stepO (oftenTo l N k) (rankL l[k]) := by
  unfold oftenTo
  rw [List.take_succ_eq_append_getElem h, List.foldl_append]; rfl
theorem often_bound (l : List (List UInt8)) (N : Nat) : ∀ k, k ≤ l.length → ∀ x ∈ oftenTo l N k, 0 ≤ x ∧ x ≤ k
  | 0, _, x, hx => by simp [oftenTo] at hx; omega
  | k + 1, h, x, hx => by
    rw [often_step l N k h, stepO] at hx
    have ih := often_bound l N k (by omega)
    rcases List.mem_or_eq_of_mem_set hx with h1 | h1
    · have := ih x h1; omega
    · subst h1
      by_cases hq : rankL l[k] < (oftenTo l N k).length
      · have := ih _ (List.getElem_mem hq)
        have e : (oftenTo l N k).getD (rankL l[k]) 0 = (oftenTo l N k)[rankL l[k]] := by simp [List.getD, hq]
        rw [e]; omega
      · have e : (oftenTo l N k).getD (rankL l[k]) 0 = 0 := by simp [List.getD, hq]
        rw [e]; omega
/-- make([]int, n) is a new block of zeros. -/
theorem make_int (n : Nat) (h : n ≤ 100000000) (w : World) : (Instr.makeSlice 29 (.int .i64 n) (.int .i64 n)).run Try.prog w = .ok (.slice (some ⟨w.heap.size, 0, none⟩) n n) (w.alloc (.cells (intV (List.replicate n 0)).toArray 3)) := by
  obtain ⟨i0, hi, hz0, hz1, hz2⟩ := info_parts infoInt
  have := run_make (P := Try.prog) w 29 3 i0 _ Try.underlying29 hi hz0 .i64 .i64 n n (by omega) (by omega) (by rw [hz2]; omega) (by omega)
  rw [this, Int.toNat_natCast, hz1, Nat.mul_one]
  congr 3
  apply Array.ext (by simp [size_madeCells, intV])
  intro i h1 h2
  simp [madeCells, intV, Value.cells, Nat.mod_one]

/-- Rows of one stage up to 6, one at least. -/
def smallB (l : List (List UInt8)) : Bool := rowsB l && decide (0 < l.length) && decide ((l.headD []).length ≤ 6)
def oftenL (l : List (List UInt8)) : List Int := oftenTo l (factL (l.headD []).length) l.length
theorem l7Often_any (A : Option Addr) (n c : Nat) (l : List (List UInt8)) (w : World) (hr : Rd w A n (strV l)) (hs : smallB l = true) :
    Calls Try.prog 56 #[.slice A n c] w (OneI w (oftenL l)) := by
  have hln : l.length = n := by have := hr.1; rw [strV_len] at this; exact this
  simp only [smallB, Bool.and_eq_true, decide_eq_true_eq] at hs
  obtain ⟨⟨hrows, hpos⟩, h6⟩ := hs
  have hn8 : n ≤ 800 := by rw [← hln]; exact rowsB_len hrows
  have hfac := fact_le (l.headD []).length (by omega)
  have HROW := hid (fun k (hk : k < l.length) => rowsB_row hrows hk)
  have hl := hid hln
  have RS := hid hr
  obtain ⟨b, o, rfl, hj0, hc0⟩ := hr.str (show 0 < n by omega)
  rw [headD_at' l hj0] at hc0
  have hc1 : w.cell? ⟨b, o, none⟩ = some (.string (bs (l.headD []))) := hc0
  obtain ⟨F, hF⟩ : ∃ F, F = l.headD [] := ⟨_, rfl⟩
  obtain ⟨N, hN⟩ : ∃ N, N = factL (l.headD []).length := ⟨_, rfl⟩
  have hFa := hid (fun w => l1Fact_any F.length w (by rw [hF]; omega))
  rw [hF, ← hN, ← hF] at hFa
  rw [← hN] at hfac
  rw [← hF] at hc1
  have hmk := make_int N (by omega)
  have i0 : (0 : Int) < (n : Int) := by omega
  have HN := hid hN
  clear hc0 hF hN hrows hpos h6 hln hr
  go_enter Try.func56, Try.ntmps56
  go_wp2_with fail
  refine (hFa.out _).mono ?_
  rintro e w' ⟨rfl, rfl⟩
  go_wp2
  have o0 := own_of_blk (Blk.new w 3 (intV (List.replicate N 0)).toArray) (Nat.le_refl _) (by simp [intV, maxLen]; omega)
  have e0 : (intV (List.replicate N 0)).toArray.size = N := by simp [intV]
  rw [e0] at o0
  clear e0
  go_loopg [14] n (fun gk u wr => ∃ k : Nat, k ≤ n ∧ gk = n - k ∧ u = .int .i64 k ∧ wr.ownsRow w.heap.size 3 1 (.slice (some ⟨w.heap.size, 0, none⟩) N N) N (intV (oftenTo l N k)) ∧ Below w.heap.size w wr)
  case atStart => exact ⟨0, by omega, by omega, rfl, by simpa [oftenTo] using o0, (Below.refl _ _).alloc (Nat.le_refl _) _⟩
  case round =>
    obtain ⟨k, hk, rfl, rfl, ho, hb⟩ := hrel
    by_cases hlt : k < n
    · obtain ⟨b2, o2, hA, hj', hc⟩ := (RS.out.below hb).str hlt
      injection hA with hA
      injection hA with e1 e2 e3
      subst e1 e2
      have hrow := HROW.out k hj'
      have hql := rank_lt l[k]
      rw [hrow.2, ← HN.out] at hql
      have hst := hid (often_step l N k hj')
      have hPL := hid (fun w => l1Place_any l[k] w hrow.1.hi)
      obtain ⟨q, hq⟩ : ∃ q, q = rankL l[k] := ⟨_, rfl⟩
      rw [← hq] at hql hst hPL
      have hlen := often_len l N k
      have hqo : q < (oftenTo l N k).length := by omega
      have hbd := often_bound l N k (by omega) _ (List.getElem_mem hqo)
      have hcq := (ho.cellAt q (by omega)).trans (List.getElem?_eq_getElem (show q < (intV (oftenTo l N k)).length by rw [intV_len]; exact hqo))
      rw [intV_at] at hcq
      have hfq := ho.frozenAt q
      obtain ⟨X, hX⟩ : ∃ X, X = (oftenTo l N k)[q] := ⟨_, rfl⟩
      rw [← hX] at hcq hbd
      have hwx := IntWalk.i64_in (X + 1) (by omega)
      have hk0 : (0 : Int) ≤ (k : Int) := by omega
      have hk1 : (k : Int) < (n : Int) := by omega
      have hq0 : (0 : Int) ≤ (q : Int) := by omega
      have hq1 : (q : Int) < (N : Int) := by omega
      have HO := hid ho
      have HB := hid hb
      have HBs := hb.size
      have HX := hid hX
      have HQO := hid hqo
      clear ho hb hX hlen hq hrow o0
      go_wp2_with fail
      refine (hPL.out _).mono ?_
      rintro e w' ⟨rfl, m, rfl⟩
      go_wp2
      go_roundg (n - (k + 1))
      case measure => omega
      case rel =>
        have h1 := (own_drewN HO.out m).stored q (.int .i64 (X + 1))
        have h2 : (intV (oftenTo l N k)).set q (.int .i64 (X + 1)) = intV (oftenTo l N (k + 1)) := by
          rw [hst.out, stepO, HX.out]
          have e : (oftenTo l N k).getD q 0 = (oftenTo l N k)[q]'HQO.out := by simp [List.getD, HQO.out]
          rw [e]
          simp [intV, List.map_set]
        rw [h2] at h1
        exact ⟨k + 1, by omega, rfl, by go_num, h1.1, (below_drewN HB.out m).trans (below_of_grown (own_drewN HO.out m) h1.2 HBs)⟩
    · obtain rfl : k = n := by omega
      go_wp2
      go_ret
      have e : oftenL l = oftenTo l N k := by rw [oftenL, ← HN.out, hl.out]
      rw [e]
      exact ⟨_, rfl, by rw [often_len]; exact ho, hb⟩

theorem counts_any (A : Option Addr) (n c : Nat) (l : List (List UInt8)) (w : World) (hr : Rd w A n (strV l)) (hs : smallB l = true) :
    Calls Try.prog 58 #[.slice A n c] w (OneI w (oftenL l)) := by
  have hln : l.length = n := by have := hr.1; rw [strV_len] at this; exact this
  simp only [smallB, Bool.and_eq_true, decide_eq_true_eq] at hs
  obtain ⟨⟨hrows, hpos⟩, h6⟩ := hs
  have hn8 : n ≤ 800 := by rw [← hln]; exact rowsB_len hrows
  have hfac := fact_le (l.headD []).length (by omega)
  have HROW := hid (fun k (hk : k < l.length) => rowsB_row hrows hk)
  have hl := hid hln
  have RS := hid hr
  obtain ⟨b, o, rfl, hj0, hc0⟩ := hr.str (show 0 < n by omega)
  rw [headD_at' l hj0] at hc0
  have hc1 : w.cell? ⟨b, o, none⟩ = some (.string (bs (l.headD []))) := hc0
  obtain ⟨F, hF⟩ : ∃ F, F = l.headD [] := ⟨_, rfl⟩
  obtain ⟨N, hN⟩ : ∃ N, N = factL (l.headD []).length := ⟨_, rfl⟩
  have hFa := hid (fun w => factorial_any F.length w (by rw [hF]; omega))
  rw [hF, ← hN, ← hF] at hFa
  rw [← hN] at hfac
  rw [← hF] at hc1
  have hmk := make_int N (by omega)
  have i0 : (0 : Int) < (n : Int) := by omega
  have HN := hid hN
  clear hc0 hF hN hrows hpos h6 hln hr
  go_enter Try.func58, Try.ntmps58
  go_wp2_with fail
  refine (hFa.out _).mono ?_
  rintro e w' ⟨rfl, rfl⟩
  go_wp2
  have o0 := own_of_blk (Blk.new w 3 (intV (List.replicate N 0)).toArray) (Nat.le_refl _) (by simp [intV, maxLen]; omega)
  have e0 : (intV (List.replicate N 0)).toArray.size = N := by simp [intV]
  rw [e0] at o0
  clear e0
  go_loopg [14] n (fun gk u wr => ∃ k : Nat, k ≤ n ∧ gk = n - k ∧ u = .int .i64 k ∧ wr.ownsRow w.heap.size 3 1 (.slice (some ⟨w.heap.size, 0, none⟩) N N) N (intV (oftenTo l N k)) ∧ Below w.heap.size w wr)
  case atStart => exact ⟨0, by omega, by omega, rfl, by simpa [oftenTo] using o0, (Below.refl _ _).alloc (Nat.le_refl _) _⟩
  case round =>
    obtain ⟨k, hk, rfl, rfl, ho, hb⟩ := hrel
    by_cases hlt : k < n
    · obtain ⟨b2, o2, hA, hj', hc⟩ := (RS.out.below hb).str hlt
      injection hA with hA
      injection hA with e1 e2 e3
      subst e1 e2
      have hrow := HROW.out k hj'
      have hql := rank_lt l[k]
      rw [hrow.2, ← HN.out] at hql
      have hst := hid (often_step l N k hj')
      have hPL := hid (fun w => rankOf_any l[k] w hrow.1.hi)
      obtain ⟨q, hq⟩ : ∃ q, q = rankL l[k] := ⟨_, rfl⟩
      rw [← hq] at hql hst hPL
      have hlen := often_len l N k
      have hqo : q < (oftenTo l N k).length := by omega
      have hbd := often_bound l N k (by omega) _ (List.getElem_mem hqo)
      have hcq := (ho.cellAt q (by omega)).trans (List.getElem?_eq_getElem (show q < (intV (oftenTo l N k)).length by rw [intV_len]; exact hqo))
      rw [intV_at] at hcq
      have hfq := ho.frozenAt q
      obtain ⟨X, hX⟩ : ∃ X, X = (oftenTo l N k)[q] := ⟨_, rfl⟩
      rw [← hX] at hcq hbd
      have hwx := IntWalk.i64_in (X + 1) (by omega)
      have hk0 : (0 : Int) ≤ (k : Int) := by omega
      have hk1 : (k : Int) < (n : Int) := by omega
      have hq0 : (0 : Int) ≤ (q : Int) := by omega
      have hq1 : (q : Int) < (N : Int) := by omega
      have HO := hid ho
      have HB := hid hb
      have HBs := hb.size
      have HX := hid hX
      have HQO := hid hqo
      clear ho hb hX hlen hq hrow o0
      go_wp2_with fail
      refine (hPL.out _).mono ?_
      rintro e w' ⟨rfl, m, rfl⟩
      go_wp2
      go_roundg (n - (k + 1))
      case measure => omega
      case rel =>
        have h1 := (own_drewN HO.out m).stored q (.int .i64 (X + 1))
        have h2 : (intV (oftenTo l N k)).set q (.int .i64 (X + 1)) = intV (oftenTo l N (k + 1)) := by
          rw [hst.out, stepO, HX.out]
          have e : (oftenTo l N k).getD q 0 = (oftenTo l N k)[q]'HQO.out := by simp [List.getD, HQO.out]
          rw [e]
          simp [intV, List.map_set]
        rw [h2] at h1
        exact ⟨k + 1, by omega, rfl, by go_num, h1.1, (below_drewN HB.out m).trans (below_of_grown (own_drewN HO.out m) h1.2 HBs)⟩
    · obtain rfl : k = n := by omega
      go_wp2
      go_ret
      have e : oftenL l = oftenTo l N k := by rw [oftenL, ← HN.out, hl.out]
      rw [e]
      exact ⟨_, rfl, by rw [often_len]; exact ho, hb⟩
end Go.Proofs.Ytecplhpioohhmaa
