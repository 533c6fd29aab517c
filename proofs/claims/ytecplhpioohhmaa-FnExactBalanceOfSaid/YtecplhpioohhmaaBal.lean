/- Contracts of BalanceOf, in the reference and in the program. No conditions beyond those stated. -/
import Derived.Test.YtecplhpioohhmaaLGoodSplice
import Derived.Test.YtecplhpioohhmaaOften
set_option linter.unusedVariables false
set_option linter.unusedSimpArgs false
set_option maxRecDepth 100000
namespace Go.Proofs.Ytecplhpioohhmaa
open Go.RowKit

/-- How many of the first k leads each of N methods has. -/
def balTo (l : List UInt8) (N k : Nat) : List Int := (List.range k).foldl (fun h i => stepO h ((l.getD (2 * i) 0).toNat - 65)) (List.replicate N 0)
theorem bal_step (l : List UInt8) (N k : Nat) : balTo l N (k + 1) = stepO (balTo l N k) ((l.getD (2 * k) 0).toNat - 65) := by
  unfold balTo
  rw [List.range_succ, List.foldl_append]; rfl
theorem bal_len (l : List UInt8) (N : Nat) : ∀ k, (balTo l N k).length = N
  | 0 => by simp [balTo]
  | k + 1 => by rw [bal_step, stepO, List.length_set, bal_len l N k]
theorem bal_bound (l : List UInt8) (N : Nat) : ∀ k, ∀ x ∈ balTo l N k, 0 ≤ x ∧ x ≤ k
  | 0, x, hx => by simp [balTo] at hx; omega
  | k + 1, x, hx => by
    rw [bal_step, stepO] at hx
    have ih := bal_bound l N k
    obtain ⟨r, hr⟩ : ∃ r, r = (l.getD (2 * k) 0).toNat - 65 := ⟨_, rfl⟩
    rw [← hr] at hx
    rcases List.mem_or_eq_of_mem_set hx with h1 | h1
    · have := ih x h1; omega
    · subst h1
      by_cases hq : r < (balTo l N k).length
      · have := ih _ (List.getElem_mem hq)
        have e : (balTo l N k).getD r 0 = (balTo l N k)[r] := by simp [List.getD, hq]
        rw [e]; omega
      · have e : (balTo l N k).getD r 0 = 0 := by simp [List.getD, hq]
        rw [e]; omega
/-- What BalanceOf answers. -/
def balR (n : Nat) (l : List UInt8) : List Int × Bool := if isSpliceL n l = true then (balTo l n (l.length / 2), true) else ([], false)
theorem balR_le (n : Nat) (l : List UInt8) : (balR n l).1.length ≤ 4 := by
  unfold balR
  split
  · rename_i h
    simp [isSpliceL] at h
    show (balTo l n (l.length / 2)).length ≤ 4
    rw [bal_len]; omega
  · simp
theorem bal_set (l : List UInt8) (N k q : Nat) (X : Int) (hq : q < (balTo l N k).length) (e : (l.getD (2 * k) 0).toNat - 65 = q) (hX : X = (balTo l N k)[q]) :
    (intV (balTo l N k)).set q (.int .i64 (X + 1)) = intV (balTo l N (k + 1)) := by
  rw [bal_step, stepO, e, hX]
  have e : (balTo l N k).getD q 0 = (balTo l N k)[q] := by simp [List.getD, hq]
  rw [e]
  simp [intV, List.map_set]
set_option maxHeartbeats 1000000 in
theorem specBal_any (A : Option Addr) (n c : Nat) (l : List UInt8) (w : World) (hl : l.length ≤ 1048576) (hn : n ≤ 1048576) :
    Calls Try.prog 19 #[.slice A n c, .string (bs l)] w (ResI w (balR n l)) := by
  have HS := hid (fun w0 => l14Good_any (n : Int) l w0 hl (by omega) (by omega))
  cases h : isSpliceL n l
  · have HR := hid (show balR n l = ([], false) by simp [balR, h])
    rw [h] at HS
    clear h
    go_enter Try.func19, Try.ntmps19
    go_wp2_with fail
    refine (HS.out _).mono ?_
    rintro e w' ⟨rfl, rfl⟩
    go_wp2_with fail
    go_ret2
    rw [HR.out]
    exact ResI.none _ _ (Below.refl _ _)
  · have HR := hid (show balR n l = (balTo l n (l.length / 2), true) by simp [balR, h])
    obtain ⟨hmod, _, hlen⟩ := isSpliceL_len h
    have HMOD := hid hmod
    have HP := hid (fun (k i : Nat) (hi : i = 2 * k) (hlt : i + 1 < l.length) => isSpliceL_pair h k i hi hlt)
    have hmk := make_int n (by omega)
    rw [h] at HS
    clear h hmod
    go_enter Try.func19, Try.ntmps19
    go_wp2_with fail
    refine (HS.out _).mono ?_
    rintro e w' ⟨rfl, rfl⟩
    go_wp2
    have o0 := own_of_blk (Blk.new w 3 (intV (List.replicate n 0)).toArray) (Nat.le_refl _) (by simp [intV, maxLen]; omega)
    have e0 : (intV (List.replicate n 0)).toArray.size = n := by simp [intV]
    rw [e0] at o0
    clear e0
    go_loopg [7] l.length (fun gk u wr => ∃ j k : Nat, j ≤ l.length ∧ Hid (j = 2 * k) ∧ gk = l.length - j ∧ u = .int .i64 j ∧ wr.ownsRow w.heap.size 3 1 (.slice (some ⟨w.heap.size, 0, none⟩) n n) n (intV (balTo l n k)) ∧ Below w.heap.size w wr)
    case atStart => exact ⟨0, 0, by omega, hid rfl, by omega, rfl, by simpa [balTo] using o0, (Below.refl _ _).alloc (Nat.le_refl _) _⟩
    case round =>
      obtain ⟨j, k, hj, hjk, rfl, rfl, ho, hb⟩ := hrel
      by_cases hlt : j < l.length
      · have hlt2 : j + 1 < l.length := by have := hjk.out; have := HMOD.out; omega
        have hp := HP.out k j hjk.out hlt2
        obtain ⟨q, hq⟩ : ∃ q, q = l[j].toNat - 65 := ⟨_, rfl⟩
        have hqn : q < n := by omega
        have hql : (l[j].toNat : Int) - 65 = (q : Int) := by omega
        have hwq0 : wrap64 (l[j].toNat : Int) = (l[j].toNat : Int) := by have := UInt8.toNat_lt l[j]; unfold wrap64; omega
        have hwq : wrap64 ((l[j].toNat : Int) - 65) = (q : Int) := by rw [← hql]; have := UInt8.toNat_lt l[j]; unfold wrap64; omega
        have hlen2 := bal_len l n k
        have hqo : q < (balTo l n k).length := by omega
        have hbd := bal_bound l n k _ (List.getElem_mem hqo)
        have hcq := (ho.cellAt q (by omega)).trans (List.getElem?_eq_getElem (show q < (intV (balTo l n k)).length by rw [intV_len]; exact hqo))
        rw [intV_at] at hcq
        have hfq := ho.frozenAt q
        obtain ⟨X, hX⟩ : ∃ X, X = (balTo l n k)[q] := ⟨_, rfl⟩
        rw [← hX] at hcq hbd
        have hkb : k ≤ 60 := by have := hjk.out; omega
        have hwx := IntWalk.i64_in (X + 1) (by omega)
        have hk0 : (0 : Int) ≤ (j : Int) := by omega
        have hk1 : (j : Int) < (l.length : Int) := by omega
        have hq0 : (0 : Int) ≤ (q : Int) := by omega
        have hq1 : (q : Int) < (n : Int) := by omega
        have HQ := hid (show (l.getD (2 * k) 0).toNat - 65 = q by rw [← hjk.out, getD_at l j hlt]; exact hq.symm)
        have HO := hid ho
        have HB := hid hb
        have HBs := hb.size
        have HX := hid hX
        have HQO := hid hqo
        have HLT2 := hid hlt2
        clear ho hb hX hlen2 hq o0 hp hlt2 hql
        go_wp2_with fail
        go_roundg (l.length - (j + 2))
        case measure => omega
        case rel =>
          have h1 := HO.out.stored q (.int .i64 (X + 1))
          rw [bal_set l n k q X HQO.out HQ.out HX.out] at h1
          have := HLT2.out
          exact ⟨j + 2, k + 1, by omega, hid (by have := hjk.out; omega), rfl, by go_num, h1.1, HB.out.trans (below_of_grown HO.out h1.2 HBs)⟩
      · obtain rfl : j = l.length := by omega
        go_wp2
        go_ret2
        rw [HR.out]
        have hk : k = l.length / 2 := by have := hjk.out; omega
        rw [hk] at ho
        exact ⟨_, rfl, by rw [bal_len]; exact ho, hb⟩
set_option maxHeartbeats 1000000 in
theorem implBal_any (A : Option Addr) (n c : Nat) (l : List UInt8) (w : World) (hl : l.length ≤ 1048576) (hn : n ≤ 1048576) :
    Calls Try.prog 20 #[.slice A n c, .string (bs l)] w (ResI w (balR n l)) := by
  have HS := hid (fun w0 => implGoodSplice_any A n c l w0 hl hn)
  cases h : isSpliceL n l
  · have HR := hid (show balR n l = ([], false) by simp [balR, h])
    rw [h] at HS
    clear h
    go_enter Try.func20, Try.ntmps20
    go_wp2_with fail
    refine (HS.out _).mono ?_
    rintro e w' ⟨rfl, rfl⟩
    go_wp2_with fail
    go_ret2
    rw [HR.out]
    exact ResI.none _ _ (Below.refl _ _)
  · obtain ⟨N, hN⟩ : ∃ N, N = l.length / 2 := ⟨_, rfl⟩
    have HR := hid (show balR n l = (balTo l n N, true) by simp [balR, h, hN])
    obtain ⟨hmod, _, hlen⟩ := isSpliceL_len h
    have HMOD := hid hmod
    have HP := hid (fun (k i : Nat) (hi : i = 2 * k) (hlt : i + 1 < l.length) => isSpliceL_pair h k i hi hlt)
    have hmk := make_int n (by omega)
    have hN2 := hid (show l.length = 2 * N by omega)
    have hq2 : (l.length : Int).tdiv 2 = (N : Int) := by rw [Int.tdiv_eq_ediv_of_nonneg (by omega)]; omega
    have hq3 : (l.length : Int) / 2 = (N : Int) := by omega
    have hNb : N ≤ 60 := by omega
    rw [h] at HS
    clear h hmod hN
    go_enter Try.func20, Try.ntmps20
    go_wp2_with fail
    refine (HS.out _).mono ?_
    rintro e w' ⟨rfl, rfl⟩
    go_wp2
    have o0 := own_of_blk (Blk.new w 3 (intV (List.replicate n 0)).toArray) (Nat.le_refl _) (by simp [intV, maxLen]; omega)
    have e0 : (intV (List.replicate n 0)).toArray.size = n := by simp [intV]
    rw [e0] at o0
    clear e0
    go_loopg [18] N (fun gk u wr => ∃ k : Nat, k ≤ N ∧ gk = N - k ∧ u = .int .i64 k ∧ wr.ownsRow w.heap.size 3 1 (.slice (some ⟨w.heap.size, 0, none⟩) n n) n (intV (balTo l n k)) ∧ Below w.heap.size w wr)
    case atStart => exact ⟨0, by omega, by omega, rfl, by simpa [balTo] using o0, (Below.refl _ _).alloc (Nat.le_refl _) _⟩
    case round =>
      obtain ⟨k, hk, rfl, rfl, ho, hb⟩ := hrel
      by_cases hlt : k < N
      · have hlt2 : 2 * k + 1 < l.length := by have := hN2.out; omega
        have hp := HP.out k (2 * k) rfl hlt2
        have hM := hid (fun w0 => methodAt_any l (k : Int) k w0 rfl hl (by omega) hp.1)
        obtain ⟨q, hq⟩ : ∃ q, q = l[2 * k].toNat - 65 := ⟨_, rfl⟩
        have hqn : q < n := by omega
        have hql : (l[2 * k].toNat : Int) - 65 = (q : Int) := by omega
        rw [hql] at hM
        have hlen2 := bal_len l n k
        have hqo : q < (balTo l n k).length := by omega
        have hbd := bal_bound l n k _ (List.getElem_mem hqo)
        have hcq := (ho.cellAt q (by omega)).trans (List.getElem?_eq_getElem (show q < (intV (balTo l n k)).length by rw [intV_len]; exact hqo))
        rw [intV_at] at hcq
        have hfq := ho.frozenAt q
        obtain ⟨X, hX⟩ : ∃ X, X = (balTo l n k)[q] := ⟨_, rfl⟩
        rw [← hX] at hcq hbd
        have hwx := IntWalk.i64_in (X + 1) (by omega)
        have hk0 : (0 : Int) ≤ (k : Int) := by omega
        have hk1 : (k : Int) < (N : Int) := by omega
        have hq0 : (0 : Int) ≤ (q : Int) := by omega
        have hq1 : (q : Int) < (n : Int) := by omega
        have HQ := hid (show (l.getD (2 * k) 0).toNat - 65 = q by rw [getD_at l (2 * k) (by omega)]; exact hq.symm)
        have HO := hid ho
        have HB := hid hb
        have HBs := hb.size
        have HX := hid hX
        have HQO := hid hqo
        clear ho hb hX hlen2 hq o0 hp hlt2 hql
        go_wp2_with fail
        refine (hM.out _).mono ?_
        rintro e w' ⟨rfl, rfl⟩
        go_wp2
        go_roundg (N - (k + 1))
        case measure => omega
        case rel =>
          have h1 := HO.out.stored q (.int .i64 (X + 1))
          rw [bal_set l n k q X HQO.out HQ.out HX.out] at h1
          exact ⟨k + 1, by omega, rfl, by go_num, h1.1, HB.out.trans (below_of_grown HO.out h1.2 HBs)⟩
      · obtain rfl : k = N := by omega
        go_wp2
        go_ret2
        rw [HR.out]
        exact ⟨_, rfl, by rw [bal_len]; exact ho, hb⟩
end Go.Proofs.Ytecplhpioohhmaa
