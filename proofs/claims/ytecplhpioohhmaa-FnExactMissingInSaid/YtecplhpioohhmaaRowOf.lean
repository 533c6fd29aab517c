/- Contracts of the row with a rank, in the reference. No conditions beyond those stated. -/
import Derived.Test.YtecplhpioohhmaaRowOfP
import Derived.Test.YtecplhpioohhmaaRow2
set_option linter.unusedVariables false
set_option linter.unusedSimpArgs false
set_option maxRecDepth 100000
namespace Go.Proofs.Ytecplhpioohhmaa
open Go.RowKit

theorem take1_at (l : List UInt8) (k : Nat) (h : k < l.length) : List.take 1 (List.drop k l) = [l[k]] := by
  rw [List.drop_eq_getElem_cons h]; rfl
theorem fact_succ (m : Nat) : factL (m + 1) = (m + 1) * factL m := rfl
theorem unr_idx {m k : Nat} (h : k < factL (m + 1)) : k / factL m ≤ m := by
  rw [fact_succ] at h
  have := (Nat.div_lt_iff_lt_mul (fact_pos m)).2 h
  omega
set_option maxHeartbeats 1000000 in
theorem specRowOf_any (n k : Nat) (w : World) (lo : 3 ≤ n) (hi : n ≤ 8) (hk : k < factL n) :
    Calls Try.prog 68 #[.int .i64 n, .int .i64 k] w fun e w' => e = .returned (.tuple #[.string (bs (unrL n k)), .bool true]) ∧ ∃ m, w' = w.drewN m := by
  have hF := fact_le n hi
  have HFn := hid (fun w0 => l1Fact_any n w0 (by omega))
  have HFm := hid (fun m (hm : m ≤ 8) w0 => l1Fact_any m w0 hm)
  have HRd := hid (fun w0 => l1Rounds_any n w0 hi)
  have HI := hid (fun (a lo hi : Int) w0 => l1In_any a lo hi w0)
  obtain ⟨F, hFF⟩ : ∃ F, F = factL n := ⟨_, rfl⟩
  rw [← hFF] at HFn hk hF
  have HKF := hid (show k < factL n by rw [← hFF]; exact hk)
  have d1 : decide ((3 : Int) ≤ (n : Int)) = true := by simp; omega
  have d2 : decide ((n : Int) ≤ 8) = true := by simp; omega
  have d3 : decide ((0 : Int) ≤ (k : Int)) = true := by simp
  have d4 : decide ((k : Int) ≤ (F : Int) - 1) = true := by simp; omega
  have hn0 : (0 : Int) ≤ (n : Int) := by omega
  have hF1 : (F : Int) ≤ 40320 := by omega
  have hF0 : (1 : Int) ≤ (F : Int) := by omega
  clear hFF
  go_enter Try.func68, Try.ntmps68
  go_wp2_with (first | (go_at_call 60; refine (HI.out _ _ _ _).mono ?_; rintro e w' ⟨rfl, rfl⟩) | (go_at_call 85; refine (HFn.out _).mono ?_; rintro e w' ⟨rfl, rfl⟩) | (go_at_call 94; refine (HRd.out _).mono ?_; rintro e w' ⟨rfl, rfl⟩))
  go_loopg [1, 6, 7] n (fun gk x u v wr => ∃ (m j : Nat) (rest out : List UInt8) (q : Nat), m ≤ n ∧ gk = m ∧ x = .int .i64 j ∧ u = .string (bs rest) ∧ v = .string (bs out) ∧ rest.length = m ∧ out.length + m = n ∧ Hid (j < factL m) ∧ Hid (out ++ unrF m rest j = unrL n k) ∧ wr = w.drewN q)
  case atStart => exact ⟨n, k, roundsL n, [], 0, by omega, rfl, rfl, rfl, rfl, rounds_len n, by simp, HKF, rfl, rfl⟩
  case round =>
    obtain ⟨m, j, rest, out, q, hm, rfl, rfl, rfl, rfl, hrl, hol, hjf, hun, rfl⟩ := hrel
    rcases Nat.eq_zero_or_pos gk with h0 | h0
    · subst h0
      have hr0 : rest = [] := List.length_eq_zero_iff.1 hrl
      subst hr0
      have HE := hid (show out = unrL n k by rw [← hun.out]; simp [unrF])
      go_wp2
      go_ret2
      rw [HE.out]
      exact ⟨rfl, _, rfl⟩
    · obtain ⟨m, rfl⟩ : ∃ m, gk = m + 1 := ⟨gk - 1, by omega⟩
      have hdl := unr_idx hjf.out
      have HML := hid (Nat.mod_lt j (fact_pos m))
      have hfp := fact_pos m
      have hfl := fact_le m (by omega)
      have hjl := Nat.lt_of_lt_of_le hjf.out (fact_le (m + 1) (by omega))
      have HFc := hid (fun w0 => HFm.out m (by omega) w0)
      have HUN := hid (show out ++ (rest.getD (j / factL m) 0 :: unrF m (rest.take (j / factL m) ++ rest.drop (j / factL m + 1)) (j % factL m)) = unrL n k from hun.out)
      obtain ⟨G, hG⟩ : ∃ G, G = factL m := ⟨_, rfl⟩
      rw [← hG] at hdl HML hfp hfl HFc HUN
      obtain ⟨d, hd⟩ : ∃ d, d = j / G := ⟨_, rfl⟩
      obtain ⟨r, hr⟩ : ∃ r, r = j % G := ⟨_, rfl⟩
      rw [← hd] at hdl HUN
      rw [← hr] at HML HUN
      have hq1 : (j : Int) / (G : Int) = (d : Int) := by rw [hd, Int.natCast_ediv]
      have hq2 : (j : Int) % (G : Int) = (r : Int) := by rw [hr, Int.natCast_emod]
      have HMG := hid (show r < factL m by rw [← hG]; exact HML.out)
      have HRL := hid hrl
      have hrl2 : (rest.length : Int) = (m : Int) + 1 := by omega
      have g0 : ((G : Int) == 0) = false := by simp; omega
      have g1 : (G : Int) ≠ 0 := by omega
      have k0 : (0 : Int) ≤ (d : Int) := by omega
      have k1 : (d : Int) + 1 ≤ (m : Int) + 1 := by omega
      have k2 : (d : Int) ≤ (m : Int) + 1 := by omega
      have k3 : (0 : Int) ≤ (m : Int) := by omega
      have hdr : d < rest.length := by omega
      have HT1 := hid (take1_at rest d hdr)
      have HGD := hid (gd_at rest d hdr)
      have hrest : rest.length ≤ 8 := by omega
      have hout : out.length ≤ 8 := by omega
      clear hd hr hG hun hjf hrl
      go_wp2_with (first | (go_at_call 85; refine (HFc.out _).mono ?_; rintro e w' ⟨rfl, rfl⟩))
      go_quiet (fail)
      go_wp2
      go_roundg m
      case measure => omega
      case rel =>
        exact ⟨m, r, rest.take d ++ rest.drop (d + 1), out ++ List.take 1 (List.drop d rest), _, by omega, rfl, by first | rfl | rw [hq2], by first | rfl | go_num, by first | rfl | go_num, by rw [List.length_append, List.length_take, List.length_drop, HRL.out]; omega, by rw [List.length_append, HT1.out, List.length_singleton]; omega, HMG, hid (by rw [HT1.out, ← HGD.out, List.append_assoc]; exact HUN.out), by first | (rw [World.drewN_drewN]; done) | rfl⟩
end Go.Proofs.Ytecplhpioohhmaa
