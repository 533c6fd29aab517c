/- Contracts of the small functions that read numbers and cut a text. No conditions beyond those stated. -/
import Derived.Test.YtihaopijnkiafaaGreatDoorRdR
set_option linter.unusedVariables false
set_option linter.unusedSimpArgs false
set_option maxRecDepth 100000
namespace Go.Proofs.YtihaopijnkiafaaGreatDoor
open Go.RowKit

theorem numV_succ {s : List UInt8} {i : Nat} (h : i < s.length) : numV (s.take (i + 1)) = 10 * numV (s.take i) + (s[i].toNat - 48) := by
  unfold numV
  rw [List.take_succ_eq_append_getElem h, List.foldl_append]
  rfl
theorem digs_succ {s : List UInt8} {i : Nat} (h : i < s.length) : (s.take (i + 1)).all digB = ((s.take i).all digB && digB s[i]) := by
  rw [List.take_succ_eq_append_getElem h, List.all_append]
  simp
theorem digB_yes {x : UInt8} (h : digB x = true) : 48 ≤ x.toNat ∧ x.toNat ≤ 57 := by
  unfold digB at h; simp at h; omega
theorem numV_lt {s : List UInt8} (i : Nat) (hi : i ≤ s.length) (h : (s.take i).all digB = true) : numV (s.take i) < 10 ^ i := by
  induction i with
  | zero => simp [numV]
  | succ i ih =>
    rw [digs_succ (by omega), Bool.and_eq_true] at h
    have := ih (by omega) h.1
    have := digB_yes h.2
    rw [numV_succ (by omega), Nat.pow_succ]
    omega
theorem dig_stop {s : List UInt8} {i : Nat} (h : i < s.length) (hd : digB s[i] = false) : s.all digB = false := by
  cases ha : s.all digB
  · rfl
  · rw [List.all_eq_true] at ha
    rw [ha _ (List.getElem_mem h)] at hd
    cases hd
theorem numF_no {m : Nat} {s : List UInt8} (h : (lenB m s && s.all digB) = false) : numF m s = (0, false) := by unfold numF; rw [h]; rfl
theorem numF_yes {m : Nat} {s : List UInt8} (h : lenB m s = true) (h2 : s.all digB = true) : numF m s = (numV s, true) := by unfold numF; rw [h, h2]; rfl
theorem readF_no {s : List UInt8} (h : (lenB 6 s && s.all digB) = false) : readF s = -1 := by unfold readF; rw [h]; rfl
theorem readF_yes {s : List UInt8} (h : lenB 6 s = true) (h2 : s.all digB = true) : readF s = (numV s : Int) := by unfold readF; rw [h, h2]; rfl
theorem not48 {x : UInt8} (h : (x == 48) = false) : ¬ ((x.toNat : Int) = 48) := by
  intro e
  have : x = 48 := UInt8.toNat_inj.mp (by show x.toNat = 48; omega)
  rw [this] at h
  revert h; decide
set_option maxHeartbeats 1000000 in
theorem number_any (s : List UInt8) (w : World) (hs : s.length ≤ 1048576) :
    Calls Tryz.prog 65 #[.string (bs s), .int .i64 2] w fun e w' => e = .returned (.tuple #[.int .i64 ((numF 2 s).1 : Int), .bool (numF 2 s).2]) ∧ w = w' := by
  by_cases h1 : s.length < 1
  · have HR := hid (numF_no (m := 2) (s := s) (by unfold lenB; simp; omega))
    have h1i : (s.length : Int) < 1 := by omega
    go_enter Tryz.func65, Tryz.ntmps65
    go_wp2
    go_ret2
    rw [HR.out]
    exact ⟨rfl, rfl⟩
  by_cases h2 : 2 < s.length
  · have HR := hid (numF_no (m := 2) (s := s) (by unfold lenB; simp; omega))
    have h1i : ¬ (s.length : Int) < 1 := by omega
    have h2i : (2 : Int) < (s.length : Int) := by omega
    go_enter Tryz.func65, Tryz.ntmps65
    go_wp2
    go_ret2
    rw [HR.out]
    exact ⟨rfl, rfl⟩
  have h1i : ¬ (s.length : Int) < 1 := by omega
  have h2i : ¬ (2 : Int) < (s.length : Int) := by omega
  have hc0 : 0 < s.length := by omega
  by_cases hz : 1 < s.length ∧ s[0] = 48
  · have HR := hid (numF_no (m := 2) (s := s) (by unfold lenB; simp [List.getD_eq_getElem?_getD, hc0, hz.2]; omega))
    have h3i : (1 : Int) < (s.length : Int) := by omega
    obtain ⟨hz1, hz2⟩ := hz
    have hz3 : ((s[0].toNat : Int) = 48) := by rw [hz2]; rfl
    go_enter Tryz.func65, Tryz.ntmps65
    go_wp2
    go_ret2
    rw [HR.out]
    exact ⟨rfl, rfl⟩
  have hz3 : (decide (1 < s.length) && (s[0] == 48)) = false := by
    by_cases h : s[0] = 48
    · have : ¬ 1 < s.length := fun hl => hz ⟨hl, h⟩
      simp [this]
    · simp [h]
  have HL := hid (show lenB 2 s = true by
    unfold lenB
    rw [show s.getD 0 0 = s[0] by simp [List.getD_eq_getElem?_getD, hc0], hz3]
    simp; omega)
  have HY := hid (fun (h : s.all digB = true) => numF_yes (m := 2) HL.out h)
  have HN := hid (fun (i : Nat) (h : i < s.length) (hd : digB s[i] = false) => numF_no (m := 2) (s := s) (by rw [dig_stop h hd, Bool.and_false]))
  have HV := hid (show ∀ i, i < s.length → (s.take i).all digB = true → numV (s.take i) < 1000000 from fun (i : Nat) hi h => by
    have h5 := numV_lt (s := s) i (by omega) h
    have h6 : 10 ^ i ≤ 10 ^ 6 := Nat.pow_le_pow_right (by decide) (by omega)
    omega)
  have hz4 : ((1 : Int) < (s.length : Int)) → (s[0] == 48) = false := fun h => by
    simp at hz3; simpa using hz3 (by omega)
  have hl2 : s.length ≤ 2 := by omega
  clear hz hz3 h1 h2 HL
  by_cases hlen : s.length = 1
  · have h3i : ¬ (1 : Int) < (s.length : Int) := by omega
    clear hz4
    go_enter Tryz.func65, Tryz.ntmps65
    go_wp2
    go_loopg [6, 29] s.length (fun gk u v wr => ∃ i : Nat, i ≤ s.length ∧ gk = s.length - i ∧ u = .int .i64 (numV (s.take i) : Int) ∧ v = .int .i64 (i : Int) ∧ Hid ((s.take i).all digB = true) ∧ w = wr)
    case atStart => exact ⟨0, by omega, by omega, rfl, rfl, hid rfl, rfl⟩
    case round =>
      obtain ⟨i, hi, rfl, rfl, rfl, hd, rfl⟩ := hrel
      by_cases hlt : i < s.length
      · have i0 : (0 : Int) ≤ (i : Int) := by omega
        have i1 : (i : Int) < (s.length : Int) := by omega
        have hv := HV.out i hlt hd.out
        have HS := hid (numV_succ hlt)
        have HA := hid (digs_succ hlt)
        have HNi := hid (HN.out i hlt)
        have HDY := hid (fun (h : digB s[i] = true) => digB_yes h)
        have HDN := hid (show digB s[i] = false → s[i].toNat < 48 ∨ 57 < s[i].toNat from fun h => by unfold digB at h; simp at h; omega)
        have hd1 := hd.out
        clear hd
        generalize numV (s.take i) = V at *
        by_cases hb : digB s[i] = true
        · have hx := HDY.out hb
          have HD := hid (show (s.take (i + 1)).all digB = true by rw [HA.out, hd1, hb]; rfl)
          have HV1 := hid (HS.out)
          have hx1 : ¬ (s[i].toNat : Int) < 48 := by omega
          have hx2 : ¬ (57 : Int) < (s[i].toNat : Int) := by omega
          have hx3 : IntKind.i64.wrap (IntKind.i64.wrap (10 * (V : Int)) + ((s[i].toNat : Int) - 48)) = ((10 * V + (s[i].toNat - 48) : Nat) : Int) := by rw [IntWalk.i64_in (10 * (V : Int)) (by omega), IntWalk.i64_in _ (by omega)]; omega
          clear hb HA HNi HDY HDN hd1 HS
          go_wp2
          go_roundg (s.length - (i + 1))
          case measure => omega
          case rel => exact ⟨i + 1, by omega, rfl, by rw [HV1.out]; go_num, by go_num, HD, rfl⟩
        · have hb1 : digB s[i] = false := by simpa using hb
          have HR := hid (HNi.out hb1)
          have hx := HDN.out hb1
          clear hb hb1 HA HNi HDY HDN hd1 HS
          by_cases hlo : s[i].toNat < 48
          · have hx1 : (s[i].toNat : Int) < 48 := by omega
            clear hx hlo
            go_wp2
            go_ret2
            rw [HR.out]
            exact ⟨rfl, rfl⟩
          · have hx1 : ¬ (s[i].toNat : Int) < 48 := by omega
            have hx2 : (57 : Int) < (s[i].toNat : Int) := by omega
            clear hx hlo
            go_wp2
            go_ret2
            rw [HR.out]
            exact ⟨rfl, rfl⟩
      · obtain rfl : i = s.length := by omega
        have HR := hid (HY.out (by have := hd.out; rwa [List.take_length] at this))
        have hv := HR.out
        go_wp2
        go_ret2
        rw [HR.out, List.take_length]
        exact ⟨rfl, rfl⟩
  · have h3i : (1 : Int) < (s.length : Int) := by omega
    have hz6 := hz4 h3i
    have hz5 : ¬ ((s[0].toNat : Int) = 48) := not48 hz6
    clear hz4 hz6
    go_enter Tryz.func65, Tryz.ntmps65
    go_wp2
    go_loopg [6, 29] s.length (fun gk u v wr => ∃ i : Nat, i ≤ s.length ∧ gk = s.length - i ∧ u = .int .i64 (numV (s.take i) : Int) ∧ v = .int .i64 (i : Int) ∧ Hid ((s.take i).all digB = true) ∧ w = wr)
    case atStart => exact ⟨0, by omega, by omega, rfl, rfl, hid rfl, rfl⟩
    case round =>
      obtain ⟨i, hi, rfl, rfl, rfl, hd, rfl⟩ := hrel
      by_cases hlt : i < s.length
      · have i0 : (0 : Int) ≤ (i : Int) := by omega
        have i1 : (i : Int) < (s.length : Int) := by omega
        have hv := HV.out i hlt hd.out
        have HS := hid (numV_succ hlt)
        have HA := hid (digs_succ hlt)
        have HNi := hid (HN.out i hlt)
        have HDY := hid (fun (h : digB s[i] = true) => digB_yes h)
        have HDN := hid (show digB s[i] = false → s[i].toNat < 48 ∨ 57 < s[i].toNat from fun h => by unfold digB at h; simp at h; omega)
        have hd1 := hd.out
        clear hd
        generalize numV (s.take i) = V at *
        by_cases hb : digB s[i] = true
        · have hx := HDY.out hb
          have HD := hid (show (s.take (i + 1)).all digB = true by rw [HA.out, hd1, hb]; rfl)
          have HV1 := hid (HS.out)
          have hx1 : ¬ (s[i].toNat : Int) < 48 := by omega
          have hx2 : ¬ (57 : Int) < (s[i].toNat : Int) := by omega
          have hx3 : IntKind.i64.wrap (IntKind.i64.wrap (10 * (V : Int)) + ((s[i].toNat : Int) - 48)) = ((10 * V + (s[i].toNat - 48) : Nat) : Int) := by rw [IntWalk.i64_in (10 * (V : Int)) (by omega), IntWalk.i64_in _ (by omega)]; omega
          clear hb HA HNi HDY HDN hd1 HS
          go_wp2
          go_roundg (s.length - (i + 1))
          case measure => omega
          case rel => exact ⟨i + 1, by omega, rfl, by rw [HV1.out]; go_num, by go_num, HD, rfl⟩
        · have hb1 : digB s[i] = false := by simpa using hb
          have HR := hid (HNi.out hb1)
          have hx := HDN.out hb1
          clear hb hb1 HA HNi HDY HDN hd1 HS
          by_cases hlo : s[i].toNat < 48
          · have hx1 : (s[i].toNat : Int) < 48 := by omega
            clear hx hlo
            go_wp2
            go_ret2
            rw [HR.out]
            exact ⟨rfl, rfl⟩
          · have hx1 : ¬ (s[i].toNat : Int) < 48 := by omega
            have hx2 : (57 : Int) < (s[i].toNat : Int) := by omega
            clear hx hlo
            go_wp2
            go_ret2
            rw [HR.out]
            exact ⟨rfl, rfl⟩
      · obtain rfl : i = s.length := by omega
        have HR := hid (HY.out (by have := hd.out; rwa [List.take_length] at this))
        have hv := HR.out
        go_wp2
        go_ret2
        rw [HR.out, List.take_length]
        exact ⟨rfl, rfl⟩
set_option maxHeartbeats 1000000 in
theorem l1Read_any (s : List UInt8) (w : World) (hs : s.length ≤ 1048576) :
    Calls Tryz.prog 30 #[.string (bs s)] w fun e w' => e = .returned (.int .i64 (readF s)) ∧ w = w' := by
  have GIN := hid (fun (w0 : World) => l1In_any (s.length : Int) 1 6 w0)
  by_cases h1 : s.length < 1
  · have HR := hid (readF_no (s := s) (by unfold lenB; simp; omega))
    have h1i : (s.length : Int) < 1 := by omega
    have hin : (decide (1 ≤ (s.length : Int)) && decide ((s.length : Int) ≤ 6)) = false := by simp; omega
    rw [hin] at GIN
    go_enter Tryz.func30, Tryz.ntmps30
    go_wp2_with fail
    refine (GIN.out _).mono ?_
    rintro e w1 ⟨rfl, rfl⟩
    go_wp2
    go_ret
    rw [HR.out]
    exact ⟨rfl, rfl⟩
  by_cases h2 : 6 < s.length
  · have HR := hid (readF_no (s := s) (by unfold lenB; simp; omega))
    have h1i : ¬ (s.length : Int) < 1 := by omega
    have h2i : (6 : Int) < (s.length : Int) := by omega
    have hin : (decide (1 ≤ (s.length : Int)) && decide ((s.length : Int) ≤ 6)) = false := by simp; omega
    rw [hin] at GIN
    go_enter Tryz.func30, Tryz.ntmps30
    go_wp2_with fail
    refine (GIN.out _).mono ?_
    rintro e w1 ⟨rfl, rfl⟩
    go_wp2
    go_ret
    rw [HR.out]
    exact ⟨rfl, rfl⟩
  have h1i : ¬ (s.length : Int) < 1 := by omega
  have h2i : ¬ (6 : Int) < (s.length : Int) := by omega
  have hc0 : 0 < s.length := by omega
  have hin : (decide (1 ≤ (s.length : Int)) && decide ((s.length : Int) ≤ 6)) = true := by simp; omega
  rw [hin] at GIN
  clear hin
  by_cases hz : 1 < s.length ∧ s[0] = 48
  · have HR := hid (readF_no (s := s) (by unfold lenB; simp [List.getD_eq_getElem?_getD, hc0, hz.2]; omega))
    have h3i : (1 : Int) < (s.length : Int) := by omega
    obtain ⟨hz1, hz2⟩ := hz
    have hz3 : ((s[0].toNat : Int) = 48) := by rw [hz2]; rfl
    go_enter Tryz.func30, Tryz.ntmps30
    go_wp2_with fail
    refine (GIN.out _).mono ?_
    rintro e w1 ⟨rfl, rfl⟩
    go_wp2
    go_ret
    rw [HR.out]
    exact ⟨rfl, rfl⟩
  have hz3 : (decide (1 < s.length) && (s[0] == 48)) = false := by
    by_cases h : s[0] = 48
    · have : ¬ 1 < s.length := fun hl => hz ⟨hl, h⟩
      simp [this]
    · simp [h]
  have HL := hid (show lenB 6 s = true by
    unfold lenB
    rw [show s.getD 0 0 = s[0] by simp [List.getD_eq_getElem?_getD, hc0], hz3]
    simp; omega)
  have HY := hid (fun (h : s.all digB = true) => readF_yes HL.out h)
  have HN := hid (fun (i : Nat) (h : i < s.length) (hd : digB s[i] = false) => readF_no (s := s) (by rw [dig_stop h hd, Bool.and_false]))
  have HV := hid (show ∀ i, i < s.length → (s.take i).all digB = true → numV (s.take i) < 1000000 from fun (i : Nat) hi h => by
    have h5 := numV_lt (s := s) i (by omega) h
    have h6 : 10 ^ i ≤ 10 ^ 6 := Nat.pow_le_pow_right (by decide) (by omega)
    omega)
  have hz4 : ((1 : Int) < (s.length : Int)) → (s[0] == 48) = false := fun h => by
    simp at hz3; simpa using hz3 (by omega)
  have hl2 : s.length ≤ 6 := by omega
  clear hz hz3 h1 h2 HL
  by_cases hz : s[0] = 48
  · have h3i : ¬ (1 : Int) < (s.length : Int) := fun h => by have := hz4 h; simp [hz] at this
    have hz5 : ((s[0].toNat : Int) = 48) := by rw [hz]; rfl
    clear hz4 hz
    go_enter Tryz.func30, Tryz.ntmps30
    go_wp2_with fail
    refine (GIN.out _).mono ?_
    rintro e w1 ⟨rfl, rfl⟩
    go_wp2
    go_loopg [3, 4] s.length (fun gk u v wr => ∃ i : Nat, i ≤ s.length ∧ gk = s.length - i ∧ u = .int .i64 (numV (s.take i) : Int) ∧ v = .int .i64 (i : Int) ∧ Hid ((s.take i).all digB = true) ∧ w = wr)
    case atStart => exact ⟨0, by omega, by omega, rfl, rfl, hid rfl, rfl⟩
    case round =>
      obtain ⟨i, hi, rfl, rfl, rfl, hd, rfl⟩ := hrel
      by_cases hlt : i < s.length
      · have i0 : (0 : Int) ≤ (i : Int) := by omega
        have i1 : (i : Int) < (s.length : Int) := by omega
        have hv := HV.out i hlt hd.out
        have HS := hid (numV_succ hlt)
        have HA := hid (digs_succ hlt)
        have HNi := hid (HN.out i hlt)
        have HDY := hid (fun (h : digB s[i] = true) => digB_yes h)
        have HDN := hid (show digB s[i] = false → s[i].toNat < 48 ∨ 57 < s[i].toNat from fun h => by unfold digB at h; simp at h; omega)
        have hd1 := hd.out
        clear hd
        generalize numV (s.take i) = V at *
        by_cases hb : digB s[i] = true
        · have hx := HDY.out hb
          have HD := hid (show (s.take (i + 1)).all digB = true by rw [HA.out, hd1, hb]; rfl)
          have HV1 := hid (HS.out)
          have hx1 : ¬ (s[i].toNat : Int) < 48 := by omega
          have hx2 : ¬ (57 : Int) < (s[i].toNat : Int) := by omega
          have hx3 : IntKind.i64.wrap (IntKind.i64.wrap (10 * (V : Int)) + ((s[i].toNat : Int) - 48)) = ((10 * V + (s[i].toNat - 48) : Nat) : Int) := by rw [IntWalk.i64_in (10 * (V : Int)) (by omega), IntWalk.i64_in _ (by omega)]; omega
          clear hb HA HNi HDY HDN hd1 HS
          go_wp2
          go_roundg (s.length - (i + 1))
          case measure => omega
          case rel => exact ⟨i + 1, by omega, rfl, by rw [HV1.out]; go_num, by go_num, HD, rfl⟩
        · have hb1 : digB s[i] = false := by simpa using hb
          have HR := hid (HNi.out hb1)
          have hx := HDN.out hb1
          clear hb hb1 HA HNi HDY HDN hd1 HS
          by_cases hlo : s[i].toNat < 48
          · have hx1 : (s[i].toNat : Int) < 48 := by omega
            clear hx hlo
            go_wp2
            go_ret
            rw [HR.out]
            exact ⟨rfl, rfl⟩
          · have hx1 : ¬ (s[i].toNat : Int) < 48 := by omega
            have hx2 : (57 : Int) < (s[i].toNat : Int) := by omega
            clear hx hlo
            go_wp2
            go_ret
            rw [HR.out]
            exact ⟨rfl, rfl⟩
      · obtain rfl : i = s.length := by omega
        have HR := hid (HY.out (by have := hd.out; rwa [List.take_length] at this))
        have hv := HR.out
        go_wp2
        go_ret
        rw [HR.out, List.take_length]
        exact ⟨rfl, rfl⟩
  · have hz5 : ¬ ((s[0].toNat : Int) = 48) := not48 (by simpa using hz)
    clear hz4 hz
    go_enter Tryz.func30, Tryz.ntmps30
    go_wp2_with fail
    refine (GIN.out _).mono ?_
    rintro e w1 ⟨rfl, rfl⟩
    go_wp2
    go_loopg [3, 4] s.length (fun gk u v wr => ∃ i : Nat, i ≤ s.length ∧ gk = s.length - i ∧ u = .int .i64 (numV (s.take i) : Int) ∧ v = .int .i64 (i : Int) ∧ Hid ((s.take i).all digB = true) ∧ w = wr)
    case atStart => exact ⟨0, by omega, by omega, rfl, rfl, hid rfl, rfl⟩
    case round =>
      obtain ⟨i, hi, rfl, rfl, rfl, hd, rfl⟩ := hrel
      by_cases hlt : i < s.length
      · have i0 : (0 : Int) ≤ (i : Int) := by omega
        have i1 : (i : Int) < (s.length : Int) := by omega
        have hv := HV.out i hlt hd.out
        have HS := hid (numV_succ hlt)
        have HA := hid (digs_succ hlt)
        have HNi := hid (HN.out i hlt)
        have HDY := hid (fun (h : digB s[i] = true) => digB_yes h)
        have HDN := hid (show digB s[i] = false → s[i].toNat < 48 ∨ 57 < s[i].toNat from fun h => by unfold digB at h; simp at h; omega)
        have hd1 := hd.out
        clear hd
        generalize numV (s.take i) = V at *
        by_cases hb : digB s[i] = true
        · have hx := HDY.out hb
          have HD := hid (show (s.take (i + 1)).all digB = true by rw [HA.out, hd1, hb]; rfl)
          have HV1 := hid (HS.out)
          have hx1 : ¬ (s[i].toNat : Int) < 48 := by omega
          have hx2 : ¬ (57 : Int) < (s[i].toNat : Int) := by omega
          have hx3 : IntKind.i64.wrap (IntKind.i64.wrap (10 * (V : Int)) + ((s[i].toNat : Int) - 48)) = ((10 * V + (s[i].toNat - 48) : Nat) : Int) := by rw [IntWalk.i64_in (10 * (V : Int)) (by omega), IntWalk.i64_in _ (by omega)]; omega
          clear hb HA HNi HDY HDN hd1 HS
          go_wp2
          go_roundg (s.length - (i + 1))
          case measure => omega
          case rel => exact ⟨i + 1, by omega, rfl, by rw [HV1.out]; go_num, by go_num, HD, rfl⟩
        · have hb1 : digB s[i] = false := by simpa using hb
          have HR := hid (HNi.out hb1)
          have hx := HDN.out hb1
          clear hb hb1 HA HNi HDY HDN hd1 HS
          by_cases hlo : s[i].toNat < 48
          · have hx1 : (s[i].toNat : Int) < 48 := by omega
            clear hx hlo
            go_wp2
            go_ret
            rw [HR.out]
            exact ⟨rfl, rfl⟩
          · have hx1 : ¬ (s[i].toNat : Int) < 48 := by omega
            have hx2 : (57 : Int) < (s[i].toNat : Int) := by omega
            clear hx hlo
            go_wp2
            go_ret
            rw [HR.out]
            exact ⟨rfl, rfl⟩
      · obtain rfl : i = s.length := by omega
        have HR := hid (HY.out (by have := hd.out; rwa [List.take_length] at this))
        have hv := HR.out
        go_wp2
        go_ret
        rw [HR.out, List.take_length]
        exact ⟨rfl, rfl⟩
end Go.Proofs.YtihaopijnkiafaaGreatDoor
