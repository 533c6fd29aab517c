/- Contracts of a result's check: the small functions. No conditions beyond those stated. -/
import Derived.Test.YtnkpbahapaocbaaChkP
import Derived.Test.YtnkpbahapaocbaaCutV
import Derived.Test.YtnkpbahapaocbaaShelf
set_option linter.unusedVariables false
set_option linter.unusedSimpArgs false
set_option maxRecDepth 100000
namespace Go.Proofs.Ytnkpbahapaocbaa
open Go.RowKit

theorem hasPre_any (a b : List UInt8) (w : World) :
    Calls Try.prog 79 #[.string (bs b), .string (bs a)] w fun e w' => e = .returned (.bool (preB a b)) ∧ w' = w := by
  have h := Try.strings_HasPrefix (bs b) (bs a) w
  rw [show (bs b).data.toList = b by simp [bs], show (bs a).data.toList = a by simp [bs], preB_has] at h
  exact h
theorem power3_any (n : Nat) (w : World) (hn : n ≤ 6) :
    Calls Try.prog 52 #[.int .i64 (n : Int)] w fun e w' => e = .returned (.int .i64 ((3 ^ n : Nat) : Int)) ∧ w = w' := by
  obtain rfl | rfl | rfl | rfl | rfl | rfl | rfl : n = 0 ∨ n = 1 ∨ n = 2 ∨ n = 3 ∨ n = 4 ∨ n = 5 ∨ n = 6 := by omega
  all_goals go_enter Try.func52, Try.ntmps52
  all_goals go_wp2
  all_goals go_rounds 8
  all_goals go_ret
  all_goals exact ⟨rfl, rfl⟩
theorem l13Power_any (n : Nat) (w : World) (hn : n ≤ 6) :
    Calls Try.prog 44 #[.int .i64 (n : Int)] w fun e w' => e = .returned (.int .i64 ((3 ^ n : Nat) : Int)) ∧ w = w' := by
  obtain rfl | rfl | rfl | rfl | rfl | rfl | rfl : n = 0 ∨ n = 1 ∨ n = 2 ∨ n = 3 ∨ n = 4 ∨ n = 5 ∨ n = 6 := by omega
  all_goals go_enter Try.func44, Try.ntmps44
  all_goals go_wp2
  all_goals go_rounds 8
  all_goals go_ret
  all_goals exact ⟨rfl, rfl⟩
theorem increasing_any (A : Option Addr) (n c : Nat) (l : List (List UInt8)) (w : World) (hr : Rd w A n (strV l)) (hn : n ≤ 1048576) :
    Calls Try.prog 51 #[.slice A n c] w fun e w' => e = .returned (.bool (incB l)) ∧ ∃ m, w' = w.drewN m := by
  have hln : l.length = n := by have := hr.1; rw [strV_len] at this; exact this
  have HL := hid hln
  have HR := hid hr
  clear hr hln
  go_enter Try.func51, Try.ntmps51
  go_wp2
  go_loopg [3] n (fun gk u wr => ∃ k : Nat, k ≤ n ∧ gk = n - k ∧ u = .int .i64 ((k : Int) + 1) ∧ Hid (rall k (fun i => Op.bytesLess (gS l i) (gS l (i + 1))) = true) ∧ ∃ m, wr = w.drewN m)
  case atStart => exact ⟨0, by omega, by omega, rfl, hid rfl, 0, rfl⟩
  case round =>
    obtain ⟨k, hk, rfl, rfl, hall, m, rfl⟩ := hrel
    by_cases hlt : k + 1 < n
    · have hlen := HL.out
      obtain ⟨b, o, rfl, hk1, hc1⟩ := HR.out.str (k := k + 1) hlt
      obtain ⟨b', o', e', hk0, hc0⟩ := HR.out.str (k := k) (by omega)
      obtain ⟨rfl, rfl⟩ : b = b' ∧ o = o' := by injection e' with e; injection e with e1 e2; exact ⟨e1, e2⟩
      have hstep : Hid (Op.bytesLess l[k] l[k+1] = true → rall (k + 1) (fun i => Op.bytesLess (gS l i) (gS l (i + 1))) = true) := hid (fun h => rall_step hall.out (by rw [gS_eq hk0, gS_eq hk1]; exact h))
      have hbad : Hid (Op.bytesLess l[k] l[k+1] = false → incB l = false) := hid (fun h => rall_bad (k := k) (by omega) (by rw [gS_eq hk0, gS_eq hk1]; exact h))
      have hle := bl_leq l[k+1] l[k]
      generalize l[k+1] = X at *
      generalize l[k] = Y at *
      have j0 : (0 : Int) ≤ (k : Int) := by omega
      have j1 : (k : Int) < (n : Int) := by omega
      have j2 : (k : Int) + 1 < (n : Int) := by omega
      have j3 : (0 : Int) ≤ (k : Int) + 1 := by omega
      have j4 : ((k : Int) + 1).toNat = k + 1 := by omega
      have HLE := hid hle
      clear e' hlen HL hle
      cases hB : Op.bytesLess Y X
      · have HB := hid hB
        have hw : IntKind.i64.wrap ((k : Int) + 1 - 1) = (k : Int) := by rw [IntWalk.i64_in _ (by omega)]; omega
        have hle' : (Op.bytesLess X Y || X == Y) = true := by rw [HLE.out, hB]; rfl
        clear hB
        go_wp2_with fail
        go_quiet (fail)
        go_wp2
        go_ret
        exact ⟨ret_bool (hbad.out HB.out).symm, _, by first | rfl | exact World.drewN_drewN _ _ _⟩
      · have HB := hid hB
        have hw : IntKind.i64.wrap ((k : Int) + 1 - 1) = (k : Int) := by rw [IntWalk.i64_in _ (by omega)]; omega
        have hle' : (Op.bytesLess X Y || X == Y) = false := by rw [HLE.out, hB]; rfl
        clear hB
        go_wp2_with fail
        go_quiet (fail)
        clear hw
        go_wp2
        go_roundg (n - (k + 1))
        case measure => omega
        case rel => exact ⟨k + 1, by omega, rfl, by go_num, hid (hstep.out HB.out), _, by first | rfl | exact World.drewN_drewN _ _ _⟩
    · have HA := hid hall
      go_wp2
      go_ret
      refine ⟨ret_bool ?_, m, rfl⟩
      by_cases hn0 : n = 0
      · have := HL.out
        rw [show l = [] from List.eq_nil_of_length_eq_zero (by omega)]; rfl
      · have : k = l.length - 1 ∨ k = l.length := by have := HL.out; omega
        refine (rall_iff.2 fun i hi => rall_iff.1 HA.out.out i (by omega)).symm
set_option maxHeartbeats 1000000 in
theorem l13Apart_any (A : Option Addr) (n c : Nat) (l : List (List UInt8)) (w : World) (hr : Rd w A n (strV l)) (hn : n ≤ 1048576) (hs : ∀ s ∈ l, s.length ≤ 1048576) :
    Calls Try.prog 49 #[.slice A n c] w fun e w' => e = .returned (.bool (apartL l)) ∧ w = w' := by
  have hln : l.length = n := by have := hr.1; rw [strV_len] at this; exact this
  have HL := hid hln
  have HR := hid hr
  have HS := hid hs
  clear hr hln hs
  go_enter Try.func49, Try.ntmps49
  go_wp2
  go_loopg [9] n (fun gk u wr => ∃ i : Nat, i ≤ n ∧ gk = n - i ∧ u = .int .i64 (i : Int) ∧ Hid (rall i (fun i => rall l.length fun k => i == k || !preB (gS l i) (gS l k)) = true) ∧ w = wr)
  case atStart => exact ⟨0, by omega, by omega, rfl, hid rfl, rfl⟩
  case round =>
    obtain ⟨i, hi, rfl, rfl, hall, rfl⟩ := hrel
    by_cases hlt : i < n
    · have hlen := HL.out
      obtain ⟨b, o, hA, hk1, hc1⟩ := HR.out.str (k := i) hlt
      subst hA
      have hgi := hid (gS_eq hk1)
      have hsi : l[i].length ≤ 1048576 := HS.out _ (List.getElem_mem hk1)
      generalize l[i] = X at *
      have j0 : (0 : Int) ≤ (i : Int) := by omega
      have j1 : (i : Int) < (n : Int) := by omega
      go_wp2
      go_loopg [16] n (fun gk u wr => ∃ k : Nat, k ≤ n ∧ gk = n - k ∧ u = .int .i64 (k : Int) ∧ Hid (rall k (fun k => i == k || !preB X (gS l k)) = true) ∧ w = wr)
      case atStart => exact ⟨0, by omega, by omega, rfl, hid rfl, rfl⟩
      case round =>
        obtain ⟨k, hk, rfl, rfl, hall2, rfl⟩ := hrel
        by_cases hlt2 : k < n
        · obtain ⟨b', o', e', hk2, hc2⟩ := HR.out.str (k := k) hlt2
          obtain ⟨rfl, rfl⟩ : b = b' ∧ o = o' := by injection e' with e; injection e with e1 e2; exact ⟨e1, e2⟩
          have hstep : Hid ((i == k || !preB X l[k]) = true → rall (k + 1) (fun k => i == k || !preB X (gS l k)) = true) := hid (fun h => rall_step hall2.out (by rw [gS_eq hk2]; exact h))
          have hbad : Hid ((i == k || !preB X l[k]) = false → apartL l = false) := hid (fun h => rall_bad (k := i) (by omega) (rall_bad (k := k) (by omega) (by rw [hgi.out, gS_eq hk2]; exact h)))
          have hsk : l[k].length ≤ 1048576 := HS.out _ (List.getElem_mem hk2)
          generalize l[k] = Y at *
          have m0 : (0 : Int) ≤ (k : Int) := by omega
          have m1 : (k : Int) < (n : Int) := by omega
          clear e' hlen
          by_cases hik : i = k
          · have hikb : ((i : Int) != (k : Int)) = false := by simp; omega
            have HS2 := hid (hstep.out (by simp [hik]))
            clear hstep hbad
            go_wp2
            go_roundg (n - (k + 1))
            case measure => omega
            case rel => exact ⟨k + 1, by omega, rfl, by go_num, HS2, rfl⟩
          · have hikb : ((i : Int) != (k : Int)) = true := by simp; omega
            have hik2 : (i == k) = false := by simpa using hik
            rw [hik2, Bool.false_or] at hstep hbad
            by_cases hle : X.length ≤ Y.length
            · have hle1 : decide (X.length ≤ Y.length) = true := decide_eq_true hle
              have hpre : preB X Y = (List.take X.length Y == X) := by rw [preB, decide_eq_true hle, Bool.true_and]
              rw [hpre] at hstep hbad
              clear hpre hik hik2
              cases hq : (List.take X.length Y == X)
              · have HS2 := hid (hstep.out (by rw [hq]; rfl))
                clear hstep hbad
                go_wp2
                go_roundg (n - (k + 1))
                case measure => omega
                case rel => exact ⟨k + 1, by omega, rfl, by go_num, HS2, rfl⟩
              · have HS2 := hid (hbad.out (by rw [hq]; rfl))
                clear hstep hbad
                go_wp2
                go_ret
                exact ⟨ret_bool HS2.out.symm, rfl⟩
            · have hle1 : decide (X.length ≤ Y.length) = false := decide_eq_false hle
              have HS2 := hid (hstep.out (by rw [preB, hle1]; rfl))
              clear hstep hbad hik2
              go_wp2
              go_roundg (n - (k + 1))
              case measure => omega
              case rel => exact ⟨k + 1, by omega, rfl, by go_num, HS2, rfl⟩
        · obtain rfl : k = n := by omega
          have HA2 := hid (rall_step hall.out (by rw [hgi.out, HL.out]; exact hall2.out))
          clear hall hall2
          go_wp2
          go_roundg (k - (i + 1))
          case measure => omega
          case rel => exact ⟨i + 1, by omega, rfl, by go_num, HA2, rfl⟩
    · obtain rfl : i = n := by omega
      have HA := hid hall.out
      clear hall
      rw [← HL.out] at HA
      go_wp2
      go_ret
      exact ⟨ret_bool HA.out.symm, rfl⟩
set_option maxHeartbeats 2000000 in
theorem apart_any (A B : Option Addr) (n ca m cb : Nat) (fin : Bool) (ts : List (List UInt8)) (cs : List (List UInt8 × Int × Int)) (w : World) (h1 : Rd w A n (strV ts)) (h3 : RdC w B m cs) (hn : n ≤ 1048576) (hm : m ≤ 1048576) :
    Calls Try.prog 56 #[.agg #[.slice A n ca, .slice B m cb, .bool fin]] w fun e w' => e = .returned (.bool (apartB ts (cs.map fun c => c.1))) ∧ Below w.heap.size w w' := by
  have hln : ts.length = n := by have := h1.1; rw [strV_len] at this; exact this
  have hlm : cs.length = m := h3.1
  obtain ⟨C, hC⟩ : ∃ C, C = cs.map fun c => c.1 := ⟨_, rfl⟩
  have hlC : C.length = m := by rw [hC, List.length_map]; exact hlm
  have hgC : ∀ i, i < m → gS C i = (gC cs i).1 := fun i h => by rw [hC]; exact gS_map (by omega)
  rw [← hC]
  have HGC := hid hgC
  have HLC := hid hlC
  have HLN := hid hln
  have HLM := hid hlm
  have R1 := hid h1
  have R3 := hid h3
  clear h1 h3 hC hgC hlC hln hlm
  go_enter Try.func56, Try.ntmps56
  go_upto_region 2 with fail
  have B2 : Below w.heap.size w (w.alloc (.cells #[.slice A n ca, .slice B m cb, .bool fin] 44)) := (Below.refl _ _).alloc (Nat.le_refl _) _
  have Z2 := Blk.new w 44 #[.slice A n ca, .slice B m cb, .bool fin]
  generalize (w.alloc (.cells #[.slice A n ca, .slice B m cb, .bool fin] 44)) = W2 at *
  have HB2 := hid B2
  have hw2 := B2.size
  have hZl := Z2.lt
  have HZ := hid (fun W' (h : Below W2.heap.size W2 W') => Z2.below h hZl)
  clear B2 Z2
  go_loopg [12] m (fun gk u wr => ∃ i : Nat, i ≤ m ∧ gk = m - i ∧ u = .int .i64 (i : Int) ∧ Hid (rall i (fun i => rall C.length (fun k => i == k || !preB (gS C i) (gS C k)) && rall ts.length (fun k => !preB (gS C i) (gS ts k))) = true) ∧ Below W2.heap.size W2 wr)
  case atStart => exact ⟨0, by omega, by omega, rfl, hid rfl, Below.refl _ _⟩
  case round =>
    obtain ⟨i, hi, rfl, rfl, hall, hb⟩ := hrel
    obtain ⟨wo, hwo⟩ : ∃ x, x = wr := ⟨_, rfl⟩
    subst hwo
    have HBr := hid hb
    have hbs := hb.size
    by_cases hlt : i < m
    · obtain ⟨bc, oc, rfl, x0, x1, x2⟩ := ((R3.out.below HB2.out).below hb).2 i (by rw [HLM.out]; exact hlt)
      have hgi : gS C i = (cs[i]'(by rw [HLM.out]; exact hlt)).1 := (HGC.out i hlt).trans (by rw [gC_eq])
      obtain ⟨K, hK⟩ : ∃ K, K = (cs[i]'(by rw [HLM.out]; exact hlt)) := ⟨_, rfl⟩
      rw [← hK] at x0 x1 x2 hgi
      obtain ⟨cp, cy, cz⟩ := K
      dsimp only at x0 x1 x2 hgi
      have HGI := hid hgi
      have E4 := hid (hb.alloc hb.size (.cells #[.string (bs cp), .int .i64 cy, .int .i64 cz] 38))
      have Y := HZ.out _ E4.out
      have y0 := Y.cell 0
      have y1 := Y.cell 1
      simp only [List.getElem?_toArray, List.getElem?_cons_zero, List.getElem?_cons_succ] at y0 y1
      have j0 : (0 : Int) ≤ (i : Int) := by omega
      have j1 : (i : Int) < (m : Int) := by omega
      clear hb hK hgi Y
      go_upto_region 5 with fail
      have X4 := hid (Blk.new wo 38 #[.string (bs cp), .int .i64 cy, .int .i64 cz])
      generalize (wo.alloc (.cells #[.string (bs cp), .int .i64 cy, .int .i64 cz] 38)) = W4 at *
      clear x0 x1 x2 y0 y1
      have hX4l := X4.out.lt
      have hs4 := E4.out.size
      go_loopg [20] m (fun gk u w5 => ∃ k : Nat, k ≤ m ∧ gk = m - k ∧ u = .int .i64 (k : Int) ∧ Hid (rall k (fun k => i == k || !preB cp (gS C k)) = true) ∧ Below W4.heap.size W4 w5)
      case atStart => exact ⟨0, by omega, by omega, rfl, hid rfl, Below.refl _ _⟩
      case round =>
        obtain ⟨k, hk, rfl, rfl, hall2, hb5⟩ := hrel
        have HB5 := hid hb5
        have hs5 := hb5.size
        by_cases hlt2 : k < m
        · obtain ⟨b', o', e', v0, v1, v2⟩ := ((R3.out.below HB2.out).below (E4.out.trans (hb5.mono hs4))).2 k (by rw [HLM.out]; exact hlt2)
          obtain ⟨rfl, rfl⟩ : bc = b' ∧ oc = o' := by injection e' with e; injection e with e1 e2; exact ⟨e1, e2⟩
          have hgk : gS C k = (cs[k]'(by rw [HLM.out]; exact hlt2)).1 := (HGC.out k hlt2).trans (by rw [gC_eq])
          have hstep : Hid ((i == k || !preB cp (cs[k]'(by rw [HLM.out]; exact hlt2)).1) = true → rall (k + 1) (fun k => i == k || !preB cp (gS C k)) = true) := hid (fun h => rall_step hall2.out (by rw [hgk]; exact h))
          have hbad : Hid ((i == k || !preB cp (cs[k]'(by rw [HLM.out]; exact hlt2)).1) = false → apartB ts C = false) := hid (fun h => rall_bad (k := i) (by rw [HLC.out]; exact hlt) (by rw [HGI.out, rall_bad (k := k) (by rw [HLC.out]; exact hlt2) (by rw [hgk]; exact h)]; rfl))
          obtain ⟨K, hK⟩ : ∃ K, K = (cs[k]'(by rw [HLM.out]; exact hlt2)) := ⟨_, rfl⟩
          rw [← hK] at v0 v1 v2 hstep hbad
          obtain ⟨dp, dy, dz⟩ := K
          dsimp only at v0 v1 v2
          have E6 := hid (hb5.alloc hb5.size (.cells #[.string (bs dp), .int .i64 dy, .int .i64 dz] 38))
          have X6 := X4.out.below E6.out hX4l
          have c0 := X6.cell 0
          have D6 := Blk.new wr 38 #[.string (bs dp), .int .i64 dy, .int .i64 dz]
          have d0 := D6.cell 0
          simp only [List.getElem?_toArray, List.getElem?_cons_zero, List.getElem?_cons_succ] at c0 d0
          have m0 : (0 : Int) ≤ (k : Int) := by omega
          have m1 : (k : Int) < (m : Int) := by omega
          clear hb5 hK hgk X6 D6 e'
          by_cases hik : i = k
          · have hikb : ((i : Int) != (k : Int)) = false := by simp; omega
            have HS2 := hid (hstep.out (by simp [hik]))
            clear hstep hbad
            go_wp2
            go_roundg (m - (k + 1))
            case measure => omega
            case rel => exact ⟨k + 1, by omega, rfl, by go_num, HS2, E6.out⟩
          · have hikb : ((i : Int) != (k : Int)) = true := by simp; omega
            have hik2 : (i == k) = false := by simpa using hik
            rw [hik2, Bool.false_or] at hstep hbad
            have HP := hid (fun w0 => hasPre_any cp dp w0)
            clear hik hik2
            cases hq : preB cp dp
            · rw [hq] at HP
              have HS2 := hid (hstep.out (by rw [hq]; rfl))
              clear hstep hbad hq
              go_wp2_with fail
              refine (HP.out _).mono ?_
              rintro e w7 ⟨rfl, rfl⟩
              go_wp2
              go_roundg (m - (k + 1))
              case measure => omega
              case rel => exact ⟨k + 1, by omega, rfl, by go_num, HS2, E6.out⟩
            · rw [hq] at HP
              have HS2 := hid (hbad.out (by rw [hq]; rfl))
              clear hstep hbad hq
              go_wp2_with fail
              refine (HP.out _).mono ?_
              rintro e w7 ⟨rfl, rfl⟩
              go_wp2
              go_ret
              exact ⟨ret_bool HS2.out.symm, HB2.out.trans ((E4.out.trans (E6.out.mono hs4)).mono hw2)⟩
        · obtain rfl : k = m := by omega
          have HA2 := hid hall2.out
          have E5 := hid (E4.out.trans (hb5.mono hs4))
          have Y := HZ.out _ E5.out
          have y0 := Y.cell 0
          have X5 := hid (X4.out.below hb5 hX4l)
          simp only [List.getElem?_toArray, List.getElem?_cons_zero, List.getElem?_cons_succ] at y0
          clear hall2 hb5 Y
          obtain ⟨w5, hw5⟩ : ∃ x, x = wr := ⟨_, rfl⟩
          subst hw5
          have hX5l := X5.out.lt
          go_upto_region 11 with fail
          clear y0
          go_loopg [39] n (fun gk u wz => ∃ k : Nat, k ≤ n ∧ gk = n - k ∧ u = .int .i64 (k : Int) ∧ Hid (rall k (fun k => !preB cp (gS ts k)) = true) ∧ Below w5.heap.size w5 wz)
          case atStart => exact ⟨0, by omega, by omega, rfl, hid rfl, Below.refl _ _⟩
          case round =>
            obtain ⟨l, hl, rfl, rfl, hall3, hb7⟩ := hrel
            have HB7 := hid hb7
            by_cases hlt3 : l < n
            · obtain ⟨b', o', rfl, hkl, v0⟩ := ((R1.out.below HB2.out).below (E5.out.trans (hb7.mono E5.out.size))).str hlt3
              have hstep : Hid (preB cp ts[l] = false → rall (l + 1) (fun k => !preB cp (gS ts k)) = true) := hid (fun h => rall_step hall3.out (by rw [gS_eq hkl, h]; rfl))
              have hbad : Hid (preB cp ts[l] = true → apartB ts C = false) := hid (fun h => rall_bad (k := i) (by rw [HLC.out]; exact hlt) (by rw [HGI.out, rall_bad (F := fun k => !preB cp (gS ts k)) (k := l) (n := ts.length) hkl (by rw [gS_eq hkl, h]; rfl), Bool.and_false]))
              generalize ts[l] = T at *
              have X7 := X5.out.below hb7 hX5l
              have c0 := X7.cell 0
              simp only [List.getElem?_toArray, List.getElem?_cons_zero, List.getElem?_cons_succ] at c0
              have m0 : (0 : Int) ≤ (l : Int) := by omega
              have m1 : (l : Int) < (n : Int) := by omega
              have HP := hid (fun w0 => hasPre_any cp T w0)
              clear hb7 X7
              cases hq : preB cp T
              · rw [hq] at HP
                have HS2 := hid (hstep.out hq)
                clear hstep hbad hq
                go_wp2_with fail
                refine (HP.out _).mono ?_
                rintro e w7 ⟨rfl, rfl⟩
                go_wp2
                go_roundg (n - (l + 1))
                case measure => omega
                case rel => exact ⟨l + 1, by omega, rfl, by go_num, HS2, HB7.out⟩
              · rw [hq] at HP
                have HS2 := hid (hbad.out hq)
                clear hstep hbad hq
                go_wp2_with fail
                refine (HP.out _).mono ?_
                rintro e w7 ⟨rfl, rfl⟩
                go_wp2
                go_ret
                exact ⟨ret_bool HS2.out.symm, HB2.out.trans ((E5.out.trans (HB7.out.mono E5.out.size)).mono hw2)⟩
            · obtain rfl : l = n := by omega
              have HA3 := hid (rall_step hall.out (show _ = true by rw [HGI.out, HLC.out, HLN.out, HA2.out, hall3.out]; rfl))
              have E7 := hid (E5.out.trans (hb7.mono E5.out.size))
              clear hall hall3 hb7
              go_wp2
              go_roundg (k - (i + 1))
              case measure => omega
              case rel => exact ⟨i + 1, by omega, rfl, by go_num, HA3, E7.out⟩
    · obtain rfl : i = m := by omega
      have HA := hid hall.out
      clear hall
      rw [← HLC.out] at HA
      go_wp2
      go_ret
      exact ⟨ret_bool HA.out.symm, HB2.out.trans (HBr.out.mono hw2)⟩
end Go.Proofs.Ytnkpbahapaocbaa
