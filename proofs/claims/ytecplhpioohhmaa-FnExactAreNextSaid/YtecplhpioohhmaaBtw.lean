/- Contract of the program's change between two rows. No conditions beyond those stated. -/
import Derived.Test.YtecplhpioohhmaaBtwP
import Derived.Test.YtecplhpioohhmaaRow2
set_option linter.unusedVariables false
set_option linter.unusedSimpArgs false
set_option maxRecDepth 100000
namespace Go.Proofs.Ytecplhpioohhmaa
open Go.RowKit

theorem u8_yes {x y : UInt8} (h : ((x.toNat : Int) == (y.toNat : Int)) = true) : x = y := by
  rw [beq_iff_eq] at h
  exact UInt8.toNat_inj.1 (by omega)
theorem u8_no {x y : UInt8} (h : ((x.toNat : Int) == (y.toNat : Int)) = false) : x ≠ y := by
  rintro rfl
  simp at h
theorem btw_same {a b : List UInt8} {n i : Nat} (hi : i < n) (c : List UInt8) (sw : Bool) (h : a.getD i 0 = b.getD i 0) : btw a b n (n - i) c sw = btw a b n (n - (i + 1)) (c ++ [b49 i]) sw := by
  obtain ⟨m, hm⟩ : ∃ m, n - i = m + 1 := ⟨n - i - 1, by omega⟩
  match m, hm with
  | 0, hm =>
    have e : n - 1 = i := by omega
    rw [hm, show n - (i + 1) = 0 by omega]
    simp only [Nat.zero_add, btw, e, if_pos h]
  | m + 1, hm =>
    rw [hm, show n - (i + 1) = m + 1 by omega, btw, show n - (m + 1 + 1) = i by omega, if_pos h]
theorem btw_swap {a b : List UInt8} {n i : Nat} (hi : i + 1 < n) (c : List UInt8) (sw : Bool) (h : a.getD i 0 ≠ b.getD i 0) (h1 : a.getD i 0 = b.getD (i + 1) 0) (h2 : a.getD (i + 1) 0 = b.getD i 0) : btw a b n (n - i) c sw = btw a b n (n - (i + 2)) c true := by
  obtain ⟨m, hm⟩ : ∃ m, n - i = m + 2 := ⟨n - i - 2, by omega⟩
  rw [hm, show n - (i + 2) = m by omega, btw, show n - (m + 2) = i by omega, show n - (m + 1) = i + 1 by omega, if_neg h, if_pos h1, if_pos h2]
theorem btw_none {a b : List UInt8} {n i : Nat} (hi : i < n) (c : List UInt8) (sw : Bool) (h : a.getD i 0 ≠ b.getD i 0) (h1 : i + 1 < n → a.getD i 0 = b.getD (i + 1) 0 → a.getD (i + 1) 0 = b.getD i 0 → False) : btw a b n (n - i) c sw = none := by
  obtain ⟨m, hm⟩ : ∃ m, n - i = m + 1 := ⟨n - i - 1, by omega⟩
  match m, hm with
  | 0, hm =>
    have e : n - 1 = i := by omega
    rw [hm]
    simp only [Nat.zero_add, btw, e, if_neg h]
  | m + 1, hm =>
    rw [hm, btw, show n - (m + 1 + 1) = i by omega, show n - (m + 1) = i + 1 by omega, if_neg h]
    by_cases e1 : a.getD i 0 = b.getD (i + 1) 0
    · rw [if_pos e1, if_neg (fun e2 => h1 (by omega) e1 e2)]
    · rw [if_neg e1]
theorem take1_rounds {n i : Nat} (h : i < n) : List.take 1 (List.drop i (roundsL n)) = [b49 i] := by
  rw [rounds_drop h]; rfl
set_option maxHeartbeats 2000000 in
theorem between_any (a b : List UInt8) (w : World) (ha : IsRow a) (hb : IsRow b) (hl : a.length = b.length) :
    Calls Try.prog 97 #[.string (bs a), .string (bs b)] w fun e w' => e = .returned (.tuple #[.string (bs (betwR a b).1), .bool (betwR a b).2]) ∧ ∃ m, w' = w.drewN m := by
  have h8 := ha.hi
  have h3 := ha.lo
  have HR := fun w0 => hid (rounds_any a.length w0 h8)
  have HB := hid (show betwR a b = (match btw a b a.length a.length [] false with | none => ([], false) | some p => (dashL p.1, p.2)) from rfl)
  obtain ⟨n, hn⟩ : ∃ n, n = a.length := ⟨_, rfl⟩
  rw [← hn] at HR HB h8 h3
  have HA := hid hn
  have HBL := hid (show n = b.length by omega)
  have HN := hid (show (a.length : Int) = n by omega)
  have hna : (a.length : Int) = n := HN.out
  have hnb : (b.length : Int) = n := by have := HBL.out; omega
  clear ha hb hl
  go_enter Try.func97, Try.ntmps97
  go_wp2
  go_loopg [6, 7, 8] n (fun gk u v x wr => ∃ (i : Nat) (c : List UInt8) (sw : Bool) (q : Nat), i ≤ n ∧ gk = n - i ∧ u = .string (bs c) ∧ v = .bool sw ∧ x = .int .i64 i ∧ c.length ≤ i ∧ Hid (btw a b n (n - i) c sw = btw a b n n [] false) ∧ wr = w.drewN q)
  case atStart => exact ⟨0, [], false, 0, by omega, by omega, rfl, rfl, rfl, by simp, rfl, rfl⟩
  case round =>
    obtain ⟨i, c, sw, q, hi, rfl, rfl, rfl, rfl, hcl, hh, rfl⟩ := hrel
    by_cases hlt : i < n
    · have hia : i < a.length := by have := HA.out; omega
      have hib : i < b.length := by have := HBL.out; omega
      have k0 : (0 : Int) ≤ (i : Int) := by omega
      have k1 : (i : Int) < (a.length : Int) := by omega
      have k2 : (i : Int) < (b.length : Int) := by omega
      have k3 : (i : Int) < (n : Int) := by omega
      have GA := hid (gd_at a i hia)
      have GB := hid (gd_at b i hib)
      cases hE : ((a[i].toNat : Int) == (b[i].toNat : Int))
      · have HE := hid (show a.getD i 0 ≠ b.getD i 0 by rw [GA.out, GB.out]; exact u8_no hE)
        by_cases hl2 : i + 1 < n
        · have hia2 : i + 1 < a.length := by have := HA.out; omega
          have hib2 : i + 1 < b.length := by have := HBL.out; omega
          have k4 : (i : Int) + 1 < (n : Int) := by omega
          have k5 : (0 : Int) ≤ (i : Int) + 1 := by omega
          have k6 : decide ((i : Int) + 1 < (n : Int)) = true := by simp; omega
          have hw : IntKind.i64.wrap ((i : Int) + 1) = (i : Int) + 1 := IntWalk.i64_in _ (by omega)
          have GA2 := hid (gd_at a (i + 1) hia2)
          have GB2 := hid (gd_at b (i + 1) hib2)
          cases hE1 : ((a[i].toNat : Int) == (b[i + 1].toNat : Int))
          · have HNo := hid (btw_none (a := a) (b := b) hlt c sw HE.out (fun _ e1 _ => by rw [GA.out, GB2.out] at e1; exact u8_no hE1 e1))
            go_wp2
            go_quiet (fail)
            go_wp2
            go_quiet (fail)
            go_wp2
            go_ret2
            rw [HB.out, ← hh.out, HNo.out]
            exact ⟨rfl, _, by first | (rw [World.drewN_drewN, World.drewN_drewN]; done) | (rw [World.drewN_drewN]; done) | rfl⟩
          · cases hE2 : ((a[i + 1].toNat : Int) == (b[i].toNat : Int))
            · have HNo := hid (btw_none (a := a) (b := b) hlt c sw HE.out (fun _ _ e2 => by rw [GA2.out, GB.out] at e2; exact u8_no hE2 e2))
              go_wp2
              go_quiet (fail)
              go_wp2
              go_quiet (fail)
              go_wp2
              go_ret2
              rw [HB.out, ← hh.out, HNo.out]
              exact ⟨rfl, _, by first | (rw [World.drewN_drewN, World.drewN_drewN]; done) | (rw [World.drewN_drewN]; done) | rfl⟩
            · have HY := hid (btw_swap (a := a) (b := b) hl2 c sw HE.out (by rw [GA.out, GB2.out]; exact u8_yes hE1) (by rw [GA2.out, GB.out]; exact u8_yes hE2))
              go_wp2
              go_quiet (fail)
              go_wp2
              go_quiet (fail)
              go_wp2
              go_roundg (n - (i + 2))
              case measure => omega
              case rel => exact ⟨i + 2, c, true, _, by omega, rfl, rfl, rfl, by go_num, by omega, hid (HY.out.symm.trans hh.out), by first | (rw [World.drewN_drewN, World.drewN_drewN]; done) | (rw [World.drewN_drewN]; done) | rfl⟩
        · have k6 : decide ((i : Int) + 1 < (n : Int)) = false := by simp; omega
          have hw : IntKind.i64.wrap ((i : Int) + 1) = (i : Int) + 1 := IntWalk.i64_in _ (by omega)
          have HNo := hid (btw_none (a := a) (b := b) hlt c sw HE.out (fun e1 _ _ => hl2 e1))
          go_wp2
          go_quiet (fail)
          go_wp2
          go_quiet (fail)
          go_wp2
          go_ret2
          rw [HB.out, ← hh.out, HNo.out]
          exact ⟨rfl, _, by first | (rw [World.drewN_drewN, World.drewN_drewN]; done) | (rw [World.drewN_drewN]; done) | rfl⟩
      · have HE := hid (btw_same (a := a) (b := b) hlt c sw (by rw [GA.out, GB.out]; exact u8_yes hE))
        have hr1 := hid (take1_rounds hlt)
        have k7 : (i : Int) + 1 ≤ (n : Int) := by omega
        have hrl : (roundsL n).length = n := rounds_len n
        have hrl2 : (roundsL a.length).length = n := by rw [rounds_len]; exact HA.out.symm
        have hrl3 : ((roundsL a.length).length : Int) = n := by rw [hrl2]
        go_wp2
        go_quiet (fail)
        go_wp2_with fail
        refine (HR _).out.mono ?_
        rintro e w' ⟨rfl, rfl⟩
        go_wp2
        go_roundg (n - (i + 1))
        case measure => omega
        case rel => exact ⟨i + 1, c ++ [b49 i], sw, _, by omega, rfl, by rw [← hr1.out]; first | rfl | rw [HA.out] | rw [← HA.out], rfl, by go_num, by rw [List.length_append, List.length_singleton]; exact Nat.succ_le_succ hcl, hid (HE.out.symm.trans hh.out), by first | (rw [World.drewN_drewN]; done) | rfl⟩
    · obtain rfl : i = n := by omega
      have hR := hh.out
      rw [Nat.sub_self, btw] at hR
      have HRR := hid (show betwR a b = (dashL c, sw) by rw [HB.out, ← hR])
      clear hR
      by_cases hc : c = []
      · subst hc
        go_wp2
        go_ret2
        rw [HRR.out]
        exact ⟨rfl, _, by first | (rw [World.drewN_drewN, World.drewN_drewN]; done) | (rw [World.drewN_drewN]; done) | rfl⟩
      · have hcb : (c == []) = false := by simpa using hc
        have HC := hid (show dashL c = c from if_neg hc)
        clear hc
        go_wp2
        go_ret2
        rw [HRR.out, HC.out]
        exact ⟨rfl, _, by first | (rw [World.drewN_drewN, World.drewN_drewN]; done) | (rw [World.drewN_drewN]; done) | rfl⟩
end Go.Proofs.Ytecplhpioohhmaa
