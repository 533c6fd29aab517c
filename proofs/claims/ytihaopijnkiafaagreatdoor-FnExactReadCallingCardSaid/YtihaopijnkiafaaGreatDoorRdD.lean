/- Contract of the reference's cutting of a text at a byte. No conditions beyond those stated. -/
import Derived.Test.YtihaopijnkiafaaGreatDoorRdC
set_option linter.unusedVariables false
set_option linter.unusedSimpArgs false
set_option maxRecDepth 100000
namespace Go.Proofs.YtihaopijnkiafaaGreatDoor
open Go.RowKit

theorem segSt_y {b : UInt8} {s : List UInt8} {i : Nat} (h : s.getD i 0 = b) : segSt b s (i + 1) = (i + 1, (segSt b s i).2 ++ [(s.drop (segSt b s i).1).take (i - (segSt b s i).1)]) := by rw [segSt, if_pos h, List.drop_take]
theorem segSt_n {b : UInt8} {s : List UInt8} {i : Nat} (h : ¬ s.getD i 0 = b) : segSt b s (i + 1) = segSt b s i := by rw [segSt, if_neg h]
theorem u8_eq {x y : UInt8} (h : x = y) : (x.toNat : Int) = (y.toNat : Int) := by rw [h]
theorem u8_ne {x y : UInt8} (h : ¬ x = y) : ¬ (x.toNat : Int) = (y.toNat : Int) := fun e => h (UInt8.toNat_inj.mp (by omega))
set_option maxHeartbeats 2000000 in
theorem l1Split_any (s : List UInt8) (b : UInt8) (w : World) (hs : s.length ≤ 1000) :
    Calls Tryz.prog 14 #[.string (bs s), .int .u8 b.toNat] w (OneSn w (segsS b s).length (segsS b s)) := by
  have HY := hid (fun i h => segSt_y (b := b) (s := s) (i := i) h)
  have HN := hid (fun i h => segSt_n (b := b) (s := s) (i := i) h)
  have HL := hid (fun i => segSt_le b s i)
  have HE := hid (show segsS b s = (segSt b s s.length).2 ++ [s.drop (segSt b s s.length).1] from rfl)
  have H0 : segSt b s 0 = (0, []) := rfl
  generalize segSt b s = ST at *
  go_enter Tryz.func14, Tryz.ntmps14
  go_wp2
  go_loopg [5, 6, 7] s.length (fun gk u v x wr => ∃ i : Nat, i ≤ s.length ∧ gk = s.length - i ∧ v = .int .i64 ((ST i).1 : Int) ∧ x = .int .i64 (i : Int) ∧ wr.ownsRow w.heap.size 9 1 u (ST i).2.length (strV (ST i).2) ∧ Below w.heap.size w wr)
  case atStart => exact ⟨0, by omega, by omega, by rw [H0]; rfl, rfl, by rw [H0]; exact World.ownsRow_nil _ _ _ _, Below.refl _ _⟩
  case round =>
    obtain ⟨i, hi, rfl, rfl, rfl, ho, hb⟩ := hrel
    have hle := HL.out i
    have HO := hid ho
    have HB := hid hb
    have HBs := hb.size
    clear ho hb
    by_cases hlt : i < s.length
    · have i0 : (0 : Int) ≤ (i : Int) := by omega
      have i1 : (i : Int) < (s.length : Int) := by omega
      have hHY := hid (HY.out i)
      have hHN := hid (HN.out i)
      rw [gd_at s i hlt] at hHY hHN
      generalize ST i = S at *
      obtain ⟨F, L⟩ := S
      dsimp only at *
      by_cases hc : s[i] = b
      · have hx := u8_eq hc
        have H1 := hid (hHY.out hc)
        clear hc hHY hHN
        obtain ⟨hF, hL⟩ := hle
        have i3 : (0 : Int) ≤ (F : Int) := by omega
        have i4 : (F : Int) ≤ (i : Int) := by omega
        have i5 : (i : Int) ≤ (s.length : Int) := by omega
        have hlim : L.length + 1 ≤ 1000000000000 := by omega
        have HX := hid (show i - F ≤ s.length from by omega)
        go_wp2_with (at_builtin; refine app_str _ (by rfl) _ _ (by rfl) w.heap.size _ _ _ (by rfl) (HO.out.alloc _) (some ⟨wr.heap.size, 0, none⟩) 1 1 [List.take (i - F) (List.drop F s)] (by rfl) (Rd.blk _ [.string (bs (List.take (i - F) (List.drop F s)))] _) hlim (by simp; omega) ?_; intro v5 w5 o5 g5)
        go_roundg (s.length - (i + 1))
        case measure => omega
        case rel =>
          refine ⟨i + 1, by omega, rfl, by rw [H1.out]; go_num, by go_num, ?_, (HB.out.alloc (by exact HB.out.size) _).grown g5 (by simp; omega) fun q hq => (HO.out.lt q hq).1⟩
          rw [H1.out]
          simpa using o5
      · have hx := u8_ne hc
        have H1 := hid (hHN.out hc)
        clear hc hHY hHN
        go_wp2
        go_roundg (s.length - (i + 1))
        case measure => omega
        case rel => exact ⟨i + 1, by omega, rfl, by rw [H1.out], by go_num, by rw [H1.out]; exact HO.out, HB.out⟩
    · obtain rfl : i = s.length := by omega
      have H1 := hid HE.out
      generalize ST s.length = S at *
      obtain ⟨F, L⟩ := S
      dsimp only at *
      obtain ⟨hF, hL⟩ := hle
      have i3 : (0 : Int) ≤ (F : Int) := by omega
      have i4 : (F : Int) ≤ (s.length : Int) := by omega
      have hlim : L.length + 1 ≤ 1000000000000 := by omega
      go_wp2_with (at_builtin; refine app_str _ (by rfl) _ _ (by rfl) w.heap.size _ _ _ (by rfl) (HO.out.alloc _) (some ⟨wr.heap.size, 0, none⟩) 1 1 [List.drop F s] (by rfl) (Rd.blk _ [.string (bs (List.drop F s))] _) hlim (by simp; omega) ?_; intro v5 w5 o5 g5)
      go_ret
      refine ⟨_, rfl, ?_, (HB.out.alloc (by exact HB.out.size) _).grown g5 (by simp; omega) fun q hq => (HO.out.lt q hq).1⟩
      rw [H1.out]
      simpa using o5
end Go.Proofs.YtihaopijnkiafaaGreatDoor
