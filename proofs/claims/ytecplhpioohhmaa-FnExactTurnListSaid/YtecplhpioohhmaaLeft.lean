/- Contracts of the products of a row and each of some rows, in the reference and in the program. No conditions beyond those stated. -/
import Derived.Test.YtecplhpioohhmaaRowL
import Derived.Test.YtecplhpioohhmaaTurnR
set_option linter.unusedVariables false
set_option linter.unusedSimpArgs false
set_option maxRecDepth 100000
namespace Go.Proofs.Ytecplhpioohhmaa
open Go.RowKit

def leftTo (a : List UInt8) (l : List (List UInt8)) (k : Nat) : List (List UInt8) := (l.take k).map (timesL a)
theorem leftTo_len (a : List UInt8) (l : List (List UInt8)) (k : Nat) (h : k ≤ l.length) : (leftTo a l k).length = k := by simp [leftTo]; omega
theorem leftTo_step (a : List UInt8) (l : List (List UInt8)) (k : Nat) (h : k < l.length) : leftTo a l k ++ [timesL a l[k]] = leftTo a l (k + 1) := by
  simp only [leftTo]
  rw [List.take_succ_eq_append_getElem h, List.map_append]; rfl
theorem l6Left_any (a : List UInt8) (A : Option Addr) (n c : Nat) (l : List (List UInt8)) (w : World) (hr : Rd w A n (strV l)) (hn : n ≤ 1048576) (ha : IsRow a) (hs : ∀ (k : Nat) (hk : k < l.length), IsRow l[k] ∧ l[k].length = a.length) :
    Calls Try.prog 61 #[.string (bs a), .slice A n c] w (OneS w (l.map (timesL a))) := by
  have hl := hid (show l.length = n by have := hr.1; rw [strV_len] at this; exact this)
  have HS := hid hs
  have HA := hid ha
  have RS := hid hr
  clear hs ha hr
  go_enter Try.func61, Try.ntmps61
  go_wp2
  go_loopg [5, 10] n (fun gk u v wr => ∃ k : Nat, k ≤ n ∧ gk = n - k ∧ v = .int .i64 k ∧ wr.ownsRow w.heap.size 9 1 u k (strV (leftTo a l k)) ∧ Below w.heap.size w wr)
  case atStart => exact ⟨0, by omega, by omega, rfl, World.ownsRow_nil _ _ _ _, Below.refl _ _⟩
  case round =>
    obtain ⟨k, hk, rfl, rfl, ho, hb⟩ := hrel
    by_cases hlt : k < n
    · obtain ⟨b, o, rfl, hj', hc⟩ := (RS.out.below hb).str hlt
      have hrow := HS.out k hj'
      have hst := hid (leftTo_step a l k hj')
      have hT := hid (fun w => l1Times_any a l[k] w HA.out hrow.1 hrow.2.symm)
      have hk0 : (0 : Int) ≤ (k : Int) := by omega
      have hk1 : (k : Int) < (n : Int) := by omega
      have HO := hid ho
      have HB := hid hb
      have HBs := hb.size
      clear ho hb hrow
      go_wp2_with fail
      refine (hT.out _).mono ?_
      rintro e w' ⟨rfl, rfl⟩
      go_wp2_with (at_builtin; refine app_str _ (by rfl) _ _ (by rfl) w.heap.size _ _ _ (by rfl) (HO.out.alloc _) (some ⟨wr.heap.size, 0, none⟩) 1 1 [timesL a l[k]] (by rfl) (Rd.blk _ [.string (bs (timesL a l[k]))] _) (by omega) (by simp; omega) ?_; intro v5 w5 o5 g5)
      go_roundg (n - (k + 1))
      case measure => omega
      case rel =>
        rw [hst.out] at o5
        exact ⟨k + 1, by omega, rfl, by go_num, o5, (HB.out.alloc (by omega) _).grown g5 (by simp; omega) fun q hq => (HO.out.lt q hq).1⟩
    · obtain rfl : k = n := by omega
      go_wp2
      go_ret
      have e : l.map (timesL a) = leftTo a l k := by rw [leftTo, List.take_of_length_le (by rw [hl.out]; omega)]
      rw [e]
      exact ⟨_, rfl, by rw [leftTo_len _ _ _ (by rw [hl.out]; omega)]; exact ho, hb⟩

theorem leftTimes_any (a : List UInt8) (A : Option Addr) (n c : Nat) (l : List (List UInt8)) (w : World) (hr : Rd w A n (strV l)) (hn : n ≤ 1048576) (ha : IsRow a) (hs : ∀ (k : Nat) (hk : k < l.length), IsRow l[k] ∧ l[k].length = a.length) :
    Calls Try.prog 65 #[.string (bs a), .slice A n c] w (OneS w (l.map (timesL a))) := by
  have hl := hid (show l.length = n by have := hr.1; rw [strV_len] at this; exact this)
  have HS := hid hs
  have HA := hid ha
  have RS := hid hr
  clear hs ha hr
  go_enter Try.func65, Try.ntmps65
  go_wp2
  go_loopg [5, 11] n (fun gk u v wr => ∃ k : Nat, k ≤ n ∧ gk = n - k ∧ v = .int .i64 k ∧ wr.ownsRow w.heap.size 9 1 u k (strV (leftTo a l k)) ∧ Below w.heap.size w wr)
  case atStart => exact ⟨0, by omega, by omega, rfl, own_of_blk (Blk.new _ _ #[]) (Nat.le_refl _) (by simp [maxLen]), (Below.refl _ _).alloc (Nat.le_refl _) _⟩
  case round =>
    obtain ⟨k, hk, rfl, rfl, ho, hb⟩ := hrel
    by_cases hlt : k < n
    · obtain ⟨b, o, rfl, hj', hc⟩ := (RS.out.below hb).str hlt
      have hrow := HS.out k hj'
      have hst := hid (leftTo_step a l k hj')
      have hT := hid (fun w => times_any a l[k] w HA.out hrow.1 hrow.2.symm)
      have hk0 : (0 : Int) ≤ (k : Int) := by omega
      have hk1 : (k : Int) < (n : Int) := by omega
      have HO := hid ho
      have HB := hid hb
      have HBs := hb.size
      clear ho hb hrow
      go_wp2_with fail
      refine (hT.out _).mono ?_
      rintro e w2 ⟨rfl, b2⟩
      have HO2 := hid (own_below HO.out b2)
      have HB2 := hid (HB.out.trans (b2.mono HBs))
      have hs2 := b2.size
      clear b2
      go_wp2_with (at_builtin; refine app_str _ (by rfl) _ _ (by rfl) w.heap.size _ _ _ (by rfl) (HO2.out.alloc _) (some ⟨w2.heap.size, 0, none⟩) 1 1 [timesL a l[k]] (by rfl) (Rd.blk _ [.string (bs (timesL a l[k]))] _) (by omega) (by simp; omega) ?_; intro v5 w5 o5 g5)
      go_roundg (n - (k + 1))
      case measure => omega
      case rel =>
        rw [hst.out] at o5
        exact ⟨k + 1, by omega, rfl, by go_num, o5, (HB2.out.alloc (by omega) _).grown g5 (by simp; omega) fun q hq => (HO2.out.lt q hq).1⟩
    · obtain rfl : k = n := by omega
      go_wp2
      go_ret
      have e : l.map (timesL a) = leftTo a l k := by rw [leftTo, List.take_of_length_le (by rw [hl.out]; omega)]
      rw [e]
      exact ⟨_, rfl, by rw [leftTo_len _ _ _ (by rw [hl.out]; omega)]; exact ho, hb⟩
end Go.Proofs.Ytecplhpioohhmaa
