/- Contracts of the program's test of a change. No conditions beyond those stated. -/
import Derived.Test.YtihaopijnkiafaaGreatDoorRow1
import Derived.Test.YtihaopijnkiafaaGreatDoorChP
import Derived.Test.YtihaopijnkiafaaGreatDoorApp
set_option linter.unusedVariables false
set_option linter.unusedSimpArgs false
set_option maxRecDepth 100000
namespace Go.Proofs.YtihaopijnkiafaaGreatDoor
open Go.RowKit

def digI (c : List UInt8) : List Int := c.map fun x => (x.toNat : Int) - 48
theorem digI_step (c : List UInt8) (k : Nat) (h : k < c.length) : digI (c.take k) ++ [(c[k].toNat : Int) - 48] = digI (c.take (k + 1)) := by
  rw [List.take_succ_eq_append_getElem h]; simp only [digI, List.map_append, List.map_cons, List.map_nil]
/-- What places answers. -/
def placesR (c : List UInt8) : List Int × Bool := if allDig c = true then (digI c, true) else ([], false)
theorem placesR_bad (c : List UInt8) (k : Nat) (h : k < c.length) (hb : ¬ (49 ≤ c[k].toNat ∧ c[k].toNat ≤ 56)) : placesR c = ([], false) := if_neg fun h2 => by
  have := List.all_eq_true.1 h2 _ (List.getElem_mem h)
  simp at this
  exact hb this
theorem placesR_yes (c : List UInt8) (h : ∀ (k : Nat) (hk : k < c.length), 49 ≤ c[k].toNat ∧ c[k].toNat ≤ 56) : placesR c = (digI c, true) := if_pos (by
  rw [allDig, List.all_eq_true]
  intro x hx
  obtain ⟨k, hk, rfl⟩ := List.mem_iff_getElem.1 hx
  simp [h k hk])
theorem places_any (c : List UInt8) (w : World) (hc : c.length ≤ 1048576) :
    Calls Tryz.prog 59 #[.string (bs c)] w (ResI w (placesR c)) := by
  go_enter Tryz.func59, Tryz.ntmps59
  go_wp2
  go_loopg [4, 9] c.length (fun gk u v wr => ∃ k : Nat, k ≤ c.length ∧ gk = c.length - k ∧ v = .int .i64 k ∧ Hid (∀ (j : Nat) (hj : j < c.length), j < k → 49 ≤ c[j].toNat ∧ c[j].toNat ≤ 56) ∧ wr.ownsRow w.heap.size 3 1 u k (intV (digI (c.take k))) ∧ Below w.heap.size w wr)
  case atStart => exact ⟨0, by omega, by omega, rfl, hid (fun j hj h => by omega), own_of_blk (Blk.new _ _ #[]) (Nat.le_refl _) (by simp [maxLen]), (Below.refl _ _).alloc (Nat.le_refl _) _⟩
  case round =>
    obtain ⟨k, hk, rfl, rfl, hall, ho, hb⟩ := hrel
    have HO := hid ho
    have HB := hid hb
    have HBs := hb.size
    clear ho hb
    by_cases hlt : k < c.length
    · have hu := UInt8.toNat_lt c[k]
      by_cases h1 : c[k].toNat < 49
      · have HR := hid (placesR_bad c k hlt (by omega))
        go_wp2
        go_ret2
        rw [HR.out]
        exact ResI.none _ _ HB.out
      · by_cases h2 : 56 < c[k].toNat
        · have HR := hid (placesR_bad c k hlt (by omega))
          go_wp2
          go_ret2
          rw [HR.out]
          exact ResI.none _ _ HB.out
        · have hst := hid (digI_step c k hlt)
          have HX : ∀ (j : Nat) (hj : j < c.length), j < k + 1 → 49 ≤ c[j].toNat ∧ c[j].toNat ≤ 56 := fun j hj hjk => by
            by_cases e : j = k
            · subst e; omega
            · exact hall.out j hj (by omega)
          have HXX := hid HX
          clear HX
          go_wp2_with (at_builtin; refine app_int _ (by rfl) _ _ (by rfl) w.heap.size _ _ _ (by rfl) (HO.out.alloc _) (some ⟨wr.heap.size, 0, none⟩) 1 1 [(c[k].toNat : Int) - 48] (by rfl) (Rd.blk _ [.int .i64 ((c[k].toNat : Int) - 48)] _) (by omega) (by simp; omega) ?_; intro v5 w5 o5 g5)
          go_roundg (c.length - (k + 1))
          case measure => omega
          case rel =>
            rw [hst.out] at o5
            exact ⟨k + 1, by omega, rfl, by go_num, HXX, o5, (HB.out.alloc (by omega) _).grown g5 (by simp; omega) fun q hq => (HO.out.lt q hq).1⟩
    · obtain rfl : k = c.length := by omega
      have HR := hid (placesR_yes c fun j hj => hall.out j hj hj)
      have O := HO.out
      rw [List.take_length] at O
      obtain ⟨A1, c1, rfl, _⟩ := own_shape O
      have O1 := hid O
      clear O
      go_wp2
      go_ret2
      rw [HR.out]
      exact ⟨_, rfl, by simpa [digI] using O1.out, HB.out⟩
end Go.Proofs.YtihaopijnkiafaaGreatDoor
