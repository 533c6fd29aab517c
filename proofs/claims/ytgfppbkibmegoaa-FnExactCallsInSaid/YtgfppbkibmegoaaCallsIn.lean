/- Contracts of CallsIn, in the reference and in the program. No conditions beyond those stated. -/
import Derived.Test.YtgfppbkibmegoaaMem
import Derived.Test.YtgfppbkibmegoaaTouch
set_option linter.unusedVariables false
set_option linter.unusedSimpArgs false
set_option maxRecDepth 100000
namespace Go.Proofs.Ytgfppbkibmegoaa
open Go.RowKit

/-- A slice of integers and a bool come back; the slice is the call's own. -/
def ResI (w : World) (R : List Int × Bool) (e : Ending) (w' : World) : Prop := ∃ v, e = .returned (.tuple #[v, .bool R.2]) ∧ w'.ownsRow w.heap.size 3 1 v R.1.length (intV R.1) ∧ Below w.heap.size w w'
theorem ResI.none (w w' : World) (h : Below w.heap.size w w') : ResI w ([], false) (.returned (.tuple #[.slice none 0 0, .bool false])) w' := ⟨_, rfl, World.ownsRow_nil _ _ _ _, h⟩

/-- How many calls of the first k are p, b and others. -/
def countsTo (l : List UInt8) (k : Nat) : Nat × Nat × Nat := ((l.take k).countP (· == 112), (l.take k).countP (· == 98), (l.take k).countP fun x => !(x == 112) && !(x == 98))
/-- What CallsIn answers. -/
def callsInR (l : List UInt8) : List Int × Bool := if goodTouch l = true then ([((countsTo l l.length).1 : Int), ((countsTo l l.length).2.1 : Int), ((countsTo l l.length).2.2 : Int)], true) else ([], false)
theorem callsInR_bad (l : List UInt8) (h : goodTouch l = false) : callsInR l = ([], false) := if_neg (by simp [h])
theorem callsInR_yes (l : List UInt8) (h : goodTouch l = true) : callsInR l = ([((countsTo l l.length).1 : Int), ((countsTo l l.length).2.1 : Int), ((countsTo l l.length).2.2 : Int)], true) := if_pos h
theorem countsTo_succ (l : List UInt8) (k : Nat) (h : k < l.length) : countsTo l (k + 1) = ((countsTo l k).1 + (if l[k] = 112 then 1 else 0), (countsTo l k).2.1 + (if l[k] = 98 then 1 else 0), (countsTo l k).2.2 + (if l[k] ≠ 112 ∧ l[k] ≠ 98 then 1 else 0)) := by
  simp only [countsTo, List.take_succ_eq_append_getElem h, List.countP_append, List.countP_singleton]
  refine Prod.ext ?_ (Prod.ext ?_ ?_) <;> simp
theorem u8_of (x : UInt8) (n : UInt8) (h : ((x.toNat : Int) == (n.toNat : Int)) = true) : x = n := by
  have h' : (x.toNat : Int) = n.toNat := by simpa using h
  exact UInt8.toNat_inj.1 (by omega)
theorem u8_ne (x : UInt8) (n : UInt8) (h : ((x.toNat : Int) == (n.toNat : Int)) = false) : x ≠ n := by
  rintro rfl
  simp at h
theorem goodTouch_len' {l : List UInt8} (h : goodTouch l = true) : 1 ≤ l.length ∧ l.length ≤ 60 := by
  simp [goodTouch] at h; omega

theorem specCallsIn_any (l : List UInt8) (w : World) (hl : l.length ≤ 1048576) :
    Calls Try.prog 31 #[.string (bs l)] w (ResI w (callsInR l)) := by
  cases hg : goodTouch l
  · have hr := hid (callsInR_bad l hg)
    go_enter Try.func31, Try.ntmps31
    go_wp2_with (go_at_call 44; refine (l9Good_any _ _ (by omega)).mono ?_; rintro e w' ⟨rfl, rfl⟩)
    go_ret2
    rw [hr.out]
    exact ResI.none _ _ (Below.refl _ _)
  · have hr := hid (callsInR_yes l hg)
    have hlen := (goodTouch_len' hg).2
    go_enter Try.func31, Try.ntmps31
    go_wp2_with (go_at_call 44; refine (l9Good_any _ _ (by omega)).mono ?_; rintro e w' ⟨rfl, rfl⟩)
    go_loopg [5] l.length (fun gk u wr => ∃ k a b c : Nat, k ≤ l.length ∧ gk = l.length - k ∧ u = .int .i64 k ∧ a ≤ k ∧ b ≤ k ∧ c ≤ k ∧ Hid (countsTo l k = (a, b, c)) ∧ Blk wr w.heap.size 3 #[.int .i64 a, .int .i64 b, .int .i64 c] ∧ Below w.heap.size w wr)
    case atStart => exact ⟨0, 0, 0, 0, by omega, by omega, rfl, by omega, by omega, by omega, rfl, Blk.new _ _ _, (Below.refl _ _).alloc (Nat.le_refl _) _⟩
    case round =>
      obtain ⟨k, a, b, c, hk, rfl, rfl, ha, hb, hc, hh, hB, hbel⟩ := hrel
      by_cases hlt : k < l.length
      · have c0 : wr.cell? ⟨w.heap.size, 0, none⟩ = some (.int .i64 a) := hB.cell 0
        have c1 : wr.cell? ⟨w.heap.size, 1, none⟩ = some (.int .i64 b) := hB.cell 1
        have c2 : wr.cell? ⟨w.heap.size, 2, none⟩ = some (.int .i64 c) := hB.cell 2
        have f0 := hB.frozen 0
        have f1 := hB.frozen 1
        have f2 := hB.frozen 2
        have hB' := hid hB
        have hbel' := hid hbel
        have hstep := hid (countsTo_succ l k hlt)
        clear hB hbel
        go_wp2
        · have h1 : ((l[k].toNat : Int) == 112) = true := by assumption
          have e1 : l[k] = 112 := u8_of _ 112 h1
          go_roundg (l.length - (k + 1))
          case measure => omega
          case rel => exact ⟨k + 1, a + 1, b, c, by omega, rfl, by go_num, by omega, by omega, by omega, hid (by rw [hstep.out, hh.out, e1]; rfl), hB'.out.set_ 0 _, hbel'.out.setCell (Nat.le_refl _) _⟩
        · have h1 : ((l[k].toNat : Int) == 112) = false := by assumption
          have h2 : ((l[k].toNat : Int) == 98) = true := by assumption
          have e2 : l[k] = 98 := u8_of _ 98 h2
          go_roundg (l.length - (k + 1))
          case measure => omega
          case rel => exact ⟨k + 1, a, b + 1, c, by omega, rfl, by go_num, by omega, by omega, by omega, hid (by rw [hstep.out, hh.out, e2]; rfl), hB'.out.set_ 1 _, hbel'.out.setCell (Nat.le_refl _) _⟩
        · have h1 : ((l[k].toNat : Int) == 112) = false := by assumption
          have h2 : ((l[k].toNat : Int) == 98) = false := by assumption
          have e1 := u8_ne _ 112 h1
          have e2 := u8_ne _ 98 h2
          go_roundg (l.length - (k + 1))
          case measure => omega
          case rel => exact ⟨k + 1, a, b, c + 1, by omega, rfl, by go_num, by omega, by omega, by omega, hid (by rw [hstep.out, hh.out]; simp [e1, e2]), hB'.out.set_ 2 _, hbel'.out.setCell (Nat.le_refl _) _⟩
      · go_wp2
        go_ret2
        have ek : k = l.length := by omega
        subst ek
        rw [hr.out, hh.out]
        exact ⟨_, rfl, own_of_blk hB (Nat.le_refl _) (by simp [maxLen]), hbel⟩

theorem implCallsIn_any (l : List UInt8) (w : World) (hl : l.length ≤ 1048576) :
    Calls Try.prog 32 #[.string (bs l)] w (ResI w (callsInR l)) := by
  cases hg : goodTouch l
  · have hr := hid (callsInR_bad l hg)
    go_enter Try.func32, Try.ntmps32
    go_wp2_with (go_at_call 15; refine (implGoodTouch_any _ _ (by omega)).mono ?_; rintro e w' ⟨rfl, rfl⟩)
    go_ret2
    rw [hr.out]
    exact ResI.none _ _ (Below.refl _ _)
  · have hr := hid (callsInR_yes l hg)
    have hlen := (goodTouch_len' hg).2
    go_enter Try.func32, Try.ntmps32
    go_wp2_with (go_at_call 15; refine (implGoodTouch_any _ _ (by omega)).mono ?_; rintro e w' ⟨rfl, rfl⟩)
    go_loopg [12] l.length (fun gk u wr => ∃ k a b c : Nat, k ≤ l.length ∧ gk = l.length - k ∧ u = .int .i64 k ∧ a ≤ k ∧ b ≤ k ∧ c ≤ k ∧ Hid (countsTo l k = (a, b, c)) ∧ Blk wr w.heap.size 3 #[.int .i64 a, .int .i64 b, .int .i64 c] ∧ Below w.heap.size w wr)
    case atStart => exact ⟨0, 0, 0, 0, by omega, by omega, rfl, by omega, by omega, by omega, rfl, Blk.new _ _ _, (Below.refl _ _).alloc (Nat.le_refl _) _⟩
    case round =>
      obtain ⟨k, a, b, c, hk, rfl, rfl, ha, hb, hc, hh, hB, hbel⟩ := hrel
      by_cases hlt : k < l.length
      · have c0 : wr.cell? ⟨w.heap.size, 0, none⟩ = some (.int .i64 a) := hB.cell 0
        have c1 : wr.cell? ⟨w.heap.size, 1, none⟩ = some (.int .i64 b) := hB.cell 1
        have c2 : wr.cell? ⟨w.heap.size, 2, none⟩ = some (.int .i64 c) := hB.cell 2
        have f0 := hB.frozen 0
        have f1 := hB.frozen 1
        have f2 := hB.frozen 2
        have hB' := hid hB
        have hbel' := hid hbel
        have hstep := hid (countsTo_succ l k hlt)
        clear hB hbel
        go_wp2
        · have h1 : ((l[k].toNat : Int) == 112) = true := by assumption
          have e1 : l[k] = 112 := u8_of _ 112 h1
          go_roundg (l.length - (k + 1))
          case measure => omega
          case rel => exact ⟨k + 1, a + 1, b, c, by omega, rfl, by go_num, by omega, by omega, by omega, hid (by rw [hstep.out, hh.out, e1]; rfl), hB'.out.set_ 0 _, hbel'.out.setCell (Nat.le_refl _) _⟩
        · have h1 : ((l[k].toNat : Int) == 112) = false := by assumption
          have h2 : ((l[k].toNat : Int) == 98) = true := by assumption
          have e2 : l[k] = 98 := u8_of _ 98 h2
          go_roundg (l.length - (k + 1))
          case measure => omega
          case rel => exact ⟨k + 1, a, b + 1, c, by omega, rfl, by go_num, by omega, by omega, by omega, hid (by rw [hstep.out, hh.out, e2]; rfl), hB'.out.set_ 1 _, hbel'.out.setCell (Nat.le_refl _) _⟩
        · have h1 : ((l[k].toNat : Int) == 112) = false := by assumption
          have h2 : ((l[k].toNat : Int) == 98) = false := by assumption
          have e1 := u8_ne _ 112 h1
          have e2 := u8_ne _ 98 h2
          go_roundg (l.length - (k + 1))
          case measure => omega
          case rel => exact ⟨k + 1, a, b, c + 1, by omega, rfl, by go_num, by omega, by omega, by omega, hid (by rw [hstep.out, hh.out]; simp [e1, e2]), hB'.out.set_ 2 _, hbel'.out.setCell (Nat.le_refl _) _⟩
      · go_wp2
        go_ret2
        have ek : k = l.length := by omega
        subst ek
        rw [hr.out, hh.out]
        exact ⟨_, rfl, own_of_blk hB (Nat.le_refl _) (by simp [maxLen]), hbel⟩
end Go.Proofs.Ytgfppbkibmegoaa
