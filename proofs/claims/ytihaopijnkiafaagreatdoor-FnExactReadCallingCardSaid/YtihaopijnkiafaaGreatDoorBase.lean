/- Shared words and small laws of these proofs: strings as lists of bytes, and what the walk writes of them. It proves no claim by itself; its lemmas hold without conditions beyond those they state. -/
import Derived.Test.YtihaopijnkiafaaGreatDoorChecked
import Derived.WalkKit
import Derived.ProofKit
import Derived.WalkLawsBesides
import Derived.WalkSpells
import Derived.Handy
import Derived.Deep.QuietTactic
import Derived.BigQuiet
import Derived.Deep.Draws
import Derived.Deep.RegionHeld3
import Derived.Deep.DeepCutAuto
import Derived.Deep.LoopGhost
import Derived.Maps.OwnSet
import Derived.Lib.SmallJoins
import Derived.SliceStrings
import Derived.Deep.Slices
import Derived.Deep.Fields
import Derived.Laws.NewBlocks
import Derived.Lib.Strings

set_option linter.unusedVariables false
set_option linter.unusedSimpArgs false
namespace Go.Proofs.YtihaopijnkiafaaGreatDoor
open Go.RowKit

theorem hid {p : Prop} (h : p) : Hid p := h
/-- A string as the list of its bytes. -/
def bs (l : List UInt8) : ByteArray := ⟨l.toArray⟩
@[go_sem] theorem bs_size (l : List UInt8) : (bs l).size = l.length := by simp [bs, ByteArray.size]
@[go_sem] theorem bs_toList (l : List UInt8) : (bs l).toList = l := ByteArray.toList_mk l
@[go_sem] theorem bs_append (a b : List UInt8) : bs a ++ bs b = bs (a ++ b) := ByteArray.mk_append_mk a b
@[go_sem] theorem bs_extract (l : List UInt8) (i j : Nat) : (bs l).extract i j = bs ((l.drop i).take (j - i)) := ByteArray.extract_mk l i j
@[go_sem] theorem bs_get (l : List UInt8) (i : Nat) (h : i < (bs l).size) : (bs l)[i]'h = l[i]'(by rw [bs_size] at h; exact h) := rfl
@[go_sem] theorem take_drop_end (l : List UInt8) (i : Nat) : List.take (l.length - i) (List.drop i l) = List.drop i l := List.take_of_length_le (by simp)
@[go_sem] theorem mk_bs (l : List UInt8) : ByteArray.mk l.toArray = bs l := rfl
theorem bs_surj (s : ByteArray) : ∃ l, s = bs l := ⟨s.data.toList, rfl⟩
theorem bs_inj {a b : List UInt8} (h : bs a = bs b) : a = b := by
  have := congrArg ByteArray.toList h
  rwa [bs_toList, bs_toList] at this

/-- Go's '<=' on strings is the negation of '<' the other way round. -/
theorem bl_leq : ∀ x y : List UInt8, (Op.bytesLess x y || x == y) = !Op.bytesLess y x
  | [], [] => rfl
  | [], _ :: _ => rfl
  | _ :: _, [] => rfl
  | a :: x, b :: y => by
    have ih := bl_leq x y
    rcases Nat.lt_trichotomy a.toNat b.toNat with h | h | h
    · have h1 : a < b := UInt8.lt_iff_toNat_lt.2 h
      have h2 : ¬ b < a := fun h' => by have := UInt8.lt_iff_toNat_lt.1 h'; omega
      have h3 : a ≠ b := fun e => by subst e; omega
      simp [Op.bytesLess, h1, h2, h3, Ne.symm h3]
    · have h1 : a = b := UInt8.toNat_inj.1 h
      subst h1
      have h2 : ¬ a < a := fun h' => by have := UInt8.lt_iff_toNat_lt.1 h'; omega
      simpa [Op.bytesLess, h2] using ih
    · have h1 : b < a := UInt8.lt_iff_toNat_lt.2 h
      have h2 : ¬ a < b := fun h' => by have := UInt8.lt_iff_toNat_lt.1 h'; omega
      have h3 : a ≠ b := fun e => by subst e; omega
      simp [Op.bytesLess, h1, h2, h3]
/-- The lesser of two strings, the first where they are equal. -/
def minS (a b : List UInt8) : List UInt8 := if Op.bytesLess b a then b else a
@[go_sem] theorem run_min_str2 {P : Program} {w : World} (ts : Array TypeId) (t : TypeId) (a b : List UInt8) : (Builtin.min_ ts t #[.string (bs a), .string (bs b)]).run P w = .ok (.string (bs (minS a b))) w := by
  have h := bl_leq a b
  simp only [Builtin.min_, Builtin.min2, Op.stringOp, bs_toList, minS, h]
  cases hb : Op.bytesLess b a <;> simp [Builtin.min2, Op.stringOp, bs_toList, h, hb, asBool]

/-- The world has at most drawn answers: no block has turned. -/
def Drew (w w' : World) : Prop := ∃ n, w' = w.drewN n
theorem Drew.refl (w : World) : Drew w w := ⟨0, rfl⟩
theorem Drew.below {w w' : World} (h : Drew w w') (B : Nat) : Below B w w' := by
  obtain ⟨n, rfl⟩ := h
  exact ⟨rfl, rfl, rfl, Nat.le_refl _, fun _ _ => rfl⟩
theorem below_drewN {B : Nat} {a w : World} (h : Below B a w) (n : Nat) : Below B a (w.drewN n) := ⟨h.os, h.tape, h.output, h.size, h.block⟩

theorem ret_str {a b : List UInt8} (h : a = b) : Ending.returned (.string (bs a)) = .returned (.string (bs b)) := by rw [h]
theorem ret_int {k : IntKind} {a b : Int} (h : a = b) : Ending.returned (.int k a) = .returned (.int k b) := by rw [h]
theorem ret_bool {a b : Bool} (h : a = b) : Ending.returned (.bool a) = .returned (.bool b) := by rw [h]
end Go.Proofs.YtihaopijnkiafaaGreatDoor
