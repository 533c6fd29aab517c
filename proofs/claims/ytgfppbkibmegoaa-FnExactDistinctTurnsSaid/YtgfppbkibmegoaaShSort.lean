/- Contracts of the library's sort and compaction on rows of strings that the call owns, in this proof's words. No conditions beyond those stated. -/
import Derived.Test.YtgfppbkibmegoaaShelf
import Derived.Test.YtgfppbkibmegoaaMem
import Derived.Test.YtgfppbkibmegoaaSortP
import Derived.Sort.OwnSorted
set_option linter.unusedVariables false
set_option linter.unusedSimpArgs false
set_option maxRecDepth 100000
namespace Go.Proofs.Ytgfppbkibmegoaa
open Go.RowKit Go.Sort

theorem sort_own (base n : Nat) (v : Value) (l : List (List UInt8)) (w : World) (hown : w.ownsRow base 9 1 v n (strV l)) (hn : n ≤ 1000000000) :
    Calls Try.prog 63 #[v] w fun e w' => e = .returned (.tuple #[]) ∧ w'.ownsRow base 9 1 v n (strV (sortL l)) ∧ w.grownBy w' v.ownBlock := by
  have hl : l.length = n := by have := hown.1; rw [strV_len] at this; omega
  rcases hown.2 with ⟨rfl, rfl⟩ | ⟨g, cap, cur, rfl, hbase, hb, h1, h2, h3, h4⟩
  · refine (Try.slices_Sort_string_none none 0 w).mono ?_
    rintro e w' ⟨rfl, rfl⟩
    have : l = [] := List.eq_nil_of_length_eq_zero hl
    subst this
    exact ⟨rfl, by simpa [sortL] using hown, World.grownBy.refl _ _⟩
  · subst hl
    have hg : g < w.heap.size := (Array.getElem?_eq_some_iff.1 hb).1
    refine (Try.slices_Sort_string g 0 cap l w (holds_of_block hb (by rw [Nat.mul_one] at h4; exact h4)) hg (by omega)).mono ?_
    rintro e w' ⟨rfl, n, os, rfl⟩
    exact ⟨rfl, ownsRow_sorted (by simp) hbase hb h1 h2 h3, grownBy_sorted _⟩
theorem compact_own (base n : Nat) (v : Value) (l : List (List UInt8)) (w : World) (hown : w.ownsRow base 9 1 v n (strV l)) (hn : n ≤ 1000000000) :
    Calls Try.prog 64 #[v] w fun e w' => (∃ v', e = .returned v' ∧ w'.ownsRow base 9 1 v' (Lib.compact l).length (strV (Lib.compact l))) ∧ w.grownBy w' v.ownBlock := by
  have hl : l.length = n := by have := hown.1; rw [strV_len] at this; omega
  rcases hown.2 with ⟨rfl, rfl⟩ | ⟨g, cap, cur, rfl, hbase, hb, h1, h2, h3, h4⟩
  · refine (Try.slices_Compact_string_empty none 0 w).mono ?_
    rintro e w' ⟨rfl, rfl⟩
    have : l = [] := List.eq_nil_of_length_eq_zero hl
    subst this
    exact ⟨⟨_, rfl, World.ownsRow_nil _ _ _ _⟩, World.grownBy.refl _ _⟩
  · subst hl
    have hg : g < w.heap.size := (Array.getElem?_eq_some_iff.1 hb).1
    refine (Try.slices_Compact_string g 0 cap l w (holds_of_block hb (by rw [Nat.mul_one] at h4; exact h4)) (by omega) h1).mono ?_
    rintro e w' ⟨rfl, q, hw⟩
    have hle : (Lib.compact l).length ≤ l.length := Lib.compact_length_le l
    have e2 : w' = grow (putRow encStr (Sort.ahead w q) g 0 (Lib.compact l ++ List.replicate (l.length - (Lib.compact l).length) []).toArray) #[] := by rw [grow_empty]; exact hw
    have ho := ownsRow_sorted (n := q) (os := #[]) (ss := l) (ts := Lib.compact l ++ List.replicate (l.length - (Lib.compact l).length) []) (by simp; omega) hbase hb h1 h2 h3
    rw [← e2] at ho
    refine ⟨⟨_, rfl, ?_⟩, by rw [e2]; exact grownBy_sorted _⟩
    rcases ho.2 with ⟨h0, _⟩ | ⟨g', cap', cur', hv, hg', hh, hn', hcap, hsz, htk⟩
    · cases h0
    · cases hv
      refine ⟨by rw [strV_len, Nat.mul_one], .inr ⟨g, cap, cur', rfl, hbase, hh, by omega, h2, hsz, ?_⟩⟩
      have h5 := congrArg (List.take (Lib.compact l).length) htk
      rw [List.take_take, Nat.mul_one, Nat.min_eq_left hle, List.map_append, List.take_append_of_le_length (by simp)] at h5
      have h6 : List.take (Lib.compact l).length (List.map encStr (Lib.compact l)) = List.map encStr (Lib.compact l) := List.take_of_length_le (by simp)
      rw [h6] at h5
      rw [Nat.mul_one]; exact h5
end Go.Proofs.Ytgfppbkibmegoaa
