/- Contracts of the library's sort and compaction on rows of strings that the call owns, in this proof's words. No conditions beyond those stated. -/
import Derived.Test.YtiajeheonoebnaaShelf
import Derived.Test.YtiajeheonoebnaaMem
import Derived.Test.YtiajeheonoebnaaSortP
import Derived.Sort.OwnSorted
set_option linter.unusedVariables false
set_option linter.unusedSimpArgs false
set_option maxRecDepth 100000
namespace Go.Proofs.Ytiajeheonoebnaa
open Go.RowKit Go.Sort

theorem sort_own (base n : Nat) (v : Value) (l : List (List UInt8)) (w : World) (hown : w.ownsRow base 9 1 v n (strV l)) (hn : n ≤ 1000000000) :
    Calls Try.prog 107 #[v] w fun e w' => e = .returned (.tuple #[]) ∧ w'.ownsRow base 9 1 v n (strV (sortL l)) ∧ w.grownBy w' v.ownBlock := by
  have hl : l.length = n := by have := hown.1; rw [strV_len] at this; omega
  rcases hown.2 with ⟨rfl, rfl⟩ | ⟨g, cap, cur, rfl, hbase, hb, h1, h2, h3, h4⟩
  · refine (Try.slices_Sort_string_none none 0 w).mono ?_
    rintro e w' ⟨rfl, rfl⟩
    have : l = [] := List.eq_nil_of_length_eq_zero hl
    subst this
    exact ⟨rfl, by simpa [sortL] using hown, World.grownBy.refl _ _⟩
  · subst hl
    have hg : g < w.heap.size := (Array.getElem?_eq_some_iff.1 hb).1
    refine (Try.slices_Sort_string g 0 cap l w (holds_of_block hb (by rw [Nat.mul_one] at h4; exact h4)) hg (by omega)).mono ?_
    rintro e w' ⟨rfl, n, os, rfl⟩
    exact ⟨rfl, ownsRow_sorted (by simp) hbase hb h1 h2 h3, grownBy_sorted _⟩
end Go.Proofs.Ytiajeheonoebnaa
