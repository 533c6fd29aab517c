/- Methods and calls in a law: measured, copied, compared, marked. No conditions beyond those stated. -/
import Derived.Test.YtihaopijnkiafaaGreatDoorMeth
set_option linter.unusedVariables false
set_option linter.unusedSimpArgs false
set_option maxRecDepth 100000
namespace Go.Proofs.YtihaopijnkiafaaGreatDoor
open Go.RowKit

/-- What a law knows of a method and of its calls once they are measured. -/
def LawOk (m : Meth) (k : List UInt8 × List UInt8) : Prop := (Lit.int .i64 m.st).wf = true ∧ m.nm.length ≤ 1048576 ∧ m.ch.length ≤ 1048576 ∧ (∀ s ∈ m.ch, s.length ≤ 1048576) ∧ k.1.length ≤ 1048576 ∧ k.2.length ≤ 1048576
theorem inMethod_below {w w' : World} {v : Value} {m : Meth} (h : InMethod w v m) (hb : Below w.heap.size w w') : InMethod w' v m := by
  obtain ⟨v2, h1, h2, h3, A, n, c, h4, h5, h6, h7⟩ := h
  exact ⟨v2, h1, h2, h3, A, n, c, h4, h5, h6.below hb, h7⟩
theorem szCalls_any (k : List UInt8 × List UInt8) (left : Int) (w : World) (h1 : k.1.length ≤ maxLen) (h2 : k.2.length ≤ maxLen) (h0 : 0 ≤ left) (hl : left ≤ 1048576) :
    Calls Tryz.prog 5 #[.agg #[.string (bs k.1), .string (bs k.2)], .int .i64 left] w fun e w' => ∃ r : Int, e = .returned (.int .i64 r) ∧ Below w.heap.size w w' ∧ -1 ≤ r ∧ (0 ≤ r → r = left - k.1.length - k.2.length) := by
  obtain ⟨a, b⟩ := k
  dsimp only at h1 h2
  unfold maxLen at h1 h2
  have hw := IntWalk.i64_in (left - (a.length : Int)) (by omega)
  by_cases n1 : left - (a.length : Int) < 0
  · go_enter Tryz.func5, Tryz.ntmps5
    go_wp2
    go_ret
    exact ⟨-1, rfl, (Below.refl _ _).alloc (Nat.le_refl _) _, by omega, by omega⟩
  · have hb2 : -9223372036854775808 ≤ left - (a.length : Int) - (b.length : Int) ∧ left - (a.length : Int) - (b.length : Int) ≤ 9223372036854775807 := by omega
    by_cases n2 : left - (a.length : Int) - (b.length : Int) < 0
    · have hw2 := IntWalk.i64_in _ hb2
      go_enter Tryz.func5, Tryz.ntmps5
      go_wp2
      go_ret
      exact ⟨-1, rfl, (Below.refl _ _).alloc (Nat.le_refl _) _, by decide, fun h => absurd h (by decide)⟩
    · have hm1 : -1 ≤ left - (a.length : Int) - (b.length : Int) := by omega
      have hw2 := IntWalk.i64_in _ hb2
      go_enter Tryz.func5, Tryz.ntmps5
      go_wp2
      go_ret
      exact ⟨_, rfl, (Below.refl _ _).alloc (Nat.le_refl _) _, hm1, fun _ => rfl⟩
theorem toCalls_any (k : List UInt8 × List UInt8) (w : World) :
    Calls Tryz.prog 8 #[.agg #[.string (bs k.1), .string (bs k.2)]] w fun e w' => e = .returned (.agg #[.string (bs k.1), .string (bs k.2)]) ∧ Below w.heap.size w w' := by
  obtain ⟨a, b⟩ := k
  go_enter Tryz.func8, Tryz.ntmps8
  go_wp2
  refine bodyPost_ret (v := .agg #[.string (bs a), .string (bs b)]) (by simp [results, Tryz.results8, go_sem]) rfl ⟨rfl, (((Below.refl _ _).alloc (Nat.le_refl _) _).alloc (by simp) _).alloc (by simp; omega) _⟩
theorem eqMethod_any (m : Meth) (A B : Option Addr) (n ca n2 cb : Nat) (w : World) (ha : Rd w A n (strV m.ch)) (hb : Rd w B n2 (strV m.ch)) (hn : n ≤ 1048576) :
    Calls Tryz.prog 10 #[.agg #[.string (bs m.nm), .int .i64 m.st, .slice A n ca], .agg #[.string (bs m.nm), .int .i64 m.st, .slice B n2 cb]] w fun e w' => e = .returned (.bool true) ∧ Below w.heap.size w w' := by
  obtain ⟨nm, st, ch⟩ := m
  have hnn : n = n2 := by have h1 := ha.1; have h2 := hb.1; omega
  subst hnn
  have HE := hid (fun w0 (h1 : Rd w0 A n (strV ch)) (h2 : Rd w0 B n (strV ch)) => (eqStringS_any A B n n ca cb ch ch w0 h1 h2 (by omega) (by omega)).mono (fun e w' h => (⟨h.1.trans (ret_bool (decide_eq_true rfl)), h.2⟩ : e = .returned (.bool true) ∧ ∃ k, w' = w0.drewN k)))
  have RA := hid ha
  have RB := hid hb
  clear ha hb
  go_enter Tryz.func10, Tryz.ntmps10
  go_wp2_with fail
  refine (HE.out _ ((RA.out.alloc _).alloc _) ((RB.out.alloc _).alloc _)).mono ?_
  rintro e w1 ⟨rfl, q, rfl⟩
  go_wp2
  go_ret
  exact ⟨rfl, below_drewN (((Below.refl _ _).alloc (Nat.le_refl _) _).alloc (by simp) _) _⟩

end Go.Proofs.YtihaopijnkiafaaGreatDoor
