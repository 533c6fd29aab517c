/- In a region that draws: an operation that its guard passes over is taken first. No conditions beyond those stated. -/
import Derived.Test.YtamcopnghjoboaaBase
set_option linter.unusedVariables false
set_option linter.unusedSimpArgs false
namespace Go.Proofs.Ytamcopnghjoboaa
open Go.RowKit

/-- An operation that its guard passes over is taken first. -/
theorem wpAnyH_pass {P : Program} {ops : Array Oper} {Q : Exit → Act → World → Prop} {md : Region.Mode} {S : World → Prop} {i : Nat} {d : Option Tmp} {fuel : Nat} {listed : Array Bool} {a : Act} {w : World} (hd : (ops[i]?).map (fun o => o.dst) = some d)
    (hs : Region.noSelect ops = true) (hf : Region.free md ops listed i = true) (hr : (Region.ready md ops listed).contains i = true)
    (hQ : ∀ c a v w, Q (.panic c) (a.put d v) w → Q (.panic c) a w) (hw : (ops[i]?).map (fun o => Region.wanted o (yielded ops a.tmps)) = some false) (hS : S w)
    (h : wpAnyH P md ops Q S fuel (listed.setIfInBounds i true) (a.put d undef) w) : wpAnyH P md ops Q S (fuel + 1) listed a w := by
  cases ho : ops[i]? with
  | none => rw [ho] at hd; cases hd
  | some o =>
    rw [ho] at hd hw
    simp only [Option.map_some, Option.some.injEq] at hd hw
    subst hd
    exact wpAnyH_take ho hs hf hr (fun c a w => hQ c a undef w) (Or.inr ⟨hw, rfl⟩) hS h
end Go.Proofs.Ytamcopnghjoboaa
