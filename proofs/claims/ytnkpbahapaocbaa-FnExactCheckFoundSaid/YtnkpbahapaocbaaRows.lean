/-
  No cell of these rows narrows 'for every input' (looked for: loops, veiled, ifaces, maps, wideKeys, modest, calm, conditions, laid).
  DERIVED. THE GIVEN ROWS OF THIS SEAT. 3 by the template 'for every input the law returns true; each argument reads behind the call as it read before'; 0 by the template 'total and deterministic' (their statements: YtnkpbahapaocbaaTotals.lean).
  GIVEN WITH THE SEED: the statements are not yours to turn. If you find one false, say at which input.
  Laid BY PROGRAM, IN A SANDBOX (cutbox-rows.mjs): the forced cells as the released guide's own fill.sh prints them over the translation b62886acf4116ef0… (all of the seat's roots in one cut). By AI agents, Wed Nov 11 2026. No macro, syntax, notation, axiom, sorry.
-/
import Derived.Test.YtnkpbahapaocbaaChecked
import GoSem.Claim
import GoSem.ClaimJoined
import GoSem.ClaimMapViews
import Derived.JoinedTies
import Derived.KernelRfl
namespace Go.Proofs.Ytnkpbahapaocbaa
/- THE CELL 'sum', in the pinned program and in every row, IS THE sha256 OF THE DUMP (.gsa) THAT YtnkpbahapaocbaaProg.lean LOADS. Nothing in Lean hashes anything: it is a label: what it is worth is what the hold of that sum in a sandbox is worth. -/
noncomputable def Try.pinned : Pinned := { name := "ytnkpbahapaocbaa", sum := "b62886acf4116ef04659fa1b475ebfd5b2a9f1eede6a78c43bfe283eeaf3935e", checked := Try.checked }
namespace Rows
def none {H : Type} : Left H := { results := [], args := [] }

/-- 'laws.FnExactIsCut': WHATEVER THE INPUT: true; the input reads as it did. -/
def fnExactIsCutSpec : ChangeSpec := { name := "fnExactIsCut", fn := fun _ => fun
  | [d1, d2, d3, d4] => { results := [.lit (.bool true)], args := [d1, d2, d3, d4] }
  | _ => none }
def fnExactIsCutRow : OpenClaim := { program := "ytnkpbahapaocbaa", sum := "b62886acf4116ef04659fa1b475ebfd5b2a9f1eede6a78c43bfe283eeaf3935e", func := "loop.example/g00894/laws.FnExactIsCut", spec := "fnExactIsCut", recurses := true, apart := false }
def FnExactIsCutSaid : Prop := fnExactIsCutRow.holds Try.pinned (OpenSpec.ofChange fnExactIsCutSpec)

/-- ITS FALSE NEIGHBOUR: 'it returns false'. Refute it at one input. -/
def fnExactIsCutWrong : ChangeSpec := { name := "fnExactIsCut", fn := fun _ => fun
  | [d1, d2, d3, d4] => { results := [.lit (.bool false)], args := [d1, d2, d3, d4] }
  | _ => none }
def FnExactIsCutWrongFalsely : Prop := fnExactIsCutRow.holds Try.pinned (OpenSpec.ofChange fnExactIsCutWrong)

/-- 'laws.FnExactSearchTouches': WHATEVER THE INPUT: true; the input reads as it did. -/
def fnExactSearchTouchesSpec : ChangeSpec := { name := "fnExactSearchTouches", fn := fun _ => fun
  | [d1, d2, d3, d4] => { results := [.lit (.bool true)], args := [d1, d2, d3, d4] }
  | _ => none }
def fnExactSearchTouchesRow : OpenClaim := { program := "ytnkpbahapaocbaa", sum := "b62886acf4116ef04659fa1b475ebfd5b2a9f1eede6a78c43bfe283eeaf3935e", func := "loop.example/g00894/laws.FnExactSearchTouches", spec := "fnExactSearchTouches", recurses := true, apart := false }
def FnExactSearchTouchesSaid : Prop := fnExactSearchTouchesRow.holds Try.pinned (OpenSpec.ofChange fnExactSearchTouchesSpec)

/-- ITS FALSE NEIGHBOUR: 'it returns false'. Refute it at one input. -/
def fnExactSearchTouchesWrong : ChangeSpec := { name := "fnExactSearchTouches", fn := fun _ => fun
  | [d1, d2, d3, d4] => { results := [.lit (.bool false)], args := [d1, d2, d3, d4] }
  | _ => none }
def FnExactSearchTouchesWrongFalsely : Prop := fnExactSearchTouchesRow.holds Try.pinned (OpenSpec.ofChange fnExactSearchTouchesWrong)

/-- 'laws.FnExactCheckFound': WHATEVER THE INPUT: true; the input reads as it did. -/
def fnExactCheckFoundSpec : ChangeSpec := { name := "fnExactCheckFound", fn := fun _ => fun
  | [d1, d2, d3, d4] => { results := [.lit (.bool true)], args := [d1, d2, d3, d4] }
  | _ => none }
def fnExactCheckFoundRow : OpenClaim := { program := "ytnkpbahapaocbaa", sum := "b62886acf4116ef04659fa1b475ebfd5b2a9f1eede6a78c43bfe283eeaf3935e", func := "loop.example/g00894/laws.FnExactCheckFound", spec := "fnExactCheckFound", recurses := true, apart := false }
def FnExactCheckFoundSaid : Prop := fnExactCheckFoundRow.holds Try.pinned (OpenSpec.ofChange fnExactCheckFoundSpec)

/-- ITS FALSE NEIGHBOUR: 'it returns false'. Refute it at one input. -/
def fnExactCheckFoundWrong : ChangeSpec := { name := "fnExactCheckFound", fn := fun _ => fun
  | [d1, d2, d3, d4] => { results := [.lit (.bool false)], args := [d1, d2, d3, d4] }
  | _ => none }
def FnExactCheckFoundWrongFalsely : Prop := fnExactCheckFoundRow.holds Try.pinned (OpenSpec.ofChange fnExactCheckFoundWrong)

/- THE SECOND FORM. 'bulk': how many values and letters a reading holds, each counted each time it is reached (what is shared counts as often as it is met; a slice's spare places count too). A statement '..UptoSaid' is the law's where the arguments, and the package variables that the reading takes, are together of bulk at most 1048576: NARROWER than '..Said'. Prove '..Said' where nothing that the law and all that it calls make is longer than what came in: it says more and counts as full. Else prove '..UptoSaid'. A law counts once. -/
mutual
def uptoBulk {H : Type} : DataW H → Nat
  | .lit (.string bytes) => bytes.length + 1
  | .lit _ => 1
  | .nil => 1
  | .ptr d => uptoBulk d + 1
  | .slice elems spare => uptoBulkAll elems + uptoBulkAll spare + 1
  | .agg parts => uptoBulkAll parts + 1
  | .iface _ d => uptoBulk d + 1
  | .map entries => uptoBulkEntries entries + 1
  | .held _ => 1
def uptoBulkAll {H : Type} : List (DataW H) → Nat
  | [] => 0
  | d :: r => uptoBulk d + uptoBulkAll r
def uptoBulkEntries {H : Type} : List (Lit × DataW H) → Nat
  | [] => 0
  | x :: r => uptoBulkEntry x + uptoBulkEntries r
def uptoBulkEntry {H : Type} : Lit × DataW H → Nat
  | (.string bytes, d) => bytes.length + uptoBulk d + 1
  | (_, d) => uptoBulk d + 1
 end
def uptoSmall : (H : Type) → List (DataW H) → Bool := fun _ ds => decide (uptoBulkAll ds ≤ 1048576)
def OpenSpec.upto (s : _root_.Go.ChangeSpec) : _root_.Go.OpenSpec := { _root_.Go.OpenSpec.ofChange s with cond := some uptoSmall }

/-- 'laws.FnExactIsCut', WHERE WHAT IT READS IS OF BULK AT MOST 1048576: true; the input reads as it did. -/
def fnExactIsCutUptoRow : OpenClaim := { program := "ytnkpbahapaocbaa", sum := "b62886acf4116ef04659fa1b475ebfd5b2a9f1eede6a78c43bfe283eeaf3935e", func := "loop.example/g00894/laws.FnExactIsCut", spec := "fnExactIsCut", recurses := true, apart := false, narrowed := true }
def FnExactIsCutUptoSaid : Prop := fnExactIsCutUptoRow.holds Try.pinned (OpenSpec.upto fnExactIsCutSpec)

/-- 'laws.FnExactSearchTouches', WHERE WHAT IT READS IS OF BULK AT MOST 1048576: true; the input reads as it did. -/
def fnExactSearchTouchesUptoRow : OpenClaim := { program := "ytnkpbahapaocbaa", sum := "b62886acf4116ef04659fa1b475ebfd5b2a9f1eede6a78c43bfe283eeaf3935e", func := "loop.example/g00894/laws.FnExactSearchTouches", spec := "fnExactSearchTouches", recurses := true, apart := false, narrowed := true }
def FnExactSearchTouchesUptoSaid : Prop := fnExactSearchTouchesUptoRow.holds Try.pinned (OpenSpec.upto fnExactSearchTouchesSpec)

/-- 'laws.FnExactCheckFound', WHERE WHAT IT READS IS OF BULK AT MOST 1048576: true; the input reads as it did. -/
def fnExactCheckFoundUptoRow : OpenClaim := { program := "ytnkpbahapaocbaa", sum := "b62886acf4116ef04659fa1b475ebfd5b2a9f1eede6a78c43bfe283eeaf3935e", func := "loop.example/g00894/laws.FnExactCheckFound", spec := "fnExactCheckFound", recurses := true, apart := false, narrowed := true }
def FnExactCheckFoundUptoSaid : Prop := fnExactCheckFoundUptoRow.holds Try.pinned (OpenSpec.upto fnExactCheckFoundSpec)

end Rows
end Go.Proofs.Ytnkpbahapaocbaa
