/-
  No cell of these rows narrows 'for every input' (looked for: loops, veiled, ifaces, maps, wideKeys, modest, calm, conditions, laid).
  DERIVED. THE GIVEN ROWS OF THIS SEAT. 8 by the template 'for every input the law returns true; each argument reads behind the call as it read before'; 0 by the template 'total and deterministic' (their statements: YtiajeheonoebnaaTotals.lean).
  GIVEN WITH THE SEED: the statements are not yours to turn. If you find one false, say at which input.
  Laid BY PROGRAM, IN A SANDBOX (cutbox-rows.mjs): the forced cells as the released guide's own fill.sh prints them over the translation b002811b00751b0b… (all of the seat's roots in one cut). By AI agents, Wed Nov 11 2026. No macro, syntax, notation, axiom, sorry.
-/
import Derived.Test.YtiajeheonoebnaaChecked
import GoSem.Claim
import GoSem.ClaimJoined
import GoSem.ClaimMapViews
import Derived.JoinedTies
import Derived.KernelRfl
namespace Go.Proofs.Ytiajeheonoebnaa
/- THE CELL 'sum', in the pinned program and in every row, IS THE sha256 OF THE DUMP (.gsa) THAT YtiajeheonoebnaaProg.lean LOADS. Nothing in Lean hashes anything: it is a label: what it is worth is what the hold of that sum in a sandbox is worth. -/
noncomputable def Try.pinned : Pinned := { name := "ytiajeheonoebnaa", sum := "b002811b00751b0bad5708a6a344313360bb97ce727fd82c338cb402a2d20ddb", checked := Try.checked }
namespace Rows
def none {H : Type} : Left H := { results := [], args := [] }

/-- 'laws.FnExactFalseBetween': WHATEVER THE INPUT: true; the input reads as it did. -/
def fnExactFalseBetweenSpec : ChangeSpec := { name := "fnExactFalseBetween", fn := fun _ => fun
  | [d1, d2, d3] => { results := [.lit (.bool true)], args := [d1, d2, d3] }
  | _ => none }
def fnExactFalseBetweenRow : OpenClaim := { program := "ytiajeheonoebnaa", sum := "b002811b00751b0bad5708a6a344313360bb97ce727fd82c338cb402a2d20ddb", func := "loop.example/g00894/laws.FnExactFalseBetween", spec := "fnExactFalseBetween", apart := false }
def FnExactFalseBetweenSaid : Prop := fnExactFalseBetweenRow.holds Try.pinned (OpenSpec.ofChange fnExactFalseBetweenSpec)

/-- ITS FALSE NEIGHBOUR: 'it returns false'. Refute it at one input. -/
def fnExactFalseBetweenWrong : ChangeSpec := { name := "fnExactFalseBetween", fn := fun _ => fun
  | [d1, d2, d3] => { results := [.lit (.bool false)], args := [d1, d2, d3] }
  | _ => none }
def FnExactFalseBetweenWrongFalsely : Prop := fnExactFalseBetweenRow.holds Try.pinned (OpenSpec.ofChange fnExactFalseBetweenWrong)

/-- 'laws.FnExactIsFalseHead': WHATEVER THE INPUT: true; the input reads as it did. -/
def fnExactIsFalseHeadSpec : ChangeSpec := { name := "fnExactIsFalseHead", fn := fun _ => fun
  | [d1, d2] => { results := [.lit (.bool true)], args := [d1, d2] }
  | _ => none }
def fnExactIsFalseHeadRow : OpenClaim := { program := "ytiajeheonoebnaa", sum := "b002811b00751b0bad5708a6a344313360bb97ce727fd82c338cb402a2d20ddb", func := "loop.example/g00894/laws.FnExactIsFalseHead", spec := "fnExactIsFalseHead", apart := false }
def FnExactIsFalseHeadSaid : Prop := fnExactIsFalseHeadRow.holds Try.pinned (OpenSpec.ofChange fnExactIsFalseHeadSpec)

/-- ITS FALSE NEIGHBOUR: 'it returns false'. Refute it at one input. -/
def fnExactIsFalseHeadWrong : ChangeSpec := { name := "fnExactIsFalseHead", fn := fun _ => fun
  | [d1, d2] => { results := [.lit (.bool false)], args := [d1, d2] }
  | _ => none }
def FnExactIsFalseHeadWrongFalsely : Prop := fnExactIsFalseHeadRow.holds Try.pinned (OpenSpec.ofChange fnExactIsFalseHeadWrong)

/-- 'laws.FnExactCountTrue': WHATEVER THE INPUT: true; the input reads as it did. -/
def fnExactCountTrueSpec : ChangeSpec := { name := "fnExactCountTrue", fn := fun _ => fun
  | [d1, d2, d3] => { results := [.lit (.bool true)], args := [d1, d2, d3] }
  | _ => none }
def fnExactCountTrueRow : OpenClaim := { program := "ytiajeheonoebnaa", sum := "b002811b00751b0bad5708a6a344313360bb97ce727fd82c338cb402a2d20ddb", func := "loop.example/g00894/laws.FnExactCountTrue", spec := "fnExactCountTrue", recurses := true, apart := false }
def FnExactCountTrueSaid : Prop := fnExactCountTrueRow.holds Try.pinned (OpenSpec.ofChange fnExactCountTrueSpec)

/-- ITS FALSE NEIGHBOUR: 'it returns false'. Refute it at one input. -/
def fnExactCountTrueWrong : ChangeSpec := { name := "fnExactCountTrue", fn := fun _ => fun
  | [d1, d2, d3] => { results := [.lit (.bool false)], args := [d1, d2, d3] }
  | _ => none }
def FnExactCountTrueWrongFalsely : Prop := fnExactCountTrueRow.holds Try.pinned (OpenSpec.ofChange fnExactCountTrueWrong)

/-- 'laws.FnExactTrueByHeads': WHATEVER THE INPUT: true; the input reads as it did. -/
def fnExactTrueByHeadsSpec : ChangeSpec := { name := "fnExactTrueByHeads", fn := fun _ => fun
  | [d1, d2, d3] => { results := [.lit (.bool true)], args := [d1, d2, d3] }
  | _ => none }
def fnExactTrueByHeadsRow : OpenClaim := { program := "ytiajeheonoebnaa", sum := "b002811b00751b0bad5708a6a344313360bb97ce727fd82c338cb402a2d20ddb", func := "loop.example/g00894/laws.FnExactTrueByHeads", spec := "fnExactTrueByHeads", recurses := true, apart := false }
def FnExactTrueByHeadsSaid : Prop := fnExactTrueByHeadsRow.holds Try.pinned (OpenSpec.ofChange fnExactTrueByHeadsSpec)

/-- ITS FALSE NEIGHBOUR: 'it returns false'. Refute it at one input. -/
def fnExactTrueByHeadsWrong : ChangeSpec := { name := "fnExactTrueByHeads", fn := fun _ => fun
  | [d1, d2, d3] => { results := [.lit (.bool false)], args := [d1, d2, d3] }
  | _ => none }
def FnExactTrueByHeadsWrongFalsely : Prop := fnExactTrueByHeadsRow.holds Try.pinned (OpenSpec.ofChange fnExactTrueByHeadsWrong)

/-- 'laws.FnExactClashesIn': WHATEVER THE INPUT: true; the input reads as it did. -/
def fnExactClashesInSpec : ChangeSpec := { name := "fnExactClashesIn", fn := fun _ => fun
  | [d1, d2] => { results := [.lit (.bool true)], args := [d1, d2] }
  | _ => none }
def fnExactClashesInRow : OpenClaim := { program := "ytiajeheonoebnaa", sum := "b002811b00751b0bad5708a6a344313360bb97ce727fd82c338cb402a2d20ddb", func := "loop.example/g00894/laws.FnExactClashesIn", spec := "fnExactClashesIn", recurses := true, apart := false }
def FnExactClashesInSaid : Prop := fnExactClashesInRow.holds Try.pinned (OpenSpec.ofChange fnExactClashesInSpec)

/-- ITS FALSE NEIGHBOUR: 'it returns false'. Refute it at one input. -/
def fnExactClashesInWrong : ChangeSpec := { name := "fnExactClashesIn", fn := fun _ => fun
  | [d1, d2] => { results := [.lit (.bool false)], args := [d1, d2] }
  | _ => none }
def FnExactClashesInWrongFalsely : Prop := fnExactClashesInRow.holds Try.pinned (OpenSpec.ofChange fnExactClashesInWrong)

/-- 'laws.FnExactFirstClash': WHATEVER THE INPUT: true; the input reads as it did. -/
def fnExactFirstClashSpec : ChangeSpec := { name := "fnExactFirstClash", fn := fun _ => fun
  | [d1, d2, d3] => { results := [.lit (.bool true)], args := [d1, d2, d3] }
  | _ => none }
def fnExactFirstClashRow : OpenClaim := { program := "ytiajeheonoebnaa", sum := "b002811b00751b0bad5708a6a344313360bb97ce727fd82c338cb402a2d20ddb", func := "loop.example/g00894/laws.FnExactFirstClash", spec := "fnExactFirstClash", unfollowed := true, recurses := true, apart := false }
def FnExactFirstClashSaid : Prop := fnExactFirstClashRow.holds Try.pinned (OpenSpec.ofChange fnExactFirstClashSpec)

/-- ITS FALSE NEIGHBOUR: 'it returns false'. Refute it at one input. -/
def fnExactFirstClashWrong : ChangeSpec := { name := "fnExactFirstClash", fn := fun _ => fun
  | [d1, d2, d3] => { results := [.lit (.bool false)], args := [d1, d2, d3] }
  | _ => none }
def FnExactFirstClashWrongFalsely : Prop := fnExactFirstClashRow.holds Try.pinned (OpenSpec.ofChange fnExactFirstClashWrong)

/-- 'laws.FnExactFalseHeads': WHATEVER THE INPUT: true; the input reads as it did. -/
def fnExactFalseHeadsSpec : ChangeSpec := { name := "fnExactFalseHeads", fn := fun _ => fun
  | [d] => { results := [.lit (.bool true)], args := [d] }
  | _ => none }
def fnExactFalseHeadsRow : OpenClaim := { program := "ytiajeheonoebnaa", sum := "b002811b00751b0bad5708a6a344313360bb97ce727fd82c338cb402a2d20ddb", func := "loop.example/g00894/laws.FnExactFalseHeads", spec := "fnExactFalseHeads", recurses := true, apart := false }
def FnExactFalseHeadsSaid : Prop := fnExactFalseHeadsRow.holds Try.pinned (OpenSpec.ofChange fnExactFalseHeadsSpec)

/-- ITS FALSE NEIGHBOUR: 'it returns false'. Refute it at one input. -/
def fnExactFalseHeadsWrong : ChangeSpec := { name := "fnExactFalseHeads", fn := fun _ => fun
  | [d] => { results := [.lit (.bool false)], args := [d] }
  | _ => none }
def FnExactFalseHeadsWrongFalsely : Prop := fnExactFalseHeadsRow.holds Try.pinned (OpenSpec.ofChange fnExactFalseHeadsWrong)

/-- 'laws.FnExactSameFalse': WHATEVER THE INPUT: true; the input reads as it did. -/
def fnExactSameFalseSpec : ChangeSpec := { name := "fnExactSameFalse", fn := fun _ => fun
  | [d1, d2] => { results := [.lit (.bool true)], args := [d1, d2] }
  | _ => none }
def fnExactSameFalseRow : OpenClaim := { program := "ytiajeheonoebnaa", sum := "b002811b00751b0bad5708a6a344313360bb97ce727fd82c338cb402a2d20ddb", func := "loop.example/g00894/laws.FnExactSameFalse", spec := "fnExactSameFalse", recurses := true, apart := false }
def FnExactSameFalseSaid : Prop := fnExactSameFalseRow.holds Try.pinned (OpenSpec.ofChange fnExactSameFalseSpec)

/-- ITS FALSE NEIGHBOUR: 'it returns false'. Refute it at one input. -/
def fnExactSameFalseWrong : ChangeSpec := { name := "fnExactSameFalse", fn := fun _ => fun
  | [d1, d2] => { results := [.lit (.bool false)], args := [d1, d2] }
  | _ => none }
def FnExactSameFalseWrongFalsely : Prop := fnExactSameFalseRow.holds Try.pinned (OpenSpec.ofChange fnExactSameFalseWrong)

/- THE SECOND FORM. 'bulk': how many values and letters a reading holds, each counted each time it is reached (what is shared counts as often as it is met; a slice's spare places count too). A statement '..UptoSaid' is the law's where the arguments, and the package variables that the reading takes, are together of bulk at most 1048576: NARROWER than '..Said'. Prove '..Said' where nothing that the law and all that it calls make is longer than what came in: it says more and counts as full. Else prove '..UptoSaid'. A law counts once. -/
mutual
def uptoBulk {H : Type} : DataW H → Nat
  | .lit (.string bytes) => bytes.length + 1
  | .lit _ => 1
  | .nil => 1
  | .ptr d => uptoBulk d + 1
  | .slice elems spare => uptoBulkAll elems + uptoBulkAll spare + 1
  | .agg parts => uptoBulkAll parts + 1
  | .iface _ d => uptoBulk d + 1
  | .map entries => uptoBulkEntries entries + 1
  | .held _ => 1
def uptoBulkAll {H : Type} : List (DataW H) → Nat
  | [] => 0
  | d :: r => uptoBulk d + uptoBulkAll r
def uptoBulkEntries {H : Type} : List (Lit × DataW H) → Nat
  | [] => 0
  | x :: r => uptoBulkEntry x + uptoBulkEntries r
def uptoBulkEntry {H : Type} : Lit × DataW H → Nat
  | (.string bytes, d) => bytes.length + uptoBulk d + 1
  | (_, d) => uptoBulk d + 1
 end
def uptoSmall : (H : Type) → List (DataW H) → Bool := fun _ ds => decide (uptoBulkAll ds ≤ 1048576)
def OpenSpec.upto (s : _root_.Go.ChangeSpec) : _root_.Go.OpenSpec := { _root_.Go.OpenSpec.ofChange s with cond := some uptoSmall }

/-- 'laws.FnExactFalseBetween', WHERE WHAT IT READS IS OF BULK AT MOST 1048576: true; the input reads as it did. -/
def fnExactFalseBetweenUptoRow : OpenClaim := { program := "ytiajeheonoebnaa", sum := "b002811b00751b0bad5708a6a344313360bb97ce727fd82c338cb402a2d20ddb", func := "loop.example/g00894/laws.FnExactFalseBetween", spec := "fnExactFalseBetween", apart := false, narrowed := true }
def FnExactFalseBetweenUptoSaid : Prop := fnExactFalseBetweenUptoRow.holds Try.pinned (OpenSpec.upto fnExactFalseBetweenSpec)

/-- 'laws.FnExactIsFalseHead', WHERE WHAT IT READS IS OF BULK AT MOST 1048576: true; the input reads as it did. -/
def fnExactIsFalseHeadUptoRow : OpenClaim := { program := "ytiajeheonoebnaa", sum := "b002811b00751b0bad5708a6a344313360bb97ce727fd82c338cb402a2d20ddb", func := "loop.example/g00894/laws.FnExactIsFalseHead", spec := "fnExactIsFalseHead", apart := false, narrowed := true }
def FnExactIsFalseHeadUptoSaid : Prop := fnExactIsFalseHeadUptoRow.holds Try.pinned (OpenSpec.upto fnExactIsFalseHeadSpec)

/-- 'laws.FnExactCountTrue', WHERE WHAT IT READS IS OF BULK AT MOST 1048576: true; the input reads as it did. -/
def fnExactCountTrueUptoRow : OpenClaim := { program := "ytiajeheonoebnaa", sum := "b002811b00751b0bad5708a6a344313360bb97ce727fd82c338cb402a2d20ddb", func := "loop.example/g00894/laws.FnExactCountTrue", spec := "fnExactCountTrue", recurses := true, apart := false, narrowed := true }
def FnExactCountTrueUptoSaid : Prop := fnExactCountTrueUptoRow.holds Try.pinned (OpenSpec.upto fnExactCountTrueSpec)

/-- 'laws.FnExactTrueByHeads', WHERE WHAT IT READS IS OF BULK AT MOST 1048576: true; the input reads as it did. -/
def fnExactTrueByHeadsUptoRow : OpenClaim := { program := "ytiajeheonoebnaa", sum := "b002811b00751b0bad5708a6a344313360bb97ce727fd82c338cb402a2d20ddb", func := "loop.example/g00894/laws.FnExactTrueByHeads", spec := "fnExactTrueByHeads", recurses := true, apart := false, narrowed := true }
def FnExactTrueByHeadsUptoSaid : Prop := fnExactTrueByHeadsUptoRow.holds Try.pinned (OpenSpec.upto fnExactTrueByHeadsSpec)

/-- 'laws.FnExactClashesIn', WHERE WHAT IT READS IS OF BULK AT MOST 1048576: true; the input reads as it did. -/
def fnExactClashesInUptoRow : OpenClaim := { program := "ytiajeheonoebnaa", sum := "b002811b00751b0bad5708a6a344313360bb97ce727fd82c338cb402a2d20ddb", func := "loop.example/g00894/laws.FnExactClashesIn", spec := "fnExactClashesIn", recurses := true, apart := false, narrowed := true }
def FnExactClashesInUptoSaid : Prop := fnExactClashesInUptoRow.holds Try.pinned (OpenSpec.upto fnExactClashesInSpec)

/-- 'laws.FnExactFirstClash', WHERE WHAT IT READS IS OF BULK AT MOST 1048576: true; the input reads as it did. -/
def fnExactFirstClashUptoRow : OpenClaim := { program := "ytiajeheonoebnaa", sum := "b002811b00751b0bad5708a6a344313360bb97ce727fd82c338cb402a2d20ddb", func := "loop.example/g00894/laws.FnExactFirstClash", spec := "fnExactFirstClash", unfollowed := true, recurses := true, apart := false, narrowed := true }
def FnExactFirstClashUptoSaid : Prop := fnExactFirstClashUptoRow.holds Try.pinned (OpenSpec.upto fnExactFirstClashSpec)

/-- 'laws.FnExactFalseHeads', WHERE WHAT IT READS IS OF BULK AT MOST 1048576: true; the input reads as it did. -/
def fnExactFalseHeadsUptoRow : OpenClaim := { program := "ytiajeheonoebnaa", sum := "b002811b00751b0bad5708a6a344313360bb97ce727fd82c338cb402a2d20ddb", func := "loop.example/g00894/laws.FnExactFalseHeads", spec := "fnExactFalseHeads", recurses := true, apart := false, narrowed := true }
def FnExactFalseHeadsUptoSaid : Prop := fnExactFalseHeadsUptoRow.holds Try.pinned (OpenSpec.upto fnExactFalseHeadsSpec)

/-- 'laws.FnExactSameFalse', WHERE WHAT IT READS IS OF BULK AT MOST 1048576: true; the input reads as it did. -/
def fnExactSameFalseUptoRow : OpenClaim := { program := "ytiajeheonoebnaa", sum := "b002811b00751b0bad5708a6a344313360bb97ce727fd82c338cb402a2d20ddb", func := "loop.example/g00894/laws.FnExactSameFalse", spec := "fnExactSameFalse", recurses := true, apart := false, narrowed := true }
def FnExactSameFalseUptoSaid : Prop := fnExactSameFalseUptoRow.holds Try.pinned (OpenSpec.upto fnExactSameFalseSpec)

end Rows
end Go.Proofs.Ytiajeheonoebnaa
