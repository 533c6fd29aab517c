/-
  No cell of these rows narrows 'for every input' (looked for: loops, veiled, ifaces, maps, wideKeys, modest, calm, conditions, laid).
  DERIVED. THE GIVEN ROWS OF THIS SEAT. 9 by the template 'for every input the law returns true; each argument reads behind the call as it read before'; 0 by the template 'total and deterministic' (their statements: YtgljhhjfinngjaaTotals.lean).
  GIVEN WITH THE SEED: the statements are not yours to turn. If you find one false, say at which input.
  Laid BY PROGRAM, IN A SANDBOX (cutbox-rows.mjs): the forced cells as the released guide's own fill.sh prints them over the translation d9534dad10779a62… (all of the seat's roots in one cut). By AI agents, Wed Nov 11 2026. No macro, syntax, notation, axiom, sorry.
-/
import Derived.Test.YtgljhhjfinngjaaChecked
import GoSem.Claim
import GoSem.ClaimJoined
import GoSem.ClaimMapViews
import Derived.JoinedTies
import Derived.KernelRfl
namespace Go.Proofs.Ytgljhhjfinngjaa
/- THE CELL 'sum', in the pinned program and in every row, IS THE sha256 OF THE DUMP (.gsa) THAT YtgljhhjfinngjaaProg.lean LOADS. Nothing in Lean hashes anything: it is a label: what it is worth is what the hold of that sum in a sandbox is worth. -/
noncomputable def Try.pinned : Pinned := { name := "ytgljhhjfinngjaa", sum := "d9534dad10779a623a3283467b0e9ee396bba852309c6481e09225c1f8d733e0", checked := Try.checked }
namespace Rows
def none {H : Type} : Left H := { results := [], args := [] }

/-- 'laws.FnExactPartEnd': WHATEVER THE INPUT: true; the input reads as it did. -/
def fnExactPartEndSpec : ChangeSpec := { name := "fnExactPartEnd", fn := fun _ => fun
  | [d1, d2, d3] => { results := [.lit (.bool true)], args := [d1, d2, d3] }
  | _ => none }
def fnExactPartEndRow : OpenClaim := { program := "ytgljhhjfinngjaa", sum := "d9534dad10779a623a3283467b0e9ee396bba852309c6481e09225c1f8d733e0", func := "loop.example/g00894/laws.FnExactPartEnd", spec := "fnExactPartEnd", apart := false }
def FnExactPartEndSaid : Prop := fnExactPartEndRow.holds Try.pinned (OpenSpec.ofChange fnExactPartEndSpec)

/-- ITS FALSE NEIGHBOUR: 'it returns false'. Refute it at one input. -/
def fnExactPartEndWrong : ChangeSpec := { name := "fnExactPartEnd", fn := fun _ => fun
  | [d1, d2, d3] => { results := [.lit (.bool false)], args := [d1, d2, d3] }
  | _ => none }
def FnExactPartEndWrongFalsely : Prop := fnExactPartEndRow.holds Try.pinned (OpenSpec.ofChange fnExactPartEndWrong)

/-- 'laws.FnExactPartsIn': WHATEVER THE INPUT: true; the input reads as it did. -/
def fnExactPartsInSpec : ChangeSpec := { name := "fnExactPartsIn", fn := fun _ => fun
  | [d1, d2, d3] => { results := [.lit (.bool true)], args := [d1, d2, d3] }
  | _ => none }
def fnExactPartsInRow : OpenClaim := { program := "ytgljhhjfinngjaa", sum := "d9534dad10779a623a3283467b0e9ee396bba852309c6481e09225c1f8d733e0", func := "loop.example/g00894/laws.FnExactPartsIn", spec := "fnExactPartsIn", apart := false }
def FnExactPartsInSaid : Prop := fnExactPartsInRow.holds Try.pinned (OpenSpec.ofChange fnExactPartsInSpec)

/-- ITS FALSE NEIGHBOUR: 'it returns false'. Refute it at one input. -/
def fnExactPartsInWrong : ChangeSpec := { name := "fnExactPartsIn", fn := fun _ => fun
  | [d1, d2, d3] => { results := [.lit (.bool false)], args := [d1, d2, d3] }
  | _ => none }
def FnExactPartsInWrongFalsely : Prop := fnExactPartsInRow.holds Try.pinned (OpenSpec.ofChange fnExactPartsInWrong)

/-- 'laws.FnExactWholeOf': WHATEVER THE INPUT: true; the input reads as it did. -/
def fnExactWholeOfSpec : ChangeSpec := { name := "fnExactWholeOf", fn := fun _ => fun
  | [d1, d2, d3] => { results := [.lit (.bool true)], args := [d1, d2, d3] }
  | _ => none }
def fnExactWholeOfRow : OpenClaim := { program := "ytgljhhjfinngjaa", sum := "d9534dad10779a623a3283467b0e9ee396bba852309c6481e09225c1f8d733e0", func := "loop.example/g00894/laws.FnExactWholeOf", spec := "fnExactWholeOf", inPlace := ["internal/abi.NoEscape", "internal/bytealg.MakeNoZero"], apart := false }
def FnExactWholeOfSaid : Prop := fnExactWholeOfRow.holds Try.pinned (OpenSpec.ofChange fnExactWholeOfSpec)

/-- ITS FALSE NEIGHBOUR: 'it returns false'. Refute it at one input. -/
def fnExactWholeOfWrong : ChangeSpec := { name := "fnExactWholeOf", fn := fun _ => fun
  | [d1, d2, d3] => { results := [.lit (.bool false)], args := [d1, d2, d3] }
  | _ => none }
def FnExactWholeOfWrongFalsely : Prop := fnExactWholeOfRow.holds Try.pinned (OpenSpec.ofChange fnExactWholeOfWrong)

/-- 'laws.FnExactTouchHeads': WHATEVER THE INPUT: true; the input reads as it did. -/
def fnExactTouchHeadsSpec : ChangeSpec := { name := "fnExactTouchHeads", fn := fun _ => fun
  | [d1, d2, d3] => { results := [.lit (.bool true)], args := [d1, d2, d3] }
  | _ => none }
def fnExactTouchHeadsRow : OpenClaim := { program := "ytgljhhjfinngjaa", sum := "d9534dad10779a623a3283467b0e9ee396bba852309c6481e09225c1f8d733e0", func := "loop.example/g00894/laws.FnExactTouchHeads", spec := "fnExactTouchHeads", apart := false }
def FnExactTouchHeadsSaid : Prop := fnExactTouchHeadsRow.holds Try.pinned (OpenSpec.ofChange fnExactTouchHeadsSpec)

/-- ITS FALSE NEIGHBOUR: 'it returns false'. Refute it at one input. -/
def fnExactTouchHeadsWrong : ChangeSpec := { name := "fnExactTouchHeads", fn := fun _ => fun
  | [d1, d2, d3] => { results := [.lit (.bool false)], args := [d1, d2, d3] }
  | _ => none }
def FnExactTouchHeadsWrongFalsely : Prop := fnExactTouchHeadsRow.holds Try.pinned (OpenSpec.ofChange fnExactTouchHeadsWrong)

/-- 'laws.FnExactTouchRows': WHATEVER THE INPUT: true; the input reads as it did. -/
def fnExactTouchRowsSpec : ChangeSpec := { name := "fnExactTouchRows", fn := fun _ => fun
  | [d1, d2, d3] => { results := [.lit (.bool true)], args := [d1, d2, d3] }
  | _ => none }
def fnExactTouchRowsRow : OpenClaim := { program := "ytgljhhjfinngjaa", sum := "d9534dad10779a623a3283467b0e9ee396bba852309c6481e09225c1f8d733e0", func := "loop.example/g00894/laws.FnExactTouchRows", spec := "fnExactTouchRows", apart := false }
def FnExactTouchRowsSaid : Prop := fnExactTouchRowsRow.holds Try.pinned (OpenSpec.ofChange fnExactTouchRowsSpec)

/-- ITS FALSE NEIGHBOUR: 'it returns false'. Refute it at one input. -/
def fnExactTouchRowsWrong : ChangeSpec := { name := "fnExactTouchRows", fn := fun _ => fun
  | [d1, d2, d3] => { results := [.lit (.bool false)], args := [d1, d2, d3] }
  | _ => none }
def FnExactTouchRowsWrongFalsely : Prop := fnExactTouchRowsRow.holds Try.pinned (OpenSpec.ofChange fnExactTouchRowsWrong)

/-- 'laws.FnExactPartRows': WHATEVER THE INPUT: true; the input reads as it did. -/
def fnExactPartRowsSpec : ChangeSpec := { name := "fnExactPartRows", fn := fun _ => fun
  | [d1, d2, d3] => { results := [.lit (.bool true)], args := [d1, d2, d3] }
  | _ => none }
def fnExactPartRowsRow : OpenClaim := { program := "ytgljhhjfinngjaa", sum := "d9534dad10779a623a3283467b0e9ee396bba852309c6481e09225c1f8d733e0", func := "loop.example/g00894/laws.FnExactPartRows", spec := "fnExactPartRows", recurses := true, apart := false }
def FnExactPartRowsSaid : Prop := fnExactPartRowsRow.holds Try.pinned (OpenSpec.ofChange fnExactPartRowsSpec)

/-- ITS FALSE NEIGHBOUR: 'it returns false'. Refute it at one input. -/
def fnExactPartRowsWrong : ChangeSpec := { name := "fnExactPartRows", fn := fun _ => fun
  | [d1, d2, d3] => { results := [.lit (.bool false)], args := [d1, d2, d3] }
  | _ => none }
def FnExactPartRowsWrongFalsely : Prop := fnExactPartRowsRow.holds Try.pinned (OpenSpec.ofChange fnExactPartRowsWrong)

/-- 'laws.FnExactTrueByParts': WHATEVER THE INPUT: true; the input reads as it did. -/
def fnExactTrueByPartsSpec : ChangeSpec := { name := "fnExactTrueByParts", fn := fun _ => fun
  | [d1, d2, d3] => { results := [.lit (.bool true)], args := [d1, d2, d3] }
  | _ => none }
def fnExactTrueByPartsRow : OpenClaim := { program := "ytgljhhjfinngjaa", sum := "d9534dad10779a623a3283467b0e9ee396bba852309c6481e09225c1f8d733e0", func := "loop.example/g00894/laws.FnExactTrueByParts", spec := "fnExactTrueByParts", recurses := true, apart := false }
def FnExactTrueByPartsSaid : Prop := fnExactTrueByPartsRow.holds Try.pinned (OpenSpec.ofChange fnExactTrueByPartsSpec)

/-- ITS FALSE NEIGHBOUR: 'it returns false'. Refute it at one input. -/
def fnExactTrueByPartsWrong : ChangeSpec := { name := "fnExactTrueByParts", fn := fun _ => fun
  | [d1, d2, d3] => { results := [.lit (.bool false)], args := [d1, d2, d3] }
  | _ => none }
def FnExactTrueByPartsWrongFalsely : Prop := fnExactTrueByPartsRow.holds Try.pinned (OpenSpec.ofChange fnExactTrueByPartsWrong)

/-- 'laws.FnExactIsLeadTrue': WHATEVER THE INPUT: true; the input reads as it did. -/
def fnExactIsLeadTrueSpec : ChangeSpec := { name := "fnExactIsLeadTrue", fn := fun _ => fun
  | [d] => { results := [.lit (.bool true)], args := [d] }
  | _ => none }
def fnExactIsLeadTrueRow : OpenClaim := { program := "ytgljhhjfinngjaa", sum := "d9534dad10779a623a3283467b0e9ee396bba852309c6481e09225c1f8d733e0", func := "loop.example/g00894/laws.FnExactIsLeadTrue", spec := "fnExactIsLeadTrue", recurses := true, apart := false }
def FnExactIsLeadTrueSaid : Prop := fnExactIsLeadTrueRow.holds Try.pinned (OpenSpec.ofChange fnExactIsLeadTrueSpec)

/-- ITS FALSE NEIGHBOUR: 'it returns false'. Refute it at one input. -/
def fnExactIsLeadTrueWrong : ChangeSpec := { name := "fnExactIsLeadTrue", fn := fun _ => fun
  | [d] => { results := [.lit (.bool false)], args := [d] }
  | _ => none }
def FnExactIsLeadTrueWrongFalsely : Prop := fnExactIsLeadTrueRow.holds Try.pinned (OpenSpec.ofChange fnExactIsLeadTrueWrong)

/-- 'laws.FnExactSharedRows': WHATEVER THE INPUT: true; the input reads as it did. -/
def fnExactSharedRowsSpec : ChangeSpec := { name := "fnExactSharedRows", fn := fun _ => fun
  | [d1, d2] => { results := [.lit (.bool true)], args := [d1, d2] }
  | _ => none }
def fnExactSharedRowsRow : OpenClaim := { program := "ytgljhhjfinngjaa", sum := "d9534dad10779a623a3283467b0e9ee396bba852309c6481e09225c1f8d733e0", func := "loop.example/g00894/laws.FnExactSharedRows", spec := "fnExactSharedRows", apart := false }
def FnExactSharedRowsSaid : Prop := fnExactSharedRowsRow.holds Try.pinned (OpenSpec.ofChange fnExactSharedRowsSpec)

/-- ITS FALSE NEIGHBOUR: 'it returns false'. Refute it at one input. -/
def fnExactSharedRowsWrong : ChangeSpec := { name := "fnExactSharedRows", fn := fun _ => fun
  | [d1, d2] => { results := [.lit (.bool false)], args := [d1, d2] }
  | _ => none }
def FnExactSharedRowsWrongFalsely : Prop := fnExactSharedRowsRow.holds Try.pinned (OpenSpec.ofChange fnExactSharedRowsWrong)

/- THE SECOND FORM. 'bulk': how many values and letters a reading holds, each counted each time it is reached (what is shared counts as often as it is met; a slice's spare places count too). A statement '..UptoSaid' is the law's where the arguments, and the package variables that the reading takes, are together of bulk at most 1048576: NARROWER than '..Said'. Prove '..Said' where nothing that the law and all that it calls make is longer than what came in: it says more and counts as full. Else prove '..UptoSaid'. A law counts once. -/
mutual
def uptoBulk {H : Type} : DataW H → Nat
  | .lit (.string bytes) => bytes.length + 1
  | .lit _ => 1
  | .nil => 1
  | .ptr d => uptoBulk d + 1
  | .slice elems spare => uptoBulkAll elems + uptoBulkAll spare + 1
  | .agg parts => uptoBulkAll parts + 1
  | .iface _ d => uptoBulk d + 1
  | .map entries => uptoBulkEntries entries + 1
  | .held _ => 1
def uptoBulkAll {H : Type} : List (DataW H) → Nat
  | [] => 0
  | d :: r => uptoBulk d + uptoBulkAll r
def uptoBulkEntries {H : Type} : List (Lit × DataW H) → Nat
  | [] => 0
  | x :: r => uptoBulkEntry x + uptoBulkEntries r
def uptoBulkEntry {H : Type} : Lit × DataW H → Nat
  | (.string bytes, d) => bytes.length + uptoBulk d + 1
  | (_, d) => uptoBulk d + 1
 end
def uptoSmall : (H : Type) → List (DataW H) → Bool := fun _ ds => decide (uptoBulkAll ds ≤ 1048576)
def OpenSpec.upto (s : _root_.Go.ChangeSpec) : _root_.Go.OpenSpec := { _root_.Go.OpenSpec.ofChange s with cond := some uptoSmall }

/-- 'laws.FnExactPartEnd', WHERE WHAT IT READS IS OF BULK AT MOST 1048576: true; the input reads as it did. -/
def fnExactPartEndUptoRow : OpenClaim := { program := "ytgljhhjfinngjaa", sum := "d9534dad10779a623a3283467b0e9ee396bba852309c6481e09225c1f8d733e0", func := "loop.example/g00894/laws.FnExactPartEnd", spec := "fnExactPartEnd", apart := false, narrowed := true }
def FnExactPartEndUptoSaid : Prop := fnExactPartEndUptoRow.holds Try.pinned (OpenSpec.upto fnExactPartEndSpec)

/-- 'laws.FnExactPartsIn', WHERE WHAT IT READS IS OF BULK AT MOST 1048576: true; the input reads as it did. -/
def fnExactPartsInUptoRow : OpenClaim := { program := "ytgljhhjfinngjaa", sum := "d9534dad10779a623a3283467b0e9ee396bba852309c6481e09225c1f8d733e0", func := "loop.example/g00894/laws.FnExactPartsIn", spec := "fnExactPartsIn", apart := false, narrowed := true }
def FnExactPartsInUptoSaid : Prop := fnExactPartsInUptoRow.holds Try.pinned (OpenSpec.upto fnExactPartsInSpec)

/-- 'laws.FnExactWholeOf', WHERE WHAT IT READS IS OF BULK AT MOST 1048576: true; the input reads as it did. -/
def fnExactWholeOfUptoRow : OpenClaim := { program := "ytgljhhjfinngjaa", sum := "d9534dad10779a623a3283467b0e9ee396bba852309c6481e09225c1f8d733e0", func := "loop.example/g00894/laws.FnExactWholeOf", spec := "fnExactWholeOf", inPlace := ["internal/abi.NoEscape", "internal/bytealg.MakeNoZero"], apart := false, narrowed := true }
def FnExactWholeOfUptoSaid : Prop := fnExactWholeOfUptoRow.holds Try.pinned (OpenSpec.upto fnExactWholeOfSpec)

/-- 'laws.FnExactTouchHeads', WHERE WHAT IT READS IS OF BULK AT MOST 1048576: true; the input reads as it did. -/
def fnExactTouchHeadsUptoRow : OpenClaim := { program := "ytgljhhjfinngjaa", sum := "d9534dad10779a623a3283467b0e9ee396bba852309c6481e09225c1f8d733e0", func := "loop.example/g00894/laws.FnExactTouchHeads", spec := "fnExactTouchHeads", apart := false, narrowed := true }
def FnExactTouchHeadsUptoSaid : Prop := fnExactTouchHeadsUptoRow.holds Try.pinned (OpenSpec.upto fnExactTouchHeadsSpec)

/-- 'laws.FnExactTouchRows', WHERE WHAT IT READS IS OF BULK AT MOST 1048576: true; the input reads as it did. -/
def fnExactTouchRowsUptoRow : OpenClaim := { program := "ytgljhhjfinngjaa", sum := "d9534dad10779a623a3283467b0e9ee396bba852309c6481e09225c1f8d733e0", func := "loop.example/g00894/laws.FnExactTouchRows", spec := "fnExactTouchRows", apart := false, narrowed := true }
def FnExactTouchRowsUptoSaid : Prop := fnExactTouchRowsUptoRow.holds Try.pinned (OpenSpec.upto fnExactTouchRowsSpec)

/-- 'laws.FnExactPartRows', WHERE WHAT IT READS IS OF BULK AT MOST 1048576: true; the input reads as it did. -/
def fnExactPartRowsUptoRow : OpenClaim := { program := "ytgljhhjfinngjaa", sum := "d9534dad10779a623a3283467b0e9ee396bba852309c6481e09225c1f8d733e0", func := "loop.example/g00894/laws.FnExactPartRows", spec := "fnExactPartRows", recurses := true, apart := false, narrowed := true }
def FnExactPartRowsUptoSaid : Prop := fnExactPartRowsUptoRow.holds Try.pinned (OpenSpec.upto fnExactPartRowsSpec)

/-- 'laws.FnExactTrueByParts', WHERE WHAT IT READS IS OF BULK AT MOST 1048576: true; the input reads as it did. -/
def fnExactTrueByPartsUptoRow : OpenClaim := { program := "ytgljhhjfinngjaa", sum := "d9534dad10779a623a3283467b0e9ee396bba852309c6481e09225c1f8d733e0", func := "loop.example/g00894/laws.FnExactTrueByParts", spec := "fnExactTrueByParts", recurses := true, apart := false, narrowed := true }
def FnExactTrueByPartsUptoSaid : Prop := fnExactTrueByPartsUptoRow.holds Try.pinned (OpenSpec.upto fnExactTrueByPartsSpec)

/-- 'laws.FnExactIsLeadTrue', WHERE WHAT IT READS IS OF BULK AT MOST 1048576: true; the input reads as it did. -/
def fnExactIsLeadTrueUptoRow : OpenClaim := { program := "ytgljhhjfinngjaa", sum := "d9534dad10779a623a3283467b0e9ee396bba852309c6481e09225c1f8d733e0", func := "loop.example/g00894/laws.FnExactIsLeadTrue", spec := "fnExactIsLeadTrue", recurses := true, apart := false, narrowed := true }
def FnExactIsLeadTrueUptoSaid : Prop := fnExactIsLeadTrueUptoRow.holds Try.pinned (OpenSpec.upto fnExactIsLeadTrueSpec)

/-- 'laws.FnExactSharedRows', WHERE WHAT IT READS IS OF BULK AT MOST 1048576: true; the input reads as it did. -/
def fnExactSharedRowsUptoRow : OpenClaim := { program := "ytgljhhjfinngjaa", sum := "d9534dad10779a623a3283467b0e9ee396bba852309c6481e09225c1f8d733e0", func := "loop.example/g00894/laws.FnExactSharedRows", spec := "fnExactSharedRows", apart := false, narrowed := true }
def FnExactSharedRowsUptoSaid : Prop := fnExactSharedRowsUptoRow.holds Try.pinned (OpenSpec.upto fnExactSharedRowsSpec)

end Rows
end Go.Proofs.Ytgljhhjfinngjaa
