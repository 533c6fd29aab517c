/-
  No cell of these rows narrows 'for every input' (looked for: loops, veiled, ifaces, maps, wideKeys, modest, calm, conditions, laid).
  DERIVED. THE GIVEN ROWS OF THIS SEAT. 12 by the template 'for every input the law returns true; each argument reads behind the call as it read before'; 0 by the template 'total and deterministic' (their statements: YtdmipllbifofmaaTotals.lean).
  GIVEN WITH THE SEED: the statements are not yours to turn. If you find one false, say at which input.
  Laid BY PROGRAM, IN A SANDBOX (cutbox-rows.mjs): the forced cells as the released guide's own fill.sh prints them over the translation 869e6288e000852c… (all of the seat's roots in one cut). By AI agents, Wed Nov 11 2026. No macro, syntax, notation, axiom, sorry.
-/
import Derived.Test.YtdmipllbifofmaaChecked
import GoSem.Claim
import GoSem.ClaimJoined
import GoSem.ClaimMapViews
import Derived.JoinedTies
import Derived.KernelRfl
namespace Go.Proofs.Ytdmipllbifofmaa
/- THE CELL 'sum', in the pinned program and in every row, IS THE sha256 OF THE DUMP (.gsa) THAT YtdmipllbifofmaaProg.lean LOADS. Nothing in Lean hashes anything: it is a label: what it is worth is what the hold of that sum in a sandbox is worth. -/
noncomputable def Try.pinned : Pinned := { name := "ytdmipllbifofmaa", sum := "869e6288e000852c8a54928a59d9e9afb65eb11b4416369bd8f5851f4fce3539", checked := Try.checked }
namespace Rows
def none {H : Type} : Left H := { results := [], args := [] }

/-- 'laws.FnExactGoodCalls': WHATEVER THE INPUT: true; the input reads as it did. -/
def fnExactGoodCallsSpec : ChangeSpec := { name := "fnExactGoodCalls", fn := fun _ => fun
  | [d1, d2] => { results := [.lit (.bool true)], args := [d1, d2] }
  | _ => none }
def fnExactGoodCallsRow : OpenClaim := { program := "ytdmipllbifofmaa", sum := "869e6288e000852c8a54928a59d9e9afb65eb11b4416369bd8f5851f4fce3539", func := "loop.example/g00894/laws.FnExactGoodCalls", spec := "fnExactGoodCalls", apart := false }
def FnExactGoodCallsSaid : Prop := fnExactGoodCallsRow.holds Try.pinned (OpenSpec.ofChange fnExactGoodCallsSpec)

/-- ITS FALSE NEIGHBOUR: 'it returns false'. Refute it at one input. -/
def fnExactGoodCallsWrong : ChangeSpec := { name := "fnExactGoodCalls", fn := fun _ => fun
  | [d1, d2] => { results := [.lit (.bool false)], args := [d1, d2] }
  | _ => none }
def FnExactGoodCallsWrongFalsely : Prop := fnExactGoodCallsRow.holds Try.pinned (OpenSpec.ofChange fnExactGoodCallsWrong)

/-- 'laws.FnExactCalledLead': WHATEVER THE INPUT: true; the input reads as it did. -/
def fnExactCalledLeadSpec : ChangeSpec := { name := "fnExactCalledLead", fn := fun _ => fun
  | [d1, d2, d3] => { results := [.lit (.bool true)], args := [d1, d2, d3] }
  | _ => none }
def fnExactCalledLeadRow : OpenClaim := { program := "ytdmipllbifofmaa", sum := "869e6288e000852c8a54928a59d9e9afb65eb11b4416369bd8f5851f4fce3539", func := "loop.example/g00894/laws.FnExactCalledLead", spec := "fnExactCalledLead", apart := false }
def FnExactCalledLeadSaid : Prop := fnExactCalledLeadRow.holds Try.pinned (OpenSpec.ofChange fnExactCalledLeadSpec)

/-- ITS FALSE NEIGHBOUR: 'it returns false'. Refute it at one input. -/
def fnExactCalledLeadWrong : ChangeSpec := { name := "fnExactCalledLead", fn := fun _ => fun
  | [d1, d2, d3] => { results := [.lit (.bool false)], args := [d1, d2, d3] }
  | _ => none }
def FnExactCalledLeadWrongFalsely : Prop := fnExactCalledLeadRow.holds Try.pinned (OpenSpec.ofChange fnExactCalledLeadWrong)

/-- 'laws.FnExactCallHead': WHATEVER THE INPUT: true; the input reads as it did. -/
def fnExactCallHeadSpec : ChangeSpec := { name := "fnExactCallHead", fn := fun _ => fun
  | [d1, d2, d3] => { results := [.lit (.bool true)], args := [d1, d2, d3] }
  | _ => none }
def fnExactCallHeadRow : OpenClaim := { program := "ytdmipllbifofmaa", sum := "869e6288e000852c8a54928a59d9e9afb65eb11b4416369bd8f5851f4fce3539", func := "loop.example/g00894/laws.FnExactCallHead", spec := "fnExactCallHead", apart := false }
def FnExactCallHeadSaid : Prop := fnExactCallHeadRow.holds Try.pinned (OpenSpec.ofChange fnExactCallHeadSpec)

/-- ITS FALSE NEIGHBOUR: 'it returns false'. Refute it at one input. -/
def fnExactCallHeadWrong : ChangeSpec := { name := "fnExactCallHead", fn := fun _ => fun
  | [d1, d2, d3] => { results := [.lit (.bool false)], args := [d1, d2, d3] }
  | _ => none }
def FnExactCallHeadWrongFalsely : Prop := fnExactCallHeadRow.holds Try.pinned (OpenSpec.ofChange fnExactCallHeadWrong)

/-- 'laws.FnExactSameLead': WHATEVER THE INPUT: true; the input reads as it did. -/
def fnExactSameLeadSpec : ChangeSpec := { name := "fnExactSameLead", fn := fun _ => fun
  | [d1, d2, d3, d4] => { results := [.lit (.bool true)], args := [d1, d2, d3, d4] }
  | _ => none }
def fnExactSameLeadRow : OpenClaim := { program := "ytdmipllbifofmaa", sum := "869e6288e000852c8a54928a59d9e9afb65eb11b4416369bd8f5851f4fce3539", func := "loop.example/g00894/laws.FnExactSameLead", spec := "fnExactSameLead", apart := false }
def FnExactSameLeadSaid : Prop := fnExactSameLeadRow.holds Try.pinned (OpenSpec.ofChange fnExactSameLeadSpec)

/-- ITS FALSE NEIGHBOUR: 'it returns false'. Refute it at one input. -/
def fnExactSameLeadWrong : ChangeSpec := { name := "fnExactSameLead", fn := fun _ => fun
  | [d1, d2, d3, d4] => { results := [.lit (.bool false)], args := [d1, d2, d3, d4] }
  | _ => none }
def FnExactSameLeadWrongFalsely : Prop := fnExactSameLeadRow.holds Try.pinned (OpenSpec.ofChange fnExactSameLeadWrong)

/-- 'laws.FnExactCallRow': WHATEVER THE INPUT: true; the input reads as it did. -/
def fnExactCallRowSpec : ChangeSpec := { name := "fnExactCallRow", fn := fun _ => fun
  | [d1, d2, d3] => { results := [.lit (.bool true)], args := [d1, d2, d3] }
  | _ => none }
def fnExactCallRowRow : OpenClaim := { program := "ytdmipllbifofmaa", sum := "869e6288e000852c8a54928a59d9e9afb65eb11b4416369bd8f5851f4fce3539", func := "loop.example/g00894/laws.FnExactCallRow", spec := "fnExactCallRow", apart := false }
def FnExactCallRowSaid : Prop := fnExactCallRowRow.holds Try.pinned (OpenSpec.ofChange fnExactCallRowSpec)

/-- ITS FALSE NEIGHBOUR: 'it returns false'. Refute it at one input. -/
def fnExactCallRowWrong : ChangeSpec := { name := "fnExactCallRow", fn := fun _ => fun
  | [d1, d2, d3] => { results := [.lit (.bool false)], args := [d1, d2, d3] }
  | _ => none }
def FnExactCallRowWrongFalsely : Prop := fnExactCallRowRow.holds Try.pinned (OpenSpec.ofChange fnExactCallRowWrong)

/-- 'laws.FnExactCallHeads': WHATEVER THE INPUT: true; the input reads as it did. -/
def fnExactCallHeadsSpec : ChangeSpec := { name := "fnExactCallHeads", fn := fun _ => fun
  | [d1, d2] => { results := [.lit (.bool true)], args := [d1, d2] }
  | _ => none }
def fnExactCallHeadsRow : OpenClaim := { program := "ytdmipllbifofmaa", sum := "869e6288e000852c8a54928a59d9e9afb65eb11b4416369bd8f5851f4fce3539", func := "loop.example/g00894/laws.FnExactCallHeads", spec := "fnExactCallHeads", apart := false }
def FnExactCallHeadsSaid : Prop := fnExactCallHeadsRow.holds Try.pinned (OpenSpec.ofChange fnExactCallHeadsSpec)

/-- ITS FALSE NEIGHBOUR: 'it returns false'. Refute it at one input. -/
def fnExactCallHeadsWrong : ChangeSpec := { name := "fnExactCallHeads", fn := fun _ => fun
  | [d1, d2] => { results := [.lit (.bool false)], args := [d1, d2] }
  | _ => none }
def FnExactCallHeadsWrongFalsely : Prop := fnExactCallHeadsRow.holds Try.pinned (OpenSpec.ofChange fnExactCallHeadsWrong)

/-- 'laws.FnExactCallOrder': WHATEVER THE INPUT: true; the input reads as it did. -/
def fnExactCallOrderSpec : ChangeSpec := { name := "fnExactCallOrder", fn := fun _ => fun
  | [d1, d2, d3] => { results := [.lit (.bool true)], args := [d1, d2, d3] }
  | _ => none }
def fnExactCallOrderRow : OpenClaim := { program := "ytdmipllbifofmaa", sum := "869e6288e000852c8a54928a59d9e9afb65eb11b4416369bd8f5851f4fce3539", func := "loop.example/g00894/laws.FnExactCallOrder", spec := "fnExactCallOrder", apart := false }
def FnExactCallOrderSaid : Prop := fnExactCallOrderRow.holds Try.pinned (OpenSpec.ofChange fnExactCallOrderSpec)

/-- ITS FALSE NEIGHBOUR: 'it returns false'. Refute it at one input. -/
def fnExactCallOrderWrong : ChangeSpec := { name := "fnExactCallOrder", fn := fun _ => fun
  | [d1, d2, d3] => { results := [.lit (.bool false)], args := [d1, d2, d3] }
  | _ => none }
def FnExactCallOrderWrongFalsely : Prop := fnExactCallOrderRow.holds Try.pinned (OpenSpec.ofChange fnExactCallOrderWrong)

/-- 'laws.FnExactMovedBells': WHATEVER THE INPUT: true; the input reads as it did. -/
def fnExactMovedBellsSpec : ChangeSpec := { name := "fnExactMovedBells", fn := fun _ => fun
  | [d1, d2, d3] => { results := [.lit (.bool true)], args := [d1, d2, d3] }
  | _ => none }
def fnExactMovedBellsRow : OpenClaim := { program := "ytdmipllbifofmaa", sum := "869e6288e000852c8a54928a59d9e9afb65eb11b4416369bd8f5851f4fce3539", func := "loop.example/g00894/laws.FnExactMovedBells", spec := "fnExactMovedBells", apart := false }
def FnExactMovedBellsSaid : Prop := fnExactMovedBellsRow.holds Try.pinned (OpenSpec.ofChange fnExactMovedBellsSpec)

/-- ITS FALSE NEIGHBOUR: 'it returns false'. Refute it at one input. -/
def fnExactMovedBellsWrong : ChangeSpec := { name := "fnExactMovedBells", fn := fun _ => fun
  | [d1, d2, d3] => { results := [.lit (.bool false)], args := [d1, d2, d3] }
  | _ => none }
def FnExactMovedBellsWrongFalsely : Prop := fnExactMovedBellsRow.holds Try.pinned (OpenSpec.ofChange fnExactMovedBellsWrong)

/-- 'laws.FnExactGoodSpliced': WHATEVER THE INPUT: true; the input reads as it did. -/
def fnExactGoodSplicedSpec : ChangeSpec := { name := "fnExactGoodSpliced", fn := fun _ => fun
  | [d1, d2] => { results := [.lit (.bool true)], args := [d1, d2] }
  | _ => none }
def fnExactGoodSplicedRow : OpenClaim := { program := "ytdmipllbifofmaa", sum := "869e6288e000852c8a54928a59d9e9afb65eb11b4416369bd8f5851f4fce3539", func := "loop.example/g00894/laws.FnExactGoodSpliced", spec := "fnExactGoodSpliced", apart := false }
def FnExactGoodSplicedSaid : Prop := fnExactGoodSplicedRow.holds Try.pinned (OpenSpec.ofChange fnExactGoodSplicedSpec)

/-- ITS FALSE NEIGHBOUR: 'it returns false'. Refute it at one input. -/
def fnExactGoodSplicedWrong : ChangeSpec := { name := "fnExactGoodSpliced", fn := fun _ => fun
  | [d1, d2] => { results := [.lit (.bool false)], args := [d1, d2] }
  | _ => none }
def FnExactGoodSplicedWrongFalsely : Prop := fnExactGoodSplicedRow.holds Try.pinned (OpenSpec.ofChange fnExactGoodSplicedWrong)

/-- 'laws.FnExactSpliceHeads': WHATEVER THE INPUT: true; the input reads as it did. -/
def fnExactSpliceHeadsSpec : ChangeSpec := { name := "fnExactSpliceHeads", fn := fun _ => fun
  | [d1, d2, d3] => { results := [.lit (.bool true)], args := [d1, d2, d3] }
  | _ => none }
def fnExactSpliceHeadsRow : OpenClaim := { program := "ytdmipllbifofmaa", sum := "869e6288e000852c8a54928a59d9e9afb65eb11b4416369bd8f5851f4fce3539", func := "loop.example/g00894/laws.FnExactSpliceHeads", spec := "fnExactSpliceHeads", apart := false }
def FnExactSpliceHeadsSaid : Prop := fnExactSpliceHeadsRow.holds Try.pinned (OpenSpec.ofChange fnExactSpliceHeadsSpec)

/-- ITS FALSE NEIGHBOUR: 'it returns false'. Refute it at one input. -/
def fnExactSpliceHeadsWrong : ChangeSpec := { name := "fnExactSpliceHeads", fn := fun _ => fun
  | [d1, d2, d3] => { results := [.lit (.bool false)], args := [d1, d2, d3] }
  | _ => none }
def FnExactSpliceHeadsWrongFalsely : Prop := fnExactSpliceHeadsRow.holds Try.pinned (OpenSpec.ofChange fnExactSpliceHeadsWrong)

/-- 'laws.FnExactTouchEnd': WHATEVER THE INPUT: true; the input reads as it did. -/
def fnExactTouchEndSpec : ChangeSpec := { name := "fnExactTouchEnd", fn := fun _ => fun
  | [d1, d2, d3] => { results := [.lit (.bool true)], args := [d1, d2, d3] }
  | _ => none }
def fnExactTouchEndRow : OpenClaim := { program := "ytdmipllbifofmaa", sum := "869e6288e000852c8a54928a59d9e9afb65eb11b4416369bd8f5851f4fce3539", func := "loop.example/g00894/laws.FnExactTouchEnd", spec := "fnExactTouchEnd", apart := false }
def FnExactTouchEndSaid : Prop := fnExactTouchEndRow.holds Try.pinned (OpenSpec.ofChange fnExactTouchEndSpec)

/-- ITS FALSE NEIGHBOUR: 'it returns false'. Refute it at one input. -/
def fnExactTouchEndWrong : ChangeSpec := { name := "fnExactTouchEnd", fn := fun _ => fun
  | [d1, d2, d3] => { results := [.lit (.bool false)], args := [d1, d2, d3] }
  | _ => none }
def FnExactTouchEndWrongFalsely : Prop := fnExactTouchEndRow.holds Try.pinned (OpenSpec.ofChange fnExactTouchEndWrong)

/-- 'laws.FnExactIsRound': WHATEVER THE INPUT: true; the input reads as it did. -/
def fnExactIsRoundSpec : ChangeSpec := { name := "fnExactIsRound", fn := fun _ => fun
  | [d1, d2, d3] => { results := [.lit (.bool true)], args := [d1, d2, d3] }
  | _ => none }
def fnExactIsRoundRow : OpenClaim := { program := "ytdmipllbifofmaa", sum := "869e6288e000852c8a54928a59d9e9afb65eb11b4416369bd8f5851f4fce3539", func := "loop.example/g00894/laws.FnExactIsRound", spec := "fnExactIsRound", apart := false }
def FnExactIsRoundSaid : Prop := fnExactIsRoundRow.holds Try.pinned (OpenSpec.ofChange fnExactIsRoundSpec)

/-- ITS FALSE NEIGHBOUR: 'it returns false'. Refute it at one input. -/
def fnExactIsRoundWrong : ChangeSpec := { name := "fnExactIsRound", fn := fun _ => fun
  | [d1, d2, d3] => { results := [.lit (.bool false)], args := [d1, d2, d3] }
  | _ => none }
def FnExactIsRoundWrongFalsely : Prop := fnExactIsRoundRow.holds Try.pinned (OpenSpec.ofChange fnExactIsRoundWrong)

/- THE SECOND FORM. 'bulk': how many values and letters a reading holds, each counted each time it is reached (what is shared counts as often as it is met; a slice's spare places count too). A statement '..UptoSaid' is the law's where the arguments, and the package variables that the reading takes, are together of bulk at most 1048576: NARROWER than '..Said'. Prove '..Said' where nothing that the law and all that it calls make is longer than what came in: it says more and counts as full. Else prove '..UptoSaid'. A law counts once. -/
mutual
def uptoBulk {H : Type} : DataW H → Nat
  | .lit (.string bytes) => bytes.length + 1
  | .lit _ => 1
  | .nil => 1
  | .ptr d => uptoBulk d + 1
  | .slice elems spare => uptoBulkAll elems + uptoBulkAll spare + 1
  | .agg parts => uptoBulkAll parts + 1
  | .iface _ d => uptoBulk d + 1
  | .map entries => uptoBulkEntries entries + 1
  | .held _ => 1
def uptoBulkAll {H : Type} : List (DataW H) → Nat
  | [] => 0
  | d :: r => uptoBulk d + uptoBulkAll r
def uptoBulkEntries {H : Type} : List (Lit × DataW H) → Nat
  | [] => 0
  | x :: r => uptoBulkEntry x + uptoBulkEntries r
def uptoBulkEntry {H : Type} : Lit × DataW H → Nat
  | (.string bytes, d) => bytes.length + uptoBulk d + 1
  | (_, d) => uptoBulk d + 1
 end
def uptoSmall : (H : Type) → List (DataW H) → Bool := fun _ ds => decide (uptoBulkAll ds ≤ 1048576)
def OpenSpec.upto (s : _root_.Go.ChangeSpec) : _root_.Go.OpenSpec := { _root_.Go.OpenSpec.ofChange s with cond := some uptoSmall }

/-- 'laws.FnExactGoodCalls', WHERE WHAT IT READS IS OF BULK AT MOST 1048576: true; the input reads as it did. -/
def fnExactGoodCallsUptoRow : OpenClaim := { program := "ytdmipllbifofmaa", sum := "869e6288e000852c8a54928a59d9e9afb65eb11b4416369bd8f5851f4fce3539", func := "loop.example/g00894/laws.FnExactGoodCalls", spec := "fnExactGoodCalls", apart := false, narrowed := true }
def FnExactGoodCallsUptoSaid : Prop := fnExactGoodCallsUptoRow.holds Try.pinned (OpenSpec.upto fnExactGoodCallsSpec)

/-- 'laws.FnExactCalledLead', WHERE WHAT IT READS IS OF BULK AT MOST 1048576: true; the input reads as it did. -/
def fnExactCalledLeadUptoRow : OpenClaim := { program := "ytdmipllbifofmaa", sum := "869e6288e000852c8a54928a59d9e9afb65eb11b4416369bd8f5851f4fce3539", func := "loop.example/g00894/laws.FnExactCalledLead", spec := "fnExactCalledLead", apart := false, narrowed := true }
def FnExactCalledLeadUptoSaid : Prop := fnExactCalledLeadUptoRow.holds Try.pinned (OpenSpec.upto fnExactCalledLeadSpec)

/-- 'laws.FnExactCallHead', WHERE WHAT IT READS IS OF BULK AT MOST 1048576: true; the input reads as it did. -/
def fnExactCallHeadUptoRow : OpenClaim := { program := "ytdmipllbifofmaa", sum := "869e6288e000852c8a54928a59d9e9afb65eb11b4416369bd8f5851f4fce3539", func := "loop.example/g00894/laws.FnExactCallHead", spec := "fnExactCallHead", apart := false, narrowed := true }
def FnExactCallHeadUptoSaid : Prop := fnExactCallHeadUptoRow.holds Try.pinned (OpenSpec.upto fnExactCallHeadSpec)

/-- 'laws.FnExactSameLead', WHERE WHAT IT READS IS OF BULK AT MOST 1048576: true; the input reads as it did. -/
def fnExactSameLeadUptoRow : OpenClaim := { program := "ytdmipllbifofmaa", sum := "869e6288e000852c8a54928a59d9e9afb65eb11b4416369bd8f5851f4fce3539", func := "loop.example/g00894/laws.FnExactSameLead", spec := "fnExactSameLead", apart := false, narrowed := true }
def FnExactSameLeadUptoSaid : Prop := fnExactSameLeadUptoRow.holds Try.pinned (OpenSpec.upto fnExactSameLeadSpec)

/-- 'laws.FnExactCallRow', WHERE WHAT IT READS IS OF BULK AT MOST 1048576: true; the input reads as it did. -/
def fnExactCallRowUptoRow : OpenClaim := { program := "ytdmipllbifofmaa", sum := "869e6288e000852c8a54928a59d9e9afb65eb11b4416369bd8f5851f4fce3539", func := "loop.example/g00894/laws.FnExactCallRow", spec := "fnExactCallRow", apart := false, narrowed := true }
def FnExactCallRowUptoSaid : Prop := fnExactCallRowUptoRow.holds Try.pinned (OpenSpec.upto fnExactCallRowSpec)

/-- 'laws.FnExactCallHeads', WHERE WHAT IT READS IS OF BULK AT MOST 1048576: true; the input reads as it did. -/
def fnExactCallHeadsUptoRow : OpenClaim := { program := "ytdmipllbifofmaa", sum := "869e6288e000852c8a54928a59d9e9afb65eb11b4416369bd8f5851f4fce3539", func := "loop.example/g00894/laws.FnExactCallHeads", spec := "fnExactCallHeads", apart := false, narrowed := true }
def FnExactCallHeadsUptoSaid : Prop := fnExactCallHeadsUptoRow.holds Try.pinned (OpenSpec.upto fnExactCallHeadsSpec)

/-- 'laws.FnExactCallOrder', WHERE WHAT IT READS IS OF BULK AT MOST 1048576: true; the input reads as it did. -/
def fnExactCallOrderUptoRow : OpenClaim := { program := "ytdmipllbifofmaa", sum := "869e6288e000852c8a54928a59d9e9afb65eb11b4416369bd8f5851f4fce3539", func := "loop.example/g00894/laws.FnExactCallOrder", spec := "fnExactCallOrder", apart := false, narrowed := true }
def FnExactCallOrderUptoSaid : Prop := fnExactCallOrderUptoRow.holds Try.pinned (OpenSpec.upto fnExactCallOrderSpec)

/-- 'laws.FnExactMovedBells', WHERE WHAT IT READS IS OF BULK AT MOST 1048576: true; the input reads as it did. -/
def fnExactMovedBellsUptoRow : OpenClaim := { program := "ytdmipllbifofmaa", sum := "869e6288e000852c8a54928a59d9e9afb65eb11b4416369bd8f5851f4fce3539", func := "loop.example/g00894/laws.FnExactMovedBells", spec := "fnExactMovedBells", apart := false, narrowed := true }
def FnExactMovedBellsUptoSaid : Prop := fnExactMovedBellsUptoRow.holds Try.pinned (OpenSpec.upto fnExactMovedBellsSpec)

/-- 'laws.FnExactGoodSpliced', WHERE WHAT IT READS IS OF BULK AT MOST 1048576: true; the input reads as it did. -/
def fnExactGoodSplicedUptoRow : OpenClaim := { program := "ytdmipllbifofmaa", sum := "869e6288e000852c8a54928a59d9e9afb65eb11b4416369bd8f5851f4fce3539", func := "loop.example/g00894/laws.FnExactGoodSpliced", spec := "fnExactGoodSpliced", apart := false, narrowed := true }
def FnExactGoodSplicedUptoSaid : Prop := fnExactGoodSplicedUptoRow.holds Try.pinned (OpenSpec.upto fnExactGoodSplicedSpec)

/-- 'laws.FnExactSpliceHeads', WHERE WHAT IT READS IS OF BULK AT MOST 1048576: true; the input reads as it did. -/
def fnExactSpliceHeadsUptoRow : OpenClaim := { program := "ytdmipllbifofmaa", sum := "869e6288e000852c8a54928a59d9e9afb65eb11b4416369bd8f5851f4fce3539", func := "loop.example/g00894/laws.FnExactSpliceHeads", spec := "fnExactSpliceHeads", apart := false, narrowed := true }
def FnExactSpliceHeadsUptoSaid : Prop := fnExactSpliceHeadsUptoRow.holds Try.pinned (OpenSpec.upto fnExactSpliceHeadsSpec)

/-- 'laws.FnExactTouchEnd', WHERE WHAT IT READS IS OF BULK AT MOST 1048576: true; the input reads as it did. -/
def fnExactTouchEndUptoRow : OpenClaim := { program := "ytdmipllbifofmaa", sum := "869e6288e000852c8a54928a59d9e9afb65eb11b4416369bd8f5851f4fce3539", func := "loop.example/g00894/laws.FnExactTouchEnd", spec := "fnExactTouchEnd", apart := false, narrowed := true }
def FnExactTouchEndUptoSaid : Prop := fnExactTouchEndUptoRow.holds Try.pinned (OpenSpec.upto fnExactTouchEndSpec)

/-- 'laws.FnExactIsRound', WHERE WHAT IT READS IS OF BULK AT MOST 1048576: true; the input reads as it did. -/
def fnExactIsRoundUptoRow : OpenClaim := { program := "ytdmipllbifofmaa", sum := "869e6288e000852c8a54928a59d9e9afb65eb11b4416369bd8f5851f4fce3539", func := "loop.example/g00894/laws.FnExactIsRound", spec := "fnExactIsRound", apart := false, narrowed := true }
def FnExactIsRoundUptoSaid : Prop := fnExactIsRoundUptoRow.holds Try.pinned (OpenSpec.upto fnExactIsRoundSpec)

end Rows
end Go.Proofs.Ytdmipllbifofmaa
