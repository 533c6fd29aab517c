/-
  No cell of these rows narrows 'for every input' (looked for: loops, veiled, ifaces, maps, wideKeys, modest, calm, conditions, laid).
  DERIVED. THE GIVEN ROWS OF THIS SEAT. 11 by the template 'for every input the law returns true; each argument reads behind the call as it read before'; 0 by the template 'total and deterministic' (their statements: YtgfppbkibmegoaaTotals.lean).
  GIVEN WITH THE SEED: the statements are not yours to turn. If you find one false, say at which input.
  Laid BY PROGRAM, IN A SANDBOX (cutbox-rows.mjs): the forced cells as the released guide's own fill.sh prints them over the translation 93e32e142016417a… (all of the seat's roots in one cut). By AI agents, Wed Nov 11 2026. No macro, syntax, notation, axiom, sorry.
-/
import Derived.Test.YtgfppbkibmegoaaChecked
import GoSem.Claim
import GoSem.ClaimJoined
import GoSem.ClaimMapViews
import Derived.JoinedTies
import Derived.KernelRfl
namespace Go.Proofs.Ytgfppbkibmegoaa
/- THE CELL 'sum', in the pinned program and in every row, IS THE sha256 OF THE DUMP (.gsa) THAT YtgfppbkibmegoaaProg.lean LOADS. Nothing in Lean hashes anything: it is a label: what it is worth is what the hold of that sum in a sandbox is worth. -/
noncomputable def Try.pinned : Pinned := { name := "ytgfppbkibmegoaa", sum := "93e32e142016417a93c3c2232ec1984ed42f8df9fd1d53763b27c5ddda328a82", checked := Try.checked }
namespace Rows
def none {H : Type} : Left H := { results := [], args := [] }

/-- 'laws.FnExactGoodTouch': WHATEVER THE INPUT: true; the input reads as it did. -/
def fnExactGoodTouchSpec : ChangeSpec := { name := "fnExactGoodTouch", fn := fun _ => fun
  | [d] => { results := [.lit (.bool true)], args := [d] }
  | _ => none }
def fnExactGoodTouchRow : OpenClaim := { program := "ytgfppbkibmegoaa", sum := "93e32e142016417a93c3c2232ec1984ed42f8df9fd1d53763b27c5ddda328a82", func := "loop.example/g00894/laws.FnExactGoodTouch", spec := "fnExactGoodTouch", apart := false }
def FnExactGoodTouchSaid : Prop := fnExactGoodTouchRow.holds Try.pinned (OpenSpec.ofChange fnExactGoodTouchSpec)

/-- ITS FALSE NEIGHBOUR: 'it returns false'. Refute it at one input. -/
def fnExactGoodTouchWrong : ChangeSpec := { name := "fnExactGoodTouch", fn := fun _ => fun
  | [d] => { results := [.lit (.bool false)], args := [d] }
  | _ => none }
def FnExactGoodTouchWrongFalsely : Prop := fnExactGoodTouchRow.holds Try.pinned (OpenSpec.ofChange fnExactGoodTouchWrong)

/-- 'laws.FnExactTurnTouch': WHATEVER THE INPUT: true; the input reads as it did. -/
def fnExactTurnTouchSpec : ChangeSpec := { name := "fnExactTurnTouch", fn := fun _ => fun
  | [d1, d2] => { results := [.lit (.bool true)], args := [d1, d2] }
  | _ => none }
def fnExactTurnTouchRow : OpenClaim := { program := "ytgfppbkibmegoaa", sum := "93e32e142016417a93c3c2232ec1984ed42f8df9fd1d53763b27c5ddda328a82", func := "loop.example/g00894/laws.FnExactTurnTouch", spec := "fnExactTurnTouch", apart := false }
def FnExactTurnTouchSaid : Prop := fnExactTurnTouchRow.holds Try.pinned (OpenSpec.ofChange fnExactTurnTouchSpec)

/-- ITS FALSE NEIGHBOUR: 'it returns false'. Refute it at one input. -/
def fnExactTurnTouchWrong : ChangeSpec := { name := "fnExactTurnTouch", fn := fun _ => fun
  | [d1, d2] => { results := [.lit (.bool false)], args := [d1, d2] }
  | _ => none }
def FnExactTurnTouchWrongFalsely : Prop := fnExactTurnTouchRow.holds Try.pinned (OpenSpec.ofChange fnExactTurnTouchWrong)

/-- 'laws.FnExactSpliceOf': WHATEVER THE INPUT: true; the input reads as it did. -/
def fnExactSpliceOfSpec : ChangeSpec := { name := "fnExactSpliceOf", fn := fun _ => fun
  | [d1, d2] => { results := [.lit (.bool true)], args := [d1, d2] }
  | _ => none }
def fnExactSpliceOfRow : OpenClaim := { program := "ytgfppbkibmegoaa", sum := "93e32e142016417a93c3c2232ec1984ed42f8df9fd1d53763b27c5ddda328a82", func := "loop.example/g00894/laws.FnExactSpliceOf", spec := "fnExactSpliceOf", apart := false }
def FnExactSpliceOfSaid : Prop := fnExactSpliceOfRow.holds Try.pinned (OpenSpec.ofChange fnExactSpliceOfSpec)

/-- ITS FALSE NEIGHBOUR: 'it returns false'. Refute it at one input. -/
def fnExactSpliceOfWrong : ChangeSpec := { name := "fnExactSpliceOf", fn := fun _ => fun
  | [d1, d2] => { results := [.lit (.bool false)], args := [d1, d2] }
  | _ => none }
def FnExactSpliceOfWrongFalsely : Prop := fnExactSpliceOfRow.holds Try.pinned (OpenSpec.ofChange fnExactSpliceOfWrong)

/-- 'laws.FnExactReverseTouch': WHATEVER THE INPUT: true; the input reads as it did. -/
def fnExactReverseTouchSpec : ChangeSpec := { name := "fnExactReverseTouch", fn := fun _ => fun
  | [d] => { results := [.lit (.bool true)], args := [d] }
  | _ => none }
def fnExactReverseTouchRow : OpenClaim := { program := "ytgfppbkibmegoaa", sum := "93e32e142016417a93c3c2232ec1984ed42f8df9fd1d53763b27c5ddda328a82", func := "loop.example/g00894/laws.FnExactReverseTouch", spec := "fnExactReverseTouch", apart := false }
def FnExactReverseTouchSaid : Prop := fnExactReverseTouchRow.holds Try.pinned (OpenSpec.ofChange fnExactReverseTouchSpec)

/-- ITS FALSE NEIGHBOUR: 'it returns false'. Refute it at one input. -/
def fnExactReverseTouchWrong : ChangeSpec := { name := "fnExactReverseTouch", fn := fun _ => fun
  | [d] => { results := [.lit (.bool false)], args := [d] }
  | _ => none }
def FnExactReverseTouchWrongFalsely : Prop := fnExactReverseTouchRow.holds Try.pinned (OpenSpec.ofChange fnExactReverseTouchWrong)

/-- 'laws.FnExactSwitchesIn': WHATEVER THE INPUT: true; the input reads as it did. -/
def fnExactSwitchesInSpec : ChangeSpec := { name := "fnExactSwitchesIn", fn := fun _ => fun
  | [d] => { results := [.lit (.bool true)], args := [d] }
  | _ => none }
def fnExactSwitchesInRow : OpenClaim := { program := "ytgfppbkibmegoaa", sum := "93e32e142016417a93c3c2232ec1984ed42f8df9fd1d53763b27c5ddda328a82", func := "loop.example/g00894/laws.FnExactSwitchesIn", spec := "fnExactSwitchesIn", apart := false }
def FnExactSwitchesInSaid : Prop := fnExactSwitchesInRow.holds Try.pinned (OpenSpec.ofChange fnExactSwitchesInSpec)

/-- ITS FALSE NEIGHBOUR: 'it returns false'. Refute it at one input. -/
def fnExactSwitchesInWrong : ChangeSpec := { name := "fnExactSwitchesIn", fn := fun _ => fun
  | [d] => { results := [.lit (.bool false)], args := [d] }
  | _ => none }
def FnExactSwitchesInWrongFalsely : Prop := fnExactSwitchesInRow.holds Try.pinned (OpenSpec.ofChange fnExactSwitchesInWrong)

/-- 'laws.FnExactLeastTurn': WHATEVER THE INPUT: true; the input reads as it did. -/
def fnExactLeastTurnSpec : ChangeSpec := { name := "fnExactLeastTurn", fn := fun _ => fun
  | [d1, d2] => { results := [.lit (.bool true)], args := [d1, d2] }
  | _ => none }
def fnExactLeastTurnRow : OpenClaim := { program := "ytgfppbkibmegoaa", sum := "93e32e142016417a93c3c2232ec1984ed42f8df9fd1d53763b27c5ddda328a82", func := "loop.example/g00894/laws.FnExactLeastTurn", spec := "fnExactLeastTurn", recurses := true, apart := false }
def FnExactLeastTurnSaid : Prop := fnExactLeastTurnRow.holds Try.pinned (OpenSpec.ofChange fnExactLeastTurnSpec)

/-- ITS FALSE NEIGHBOUR: 'it returns false'. Refute it at one input. -/
def fnExactLeastTurnWrong : ChangeSpec := { name := "fnExactLeastTurn", fn := fun _ => fun
  | [d1, d2] => { results := [.lit (.bool false)], args := [d1, d2] }
  | _ => none }
def FnExactLeastTurnWrongFalsely : Prop := fnExactLeastTurnRow.holds Try.pinned (OpenSpec.ofChange fnExactLeastTurnWrong)

/-- 'laws.FnExactAllTouches': WHATEVER THE INPUT: true; the input reads as it did. -/
def fnExactAllTouchesSpec : ChangeSpec := { name := "fnExactAllTouches", fn := fun _ => fun
  | [d] => { results := [.lit (.bool true)], args := [d] }
  | _ => none }
def fnExactAllTouchesRow : OpenClaim := { program := "ytgfppbkibmegoaa", sum := "93e32e142016417a93c3c2232ec1984ed42f8df9fd1d53763b27c5ddda328a82", func := "loop.example/g00894/laws.FnExactAllTouches", spec := "fnExactAllTouches", apart := false }
def FnExactAllTouchesSaid : Prop := fnExactAllTouchesRow.holds Try.pinned (OpenSpec.ofChange fnExactAllTouchesSpec)

/-- ITS FALSE NEIGHBOUR: 'it returns false'. Refute it at one input. -/
def fnExactAllTouchesWrong : ChangeSpec := { name := "fnExactAllTouches", fn := fun _ => fun
  | [d] => { results := [.lit (.bool false)], args := [d] }
  | _ => none }
def FnExactAllTouchesWrongFalsely : Prop := fnExactAllTouchesRow.holds Try.pinned (OpenSpec.ofChange fnExactAllTouchesWrong)

/-- 'laws.FnExactCallsIn': WHATEVER THE INPUT: true; the input reads as it did. -/
def fnExactCallsInSpec : ChangeSpec := { name := "fnExactCallsIn", fn := fun _ => fun
  | [d] => { results := [.lit (.bool true)], args := [d] }
  | _ => none }
def fnExactCallsInRow : OpenClaim := { program := "ytgfppbkibmegoaa", sum := "93e32e142016417a93c3c2232ec1984ed42f8df9fd1d53763b27c5ddda328a82", func := "loop.example/g00894/laws.FnExactCallsIn", spec := "fnExactCallsIn", apart := false }
def FnExactCallsInSaid : Prop := fnExactCallsInRow.holds Try.pinned (OpenSpec.ofChange fnExactCallsInSpec)

/-- ITS FALSE NEIGHBOUR: 'it returns false'. Refute it at one input. -/
def fnExactCallsInWrong : ChangeSpec := { name := "fnExactCallsIn", fn := fun _ => fun
  | [d] => { results := [.lit (.bool false)], args := [d] }
  | _ => none }
def FnExactCallsInWrongFalsely : Prop := fnExactCallsInRow.holds Try.pinned (OpenSpec.ofChange fnExactCallsInWrong)

/-- 'laws.FnExactSplitParts': WHATEVER THE INPUT: true; the input reads as it did. -/
def fnExactSplitPartsSpec : ChangeSpec := { name := "fnExactSplitParts", fn := fun _ => fun
  | [d] => { results := [.lit (.bool true)], args := [d] }
  | _ => none }
def fnExactSplitPartsRow : OpenClaim := { program := "ytgfppbkibmegoaa", sum := "93e32e142016417a93c3c2232ec1984ed42f8df9fd1d53763b27c5ddda328a82", func := "loop.example/g00894/laws.FnExactSplitParts", spec := "fnExactSplitParts", inPlace := ["internal/abi.NoEscape", "internal/bytealg.MakeNoZero"], apart := false }
def FnExactSplitPartsSaid : Prop := fnExactSplitPartsRow.holds Try.pinned (OpenSpec.ofChange fnExactSplitPartsSpec)

/-- ITS FALSE NEIGHBOUR: 'it returns false'. Refute it at one input. -/
def fnExactSplitPartsWrong : ChangeSpec := { name := "fnExactSplitParts", fn := fun _ => fun
  | [d] => { results := [.lit (.bool false)], args := [d] }
  | _ => none }
def FnExactSplitPartsWrongFalsely : Prop := fnExactSplitPartsRow.holds Try.pinned (OpenSpec.ofChange fnExactSplitPartsWrong)

/-- 'laws.FnExactNextTouch': WHATEVER THE INPUT: true; the input reads as it did. -/
def fnExactNextTouchSpec : ChangeSpec := { name := "fnExactNextTouch", fn := fun _ => fun
  | [d] => { results := [.lit (.bool true)], args := [d] }
  | _ => none }
def fnExactNextTouchRow : OpenClaim := { program := "ytgfppbkibmegoaa", sum := "93e32e142016417a93c3c2232ec1984ed42f8df9fd1d53763b27c5ddda328a82", func := "loop.example/g00894/laws.FnExactNextTouch", spec := "fnExactNextTouch", inPlace := ["internal/bytealg.IndexByteString", "internal/abi.NoEscape", "internal/bytealg.MakeNoZero"], apart := false }
def FnExactNextTouchSaid : Prop := fnExactNextTouchRow.holds Try.pinned (OpenSpec.ofChange fnExactNextTouchSpec)

/-- ITS FALSE NEIGHBOUR: 'it returns false'. Refute it at one input. -/
def fnExactNextTouchWrong : ChangeSpec := { name := "fnExactNextTouch", fn := fun _ => fun
  | [d] => { results := [.lit (.bool false)], args := [d] }
  | _ => none }
def FnExactNextTouchWrongFalsely : Prop := fnExactNextTouchRow.holds Try.pinned (OpenSpec.ofChange fnExactNextTouchWrong)

/-- 'laws.FnExactDistinctTurns': WHATEVER THE INPUT: true; the input reads as it did. -/
def fnExactDistinctTurnsSpec : ChangeSpec := { name := "fnExactDistinctTurns", fn := fun _ => fun
  | [d1, d2] => { results := [.lit (.bool true)], args := [d1, d2] }
  | _ => none }
def fnExactDistinctTurnsRow : OpenClaim := { program := "ytgfppbkibmegoaa", sum := "93e32e142016417a93c3c2232ec1984ed42f8df9fd1d53763b27c5ddda328a82", func := "loop.example/g00894/laws.FnExactDistinctTurns", spec := "fnExactDistinctTurns", recurses := true, apart := false }
def FnExactDistinctTurnsSaid : Prop := fnExactDistinctTurnsRow.holds Try.pinned (OpenSpec.ofChange fnExactDistinctTurnsSpec)

/-- ITS FALSE NEIGHBOUR: 'it returns false'. Refute it at one input. -/
def fnExactDistinctTurnsWrong : ChangeSpec := { name := "fnExactDistinctTurns", fn := fun _ => fun
  | [d1, d2] => { results := [.lit (.bool false)], args := [d1, d2] }
  | _ => none }
def FnExactDistinctTurnsWrongFalsely : Prop := fnExactDistinctTurnsRow.holds Try.pinned (OpenSpec.ofChange fnExactDistinctTurnsWrong)

/- THE SECOND FORM. 'bulk': how many values and letters a reading holds, each counted each time it is reached (what is shared counts as often as it is met; a slice's spare places count too). A statement '..UptoSaid' is the law's where the arguments, and the package variables that the reading takes, are together of bulk at most 1048576: NARROWER than '..Said'. Prove '..Said' where nothing that the law and all that it calls make is longer than what came in: it says more and counts as full. Else prove '..UptoSaid'. A law counts once. -/
mutual
def uptoBulk {H : Type} : DataW H → Nat
  | .lit (.string bytes) => bytes.length + 1
  | .lit _ => 1
  | .nil => 1
  | .ptr d => uptoBulk d + 1
  | .slice elems spare => uptoBulkAll elems + uptoBulkAll spare + 1
  | .agg parts => uptoBulkAll parts + 1
  | .iface _ d => uptoBulk d + 1
  | .map entries => uptoBulkEntries entries + 1
  | .held _ => 1
def uptoBulkAll {H : Type} : List (DataW H) → Nat
  | [] => 0
  | d :: r => uptoBulk d + uptoBulkAll r
def uptoBulkEntries {H : Type} : List (Lit × DataW H) → Nat
  | [] => 0
  | x :: r => uptoBulkEntry x + uptoBulkEntries r
def uptoBulkEntry {H : Type} : Lit × DataW H → Nat
  | (.string bytes, d) => bytes.length + uptoBulk d + 1
  | (_, d) => uptoBulk d + 1
 end
def uptoSmall : (H : Type) → List (DataW H) → Bool := fun _ ds => decide (uptoBulkAll ds ≤ 1048576)
def OpenSpec.upto (s : _root_.Go.ChangeSpec) : _root_.Go.OpenSpec := { _root_.Go.OpenSpec.ofChange s with cond := some uptoSmall }

/-- 'laws.FnExactGoodTouch', WHERE WHAT IT READS IS OF BULK AT MOST 1048576: true; the input reads as it did. -/
def fnExactGoodTouchUptoRow : OpenClaim := { program := "ytgfppbkibmegoaa", sum := "93e32e142016417a93c3c2232ec1984ed42f8df9fd1d53763b27c5ddda328a82", func := "loop.example/g00894/laws.FnExactGoodTouch", spec := "fnExactGoodTouch", apart := false, narrowed := true }
def FnExactGoodTouchUptoSaid : Prop := fnExactGoodTouchUptoRow.holds Try.pinned (OpenSpec.upto fnExactGoodTouchSpec)

/-- 'laws.FnExactTurnTouch', WHERE WHAT IT READS IS OF BULK AT MOST 1048576: true; the input reads as it did. -/
def fnExactTurnTouchUptoRow : OpenClaim := { program := "ytgfppbkibmegoaa", sum := "93e32e142016417a93c3c2232ec1984ed42f8df9fd1d53763b27c5ddda328a82", func := "loop.example/g00894/laws.FnExactTurnTouch", spec := "fnExactTurnTouch", apart := false, narrowed := true }
def FnExactTurnTouchUptoSaid : Prop := fnExactTurnTouchUptoRow.holds Try.pinned (OpenSpec.upto fnExactTurnTouchSpec)

/-- 'laws.FnExactSpliceOf', WHERE WHAT IT READS IS OF BULK AT MOST 1048576: true; the input reads as it did. -/
def fnExactSpliceOfUptoRow : OpenClaim := { program := "ytgfppbkibmegoaa", sum := "93e32e142016417a93c3c2232ec1984ed42f8df9fd1d53763b27c5ddda328a82", func := "loop.example/g00894/laws.FnExactSpliceOf", spec := "fnExactSpliceOf", apart := false, narrowed := true }
def FnExactSpliceOfUptoSaid : Prop := fnExactSpliceOfUptoRow.holds Try.pinned (OpenSpec.upto fnExactSpliceOfSpec)

/-- 'laws.FnExactReverseTouch', WHERE WHAT IT READS IS OF BULK AT MOST 1048576: true; the input reads as it did. -/
def fnExactReverseTouchUptoRow : OpenClaim := { program := "ytgfppbkibmegoaa", sum := "93e32e142016417a93c3c2232ec1984ed42f8df9fd1d53763b27c5ddda328a82", func := "loop.example/g00894/laws.FnExactReverseTouch", spec := "fnExactReverseTouch", apart := false, narrowed := true }
def FnExactReverseTouchUptoSaid : Prop := fnExactReverseTouchUptoRow.holds Try.pinned (OpenSpec.upto fnExactReverseTouchSpec)

/-- 'laws.FnExactSwitchesIn', WHERE WHAT IT READS IS OF BULK AT MOST 1048576: true; the input reads as it did. -/
def fnExactSwitchesInUptoRow : OpenClaim := { program := "ytgfppbkibmegoaa", sum := "93e32e142016417a93c3c2232ec1984ed42f8df9fd1d53763b27c5ddda328a82", func := "loop.example/g00894/laws.FnExactSwitchesIn", spec := "fnExactSwitchesIn", apart := false, narrowed := true }
def FnExactSwitchesInUptoSaid : Prop := fnExactSwitchesInUptoRow.holds Try.pinned (OpenSpec.upto fnExactSwitchesInSpec)

/-- 'laws.FnExactLeastTurn', WHERE WHAT IT READS IS OF BULK AT MOST 1048576: true; the input reads as it did. -/
def fnExactLeastTurnUptoRow : OpenClaim := { program := "ytgfppbkibmegoaa", sum := "93e32e142016417a93c3c2232ec1984ed42f8df9fd1d53763b27c5ddda328a82", func := "loop.example/g00894/laws.FnExactLeastTurn", spec := "fnExactLeastTurn", recurses := true, apart := false, narrowed := true }
def FnExactLeastTurnUptoSaid : Prop := fnExactLeastTurnUptoRow.holds Try.pinned (OpenSpec.upto fnExactLeastTurnSpec)

/-- 'laws.FnExactAllTouches', WHERE WHAT IT READS IS OF BULK AT MOST 1048576: true; the input reads as it did. -/
def fnExactAllTouchesUptoRow : OpenClaim := { program := "ytgfppbkibmegoaa", sum := "93e32e142016417a93c3c2232ec1984ed42f8df9fd1d53763b27c5ddda328a82", func := "loop.example/g00894/laws.FnExactAllTouches", spec := "fnExactAllTouches", apart := false, narrowed := true }
def FnExactAllTouchesUptoSaid : Prop := fnExactAllTouchesUptoRow.holds Try.pinned (OpenSpec.upto fnExactAllTouchesSpec)

/-- 'laws.FnExactCallsIn', WHERE WHAT IT READS IS OF BULK AT MOST 1048576: true; the input reads as it did. -/
def fnExactCallsInUptoRow : OpenClaim := { program := "ytgfppbkibmegoaa", sum := "93e32e142016417a93c3c2232ec1984ed42f8df9fd1d53763b27c5ddda328a82", func := "loop.example/g00894/laws.FnExactCallsIn", spec := "fnExactCallsIn", apart := false, narrowed := true }
def FnExactCallsInUptoSaid : Prop := fnExactCallsInUptoRow.holds Try.pinned (OpenSpec.upto fnExactCallsInSpec)

/-- 'laws.FnExactSplitParts', WHERE WHAT IT READS IS OF BULK AT MOST 1048576: true; the input reads as it did. -/
def fnExactSplitPartsUptoRow : OpenClaim := { program := "ytgfppbkibmegoaa", sum := "93e32e142016417a93c3c2232ec1984ed42f8df9fd1d53763b27c5ddda328a82", func := "loop.example/g00894/laws.FnExactSplitParts", spec := "fnExactSplitParts", inPlace := ["internal/abi.NoEscape", "internal/bytealg.MakeNoZero"], apart := false, narrowed := true }
def FnExactSplitPartsUptoSaid : Prop := fnExactSplitPartsUptoRow.holds Try.pinned (OpenSpec.upto fnExactSplitPartsSpec)

/-- 'laws.FnExactNextTouch', WHERE WHAT IT READS IS OF BULK AT MOST 1048576: true; the input reads as it did. -/
def fnExactNextTouchUptoRow : OpenClaim := { program := "ytgfppbkibmegoaa", sum := "93e32e142016417a93c3c2232ec1984ed42f8df9fd1d53763b27c5ddda328a82", func := "loop.example/g00894/laws.FnExactNextTouch", spec := "fnExactNextTouch", inPlace := ["internal/bytealg.IndexByteString", "internal/abi.NoEscape", "internal/bytealg.MakeNoZero"], apart := false, narrowed := true }
def FnExactNextTouchUptoSaid : Prop := fnExactNextTouchUptoRow.holds Try.pinned (OpenSpec.upto fnExactNextTouchSpec)

/-- 'laws.FnExactDistinctTurns', WHERE WHAT IT READS IS OF BULK AT MOST 1048576: true; the input reads as it did. -/
def fnExactDistinctTurnsUptoRow : OpenClaim := { program := "ytgfppbkibmegoaa", sum := "93e32e142016417a93c3c2232ec1984ed42f8df9fd1d53763b27c5ddda328a82", func := "loop.example/g00894/laws.FnExactDistinctTurns", spec := "fnExactDistinctTurns", recurses := true, apart := false, narrowed := true }
def FnExactDistinctTurnsUptoSaid : Prop := fnExactDistinctTurnsUptoRow.holds Try.pinned (OpenSpec.upto fnExactDistinctTurnsSpec)

end Rows
end Go.Proofs.Ytgfppbkibmegoaa
