/-
  No cell of these rows narrows 'for every input' (looked for: loops, veiled, ifaces, maps, wideKeys, modest, calm, conditions, laid).
  DERIVED. THE GIVEN ROWS OF THIS SEAT. 11 by the template 'for every input the law returns true; each argument reads behind the call as it read before'; 0 by the template 'total and deterministic' (their statements: YtecplhpioohhmaaTotals.lean).
  GIVEN WITH THE SEED: the statements are not yours to turn. If you find one false, say at which input.
  Laid BY PROGRAM, IN A SANDBOX (cutbox-rows.mjs): the forced cells as the released guide's own fill.sh prints them over the translation 781aec61b8fd74f2… (all of the seat's roots in one cut). By AI agents, Wed Nov 11 2026. No macro, syntax, notation, axiom, sorry.
-/
import Derived.Test.YtecplhpioohhmaaChecked
import GoSem.Claim
import GoSem.ClaimJoined
import GoSem.ClaimMapViews
import Derived.JoinedTies
import Derived.KernelRfl
namespace Go.Proofs.Ytecplhpioohhmaa
/- THE CELL 'sum', in the pinned program and in every row, IS THE sha256 OF THE DUMP (.gsa) THAT YtecplhpioohhmaaProg.lean LOADS. Nothing in Lean hashes anything: it is a label: what it is worth is what the hold of that sum in a sandbox is worth. -/
noncomputable def Try.pinned : Pinned := { name := "ytecplhpioohhmaa", sum := "781aec61b8fd74f25db0a7f4fcffda1f746d3065912fb85c57b0deef0131e9a2", checked := Try.checked }
namespace Rows
def none {H : Type} : Left H := { results := [], args := [] }

/-- 'laws.FnExactGoodSplice': WHATEVER THE INPUT: true; the input reads as it did. -/
def fnExactGoodSpliceSpec : ChangeSpec := { name := "fnExactGoodSplice", fn := fun _ => fun
  | [d1, d2] => { results := [.lit (.bool true)], args := [d1, d2] }
  | _ => none }
def fnExactGoodSpliceRow : OpenClaim := { program := "ytecplhpioohhmaa", sum := "781aec61b8fd74f25db0a7f4fcffda1f746d3065912fb85c57b0deef0131e9a2", func := "loop.example/g00894/laws.FnExactGoodSplice", spec := "fnExactGoodSplice", apart := false }
def FnExactGoodSpliceSaid : Prop := fnExactGoodSpliceRow.holds Try.pinned (OpenSpec.ofChange fnExactGoodSpliceSpec)

/-- ITS FALSE NEIGHBOUR: 'it returns false'. Refute it at one input. -/
def fnExactGoodSpliceWrong : ChangeSpec := { name := "fnExactGoodSplice", fn := fun _ => fun
  | [d1, d2] => { results := [.lit (.bool false)], args := [d1, d2] }
  | _ => none }
def FnExactGoodSpliceWrongFalsely : Prop := fnExactGoodSpliceRow.holds Try.pinned (OpenSpec.ofChange fnExactGoodSpliceWrong)

/-- 'laws.FnExactBalanceOf': WHATEVER THE INPUT: true; the input reads as it did. -/
def fnExactBalanceOfSpec : ChangeSpec := { name := "fnExactBalanceOf", fn := fun _ => fun
  | [d1, d2] => { results := [.lit (.bool true)], args := [d1, d2] }
  | _ => none }
def fnExactBalanceOfRow : OpenClaim := { program := "ytecplhpioohhmaa", sum := "781aec61b8fd74f25db0a7f4fcffda1f746d3065912fb85c57b0deef0131e9a2", func := "loop.example/g00894/laws.FnExactBalanceOf", spec := "fnExactBalanceOf", apart := false }
def FnExactBalanceOfSaid : Prop := fnExactBalanceOfRow.holds Try.pinned (OpenSpec.ofChange fnExactBalanceOfSpec)

/-- ITS FALSE NEIGHBOUR: 'it returns false'. Refute it at one input. -/
def fnExactBalanceOfWrong : ChangeSpec := { name := "fnExactBalanceOf", fn := fun _ => fun
  | [d1, d2] => { results := [.lit (.bool false)], args := [d1, d2] }
  | _ => none }
def FnExactBalanceOfWrongFalsely : Prop := fnExactBalanceOfRow.holds Try.pinned (OpenSpec.ofChange fnExactBalanceOfWrong)

/-- 'laws.FnExactHowOften': WHATEVER THE INPUT: true; the input reads as it did. -/
def fnExactHowOftenSpec : ChangeSpec := { name := "fnExactHowOften", fn := fun _ => fun
  | [d] => { results := [.lit (.bool true)], args := [d] }
  | _ => none }
def fnExactHowOftenRow : OpenClaim := { program := "ytecplhpioohhmaa", sum := "781aec61b8fd74f25db0a7f4fcffda1f746d3065912fb85c57b0deef0131e9a2", func := "loop.example/g00894/laws.FnExactHowOften", spec := "fnExactHowOften", apart := false }
def FnExactHowOftenSaid : Prop := fnExactHowOftenRow.holds Try.pinned (OpenSpec.ofChange fnExactHowOftenSpec)

/-- ITS FALSE NEIGHBOUR: 'it returns false'. Refute it at one input. -/
def fnExactHowOftenWrong : ChangeSpec := { name := "fnExactHowOften", fn := fun _ => fun
  | [d] => { results := [.lit (.bool false)], args := [d] }
  | _ => none }
def FnExactHowOftenWrongFalsely : Prop := fnExactHowOftenRow.holds Try.pinned (OpenSpec.ofChange fnExactHowOftenWrong)

/-- 'laws.FnExactTurnList': WHATEVER THE INPUT: true; the input reads as it did. -/
def fnExactTurnListSpec : ChangeSpec := { name := "fnExactTurnList", fn := fun _ => fun
  | [d1, d2] => { results := [.lit (.bool true)], args := [d1, d2] }
  | _ => none }
def fnExactTurnListRow : OpenClaim := { program := "ytecplhpioohhmaa", sum := "781aec61b8fd74f25db0a7f4fcffda1f746d3065912fb85c57b0deef0131e9a2", func := "loop.example/g00894/laws.FnExactTurnList", spec := "fnExactTurnList", apart := false }
def FnExactTurnListSaid : Prop := fnExactTurnListRow.holds Try.pinned (OpenSpec.ofChange fnExactTurnListSpec)

/-- ITS FALSE NEIGHBOUR: 'it returns false'. Refute it at one input. -/
def fnExactTurnListWrong : ChangeSpec := { name := "fnExactTurnList", fn := fun _ => fun
  | [d1, d2] => { results := [.lit (.bool false)], args := [d1, d2] }
  | _ => none }
def FnExactTurnListWrongFalsely : Prop := fnExactTurnListRow.holds Try.pinned (OpenSpec.ofChange fnExactTurnListWrong)

/-- 'laws.FnExactMissingIn': WHATEVER THE INPUT: true; the input reads as it did. -/
def fnExactMissingInSpec : ChangeSpec := { name := "fnExactMissingIn", fn := fun _ => fun
  | [d] => { results := [.lit (.bool true)], args := [d] }
  | _ => none }
def fnExactMissingInRow : OpenClaim := { program := "ytecplhpioohhmaa", sum := "781aec61b8fd74f25db0a7f4fcffda1f746d3065912fb85c57b0deef0131e9a2", func := "loop.example/g00894/laws.FnExactMissingIn", spec := "fnExactMissingIn", apart := false }
def FnExactMissingInSaid : Prop := fnExactMissingInRow.holds Try.pinned (OpenSpec.ofChange fnExactMissingInSpec)

/-- ITS FALSE NEIGHBOUR: 'it returns false'. Refute it at one input. -/
def fnExactMissingInWrong : ChangeSpec := { name := "fnExactMissingIn", fn := fun _ => fun
  | [d] => { results := [.lit (.bool false)], args := [d] }
  | _ => none }
def FnExactMissingInWrongFalsely : Prop := fnExactMissingInRow.holds Try.pinned (OpenSpec.ofChange fnExactMissingInWrong)

/-- 'laws.FnExactAreNext': WHATEVER THE INPUT: true; the input reads as it did. -/
def fnExactAreNextSpec : ChangeSpec := { name := "fnExactAreNext", fn := fun _ => fun
  | [d] => { results := [.lit (.bool true)], args := [d] }
  | _ => none }
def fnExactAreNextRow : OpenClaim := { program := "ytecplhpioohhmaa", sum := "781aec61b8fd74f25db0a7f4fcffda1f746d3065912fb85c57b0deef0131e9a2", func := "loop.example/g00894/laws.FnExactAreNext", spec := "fnExactAreNext", recurses := true, apart := false }
def FnExactAreNextSaid : Prop := fnExactAreNextRow.holds Try.pinned (OpenSpec.ofChange fnExactAreNextSpec)

/-- ITS FALSE NEIGHBOUR: 'it returns false'. Refute it at one input. -/
def fnExactAreNextWrong : ChangeSpec := { name := "fnExactAreNext", fn := fun _ => fun
  | [d] => { results := [.lit (.bool false)], args := [d] }
  | _ => none }
def FnExactAreNextWrongFalsely : Prop := fnExactAreNextRow.holds Try.pinned (OpenSpec.ofChange fnExactAreNextWrong)

/-- 'laws.FnExactChangesIn': WHATEVER THE INPUT: true; the input reads as it did. -/
def fnExactChangesInSpec : ChangeSpec := { name := "fnExactChangesIn", fn := fun _ => fun
  | [d] => { results := [.lit (.bool true)], args := [d] }
  | _ => none }
def fnExactChangesInRow : OpenClaim := { program := "ytecplhpioohhmaa", sum := "781aec61b8fd74f25db0a7f4fcffda1f746d3065912fb85c57b0deef0131e9a2", func := "loop.example/g00894/laws.FnExactChangesIn", spec := "fnExactChangesIn", recurses := true, apart := false }
def FnExactChangesInSaid : Prop := fnExactChangesInRow.holds Try.pinned (OpenSpec.ofChange fnExactChangesInSpec)

/-- ITS FALSE NEIGHBOUR: 'it returns false'. Refute it at one input. -/
def fnExactChangesInWrong : ChangeSpec := { name := "fnExactChangesIn", fn := fun _ => fun
  | [d] => { results := [.lit (.bool false)], args := [d] }
  | _ => none }
def FnExactChangesInWrongFalsely : Prop := fnExactChangesInRow.holds Try.pinned (OpenSpec.ofChange fnExactChangesInWrong)

/-- 'laws.FnExactPartSet': WHATEVER THE INPUT: true; the input reads as it did. -/
def fnExactPartSetSpec : ChangeSpec := { name := "fnExactPartSet", fn := fun _ => fun
  | [d1, d2] => { results := [.lit (.bool true)], args := [d1, d2] }
  | _ => none }
def fnExactPartSetRow : OpenClaim := { program := "ytecplhpioohhmaa", sum := "781aec61b8fd74f25db0a7f4fcffda1f746d3065912fb85c57b0deef0131e9a2", func := "loop.example/g00894/laws.FnExactPartSet", spec := "fnExactPartSet", recurses := true, apart := false }
def FnExactPartSetSaid : Prop := fnExactPartSetRow.holds Try.pinned (OpenSpec.ofChange fnExactPartSetSpec)

/-- ITS FALSE NEIGHBOUR: 'it returns false'. Refute it at one input. -/
def fnExactPartSetWrong : ChangeSpec := { name := "fnExactPartSet", fn := fun _ => fun
  | [d1, d2] => { results := [.lit (.bool false)], args := [d1, d2] }
  | _ => none }
def FnExactPartSetWrongFalsely : Prop := fnExactPartSetRow.holds Try.pinned (OpenSpec.ofChange fnExactPartSetWrong)

/-- 'laws.FnExactLeastIn': WHATEVER THE INPUT: true; the input reads as it did. -/
def fnExactLeastInSpec : ChangeSpec := { name := "fnExactLeastIn", fn := fun _ => fun
  | [d1, d2] => { results := [.lit (.bool true)], args := [d1, d2] }
  | _ => none }
def fnExactLeastInRow : OpenClaim := { program := "ytecplhpioohhmaa", sum := "781aec61b8fd74f25db0a7f4fcffda1f746d3065912fb85c57b0deef0131e9a2", func := "loop.example/g00894/laws.FnExactLeastIn", spec := "fnExactLeastIn", recurses := true, apart := false }
def FnExactLeastInSaid : Prop := fnExactLeastInRow.holds Try.pinned (OpenSpec.ofChange fnExactLeastInSpec)

/-- ITS FALSE NEIGHBOUR: 'it returns false'. Refute it at one input. -/
def fnExactLeastInWrong : ChangeSpec := { name := "fnExactLeastIn", fn := fun _ => fun
  | [d1, d2] => { results := [.lit (.bool false)], args := [d1, d2] }
  | _ => none }
def FnExactLeastInWrongFalsely : Prop := fnExactLeastInRow.holds Try.pinned (OpenSpec.ofChange fnExactLeastInWrong)

/-- 'laws.FnExactCountChanges': WHATEVER THE INPUT: true; the input reads as it did. -/
def fnExactCountChangesSpec : ChangeSpec := { name := "fnExactCountChanges", fn := fun _ => fun
  | [d1, d2] => { results := [.lit (.bool true)], args := [d1, d2] }
  | _ => none }
def fnExactCountChangesRow : OpenClaim := { program := "ytecplhpioohhmaa", sum := "781aec61b8fd74f25db0a7f4fcffda1f746d3065912fb85c57b0deef0131e9a2", func := "loop.example/g00894/laws.FnExactCountChanges", spec := "fnExactCountChanges", recurses := true, apart := false }
def FnExactCountChangesSaid : Prop := fnExactCountChangesRow.holds Try.pinned (OpenSpec.ofChange fnExactCountChangesSpec)

/-- ITS FALSE NEIGHBOUR: 'it returns false'. Refute it at one input. -/
def fnExactCountChangesWrong : ChangeSpec := { name := "fnExactCountChanges", fn := fun _ => fun
  | [d1, d2] => { results := [.lit (.bool false)], args := [d1, d2] }
  | _ => none }
def FnExactCountChangesWrongFalsely : Prop := fnExactCountChangesRow.holds Try.pinned (OpenSpec.ofChange fnExactCountChangesWrong)

/-- 'laws.FnExactReadNotation': WHATEVER THE INPUT: true; the input reads as it did. -/
def fnExactReadNotationSpec : ChangeSpec := { name := "fnExactReadNotation", fn := fun _ => fun
  | [d1, d2] => { results := [.lit (.bool true)], args := [d1, d2] }
  | _ => none }
def fnExactReadNotationRow : OpenClaim := { program := "ytecplhpioohhmaa", sum := "781aec61b8fd74f25db0a7f4fcffda1f746d3065912fb85c57b0deef0131e9a2", func := "loop.example/g00894/laws.FnExactReadNotation", spec := "fnExactReadNotation", recurses := true, apart := false }
def FnExactReadNotationSaid : Prop := fnExactReadNotationRow.holds Try.pinned (OpenSpec.ofChange fnExactReadNotationSpec)

/-- ITS FALSE NEIGHBOUR: 'it returns false'. Refute it at one input. -/
def fnExactReadNotationWrong : ChangeSpec := { name := "fnExactReadNotation", fn := fun _ => fun
  | [d1, d2] => { results := [.lit (.bool false)], args := [d1, d2] }
  | _ => none }
def FnExactReadNotationWrongFalsely : Prop := fnExactReadNotationRow.holds Try.pinned (OpenSpec.ofChange fnExactReadNotationWrong)

/- THE SECOND FORM. 'bulk': how many values and letters a reading holds, each counted each time it is reached (what is shared counts as often as it is met; a slice's spare places count too). A statement '..UptoSaid' is the law's where the arguments, and the package variables that the reading takes, are together of bulk at most 1048576: NARROWER than '..Said'. Prove '..Said' where nothing that the law and all that it calls make is longer than what came in: it says more and counts as full. Else prove '..UptoSaid'. A law counts once. -/
mutual
def uptoBulk {H : Type} : DataW H → Nat
  | .lit (.string bytes) => bytes.length + 1
  | .lit _ => 1
  | .nil => 1
  | .ptr d => uptoBulk d + 1
  | .slice elems spare => uptoBulkAll elems + uptoBulkAll spare + 1
  | .agg parts => uptoBulkAll parts + 1
  | .iface _ d => uptoBulk d + 1
  | .map entries => uptoBulkEntries entries + 1
  | .held _ => 1
def uptoBulkAll {H : Type} : List (DataW H) → Nat
  | [] => 0
  | d :: r => uptoBulk d + uptoBulkAll r
def uptoBulkEntries {H : Type} : List (Lit × DataW H) → Nat
  | [] => 0
  | x :: r => uptoBulkEntry x + uptoBulkEntries r
def uptoBulkEntry {H : Type} : Lit × DataW H → Nat
  | (.string bytes, d) => bytes.length + uptoBulk d + 1
  | (_, d) => uptoBulk d + 1
 end
def uptoSmall : (H : Type) → List (DataW H) → Bool := fun _ ds => decide (uptoBulkAll ds ≤ 1048576)
def OpenSpec.upto (s : _root_.Go.ChangeSpec) : _root_.Go.OpenSpec := { _root_.Go.OpenSpec.ofChange s with cond := some uptoSmall }

/-- 'laws.FnExactGoodSplice', WHERE WHAT IT READS IS OF BULK AT MOST 1048576: true; the input reads as it did. -/
def fnExactGoodSpliceUptoRow : OpenClaim := { program := "ytecplhpioohhmaa", sum := "781aec61b8fd74f25db0a7f4fcffda1f746d3065912fb85c57b0deef0131e9a2", func := "loop.example/g00894/laws.FnExactGoodSplice", spec := "fnExactGoodSplice", apart := false, narrowed := true }
def FnExactGoodSpliceUptoSaid : Prop := fnExactGoodSpliceUptoRow.holds Try.pinned (OpenSpec.upto fnExactGoodSpliceSpec)

/-- 'laws.FnExactBalanceOf', WHERE WHAT IT READS IS OF BULK AT MOST 1048576: true; the input reads as it did. -/
def fnExactBalanceOfUptoRow : OpenClaim := { program := "ytecplhpioohhmaa", sum := "781aec61b8fd74f25db0a7f4fcffda1f746d3065912fb85c57b0deef0131e9a2", func := "loop.example/g00894/laws.FnExactBalanceOf", spec := "fnExactBalanceOf", apart := false, narrowed := true }
def FnExactBalanceOfUptoSaid : Prop := fnExactBalanceOfUptoRow.holds Try.pinned (OpenSpec.upto fnExactBalanceOfSpec)

/-- 'laws.FnExactHowOften', WHERE WHAT IT READS IS OF BULK AT MOST 1048576: true; the input reads as it did. -/
def fnExactHowOftenUptoRow : OpenClaim := { program := "ytecplhpioohhmaa", sum := "781aec61b8fd74f25db0a7f4fcffda1f746d3065912fb85c57b0deef0131e9a2", func := "loop.example/g00894/laws.FnExactHowOften", spec := "fnExactHowOften", apart := false, narrowed := true }
def FnExactHowOftenUptoSaid : Prop := fnExactHowOftenUptoRow.holds Try.pinned (OpenSpec.upto fnExactHowOftenSpec)

/-- 'laws.FnExactTurnList', WHERE WHAT IT READS IS OF BULK AT MOST 1048576: true; the input reads as it did. -/
def fnExactTurnListUptoRow : OpenClaim := { program := "ytecplhpioohhmaa", sum := "781aec61b8fd74f25db0a7f4fcffda1f746d3065912fb85c57b0deef0131e9a2", func := "loop.example/g00894/laws.FnExactTurnList", spec := "fnExactTurnList", apart := false, narrowed := true }
def FnExactTurnListUptoSaid : Prop := fnExactTurnListUptoRow.holds Try.pinned (OpenSpec.upto fnExactTurnListSpec)

/-- 'laws.FnExactMissingIn', WHERE WHAT IT READS IS OF BULK AT MOST 1048576: true; the input reads as it did. -/
def fnExactMissingInUptoRow : OpenClaim := { program := "ytecplhpioohhmaa", sum := "781aec61b8fd74f25db0a7f4fcffda1f746d3065912fb85c57b0deef0131e9a2", func := "loop.example/g00894/laws.FnExactMissingIn", spec := "fnExactMissingIn", apart := false, narrowed := true }
def FnExactMissingInUptoSaid : Prop := fnExactMissingInUptoRow.holds Try.pinned (OpenSpec.upto fnExactMissingInSpec)

/-- 'laws.FnExactAreNext', WHERE WHAT IT READS IS OF BULK AT MOST 1048576: true; the input reads as it did. -/
def fnExactAreNextUptoRow : OpenClaim := { program := "ytecplhpioohhmaa", sum := "781aec61b8fd74f25db0a7f4fcffda1f746d3065912fb85c57b0deef0131e9a2", func := "loop.example/g00894/laws.FnExactAreNext", spec := "fnExactAreNext", recurses := true, apart := false, narrowed := true }
def FnExactAreNextUptoSaid : Prop := fnExactAreNextUptoRow.holds Try.pinned (OpenSpec.upto fnExactAreNextSpec)

/-- 'laws.FnExactChangesIn', WHERE WHAT IT READS IS OF BULK AT MOST 1048576: true; the input reads as it did. -/
def fnExactChangesInUptoRow : OpenClaim := { program := "ytecplhpioohhmaa", sum := "781aec61b8fd74f25db0a7f4fcffda1f746d3065912fb85c57b0deef0131e9a2", func := "loop.example/g00894/laws.FnExactChangesIn", spec := "fnExactChangesIn", recurses := true, apart := false, narrowed := true }
def FnExactChangesInUptoSaid : Prop := fnExactChangesInUptoRow.holds Try.pinned (OpenSpec.upto fnExactChangesInSpec)

/-- 'laws.FnExactPartSet', WHERE WHAT IT READS IS OF BULK AT MOST 1048576: true; the input reads as it did. -/
def fnExactPartSetUptoRow : OpenClaim := { program := "ytecplhpioohhmaa", sum := "781aec61b8fd74f25db0a7f4fcffda1f746d3065912fb85c57b0deef0131e9a2", func := "loop.example/g00894/laws.FnExactPartSet", spec := "fnExactPartSet", recurses := true, apart := false, narrowed := true }
def FnExactPartSetUptoSaid : Prop := fnExactPartSetUptoRow.holds Try.pinned (OpenSpec.upto fnExactPartSetSpec)

/-- 'laws.FnExactLeastIn', WHERE WHAT IT READS IS OF BULK AT MOST 1048576: true; the input reads as it did. -/
def fnExactLeastInUptoRow : OpenClaim := { program := "ytecplhpioohhmaa", sum := "781aec61b8fd74f25db0a7f4fcffda1f746d3065912fb85c57b0deef0131e9a2", func := "loop.example/g00894/laws.FnExactLeastIn", spec := "fnExactLeastIn", recurses := true, apart := false, narrowed := true }
def FnExactLeastInUptoSaid : Prop := fnExactLeastInUptoRow.holds Try.pinned (OpenSpec.upto fnExactLeastInSpec)

/-- 'laws.FnExactCountChanges', WHERE WHAT IT READS IS OF BULK AT MOST 1048576: true; the input reads as it did. -/
def fnExactCountChangesUptoRow : OpenClaim := { program := "ytecplhpioohhmaa", sum := "781aec61b8fd74f25db0a7f4fcffda1f746d3065912fb85c57b0deef0131e9a2", func := "loop.example/g00894/laws.FnExactCountChanges", spec := "fnExactCountChanges", recurses := true, apart := false, narrowed := true }
def FnExactCountChangesUptoSaid : Prop := fnExactCountChangesUptoRow.holds Try.pinned (OpenSpec.upto fnExactCountChangesSpec)

/-- 'laws.FnExactReadNotation', WHERE WHAT IT READS IS OF BULK AT MOST 1048576: true; the input reads as it did. -/
def fnExactReadNotationUptoRow : OpenClaim := { program := "ytecplhpioohhmaa", sum := "781aec61b8fd74f25db0a7f4fcffda1f746d3065912fb85c57b0deef0131e9a2", func := "loop.example/g00894/laws.FnExactReadNotation", spec := "fnExactReadNotation", recurses := true, apart := false, narrowed := true }
def FnExactReadNotationUptoSaid : Prop := fnExactReadNotationUptoRow.holds Try.pinned (OpenSpec.upto fnExactReadNotationSpec)

end Rows
end Go.Proofs.Ytecplhpioohhmaa
