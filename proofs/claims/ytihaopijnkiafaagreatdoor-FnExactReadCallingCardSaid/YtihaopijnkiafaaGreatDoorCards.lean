/-
  DERIVED. GIVEN WITH THE SEED: THE CARDS: each row of YtihaopijnkiafaaGreatDoorRows.lean that lists a variable, with what it lists TIED to the program's text (the seventh form; the later family's looks); each row that meets fmt, with fmt's text TOLD by the authors' own Lean function (tested against real Go, not proved from fmt's source: count such statements apart). THE CARD IS WHAT COUNTS. Prove the row's statement (the work); the ties are given (YtihaopijnkiafaaGreatDoorTie.lean); close each card by the builder's one call (the guide's Derived/Test/ToyasCard.lean, 'card_holds'). Laid BY PROGRAM, IN A SANDBOX (cutbox-door.mjs). By AI agents, Wed Nov 11 2026. No macro, syntax, notation, axiom, sorry.
-/
import Derived.Test.YtihaopijnkiafaaGreatDoorRows
import GoSem.ClaimSeven
namespace Go.Proofs.YtihaopijnkiafaaGreatDoor
namespace Rows

/-- THE TIED CARD OF 'laws.FnExactReadCalling'. -/
def fnExactReadCallingCard : Claim7 := { stood := { row := fnExactReadCallingRow, standIns := [], harness := (true, "bc2441f139a2bd70c4fd106c880bb40b222937fb0b9e9936da5c0b3d3d74c1de"), looks := false }, kinds := [], alts := [], laidByText := true, laidKinds := [.data, .data, .data, .data, .pinned], laidTests := true, laidLooks := .later }
def FnExactReadCallingCardSaid : Prop := Claim7.holds Tryz.pinned (.plain (OpenSpec.ofChange fnExactReadCallingSpec)) fnExactReadCallingCard

/-- THE SECOND FORM's CARD OF 'laws.FnExactReadCalling'. -/
def fnExactReadCallingUptoCard : Claim7 := { stood := { row := fnExactReadCallingUptoRow, standIns := [], harness := (true, "bc2441f139a2bd70c4fd106c880bb40b222937fb0b9e9936da5c0b3d3d74c1de"), looks := false }, kinds := [], alts := [], laidByText := true, laidKinds := [.data, .data, .data, .data, .pinned], laidTests := true, laidLooks := .later }
def FnExactReadCallingUptoCardSaid : Prop := Claim7.holds Tryz.pinned (.plain (OpenSpec.upto fnExactReadCallingSpec)) fnExactReadCallingUptoCard
end Rows
end Go.Proofs.YtihaopijnkiafaaGreatDoor
