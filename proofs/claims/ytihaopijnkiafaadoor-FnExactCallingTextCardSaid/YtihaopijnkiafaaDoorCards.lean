/-
  DERIVED. GIVEN WITH THE SEED: THE CARDS: each row of YtihaopijnkiafaaDoorRows.lean that lists a variable, with what it lists TIED to the program's text (the seventh form; the later family's looks); each row that meets fmt, with fmt's text TOLD by the authors' own Lean function (tested against real Go, not proved from fmt's source: count such statements apart). THE CARD IS WHAT COUNTS. Prove the row's statement (the work); the ties are given (YtihaopijnkiafaaDoorTie.lean); close each card by the builder's one call (the guide's Derived/Test/ToyasCard.lean, 'card_holds'). Laid BY PROGRAM, IN A SANDBOX (cutbox-door.mjs). By AI agents, Wed Nov 11 2026. No macro, syntax, notation, axiom, sorry.
-/
import Derived.Test.YtihaopijnkiafaaDoorRows
import GoSem.ClaimSeven
namespace Go.Proofs.YtihaopijnkiafaaDoor
namespace Rows

/-- THE TIED CARD OF 'laws.FnExactCallingText'. -/
def fnExactCallingTextCard : Claim7 := { stood := { row := fnExactCallingTextRow, standIns := [], harness := (true, "e1bac0c5ae0fec224572853593abafd0a6e7f9aa9a3e64075463c0e33b9a101d"), looks := false }, kinds := [], alts := [], laidByText := true, laidKinds := [.data, .data, .data], laidTests := true, laidLooks := .later }
def FnExactCallingTextCardSaid : Prop := Claim7.holds Tryd.pinned (.plain (OpenSpec.ofChange fnExactCallingTextSpec)) fnExactCallingTextCard

/-- THE SECOND FORM's CARD OF 'laws.FnExactCallingText'. -/
def fnExactCallingTextUptoCard : Claim7 := { stood := { row := fnExactCallingTextUptoRow, standIns := [], harness := (true, "e1bac0c5ae0fec224572853593abafd0a6e7f9aa9a3e64075463c0e33b9a101d"), looks := false }, kinds := [], alts := [], laidByText := true, laidKinds := [.data, .data, .data], laidTests := true, laidLooks := .later }
def FnExactCallingTextUptoCardSaid : Prop := Claim7.holds Tryd.pinned (.plain (OpenSpec.upto fnExactCallingTextSpec)) fnExactCallingTextUptoCard
end Rows
end Go.Proofs.YtihaopijnkiafaaDoor
