/-
  DERIVED. GIVEN WITH THE SEED: THE CARDS: each row of YtgfppbkibmegoaaDoorRows.lean that lists a variable, with what it lists TIED to the program's text (the seventh form; the later family's looks); each row that meets fmt, with fmt's text TOLD by the authors' own Lean function (tested against real Go, not proved from fmt's source: count such statements apart). THE CARD IS WHAT COUNTS. Prove the row's statement (the work); the ties are given (YtgfppbkibmegoaaDoorTie.lean); close each card by the builder's one call (the guide's Derived/Test/ToyasCard.lean, 'card_holds'). Laid BY PROGRAM, IN A SANDBOX (cutbox-door.mjs). By AI agents, Wed Nov 11 2026. No macro, syntax, notation, axiom, sorry.
-/
import Derived.Test.YtgfppbkibmegoaaDoorRows
import GoSem.ClaimSeven
namespace Go.Proofs.YtgfppbkibmegoaaDoor
namespace Rows

/-- THE TIED CARD OF 'laws.FnExactPrintParts'. -/
def fnExactPrintPartsCard : Claim7 := { stood := { row := fnExactPrintPartsRow, standIns := [], harness := (true, "965908b64378b6c20ace4acef4510a99c86618e8d3e79cbeadc3b34a6bde076e"), looks := false }, kinds := [], alts := [], laidByText := true, laidKinds := [.data, .data, .data], laidTests := true, laidLooks := .later }
def FnExactPrintPartsCardSaid : Prop := Claim7.holds Tryd.pinned (.plain (OpenSpec.ofChange fnExactPrintPartsSpec)) fnExactPrintPartsCard

/-- THE SECOND FORM's CARD OF 'laws.FnExactPrintParts'. -/
def fnExactPrintPartsUptoCard : Claim7 := { stood := { row := fnExactPrintPartsUptoRow, standIns := [], harness := (true, "965908b64378b6c20ace4acef4510a99c86618e8d3e79cbeadc3b34a6bde076e"), looks := false }, kinds := [], alts := [], laidByText := true, laidKinds := [.data, .data, .data], laidTests := true, laidLooks := .later }
def FnExactPrintPartsUptoCardSaid : Prop := Claim7.holds Tryd.pinned (.plain (OpenSpec.upto fnExactPrintPartsSpec)) fnExactPrintPartsUptoCard
end Rows
end Go.Proofs.YtgfppbkibmegoaaDoor
