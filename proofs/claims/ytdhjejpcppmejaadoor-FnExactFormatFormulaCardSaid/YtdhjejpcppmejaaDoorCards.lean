/-
  DERIVED. GIVEN WITH THE SEED: THE CARDS: each row of YtdhjejpcppmejaaDoorRows.lean that lists a variable, with what it lists TIED to the program's text (the seventh form; the later family's looks); each row that meets fmt, with fmt's text TOLD by the authors' own Lean function (tested against real Go, not proved from fmt's source: count such statements apart). THE CARD IS WHAT COUNTS. Prove the row's statement (the work); the ties are given (YtdhjejpcppmejaaDoorTie.lean); close each card by the builder's one call (the guide's Derived/Test/ToyasCard.lean, 'card_holds'). Laid BY PROGRAM, IN A SANDBOX (cutbox-door.mjs). By AI agents, Wed Nov 11 2026. No macro, syntax, notation, axiom, sorry.
-/
import Derived.Test.YtdhjejpcppmejaaDoorRows
import GoSem.ClaimSeven
namespace Go.Proofs.YtdhjejpcppmejaaDoor
namespace Rows

/-- THE TIED CARD OF 'laws.FnExactFormatFormula'. -/
def fnExactFormatFormulaCard : Claim7 := { stood := { row := fnExactFormatFormulaRow, standIns := [], harness := (true, "bd97bcbaa63229d9e0691be3141e075df44ca5dbd75cd735c8abcdd1d3bd9a65"), looks := false }, kinds := [], alts := [], laidByText := true, laidKinds := [.data, .data, .data, .widerDeep], laidTests := true, laidLooks := .later }
def FnExactFormatFormulaCardSaid : Prop := Claim7.holds Tryd.pinned (.plain (OpenSpec.ofChange fnExactFormatFormulaSpec)) fnExactFormatFormulaCard

/-- THE SECOND FORM's CARD OF 'laws.FnExactFormatFormula'. -/
def fnExactFormatFormulaUptoCard : Claim7 := { stood := { row := fnExactFormatFormulaUptoRow, standIns := [], harness := (true, "bd97bcbaa63229d9e0691be3141e075df44ca5dbd75cd735c8abcdd1d3bd9a65"), looks := false }, kinds := [], alts := [], laidByText := true, laidKinds := [.data, .data, .data, .widerDeep], laidTests := true, laidLooks := .later }
def FnExactFormatFormulaUptoCardSaid : Prop := Claim7.holds Tryd.pinned (.plain (OpenSpec.upto fnExactFormatFormulaSpec)) fnExactFormatFormulaUptoCard
end Rows
end Go.Proofs.YtdhjejpcppmejaaDoor
