/-
  DERIVED. GIVEN WITH THE SEED: THE CARDS: each row of YtmcmagfondjopaaDoorRows.lean that lists a variable, with what it lists TIED to the program's text (the seventh form; the later family's looks); each row that meets fmt, with fmt's text TOLD by the authors' own Lean function (tested against real Go, not proved from fmt's source: count such statements apart). THE CARD IS WHAT COUNTS. Prove the row's statement (the work); the ties are given (YtmcmagfondjopaaDoorTie.lean); close each card by the builder's one call (the guide's Derived/Test/ToyasCard.lean, 'card_holds'). Laid BY PROGRAM, IN A SANDBOX (cutbox-door.mjs). By AI agents, Wed Nov 11 2026. No macro, syntax, notation, axiom, sorry.
-/
import Derived.Test.YtmcmagfondjopaaDoorRows
import GoSem.ClaimSeven
namespace Go.Proofs.YtmcmagfondjopaaDoor
namespace Rows

/-- THE TIED CARD OF 'starlinglaw.ExprPrints'. -/
def exprPrintsCard : Claim7 := { stood := { row := exprPrintsRow, standIns := [], harness := (true, "4c29bd0939fc02977c32f91b79c3d35f2fe479133f305c084c7b309bf2fad3af"), looks := true }, kinds := [], alts := [], laidByText := true, laidKinds := [.data], laidTests := true, laidLooks := .later }
def ExprPrintsCardSaid : Prop := Claim7.holds Tryd.pinned (.plain (OpenSpec.ofChange exprPrintsSpec)) exprPrintsCard

/-- THE SECOND FORM's CARD OF 'starlinglaw.ExprPrints'. -/
def exprPrintsUptoCard : Claim7 := { stood := { row := exprPrintsUptoRow, standIns := [], harness := (true, "4c29bd0939fc02977c32f91b79c3d35f2fe479133f305c084c7b309bf2fad3af"), looks := true }, kinds := [], alts := [], laidByText := true, laidKinds := [.data], laidTests := true, laidLooks := .later }
def ExprPrintsUptoCardSaid : Prop := Claim7.holds Tryd.pinned (.plain (OpenSpec.upto exprPrintsSpec)) exprPrintsUptoCard
end Rows
end Go.Proofs.YtmcmagfondjopaaDoor
