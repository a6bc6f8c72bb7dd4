/-
  DERIVED. GIVEN WITH THE SEED: THE CARDS: each row of YtnkkhkpkipckiaaDoorRows.lean that lists a variable, with what it lists TIED to the program's text (the seventh form; the later family's looks); each row that meets fmt, with fmt's text TOLD by the authors' own Lean function (tested against real Go, not proved from fmt's source: count such statements apart). THE CARD IS WHAT COUNTS. Prove the row's statement (the work); the ties are given (YtnkkhkpkipckiaaDoorTie.lean); close each card by the builder's one call (the guide's Derived/Test/ToyasCard.lean, 'card_holds'). Laid BY PROGRAM, IN A SANDBOX (cutbox-door.mjs). By AI agents, Wed Nov 11 2026. No macro, syntax, notation, axiom, sorry.
-/
import Derived.Test.YtnkkhkpkipckiaaDoorRows
import GoSem.ClaimSeven
namespace Go.Proofs.YtnkkhkpkipckiaaDoor
namespace Rows

/-- THE TIED CARD OF 'starlinglaw.ValueTells'. -/
def valueTellsCard : Claim7 := { stood := { row := valueTellsRow, standIns := [], harness := (true, "a728826df8cc0e194278995e73e86dda995125a24c73159cad5c2349218514bb"), looks := false }, kinds := [], alts := [], laidByText := true, laidKinds := [.data, .data, .data], laidTests := true, laidLooks := .later }
def ValueTellsCardSaid : Prop := Claim7.holds Tryd.pinned (.plain (OpenSpec.ofChange valueTellsSpec)) valueTellsCard

/-- THE TIED CARD OF 'starlinglaw.ValueOrder'. -/
def valueOrderCard : Claim7 := { stood := { row := valueOrderRow, standIns := [], harness := (true, "a728826df8cc0e194278995e73e86dda995125a24c73159cad5c2349218514bb"), looks := false }, kinds := [], alts := [], laidByText := true, laidKinds := [.data, .data, .data], laidTests := true, laidLooks := .later }
def ValueOrderCardSaid : Prop := Claim7.holds Tryd.pinned (.plain (OpenSpec.ofChange valueOrderSpec)) valueOrderCard

/-- THE TIED CARD OF 'starlinglaw.ShowTells'. -/
def showTellsCard : Claim7 := { stood := { row := showTellsRow, standIns := [], harness := (true, "a728826df8cc0e194278995e73e86dda995125a24c73159cad5c2349218514bb"), looks := false }, kinds := [], alts := [], laidByText := true, laidKinds := [.data, .data, .data], laidTests := true, laidLooks := .later }
def ShowTellsCardSaid : Prop := Claim7.holds Tryd.pinned (.plain (OpenSpec.ofChange showTellsSpec)) showTellsCard

/-- THE TIED CARD OF 'starlinglaw.ShowBack'. -/
def showBackCard : Claim7 := { stood := { row := showBackRow, standIns := [], harness := (true, "a728826df8cc0e194278995e73e86dda995125a24c73159cad5c2349218514bb"), looks := false }, kinds := [], alts := [], laidByText := true, laidKinds := [.data, .data, .data], laidTests := true, laidLooks := .later }
def ShowBackCardSaid : Prop := Claim7.holds Tryd.pinned (.plain (OpenSpec.ofChange showBackSpec)) showBackCard

/-- THE TIED CARD OF 'starlinglaw.ShowOnly'. -/
def showOnlyCard : Claim7 := { stood := { row := showOnlyRow, standIns := [], harness := (true, "a728826df8cc0e194278995e73e86dda995125a24c73159cad5c2349218514bb"), looks := false }, kinds := [], alts := [], laidByText := true, laidKinds := [.data, .data, .data], laidTests := true, laidLooks := .later }
def ShowOnlyCardSaid : Prop := Claim7.holds Tryd.pinned (.plain (OpenSpec.ofChange showOnlySpec)) showOnlyCard

/-- THE TIED CARD OF 'starlinglaw.SortTells'. -/
def sortTellsCard : Claim7 := { stood := { row := sortTellsRow, standIns := [], harness := (true, "a728826df8cc0e194278995e73e86dda995125a24c73159cad5c2349218514bb"), looks := false }, kinds := [], alts := [], laidByText := true, laidKinds := [.data, .data, .data], laidTests := true, laidLooks := .later }
def SortTellsCardSaid : Prop := Claim7.holds Tryd.pinned (.plain (OpenSpec.ofChange sortTellsSpec)) sortTellsCard

/-- THE TIED CARD OF 'starlinglaw.SortMoves'. -/
def sortMovesCard : Claim7 := { stood := { row := sortMovesRow, standIns := [], harness := (true, "a728826df8cc0e194278995e73e86dda995125a24c73159cad5c2349218514bb"), looks := false }, kinds := [], alts := [], laidByText := true, laidKinds := [.data, .data, .data], laidTests := true, laidLooks := .later }
def SortMovesCardSaid : Prop := Claim7.holds Tryd.pinned (.plain (OpenSpec.ofChange sortMovesSpec)) sortMovesCard

/-- THE TIED CARD OF 'starlinglaw.SortParts'. -/
def sortPartsCard : Claim7 := { stood := { row := sortPartsRow, standIns := [], harness := (true, "a728826df8cc0e194278995e73e86dda995125a24c73159cad5c2349218514bb"), looks := false }, kinds := [], alts := [], laidByText := true, laidKinds := [.data, .data, .data], laidTests := true, laidLooks := .later }
def SortPartsCardSaid : Prop := Claim7.holds Tryd.pinned (.plain (OpenSpec.ofChange sortPartsSpec)) sortPartsCard

/-- THE SECOND FORM's CARD OF 'starlinglaw.ValueTells'. -/
def valueTellsUptoCard : Claim7 := { stood := { row := valueTellsUptoRow, standIns := [], harness := (true, "a728826df8cc0e194278995e73e86dda995125a24c73159cad5c2349218514bb"), looks := false }, kinds := [], alts := [], laidByText := true, laidKinds := [.data, .data, .data], laidTests := true, laidLooks := .later }
def ValueTellsUptoCardSaid : Prop := Claim7.holds Tryd.pinned (.plain (OpenSpec.upto valueTellsSpec)) valueTellsUptoCard

/-- THE SECOND FORM's CARD OF 'starlinglaw.ValueOrder'. -/
def valueOrderUptoCard : Claim7 := { stood := { row := valueOrderUptoRow, standIns := [], harness := (true, "a728826df8cc0e194278995e73e86dda995125a24c73159cad5c2349218514bb"), looks := false }, kinds := [], alts := [], laidByText := true, laidKinds := [.data, .data, .data], laidTests := true, laidLooks := .later }
def ValueOrderUptoCardSaid : Prop := Claim7.holds Tryd.pinned (.plain (OpenSpec.upto valueOrderSpec)) valueOrderUptoCard

/-- THE SECOND FORM's CARD OF 'starlinglaw.ShowTells'. -/
def showTellsUptoCard : Claim7 := { stood := { row := showTellsUptoRow, standIns := [], harness := (true, "a728826df8cc0e194278995e73e86dda995125a24c73159cad5c2349218514bb"), looks := false }, kinds := [], alts := [], laidByText := true, laidKinds := [.data, .data, .data], laidTests := true, laidLooks := .later }
def ShowTellsUptoCardSaid : Prop := Claim7.holds Tryd.pinned (.plain (OpenSpec.upto showTellsSpec)) showTellsUptoCard

/-- THE SECOND FORM's CARD OF 'starlinglaw.ShowBack'. -/
def showBackUptoCard : Claim7 := { stood := { row := showBackUptoRow, standIns := [], harness := (true, "a728826df8cc0e194278995e73e86dda995125a24c73159cad5c2349218514bb"), looks := false }, kinds := [], alts := [], laidByText := true, laidKinds := [.data, .data, .data], laidTests := true, laidLooks := .later }
def ShowBackUptoCardSaid : Prop := Claim7.holds Tryd.pinned (.plain (OpenSpec.upto showBackSpec)) showBackUptoCard

/-- THE SECOND FORM's CARD OF 'starlinglaw.ShowOnly'. -/
def showOnlyUptoCard : Claim7 := { stood := { row := showOnlyUptoRow, standIns := [], harness := (true, "a728826df8cc0e194278995e73e86dda995125a24c73159cad5c2349218514bb"), looks := false }, kinds := [], alts := [], laidByText := true, laidKinds := [.data, .data, .data], laidTests := true, laidLooks := .later }
def ShowOnlyUptoCardSaid : Prop := Claim7.holds Tryd.pinned (.plain (OpenSpec.upto showOnlySpec)) showOnlyUptoCard

/-- THE SECOND FORM's CARD OF 'starlinglaw.SortTells'. -/
def sortTellsUptoCard : Claim7 := { stood := { row := sortTellsUptoRow, standIns := [], harness := (true, "a728826df8cc0e194278995e73e86dda995125a24c73159cad5c2349218514bb"), looks := false }, kinds := [], alts := [], laidByText := true, laidKinds := [.data, .data, .data], laidTests := true, laidLooks := .later }
def SortTellsUptoCardSaid : Prop := Claim7.holds Tryd.pinned (.plain (OpenSpec.upto sortTellsSpec)) sortTellsUptoCard

/-- THE SECOND FORM's CARD OF 'starlinglaw.SortMoves'. -/
def sortMovesUptoCard : Claim7 := { stood := { row := sortMovesUptoRow, standIns := [], harness := (true, "a728826df8cc0e194278995e73e86dda995125a24c73159cad5c2349218514bb"), looks := false }, kinds := [], alts := [], laidByText := true, laidKinds := [.data, .data, .data], laidTests := true, laidLooks := .later }
def SortMovesUptoCardSaid : Prop := Claim7.holds Tryd.pinned (.plain (OpenSpec.upto sortMovesSpec)) sortMovesUptoCard

/-- THE SECOND FORM's CARD OF 'starlinglaw.SortParts'. -/
def sortPartsUptoCard : Claim7 := { stood := { row := sortPartsUptoRow, standIns := [], harness := (true, "a728826df8cc0e194278995e73e86dda995125a24c73159cad5c2349218514bb"), looks := false }, kinds := [], alts := [], laidByText := true, laidKinds := [.data, .data, .data], laidTests := true, laidLooks := .later }
def SortPartsUptoCardSaid : Prop := Claim7.holds Tryd.pinned (.plain (OpenSpec.upto sortPartsSpec)) sortPartsUptoCard
end Rows
end Go.Proofs.YtnkkhkpkipckiaaDoor
