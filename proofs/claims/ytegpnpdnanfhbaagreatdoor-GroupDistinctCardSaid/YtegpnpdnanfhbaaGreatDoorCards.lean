/-
  DERIVED. GIVEN WITH THE SEED: THE CARDS: each row of YtegpnpdnanfhbaaGreatDoorRows.lean that lists a variable, with what it lists TIED to the program's text (the seventh form; the later family's looks); each row that meets fmt, with fmt's text TOLD by the authors' own Lean function (tested against real Go, not proved from fmt's source: count such statements apart). THE CARD IS WHAT COUNTS. Prove the row's statement (the work); the ties are given (YtegpnpdnanfhbaaGreatDoorTie.lean); close each card by the builder's one call (the guide's Derived/Test/ToyasCard.lean, 'card_holds'). Laid BY PROGRAM, IN A SANDBOX (cutbox-door.mjs). By AI agents, Wed Nov 11 2026. No macro, syntax, notation, axiom, sorry.
-/
import Derived.Test.YtegpnpdnanfhbaaGreatDoorRows
import GoSem.ClaimSeven
namespace Go.Proofs.YtegpnpdnanfhbaaGreatDoor
namespace Rows

/-- THE TIED CARD OF 'starlinglaw.GroupTells'. -/
def groupTellsCard : Claim7 := { stood := { row := groupTellsRow, standIns := [], harness := (true, "f8bc66ec9a39623d5cdc54e4c8b45da21937bd93e89e4a2f90b648602f8e694c"), looks := false }, kinds := [], alts := [], laidByText := true, laidKinds := [.data, .pinned], laidTests := true, laidLooks := .later }
def GroupTellsCardSaid : Prop := Claim7.holds Tryz.pinned (.plain (OpenSpec.ofChange groupTellsSpec)) groupTellsCard

/-- THE TIED CARD OF 'starlinglaw.GroupCounts'. -/
def groupCountsCard : Claim7 := { stood := { row := groupCountsRow, standIns := [], harness := (true, "f8bc66ec9a39623d5cdc54e4c8b45da21937bd93e89e4a2f90b648602f8e694c"), looks := false }, kinds := [], alts := [], laidByText := true, laidKinds := [.data, .pinned], laidTests := true, laidLooks := .later }
def GroupCountsCardSaid : Prop := Claim7.holds Tryz.pinned (.plain (OpenSpec.ofChange groupCountsSpec)) groupCountsCard

/-- THE TIED CARD OF 'starlinglaw.GroupWhole'. -/
def groupWholeCard : Claim7 := { stood := { row := groupWholeRow, standIns := [], harness := (true, "f8bc66ec9a39623d5cdc54e4c8b45da21937bd93e89e4a2f90b648602f8e694c"), looks := false }, kinds := [], alts := [], laidByText := true, laidKinds := [.data, .pinned], laidTests := true, laidLooks := .later }
def GroupWholeCardSaid : Prop := Claim7.holds Tryz.pinned (.plain (OpenSpec.ofChange groupWholeSpec)) groupWholeCard

/-- THE TIED CARD OF 'starlinglaw.GroupDistinct'. -/
def groupDistinctCard : Claim7 := { stood := { row := groupDistinctRow, standIns := [], harness := (true, "f8bc66ec9a39623d5cdc54e4c8b45da21937bd93e89e4a2f90b648602f8e694c"), looks := false }, kinds := [], alts := [], laidByText := true, laidKinds := [.data, .pinned], laidTests := true, laidLooks := .later }
def GroupDistinctCardSaid : Prop := Claim7.holds Tryz.pinned (.plain (OpenSpec.ofChange groupDistinctSpec)) groupDistinctCard

/-- THE SECOND FORM's CARD OF 'starlinglaw.GroupTells'. -/
def groupTellsUptoCard : Claim7 := { stood := { row := groupTellsUptoRow, standIns := [], harness := (true, "f8bc66ec9a39623d5cdc54e4c8b45da21937bd93e89e4a2f90b648602f8e694c"), looks := false }, kinds := [], alts := [], laidByText := true, laidKinds := [.data, .pinned], laidTests := true, laidLooks := .later }
def GroupTellsUptoCardSaid : Prop := Claim7.holds Tryz.pinned (.plain (OpenSpec.upto groupTellsSpec)) groupTellsUptoCard

/-- THE SECOND FORM's CARD OF 'starlinglaw.GroupCounts'. -/
def groupCountsUptoCard : Claim7 := { stood := { row := groupCountsUptoRow, standIns := [], harness := (true, "f8bc66ec9a39623d5cdc54e4c8b45da21937bd93e89e4a2f90b648602f8e694c"), looks := false }, kinds := [], alts := [], laidByText := true, laidKinds := [.data, .pinned], laidTests := true, laidLooks := .later }
def GroupCountsUptoCardSaid : Prop := Claim7.holds Tryz.pinned (.plain (OpenSpec.upto groupCountsSpec)) groupCountsUptoCard

/-- THE SECOND FORM's CARD OF 'starlinglaw.GroupWhole'. -/
def groupWholeUptoCard : Claim7 := { stood := { row := groupWholeUptoRow, standIns := [], harness := (true, "f8bc66ec9a39623d5cdc54e4c8b45da21937bd93e89e4a2f90b648602f8e694c"), looks := false }, kinds := [], alts := [], laidByText := true, laidKinds := [.data, .pinned], laidTests := true, laidLooks := .later }
def GroupWholeUptoCardSaid : Prop := Claim7.holds Tryz.pinned (.plain (OpenSpec.upto groupWholeSpec)) groupWholeUptoCard

/-- THE SECOND FORM's CARD OF 'starlinglaw.GroupDistinct'. -/
def groupDistinctUptoCard : Claim7 := { stood := { row := groupDistinctUptoRow, standIns := [], harness := (true, "f8bc66ec9a39623d5cdc54e4c8b45da21937bd93e89e4a2f90b648602f8e694c"), looks := false }, kinds := [], alts := [], laidByText := true, laidKinds := [.data, .pinned], laidTests := true, laidLooks := .later }
def GroupDistinctUptoCardSaid : Prop := Claim7.holds Tryz.pinned (.plain (OpenSpec.upto groupDistinctSpec)) groupDistinctUptoCard
end Rows
end Go.Proofs.YtegpnpdnanfhbaaGreatDoor
