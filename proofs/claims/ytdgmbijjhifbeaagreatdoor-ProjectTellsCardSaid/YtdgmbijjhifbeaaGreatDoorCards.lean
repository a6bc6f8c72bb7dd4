/-
  DERIVED. GIVEN WITH THE SEED: THE CARDS: each row of YtdgmbijjhifbeaaGreatDoorRows.lean that lists a variable, with what it lists TIED to the program's text (the seventh form; the later family's looks); each row that meets fmt, with fmt's text TOLD by the authors' own Lean function (tested against real Go, not proved from fmt's source: count such statements apart). THE CARD IS WHAT COUNTS. Prove the row's statement (the work); the ties are given (YtdgmbijjhifbeaaGreatDoorTie.lean); close each card by the builder's one call (the guide's Derived/Test/ToyasCard.lean, 'card_holds'). Laid BY PROGRAM, IN A SANDBOX (cutbox-door.mjs). By AI agents, Wed Nov 11 2026. No macro, syntax, notation, axiom, sorry.
-/
import Derived.Test.YtdgmbijjhifbeaaGreatDoorRows
import GoSem.ClaimSeven
namespace Go.Proofs.YtdgmbijjhifbeaaGreatDoor
namespace Rows

/-- THE TIED CARD OF 'starlinglaw.FilterTells'. -/
def filterTellsCard : Claim7 := { stood := { row := filterTellsRow, standIns := [], harness := (true, "5fb53f9bc515772bfd22fd33a7c4467a26a2a735c4b9a0c949d8f1aad12259b5"), looks := false }, kinds := [], alts := [], laidByText := true, laidKinds := [.data, .pinned], laidTests := true, laidLooks := .later }
def FilterTellsCardSaid : Prop := Claim7.holds Tryz.pinned (.plain (OpenSpec.ofChange filterTellsSpec)) filterTellsCard

/-- THE TIED CARD OF 'starlinglaw.FilterBoth'. -/
def filterBothCard : Claim7 := { stood := { row := filterBothRow, standIns := [], harness := (true, "5fb53f9bc515772bfd22fd33a7c4467a26a2a735c4b9a0c949d8f1aad12259b5"), looks := false }, kinds := [], alts := [], laidByText := true, laidKinds := [.data, .pinned], laidTests := true, laidLooks := .later }
def FilterBothCardSaid : Prop := Claim7.holds Tryz.pinned (.plain (OpenSpec.ofChange filterBothSpec)) filterBothCard

/-- THE TIED CARD OF 'starlinglaw.FilterParts'. -/
def filterPartsCard : Claim7 := { stood := { row := filterPartsRow, standIns := [], harness := (true, "5fb53f9bc515772bfd22fd33a7c4467a26a2a735c4b9a0c949d8f1aad12259b5"), looks := false }, kinds := [], alts := [], laidByText := true, laidKinds := [.data, .pinned], laidTests := true, laidLooks := .later }
def FilterPartsCardSaid : Prop := Claim7.holds Tryz.pinned (.plain (OpenSpec.ofChange filterPartsSpec)) filterPartsCard

/-- THE TIED CARD OF 'starlinglaw.FilterThree'. -/
def filterThreeCard : Claim7 := { stood := { row := filterThreeRow, standIns := [], harness := (true, "5fb53f9bc515772bfd22fd33a7c4467a26a2a735c4b9a0c949d8f1aad12259b5"), looks := false }, kinds := [], alts := [], laidByText := true, laidKinds := [.data, .pinned], laidTests := true, laidLooks := .later }
def FilterThreeCardSaid : Prop := Claim7.holds Tryz.pinned (.plain (OpenSpec.ofChange filterThreeSpec)) filterThreeCard

/-- THE TIED CARD OF 'starlinglaw.ProjectTells'. -/
def projectTellsCard : Claim7 := { stood := { row := projectTellsRow, standIns := [], harness := (true, "5fb53f9bc515772bfd22fd33a7c4467a26a2a735c4b9a0c949d8f1aad12259b5"), looks := false }, kinds := [], alts := [], laidByText := true, laidKinds := [.data, .pinned], laidTests := true, laidLooks := .later }
def ProjectTellsCardSaid : Prop := Claim7.holds Tryz.pinned (.plain (OpenSpec.ofChange projectTellsSpec)) projectTellsCard

/-- THE TIED CARD OF 'starlinglaw.ProjectApart'. -/
def projectApartCard : Claim7 := { stood := { row := projectApartRow, standIns := [], harness := (true, "5fb53f9bc515772bfd22fd33a7c4467a26a2a735c4b9a0c949d8f1aad12259b5"), looks := false }, kinds := [], alts := [], laidByText := true, laidKinds := [.data, .pinned], laidTests := true, laidLooks := .later }
def ProjectApartCardSaid : Prop := Claim7.holds Tryz.pinned (.plain (OpenSpec.ofChange projectApartSpec)) projectApartCard

/-- THE TIED CARD OF 'starlinglaw.DistinctTells'. -/
def distinctTellsCard : Claim7 := { stood := { row := distinctTellsRow, standIns := [], harness := (true, "5fb53f9bc515772bfd22fd33a7c4467a26a2a735c4b9a0c949d8f1aad12259b5"), looks := false }, kinds := [], alts := [], laidByText := true, laidKinds := [.data, .pinned], laidTests := true, laidLooks := .later }
def DistinctTellsCardSaid : Prop := Claim7.holds Tryz.pinned (.plain (OpenSpec.ofChange distinctTellsSpec)) distinctTellsCard

/-- THE TIED CARD OF 'starlinglaw.DistinctOnce'. -/
def distinctOnceCard : Claim7 := { stood := { row := distinctOnceRow, standIns := [], harness := (true, "5fb53f9bc515772bfd22fd33a7c4467a26a2a735c4b9a0c949d8f1aad12259b5"), looks := false }, kinds := [], alts := [], laidByText := true, laidKinds := [.data, .pinned], laidTests := true, laidLooks := .later }
def DistinctOnceCardSaid : Prop := Claim7.holds Tryz.pinned (.plain (OpenSpec.ofChange distinctOnceSpec)) distinctOnceCard

/-- THE TIED CARD OF 'starlinglaw.LimitParts'. -/
def limitPartsCard : Claim7 := { stood := { row := limitPartsRow, standIns := [], harness := (true, "5fb53f9bc515772bfd22fd33a7c4467a26a2a735c4b9a0c949d8f1aad12259b5"), looks := false }, kinds := [], alts := [], laidByText := true, laidKinds := [.data, .pinned], laidTests := true, laidLooks := .later }
def LimitPartsCardSaid : Prop := Claim7.holds Tryz.pinned (.plain (OpenSpec.ofChange limitPartsSpec)) limitPartsCard

/-- THE TIED CARD OF 'starlinglaw.JoinTells'. -/
def joinTellsCard : Claim7 := { stood := { row := joinTellsRow, standIns := [], harness := (true, "5fb53f9bc515772bfd22fd33a7c4467a26a2a735c4b9a0c949d8f1aad12259b5"), looks := false }, kinds := [], alts := [], laidByText := true, laidKinds := [.data, .pinned], laidTests := true, laidLooks := .later }
def JoinTellsCardSaid : Prop := Claim7.holds Tryz.pinned (.plain (OpenSpec.ofChange joinTellsSpec)) joinTellsCard

/-- THE TIED CARD OF 'starlinglaw.JoinTurned'. -/
def joinTurnedCard : Claim7 := { stood := { row := joinTurnedRow, standIns := [], harness := (true, "5fb53f9bc515772bfd22fd33a7c4467a26a2a735c4b9a0c949d8f1aad12259b5"), looks := false }, kinds := [], alts := [], laidByText := true, laidKinds := [.data, .pinned], laidTests := true, laidLooks := .later }
def JoinTurnedCardSaid : Prop := Claim7.holds Tryz.pinned (.plain (OpenSpec.ofChange joinTurnedSpec)) joinTurnedCard

/-- THE TIED CARD OF 'starlinglaw.JoinThree'. -/
def joinThreeCard : Claim7 := { stood := { row := joinThreeRow, standIns := [], harness := (true, "5fb53f9bc515772bfd22fd33a7c4467a26a2a735c4b9a0c949d8f1aad12259b5"), looks := false }, kinds := [], alts := [], laidByText := true, laidKinds := [.data, .pinned], laidTests := true, laidLooks := .later }
def JoinThreeCardSaid : Prop := Claim7.holds Tryz.pinned (.plain (OpenSpec.ofChange joinThreeSpec)) joinThreeCard

/-- THE TIED CARD OF 'starlinglaw.JoinParts'. -/
def joinPartsCard : Claim7 := { stood := { row := joinPartsRow, standIns := [], harness := (true, "5fb53f9bc515772bfd22fd33a7c4467a26a2a735c4b9a0c949d8f1aad12259b5"), looks := false }, kinds := [], alts := [], laidByText := true, laidKinds := [.data, .pinned], laidTests := true, laidLooks := .later }
def JoinPartsCardSaid : Prop := Claim7.holds Tryz.pinned (.plain (OpenSpec.ofChange joinPartsSpec)) joinPartsCard

/-- THE SECOND FORM's CARD OF 'starlinglaw.FilterTells'. -/
def filterTellsUptoCard : Claim7 := { stood := { row := filterTellsUptoRow, standIns := [], harness := (true, "5fb53f9bc515772bfd22fd33a7c4467a26a2a735c4b9a0c949d8f1aad12259b5"), looks := false }, kinds := [], alts := [], laidByText := true, laidKinds := [.data, .pinned], laidTests := true, laidLooks := .later }
def FilterTellsUptoCardSaid : Prop := Claim7.holds Tryz.pinned (.plain (OpenSpec.upto filterTellsSpec)) filterTellsUptoCard

/-- THE SECOND FORM's CARD OF 'starlinglaw.FilterBoth'. -/
def filterBothUptoCard : Claim7 := { stood := { row := filterBothUptoRow, standIns := [], harness := (true, "5fb53f9bc515772bfd22fd33a7c4467a26a2a735c4b9a0c949d8f1aad12259b5"), looks := false }, kinds := [], alts := [], laidByText := true, laidKinds := [.data, .pinned], laidTests := true, laidLooks := .later }
def FilterBothUptoCardSaid : Prop := Claim7.holds Tryz.pinned (.plain (OpenSpec.upto filterBothSpec)) filterBothUptoCard

/-- THE SECOND FORM's CARD OF 'starlinglaw.FilterParts'. -/
def filterPartsUptoCard : Claim7 := { stood := { row := filterPartsUptoRow, standIns := [], harness := (true, "5fb53f9bc515772bfd22fd33a7c4467a26a2a735c4b9a0c949d8f1aad12259b5"), looks := false }, kinds := [], alts := [], laidByText := true, laidKinds := [.data, .pinned], laidTests := true, laidLooks := .later }
def FilterPartsUptoCardSaid : Prop := Claim7.holds Tryz.pinned (.plain (OpenSpec.upto filterPartsSpec)) filterPartsUptoCard

/-- THE SECOND FORM's CARD OF 'starlinglaw.FilterThree'. -/
def filterThreeUptoCard : Claim7 := { stood := { row := filterThreeUptoRow, standIns := [], harness := (true, "5fb53f9bc515772bfd22fd33a7c4467a26a2a735c4b9a0c949d8f1aad12259b5"), looks := false }, kinds := [], alts := [], laidByText := true, laidKinds := [.data, .pinned], laidTests := true, laidLooks := .later }
def FilterThreeUptoCardSaid : Prop := Claim7.holds Tryz.pinned (.plain (OpenSpec.upto filterThreeSpec)) filterThreeUptoCard

/-- THE SECOND FORM's CARD OF 'starlinglaw.ProjectTells'. -/
def projectTellsUptoCard : Claim7 := { stood := { row := projectTellsUptoRow, standIns := [], harness := (true, "5fb53f9bc515772bfd22fd33a7c4467a26a2a735c4b9a0c949d8f1aad12259b5"), looks := false }, kinds := [], alts := [], laidByText := true, laidKinds := [.data, .pinned], laidTests := true, laidLooks := .later }
def ProjectTellsUptoCardSaid : Prop := Claim7.holds Tryz.pinned (.plain (OpenSpec.upto projectTellsSpec)) projectTellsUptoCard

/-- THE SECOND FORM's CARD OF 'starlinglaw.ProjectApart'. -/
def projectApartUptoCard : Claim7 := { stood := { row := projectApartUptoRow, standIns := [], harness := (true, "5fb53f9bc515772bfd22fd33a7c4467a26a2a735c4b9a0c949d8f1aad12259b5"), looks := false }, kinds := [], alts := [], laidByText := true, laidKinds := [.data, .pinned], laidTests := true, laidLooks := .later }
def ProjectApartUptoCardSaid : Prop := Claim7.holds Tryz.pinned (.plain (OpenSpec.upto projectApartSpec)) projectApartUptoCard

/-- THE SECOND FORM's CARD OF 'starlinglaw.DistinctTells'. -/
def distinctTellsUptoCard : Claim7 := { stood := { row := distinctTellsUptoRow, standIns := [], harness := (true, "5fb53f9bc515772bfd22fd33a7c4467a26a2a735c4b9a0c949d8f1aad12259b5"), looks := false }, kinds := [], alts := [], laidByText := true, laidKinds := [.data, .pinned], laidTests := true, laidLooks := .later }
def DistinctTellsUptoCardSaid : Prop := Claim7.holds Tryz.pinned (.plain (OpenSpec.upto distinctTellsSpec)) distinctTellsUptoCard

/-- THE SECOND FORM's CARD OF 'starlinglaw.DistinctOnce'. -/
def distinctOnceUptoCard : Claim7 := { stood := { row := distinctOnceUptoRow, standIns := [], harness := (true, "5fb53f9bc515772bfd22fd33a7c4467a26a2a735c4b9a0c949d8f1aad12259b5"), looks := false }, kinds := [], alts := [], laidByText := true, laidKinds := [.data, .pinned], laidTests := true, laidLooks := .later }
def DistinctOnceUptoCardSaid : Prop := Claim7.holds Tryz.pinned (.plain (OpenSpec.upto distinctOnceSpec)) distinctOnceUptoCard

/-- THE SECOND FORM's CARD OF 'starlinglaw.LimitParts'. -/
def limitPartsUptoCard : Claim7 := { stood := { row := limitPartsUptoRow, standIns := [], harness := (true, "5fb53f9bc515772bfd22fd33a7c4467a26a2a735c4b9a0c949d8f1aad12259b5"), looks := false }, kinds := [], alts := [], laidByText := true, laidKinds := [.data, .pinned], laidTests := true, laidLooks := .later }
def LimitPartsUptoCardSaid : Prop := Claim7.holds Tryz.pinned (.plain (OpenSpec.upto limitPartsSpec)) limitPartsUptoCard

/-- THE SECOND FORM's CARD OF 'starlinglaw.JoinTells'. -/
def joinTellsUptoCard : Claim7 := { stood := { row := joinTellsUptoRow, standIns := [], harness := (true, "5fb53f9bc515772bfd22fd33a7c4467a26a2a735c4b9a0c949d8f1aad12259b5"), looks := false }, kinds := [], alts := [], laidByText := true, laidKinds := [.data, .pinned], laidTests := true, laidLooks := .later }
def JoinTellsUptoCardSaid : Prop := Claim7.holds Tryz.pinned (.plain (OpenSpec.upto joinTellsSpec)) joinTellsUptoCard

/-- THE SECOND FORM's CARD OF 'starlinglaw.JoinTurned'. -/
def joinTurnedUptoCard : Claim7 := { stood := { row := joinTurnedUptoRow, standIns := [], harness := (true, "5fb53f9bc515772bfd22fd33a7c4467a26a2a735c4b9a0c949d8f1aad12259b5"), looks := false }, kinds := [], alts := [], laidByText := true, laidKinds := [.data, .pinned], laidTests := true, laidLooks := .later }
def JoinTurnedUptoCardSaid : Prop := Claim7.holds Tryz.pinned (.plain (OpenSpec.upto joinTurnedSpec)) joinTurnedUptoCard

/-- THE SECOND FORM's CARD OF 'starlinglaw.JoinThree'. -/
def joinThreeUptoCard : Claim7 := { stood := { row := joinThreeUptoRow, standIns := [], harness := (true, "5fb53f9bc515772bfd22fd33a7c4467a26a2a735c4b9a0c949d8f1aad12259b5"), looks := false }, kinds := [], alts := [], laidByText := true, laidKinds := [.data, .pinned], laidTests := true, laidLooks := .later }
def JoinThreeUptoCardSaid : Prop := Claim7.holds Tryz.pinned (.plain (OpenSpec.upto joinThreeSpec)) joinThreeUptoCard

/-- THE SECOND FORM's CARD OF 'starlinglaw.JoinParts'. -/
def joinPartsUptoCard : Claim7 := { stood := { row := joinPartsUptoRow, standIns := [], harness := (true, "5fb53f9bc515772bfd22fd33a7c4467a26a2a735c4b9a0c949d8f1aad12259b5"), looks := false }, kinds := [], alts := [], laidByText := true, laidKinds := [.data, .pinned], laidTests := true, laidLooks := .later }
def JoinPartsUptoCardSaid : Prop := Claim7.holds Tryz.pinned (.plain (OpenSpec.upto joinPartsSpec)) joinPartsUptoCard
end Rows
end Go.Proofs.YtdgmbijjhifbeaaGreatDoor
