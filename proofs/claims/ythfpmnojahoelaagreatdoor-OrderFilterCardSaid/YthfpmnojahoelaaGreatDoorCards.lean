/-
  DERIVED. GIVEN WITH THE SEED: THE CARDS: each row of YthfpmnojahoelaaGreatDoorRows.lean that lists a variable, with what it lists TIED to the program's text (the seventh form; the later family's looks); each row that meets fmt, with fmt's text TOLD by the authors' own Lean function (tested against real Go, not proved from fmt's source: count such statements apart). THE CARD IS WHAT COUNTS. Prove the row's statement (the work); the ties are given (YthfpmnojahoelaaGreatDoorTie.lean); close each card by the builder's one call (the guide's Derived/Test/ToyasCard.lean, 'card_holds'). Laid BY PROGRAM, IN A SANDBOX (cutbox-door.mjs). By AI agents, Wed Nov 11 2026. No macro, syntax, notation, axiom, sorry.
-/
import Derived.Test.YthfpmnojahoelaaGreatDoorRows
import GoSem.ClaimSeven
namespace Go.Proofs.YthfpmnojahoelaaGreatDoor
namespace Rows

/-- THE TIED CARD OF 'starlinglaw.OrderTells'. -/
def orderTellsCard : Claim7 := { stood := { row := orderTellsRow, standIns := [], harness := (true, "a8ff8a5d1c3268d9da694084f98bfd41e5cfcc00e76a420f319659eccf3aa27c"), looks := false }, kinds := [], alts := [], laidByText := true, laidKinds := [.data, .pinned], laidTests := true, laidLooks := .later }
def OrderTellsCardSaid : Prop := Claim7.holds Tryz.pinned (.plain (OpenSpec.ofChange orderTellsSpec)) orderTellsCard

/-- THE TIED CARD OF 'starlinglaw.OrderMoves'. -/
def orderMovesCard : Claim7 := { stood := { row := orderMovesRow, standIns := [], harness := (true, "a8ff8a5d1c3268d9da694084f98bfd41e5cfcc00e76a420f319659eccf3aa27c"), looks := false }, kinds := [], alts := [], laidByText := true, laidKinds := [.data, .pinned], laidTests := true, laidLooks := .later }
def OrderMovesCardSaid : Prop := Claim7.holds Tryz.pinned (.plain (OpenSpec.ofChange orderMovesSpec)) orderMovesCard

/-- THE TIED CARD OF 'starlinglaw.OrderKeys'. -/
def orderKeysCard : Claim7 := { stood := { row := orderKeysRow, standIns := [], harness := (true, "a8ff8a5d1c3268d9da694084f98bfd41e5cfcc00e76a420f319659eccf3aa27c"), looks := false }, kinds := [], alts := [], laidByText := true, laidKinds := [.data, .pinned], laidTests := true, laidLooks := .later }
def OrderKeysCardSaid : Prop := Claim7.holds Tryz.pinned (.plain (OpenSpec.ofChange orderKeysSpec)) orderKeysCard

/-- THE TIED CARD OF 'starlinglaw.OrderFilter'. -/
def orderFilterCard : Claim7 := { stood := { row := orderFilterRow, standIns := [], harness := (true, "a8ff8a5d1c3268d9da694084f98bfd41e5cfcc00e76a420f319659eccf3aa27c"), looks := false }, kinds := [], alts := [], laidByText := true, laidKinds := [.data, .pinned], laidTests := true, laidLooks := .later }
def OrderFilterCardSaid : Prop := Claim7.holds Tryz.pinned (.plain (OpenSpec.ofChange orderFilterSpec)) orderFilterCard

/-- THE SECOND FORM's CARD OF 'starlinglaw.OrderTells'. -/
def orderTellsUptoCard : Claim7 := { stood := { row := orderTellsUptoRow, standIns := [], harness := (true, "a8ff8a5d1c3268d9da694084f98bfd41e5cfcc00e76a420f319659eccf3aa27c"), looks := false }, kinds := [], alts := [], laidByText := true, laidKinds := [.data, .pinned], laidTests := true, laidLooks := .later }
def OrderTellsUptoCardSaid : Prop := Claim7.holds Tryz.pinned (.plain (OpenSpec.upto orderTellsSpec)) orderTellsUptoCard

/-- THE SECOND FORM's CARD OF 'starlinglaw.OrderMoves'. -/
def orderMovesUptoCard : Claim7 := { stood := { row := orderMovesUptoRow, standIns := [], harness := (true, "a8ff8a5d1c3268d9da694084f98bfd41e5cfcc00e76a420f319659eccf3aa27c"), looks := false }, kinds := [], alts := [], laidByText := true, laidKinds := [.data, .pinned], laidTests := true, laidLooks := .later }
def OrderMovesUptoCardSaid : Prop := Claim7.holds Tryz.pinned (.plain (OpenSpec.upto orderMovesSpec)) orderMovesUptoCard

/-- THE SECOND FORM's CARD OF 'starlinglaw.OrderKeys'. -/
def orderKeysUptoCard : Claim7 := { stood := { row := orderKeysUptoRow, standIns := [], harness := (true, "a8ff8a5d1c3268d9da694084f98bfd41e5cfcc00e76a420f319659eccf3aa27c"), looks := false }, kinds := [], alts := [], laidByText := true, laidKinds := [.data, .pinned], laidTests := true, laidLooks := .later }
def OrderKeysUptoCardSaid : Prop := Claim7.holds Tryz.pinned (.plain (OpenSpec.upto orderKeysSpec)) orderKeysUptoCard

/-- THE SECOND FORM's CARD OF 'starlinglaw.OrderFilter'. -/
def orderFilterUptoCard : Claim7 := { stood := { row := orderFilterUptoRow, standIns := [], harness := (true, "a8ff8a5d1c3268d9da694084f98bfd41e5cfcc00e76a420f319659eccf3aa27c"), looks := false }, kinds := [], alts := [], laidByText := true, laidKinds := [.data, .pinned], laidTests := true, laidLooks := .later }
def OrderFilterUptoCardSaid : Prop := Claim7.holds Tryz.pinned (.plain (OpenSpec.upto orderFilterSpec)) orderFilterUptoCard
end Rows
end Go.Proofs.YthfpmnojahoelaaGreatDoor
