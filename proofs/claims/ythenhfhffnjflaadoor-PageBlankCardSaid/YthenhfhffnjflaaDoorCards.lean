/-
  DERIVED. GIVEN WITH THE SEED: THE CARDS: each row of YthenhfhffnjflaaDoorRows.lean that lists a variable, with what it lists TIED to the program's text (the seventh form; the later family's looks); each row that meets fmt, with fmt's text TOLD by the authors' own Lean function (tested against real Go, not proved from fmt's source: count such statements apart). THE CARD IS WHAT COUNTS. Prove the row's statement (the work); the ties are given (YthenhfhffnjflaaDoorTie.lean); close each card by the builder's one call (the guide's Derived/Test/ToyasCard.lean, 'card_holds'). Laid BY PROGRAM, IN A SANDBOX (cutbox-door.mjs). By AI agents, Wed Nov 11 2026. No macro, syntax, notation, axiom, sorry.
-/
import Derived.Test.YthenhfhffnjflaaDoorRows
import GoSem.ClaimSeven
namespace Go.Proofs.YthenhfhffnjflaaDoor
namespace Rows

/-- THE TIED CARD OF 'starlinglaw.PageTells'. -/
def pageTellsCard : Claim7 := { stood := { row := pageTellsRow, standIns := [], harness := (true, "59045a2a302e576d36634984a5a2261e4b9b5f3ca25b2db331640d2961848aad"), looks := false }, kinds := [], alts := [], laidByText := true, laidKinds := [.data, .pinned], laidTests := true, laidLooks := .later }
def PageTellsCardSaid : Prop := Claim7.holds Tryd.pinned (.plain (OpenSpec.ofChange pageTellsSpec)) pageTellsCard

/-- THE TIED CARD OF 'starlinglaw.PageBack'. -/
def pageBackCard : Claim7 := { stood := { row := pageBackRow, standIns := [], harness := (true, "59045a2a302e576d36634984a5a2261e4b9b5f3ca25b2db331640d2961848aad"), looks := false }, kinds := [], alts := [], laidByText := true, laidKinds := [.data, .pinned], laidTests := true, laidLooks := .later }
def PageBackCardSaid : Prop := Claim7.holds Tryd.pinned (.plain (OpenSpec.ofChange pageBackSpec)) pageBackCard

/-- THE TIED CARD OF 'starlinglaw.PageOnly'. -/
def pageOnlyCard : Claim7 := { stood := { row := pageOnlyRow, standIns := [], harness := (true, "59045a2a302e576d36634984a5a2261e4b9b5f3ca25b2db331640d2961848aad"), looks := false }, kinds := [], alts := [], laidByText := true, laidKinds := [.data, .pinned], laidTests := true, laidLooks := .later }
def PageOnlyCardSaid : Prop := Claim7.holds Tryd.pinned (.plain (OpenSpec.ofChange pageOnlySpec)) pageOnlyCard

/-- THE TIED CARD OF 'starlinglaw.PageMoved'. -/
def pageMovedCard : Claim7 := { stood := { row := pageMovedRow, standIns := [], harness := (true, "59045a2a302e576d36634984a5a2261e4b9b5f3ca25b2db331640d2961848aad"), looks := false }, kinds := [], alts := [], laidByText := true, laidKinds := [.data, .pinned], laidTests := true, laidLooks := .later }
def PageMovedCardSaid : Prop := Claim7.holds Tryd.pinned (.plain (OpenSpec.ofChange pageMovedSpec)) pageMovedCard

/-- THE TIED CARD OF 'starlinglaw.PageTurned'. -/
def pageTurnedCard : Claim7 := { stood := { row := pageTurnedRow, standIns := [], harness := (true, "59045a2a302e576d36634984a5a2261e4b9b5f3ca25b2db331640d2961848aad"), looks := false }, kinds := [], alts := [], laidByText := true, laidKinds := [.data, .pinned], laidTests := true, laidLooks := .later }
def PageTurnedCardSaid : Prop := Claim7.holds Tryd.pinned (.plain (OpenSpec.ofChange pageTurnedSpec)) pageTurnedCard

/-- THE TIED CARD OF 'starlinglaw.PageBlank'. -/
def pageBlankCard : Claim7 := { stood := { row := pageBlankRow, standIns := [], harness := (true, "59045a2a302e576d36634984a5a2261e4b9b5f3ca25b2db331640d2961848aad"), looks := false }, kinds := [], alts := [], laidByText := true, laidKinds := [.data, .pinned], laidTests := true, laidLooks := .later }
def PageBlankCardSaid : Prop := Claim7.holds Tryd.pinned (.plain (OpenSpec.ofChange pageBlankSpec)) pageBlankCard

/-- THE SECOND FORM's CARD OF 'starlinglaw.PageTells'. -/
def pageTellsUptoCard : Claim7 := { stood := { row := pageTellsUptoRow, standIns := [], harness := (true, "59045a2a302e576d36634984a5a2261e4b9b5f3ca25b2db331640d2961848aad"), looks := false }, kinds := [], alts := [], laidByText := true, laidKinds := [.data, .pinned], laidTests := true, laidLooks := .later }
def PageTellsUptoCardSaid : Prop := Claim7.holds Tryd.pinned (.plain (OpenSpec.upto pageTellsSpec)) pageTellsUptoCard

/-- THE SECOND FORM's CARD OF 'starlinglaw.PageBack'. -/
def pageBackUptoCard : Claim7 := { stood := { row := pageBackUptoRow, standIns := [], harness := (true, "59045a2a302e576d36634984a5a2261e4b9b5f3ca25b2db331640d2961848aad"), looks := false }, kinds := [], alts := [], laidByText := true, laidKinds := [.data, .pinned], laidTests := true, laidLooks := .later }
def PageBackUptoCardSaid : Prop := Claim7.holds Tryd.pinned (.plain (OpenSpec.upto pageBackSpec)) pageBackUptoCard

/-- THE SECOND FORM's CARD OF 'starlinglaw.PageOnly'. -/
def pageOnlyUptoCard : Claim7 := { stood := { row := pageOnlyUptoRow, standIns := [], harness := (true, "59045a2a302e576d36634984a5a2261e4b9b5f3ca25b2db331640d2961848aad"), looks := false }, kinds := [], alts := [], laidByText := true, laidKinds := [.data, .pinned], laidTests := true, laidLooks := .later }
def PageOnlyUptoCardSaid : Prop := Claim7.holds Tryd.pinned (.plain (OpenSpec.upto pageOnlySpec)) pageOnlyUptoCard

/-- THE SECOND FORM's CARD OF 'starlinglaw.PageMoved'. -/
def pageMovedUptoCard : Claim7 := { stood := { row := pageMovedUptoRow, standIns := [], harness := (true, "59045a2a302e576d36634984a5a2261e4b9b5f3ca25b2db331640d2961848aad"), looks := false }, kinds := [], alts := [], laidByText := true, laidKinds := [.data, .pinned], laidTests := true, laidLooks := .later }
def PageMovedUptoCardSaid : Prop := Claim7.holds Tryd.pinned (.plain (OpenSpec.upto pageMovedSpec)) pageMovedUptoCard

/-- THE SECOND FORM's CARD OF 'starlinglaw.PageTurned'. -/
def pageTurnedUptoCard : Claim7 := { stood := { row := pageTurnedUptoRow, standIns := [], harness := (true, "59045a2a302e576d36634984a5a2261e4b9b5f3ca25b2db331640d2961848aad"), looks := false }, kinds := [], alts := [], laidByText := true, laidKinds := [.data, .pinned], laidTests := true, laidLooks := .later }
def PageTurnedUptoCardSaid : Prop := Claim7.holds Tryd.pinned (.plain (OpenSpec.upto pageTurnedSpec)) pageTurnedUptoCard

/-- THE SECOND FORM's CARD OF 'starlinglaw.PageBlank'. -/
def pageBlankUptoCard : Claim7 := { stood := { row := pageBlankUptoRow, standIns := [], harness := (true, "59045a2a302e576d36634984a5a2261e4b9b5f3ca25b2db331640d2961848aad"), looks := false }, kinds := [], alts := [], laidByText := true, laidKinds := [.data, .pinned], laidTests := true, laidLooks := .later }
def PageBlankUptoCardSaid : Prop := Claim7.holds Tryd.pinned (.plain (OpenSpec.upto pageBlankSpec)) pageBlankUptoCard
end Rows
end Go.Proofs.YthenhfhffnjflaaDoor
