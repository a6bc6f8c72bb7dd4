/-
  DERIVED. GIVEN WITH THE SEED: THE CARDS: each row of YtggdfnjomonbkaaGreatDoorRows.lean that lists a variable, with what it lists TIED to the program's text (the seventh form; the later family's looks); each row that meets fmt, with fmt's text TOLD by the authors' own Lean function (tested against real Go, not proved from fmt's source: count such statements apart). THE CARD IS WHAT COUNTS. Prove the row's statement (the work); the ties are given (YtggdfnjomonbkaaGreatDoorTie.lean); close each card by the builder's one call (the guide's Derived/Test/ToyasCard.lean, 'card_holds'). Laid BY PROGRAM, IN A SANDBOX (cutbox-door.mjs). By AI agents, Wed Nov 11 2026. No macro, syntax, notation, axiom, sorry.
-/
import Derived.Test.YtggdfnjomonbkaaGreatDoorRows
import GoSem.ClaimSeven
namespace Go.Proofs.YtggdfnjomonbkaaGreatDoor
namespace Rows

/-- THE TIED CARD OF 'starlinglaw.EvalTells'. -/
def evalTellsCard : Claim7 := { stood := { row := evalTellsRow, standIns := [], harness := (true, "1e1f3e8e725775d1543a98f5a81447051d4bf0a12ad06d1fdc6dc58c7f4c7f15"), looks := false }, kinds := [], alts := [], laidByText := true, laidKinds := [.data, .pinned], laidTests := true, laidLooks := .later }
def EvalTellsCardSaid : Prop := Claim7.holds Tryz.pinned (.plain (OpenSpec.ofChange evalTellsSpec)) evalTellsCard

/-- THE TIED CARD OF 'starlinglaw.TruthTells'. -/
def truthTellsCard : Claim7 := { stood := { row := truthTellsRow, standIns := [], harness := (true, "1e1f3e8e725775d1543a98f5a81447051d4bf0a12ad06d1fdc6dc58c7f4c7f15"), looks := false }, kinds := [], alts := [], laidByText := true, laidKinds := [.data, .pinned], laidTests := true, laidLooks := .later }
def TruthTellsCardSaid : Prop := Claim7.holds Tryz.pinned (.plain (OpenSpec.ofChange truthTellsSpec)) truthTellsCard

/-- THE TIED CARD OF 'starlinglaw.EvalPlaced'. -/
def evalPlacedCard : Claim7 := { stood := { row := evalPlacedRow, standIns := [], harness := (true, "1e1f3e8e725775d1543a98f5a81447051d4bf0a12ad06d1fdc6dc58c7f4c7f15"), looks := false }, kinds := [], alts := [], laidByText := true, laidKinds := [.data, .pinned], laidTests := true, laidLooks := .later }
def EvalPlacedCardSaid : Prop := Claim7.holds Tryz.pinned (.plain (OpenSpec.ofChange evalPlacedSpec)) evalPlacedCard

/-- THE TIED CARD OF 'starlinglaw.FoldTells'. -/
def foldTellsCard : Claim7 := { stood := { row := foldTellsRow, standIns := [], harness := (true, "1e1f3e8e725775d1543a98f5a81447051d4bf0a12ad06d1fdc6dc58c7f4c7f15"), looks := false }, kinds := [], alts := [], laidByText := true, laidKinds := [.data, .pinned], laidTests := true, laidLooks := .later }
def FoldTellsCardSaid : Prop := Claim7.holds Tryz.pinned (.plain (OpenSpec.ofChange foldTellsSpec)) foldTellsCard

/-- THE TIED CARD OF 'starlinglaw.PushTells'. -/
def pushTellsCard : Claim7 := { stood := { row := pushTellsRow, standIns := [], harness := (true, "1e1f3e8e725775d1543a98f5a81447051d4bf0a12ad06d1fdc6dc58c7f4c7f15"), looks := false }, kinds := [], alts := [], laidByText := true, laidKinds := [.data, .pinned], laidTests := true, laidLooks := .later }
def PushTellsCardSaid : Prop := Claim7.holds Tryz.pinned (.plain (OpenSpec.ofChange pushTellsSpec)) pushTellsCard

/-- THE SECOND FORM's CARD OF 'starlinglaw.EvalTells'. -/
def evalTellsUptoCard : Claim7 := { stood := { row := evalTellsUptoRow, standIns := [], harness := (true, "1e1f3e8e725775d1543a98f5a81447051d4bf0a12ad06d1fdc6dc58c7f4c7f15"), looks := false }, kinds := [], alts := [], laidByText := true, laidKinds := [.data, .pinned], laidTests := true, laidLooks := .later }
def EvalTellsUptoCardSaid : Prop := Claim7.holds Tryz.pinned (.plain (OpenSpec.upto evalTellsSpec)) evalTellsUptoCard

/-- THE SECOND FORM's CARD OF 'starlinglaw.TruthTells'. -/
def truthTellsUptoCard : Claim7 := { stood := { row := truthTellsUptoRow, standIns := [], harness := (true, "1e1f3e8e725775d1543a98f5a81447051d4bf0a12ad06d1fdc6dc58c7f4c7f15"), looks := false }, kinds := [], alts := [], laidByText := true, laidKinds := [.data, .pinned], laidTests := true, laidLooks := .later }
def TruthTellsUptoCardSaid : Prop := Claim7.holds Tryz.pinned (.plain (OpenSpec.upto truthTellsSpec)) truthTellsUptoCard

/-- THE SECOND FORM's CARD OF 'starlinglaw.EvalPlaced'. -/
def evalPlacedUptoCard : Claim7 := { stood := { row := evalPlacedUptoRow, standIns := [], harness := (true, "1e1f3e8e725775d1543a98f5a81447051d4bf0a12ad06d1fdc6dc58c7f4c7f15"), looks := false }, kinds := [], alts := [], laidByText := true, laidKinds := [.data, .pinned], laidTests := true, laidLooks := .later }
def EvalPlacedUptoCardSaid : Prop := Claim7.holds Tryz.pinned (.plain (OpenSpec.upto evalPlacedSpec)) evalPlacedUptoCard

/-- THE SECOND FORM's CARD OF 'starlinglaw.FoldTells'. -/
def foldTellsUptoCard : Claim7 := { stood := { row := foldTellsUptoRow, standIns := [], harness := (true, "1e1f3e8e725775d1543a98f5a81447051d4bf0a12ad06d1fdc6dc58c7f4c7f15"), looks := false }, kinds := [], alts := [], laidByText := true, laidKinds := [.data, .pinned], laidTests := true, laidLooks := .later }
def FoldTellsUptoCardSaid : Prop := Claim7.holds Tryz.pinned (.plain (OpenSpec.upto foldTellsSpec)) foldTellsUptoCard

/-- THE SECOND FORM's CARD OF 'starlinglaw.PushTells'. -/
def pushTellsUptoCard : Claim7 := { stood := { row := pushTellsUptoRow, standIns := [], harness := (true, "1e1f3e8e725775d1543a98f5a81447051d4bf0a12ad06d1fdc6dc58c7f4c7f15"), looks := false }, kinds := [], alts := [], laidByText := true, laidKinds := [.data, .pinned], laidTests := true, laidLooks := .later }
def PushTellsUptoCardSaid : Prop := Claim7.holds Tryz.pinned (.plain (OpenSpec.upto pushTellsSpec)) pushTellsUptoCard
end Rows
end Go.Proofs.YtggdfnjomonbkaaGreatDoor
