/-
  DERIVED. GIVEN WITH THE SEED: THE CARDS: each row of YthogcgnhhcbkkaaDoorRows.lean that lists a variable, with what it lists TIED to the program's text (the seventh form; the later family's looks); each row that meets fmt, with fmt's text TOLD by the authors' own Lean function (tested against real Go, not proved from fmt's source: count such statements apart). THE CARD IS WHAT COUNTS. Prove the row's statement (the work); the ties are given (YthogcgnhhcbkkaaDoorTie.lean); close each card by the builder's one call (the guide's Derived/Test/ToyasCard.lean, 'card_holds'). Laid BY PROGRAM, IN A SANDBOX (cutbox-door.mjs). By AI agents, Wed Nov 11 2026. No macro, syntax, notation, axiom, sorry.
-/
import Derived.Test.YthogcgnhhcbkkaaDoorRows
import GoSem.ClaimSeven
namespace Go.Proofs.YthogcgnhhcbkkaaDoor
namespace Rows

/-- THE TIED CARD OF 'starlinglaw.LikeTells'. -/
def likeTellsCard : Claim7 := { stood := { row := likeTellsRow, standIns := [], harness := (true, "0e3fe6ec4d595c64b5ebbd2cef5ce773ba40a128aa15961e6e205a4a3476daa9"), looks := false }, kinds := [], alts := [], laidByText := true, laidKinds := [.data, .pinned], laidTests := true, laidLooks := .later }
def LikeTellsCardSaid : Prop := Claim7.holds Tryd.pinned (.plain (OpenSpec.ofChange likeTellsSpec)) likeTellsCard

/-- THE TIED CARD OF 'starlinglaw.LikePieces'. -/
def likePiecesCard : Claim7 := { stood := { row := likePiecesRow, standIns := [], harness := (true, "0e3fe6ec4d595c64b5ebbd2cef5ce773ba40a128aa15961e6e205a4a3476daa9"), looks := false }, kinds := [], alts := [], laidByText := true, laidKinds := [.data, .pinned], laidTests := true, laidLooks := .later }
def LikePiecesCardSaid : Prop := Claim7.holds Tryd.pinned (.plain (OpenSpec.ofChange likePiecesSpec)) likePiecesCard

/-- THE TIED CARD OF 'starlinglaw.LikeSplits'. -/
def likeSplitsCard : Claim7 := { stood := { row := likeSplitsRow, standIns := [], harness := (true, "0e3fe6ec4d595c64b5ebbd2cef5ce773ba40a128aa15961e6e205a4a3476daa9"), looks := false }, kinds := [], alts := [], laidByText := true, laidKinds := [.data, .pinned], laidTests := true, laidLooks := .later }
def LikeSplitsCardSaid : Prop := Claim7.holds Tryd.pinned (.plain (OpenSpec.ofChange likeSplitsSpec)) likeSplitsCard

/-- THE TIED CARD OF 'starlinglaw.LikeMore'. -/
def likeMoreCard : Claim7 := { stood := { row := likeMoreRow, standIns := [], harness := (true, "0e3fe6ec4d595c64b5ebbd2cef5ce773ba40a128aa15961e6e205a4a3476daa9"), looks := false }, kinds := [], alts := [], laidByText := true, laidKinds := [.data, .pinned], laidTests := true, laidLooks := .later }
def LikeMoreCardSaid : Prop := Claim7.holds Tryd.pinned (.plain (OpenSpec.ofChange likeMoreSpec)) likeMoreCard

/-- THE TIED CARD OF 'starlinglaw.LikeFirst'. -/
def likeFirstCard : Claim7 := { stood := { row := likeFirstRow, standIns := [], harness := (true, "0e3fe6ec4d595c64b5ebbd2cef5ce773ba40a128aa15961e6e205a4a3476daa9"), looks := false }, kinds := [], alts := [], laidByText := true, laidKinds := [.data, .pinned], laidTests := true, laidLooks := .later }
def LikeFirstCardSaid : Prop := Claim7.holds Tryd.pinned (.plain (OpenSpec.ofChange likeFirstSpec)) likeFirstCard

/-- THE TIED CARD OF 'starlinglaw.LikeParts'. -/
def likePartsCard : Claim7 := { stood := { row := likePartsRow, standIns := [], harness := (true, "0e3fe6ec4d595c64b5ebbd2cef5ce773ba40a128aa15961e6e205a4a3476daa9"), looks := false }, kinds := [], alts := [], laidByText := true, laidKinds := [.data, .pinned], laidTests := true, laidLooks := .later }
def LikePartsCardSaid : Prop := Claim7.holds Tryd.pinned (.plain (OpenSpec.ofChange likePartsSpec)) likePartsCard

/-- THE TIED CARD OF 'starlinglaw.LikeSelf'. -/
def likeSelfCard : Claim7 := { stood := { row := likeSelfRow, standIns := [], harness := (true, "0e3fe6ec4d595c64b5ebbd2cef5ce773ba40a128aa15961e6e205a4a3476daa9"), looks := false }, kinds := [], alts := [], laidByText := true, laidKinds := [.data, .pinned], laidTests := true, laidLooks := .later }
def LikeSelfCardSaid : Prop := Claim7.holds Tryd.pinned (.plain (OpenSpec.ofChange likeSelfSpec)) likeSelfCard

/-- THE SECOND FORM's CARD OF 'starlinglaw.LikeTells'. -/
def likeTellsUptoCard : Claim7 := { stood := { row := likeTellsUptoRow, standIns := [], harness := (true, "0e3fe6ec4d595c64b5ebbd2cef5ce773ba40a128aa15961e6e205a4a3476daa9"), looks := false }, kinds := [], alts := [], laidByText := true, laidKinds := [.data, .pinned], laidTests := true, laidLooks := .later }
def LikeTellsUptoCardSaid : Prop := Claim7.holds Tryd.pinned (.plain (OpenSpec.upto likeTellsSpec)) likeTellsUptoCard

/-- THE SECOND FORM's CARD OF 'starlinglaw.LikePieces'. -/
def likePiecesUptoCard : Claim7 := { stood := { row := likePiecesUptoRow, standIns := [], harness := (true, "0e3fe6ec4d595c64b5ebbd2cef5ce773ba40a128aa15961e6e205a4a3476daa9"), looks := false }, kinds := [], alts := [], laidByText := true, laidKinds := [.data, .pinned], laidTests := true, laidLooks := .later }
def LikePiecesUptoCardSaid : Prop := Claim7.holds Tryd.pinned (.plain (OpenSpec.upto likePiecesSpec)) likePiecesUptoCard

/-- THE SECOND FORM's CARD OF 'starlinglaw.LikeSplits'. -/
def likeSplitsUptoCard : Claim7 := { stood := { row := likeSplitsUptoRow, standIns := [], harness := (true, "0e3fe6ec4d595c64b5ebbd2cef5ce773ba40a128aa15961e6e205a4a3476daa9"), looks := false }, kinds := [], alts := [], laidByText := true, laidKinds := [.data, .pinned], laidTests := true, laidLooks := .later }
def LikeSplitsUptoCardSaid : Prop := Claim7.holds Tryd.pinned (.plain (OpenSpec.upto likeSplitsSpec)) likeSplitsUptoCard

/-- THE SECOND FORM's CARD OF 'starlinglaw.LikeMore'. -/
def likeMoreUptoCard : Claim7 := { stood := { row := likeMoreUptoRow, standIns := [], harness := (true, "0e3fe6ec4d595c64b5ebbd2cef5ce773ba40a128aa15961e6e205a4a3476daa9"), looks := false }, kinds := [], alts := [], laidByText := true, laidKinds := [.data, .pinned], laidTests := true, laidLooks := .later }
def LikeMoreUptoCardSaid : Prop := Claim7.holds Tryd.pinned (.plain (OpenSpec.upto likeMoreSpec)) likeMoreUptoCard

/-- THE SECOND FORM's CARD OF 'starlinglaw.LikeFirst'. -/
def likeFirstUptoCard : Claim7 := { stood := { row := likeFirstUptoRow, standIns := [], harness := (true, "0e3fe6ec4d595c64b5ebbd2cef5ce773ba40a128aa15961e6e205a4a3476daa9"), looks := false }, kinds := [], alts := [], laidByText := true, laidKinds := [.data, .pinned], laidTests := true, laidLooks := .later }
def LikeFirstUptoCardSaid : Prop := Claim7.holds Tryd.pinned (.plain (OpenSpec.upto likeFirstSpec)) likeFirstUptoCard

/-- THE SECOND FORM's CARD OF 'starlinglaw.LikeParts'. -/
def likePartsUptoCard : Claim7 := { stood := { row := likePartsUptoRow, standIns := [], harness := (true, "0e3fe6ec4d595c64b5ebbd2cef5ce773ba40a128aa15961e6e205a4a3476daa9"), looks := false }, kinds := [], alts := [], laidByText := true, laidKinds := [.data, .pinned], laidTests := true, laidLooks := .later }
def LikePartsUptoCardSaid : Prop := Claim7.holds Tryd.pinned (.plain (OpenSpec.upto likePartsSpec)) likePartsUptoCard

/-- THE SECOND FORM's CARD OF 'starlinglaw.LikeSelf'. -/
def likeSelfUptoCard : Claim7 := { stood := { row := likeSelfUptoRow, standIns := [], harness := (true, "0e3fe6ec4d595c64b5ebbd2cef5ce773ba40a128aa15961e6e205a4a3476daa9"), looks := false }, kinds := [], alts := [], laidByText := true, laidKinds := [.data, .pinned], laidTests := true, laidLooks := .later }
def LikeSelfUptoCardSaid : Prop := Claim7.holds Tryd.pinned (.plain (OpenSpec.upto likeSelfSpec)) likeSelfUptoCard
end Rows
end Go.Proofs.YthogcgnhhcbkkaaDoor
