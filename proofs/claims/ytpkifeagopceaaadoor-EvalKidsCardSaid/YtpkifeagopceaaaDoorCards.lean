/-
  DERIVED. GIVEN WITH THE SEED: THE CARDS: each row of YtpkifeagopceaaaDoorRows.lean that lists a variable, with what it lists TIED to the program's text (the seventh form; the later family's looks); each row that meets fmt, with fmt's text TOLD by the authors' own Lean function (tested against real Go, not proved from fmt's source: count such statements apart). THE CARD IS WHAT COUNTS. Prove the row's statement (the work); the ties are given (YtpkifeagopceaaaDoorTie.lean); close each card by the builder's one call (the guide's Derived/Test/ToyasCard.lean, 'card_holds'). Laid BY PROGRAM, IN A SANDBOX (cutbox-door.mjs). By AI agents, Wed Nov 11 2026. No macro, syntax, notation, axiom, sorry.
-/
import Derived.Test.YtpkifeagopceaaaDoorRows
import GoSem.ClaimSeven
namespace Go.Proofs.YtpkifeagopceaaaDoor
namespace Rows

/-- THE TIED CARD OF 'starlinglaw.EvalMore'. -/
def evalMoreCard : Claim7 := { stood := { row := evalMoreRow, standIns := [], harness := (true, "72e88184f548c8e880621224ebb0dd5266ffe3910c224404c6f4f921f1aa7c6a"), looks := false }, kinds := [], alts := [], laidByText := true, laidKinds := [.data, .pinned], laidTests := true, laidLooks := .later }
def EvalMoreCardSaid : Prop := Claim7.holds Tryd.pinned (.plain (OpenSpec.ofChange evalMoreSpec)) evalMoreCard

/-- THE TIED CARD OF 'starlinglaw.FoldSame'. -/
def foldSameCard : Claim7 := { stood := { row := foldSameRow, standIns := [], harness := (true, "72e88184f548c8e880621224ebb0dd5266ffe3910c224404c6f4f921f1aa7c6a"), looks := false }, kinds := [], alts := [], laidByText := true, laidKinds := [.data, .pinned], laidTests := true, laidLooks := .later }
def FoldSameCardSaid : Prop := Claim7.holds Tryd.pinned (.plain (OpenSpec.ofChange foldSameSpec)) foldSameCard

/-- THE TIED CARD OF 'starlinglaw.PushSame'. -/
def pushSameCard : Claim7 := { stood := { row := pushSameRow, standIns := [], harness := (true, "72e88184f548c8e880621224ebb0dd5266ffe3910c224404c6f4f921f1aa7c6a"), looks := false }, kinds := [], alts := [], laidByText := true, laidKinds := [.data, .pinned], laidTests := true, laidLooks := .later }
def PushSameCardSaid : Prop := Claim7.holds Tryd.pinned (.plain (OpenSpec.ofChange pushSameSpec)) pushSameCard

/-- THE TIED CARD OF 'starlinglaw.PushDown'. -/
def pushDownCard : Claim7 := { stood := { row := pushDownRow, standIns := [], harness := (true, "72e88184f548c8e880621224ebb0dd5266ffe3910c224404c6f4f921f1aa7c6a"), looks := false }, kinds := [], alts := [], laidByText := true, laidKinds := [.data, .pinned], laidTests := true, laidLooks := .later }
def PushDownCardSaid : Prop := Claim7.holds Tryd.pinned (.plain (OpenSpec.ofChange pushDownSpec)) pushDownCard

/-- THE TIED CARD OF 'starlinglaw.EvalKids'. -/
def evalKidsCard : Claim7 := { stood := { row := evalKidsRow, standIns := [], harness := (true, "72e88184f548c8e880621224ebb0dd5266ffe3910c224404c6f4f921f1aa7c6a"), looks := false }, kinds := [], alts := [], laidByText := true, laidKinds := [.data, .pinned], laidTests := true, laidLooks := .later }
def EvalKidsCardSaid : Prop := Claim7.holds Tryd.pinned (.plain (OpenSpec.ofChange evalKidsSpec)) evalKidsCard

/-- THE SECOND FORM's CARD OF 'starlinglaw.EvalMore'. -/
def evalMoreUptoCard : Claim7 := { stood := { row := evalMoreUptoRow, standIns := [], harness := (true, "72e88184f548c8e880621224ebb0dd5266ffe3910c224404c6f4f921f1aa7c6a"), looks := false }, kinds := [], alts := [], laidByText := true, laidKinds := [.data, .pinned], laidTests := true, laidLooks := .later }
def EvalMoreUptoCardSaid : Prop := Claim7.holds Tryd.pinned (.plain (OpenSpec.upto evalMoreSpec)) evalMoreUptoCard

/-- THE SECOND FORM's CARD OF 'starlinglaw.FoldSame'. -/
def foldSameUptoCard : Claim7 := { stood := { row := foldSameUptoRow, standIns := [], harness := (true, "72e88184f548c8e880621224ebb0dd5266ffe3910c224404c6f4f921f1aa7c6a"), looks := false }, kinds := [], alts := [], laidByText := true, laidKinds := [.data, .pinned], laidTests := true, laidLooks := .later }
def FoldSameUptoCardSaid : Prop := Claim7.holds Tryd.pinned (.plain (OpenSpec.upto foldSameSpec)) foldSameUptoCard

/-- THE SECOND FORM's CARD OF 'starlinglaw.PushSame'. -/
def pushSameUptoCard : Claim7 := { stood := { row := pushSameUptoRow, standIns := [], harness := (true, "72e88184f548c8e880621224ebb0dd5266ffe3910c224404c6f4f921f1aa7c6a"), looks := false }, kinds := [], alts := [], laidByText := true, laidKinds := [.data, .pinned], laidTests := true, laidLooks := .later }
def PushSameUptoCardSaid : Prop := Claim7.holds Tryd.pinned (.plain (OpenSpec.upto pushSameSpec)) pushSameUptoCard

/-- THE SECOND FORM's CARD OF 'starlinglaw.PushDown'. -/
def pushDownUptoCard : Claim7 := { stood := { row := pushDownUptoRow, standIns := [], harness := (true, "72e88184f548c8e880621224ebb0dd5266ffe3910c224404c6f4f921f1aa7c6a"), looks := false }, kinds := [], alts := [], laidByText := true, laidKinds := [.data, .pinned], laidTests := true, laidLooks := .later }
def PushDownUptoCardSaid : Prop := Claim7.holds Tryd.pinned (.plain (OpenSpec.upto pushDownSpec)) pushDownUptoCard

/-- THE SECOND FORM's CARD OF 'starlinglaw.EvalKids'. -/
def evalKidsUptoCard : Claim7 := { stood := { row := evalKidsUptoRow, standIns := [], harness := (true, "72e88184f548c8e880621224ebb0dd5266ffe3910c224404c6f4f921f1aa7c6a"), looks := false }, kinds := [], alts := [], laidByText := true, laidKinds := [.data, .pinned], laidTests := true, laidLooks := .later }
def EvalKidsUptoCardSaid : Prop := Claim7.holds Tryd.pinned (.plain (OpenSpec.upto evalKidsSpec)) evalKidsUptoCard
end Rows
end Go.Proofs.YtpkifeagopceaaaDoor
