/-
  No cell of these rows narrows 'for every input' (looked for: loops, veiled, ifaces, maps, wideKeys, modest, calm, conditions, laid).
  DERIVED. THE GIVEN ROWS OF THIS SEAT. 8 by the template 'for every input the law returns true; each argument reads behind the call as it read before'; 0 by the template 'total and deterministic' (their statements: YtohlkegmmbdlaaaTotals.lean).
  GIVEN WITH THE SEED: the statements are not yours to turn. If you find one false, say at which input.
  Laid BY PROGRAM, IN A SANDBOX (cutbox-rows.mjs): the forced cells as the released guide's own fill.sh prints them over the translation 6aafa474be1c9a15… (all of the seat's roots in one cut). By AI agents, Wed Nov 11 2026. No macro, syntax, notation, axiom, sorry.
-/
import Derived.Test.YtohlkegmmbdlaaaChecked
import GoSem.Claim
import GoSem.ClaimJoined
import GoSem.ClaimMapViews
import Derived.JoinedTies
import Derived.KernelRfl
namespace Go.Proofs.Ytohlkegmmbdlaaa
/- THE CELL 'sum', in the pinned program and in every row, IS THE sha256 OF THE DUMP (.gsa) THAT YtohlkegmmbdlaaaProg.lean LOADS. Nothing in Lean hashes anything: it is a label: what it is worth is what the hold of that sum in a sandbox is worth. -/
noncomputable def Try.pinned : Pinned := { name := "ytohlkegmmbdlaaa", sum := "6aafa474be1c9a15ed8e04266ccce635d96f5c5e258d35787fdcc6ba53a0d463", checked := Try.checked }
namespace Rows
def none {H : Type} : Left H := { results := [], args := [] }

/-- 'starlinglaw.StepsTells': WHATEVER THE INPUT: true; the input reads as it did. -/
def stepsTellsSpec : ChangeSpec := { name := "stepsTells", fn := fun _ => fun
  | [d1, d2] => { results := [.lit (.bool true)], args := [d1, d2] }
  | _ => none }
def stepsTellsRow : OpenClaim := { program := "ytohlkegmmbdlaaa", sum := "6aafa474be1c9a15ed8e04266ccce635d96f5c5e258d35787fdcc6ba53a0d463", func := "starling/starlinglaw.StepsTells", spec := "stepsTells", unfollowed := true, recurses := true, apart := false }
def StepsTellsSaid : Prop := stepsTellsRow.holds Try.pinned (OpenSpec.ofChange stepsTellsSpec)

/-- ITS FALSE NEIGHBOUR: 'it returns false'. Refute it at one input. -/
def stepsTellsWrong : ChangeSpec := { name := "stepsTells", fn := fun _ => fun
  | [d1, d2] => { results := [.lit (.bool false)], args := [d1, d2] }
  | _ => none }
def StepsTellsWrongFalsely : Prop := stepsTellsRow.holds Try.pinned (OpenSpec.ofChange stepsTellsWrong)

/-- 'starlinglaw.PlayTells': WHATEVER THE INPUT: true; the input reads as it did. -/
def playTellsSpec : ChangeSpec := { name := "playTells", fn := fun _ => fun
  | [d1, d2] => { results := [.lit (.bool true)], args := [d1, d2] }
  | _ => none }
def playTellsRow : OpenClaim := { program := "ytohlkegmmbdlaaa", sum := "6aafa474be1c9a15ed8e04266ccce635d96f5c5e258d35787fdcc6ba53a0d463", func := "starling/starlinglaw.PlayTells", spec := "playTells", unfollowed := true, recurses := true, apart := false }
def PlayTellsSaid : Prop := playTellsRow.holds Try.pinned (OpenSpec.ofChange playTellsSpec)

/-- ITS FALSE NEIGHBOUR: 'it returns false'. Refute it at one input. -/
def playTellsWrong : ChangeSpec := { name := "playTells", fn := fun _ => fun
  | [d1, d2] => { results := [.lit (.bool false)], args := [d1, d2] }
  | _ => none }
def PlayTellsWrongFalsely : Prop := playTellsRow.holds Try.pinned (OpenSpec.ofChange playTellsWrong)

/-- 'starlinglaw.PlayParts': WHATEVER THE INPUT: true; the input reads as it did. -/
def playPartsSpec : ChangeSpec := { name := "playParts", fn := fun _ => fun
  | [d1, d2, d3] => { results := [.lit (.bool true)], args := [d1, d2, d3] }
  | _ => none }
def playPartsRow : OpenClaim := { program := "ytohlkegmmbdlaaa", sum := "6aafa474be1c9a15ed8e04266ccce635d96f5c5e258d35787fdcc6ba53a0d463", func := "starling/starlinglaw.PlayParts", spec := "playParts", unfollowed := true, recurses := true, apart := false }
def PlayPartsSaid : Prop := playPartsRow.holds Try.pinned (OpenSpec.ofChange playPartsSpec)

/-- ITS FALSE NEIGHBOUR: 'it returns false'. Refute it at one input. -/
def playPartsWrong : ChangeSpec := { name := "playParts", fn := fun _ => fun
  | [d1, d2, d3] => { results := [.lit (.bool false)], args := [d1, d2, d3] }
  | _ => none }
def PlayPartsWrongFalsely : Prop := playPartsRow.holds Try.pinned (OpenSpec.ofChange playPartsWrong)

/-- 'starlinglaw.UndoTells': WHATEVER THE INPUT: true; the input reads as it did. -/
def undoTellsSpec : ChangeSpec := { name := "undoTells", fn := fun _ => fun
  | [d] => { results := [.lit (.bool true)], args := [d] }
  | _ => none }
def undoTellsRow : OpenClaim := { program := "ytohlkegmmbdlaaa", sum := "6aafa474be1c9a15ed8e04266ccce635d96f5c5e258d35787fdcc6ba53a0d463", func := "starling/starlinglaw.UndoTells", spec := "undoTells", unfollowed := true, recurses := true, apart := false }
def UndoTellsSaid : Prop := undoTellsRow.holds Try.pinned (OpenSpec.ofChange undoTellsSpec)

/-- ITS FALSE NEIGHBOUR: 'it returns false'. Refute it at one input. -/
def undoTellsWrong : ChangeSpec := { name := "undoTells", fn := fun _ => fun
  | [d] => { results := [.lit (.bool false)], args := [d] }
  | _ => none }
def UndoTellsWrongFalsely : Prop := undoTellsRow.holds Try.pinned (OpenSpec.ofChange undoTellsWrong)

/-- 'starlinglaw.CommitDone': WHATEVER THE INPUT: true; the input reads as it did. -/
def commitDoneSpec : ChangeSpec := { name := "commitDone", fn := fun _ => fun
  | [d1, d2] => { results := [.lit (.bool true)], args := [d1, d2] }
  | _ => none }
def commitDoneRow : OpenClaim := { program := "ytohlkegmmbdlaaa", sum := "6aafa474be1c9a15ed8e04266ccce635d96f5c5e258d35787fdcc6ba53a0d463", func := "starling/starlinglaw.CommitDone", spec := "commitDone", unfollowed := true, recurses := true, apart := false }
def CommitDoneSaid : Prop := commitDoneRow.holds Try.pinned (OpenSpec.ofChange commitDoneSpec)

/-- ITS FALSE NEIGHBOUR: 'it returns false'. Refute it at one input. -/
def commitDoneWrong : ChangeSpec := { name := "commitDone", fn := fun _ => fun
  | [d1, d2] => { results := [.lit (.bool false)], args := [d1, d2] }
  | _ => none }
def CommitDoneWrongFalsely : Prop := commitDoneRow.holds Try.pinned (OpenSpec.ofChange commitDoneWrong)

/-- 'starlinglaw.CommitStill': WHATEVER THE INPUT: true; the input reads as it did. -/
def commitStillSpec : ChangeSpec := { name := "commitStill", fn := fun _ => fun
  | [d1, d2] => { results := [.lit (.bool true)], args := [d1, d2] }
  | _ => none }
def commitStillRow : OpenClaim := { program := "ytohlkegmmbdlaaa", sum := "6aafa474be1c9a15ed8e04266ccce635d96f5c5e258d35787fdcc6ba53a0d463", func := "starling/starlinglaw.CommitStill", spec := "commitStill", unfollowed := true, recurses := true, apart := false }
def CommitStillSaid : Prop := commitStillRow.holds Try.pinned (OpenSpec.ofChange commitStillSpec)

/-- ITS FALSE NEIGHBOUR: 'it returns false'. Refute it at one input. -/
def commitStillWrong : ChangeSpec := { name := "commitStill", fn := fun _ => fun
  | [d1, d2] => { results := [.lit (.bool false)], args := [d1, d2] }
  | _ => none }
def CommitStillWrongFalsely : Prop := commitStillRow.holds Try.pinned (OpenSpec.ofChange commitStillWrong)

/-- 'starlinglaw.CommitWhole': WHATEVER THE INPUT: true; the input reads as it did. -/
def commitWholeSpec : ChangeSpec := { name := "commitWhole", fn := fun _ => fun
  | [d1, d2, d3, d4, d5] => { results := [.lit (.bool true)], args := [d1, d2, d3, d4, d5] }
  | _ => none }
def commitWholeRow : OpenClaim := { program := "ytohlkegmmbdlaaa", sum := "6aafa474be1c9a15ed8e04266ccce635d96f5c5e258d35787fdcc6ba53a0d463", func := "starling/starlinglaw.CommitWhole", spec := "commitWhole", unfollowed := true, recurses := true, apart := false }
def CommitWholeSaid : Prop := commitWholeRow.holds Try.pinned (OpenSpec.ofChange commitWholeSpec)

/-- ITS FALSE NEIGHBOUR: 'it returns false'. Refute it at one input. -/
def commitWholeWrong : ChangeSpec := { name := "commitWhole", fn := fun _ => fun
  | [d1, d2, d3, d4, d5] => { results := [.lit (.bool false)], args := [d1, d2, d3, d4, d5] }
  | _ => none }
def CommitWholeWrongFalsely : Prop := commitWholeRow.holds Try.pinned (OpenSpec.ofChange commitWholeWrong)

/-- 'starlinglaw.CommitTwice': WHATEVER THE INPUT: true; the input reads as it did. -/
def commitTwiceSpec : ChangeSpec := { name := "commitTwice", fn := fun _ => fun
  | [d1, d2, d3, d4, d5, d6, d7, d8] => { results := [.lit (.bool true)], args := [d1, d2, d3, d4, d5, d6, d7, d8] }
  | _ => none }
def commitTwiceRow : OpenClaim := { program := "ytohlkegmmbdlaaa", sum := "6aafa474be1c9a15ed8e04266ccce635d96f5c5e258d35787fdcc6ba53a0d463", func := "starling/starlinglaw.CommitTwice", spec := "commitTwice", unfollowed := true, recurses := true, apart := false }
def CommitTwiceSaid : Prop := commitTwiceRow.holds Try.pinned (OpenSpec.ofChange commitTwiceSpec)

/-- ITS FALSE NEIGHBOUR: 'it returns false'. Refute it at one input. -/
def commitTwiceWrong : ChangeSpec := { name := "commitTwice", fn := fun _ => fun
  | [d1, d2, d3, d4, d5, d6, d7, d8] => { results := [.lit (.bool false)], args := [d1, d2, d3, d4, d5, d6, d7, d8] }
  | _ => none }
def CommitTwiceWrongFalsely : Prop := commitTwiceRow.holds Try.pinned (OpenSpec.ofChange commitTwiceWrong)

/- THE SECOND FORM. 'bulk': how many values and letters a reading holds, each counted each time it is reached (what is shared counts as often as it is met; a slice's spare places count too). A statement '..UptoSaid' is the law's where the arguments, and the package variables that the reading takes, are together of bulk at most 1048576: NARROWER than '..Said'. Prove '..Said' where nothing that the law and all that it calls make is longer than what came in: it says more and counts as full. Else prove '..UptoSaid'. A law counts once. -/
mutual
def uptoBulk {H : Type} : DataW H → Nat
  | .lit (.string bytes) => bytes.length + 1
  | .lit _ => 1
  | .nil => 1
  | .ptr d => uptoBulk d + 1
  | .slice elems spare => uptoBulkAll elems + uptoBulkAll spare + 1
  | .agg parts => uptoBulkAll parts + 1
  | .iface _ d => uptoBulk d + 1
  | .map entries => uptoBulkEntries entries + 1
  | .held _ => 1
def uptoBulkAll {H : Type} : List (DataW H) → Nat
  | [] => 0
  | d :: r => uptoBulk d + uptoBulkAll r
def uptoBulkEntries {H : Type} : List (Lit × DataW H) → Nat
  | [] => 0
  | x :: r => uptoBulkEntry x + uptoBulkEntries r
def uptoBulkEntry {H : Type} : Lit × DataW H → Nat
  | (.string bytes, d) => bytes.length + uptoBulk d + 1
  | (_, d) => uptoBulk d + 1
 end
def uptoSmall : (H : Type) → List (DataW H) → Bool := fun _ ds => decide (uptoBulkAll ds ≤ 1048576)
def OpenSpec.upto (s : _root_.Go.ChangeSpec) : _root_.Go.OpenSpec := { _root_.Go.OpenSpec.ofChange s with cond := some uptoSmall }

/-- 'starlinglaw.StepsTells', WHERE WHAT IT READS IS OF BULK AT MOST 1048576: true; the input reads as it did. -/
def stepsTellsUptoRow : OpenClaim := { program := "ytohlkegmmbdlaaa", sum := "6aafa474be1c9a15ed8e04266ccce635d96f5c5e258d35787fdcc6ba53a0d463", func := "starling/starlinglaw.StepsTells", spec := "stepsTells", unfollowed := true, recurses := true, apart := false, narrowed := true }
def StepsTellsUptoSaid : Prop := stepsTellsUptoRow.holds Try.pinned (OpenSpec.upto stepsTellsSpec)

/-- 'starlinglaw.PlayTells', WHERE WHAT IT READS IS OF BULK AT MOST 1048576: true; the input reads as it did. -/
def playTellsUptoRow : OpenClaim := { program := "ytohlkegmmbdlaaa", sum := "6aafa474be1c9a15ed8e04266ccce635d96f5c5e258d35787fdcc6ba53a0d463", func := "starling/starlinglaw.PlayTells", spec := "playTells", unfollowed := true, recurses := true, apart := false, narrowed := true }
def PlayTellsUptoSaid : Prop := playTellsUptoRow.holds Try.pinned (OpenSpec.upto playTellsSpec)

/-- 'starlinglaw.PlayParts', WHERE WHAT IT READS IS OF BULK AT MOST 1048576: true; the input reads as it did. -/
def playPartsUptoRow : OpenClaim := { program := "ytohlkegmmbdlaaa", sum := "6aafa474be1c9a15ed8e04266ccce635d96f5c5e258d35787fdcc6ba53a0d463", func := "starling/starlinglaw.PlayParts", spec := "playParts", unfollowed := true, recurses := true, apart := false, narrowed := true }
def PlayPartsUptoSaid : Prop := playPartsUptoRow.holds Try.pinned (OpenSpec.upto playPartsSpec)

/-- 'starlinglaw.UndoTells', WHERE WHAT IT READS IS OF BULK AT MOST 1048576: true; the input reads as it did. -/
def undoTellsUptoRow : OpenClaim := { program := "ytohlkegmmbdlaaa", sum := "6aafa474be1c9a15ed8e04266ccce635d96f5c5e258d35787fdcc6ba53a0d463", func := "starling/starlinglaw.UndoTells", spec := "undoTells", unfollowed := true, recurses := true, apart := false, narrowed := true }
def UndoTellsUptoSaid : Prop := undoTellsUptoRow.holds Try.pinned (OpenSpec.upto undoTellsSpec)

/-- 'starlinglaw.CommitDone', WHERE WHAT IT READS IS OF BULK AT MOST 1048576: true; the input reads as it did. -/
def commitDoneUptoRow : OpenClaim := { program := "ytohlkegmmbdlaaa", sum := "6aafa474be1c9a15ed8e04266ccce635d96f5c5e258d35787fdcc6ba53a0d463", func := "starling/starlinglaw.CommitDone", spec := "commitDone", unfollowed := true, recurses := true, apart := false, narrowed := true }
def CommitDoneUptoSaid : Prop := commitDoneUptoRow.holds Try.pinned (OpenSpec.upto commitDoneSpec)

/-- 'starlinglaw.CommitStill', WHERE WHAT IT READS IS OF BULK AT MOST 1048576: true; the input reads as it did. -/
def commitStillUptoRow : OpenClaim := { program := "ytohlkegmmbdlaaa", sum := "6aafa474be1c9a15ed8e04266ccce635d96f5c5e258d35787fdcc6ba53a0d463", func := "starling/starlinglaw.CommitStill", spec := "commitStill", unfollowed := true, recurses := true, apart := false, narrowed := true }
def CommitStillUptoSaid : Prop := commitStillUptoRow.holds Try.pinned (OpenSpec.upto commitStillSpec)

/-- 'starlinglaw.CommitWhole', WHERE WHAT IT READS IS OF BULK AT MOST 1048576: true; the input reads as it did. -/
def commitWholeUptoRow : OpenClaim := { program := "ytohlkegmmbdlaaa", sum := "6aafa474be1c9a15ed8e04266ccce635d96f5c5e258d35787fdcc6ba53a0d463", func := "starling/starlinglaw.CommitWhole", spec := "commitWhole", unfollowed := true, recurses := true, apart := false, narrowed := true }
def CommitWholeUptoSaid : Prop := commitWholeUptoRow.holds Try.pinned (OpenSpec.upto commitWholeSpec)

/-- 'starlinglaw.CommitTwice', WHERE WHAT IT READS IS OF BULK AT MOST 1048576: true; the input reads as it did. -/
def commitTwiceUptoRow : OpenClaim := { program := "ytohlkegmmbdlaaa", sum := "6aafa474be1c9a15ed8e04266ccce635d96f5c5e258d35787fdcc6ba53a0d463", func := "starling/starlinglaw.CommitTwice", spec := "commitTwice", unfollowed := true, recurses := true, apart := false, narrowed := true }
def CommitTwiceUptoSaid : Prop := commitTwiceUptoRow.holds Try.pinned (OpenSpec.upto commitTwiceSpec)

end Rows
end Go.Proofs.Ytohlkegmmbdlaaa
