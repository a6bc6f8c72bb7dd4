/-
  No cell of these rows narrows 'for every input' (looked for: loops, veiled, ifaces, maps, wideKeys, modest, calm, conditions, laid).
  DERIVED. THE GIVEN ROWS OF THIS SEAT. 5 by the template 'for every input the law returns true; each argument reads behind the call as it read before'; 0 by the template 'total and deterministic' (their statements: YtjfamijedcpjcaaTotals.lean).
  GIVEN WITH THE SEED: the statements are not yours to turn. If you find one false, say at which input.
  Laid BY PROGRAM, IN A SANDBOX (cutbox-rows.mjs): the forced cells as the released guide's own fill.sh prints them over the translation 5a3f7b6a2ed91aa3… (all of the seat's roots in one cut). By AI agents, Wed Nov 11 2026. No macro, syntax, notation, axiom, sorry.
-/
import Derived.Test.YtjfamijedcpjcaaChecked
import GoSem.Claim
import GoSem.ClaimJoined
import GoSem.ClaimMapViews
import Derived.JoinedTies
import Derived.KernelRfl
namespace Go.Proofs.Ytjfamijedcpjcaa
/- THE CELL 'sum', in the pinned program and in every row, IS THE sha256 OF THE DUMP (.gsa) THAT YtjfamijedcpjcaaProg.lean LOADS. Nothing in Lean hashes anything: it is a label: what it is worth is what the hold of that sum in a sandbox is worth. -/
noncomputable def Try.pinned : Pinned := { name := "ytjfamijedcpjcaa", sum := "5a3f7b6a2ed91aa333c727f939924a2bc0f0710e9ab08661b4c18e0fa5784d4d", checked := Try.checked }
namespace Rows
def none {H : Type} : Left H := { results := [], args := [] }

/-- 'starlinglaw.DiskTells': WHATEVER THE INPUT: true; the input reads as it did. -/
def diskTellsSpec : ChangeSpec := { name := "diskTells", fn := fun _ => fun
  | [d1, d2, d3, d4] => { results := [.lit (.bool true)], args := [d1, d2, d3, d4] }
  | _ => none }
def diskTellsRow : OpenClaim := { program := "ytjfamijedcpjcaa", sum := "5a3f7b6a2ed91aa333c727f939924a2bc0f0710e9ab08661b4c18e0fa5784d4d", func := "starling/starlinglaw.DiskTells", spec := "diskTells", unfollowed := true, recurses := true, apart := false }
def DiskTellsSaid : Prop := diskTellsRow.holds Try.pinned (OpenSpec.ofChange diskTellsSpec)

/-- ITS FALSE NEIGHBOUR: 'it returns false'. Refute it at one input. -/
def diskTellsWrong : ChangeSpec := { name := "diskTells", fn := fun _ => fun
  | [d1, d2, d3, d4] => { results := [.lit (.bool false)], args := [d1, d2, d3, d4] }
  | _ => none }
def DiskTellsWrongFalsely : Prop := diskTellsRow.holds Try.pinned (OpenSpec.ofChange diskTellsWrong)

/-- 'starlinglaw.DiskReads': WHATEVER THE INPUT: true; the input reads as it did. -/
def diskReadsSpec : ChangeSpec := { name := "diskReads", fn := fun _ => fun
  | [d1, d2, d3, d4] => { results := [.lit (.bool true)], args := [d1, d2, d3, d4] }
  | _ => none }
def diskReadsRow : OpenClaim := { program := "ytjfamijedcpjcaa", sum := "5a3f7b6a2ed91aa333c727f939924a2bc0f0710e9ab08661b4c18e0fa5784d4d", func := "starling/starlinglaw.DiskReads", spec := "diskReads", unfollowed := true, recurses := true, apart := false }
def DiskReadsSaid : Prop := diskReadsRow.holds Try.pinned (OpenSpec.ofChange diskReadsSpec)

/-- ITS FALSE NEIGHBOUR: 'it returns false'. Refute it at one input. -/
def diskReadsWrong : ChangeSpec := { name := "diskReads", fn := fun _ => fun
  | [d1, d2, d3, d4] => { results := [.lit (.bool false)], args := [d1, d2, d3, d4] }
  | _ => none }
def DiskReadsWrongFalsely : Prop := diskReadsRow.holds Try.pinned (OpenSpec.ofChange diskReadsWrong)

/-- 'starlinglaw.DiskGood': WHATEVER THE INPUT: true; the input reads as it did. -/
def diskGoodSpec : ChangeSpec := { name := "diskGood", fn := fun _ => fun
  | [d1, d2] => { results := [.lit (.bool true)], args := [d1, d2] }
  | _ => none }
def diskGoodRow : OpenClaim := { program := "ytjfamijedcpjcaa", sum := "5a3f7b6a2ed91aa333c727f939924a2bc0f0710e9ab08661b4c18e0fa5784d4d", func := "starling/starlinglaw.DiskGood", spec := "diskGood", unfollowed := true, recurses := true, apart := false }
def DiskGoodSaid : Prop := diskGoodRow.holds Try.pinned (OpenSpec.ofChange diskGoodSpec)

/-- ITS FALSE NEIGHBOUR: 'it returns false'. Refute it at one input. -/
def diskGoodWrong : ChangeSpec := { name := "diskGood", fn := fun _ => fun
  | [d1, d2] => { results := [.lit (.bool false)], args := [d1, d2] }
  | _ => none }
def DiskGoodWrongFalsely : Prop := diskGoodRow.holds Try.pinned (OpenSpec.ofChange diskGoodWrong)

/-- 'starlinglaw.DiskEither': WHATEVER THE INPUT: true; the input reads as it did. -/
def diskEitherSpec : ChangeSpec := { name := "diskEither", fn := fun _ => fun
  | [d1, d2, d3] => { results := [.lit (.bool true)], args := [d1, d2, d3] }
  | _ => none }
def diskEitherRow : OpenClaim := { program := "ytjfamijedcpjcaa", sum := "5a3f7b6a2ed91aa333c727f939924a2bc0f0710e9ab08661b4c18e0fa5784d4d", func := "starling/starlinglaw.DiskEither", spec := "diskEither", unfollowed := true, recurses := true, apart := false }
def DiskEitherSaid : Prop := diskEitherRow.holds Try.pinned (OpenSpec.ofChange diskEitherSpec)

/-- ITS FALSE NEIGHBOUR: 'it returns false'. Refute it at one input. -/
def diskEitherWrong : ChangeSpec := { name := "diskEither", fn := fun _ => fun
  | [d1, d2, d3] => { results := [.lit (.bool false)], args := [d1, d2, d3] }
  | _ => none }
def DiskEitherWrongFalsely : Prop := diskEitherRow.holds Try.pinned (OpenSpec.ofChange diskEitherWrong)

/-- 'starlinglaw.RestDisks': WHATEVER THE INPUT: true; the input reads as it did. -/
def restDisksSpec : ChangeSpec := { name := "restDisks", fn := fun _ => fun
  | [d1, d2, d3] => { results := [.lit (.bool true)], args := [d1, d2, d3] }
  | _ => none }
def restDisksRow : OpenClaim := { program := "ytjfamijedcpjcaa", sum := "5a3f7b6a2ed91aa333c727f939924a2bc0f0710e9ab08661b4c18e0fa5784d4d", func := "starling/starlinglaw.RestDisks", spec := "restDisks", unfollowed := true, recurses := true, apart := false }
def RestDisksSaid : Prop := restDisksRow.holds Try.pinned (OpenSpec.ofChange restDisksSpec)

/-- ITS FALSE NEIGHBOUR: 'it returns false'. Refute it at one input. -/
def restDisksWrong : ChangeSpec := { name := "restDisks", fn := fun _ => fun
  | [d1, d2, d3] => { results := [.lit (.bool false)], args := [d1, d2, d3] }
  | _ => none }
def RestDisksWrongFalsely : Prop := restDisksRow.holds Try.pinned (OpenSpec.ofChange restDisksWrong)

/- THE SECOND FORM. 'bulk': how many values and letters a reading holds, each counted each time it is reached (what is shared counts as often as it is met; a slice's spare places count too). A statement '..UptoSaid' is the law's where the arguments, and the package variables that the reading takes, are together of bulk at most 1048576: NARROWER than '..Said'. Prove '..Said' where nothing that the law and all that it calls make is longer than what came in: it says more and counts as full. Else prove '..UptoSaid'. A law counts once. -/
mutual
def uptoBulk {H : Type} : DataW H → Nat
  | .lit (.string bytes) => bytes.length + 1
  | .lit _ => 1
  | .nil => 1
  | .ptr d => uptoBulk d + 1
  | .slice elems spare => uptoBulkAll elems + uptoBulkAll spare + 1
  | .agg parts => uptoBulkAll parts + 1
  | .iface _ d => uptoBulk d + 1
  | .map entries => uptoBulkEntries entries + 1
  | .held _ => 1
def uptoBulkAll {H : Type} : List (DataW H) → Nat
  | [] => 0
  | d :: r => uptoBulk d + uptoBulkAll r
def uptoBulkEntries {H : Type} : List (Lit × DataW H) → Nat
  | [] => 0
  | x :: r => uptoBulkEntry x + uptoBulkEntries r
def uptoBulkEntry {H : Type} : Lit × DataW H → Nat
  | (.string bytes, d) => bytes.length + uptoBulk d + 1
  | (_, d) => uptoBulk d + 1
 end
def uptoSmall : (H : Type) → List (DataW H) → Bool := fun _ ds => decide (uptoBulkAll ds ≤ 1048576)
def OpenSpec.upto (s : _root_.Go.ChangeSpec) : _root_.Go.OpenSpec := { _root_.Go.OpenSpec.ofChange s with cond := some uptoSmall }

/-- 'starlinglaw.DiskTells', WHERE WHAT IT READS IS OF BULK AT MOST 1048576: true; the input reads as it did. -/
def diskTellsUptoRow : OpenClaim := { program := "ytjfamijedcpjcaa", sum := "5a3f7b6a2ed91aa333c727f939924a2bc0f0710e9ab08661b4c18e0fa5784d4d", func := "starling/starlinglaw.DiskTells", spec := "diskTells", unfollowed := true, recurses := true, apart := false, narrowed := true }
def DiskTellsUptoSaid : Prop := diskTellsUptoRow.holds Try.pinned (OpenSpec.upto diskTellsSpec)

/-- 'starlinglaw.DiskReads', WHERE WHAT IT READS IS OF BULK AT MOST 1048576: true; the input reads as it did. -/
def diskReadsUptoRow : OpenClaim := { program := "ytjfamijedcpjcaa", sum := "5a3f7b6a2ed91aa333c727f939924a2bc0f0710e9ab08661b4c18e0fa5784d4d", func := "starling/starlinglaw.DiskReads", spec := "diskReads", unfollowed := true, recurses := true, apart := false, narrowed := true }
def DiskReadsUptoSaid : Prop := diskReadsUptoRow.holds Try.pinned (OpenSpec.upto diskReadsSpec)

/-- 'starlinglaw.DiskGood', WHERE WHAT IT READS IS OF BULK AT MOST 1048576: true; the input reads as it did. -/
def diskGoodUptoRow : OpenClaim := { program := "ytjfamijedcpjcaa", sum := "5a3f7b6a2ed91aa333c727f939924a2bc0f0710e9ab08661b4c18e0fa5784d4d", func := "starling/starlinglaw.DiskGood", spec := "diskGood", unfollowed := true, recurses := true, apart := false, narrowed := true }
def DiskGoodUptoSaid : Prop := diskGoodUptoRow.holds Try.pinned (OpenSpec.upto diskGoodSpec)

/-- 'starlinglaw.DiskEither', WHERE WHAT IT READS IS OF BULK AT MOST 1048576: true; the input reads as it did. -/
def diskEitherUptoRow : OpenClaim := { program := "ytjfamijedcpjcaa", sum := "5a3f7b6a2ed91aa333c727f939924a2bc0f0710e9ab08661b4c18e0fa5784d4d", func := "starling/starlinglaw.DiskEither", spec := "diskEither", unfollowed := true, recurses := true, apart := false, narrowed := true }
def DiskEitherUptoSaid : Prop := diskEitherUptoRow.holds Try.pinned (OpenSpec.upto diskEitherSpec)

/-- 'starlinglaw.RestDisks', WHERE WHAT IT READS IS OF BULK AT MOST 1048576: true; the input reads as it did. -/
def restDisksUptoRow : OpenClaim := { program := "ytjfamijedcpjcaa", sum := "5a3f7b6a2ed91aa333c727f939924a2bc0f0710e9ab08661b4c18e0fa5784d4d", func := "starling/starlinglaw.RestDisks", spec := "restDisks", unfollowed := true, recurses := true, apart := false, narrowed := true }
def RestDisksUptoSaid : Prop := restDisksUptoRow.holds Try.pinned (OpenSpec.upto restDisksSpec)

end Rows
end Go.Proofs.Ytjfamijedcpjcaa
