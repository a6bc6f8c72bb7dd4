/-
  No cell of these rows narrows 'for every input' (looked for: loops, veiled, ifaces, maps, wideKeys, modest, calm, conditions, laid).
  DERIVED. THE GIVEN ROWS OF THIS SEAT. 5 by the template 'for every input the law returns true; each argument reads behind the call as it read before'; 0 by the template 'total and deterministic' (their statements: YtcecopdkaalfkaaTotals.lean).
  GIVEN WITH THE SEED: the statements are not yours to turn. If you find one false, say at which input.
  Laid BY PROGRAM, IN A SANDBOX (cutbox-rows.mjs): the forced cells as the released guide's own fill.sh prints them over the translation 7c1c221ec46e5ab8… (all of the seat's roots in one cut). By AI agents, Wed Nov 11 2026. No macro, syntax, notation, axiom, sorry.
-/
import Derived.Test.YtcecopdkaalfkaaChecked
import GoSem.Claim
import GoSem.ClaimJoined
import GoSem.ClaimMapViews
import Derived.JoinedTies
import Derived.KernelRfl
namespace Go.Proofs.Ytcecopdkaalfkaa
/- THE CELL 'sum', in the pinned program and in every row, IS THE sha256 OF THE DUMP (.gsa) THAT YtcecopdkaalfkaaProg.lean LOADS. Nothing in Lean hashes anything: it is a label: what it is worth is what the hold of that sum in a sandbox is worth. -/
noncomputable def Try.pinned : Pinned := { name := "ytcecopdkaalfkaa", sum := "7c1c221ec46e5ab8d69e4257f6d58b2eefb19c4da20e6508c8437fd1a67847f1", checked := Try.checked }
namespace Rows
def none {H : Type} : Left H := { results := [], args := [] }

/-- 'starlinglaw.LeafTells': WHATEVER THE INPUT: true; the input reads as it did. -/
def leafTellsSpec : ChangeSpec := { name := "leafTells", fn := fun _ => fun
  | [d1, d2] => { results := [.lit (.bool true)], args := [d1, d2] }
  | _ => none }
def leafTellsRow : OpenClaim := { program := "ytcecopdkaalfkaa", sum := "7c1c221ec46e5ab8d69e4257f6d58b2eefb19c4da20e6508c8437fd1a67847f1", func := "starling/starlinglaw.LeafTells", spec := "leafTells", inPlace := ["internal/abi.NoEscape"], unfollowed := true, recurses := true, apart := false }
def LeafTellsSaid : Prop := leafTellsRow.holds Try.pinned (OpenSpec.ofChange leafTellsSpec)

/-- ITS FALSE NEIGHBOUR: 'it returns false'. Refute it at one input. -/
def leafTellsWrong : ChangeSpec := { name := "leafTells", fn := fun _ => fun
  | [d1, d2] => { results := [.lit (.bool false)], args := [d1, d2] }
  | _ => none }
def LeafTellsWrongFalsely : Prop := leafTellsRow.holds Try.pinned (OpenSpec.ofChange leafTellsWrong)

/-- 'starlinglaw.LeafBack': WHATEVER THE INPUT: true; the input reads as it did. -/
def leafBackSpec : ChangeSpec := { name := "leafBack", fn := fun _ => fun
  | [d1, d2] => { results := [.lit (.bool true)], args := [d1, d2] }
  | _ => none }
def leafBackRow : OpenClaim := { program := "ytcecopdkaalfkaa", sum := "7c1c221ec46e5ab8d69e4257f6d58b2eefb19c4da20e6508c8437fd1a67847f1", func := "starling/starlinglaw.LeafBack", spec := "leafBack", inPlace := ["internal/abi.NoEscape"], unfollowed := true, recurses := true, apart := false }
def LeafBackSaid : Prop := leafBackRow.holds Try.pinned (OpenSpec.ofChange leafBackSpec)

/-- ITS FALSE NEIGHBOUR: 'it returns false'. Refute it at one input. -/
def leafBackWrong : ChangeSpec := { name := "leafBack", fn := fun _ => fun
  | [d1, d2] => { results := [.lit (.bool false)], args := [d1, d2] }
  | _ => none }
def LeafBackWrongFalsely : Prop := leafBackRow.holds Try.pinned (OpenSpec.ofChange leafBackWrong)

/-- 'starlinglaw.LeafOnly': WHATEVER THE INPUT: true; the input reads as it did. -/
def leafOnlySpec : ChangeSpec := { name := "leafOnly", fn := fun _ => fun
  | [d] => { results := [.lit (.bool true)], args := [d] }
  | _ => none }
def leafOnlyRow : OpenClaim := { program := "ytcecopdkaalfkaa", sum := "7c1c221ec46e5ab8d69e4257f6d58b2eefb19c4da20e6508c8437fd1a67847f1", func := "starling/starlinglaw.LeafOnly", spec := "leafOnly", inPlace := ["internal/abi.NoEscape"], unfollowed := true, recurses := true, apart := false }
def LeafOnlySaid : Prop := leafOnlyRow.holds Try.pinned (OpenSpec.ofChange leafOnlySpec)

/-- ITS FALSE NEIGHBOUR: 'it returns false'. Refute it at one input. -/
def leafOnlyWrong : ChangeSpec := { name := "leafOnly", fn := fun _ => fun
  | [d] => { results := [.lit (.bool false)], args := [d] }
  | _ => none }
def LeafOnlyWrongFalsely : Prop := leafOnlyRow.holds Try.pinned (OpenSpec.ofChange leafOnlyWrong)

/-- 'starlinglaw.FillTells': WHATEVER THE INPUT: true; the input reads as it did. -/
def fillTellsSpec : ChangeSpec := { name := "fillTells", fn := fun _ => fun
  | [d] => { results := [.lit (.bool true)], args := [d] }
  | _ => none }
def fillTellsRow : OpenClaim := { program := "ytcecopdkaalfkaa", sum := "7c1c221ec46e5ab8d69e4257f6d58b2eefb19c4da20e6508c8437fd1a67847f1", func := "starling/starlinglaw.FillTells", spec := "fillTells", inPlace := ["internal/abi.NoEscape"], unfollowed := true, recurses := true, apart := false }
def FillTellsSaid : Prop := fillTellsRow.holds Try.pinned (OpenSpec.ofChange fillTellsSpec)

/-- ITS FALSE NEIGHBOUR: 'it returns false'. Refute it at one input. -/
def fillTellsWrong : ChangeSpec := { name := "fillTells", fn := fun _ => fun
  | [d] => { results := [.lit (.bool false)], args := [d] }
  | _ => none }
def FillTellsWrongFalsely : Prop := fillTellsRow.holds Try.pinned (OpenSpec.ofChange fillTellsWrong)

/-- 'starlinglaw.FillAll': WHATEVER THE INPUT: true; the input reads as it did. -/
def fillAllSpec : ChangeSpec := { name := "fillAll", fn := fun _ => fun
  | [d] => { results := [.lit (.bool true)], args := [d] }
  | _ => none }
def fillAllRow : OpenClaim := { program := "ytcecopdkaalfkaa", sum := "7c1c221ec46e5ab8d69e4257f6d58b2eefb19c4da20e6508c8437fd1a67847f1", func := "starling/starlinglaw.FillAll", spec := "fillAll", inPlace := ["internal/abi.NoEscape"], unfollowed := true, recurses := true, apart := false }
def FillAllSaid : Prop := fillAllRow.holds Try.pinned (OpenSpec.ofChange fillAllSpec)

/-- ITS FALSE NEIGHBOUR: 'it returns false'. Refute it at one input. -/
def fillAllWrong : ChangeSpec := { name := "fillAll", fn := fun _ => fun
  | [d] => { results := [.lit (.bool false)], args := [d] }
  | _ => none }
def FillAllWrongFalsely : Prop := fillAllRow.holds Try.pinned (OpenSpec.ofChange fillAllWrong)

/- THE SECOND FORM. 'bulk': how many values and letters a reading holds, each counted each time it is reached (what is shared counts as often as it is met; a slice's spare places count too). A statement '..UptoSaid' is the law's where the arguments, and the package variables that the reading takes, are together of bulk at most 1048576: NARROWER than '..Said'. Prove '..Said' where nothing that the law and all that it calls make is longer than what came in: it says more and counts as full. Else prove '..UptoSaid'. A law counts once. -/
mutual
def uptoBulk {H : Type} : DataW H → Nat
  | .lit (.string bytes) => bytes.length + 1
  | .lit _ => 1
  | .nil => 1
  | .ptr d => uptoBulk d + 1
  | .slice elems spare => uptoBulkAll elems + uptoBulkAll spare + 1
  | .agg parts => uptoBulkAll parts + 1
  | .iface _ d => uptoBulk d + 1
  | .map entries => uptoBulkEntries entries + 1
  | .held _ => 1
def uptoBulkAll {H : Type} : List (DataW H) → Nat
  | [] => 0
  | d :: r => uptoBulk d + uptoBulkAll r
def uptoBulkEntries {H : Type} : List (Lit × DataW H) → Nat
  | [] => 0
  | x :: r => uptoBulkEntry x + uptoBulkEntries r
def uptoBulkEntry {H : Type} : Lit × DataW H → Nat
  | (.string bytes, d) => bytes.length + uptoBulk d + 1
  | (_, d) => uptoBulk d + 1
 end
def uptoSmall : (H : Type) → List (DataW H) → Bool := fun _ ds => decide (uptoBulkAll ds ≤ 1048576)
def OpenSpec.upto (s : _root_.Go.ChangeSpec) : _root_.Go.OpenSpec := { _root_.Go.OpenSpec.ofChange s with cond := some uptoSmall }

/-- 'starlinglaw.LeafTells', WHERE WHAT IT READS IS OF BULK AT MOST 1048576: true; the input reads as it did. -/
def leafTellsUptoRow : OpenClaim := { program := "ytcecopdkaalfkaa", sum := "7c1c221ec46e5ab8d69e4257f6d58b2eefb19c4da20e6508c8437fd1a67847f1", func := "starling/starlinglaw.LeafTells", spec := "leafTells", inPlace := ["internal/abi.NoEscape"], unfollowed := true, recurses := true, apart := false, narrowed := true }
def LeafTellsUptoSaid : Prop := leafTellsUptoRow.holds Try.pinned (OpenSpec.upto leafTellsSpec)

/-- 'starlinglaw.LeafBack', WHERE WHAT IT READS IS OF BULK AT MOST 1048576: true; the input reads as it did. -/
def leafBackUptoRow : OpenClaim := { program := "ytcecopdkaalfkaa", sum := "7c1c221ec46e5ab8d69e4257f6d58b2eefb19c4da20e6508c8437fd1a67847f1", func := "starling/starlinglaw.LeafBack", spec := "leafBack", inPlace := ["internal/abi.NoEscape"], unfollowed := true, recurses := true, apart := false, narrowed := true }
def LeafBackUptoSaid : Prop := leafBackUptoRow.holds Try.pinned (OpenSpec.upto leafBackSpec)

/-- 'starlinglaw.LeafOnly', WHERE WHAT IT READS IS OF BULK AT MOST 1048576: true; the input reads as it did. -/
def leafOnlyUptoRow : OpenClaim := { program := "ytcecopdkaalfkaa", sum := "7c1c221ec46e5ab8d69e4257f6d58b2eefb19c4da20e6508c8437fd1a67847f1", func := "starling/starlinglaw.LeafOnly", spec := "leafOnly", inPlace := ["internal/abi.NoEscape"], unfollowed := true, recurses := true, apart := false, narrowed := true }
def LeafOnlyUptoSaid : Prop := leafOnlyUptoRow.holds Try.pinned (OpenSpec.upto leafOnlySpec)

/-- 'starlinglaw.FillTells', WHERE WHAT IT READS IS OF BULK AT MOST 1048576: true; the input reads as it did. -/
def fillTellsUptoRow : OpenClaim := { program := "ytcecopdkaalfkaa", sum := "7c1c221ec46e5ab8d69e4257f6d58b2eefb19c4da20e6508c8437fd1a67847f1", func := "starling/starlinglaw.FillTells", spec := "fillTells", inPlace := ["internal/abi.NoEscape"], unfollowed := true, recurses := true, apart := false, narrowed := true }
def FillTellsUptoSaid : Prop := fillTellsUptoRow.holds Try.pinned (OpenSpec.upto fillTellsSpec)

/-- 'starlinglaw.FillAll', WHERE WHAT IT READS IS OF BULK AT MOST 1048576: true; the input reads as it did. -/
def fillAllUptoRow : OpenClaim := { program := "ytcecopdkaalfkaa", sum := "7c1c221ec46e5ab8d69e4257f6d58b2eefb19c4da20e6508c8437fd1a67847f1", func := "starling/starlinglaw.FillAll", spec := "fillAll", inPlace := ["internal/abi.NoEscape"], unfollowed := true, recurses := true, apart := false, narrowed := true }
def FillAllUptoSaid : Prop := fillAllUptoRow.holds Try.pinned (OpenSpec.upto fillAllSpec)

end Rows
end Go.Proofs.Ytcecopdkaalfkaa
