/-
  No cell of these rows narrows 'for every input' (looked for: loops, veiled, ifaces, maps, wideKeys, modest, calm, conditions, laid).
  DERIVED. THE GIVEN ROWS OF THIS SEAT. 9 by the template 'for every input the law returns true; each argument reads behind the call as it read before'; 0 by the template 'total and deterministic' (their statements: YthejollbijglcaaTotals.lean).
  GIVEN WITH THE SEED: the statements are not yours to turn. If you find one false, say at which input.
  Laid BY PROGRAM, IN A SANDBOX (cutbox-rows.mjs): the forced cells as the released guide's own fill.sh prints them over the translation 05182113de45dfbd… (all of the seat's roots in one cut). By AI agents, Wed Nov 11 2026. No macro, syntax, notation, axiom, sorry.
-/
import Derived.Test.YthejollbijglcaaChecked
import GoSem.Claim
import GoSem.ClaimJoined
import GoSem.ClaimMapViews
import Derived.JoinedTies
import Derived.KernelRfl
namespace Go.Proofs.Ythejollbijglcaa
/- THE CELL 'sum', in the pinned program and in every row, IS THE sha256 OF THE DUMP (.gsa) THAT YthejollbijglcaaProg.lean LOADS. Nothing in Lean hashes anything: it is a label: what it is worth is what the hold of that sum in a sandbox is worth. -/
noncomputable def Try.pinned : Pinned := { name := "ythejollbijglcaa", sum := "05182113de45dfbd2eb7694e67ac1b62552f62acffb474f8a284fb1d910add72", checked := Try.checked }
namespace Rows
def none {H : Type} : Left H := { results := [], args := [] }

/-- 'starlinglaw.TreeTells': WHATEVER THE INPUT: true; the input reads as it did. -/
def treeTellsSpec : ChangeSpec := { name := "treeTells", fn := fun _ => fun
  | [d1, d2, d3, d4] => { results := [.lit (.bool true)], args := [d1, d2, d3, d4] }
  | _ => none }
def treeTellsRow : OpenClaim := { program := "ythejollbijglcaa", sum := "05182113de45dfbd2eb7694e67ac1b62552f62acffb474f8a284fb1d910add72", func := "starling/starlinglaw.TreeTells", spec := "treeTells", inPlace := ["internal/bytealg.abigen_runtime_cmpstring", "slices.overlaps[starling/api.Pair]", "slices.overlaps[[]starling/api.Pair]", "slices.overlaps[int]"], unfollowed := true, recurses := true, apart := false }
def TreeTellsSaid : Prop := treeTellsRow.holds Try.pinned (OpenSpec.ofChange treeTellsSpec)

/-- ITS FALSE NEIGHBOUR: 'it returns false'. Refute it at one input. -/
def treeTellsWrong : ChangeSpec := { name := "treeTells", fn := fun _ => fun
  | [d1, d2, d3, d4] => { results := [.lit (.bool false)], args := [d1, d2, d3, d4] }
  | _ => none }
def TreeTellsWrongFalsely : Prop := treeTellsRow.holds Try.pinned (OpenSpec.ofChange treeTellsWrong)

/-- 'starlinglaw.TreeInserts': WHATEVER THE INPUT: true; the input reads as it did. -/
def treeInsertsSpec : ChangeSpec := { name := "treeInserts", fn := fun _ => fun
  | [d1, d2, d3] => { results := [.lit (.bool true)], args := [d1, d2, d3] }
  | _ => none }
def treeInsertsRow : OpenClaim := { program := "ythejollbijglcaa", sum := "05182113de45dfbd2eb7694e67ac1b62552f62acffb474f8a284fb1d910add72", func := "starling/starlinglaw.TreeInserts", spec := "treeInserts", inPlace := ["internal/bytealg.abigen_runtime_cmpstring", "slices.overlaps[starling/api.Pair]", "slices.overlaps[[]starling/api.Pair]", "slices.overlaps[int]"], unfollowed := true, recurses := true, apart := false }
def TreeInsertsSaid : Prop := treeInsertsRow.holds Try.pinned (OpenSpec.ofChange treeInsertsSpec)

/-- ITS FALSE NEIGHBOUR: 'it returns false'. Refute it at one input. -/
def treeInsertsWrong : ChangeSpec := { name := "treeInserts", fn := fun _ => fun
  | [d1, d2, d3] => { results := [.lit (.bool false)], args := [d1, d2, d3] }
  | _ => none }
def TreeInsertsWrongFalsely : Prop := treeInsertsRow.holds Try.pinned (OpenSpec.ofChange treeInsertsWrong)

/-- 'starlinglaw.TreeDeletes': WHATEVER THE INPUT: true; the input reads as it did. -/
def treeDeletesSpec : ChangeSpec := { name := "treeDeletes", fn := fun _ => fun
  | [d1, d2] => { results := [.lit (.bool true)], args := [d1, d2] }
  | _ => none }
def treeDeletesRow : OpenClaim := { program := "ythejollbijglcaa", sum := "05182113de45dfbd2eb7694e67ac1b62552f62acffb474f8a284fb1d910add72", func := "starling/starlinglaw.TreeDeletes", spec := "treeDeletes", inPlace := ["internal/bytealg.abigen_runtime_cmpstring", "slices.overlaps[starling/api.Pair]", "slices.overlaps[[]starling/api.Pair]", "slices.overlaps[int]"], unfollowed := true, recurses := true, apart := false }
def TreeDeletesSaid : Prop := treeDeletesRow.holds Try.pinned (OpenSpec.ofChange treeDeletesSpec)

/-- ITS FALSE NEIGHBOUR: 'it returns false'. Refute it at one input. -/
def treeDeletesWrong : ChangeSpec := { name := "treeDeletes", fn := fun _ => fun
  | [d1, d2] => { results := [.lit (.bool false)], args := [d1, d2] }
  | _ => none }
def TreeDeletesWrongFalsely : Prop := treeDeletesRow.holds Try.pinned (OpenSpec.ofChange treeDeletesWrong)

/-- 'starlinglaw.TreeMap': WHATEVER THE INPUT: true; the input reads as it did. -/
def treeMapSpec : ChangeSpec := { name := "treeMap", fn := fun _ => fun
  | [d1, d2, d3, d4] => { results := [.lit (.bool true)], args := [d1, d2, d3, d4] }
  | _ => none }
def treeMapRow : OpenClaim := { program := "ythejollbijglcaa", sum := "05182113de45dfbd2eb7694e67ac1b62552f62acffb474f8a284fb1d910add72", func := "starling/starlinglaw.TreeMap", spec := "treeMap", inPlace := ["internal/bytealg.abigen_runtime_cmpstring", "slices.overlaps[starling/api.Pair]", "slices.overlaps[[]starling/api.Pair]", "slices.overlaps[int]"], unfollowed := true, recurses := true, apart := false }
def TreeMapSaid : Prop := treeMapRow.holds Try.pinned (OpenSpec.ofChange treeMapSpec)

/-- ITS FALSE NEIGHBOUR: 'it returns false'. Refute it at one input. -/
def treeMapWrong : ChangeSpec := { name := "treeMap", fn := fun _ => fun
  | [d1, d2, d3, d4] => { results := [.lit (.bool false)], args := [d1, d2, d3, d4] }
  | _ => none }
def TreeMapWrongFalsely : Prop := treeMapRow.holds Try.pinned (OpenSpec.ofChange treeMapWrong)

/-- 'starlinglaw.TreeGone': WHATEVER THE INPUT: true; the input reads as it did. -/
def treeGoneSpec : ChangeSpec := { name := "treeGone", fn := fun _ => fun
  | [d1, d2, d3] => { results := [.lit (.bool true)], args := [d1, d2, d3] }
  | _ => none }
def treeGoneRow : OpenClaim := { program := "ythejollbijglcaa", sum := "05182113de45dfbd2eb7694e67ac1b62552f62acffb474f8a284fb1d910add72", func := "starling/starlinglaw.TreeGone", spec := "treeGone", inPlace := ["internal/bytealg.abigen_runtime_cmpstring", "slices.overlaps[starling/api.Pair]", "slices.overlaps[[]starling/api.Pair]", "slices.overlaps[int]"], unfollowed := true, recurses := true, apart := false }
def TreeGoneSaid : Prop := treeGoneRow.holds Try.pinned (OpenSpec.ofChange treeGoneSpec)

/-- ITS FALSE NEIGHBOUR: 'it returns false'. Refute it at one input. -/
def treeGoneWrong : ChangeSpec := { name := "treeGone", fn := fun _ => fun
  | [d1, d2, d3] => { results := [.lit (.bool false)], args := [d1, d2, d3] }
  | _ => none }
def TreeGoneWrongFalsely : Prop := treeGoneRow.holds Try.pinned (OpenSpec.ofChange treeGoneWrong)

/-- 'starlinglaw.TreeUndone': WHATEVER THE INPUT: true; the input reads as it did. -/
def treeUndoneSpec : ChangeSpec := { name := "treeUndone", fn := fun _ => fun
  | [d1, d2, d3] => { results := [.lit (.bool true)], args := [d1, d2, d3] }
  | _ => none }
def treeUndoneRow : OpenClaim := { program := "ythejollbijglcaa", sum := "05182113de45dfbd2eb7694e67ac1b62552f62acffb474f8a284fb1d910add72", func := "starling/starlinglaw.TreeUndone", spec := "treeUndone", inPlace := ["internal/bytealg.abigen_runtime_cmpstring", "slices.overlaps[starling/api.Pair]", "slices.overlaps[[]starling/api.Pair]", "slices.overlaps[int]"], unfollowed := true, recurses := true, apart := false }
def TreeUndoneSaid : Prop := treeUndoneRow.holds Try.pinned (OpenSpec.ofChange treeUndoneSpec)

/-- ITS FALSE NEIGHBOUR: 'it returns false'. Refute it at one input. -/
def treeUndoneWrong : ChangeSpec := { name := "treeUndone", fn := fun _ => fun
  | [d1, d2, d3] => { results := [.lit (.bool false)], args := [d1, d2, d3] }
  | _ => none }
def TreeUndoneWrongFalsely : Prop := treeUndoneRow.holds Try.pinned (OpenSpec.ofChange treeUndoneWrong)

/-- 'starlinglaw.TreeEither': WHATEVER THE INPUT: true; the input reads as it did. -/
def treeEitherSpec : ChangeSpec := { name := "treeEither", fn := fun _ => fun
  | [d1, d2, d3, d4, d5] => { results := [.lit (.bool true)], args := [d1, d2, d3, d4, d5] }
  | _ => none }
def treeEitherRow : OpenClaim := { program := "ythejollbijglcaa", sum := "05182113de45dfbd2eb7694e67ac1b62552f62acffb474f8a284fb1d910add72", func := "starling/starlinglaw.TreeEither", spec := "treeEither", inPlace := ["internal/bytealg.abigen_runtime_cmpstring", "slices.overlaps[starling/api.Pair]", "slices.overlaps[[]starling/api.Pair]", "slices.overlaps[int]"], unfollowed := true, recurses := true, apart := false }
def TreeEitherSaid : Prop := treeEitherRow.holds Try.pinned (OpenSpec.ofChange treeEitherSpec)

/-- ITS FALSE NEIGHBOUR: 'it returns false'. Refute it at one input. -/
def treeEitherWrong : ChangeSpec := { name := "treeEither", fn := fun _ => fun
  | [d1, d2, d3, d4, d5] => { results := [.lit (.bool false)], args := [d1, d2, d3, d4, d5] }
  | _ => none }
def TreeEitherWrongFalsely : Prop := treeEitherRow.holds Try.pinned (OpenSpec.ofChange treeEitherWrong)

/-- 'starlinglaw.TreeTall': WHATEVER THE INPUT: true; the input reads as it did. -/
def treeTallSpec : ChangeSpec := { name := "treeTall", fn := fun _ => fun
  | [d] => { results := [.lit (.bool true)], args := [d] }
  | _ => none }
def treeTallRow : OpenClaim := { program := "ythejollbijglcaa", sum := "05182113de45dfbd2eb7694e67ac1b62552f62acffb474f8a284fb1d910add72", func := "starling/starlinglaw.TreeTall", spec := "treeTall", inPlace := ["internal/bytealg.abigen_runtime_cmpstring", "slices.overlaps[starling/api.Pair]", "slices.overlaps[[]starling/api.Pair]", "slices.overlaps[int]"], unfollowed := true, recurses := true, apart := false }
def TreeTallSaid : Prop := treeTallRow.holds Try.pinned (OpenSpec.ofChange treeTallSpec)

/-- ITS FALSE NEIGHBOUR: 'it returns false'. Refute it at one input. -/
def treeTallWrong : ChangeSpec := { name := "treeTall", fn := fun _ => fun
  | [d] => { results := [.lit (.bool false)], args := [d] }
  | _ => none }
def TreeTallWrongFalsely : Prop := treeTallRow.holds Try.pinned (OpenSpec.ofChange treeTallWrong)

/-- 'starlinglaw.TreeSpan': WHATEVER THE INPUT: true; the input reads as it did. -/
def treeSpanSpec : ChangeSpec := { name := "treeSpan", fn := fun _ => fun
  | [d1, d2, d3, d4] => { results := [.lit (.bool true)], args := [d1, d2, d3, d4] }
  | _ => none }
def treeSpanRow : OpenClaim := { program := "ythejollbijglcaa", sum := "05182113de45dfbd2eb7694e67ac1b62552f62acffb474f8a284fb1d910add72", func := "starling/starlinglaw.TreeSpan", spec := "treeSpan", inPlace := ["internal/bytealg.abigen_runtime_cmpstring", "slices.overlaps[starling/api.Pair]", "slices.overlaps[[]starling/api.Pair]", "slices.overlaps[int]"], unfollowed := true, recurses := true, apart := false }
def TreeSpanSaid : Prop := treeSpanRow.holds Try.pinned (OpenSpec.ofChange treeSpanSpec)

/-- ITS FALSE NEIGHBOUR: 'it returns false'. Refute it at one input. -/
def treeSpanWrong : ChangeSpec := { name := "treeSpan", fn := fun _ => fun
  | [d1, d2, d3, d4] => { results := [.lit (.bool false)], args := [d1, d2, d3, d4] }
  | _ => none }
def TreeSpanWrongFalsely : Prop := treeSpanRow.holds Try.pinned (OpenSpec.ofChange treeSpanWrong)

/- THE SECOND FORM. 'bulk': how many values and letters a reading holds, each counted each time it is reached (what is shared counts as often as it is met; a slice's spare places count too). A statement '..UptoSaid' is the law's where the arguments, and the package variables that the reading takes, are together of bulk at most 1048576: NARROWER than '..Said'. Prove '..Said' where nothing that the law and all that it calls make is longer than what came in: it says more and counts as full. Else prove '..UptoSaid'. A law counts once. -/
mutual
def uptoBulk {H : Type} : DataW H → Nat
  | .lit (.string bytes) => bytes.length + 1
  | .lit _ => 1
  | .nil => 1
  | .ptr d => uptoBulk d + 1
  | .slice elems spare => uptoBulkAll elems + uptoBulkAll spare + 1
  | .agg parts => uptoBulkAll parts + 1
  | .iface _ d => uptoBulk d + 1
  | .map entries => uptoBulkEntries entries + 1
  | .held _ => 1
def uptoBulkAll {H : Type} : List (DataW H) → Nat
  | [] => 0
  | d :: r => uptoBulk d + uptoBulkAll r
def uptoBulkEntries {H : Type} : List (Lit × DataW H) → Nat
  | [] => 0
  | x :: r => uptoBulkEntry x + uptoBulkEntries r
def uptoBulkEntry {H : Type} : Lit × DataW H → Nat
  | (.string bytes, d) => bytes.length + uptoBulk d + 1
  | (_, d) => uptoBulk d + 1
 end
def uptoSmall : (H : Type) → List (DataW H) → Bool := fun _ ds => decide (uptoBulkAll ds ≤ 1048576)
def OpenSpec.upto (s : _root_.Go.ChangeSpec) : _root_.Go.OpenSpec := { _root_.Go.OpenSpec.ofChange s with cond := some uptoSmall }

/-- 'starlinglaw.TreeTells', WHERE WHAT IT READS IS OF BULK AT MOST 1048576: true; the input reads as it did. -/
def treeTellsUptoRow : OpenClaim := { program := "ythejollbijglcaa", sum := "05182113de45dfbd2eb7694e67ac1b62552f62acffb474f8a284fb1d910add72", func := "starling/starlinglaw.TreeTells", spec := "treeTells", inPlace := ["internal/bytealg.abigen_runtime_cmpstring", "slices.overlaps[starling/api.Pair]", "slices.overlaps[[]starling/api.Pair]", "slices.overlaps[int]"], unfollowed := true, recurses := true, apart := false, narrowed := true }
def TreeTellsUptoSaid : Prop := treeTellsUptoRow.holds Try.pinned (OpenSpec.upto treeTellsSpec)

/-- 'starlinglaw.TreeInserts', WHERE WHAT IT READS IS OF BULK AT MOST 1048576: true; the input reads as it did. -/
def treeInsertsUptoRow : OpenClaim := { program := "ythejollbijglcaa", sum := "05182113de45dfbd2eb7694e67ac1b62552f62acffb474f8a284fb1d910add72", func := "starling/starlinglaw.TreeInserts", spec := "treeInserts", inPlace := ["internal/bytealg.abigen_runtime_cmpstring", "slices.overlaps[starling/api.Pair]", "slices.overlaps[[]starling/api.Pair]", "slices.overlaps[int]"], unfollowed := true, recurses := true, apart := false, narrowed := true }
def TreeInsertsUptoSaid : Prop := treeInsertsUptoRow.holds Try.pinned (OpenSpec.upto treeInsertsSpec)

/-- 'starlinglaw.TreeDeletes', WHERE WHAT IT READS IS OF BULK AT MOST 1048576: true; the input reads as it did. -/
def treeDeletesUptoRow : OpenClaim := { program := "ythejollbijglcaa", sum := "05182113de45dfbd2eb7694e67ac1b62552f62acffb474f8a284fb1d910add72", func := "starling/starlinglaw.TreeDeletes", spec := "treeDeletes", inPlace := ["internal/bytealg.abigen_runtime_cmpstring", "slices.overlaps[starling/api.Pair]", "slices.overlaps[[]starling/api.Pair]", "slices.overlaps[int]"], unfollowed := true, recurses := true, apart := false, narrowed := true }
def TreeDeletesUptoSaid : Prop := treeDeletesUptoRow.holds Try.pinned (OpenSpec.upto treeDeletesSpec)

/-- 'starlinglaw.TreeMap', WHERE WHAT IT READS IS OF BULK AT MOST 1048576: true; the input reads as it did. -/
def treeMapUptoRow : OpenClaim := { program := "ythejollbijglcaa", sum := "05182113de45dfbd2eb7694e67ac1b62552f62acffb474f8a284fb1d910add72", func := "starling/starlinglaw.TreeMap", spec := "treeMap", inPlace := ["internal/bytealg.abigen_runtime_cmpstring", "slices.overlaps[starling/api.Pair]", "slices.overlaps[[]starling/api.Pair]", "slices.overlaps[int]"], unfollowed := true, recurses := true, apart := false, narrowed := true }
def TreeMapUptoSaid : Prop := treeMapUptoRow.holds Try.pinned (OpenSpec.upto treeMapSpec)

/-- 'starlinglaw.TreeGone', WHERE WHAT IT READS IS OF BULK AT MOST 1048576: true; the input reads as it did. -/
def treeGoneUptoRow : OpenClaim := { program := "ythejollbijglcaa", sum := "05182113de45dfbd2eb7694e67ac1b62552f62acffb474f8a284fb1d910add72", func := "starling/starlinglaw.TreeGone", spec := "treeGone", inPlace := ["internal/bytealg.abigen_runtime_cmpstring", "slices.overlaps[starling/api.Pair]", "slices.overlaps[[]starling/api.Pair]", "slices.overlaps[int]"], unfollowed := true, recurses := true, apart := false, narrowed := true }
def TreeGoneUptoSaid : Prop := treeGoneUptoRow.holds Try.pinned (OpenSpec.upto treeGoneSpec)

/-- 'starlinglaw.TreeUndone', WHERE WHAT IT READS IS OF BULK AT MOST 1048576: true; the input reads as it did. -/
def treeUndoneUptoRow : OpenClaim := { program := "ythejollbijglcaa", sum := "05182113de45dfbd2eb7694e67ac1b62552f62acffb474f8a284fb1d910add72", func := "starling/starlinglaw.TreeUndone", spec := "treeUndone", inPlace := ["internal/bytealg.abigen_runtime_cmpstring", "slices.overlaps[starling/api.Pair]", "slices.overlaps[[]starling/api.Pair]", "slices.overlaps[int]"], unfollowed := true, recurses := true, apart := false, narrowed := true }
def TreeUndoneUptoSaid : Prop := treeUndoneUptoRow.holds Try.pinned (OpenSpec.upto treeUndoneSpec)

/-- 'starlinglaw.TreeEither', WHERE WHAT IT READS IS OF BULK AT MOST 1048576: true; the input reads as it did. -/
def treeEitherUptoRow : OpenClaim := { program := "ythejollbijglcaa", sum := "05182113de45dfbd2eb7694e67ac1b62552f62acffb474f8a284fb1d910add72", func := "starling/starlinglaw.TreeEither", spec := "treeEither", inPlace := ["internal/bytealg.abigen_runtime_cmpstring", "slices.overlaps[starling/api.Pair]", "slices.overlaps[[]starling/api.Pair]", "slices.overlaps[int]"], unfollowed := true, recurses := true, apart := false, narrowed := true }
def TreeEitherUptoSaid : Prop := treeEitherUptoRow.holds Try.pinned (OpenSpec.upto treeEitherSpec)

/-- 'starlinglaw.TreeTall', WHERE WHAT IT READS IS OF BULK AT MOST 1048576: true; the input reads as it did. -/
def treeTallUptoRow : OpenClaim := { program := "ythejollbijglcaa", sum := "05182113de45dfbd2eb7694e67ac1b62552f62acffb474f8a284fb1d910add72", func := "starling/starlinglaw.TreeTall", spec := "treeTall", inPlace := ["internal/bytealg.abigen_runtime_cmpstring", "slices.overlaps[starling/api.Pair]", "slices.overlaps[[]starling/api.Pair]", "slices.overlaps[int]"], unfollowed := true, recurses := true, apart := false, narrowed := true }
def TreeTallUptoSaid : Prop := treeTallUptoRow.holds Try.pinned (OpenSpec.upto treeTallSpec)

/-- 'starlinglaw.TreeSpan', WHERE WHAT IT READS IS OF BULK AT MOST 1048576: true; the input reads as it did. -/
def treeSpanUptoRow : OpenClaim := { program := "ythejollbijglcaa", sum := "05182113de45dfbd2eb7694e67ac1b62552f62acffb474f8a284fb1d910add72", func := "starling/starlinglaw.TreeSpan", spec := "treeSpan", inPlace := ["internal/bytealg.abigen_runtime_cmpstring", "slices.overlaps[starling/api.Pair]", "slices.overlaps[[]starling/api.Pair]", "slices.overlaps[int]"], unfollowed := true, recurses := true, apart := false, narrowed := true }
def TreeSpanUptoSaid : Prop := treeSpanUptoRow.holds Try.pinned (OpenSpec.upto treeSpanSpec)

end Rows
end Go.Proofs.Ythejollbijglcaa
