/-
  NARROWER THAN 'FOR EVERY INPUT', by the rows' own cells (each row's printed sentence says how): FilterTells: laid · FilterBoth: laid · FilterParts: laid · FilterThree: laid · ProjectTells: laid · ProjectApart: laid · DistinctTells: laid · DistinctOnce: laid · LimitParts: laid · JoinTells: laid · JoinTurned: laid · JoinThree: laid · JoinParts: laid.
  DERIVED. THE GIVEN ROWS OF THIS SEAT. 13 by the template 'for every input the law returns true; each argument reads behind the call as it read before'; 0 by the template 'total and deterministic' (their statements: YtdgmbijjhifbeaaGreatDoorTotals.lean).
  GIVEN WITH THE SEED: the statements are not yours to turn. If you find one false, say at which input.
  Laid BY PROGRAM, IN A SANDBOX (cutbox-rows.mjs): the forced cells as the released guide's own fill.sh prints them over the translation eb9dce3b31d258ad… (all of the seat's roots in one cut). By AI agents, Wed Nov 11 2026. No macro, syntax, notation, axiom, sorry.
-/
import Derived.Test.YtdgmbijjhifbeaaGreatDoorChecked
import GoSem.PinnedTables
import GoSem.Claim
import GoSem.ClaimJoined
import GoSem.ClaimMapViews
import Derived.JoinedTies
import Derived.KernelRfl
namespace Go.Proofs.YtdgmbijjhifbeaaGreatDoor
/- THE CELL 'sum', in the pinned program and in every row, IS THE sha256 OF THE DUMP (.gsa) THAT YtdgmbijjhifbeaaGreatDoorProg.lean LOADS. Nothing in Lean hashes anything: it is a label: what it is worth is what the hold of that sum in a sandbox is worth. -/
noncomputable def Tryz.pinned : Pinned := { name := "ytdgmbijjhifbeaagreatdoor", sum := "eb9dce3b31d258ad91dd65eb9140742a0923313ae370e2382c2d49f44a04b95d", checked := Tryz.checked }
namespace Rows
def none {H : Type} : Left H := { results := [], args := [] }

/- WHAT THE LISTED PACKAGE-LEVEL VARIABLES READ AS WHEN THE CALL BEGINS. Each datum BY PROGRAM (the guide's laid-datum.mjs) off the statement by which the dump's own 'gosem.cut.vars' lays the variable. In a bare row this is a premise. The card (YtdgmbijjhifbeaaGreatDoorCards.lean) ties it to the program's text. -/
def laid_unicode_utf8_acceptRanges {H : Type} : DataW H := .agg [.agg [.lit (.int .u8 128), .lit (.int .u8 191)], .agg [.lit (.int .u8 160), .lit (.int .u8 191)], .agg [.lit (.int .u8 128), .lit (.int .u8 159)], .agg [.lit (.int .u8 144), .lit (.int .u8 191)], .agg [.lit (.int .u8 128), .lit (.int .u8 143)], .agg [.lit (.int .u8 0), .lit (.int .u8 0)], .agg [.lit (.int .u8 0), .lit (.int .u8 0)], .agg [.lit (.int .u8 0), .lit (.int .u8 0)], .agg [.lit (.int .u8 0), .lit (.int .u8 0)], .agg [.lit (.int .u8 0), .lit (.int .u8 0)], .agg [.lit (.int .u8 0), .lit (.int .u8 0)], .agg [.lit (.int .u8 0), .lit (.int .u8 0)], .agg [.lit (.int .u8 0), .lit (.int .u8 0)], .agg [.lit (.int .u8 0), .lit (.int .u8 0)], .agg [.lit (.int .u8 0), .lit (.int .u8 0)], .agg [.lit (.int .u8 0), .lit (.int .u8 0)]]
/-- One of Go's own tables, pinned by name: the form's constant. -/
def laid_unicode_utf8_first : DataW Unit := Go.Pinned.utf8First

/-- 'starlinglaw.FilterTells': WHATEVER THE INPUT: true; the input reads as it did. -/
def filterTellsSpec : ChangeSpec := { name := "filterTells", fn := fun _ => fun
  | [d1, d2, d3] => { results := [.lit (.bool true)], args := [d1, d2, d3] }
  | _ => none }
def filterTellsRow : OpenClaim := { program := "ytdgmbijjhifbeaagreatdoor", sum := "eb9dce3b31d258ad91dd65eb9140742a0923313ae370e2382c2d49f44a04b95d", func := "starling/starlinglaw.FilterTells", spec := "filterTells", inPlace := ["internal/bytealg.abigen_runtime_cmpstring", "math/bits.Add64"], unfollowed := true, recurses := true, named := ["unicode/utf8.first", "unicode/utf8.acceptRanges"], apart := false, laid := [("unicode/utf8.acceptRanges", laid_unicode_utf8_acceptRanges), ("unicode/utf8.first", laid_unicode_utf8_first)] }
def FilterTellsSaid : Prop := filterTellsRow.holds Tryz.pinned (OpenSpec.ofChange filterTellsSpec)

/-- ITS FALSE NEIGHBOUR: 'it returns false'. Refute it at one input. -/
def filterTellsWrong : ChangeSpec := { name := "filterTells", fn := fun _ => fun
  | [d1, d2, d3] => { results := [.lit (.bool false)], args := [d1, d2, d3] }
  | _ => none }
def FilterTellsWrongFalsely : Prop := filterTellsRow.holds Tryz.pinned (OpenSpec.ofChange filterTellsWrong)

/-- 'starlinglaw.FilterBoth': WHATEVER THE INPUT: true; the input reads as it did. -/
def filterBothSpec : ChangeSpec := { name := "filterBoth", fn := fun _ => fun
  | [d1, d2, d3, d4] => { results := [.lit (.bool true)], args := [d1, d2, d3, d4] }
  | _ => none }
def filterBothRow : OpenClaim := { program := "ytdgmbijjhifbeaagreatdoor", sum := "eb9dce3b31d258ad91dd65eb9140742a0923313ae370e2382c2d49f44a04b95d", func := "starling/starlinglaw.FilterBoth", spec := "filterBoth", inPlace := ["internal/bytealg.abigen_runtime_cmpstring", "math/bits.Add64"], unfollowed := true, recurses := true, named := ["unicode/utf8.first", "unicode/utf8.acceptRanges"], apart := false, laid := [("unicode/utf8.acceptRanges", laid_unicode_utf8_acceptRanges), ("unicode/utf8.first", laid_unicode_utf8_first)] }
def FilterBothSaid : Prop := filterBothRow.holds Tryz.pinned (OpenSpec.ofChange filterBothSpec)

/-- ITS FALSE NEIGHBOUR: 'it returns false'. Refute it at one input. -/
def filterBothWrong : ChangeSpec := { name := "filterBoth", fn := fun _ => fun
  | [d1, d2, d3, d4] => { results := [.lit (.bool false)], args := [d1, d2, d3, d4] }
  | _ => none }
def FilterBothWrongFalsely : Prop := filterBothRow.holds Tryz.pinned (OpenSpec.ofChange filterBothWrong)

/-- 'starlinglaw.FilterParts': WHATEVER THE INPUT: true; the input reads as it did. -/
def filterPartsSpec : ChangeSpec := { name := "filterParts", fn := fun _ => fun
  | [d1, d2, d3, d4] => { results := [.lit (.bool true)], args := [d1, d2, d3, d4] }
  | _ => none }
def filterPartsRow : OpenClaim := { program := "ytdgmbijjhifbeaagreatdoor", sum := "eb9dce3b31d258ad91dd65eb9140742a0923313ae370e2382c2d49f44a04b95d", func := "starling/starlinglaw.FilterParts", spec := "filterParts", inPlace := ["internal/bytealg.abigen_runtime_cmpstring", "math/bits.Add64"], unfollowed := true, recurses := true, named := ["unicode/utf8.first", "unicode/utf8.acceptRanges"], apart := false, laid := [("unicode/utf8.acceptRanges", laid_unicode_utf8_acceptRanges), ("unicode/utf8.first", laid_unicode_utf8_first)] }
def FilterPartsSaid : Prop := filterPartsRow.holds Tryz.pinned (OpenSpec.ofChange filterPartsSpec)

/-- ITS FALSE NEIGHBOUR: 'it returns false'. Refute it at one input. -/
def filterPartsWrong : ChangeSpec := { name := "filterParts", fn := fun _ => fun
  | [d1, d2, d3, d4] => { results := [.lit (.bool false)], args := [d1, d2, d3, d4] }
  | _ => none }
def FilterPartsWrongFalsely : Prop := filterPartsRow.holds Tryz.pinned (OpenSpec.ofChange filterPartsWrong)

/-- 'starlinglaw.FilterThree': WHATEVER THE INPUT: true; the input reads as it did. -/
def filterThreeSpec : ChangeSpec := { name := "filterThree", fn := fun _ => fun
  | [d1, d2, d3] => { results := [.lit (.bool true)], args := [d1, d2, d3] }
  | _ => none }
def filterThreeRow : OpenClaim := { program := "ytdgmbijjhifbeaagreatdoor", sum := "eb9dce3b31d258ad91dd65eb9140742a0923313ae370e2382c2d49f44a04b95d", func := "starling/starlinglaw.FilterThree", spec := "filterThree", inPlace := ["internal/bytealg.abigen_runtime_cmpstring", "math/bits.Add64"], unfollowed := true, recurses := true, named := ["unicode/utf8.first", "unicode/utf8.acceptRanges"], apart := false, laid := [("unicode/utf8.acceptRanges", laid_unicode_utf8_acceptRanges), ("unicode/utf8.first", laid_unicode_utf8_first)] }
def FilterThreeSaid : Prop := filterThreeRow.holds Tryz.pinned (OpenSpec.ofChange filterThreeSpec)

/-- ITS FALSE NEIGHBOUR: 'it returns false'. Refute it at one input. -/
def filterThreeWrong : ChangeSpec := { name := "filterThree", fn := fun _ => fun
  | [d1, d2, d3] => { results := [.lit (.bool false)], args := [d1, d2, d3] }
  | _ => none }
def FilterThreeWrongFalsely : Prop := filterThreeRow.holds Tryz.pinned (OpenSpec.ofChange filterThreeWrong)

/-- 'starlinglaw.ProjectTells': WHATEVER THE INPUT: true; the input reads as it did. -/
def projectTellsSpec : ChangeSpec := { name := "projectTells", fn := fun _ => fun
  | [d1, d2, d3] => { results := [.lit (.bool true)], args := [d1, d2, d3] }
  | _ => none }
def projectTellsRow : OpenClaim := { program := "ytdgmbijjhifbeaagreatdoor", sum := "eb9dce3b31d258ad91dd65eb9140742a0923313ae370e2382c2d49f44a04b95d", func := "starling/starlinglaw.ProjectTells", spec := "projectTells", inPlace := ["internal/bytealg.abigen_runtime_cmpstring", "math/bits.Add64"], unfollowed := true, recurses := true, named := ["unicode/utf8.first", "unicode/utf8.acceptRanges"], apart := false, laid := [("unicode/utf8.acceptRanges", laid_unicode_utf8_acceptRanges), ("unicode/utf8.first", laid_unicode_utf8_first)] }
def ProjectTellsSaid : Prop := projectTellsRow.holds Tryz.pinned (OpenSpec.ofChange projectTellsSpec)

/-- ITS FALSE NEIGHBOUR: 'it returns false'. Refute it at one input. -/
def projectTellsWrong : ChangeSpec := { name := "projectTells", fn := fun _ => fun
  | [d1, d2, d3] => { results := [.lit (.bool false)], args := [d1, d2, d3] }
  | _ => none }
def ProjectTellsWrongFalsely : Prop := projectTellsRow.holds Tryz.pinned (OpenSpec.ofChange projectTellsWrong)

/-- 'starlinglaw.ProjectApart': WHATEVER THE INPUT: true; the input reads as it did. -/
def projectApartSpec : ChangeSpec := { name := "projectApart", fn := fun _ => fun
  | [d1, d2, d3, d4] => { results := [.lit (.bool true)], args := [d1, d2, d3, d4] }
  | _ => none }
def projectApartRow : OpenClaim := { program := "ytdgmbijjhifbeaagreatdoor", sum := "eb9dce3b31d258ad91dd65eb9140742a0923313ae370e2382c2d49f44a04b95d", func := "starling/starlinglaw.ProjectApart", spec := "projectApart", inPlace := ["internal/bytealg.abigen_runtime_cmpstring", "math/bits.Add64"], unfollowed := true, recurses := true, named := ["unicode/utf8.first", "unicode/utf8.acceptRanges"], apart := false, laid := [("unicode/utf8.acceptRanges", laid_unicode_utf8_acceptRanges), ("unicode/utf8.first", laid_unicode_utf8_first)] }
def ProjectApartSaid : Prop := projectApartRow.holds Tryz.pinned (OpenSpec.ofChange projectApartSpec)

/-- ITS FALSE NEIGHBOUR: 'it returns false'. Refute it at one input. -/
def projectApartWrong : ChangeSpec := { name := "projectApart", fn := fun _ => fun
  | [d1, d2, d3, d4] => { results := [.lit (.bool false)], args := [d1, d2, d3, d4] }
  | _ => none }
def ProjectApartWrongFalsely : Prop := projectApartRow.holds Tryz.pinned (OpenSpec.ofChange projectApartWrong)

/-- 'starlinglaw.DistinctTells': WHATEVER THE INPUT: true; the input reads as it did. -/
def distinctTellsSpec : ChangeSpec := { name := "distinctTells", fn := fun _ => fun
  | [d1, d2, d3] => { results := [.lit (.bool true)], args := [d1, d2, d3] }
  | _ => none }
def distinctTellsRow : OpenClaim := { program := "ytdgmbijjhifbeaagreatdoor", sum := "eb9dce3b31d258ad91dd65eb9140742a0923313ae370e2382c2d49f44a04b95d", func := "starling/starlinglaw.DistinctTells", spec := "distinctTells", inPlace := ["internal/bytealg.abigen_runtime_cmpstring", "math/bits.Add64"], unfollowed := true, recurses := true, named := ["unicode/utf8.first", "unicode/utf8.acceptRanges"], apart := false, laid := [("unicode/utf8.acceptRanges", laid_unicode_utf8_acceptRanges), ("unicode/utf8.first", laid_unicode_utf8_first)] }
def DistinctTellsSaid : Prop := distinctTellsRow.holds Tryz.pinned (OpenSpec.ofChange distinctTellsSpec)

/-- ITS FALSE NEIGHBOUR: 'it returns false'. Refute it at one input. -/
def distinctTellsWrong : ChangeSpec := { name := "distinctTells", fn := fun _ => fun
  | [d1, d2, d3] => { results := [.lit (.bool false)], args := [d1, d2, d3] }
  | _ => none }
def DistinctTellsWrongFalsely : Prop := distinctTellsRow.holds Tryz.pinned (OpenSpec.ofChange distinctTellsWrong)

/-- 'starlinglaw.DistinctOnce': WHATEVER THE INPUT: true; the input reads as it did. -/
def distinctOnceSpec : ChangeSpec := { name := "distinctOnce", fn := fun _ => fun
  | [d1, d2] => { results := [.lit (.bool true)], args := [d1, d2] }
  | _ => none }
def distinctOnceRow : OpenClaim := { program := "ytdgmbijjhifbeaagreatdoor", sum := "eb9dce3b31d258ad91dd65eb9140742a0923313ae370e2382c2d49f44a04b95d", func := "starling/starlinglaw.DistinctOnce", spec := "distinctOnce", inPlace := ["internal/bytealg.abigen_runtime_cmpstring", "math/bits.Add64"], unfollowed := true, recurses := true, named := ["unicode/utf8.first", "unicode/utf8.acceptRanges"], apart := false, laid := [("unicode/utf8.acceptRanges", laid_unicode_utf8_acceptRanges), ("unicode/utf8.first", laid_unicode_utf8_first)] }
def DistinctOnceSaid : Prop := distinctOnceRow.holds Tryz.pinned (OpenSpec.ofChange distinctOnceSpec)

/-- ITS FALSE NEIGHBOUR: 'it returns false'. Refute it at one input. -/
def distinctOnceWrong : ChangeSpec := { name := "distinctOnce", fn := fun _ => fun
  | [d1, d2] => { results := [.lit (.bool false)], args := [d1, d2] }
  | _ => none }
def DistinctOnceWrongFalsely : Prop := distinctOnceRow.holds Tryz.pinned (OpenSpec.ofChange distinctOnceWrong)

/-- 'starlinglaw.LimitParts': WHATEVER THE INPUT: true; the input reads as it did. -/
def limitPartsSpec : ChangeSpec := { name := "limitParts", fn := fun _ => fun
  | [d1, d2, d3, d4] => { results := [.lit (.bool true)], args := [d1, d2, d3, d4] }
  | _ => none }
def limitPartsRow : OpenClaim := { program := "ytdgmbijjhifbeaagreatdoor", sum := "eb9dce3b31d258ad91dd65eb9140742a0923313ae370e2382c2d49f44a04b95d", func := "starling/starlinglaw.LimitParts", spec := "limitParts", inPlace := ["internal/bytealg.abigen_runtime_cmpstring", "math/bits.Add64"], unfollowed := true, recurses := true, named := ["unicode/utf8.first", "unicode/utf8.acceptRanges"], apart := false, laid := [("unicode/utf8.acceptRanges", laid_unicode_utf8_acceptRanges), ("unicode/utf8.first", laid_unicode_utf8_first)] }
def LimitPartsSaid : Prop := limitPartsRow.holds Tryz.pinned (OpenSpec.ofChange limitPartsSpec)

/-- ITS FALSE NEIGHBOUR: 'it returns false'. Refute it at one input. -/
def limitPartsWrong : ChangeSpec := { name := "limitParts", fn := fun _ => fun
  | [d1, d2, d3, d4] => { results := [.lit (.bool false)], args := [d1, d2, d3, d4] }
  | _ => none }
def LimitPartsWrongFalsely : Prop := limitPartsRow.holds Tryz.pinned (OpenSpec.ofChange limitPartsWrong)

/-- 'starlinglaw.JoinTells': WHATEVER THE INPUT: true; the input reads as it did. -/
def joinTellsSpec : ChangeSpec := { name := "joinTells", fn := fun _ => fun
  | [d1, d2] => { results := [.lit (.bool true)], args := [d1, d2] }
  | _ => none }
def joinTellsRow : OpenClaim := { program := "ytdgmbijjhifbeaagreatdoor", sum := "eb9dce3b31d258ad91dd65eb9140742a0923313ae370e2382c2d49f44a04b95d", func := "starling/starlinglaw.JoinTells", spec := "joinTells", inPlace := ["internal/bytealg.abigen_runtime_cmpstring", "math/bits.Add64"], unfollowed := true, recurses := true, named := ["unicode/utf8.first", "unicode/utf8.acceptRanges"], apart := false, laid := [("unicode/utf8.acceptRanges", laid_unicode_utf8_acceptRanges), ("unicode/utf8.first", laid_unicode_utf8_first)] }
def JoinTellsSaid : Prop := joinTellsRow.holds Tryz.pinned (OpenSpec.ofChange joinTellsSpec)

/-- ITS FALSE NEIGHBOUR: 'it returns false'. Refute it at one input. -/
def joinTellsWrong : ChangeSpec := { name := "joinTells", fn := fun _ => fun
  | [d1, d2] => { results := [.lit (.bool false)], args := [d1, d2] }
  | _ => none }
def JoinTellsWrongFalsely : Prop := joinTellsRow.holds Tryz.pinned (OpenSpec.ofChange joinTellsWrong)

/-- 'starlinglaw.JoinTurned': WHATEVER THE INPUT: true; the input reads as it did. -/
def joinTurnedSpec : ChangeSpec := { name := "joinTurned", fn := fun _ => fun
  | [d1, d2] => { results := [.lit (.bool true)], args := [d1, d2] }
  | _ => none }
def joinTurnedRow : OpenClaim := { program := "ytdgmbijjhifbeaagreatdoor", sum := "eb9dce3b31d258ad91dd65eb9140742a0923313ae370e2382c2d49f44a04b95d", func := "starling/starlinglaw.JoinTurned", spec := "joinTurned", inPlace := ["internal/bytealg.abigen_runtime_cmpstring", "math/bits.Add64"], unfollowed := true, recurses := true, named := ["unicode/utf8.first", "unicode/utf8.acceptRanges"], apart := false, laid := [("unicode/utf8.acceptRanges", laid_unicode_utf8_acceptRanges), ("unicode/utf8.first", laid_unicode_utf8_first)] }
def JoinTurnedSaid : Prop := joinTurnedRow.holds Tryz.pinned (OpenSpec.ofChange joinTurnedSpec)

/-- ITS FALSE NEIGHBOUR: 'it returns false'. Refute it at one input. -/
def joinTurnedWrong : ChangeSpec := { name := "joinTurned", fn := fun _ => fun
  | [d1, d2] => { results := [.lit (.bool false)], args := [d1, d2] }
  | _ => none }
def JoinTurnedWrongFalsely : Prop := joinTurnedRow.holds Tryz.pinned (OpenSpec.ofChange joinTurnedWrong)

/-- 'starlinglaw.JoinThree': WHATEVER THE INPUT: true; the input reads as it did. -/
def joinThreeSpec : ChangeSpec := { name := "joinThree", fn := fun _ => fun
  | [d1, d2, d3] => { results := [.lit (.bool true)], args := [d1, d2, d3] }
  | _ => none }
def joinThreeRow : OpenClaim := { program := "ytdgmbijjhifbeaagreatdoor", sum := "eb9dce3b31d258ad91dd65eb9140742a0923313ae370e2382c2d49f44a04b95d", func := "starling/starlinglaw.JoinThree", spec := "joinThree", inPlace := ["internal/bytealg.abigen_runtime_cmpstring", "math/bits.Add64"], unfollowed := true, recurses := true, named := ["unicode/utf8.first", "unicode/utf8.acceptRanges"], apart := false, laid := [("unicode/utf8.acceptRanges", laid_unicode_utf8_acceptRanges), ("unicode/utf8.first", laid_unicode_utf8_first)] }
def JoinThreeSaid : Prop := joinThreeRow.holds Tryz.pinned (OpenSpec.ofChange joinThreeSpec)

/-- ITS FALSE NEIGHBOUR: 'it returns false'. Refute it at one input. -/
def joinThreeWrong : ChangeSpec := { name := "joinThree", fn := fun _ => fun
  | [d1, d2, d3] => { results := [.lit (.bool false)], args := [d1, d2, d3] }
  | _ => none }
def JoinThreeWrongFalsely : Prop := joinThreeRow.holds Tryz.pinned (OpenSpec.ofChange joinThreeWrong)

/-- 'starlinglaw.JoinParts': WHATEVER THE INPUT: true; the input reads as it did. -/
def joinPartsSpec : ChangeSpec := { name := "joinParts", fn := fun _ => fun
  | [d1, d2, d3] => { results := [.lit (.bool true)], args := [d1, d2, d3] }
  | _ => none }
def joinPartsRow : OpenClaim := { program := "ytdgmbijjhifbeaagreatdoor", sum := "eb9dce3b31d258ad91dd65eb9140742a0923313ae370e2382c2d49f44a04b95d", func := "starling/starlinglaw.JoinParts", spec := "joinParts", inPlace := ["internal/bytealg.abigen_runtime_cmpstring", "math/bits.Add64"], unfollowed := true, recurses := true, named := ["unicode/utf8.first", "unicode/utf8.acceptRanges"], apart := false, laid := [("unicode/utf8.acceptRanges", laid_unicode_utf8_acceptRanges), ("unicode/utf8.first", laid_unicode_utf8_first)] }
def JoinPartsSaid : Prop := joinPartsRow.holds Tryz.pinned (OpenSpec.ofChange joinPartsSpec)

/-- ITS FALSE NEIGHBOUR: 'it returns false'. Refute it at one input. -/
def joinPartsWrong : ChangeSpec := { name := "joinParts", fn := fun _ => fun
  | [d1, d2, d3] => { results := [.lit (.bool false)], args := [d1, d2, d3] }
  | _ => none }
def JoinPartsWrongFalsely : Prop := joinPartsRow.holds Tryz.pinned (OpenSpec.ofChange joinPartsWrong)

/- THE SECOND FORM. 'bulk': how many values and letters a reading holds, each counted each time it is reached (what is shared counts as often as it is met; a slice's spare places count too). A statement '..UptoSaid' is the law's where the arguments, and the package variables that the reading takes, are together of bulk at most 1048576: NARROWER than '..Said'. Prove '..Said' where nothing that the law and all that it calls make is longer than what came in: it says more and counts as full. Else prove '..UptoSaid'. A law counts once. -/
mutual
def uptoBulk {H : Type} : DataW H → Nat
  | .lit (.string bytes) => bytes.length + 1
  | .lit _ => 1
  | .nil => 1
  | .ptr d => uptoBulk d + 1
  | .slice elems spare => uptoBulkAll elems + uptoBulkAll spare + 1
  | .agg parts => uptoBulkAll parts + 1
  | .iface _ d => uptoBulk d + 1
  | .map entries => uptoBulkEntries entries + 1
  | .held _ => 1
def uptoBulkAll {H : Type} : List (DataW H) → Nat
  | [] => 0
  | d :: r => uptoBulk d + uptoBulkAll r
def uptoBulkEntries {H : Type} : List (Lit × DataW H) → Nat
  | [] => 0
  | x :: r => uptoBulkEntry x + uptoBulkEntries r
def uptoBulkEntry {H : Type} : Lit × DataW H → Nat
  | (.string bytes, d) => bytes.length + uptoBulk d + 1
  | (_, d) => uptoBulk d + 1
 end
def uptoSmall : (H : Type) → List (DataW H) → Bool := fun _ ds => decide (uptoBulkAll ds ≤ 1048576)
def OpenSpec.upto (s : _root_.Go.ChangeSpec) : _root_.Go.OpenSpec := { _root_.Go.OpenSpec.ofChange s with cond := some uptoSmall }

/-- 'starlinglaw.FilterTells', WHERE WHAT IT READS IS OF BULK AT MOST 1048576: true; the input reads as it did. -/
def filterTellsUptoRow : OpenClaim := { program := "ytdgmbijjhifbeaagreatdoor", sum := "eb9dce3b31d258ad91dd65eb9140742a0923313ae370e2382c2d49f44a04b95d", func := "starling/starlinglaw.FilterTells", spec := "filterTells", inPlace := ["internal/bytealg.abigen_runtime_cmpstring", "math/bits.Add64"], unfollowed := true, recurses := true, named := ["unicode/utf8.first", "unicode/utf8.acceptRanges"], apart := false, laid := [("unicode/utf8.acceptRanges", laid_unicode_utf8_acceptRanges), ("unicode/utf8.first", laid_unicode_utf8_first)], narrowed := true }
def FilterTellsUptoSaid : Prop := filterTellsUptoRow.holds Tryz.pinned (OpenSpec.upto filterTellsSpec)

/-- 'starlinglaw.FilterBoth', WHERE WHAT IT READS IS OF BULK AT MOST 1048576: true; the input reads as it did. -/
def filterBothUptoRow : OpenClaim := { program := "ytdgmbijjhifbeaagreatdoor", sum := "eb9dce3b31d258ad91dd65eb9140742a0923313ae370e2382c2d49f44a04b95d", func := "starling/starlinglaw.FilterBoth", spec := "filterBoth", inPlace := ["internal/bytealg.abigen_runtime_cmpstring", "math/bits.Add64"], unfollowed := true, recurses := true, named := ["unicode/utf8.first", "unicode/utf8.acceptRanges"], apart := false, laid := [("unicode/utf8.acceptRanges", laid_unicode_utf8_acceptRanges), ("unicode/utf8.first", laid_unicode_utf8_first)], narrowed := true }
def FilterBothUptoSaid : Prop := filterBothUptoRow.holds Tryz.pinned (OpenSpec.upto filterBothSpec)

/-- 'starlinglaw.FilterParts', WHERE WHAT IT READS IS OF BULK AT MOST 1048576: true; the input reads as it did. -/
def filterPartsUptoRow : OpenClaim := { program := "ytdgmbijjhifbeaagreatdoor", sum := "eb9dce3b31d258ad91dd65eb9140742a0923313ae370e2382c2d49f44a04b95d", func := "starling/starlinglaw.FilterParts", spec := "filterParts", inPlace := ["internal/bytealg.abigen_runtime_cmpstring", "math/bits.Add64"], unfollowed := true, recurses := true, named := ["unicode/utf8.first", "unicode/utf8.acceptRanges"], apart := false, laid := [("unicode/utf8.acceptRanges", laid_unicode_utf8_acceptRanges), ("unicode/utf8.first", laid_unicode_utf8_first)], narrowed := true }
def FilterPartsUptoSaid : Prop := filterPartsUptoRow.holds Tryz.pinned (OpenSpec.upto filterPartsSpec)

/-- 'starlinglaw.FilterThree', WHERE WHAT IT READS IS OF BULK AT MOST 1048576: true; the input reads as it did. -/
def filterThreeUptoRow : OpenClaim := { program := "ytdgmbijjhifbeaagreatdoor", sum := "eb9dce3b31d258ad91dd65eb9140742a0923313ae370e2382c2d49f44a04b95d", func := "starling/starlinglaw.FilterThree", spec := "filterThree", inPlace := ["internal/bytealg.abigen_runtime_cmpstring", "math/bits.Add64"], unfollowed := true, recurses := true, named := ["unicode/utf8.first", "unicode/utf8.acceptRanges"], apart := false, laid := [("unicode/utf8.acceptRanges", laid_unicode_utf8_acceptRanges), ("unicode/utf8.first", laid_unicode_utf8_first)], narrowed := true }
def FilterThreeUptoSaid : Prop := filterThreeUptoRow.holds Tryz.pinned (OpenSpec.upto filterThreeSpec)

/-- 'starlinglaw.ProjectTells', WHERE WHAT IT READS IS OF BULK AT MOST 1048576: true; the input reads as it did. -/
def projectTellsUptoRow : OpenClaim := { program := "ytdgmbijjhifbeaagreatdoor", sum := "eb9dce3b31d258ad91dd65eb9140742a0923313ae370e2382c2d49f44a04b95d", func := "starling/starlinglaw.ProjectTells", spec := "projectTells", inPlace := ["internal/bytealg.abigen_runtime_cmpstring", "math/bits.Add64"], unfollowed := true, recurses := true, named := ["unicode/utf8.first", "unicode/utf8.acceptRanges"], apart := false, laid := [("unicode/utf8.acceptRanges", laid_unicode_utf8_acceptRanges), ("unicode/utf8.first", laid_unicode_utf8_first)], narrowed := true }
def ProjectTellsUptoSaid : Prop := projectTellsUptoRow.holds Tryz.pinned (OpenSpec.upto projectTellsSpec)

/-- 'starlinglaw.ProjectApart', WHERE WHAT IT READS IS OF BULK AT MOST 1048576: true; the input reads as it did. -/
def projectApartUptoRow : OpenClaim := { program := "ytdgmbijjhifbeaagreatdoor", sum := "eb9dce3b31d258ad91dd65eb9140742a0923313ae370e2382c2d49f44a04b95d", func := "starling/starlinglaw.ProjectApart", spec := "projectApart", inPlace := ["internal/bytealg.abigen_runtime_cmpstring", "math/bits.Add64"], unfollowed := true, recurses := true, named := ["unicode/utf8.first", "unicode/utf8.acceptRanges"], apart := false, laid := [("unicode/utf8.acceptRanges", laid_unicode_utf8_acceptRanges), ("unicode/utf8.first", laid_unicode_utf8_first)], narrowed := true }
def ProjectApartUptoSaid : Prop := projectApartUptoRow.holds Tryz.pinned (OpenSpec.upto projectApartSpec)

/-- 'starlinglaw.DistinctTells', WHERE WHAT IT READS IS OF BULK AT MOST 1048576: true; the input reads as it did. -/
def distinctTellsUptoRow : OpenClaim := { program := "ytdgmbijjhifbeaagreatdoor", sum := "eb9dce3b31d258ad91dd65eb9140742a0923313ae370e2382c2d49f44a04b95d", func := "starling/starlinglaw.DistinctTells", spec := "distinctTells", inPlace := ["internal/bytealg.abigen_runtime_cmpstring", "math/bits.Add64"], unfollowed := true, recurses := true, named := ["unicode/utf8.first", "unicode/utf8.acceptRanges"], apart := false, laid := [("unicode/utf8.acceptRanges", laid_unicode_utf8_acceptRanges), ("unicode/utf8.first", laid_unicode_utf8_first)], narrowed := true }
def DistinctTellsUptoSaid : Prop := distinctTellsUptoRow.holds Tryz.pinned (OpenSpec.upto distinctTellsSpec)

/-- 'starlinglaw.DistinctOnce', WHERE WHAT IT READS IS OF BULK AT MOST 1048576: true; the input reads as it did. -/
def distinctOnceUptoRow : OpenClaim := { program := "ytdgmbijjhifbeaagreatdoor", sum := "eb9dce3b31d258ad91dd65eb9140742a0923313ae370e2382c2d49f44a04b95d", func := "starling/starlinglaw.DistinctOnce", spec := "distinctOnce", inPlace := ["internal/bytealg.abigen_runtime_cmpstring", "math/bits.Add64"], unfollowed := true, recurses := true, named := ["unicode/utf8.first", "unicode/utf8.acceptRanges"], apart := false, laid := [("unicode/utf8.acceptRanges", laid_unicode_utf8_acceptRanges), ("unicode/utf8.first", laid_unicode_utf8_first)], narrowed := true }
def DistinctOnceUptoSaid : Prop := distinctOnceUptoRow.holds Tryz.pinned (OpenSpec.upto distinctOnceSpec)

/-- 'starlinglaw.LimitParts', WHERE WHAT IT READS IS OF BULK AT MOST 1048576: true; the input reads as it did. -/
def limitPartsUptoRow : OpenClaim := { program := "ytdgmbijjhifbeaagreatdoor", sum := "eb9dce3b31d258ad91dd65eb9140742a0923313ae370e2382c2d49f44a04b95d", func := "starling/starlinglaw.LimitParts", spec := "limitParts", inPlace := ["internal/bytealg.abigen_runtime_cmpstring", "math/bits.Add64"], unfollowed := true, recurses := true, named := ["unicode/utf8.first", "unicode/utf8.acceptRanges"], apart := false, laid := [("unicode/utf8.acceptRanges", laid_unicode_utf8_acceptRanges), ("unicode/utf8.first", laid_unicode_utf8_first)], narrowed := true }
def LimitPartsUptoSaid : Prop := limitPartsUptoRow.holds Tryz.pinned (OpenSpec.upto limitPartsSpec)

/-- 'starlinglaw.JoinTells', WHERE WHAT IT READS IS OF BULK AT MOST 1048576: true; the input reads as it did. -/
def joinTellsUptoRow : OpenClaim := { program := "ytdgmbijjhifbeaagreatdoor", sum := "eb9dce3b31d258ad91dd65eb9140742a0923313ae370e2382c2d49f44a04b95d", func := "starling/starlinglaw.JoinTells", spec := "joinTells", inPlace := ["internal/bytealg.abigen_runtime_cmpstring", "math/bits.Add64"], unfollowed := true, recurses := true, named := ["unicode/utf8.first", "unicode/utf8.acceptRanges"], apart := false, laid := [("unicode/utf8.acceptRanges", laid_unicode_utf8_acceptRanges), ("unicode/utf8.first", laid_unicode_utf8_first)], narrowed := true }
def JoinTellsUptoSaid : Prop := joinTellsUptoRow.holds Tryz.pinned (OpenSpec.upto joinTellsSpec)

/-- 'starlinglaw.JoinTurned', WHERE WHAT IT READS IS OF BULK AT MOST 1048576: true; the input reads as it did. -/
def joinTurnedUptoRow : OpenClaim := { program := "ytdgmbijjhifbeaagreatdoor", sum := "eb9dce3b31d258ad91dd65eb9140742a0923313ae370e2382c2d49f44a04b95d", func := "starling/starlinglaw.JoinTurned", spec := "joinTurned", inPlace := ["internal/bytealg.abigen_runtime_cmpstring", "math/bits.Add64"], unfollowed := true, recurses := true, named := ["unicode/utf8.first", "unicode/utf8.acceptRanges"], apart := false, laid := [("unicode/utf8.acceptRanges", laid_unicode_utf8_acceptRanges), ("unicode/utf8.first", laid_unicode_utf8_first)], narrowed := true }
def JoinTurnedUptoSaid : Prop := joinTurnedUptoRow.holds Tryz.pinned (OpenSpec.upto joinTurnedSpec)

/-- 'starlinglaw.JoinThree', WHERE WHAT IT READS IS OF BULK AT MOST 1048576: true; the input reads as it did. -/
def joinThreeUptoRow : OpenClaim := { program := "ytdgmbijjhifbeaagreatdoor", sum := "eb9dce3b31d258ad91dd65eb9140742a0923313ae370e2382c2d49f44a04b95d", func := "starling/starlinglaw.JoinThree", spec := "joinThree", inPlace := ["internal/bytealg.abigen_runtime_cmpstring", "math/bits.Add64"], unfollowed := true, recurses := true, named := ["unicode/utf8.first", "unicode/utf8.acceptRanges"], apart := false, laid := [("unicode/utf8.acceptRanges", laid_unicode_utf8_acceptRanges), ("unicode/utf8.first", laid_unicode_utf8_first)], narrowed := true }
def JoinThreeUptoSaid : Prop := joinThreeUptoRow.holds Tryz.pinned (OpenSpec.upto joinThreeSpec)

/-- 'starlinglaw.JoinParts', WHERE WHAT IT READS IS OF BULK AT MOST 1048576: true; the input reads as it did. -/
def joinPartsUptoRow : OpenClaim := { program := "ytdgmbijjhifbeaagreatdoor", sum := "eb9dce3b31d258ad91dd65eb9140742a0923313ae370e2382c2d49f44a04b95d", func := "starling/starlinglaw.JoinParts", spec := "joinParts", inPlace := ["internal/bytealg.abigen_runtime_cmpstring", "math/bits.Add64"], unfollowed := true, recurses := true, named := ["unicode/utf8.first", "unicode/utf8.acceptRanges"], apart := false, laid := [("unicode/utf8.acceptRanges", laid_unicode_utf8_acceptRanges), ("unicode/utf8.first", laid_unicode_utf8_first)], narrowed := true }
def JoinPartsUptoSaid : Prop := joinPartsUptoRow.holds Tryz.pinned (OpenSpec.upto joinPartsSpec)

end Rows
end Go.Proofs.YtdgmbijjhifbeaaGreatDoor
