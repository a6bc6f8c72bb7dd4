/-
  No cell of these rows narrows 'for every input' (looked for: loops, veiled, ifaces, maps, wideKeys, modest, calm, conditions, laid).
  DERIVED. THE GIVEN ROWS OF THIS SEAT. 7 by the template 'for every input the law returns true; each argument reads behind the call as it read before'; 0 by the template 'total and deterministic' (their statements: YtplgobljgmlpkaaTotals.lean).
  GIVEN WITH THE SEED: the statements are not yours to turn. If you find one false, say at which input.
  Laid BY PROGRAM, IN A SANDBOX (cutbox-rows.mjs): the forced cells as the released guide's own fill.sh prints them over the translation 6def954f96b30962… (all of the seat's roots in one cut). By AI agents, Wed Nov 11 2026. No macro, syntax, notation, axiom, sorry.
-/
import Derived.Test.YtplgobljgmlpkaaChecked
import GoSem.Claim
import GoSem.ClaimJoined
import GoSem.ClaimMapViews
import Derived.JoinedTies
import Derived.KernelRfl
namespace Go.Proofs.Ytplgobljgmlpkaa
/- THE CELL 'sum', in the pinned program and in every row, IS THE sha256 OF THE DUMP (.gsa) THAT YtplgobljgmlpkaaProg.lean LOADS. Nothing in Lean hashes anything: it is a label: what it is worth is what the hold of that sum in a sandbox is worth. -/
noncomputable def Try.pinned : Pinned := { name := "ytplgobljgmlpkaa", sum := "6def954f96b30962b7754f2582d295063729faab2d21a0f681a40128e421da17", checked := Try.checked }
namespace Rows
def none {H : Type} : Left H := { results := [], args := [] }

/-- 'starlinglaw.LogicKleene': WHATEVER THE INPUT: true; the input reads as it did. -/
def logicKleeneSpec : ChangeSpec := { name := "logicKleene", fn := fun _ => fun
  | [d1, d2, d3] => { results := [.lit (.bool true)], args := [d1, d2, d3] }
  | _ => none }
def logicKleeneRow : OpenClaim := { program := "ytplgobljgmlpkaa", sum := "6def954f96b30962b7754f2582d295063729faab2d21a0f681a40128e421da17", func := "starling/starlinglaw.LogicKleene", spec := "logicKleene", inPlace := ["internal/bytealg.abigen_runtime_cmpstring"], unfollowed := true, recurses := true, apart := false }
def LogicKleeneSaid : Prop := logicKleeneRow.holds Try.pinned (OpenSpec.ofChange logicKleeneSpec)

/-- ITS FALSE NEIGHBOUR: 'it returns false'. Refute it at one input. -/
def logicKleeneWrong : ChangeSpec := { name := "logicKleene", fn := fun _ => fun
  | [d1, d2, d3] => { results := [.lit (.bool false)], args := [d1, d2, d3] }
  | _ => none }
def LogicKleeneWrongFalsely : Prop := logicKleeneRow.holds Try.pinned (OpenSpec.ofChange logicKleeneWrong)

/-- 'starlinglaw.AsksMore': WHATEVER THE INPUT: true; the input reads as it did. -/
def asksMoreSpec : ChangeSpec := { name := "asksMore", fn := fun _ => fun
  | [d1, d2, d3] => { results := [.lit (.bool true)], args := [d1, d2, d3] }
  | _ => none }
def asksMoreRow : OpenClaim := { program := "ytplgobljgmlpkaa", sum := "6def954f96b30962b7754f2582d295063729faab2d21a0f681a40128e421da17", func := "starling/starlinglaw.AsksMore", spec := "asksMore", inPlace := ["internal/bytealg.abigen_runtime_cmpstring"], unfollowed := true, recurses := true, apart := false }
def AsksMoreSaid : Prop := asksMoreRow.holds Try.pinned (OpenSpec.ofChange asksMoreSpec)

/-- ITS FALSE NEIGHBOUR: 'it returns false'. Refute it at one input. -/
def asksMoreWrong : ChangeSpec := { name := "asksMore", fn := fun _ => fun
  | [d1, d2, d3] => { results := [.lit (.bool false)], args := [d1, d2, d3] }
  | _ => none }
def AsksMoreWrongFalsely : Prop := asksMoreRow.holds Try.pinned (OpenSpec.ofChange asksMoreWrong)

/-- 'starlinglaw.AsksTells': WHATEVER THE INPUT: true; the input reads as it did. -/
def asksTellsSpec : ChangeSpec := { name := "asksTells", fn := fun _ => fun
  | [d1, d2, d3, d4] => { results := [.lit (.bool true)], args := [d1, d2, d3, d4] }
  | _ => none }
def asksTellsRow : OpenClaim := { program := "ytplgobljgmlpkaa", sum := "6def954f96b30962b7754f2582d295063729faab2d21a0f681a40128e421da17", func := "starling/starlinglaw.AsksTells", spec := "asksTells", inPlace := ["internal/bytealg.abigen_runtime_cmpstring"], unfollowed := true, recurses := true, apart := false }
def AsksTellsSaid : Prop := asksTellsRow.holds Try.pinned (OpenSpec.ofChange asksTellsSpec)

/-- ITS FALSE NEIGHBOUR: 'it returns false'. Refute it at one input. -/
def asksTellsWrong : ChangeSpec := { name := "asksTells", fn := fun _ => fun
  | [d1, d2, d3, d4] => { results := [.lit (.bool false)], args := [d1, d2, d3, d4] }
  | _ => none }
def AsksTellsWrongFalsely : Prop := asksTellsRow.holds Try.pinned (OpenSpec.ofChange asksTellsWrong)

/-- 'starlinglaw.AsksOne': WHATEVER THE INPUT: true; the input reads as it did. -/
def asksOneSpec : ChangeSpec := { name := "asksOne", fn := fun _ => fun
  | [d1, d2] => { results := [.lit (.bool true)], args := [d1, d2] }
  | _ => none }
def asksOneRow : OpenClaim := { program := "ytplgobljgmlpkaa", sum := "6def954f96b30962b7754f2582d295063729faab2d21a0f681a40128e421da17", func := "starling/starlinglaw.AsksOne", spec := "asksOne", inPlace := ["internal/bytealg.abigen_runtime_cmpstring"], unfollowed := true, recurses := true, apart := false }
def AsksOneSaid : Prop := asksOneRow.holds Try.pinned (OpenSpec.ofChange asksOneSpec)

/-- ITS FALSE NEIGHBOUR: 'it returns false'. Refute it at one input. -/
def asksOneWrong : ChangeSpec := { name := "asksOne", fn := fun _ => fun
  | [d1, d2] => { results := [.lit (.bool false)], args := [d1, d2] }
  | _ => none }
def AsksOneWrongFalsely : Prop := asksOneRow.holds Try.pinned (OpenSpec.ofChange asksOneWrong)

/-- 'starlinglaw.LogicTells': WHATEVER THE INPUT: true; the input reads as it did. -/
def logicTellsSpec : ChangeSpec := { name := "logicTells", fn := fun _ => fun
  | [d1, d2, d3] => { results := [.lit (.bool true)], args := [d1, d2, d3] }
  | _ => none }
def logicTellsRow : OpenClaim := { program := "ytplgobljgmlpkaa", sum := "6def954f96b30962b7754f2582d295063729faab2d21a0f681a40128e421da17", func := "starling/starlinglaw.LogicTells", spec := "logicTells", inPlace := ["internal/bytealg.abigen_runtime_cmpstring"], unfollowed := true, recurses := true, apart := false }
def LogicTellsSaid : Prop := logicTellsRow.holds Try.pinned (OpenSpec.ofChange logicTellsSpec)

/-- ITS FALSE NEIGHBOUR: 'it returns false'. Refute it at one input. -/
def logicTellsWrong : ChangeSpec := { name := "logicTells", fn := fun _ => fun
  | [d1, d2, d3] => { results := [.lit (.bool false)], args := [d1, d2, d3] }
  | _ => none }
def LogicTellsWrongFalsely : Prop := logicTellsRow.holds Try.pinned (OpenSpec.ofChange logicTellsWrong)

/-- 'starlinglaw.LogicKnows': WHATEVER THE INPUT: true; the input reads as it did. -/
def logicKnowsSpec : ChangeSpec := { name := "logicKnows", fn := fun _ => fun
  | [d1, d2, d3] => { results := [.lit (.bool true)], args := [d1, d2, d3] }
  | _ => none }
def logicKnowsRow : OpenClaim := { program := "ytplgobljgmlpkaa", sum := "6def954f96b30962b7754f2582d295063729faab2d21a0f681a40128e421da17", func := "starling/starlinglaw.LogicKnows", spec := "logicKnows", inPlace := ["internal/bytealg.abigen_runtime_cmpstring"], unfollowed := true, recurses := true, apart := false }
def LogicKnowsSaid : Prop := logicKnowsRow.holds Try.pinned (OpenSpec.ofChange logicKnowsSpec)

/-- ITS FALSE NEIGHBOUR: 'it returns false'. Refute it at one input. -/
def logicKnowsWrong : ChangeSpec := { name := "logicKnows", fn := fun _ => fun
  | [d1, d2, d3] => { results := [.lit (.bool false)], args := [d1, d2, d3] }
  | _ => none }
def LogicKnowsWrongFalsely : Prop := logicKnowsRow.holds Try.pinned (OpenSpec.ofChange logicKnowsWrong)

/-- 'starlinglaw.LogicLists': WHATEVER THE INPUT: true; the input reads as it did. -/
def logicListsSpec : ChangeSpec := { name := "logicLists", fn := fun _ => fun
  | [d1, d2] => { results := [.lit (.bool true)], args := [d1, d2] }
  | _ => none }
def logicListsRow : OpenClaim := { program := "ytplgobljgmlpkaa", sum := "6def954f96b30962b7754f2582d295063729faab2d21a0f681a40128e421da17", func := "starling/starlinglaw.LogicLists", spec := "logicLists", inPlace := ["internal/bytealg.abigen_runtime_cmpstring"], unfollowed := true, recurses := true, apart := false }
def LogicListsSaid : Prop := logicListsRow.holds Try.pinned (OpenSpec.ofChange logicListsSpec)

/-- ITS FALSE NEIGHBOUR: 'it returns false'. Refute it at one input. -/
def logicListsWrong : ChangeSpec := { name := "logicLists", fn := fun _ => fun
  | [d1, d2] => { results := [.lit (.bool false)], args := [d1, d2] }
  | _ => none }
def LogicListsWrongFalsely : Prop := logicListsRow.holds Try.pinned (OpenSpec.ofChange logicListsWrong)

/- THE SECOND FORM. 'bulk': how many values and letters a reading holds, each counted each time it is reached (what is shared counts as often as it is met; a slice's spare places count too). A statement '..UptoSaid' is the law's where the arguments, and the package variables that the reading takes, are together of bulk at most 1048576: NARROWER than '..Said'. Prove '..Said' where nothing that the law and all that it calls make is longer than what came in: it says more and counts as full. Else prove '..UptoSaid'. A law counts once. -/
mutual
def uptoBulk {H : Type} : DataW H → Nat
  | .lit (.string bytes) => bytes.length + 1
  | .lit _ => 1
  | .nil => 1
  | .ptr d => uptoBulk d + 1
  | .slice elems spare => uptoBulkAll elems + uptoBulkAll spare + 1
  | .agg parts => uptoBulkAll parts + 1
  | .iface _ d => uptoBulk d + 1
  | .map entries => uptoBulkEntries entries + 1
  | .held _ => 1
def uptoBulkAll {H : Type} : List (DataW H) → Nat
  | [] => 0
  | d :: r => uptoBulk d + uptoBulkAll r
def uptoBulkEntries {H : Type} : List (Lit × DataW H) → Nat
  | [] => 0
  | x :: r => uptoBulkEntry x + uptoBulkEntries r
def uptoBulkEntry {H : Type} : Lit × DataW H → Nat
  | (.string bytes, d) => bytes.length + uptoBulk d + 1
  | (_, d) => uptoBulk d + 1
 end
def uptoSmall : (H : Type) → List (DataW H) → Bool := fun _ ds => decide (uptoBulkAll ds ≤ 1048576)
def OpenSpec.upto (s : _root_.Go.ChangeSpec) : _root_.Go.OpenSpec := { _root_.Go.OpenSpec.ofChange s with cond := some uptoSmall }

/-- 'starlinglaw.LogicKleene', WHERE WHAT IT READS IS OF BULK AT MOST 1048576: true; the input reads as it did. -/
def logicKleeneUptoRow : OpenClaim := { program := "ytplgobljgmlpkaa", sum := "6def954f96b30962b7754f2582d295063729faab2d21a0f681a40128e421da17", func := "starling/starlinglaw.LogicKleene", spec := "logicKleene", inPlace := ["internal/bytealg.abigen_runtime_cmpstring"], unfollowed := true, recurses := true, apart := false, narrowed := true }
def LogicKleeneUptoSaid : Prop := logicKleeneUptoRow.holds Try.pinned (OpenSpec.upto logicKleeneSpec)

/-- 'starlinglaw.AsksMore', WHERE WHAT IT READS IS OF BULK AT MOST 1048576: true; the input reads as it did. -/
def asksMoreUptoRow : OpenClaim := { program := "ytplgobljgmlpkaa", sum := "6def954f96b30962b7754f2582d295063729faab2d21a0f681a40128e421da17", func := "starling/starlinglaw.AsksMore", spec := "asksMore", inPlace := ["internal/bytealg.abigen_runtime_cmpstring"], unfollowed := true, recurses := true, apart := false, narrowed := true }
def AsksMoreUptoSaid : Prop := asksMoreUptoRow.holds Try.pinned (OpenSpec.upto asksMoreSpec)

/-- 'starlinglaw.AsksTells', WHERE WHAT IT READS IS OF BULK AT MOST 1048576: true; the input reads as it did. -/
def asksTellsUptoRow : OpenClaim := { program := "ytplgobljgmlpkaa", sum := "6def954f96b30962b7754f2582d295063729faab2d21a0f681a40128e421da17", func := "starling/starlinglaw.AsksTells", spec := "asksTells", inPlace := ["internal/bytealg.abigen_runtime_cmpstring"], unfollowed := true, recurses := true, apart := false, narrowed := true }
def AsksTellsUptoSaid : Prop := asksTellsUptoRow.holds Try.pinned (OpenSpec.upto asksTellsSpec)

/-- 'starlinglaw.AsksOne', WHERE WHAT IT READS IS OF BULK AT MOST 1048576: true; the input reads as it did. -/
def asksOneUptoRow : OpenClaim := { program := "ytplgobljgmlpkaa", sum := "6def954f96b30962b7754f2582d295063729faab2d21a0f681a40128e421da17", func := "starling/starlinglaw.AsksOne", spec := "asksOne", inPlace := ["internal/bytealg.abigen_runtime_cmpstring"], unfollowed := true, recurses := true, apart := false, narrowed := true }
def AsksOneUptoSaid : Prop := asksOneUptoRow.holds Try.pinned (OpenSpec.upto asksOneSpec)

/-- 'starlinglaw.LogicTells', WHERE WHAT IT READS IS OF BULK AT MOST 1048576: true; the input reads as it did. -/
def logicTellsUptoRow : OpenClaim := { program := "ytplgobljgmlpkaa", sum := "6def954f96b30962b7754f2582d295063729faab2d21a0f681a40128e421da17", func := "starling/starlinglaw.LogicTells", spec := "logicTells", inPlace := ["internal/bytealg.abigen_runtime_cmpstring"], unfollowed := true, recurses := true, apart := false, narrowed := true }
def LogicTellsUptoSaid : Prop := logicTellsUptoRow.holds Try.pinned (OpenSpec.upto logicTellsSpec)

/-- 'starlinglaw.LogicKnows', WHERE WHAT IT READS IS OF BULK AT MOST 1048576: true; the input reads as it did. -/
def logicKnowsUptoRow : OpenClaim := { program := "ytplgobljgmlpkaa", sum := "6def954f96b30962b7754f2582d295063729faab2d21a0f681a40128e421da17", func := "starling/starlinglaw.LogicKnows", spec := "logicKnows", inPlace := ["internal/bytealg.abigen_runtime_cmpstring"], unfollowed := true, recurses := true, apart := false, narrowed := true }
def LogicKnowsUptoSaid : Prop := logicKnowsUptoRow.holds Try.pinned (OpenSpec.upto logicKnowsSpec)

/-- 'starlinglaw.LogicLists', WHERE WHAT IT READS IS OF BULK AT MOST 1048576: true; the input reads as it did. -/
def logicListsUptoRow : OpenClaim := { program := "ytplgobljgmlpkaa", sum := "6def954f96b30962b7754f2582d295063729faab2d21a0f681a40128e421da17", func := "starling/starlinglaw.LogicLists", spec := "logicLists", inPlace := ["internal/bytealg.abigen_runtime_cmpstring"], unfollowed := true, recurses := true, apart := false, narrowed := true }
def LogicListsUptoSaid : Prop := logicListsUptoRow.holds Try.pinned (OpenSpec.upto logicListsSpec)

end Rows
end Go.Proofs.Ytplgobljgmlpkaa
