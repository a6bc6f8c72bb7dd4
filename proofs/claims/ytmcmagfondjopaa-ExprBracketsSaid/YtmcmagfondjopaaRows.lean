/-
  No cell of these rows narrows 'for every input' (looked for: loops, veiled, ifaces, maps, wideKeys, modest, calm, conditions, laid).
  DERIVED. THE GIVEN ROWS OF THIS SEAT. 5 by the template 'for every input the law returns true; each argument reads behind the call as it read before'; 0 by the template 'total and deterministic' (their statements: YtmcmagfondjopaaTotals.lean).
  GIVEN WITH THE SEED: the statements are not yours to turn. If you find one false, say at which input.
  Laid BY PROGRAM, IN A SANDBOX (cutbox-rows.mjs): the forced cells as the released guide's own fill.sh prints them over the translation a92dc1062f6ad29e… (all of the seat's roots in one cut). By AI agents, Wed Nov 11 2026. No macro, syntax, notation, axiom, sorry.
-/
import Derived.Test.YtmcmagfondjopaaChecked
import GoSem.Claim
import GoSem.ClaimJoined
import GoSem.ClaimMapViews
import Derived.JoinedTies
import Derived.KernelRfl
namespace Go.Proofs.Ytmcmagfondjopaa
/- THE CELL 'sum', in the pinned program and in every row, IS THE sha256 OF THE DUMP (.gsa) THAT YtmcmagfondjopaaProg.lean LOADS. Nothing in Lean hashes anything: it is a label: what it is worth is what the hold of that sum in a sandbox is worth. -/
noncomputable def Try.pinned : Pinned := { name := "ytmcmagfondjopaa", sum := "a92dc1062f6ad29e8a5197b5d62ea99aed41d086ae7b20aae39bb4703a5627bf", checked := Try.checked }
namespace Rows
def none {H : Type} : Left H := { results := [], args := [] }

/-- 'starlinglaw.ExprTells': WHATEVER THE INPUT: true; the input reads as it did. -/
def exprTellsSpec : ChangeSpec := { name := "exprTells", fn := fun _ => fun
  | [d] => { results := [.lit (.bool true)], args := [d] }
  | _ => none }
def exprTellsRow : OpenClaim := { program := "ytmcmagfondjopaa", sum := "a92dc1062f6ad29e8a5197b5d62ea99aed41d086ae7b20aae39bb4703a5627bf", func := "starling/starlinglaw.ExprTells", spec := "exprTells", inPlace := ["internal/bytealg.IndexByteString"], unfollowed := true, recurses := true, apart := false }
def ExprTellsSaid : Prop := exprTellsRow.holds Try.pinned (OpenSpec.ofChange exprTellsSpec)

/-- ITS FALSE NEIGHBOUR: 'it returns false'. Refute it at one input. -/
def exprTellsWrong : ChangeSpec := { name := "exprTells", fn := fun _ => fun
  | [d] => { results := [.lit (.bool false)], args := [d] }
  | _ => none }
def ExprTellsWrongFalsely : Prop := exprTellsRow.holds Try.pinned (OpenSpec.ofChange exprTellsWrong)

/-- 'starlinglaw.ExprWhole': WHATEVER THE INPUT: true; the input reads as it did. -/
def exprWholeSpec : ChangeSpec := { name := "exprWhole", fn := fun _ => fun
  | [d] => { results := [.lit (.bool true)], args := [d] }
  | _ => none }
def exprWholeRow : OpenClaim := { program := "ytmcmagfondjopaa", sum := "a92dc1062f6ad29e8a5197b5d62ea99aed41d086ae7b20aae39bb4703a5627bf", func := "starling/starlinglaw.ExprWhole", spec := "exprWhole", inPlace := ["internal/bytealg.IndexByteString"], unfollowed := true, recurses := true, apart := false }
def ExprWholeSaid : Prop := exprWholeRow.holds Try.pinned (OpenSpec.ofChange exprWholeSpec)

/-- ITS FALSE NEIGHBOUR: 'it returns false'. Refute it at one input. -/
def exprWholeWrong : ChangeSpec := { name := "exprWhole", fn := fun _ => fun
  | [d] => { results := [.lit (.bool false)], args := [d] }
  | _ => none }
def ExprWholeWrongFalsely : Prop := exprWholeRow.holds Try.pinned (OpenSpec.ofChange exprWholeWrong)

/-- 'starlinglaw.ExprBack': WHATEVER THE INPUT: true; the input reads as it did. -/
def exprBackSpec : ChangeSpec := { name := "exprBack", fn := fun _ => fun
  | [d] => { results := [.lit (.bool true)], args := [d] }
  | _ => none }
def exprBackRow : OpenClaim := { program := "ytmcmagfondjopaa", sum := "a92dc1062f6ad29e8a5197b5d62ea99aed41d086ae7b20aae39bb4703a5627bf", func := "starling/starlinglaw.ExprBack", spec := "exprBack", inPlace := ["internal/bytealg.IndexByteString"], unfollowed := true, recurses := true, apart := false }
def ExprBackSaid : Prop := exprBackRow.holds Try.pinned (OpenSpec.ofChange exprBackSpec)

/-- ITS FALSE NEIGHBOUR: 'it returns false'. Refute it at one input. -/
def exprBackWrong : ChangeSpec := { name := "exprBack", fn := fun _ => fun
  | [d] => { results := [.lit (.bool false)], args := [d] }
  | _ => none }
def ExprBackWrongFalsely : Prop := exprBackRow.holds Try.pinned (OpenSpec.ofChange exprBackWrong)

/-- 'starlinglaw.ExprLeast': WHATEVER THE INPUT: true; the input reads as it did. -/
def exprLeastSpec : ChangeSpec := { name := "exprLeast", fn := fun _ => fun
  | [d] => { results := [.lit (.bool true)], args := [d] }
  | _ => none }
def exprLeastRow : OpenClaim := { program := "ytmcmagfondjopaa", sum := "a92dc1062f6ad29e8a5197b5d62ea99aed41d086ae7b20aae39bb4703a5627bf", func := "starling/starlinglaw.ExprLeast", spec := "exprLeast", inPlace := ["internal/bytealg.IndexByteString"], unfollowed := true, recurses := true, apart := false }
def ExprLeastSaid : Prop := exprLeastRow.holds Try.pinned (OpenSpec.ofChange exprLeastSpec)

/-- ITS FALSE NEIGHBOUR: 'it returns false'. Refute it at one input. -/
def exprLeastWrong : ChangeSpec := { name := "exprLeast", fn := fun _ => fun
  | [d] => { results := [.lit (.bool false)], args := [d] }
  | _ => none }
def ExprLeastWrongFalsely : Prop := exprLeastRow.holds Try.pinned (OpenSpec.ofChange exprLeastWrong)

/-- 'starlinglaw.ExprBrackets': WHATEVER THE INPUT: true; the input reads as it did. -/
def exprBracketsSpec : ChangeSpec := { name := "exprBrackets", fn := fun _ => fun
  | [d] => { results := [.lit (.bool true)], args := [d] }
  | _ => none }
def exprBracketsRow : OpenClaim := { program := "ytmcmagfondjopaa", sum := "a92dc1062f6ad29e8a5197b5d62ea99aed41d086ae7b20aae39bb4703a5627bf", func := "starling/starlinglaw.ExprBrackets", spec := "exprBrackets", inPlace := ["internal/bytealg.IndexByteString"], unfollowed := true, recurses := true, apart := false }
def ExprBracketsSaid : Prop := exprBracketsRow.holds Try.pinned (OpenSpec.ofChange exprBracketsSpec)

/-- ITS FALSE NEIGHBOUR: 'it returns false'. Refute it at one input. -/
def exprBracketsWrong : ChangeSpec := { name := "exprBrackets", fn := fun _ => fun
  | [d] => { results := [.lit (.bool false)], args := [d] }
  | _ => none }
def ExprBracketsWrongFalsely : Prop := exprBracketsRow.holds Try.pinned (OpenSpec.ofChange exprBracketsWrong)

/- THE SECOND FORM. 'bulk': how many values and letters a reading holds, each counted each time it is reached (what is shared counts as often as it is met; a slice's spare places count too). A statement '..UptoSaid' is the law's where the arguments, and the package variables that the reading takes, are together of bulk at most 1048576: NARROWER than '..Said'. Prove '..Said' where nothing that the law and all that it calls make is longer than what came in: it says more and counts as full. Else prove '..UptoSaid'. A law counts once. -/
mutual
def uptoBulk {H : Type} : DataW H → Nat
  | .lit (.string bytes) => bytes.length + 1
  | .lit _ => 1
  | .nil => 1
  | .ptr d => uptoBulk d + 1
  | .slice elems spare => uptoBulkAll elems + uptoBulkAll spare + 1
  | .agg parts => uptoBulkAll parts + 1
  | .iface _ d => uptoBulk d + 1
  | .map entries => uptoBulkEntries entries + 1
  | .held _ => 1
def uptoBulkAll {H : Type} : List (DataW H) → Nat
  | [] => 0
  | d :: r => uptoBulk d + uptoBulkAll r
def uptoBulkEntries {H : Type} : List (Lit × DataW H) → Nat
  | [] => 0
  | x :: r => uptoBulkEntry x + uptoBulkEntries r
def uptoBulkEntry {H : Type} : Lit × DataW H → Nat
  | (.string bytes, d) => bytes.length + uptoBulk d + 1
  | (_, d) => uptoBulk d + 1
 end
def uptoSmall : (H : Type) → List (DataW H) → Bool := fun _ ds => decide (uptoBulkAll ds ≤ 1048576)
def OpenSpec.upto (s : _root_.Go.ChangeSpec) : _root_.Go.OpenSpec := { _root_.Go.OpenSpec.ofChange s with cond := some uptoSmall }

/-- 'starlinglaw.ExprTells', WHERE WHAT IT READS IS OF BULK AT MOST 1048576: true; the input reads as it did. -/
def exprTellsUptoRow : OpenClaim := { program := "ytmcmagfondjopaa", sum := "a92dc1062f6ad29e8a5197b5d62ea99aed41d086ae7b20aae39bb4703a5627bf", func := "starling/starlinglaw.ExprTells", spec := "exprTells", inPlace := ["internal/bytealg.IndexByteString"], unfollowed := true, recurses := true, apart := false, narrowed := true }
def ExprTellsUptoSaid : Prop := exprTellsUptoRow.holds Try.pinned (OpenSpec.upto exprTellsSpec)

/-- 'starlinglaw.ExprWhole', WHERE WHAT IT READS IS OF BULK AT MOST 1048576: true; the input reads as it did. -/
def exprWholeUptoRow : OpenClaim := { program := "ytmcmagfondjopaa", sum := "a92dc1062f6ad29e8a5197b5d62ea99aed41d086ae7b20aae39bb4703a5627bf", func := "starling/starlinglaw.ExprWhole", spec := "exprWhole", inPlace := ["internal/bytealg.IndexByteString"], unfollowed := true, recurses := true, apart := false, narrowed := true }
def ExprWholeUptoSaid : Prop := exprWholeUptoRow.holds Try.pinned (OpenSpec.upto exprWholeSpec)

/-- 'starlinglaw.ExprBack', WHERE WHAT IT READS IS OF BULK AT MOST 1048576: true; the input reads as it did. -/
def exprBackUptoRow : OpenClaim := { program := "ytmcmagfondjopaa", sum := "a92dc1062f6ad29e8a5197b5d62ea99aed41d086ae7b20aae39bb4703a5627bf", func := "starling/starlinglaw.ExprBack", spec := "exprBack", inPlace := ["internal/bytealg.IndexByteString"], unfollowed := true, recurses := true, apart := false, narrowed := true }
def ExprBackUptoSaid : Prop := exprBackUptoRow.holds Try.pinned (OpenSpec.upto exprBackSpec)

/-- 'starlinglaw.ExprLeast', WHERE WHAT IT READS IS OF BULK AT MOST 1048576: true; the input reads as it did. -/
def exprLeastUptoRow : OpenClaim := { program := "ytmcmagfondjopaa", sum := "a92dc1062f6ad29e8a5197b5d62ea99aed41d086ae7b20aae39bb4703a5627bf", func := "starling/starlinglaw.ExprLeast", spec := "exprLeast", inPlace := ["internal/bytealg.IndexByteString"], unfollowed := true, recurses := true, apart := false, narrowed := true }
def ExprLeastUptoSaid : Prop := exprLeastUptoRow.holds Try.pinned (OpenSpec.upto exprLeastSpec)

/-- 'starlinglaw.ExprBrackets', WHERE WHAT IT READS IS OF BULK AT MOST 1048576: true; the input reads as it did. -/
def exprBracketsUptoRow : OpenClaim := { program := "ytmcmagfondjopaa", sum := "a92dc1062f6ad29e8a5197b5d62ea99aed41d086ae7b20aae39bb4703a5627bf", func := "starling/starlinglaw.ExprBrackets", spec := "exprBrackets", inPlace := ["internal/bytealg.IndexByteString"], unfollowed := true, recurses := true, apart := false, narrowed := true }
def ExprBracketsUptoSaid : Prop := exprBracketsUptoRow.holds Try.pinned (OpenSpec.upto exprBracketsSpec)

end Rows
end Go.Proofs.Ytmcmagfondjopaa
