/-
  No cell of these rows narrows 'for every input' (looked for: loops, veiled, ifaces, maps, wideKeys, modest, calm, conditions, laid).
  DERIVED. THE GIVEN ROWS OF THIS SEAT. 5 by the template 'for every input the law returns true; each argument reads behind the call as it read before'; 0 by the template 'total and deterministic' (their statements: YtjpkacjmmclkeaaTotals.lean).
  GIVEN WITH THE SEED: the statements are not yours to turn. If you find one false, say at which input.
  Laid BY PROGRAM, IN A SANDBOX (cutbox-rows.mjs): the forced cells as the released guide's own fill.sh prints them over the translation 0a9cc4fc17b456a1… (all of the seat's roots in one cut). By AI agents, Wed Nov 11 2026. No macro, syntax, notation, axiom, sorry.
-/
import Derived.Test.YtjpkacjmmclkeaaChecked
import GoSem.Claim
import GoSem.ClaimJoined
import GoSem.ClaimMapViews
import Derived.JoinedTies
import Derived.KernelRfl
namespace Go.Proofs.Ytjpkacjmmclkeaa
/- THE CELL 'sum', in the pinned program and in every row, IS THE sha256 OF THE DUMP (.gsa) THAT YtjpkacjmmclkeaaProg.lean LOADS. Nothing in Lean hashes anything: it is a label: what it is worth is what the hold of that sum in a sandbox is worth. -/
noncomputable def Try.pinned : Pinned := { name := "ytjpkacjmmclkeaa", sum := "0a9cc4fc17b456a1b8a0c00bed66525b349d063f404819f70c5e3aae4de2e4d6", checked := Try.checked }
namespace Rows
def none {H : Type} : Left H := { results := [], args := [] }

/-- 'starlinglaw.CatalogTells': WHATEVER THE INPUT: true; the input reads as it did. -/
def catalogTellsSpec : ChangeSpec := { name := "catalogTells", fn := fun _ => fun
  | [d1, d2] => { results := [.lit (.bool true)], args := [d1, d2] }
  | _ => none }
def catalogTellsRow : OpenClaim := { program := "ytjpkacjmmclkeaa", sum := "0a9cc4fc17b456a1b8a0c00bed66525b349d063f404819f70c5e3aae4de2e4d6", func := "starling/starlinglaw.CatalogTells", spec := "catalogTells", unfollowed := true, recurses := true, apart := false }
def CatalogTellsSaid : Prop := catalogTellsRow.holds Try.pinned (OpenSpec.ofChange catalogTellsSpec)

/-- ITS FALSE NEIGHBOUR: 'it returns false'. Refute it at one input. -/
def catalogTellsWrong : ChangeSpec := { name := "catalogTells", fn := fun _ => fun
  | [d1, d2] => { results := [.lit (.bool false)], args := [d1, d2] }
  | _ => none }
def CatalogTellsWrongFalsely : Prop := catalogTellsRow.holds Try.pinned (OpenSpec.ofChange catalogTellsWrong)

/-- 'starlinglaw.CatalogBack': WHATEVER THE INPUT: true; the input reads as it did. -/
def catalogBackSpec : ChangeSpec := { name := "catalogBack", fn := fun _ => fun
  | [d] => { results := [.lit (.bool true)], args := [d] }
  | _ => none }
def catalogBackRow : OpenClaim := { program := "ytjpkacjmmclkeaa", sum := "0a9cc4fc17b456a1b8a0c00bed66525b349d063f404819f70c5e3aae4de2e4d6", func := "starling/starlinglaw.CatalogBack", spec := "catalogBack", unfollowed := true, recurses := true, apart := false }
def CatalogBackSaid : Prop := catalogBackRow.holds Try.pinned (OpenSpec.ofChange catalogBackSpec)

/-- ITS FALSE NEIGHBOUR: 'it returns false'. Refute it at one input. -/
def catalogBackWrong : ChangeSpec := { name := "catalogBack", fn := fun _ => fun
  | [d] => { results := [.lit (.bool false)], args := [d] }
  | _ => none }
def CatalogBackWrongFalsely : Prop := catalogBackRow.holds Try.pinned (OpenSpec.ofChange catalogBackWrong)

/-- 'starlinglaw.CatalogOnly': WHATEVER THE INPUT: true; the input reads as it did. -/
def catalogOnlySpec : ChangeSpec := { name := "catalogOnly", fn := fun _ => fun
  | [d] => { results := [.lit (.bool true)], args := [d] }
  | _ => none }
def catalogOnlyRow : OpenClaim := { program := "ytjpkacjmmclkeaa", sum := "0a9cc4fc17b456a1b8a0c00bed66525b349d063f404819f70c5e3aae4de2e4d6", func := "starling/starlinglaw.CatalogOnly", spec := "catalogOnly", unfollowed := true, recurses := true, apart := false }
def CatalogOnlySaid : Prop := catalogOnlyRow.holds Try.pinned (OpenSpec.ofChange catalogOnlySpec)

/-- ITS FALSE NEIGHBOUR: 'it returns false'. Refute it at one input. -/
def catalogOnlyWrong : ChangeSpec := { name := "catalogOnly", fn := fun _ => fun
  | [d] => { results := [.lit (.bool false)], args := [d] }
  | _ => none }
def CatalogOnlyWrongFalsely : Prop := catalogOnlyRow.holds Try.pinned (OpenSpec.ofChange catalogOnlyWrong)

/-- 'starlinglaw.FitsTells': WHATEVER THE INPUT: true; the input reads as it did. -/
def fitsTellsSpec : ChangeSpec := { name := "fitsTells", fn := fun _ => fun
  | [d1, d2] => { results := [.lit (.bool true)], args := [d1, d2] }
  | _ => none }
def fitsTellsRow : OpenClaim := { program := "ytjpkacjmmclkeaa", sum := "0a9cc4fc17b456a1b8a0c00bed66525b349d063f404819f70c5e3aae4de2e4d6", func := "starling/starlinglaw.FitsTells", spec := "fitsTells", unfollowed := true, recurses := true, apart := false }
def FitsTellsSaid : Prop := fitsTellsRow.holds Try.pinned (OpenSpec.ofChange fitsTellsSpec)

/-- ITS FALSE NEIGHBOUR: 'it returns false'. Refute it at one input. -/
def fitsTellsWrong : ChangeSpec := { name := "fitsTells", fn := fun _ => fun
  | [d1, d2] => { results := [.lit (.bool false)], args := [d1, d2] }
  | _ => none }
def FitsTellsWrongFalsely : Prop := fitsTellsRow.holds Try.pinned (OpenSpec.ofChange fitsTellsWrong)

/-- 'starlinglaw.FitsLoose': WHATEVER THE INPUT: true; the input reads as it did. -/
def fitsLooseSpec : ChangeSpec := { name := "fitsLoose", fn := fun _ => fun
  | [d1, d2, d3, d4] => { results := [.lit (.bool true)], args := [d1, d2, d3, d4] }
  | _ => none }
def fitsLooseRow : OpenClaim := { program := "ytjpkacjmmclkeaa", sum := "0a9cc4fc17b456a1b8a0c00bed66525b349d063f404819f70c5e3aae4de2e4d6", func := "starling/starlinglaw.FitsLoose", spec := "fitsLoose", unfollowed := true, recurses := true, apart := false }
def FitsLooseSaid : Prop := fitsLooseRow.holds Try.pinned (OpenSpec.ofChange fitsLooseSpec)

/-- ITS FALSE NEIGHBOUR: 'it returns false'. Refute it at one input. -/
def fitsLooseWrong : ChangeSpec := { name := "fitsLoose", fn := fun _ => fun
  | [d1, d2, d3, d4] => { results := [.lit (.bool false)], args := [d1, d2, d3, d4] }
  | _ => none }
def FitsLooseWrongFalsely : Prop := fitsLooseRow.holds Try.pinned (OpenSpec.ofChange fitsLooseWrong)

/- THE SECOND FORM. 'bulk': how many values and letters a reading holds, each counted each time it is reached (what is shared counts as often as it is met; a slice's spare places count too). A statement '..UptoSaid' is the law's where the arguments, and the package variables that the reading takes, are together of bulk at most 1048576: NARROWER than '..Said'. Prove '..Said' where nothing that the law and all that it calls make is longer than what came in: it says more and counts as full. Else prove '..UptoSaid'. A law counts once. -/
mutual
def uptoBulk {H : Type} : DataW H → Nat
  | .lit (.string bytes) => bytes.length + 1
  | .lit _ => 1
  | .nil => 1
  | .ptr d => uptoBulk d + 1
  | .slice elems spare => uptoBulkAll elems + uptoBulkAll spare + 1
  | .agg parts => uptoBulkAll parts + 1
  | .iface _ d => uptoBulk d + 1
  | .map entries => uptoBulkEntries entries + 1
  | .held _ => 1
def uptoBulkAll {H : Type} : List (DataW H) → Nat
  | [] => 0
  | d :: r => uptoBulk d + uptoBulkAll r
def uptoBulkEntries {H : Type} : List (Lit × DataW H) → Nat
  | [] => 0
  | x :: r => uptoBulkEntry x + uptoBulkEntries r
def uptoBulkEntry {H : Type} : Lit × DataW H → Nat
  | (.string bytes, d) => bytes.length + uptoBulk d + 1
  | (_, d) => uptoBulk d + 1
 end
def uptoSmall : (H : Type) → List (DataW H) → Bool := fun _ ds => decide (uptoBulkAll ds ≤ 1048576)
def OpenSpec.upto (s : _root_.Go.ChangeSpec) : _root_.Go.OpenSpec := { _root_.Go.OpenSpec.ofChange s with cond := some uptoSmall }

/-- 'starlinglaw.CatalogTells', WHERE WHAT IT READS IS OF BULK AT MOST 1048576: true; the input reads as it did. -/
def catalogTellsUptoRow : OpenClaim := { program := "ytjpkacjmmclkeaa", sum := "0a9cc4fc17b456a1b8a0c00bed66525b349d063f404819f70c5e3aae4de2e4d6", func := "starling/starlinglaw.CatalogTells", spec := "catalogTells", unfollowed := true, recurses := true, apart := false, narrowed := true }
def CatalogTellsUptoSaid : Prop := catalogTellsUptoRow.holds Try.pinned (OpenSpec.upto catalogTellsSpec)

/-- 'starlinglaw.CatalogBack', WHERE WHAT IT READS IS OF BULK AT MOST 1048576: true; the input reads as it did. -/
def catalogBackUptoRow : OpenClaim := { program := "ytjpkacjmmclkeaa", sum := "0a9cc4fc17b456a1b8a0c00bed66525b349d063f404819f70c5e3aae4de2e4d6", func := "starling/starlinglaw.CatalogBack", spec := "catalogBack", unfollowed := true, recurses := true, apart := false, narrowed := true }
def CatalogBackUptoSaid : Prop := catalogBackUptoRow.holds Try.pinned (OpenSpec.upto catalogBackSpec)

/-- 'starlinglaw.CatalogOnly', WHERE WHAT IT READS IS OF BULK AT MOST 1048576: true; the input reads as it did. -/
def catalogOnlyUptoRow : OpenClaim := { program := "ytjpkacjmmclkeaa", sum := "0a9cc4fc17b456a1b8a0c00bed66525b349d063f404819f70c5e3aae4de2e4d6", func := "starling/starlinglaw.CatalogOnly", spec := "catalogOnly", unfollowed := true, recurses := true, apart := false, narrowed := true }
def CatalogOnlyUptoSaid : Prop := catalogOnlyUptoRow.holds Try.pinned (OpenSpec.upto catalogOnlySpec)

/-- 'starlinglaw.FitsTells', WHERE WHAT IT READS IS OF BULK AT MOST 1048576: true; the input reads as it did. -/
def fitsTellsUptoRow : OpenClaim := { program := "ytjpkacjmmclkeaa", sum := "0a9cc4fc17b456a1b8a0c00bed66525b349d063f404819f70c5e3aae4de2e4d6", func := "starling/starlinglaw.FitsTells", spec := "fitsTells", unfollowed := true, recurses := true, apart := false, narrowed := true }
def FitsTellsUptoSaid : Prop := fitsTellsUptoRow.holds Try.pinned (OpenSpec.upto fitsTellsSpec)

/-- 'starlinglaw.FitsLoose', WHERE WHAT IT READS IS OF BULK AT MOST 1048576: true; the input reads as it did. -/
def fitsLooseUptoRow : OpenClaim := { program := "ytjpkacjmmclkeaa", sum := "0a9cc4fc17b456a1b8a0c00bed66525b349d063f404819f70c5e3aae4de2e4d6", func := "starling/starlinglaw.FitsLoose", spec := "fitsLoose", unfollowed := true, recurses := true, apart := false, narrowed := true }
def FitsLooseUptoSaid : Prop := fitsLooseUptoRow.holds Try.pinned (OpenSpec.upto fitsLooseSpec)

end Rows
end Go.Proofs.Ytjpkacjmmclkeaa
