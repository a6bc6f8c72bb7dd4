/-
  No cell of these rows narrows 'for every input' (looked for: loops, veiled, ifaces, maps, wideKeys, modest, calm, conditions, laid).
  DERIVED. THE GIVEN ROWS OF THIS SEAT. 8 by the template 'for every input the law returns true; each argument reads behind the call as it read before'; 0 by the template 'total and deterministic' (their statements: YtejieckalcledaaTotals.lean).
  GIVEN WITH THE SEED: the statements are not yours to turn. If you find one false, say at which input.
  Laid BY PROGRAM, IN A SANDBOX (cutbox-rows.mjs): the forced cells as the released guide's own fill.sh prints them over the translation 56856099099c874a… (all of the seat's roots in one cut). By AI agents, Wed Nov 11 2026. No macro, syntax, notation, axiom, sorry.
-/
import Derived.Test.YtejieckalcledaaChecked
import GoSem.Claim
import GoSem.ClaimJoined
import GoSem.ClaimMapViews
import Derived.JoinedTies
import Derived.KernelRfl
namespace Go.Proofs.Ytejieckalcledaa
/- THE CELL 'sum', in the pinned program and in every row, IS THE sha256 OF THE DUMP (.gsa) THAT YtejieckalcledaaProg.lean LOADS. Nothing in Lean hashes anything: it is a label: what it is worth is what the hold of that sum in a sandbox is worth. -/
noncomputable def Try.pinned : Pinned := { name := "ytejieckalcledaa", sum := "56856099099c874afbf751c6430064b5ada87473bc6f55f93e29b7340a738ac2", checked := Try.checked }
namespace Rows
def none {H : Type} : Left H := { results := [], args := [] }

/-- 'starlinglaw.PartsTells': WHATEVER THE INPUT: true; the input reads as it did. -/
def partsTellsSpec : ChangeSpec := { name := "partsTells", fn := fun _ => fun
  | [d1, d2] => { results := [.lit (.bool true)], args := [d1, d2] }
  | _ => none }
def partsTellsRow : OpenClaim := { program := "ytejieckalcledaa", sum := "56856099099c874afbf751c6430064b5ada87473bc6f55f93e29b7340a738ac2", func := "starling/starlinglaw.PartsTells", spec := "partsTells", inPlace := ["math/bits.Add64"], apart := false }
def PartsTellsSaid : Prop := partsTellsRow.holds Try.pinned (OpenSpec.ofChange partsTellsSpec)

/-- ITS FALSE NEIGHBOUR: 'it returns false'. Refute it at one input. -/
def partsTellsWrong : ChangeSpec := { name := "partsTells", fn := fun _ => fun
  | [d1, d2] => { results := [.lit (.bool false)], args := [d1, d2] }
  | _ => none }
def PartsTellsWrongFalsely : Prop := partsTellsRow.holds Try.pinned (OpenSpec.ofChange partsTellsWrong)

/-- 'starlinglaw.WholeOrder': WHATEVER THE INPUT: true; the input reads as it did. -/
def wholeOrderSpec : ChangeSpec := { name := "wholeOrder", fn := fun _ => fun
  | [d1, d2] => { results := [.lit (.bool true)], args := [d1, d2] }
  | _ => none }
def wholeOrderRow : OpenClaim := { program := "ytejieckalcledaa", sum := "56856099099c874afbf751c6430064b5ada87473bc6f55f93e29b7340a738ac2", func := "starling/starlinglaw.WholeOrder", spec := "wholeOrder", inPlace := ["math/bits.Add64"], apart := false }
def WholeOrderSaid : Prop := wholeOrderRow.holds Try.pinned (OpenSpec.ofChange wholeOrderSpec)

/-- ITS FALSE NEIGHBOUR: 'it returns false'. Refute it at one input. -/
def wholeOrderWrong : ChangeSpec := { name := "wholeOrder", fn := fun _ => fun
  | [d1, d2] => { results := [.lit (.bool false)], args := [d1, d2] }
  | _ => none }
def WholeOrderWrongFalsely : Prop := wholeOrderRow.holds Try.pinned (OpenSpec.ofChange wholeOrderWrong)

/-- 'starlinglaw.TotalTells': WHATEVER THE INPUT: true; the input reads as it did. -/
def totalTellsSpec : ChangeSpec := { name := "totalTells", fn := fun _ => fun
  | [d] => { results := [.lit (.bool true)], args := [d] }
  | _ => none }
def totalTellsRow : OpenClaim := { program := "ytejieckalcledaa", sum := "56856099099c874afbf751c6430064b5ada87473bc6f55f93e29b7340a738ac2", func := "starling/starlinglaw.TotalTells", spec := "totalTells", inPlace := ["math/bits.Add64"], apart := false }
def TotalTellsSaid : Prop := totalTellsRow.holds Try.pinned (OpenSpec.ofChange totalTellsSpec)

/-- ITS FALSE NEIGHBOUR: 'it returns false'. Refute it at one input. -/
def totalTellsWrong : ChangeSpec := { name := "totalTells", fn := fun _ => fun
  | [d] => { results := [.lit (.bool false)], args := [d] }
  | _ => none }
def TotalTellsWrongFalsely : Prop := totalTellsRow.holds Try.pinned (OpenSpec.ofChange totalTellsWrong)

/-- 'starlinglaw.TotalOrder': WHATEVER THE INPUT: true; the input reads as it did. -/
def totalOrderSpec : ChangeSpec := { name := "totalOrder", fn := fun _ => fun
  | [d1, d2, d3] => { results := [.lit (.bool true)], args := [d1, d2, d3] }
  | _ => none }
def totalOrderRow : OpenClaim := { program := "ytejieckalcledaa", sum := "56856099099c874afbf751c6430064b5ada87473bc6f55f93e29b7340a738ac2", func := "starling/starlinglaw.TotalOrder", spec := "totalOrder", inPlace := ["math/bits.Add64"], apart := false }
def TotalOrderSaid : Prop := totalOrderRow.holds Try.pinned (OpenSpec.ofChange totalOrderSpec)

/-- ITS FALSE NEIGHBOUR: 'it returns false'. Refute it at one input. -/
def totalOrderWrong : ChangeSpec := { name := "totalOrder", fn := fun _ => fun
  | [d1, d2, d3] => { results := [.lit (.bool false)], args := [d1, d2, d3] }
  | _ => none }
def TotalOrderWrongFalsely : Prop := totalOrderRow.holds Try.pinned (OpenSpec.ofChange totalOrderWrong)

/-- 'starlinglaw.WholeTells': WHATEVER THE INPUT: true; the input reads as it did. -/
def wholeTellsSpec : ChangeSpec := { name := "wholeTells", fn := fun _ => fun
  | [d1, d2] => { results := [.lit (.bool true)], args := [d1, d2] }
  | _ => none }
def wholeTellsRow : OpenClaim := { program := "ytejieckalcledaa", sum := "56856099099c874afbf751c6430064b5ada87473bc6f55f93e29b7340a738ac2", func := "starling/starlinglaw.WholeTells", spec := "wholeTells", inPlace := ["math/bits.Add64"], apart := false }
def WholeTellsSaid : Prop := wholeTellsRow.holds Try.pinned (OpenSpec.ofChange wholeTellsSpec)

/-- ITS FALSE NEIGHBOUR: 'it returns false'. Refute it at one input. -/
def wholeTellsWrong : ChangeSpec := { name := "wholeTells", fn := fun _ => fun
  | [d1, d2] => { results := [.lit (.bool false)], args := [d1, d2] }
  | _ => none }
def WholeTellsWrongFalsely : Prop := wholeTellsRow.holds Try.pinned (OpenSpec.ofChange wholeTellsWrong)

/-- 'starlinglaw.PartsWhole': WHATEVER THE INPUT: true; the input reads as it did. -/
def partsWholeSpec : ChangeSpec := { name := "partsWhole", fn := fun _ => fun
  | [d1, d2] => { results := [.lit (.bool true)], args := [d1, d2] }
  | _ => none }
def partsWholeRow : OpenClaim := { program := "ytejieckalcledaa", sum := "56856099099c874afbf751c6430064b5ada87473bc6f55f93e29b7340a738ac2", func := "starling/starlinglaw.PartsWhole", spec := "partsWhole", inPlace := ["math/bits.Add64"], apart := false }
def PartsWholeSaid : Prop := partsWholeRow.holds Try.pinned (OpenSpec.ofChange partsWholeSpec)

/-- ITS FALSE NEIGHBOUR: 'it returns false'. Refute it at one input. -/
def partsWholeWrong : ChangeSpec := { name := "partsWhole", fn := fun _ => fun
  | [d1, d2] => { results := [.lit (.bool false)], args := [d1, d2] }
  | _ => none }
def PartsWholeWrongFalsely : Prop := partsWholeRow.holds Try.pinned (OpenSpec.ofChange partsWholeWrong)

/-- 'starlinglaw.WholeRing': WHATEVER THE INPUT: true; the input reads as it did. -/
def wholeRingSpec : ChangeSpec := { name := "wholeRing", fn := fun _ => fun
  | [d1, d2, d3] => { results := [.lit (.bool true)], args := [d1, d2, d3] }
  | _ => none }
def wholeRingRow : OpenClaim := { program := "ytejieckalcledaa", sum := "56856099099c874afbf751c6430064b5ada87473bc6f55f93e29b7340a738ac2", func := "starling/starlinglaw.WholeRing", spec := "wholeRing", inPlace := ["math/bits.Add64"], apart := false }
def WholeRingSaid : Prop := wholeRingRow.holds Try.pinned (OpenSpec.ofChange wholeRingSpec)

/-- ITS FALSE NEIGHBOUR: 'it returns false'. Refute it at one input. -/
def wholeRingWrong : ChangeSpec := { name := "wholeRing", fn := fun _ => fun
  | [d1, d2, d3] => { results := [.lit (.bool false)], args := [d1, d2, d3] }
  | _ => none }
def WholeRingWrongFalsely : Prop := wholeRingRow.holds Try.pinned (OpenSpec.ofChange wholeRingWrong)

/-- 'starlinglaw.TotalParts': WHATEVER THE INPUT: true; the input reads as it did. -/
def totalPartsSpec : ChangeSpec := { name := "totalParts", fn := fun _ => fun
  | [d1, d2] => { results := [.lit (.bool true)], args := [d1, d2] }
  | _ => none }
def totalPartsRow : OpenClaim := { program := "ytejieckalcledaa", sum := "56856099099c874afbf751c6430064b5ada87473bc6f55f93e29b7340a738ac2", func := "starling/starlinglaw.TotalParts", spec := "totalParts", inPlace := ["math/bits.Add64"], apart := false }
def TotalPartsSaid : Prop := totalPartsRow.holds Try.pinned (OpenSpec.ofChange totalPartsSpec)

/-- ITS FALSE NEIGHBOUR: 'it returns false'. Refute it at one input. -/
def totalPartsWrong : ChangeSpec := { name := "totalParts", fn := fun _ => fun
  | [d1, d2] => { results := [.lit (.bool false)], args := [d1, d2] }
  | _ => none }
def TotalPartsWrongFalsely : Prop := totalPartsRow.holds Try.pinned (OpenSpec.ofChange totalPartsWrong)

/- THE SECOND FORM. 'bulk': how many values and letters a reading holds, each counted each time it is reached (what is shared counts as often as it is met; a slice's spare places count too). A statement '..UptoSaid' is the law's where the arguments, and the package variables that the reading takes, are together of bulk at most 1048576: NARROWER than '..Said'. Prove '..Said' where nothing that the law and all that it calls make is longer than what came in: it says more and counts as full. Else prove '..UptoSaid'. A law counts once. -/
mutual
def uptoBulk {H : Type} : DataW H → Nat
  | .lit (.string bytes) => bytes.length + 1
  | .lit _ => 1
  | .nil => 1
  | .ptr d => uptoBulk d + 1
  | .slice elems spare => uptoBulkAll elems + uptoBulkAll spare + 1
  | .agg parts => uptoBulkAll parts + 1
  | .iface _ d => uptoBulk d + 1
  | .map entries => uptoBulkEntries entries + 1
  | .held _ => 1
def uptoBulkAll {H : Type} : List (DataW H) → Nat
  | [] => 0
  | d :: r => uptoBulk d + uptoBulkAll r
def uptoBulkEntries {H : Type} : List (Lit × DataW H) → Nat
  | [] => 0
  | x :: r => uptoBulkEntry x + uptoBulkEntries r
def uptoBulkEntry {H : Type} : Lit × DataW H → Nat
  | (.string bytes, d) => bytes.length + uptoBulk d + 1
  | (_, d) => uptoBulk d + 1
 end
def uptoSmall : (H : Type) → List (DataW H) → Bool := fun _ ds => decide (uptoBulkAll ds ≤ 1048576)
def OpenSpec.upto (s : _root_.Go.ChangeSpec) : _root_.Go.OpenSpec := { _root_.Go.OpenSpec.ofChange s with cond := some uptoSmall }

/-- 'starlinglaw.PartsTells', WHERE WHAT IT READS IS OF BULK AT MOST 1048576: true; the input reads as it did. -/
def partsTellsUptoRow : OpenClaim := { program := "ytejieckalcledaa", sum := "56856099099c874afbf751c6430064b5ada87473bc6f55f93e29b7340a738ac2", func := "starling/starlinglaw.PartsTells", spec := "partsTells", inPlace := ["math/bits.Add64"], apart := false, narrowed := true }
def PartsTellsUptoSaid : Prop := partsTellsUptoRow.holds Try.pinned (OpenSpec.upto partsTellsSpec)

/-- 'starlinglaw.WholeOrder', WHERE WHAT IT READS IS OF BULK AT MOST 1048576: true; the input reads as it did. -/
def wholeOrderUptoRow : OpenClaim := { program := "ytejieckalcledaa", sum := "56856099099c874afbf751c6430064b5ada87473bc6f55f93e29b7340a738ac2", func := "starling/starlinglaw.WholeOrder", spec := "wholeOrder", inPlace := ["math/bits.Add64"], apart := false, narrowed := true }
def WholeOrderUptoSaid : Prop := wholeOrderUptoRow.holds Try.pinned (OpenSpec.upto wholeOrderSpec)

/-- 'starlinglaw.TotalTells', WHERE WHAT IT READS IS OF BULK AT MOST 1048576: true; the input reads as it did. -/
def totalTellsUptoRow : OpenClaim := { program := "ytejieckalcledaa", sum := "56856099099c874afbf751c6430064b5ada87473bc6f55f93e29b7340a738ac2", func := "starling/starlinglaw.TotalTells", spec := "totalTells", inPlace := ["math/bits.Add64"], apart := false, narrowed := true }
def TotalTellsUptoSaid : Prop := totalTellsUptoRow.holds Try.pinned (OpenSpec.upto totalTellsSpec)

/-- 'starlinglaw.TotalOrder', WHERE WHAT IT READS IS OF BULK AT MOST 1048576: true; the input reads as it did. -/
def totalOrderUptoRow : OpenClaim := { program := "ytejieckalcledaa", sum := "56856099099c874afbf751c6430064b5ada87473bc6f55f93e29b7340a738ac2", func := "starling/starlinglaw.TotalOrder", spec := "totalOrder", inPlace := ["math/bits.Add64"], apart := false, narrowed := true }
def TotalOrderUptoSaid : Prop := totalOrderUptoRow.holds Try.pinned (OpenSpec.upto totalOrderSpec)

/-- 'starlinglaw.WholeTells', WHERE WHAT IT READS IS OF BULK AT MOST 1048576: true; the input reads as it did. -/
def wholeTellsUptoRow : OpenClaim := { program := "ytejieckalcledaa", sum := "56856099099c874afbf751c6430064b5ada87473bc6f55f93e29b7340a738ac2", func := "starling/starlinglaw.WholeTells", spec := "wholeTells", inPlace := ["math/bits.Add64"], apart := false, narrowed := true }
def WholeTellsUptoSaid : Prop := wholeTellsUptoRow.holds Try.pinned (OpenSpec.upto wholeTellsSpec)

/-- 'starlinglaw.PartsWhole', WHERE WHAT IT READS IS OF BULK AT MOST 1048576: true; the input reads as it did. -/
def partsWholeUptoRow : OpenClaim := { program := "ytejieckalcledaa", sum := "56856099099c874afbf751c6430064b5ada87473bc6f55f93e29b7340a738ac2", func := "starling/starlinglaw.PartsWhole", spec := "partsWhole", inPlace := ["math/bits.Add64"], apart := false, narrowed := true }
def PartsWholeUptoSaid : Prop := partsWholeUptoRow.holds Try.pinned (OpenSpec.upto partsWholeSpec)

/-- 'starlinglaw.WholeRing', WHERE WHAT IT READS IS OF BULK AT MOST 1048576: true; the input reads as it did. -/
def wholeRingUptoRow : OpenClaim := { program := "ytejieckalcledaa", sum := "56856099099c874afbf751c6430064b5ada87473bc6f55f93e29b7340a738ac2", func := "starling/starlinglaw.WholeRing", spec := "wholeRing", inPlace := ["math/bits.Add64"], apart := false, narrowed := true }
def WholeRingUptoSaid : Prop := wholeRingUptoRow.holds Try.pinned (OpenSpec.upto wholeRingSpec)

/-- 'starlinglaw.TotalParts', WHERE WHAT IT READS IS OF BULK AT MOST 1048576: true; the input reads as it did. -/
def totalPartsUptoRow : OpenClaim := { program := "ytejieckalcledaa", sum := "56856099099c874afbf751c6430064b5ada87473bc6f55f93e29b7340a738ac2", func := "starling/starlinglaw.TotalParts", spec := "totalParts", inPlace := ["math/bits.Add64"], apart := false, narrowed := true }
def TotalPartsUptoSaid : Prop := totalPartsUptoRow.holds Try.pinned (OpenSpec.upto totalPartsSpec)

end Rows
end Go.Proofs.Ytejieckalcledaa
