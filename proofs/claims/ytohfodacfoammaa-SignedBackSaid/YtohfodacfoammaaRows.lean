/-
  No cell of these rows narrows 'for every input' (looked for: loops, veiled, ifaces, maps, wideKeys, modest, calm, conditions, laid).
  DERIVED. THE GIVEN ROWS OF THIS SEAT. 8 by the template 'for every input the law returns true; each argument reads behind the call as it read before'; 0 by the template 'total and deterministic' (their statements: YtohfodacfoammaaTotals.lean).
  GIVEN WITH THE SEED: the statements are not yours to turn. If you find one false, say at which input.
  Laid BY PROGRAM, IN A SANDBOX (cutbox-rows.mjs): the forced cells as the released guide's own fill.sh prints them over the translation e69b93694b164380… (all of the seat's roots in one cut). By AI agents, Wed Nov 11 2026. No macro, syntax, notation, axiom, sorry.
-/
import Derived.Test.YtohfodacfoammaaChecked
import GoSem.Claim
import GoSem.ClaimJoined
import GoSem.ClaimMapViews
import Derived.JoinedTies
import Derived.KernelRfl
namespace Go.Proofs.Ytohfodacfoammaa
/- THE CELL 'sum', in the pinned program and in every row, IS THE sha256 OF THE DUMP (.gsa) THAT YtohfodacfoammaaProg.lean LOADS. Nothing in Lean hashes anything: it is a label: what it is worth is what the hold of that sum in a sandbox is worth. -/
noncomputable def Try.pinned : Pinned := { name := "ytohfodacfoammaa", sum := "e69b93694b1643800e24005cc6c45c7957ef3666912d262b567eef9396ef2a96", checked := Try.checked }
namespace Rows
def none {H : Type} : Left H := { results := [], args := [] }

/-- 'starlinglaw.NumTells': WHATEVER THE INPUT: true; the input reads as it did. -/
def numTellsSpec : ChangeSpec := { name := "numTells", fn := fun _ => fun
  | [d1, d2] => { results := [.lit (.bool true)], args := [d1, d2] }
  | _ => none }
def numTellsRow : OpenClaim := { program := "ytohfodacfoammaa", sum := "e69b93694b1643800e24005cc6c45c7957ef3666912d262b567eef9396ef2a96", func := "starling/starlinglaw.NumTells", spec := "numTells", recurses := true, apart := false }
def NumTellsSaid : Prop := numTellsRow.holds Try.pinned (OpenSpec.ofChange numTellsSpec)

/-- ITS FALSE NEIGHBOUR: 'it returns false'. Refute it at one input. -/
def numTellsWrong : ChangeSpec := { name := "numTells", fn := fun _ => fun
  | [d1, d2] => { results := [.lit (.bool false)], args := [d1, d2] }
  | _ => none }
def NumTellsWrongFalsely : Prop := numTellsRow.holds Try.pinned (OpenSpec.ofChange numTellsWrong)

/-- 'starlinglaw.NumBack': WHATEVER THE INPUT: true; the input reads as it did. -/
def numBackSpec : ChangeSpec := { name := "numBack", fn := fun _ => fun
  | [d1, d2] => { results := [.lit (.bool true)], args := [d1, d2] }
  | _ => none }
def numBackRow : OpenClaim := { program := "ytohfodacfoammaa", sum := "e69b93694b1643800e24005cc6c45c7957ef3666912d262b567eef9396ef2a96", func := "starling/starlinglaw.NumBack", spec := "numBack", apart := false }
def NumBackSaid : Prop := numBackRow.holds Try.pinned (OpenSpec.ofChange numBackSpec)

/-- ITS FALSE NEIGHBOUR: 'it returns false'. Refute it at one input. -/
def numBackWrong : ChangeSpec := { name := "numBack", fn := fun _ => fun
  | [d1, d2] => { results := [.lit (.bool false)], args := [d1, d2] }
  | _ => none }
def NumBackWrongFalsely : Prop := numBackRow.holds Try.pinned (OpenSpec.ofChange numBackWrong)

/-- 'starlinglaw.NumOnly': WHATEVER THE INPUT: true; the input reads as it did. -/
def numOnlySpec : ChangeSpec := { name := "numOnly", fn := fun _ => fun
  | [d] => { results := [.lit (.bool true)], args := [d] }
  | _ => none }
def numOnlyRow : OpenClaim := { program := "ytohfodacfoammaa", sum := "e69b93694b1643800e24005cc6c45c7957ef3666912d262b567eef9396ef2a96", func := "starling/starlinglaw.NumOnly", spec := "numOnly", apart := false }
def NumOnlySaid : Prop := numOnlyRow.holds Try.pinned (OpenSpec.ofChange numOnlySpec)

/-- ITS FALSE NEIGHBOUR: 'it returns false'. Refute it at one input. -/
def numOnlyWrong : ChangeSpec := { name := "numOnly", fn := fun _ => fun
  | [d] => { results := [.lit (.bool false)], args := [d] }
  | _ => none }
def NumOnlyWrongFalsely : Prop := numOnlyRow.holds Try.pinned (OpenSpec.ofChange numOnlyWrong)

/-- 'starlinglaw.NumCut': WHATEVER THE INPUT: true; the input reads as it did. -/
def numCutSpec : ChangeSpec := { name := "numCut", fn := fun _ => fun
  | [d1, d2] => { results := [.lit (.bool true)], args := [d1, d2] }
  | _ => none }
def numCutRow : OpenClaim := { program := "ytohfodacfoammaa", sum := "e69b93694b1643800e24005cc6c45c7957ef3666912d262b567eef9396ef2a96", func := "starling/starlinglaw.NumCut", spec := "numCut", apart := false }
def NumCutSaid : Prop := numCutRow.holds Try.pinned (OpenSpec.ofChange numCutSpec)

/-- ITS FALSE NEIGHBOUR: 'it returns false'. Refute it at one input. -/
def numCutWrong : ChangeSpec := { name := "numCut", fn := fun _ => fun
  | [d1, d2] => { results := [.lit (.bool false)], args := [d1, d2] }
  | _ => none }
def NumCutWrongFalsely : Prop := numCutRow.holds Try.pinned (OpenSpec.ofChange numCutWrong)

/-- 'starlinglaw.NumLess': WHATEVER THE INPUT: true; the input reads as it did. -/
def numLessSpec : ChangeSpec := { name := "numLess", fn := fun _ => fun
  | [d1, d2] => { results := [.lit (.bool true)], args := [d1, d2] }
  | _ => none }
def numLessRow : OpenClaim := { program := "ytohfodacfoammaa", sum := "e69b93694b1643800e24005cc6c45c7957ef3666912d262b567eef9396ef2a96", func := "starling/starlinglaw.NumLess", spec := "numLess", apart := false }
def NumLessSaid : Prop := numLessRow.holds Try.pinned (OpenSpec.ofChange numLessSpec)

/-- ITS FALSE NEIGHBOUR: 'it returns false'. Refute it at one input. -/
def numLessWrong : ChangeSpec := { name := "numLess", fn := fun _ => fun
  | [d1, d2] => { results := [.lit (.bool false)], args := [d1, d2] }
  | _ => none }
def NumLessWrongFalsely : Prop := numLessRow.holds Try.pinned (OpenSpec.ofChange numLessWrong)

/-- 'starlinglaw.SignedNear': WHATEVER THE INPUT: true; the input reads as it did. -/
def signedNearSpec : ChangeSpec := { name := "signedNear", fn := fun _ => fun
  | [d1, d2] => { results := [.lit (.bool true)], args := [d1, d2] }
  | _ => none }
def signedNearRow : OpenClaim := { program := "ytohfodacfoammaa", sum := "e69b93694b1643800e24005cc6c45c7957ef3666912d262b567eef9396ef2a96", func := "starling/starlinglaw.SignedNear", spec := "signedNear", apart := false }
def SignedNearSaid : Prop := signedNearRow.holds Try.pinned (OpenSpec.ofChange signedNearSpec)

/-- ITS FALSE NEIGHBOUR: 'it returns false'. Refute it at one input. -/
def signedNearWrong : ChangeSpec := { name := "signedNear", fn := fun _ => fun
  | [d1, d2] => { results := [.lit (.bool false)], args := [d1, d2] }
  | _ => none }
def SignedNearWrongFalsely : Prop := signedNearRow.holds Try.pinned (OpenSpec.ofChange signedNearWrong)

/-- 'starlinglaw.SignedTells': WHATEVER THE INPUT: true; the input reads as it did. -/
def signedTellsSpec : ChangeSpec := { name := "signedTells", fn := fun _ => fun
  | [d1, d2, d3] => { results := [.lit (.bool true)], args := [d1, d2, d3] }
  | _ => none }
def signedTellsRow : OpenClaim := { program := "ytohfodacfoammaa", sum := "e69b93694b1643800e24005cc6c45c7957ef3666912d262b567eef9396ef2a96", func := "starling/starlinglaw.SignedTells", spec := "signedTells", recurses := true, apart := false }
def SignedTellsSaid : Prop := signedTellsRow.holds Try.pinned (OpenSpec.ofChange signedTellsSpec)

/-- ITS FALSE NEIGHBOUR: 'it returns false'. Refute it at one input. -/
def signedTellsWrong : ChangeSpec := { name := "signedTells", fn := fun _ => fun
  | [d1, d2, d3] => { results := [.lit (.bool false)], args := [d1, d2, d3] }
  | _ => none }
def SignedTellsWrongFalsely : Prop := signedTellsRow.holds Try.pinned (OpenSpec.ofChange signedTellsWrong)

/-- 'starlinglaw.SignedBack': WHATEVER THE INPUT: true; the input reads as it did. -/
def signedBackSpec : ChangeSpec := { name := "signedBack", fn := fun _ => fun
  | [d1, d2, d3] => { results := [.lit (.bool true)], args := [d1, d2, d3] }
  | _ => none }
def signedBackRow : OpenClaim := { program := "ytohfodacfoammaa", sum := "e69b93694b1643800e24005cc6c45c7957ef3666912d262b567eef9396ef2a96", func := "starling/starlinglaw.SignedBack", spec := "signedBack", apart := false }
def SignedBackSaid : Prop := signedBackRow.holds Try.pinned (OpenSpec.ofChange signedBackSpec)

/-- ITS FALSE NEIGHBOUR: 'it returns false'. Refute it at one input. -/
def signedBackWrong : ChangeSpec := { name := "signedBack", fn := fun _ => fun
  | [d1, d2, d3] => { results := [.lit (.bool false)], args := [d1, d2, d3] }
  | _ => none }
def SignedBackWrongFalsely : Prop := signedBackRow.holds Try.pinned (OpenSpec.ofChange signedBackWrong)

/- THE SECOND FORM. 'bulk': how many values and letters a reading holds, each counted each time it is reached (what is shared counts as often as it is met; a slice's spare places count too). A statement '..UptoSaid' is the law's where the arguments, and the package variables that the reading takes, are together of bulk at most 1048576: NARROWER than '..Said'. Prove '..Said' where nothing that the law and all that it calls make is longer than what came in: it says more and counts as full. Else prove '..UptoSaid'. A law counts once. -/
mutual
def uptoBulk {H : Type} : DataW H → Nat
  | .lit (.string bytes) => bytes.length + 1
  | .lit _ => 1
  | .nil => 1
  | .ptr d => uptoBulk d + 1
  | .slice elems spare => uptoBulkAll elems + uptoBulkAll spare + 1
  | .agg parts => uptoBulkAll parts + 1
  | .iface _ d => uptoBulk d + 1
  | .map entries => uptoBulkEntries entries + 1
  | .held _ => 1
def uptoBulkAll {H : Type} : List (DataW H) → Nat
  | [] => 0
  | d :: r => uptoBulk d + uptoBulkAll r
def uptoBulkEntries {H : Type} : List (Lit × DataW H) → Nat
  | [] => 0
  | x :: r => uptoBulkEntry x + uptoBulkEntries r
def uptoBulkEntry {H : Type} : Lit × DataW H → Nat
  | (.string bytes, d) => bytes.length + uptoBulk d + 1
  | (_, d) => uptoBulk d + 1
 end
def uptoSmall : (H : Type) → List (DataW H) → Bool := fun _ ds => decide (uptoBulkAll ds ≤ 1048576)
def OpenSpec.upto (s : _root_.Go.ChangeSpec) : _root_.Go.OpenSpec := { _root_.Go.OpenSpec.ofChange s with cond := some uptoSmall }

/-- 'starlinglaw.NumTells', WHERE WHAT IT READS IS OF BULK AT MOST 1048576: true; the input reads as it did. -/
def numTellsUptoRow : OpenClaim := { program := "ytohfodacfoammaa", sum := "e69b93694b1643800e24005cc6c45c7957ef3666912d262b567eef9396ef2a96", func := "starling/starlinglaw.NumTells", spec := "numTells", recurses := true, apart := false, narrowed := true }
def NumTellsUptoSaid : Prop := numTellsUptoRow.holds Try.pinned (OpenSpec.upto numTellsSpec)

/-- 'starlinglaw.NumBack', WHERE WHAT IT READS IS OF BULK AT MOST 1048576: true; the input reads as it did. -/
def numBackUptoRow : OpenClaim := { program := "ytohfodacfoammaa", sum := "e69b93694b1643800e24005cc6c45c7957ef3666912d262b567eef9396ef2a96", func := "starling/starlinglaw.NumBack", spec := "numBack", apart := false, narrowed := true }
def NumBackUptoSaid : Prop := numBackUptoRow.holds Try.pinned (OpenSpec.upto numBackSpec)

/-- 'starlinglaw.NumOnly', WHERE WHAT IT READS IS OF BULK AT MOST 1048576: true; the input reads as it did. -/
def numOnlyUptoRow : OpenClaim := { program := "ytohfodacfoammaa", sum := "e69b93694b1643800e24005cc6c45c7957ef3666912d262b567eef9396ef2a96", func := "starling/starlinglaw.NumOnly", spec := "numOnly", apart := false, narrowed := true }
def NumOnlyUptoSaid : Prop := numOnlyUptoRow.holds Try.pinned (OpenSpec.upto numOnlySpec)

/-- 'starlinglaw.NumCut', WHERE WHAT IT READS IS OF BULK AT MOST 1048576: true; the input reads as it did. -/
def numCutUptoRow : OpenClaim := { program := "ytohfodacfoammaa", sum := "e69b93694b1643800e24005cc6c45c7957ef3666912d262b567eef9396ef2a96", func := "starling/starlinglaw.NumCut", spec := "numCut", apart := false, narrowed := true }
def NumCutUptoSaid : Prop := numCutUptoRow.holds Try.pinned (OpenSpec.upto numCutSpec)

/-- 'starlinglaw.NumLess', WHERE WHAT IT READS IS OF BULK AT MOST 1048576: true; the input reads as it did. -/
def numLessUptoRow : OpenClaim := { program := "ytohfodacfoammaa", sum := "e69b93694b1643800e24005cc6c45c7957ef3666912d262b567eef9396ef2a96", func := "starling/starlinglaw.NumLess", spec := "numLess", apart := false, narrowed := true }
def NumLessUptoSaid : Prop := numLessUptoRow.holds Try.pinned (OpenSpec.upto numLessSpec)

/-- 'starlinglaw.SignedNear', WHERE WHAT IT READS IS OF BULK AT MOST 1048576: true; the input reads as it did. -/
def signedNearUptoRow : OpenClaim := { program := "ytohfodacfoammaa", sum := "e69b93694b1643800e24005cc6c45c7957ef3666912d262b567eef9396ef2a96", func := "starling/starlinglaw.SignedNear", spec := "signedNear", apart := false, narrowed := true }
def SignedNearUptoSaid : Prop := signedNearUptoRow.holds Try.pinned (OpenSpec.upto signedNearSpec)

/-- 'starlinglaw.SignedTells', WHERE WHAT IT READS IS OF BULK AT MOST 1048576: true; the input reads as it did. -/
def signedTellsUptoRow : OpenClaim := { program := "ytohfodacfoammaa", sum := "e69b93694b1643800e24005cc6c45c7957ef3666912d262b567eef9396ef2a96", func := "starling/starlinglaw.SignedTells", spec := "signedTells", recurses := true, apart := false, narrowed := true }
def SignedTellsUptoSaid : Prop := signedTellsUptoRow.holds Try.pinned (OpenSpec.upto signedTellsSpec)

/-- 'starlinglaw.SignedBack', WHERE WHAT IT READS IS OF BULK AT MOST 1048576: true; the input reads as it did. -/
def signedBackUptoRow : OpenClaim := { program := "ytohfodacfoammaa", sum := "e69b93694b1643800e24005cc6c45c7957ef3666912d262b567eef9396ef2a96", func := "starling/starlinglaw.SignedBack", spec := "signedBack", apart := false, narrowed := true }
def SignedBackUptoSaid : Prop := signedBackUptoRow.holds Try.pinned (OpenSpec.upto signedBackSpec)

end Rows
end Go.Proofs.Ytohfodacfoammaa
