/-
  NARROWER THAN 'FOR EVERY INPUT', by the rows' own cells (each row's printed sentence says how): LikeTells: laid · LikePieces: laid · LikeSplits: laid · LikeMore: laid · LikeFirst: laid · LikeParts: laid · LikeSelf: laid.
  DERIVED. THE GIVEN ROWS OF THIS SEAT. 7 by the template 'for every input the law returns true; each argument reads behind the call as it read before'; 0 by the template 'total and deterministic' (their statements: YthogcgnhhcbkkaaDoorTotals.lean).
  GIVEN WITH THE SEED: the statements are not yours to turn. If you find one false, say at which input.
  Laid BY PROGRAM, IN A SANDBOX (cutbox-rows.mjs): the forced cells as the released guide's own fill.sh prints them over the translation aebcd78fe8df2b16… (all of the seat's roots in one cut). By AI agents, Wed Nov 11 2026. No macro, syntax, notation, axiom, sorry.
-/
import Derived.Test.YthogcgnhhcbkkaaDoorChecked
import GoSem.PinnedTables
import GoSem.Claim
import GoSem.ClaimJoined
import GoSem.ClaimMapViews
import Derived.JoinedTies
import Derived.KernelRfl
namespace Go.Proofs.YthogcgnhhcbkkaaDoor
/- THE CELL 'sum', in the pinned program and in every row, IS THE sha256 OF THE DUMP (.gsa) THAT YthogcgnhhcbkkaaDoorProg.lean LOADS. Nothing in Lean hashes anything: it is a label: what it is worth is what the hold of that sum in a sandbox is worth. -/
noncomputable def Tryd.pinned : Pinned := { name := "ythogcgnhhcbkkaadoor", sum := "aebcd78fe8df2b16daf7153f744e0a1dfa088e234f7e4ae73166ab0244c89a92", checked := Tryd.checked }
namespace Rows
def none {H : Type} : Left H := { results := [], args := [] }

/- WHAT THE LISTED PACKAGE-LEVEL VARIABLES READ AS WHEN THE CALL BEGINS. Each datum BY PROGRAM (the guide's laid-datum.mjs) off the statement by which the dump's own 'gosem.cut.vars' lays the variable. In a bare row this is a premise. The card (YthogcgnhhcbkkaaDoorCards.lean) ties it to the program's text. -/
def laid_unicode_utf8_acceptRanges {H : Type} : DataW H := .agg [.agg [.lit (.int .u8 128), .lit (.int .u8 191)], .agg [.lit (.int .u8 160), .lit (.int .u8 191)], .agg [.lit (.int .u8 128), .lit (.int .u8 159)], .agg [.lit (.int .u8 144), .lit (.int .u8 191)], .agg [.lit (.int .u8 128), .lit (.int .u8 143)], .agg [.lit (.int .u8 0), .lit (.int .u8 0)], .agg [.lit (.int .u8 0), .lit (.int .u8 0)], .agg [.lit (.int .u8 0), .lit (.int .u8 0)], .agg [.lit (.int .u8 0), .lit (.int .u8 0)], .agg [.lit (.int .u8 0), .lit (.int .u8 0)], .agg [.lit (.int .u8 0), .lit (.int .u8 0)], .agg [.lit (.int .u8 0), .lit (.int .u8 0)], .agg [.lit (.int .u8 0), .lit (.int .u8 0)], .agg [.lit (.int .u8 0), .lit (.int .u8 0)], .agg [.lit (.int .u8 0), .lit (.int .u8 0)], .agg [.lit (.int .u8 0), .lit (.int .u8 0)]]
/-- One of Go's own tables, pinned by name: the form's constant. -/
def laid_unicode_utf8_first : DataW Unit := Go.Pinned.utf8First

/-- 'starlinglaw.LikeTells': WHATEVER THE INPUT: true; the input reads as it did. -/
def likeTellsSpec : ChangeSpec := { name := "likeTells", fn := fun _ => fun
  | [d1, d2] => { results := [.lit (.bool true)], args := [d1, d2] }
  | _ => none }
def likeTellsRow : OpenClaim := { program := "ythogcgnhhcbkkaadoor", sum := "aebcd78fe8df2b16daf7153f744e0a1dfa088e234f7e4ae73166ab0244c89a92", func := "starling/starlinglaw.LikeTells", spec := "likeTells", inPlace := ["internal/abi.NoEscape"], unfollowed := true, recurses := true, named := ["unicode/utf8.first", "unicode/utf8.acceptRanges"], apart := false, laid := [("unicode/utf8.acceptRanges", laid_unicode_utf8_acceptRanges), ("unicode/utf8.first", laid_unicode_utf8_first)] }
def LikeTellsSaid : Prop := likeTellsRow.holds Tryd.pinned (OpenSpec.ofChange likeTellsSpec)

/-- ITS FALSE NEIGHBOUR: 'it returns false'. Refute it at one input. -/
def likeTellsWrong : ChangeSpec := { name := "likeTells", fn := fun _ => fun
  | [d1, d2] => { results := [.lit (.bool false)], args := [d1, d2] }
  | _ => none }
def LikeTellsWrongFalsely : Prop := likeTellsRow.holds Tryd.pinned (OpenSpec.ofChange likeTellsWrong)

/-- 'starlinglaw.LikePieces': WHATEVER THE INPUT: true; the input reads as it did. -/
def likePiecesSpec : ChangeSpec := { name := "likePieces", fn := fun _ => fun
  | [d1, d2] => { results := [.lit (.bool true)], args := [d1, d2] }
  | _ => none }
def likePiecesRow : OpenClaim := { program := "ythogcgnhhcbkkaadoor", sum := "aebcd78fe8df2b16daf7153f744e0a1dfa088e234f7e4ae73166ab0244c89a92", func := "starling/starlinglaw.LikePieces", spec := "likePieces", inPlace := ["internal/abi.NoEscape"], unfollowed := true, recurses := true, named := ["unicode/utf8.first", "unicode/utf8.acceptRanges"], apart := false, laid := [("unicode/utf8.acceptRanges", laid_unicode_utf8_acceptRanges), ("unicode/utf8.first", laid_unicode_utf8_first)] }
def LikePiecesSaid : Prop := likePiecesRow.holds Tryd.pinned (OpenSpec.ofChange likePiecesSpec)

/-- ITS FALSE NEIGHBOUR: 'it returns false'. Refute it at one input. -/
def likePiecesWrong : ChangeSpec := { name := "likePieces", fn := fun _ => fun
  | [d1, d2] => { results := [.lit (.bool false)], args := [d1, d2] }
  | _ => none }
def LikePiecesWrongFalsely : Prop := likePiecesRow.holds Tryd.pinned (OpenSpec.ofChange likePiecesWrong)

/-- 'starlinglaw.LikeSplits': WHATEVER THE INPUT: true; the input reads as it did. -/
def likeSplitsSpec : ChangeSpec := { name := "likeSplits", fn := fun _ => fun
  | [d1, d2, d3] => { results := [.lit (.bool true)], args := [d1, d2, d3] }
  | _ => none }
def likeSplitsRow : OpenClaim := { program := "ythogcgnhhcbkkaadoor", sum := "aebcd78fe8df2b16daf7153f744e0a1dfa088e234f7e4ae73166ab0244c89a92", func := "starling/starlinglaw.LikeSplits", spec := "likeSplits", inPlace := ["internal/abi.NoEscape"], unfollowed := true, recurses := true, named := ["unicode/utf8.first", "unicode/utf8.acceptRanges"], apart := false, laid := [("unicode/utf8.acceptRanges", laid_unicode_utf8_acceptRanges), ("unicode/utf8.first", laid_unicode_utf8_first)] }
def LikeSplitsSaid : Prop := likeSplitsRow.holds Tryd.pinned (OpenSpec.ofChange likeSplitsSpec)

/-- ITS FALSE NEIGHBOUR: 'it returns false'. Refute it at one input. -/
def likeSplitsWrong : ChangeSpec := { name := "likeSplits", fn := fun _ => fun
  | [d1, d2, d3] => { results := [.lit (.bool false)], args := [d1, d2, d3] }
  | _ => none }
def LikeSplitsWrongFalsely : Prop := likeSplitsRow.holds Tryd.pinned (OpenSpec.ofChange likeSplitsWrong)

/-- 'starlinglaw.LikeMore': WHATEVER THE INPUT: true; the input reads as it did. -/
def likeMoreSpec : ChangeSpec := { name := "likeMore", fn := fun _ => fun
  | [d1, d2, d3] => { results := [.lit (.bool true)], args := [d1, d2, d3] }
  | _ => none }
def likeMoreRow : OpenClaim := { program := "ythogcgnhhcbkkaadoor", sum := "aebcd78fe8df2b16daf7153f744e0a1dfa088e234f7e4ae73166ab0244c89a92", func := "starling/starlinglaw.LikeMore", spec := "likeMore", inPlace := ["internal/abi.NoEscape"], unfollowed := true, recurses := true, named := ["unicode/utf8.first", "unicode/utf8.acceptRanges"], apart := false, laid := [("unicode/utf8.acceptRanges", laid_unicode_utf8_acceptRanges), ("unicode/utf8.first", laid_unicode_utf8_first)] }
def LikeMoreSaid : Prop := likeMoreRow.holds Tryd.pinned (OpenSpec.ofChange likeMoreSpec)

/-- ITS FALSE NEIGHBOUR: 'it returns false'. Refute it at one input. -/
def likeMoreWrong : ChangeSpec := { name := "likeMore", fn := fun _ => fun
  | [d1, d2, d3] => { results := [.lit (.bool false)], args := [d1, d2, d3] }
  | _ => none }
def LikeMoreWrongFalsely : Prop := likeMoreRow.holds Tryd.pinned (OpenSpec.ofChange likeMoreWrong)

/-- 'starlinglaw.LikeFirst': WHATEVER THE INPUT: true; the input reads as it did. -/
def likeFirstSpec : ChangeSpec := { name := "likeFirst", fn := fun _ => fun
  | [d1, d2] => { results := [.lit (.bool true)], args := [d1, d2] }
  | _ => none }
def likeFirstRow : OpenClaim := { program := "ythogcgnhhcbkkaadoor", sum := "aebcd78fe8df2b16daf7153f744e0a1dfa088e234f7e4ae73166ab0244c89a92", func := "starling/starlinglaw.LikeFirst", spec := "likeFirst", inPlace := ["internal/abi.NoEscape"], unfollowed := true, recurses := true, named := ["unicode/utf8.first", "unicode/utf8.acceptRanges"], apart := false, laid := [("unicode/utf8.acceptRanges", laid_unicode_utf8_acceptRanges), ("unicode/utf8.first", laid_unicode_utf8_first)] }
def LikeFirstSaid : Prop := likeFirstRow.holds Tryd.pinned (OpenSpec.ofChange likeFirstSpec)

/-- ITS FALSE NEIGHBOUR: 'it returns false'. Refute it at one input. -/
def likeFirstWrong : ChangeSpec := { name := "likeFirst", fn := fun _ => fun
  | [d1, d2] => { results := [.lit (.bool false)], args := [d1, d2] }
  | _ => none }
def LikeFirstWrongFalsely : Prop := likeFirstRow.holds Tryd.pinned (OpenSpec.ofChange likeFirstWrong)

/-- 'starlinglaw.LikeParts': WHATEVER THE INPUT: true; the input reads as it did. -/
def likePartsSpec : ChangeSpec := { name := "likeParts", fn := fun _ => fun
  | [d1, d2] => { results := [.lit (.bool true)], args := [d1, d2] }
  | _ => none }
def likePartsRow : OpenClaim := { program := "ythogcgnhhcbkkaadoor", sum := "aebcd78fe8df2b16daf7153f744e0a1dfa088e234f7e4ae73166ab0244c89a92", func := "starling/starlinglaw.LikeParts", spec := "likeParts", inPlace := ["internal/abi.NoEscape"], unfollowed := true, recurses := true, named := ["unicode/utf8.first", "unicode/utf8.acceptRanges"], apart := false, laid := [("unicode/utf8.acceptRanges", laid_unicode_utf8_acceptRanges), ("unicode/utf8.first", laid_unicode_utf8_first)] }
def LikePartsSaid : Prop := likePartsRow.holds Tryd.pinned (OpenSpec.ofChange likePartsSpec)

/-- ITS FALSE NEIGHBOUR: 'it returns false'. Refute it at one input. -/
def likePartsWrong : ChangeSpec := { name := "likeParts", fn := fun _ => fun
  | [d1, d2] => { results := [.lit (.bool false)], args := [d1, d2] }
  | _ => none }
def LikePartsWrongFalsely : Prop := likePartsRow.holds Tryd.pinned (OpenSpec.ofChange likePartsWrong)

/-- 'starlinglaw.LikeSelf': WHATEVER THE INPUT: true; the input reads as it did. -/
def likeSelfSpec : ChangeSpec := { name := "likeSelf", fn := fun _ => fun
  | [d1, d2] => { results := [.lit (.bool true)], args := [d1, d2] }
  | _ => none }
def likeSelfRow : OpenClaim := { program := "ythogcgnhhcbkkaadoor", sum := "aebcd78fe8df2b16daf7153f744e0a1dfa088e234f7e4ae73166ab0244c89a92", func := "starling/starlinglaw.LikeSelf", spec := "likeSelf", inPlace := ["internal/abi.NoEscape"], unfollowed := true, recurses := true, named := ["unicode/utf8.first", "unicode/utf8.acceptRanges"], apart := false, laid := [("unicode/utf8.acceptRanges", laid_unicode_utf8_acceptRanges), ("unicode/utf8.first", laid_unicode_utf8_first)] }
def LikeSelfSaid : Prop := likeSelfRow.holds Tryd.pinned (OpenSpec.ofChange likeSelfSpec)

/-- ITS FALSE NEIGHBOUR: 'it returns false'. Refute it at one input. -/
def likeSelfWrong : ChangeSpec := { name := "likeSelf", fn := fun _ => fun
  | [d1, d2] => { results := [.lit (.bool false)], args := [d1, d2] }
  | _ => none }
def LikeSelfWrongFalsely : Prop := likeSelfRow.holds Tryd.pinned (OpenSpec.ofChange likeSelfWrong)

/- THE SECOND FORM. 'bulk': how many values and letters a reading holds, each counted each time it is reached (what is shared counts as often as it is met; a slice's spare places count too). A statement '..UptoSaid' is the law's where the arguments, and the package variables that the reading takes, are together of bulk at most 1048576: NARROWER than '..Said'. Prove '..Said' where nothing that the law and all that it calls make is longer than what came in: it says more and counts as full. Else prove '..UptoSaid'. A law counts once. -/
mutual
def uptoBulk {H : Type} : DataW H → Nat
  | .lit (.string bytes) => bytes.length + 1
  | .lit _ => 1
  | .nil => 1
  | .ptr d => uptoBulk d + 1
  | .slice elems spare => uptoBulkAll elems + uptoBulkAll spare + 1
  | .agg parts => uptoBulkAll parts + 1
  | .iface _ d => uptoBulk d + 1
  | .map entries => uptoBulkEntries entries + 1
  | .held _ => 1
def uptoBulkAll {H : Type} : List (DataW H) → Nat
  | [] => 0
  | d :: r => uptoBulk d + uptoBulkAll r
def uptoBulkEntries {H : Type} : List (Lit × DataW H) → Nat
  | [] => 0
  | x :: r => uptoBulkEntry x + uptoBulkEntries r
def uptoBulkEntry {H : Type} : Lit × DataW H → Nat
  | (.string bytes, d) => bytes.length + uptoBulk d + 1
  | (_, d) => uptoBulk d + 1
 end
def uptoSmall : (H : Type) → List (DataW H) → Bool := fun _ ds => decide (uptoBulkAll ds ≤ 1048576)
def OpenSpec.upto (s : _root_.Go.ChangeSpec) : _root_.Go.OpenSpec := { _root_.Go.OpenSpec.ofChange s with cond := some uptoSmall }

/-- 'starlinglaw.LikeTells', WHERE WHAT IT READS IS OF BULK AT MOST 1048576: true; the input reads as it did. -/
def likeTellsUptoRow : OpenClaim := { program := "ythogcgnhhcbkkaadoor", sum := "aebcd78fe8df2b16daf7153f744e0a1dfa088e234f7e4ae73166ab0244c89a92", func := "starling/starlinglaw.LikeTells", spec := "likeTells", inPlace := ["internal/abi.NoEscape"], unfollowed := true, recurses := true, named := ["unicode/utf8.first", "unicode/utf8.acceptRanges"], apart := false, laid := [("unicode/utf8.acceptRanges", laid_unicode_utf8_acceptRanges), ("unicode/utf8.first", laid_unicode_utf8_first)], narrowed := true }
def LikeTellsUptoSaid : Prop := likeTellsUptoRow.holds Tryd.pinned (OpenSpec.upto likeTellsSpec)

/-- 'starlinglaw.LikePieces', WHERE WHAT IT READS IS OF BULK AT MOST 1048576: true; the input reads as it did. -/
def likePiecesUptoRow : OpenClaim := { program := "ythogcgnhhcbkkaadoor", sum := "aebcd78fe8df2b16daf7153f744e0a1dfa088e234f7e4ae73166ab0244c89a92", func := "starling/starlinglaw.LikePieces", spec := "likePieces", inPlace := ["internal/abi.NoEscape"], unfollowed := true, recurses := true, named := ["unicode/utf8.first", "unicode/utf8.acceptRanges"], apart := false, laid := [("unicode/utf8.acceptRanges", laid_unicode_utf8_acceptRanges), ("unicode/utf8.first", laid_unicode_utf8_first)], narrowed := true }
def LikePiecesUptoSaid : Prop := likePiecesUptoRow.holds Tryd.pinned (OpenSpec.upto likePiecesSpec)

/-- 'starlinglaw.LikeSplits', WHERE WHAT IT READS IS OF BULK AT MOST 1048576: true; the input reads as it did. -/
def likeSplitsUptoRow : OpenClaim := { program := "ythogcgnhhcbkkaadoor", sum := "aebcd78fe8df2b16daf7153f744e0a1dfa088e234f7e4ae73166ab0244c89a92", func := "starling/starlinglaw.LikeSplits", spec := "likeSplits", inPlace := ["internal/abi.NoEscape"], unfollowed := true, recurses := true, named := ["unicode/utf8.first", "unicode/utf8.acceptRanges"], apart := false, laid := [("unicode/utf8.acceptRanges", laid_unicode_utf8_acceptRanges), ("unicode/utf8.first", laid_unicode_utf8_first)], narrowed := true }
def LikeSplitsUptoSaid : Prop := likeSplitsUptoRow.holds Tryd.pinned (OpenSpec.upto likeSplitsSpec)

/-- 'starlinglaw.LikeMore', WHERE WHAT IT READS IS OF BULK AT MOST 1048576: true; the input reads as it did. -/
def likeMoreUptoRow : OpenClaim := { program := "ythogcgnhhcbkkaadoor", sum := "aebcd78fe8df2b16daf7153f744e0a1dfa088e234f7e4ae73166ab0244c89a92", func := "starling/starlinglaw.LikeMore", spec := "likeMore", inPlace := ["internal/abi.NoEscape"], unfollowed := true, recurses := true, named := ["unicode/utf8.first", "unicode/utf8.acceptRanges"], apart := false, laid := [("unicode/utf8.acceptRanges", laid_unicode_utf8_acceptRanges), ("unicode/utf8.first", laid_unicode_utf8_first)], narrowed := true }
def LikeMoreUptoSaid : Prop := likeMoreUptoRow.holds Tryd.pinned (OpenSpec.upto likeMoreSpec)

/-- 'starlinglaw.LikeFirst', WHERE WHAT IT READS IS OF BULK AT MOST 1048576: true; the input reads as it did. -/
def likeFirstUptoRow : OpenClaim := { program := "ythogcgnhhcbkkaadoor", sum := "aebcd78fe8df2b16daf7153f744e0a1dfa088e234f7e4ae73166ab0244c89a92", func := "starling/starlinglaw.LikeFirst", spec := "likeFirst", inPlace := ["internal/abi.NoEscape"], unfollowed := true, recurses := true, named := ["unicode/utf8.first", "unicode/utf8.acceptRanges"], apart := false, laid := [("unicode/utf8.acceptRanges", laid_unicode_utf8_acceptRanges), ("unicode/utf8.first", laid_unicode_utf8_first)], narrowed := true }
def LikeFirstUptoSaid : Prop := likeFirstUptoRow.holds Tryd.pinned (OpenSpec.upto likeFirstSpec)

/-- 'starlinglaw.LikeParts', WHERE WHAT IT READS IS OF BULK AT MOST 1048576: true; the input reads as it did. -/
def likePartsUptoRow : OpenClaim := { program := "ythogcgnhhcbkkaadoor", sum := "aebcd78fe8df2b16daf7153f744e0a1dfa088e234f7e4ae73166ab0244c89a92", func := "starling/starlinglaw.LikeParts", spec := "likeParts", inPlace := ["internal/abi.NoEscape"], unfollowed := true, recurses := true, named := ["unicode/utf8.first", "unicode/utf8.acceptRanges"], apart := false, laid := [("unicode/utf8.acceptRanges", laid_unicode_utf8_acceptRanges), ("unicode/utf8.first", laid_unicode_utf8_first)], narrowed := true }
def LikePartsUptoSaid : Prop := likePartsUptoRow.holds Tryd.pinned (OpenSpec.upto likePartsSpec)

/-- 'starlinglaw.LikeSelf', WHERE WHAT IT READS IS OF BULK AT MOST 1048576: true; the input reads as it did. -/
def likeSelfUptoRow : OpenClaim := { program := "ythogcgnhhcbkkaadoor", sum := "aebcd78fe8df2b16daf7153f744e0a1dfa088e234f7e4ae73166ab0244c89a92", func := "starling/starlinglaw.LikeSelf", spec := "likeSelf", inPlace := ["internal/abi.NoEscape"], unfollowed := true, recurses := true, named := ["unicode/utf8.first", "unicode/utf8.acceptRanges"], apart := false, laid := [("unicode/utf8.acceptRanges", laid_unicode_utf8_acceptRanges), ("unicode/utf8.first", laid_unicode_utf8_first)], narrowed := true }
def LikeSelfUptoSaid : Prop := likeSelfUptoRow.holds Tryd.pinned (OpenSpec.upto likeSelfSpec)

end Rows
end Go.Proofs.YthogcgnhhcbkkaaDoor
