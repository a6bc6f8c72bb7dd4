/- values: what is right, which one is less; the program's -/
import Derived.Test.YtegpnpdnanfhbaaGreatDoorYReads
import Derived.Test.YtegpnpdnanfhbaaGreatDoorYBx
import Derived.Lib.Bytealg
import Derived.Shelf.Small.Strs
namespace Go.Proofs.YtegpnpdnanfhbaaGreatDoor.ValP
open Go.RowKit K
abbrev ValD:=Int×Int×ByteArray
def valOf (x:ValD):List Value:=[.int .i64 x.1,.int .i64 x.2.1,.string x.2.2]
def valCells (q:List ValD):List Value:=q.flatMap valOf
theorem valOf_len (x:ValD):(valOf x).length=3:=rfl
def vcheck (x:ValD):Int:=
 if x.1<0∨3<x.1 then 7 else if (x.1≠1∧x.2.1≠0)∨(x.1<2∧0<x.2.2.size) then 1 else if 16<x.2.2.size then 2 else 0
def checkAll:List ValD→Int
 | []=>0
 | x::l=>if vcheck x=0 then checkAll l else vcheck x
theorem empty_iff (s:ByteArray):s.toList.isEmpty=decide (s.size=0):=by
 rw[Bool.eq_iff_iff,decide_eq_true_eq,List.isEmpty_iff,ByteArray.toList_eq]
 constructor
 ·intro h;have:=congrArg List.length h;simpa using this
 ·intro h;apply List.eq_nil_of_length_eq_zero;simpa using h
theorem ret_int {k:IntKind} {a b:Int} (h:a=b):Ending.returned (.int k a)=.returned (.int k b):=by rw[h]
set_option maxRecDepth 100000 in
theorem check_any (k n:Int) (s:ByteArray) (w:World) :
  Calls Tryz.prog 60 #[.agg #[.int .i64 k,.int .i64 n,.string s]] w fun e w'=>e=.returned (.int .i64 (vcheck (k,n,s)))∧Below w.heap.size w w':=by
 have hW:=alloc_below w (.cells #[.int .i64 k,.int .i64 n,.string s] 36)
 have hemp:=empty_iff s
 have hcase:(s.size≤0∧Hid (s.size=0))∨(0<s.size∧s.size≤16∧Hid (s.size≠0))∨(16<s.size∧Hid (s.size≠0)):=by
  by_cases h0:s.size=0
  ·exact .inl ⟨by omega,Lib.hid h0⟩
  ·by_cases h1:s.size≤16
   ·exact .inr (.inl ⟨by omega,h1,Lib.hid h0⟩)
   ·exact .inr (.inr ⟨by omega,Lib.hid h0⟩)
 rcases hcase with ⟨h1,h0⟩ | ⟨h1,h2,h0⟩ | ⟨h1,h0⟩
 all_goals
  first|rw[decide_eq_true h0.out] at hemp|rw[decide_eq_false h0.out] at hemp
  cases hn:(n != 0)
  all_goals
   go_enter Tryz.func60,Tryz.ntmps60
   go_wp2
   all_goals
    go_ret
    refine⟨ret_int ?_,hW⟩
    unfold vcheck
    simp only[beq_iff_eq,beq_eq_false_iff_ne,bne_iff_ne,bne_eq_false_iff_eq] at *
    have:=h0.out
    (repeat' split)<;>first|rfl|omega
end Go.Proofs.YtegpnpdnanfhbaaGreatDoor.ValP
