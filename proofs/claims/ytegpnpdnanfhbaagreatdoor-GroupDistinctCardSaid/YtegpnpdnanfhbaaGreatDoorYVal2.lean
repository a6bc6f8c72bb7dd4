/- values: lists of them; the order; the document's -/
import Derived.Test.YtegpnpdnanfhbaaGreatDoorYVal
namespace Go.Proofs.YtegpnpdnanfhbaaGreatDoor.ValP
open Go.RowKit K
set_option maxRecDepth 100000 in
set_option maxHeartbeats 4000000 in
theorem checkvalue_any (k n:Int) (s:ByteArray) (w:World) :
  Calls Tryz.prog 84 #[.agg #[.int .i64 k,.int .i64 n,.string s]] w fun e w'=>e=.returned (.int .i64 (vcheck (k,n,s)))∧Below w.heap.size w w':=by
 have hW:=alloc_below w (.cells #[.int .i64 k,.int .i64 n,.string s] 36)
 have hcase:s.size≤0∨(0<s.size∧s.size≤16)∨16<s.size:=by omega
 have hk:k<0∨k=0∨k=1∨k=2∨k=3∨(0≤k∧3<k):=by omega
 rcases hk with hk | rfl | rfl | rfl | rfl | ⟨hk0,hk⟩
 all_goals
  rcases hcase with h1 | ⟨h1,h2⟩ | h1
  all_goals
   cases hn:(n != 0)
   all_goals
    go_enter Tryz.func84,Tryz.ntmps84
    go_wp2
    go_ret
    refine⟨ret_int ?_,hW⟩
    unfold vcheck
    simp only[bne_iff_ne,bne_eq_false_iff_eq] at *
    (repeat' split)<;>first|rfl|omega
theorem checkAll_drop (l:List ValD) (k:Nat) (hk:k<l.length):checkAll (l.drop k)=if vcheck l[k]=0 then checkAll (l.drop (k+1)) else vcheck l[k]:=by
 rw[List.drop_eq_getElem_cons hk];rfl
set_option maxRecDepth 100000 in
theorem checkvalues_any (l:List ValD) (v:Value) (w:World) (hs:Seen w v l.length 3 (valCells l)) :
  Calls Tryz.prog 68 #[v] w fun e w'=>e=.returned (.int .i64 (checkAll l))∧Below w.heap.size w w':=by
 obtain⟨_,a,cap,rfl,hc,hm,hnil,hcells⟩:=id hs
 unfold maxLen at hm
 have HS:=Lib.hid hs
 clear hs hcells
 go_enter Tryz.func68,Tryz.ntmps68
 go_wp2_with fail
 go_loopw [3] (fun i wr=>∃k:Nat,k≤l.length∧i=.int .i64 (k:Int)∧Hid (checkAll l=checkAll (l.drop k))∧Below w.heap.size w wr) (fun i _=>l.length - (intOf i).toNat)
 case atStart=>exact⟨0,by omega,rfl,rfl,Below.refl _ _⟩
 case round=>
  obtain⟨k,hk,rfl,hck,hbel⟩:=hrel
  by_cases h:k<l.length
  ·obtain⟨_,av,capv,e1,_,_,_,hcs⟩:=HS.out.later hbel (Nat.le_refl _)
   simp only[Value.slice.injEq,true_and] at e1
   obtain⟨rfl,rfl⟩:=e1
   obtain⟨b,off,rfl,hb,cl⟩:=hcs.resolve_left (by omega)
   have c0:=cl (k*3+0) _ ((flat_at valOf 3 valOf_len l k h 0 (by decide)).trans rfl)
   have c1:=cl (k*3+1) _ ((flat_at valOf 3 valOf_len l k h 1 (by decide)).trans rfl)
   have c2:=cl (k*3+2) _ ((flat_at valOf 3 valOf_len l k h 2 (by decide)).trans rfl)
   rw[Nat.add_zero] at c0
   rw[← Nat.add_assoc] at c1 c2
   have HD:=Lib.hid (checkAll_drop l k h)
   have HC:=Lib.hid (checkvalue_any l[k].1 l[k].2.1 l[k].2.2 wr)
   rw[show (l[k].1,l[k].2.1,l[k].2.2)=l[k] from rfl] at HC
   generalize vcheck l[k]=c at *
   generalize l[k].1=x0 at *
   generalize l[k].2.1=x1 at *
   generalize l[k].2.2=x2 at *
   clear cl hcs
   by_cases hz:c=0
   ·subst hz
    go_wp2_with (go_at_call 84;refine HC.out.mono ?_;rintro e w1 ⟨rfl,hb1⟩)
    go_roundw
    case rel=>exact⟨k+1,by omega,by go_num,Lib.hid (by rw[hck.out,HD.out];simp),chain hbel hb1⟩
    case measure=>simp[intOf];omega
   ·have hz':(c != 0)=true:=by rw[bne_iff_ne];exact hz
    have HZ:=Lib.hid hz
    clear hz
    go_wp2_with (go_at_call 84;refine HC.out.mono ?_;rintro e w1 ⟨rfl,hb1⟩)
    go_ret
    exact⟨by rw[hck.out,HD.out,if_neg HZ.out]<;>rfl,chain hbel hb1⟩
  ·obtain rfl:k=l.length:=by omega
   have hck:=Lib.hid (hck.out.trans (by rw[List.drop_length,checkAll]))
   go_wp2_with fail
   go_ret
   exact⟨by rw[hck.out]<;>rfl,hbel⟩
set_option maxRecDepth 100000 in
theorem checkall_any (l:List ValD) (v:Value) (w:World) (hs:Seen w v l.length 3 (valCells l)) :
  Calls Tryz.prog 34 #[v] w fun e w'=>e=.returned (.int .i64 (checkAll l))∧Below w.heap.size w w':=by
 obtain⟨_,a,cap,rfl,hc,hm,hnil,hcells⟩:=id hs
 unfold maxLen at hm
 have HS:=Lib.hid hs
 clear hs hcells
 go_enter Tryz.func34,Tryz.ntmps34
 go_wp2_with fail
 go_loopw [8] (fun i wr=>∃k:Nat,k≤l.length∧i=.int .i64 (k:Int)∧Hid (checkAll l=checkAll (l.drop k))∧Below w.heap.size w wr) (fun i _=>l.length - (intOf i).toNat)
 case atStart=>exact⟨0,by omega,rfl,rfl,Below.refl _ _⟩
 case round=>
  obtain⟨k,hk,rfl,hck,hbel⟩:=hrel
  by_cases h:k<l.length
  ·obtain⟨_,av,capv,e1,_,_,_,hcs⟩:=HS.out.later hbel (Nat.le_refl _)
   simp only[Value.slice.injEq,true_and] at e1
   obtain⟨rfl,rfl⟩:=e1
   obtain⟨b,off,rfl,hb,cl⟩:=hcs.resolve_left (by omega)
   have c0:=cl (k*3+0) _ ((flat_at valOf 3 valOf_len l k h 0 (by decide)).trans rfl)
   have c1:=cl (k*3+1) _ ((flat_at valOf 3 valOf_len l k h 1 (by decide)).trans rfl)
   have c2:=cl (k*3+2) _ ((flat_at valOf 3 valOf_len l k h 2 (by decide)).trans rfl)
   rw[Nat.add_zero] at c0
   rw[← Nat.add_assoc] at c1 c2
   have HD:=Lib.hid (checkAll_drop l k h)
   have HC:=Lib.hid (fun w=>check_any l[k].1 l[k].2.1 l[k].2.2 w)
   rw[show (l[k].1,l[k].2.1,l[k].2.2)=l[k] from rfl] at HC
   generalize vcheck l[k]=c at *
   generalize l[k].1=x0 at *
   generalize l[k].2.1=x1 at *
   generalize l[k].2.2=x2 at *
   clear cl hcs
   by_cases hz:c=0
   ·subst hz
    go_wp2_with (go_at_call 60;refine (HC.out _).mono ?_;rintro e w1 ⟨rfl,hb1⟩)
    go_roundw
    case rel=>exact⟨k+1,by omega,by go_num,Lib.hid (by rw[hck.out,HD.out];simp),chain hbel (chain (alloc_below _ _) hb1)⟩
    case measure=>simp[intOf];omega
   ·have hz':(c != 0)=true:=by rw[bne_iff_ne];exact hz
    have HZ:=Lib.hid hz
    clear hz
    go_wp2_with (go_at_call 60;refine (HC.out _).mono ?_;rintro e w1 ⟨rfl,hb1⟩)
    go_ret
    exact⟨by rw[hck.out,HD.out,if_neg HZ.out]<;>rfl,chain hbel (chain (alloc_below _ _) hb1)⟩
  ·obtain rfl:k=l.length:=by omega
   have hck:=Lib.hid (hck.out.trans (by rw[List.drop_length,checkAll]))
   go_wp2_with fail
   go_ret
   exact⟨by rw[hck.out]<;>rfl,hbel⟩
end Go.Proofs.YtegpnpdnanfhbaaGreatDoor.ValP
