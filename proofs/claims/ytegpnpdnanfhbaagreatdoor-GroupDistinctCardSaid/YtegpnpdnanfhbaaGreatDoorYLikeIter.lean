/- the pieces of a text, one by one: the iterator's contract -/
import Derived.Test.YtegpnpdnanfhbaaGreatDoorYRange
import Derived.Test.YtegpnpdnanfhbaaGreatDoorYLikeLen
import Derived.Test.YtegpnpdnanfhbaaGreatDoorYShelf
namespace Go.Proofs.YtegpnpdnanfhbaaGreatDoor.LikeP
open Go.RowKit Go.Lib K
attribute [local go_sem] Oper.semAt_some
def Tabs (w:World):Prop:=Lib.Utf8Tabs 1 2 w
theorem Tabs.later {w w':World} (h:Tabs w) (hb:Below w.heap.size w w'):Tabs w':=Utf8Tabs_below h hb
theorem decode_any (s:ByteArray) (w:World) (h:0<s.size) (hT:Tabs w) :
  Calls Tryz.prog 148 #[.string s] w fun e w'=>e=.returned (.tuple #[.int .i32 (Lib.decodeGo s).1,.int .i64 (ll s)])∧Below w.heap.size w w':=by
 have:=Tryz.utf8_DecodeRuneInString s w hT
 rw[decode_len s h] at this
 exact this
def strLen:Option Obj→Nat
 | some (.cells cs _ _)=>match cs.toList with
  | [.string s]=>s.size
  | _=>0
 | _=>0
def BoxS (S:Nat) (r:ByteArray) (W:World):Prop:=W.heap[S]? = some (.cells #[.string r] 9 (0,0))
set_option maxRecDepth 100000 in
set_option maxHeartbeats 1000000 in
theorem iter_any (n:Nat) (S:Nat) (s:ByteArray) :
  SeqSt Fence.wide n Tryz.prog 147 #[.pointer (some ⟨S,0,none⟩)] (fun x:ByteArray=>#[Value.string x]) S (pcs s) Tabs (some (.cells #[.string s] 9 (0,0))):=by
 intro l J Jx W hS hJT hJ hJx hY h0
 refine callsIn_of_wp Tryz.func147 rfl trivial ?_ rfl
 simp only[Tryz.ntmps147,List.size_toArray,List.length_cons,List.length_nil,Nat.reduceAdd,Nat.reduceSub,Array.replicate_succ,Array.replicate_zero,List.push_toArray,List.append_toArray,List.nil_append,List.cons_append]
 gi_wp2
 gi_loopw [4] (fun _ wr=>∃(pre:List ByteArray) (r:ByteArray),pcs s=pre++pcs r∧BoxS S r wr∧J pre wr)
  (fun _ wr=>strLen wr.heap[S]?)
 case atStart=>exact⟨[],s,rfl,hS,h0⟩
 case round=>
  obtain⟨pre,r,hx,hb,hj⟩:=hrel
  have hT:=hJT _ _ hj
  have hc:wr.cell? ⟨S,0,none⟩=some (.string r):=cell_of_row _ _ 0 _ _ _ hb
  have hf:wr.frozen? ⟨S,0,none⟩=false:=frozen_of_row _ _ 0 _ _ hb
  by_cases hz:r.size=0
  ·have hne:r.toList.isEmpty=true:=by
    rw[List.isEmpty_iff,ByteArray.toList_eq]
    exact List.eq_nil_of_length_eq_zero hz
   have HX:=Lib.hid hx
   clear hx
   gi_wp2
   go_end0
   refine⟨⟨_,rfl⟩,.inl ?_⟩
   rw[HX.out,pcs_nil r hz,List.append_nil]
   exact hj
  ·have hne:r.toList.isEmpty=false:=by
    rw[Bool.eq_false_iff,Ne,List.isEmpty_iff,ByteArray.toList_eq]
    intro e;exact hz (by have:=congrArg List.length e;simpa using this)
   have hl1:=ll_pos r
   have hl2:=ll_le r (by omega)
   have hx2:=hx
   rw[pcs_cons r (by omega)] at hx2
   have HX:=Lib.hid hx2
   have HXS:Hid ((pcs s)[pre.length]? = some (r.extract 0 (ll r))):=by show _=_;rw[hx2];simp
   clear hx hx2
   gi_wp2_with fail
   refine⟨trivial,(fun h=>by cases h),?_⟩
   refine (callsIn_wide.2 (decode_any r _ (by omega) hT)).mono ?_
   rintro e w1 ⟨rfl,hb1⟩
   have hj1:=hJ _ _ _ hj (Only.of_below hb1)
   have hsz:S<wr.heap.size:=(Array.getElem?_eq_some_iff.1 hb).1
   have hbx:BoxS S r w1:=(hb1.block S hsz).trans hb
   have hc1:w1.cell? ⟨S,0,none⟩=some (.string r):=cell_of_row _ _ 0 _ _ _ hbx
   have hf1:w1.frozen? ⟨S,0,none⟩=false:=frozen_of_row _ _ 0 _ _ hbx
   have hi1:(0:Int)≤ll r:=by omega
   have hi2:(ll r:Int)≤r.size:=by omega
   obtain⟨fn,tmps,assign,body,hy,hR⟩:=hY pre _ w1 hj1 HXS.out
   clear hc hf hb hT
   gi_wp2
   refine⟨(fun h=>by cases h),hR.mono ?_⟩
   rintro e W3 (⟨rfl,hJ3,hs3,hk3⟩ | ⟨rfl,hJx3⟩)
   ·have hbx3:BoxS S r W3:=hk3.trans hbx
    have hc3:W3.cell? ⟨S,0,none⟩=some (.string r):=cell_of_row _ _ 0 _ _ _ hbx3
    have hf3:W3.frozen? ⟨S,0,none⟩=false:=frozen_of_row _ _ 0 _ _ hbx3
    clear hc1 hf1 hy hR
    gi_wp2
    go_roundw
    case rel=>
     refine⟨pre++[r.extract 0 (ll r)],r.extract (ll r) r.size,?_,?_,hJ _ _ _ hJ3 (Only.state _ _)⟩
     ·rw[HX.out];simp
     ·exact (heap_setCell_same _ _ _ _ _ _ hbx3).trans rfl
    case measure=>
     rw[heap_setCell_same _ _ _ _ _ _ hbx3]
     have hb0:wr.heap[S]? = some (.cells #[.string r] 9 (0,0)):=by rw[← hb1.block S hsz];exact hbx
     rw[hb0]
     simp[strLen]
     omega
   ·gi_wp2
    refine bodyPost_ret (results_none rfl _ _ _) rfl ?_
    exact⟨⟨_,rfl⟩,.inr ⟨pre++[r.extract 0 (ll r)],⟨pcs (r.extract (ll r) r.size),by rw[HX.out];simp⟩,hJx3⟩⟩
end Go.Proofs.YtegpnpdnanfhbaaGreatDoor.LikeP
