/- the document's pieces; is a pattern right? -/
import Derived.Test.YtdgmbijjhifbeaaGreatDoorYLikeRef
namespace Go.Proofs.YtdgmbijjhifbeaaGreatDoor.LikeP
open Go.RowKit K
theorem elStrs:El Tryz.prog 23 9 (.string ⟨#[]⟩) 1 16:=El.mk Tryz.underlying23 (by kernel_rfl) rfl (by decide) (by decide)
set_option maxRecDepth 100000 in
set_option maxHeartbeats 2000000 in
theorem piecesof_any (s:ByteArray) (w:World) (hz:s.size*16≤140737488355328) :
  Calls Tryz.prog 162 #[.string s] w fun e w'=>
   ∃v,e=.returned v∧w'.ownsRow w.heap.size 9 1 v (pcs s).length ((pcs s).map Value.string)∧Below w.heap.size w w':=by
 have hlen:=pcs_length s
 go_enter Tryz.func162,Tryz.ntmps162
 go_wp2
 go_loopw [0,3] (fun q v wr=>∃(pre:List ByteArray) (r:ByteArray),Hid (pcs s=pre++pcs r)∧q=.string r∧wr.ownsRow w.heap.size 9 1 v pre.length (pre.map Value.string)∧Below w.heap.size w wr)
  (fun q _ _=>match q with | .string r=>r.size | _=>0)
 case atStart=>exact⟨[],s,rfl,rfl,World.ownsRow_nil _ _ _ _,Below.refl _ _⟩
 case round=>
  obtain⟨pre,r,HX,rfl,hown,hb⟩:=hrel
  have hl0:pre.length≤(pcs s).length:=by rw[HX.out,List.length_append];omega
  by_cases hz:r.size=0
  ·have hpre:Hid (pre=pcs s):=by show _=_;rw[HX.out,pcs_nil r hz,List.append_nil]
   go_wp2
   go_ret
   exact⟨_,rfl,by rw[← hpre.out];exact hown,hb⟩
  ·have hl1:=ll_pos r
   have hl2:=ll_le r (by omega)
   have hp:0<r.size:=by omega
   have hx2:=HX.out
   rw[pcs_cons r (by omega)] at hx2
   have hl3:pre.length+1≤(pcs s).length:=by rw[hx2,List.length_append,List.length_cons];omega
   have HX2:=Lib.hid hx2
   clear hx2
   have hi1:(0:Int)≤ll r:=by omega
   have hi2:(ll r:Int)≤r.size:=by omega
   go_wp2_with (first
    | (go_at_call 186;refine (letterlen_any r _).mono ?_;rintro e w' ⟨rfl,rfl⟩)
    | (at_builtin;refine push elStrs (.tmp 10) (.tmp 14) rfl rfl _ _ _ rfl hown hb (Nat.le_refl _) hb.size [.string (r.extract 0 (ll r))] rfl rfl (by simp[Value.oneCell']) (by omega) ?_;intro v' w2 hown2 hb2 _ _))
   go_roundw
   case rel=>exact⟨pre++[r.extract 0 (ll r)],r.extract (ll r) r.size,Lib.hid (by rw[HX2.out];simp),rfl,by rw[List.length_append,List.map_append];exact hown2,hb2⟩
   case measure=>simp;omega
set_option maxRecDepth 100000 in
set_option maxHeartbeats 1000000 in
theorem patternends_any (p:List ByteArray) (v:Value) (w:World) (hs:Seen w v p.length 1 (p.map Value.string)) :
  Calls Tryz.prog 161 #[v] w fun e w'=>e=.returned (.bool (openE false p))∧w=w':=by
 obtain⟨_,a,cap,rfl,hc,hm,hnil,hcells⟩:=id hs
 unfold maxLen at hm
 go_enter Tryz.func161,Tryz.ntmps161
 go_wp2
 go_loop [3,4] (fun o i=>∃k:Nat,k≤p.length∧i=.int .i64 (k:Int)∧o=.bool (openE false (p.take k))) (fun _ i=>p.length - (intOf i).toNat)
 case atStart=>exact⟨0,Nat.zero_le _,rfl,rfl⟩
 case round=>
  obtain⟨k,hk,rfl,rfl⟩:=hrel
  by_cases h:k<p.length
  ·obtain⟨b,off,rfl,hb1,cl⟩:=hcells.resolve_left (by omega)
   have hx:=cl k (.string p[k]) (by simp[h])
   have HS:Hid (openE false (p.take (k+1))=(!openE false (p.take k)&&decide (p[k]=backslash))):=by
    show _=_
    rw[List.take_succ_eq_append_getElem h,openE_append];rfl
   have tb:=toList_beq p[k] backslash
   rw[show backslash.toList=[92] by rw[ByteArray.toList_eq];rfl] at tb
   generalize p[k]=x at *
   clear cl hcells hs
   cases ho:openE false (p.take k)
   ·rw[ho] at HS
    cases hd:decide (x=backslash)
    ·rw[hd] at HS tb
     clear ho hd
     go_wp2
     go_round
     case rel=>exact⟨k+1,by omega,by go_num,by rw[HS.out];rfl⟩
     case measure=>simp[intOf];omega
    ·rw[hd] at HS tb
     clear ho hd
     go_wp2
     go_round
     case rel=>exact⟨k+1,by omega,by go_num,by rw[HS.out];rfl⟩
     case measure=>simp[intOf];omega
   ·rw[ho] at HS
    clear ho
    go_wp2
    go_round
    case rel=>exact⟨k+1,by omega,by go_num,by rw[HS.out];rfl⟩
    case measure=>simp[intOf];omega
  ·have hk2:Hid (openE false (p.take k)=openE false p):=by show _=_;rw[List.take_of_length_le (by omega)]
   go_wp2
   go_ret
   exact⟨by rw[← hk2.out];rfl,rfl⟩
set_option maxRecDepth 100000 in
set_option maxHeartbeats 1000000 in
theorem patterncheck_any (s:ByteArray) (w:World) :
  Calls Tryz.prog 127 #[.string s] w fun e w'=>e=.returned (.int .i64 (patE s))∧Below w.heap.size w w':=by
 by_cases h:32<s.size
 ·have HE:Hid (patE s=2):=by show _=_;unfold patE;rw[if_pos h]
  go_enter Tryz.func127,Tryz.ntmps127
  go_wp2
  go_ret
  exact⟨by rw[HE.out];rfl,Below.refl _ _⟩
 ·have HE:Hid (patE s=if openE false (pcs s)=true then 1 else 0):=by show _=_;unfold patE;rw[if_neg h]
  go_enter Tryz.func127,Tryz.ntmps127
  go_wp2_with fail
  refine (piecesof_any s w (by omega)).mono ?_
  rintro e w1 ⟨v,rfl,hown,hb⟩
  go_wp2_with fail
  refine (patternends_any (pcs s) v w1 (Seen.of_own hown)).mono ?_
  rintro e w2 ⟨rfl,rfl⟩
  cases ho:openE false (pcs s)
  all_goals
   rw[ho] at HE
   clear ho
   go_wp2
   go_ret
   exact⟨by rw[HE.out];rfl,hb⟩
end Go.Proofs.YtdgmbijjhifbeaaGreatDoor.LikeP
