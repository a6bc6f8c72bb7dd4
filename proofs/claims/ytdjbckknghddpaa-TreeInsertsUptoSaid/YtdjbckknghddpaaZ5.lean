/- Parts of the proof, one behind the other: PtLeaf PtSeek PtAt PtPairs PtValid PtData PtChk PtDel PtDel2 PtDel3 PtFind PtStd PmClone PtClone. Conditions: none beyond what each theorem says. -/
import Derived.Test.YtdjbckknghddpaaZ4
open List (any_eq_true append_assoc cons_append cons_ne_nil drop_left' drop_length drop_of_length_le drop_zero eq_nil_of_length_eq_zero filter_append filter_cons_of_neg filter_cons_of_pos filter_eq_nil_iff filter_eq_self flatMap_append flatMap_cons flatten_append flatten_cons flatten_nil length_append length_cons length_drop length_eq_one_iff length_map length_nil length_pos_iff length_singleton length_take map_append map_congr_left map_cons map_drop map_id map_map map_take mem_append mem_append_left mem_append_right mem_cons mem_cons_of_mem mem_cons_self mem_filter mem_flatMap mem_flatten mem_map mem_of_mem_drop mem_of_mem_take mem_singleton nil_append pairwise_cons pairwise_flatten pairwise_singleton set_append_right set_eq_take_append_cons_drop sum_append sum_cons sum_singleton take_append_drop take_append_of_le_length take_length take_of_length_le take_succ_cons take_take take_zero)
open Nat (add_zero eq_or_lt_of_le eq_zero_or_pos le_trans lt_or_ge lt_succ_self lt_trichotomy min_eq_left mul_one not_lt_zero pow_succ sub_self sub_zero zero_add zero_le zero_lt_one zero_lt_succ)
open Int (toNat_natCast toNat_zero)
open Option (getD_some)
set_option linter.unusedVariables false
set_option linter.unusedSimpArgs false
set_option maxRecDepth 100000
namespace Go.Proofs.Ytdjbckknghddpaa.Pm
section
open Go.RowKit K
open Tr
def firstK (L:List (List PairD)) (U:List (List Nat)) (lv k:Nat):List UInt8:=((L.getD (firstF U lv k) []).headD ⟨[],0⟩).Key
def scanF (fk:Nat->List UInt8) (key:List UInt8):Nat->Nat->Nat->Nat
 | _,0,at_=>at_
 | k,c+1,at_=>scanF fk key (k+1) c (if ¬key<fk k then k else at_)
def leafF (L:List (List PairD)) (U:List (List Nat)) (key:List UInt8):Nat->Nat->Nat
 | 0,at_=>at_
 | l+1,at_=>leafF L U key l (scanF (firstK L U l) key (((U.getD l []).take at_).sum+1) ((U.getD l []).getD at_ 0 - 1) ((U.getD l []).take at_).sum)
theorem scanF_lt (fk:Nat->List UInt8) (key:List UInt8) (N:Nat):∀(k c at_:Nat),at_<N->k+c<=N->scanF fk key k c at_<N
 | k,0,at_,h,_=>h
 | k,c+1,at_,h,hc=>by
  rw[scanF];refine scanF_lt fk key N (k+1) c _ ?_ (by omega);split
  ·omega
  ·exact h
theorem node_take {u:List Nat} {a:Nat} (h:a<u.length) (hp:0<u[a]):nodeF u (u.take a).sum=a:=by
 have e:u.take a++u[a]::u.drop (a+1)=u:=by rw[<- List.drop_eq_getElem_cons h,take_append_drop]
 have h1:=nodeF_at (u.drop (a+1)) hp (u.take a);rw[e,add_zero,length_take,min_eq_left (by omega)] at h1;exact h1
theorem sum_part {u:List Nat} {a:Nat} (h:a<u.length):(u.take a).sum+u[a]<=u.sum:=by
 have e:u.take a++u[a]::u.drop (a+1)=u:=by rw[<- List.drop_eq_getElem_cons h,take_append_drop]
 have h1:=congrArg List.sum e;rw[sum_append,sum_cons] at h1;omega
set_option maxHeartbeats 1000000 in
theorem p_leaf (L:List (List PairD)) (U:List (List Nat)) (hv:OkT L U) (ht:lenAt L U U.length=1) (key:List UInt8) (hL:∀l∈L,∀p∈l,p.ok) :
  Pure Try.prog 14 [roV L U,pStr (tx key)] (pInt .i64 (leafF L U key U.length 0)):=by
 have hd:=hv.deep;have hUl:(upC U).length=U.length:=by unfold upC;exact length_map _
 refine pure_of Try.func14 (by rfl) rfl (by kernel_rfl) (by rfl) ?_;((conv=>whnf);repeat' ((first|(with_reducible first|apply a_|apply b_|apply c_)|((with_reducible first|apply d_|apply e_|apply f_|apply g_);focus first|omega|(simp only[q_]<;>omega))|((with_reducible first|apply i_|apply h_);focus first|omega|(simp only[q_]<;>omega))|((with_reducible apply h_);focus first|decide|kernel_rfl)|refine s_ (by decide) ?_|refine t_ (by decide) ?_|with_reducible first|apply l_|apply m_|apply n_|apply o_|refine p_ (fun _=>?_) (fun _=>?_))<;>(conv=>whnf)));refine LoopC.mk (Nat×Nat) (fun s=>[(0,roV L U),(1,pStr (tx key)),(5,pInt .i64 s.2),(6,pInt .i64 ((s.1:Int) - 1))]) (fun _=>[]) [] (fun s=>s.1<=U.length/\s.2<lenAt L U s.1/\leafF L U key U.length 0=leafF L U key s.1 s.2) (fun s=>s.1) (U.length,0) ⟨Nat.le_refl _,by rw[ht];exact zero_lt_one,rfl⟩ ?start ?round
 case start=>exact⟨[],rfl,rfl,⟨.inl rfl,.inl rfl,.inl rfl,PLe.int (by rw[hUl]),trivial⟩,trivial⟩
 case round=>
  rintro⟨l,a⟩ ⟨h1,h2,h3⟩;have h1:l<=U.length:=h1;have h2:a<lenAt L U l:=h2;have h3:leafF L U key U.length 0=leafF L U key l a:=h3;have hsm:=hv.small l h1;cases l with
  | zero=>
   rw[h3,leafF];((conv=>whnf);repeat' ((first|(with_reducible first|apply a_|apply b_|apply c_)|((with_reducible first|apply d_|apply e_|apply f_|apply g_);focus first|omega|(simp only[q_]<;>omega))|((with_reducible first|apply i_|apply h_);focus first|omega|(simp only[q_]<;>omega))|((with_reducible apply h_);focus first|decide|kernel_rfl)|refine s_ (by decide) ?_|refine t_ (by decide) ?_|with_reducible first|apply l_|apply m_|apply n_|apply o_|refine p_ (fun _=>?_) (fun _=>?_))<;>(conv=>whnf)));all_goals first|exact Ret.int rfl | (exfalso;omega)
  | succ l=>
   have hlU:l<U.length:=h1;obtain⟨u,hu⟩:∃u,u=U.getD l []:=⟨_,rfl⟩;have hue:u=U[l]:=by rw[hu,List.getD_eq_getElem?_getD,List.getElem?_eq_getElem hlU];rfl
   have hrow:(upC U)[l]? = some [.sl 1 (u.map natC)]:=by
    unfold upC;rw[List.getElem?_map,List.getElem?_eq_getElem hlU,hue];rfl
   have hal:a<u.length:=by rw[hu];exact h2
   have hst:=hv.step (kid:=a) hlU;have hsm2:=hv.small l (by omega);have hus:u.sum=lenAt L U l:=by rw[hue];exact hv.sums l hlU
   have hul0:u.length<=64:=by rw[hu];exact hsm
   rw[<- hu] at hst;have hpos:=hv.pos u (by rw[hue];exact List.getElem_mem hlU) u[a] (List.getElem_mem hal);have hgd:u.getD a 0=u[a]:=by rw[List.getD_eq_getElem?_getD,List.getElem?_eq_getElem hal];rfl
   rw[leafF,<- hu,hgd] at h3;have hul:(u.map natC).length=u.length:=length_map _;have hspart:=sum_part hal;obtain⟨fr,hfr⟩:∃fr,fr=(u.take a).sum:=⟨_,rfl⟩;have pn:=p_node L U l hlU fr (by rw[<- hue];omega) (by omega) (by rw[<- hue];omega);rw[<- hue,show nodeF u fr=a by rw[hfr];exact node_take hal (by omega)] at pn;((conv=>whnf);repeat' ((first|(with_reducible first|apply a_|apply b_|apply c_)|((with_reducible first|apply d_|apply e_|apply f_|apply g_);focus first|omega|(simp only[q_]<;>omega))|((with_reducible first|apply i_|apply h_);focus first|omega|(simp only[q_]<;>omega))|((with_reducible apply h_);focus first|decide|kernel_rfl)|refine s_ (by decide) ?_|refine t_ (by decide) ?_|(refine Idx.at' hrow (by omega) ?_)|with_reducible first|apply l_|apply m_|apply n_|apply o_|refine p_ (fun _=>?_) (fun _=>?_))<;>(conv=>whnf)));refine LoopC.mk Nat (fun i=>[(0,roV L U),(1,pStr (tx key)),(5,pInt .i64 a),(6,pInt .i64 (l:Int)),(7,pInt .i64 ((u.take a).take i).sum),(31,.d (.c (.sl 1 ((u.take a).map natC)))),(32,pInt .i64 a),(33,pInt .i64 i)]) (fun _=>[]) [] (fun i=>i<=a) (fun i=>a - i) 0 (zero_le _) ?start2 ?round2
   case start2=>exact⟨[],rfl,rfl,⟨.inl rfl,.inl rfl,.inl rfl,PLe.int (by omega),PLe.int (by simp),PLe.c (by simp[map_take]),PLe.int (by simp;omega),.inl rfl,trivial⟩,trivial⟩
   case round2=>
    intro i hi;have hi:i<=a:=hi;have htl:(u.take a).length=a:=by rw[length_take];omega
    have hs1:=sum_take_le (u.take a) i;by_cases hiq:i<a
    ·have hit:i<(u.take a).length:=by omega
     have hs2:((u.take a).take (i+1)).sum=((u.take a).take i).sum+(u.take a)[i]:=by
      rw[List.take_succ_eq_append_getElem hit,sum_append,sum_singleton]
     have hs3:=sum_take_le (u.take a) (i+1);((conv=>whnf);repeat' ((first|(with_reducible first|apply a_|apply b_|apply c_)|((with_reducible first|apply d_|apply e_|apply f_|apply g_);focus first|omega|(simp only[q_]<;>omega))|((with_reducible first|apply i_|apply h_);focus first|omega|(simp only[q_]<;>omega))|((with_reducible apply h_);focus first|decide|kernel_rfl)|refine s_ (by decide) ?_|refine t_ (by decide) ?_|(refine Idx.mapI (f:=natC) i rfl hit ?_)|with_reducible first|apply l_|apply m_|apply n_|apply o_|refine p_ (fun _=>?_) (fun _=>?_))<;>(conv=>whnf)));all_goals first|(exfalso;omega)|skip
     exact⟨i+1,hiq,by show a - (i+1)<a - i;omega,[],rfl,rfl,⟨.inl rfl,.inl rfl,.inl rfl,.inl rfl,PLe.int (by show _=(((u.take a).take (i+1)).sum:Int);rw[hs2];simp),.inl rfl,.inl rfl,PLe.int (by show _=((i+1:Nat):Int);omega),trivial⟩,trivial⟩
    ·have e:(u.take a).take i=u.take a:=take_of_length_le (by omega);rw[e,<- hfr];rw[<- hfr] at h3 hspart hs1 hst;((conv=>whnf);repeat' ((first|(with_reducible first|apply a_|apply b_|apply c_)|((with_reducible first|apply d_|apply e_|apply f_|apply g_);focus first|omega|(simp only[q_]<;>omega))|((with_reducible first|apply i_|apply h_);focus first|omega|(simp only[q_]<;>omega))|((with_reducible apply h_);focus first|decide|kernel_rfl)|refine s_ (by decide) ?_|refine t_ (by decide) ?_|with_reducible first|apply l_|apply m_|apply n_|apply o_|refine p_ (fun _=>?_) (fun _=>?_))<;>(conv=>whnf)));all_goals first|(exfalso;omega)|skip
     refine LoopC.mk (Nat×Nat) (fun s=>[(0,roV L U),(1,pStr (tx key)),(5,pInt .i64 s.2),(6,pInt .i64 (l:Int)),(7,pInt .i64 fr),(10,pInt .i64 ((fr+1+s.1:Nat):Int))]) (fun _=>[]) []
      (fun s=>s.1<=u[a] - 1/\s.2<lenAt L U l/\leafF L U key U.length 0=leafF L U key l (scanF (firstK L U l) key (fr+1+s.1) (u[a] - 1 - s.1) s.2)) (fun s=>u[a] - 1 - s.1) (0,fr) ⟨zero_le _,by show fr<_;omega,h3⟩ ?start3 ?round3
     case start3=>exact⟨[],rfl,rfl,⟨.inl rfl,.inl rfl,.inl rfl,.inl rfl,.inl rfl,PLe.int (by show _=((fr+1+0:Nat):Int);omega),trivial⟩,trivial⟩
     case round3=>
      rintro⟨k,b⟩ ⟨g1,g2,g3⟩;have g1:k<=u[a] - 1:=g1;have g2:b<lenAt L U l:=g2;have g3:leafF L U key U.length 0=leafF L U key l (scanF (firstK L U l) key (fr+1+k) (u[a] - 1 - k) b):=g3;by_cases hk:k<u[a] - 1
      ·have hfl:=first_lt hv (l:=l) (kid:=fr+1+k) (by omega) (by omega);obtain⟨fi,hfi⟩:∃fi,fi=firstF U l (fr+1+k):=⟨_,rfl⟩;have pf:=p_first L U hv l (by omega) (fr+1+k) (by omega);rw[<- hfi] at pf hfl;have hLr:(lvC L)[fi]? = some [.sl 2 (L[fi].map PairD.c)]:=by
        unfold lvC;rw[List.getElem?_map,List.getElem?_eq_getElem hfl];rfl
       have hl0:=(hv.leaf L[fi] (List.getElem_mem hfl)).1;have hfk:firstK L U l (fr+1+k)=(L[fi])[0].Key:=by
        unfold firstK;rw[<- hfi,List.getD_eq_getElem?_getD,List.getElem?_eq_getElem hfl,getD_some,List.headD_eq_head?_getD,List.head?_eq_getElem?,List.getElem?_eq_getElem hl0];rfl
       rw[show u[a] - 1 - k=(u[a] - 1 - (k+1))+1 by omega,scanF,hfk] at g3;obtain⟨x,hx⟩:∃x,x=(L[fi])[0].Key:=⟨_,rfl⟩;rw[<- hx] at g3;rcases lt_tri x key with hc | hc | hc
       ·rw[if_pos (lt_asym hc)] at g3;have hb:Op.bytesLess (tx (L[fi])[0].Key).toList (tx key).toList=true:=by rw[<- hx,less_tx];exact decide_eq_true hc
        ((conv=>whnf);repeat' ((first|(with_reducible first|apply a_|apply b_|apply c_)|((with_reducible first|apply d_|apply e_|apply f_|apply g_);focus first|omega|(simp only[q_]<;>omega))|((with_reducible first|apply i_|apply h_);focus first|omega|(simp only[q_]<;>omega))|((with_reducible apply h_);focus first|decide|kernel_rfl)|refine s_ (by decide) ?_|refine t_ (by decide) ?_|(refine Idx.at' hrow (by omega) ?_)|refine r_ pn rfl ?_|(refine Idx.mapI (f:=natC) a rfl hal ?_)|refine r_ pf rfl ?_|(refine Idx.at' hLr rfl ?_)|(refine Idx.mapI (f:=PairD.c) 0 rfl hl0 ?_)|(refine BCase.t hb ?_)|with_reducible first|apply l_|apply m_|apply n_|apply o_|refine p_ (fun _=>?_) (fun _=>?_))<;>(conv=>whnf)));all_goals first|(exfalso;omega)|skip
        exact⟨(k+1,fr+1+k),⟨by show k+1<=u[a] - 1;omega,by show fr+1+k<lenAt L U l;omega,g3⟩,by show u[a] - 1 - (k+1)<u[a] - 1 - k;omega,[],rfl,rfl,⟨.inl rfl,.inl rfl,.inl rfl,.inl rfl,.inl rfl,PLe.int (by show _=((fr+1+(k+1):Nat):Int);omega),trivial⟩,trivial⟩
       ·rw[if_pos (by rw[hc];exact lt_irr _)] at g3;have hb:Op.bytesLess (tx (L[fi])[0].Key).toList (tx key).toList=false:=by rw[<- hx,less_tx,hc];exact decide_eq_false (lt_irr _)
        have hb2:decide (tx (L[fi])[0].Key=tx key)=true:=by rw[<- hx,hc];exact decide_eq_true rfl
        ((conv=>whnf);repeat' ((first|(with_reducible first|apply a_|apply b_|apply c_)|((with_reducible first|apply d_|apply e_|apply f_|apply g_);focus first|omega|(simp only[q_]<;>omega))|((with_reducible first|apply i_|apply h_);focus first|omega|(simp only[q_]<;>omega))|((with_reducible apply h_);focus first|decide|kernel_rfl)|refine s_ (by decide) ?_|refine t_ (by decide) ?_|(refine Idx.at' hrow (by omega) ?_)|refine r_ pn rfl ?_|(refine Idx.mapI (f:=natC) a rfl hal ?_)|refine r_ pf rfl ?_|(refine Idx.at' hLr rfl ?_)|(refine Idx.mapI (f:=PairD.c) 0 rfl hl0 ?_)|(refine BCase.f hb ?_)|(refine BCase.t hb2 ?_)|with_reducible first|apply l_|apply m_|apply n_|apply o_|refine p_ (fun _=>?_) (fun _=>?_))<;>(conv=>whnf)));all_goals first|(exfalso;omega)|skip
        exact⟨(k+1,fr+1+k),⟨by show k+1<=u[a] - 1;omega,by show fr+1+k<lenAt L U l;omega,g3⟩,by show u[a] - 1 - (k+1)<u[a] - 1 - k;omega,[],rfl,rfl,⟨.inl rfl,.inl rfl,.inl rfl,.inl rfl,.inl rfl,PLe.int (by show _=((fr+1+(k+1):Nat):Int);omega),trivial⟩,trivial⟩
       ·rw[if_neg (fun h=>h hc)] at g3;have hb:Op.bytesLess (tx (L[fi])[0].Key).toList (tx key).toList=false:=by rw[<- hx,less_tx];exact decide_eq_false (lt_asym hc)
        have hb2:decide (tx (L[fi])[0].Key=tx key)=false:=by
         rw[<- hx];refine decide_eq_false fun e=>?_;rw[tx_eq] at e;rw[e] at hc;exact lt_irr _ hc
        ((conv=>whnf);repeat' ((first|(with_reducible first|apply a_|apply b_|apply c_)|((with_reducible first|apply d_|apply e_|apply f_|apply g_);focus first|omega|(simp only[q_]<;>omega))|((with_reducible first|apply i_|apply h_);focus first|omega|(simp only[q_]<;>omega))|((with_reducible apply h_);focus first|decide|kernel_rfl)|refine s_ (by decide) ?_|refine t_ (by decide) ?_|(refine Idx.at' hrow (by omega) ?_)|refine r_ pn rfl ?_|(refine Idx.mapI (f:=natC) a rfl hal ?_)|refine r_ pf rfl ?_|(refine Idx.at' hLr rfl ?_)|(refine Idx.mapI (f:=PairD.c) 0 rfl hl0 ?_)|(refine BCase.f hb ?_)|(refine BCase.f hb2 ?_)|with_reducible first|apply l_|apply m_|apply n_|apply o_|refine p_ (fun _=>?_) (fun _=>?_))<;>(conv=>whnf)));all_goals first|(exfalso;omega)|skip
        exact⟨(k+1,b),⟨by show k+1<=u[a] - 1;omega,by show b<lenAt L U l;omega,g3⟩,by show u[a] - 1 - (k+1)<u[a] - 1 - k;omega,[],rfl,rfl,⟨.inl rfl,.inl rfl,.inl rfl,.inl rfl,.inl rfl,PLe.int (by show _=((fr+1+(k+1):Nat):Int);omega),trivial⟩,trivial⟩
      ·rw[show u[a] - 1 - k=0 by omega,scanF] at g3;((conv=>whnf);repeat' ((first|(with_reducible first|apply a_|apply b_|apply c_)|((with_reducible first|apply d_|apply e_|apply f_|apply g_);focus first|omega|(simp only[q_]<;>omega))|((with_reducible first|apply i_|apply h_);focus first|omega|(simp only[q_]<;>omega))|((with_reducible apply h_);focus first|decide|kernel_rfl)|refine s_ (by decide) ?_|refine t_ (by decide) ?_|(refine Idx.at' hrow (by omega) ?_)|refine r_ pn rfl ?_|(refine Idx.mapI (f:=natC) a rfl hal ?_)|with_reducible first|apply l_|apply m_|apply n_|apply o_|refine p_ (fun _=>?_) (fun _=>?_))<;>(conv=>whnf)));all_goals first|(exfalso;omega)|skip
       exact⟨(l,b),⟨by show l<=U.length;omega,g2,g3⟩,by show l<l+1;omega,[],rfl,rfl,⟨.inl rfl,.inl rfl,.inl rfl,.inl rfl,trivial⟩,trivial⟩
end
section
open Go.RowKit K
open Tr
namespace Tr
set_option maxRecDepth 100000 in
theorem cmpstring_any (a b:ByteArray) (w:World):Calls Try.prog 58 #[.string a,.string b] w fun e w'=>e=.returned (.int .i64 (Lib.compareBytes a.data.toList b.data.toList))/\w=w':=by
 go_enter Try.func58,Try.ntmps58
 go_wp2
 rw[run_callFunc_extern Try.func73 (by kernel_rfl) (by kernel_rfl) (by kernel_rfl) (e:=Extern.BytealgCompare.compare) (by kernel_rfl),Lib.run_compareString];simp only[Result.andThen];rw[Oper.upon_value]
 go_wp2
 go_ret
 exact⟨rfl,rfl⟩
theorem cmp_string (a b:ByteArray) (w:World):Calls Try.prog 41 #[.string a,.string b] w fun e w'=>e=.returned (.int .i64 (Lib.compareBytes a.data.toList b.data.toList))/\w=w':=by
 go_enter Try.func41,Try.ntmps41
 go_wp2_with (go_at_call 58;refine (cmpstring_any _ _ _).mono ?_;rintro e w' ⟨rfl,rfl⟩)
 go_ret
 exact⟨rfl,rfl⟩
end Tr
theorem p_cmpstr (a b:List UInt8):Pure Try.prog 41 [pStr (tx a),pStr (tx b)] (pInt .i64 (Lib.compareBytes a b)):=by
 refine pure_hand (vs:=[.string (tx a),.string (tx b)]) ⟨_,Try.func41,by rfl,by rfl⟩ fun w hG=>?_;refine (cmp_string (tx a) (tx b) w).mono ?_;rintro e w' ⟨rfl,rfl⟩;exact⟨_,rfl,Below.refl _ _,fun F _=>rep_int _ _⟩
abbrev prV (p:PairD):PV:=.agg (p.c.map D.c)
abbrev lfV (l:List PairD):PV:=.d (.c (.sl 2 (l.map PairD.c)))
abbrev fnP (f:FuncId):PV:=.d (.c (.v (.func (.func f) #[] #[])))
theorem p_seek1 (p:PairD) (key:List UInt8):Pure Try.prog 40 [prV p,pStr (tx key)] (pInt .i64 (Lib.compareBytes p.Key key)):=by
 have pc:=p_cmpstr p.Key key;refine pure_of Try.func40 (by rfl) rfl (by kernel_rfl) (by rfl) ?_;((conv=>whnf);repeat' ((first|(with_reducible first|apply a_|apply b_|apply c_)|((with_reducible first|apply d_|apply e_|apply f_|apply g_);focus first|omega|(simp only[q_]<;>omega))|((with_reducible first|apply i_|apply h_);focus first|omega|(simp only[q_]<;>omega))|((with_reducible apply h_);focus first|decide|kernel_rfl)|refine s_ (by decide) ?_|refine t_ (by decide) ?_|refine r_ pc rfl ?_|with_reducible first|apply l_|apply m_|apply n_|apply o_|refine p_ (fun _=>?_) (fun _=>?_))<;>(conv=>whnf)));all_goals first|exact Ret.int rfl|exact Ret.mk rfl
def Asc (l:List PairD):Prop:=l.Pairwise fun a b=>a.Key<b.Key
def posF (l:List PairD) (key:List UInt8):Nat:=(l.filter fun q=>decide (ltT q.Key key)).length
theorem Asc.lt {l:List PairD} (h:Asc l) {i j:Nat} (hj:j<l.length) (hi:i<j):(l[i]'(by omega)).Key<l[j].Key:=List.pairwise_iff_getElem.1 h i j (by omega) hj hi
theorem pos_at {l:List PairD} {key:List UInt8} {i:Nat} (h1:∀m (h:m<l.length),m<i->l[m].Key<key) (h2:∀m (h:m<l.length),i<=m->¬l[m].Key<key) (hi:i<=l.length):l.filter (fun q=>decide (ltT q.Key key))=l.take i:=by
 conv=>lhs;rw[<- take_append_drop i l]
 rw[filter_append,filter_eq_self.2,filter_eq_nil_iff.2,List.append_nil]
 ·intro q hq;obtain⟨m,hm,rfl⟩:=List.getElem_of_mem hq;rw[length_drop] at hm;rw[List.getElem_drop];have:=h2 (i+m) (by omega) (by omega);simpa using this
 ·intro q hq;obtain⟨m,hm,rfl⟩:=List.getElem_of_mem hq;rw[length_take] at hm;rw[List.getElem_take];have:=h1 m (by omega) (by omega);simpa using this
theorem posF_at {l:List PairD} {key:List UInt8} {i:Nat} (h1:∀m (h:m<l.length),m<i->l[m].Key<key) (h2:∀m (h:m<l.length),i<=m->¬l[m].Key<key) (hi:i<=l.length):posF l key=i:=by
 unfold posF;rw[pos_at h1 h2 hi,length_take];omega
def hitF (l:List PairD) (key:List UInt8):Bool:=l.any fun q=>decide (q.Key=key)
theorem hit_at {l:List PairD} (ha:Asc l) {key:List UInt8} {i:Nat} (h1:∀m (h:m<l.length),m<i->l[m].Key<key) (h2:∀m (h:m<l.length),i<=m->¬l[m].Key<key):hitF l key=decide (∃h:i<l.length,l[i].Key=key):=by
 unfold hitF;rw[Bool.eq_iff_iff,any_eq_true,decide_eq_true_iff];constructor
 ·rintro⟨q,hq,he⟩;have he:=of_decide_eq_true he;obtain⟨m,hm,rfl⟩:=List.getElem_of_mem hq;rcases lt_trichotomy m i with h | h | h
  ·have:=h1 m hm h;rw[he] at this;exact absurd this (lt_irr _)
  ·subst h;exact⟨hm,he⟩
  ·have h3:=ha.lt hm h;rw[he] at h3;exact absurd h3 (h2 i (by omega) (Nat.le_refl _))
 ·rintro⟨h,he⟩;exact⟨_,List.getElem_mem h,decide_eq_true he⟩
theorem p_bsearch (l:List PairD) (ha:Asc l) (hl:l.length<=1000) (key:List UInt8):Pure Try.prog 39 [lfV l,pStr (tx key),fnP 40] (.tup [pInt .i64 (posF l key),pBool (hitF l key)]):=by
 refine pure_of Try.func39 (by rfl) rfl (by kernel_rfl) (by rfl) ?_;((conv=>whnf);repeat' ((first|(with_reducible first|apply a_|apply b_|apply c_)|((with_reducible first|apply d_|apply e_|apply f_|apply g_);focus first|omega|(simp only[q_]<;>omega))|((with_reducible first|apply i_|apply h_);focus first|omega|(simp only[q_]<;>omega))|((with_reducible apply h_);focus first|decide|kernel_rfl)|refine s_ (by decide) ?_|refine t_ (by decide) ?_|with_reducible first|apply l_|apply m_|apply n_|apply o_|refine p_ (fun _=>?_) (fun _=>?_))<;>(conv=>whnf)));refine LoopC.mk (Nat×Nat) (fun s=>[(0,lfV l),(1,pStr (tx key)),(2,fnP 40),(8,pInt .i64 l.length),(9,pInt .i64 s.1),(10,pInt .i64 s.2)]) (fun _=>[]) []
  (fun s=>s.1<=s.2/\s.2<=l.length/\(∀m (h:m<l.length),m<s.1->l[m].Key<key)/\∀m (h:m<l.length),s.2<=m->¬l[m].Key<key) (fun s=>s.2 - s.1) (0,l.length) ⟨zero_le _,Nat.le_refl _,fun m _ h=>absurd h (not_lt_zero m),fun m h g=>absurd h (Nat.not_lt.2 g)⟩ ?start ?round
 case start=>exact⟨[],rfl,rfl,⟨.inl rfl,.inl rfl,.inl rfl,PLe.int (by rw[length_map]),.inl rfl,PLe.int (by rw[length_map]),trivial⟩,trivial⟩
 case round=>
  rintro⟨i,j⟩ ⟨h1,h2,h3,h4⟩;have h1:i<=j:=h1;have h2:j<=l.length:=h2;have h3:∀m (h:m<l.length),m<i->l[m].Key<key:=h3;have h4:∀m (h:m<l.length),j<=m->¬l[m].Key<key:=h4;by_cases hij:i<j
  ·obtain⟨m,hm⟩:∃m,m=(i+j) / 2:=⟨_,rfl⟩;have hfd:((i:Int)+(j:Int)).fdiv (2^min (Int.toNat 1) IntKind.u64.bits)=(m:Int):=by
    show ((i:Int)+(j:Int)).fdiv 2=_;rw[Int.fdiv_eq_ediv_of_nonneg _ (by decide)];omega
   have hml:m<l.length:=by omega
   have ps:=p_seek1 l[m] key;have hci:=(cmp_iff l[m].Key key).1;by_cases hc:l[m].Key<key
   ·have hcb:=hci.2 hc;((conv=>whnf);repeat' ((first|(with_reducible first|apply a_|apply b_|apply c_)|((with_reducible first|apply d_|apply e_|apply f_|apply g_);focus first|omega|(simp only[q_]<;>omega))|((with_reducible first|apply i_|apply h_);focus first|omega|(simp only[q_]<;>omega))|((with_reducible apply h_);focus first|decide|kernel_rfl)|refine s_ (by decide) ?_|refine t_ (by decide) ?_|(refine Idx.mapI (f:=PairD.c) m hfd hml ?_)|refine r_ ps rfl ?_|with_reducible first|apply l_|apply m_|apply n_|apply o_|refine p_ (fun _=>?_) (fun _=>?_))<;>(conv=>whnf)));all_goals first|(exfalso;omega)|skip
    refine⟨(m+1,j),⟨by show m+1<=j;omega,h2,fun k hk hkm=>?_,h4⟩,by show j - (m+1)<j - i;omega,[],rfl,rfl,⟨.inl rfl,.inl rfl,.inl rfl,.inl rfl,PLe.int (by dsimp only;omega),.inl rfl,trivial⟩,trivial⟩;have hkm:k<m+1:=hkm;rcases lt_or_ge k m with h | h
    ·exact lt_tr (ha.lt hml h) hc
    ·have:k=m:=by omega
     subst this;exact hc
   ·have hcb:¬Lib.compareBytes l[m].Key key<0:=fun h=>hc (hci.1 h);((conv=>whnf);repeat' ((first|(with_reducible first|apply a_|apply b_|apply c_)|((with_reducible first|apply d_|apply e_|apply f_|apply g_);focus first|omega|(simp only[q_]<;>omega))|((with_reducible first|apply i_|apply h_);focus first|omega|(simp only[q_]<;>omega))|((with_reducible apply h_);focus first|decide|kernel_rfl)|refine s_ (by decide) ?_|refine t_ (by decide) ?_|(refine Idx.mapI (f:=PairD.c) m hfd hml ?_)|refine r_ ps rfl ?_|with_reducible first|apply l_|apply m_|apply n_|apply o_|refine p_ (fun _=>?_) (fun _=>?_))<;>(conv=>whnf)));all_goals first|(exfalso;omega)|skip
    refine⟨(i,m),⟨by show i<=m;omega,by show m<=l.length;omega,h3,fun k hk hkm=>?_⟩,by show m - i<j - i;omega,[],rfl,rfl,⟨.inl rfl,.inl rfl,.inl rfl,.inl rfl,.inl rfl,PLe.int hfd,trivial⟩,trivial⟩;have hkm:m<=k:=hkm;intro hlt;rcases lt_or_ge m k with h | h
    ·exact hc (lt_tr (ha.lt hk h) hlt)
    ·have:k=m:=by omega
     subst this;exact hc hlt
  ·have e:i=j:=by omega
   subst e;rw[posF_at h3 h4 h2,hit_at ha h3 h4];by_cases hil:i<l.length
   ·have ps:=p_seek1 l[i] key;have hci:=(cmp_iff l[i].Key key).2;have hd:decide (∃h:i<l.length,l[i].Key=key)=decide (Lib.compareBytes l[i].Key key=0):=by
     rw[decide_eq_decide];exact⟨fun ⟨h,e⟩=>hci.2 e,fun h=>⟨hil,hci.1 h⟩⟩
    rw[hd];((conv=>whnf);repeat' ((first|(with_reducible first|apply a_|apply b_|apply c_)|((with_reducible first|apply d_|apply e_|apply f_|apply g_);focus first|omega|(simp only[q_]<;>omega))|((with_reducible first|apply i_|apply h_);focus first|omega|(simp only[q_]<;>omega))|((with_reducible apply h_);focus first|decide|kernel_rfl)|refine s_ (by decide) ?_|refine t_ (by decide) ?_|(refine Idx.mapI (f:=PairD.c) i rfl hil ?_)|refine r_ ps rfl ?_|with_reducible first|apply l_|apply m_|apply n_|apply o_|refine p_ (fun _=>?_) (fun _=>?_))<;>(conv=>whnf)));all_goals first|(exfalso;omega)|exact Ret.mk rfl|skip
   ·have hd:decide (∃h:i<l.length,l[i].Key=key)=false:=decide_eq_false fun ⟨h,_⟩=>hil h;rw[hd];((conv=>whnf);repeat' ((first|(with_reducible first|apply a_|apply b_|apply c_)|((with_reducible first|apply d_|apply e_|apply f_|apply g_);focus first|omega|(simp only[q_]<;>omega))|((with_reducible first|apply i_|apply h_);focus first|omega|(simp only[q_]<;>omega))|((with_reducible apply h_);focus first|decide|kernel_rfl)|refine s_ (by decide) ?_|refine t_ (by decide) ?_|with_reducible first|apply l_|apply m_|apply n_|apply o_|refine p_ (fun _=>?_) (fun _=>?_))<;>(conv=>whnf)));all_goals first|(exfalso;omega)|exact Ret.mk rfl|skip
theorem p_seek (l:List PairD) (ha:Asc l) (hl:l.length<=1000) (key:List UInt8):Pure Try.prog 15 [lfV l,pStr (tx key)] (.tup [pInt .i64 (posF l key),pBool (hitF l key)]):=by
 have pb:=p_bsearch l ha hl key;refine pure_of Try.func15 (by rfl) rfl (by kernel_rfl) (by rfl) ?_;((conv=>whnf);repeat' ((first|(with_reducible first|apply a_|apply b_|apply c_)|((with_reducible first|apply d_|apply e_|apply f_|apply g_);focus first|omega|(simp only[q_]<;>omega))|((with_reducible first|apply i_|apply h_);focus first|omega|(simp only[q_]<;>omega))|((with_reducible apply h_);focus first|decide|kernel_rfl)|refine s_ (by decide) ?_|refine t_ (by decide) ?_|refine r_ pb rfl ?_|with_reducible first|apply l_|apply m_|apply n_|apply o_|refine p_ (fun _=>?_) (fun _=>?_))<;>(conv=>whnf)));all_goals first|exact Ret.mk rfl|skip
end
section
open Go.RowKit K
open Tr
namespace Tr
theorem set_midL {α:Type} {A B:List α} {s t:α}:(A++[s]++B).set A.length t=A++[t]++B:=set_mid
abbrev fkey (l:List PairD):List UInt8:=(l.headD ⟨[],0⟩).Key
structure IsAt (L:List (List PairD)) (key:List UInt8) (a:Nat):Prop where
 lt:a<L.length
 lo:a=0\/¬key<fkey (L.getD a [])
 hi:∀j,a<j->j<L.length->key<fkey (L.getD j [])
def Rise (L:List (List PairD)):Prop:=∀i j,i<j->j<L.length->fkey (L.getD i [])<fkey (L.getD j [])
theorem IsAt.uniq {L:List (List PairD)} {key:List UInt8} {a b:Nat} (ha:IsAt L key a) (hb:IsAt L key b):a=b:=by
 rcases lt_trichotomy a b with h | h | h
 ·have:=ha.hi b h hb.lt;rcases hb.lo with e | e
  ·omega
  ·exact absurd this e
 ·exact h
 ·have:=hb.hi a h ha.lt;rcases ha.lo with e | e
  ·omega
  ·exact absurd this e
theorem scanF_spec (fk:Nat->List UInt8) (key:List UInt8):∀(c k at_:Nat),(scanF fk key k c at_=at_/\∀m,k<=m->m<k+c->key<fk m)\/
  (k<=scanF fk key k c at_/\scanF fk key k c at_<k+c/\¬key<fk (scanF fk key k c at_)/\∀m,scanF fk key k c at_<m->m<k+c->key<fk m)
 | 0,k,at_=>.inl ⟨rfl,fun m h1 h2=>by omega⟩
 | c+1,k,at_=>by
  rw[scanF];rcases scanF_spec fk key c (k+1) (if ¬key<fk k then k else at_) with ⟨h1,h2⟩ | ⟨h1,h2,h3,h4⟩
  ·rw[h1];by_cases hk:¬key<fk k
   ·rw[if_pos hk];exact .inr ⟨Nat.le_refl _,by omega,hk,fun m h3 h4=>h2 m (by omega) (by omega)⟩
   ·rw[if_neg hk];refine .inl ⟨rfl,fun m h3 h4=>?_⟩;rcases eq_or_lt_of_le h3 with e | h
    ·subst e;exact Decidable.of_not_not hk
    ·exact h2 m (by omega) (by omega)
  ·exact .inr ⟨by omega,by omega,h3,fun m g1 g2=>h4 m g1 (by omega)⟩
theorem leafF_go {L:List (List PairD)} {U:List (List Nat)} (hv:OkT L U) (hR:Rise L) (key:List UInt8):∀(l a:Nat),l<=U.length->a<lenAt L U l->
  (firstF U l a=0\/¬key<fkey (L.getD (firstF U l a) []))->(∀j,firstF U l (a+1)<=j->j<L.length->key<fkey (L.getD j []))->IsAt L key (leafF L U key l a)
 | 0,a,_,ha,h1,h2=>⟨ha,h1,fun j h3 h4=>h2 j h3 h4⟩
 | l+1,a,hl,ha,h1,h2=>by
  have hlU:l<U.length:=hl;rw[leafF];obtain⟨u,hu⟩:∃u,u=U.getD l []:=⟨_,rfl⟩;have hue:u=U[l]:=by rw[hu,List.getD_eq_getElem?_getD,List.getElem?_eq_getElem hlU];rfl
  have hal:a<u.length:=by rw[hu];exact ha
  rw[firstF,<- hu] at h1;rw[firstF,<- hu] at h2;rw[<- hu];have hgd:u.getD a 0=u[a]:=by rw[List.getD_eq_getElem?_getD,List.getElem?_eq_getElem hal];rfl
  have hpos:=hv.pos u (by rw[hue];exact List.getElem_mem hlU) u[a] (List.getElem_mem hal);have hsum:=sum_part hal;have hus:u.sum=lenAt L U l:=by rw[hue];exact hv.sums l hlU
  have hs1:(u.take (a+1)).sum=(u.take a).sum+u[a]:=by rw[List.take_succ_eq_append_getElem hal,sum_append,sum_singleton]
  rw[hgd];rw[hs1] at h2;obtain⟨fr,hfr⟩:∃fr,fr=(u.take a).sum:=⟨_,rfl⟩;rw[<- hfr] at h1 h2 hsum ⊢;have hb:scanF (firstK L U l) key (fr+1) (u[a] - 1) fr<lenAt L U l:=scanF_lt _ _ _ _ _ _ (by omega) (by omega);have hfk:∀m,firstK L U l m=fkey (L.getD (firstF U l m) []):=fun m=>rfl;have hbo:∀m,fr+1<=m->m<fr+1+(u[a] - 1)->key<firstK L U l m->∀j,firstF U l m<=j->j<L.length->key<fkey (L.getD j []):=fun m g1 g2 g3 j g4 g5=>by
   rw[hfk] at g3;rcases eq_or_lt_of_le g4 with e | h
   ·rw[<- e];exact g3
   ·exact lt_tr g3 (hR _ j h g5)
  rcases scanF_spec (firstK L U l) key (u[a] - 1) (fr+1) fr with ⟨e,h3⟩ | ⟨h3,h4,h5,h6⟩
  ·rw[e];refine leafF_go hv hR key l fr (by omega) (by omega) h1 fun j h4 h5=>?_;by_cases hq:u[a]=1
   ·exact h2 j (by rw[hq];exact h4) h5
   ·exact hbo (fr+1) (Nat.le_refl _) (by omega) (h3 _ (Nat.le_refl _) (by omega)) j h4 h5
  ·refine leafF_go hv hR key l _ (by omega) hb (.inr (by rw[<- hfk];exact h5)) fun j h7 h8=>?_;by_cases hq:scanF (firstK L U l) key (fr+1) (u[a] - 1) fr+1=fr+u[a]
   ·rw[hq] at h7;exact h2 j h7 h8
   ·exact hbo _ (by omega) (by omega) (h6 _ (lt_succ_self _) (by omega)) j h7 h8
theorem leafF_at {L:List (List PairD)} {U:List (List Nat)} (hv:OkT L U) (hR:Rise L) (ht:lenAt L U U.length=1) (key:List UInt8):IsAt L key (leafF L U key U.length 0):=by
 have h0:∀l,firstF U l 0=0:=fun l=>by
  induction l with
  | zero=>rfl
  | succ l ih=>rw[firstF,take_zero];exact ih
 have h1:∀l,l<=U.length->firstF U l (lenAt L U l)=L.length:=fun l hl=>by
  induction l with
  | zero=>rfl
  | succ l ih=>
   have hlU:l<U.length:=hl;have hue:U.getD l []=U[l]:=by rw[List.getD_eq_getElem?_getD,List.getElem?_eq_getElem hlU];rfl
   rw[firstF,lenAt,take_length,hue,hv.sums l hlU];exact ih (by omega)
 refine leafF_go hv hR key _ _ (Nat.le_refl _) (by rw[ht];decide) (.inl (h0 _)) fun j h2 h3=>?_;have:=h1 U.length (Nat.le_refl _);rw[ht] at this;rw[this] at h2;omega
def dn:Nat->List Nest->List Nest
 | 0,F=>F
 | h+1,F=>dn h (F.flatMap Nest.kids)
theorem lvs_dn:∀(h:Nat) (F:List Nest),lvs h F=(dn h F).map Nest.pairs
 | 0,_=>rfl
 | h+1,F=>lvs_dn h _
theorem dn_out:∀(h:Nat) (F:List Nest),dn (h+1) F=(dn h F).flatMap Nest.kids
 | 0,_=>rfl
 | h+1,F=>dn_out h _
theorem lF_snoc (l r:List Nest):∀fs:Frs,lF (fs++[(l,r)])=dn fs.length l++lF fs
 | []=>by simp[lF,dn]
 | (a,b)::fs=>by
  rw[cons_append,lF,lF_snoc l r fs,flatMap_append,<- dn_out,length_cons,lF,append_assoc]
theorem leafI_succ {h:Nat} {n:Nest} {key:List UInt8}:leafI (h+1) n key=(lvs h (n.kids.take (kidF h n.kids key))).length+leafI h (n.kids.getD (kidF h n.kids key) noN) key:=by
 unfold leafI;rw[pathF,lF_snoc,path_len,length_append,lvs_dn,length_map]
theorem lvs_pos:∀(h:Nat) (n:Nest),sized h n->0<(lvs h [n]).length
 | 0,n,_=>zero_lt_one
 | h+1,n,hs=>by
  have e:[n].flatMap Nest.kids=n.kids:=by simp
  rw[lvs,e];cases hk:n.kids with
  | nil=>have:=hs.1;rw[hk] at this;exact absurd this (by decide)
  | cons k ks=>
   rw[show k::ks=[k]++ks from rfl,lvs_app,length_append];have:=lvs_pos h k (hs.2.2 k (by rw[hk];exact mem_cons_self));omega
theorem lvs_one (h:Nat) (n:Nest):lvs (h+1) [n]=lvs h n.kids:=by
 rw[lvs]
 congr 1
 simp
theorem firstN_at:∀(h:Nat) (n:Nest),sized h n->firstN h n=fkey ((lvs h [n]).getD 0 [])
 | 0,n,_=>rfl
 | h+1,n,hs=>by
  rw[lvs_one,firstN];cases hk:n.kids with
  | nil=>have:=hs.1;rw[hk] at this;exact absurd this (by decide)
  | cons k ks=>
   have h1:=hs.2.2 k (by rw[hk];exact mem_cons_self);show firstN h k=_;rw[show k::ks=[k]++ks from rfl,lvs_app,firstN_at h k h1];have:=lvs_pos h k h1;rw[List.getD_eq_getElem?_getD,List.getD_eq_getElem?_getD,List.getElem?_append_left this]
theorem kidA_spec (key:List UInt8):∀(xs:List (List UInt8)) (i a:Nat),(kidA key xs i a=a/\∀m (h:m<xs.length),1<=i+m->key<xs[m])\/
  ∃m,∃h:m<xs.length,kidA key xs i a=i+m/\1<=i+m/\¬key<xs[m]/\∀q (h:q<xs.length),m<q->key<xs[q]
 | [],i,a=>.inl ⟨rfl,fun m h=>absurd h (not_lt_zero m)⟩
 | x::xs,i,a=>by
  rw[kidA];rcases kidA_spec key xs (i+1) (if 1<=i/\¬ltT key x then i else a) with ⟨h1,h2⟩ | ⟨m,hm,h1,h2,h3,h4⟩
  ·rw[h1];by_cases hq:1<=i/\¬ltT key x
   ·rw[if_pos hq];refine .inr ⟨0,zero_lt_succ _,rfl,hq.1,hq.2,fun q h g=>?_⟩;cases q with
    | zero=>omega
    | succ q=>exact h2 q (by simpa using h) (by omega)
   ·rw[if_neg hq];refine .inl ⟨rfl,fun m h g=>?_⟩;cases m with
    | zero=>exact Decidable.of_not_not fun g2=>hq ⟨g,g2⟩
    | succ m=>exact h2 m (by simpa using h) (by omega)
  ·refine .inr ⟨m+1,by simpa using hm,by rw[h1];omega,by omega,h3,fun q h g=>?_⟩;cases q with
   | zero=>omega
   | succ q=>exact h4 q (by simpa using h) (by omega)
theorem kidF_spec {h:Nat} {ks:List Nest} (hk:ks≠[]) (key:List UInt8):(kidF h ks key=0\/¬key<firstN h (ks.getD (kidF h ks key) noN))/\∀m,kidF h ks key<m->m<ks.length->key<firstN h (ks.getD m noN):=by
 have hg:∀m (hm:m<ks.length),ks.getD m noN=ks[m]:=fun m hm=>by rw[List.getD_eq_getElem?_getD,List.getElem?_eq_getElem hm];rfl
 rcases kidA_spec key (ks.map (firstN h)) 0 0 with ⟨h1,h2⟩ | ⟨m,hm,h1,h2,h3,h4⟩
 ·refine⟨.inl h1,fun m h3 h4=>?_⟩;have:=h2 m (by simpa using h4) (by omega)
  rwa [List.getElem_map,<- hg m h4] at this
 ·have hm':m<ks.length:=by simpa using hm
  have e:kidF h ks key=m:=by unfold kidF;rw[h1];omega
  rw[e];refine⟨.inr ?_,fun q h5 h6=>?_⟩
  ·rw[hg m hm'];rwa [List.getElem_map] at h3
  ·have:=h4 q (by simpa using h6) h5
   rwa [List.getElem_map,<- hg q h6] at this
theorem getD_left {A B:List (List PairD)} {j:Nat} (h:j<A.length):(A++B).getD j []=A.getD j []:=by
 rw[List.getD_eq_getElem?_getD,List.getD_eq_getElem?_getD,List.getElem?_append_left h]
theorem getD_right {A B:List (List PairD)} {j:Nat}:(A++B).getD (A.length+j) []=B.getD j []:=by
 rw[List.getD_eq_getElem?_getD,List.getD_eq_getElem?_getD,List.getElem?_append_right (by omega)]
 congr 2;omega
theorem Rise.left {A B:List (List PairD)} (h:Rise (A++B)):Rise A:=fun i j hi hj=>by
 have:=h i j hi (by rw[length_append];omega)
 rwa [getD_left (by omega),getD_left hj] at this
theorem Rise.right {A B:List (List PairD)} (h:Rise (A++B)):Rise B:=fun i j hi hj=>by
 have:=h (A.length+i) (A.length+j) (by omega) (by rw[length_append];omega)
 rwa [getD_right,getD_right] at this
theorem leafI_at:∀(h:Nat) (n:Nest) (key:List UInt8),sized h n->Rise (lvs h [n])->IsAt (lvs h [n]) key (leafI h n key)
 | 0,n,key,_,_=>⟨zero_lt_one,.inl rfl,fun j h1 h2=>by
   have h2:j<1:=h2;have h1:0<j:=h1;omega⟩
 | h+1,n,key,hs,hR=>by
  have hi:=kid_at (key:=key) hs;have hne:n.kids≠[]:=fun e=>by rw[e] at hi;exact absurd hi (not_lt_zero _)
  obtain⟨k1,k2⟩:=kidF_spec (h:=h) hne key;rw[leafI_succ];rw[lvs_one] at hR ⊢;obtain⟨i,hie⟩:∃i,i=kidF h n.kids key:=⟨_,rfl⟩;rw[<- hie] at hi k1 k2 ⊢;have hm:=mid_kid hi noN;obtain⟨k,hke⟩:∃k,k=n.kids.getD i noN:=⟨_,rfl⟩;have hsk:sized h k:=by rw[hke];exact hs.2.2 _ (kid_mem hi)
  have hrest:∀x∈n.kids.drop (i+1),sized h x:=fun x hx=>hs.2.2 x (mem_of_mem_drop hx);have hnx:∀x xs,n.kids.drop (i+1)=x::xs->key<firstN h x:=fun x xs e=>by
   have hl:i+1<n.kids.length:=by
    have:=congrArg List.length e;rw[length_drop,length_cons] at this;omega
   have:=k2 (i+1) (lt_succ_self _) hl;rw[List.getD_eq_getElem?_getD,List.getElem?_eq_getElem hl] at this;rw[List.drop_eq_getElem_cons hl] at e;cases e;exact this
  rw[<- hke] at hm k1 ⊢;have hL:lvs h n.kids=lvs h (n.kids.take i)++(lvs h [k]++lvs h (n.kids.drop (i+1))):=by
   conv=>lhs;rw[<- hm]
   rw[lvs_app,lvs_app,append_assoc]
  obtain⟨A,hA⟩:∃A,A=lvs h (n.kids.take i):=⟨_,rfl⟩;obtain⟨B,hB⟩:∃B,B=lvs h [k]:=⟨_,rfl⟩;obtain⟨C,hC⟩:∃C,C=lvs h (n.kids.drop (i+1)):=⟨_,rfl⟩;have hi0:i=0->A=[]:=fun e=>by
   rw[hA,e,take_zero];clear hm hL hR hnx hA;induction h with
   | zero=>rfl
   | succ h ih=>exact lvs_dn _ _ ▸ (by
     have:∀q,dn q []=[]:=fun q=>by
      induction q with
      | zero=>rfl
      | succ q ih=>exact ih
     rw[this];rfl)
  have ih:=leafI_at h k key hsk (by rw[hL] at hR;exact hR.right.left);have hfk:=firstN_at h k hsk;rw[hL,<- hA,<- hB,<- hC] at hR ⊢;rw[<- hB] at ih hfk;obtain⟨b,hb⟩:∃b,b=leafI h k key:=⟨_,rfl⟩;rw[<- hb] at ih ⊢;refine⟨by rw[length_append,length_append];have:=ih.lt;omega,?_,fun j h1 h2=>?_⟩
  ·rw[getD_right,getD_left ih.lt];rcases ih.lo with e | e
   ·rcases k1 with e1 | e1
    ·left;rw[hi0 e1,e];rfl
    ·right;rw[e,<- hfk];exact e1
   ·exact .inr e
  ·obtain⟨q,rfl⟩:∃q,j=A.length+q:=⟨j - A.length,by omega⟩;rw[getD_right];rw[length_append,length_append] at h2;by_cases hq:q<B.length
   ·rw[getD_left hq];exact ih.hi q (by omega) hq
   ·obtain⟨p,rfl⟩:∃p,q=B.length+p:=⟨q - B.length,by omega⟩;rw[getD_right];cases hd:n.kids.drop (i+1) with
    | nil=>
     have hnil:∀q,lvs q []=[]:=fun q=>by
      induction q with
      | zero=>rfl
      | succ q ih=>exact ih
     rw[hd,hnil] at hC;rw[hC] at h2;simp at h2;omega
    | cons x xs=>
     have h5:=hnx x xs hd;rw[hd] at hC hrest;have hsx:=hrest x mem_cons_self;have hxp:=lvs_pos h x hsx;rw[firstN_at h x hsx] at h5;have hC0:C.getD 0 []=(lvs h [x]).getD 0 []:=by
      rw[hC,show x::xs=[x]++xs from rfl,lvs_app,getD_left hxp]
     rw[<- hC0] at h5;rcases eq_zero_or_pos p with e | hp
     ·rw[e];exact h5
     ·exact lt_tr h5 (hR.right.right 0 p hp (by omega))
theorem getD_mem {L:List (List PairD)} {i:Nat} (h:i<L.length):L.getD i []∈L:=by
 rw[List.getD_eq_getElem?_getD,List.getElem?_eq_getElem h];exact List.getElem_mem h
theorem rise_of {L:List (List PairD)} (hn:∀l∈L,l≠[]) (ha:Asc L.flatten):Rise L:=fun i j hi hj=>by
 have h2:=(pairwise_flatten.1 ha).2;have:=List.pairwise_iff_getElem.1 h2 i j (by omega) hj hi;rw[List.getD_eq_getElem?_getD,List.getElem?_eq_getElem (show i<L.length by omega),List.getD_eq_getElem?_getD,List.getElem?_eq_getElem hj,getD_some,getD_some];have hm:∀l∈L,∃p ps,l=p::ps:=fun l hl=>by
  cases l with
  | nil=>exact absurd rfl (hn _ hl)
  | cons p ps=>exact⟨p,ps,rfl⟩
 obtain⟨p,ps,e1⟩:=hm L[i] (List.getElem_mem _);obtain⟨q,qs,e2⟩:=hm L[j] (List.getElem_mem _);rw[e1,e2] at this ⊢;exact this p mem_cons_self q mem_cons_self
end Tr
end
section
open Go.RowKit K
open Tr
namespace Tr
def insP (Q:List PairD) (p:PairD):List PairD:=Q.filter (fun q=>decide (ltT q.Key p.Key))++[p]++Q.filter (fun q=>!decide (ltT q.Key p.Key))
def delP (Q:List PairD) (key:List UInt8):List PairD:=Q.filter fun q=>!decide (q.Key=key)
theorem asc_nil:Asc []:=List.Pairwise.nil
theorem asc_cons {x:PairD} {l:List PairD}:Asc (x::l)↔(∀y∈l,x.Key<y.Key)/\Asc l:=pairwise_cons
theorem asc_app {a b:List PairD}:Asc (a++b)↔Asc a/\Asc b/\∀x∈a,∀y∈b,x.Key<y.Key:=List.pairwise_append
theorem asc_filter {l:List PairD} (f:PairD->Bool) (h:Asc l):Asc (l.filter f):=List.Pairwise.filter f h
theorem asc_split {key:List UInt8}:∀{l:List PairD},Asc l->l.filter (fun q=>decide (ltT q.Key key))++l.filter (fun q=>!decide (ltT q.Key key))=l
 | [],_=>rfl
 | x::l,h=>by
  obtain⟨h1,h2⟩:=asc_cons.1 h;by_cases hx:ltT x.Key key
  ·rw[filter_cons_of_pos (by simpa using hx),filter_cons_of_neg (by simpa using hx),cons_append,asc_split h2]
  ·rw[filter_cons_of_neg (by simpa using hx),filter_cons_of_pos (by simpa using hx),filter_eq_nil_iff.2,nil_append,filter_eq_self.2]
   ·intro y hy;have:¬ltT y.Key key:=fun g=>hx (lt_tr (h1 y hy) g);simpa using this
   ·intro y hy;have:¬ltT y.Key key:=fun g=>hx (lt_tr (h1 y hy) g);simpa using this
theorem putL_ins {l:List PairD} (h:Asc l) (p:PairD):putL l p=insP l p:=by
 unfold putL insP
 congr 1
 conv=>lhs;arg 2;rw[<- asc_split (key:=p.Key) h]
 rw[drop_left'];rfl
theorem insP_mem {Q:List PairD} {p x:PairD}:x∈insP Q p↔x=p\/x∈Q:=by
 unfold insP;simp only[mem_append,mem_filter,mem_singleton];constructor
 ·rintro ((h | h) | h)
  ·exact .inr h.1
  ·exact .inl h
  ·exact .inr h.1
 ·rintro (h | h)
  ·exact .inl (.inr h)
  ·by_cases hx:ltT x.Key p.Key
   ·exact .inl (.inl ⟨h,by simpa using hx⟩)
   ·exact .inr ⟨h,by simpa using hx⟩
theorem insP_len (Q:List PairD) (p:PairD):(insP Q p).length=Q.length+1:=by
 have h:∀l:List PairD,(l.filter fun q=>decide (ltT q.Key p.Key)).length+(l.filter fun q=>!decide (ltT q.Key p.Key)).length=l.length:=fun l=>by
  induction l with
  | nil=>rfl
  | cons x l ih=>
   by_cases hx:ltT x.Key p.Key
   ·rw[filter_cons_of_pos (by simpa using hx),filter_cons_of_neg (by simpa using hx),length_cons,length_cons];omega
   ·rw[filter_cons_of_neg (by simpa using hx),filter_cons_of_pos (by simpa using hx),length_cons,length_cons];omega
 have:=h Q;unfold insP;rw[length_append,length_append,length_singleton];omega
theorem insP_asc {Q:List PairD} {p:PairD} (h:Asc Q) (hn:∀q∈Q,q.Key≠p.Key):Asc (insP Q p):=by
 unfold insP;rw[asc_app,asc_app];refine⟨⟨asc_filter _ h,pairwise_singleton _ _,fun x hx y hy=>?_⟩,asc_filter _ h,fun x hx y hy=>?_⟩
 ·rw[mem_singleton] at hy;subst hy;simpa using (mem_filter.1 hx).2
 ·obtain⟨y1,y2⟩:=mem_filter.1 hy;have y2:¬y.Key<p.Key:=by simpa using y2
  have hp:p.Key<y.Key:=by
   rcases lt_tri p.Key y.Key with g | g | g
   ·exact g
   ·exact absurd g.symm (hn y y1)
   ·exact absurd g y2
  rcases mem_append.1 hx with hx | hx
  ·have x2:x.Key<p.Key:=by simpa using (mem_filter.1 hx).2
   exact lt_tr x2 hp
  ·rw[mem_singleton] at hx;subst hx;exact hp
theorem asc_key {Q:List PairD} (h:Asc Q) {x y:PairD} (hx:x∈Q) (hy:y∈Q) (e:x.Key=y.Key):x=y:=by
 induction Q with
 | nil=>cases hx
 | cons z Q ih=>
  obtain⟨h1,h2⟩:=asc_cons.1 h;rcases mem_cons.1 hx with hx' | hx'<;>rcases mem_cons.1 hy with hy' | hy'
  ·rw[hx',hy']
  ·have:=h1 y hy';rw[<- hx',e] at this;exact absurd this (lt_irr _)
  ·have:=h1 x hx';rw[<- hy',e] at this;exact absurd this (lt_irr _)
  ·exact ih h2 hx' hy'
def lookP (Q:List PairD) (key:List UInt8):Option Int:=(Q.find? fun q=>decide (q.Key=key)).map (·.Id)
theorem look_mem {Q:List PairD} (h:Asc Q) {p:PairD} (hp:p∈Q):lookP Q p.Key=some p.Id:=by
 unfold lookP;cases hf:Q.find? fun q=>decide (q.Key=p.Key) with
 | none=>
  have:=List.find?_eq_none.1 hf p hp;simp at this
 | some q=>
  have h1:=List.mem_of_find?_eq_some hf;have h2:q.Key=p.Key:=by simpa using List.find?_some hf
  rw[asc_key h h1 hp h2];rfl
theorem look_none {Q:List PairD} {key:List UInt8}:lookP Q key=none↔∀q∈Q,q.Key≠key:=by
 unfold lookP;rw[Option.map_eq_none_iff,List.find?_eq_none];simp
theorem look_some {Q:List PairD} (h:Asc Q) {key:List UInt8} {i:Int}:lookP Q key=some i↔∃p∈Q,p.Key=key/\p.Id=i:=by
 constructor
 ·intro e;unfold lookP at e;obtain⟨p,h1,h2⟩:=Option.map_eq_some_iff.1 e;exact⟨p,List.mem_of_find?_eq_some h1,by simpa using List.find?_some h1,h2⟩
 ·rintro⟨p,h1,rfl,rfl⟩;exact look_mem h h1
theorem look_ext {Q R:List PairD} (hQ:Asc Q) (hR:Asc R) {key:List UInt8} (h:∀p,p.Key=key->(p∈Q↔p∈R)):lookP Q key=lookP R key:=by
 refine Option.ext fun i=>?_;rw[look_some hQ,look_some hR];exact⟨fun ⟨p,h1,h2,h3⟩=>⟨p,(h p h2).1 h1,h2,h3⟩,fun ⟨p,h1,h2,h3⟩=>⟨p,(h p h2).2 h1,h2,h3⟩⟩
theorem at_parts {L:List (List PairD)} {key:List UInt8} {a:Nat} (hA:IsAt L key a) (hn:∀l∈L,l≠[]) (ha:Asc L.flatten) :
  ∃A B,L=A++[L.getD a []]++B/\A.length=a/\(∀x∈A.flatten,x.Key<key)/\(∀y∈B.flatten,key<y.Key)/\Asc (L.getD a []):=by
 have hlt:=hA.lt;have hg:L.getD a []=L[a]:=by rw[List.getD_eq_getElem?_getD,List.getElem?_eq_getElem hlt];rfl
 have hL:L=L.take a++[L.getD a []]++L.drop (a+1):=by rw[hg,<- List.take_succ_eq_append_getElem hlt,take_append_drop]
 have hfk:∀l∈L,fkey l=(l.headD ⟨[],0⟩).Key/\∃p ps,l=p::ps:=fun l hl=>by
  cases l with
  | nil=>exact absurd rfl (hn _ hl)
  | cons p ps=>exact⟨rfl,p,ps,rfl⟩
 have hpl:=(pairwise_flatten.1 ha);refine⟨L.take a,L.drop (a+1),hL,by rw[length_take];omega,fun x hx=>?_,fun y hy=>?_,hpl.1 _ (getD_mem hlt)⟩
 ·obtain⟨l,hl,hxl⟩:=mem_flatten.1 hx;obtain⟨i,hi,rfl⟩:=List.getElem_of_mem hl;rw[length_take] at hi;rw[List.getElem_take] at hxl;have h2:=List.pairwise_iff_getElem.1 hpl.2 i a (by omega) hlt (by omega) x hxl;obtain⟨_,p,ps,e⟩:=hfk L[a] (List.getElem_mem hlt);have h3:=h2 p (by rw[e];exact mem_cons_self);rcases hA.lo with h0 | h0
  ·omega
  ·rw[hg,e] at h0;have h0:¬key<p.Key:=h0;rcases lt_tri p.Key key with g | g | g
   ·exact lt_tr h3 g
   ·rw[<- g];exact h3
   ·exact absurd g h0
 ·obtain⟨l,hl,hyl⟩:=mem_flatten.1 hy;obtain⟨i,hi,rfl⟩:=List.getElem_of_mem hl;rw[length_drop] at hi;rw[List.getElem_drop] at hyl;have h4:=hA.hi (a+1+i) (by omega) (by omega);rw[List.getD_eq_getElem?_getD,List.getElem?_eq_getElem (show a+1+i<L.length by omega),getD_some] at h4;have h5:=hpl.1 L[a+1+i] (List.getElem_mem _);obtain⟨_,p,ps,e⟩:=hfk L[a+1+i] (List.getElem_mem _);rw[e] at h4 h5 hyl;have h4:key<p.Key:=h4;rcases mem_cons.1 hyl with rfl | hyl
  ·exact h4
  ·exact lt_tr h4 ((asc_cons.1 h5).1 y hyl)
theorem ins_flat {L:List (List PairD)} {U:List (List Nat)} {p:PairD} {a:Nat} (hA:IsAt L p.Key a) (hn:∀l∈L,l≠[]) (ha:Asc L.flatten):(insF L U a p).1.flatten=insP L.flatten p:=by
 obtain⟨A,B,hL,hl,hx,hy,hasc⟩:=at_parts hA hn ha;obtain⟨l,hle⟩:∃l,l=L.getD a []:=⟨_,rfl⟩;rw[<- hle] at hL hasc;have h1:(insF L U a p).1.flatten=A.flatten++putL l p++B.flatten:=by
  unfold insF;rw[<- hle];subst hl;split
  ·rw[hL,set_midL];simp
  ·rw[hL,take_mid,drop_mid];simp[<- append_assoc (List.take 2 _)]
 rw[h1,putL_ins hasc];rw[hL];unfold insP;have e1:A.flatten.filter (fun q=>decide (ltT q.Key p.Key))=A.flatten:=filter_eq_self.2 fun q hq=>by simpa using hx q hq
 have e2:A.flatten.filter (fun q=>!decide (ltT q.Key p.Key))=[]:=filter_eq_nil_iff.2 fun q hq=>by simpa using hx q hq
 have e3:B.flatten.filter (fun q=>decide (ltT q.Key p.Key))=[]:=filter_eq_nil_iff.2 fun q hq=>by simpa using lt_asym (hy q hq)
 have e4:B.flatten.filter (fun q=>!decide (ltT q.Key p.Key))=B.flatten:=filter_eq_self.2 fun q hq=>by simpa using lt_asym (hy q hq)
 simp only[flatten_append,flatten_cons,flatten_nil,List.append_nil,filter_append,e1,e2,e3,e4];simp
theorem look_flat {L:List (List PairD)} {key:List UInt8} {a:Nat} (hA:IsAt L key a) (hn:∀l∈L,l≠[]) (ha:Asc L.flatten):lookP L.flatten key=lookP (L.getD a []) key:=by
 obtain⟨A,B,hL,hl,hx,hy,hasc⟩:=at_parts hA hn ha;refine look_ext ha hasc fun p hp=>?_;obtain⟨l,hle⟩:∃l,l=L.getD a []:=⟨_,rfl⟩;rw[<- hle] at hL ⊢;rw[hL];simp only[flatten_append,mem_append,flatten_cons,flatten_nil,List.append_nil];constructor
 ·rintro ((h | h) | h)
  ·have:=hx p h;rw[hp] at this;exact absurd this (lt_irr _)
  ·exact h
  ·have:=hy p h;rw[hp] at this;exact absurd this (lt_irr _)
 ·exact fun h=>.inl (.inr h)
theorem hit_pos {l:List PairD} (h:Asc l) {key:List UInt8}:(hitF l key=true↔∃q∈l,q.Key=key)/\∀q∈l,q.Key=key->∃hp:posF l key<l.length,l[posF l key]=q/\delP l key=l.take (posF l key)++l.drop (posF l key+1):=by
 constructor
 ·unfold hitF;rw[any_eq_true];simp
 ·intro q hq hk;obtain⟨i,hi,rfl⟩:=List.getElem_of_mem hq;have h1:posF l key=i:=posF_at (fun m hm hmi=>by rw[<- hk];exact h.lt hi hmi) (fun m hm hmi=>by
   rcases eq_or_lt_of_le hmi with e | g
   ·subst e;rw[hk];exact lt_irr _
   ·have:=h.lt hm g;rw[hk] at this;exact lt_asym this) (by omega)
  rw[h1];refine⟨hi,rfl,?_⟩;unfold delP;have hl:l=l.take i++[l[i]]++l.drop (i+1):=by rw[<- List.take_succ_eq_append_getElem hi,take_append_drop]
  conv=>lhs;rw[hl]
  rw[filter_append,filter_append,filter_eq_self.2,filter_cons_of_neg (by simpa using hk),List.filter_nil,List.append_nil,filter_eq_self.2]
  ·intro x hx;obtain⟨m,hm,rfl⟩:=List.getElem_of_mem hx;rw[length_drop] at hm;rw[List.getElem_drop];have:=h.lt (j:=i+1+m) (i:=i) (by omega) (by omega);rw[hk] at this;have:l[i+1+m].Key≠key:=fun e=>by rw[e] at this;exact lt_irr _ this
   simpa using this
  ·intro x hx;obtain⟨m,hm,rfl⟩:=List.getElem_of_mem hx;rw[length_take] at hm;rw[List.getElem_take];have:=h.lt (j:=i) (i:=m) hi (by omega);rw[hk] at this;have:l[m].Key≠key:=fun e=>by rw[e] at this;exact lt_irr _ this
   simpa using this
end Tr
end
section
open Go.RowKit K
open Tr
namespace Tr
def lastK (seen:List PairD):List UInt8:=(seen.getLastD ⟨[],0⟩).Key
def prChk:List PairD->List PairD->Int
 | [],_=>0
 | p::ps,seen=>if 40<p.Key.length then 2 else if 0<seen.length/\¬ltT (lastK seen) p.Key then 4 else prChk ps (seen++[p])
abbrev badL (m:Nat) (l:List PairD):Prop:=(l.length<2\/4<l.length)/\(1<m\/l.length=0\/4<l.length)
def lvChk (m:Nat):List (List PairD)->List PairD->Int
 | [],_=>0
 | l::ls,seen=>if badL m l then 1 else if prChk l seen≠0 then prChk l seen else lvChk m ls (seen++l)
def upChk:Nat->List (List Int)->Int
 | b,[]=>if 1<b then 1 else 0
 | b,u::us=>if b<2 then 1 else if (∀n∈u,2<=n/\n<=4)/\u.sum=b then upChk u.length us else 1
def chkT (L:List (List PairD)) (Us:List (List Int)):Int:=
 if 64<L.length\/8<Us.length then 2 else if lvChk L.length L []≠0 then lvChk L.length L [] else if upChk L.length Us≠0 then 1 else if 64<L.flatten.length then 2 else 0
theorem lastK_snoc (seen:List PairD) (p:PairD):lastK (seen++[p])=p.Key:=by unfold lastK;rw[List.getLastD_concat]
theorem asc_snoc {seen:List PairD} {p:PairD} (h:Asc seen):Asc (seen++[p])↔¬(0<seen.length/\¬ltT (lastK seen) p.Key):=by
 rw[asc_app];rcases List.eq_nil_or_concat seen with rfl | ⟨s,q,e⟩
 ·exact⟨fun _ h=>absurd h.1 (Nat.lt_irrefl 0),fun _=>⟨asc_nil,pairwise_singleton _ _,fun x hx=>(by cases hx)⟩⟩
 ·rw[List.concat_eq_append] at e;subst e;rw[lastK_snoc];constructor
  ·rintro⟨_,_,h3⟩ ⟨_,h4⟩;exact h4 (h3 q (by simp) p (by simp))
  ·intro h1;have h2:q.Key<p.Key:=Decidable.of_not_not fun g=>h1 ⟨by simp,g⟩;refine⟨h,pairwise_singleton _ _,fun x hx y hy=>?_⟩;rw[mem_singleton] at hy;subst hy;rcases mem_append.1 hx with hx | hx
   ·exact lt_tr ((asc_app.1 h).2.2 x hx q (by simp)) h2
   ·rw[mem_singleton] at hx;subst hx;exact h2
theorem prChk_ok:∀(ps seen:List PairD),Asc seen->(prChk ps seen=0↔Asc (seen++ps)/\∀p∈ps,p.Key.length<=40)
 | [],seen,h=>by rw[List.append_nil];exact⟨fun _=>⟨h,fun p hp=>(by cases hp)⟩,fun _=>rfl⟩
 | p::ps,seen,h=>by
  rw[prChk];by_cases h1:40<p.Key.length
  ·rw[if_pos h1];exact⟨fun e=>(by cases e),fun e=>by have:=e.2 p mem_cons_self;omega⟩
  rw[if_neg h1];by_cases h2:0<seen.length/\¬ltT (lastK seen) p.Key
  ·rw[if_pos h2];refine⟨fun e=>(by cases e),fun e=>?_⟩;have:Asc (seen++[p]):=by
    have:=e.1;rw[show seen++p::ps=(seen++[p])++ps by simp] at this;exact (asc_app.1 this).1
   exact absurd h2 ((asc_snoc h).1 this)
  ·rw[if_neg h2,prChk_ok ps (seen++[p]) ((asc_snoc h).2 h2),append_assoc];refine⟨fun ⟨a,b⟩=>⟨a,fun q hq=>?_⟩,fun ⟨a,b⟩=>⟨a,fun q hq=>b q (mem_cons_of_mem _ hq)⟩⟩;rcases mem_cons.1 hq with rfl | hq
   ·omega
   ·exact b q hq
theorem lvChk_ok (m:Nat):∀(ls:List (List PairD)) (seen:List PairD),Asc seen->(lvChk m ls seen=0↔(∀l∈ls,¬badL m l)/\Asc (seen++ls.flatten)/\∀p∈ls.flatten,p.Key.length<=40)
 | [],seen,h=>by
  rw[flatten_nil,List.append_nil];exact⟨fun _=>⟨fun l hl=>(by cases hl),h,fun p hp=>(by cases hp)⟩,fun _=>rfl⟩
 | l::ls,seen,h=>by
  rw[lvChk];by_cases h1:badL m l
  ·rw[if_pos h1];exact⟨fun e=>(by cases e),fun e=>absurd h1 (e.1 l mem_cons_self)⟩
  rw[if_neg h1];have hp:=prChk_ok l seen h;by_cases h2:prChk l seen≠0
  ·rw[if_pos h2];refine⟨fun e=>absurd e h2,fun ⟨_,e,e2⟩=>absurd (hp.2 ⟨?_,fun p hp=>e2 p (by rw[flatten_cons];exact mem_append_left _ hp)⟩) h2⟩;rw[flatten_cons,<- append_assoc] at e;exact (asc_app.1 e).1
  ·rw[if_neg h2];obtain⟨g1,g2⟩:=hp.1 (Decidable.of_not_not h2);rw[lvChk_ok m ls (seen++l) g1,flatten_cons,append_assoc];refine⟨fun ⟨a,b,c⟩=>⟨fun q hq=>?_,b,fun q hq=>?_⟩,fun ⟨a,b,c⟩=>⟨fun q hq=>a q (mem_cons_of_mem _ hq),b,fun q hq=>c q (mem_append_right _ hq)⟩⟩
   ·rcases mem_cons.1 hq with rfl | hq
    ·exact h1
    ·exact a q hq
   ·rcases mem_append.1 hq with hq | hq
    ·exact g2 q hq
    ·exact c q hq
abbrev intU (U:List (List Nat)):List (List Int):=U.map (List.map fun n:Nat=>(n:Int))
def upOk:Nat->List (List Nat)->Nat->Prop
 | b,[],t=>b=t
 | b,u::us,t=>2<=b/\(∀n∈u,2<=n/\n<=4)/\u.sum=b/\upOk u.length us t
theorem sum_int (u:List Nat):(u.map fun n:Nat=>(n:Int)).sum=(u.sum:Int):=by
 induction u with
 | nil=>rfl
 | cons x u ih=>rw[map_cons,sum_cons,ih,sum_cons];push_cast;rfl
theorem nat_of {u:List Int} (h:∀n∈u,2<=n/\n<=4):∃v:List Nat,u=v.map (fun n:Nat=>(n:Int))/\∀n∈v,2<=n/\n<=4:=by
 refine⟨u.map Int.toNat,?_,?_⟩
 ·rw[map_map];conv=>lhs;rw[<- map_id u]
  refine map_congr_left fun n hn=>?_;have:=h n hn;show n=((n.toNat:Nat):Int);omega
 ·intro n hn;obtain⟨x,hx,rfl⟩:=mem_map.1 hn;have:=h x hx;omega
theorem upChk_ok:∀(us:List (List Int)) (b:Nat),upChk b us=0->∃U,us=intU U/\(b=0/\U=[]\/upOk b U 1)
 | [],b,h=>by
  rw[upChk] at h;refine⟨[],rfl,?_⟩;by_cases h1:1<b
  ·rw[if_pos h1] at h;cases h
  ·rcases eq_zero_or_pos b with e | e
   ·exact .inl ⟨e,rfl⟩
   ·refine .inr ?_;show b=1;omega
 | u::us,b,h=>by
  rw[upChk] at h;by_cases h1:b<2
  ·rw[if_pos h1] at h;cases h
  rw[if_neg h1] at h;by_cases h2:(∀n∈u,2<=n/\n<=4)/\u.sum=b
  ·rw[if_pos h2] at h;obtain⟨v,rfl,hv⟩:=nat_of h2.1;rw[length_map] at h;have hs:=h2.2;rw[sum_int] at hs;obtain⟨U,rfl,hU⟩:=upChk_ok us v.length h;refine⟨v::U,rfl,.inr ⟨by omega,hv,by omega,?_⟩⟩;rcases hU with ⟨e,_⟩ | hU
   ·have:v=[]:=eq_nil_of_length_eq_zero e;subst this;have:(0:Int)=b:=hs;omega
   ·exact hU
  ·rw[if_neg h2] at h;cases h
theorem upChk_of:∀(U:List (List Nat)) (b:Nat),upOk b U 1->upChk b (intU U)=0
 | [],b,h=>by
  have h:b=1:=h;subst h;rfl
 | u::U,b,⟨h1,h2,h3,h4⟩=>by
  show upChk b ((u.map fun n:Nat=>(n:Int))::intU U)=0;have hm:∀n∈u.map (fun n:Nat=>(n:Int)),2<=n/\n<=4:=fun n hn=>by
   obtain⟨x,hx,rfl⟩:=mem_map.1 hn;have:=h2 x hx;omega
  rw[upChk,if_neg (by omega),if_pos ⟨hm,by rw[sum_int,h3]⟩,length_map];exact upChk_of U _ h4
structure TreeOk (L:List (List PairD)) (U:List (List Nat)):Prop where
 many:L.length<=64
 deep:U.length<=8
 leaf:∀l∈L,¬badL L.length l
 asc:Asc L.flatten
 keys:∀p∈L.flatten,p.Key.length<=40
 up:L=[]/\U=[]\/upOk L.length U 1
 count:L.flatten.length<=64
theorem chk_ok {L:List (List PairD)} {Us:List (List Int)} (h:chkT L Us=0):∃U,Us=intU U/\TreeOk L U:=by
 unfold chkT at h;by_cases h1:64<L.length\/8<Us.length
 ·rw[if_pos h1] at h;cases h
 rw[if_neg h1] at h;by_cases h2:lvChk L.length L []≠0
 ·rw[if_pos h2] at h;exact absurd h h2
 rw[if_neg h2] at h;by_cases h3:upChk L.length Us≠0
 ·rw[if_pos h3] at h;cases h
 rw[if_neg h3] at h;by_cases h4:64<L.flatten.length
 ·rw[if_pos h4] at h;cases h
 obtain⟨g1,g2,g3⟩:=(lvChk_ok L.length L [] asc_nil).1 (Decidable.of_not_not h2);obtain⟨U,rfl,hU⟩:=upChk_ok Us _ (Decidable.of_not_not h3);rw[length_map] at h1;exact⟨U,rfl,by omega,by omega,g1,g2,g3,hU.imp (fun e=>⟨eq_nil_of_length_eq_zero e.1,e.2⟩) id,by omega⟩
theorem chk_of {L:List (List PairD)} {U:List (List Nat)} (h:TreeOk L U):chkT L (intU U)=0:=by
 have h1:=h.many;have h2:=h.deep;have h3:=h.count;have h4:lvChk L.length L []=0:=(lvChk_ok L.length L [] asc_nil).2 ⟨h.leaf,h.asc,h.keys⟩;have h5:upChk L.length (intU U)=0:=by
  rcases h.up with ⟨rfl,rfl⟩ | e
  ·rfl
  ·exact upChk_of U _ e
 unfold chkT;rw[if_neg (by rw[length_map];omega),h4,if_neg (by decide),h5,if_neg (by decide),if_neg (by omega)]
def lenB (b:Nat) (U:List (List Nat)):Nat->Nat
 | 0=>b
 | l+1=>(U.getD l []).length
theorem lenB_at (L:List (List PairD)) (U:List (List Nat)) (l:Nat):lenAt L U l=lenB L.length U l:=by cases l<;>rfl
theorem lenB_cons (b:Nat) (u:List Nat) (U:List (List Nat)) (l:Nat):lenB b (u::U) (l+1)=lenB u.length U l:=by cases l<;>rfl
theorem two_sum:∀{u:List Nat},(∀n∈u,2<=n/\n<=4)->2*u.length<=u.sum/\u.sum<=4*u.length
 | [],_=>⟨Nat.le_refl _,Nat.le_refl _⟩
 | x::u,h=>by
  obtain⟨h1,h2⟩:=two_sum (u:=u) fun n hn=>h n (mem_cons_of_mem _ hn);have:=h x mem_cons_self;rw[length_cons,sum_cons];omega
theorem upOk_at:∀(U:List (List Nat)) (b t:Nat),upOk b U t->(∀l (h:l<U.length),U[l].sum=lenB b U l)/\(∀l,l<=U.length->lenB b U l<=b)/\lenB b U U.length=t/\∀u∈U,∀n∈u,2<=n/\n<=4
 | [],b,t,h=>⟨fun l h=>absurd h (not_lt_zero l),fun l hl=>by
   have:l=0:=Nat.le_zero.1 hl;subst this;exact Nat.le_refl _,h,fun u hu=>(by cases hu)⟩
 | u::U,b,t,⟨h1,h2,h3,h4⟩=>by
  obtain⟨g1,g2,g3,g4⟩:=upOk_at U _ t h4;have hu:=two_sum h2;refine⟨fun l hl=>?_,fun l hl=>?_,?_,fun v hv=>?_⟩
  ·cases l with
   | zero=>exact h3
   | succ l=>rw[lenB_cons];exact g1 l (by simpa using hl)
  ·cases l with
   | zero=>exact Nat.le_refl _
   | succ l=>
    rw[lenB_cons];have:=g2 l (by simpa using hl);omega
  ·rw[length_cons,lenB_cons];exact g3
  ·rcases mem_cons.1 hv with rfl | hv
   ·exact h2
   ·exact g4 v hv
theorem TreeOk.okT {L:List (List PairD)} {U:List (List Nat)} (h:TreeOk L U):OkT L U:=by
 have hl:∀l∈L,0<l.length/\l.length<=4:=fun l hl=>by
  have:=h.leaf l hl;unfold badL at this;omega
 rcases h.up with ⟨rfl,rfl⟩ | e
 ·refine⟨fun u hu=>(by cases hu),fun l hl=>absurd hl (not_lt_zero l),fun l hl=>?_,zero_le _,hl⟩;have:l=0:=Nat.le_zero.1 hl;subst this;exact zero_le _
 ·obtain⟨g1,g2,g3,g4⟩:=upOk_at _ _ _ e;have:=h.many;exact⟨g4,fun l hl=>by rw[lenB_at];exact g1 l hl,fun l hl=>by rw[lenB_at];have:=g2 l hl;omega,h.deep,hl⟩
theorem TreeOk.top {L:List (List PairD)} {U:List (List Nat)} (h:TreeOk L U) (hL:L≠[]):lenAt L U U.length=1/\upOk L.length U 1:=by
 rcases h.up with ⟨rfl,_⟩ | e
 ·exact absurd rfl hL
 ·exact⟨by rw[lenB_at];exact (upOk_at _ _ _ e).2.2.1,e⟩
theorem TreeOk.ne {L:List (List PairD)} {U:List (List Nat)} (h:TreeOk L U):∀l∈L,l≠[]:=fun l hl e=>by
 have:=(h.okT.leaf l hl).1;rw[e] at this;exact absurd this (by decide)
theorem TreeOk.rise {L:List (List PairD)} {U:List (List Nat)} (h:TreeOk L U):Rise L:=rise_of h.ne h.asc
theorem TreeOk.at_ {L:List (List PairD)} {U:List (List Nat)} (h:TreeOk L U) (hL:L≠[]) (key:List UInt8):IsAt L key (leafF L U key U.length 0):=leafF_at h.okT h.rise (h.top hL).1 key
abbrev wfN (h:Nat) (n:Nest):Prop:=tall h n/\sized h n
theorem upOk_snoc:∀(U:List (List Nat)) (b m:Nat) (u:List Nat),upOk b U m->2<=m->(∀n∈u,2<=n/\n<=4)->u.sum=m->upOk b (U++[u]) u.length
 | [],b,m,u,h,h1,h2,h3=>by
  have h:b=m:=h;subst h;exact⟨h1,h2,h3,rfl⟩
 | v::U,b,m,u,⟨g1,g2,g3,g4⟩,h1,h2,h3=>⟨g1,g2,g3,upOk_snoc U _ m u g4 h1 h2 h3⟩
theorem wf_kids {h:Nat} {F:List Nest} (hF:∀n∈F,wfN (h+1) n):inner F/\(∀k∈F.flatMap Nest.kids,wfN h k)/\∀s∈F.map Nest.size,2<=s/\s<=4:=by
 refine⟨fun n hn=>(tall_node (hF n hn).1).2.1,fun k hk=>?_,fun s hs=>?_⟩
 ·obtain⟨n,hn,hk⟩:=mem_flatMap.1 hk;exact⟨(tall_node (hF n hn).1).2.2 k hk,(hF n hn).2.2.2 k hk⟩
 ·obtain⟨n,hn,rfl⟩:=mem_map.1 hs;rw[<- (tall_node (hF n hn).1).2.1];exact⟨(hF n hn).2.1,(hF n hn).2.2.1⟩
theorem ups_ok:∀(h:Nat) (F:List Nest),F≠[]->(∀n∈F,wfN h n)->upOk (lvs h F).length (ups h F) F.length
 | 0,F,_,_=>by rw[lvs,length_map];exact rfl
 | h+1,F,hne,hF=>by
  obtain⟨k1,k2,k3⟩:=wf_kids hF;have h1:=sizes_sum k1;have h2:=two_sum k3;rw[length_map] at h2;have h3:0<F.length:=length_pos_iff.2 hne;have hk:F.flatMap Nest.kids≠[]:=fun e=>by rw[e] at h1;rw[<- h1] at h2;simp at h2;omega
  have:=ups_ok h (F.flatMap Nest.kids) hk k2;rw[lvs,ups];have h4:=upOk_snoc _ _ _ (F.map Nest.size) this (by omega) k3 h1.symm
  rwa [length_map] at h4
theorem dn_len:∀(h:Nat) (F:List Nest),(∀n∈F,wfN h n)->2^h*F.length<=(lvs h F).length/\(lvs h F).length<=4^h*F.length
 | 0,F,_=>by rw[lvs,length_map];simp
 | h+1,F,hF=>by
  obtain⟨k1,k2,k3⟩:=wf_kids hF;have h1:=sizes_sum k1;have h2:=two_sum k3;rw[length_map] at h2;obtain⟨h3,h4⟩:=dn_len h (F.flatMap Nest.kids) k2;rw[lvs,pow_succ,pow_succ,Nat.mul_assoc,Nat.mul_assoc];exact⟨le_trans (Nat.mul_le_mul_left _ (by omega)) h3,le_trans h4 (Nat.mul_le_mul_left _ (by omega))⟩
theorem flat_len:∀{L:List (List PairD)},(∀l∈L,2<=l.length/\l.length<=4)->2*L.length<=L.flatten.length/\L.flatten.length<=4*L.length
 | [],_=>⟨Nat.le_refl _,Nat.le_refl _⟩
 | l::L,h=>by
  obtain⟨h1,h2⟩:=flat_len (L:=L) fun x hx=>h x (mem_cons_of_mem _ hx);have:=h l mem_cons_self;rw[flatten_cons,length_append,length_cons];omega
theorem nest_ok {H:Nat} {n:Nest} (hw:wfN H n) (hs:∀l∈lvs H [n],(2<=l.length\/H=0/\1<=l.length)/\l.length<=4) (ha:Asc (lvs H [n]).flatten) (hk:∀p∈(lvs H [n]).flatten,p.Key.length<=40) (hc:(lvs H [n]).flatten.length<=64) :
  TreeOk (lvs H [n]) (ups H [n]):=by
 have hF:∀x∈[n],wfN H x:=fun x hx=>by rw[mem_singleton] at hx;subst hx;exact hw
 have hup:=ups_ok H [n] (by simp) hF;have hdn:=(dn_len H [n] hF).1;rw[length_singleton,mul_one] at hdn;rw[length_singleton] at hup;have hH:(lvs H [n]).length<=32\/H=0:=by
  by_cases e:H=0
  ·exact .inr e
  ·left;have:=(flat_len (L:=lvs H [n]) fun l hl=>⟨(hs l hl).1.resolve_right fun g=>e g.1,(hs l hl).2⟩).1;omega
 have hH5:H<=5:=by
  rcases hH with e | e
  ·refine Decidable.byContradiction fun g=>?_;have:2^6<=2^H:=Nat.pow_le_pow_right (by decide) (by omega);omega
  ·omega
 have hl0:H=0->(lvs H [n]).length=1:=fun e=>by subst e;rfl
 refine⟨by omega,by rw[ups_len];omega,fun l hl=>?_,ha,hk,.inr hup,hc⟩;have h1:=hs l hl;unfold badL;by_cases e:H=0
 ·have:=hl0 e;omega
 ·omega
theorem halves_wf {h:Nat} {ks:List Nest} (hk:∀k∈ks,wfN h k) (h2:2<=ks.length) (h5:ks.length<=5):(∀m∈halves (.node ks),wfN (h+1) m)/\((halves (.node ks)).length=1\/(halves (.node ks)).length=2):=by
 have mk:∀l:List Nest,(∀k∈l,k∈ks)->2<=l.length->l.length<=4->wfN (h+1) (.node l):=fun l hl a b=>⟨fun k hk'=>(hk k (hl k hk')).1,a,b,fun k hk'=>(hk k (hl k hk')).2⟩;unfold halves;have hsz:(Nest.node ks).size=ks.length:=rfl;by_cases h4:(Nest.node ks).size<=4
 ·rw[if_pos h4];refine⟨fun m hm=>?_,.inl rfl⟩;rw[mem_singleton] at hm;subst hm;exact mk ks (fun k hk=>hk) h2 (by omega)
 ·rw[if_neg h4];refine⟨fun m hm=>?_,.inr rfl⟩;rcases mem_cons.1 hm with rfl | hm
  ·exact mk _ (fun k hk=>mem_of_mem_take hk) (by rw[length_take];omega) (by rw[length_take];omega)
  ·rw[mem_singleton] at hm;subst hm;exact mk _ (fun k hk=>mem_of_mem_drop hk) (by rw[length_drop];omega) (by rw[length_drop];omega)
theorem putN_wf:∀(h:Nat) (n:Nest) (p:PairD),wfN h n->(∀m∈putN h n p,wfN h m)/\((putN h n p).length=1\/(putN h n p).length=2)
 | 0,n,p,_=>by
  rw[putN];unfold halves;split
  ·exact⟨fun m hm=>(by rw[mem_singleton] at hm;subst hm;exact⟨trivial,trivial⟩),.inl rfl⟩
  ·refine⟨fun m hm=>?_,.inr rfl⟩;rcases mem_cons.1 hm with rfl | hm
   ·exact⟨trivial,trivial⟩
   ·rw[mem_singleton] at hm;subst hm;exact⟨trivial,trivial⟩
 | h+1,n,p,⟨ht,hs⟩=>by
  obtain⟨_,_,hk⟩:=tall_node ht;have hi:=kid_at (key:=p.Key) hs;obtain⟨h1,h2⟩:=putN_wf h _ p ⟨hk _ (kid_mem hi),hs.2.2 _ (kid_mem hi)⟩;rw[putN];have h3:=hs.1;have h4:=hs.2.1;refine halves_wf (fun k hk'=>?_) ?_ ?_
  ·rcases mem_append.1 hk' with hk' | hk'
   ·rcases mem_append.1 hk' with hk' | hk'
    ·have:=mem_of_mem_take hk';exact⟨hk _ this,hs.2.2 _ this⟩
    ·exact h1 k hk'
   ·have:=mem_of_mem_drop hk';exact⟨hk _ this,hs.2.2 _ this⟩
  ·rw[length_append,length_append,length_take,length_drop];omega
  ·rw[length_append,length_append,length_take,length_drop];omega
def grp:List Nat->List Nest->List Nest
 | [],_=>[]
 | n::ns,F=>.node (F.take n)::grp ns (F.drop n)
theorem grp_ok {h:Nat}:∀(u:List Nat) (F:List Nest),(∀n∈u,2<=n/\n<=4)->u.sum=F.length->(∀n∈F,wfN h n)->(∀n∈grp u F,wfN (h+1) n)/\(grp u F).flatMap Nest.kids=F/\(grp u F).map Nest.size=u
 | [],F,_,hs,_=>by
  have:F=[]:=eq_nil_of_length_eq_zero (by rw[<- hs];rfl);subst this;exact⟨fun n hn=>(by cases hn),rfl,rfl⟩
 | n::u,F,hu,hs,hF=>by
  rw[sum_cons] at hs;have hn:=hu n mem_cons_self;obtain⟨h1,h2,h3⟩:=grp_ok u (F.drop n) (fun x hx=>hu x (mem_cons_of_mem _ hx)) (by rw[length_drop];omega) fun x hx=>hF x (mem_of_mem_drop hx);have hl:(F.take n).length=n:=by rw[length_take];omega
  refine⟨fun m hm=>?_,?_,?_⟩
  ·rw[grp] at hm;rcases mem_cons.1 hm with rfl | hm
   ·exact⟨fun k hk=>(hF k (mem_of_mem_take hk)).1,by show 2<=(F.take n).length;omega,by show (F.take n).length<=4;omega,fun k hk=>(hF k (mem_of_mem_take hk)).2⟩
   ·exact h1 m hm
  ·rw[grp,flatMap_cons,h2];exact take_append_drop n F
  ·rw[grp,map_cons,h3];show (F.take n).length::u=n::u;rw[hl]
def nestF:List (List Nat)->List Nest->List Nest
 | [],F=>F
 | u::U,F=>nestF U (grp u F)
theorem nestF_ok:∀(U:List (List Nat)) (h:Nat) (F:List Nest) (t:Nat),upOk F.length U t->(∀n∈F,wfN h n)->
  (nestF U F).length=t/\(∀n∈nestF U F,wfN (h+U.length) n)/\lvs (h+U.length) (nestF U F)=lvs h F/\ups (h+U.length) (nestF U F)=ups h F++U
 | [],h,F,t,hu,hF=>⟨hu,hF,rfl,by rw[List.append_nil];rfl⟩
 | u::U,h,F,t,⟨h1,h2,h3,h4⟩,hF=>by
  obtain⟨g1,g2,g3⟩:=grp_ok u F h2 h3 hF;have hl:(grp u F).length=u.length:=by rw[<- g3,length_map];exact congrArg List.length (by rw[g3])
  obtain⟨k1,k2,k3,k4⟩:=nestF_ok U (h+1) (grp u F) t (by rw[hl];exact h4) g1;rw[length_cons,show h+(U.length+1)=h+1+U.length by omega];refine⟨k1,k2,?_,?_⟩
  ·rw[nestF,k3,lvs,g2]
  ·rw[nestF,k4,ups,g2,g3,append_assoc];rfl
def nestT (L:List (List PairD)) (U:List (List Nat)):Nest:=(nestF U (L.map Nest.leaf)).headD noN
theorem nestT_ok {L:List (List PairD)} {U:List (List Nat)} (h:TreeOk L U) (hL:L≠[]):wfN U.length (nestT L U)/\lvs U.length [nestT L U]=L/\ups U.length [nestT L U]=U/\nestF U (L.map Nest.leaf)=[nestT L U]:=by
 have h1:=(h.top hL).2;obtain⟨k1,k2,k3,k4⟩:=nestF_ok U 0 (L.map Nest.leaf) 1 (by rw[length_map];exact h1) fun n hn=>by
  obtain⟨l,_,rfl⟩:=mem_map.1 hn;exact⟨trivial,trivial⟩
 obtain⟨n,hn⟩:∃n,nestF U (L.map Nest.leaf)=[n]:=length_eq_one_iff.1 k1;have e:nestT L U=n:=by unfold nestT;rw[hn];rfl
 rw[e];rw[hn,zero_add] at k2 k3 k4;refine⟨k2 n mem_cons_self,?_,?_,hn⟩
 ·rw[k3,lvs,map_map];conv=>rhs;rw[<- map_id L]
  rfl
 ·rw[k4];rfl
theorem ins_leaf {L:List (List PairD)} {U:List (List Nat)} {a:Nat} {p:PairD} (hL:∀l∈L,(1<L.length->2<=l.length)/\1<=l.length/\l.length<=4) (ha:a<L.length) (hp:(putL (L.getD a []) p).length=(L.getD a []).length+1) :
  ∀l∈(insF L U a p).1,2<=l.length/\l.length<=4:=by
 have hg:=hL _ (getD_mem ha);have htk:∀l∈L.take a,2<=l.length/\l.length<=4:=fun l hl=>by
  have h0:0<(L.take a).length:=List.length_pos_of_mem hl;rw[length_take] at h0;have:=hL l (mem_of_mem_take hl);have h1:=this.1 (by omega);omega
 have hdr:∀l∈L.drop (a+1),2<=l.length/\l.length<=4:=fun l hl=>by
  have h0:0<(L.drop (a+1)).length:=List.length_pos_of_mem hl;rw[length_drop] at h0;have:=hL l (mem_of_mem_drop hl);have h1:=this.1 (by omega);omega
 intro l hl;unfold insF at hl;split at hl
 ·rename_i h4;rw[set_eq_take_append_cons_drop,if_pos ha] at hl;rcases mem_append.1 hl with hl | hl
  ·exact htk l hl
  ·rcases mem_cons.1 hl with rfl | hl
   ·omega
   ·exact hdr l hl
 ·rename_i h4;rcases mem_append.1 hl with hl | hl
  ·rcases mem_append.1 hl with hl | hl
   ·exact htk l hl
   ·rcases mem_cons.1 hl with rfl | hl
    ·rw[length_take];omega
    ·rw[mem_singleton] at hl;subst hl;rw[length_drop];omega
  ·exact hdr l hl
theorem TreeOk.sizes {L:List (List PairD)} {U:List (List Nat)} (h:TreeOk L U):∀l∈L,(1<L.length->2<=l.length)/\1<=l.length/\l.length<=4:=fun l hl=>by
 have:=h.leaf l hl;unfold badL at this;omega
theorem ins_ok {L:List (List PairD)} {U:List (List Nat)} (h:TreeOk L U) (hL:L≠[]) (p:PairD) (hk:p.Key.length<=40) (hn:∀q∈L.flatten,q.Key≠p.Key) (hc:L.flatten.length<64) :
  ∃H,insF L U (leafF L U p.Key U.length 0) p=(lvs H [fin (putN U.length (nestT L U) p)],ups H [fin (putN U.length (nestT L U) p)])/\wfN H (fin (putN U.length (nestT L U) p))/\
   TreeOk (lvs H [fin (putN U.length (nestT L U) p)]) (ups H [fin (putN U.length (nestT L U) p)])/\(lvs H [fin (putN U.length (nestT L U) p)]).flatten=insP L.flatten p:=by
 obtain⟨n1,n2,n3,_⟩:=nestT_ok h hL;have hat:=h.at_ hL p.Key;have hat2:=leafI_at U.length (nestT L U) p.Key n1.2 (by rw[n2];exact h.rise);rw[n2] at hat2;have he:=hat.uniq hat2;obtain⟨H,e1,e2⟩:=ins_put n1.1 n1.2 p;rw[n2,n3,<- he] at e1;obtain⟨w1,w2⟩:=putN_wf U.length (nestT L U) p n1;obtain⟨Xs,hXs⟩:∃Xs,Xs=putN U.length (nestT L U) p:=⟨_,rfl⟩;rw[<- hXs] at e1 e2 w1 w2 ⊢;have hw:wfN H (fin Xs):=by
  rcases w2 with w2 | w2
  ·obtain⟨x,rfl⟩:=length_eq_one_iff.1 w2;rw[show H=U.length by rw[w2] at e2;omega];exact w1 x mem_cons_self
  ·obtain⟨x,y,rfl⟩:∃x y,Xs=[x,y]:=by
    match Xs,w2 with
    | [x,y],_=>exact⟨x,y,rfl⟩
   rw[show H=U.length+1 by rw[w2] at e2;omega];have hx:=w1 x (by simp);have hy:=w1 y (by simp);refine⟨fun k hk=>?_,(by decide:2<=2),(by decide:2<=4),fun k hk=>?_⟩
   ·rcases mem_cons.1 hk with rfl | hk
    ·exact hx.1
    ·rw[mem_singleton] at hk;subst hk;exact hy.1
   ·rcases mem_cons.1 hk with rfl | hk
    ·exact hx.2
    ·rw[mem_singleton] at hk;subst hk;exact hy.2
 have hfl:=ins_flat (U:=U) hat h.ne h.asc;have e1':(insF L U (leafF L U p.Key U.length 0) p).1=lvs H [fin Xs]:=by rw[e1]
 rw[e1'] at hfl;refine⟨H,e1,hw,nest_ok hw (fun l hl=>?_) ?_ (fun q hq=>?_) ?_,hfl⟩
 ·have hpl:(putL (L.getD (leafF L U p.Key U.length 0) []) p).length=(L.getD (leafF L U p.Key U.length 0) []).length+1:=by
   rw[putL_ins ((pairwise_flatten.1 h.asc).1 _ (getD_mem hat.lt)),insP_len]
  have:=ins_leaf (U:=U) h.sizes hat.lt hpl l (by rw[e1'];exact hl);exact⟨.inl this.1,this.2⟩
 ·rw[hfl];exact insP_asc h.asc hn
 ·rw[hfl,insP_mem] at hq;rcases hq with rfl | hq
  ·exact hk
  ·exact h.keys q hq
 ·rw[hfl,insP_len];omega
end Tr
end
section
open Go.RowKit K
structure TreeD where
 Leaves:List (List PairD)
 Up:List (List Int)
def TreeD.c (x:TreeD):List C:=[.sl 1 (x.Leaves.map (eSl 2 PairD.c)),.sl 1 (x.Up.map (eSl 1 eInt))]
def TreeD.ok (x:TreeD):Prop:=(okSl (Try.prog.bytesOf 44) (okSl (Try.prog.bytesOf 41) PairD.ok)) x.Leaves/\(okSl (Try.prog.bytesOf 61) (okSl (Try.prog.bytesOf 3) okInt)) x.Up
theorem openC_Tree:OpensC Try.prog 25 2 TreeD.c TreeD.ok:=by
 refine⟨by kernel_rfl,by decide,?_⟩;intro H enc w spare held fuel cs x h hl;have ht:Try.prog.underlying 25=some (.struct (Try.prog.fieldsOf 25)):=by kernel_rfl
 have hlen:=struct_len ht h;rw[show Try.prog.cellsOf 25=2 by kernel_rfl] at hlen;obtain⟨a0,e0,k0⟩:=field_of ht h hl 0 22 0 1 (by kernel_rfl) (openC_slice (sz:=1) (enc:=(eSl 2 PairD.c)) Try.underlying22 (by kernel_rfl) (fun _=>rfl) (openC_slice (sz:=2) (enc:=PairD.c) Try.underlying44 (by kernel_rfl) (fun _=>rfl) openC_Pair));obtain⟨a1,e1,k1⟩:=field_of ht h hl 1 23 1 1 (by kernel_rfl) (openC_slice (sz:=1) (enc:=(eSl 1 eInt)) Try.underlying23 (by kernel_rfl) (fun _=>rfl) (openC_slice (sz:=1) (enc:=eInt) Try.underlying61 (by kernel_rfl) (fun _=>rfl) (openC_int Try.underlying3 (by kernel_rfl))));have hall:CsRep (FW w) w ((eSl 1 (eSl 2 PairD.c)) a0++((eSl 1 (eSl 1 eInt)) a1++[])) (cs.drop 0):=(cs_field e0 (cs_field e1 (cs_end hlen)));rw[drop_zero] at hall;exact⟨hlen,⟨a0,a1⟩,hall,⟨k0,k1⟩⟩
end
section
open Go.RowKit K
open Tr
def intC (n:Int):List C:=[.v (.int .i64 n)]
def upI (U:List (List Int)):List (List C):=U.map fun l=>[.sl 1 (l.map intC)]
theorem upI_int (U:List (List Nat)):upI (intU U)=upC U:=by
 unfold upI upC;rw[map_map];refine map_congr_left fun l _=>?_;show [C.sl 1 ((l.map fun n:Nat=>(n:Int)).map intC)]=_;rw[map_map];rfl
abbrev lvV (L:List (List PairD)):PV:=.d (.c (.sl 1 (lvC L)))
abbrev trV (L:List (List PairD)) (U:List (List Int)):PV:=.agg [.c (.sl 1 (lvC L)),.c (.sl 1 (upI U))]
theorem p_fits (n:Nat):Pure Try.prog 34 [pInt .i64 n] (pBool (decide (2<=n/\n<=4))):=by
 refine pure_of Try.func34 (by rfl) rfl (by kernel_rfl) (by rfl) ?_;by_cases h1:2<=n
 ·by_cases h2:n<=4
  ·rw[decide_eq_true ⟨h1,h2⟩];((conv=>whnf);repeat' ((first|(with_reducible first|apply a_|apply b_|apply c_)|((with_reducible first|apply d_|apply e_|apply f_|apply g_);focus first|omega|(simp only[q_]<;>omega))|((with_reducible first|apply i_|apply h_);focus first|omega|(simp only[q_]<;>omega))|((with_reducible apply h_);focus first|decide|kernel_rfl)|refine s_ (by decide) ?_|refine t_ (by decide) ?_|with_reducible first|apply l_|apply m_|apply n_|apply o_|refine p_ (fun _=>?_) (fun _=>?_))<;>(conv=>whnf)));all_goals first|exact Ret.mk rfl | (exfalso;omega) | exact Ret.mk (by simp;omega)
  ·rw[decide_eq_false fun h=>h2 h.2];((conv=>whnf);repeat' ((first|(with_reducible first|apply a_|apply b_|apply c_)|((with_reducible first|apply d_|apply e_|apply f_|apply g_);focus first|omega|(simp only[q_]<;>omega))|((with_reducible first|apply i_|apply h_);focus first|omega|(simp only[q_]<;>omega))|((with_reducible apply h_);focus first|decide|kernel_rfl)|refine s_ (by decide) ?_|refine t_ (by decide) ?_|with_reducible first|apply l_|apply m_|apply n_|apply o_|refine p_ (fun _=>?_) (fun _=>?_))<;>(conv=>whnf)));all_goals first|exact Ret.mk rfl | (exfalso;omega) | exact Ret.mk (by simp;omega)
 ·rw[decide_eq_false fun h=>h1 h.1];((conv=>whnf);repeat' ((first|(with_reducible first|apply a_|apply b_|apply c_)|((with_reducible first|apply d_|apply e_|apply f_|apply g_);focus first|omega|(simp only[q_]<;>omega))|((with_reducible first|apply i_|apply h_);focus first|omega|(simp only[q_]<;>omega))|((with_reducible apply h_);focus first|decide|kernel_rfl)|refine s_ (by decide) ?_|refine t_ (by decide) ?_|with_reducible first|apply l_|apply m_|apply n_|apply o_|refine p_ (fun _=>?_) (fun _=>?_))<;>(conv=>whnf)));all_goals first|exact Ret.mk rfl | (exfalso;omega) | exact Ret.mk (by simp;omega)
theorem p_fitsI (n:Int):Pure Try.prog 34 [pInt .i64 n] (pBool (decide (2<=n/\n<=4))):=by
 refine pure_of Try.func34 (by rfl) rfl (by kernel_rfl) (by rfl) ?_;by_cases h1:2<=n
 ·by_cases h2:n<=4
  ·rw[decide_eq_true ⟨h1,h2⟩];((conv=>whnf);repeat' ((first|(with_reducible first|apply a_|apply b_|apply c_)|((with_reducible first|apply d_|apply e_|apply f_|apply g_);focus first|omega|(simp only[q_]<;>omega))|((with_reducible first|apply i_|apply h_);focus first|omega|(simp only[q_]<;>omega))|((with_reducible apply h_);focus first|decide|kernel_rfl)|refine s_ (by decide) ?_|refine t_ (by decide) ?_|with_reducible first|apply l_|apply m_|apply n_|apply o_|refine p_ (fun _=>?_) (fun _=>?_))<;>(conv=>whnf)));all_goals first|exact Ret.mk rfl | (exfalso;omega) | exact Ret.mk (by simp;omega)
  ·rw[decide_eq_false fun h=>h2 h.2];((conv=>whnf);repeat' ((first|(with_reducible first|apply a_|apply b_|apply c_)|((with_reducible first|apply d_|apply e_|apply f_|apply g_);focus first|omega|(simp only[q_]<;>omega))|((with_reducible first|apply i_|apply h_);focus first|omega|(simp only[q_]<;>omega))|((with_reducible apply h_);focus first|decide|kernel_rfl)|refine s_ (by decide) ?_|refine t_ (by decide) ?_|with_reducible first|apply l_|apply m_|apply n_|apply o_|refine p_ (fun _=>?_) (fun _=>?_))<;>(conv=>whnf)));all_goals first|exact Ret.mk rfl | (exfalso;omega) | exact Ret.mk (by simp;omega)
 ·rw[decide_eq_false fun h=>h1 h.1];((conv=>whnf);repeat' ((first|(with_reducible first|apply a_|apply b_|apply c_)|((with_reducible first|apply d_|apply e_|apply f_|apply g_);focus first|omega|(simp only[q_]<;>omega))|((with_reducible first|apply i_|apply h_);focus first|omega|(simp only[q_]<;>omega))|((with_reducible apply h_);focus first|decide|kernel_rfl)|refine s_ (by decide) ?_|refine t_ (by decide) ?_|with_reducible first|apply l_|apply m_|apply n_|apply o_|refine p_ (fun _=>?_) (fun _=>?_))<;>(conv=>whnf)));all_goals first|exact Ret.mk rfl | (exfalso;omega) | exact Ret.mk (by simp;omega)
namespace Tr
theorem take_flatL {L:List (List PairD)} {k:Nat} (h:k<L.length):(L.take (k+1)).flatten=(L.take k).flatten++L[k]:=by
 rw[List.take_succ_eq_append_getElem h,flatten_append];simp
end Tr
theorem p_chkleaves (L:List (List PairD)) (h64:L.length<=64) (hk:∀l∈L,∀p∈l,p.ok) (hl:∀l∈L,l.length<=140737488351232) :
  Pure Try.prog 12 [lvV L] (.tup [pInt .i64 (if lvChk L.length L []=0 then (L.flatten.length:Int) else 0),pInt .i64 (lvChk L.length L [])]):=by
 have hLl:(lvC L).length=L.length:=length_map _;refine pure_of Try.func12 (by rfl) rfl (by kernel_rfl) (by rfl) ?_;obtain⟨m,hm⟩:∃m,m=L.length:=⟨_,rfl⟩;rw[<- hm];((conv=>whnf);repeat' ((first|(with_reducible first|apply a_|apply b_|apply c_)|((with_reducible first|apply d_|apply e_|apply f_|apply g_);focus first|omega|(simp only[q_]<;>omega))|((with_reducible first|apply i_|apply h_);focus first|omega|(simp only[q_]<;>omega))|((with_reducible apply h_);focus first|decide|kernel_rfl)|refine s_ (by decide) ?_|refine t_ (by decide) ?_|with_reducible first|apply l_|apply m_|apply n_|apply o_|refine p_ (fun _=>?_) (fun _=>?_))<;>(conv=>whnf)));refine LoopC.mk Nat (fun k=>[(0,lvV L),(4,pInt .i64 (L.take k).flatten.length),(5,pStr (tx (lastK (L.take k).flatten))),(10,lvV L),(11,pInt .i64 L.length),(12,pInt .i64 (k:Int))]) (fun _=>[]) []
  (fun k=>k<=L.length/\(L.take k).flatten.length<=4*k/\Asc (L.take k).flatten/\lvChk m L []=lvChk m (L.drop k) (L.take k).flatten) (fun k=>L.length - k) 0 ⟨zero_le _,Nat.le_refl _,asc_nil,rfl⟩ ?start ?round
 case start=>exact⟨[],rfl,rfl,⟨.inl rfl,.inl rfl,.inl rfl,.inl rfl,PLe.int (by rw[hLl]),.inl rfl,trivial⟩,trivial⟩
 case round=>
  rintro k ⟨h1,h2,h3,h4⟩;have h1:k<=L.length:=h1;have h2:(L.take k).flatten.length<=4*k:=h2;have h3:Asc (L.take k).flatten:=h3;have h4:lvChk m L []=lvChk m (L.drop k) (L.take k).flatten:=h4;by_cases hkL:k<L.length
  ·rw[List.drop_eq_getElem_cons hkL,lvChk] at h4;obtain⟨l,hle⟩:∃l,l=L[k]:=⟨_,rfl⟩;have hmem:l∈L:=by rw[hle];exact List.getElem_mem hkL
   have hll:=hl l hmem;have hlo:=hk l hmem;have htf:=take_flatL hkL;rw[<- hle] at h4 htf;have hrow:(lvC L)[k]? = some [.sl 2 (l.map PairD.c)]:=by
    unfold lvC;rw[List.getElem?_map,List.getElem?_eq_getElem hkL,hle];rfl
   have hlml:(l.map PairD.c).length=l.length:=length_map _;have pf:=p_fits (l.map PairD.c).length;rw[show decide (2<=(l.map PairD.c).length/\(l.map PairD.c).length<=4)=decide (2<=l.length/\l.length<=4) by rw[hlml]] at pf;by_cases hb:badL m l
   ·rw[if_pos hb] at h4;rw[h4,if_neg (by decide)];have hf:decide (2<=l.length/\l.length<=4)=false:=decide_eq_false (by unfold badL at hb;omega);rw[hf] at pf;unfold badL at hb;rw[hm] at hb;((conv=>whnf);repeat' ((first|(with_reducible first|apply a_|apply b_|apply c_)|((with_reducible first|apply d_|apply e_|apply f_|apply g_);focus first|omega|(simp only[q_]<;>omega))|((with_reducible first|apply i_|apply h_);focus first|omega|(simp only[q_]<;>omega))|((with_reducible apply h_);focus first|decide|kernel_rfl)|refine s_ (by decide) ?_|refine t_ (by decide) ?_|(refine Idx.at' hrow rfl ?_)|refine r_ pf rfl ?_|with_reducible first|apply l_|apply m_|apply n_|apply o_|refine p_ (fun _=>?_) (fun _=>?_))<;>(conv=>whnf)));all_goals first|exact Ret.mk rfl|(exfalso;omega)|skip
   ·rw[if_neg hb] at h4;obtain⟨sn,hsn⟩:∃sn,sn=(L.take k).flatten:=⟨_,rfl⟩;rw[<- hsn] at h2 h3 h4 htf;unfold badL at hb;rw[hm] at hb;have hl4:l.length<=4:=by omega
    by_cases hf:2<=l.length/\l.length<=4
    all_goals
     first
     | rw[decide_eq_true hf] at pf
     | rw[decide_eq_false hf] at pf
     ((conv=>whnf);repeat' ((first|(with_reducible first|apply a_|apply b_|apply c_)|((with_reducible first|apply d_|apply e_|apply f_|apply g_);focus first|omega|(simp only[q_]<;>omega))|((with_reducible first|apply i_|apply h_);focus first|omega|(simp only[q_]<;>omega))|((with_reducible apply h_);focus first|decide|kernel_rfl)|refine s_ (by decide) ?_|refine t_ (by decide) ?_|(refine Idx.at' hrow rfl ?_)|refine r_ pf rfl ?_|with_reducible first|apply l_|apply m_|apply n_|apply o_|refine p_ (fun _=>?_) (fun _=>?_))<;>(conv=>whnf)));all_goals first|(exfalso;omega)|skip
     refine LoopC.mk Nat (fun j=>[(0,lvV L),(4,pInt .i64 (sn++l.take j).length),(5,pStr (tx (lastK (sn++l.take j)))),(10,lvV L),(11,pInt .i64 L.length),(12,pInt .i64 (k:Int)),(35,.d (.c (.sl 2 (l.map PairD.c)))),(36,pInt .i64 l.length),(37,pInt .i64 (j:Int))]) (fun _=>[]) []
      (fun j=>j<=l.length/\Asc (sn++l.take j)/\prChk l sn=prChk (l.drop j) (sn++l.take j)) (fun j=>l.length - j) 0 ⟨zero_le _,by simpa using h3,by simp⟩ ?start2 ?round2
     case start2=>exact⟨[],rfl,rfl,⟨.inl rfl,PLe.int (by rw[hsn];simp),PLe.text (by rw[hsn];simp),.inl rfl,.inl rfl,.inl rfl,.inl rfl,PLe.int (by rw[hlml]),.inl rfl,trivial⟩,trivial⟩
     case round2=>
      rintro j ⟨g1,g2,g3⟩;have g1:j<=l.length:=g1;have g2:Asc (sn++l.take j):=g2;have g3:prChk l sn=prChk (l.drop j) (sn++l.take j):=g3;obtain⟨s2,hs2⟩:∃s2,s2=sn++l.take j:=⟨_,rfl⟩;have hs2l:s2.length=sn.length+j:=by rw[hs2,length_append,length_take];omega
      rw[<- hs2] at g2 g3 ⊢;by_cases hj:j<l.length
      ·have hnx:sn++l.take (j+1)=s2++[l[j]]:=by rw[List.take_succ_eq_append_getElem hj,hs2,append_assoc]
       obtain⟨p,hp⟩:∃p,p=l[j]:=⟨_,rfl⟩;have hpo:p.ok:=by rw[hp];exact hlo _ (List.getElem_mem hj)
       have hpk:p.Key.length<=140737488351232:=hpo.1;have hks:(tx p.Key).size=p.Key.length:=rfl;rw[List.drop_eq_getElem_cons hj,prChk] at g3;have hrp:(l.map PairD.c)[j]? = some (PairD.c p):=by rw[List.getElem?_map,List.getElem?_eq_getElem hj,hp];rfl
       rw[<- hp] at g3 hnx;by_cases hq:40<p.Key.length
       ·rw[if_pos hq] at g3;rw[g3,if_pos (by decide)] at h4;rw[h4,if_neg (by decide)];((conv=>whnf);repeat' ((first|(with_reducible first|apply a_|apply b_|apply c_)|((with_reducible first|apply d_|apply e_|apply f_|apply g_);focus first|omega|(simp only[q_]<;>omega))|((with_reducible first|apply i_|apply h_);focus first|omega|(simp only[q_]<;>omega))|((with_reducible apply h_);focus first|decide|kernel_rfl)|refine s_ (by decide) ?_|refine t_ (by decide) ?_|(refine Idx.at' hrp rfl ?_)|with_reducible first|apply l_|apply m_|apply n_|apply o_|refine p_ (fun _=>?_) (fun _=>?_))<;>(conv=>whnf)));all_goals first|exact Ret.mk rfl|(exfalso;omega)|skip
       ·rw[if_neg hq] at g3;have done:¬(0<s2.length/\¬ltT (lastK s2) p.Key)->Asc (sn++l.take (j+1))/\prChk l sn=prChk (l.drop (j+1)) (sn++l.take (j+1)):=fun hc=>by
         rw[if_neg hc] at g3;rw[hnx];exact⟨(asc_snoc g2).2 hc,g3⟩
        have hlk:lastK (sn++l.take (j+1))=p.Key:=by rw[hnx,lastK_snoc]
        have hnl:(sn++l.take (j+1)).length=s2.length+1:=by rw[hnx,length_append];rfl
        by_cases h0:0<s2.length
        ·rcases lt_tri p.Key (lastK s2) with hc | hc | hc
         ·rw[if_pos ⟨h0,lt_asym hc⟩] at g3;rw[g3,if_pos (by decide)] at h4;rw[h4,if_neg (by decide)];have hb:Op.bytesLess (tx p.Key).toList (tx (lastK s2)).toList=true:=by rw[less_tx];exact decide_eq_true hc
          ((conv=>whnf);repeat' ((first|(with_reducible first|apply a_|apply b_|apply c_)|((with_reducible first|apply d_|apply e_|apply f_|apply g_);focus first|omega|(simp only[q_]<;>omega))|((with_reducible first|apply i_|apply h_);focus first|omega|(simp only[q_]<;>omega))|((with_reducible apply h_);focus first|decide|kernel_rfl)|refine s_ (by decide) ?_|refine t_ (by decide) ?_|(refine Idx.at' hrp rfl ?_)|(refine BCase.t hb ?_)|with_reducible first|apply l_|apply m_|apply n_|apply o_|refine p_ (fun _=>?_) (fun _=>?_))<;>(conv=>whnf)));all_goals first|exact Ret.mk rfl|(exfalso;omega)|skip
         ·rw[if_pos ⟨h0,by rw[hc];exact lt_irr _⟩] at g3;rw[g3,if_pos (by decide)] at h4;rw[h4,if_neg (by decide)];have hb:Op.bytesLess (tx p.Key).toList (tx (lastK s2)).toList=false:=by rw[less_tx,hc];exact decide_eq_false (lt_irr _)
          have hb2:decide (tx p.Key=tx (lastK s2))=true:=by rw[hc];exact decide_eq_true rfl
          ((conv=>whnf);repeat' ((first|(with_reducible first|apply a_|apply b_|apply c_)|((with_reducible first|apply d_|apply e_|apply f_|apply g_);focus first|omega|(simp only[q_]<;>omega))|((with_reducible first|apply i_|apply h_);focus first|omega|(simp only[q_]<;>omega))|((with_reducible apply h_);focus first|decide|kernel_rfl)|refine s_ (by decide) ?_|refine t_ (by decide) ?_|(refine Idx.at' hrp rfl ?_)|(refine BCase.f hb ?_)|(refine BCase.t hb2 ?_)|with_reducible first|apply l_|apply m_|apply n_|apply o_|refine p_ (fun _=>?_) (fun _=>?_))<;>(conv=>whnf)));all_goals first|exact Ret.mk rfl|(exfalso;omega)|skip
         ·obtain⟨d1,d2⟩:=done fun h=>h.2 hc;have hb:Op.bytesLess (tx p.Key).toList (tx (lastK s2)).toList=false:=by rw[less_tx];exact decide_eq_false (lt_asym hc)
          have hb2:decide (tx p.Key=tx (lastK s2))=false:=decide_eq_false fun e=>by
           rw[tx_eq] at e;rw[e] at hc;exact lt_irr _ hc
          ((conv=>whnf);repeat' ((first|(with_reducible first|apply a_|apply b_|apply c_)|((with_reducible first|apply d_|apply e_|apply f_|apply g_);focus first|omega|(simp only[q_]<;>omega))|((with_reducible first|apply i_|apply h_);focus first|omega|(simp only[q_]<;>omega))|((with_reducible apply h_);focus first|decide|kernel_rfl)|refine s_ (by decide) ?_|refine t_ (by decide) ?_|(refine Idx.at' hrp rfl ?_)|(refine BCase.f hb ?_)|(refine BCase.f hb2 ?_)|with_reducible first|apply l_|apply m_|apply n_|apply o_|refine p_ (fun _=>?_) (fun _=>?_))<;>(conv=>whnf)));all_goals first|(exfalso;omega)|exact⟨j+1,⟨hj,d1,d2⟩,by show l.length - (j+1)<l.length - j;omega,[],rfl,rfl,⟨.inl rfl,PLe.int (by rw[hnl];push_cast;rfl),PLe.text (by rw[hlk]),.inl rfl,.inl rfl,.inl rfl,.inl rfl,.inl rfl,PLe.int (by push_cast;rfl),trivial⟩,trivial⟩
        ·obtain⟨d1,d2⟩:=done fun h=>h0 h.1;((conv=>whnf);repeat' ((first|(with_reducible first|apply a_|apply b_|apply c_)|((with_reducible first|apply d_|apply e_|apply f_|apply g_);focus first|omega|(simp only[q_]<;>omega))|((with_reducible first|apply i_|apply h_);focus first|omega|(simp only[q_]<;>omega))|((with_reducible apply h_);focus first|decide|kernel_rfl)|refine s_ (by decide) ?_|refine t_ (by decide) ?_|(refine Idx.at' hrp rfl ?_)|with_reducible first|apply l_|apply m_|apply n_|apply o_|refine p_ (fun _=>?_) (fun _=>?_))<;>(conv=>whnf)));all_goals first|(exfalso;omega)|skip
         exact⟨j+1,⟨hj,d1,d2⟩,by show l.length - (j+1)<l.length - j;omega,[],rfl,rfl,⟨.inl rfl,PLe.int (by rw[hnl];push_cast;rfl),PLe.text (by rw[hlk]),.inl rfl,.inl rfl,.inl rfl,.inl rfl,.inl rfl,PLe.int (by push_cast;rfl),trivial⟩,trivial⟩
      ·have hjl:j=l.length:=by omega
       rw[hjl,take_length] at hs2;rw[hjl,drop_length,prChk] at g3;rw[g3,if_neg (by decide)] at h4;((conv=>whnf);repeat' ((first|(with_reducible first|apply a_|apply b_|apply c_)|((with_reducible first|apply d_|apply e_|apply f_|apply g_);focus first|omega|(simp only[q_]<;>omega))|((with_reducible first|apply i_|apply h_);focus first|omega|(simp only[q_]<;>omega))|((with_reducible apply h_);focus first|decide|kernel_rfl)|refine s_ (by decide) ?_|refine t_ (by decide) ?_|with_reducible first|apply l_|apply m_|apply n_|apply o_|refine p_ (fun _=>?_) (fun _=>?_))<;>(conv=>whnf)));all_goals first|(exfalso;omega)|skip
       exact⟨k+1,⟨hkL,by show ((L.take (k+1)).flatten).length<=4*(k+1);rw[htf,length_append];omega,by show Asc (L.take (k+1)).flatten;rw[htf,<- hs2];exact g2,by show _=lvChk m (L.drop (k+1)) (L.take (k+1)).flatten;rw[htf];exact h4⟩,by show L.length - (k+1)<L.length - k;omega,[],rfl,rfl,⟨.inl rfl,PLe.int (by rw[htf,<- hs2]),PLe.text (by rw[htf,<- hs2]),.inl rfl,.inl rfl,PLe.int (by push_cast;rfl),trivial⟩,trivial⟩
  ·obtain rfl:k=L.length:=by omega
   rw[drop_length,lvChk] at h4;rw[take_length];rw[h4,if_pos rfl];rw[take_length] at h2;((conv=>whnf);repeat' ((first|(with_reducible first|apply a_|apply b_|apply c_)|((with_reducible first|apply d_|apply e_|apply f_|apply g_);focus first|omega|(simp only[q_]<;>omega))|((with_reducible first|apply i_|apply h_);focus first|omega|(simp only[q_]<;>omega))|((with_reducible apply h_);focus first|decide|kernel_rfl)|refine s_ (by decide) ?_|refine t_ (by decide) ?_|with_reducible first|apply l_|apply m_|apply n_|apply o_|refine p_ (fun _=>?_) (fun _=>?_))<;>(conv=>whnf)));all_goals first|exact Ret.mk rfl | (exfalso;omega) | skip
namespace Tr
theorem sum_bound:∀{u:List Int},(∀n∈u,2<=n/\n<=4)->0<=u.sum/\u.sum<=4*(u.length:Int)
 | [],_=>⟨Int.le_refl _,Int.le_refl _⟩
 | x::u,h=>by
  obtain⟨h1,h2⟩:=sum_bound (u:=u) fun n hn=>h n (mem_cons_of_mem _ hn);have:=h x mem_cons_self;rw[sum_cons,length_cons];push_cast;omega
end Tr
theorem p_chkup (b:Nat) (Us:List (List Int)) (hb:b<=17592186044416) (hu:∀u∈Us,u.length<=17592186044416) (hU:Us.length<=1000) :
  Pure Try.prog 52 [pInt .i64 b,.d (.c (.sl 1 (upI Us)))] (pInt .i64 (upChk b Us)):=by
 have hUl:(upI Us).length=Us.length:=length_map _;refine pure_of Try.func52 (by rfl) rfl (by kernel_rfl) (by rfl) ?_;((conv=>whnf);repeat' ((first|(with_reducible first|apply a_|apply b_|apply c_)|((with_reducible first|apply d_|apply e_|apply f_|apply g_);focus first|omega|(simp only[q_]<;>omega))|((with_reducible first|apply i_|apply h_);focus first|omega|(simp only[q_]<;>omega))|((with_reducible apply h_);focus first|decide|kernel_rfl)|refine s_ (by decide) ?_|refine t_ (by decide) ?_|with_reducible first|apply l_|apply m_|apply n_|apply o_|refine p_ (fun _=>?_) (fun _=>?_))<;>(conv=>whnf)));refine LoopC.mk (Nat×Nat) (fun s=>[(0,pInt .i64 s.2),(10,.d (.c (.sl 1 (upI Us)))),(11,pInt .i64 Us.length),(12,pInt .i64 (s.1:Int))]) (fun _=>[]) []
  (fun s=>s.1<=Us.length/\s.2<=17592186044416/\upChk b Us=upChk s.2 (Us.drop s.1)) (fun s=>Us.length - s.1) (0,b) ⟨zero_le _,hb,rfl⟩ ?start ?round
 case start=>exact⟨[],rfl,rfl,⟨.inl rfl,.inl rfl,PLe.int (by rw[hUl]),.inl rfl,trivial⟩,trivial⟩
 case round=>
  rintro⟨k,c⟩ ⟨h1,h2,h3⟩;have h1:k<=Us.length:=h1;have h2:c<=17592186044416:=h2;have h3:upChk b Us=upChk c (Us.drop k):=h3;by_cases hkU:k<Us.length
  ·rw[List.drop_eq_getElem_cons hkU,upChk] at h3;obtain⟨u,hue⟩:∃u,u=Us[k]:=⟨_,rfl⟩;have hul:u.length<=17592186044416:=by rw[hue];exact hu _ (List.getElem_mem hkU)
   have hrow:(upI Us)[k]? = some [.sl 1 (u.map intC)]:=by
    unfold upI;rw[List.getElem?_map,List.getElem?_eq_getElem hkU,hue];rfl
   have hum:(u.map intC).length=u.length:=length_map _;rw[<- hue] at h3;by_cases hc2:c<2
   ·rw[if_pos hc2] at h3;rw[h3];((conv=>whnf);repeat' ((first|(with_reducible first|apply a_|apply b_|apply c_)|((with_reducible first|apply d_|apply e_|apply f_|apply g_);focus first|omega|(simp only[q_]<;>omega))|((with_reducible first|apply i_|apply h_);focus first|omega|(simp only[q_]<;>omega))|((with_reducible apply h_);focus first|decide|kernel_rfl)|refine s_ (by decide) ?_|refine t_ (by decide) ?_|(refine Idx.at' hrow rfl ?_)|with_reducible first|apply l_|apply m_|apply n_|apply o_|refine p_ (fun _=>?_) (fun _=>?_))<;>(conv=>whnf)));all_goals first|exact Ret.int rfl|(exfalso;omega)|skip
   ·rw[if_neg hc2] at h3;((conv=>whnf);repeat' ((first|(with_reducible first|apply a_|apply b_|apply c_)|((with_reducible first|apply d_|apply e_|apply f_|apply g_);focus first|omega|(simp only[q_]<;>omega))|((with_reducible first|apply i_|apply h_);focus first|omega|(simp only[q_]<;>omega))|((with_reducible apply h_);focus first|decide|kernel_rfl)|refine s_ (by decide) ?_|refine t_ (by decide) ?_|(refine Idx.at' hrow rfl ?_)|with_reducible first|apply l_|apply m_|apply n_|apply o_|refine p_ (fun _=>?_) (fun _=>?_))<;>(conv=>whnf)));refine LoopC.mk Nat (fun j=>[(0,pInt .i64 c),(6,.d (.c (.sl 1 (u.map intC)))),(7,pInt .i64 (u.take j).sum),(10,.d (.c (.sl 1 (upI Us)))),(11,pInt .i64 Us.length),(12,pInt .i64 (k:Int)),(18,.d (.c (.sl 1 (u.map intC)))),(19,pInt .i64 u.length),(20,pInt .i64 (j:Int))]) (fun _=>[]) []
     (fun j=>j<=u.length/\∀n∈u.take j,2<=n/\n<=4) (fun j=>u.length - j) 0 ⟨zero_le _,fun n hn=>(by cases hn)⟩ ?start2 ?round2
    case start2=>exact⟨[],rfl,rfl,⟨.inl rfl,.inl rfl,.inl rfl,.inl rfl,.inl rfl,.inl rfl,.inl rfl,PLe.int (by rw[hum]),.inl rfl,trivial⟩,trivial⟩
    case round2=>
     rintro j ⟨g1,g2⟩;have g1:j<=u.length:=g1;have g2:∀n∈u.take j,2<=n/\n<=4:=g2;have hsb:=sum_bound g2;rw[length_take] at hsb;by_cases hj:j<u.length
     ·have pf:=p_fitsI u[j];by_cases hf:2<=u[j]/\u[j]<=4
      ·rw[decide_eq_true hf] at pf;have hs1:(u.take (j+1)).sum=(u.take j).sum+u[j]:=by rw[List.take_succ_eq_append_getElem hj,sum_append,sum_singleton]
       ((conv=>whnf);repeat' ((first|(with_reducible first|apply a_|apply b_|apply c_)|((with_reducible first|apply d_|apply e_|apply f_|apply g_);focus first|omega|(simp only[q_]<;>omega))|((with_reducible first|apply i_|apply h_);focus first|omega|(simp only[q_]<;>omega))|((with_reducible apply h_);focus first|decide|kernel_rfl)|refine s_ (by decide) ?_|refine t_ (by decide) ?_|(refine Idx.mapI (f:=intC) j rfl hj ?_)|refine r_ pf rfl ?_|with_reducible first|apply l_|apply m_|apply n_|apply o_|refine p_ (fun _=>?_) (fun _=>?_))<;>(conv=>whnf)));all_goals first|(exfalso;omega)|skip
       refine⟨j+1,⟨hj,fun n hn=>?_⟩,by show u.length - (j+1)<u.length - j;omega,[],rfl,rfl,⟨.inl rfl,.inl rfl,PLe.int (by rw[hs1]),.inl rfl,.inl rfl,.inl rfl,.inl rfl,.inl rfl,PLe.int (by push_cast;rfl),trivial⟩,trivial⟩;rw[List.take_succ_eq_append_getElem hj] at hn;rcases mem_append.1 hn with hn | hn
       ·exact g2 n hn
       ·rw[mem_singleton] at hn;subst hn;exact hf
      ·rw[decide_eq_false hf] at pf;rw[if_neg fun h=>hf (h.1 _ (List.getElem_mem hj))] at h3;rw[h3];((conv=>whnf);repeat' ((first|(with_reducible first|apply a_|apply b_|apply c_)|((with_reducible first|apply d_|apply e_|apply f_|apply g_);focus first|omega|(simp only[q_]<;>omega))|((with_reducible first|apply i_|apply h_);focus first|omega|(simp only[q_]<;>omega))|((with_reducible apply h_);focus first|decide|kernel_rfl)|refine s_ (by decide) ?_|refine t_ (by decide) ?_|(refine Idx.mapI (f:=intC) j rfl hj ?_)|refine r_ pf rfl ?_|with_reducible first|apply l_|apply m_|apply n_|apply o_|refine p_ (fun _=>?_) (fun _=>?_))<;>(conv=>whnf)));all_goals first|exact Ret.int rfl|(exfalso;omega)|skip
     ·have e:u.take j=u:=take_of_length_le (by omega);rw[e] at g2 hsb ⊢;by_cases hs:u.sum=c
      ·rw[if_pos ⟨g2,hs⟩] at h3;((conv=>whnf);repeat' ((first|(with_reducible first|apply a_|apply b_|apply c_)|((with_reducible first|apply d_|apply e_|apply f_|apply g_);focus first|omega|(simp only[q_]<;>omega))|((with_reducible first|apply i_|apply h_);focus first|omega|(simp only[q_]<;>omega))|((with_reducible apply h_);focus first|decide|kernel_rfl)|refine s_ (by decide) ?_|refine t_ (by decide) ?_|with_reducible first|apply l_|apply m_|apply n_|apply o_|refine p_ (fun _=>?_) (fun _=>?_))<;>(conv=>whnf)));all_goals first|(exfalso;omega)|skip
       exact⟨(k+1,u.length),⟨hkU,hul,h3⟩,by show Us.length - (k+1)<Us.length - k;omega,[],rfl,rfl,⟨PLe.int (by rw[hum]),.inl rfl,.inl rfl,PLe.int (by push_cast;rfl),trivial⟩,trivial⟩
      ·rw[if_neg fun h=>hs h.2] at h3;rw[h3];((conv=>whnf);repeat' ((first|(with_reducible first|apply a_|apply b_|apply c_)|((with_reducible first|apply d_|apply e_|apply f_|apply g_);focus first|omega|(simp only[q_]<;>omega))|((with_reducible first|apply i_|apply h_);focus first|omega|(simp only[q_]<;>omega))|((with_reducible apply h_);focus first|decide|kernel_rfl)|refine s_ (by decide) ?_|refine t_ (by decide) ?_|with_reducible first|apply l_|apply m_|apply n_|apply o_|refine p_ (fun _=>?_) (fun _=>?_))<;>(conv=>whnf)));all_goals first|exact Ret.int rfl|(exfalso;omega)|skip
  ·have hke:k=Us.length:=by omega
   rw[hke,drop_length,upChk] at h3;rw[h3];by_cases hc:1<c
   ·rw[if_pos hc];((conv=>whnf);repeat' ((first|(with_reducible first|apply a_|apply b_|apply c_)|((with_reducible first|apply d_|apply e_|apply f_|apply g_);focus first|omega|(simp only[q_]<;>omega))|((with_reducible first|apply i_|apply h_);focus first|omega|(simp only[q_]<;>omega))|((with_reducible apply h_);focus first|decide|kernel_rfl)|refine s_ (by decide) ?_|refine t_ (by decide) ?_|with_reducible first|apply l_|apply m_|apply n_|apply o_|refine p_ (fun _=>?_) (fun _=>?_))<;>(conv=>whnf)));all_goals first|exact Ret.int rfl|(exfalso;omega)|skip
   ·rw[if_neg hc];((conv=>whnf);repeat' ((first|(with_reducible first|apply a_|apply b_|apply c_)|((with_reducible first|apply d_|apply e_|apply f_|apply g_);focus first|omega|(simp only[q_]<;>omega))|((with_reducible first|apply i_|apply h_);focus first|omega|(simp only[q_]<;>omega))|((with_reducible apply h_);focus first|decide|kernel_rfl)|refine s_ (by decide) ?_|refine t_ (by decide) ?_|with_reducible first|apply l_|apply m_|apply n_|apply o_|refine p_ (fun _=>?_) (fun _=>?_))<;>(conv=>whnf)));all_goals first|exact Ret.int rfl|(exfalso;omega)|skip
structure DataOk (t:TreeD):Prop where
 keys:∀l∈t.Leaves,∀p∈l,p.ok
 leaves:∀l∈t.Leaves,l.length<=140737488351232
 ups:∀u∈t.Up,u.length<=17592186044416
abbrev trD (t:TreeD):PV:=trV t.Leaves t.Up
abbrev chkD (t:TreeD):Int:=chkT t.Leaves t.Up
theorem p_treecheck (t:TreeD) (h:DataOk t):Pure Try.prog 29 [trD t] (pInt .i64 (chkD t)):=by
 obtain⟨h1,h2,h3⟩:=h;have hLl:(lvC t.Leaves).length=t.Leaves.length:=length_map _;have hUl:(upI t.Up).length=t.Up.length:=length_map _;refine pure_of Try.func29 (by rfl) rfl (by kernel_rfl) (by rfl) ?_;unfold chkD chkT;by_cases hm:64<t.Leaves.length\/8<t.Up.length
 ·rw[if_pos hm];((conv=>whnf);repeat' ((first|(with_reducible first|apply a_|apply b_|apply c_)|((with_reducible first|apply d_|apply e_|apply f_|apply g_);focus first|omega|(simp only[q_]<;>omega))|((with_reducible first|apply i_|apply h_);focus first|omega|(simp only[q_]<;>omega))|((with_reducible apply h_);focus first|decide|kernel_rfl)|refine s_ (by decide) ?_|refine t_ (by decide) ?_|with_reducible first|apply l_|apply m_|apply n_|apply o_|refine p_ (fun _=>?_) (fun _=>?_))<;>(conv=>whnf)));all_goals first|exact Ret.int rfl|(exfalso;omega)|skip
 ·rw[if_neg hm];have p1:=p_chkleaves t.Leaves (by omega) h1 h2;have p2:=p_chkup t.Leaves.length t.Up (by omega) h3 (by omega);rw[<- hLl] at p2;by_cases c1:lvChk t.Leaves.length t.Leaves []≠0
  ·rw[if_pos c1];rw[if_neg c1] at p1;((conv=>whnf);repeat' ((first|(with_reducible first|apply a_|apply b_|apply c_)|((with_reducible first|apply d_|apply e_|apply f_|apply g_);focus first|omega|(simp only[q_]<;>omega))|((with_reducible first|apply i_|apply h_);focus first|omega|(simp only[q_]<;>omega))|((with_reducible apply h_);focus first|decide|kernel_rfl)|refine s_ (by decide) ?_|refine t_ (by decide) ?_|refine r_ p1 rfl ?_|with_reducible first|apply l_|apply m_|apply n_|apply o_|refine p_ (fun _=>?_) (fun _=>?_))<;>(conv=>whnf)));all_goals first|exact Ret.int rfl|(exfalso;omega)|skip
  ·rw[if_neg c1];have c1:lvChk t.Leaves.length t.Leaves []=0:=Decidable.of_not_not c1;rw[if_pos c1,c1] at p1;rw[hLl] at p2;by_cases c2:upChk t.Leaves.length t.Up≠0
   ·rw[if_pos c2];have c3:upChk t.Leaves.length t.Up=1:=by
     have:∀(us:List (List Int)) (b:Nat),upChk b us=0\/upChk b us=1:=fun us=>by
      induction us with
      | nil=>
       intro b;rw[upChk];split
       ·exact .inr rfl
       ·exact .inl rfl
      | cons u us ih=>
       intro b;rw[upChk];split
       ·exact .inr rfl
       ·split
        ·exact ih _
        ·exact .inr rfl
     exact (this t.Up _).resolve_left c2
    rw[c3] at p2;rw[<- hLl] at p2;((conv=>whnf);repeat' ((first|(with_reducible first|apply a_|apply b_|apply c_)|((with_reducible first|apply d_|apply e_|apply f_|apply g_);focus first|omega|(simp only[q_]<;>omega))|((with_reducible first|apply i_|apply h_);focus first|omega|(simp only[q_]<;>omega))|((with_reducible apply h_);focus first|decide|kernel_rfl)|refine s_ (by decide) ?_|refine t_ (by decide) ?_|refine r_ p1 rfl ?_|refine r_ p2 rfl ?_|with_reducible first|apply l_|apply m_|apply n_|apply o_|refine p_ (fun _=>?_) (fun _=>?_))<;>(conv=>whnf)));all_goals first|exact Ret.int rfl|(exfalso;omega)|skip
   ·rw[if_neg c2];rw[Decidable.of_not_not c2] at p2;rw[<- hLl] at p2;by_cases c4:64<t.Leaves.flatten.length
    ·rw[if_pos c4];((conv=>whnf);repeat' ((first|(with_reducible first|apply a_|apply b_|apply c_)|((with_reducible first|apply d_|apply e_|apply f_|apply g_);focus first|omega|(simp only[q_]<;>omega))|((with_reducible first|apply i_|apply h_);focus first|omega|(simp only[q_]<;>omega))|((with_reducible apply h_);focus first|decide|kernel_rfl)|refine s_ (by decide) ?_|refine t_ (by decide) ?_|refine r_ p1 rfl ?_|refine r_ p2 rfl ?_|with_reducible first|apply l_|apply m_|apply n_|apply o_|refine p_ (fun _=>?_) (fun _=>?_))<;>(conv=>whnf)));all_goals first|exact Ret.int rfl|(exfalso;omega)|skip
    ·rw[if_neg c4];((conv=>whnf);repeat' ((first|(with_reducible first|apply a_|apply b_|apply c_)|((with_reducible first|apply d_|apply e_|apply f_|apply g_);focus first|omega|(simp only[q_]<;>omega))|((with_reducible first|apply i_|apply h_);focus first|omega|(simp only[q_]<;>omega))|((with_reducible apply h_);focus first|decide|kernel_rfl)|refine s_ (by decide) ?_|refine t_ (by decide) ?_|refine r_ p1 rfl ?_|refine r_ p2 rfl ?_|with_reducible first|apply l_|apply m_|apply n_|apply o_|refine p_ (fun _=>?_) (fun _=>?_))<;>(conv=>whnf)));all_goals first|exact Ret.int rfl|(exfalso;omega)|skip
end
section
open Go.RowKit K
open Tr
namespace Tr
def sideF (u:List Nat) (at_:Nat):Nat:=if at_+1=(u.take (nodeF u at_+1)).sum then at_ - 1 else at_+1
def mendU:List Nat->List (List Nat)->Nat->List (List Nat)
 | cur,[],at_=>if cur.getD at_ 0=1 then [] else [cur]
 | cur,u::us,at_=>if 2<=cur.getD at_ 0 then cur::u::us
  else if 2<cur.getD (sideF u at_) 0 then ((cur.set (sideF u at_) (cur.getD (sideF u at_) 0 - 1)).set at_ (cur.getD at_ 0+1))::u::us
  else ((cur.set (min at_ (sideF u at_)) (cur.getD (min at_ (sideF u at_)) 0+cur.getD (min at_ (sideF u at_)+1) 0)).eraseIdx (min at_ (sideF u at_)+1))::mendU (u.set (nodeF u at_) (u.getD (nodeF u at_) 0 - 1)) us (nodeF u at_)
abbrev LU:=List (List PairD)×List (List Nat)
def handL (L:List (List PairD)) (at_ side:Nat):List (List PairD):=
 if at_<side then (L.set at_ (L.getD at_ []++(L.getD side []).take 1)).set side ((L.getD side []).drop 1)
 else (L.set at_ ((L.getD side []).drop ((L.getD side []).length - 1)++L.getD at_ [])).set side ((L.getD side []).take ((L.getD side []).length - 1))
def joinL (L:List (List PairD)) (m:Nat):List (List PairD):=(L.set m (L.getD m []++L.getD (m+1) [])).eraseIdx (m+1)
def mendL (L:List (List PairD)):List (List Nat)->Nat->LU
 | [],_=>(L,[])
 | u::us,at_=>if 2<=(L.getD at_ []).length then (L,u::us)
  else if 2<(L.getD (sideF u at_) []).length then (handL L at_ (sideF u at_),u::us)
  else (joinL L (min at_ (sideF u at_)),mendU (u.set (nodeF u at_) (u.getD (nodeF u at_) 0 - 1)) us (nodeF u at_))
section
variable {α:Type} {P Q:List α} {x s:α}
theorem two_at (d:α):(P++[x,s]++Q).getD P.length d=x/\(P++[x,s]++Q).getD (P.length+1) d=s:=by
 refine⟨?_,?_⟩
 ·rw[List.getD_eq_getElem?_getD,append_assoc,List.getElem?_append_right (Nat.le_refl _),sub_self];rfl
 ·rw[List.getD_eq_getElem?_getD,append_assoc,List.getElem?_append_right (by omega),show P.length+1 - P.length=1 by omega];rfl
theorem two_set1 (y:α):(P++[x,s]++Q).set P.length y=P++[y,s]++Q:=by
 rw[append_assoc,set_append_right _ _ (Nat.le_refl _),sub_self,append_assoc];rfl
theorem two_set2 (y:α):(P++[x,s]++Q).set (P.length+1) y=P++[x,y]++Q:=by
 rw[append_assoc,set_append_right _ _ (by omega),show P.length+1 - P.length=1 by omega,append_assoc];rfl
theorem two_del:(P++[x,s]++Q).eraseIdx (P.length+1)=P++[x]++Q:=by
 rw[append_assoc,List.eraseIdx_append_of_length_le (by omega),show P.length+1 - P.length=1 by omega,append_assoc];rfl
end
end Tr
end
section
open Go.RowKit K
open Tr
namespace Tr
def delF (L:List (List PairD)) (U:List (List Nat)) (a:Nat) (key:List UInt8):LU:=
 if delP (L.getD a []) key=[] then ([],[]) else mendL (L.set a (delP (L.getD a []) key)) U a
def good:Nat->Nest->Prop
 | 0,.leaf ps=>2<=ps.length/\ps.length<=4
 | h+1,.node ks=>2<=ks.length/\ks.length<=4/\∀k∈ks,good h k
 | _,_=>False
def near:Nat->Nest->Prop
 | 0,.leaf ps=>1<=ps.length/\ps.length<=4
 | h+1,.node ks=>1<=ks.length/\ks.length<=4/\∀k∈ks,good h k
 | _,_=>False
end Tr
end
section
open Go.RowKit K
open Tr
namespace Tr
theorem nodeF_spec:∀(u:List Nat) (a:Nat),a<u.sum->nodeF u a<u.length/\(u.take (nodeF u a)).sum<=a/\a<(u.take (nodeF u a+1)).sum
 | [],a,h=>absurd h (not_lt_zero a)
 | x::u,a,h=>by
  rw[sum_cons] at h;rw[nodeF];by_cases hx:a<x
  ·rw[if_pos hx];exact⟨zero_lt_succ _,zero_le _,by simpa using hx⟩
  ·rw[if_neg hx];obtain⟨h1,h2,h3⟩:=nodeF_spec u (a - x) (by omega);refine⟨by rw[length_cons];omega,?_,?_⟩
   ·rw[take_succ_cons,sum_cons];omega
   ·rw[take_succ_cons,sum_cons];omega
end Tr
end
section
open Go.RowKit K
open Tr
theorem s_leafRo (L:List (List PairD)) (U:List (List Nat)) (hv:OkT L U) (ht:lenAt L U U.length=1) (key:List UInt8) (hL:∀l∈L,∀p∈l,p.ok) :
  CallS Try.prog 14 [.d (.ptr FK 0),pStr (tx key)] [(FK,.box 43 [.c (.sl 1 (lvC L)),.c (.sl 1 (upC U))])] [] (pInt .i64 (leafF L U key U.length 0)) []:=
 lend (p_leaf L U hv ht key hL) (plainR_int _ _) ⟨.inr ⟨FK,_,_,_,rfl,rfl,rfl,rfl⟩,.inl rfl,trivial⟩
def findE (t:TreeD) (key:List UInt8):Int:=if chkD t≠0 then chkD t else if 40<key.length then 2 else 0
def findI (t:TreeD) (key:List UInt8):Int:=if findE t key≠0 then 0 else (lookP t.Leaves.flatten key).getD 0
def findB (t:TreeD) (key:List UInt8):Bool:=decide (findE t key=0)&&(lookP t.Leaves.flatten key).isSome
abbrev findV (t:TreeD) (key:List UInt8):PV:=.tup [pInt .i64 (findI t key),pBool (findB t key),pInt .i64 (findE t key)]
theorem p_Find (t:TreeD) (h:DataOk t) (key:List UInt8) (hkl:key.length<=140737488351232):Pure Try.prog 11 [trD t,pStr (tx key)] (findV t key):=by
 rcases t with ⟨L,Us⟩;have pc:Pure Try.prog 29 [.agg [.c (.sl 1 (lvC L)),.c (.sl 1 (upI Us))]] (pInt .i64 (chkT L Us)):=p_treecheck ⟨L,Us⟩ h;have hkeys:∀l∈L,∀p∈l,p.ok:=h.keys;have hLl:(lvC L).length=L.length:=length_map _;have hks:(tx key).size=key.length:=rfl;show Pure _ _ [.agg [.c (.sl 1 (lvC L)),.c (.sl 1 (upI Us))],pStr (tx key)] (.tup [pInt .i64 (findI ⟨L,Us⟩ key),pBool (findB ⟨L,Us⟩ key),pInt .i64 (findE ⟨L,Us⟩ key)]);refine pure_of Try.func11 (by rfl) rfl (by kernel_rfl) (by rfl) ?_;have hd:chkD ⟨L,Us⟩=chkT L Us:=rfl;by_cases c1:chkT L Us≠0
 ·have e1:findE ⟨L,Us⟩ key=chkT L Us:=if_pos c1;have e2:findI ⟨L,Us⟩ key=0:=by unfold findI;rw[if_pos (by rw[e1];exact c1)]
  have e3:findB ⟨L,Us⟩ key=false:=by unfold findB;rw[e1,decide_eq_false c1];rfl
  rw[e1,e2,e3];((conv=>whnf);repeat' ((first|(with_reducible first|apply a_|apply b_|apply c_)|((with_reducible first|apply d_|apply e_|apply f_|apply g_);focus first|omega|(simp only[q_]<;>omega))|((with_reducible first|apply i_|apply h_);focus first|omega|(simp only[q_]<;>omega))|((with_reducible apply h_);focus first|decide|kernel_rfl)|refine s_ (by decide) ?_|refine t_ (by decide) ?_|refine r_ pc rfl ?_|with_reducible first|apply l_|apply m_|apply n_|apply o_|refine p_ (fun _=>?_) (fun _=>?_))<;>(conv=>whnf)));all_goals first|exact Ret.mk rfl|(exfalso;omega)|skip
 ·have c1:chkT L Us=0:=Decidable.of_not_not c1;rw[c1] at pc;by_cases c2:40<key.length
  ·have e1:findE ⟨L,Us⟩ key=2:=by unfold findE;rw[if_neg (not_not_intro c1),if_pos c2]
   have e2:findI ⟨L,Us⟩ key=0:=by unfold findI;rw[if_pos (by rw[e1];decide)]
   have e3:findB ⟨L,Us⟩ key=false:=by unfold findB;rw[e1];rfl
   rw[e1,e2,e3];((conv=>whnf);repeat' ((first|(with_reducible first|apply a_|apply b_|apply c_)|((with_reducible first|apply d_|apply e_|apply f_|apply g_);focus first|omega|(simp only[q_]<;>omega))|((with_reducible first|apply i_|apply h_);focus first|omega|(simp only[q_]<;>omega))|((with_reducible apply h_);focus first|decide|kernel_rfl)|refine s_ (by decide) ?_|refine t_ (by decide) ?_|refine r_ pc rfl ?_|with_reducible first|apply l_|apply m_|apply n_|apply o_|refine p_ (fun _=>?_) (fun _=>?_))<;>(conv=>whnf)));all_goals first|exact Ret.mk rfl|(exfalso;omega)|skip
  ·have e1:findE ⟨L,Us⟩ key=0:=by unfold findE;rw[if_neg (not_not_intro c1),if_neg c2]
   have e2:findI ⟨L,Us⟩ key=(lookP L.flatten key).getD 0:=by unfold findI;rw[if_neg (not_not_intro e1)]
   have e3:findB ⟨L,Us⟩ key=(lookP L.flatten key).isSome:=by unfold findB;rw[e1];rfl
   rw[e1,e2,e3];by_cases hL:L=[]
   ·subst hL;have hl0:lookP ([]:List (List PairD)).flatten key=none:=rfl;rw[hl0];((conv=>whnf);repeat' ((first|(with_reducible first|apply a_|apply b_|apply c_)|((with_reducible first|apply d_|apply e_|apply f_|apply g_);focus first|omega|(simp only[q_]<;>omega))|((with_reducible first|apply i_|apply h_);focus first|omega|(simp only[q_]<;>omega))|((with_reducible apply h_);focus first|decide|kernel_rfl)|refine s_ (by decide) ?_|refine t_ (by decide) ?_|refine r_ pc rfl ?_|with_reducible first|apply l_|apply m_|apply n_|apply o_|refine p_ (fun _=>?_) (fun _=>?_))<;>(conv=>whnf)));all_goals first|exact Ret.mk rfl|(exfalso;simp only[length_nil] at hLl;omega)|skip
   ·obtain⟨U,hU,hok⟩:=chk_ok c1;have hLpos:0<L.length:=length_pos_iff.2 hL;have hat:=hok.at_ hL key;rw[look_flat hat hok.ne hok.asc];have sl:=s_leafRo L U hok.okT (hok.top hL).1 key hkeys;obtain⟨a,ha⟩:∃a,a=leafF L U key U.length 0:=⟨_,rfl⟩;rw[<- ha] at sl hat ⊢;have hal:=hat.lt;have hg:L.getD a []=L[a]:=by rw[List.getD_eq_getElem?_getD,List.getElem?_eq_getElem hal];rfl
    obtain⟨l,hle⟩:∃l,l=L[a]:=⟨_,rfl⟩;have hmem:l∈L:=by rw[hle];exact List.getElem_mem hal
    rw[hg,<- hle];have hasc:Asc l:=(pairwise_flatten.1 hok.asc).1 l hmem;have hl4:=(hok.sizes l hmem).2.2;have hrow:(lvC L)[a]? = some [.sl 2 (l.map PairD.c)]:=by
     unfold lvC;rw[List.getElem?_map,List.getElem?_eq_getElem hal,hle];rfl
    have ps:=p_seek l hasc (by omega) key;obtain⟨hp1,hp2⟩:=hit_pos (key:=key) hasc;rw[hU,upI_int] at pc ⊢;by_cases hh:hitF l key=true
    ·obtain⟨q,hq1,hq2⟩:=hp1.1 hh;obtain⟨hpl,hpq,_⟩:=hp2 q hq1 hq2;have hlk:lookP l key=some q.Id:=by rw[<- hq2];exact look_mem hasc hq1
     rw[hlk];rw[hh] at ps;have hqi:(l[posF l key]).Id=q.Id:=by rw[hpq]
     ((conv=>whnf);repeat' ((first|(with_reducible first|apply a_|apply b_|apply c_)|((with_reducible first|apply d_|apply e_|apply f_|apply g_);focus first|omega|(simp only[q_]<;>omega))|((with_reducible first|apply i_|apply h_);focus first|omega|(simp only[q_]<;>omega))|((with_reducible apply h_);focus first|decide|kernel_rfl)|refine s_ (by decide) ?_|refine t_ (by decide) ?_|refine r_ pc rfl ?_|(refine CallP.ret [(FK,33)] _ _ _ _ _ _ _ sl rfl rfl rfl rfl ⟨rfl,trivial⟩ ?_)|refine r_ ps rfl ?_|(refine Idx.at' hrow rfl ?_)|(refine Idx.mapI (f:=PairD.c) (posF l key) rfl hpl ?_)|with_reducible first|apply l_|apply m_|apply n_|apply o_|refine p_ (fun _=>?_) (fun _=>?_))<;>(conv=>whnf)));all_goals first|exact Ret.mk (by show _=PV.tup [pInt .i64 q.Id,pBool true,pInt .i64 0];rw[<- hqi])|(exfalso;omega)|skip
    ·have hh:hitF l key=false:=Bool.eq_false_iff.2 hh;have hlk:lookP l key=none:=look_none.2 fun q hq e=>by
      rw[hp1.2 ⟨q,hq,e⟩] at hh;cases hh
     rw[hlk];rw[hh] at ps;((conv=>whnf);repeat' ((first|(with_reducible first|apply a_|apply b_|apply c_)|((with_reducible first|apply d_|apply e_|apply f_|apply g_);focus first|omega|(simp only[q_]<;>omega))|((with_reducible first|apply i_|apply h_);focus first|omega|(simp only[q_]<;>omega))|((with_reducible apply h_);focus first|decide|kernel_rfl)|refine s_ (by decide) ?_|refine t_ (by decide) ?_|refine r_ pc rfl ?_|(refine CallP.ret [(FK,33)] _ _ _ _ _ _ _ sl rfl rfl rfl rfl ⟨rfl,trivial⟩ ?_)|refine r_ ps rfl ?_|(refine Idx.at' hrow rfl ?_)|with_reducible first|apply l_|apply m_|apply n_|apply o_|refine p_ (fun _=>?_) (fun _=>?_))<;>(conv=>whnf)));all_goals first|exact Ret.mk rfl|(exfalso;omega)|skip
end
section
open Go.RowKit K
open Tr
theorem del_rows {α:Type} (rows:List α) {i:Nat} (hi:i<rows.length):(rows.take i++(rows.drop (i+1)).take (rows.length - (i+1))++rows.drop (i+((rows.drop (i+1)).take (rows.length - (i+1))).length)).take (i+(rows.length - (i+1)))=rows.take i++rows.drop (i+1):=by
 have e:(rows.drop (i+1)).take (rows.length - (i+1))=rows.drop (i+1):=take_of_length_le (by rw[length_drop];omega);rw[e,take_append_of_le_length (by rw[length_append,length_take,length_drop];omega),take_of_length_le (by rw[length_append,length_take,length_drop];omega)]
theorem hon_sub {p:Nat->Prop} {e sz:Nat} {rows rows':List (List D)} (h:hon p (.darr e sz rows)) (hs:∀r∈rows',r∈rows):hon p (.darr e sz rows'):=fun r hr=>h r (hs r hr)
theorem hon_put {p:Nat->Prop} {e sz i j:Nat} {rows v:List (List D)} (h:hon p (.darr e sz rows)) (hv:hon p (.darr e sz v)):hon p (.darr e sz (rows.take i++v++rows.drop j)):=fun r hr=>by
 rcases mem_append.1 hr with hr | hr
 ·rcases mem_append.1 hr with hr | hr
  ·exact h r (mem_of_mem_take hr)
  ·exact hv r hr
 ·exact h r (mem_of_mem_drop hr)
theorem hon_cs (p:Nat->Prop) (e sz:Nat) (l:List (List C)):hon p (.darr e sz (l.map (List.map D.c))):=fun r hr x hx=>by
 obtain⟨r0,_,rfl⟩:=mem_map.1 hr;obtain⟨x0,_,rfl⟩:=mem_map.1 hx;trivial
theorem del_sub {α:Type} {rows:List α} {i:Nat}:∀r∈rows.take i++rows.drop (i+1),r∈rows:=fun r hr=>by
 rcases mem_append.1 hr with hr | hr
 ·exact mem_of_mem_take hr
 ·exact mem_of_mem_drop hr
theorem rep1 (rows v:List (List D)) {i j:Nat} (hj:rows.length<=j) (hv:j<=i+v.length):putRows rows i v=rows.take i++v++rows.drop j:=by
 unfold putRows;rw[drop_of_length_le (show rows.length<=i+v.length by omega),drop_of_length_le hj]
theorem rep1' (rows v:List (List D)) {i j:Nat} (hj:rows.length<=j):rows.take i++v=rows.take i++v++rows.drop j:=by
 rw[drop_of_length_le hj,List.append_nil]
theorem rep2 (rows v:List (List D)) {i j:Nat} (hi:i<=rows.length) (hj:j<=rows.length):putRows (putRows (rows.take i) i v) (i+v.length) ((rows.drop j).take (rows.length - j))=rows.take i++v++rows.drop j:=by
 have e:(rows.drop j).take (rows.length - j)=rows.drop j:=take_of_length_le (by rw[length_drop];omega);have e1:putRows (rows.take i) i v=rows.take i++v:=by
  unfold putRows;rw[take_take,Nat.min_self,drop_of_length_le (l:=rows.take i) (by rw[length_take];omega),List.append_nil]
 have hl:(rows.take i++v).length=i+v.length:=by rw[length_append,length_take];omega
 rw[e,e1];unfold putRows;rw[take_of_length_le (by omega),drop_of_length_le (l:=rows.take i++v) (by omega),List.append_nil]
theorem rep3 (rows v:List (List D)) {i j:Nat} (hi:i+v.length<=rows.length) (hj:j<=rows.length) (hv:j<=i+v.length):putRows (putRows rows (i+v.length) ((rows.drop j).take (rows.length - j))) i v=rows.take i++v++rows.drop j:=by
 have e:(rows.drop j).take (rows.length - j)=rows.drop j:=take_of_length_le (by rw[length_drop];omega);have e1:putRows rows (i+v.length) (rows.drop j)=rows.take (i+v.length)++rows.drop j:=by
  unfold putRows;rw[drop_of_length_le (l:=rows) (i:=i+v.length+(rows.drop j).length) (by rw[length_drop];omega),List.append_nil]
 have hl:(rows.take (i+v.length)).length=i+v.length:=by rw[length_take];omega
 rw[e,e1];unfold putRows;rw[take_append_of_le_length (by omega),take_take,min_eq_left (by omega),List.drop_append_of_le_length (by omega),drop_of_length_le (by omega),nil_append]
theorem s_del_int (rows:List (List D)) (i:Nat) (hi:i<rows.length) (hm:rows.length<=1000) (hrw:hon (·∈nT) (.darr 3 1 rows)) (R:Rf) (hR:Fam R) :
  CallS Try.prog 72 [.d (.arr FK 3 1 0 rows.length),pInt .i64 i,pInt .i64 ((i+1:Nat):Int)] R [(FK,.darr 3 1 rows)] (.d (.arr NK 3 1 0 (rows.length - 1))) [(NK,.darr 3 1 (rows.take i++rows.drop (i+1)))]:=by
 refine CallS.full (by omega) fun c hc=>?_;refine callS_in Try.func72 (by rfl) rfl (by kernel_rfl) (by rfl) ([FK]++nT) (fun k hk=>?_) ?_
 ·rw[map_append] at hk;rcases mem_append.1 hk with hk | hk
  ·exact mem_append_right _ (hR.key k hk)
  ·exact mem_append_left _ hk
 rw[hR.swap rfl];((conv=>whnf);repeat' ((first|(with_reducible first|apply a_|apply b_|apply c_)|((with_reducible first|apply d_|apply e_|apply f_|apply g_);focus first|omega|(simp only[q_]<;>omega))|((with_reducible first|apply i_|apply h_);focus first|omega|(simp only[q_]<;>omega))|((with_reducible apply h_);focus first|decide|kernel_rfl)|refine s_ (by decide) ?_|refine t_ (by decide) ?_|with_reducible first|apply l_|apply m_|apply n_|apply o_|refine p_ (fun _=>?_) (fun _=>?_))<;>(conv=>whnf)));refine Need.by3 8 rfl (by dsimp only;omega) ?_;((conv=>whnf);repeat' ((first|(with_reducible first|apply a_|apply b_|apply c_)|((with_reducible first|apply d_|apply e_|apply f_|apply g_);focus first|omega|(simp only[q_]<;>omega))|((with_reducible first|apply i_|apply h_);focus first|omega|(simp only[q_]<;>omega))|((with_reducible apply h_);focus first|decide|kernel_rfl)|refine s_ (by decide) ?_|refine t_ (by decide) ?_|(refine CapC.mk (fun room=>?_) (fun grow=>absurd grow (by dsimp only;omega)))|with_reducible first|apply l_|apply m_|apply n_|apply o_|refine p_ (fun _=>?_) (fun _=>?_))<;>(conv=>whnf)));refine ret_fam hR [FK] [(NK,FK)] rfl (fun q hq=>?_) ⟨⟨_,rfl,?_⟩,trivial⟩ ?_
 ·have hk:=(hR.keys q hq).1;repeat (first|exact hR.past (a:=[(FK,_)]) rfl hq|refine app_fam rfl hk ?_)
 ·refine hle_rows rfl ?_ (hon_sub hrw del_sub);simp only[toNat_natCast,toNat_zero,zero_add,sub_zero,drop_zero,take_zero];exact del_rows rows hi
 ·exact⟨rfl,rfl,rfl,rfl,rfl,by simp only[toNat_natCast,toNat_zero,zero_add,sub_zero,drop_zero,take_zero];omega⟩
theorem s_del_pair (rows:List (List D)) (i:Nat) (hi:i<rows.length) (hm:rows.length<=1000) (hrw:hon (·∈nT) (.darr 41 2 rows)) (R:Rf) (hR:Fam R) :
  CallS Try.prog 30 [.d (.arr FK 41 2 0 rows.length),pInt .i64 i,pInt .i64 ((i+1:Nat):Int)] R [(FK,.darr 41 2 rows)] (.d (.arr NK 41 2 0 (rows.length - 1))) [(NK,.darr 41 2 (rows.take i++rows.drop (i+1)))]:=by
 refine CallS.full (by omega) fun c hc=>?_;refine callS_in Try.func30 (by rfl) rfl (by kernel_rfl) (by rfl) ([FK]++nT) (fun k hk=>?_) ?_
 ·rw[map_append] at hk;rcases mem_append.1 hk with hk | hk
  ·exact mem_append_right _ (hR.key k hk)
  ·exact mem_append_left _ hk
 rw[hR.swap rfl];((conv=>whnf);repeat' ((first|(with_reducible first|apply a_|apply b_|apply c_)|((with_reducible first|apply d_|apply e_|apply f_|apply g_);focus first|omega|(simp only[q_]<;>omega))|((with_reducible first|apply i_|apply h_);focus first|omega|(simp only[q_]<;>omega))|((with_reducible apply h_);focus first|decide|kernel_rfl)|refine s_ (by decide) ?_|refine t_ (by decide) ?_|with_reducible first|apply l_|apply m_|apply n_|apply o_|refine p_ (fun _=>?_) (fun _=>?_))<;>(conv=>whnf)));refine Need.by3 24 rfl (by dsimp only;omega) ?_;((conv=>whnf);repeat' ((first|(with_reducible first|apply a_|apply b_|apply c_)|((with_reducible first|apply d_|apply e_|apply f_|apply g_);focus first|omega|(simp only[q_]<;>omega))|((with_reducible first|apply i_|apply h_);focus first|omega|(simp only[q_]<;>omega))|((with_reducible apply h_);focus first|decide|kernel_rfl)|refine s_ (by decide) ?_|refine t_ (by decide) ?_|(refine CapC.mk (fun room=>?_) (fun grow=>absurd grow (by dsimp only;omega)))|with_reducible first|apply l_|apply m_|apply n_|apply o_|refine p_ (fun _=>?_) (fun _=>?_))<;>(conv=>whnf)));refine ret_fam hR [FK] [(NK,FK)] rfl (fun q hq=>?_) ⟨⟨_,rfl,?_⟩,trivial⟩ ?_
 ·have hk:=(hR.keys q hq).1;repeat (first|exact hR.past (a:=[(FK,_)]) rfl hq|refine app_fam rfl hk ?_)
 ·refine hle_rows rfl ?_ (hon_sub hrw del_sub);simp only[toNat_natCast,toNat_zero,zero_add,sub_zero,drop_zero,take_zero];exact del_rows rows hi
 ·exact⟨rfl,rfl,rfl,rfl,rfl,by simp only[toNat_natCast,toNat_zero,zero_add,sub_zero,drop_zero,take_zero];omega⟩
theorem s_del_leaf (rows:List (List D)) (i:Nat) (hi:i<rows.length) (hm:rows.length<=1000) (hrw:hon (·∈nT) (.darr 44 1 rows)) (R:Rf) (hR:Fam R) :
  CallS Try.prog 71 [.d (.arr FK 44 1 0 rows.length),pInt .i64 i,pInt .i64 ((i+1:Nat):Int)] R [(FK,.darr 44 1 rows)] (.d (.arr NK 44 1 0 (rows.length - 1))) [(NK,.darr 44 1 (rows.take i++rows.drop (i+1)))]:=by
 refine CallS.full (by omega) fun c hc=>?_;refine callS_in Try.func71 (by rfl) rfl (by kernel_rfl) (by rfl) ([FK]++nT) (fun k hk=>?_) ?_
 ·rw[map_append] at hk;rcases mem_append.1 hk with hk | hk
  ·exact mem_append_right _ (hR.key k hk)
  ·exact mem_append_left _ hk
 rw[hR.swap rfl];((conv=>whnf);repeat' ((first|(with_reducible first|apply a_|apply b_|apply c_)|((with_reducible first|apply d_|apply e_|apply f_|apply g_);focus first|omega|(simp only[q_]<;>omega))|((with_reducible first|apply i_|apply h_);focus first|omega|(simp only[q_]<;>omega))|((with_reducible apply h_);focus first|decide|kernel_rfl)|refine s_ (by decide) ?_|refine t_ (by decide) ?_|with_reducible first|apply l_|apply m_|apply n_|apply o_|refine p_ (fun _=>?_) (fun _=>?_))<;>(conv=>whnf)));refine Need.by3 24 rfl (by dsimp only;omega) ?_;((conv=>whnf);repeat' ((first|(with_reducible first|apply a_|apply b_|apply c_)|((with_reducible first|apply d_|apply e_|apply f_|apply g_);focus first|omega|(simp only[q_]<;>omega))|((with_reducible first|apply i_|apply h_);focus first|omega|(simp only[q_]<;>omega))|((with_reducible apply h_);focus first|decide|kernel_rfl)|refine s_ (by decide) ?_|refine t_ (by decide) ?_|(refine CapC.mk (fun room=>?_) (fun grow=>absurd grow (by dsimp only;omega)))|with_reducible first|apply l_|apply m_|apply n_|apply o_|refine p_ (fun _=>?_) (fun _=>?_))<;>(conv=>whnf)));refine ret_fam hR [FK] [(NK,FK)] rfl (fun q hq=>?_) ⟨⟨_,rfl,?_⟩,trivial⟩ ?_
 ·have hk:=(hR.keys q hq).1;repeat (first|exact hR.past (a:=[(FK,_)]) rfl hq|refine app_fam rfl hk ?_)
 ·refine hle_rows rfl ?_ (hon_sub hrw del_sub);simp only[toNat_natCast,toNat_zero,zero_add,sub_zero,drop_zero,take_zero];exact del_rows rows hi
 ·exact⟨rfl,rfl,rfl,rfl,rfl,by simp only[toNat_natCast,toNat_zero,zero_add,sub_zero,drop_zero,take_zero];omega⟩
theorem ov_int:ovlX Try.prog 65:=⟨_,61,4,3,_,Try.func65,by kernel_rfl,by kernel_rfl,by kernel_rfl,by kernel_rfl,by rfl,by rfl⟩
theorem ov_pair:ovlX Try.prog 42:=⟨_,44,4,41,_,Try.func42,by kernel_rfl,by kernel_rfl,by kernel_rfl,by kernel_rfl,by rfl,by rfl⟩
theorem ov_leaf:ovlX Try.prog 61:=⟨_,22,4,44,_,Try.func61,by kernel_rfl,by kernel_rfl,by kernel_rfl,by kernel_rfl,by rfl,by rfl⟩
theorem s_rep_int (rows:List (List D)) (i:Nat) (hi:i<rows.length) (hm:rows.length<=1000) (hrw:hon (·∈nT) (.darr 3 1 rows)) (a b:List D) (hv:hon (·∈nT) (.darr 3 1 [a,b])) (R:Rf) (hR:Fam R) :
  CallS Try.prog 45 [.d (.arr FK 3 1 0 rows.length),pInt .i64 i,pInt .i64 ((i+1:Nat):Int),.d (.arr FK1 3 1 0 2)] R [(FK,.darr 3 1 rows),(FK1,.darr 3 1 [a,b])] (.d (.arr NK 3 1 0 (rows.length+1)))
   [(NK,.darr 3 1 (rows.take i++[a,b]++rows.drop (i+1)))]:=by
 refine CallS.full (by omega) fun c hc=>?_;refine callS_in Try.func45 (by rfl) rfl (by kernel_rfl) (by rfl) ([FK,FK1]++nT) (fun k hk=>?_) ?_
 ·rw[map_append] at hk;rcases mem_append.1 hk with hk | hk
  ·exact mem_append_right _ (hR.key k hk)
  ·exact mem_append_left _ hk
 rw[hR.swap rfl];((conv=>whnf);repeat' ((first|(with_reducible first|apply a_|apply b_|apply c_)|((with_reducible first|apply d_|apply e_|apply f_|apply g_);focus first|omega|(simp only[q_]<;>omega))|((with_reducible first|apply i_|apply h_);focus first|omega|(simp only[q_]<;>omega))|((with_reducible apply h_);focus first|decide|kernel_rfl)|refine s_ (by decide) ?_|refine t_ (by decide) ?_|with_reducible first|apply l_|apply m_|apply n_|apply o_|refine p_ (fun _=>?_) (fun _=>?_))<;>(conv=>whnf)))
 ·refine Need.by3 8 rfl (by (try dsimp only);(try simp only[putRows,length_append,length_map,length_cons,length_nil,length_take,length_drop,toNat_natCast,toNat_zero,zero_add,sub_zero,add_zero]);omega) ?_;refine CapC.mk (fun room=>?_) (fun grow=>?_)
  ·((conv=>whnf);repeat' ((first|(with_reducible first|apply a_|apply b_|apply c_)|((with_reducible first|apply d_|apply e_|apply f_|apply g_);focus first|omega|(simp only[q_]<;>omega))|((with_reducible first|apply i_|apply h_);focus first|omega|(simp only[q_]<;>omega))|((with_reducible apply h_);focus first|decide|kernel_rfl)|refine s_ (by decide) ?_|refine t_ (by decide) ?_|with_reducible first|apply l_|apply m_|apply n_|apply o_|refine p_ (fun _=>?_) (fun _=>?_))<;>(conv=>whnf)));refine ret_fam hR [FK,FK1] [(NK,FK)] rfl (fun q hq=>?_) ⟨⟨_,rfl,?_⟩,trivial⟩ ?_
   ·have hk:=(hR.keys q hq).1;repeat (first|exact hR.past (a:=[(FK,_),(FK1,_)]) rfl hq|refine app_fam rfl hk ?_)
   ·refine hle_rows rfl ?_ (hon_put hrw hv);simp only[toNat_natCast,toNat_zero,zero_add,sub_zero,drop_zero,take_zero];exact rep1 rows [a,b] (j:=i+1) (by omega) (by show _<=_+2;omega)
   ·exact⟨rfl,rfl,rfl,rfl,rfl,by first|rfl | ((try dsimp only);simp only[toNat_natCast,toNat_zero,zero_add,sub_zero,drop_zero,take_zero]<;>omega)⟩
  ·((conv=>whnf);repeat' ((first|(with_reducible first|apply a_|apply b_|apply c_)|((with_reducible first|apply d_|apply e_|apply f_|apply g_);focus first|omega|(simp only[q_]<;>omega))|((with_reducible first|apply i_|apply h_);focus first|omega|(simp only[q_]<;>omega))|((with_reducible apply h_);focus first|decide|kernel_rfl)|refine s_ (by decide) ?_|refine t_ (by decide) ?_|with_reducible first|apply l_|apply m_|apply n_|apply o_|refine p_ (fun _=>?_) (fun _=>?_))<;>(conv=>whnf)));refine ret_fam hR [FK,FK1] [(NK,34)] rfl (fun q hq=>?_) ⟨⟨_,rfl,?_⟩,trivial⟩ ?_
   ·have hk:=(hR.keys q hq).1;repeat (first|exact hR.past (a:=[(FK,_),(FK1,_)]) rfl hq|refine app_fam rfl hk ?_)
   ·refine hle_rows rfl ?_ (hon_put hrw hv);simp only[toNat_natCast,toNat_zero,zero_add,sub_zero,drop_zero,take_zero];exact rep1' rows [a,b] (j:=i+1) (by omega)
   ·exact⟨rfl,rfl,rfl,rfl,rfl,by first|rfl | ((try dsimp only);simp only[toNat_natCast,toNat_zero,zero_add,sub_zero,drop_zero,take_zero]<;>omega)⟩
 ·refine Need.by4 8 rfl (by (try dsimp only at *);(try simp only[putRows,length_append,length_map,length_cons,length_nil,length_take,length_drop,toNat_natCast,toNat_zero,zero_add,sub_zero,add_zero] at *);omega) ?_;((conv=>whnf);repeat' ((first|(with_reducible first|apply a_|apply b_|apply c_)|((with_reducible first|apply d_|apply e_|apply f_|apply g_);focus first|omega|(simp only[q_]<;>omega))|((with_reducible first|apply i_|apply h_);focus first|omega|(simp only[q_]<;>omega))|((with_reducible apply h_);focus first|decide|kernel_rfl)|refine s_ (by decide) ?_|refine t_ (by decide) ?_|with_reducible first|apply l_|apply m_|apply n_|apply o_|refine p_ (fun _=>?_) (fun _=>?_))<;>(conv=>whnf)));refine CopyC.mk 2 ⟨(by (try dsimp only at *);(try simp only[putRows,length_append,length_map,length_cons,length_nil,length_take,length_drop,toNat_natCast,toNat_zero,zero_add,sub_zero,add_zero] at *);omega),(by (try dsimp only at *);(try simp only[putRows,length_append,length_map,length_cons,length_nil,length_take,length_drop,toNat_natCast,toNat_zero,zero_add,sub_zero,add_zero] at *);omega),(by first|exact .inr rfl|exact .inl rfl | (refine .inr ?_;trace_state;omega))⟩ (Need.mk ⟨(by (try dsimp only at *);(try simp only[putRows,length_append,length_map,length_cons,length_nil,length_take,length_drop,toNat_natCast,toNat_zero,zero_add,sub_zero,add_zero] at *);omega),(by (try dsimp only at *);(try simp only[putRows,length_append,length_map,length_cons,length_nil,length_take,length_drop,toNat_natCast,toNat_zero,zero_add,sub_zero,add_zero] at *);omega)⟩ ?_);((conv=>whnf);repeat' ((first|(with_reducible first|apply a_|apply b_|apply c_)|((with_reducible first|apply d_|apply e_|apply f_|apply g_);focus first|omega|(simp only[q_]<;>omega))|((with_reducible first|apply i_|apply h_);focus first|omega|(simp only[q_]<;>omega))|((with_reducible apply h_);focus first|decide|kernel_rfl)|refine s_ (by decide) ?_|refine t_ (by decide) ?_|with_reducible first|apply l_|apply m_|apply n_|apply o_|refine p_ (fun _=>?_) (fun _=>?_))<;>(conv=>whnf)));refine CopyC.mk (rows.length - (i+1)) ⟨(by (try dsimp only);(try simp only[putRows,length_append,length_map,length_cons,length_nil,length_take,length_drop,toNat_natCast,toNat_zero,zero_add,sub_zero,add_zero]);omega),(by (try dsimp only);(try simp only[putRows,length_append,length_map,length_cons,length_nil,length_take,length_drop,toNat_natCast,toNat_zero,zero_add,sub_zero,add_zero]);omega),(by (try dsimp only);(try simp only[putRows,length_append,length_map,length_cons,length_nil,length_take,length_drop,toNat_natCast,toNat_zero,zero_add,sub_zero,add_zero]);omega)⟩ (Need.mk ⟨(by (try dsimp only);(try simp only[putRows,length_append,length_map,length_cons,length_nil,length_take,length_drop,toNat_natCast,toNat_zero,zero_add,sub_zero,add_zero]);omega),(by (try dsimp only);(try simp only[putRows,length_append,length_map,length_cons,length_nil,length_take,length_drop,toNat_natCast,toNat_zero,zero_add,sub_zero,add_zero]);omega)⟩ ?_);((conv=>whnf);repeat' ((first|(with_reducible first|apply a_|apply b_|apply c_)|((with_reducible first|apply d_|apply e_|apply f_|apply g_);focus first|omega|(simp only[q_]<;>omega))|((with_reducible first|apply i_|apply h_);focus first|omega|(simp only[q_]<;>omega))|((with_reducible apply h_);focus first|decide|kernel_rfl)|refine s_ (by decide) ?_|refine t_ (by decide) ?_|with_reducible first|apply l_|apply m_|apply n_|apply o_|refine p_ (fun _=>?_) (fun _=>?_))<;>(conv=>whnf)));refine ret_fam hR [FK,FK1] [(NK,67)] rfl (fun q hq=>?_) ⟨⟨_,rfl,?_⟩,trivial⟩ ?_
  ·have hk:=(hR.keys q hq).1;repeat (first|exact hR.past (a:=[(FK,_),(FK1,_)]) rfl hq|refine app_fam rfl hk ?_)
  ·refine hle_rows rfl ?_ (hon_put hrw hv);simp only[toNat_natCast,toNat_zero,zero_add,sub_zero,drop_zero,take_zero];exact rep2 rows [a,b] (j:=i+1) (by omega) (by omega)
  ·exact⟨rfl,rfl,rfl,rfl,rfl,by first|rfl | ((try dsimp only);simp only[toNat_natCast,toNat_zero,zero_add,sub_zero,drop_zero,take_zero]<;>omega)⟩
 ·refine CallP.ovl _ _ _ _ _ _ ov_int rfl rfl rfl rfl rfl rfl rfl rfl (by (try dsimp only at *);(try simp only[putRows,length_append,length_map,length_cons,length_nil,length_take,length_drop,toNat_natCast,toNat_zero,zero_add,sub_zero,add_zero] at *);omega) ?_;((conv=>whnf);repeat' ((first|(with_reducible first|apply a_|apply b_|apply c_)|((with_reducible first|apply d_|apply e_|apply f_|apply g_);focus first|omega|(simp only[q_]<;>omega))|((with_reducible first|apply i_|apply h_);focus first|omega|(simp only[q_]<;>omega))|((with_reducible apply h_);focus first|decide|kernel_rfl)|refine s_ (by decide) ?_|refine t_ (by decide) ?_|with_reducible first|apply l_|apply m_|apply n_|apply o_|refine p_ (fun _=>?_) (fun _=>?_))<;>(conv=>whnf)));refine CopyC.mk (rows.length - (i+1)) ⟨(by (try dsimp only);(try simp only[putRows,length_append,length_map,length_cons,length_nil,length_take,length_drop,toNat_natCast,toNat_zero,zero_add,sub_zero,add_zero]);omega),(by (try dsimp only);(try simp only[putRows,length_append,length_map,length_cons,length_nil,length_take,length_drop,toNat_natCast,toNat_zero,zero_add,sub_zero,add_zero]);omega),(by (try dsimp only);(try simp only[putRows,length_append,length_map,length_cons,length_nil,length_take,length_drop,toNat_natCast,toNat_zero,zero_add,sub_zero,add_zero]);omega)⟩ (Need.mk ⟨(by (try dsimp only);(try simp only[putRows,length_append,length_map,length_cons,length_nil,length_take,length_drop,toNat_natCast,toNat_zero,zero_add,sub_zero,add_zero]);omega),(by (try dsimp only);(try simp only[putRows,length_append,length_map,length_cons,length_nil,length_take,length_drop,toNat_natCast,toNat_zero,zero_add,sub_zero,add_zero]);omega)⟩ ?_);((conv=>whnf);repeat' ((first|(with_reducible first|apply a_|apply b_|apply c_)|((with_reducible first|apply d_|apply e_|apply f_|apply g_);focus first|omega|(simp only[q_]<;>omega))|((with_reducible first|apply i_|apply h_);focus first|omega|(simp only[q_]<;>omega))|((with_reducible apply h_);focus first|decide|kernel_rfl)|refine s_ (by decide) ?_|refine t_ (by decide) ?_|with_reducible first|apply l_|apply m_|apply n_|apply o_|refine p_ (fun _=>?_) (fun _=>?_))<;>(conv=>whnf)));refine CopyC.mk 2 ⟨(by (try dsimp only at *);(try simp only[putRows,length_append,length_map,length_cons,length_nil,length_take,length_drop,toNat_natCast,toNat_zero,zero_add,sub_zero,add_zero] at *);omega),(by (try dsimp only at *);(try simp only[putRows,length_append,length_map,length_cons,length_nil,length_take,length_drop,toNat_natCast,toNat_zero,zero_add,sub_zero,add_zero] at *);omega),(by first|exact .inr rfl|exact .inl rfl | (refine .inr ?_;trace_state;omega))⟩ (Need.mk ⟨(by (try dsimp only at *);(try simp only[putRows,length_append,length_map,length_cons,length_nil,length_take,length_drop,toNat_natCast,toNat_zero,zero_add,sub_zero,add_zero] at *);omega),(by (try dsimp only at *);(try simp only[putRows,length_append,length_map,length_cons,length_nil,length_take,length_drop,toNat_natCast,toNat_zero,zero_add,sub_zero,add_zero] at *);omega)⟩ ?_);((conv=>whnf);repeat' ((first|(with_reducible first|apply a_|apply b_|apply c_)|((with_reducible first|apply d_|apply e_|apply f_|apply g_);focus first|omega|(simp only[q_]<;>omega))|((with_reducible first|apply i_|apply h_);focus first|omega|(simp only[q_]<;>omega))|((with_reducible apply h_);focus first|decide|kernel_rfl)|refine s_ (by decide) ?_|refine t_ (by decide) ?_|with_reducible first|apply l_|apply m_|apply n_|apply o_|refine p_ (fun _=>?_) (fun _=>?_))<;>(conv=>whnf)));refine ret_fam hR [FK,FK1] [(NK,FK)] rfl (fun q hq=>?_) ⟨⟨_,rfl,?_⟩,trivial⟩ ?_
  ·have hk:=(hR.keys q hq).1;repeat (first|exact hR.past (a:=[(FK,_),(FK1,_)]) rfl hq|refine app_fam rfl hk ?_)
  ·refine hle_rows rfl ?_ (hon_put hrw hv);simp only[toNat_natCast,toNat_zero,zero_add,sub_zero,drop_zero,take_zero];exact rep3 rows [a,b] (j:=i+1) (by show i+2<=_;omega) (by omega) (by show _<=i+2;omega)
  ·exact⟨rfl,rfl,rfl,rfl,rfl,by first|rfl | ((try dsimp only);simp only[toNat_natCast,toNat_zero,zero_add,sub_zero,drop_zero,take_zero]<;>omega)⟩
theorem s_rep_leaf (rows:List (List D)) (i:Nat) (hi:i<rows.length) (hm:rows.length<=1000) (hrw:hon (·∈nT) (.darr 44 1 rows)) (a b:List D) (hv:hon (·∈nT) (.darr 44 1 [a,b])) (R:Rf) (hR:Fam R) :
  CallS Try.prog 44 [.d (.arr FK 44 1 0 rows.length),pInt .i64 i,pInt .i64 ((i+1:Nat):Int),.d (.arr FK1 44 1 0 2)] R [(FK,.darr 44 1 rows),(FK1,.darr 44 1 [a,b])] (.d (.arr NK 44 1 0 (rows.length+1)))
   [(NK,.darr 44 1 (rows.take i++[a,b]++rows.drop (i+1)))]:=by
 refine CallS.full (by omega) fun c hc=>?_;refine callS_in Try.func44 (by rfl) rfl (by kernel_rfl) (by rfl) ([FK,FK1]++nT) (fun k hk=>?_) ?_
 ·rw[map_append] at hk;rcases mem_append.1 hk with hk | hk
  ·exact mem_append_right _ (hR.key k hk)
  ·exact mem_append_left _ hk
 rw[hR.swap rfl];((conv=>whnf);repeat' ((first|(with_reducible first|apply a_|apply b_|apply c_)|((with_reducible first|apply d_|apply e_|apply f_|apply g_);focus first|omega|(simp only[q_]<;>omega))|((with_reducible first|apply i_|apply h_);focus first|omega|(simp only[q_]<;>omega))|((with_reducible apply h_);focus first|decide|kernel_rfl)|refine s_ (by decide) ?_|refine t_ (by decide) ?_|with_reducible first|apply l_|apply m_|apply n_|apply o_|refine p_ (fun _=>?_) (fun _=>?_))<;>(conv=>whnf)))
 ·refine Need.by3 24 rfl (by (try dsimp only);(try simp only[putRows,length_append,length_map,length_cons,length_nil,length_take,length_drop,toNat_natCast,toNat_zero,zero_add,sub_zero,add_zero]);omega) ?_;refine CapC.mk (fun room=>?_) (fun grow=>?_)
  ·((conv=>whnf);repeat' ((first|(with_reducible first|apply a_|apply b_|apply c_)|((with_reducible first|apply d_|apply e_|apply f_|apply g_);focus first|omega|(simp only[q_]<;>omega))|((with_reducible first|apply i_|apply h_);focus first|omega|(simp only[q_]<;>omega))|((with_reducible apply h_);focus first|decide|kernel_rfl)|refine s_ (by decide) ?_|refine t_ (by decide) ?_|with_reducible first|apply l_|apply m_|apply n_|apply o_|refine p_ (fun _=>?_) (fun _=>?_))<;>(conv=>whnf)));refine ret_fam hR [FK,FK1] [(NK,FK)] rfl (fun q hq=>?_) ⟨⟨_,rfl,?_⟩,trivial⟩ ?_
   ·have hk:=(hR.keys q hq).1;repeat (first|exact hR.past (a:=[(FK,_),(FK1,_)]) rfl hq|refine app_fam rfl hk ?_)
   ·refine hle_rows rfl ?_ (hon_put hrw hv);simp only[toNat_natCast,toNat_zero,zero_add,sub_zero,drop_zero,take_zero];exact rep1 rows [a,b] (j:=i+1) (by omega) (by show _<=_+2;omega)
   ·exact⟨rfl,rfl,rfl,rfl,rfl,by first|rfl | ((try dsimp only);simp only[toNat_natCast,toNat_zero,zero_add,sub_zero,drop_zero,take_zero]<;>omega)⟩
  ·((conv=>whnf);repeat' ((first|(with_reducible first|apply a_|apply b_|apply c_)|((with_reducible first|apply d_|apply e_|apply f_|apply g_);focus first|omega|(simp only[q_]<;>omega))|((with_reducible first|apply i_|apply h_);focus first|omega|(simp only[q_]<;>omega))|((with_reducible apply h_);focus first|decide|kernel_rfl)|refine s_ (by decide) ?_|refine t_ (by decide) ?_|with_reducible first|apply l_|apply m_|apply n_|apply o_|refine p_ (fun _=>?_) (fun _=>?_))<;>(conv=>whnf)));refine ret_fam hR [FK,FK1] [(NK,34)] rfl (fun q hq=>?_) ⟨⟨_,rfl,?_⟩,trivial⟩ ?_
   ·have hk:=(hR.keys q hq).1;repeat (first|exact hR.past (a:=[(FK,_),(FK1,_)]) rfl hq|refine app_fam rfl hk ?_)
   ·refine hle_rows rfl ?_ (hon_put hrw hv);simp only[toNat_natCast,toNat_zero,zero_add,sub_zero,drop_zero,take_zero];exact rep1' rows [a,b] (j:=i+1) (by omega)
   ·exact⟨rfl,rfl,rfl,rfl,rfl,by first|rfl | ((try dsimp only);simp only[toNat_natCast,toNat_zero,zero_add,sub_zero,drop_zero,take_zero]<;>omega)⟩
 ·refine Need.by4 24 rfl (by (try dsimp only at *);(try simp only[putRows,length_append,length_map,length_cons,length_nil,length_take,length_drop,toNat_natCast,toNat_zero,zero_add,sub_zero,add_zero] at *);omega) ?_;((conv=>whnf);repeat' ((first|(with_reducible first|apply a_|apply b_|apply c_)|((with_reducible first|apply d_|apply e_|apply f_|apply g_);focus first|omega|(simp only[q_]<;>omega))|((with_reducible first|apply i_|apply h_);focus first|omega|(simp only[q_]<;>omega))|((with_reducible apply h_);focus first|decide|kernel_rfl)|refine s_ (by decide) ?_|refine t_ (by decide) ?_|with_reducible first|apply l_|apply m_|apply n_|apply o_|refine p_ (fun _=>?_) (fun _=>?_))<;>(conv=>whnf)));refine CopyC.mk 2 ⟨(by (try dsimp only at *);(try simp only[putRows,length_append,length_map,length_cons,length_nil,length_take,length_drop,toNat_natCast,toNat_zero,zero_add,sub_zero,add_zero] at *);omega),(by (try dsimp only at *);(try simp only[putRows,length_append,length_map,length_cons,length_nil,length_take,length_drop,toNat_natCast,toNat_zero,zero_add,sub_zero,add_zero] at *);omega),(by first|exact .inr rfl|exact .inl rfl | (refine .inr ?_;trace_state;omega))⟩ (Need.mk ⟨(by (try dsimp only at *);(try simp only[putRows,length_append,length_map,length_cons,length_nil,length_take,length_drop,toNat_natCast,toNat_zero,zero_add,sub_zero,add_zero] at *);omega),(by (try dsimp only at *);(try simp only[putRows,length_append,length_map,length_cons,length_nil,length_take,length_drop,toNat_natCast,toNat_zero,zero_add,sub_zero,add_zero] at *);omega)⟩ ?_);((conv=>whnf);repeat' ((first|(with_reducible first|apply a_|apply b_|apply c_)|((with_reducible first|apply d_|apply e_|apply f_|apply g_);focus first|omega|(simp only[q_]<;>omega))|((with_reducible first|apply i_|apply h_);focus first|omega|(simp only[q_]<;>omega))|((with_reducible apply h_);focus first|decide|kernel_rfl)|refine s_ (by decide) ?_|refine t_ (by decide) ?_|with_reducible first|apply l_|apply m_|apply n_|apply o_|refine p_ (fun _=>?_) (fun _=>?_))<;>(conv=>whnf)));refine CopyC.mk (rows.length - (i+1)) ⟨(by (try dsimp only);(try simp only[putRows,length_append,length_map,length_cons,length_nil,length_take,length_drop,toNat_natCast,toNat_zero,zero_add,sub_zero,add_zero]);omega),(by (try dsimp only);(try simp only[putRows,length_append,length_map,length_cons,length_nil,length_take,length_drop,toNat_natCast,toNat_zero,zero_add,sub_zero,add_zero]);omega),(by (try dsimp only);(try simp only[putRows,length_append,length_map,length_cons,length_nil,length_take,length_drop,toNat_natCast,toNat_zero,zero_add,sub_zero,add_zero]);omega)⟩ (Need.mk ⟨(by (try dsimp only);(try simp only[putRows,length_append,length_map,length_cons,length_nil,length_take,length_drop,toNat_natCast,toNat_zero,zero_add,sub_zero,add_zero]);omega),(by (try dsimp only);(try simp only[putRows,length_append,length_map,length_cons,length_nil,length_take,length_drop,toNat_natCast,toNat_zero,zero_add,sub_zero,add_zero]);omega)⟩ ?_);((conv=>whnf);repeat' ((first|(with_reducible first|apply a_|apply b_|apply c_)|((with_reducible first|apply d_|apply e_|apply f_|apply g_);focus first|omega|(simp only[q_]<;>omega))|((with_reducible first|apply i_|apply h_);focus first|omega|(simp only[q_]<;>omega))|((with_reducible apply h_);focus first|decide|kernel_rfl)|refine s_ (by decide) ?_|refine t_ (by decide) ?_|with_reducible first|apply l_|apply m_|apply n_|apply o_|refine p_ (fun _=>?_) (fun _=>?_))<;>(conv=>whnf)));refine ret_fam hR [FK,FK1] [(NK,67)] rfl (fun q hq=>?_) ⟨⟨_,rfl,?_⟩,trivial⟩ ?_
  ·have hk:=(hR.keys q hq).1;repeat (first|exact hR.past (a:=[(FK,_),(FK1,_)]) rfl hq|refine app_fam rfl hk ?_)
  ·refine hle_rows rfl ?_ (hon_put hrw hv);simp only[toNat_natCast,toNat_zero,zero_add,sub_zero,drop_zero,take_zero];exact rep2 rows [a,b] (j:=i+1) (by omega) (by omega)
  ·exact⟨rfl,rfl,rfl,rfl,rfl,by first|rfl | ((try dsimp only);simp only[toNat_natCast,toNat_zero,zero_add,sub_zero,drop_zero,take_zero]<;>omega)⟩
 ·refine CallP.ovl _ _ _ _ _ _ ov_leaf rfl rfl rfl rfl rfl rfl rfl rfl (by (try dsimp only at *);(try simp only[putRows,length_append,length_map,length_cons,length_nil,length_take,length_drop,toNat_natCast,toNat_zero,zero_add,sub_zero,add_zero] at *);omega) ?_;((conv=>whnf);repeat' ((first|(with_reducible first|apply a_|apply b_|apply c_)|((with_reducible first|apply d_|apply e_|apply f_|apply g_);focus first|omega|(simp only[q_]<;>omega))|((with_reducible first|apply i_|apply h_);focus first|omega|(simp only[q_]<;>omega))|((with_reducible apply h_);focus first|decide|kernel_rfl)|refine s_ (by decide) ?_|refine t_ (by decide) ?_|with_reducible first|apply l_|apply m_|apply n_|apply o_|refine p_ (fun _=>?_) (fun _=>?_))<;>(conv=>whnf)));refine CopyC.mk (rows.length - (i+1)) ⟨(by (try dsimp only);(try simp only[putRows,length_append,length_map,length_cons,length_nil,length_take,length_drop,toNat_natCast,toNat_zero,zero_add,sub_zero,add_zero]);omega),(by (try dsimp only);(try simp only[putRows,length_append,length_map,length_cons,length_nil,length_take,length_drop,toNat_natCast,toNat_zero,zero_add,sub_zero,add_zero]);omega),(by (try dsimp only);(try simp only[putRows,length_append,length_map,length_cons,length_nil,length_take,length_drop,toNat_natCast,toNat_zero,zero_add,sub_zero,add_zero]);omega)⟩ (Need.mk ⟨(by (try dsimp only);(try simp only[putRows,length_append,length_map,length_cons,length_nil,length_take,length_drop,toNat_natCast,toNat_zero,zero_add,sub_zero,add_zero]);omega),(by (try dsimp only);(try simp only[putRows,length_append,length_map,length_cons,length_nil,length_take,length_drop,toNat_natCast,toNat_zero,zero_add,sub_zero,add_zero]);omega)⟩ ?_);((conv=>whnf);repeat' ((first|(with_reducible first|apply a_|apply b_|apply c_)|((with_reducible first|apply d_|apply e_|apply f_|apply g_);focus first|omega|(simp only[q_]<;>omega))|((with_reducible first|apply i_|apply h_);focus first|omega|(simp only[q_]<;>omega))|((with_reducible apply h_);focus first|decide|kernel_rfl)|refine s_ (by decide) ?_|refine t_ (by decide) ?_|with_reducible first|apply l_|apply m_|apply n_|apply o_|refine p_ (fun _=>?_) (fun _=>?_))<;>(conv=>whnf)));refine CopyC.mk 2 ⟨(by (try dsimp only at *);(try simp only[putRows,length_append,length_map,length_cons,length_nil,length_take,length_drop,toNat_natCast,toNat_zero,zero_add,sub_zero,add_zero] at *);omega),(by (try dsimp only at *);(try simp only[putRows,length_append,length_map,length_cons,length_nil,length_take,length_drop,toNat_natCast,toNat_zero,zero_add,sub_zero,add_zero] at *);omega),(by first|exact .inr rfl|exact .inl rfl | (refine .inr ?_;trace_state;omega))⟩ (Need.mk ⟨(by (try dsimp only at *);(try simp only[putRows,length_append,length_map,length_cons,length_nil,length_take,length_drop,toNat_natCast,toNat_zero,zero_add,sub_zero,add_zero] at *);omega),(by (try dsimp only at *);(try simp only[putRows,length_append,length_map,length_cons,length_nil,length_take,length_drop,toNat_natCast,toNat_zero,zero_add,sub_zero,add_zero] at *);omega)⟩ ?_);((conv=>whnf);repeat' ((first|(with_reducible first|apply a_|apply b_|apply c_)|((with_reducible first|apply d_|apply e_|apply f_|apply g_);focus first|omega|(simp only[q_]<;>omega))|((with_reducible first|apply i_|apply h_);focus first|omega|(simp only[q_]<;>omega))|((with_reducible apply h_);focus first|decide|kernel_rfl)|refine s_ (by decide) ?_|refine t_ (by decide) ?_|with_reducible first|apply l_|apply m_|apply n_|apply o_|refine p_ (fun _=>?_) (fun _=>?_))<;>(conv=>whnf)));refine ret_fam hR [FK,FK1] [(NK,FK)] rfl (fun q hq=>?_) ⟨⟨_,rfl,?_⟩,trivial⟩ ?_
  ·have hk:=(hR.keys q hq).1;repeat (first|exact hR.past (a:=[(FK,_),(FK1,_)]) rfl hq|refine app_fam rfl hk ?_)
  ·refine hle_rows rfl ?_ (hon_put hrw hv);simp only[toNat_natCast,toNat_zero,zero_add,sub_zero,drop_zero,take_zero];exact rep3 rows [a,b] (j:=i+1) (by show i+2<=_;omega) (by omega) (by show _<=i+2;omega)
  ·exact⟨rfl,rfl,rfl,rfl,rfl,by first|rfl | ((try dsimp only);simp only[toNat_natCast,toNat_zero,zero_add,sub_zero,drop_zero,take_zero]<;>omega)⟩
theorem s_ins_pair (rows:List (List D)) (i:Nat) (hi:i<=rows.length) (hm:rows.length<=1000) (h0:0<rows.length) (hrw:hon (·∈nT) (.darr 41 2 rows)) (a:List D) (hv:hon (·∈nT) (.darr 41 2 [a])) (R:Rf) (hR:Fam R) :
  CallS Try.prog 16 [.d (.arr FK 41 2 0 rows.length),pInt .i64 i,.d (.arr FK1 41 2 0 1)] R [(FK,.darr 41 2 rows),(FK1,.darr 41 2 [a])] (.d (.arr NK 41 2 0 (rows.length+1)))
   [(NK,.darr 41 2 (rows.take i++[a]++rows.drop (i)))]:=by
 refine CallS.full (by omega) fun c hc=>?_;refine callS_in Try.func16 (by rfl) rfl (by kernel_rfl) (by rfl) ([FK,FK1]++nT) (fun k hk=>?_) ?_
 ·rw[map_append] at hk;rcases mem_append.1 hk with hk | hk
  ·exact mem_append_right _ (hR.key k hk)
  ·exact mem_append_left _ hk
 rw[hR.swap rfl];((conv=>whnf);repeat' ((first|(with_reducible first|apply a_|apply b_|apply c_)|((with_reducible first|apply d_|apply e_|apply f_|apply g_);focus first|omega|(simp only[q_]<;>omega))|((with_reducible first|apply i_|apply h_);focus first|omega|(simp only[q_]<;>omega))|((with_reducible apply h_);focus first|decide|kernel_rfl)|refine s_ (by decide) ?_|refine t_ (by decide) ?_|with_reducible first|apply l_|apply m_|apply n_|apply o_|refine p_ (fun _=>?_) (fun _=>?_))<;>(conv=>whnf)))
 ·obtain rfl:i=rows.length:=by omega
  refine Need.by3 24 rfl (by (try dsimp only);(try simp only[putRows,length_append,length_map,length_cons,length_nil,length_take,length_drop,toNat_natCast,toNat_zero,zero_add,sub_zero,add_zero]);omega) ?_;refine CapC.mk (fun room=>?_) (fun grow=>?_)
  ·((conv=>whnf);repeat' ((first|(with_reducible first|apply a_|apply b_|apply c_)|((with_reducible first|apply d_|apply e_|apply f_|apply g_);focus first|omega|(simp only[q_]<;>omega))|((with_reducible first|apply i_|apply h_);focus first|omega|(simp only[q_]<;>omega))|((with_reducible apply h_);focus first|decide|kernel_rfl)|refine s_ (by decide) ?_|refine t_ (by decide) ?_|with_reducible first|apply l_|apply m_|apply n_|apply o_|refine p_ (fun _=>?_) (fun _=>?_))<;>(conv=>whnf)));refine ret_fam hR [FK,FK1] [(NK,FK)] rfl (fun q hq=>?_) ⟨⟨_,rfl,?_⟩,trivial⟩ ?_
   ·have hk:=(hR.keys q hq).1;repeat (first|exact hR.past (a:=[(FK,_),(FK1,_)]) rfl hq|refine app_fam rfl hk ?_)
   ·refine hle_rows rfl ?_ (hon_put hrw hv);simp only[toNat_natCast,toNat_zero,zero_add,sub_zero,drop_zero,take_zero];exact rep1 rows [a] (j:=rows.length) (by omega) (by show _<=_+1;omega)
   ·exact⟨rfl,rfl,rfl,rfl,rfl,by first|rfl | ((try dsimp only);simp only[toNat_natCast,toNat_zero,zero_add,sub_zero,drop_zero,take_zero]<;>omega)⟩
  ·((conv=>whnf);repeat' ((first|(with_reducible first|apply a_|apply b_|apply c_)|((with_reducible first|apply d_|apply e_|apply f_|apply g_);focus first|omega|(simp only[q_]<;>omega))|((with_reducible first|apply i_|apply h_);focus first|omega|(simp only[q_]<;>omega))|((with_reducible apply h_);focus first|decide|kernel_rfl)|refine s_ (by decide) ?_|refine t_ (by decide) ?_|with_reducible first|apply l_|apply m_|apply n_|apply o_|refine p_ (fun _=>?_) (fun _=>?_))<;>(conv=>whnf)));refine ret_fam hR [FK,FK1] [(NK,25)] rfl (fun q hq=>?_) ⟨⟨_,rfl,?_⟩,trivial⟩ ?_
   ·have hk:=(hR.keys q hq).1;repeat (first|exact hR.past (a:=[(FK,_),(FK1,_)]) rfl hq|refine app_fam rfl hk ?_)
   ·refine hle_rows rfl ?_ (hon_put hrw hv);simp only[toNat_natCast,toNat_zero,zero_add,sub_zero,drop_zero,take_zero];exact rep1' rows [a] (j:=rows.length) (by omega)
   ·exact⟨rfl,rfl,rfl,rfl,rfl,by first|rfl | ((try dsimp only);simp only[toNat_natCast,toNat_zero,zero_add,sub_zero,drop_zero,take_zero]<;>omega)⟩
 ·refine Need.by4 24 rfl (by (try dsimp only at *);(try simp only[putRows,length_append,length_map,length_cons,length_nil,length_take,length_drop,toNat_natCast,toNat_zero,zero_add,sub_zero,add_zero] at *);omega) ?_;((conv=>whnf);repeat' ((first|(with_reducible first|apply a_|apply b_|apply c_)|((with_reducible first|apply d_|apply e_|apply f_|apply g_);focus first|omega|(simp only[q_]<;>omega))|((with_reducible first|apply i_|apply h_);focus first|omega|(simp only[q_]<;>omega))|((with_reducible apply h_);focus first|decide|kernel_rfl)|refine s_ (by decide) ?_|refine t_ (by decide) ?_|with_reducible first|apply l_|apply m_|apply n_|apply o_|refine p_ (fun _=>?_) (fun _=>?_))<;>(conv=>whnf)));refine CopyC.mk 1 ⟨(by (try dsimp only at *);(try simp only[putRows,length_append,length_map,length_cons,length_nil,length_take,length_drop,toNat_natCast,toNat_zero,zero_add,sub_zero,add_zero] at *);omega),(by (try dsimp only at *);(try simp only[putRows,length_append,length_map,length_cons,length_nil,length_take,length_drop,toNat_natCast,toNat_zero,zero_add,sub_zero,add_zero] at *);omega),(by first|exact .inr rfl|exact .inl rfl | (refine .inr ?_;trace_state;omega))⟩ (Need.mk ⟨(by (try dsimp only at *);(try simp only[putRows,length_append,length_map,length_cons,length_nil,length_take,length_drop,toNat_natCast,toNat_zero,zero_add,sub_zero,add_zero] at *);omega),(by (try dsimp only at *);(try simp only[putRows,length_append,length_map,length_cons,length_nil,length_take,length_drop,toNat_natCast,toNat_zero,zero_add,sub_zero,add_zero] at *);omega)⟩ ?_);((conv=>whnf);repeat' ((first|(with_reducible first|apply a_|apply b_|apply c_)|((with_reducible first|apply d_|apply e_|apply f_|apply g_);focus first|omega|(simp only[q_]<;>omega))|((with_reducible first|apply i_|apply h_);focus first|omega|(simp only[q_]<;>omega))|((with_reducible apply h_);focus first|decide|kernel_rfl)|refine s_ (by decide) ?_|refine t_ (by decide) ?_|with_reducible first|apply l_|apply m_|apply n_|apply o_|refine p_ (fun _=>?_) (fun _=>?_))<;>(conv=>whnf)));refine CopyC.mk (rows.length - (i)) ⟨(by (try dsimp only);(try simp only[putRows,length_append,length_map,length_cons,length_nil,length_take,length_drop,toNat_natCast,toNat_zero,zero_add,sub_zero,add_zero]);omega),(by (try dsimp only);(try simp only[putRows,length_append,length_map,length_cons,length_nil,length_take,length_drop,toNat_natCast,toNat_zero,zero_add,sub_zero,add_zero]);omega),(by (try dsimp only);(try simp only[putRows,length_append,length_map,length_cons,length_nil,length_take,length_drop,toNat_natCast,toNat_zero,zero_add,sub_zero,add_zero]);omega)⟩ (Need.mk ⟨(by (try dsimp only);(try simp only[putRows,length_append,length_map,length_cons,length_nil,length_take,length_drop,toNat_natCast,toNat_zero,zero_add,sub_zero,add_zero]);omega),(by (try dsimp only);(try simp only[putRows,length_append,length_map,length_cons,length_nil,length_take,length_drop,toNat_natCast,toNat_zero,zero_add,sub_zero,add_zero]);omega)⟩ ?_);((conv=>whnf);repeat' ((first|(with_reducible first|apply a_|apply b_|apply c_)|((with_reducible first|apply d_|apply e_|apply f_|apply g_);focus first|omega|(simp only[q_]<;>omega))|((with_reducible first|apply i_|apply h_);focus first|omega|(simp only[q_]<;>omega))|((with_reducible apply h_);focus first|decide|kernel_rfl)|refine s_ (by decide) ?_|refine t_ (by decide) ?_|with_reducible first|apply l_|apply m_|apply n_|apply o_|refine p_ (fun _=>?_) (fun _=>?_))<;>(conv=>whnf)));refine ret_fam hR [FK,FK1] [(NK,40)] rfl (fun q hq=>?_) ⟨⟨_,rfl,?_⟩,trivial⟩ ?_
  ·have hk:=(hR.keys q hq).1;repeat (first|exact hR.past (a:=[(FK,_),(FK1,_)]) rfl hq|refine app_fam rfl hk ?_)
  ·refine hle_rows rfl ?_ (hon_put hrw hv);simp only[toNat_natCast,toNat_zero,zero_add,sub_zero,drop_zero,take_zero];exact rep2 rows [a] (j:=i) (by omega) (by omega)
  ·exact⟨rfl,rfl,rfl,rfl,rfl,by first|rfl | ((try dsimp only);simp only[toNat_natCast,toNat_zero,zero_add,sub_zero,drop_zero,take_zero]<;>omega)⟩
 ·refine CallP.ovl _ _ _ _ _ _ ov_pair rfl rfl rfl rfl rfl rfl rfl rfl (by (try dsimp only at *);(try simp only[putRows,length_append,length_map,length_cons,length_nil,length_take,length_drop,toNat_natCast,toNat_zero,zero_add,sub_zero,add_zero] at *);omega) ?_;((conv=>whnf);repeat' ((first|(with_reducible first|apply a_|apply b_|apply c_)|((with_reducible first|apply d_|apply e_|apply f_|apply g_);focus first|omega|(simp only[q_]<;>omega))|((with_reducible first|apply i_|apply h_);focus first|omega|(simp only[q_]<;>omega))|((with_reducible apply h_);focus first|decide|kernel_rfl)|refine s_ (by decide) ?_|refine t_ (by decide) ?_|with_reducible first|apply l_|apply m_|apply n_|apply o_|refine p_ (fun _=>?_) (fun _=>?_))<;>(conv=>whnf)));refine CopyC.mk (rows.length - (i)) ⟨(by (try dsimp only);(try simp only[putRows,length_append,length_map,length_cons,length_nil,length_take,length_drop,toNat_natCast,toNat_zero,zero_add,sub_zero,add_zero]);omega),(by (try dsimp only);(try simp only[putRows,length_append,length_map,length_cons,length_nil,length_take,length_drop,toNat_natCast,toNat_zero,zero_add,sub_zero,add_zero]);omega),(by (try dsimp only);(try simp only[putRows,length_append,length_map,length_cons,length_nil,length_take,length_drop,toNat_natCast,toNat_zero,zero_add,sub_zero,add_zero]);omega)⟩ (Need.mk ⟨(by (try dsimp only);(try simp only[putRows,length_append,length_map,length_cons,length_nil,length_take,length_drop,toNat_natCast,toNat_zero,zero_add,sub_zero,add_zero]);omega),(by (try dsimp only);(try simp only[putRows,length_append,length_map,length_cons,length_nil,length_take,length_drop,toNat_natCast,toNat_zero,zero_add,sub_zero,add_zero]);omega)⟩ ?_);((conv=>whnf);repeat' ((first|(with_reducible first|apply a_|apply b_|apply c_)|((with_reducible first|apply d_|apply e_|apply f_|apply g_);focus first|omega|(simp only[q_]<;>omega))|((with_reducible first|apply i_|apply h_);focus first|omega|(simp only[q_]<;>omega))|((with_reducible apply h_);focus first|decide|kernel_rfl)|refine s_ (by decide) ?_|refine t_ (by decide) ?_|with_reducible first|apply l_|apply m_|apply n_|apply o_|refine p_ (fun _=>?_) (fun _=>?_))<;>(conv=>whnf)));refine CopyC.mk 1 ⟨(by (try dsimp only at *);(try simp only[putRows,length_append,length_map,length_cons,length_nil,length_take,length_drop,toNat_natCast,toNat_zero,zero_add,sub_zero,add_zero] at *);omega),(by (try dsimp only at *);(try simp only[putRows,length_append,length_map,length_cons,length_nil,length_take,length_drop,toNat_natCast,toNat_zero,zero_add,sub_zero,add_zero] at *);omega),(by first|exact .inr rfl|exact .inl rfl | (refine .inr ?_;trace_state;omega))⟩ (Need.mk ⟨(by (try dsimp only at *);(try simp only[putRows,length_append,length_map,length_cons,length_nil,length_take,length_drop,toNat_natCast,toNat_zero,zero_add,sub_zero,add_zero] at *);omega),(by (try dsimp only at *);(try simp only[putRows,length_append,length_map,length_cons,length_nil,length_take,length_drop,toNat_natCast,toNat_zero,zero_add,sub_zero,add_zero] at *);omega)⟩ ?_);((conv=>whnf);repeat' ((first|(with_reducible first|apply a_|apply b_|apply c_)|((with_reducible first|apply d_|apply e_|apply f_|apply g_);focus first|omega|(simp only[q_]<;>omega))|((with_reducible first|apply i_|apply h_);focus first|omega|(simp only[q_]<;>omega))|((with_reducible apply h_);focus first|decide|kernel_rfl)|refine s_ (by decide) ?_|refine t_ (by decide) ?_|with_reducible first|apply l_|apply m_|apply n_|apply o_|refine p_ (fun _=>?_) (fun _=>?_))<;>(conv=>whnf)));refine ret_fam hR [FK,FK1] [(NK,FK)] rfl (fun q hq=>?_) ⟨⟨_,rfl,?_⟩,trivial⟩ ?_
  ·have hk:=(hR.keys q hq).1;repeat (first|exact hR.past (a:=[(FK,_),(FK1,_)]) rfl hq|refine app_fam rfl hk ?_)
  ·refine hle_rows rfl ?_ (hon_put hrw hv);simp only[toNat_natCast,toNat_zero,zero_add,sub_zero,drop_zero,take_zero];exact rep3 rows [a] (j:=i) (by show i+1<=_;omega) (by omega) (by show _<=i+1;omega)
  ·exact⟨rfl,rfl,rfl,rfl,rfl,by first|rfl | ((try dsimp only);simp only[toNat_natCast,toNat_zero,zero_add,sub_zero,drop_zero,take_zero]<;>omega)⟩
end
section
open Go.RowKit
end
section
open Go.RowKit K
open Tr
theorem Tr.Need.by1 {n x lim:Nat} {K:Prop} (B:Nat) (hb:x=B) (h:n*B<=lim) (k:K):Need (n*x<=lim) K:=by subst hb;exact⟨h,k⟩
theorem s_clone_pair (l:List (List C)) (h0:l≠[]) (h:l.length<=1000):CallS Try.prog 35 [.d (.c (.sl 2 l))] [] [] (.d (.arr NK 41 2 0 l.length)) [(NK,.arr 41 2 l)]:=by
 cases l with
 | nil=>exact absurd rfl h0
 | cons x l=>
  refine callS_of Try.func35 (by rfl) rfl (by kernel_rfl) (by rfl) [] rfl ?_;((conv=>whnf);repeat' ((first|(with_reducible first|apply a_|apply b_|apply c_)|((with_reducible first|apply d_|apply e_|apply f_|apply g_);focus first|omega|(simp only[q_]<;>omega))|((with_reducible first|apply i_|apply h_);focus first|omega|(simp only[q_]<;>omega))|((with_reducible apply h_);focus first|decide|kernel_rfl)|refine s_ (by decide) ?_|refine t_ (by decide) ?_|(refine EmpOr.emp ?_)|(refine Need.mk (cons_ne_nil _ _) ?_)|with_reducible first|apply l_|apply m_|apply n_|apply o_|refine p_ (fun _=>?_) (fun _=>?_))<;>(conv=>whnf)));refine Need.by1 24 rfl (by omega) ?_;((conv=>whnf);repeat' ((first|(with_reducible first|apply a_|apply b_|apply c_)|((with_reducible first|apply d_|apply e_|apply f_|apply g_);focus first|omega|(simp only[q_]<;>omega))|((with_reducible first|apply i_|apply h_);focus first|omega|(simp only[q_]<;>omega))|((with_reducible apply h_);focus first|decide|kernel_rfl)|refine s_ (by decide) ?_|refine t_ (by decide) ?_|with_reducible first|apply l_|apply m_|apply n_|apply o_|refine p_ (fun _=>?_) (fun _=>?_))<;>(conv=>whnf)));refine RetS.mk [(NK,7)] [NK] rfl rfl ⟨rfl,rfl,rfl,rfl,rfl,rfl⟩ ⟨⟨rfl,rfl,rfl,rfl⟩,trivial⟩
theorem s_clone_int (l:List (List C)) (h0:l≠[]) (h:l.length<=1000):CallS Try.prog 36 [.d (.c (.sl 1 l))] [] [] (.d (.arr NK 3 1 0 l.length)) [(NK,.arr 3 1 l)]:=by
 cases l with
 | nil=>exact absurd rfl h0
 | cons x l=>
  refine callS_of Try.func36 (by rfl) rfl (by kernel_rfl) (by rfl) [] rfl ?_;((conv=>whnf);repeat' ((first|(with_reducible first|apply a_|apply b_|apply c_)|((with_reducible first|apply d_|apply e_|apply f_|apply g_);focus first|omega|(simp only[q_]<;>omega))|((with_reducible first|apply i_|apply h_);focus first|omega|(simp only[q_]<;>omega))|((with_reducible apply h_);focus first|decide|kernel_rfl)|refine s_ (by decide) ?_|refine t_ (by decide) ?_|(refine EmpOr.emp ?_)|(refine Need.mk (cons_ne_nil _ _) ?_)|with_reducible first|apply l_|apply m_|apply n_|apply o_|refine p_ (fun _=>?_) (fun _=>?_))<;>(conv=>whnf)));refine Need.by1 8 rfl (by omega) ?_;((conv=>whnf);repeat' ((first|(with_reducible first|apply a_|apply b_|apply c_)|((with_reducible first|apply d_|apply e_|apply f_|apply g_);focus first|omega|(simp only[q_]<;>omega))|((with_reducible first|apply i_|apply h_);focus first|omega|(simp only[q_]<;>omega))|((with_reducible apply h_);focus first|decide|kernel_rfl)|refine s_ (by decide) ?_|refine t_ (by decide) ?_|with_reducible first|apply l_|apply m_|apply n_|apply o_|refine p_ (fun _=>?_) (fun _=>?_))<;>(conv=>whnf)));refine RetS.mk [(NK,7)] [NK] rfl rfl ⟨rfl,rfl,rfl,rfl,rfl,rfl⟩ ⟨⟨rfl,rfl,rfl,rfl⟩,trivial⟩
theorem s_clone_own (rows:List (List C)) (lo n:Nat) (hn:0<n) (hl:lo+n<=rows.length) (h:rows.length<=1000):CallS Try.prog 35 [.d (.arr FK 41 2 lo n)] [(FK,.darr 41 2 (rows.map (List.map D.c)))] [] (.d (.arr NK 41 2 0 n)) [(NK,.darr 41 2 (((rows.drop lo).take n).map (List.map D.c)))]:=by
 have hlm:(rows.map (List.map D.c)).length=rows.length:=length_map _;refine callS_of Try.func35 (by rfl) rfl (by kernel_rfl) (by rfl) [FK] rfl ?_;((conv=>whnf);repeat' ((first|(with_reducible first|apply a_|apply b_|apply c_)|((with_reducible first|apply d_|apply e_|apply f_|apply g_);focus first|omega|(simp only[q_]<;>omega))|((with_reducible first|apply i_|apply h_);focus first|omega|(simp only[q_]<;>omega))|((with_reducible apply h_);focus first|decide|kernel_rfl)|refine s_ (by decide) ?_|refine t_ (by decide) ?_|(refine EmpOr.emp ?_)|with_reducible first|apply l_|apply m_|apply n_|apply o_|refine p_ (fun _=>?_) (fun _=>?_))<;>(conv=>whnf)));refine Need.by3 24 rfl (by dsimp only;omega) ?_;((conv=>whnf);repeat' ((first|(with_reducible first|apply a_|apply b_|apply c_)|((with_reducible first|apply d_|apply e_|apply f_|apply g_);focus first|omega|(simp only[q_]<;>omega))|((with_reducible first|apply i_|apply h_);focus first|omega|(simp only[q_]<;>omega))|((with_reducible apply h_);focus first|decide|kernel_rfl)|refine s_ (by decide) ?_|refine t_ (by decide) ?_|with_reducible first|apply l_|apply m_|apply n_|apply o_|refine p_ (fun _=>?_) (fun _=>?_))<;>(conv=>whnf)));refine RetS.mk [(FK,FK),(NK,7)] [FK,NK] rfl rfl ⟨rfl,rfl,rfl,rfl,rfl,rfl⟩ ⟨⟨rfl,⟨rfl,rfl,dless_cs _⟩⟩,⟨rfl,⟨rfl,rfl,?_⟩⟩,trivial⟩;dsimp only;rw[<- map_drop,<- map_take];exact dless_cs _
end
end Go.Proofs.Ytdjbckknghddpaa.Pm
