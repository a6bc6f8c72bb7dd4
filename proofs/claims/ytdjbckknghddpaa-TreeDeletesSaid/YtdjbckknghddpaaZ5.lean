/- Parts of the proof, one behind the other: PtLeaf PtSeek PtAt PtPairs PtValid PtData PtChk PtDel PtDel2 PtDel3 PtFind. Conditions: none beyond what each theorem says. -/
import Derived.Test.YtdjbckknghddpaaZ4
open List (any_eq_true append_assoc append_of_mem concat_eq_append cons_append drop_append drop_length drop_of_length_le drop_zero eq_nil_of_length_eq_zero eq_nil_or_concat filter_append filter_cons_of_neg filter_cons_of_pos filter_eq_nil_iff filter_eq_self flatMap_append flatMap_cons flatten_append flatten_cons flatten_nil length_append length_cons length_drop length_eq_one_iff length_filter_le length_map length_nil length_pos_iff length_set length_singleton length_take map_append map_congr_left map_cons map_id map_map map_nil map_take mem_append mem_append_left mem_append_right mem_cons mem_cons_of_mem mem_cons_self mem_filter mem_flatMap mem_flatten mem_map mem_of_mem_drop mem_of_mem_take mem_singleton nil_append not_mem_nil pairwise_cons pairwise_flatten pairwise_singleton set_append_right singleton_append sum_append sum_cons sum_singleton take_append_drop take_left' take_length take_nil take_of_length_le take_succ_cons take_zero)
open Nat (add_zero eq_or_lt_of_le eq_zero_or_pos le_trans lt_or_ge lt_succ_self lt_trichotomy min_eq_left mul_one not_lt_zero pow_succ sub_self zero_add zero_le zero_lt_one zero_lt_succ)
open Option (getD_some)
set_option linter.unusedVariables false
set_option linter.unusedSimpArgs false
set_option maxRecDepth 100000
namespace Go.Proofs.Ytdjbckknghddpaa.Pm
section
open Go.RowKit K
open Tr
def firstK (L:List (List PairD)) (U:List (List Nat)) (lv k:Nat):List UInt8:=((L.getD (firstF U lv k) []).headD ⟨[],0⟩).Key
def scanF (fk:Nat->List UInt8) (key:List UInt8):Nat->Nat->Nat->Nat
 | _,0,at_=>at_|k,c+1,at_=>scanF fk key (k+1) c (if ¬key<fk k then k else at_)
def leafF (L:List (List PairD)) (U:List (List Nat)) (key:List UInt8):Nat->Nat->Nat
 | 0,at_=>at_|l+1,at_=>leafF L U key l (scanF (firstK L U l) key (((U.getD l []).take at_).sum+1) ((U.getD l []).getD at_ 0 - 1) ((U.getD l []).take at_).sum)
theorem scanF_lt (fk:Nat->List UInt8) (key:List UInt8) (N:Nat):∀(k c at_:Nat),at_<N->k+c<=N->scanF fk key k c at_<N
 | k,0,at_,h,_=>h|k,c+1,at_,h,hc=>by
  rw[scanF];refine scanF_lt fk key N (k+1) c _ ?_ (by omega);split
  ·omega
  ·exact h
theorem node_take {u:List Nat} {a:Nat} (h:a<u.length) (hp:0<u[a]):nodeF u (u.take a).sum=a:=by
 have e:u.take a++u[a]::u.drop (a+1)=u:=by rw[<- List.drop_eq_getElem_cons h,take_append_drop]
 have h1:=nodeF_at (u.drop (a+1)) hp (u.take a);rw[e,add_zero,length_take,min_eq_left (by omega)] at h1;exact h1
theorem sum_part {u:List Nat} {a:Nat} (h:a<u.length):(u.take a).sum+u[a]<=u.sum:=by
 have e:u.take a++u[a]::u.drop (a+1)=u:=by rw[<- List.drop_eq_getElem_cons h,take_append_drop]
 have h1:=congrArg List.sum e;rw[sum_append,sum_cons] at h1;omega
set_option maxHeartbeats 1000000 in
theorem p_leaf (L:List (List PairD)) (U:List (List Nat)) (hv:OkT L U) (ht:lenAt L U U.length=1) (key:List UInt8) (hL:∀l∈L,∀p∈l,p.ok) :
  Pure Try.prog 14 [roV L U,pStr (tx key)] (pInt .i64 (leafF L U key U.length 0)):=by
 have hd:=hv.deep;have hUl:(upC U).length=U.length:=by unfold upC;exact length_map _
 refine pure_of Try.func14 (by rfl) rfl (by kernel_rfl) (by rfl) ?_;((conv=>whnf);repeat' ((first|(with_reducible first|apply a_|apply b_|apply c_)|((with_reducible first|apply d_|apply e_|apply f_|apply g_|apply h_);first|omega|simp only[q_]<;>omega)|((with_reducible apply i_);first|omega|simp only[q_]<;>omega)|((with_reducible apply h_);first|decide|kernel_rfl)|refine s_ (by decide) ?_|refine t_ (by decide) ?_|with_reducible first|apply l_|apply m_|apply n_|apply o_|refine p_ (fun _=>?_) (fun _=>?_))<;>conv=>whnf));refine LoopC.mk (Nat×Nat) (fun s=>[(0,roV L U),(1,pStr (tx key)),(5,pInt .i64 s.2),(6,pInt .i64 ((s.1:Int) - 1))]) (fun _=>[]) [] (fun s=>s.1<=U.length/\s.2<lenAt L U s.1/\leafF L U key U.length 0=leafF L U key s.1 s.2) (fun s=>s.1) (U.length,0) ⟨Nat.le_refl _,by rw[ht];exact zero_lt_one,rfl⟩ ?start ?round
 case start=>exact⟨[],rfl,rfl,⟨.inl rfl,.inl rfl,.inl rfl,PLe.int (by rw[hUl]),trivial⟩,trivial⟩
 case round=>
  rintro⟨l,a⟩ ⟨h1,h2,h3⟩;have h1:l<=U.length:=h1;have h2:a<lenAt L U l:=h2;have h3:leafF L U key U.length 0=leafF L U key l a:=h3;have hsm:=hv.small l h1;cases l with
  | zero=>
   rw[h3,leafF];((conv=>whnf);repeat' ((first|(with_reducible first|apply a_|apply b_|apply c_)|((with_reducible first|apply d_|apply e_|apply f_|apply g_|apply h_);first|omega|simp only[q_]<;>omega)|((with_reducible apply i_);first|omega|simp only[q_]<;>omega)|((with_reducible apply h_);first|decide|kernel_rfl)|refine s_ (by decide) ?_|refine t_ (by decide) ?_|with_reducible first|apply l_|apply m_|apply n_|apply o_|refine p_ (fun _=>?_) (fun _=>?_))<;>conv=>whnf));all_goals first|exact Ret.int rfl | (exfalso;omega)
  | succ l=>
   have hlU:l<U.length:=h1;obtain⟨u,hu⟩:∃u,u=U.getD l []:=⟨_,rfl⟩;have hue:u=U[l]:=by rw[hu,List.getD_eq_getElem?_getD,List.getElem?_eq_getElem hlU];rfl
   have hrow:(upC U)[l]? = some [.sl 1 (u.map natC)]:=by
    unfold upC;rw[List.getElem?_map,List.getElem?_eq_getElem hlU,hue];rfl
   have hal:a<u.length:=by rw[hu];exact h2
   have hst:=hv.step (kid:=a) hlU;have hsm2:=hv.small l (by omega);have hus:u.sum=lenAt L U l:=by rw[hue];exact hv.sums l hlU
   have hul0:u.length<=64:=by rw[hu];exact hsm
   rw[<- hu] at hst;have hpos:=hv.pos u (by rw[hue];exact List.getElem_mem hlU) u[a] (List.getElem_mem hal);have hgd:u.getD a 0=u[a]:=by rw[List.getD_eq_getElem?_getD,List.getElem?_eq_getElem hal];rfl
   rw[leafF,<- hu,hgd] at h3;have hul:(u.map natC).length=u.length:=length_map _;have hspart:=sum_part hal;obtain⟨fr,hfr⟩:∃fr,fr=(u.take a).sum:=⟨_,rfl⟩;have pn:=p_node L U l hlU fr (by rw[<- hue];omega) (by omega) (by rw[<- hue];omega);rw[<- hue,show nodeF u fr=a by rw[hfr];exact node_take hal (by omega)] at pn;((conv=>whnf);repeat' ((first|(with_reducible first|apply a_|apply b_|apply c_)|((with_reducible first|apply d_|apply e_|apply f_|apply g_|apply h_);first|omega|simp only[q_]<;>omega)|((with_reducible apply i_);first|omega|simp only[q_]<;>omega)|((with_reducible apply h_);first|decide|kernel_rfl)|refine s_ (by decide) ?_|refine t_ (by decide) ?_|(refine Idx.at' hrow (by omega) ?_)|with_reducible first|apply l_|apply m_|apply n_|apply o_|refine p_ (fun _=>?_) (fun _=>?_))<;>conv=>whnf));refine LoopC.mk Nat (fun i=>[(0,roV L U),(1,pStr (tx key)),(5,pInt .i64 a),(6,pInt .i64 (l:Int)),(7,pInt .i64 ((u.take a).take i).sum),(31,.d (.c (.sl 1 ((u.take a).map natC)))),(32,pInt .i64 a),(33,pInt .i64 i)]) (fun _=>[]) [] (fun i=>i<=a) (fun i=>a - i) 0 (zero_le _) ?start2 ?round2
   case start2=>exact⟨[],rfl,rfl,⟨.inl rfl,.inl rfl,.inl rfl,PLe.int (by omega),PLe.int (by simp),PLe.c (by simp[map_take]),PLe.int (by simp;omega),.inl rfl,trivial⟩,trivial⟩
   case round2=>
    intro i hi;have hi:i<=a:=hi;have htl:(u.take a).length=a:=by rw[length_take];omega
    have hs1:=sum_take_le (u.take a) i;by_cases hiq:i<a
    ·have hit:i<(u.take a).length:=by omega
     have hs2:((u.take a).take (i+1)).sum=((u.take a).take i).sum+(u.take a)[i]:=by
      rw[List.take_succ_eq_append_getElem hit,sum_append,sum_singleton]
     have hs3:=sum_take_le (u.take a) (i+1);((conv=>whnf);repeat' ((first|(with_reducible first|apply a_|apply b_|apply c_)|((with_reducible first|apply d_|apply e_|apply f_|apply g_|apply h_);first|omega|simp only[q_]<;>omega)|((with_reducible apply i_);first|omega|simp only[q_]<;>omega)|((with_reducible apply h_);first|decide|kernel_rfl)|refine s_ (by decide) ?_|refine t_ (by decide) ?_|(refine Idx.mapI (f:=natC) i rfl hit ?_)|with_reducible first|apply l_|apply m_|apply n_|apply o_|refine p_ (fun _=>?_) (fun _=>?_))<;>conv=>whnf));all_goals first|(exfalso;omega)|skip
     exact⟨i+1,hiq,by show a - (i+1)<a - i;omega,[],rfl,rfl,⟨.inl rfl,.inl rfl,.inl rfl,.inl rfl,PLe.int (by show _=(((u.take a).take (i+1)).sum:Int);rw[hs2];simp),.inl rfl,.inl rfl,PLe.int (by show _=((i+1:Nat):Int);omega),trivial⟩,trivial⟩
    ·have e:(u.take a).take i=u.take a:=take_of_length_le (by omega);rw[e,<- hfr];rw[<- hfr] at h3 hspart hs1 hst;((conv=>whnf);repeat' ((first|(with_reducible first|apply a_|apply b_|apply c_)|((with_reducible first|apply d_|apply e_|apply f_|apply g_|apply h_);first|omega|simp only[q_]<;>omega)|((with_reducible apply i_);first|omega|simp only[q_]<;>omega)|((with_reducible apply h_);first|decide|kernel_rfl)|refine s_ (by decide) ?_|refine t_ (by decide) ?_|with_reducible first|apply l_|apply m_|apply n_|apply o_|refine p_ (fun _=>?_) (fun _=>?_))<;>conv=>whnf));all_goals first|(exfalso;omega)|skip
     refine LoopC.mk (Nat×Nat) (fun s=>[(0,roV L U),(1,pStr (tx key)),(5,pInt .i64 s.2),(6,pInt .i64 (l:Int)),(7,pInt .i64 fr),(10,pInt .i64 ((fr+1+s.1:Nat):Int))]) (fun _=>[]) []
      (fun s=>s.1<=u[a] - 1/\s.2<lenAt L U l/\leafF L U key U.length 0=leafF L U key l (scanF (firstK L U l) key (fr+1+s.1) (u[a] - 1 - s.1) s.2)) (fun s=>u[a] - 1 - s.1) (0,fr) ⟨zero_le _,by show fr<_;omega,h3⟩ ?start3 ?round3
     case start3=>exact⟨[],rfl,rfl,⟨.inl rfl,.inl rfl,.inl rfl,.inl rfl,.inl rfl,PLe.int (by show _=((fr+1+0:Nat):Int);omega),trivial⟩,trivial⟩
     case round3=>
      rintro⟨k,b⟩ ⟨g1,g2,g3⟩;have g1:k<=u[a] - 1:=g1;have g2:b<lenAt L U l:=g2;have g3:leafF L U key U.length 0=leafF L U key l (scanF (firstK L U l) key (fr+1+k) (u[a] - 1 - k) b):=g3;by_cases hk:k<u[a] - 1
      ·have hfl:=first_lt hv (l:=l) (kid:=fr+1+k) (by omega) (by omega);obtain⟨fi,hfi⟩:∃fi,fi=firstF U l (fr+1+k):=⟨_,rfl⟩;have pf:=p_first L U hv l (by omega) (fr+1+k) (by omega);rw[<- hfi] at pf hfl;have hLr:(lvC L)[fi]? = some [.sl 2 (L[fi].map PairD.c)]:=by
        unfold lvC;rw[List.getElem?_map,List.getElem?_eq_getElem hfl];rfl
       have hl0:=(hv.leaf L[fi] (List.getElem_mem hfl)).1;have hfk:firstK L U l (fr+1+k)=(L[fi])[0].Key:=by
        unfold firstK;rw[<- hfi,List.getD_eq_getElem?_getD,List.getElem?_eq_getElem hfl,getD_some,List.headD_eq_head?_getD,List.head?_eq_getElem?,List.getElem?_eq_getElem hl0];rfl
       rw[show u[a] - 1 - k=(u[a] - 1 - (k+1))+1 by omega,scanF,hfk] at g3;obtain⟨x,hx⟩:∃x,x=(L[fi])[0].Key:=⟨_,rfl⟩;rw[<- hx] at g3;rcases lt_tri x key with hc | hc | hc
       ·rw[if_pos (lt_asym hc)] at g3;have hb:Op.bytesLess (tx (L[fi])[0].Key).toList (tx key).toList=true:=by rw[<- hx,less_tx];exact decide_eq_true hc
        ((conv=>whnf);repeat' ((first|(with_reducible first|apply a_|apply b_|apply c_)|((with_reducible first|apply d_|apply e_|apply f_|apply g_|apply h_);first|omega|simp only[q_]<;>omega)|((with_reducible apply i_);first|omega|simp only[q_]<;>omega)|((with_reducible apply h_);first|decide|kernel_rfl)|refine s_ (by decide) ?_|refine t_ (by decide) ?_|(refine Idx.at' hrow (by omega) ?_)|refine r_ pn rfl ?_|(refine Idx.mapI (f:=natC) a rfl hal ?_)|refine r_ pf rfl ?_|(refine Idx.at' hLr rfl ?_)|(refine Idx.mapI (f:=PairD.c) 0 rfl hl0 ?_)|(refine BCase.t hb ?_)|with_reducible first|apply l_|apply m_|apply n_|apply o_|refine p_ (fun _=>?_) (fun _=>?_))<;>conv=>whnf));all_goals first|(exfalso;omega)|skip
        exact⟨(k+1,fr+1+k),⟨by show k+1<=u[a] - 1;omega,by show fr+1+k<lenAt L U l;omega,g3⟩,by show u[a] - 1 - (k+1)<u[a] - 1 - k;omega,[],rfl,rfl,⟨.inl rfl,.inl rfl,.inl rfl,.inl rfl,.inl rfl,PLe.int (by show _=((fr+1+(k+1):Nat):Int);omega),trivial⟩,trivial⟩
       ·rw[if_pos (by rw[hc];exact lt_irr _)] at g3;have hb:Op.bytesLess (tx (L[fi])[0].Key).toList (tx key).toList=false:=by rw[<- hx,less_tx,hc];exact decide_eq_false (lt_irr _)
        have hb2:decide (tx (L[fi])[0].Key=tx key)=true:=by rw[<- hx,hc];exact decide_eq_true rfl
        ((conv=>whnf);repeat' ((first|(with_reducible first|apply a_|apply b_|apply c_)|((with_reducible first|apply d_|apply e_|apply f_|apply g_|apply h_);first|omega|simp only[q_]<;>omega)|((with_reducible apply i_);first|omega|simp only[q_]<;>omega)|((with_reducible apply h_);first|decide|kernel_rfl)|refine s_ (by decide) ?_|refine t_ (by decide) ?_|(refine Idx.at' hrow (by omega) ?_)|refine r_ pn rfl ?_|(refine Idx.mapI (f:=natC) a rfl hal ?_)|refine r_ pf rfl ?_|(refine Idx.at' hLr rfl ?_)|(refine Idx.mapI (f:=PairD.c) 0 rfl hl0 ?_)|(refine BCase.f hb ?_)|(refine BCase.t hb2 ?_)|with_reducible first|apply l_|apply m_|apply n_|apply o_|refine p_ (fun _=>?_) (fun _=>?_))<;>conv=>whnf));all_goals first|(exfalso;omega)|skip
        exact⟨(k+1,fr+1+k),⟨by show k+1<=u[a] - 1;omega,by show fr+1+k<lenAt L U l;omega,g3⟩,by show u[a] - 1 - (k+1)<u[a] - 1 - k;omega,[],rfl,rfl,⟨.inl rfl,.inl rfl,.inl rfl,.inl rfl,.inl rfl,PLe.int (by show _=((fr+1+(k+1):Nat):Int);omega),trivial⟩,trivial⟩
       ·rw[if_neg (fun h=>h hc)] at g3;have hb:Op.bytesLess (tx (L[fi])[0].Key).toList (tx key).toList=false:=by rw[<- hx,less_tx];exact decide_eq_false (lt_asym hc)
        have hb2:decide (tx (L[fi])[0].Key=tx key)=false:=by
         rw[<- hx];refine decide_eq_false fun e=>?_;rw[tx_eq] at e;rw[e] at hc;exact lt_irr _ hc
        ((conv=>whnf);repeat' ((first|(with_reducible first|apply a_|apply b_|apply c_)|((with_reducible first|apply d_|apply e_|apply f_|apply g_|apply h_);first|omega|simp only[q_]<;>omega)|((with_reducible apply i_);first|omega|simp only[q_]<;>omega)|((with_reducible apply h_);first|decide|kernel_rfl)|refine s_ (by decide) ?_|refine t_ (by decide) ?_|(refine Idx.at' hrow (by omega) ?_)|refine r_ pn rfl ?_|(refine Idx.mapI (f:=natC) a rfl hal ?_)|refine r_ pf rfl ?_|(refine Idx.at' hLr rfl ?_)|(refine Idx.mapI (f:=PairD.c) 0 rfl hl0 ?_)|(refine BCase.f hb ?_)|(refine BCase.f hb2 ?_)|with_reducible first|apply l_|apply m_|apply n_|apply o_|refine p_ (fun _=>?_) (fun _=>?_))<;>conv=>whnf));all_goals first|(exfalso;omega)|skip
        exact⟨(k+1,b),⟨by show k+1<=u[a] - 1;omega,by show b<lenAt L U l;omega,g3⟩,by show u[a] - 1 - (k+1)<u[a] - 1 - k;omega,[],rfl,rfl,⟨.inl rfl,.inl rfl,.inl rfl,.inl rfl,.inl rfl,PLe.int (by show _=((fr+1+(k+1):Nat):Int);omega),trivial⟩,trivial⟩
      ·rw[show u[a] - 1 - k=0 by omega,scanF] at g3;((conv=>whnf);repeat' ((first|(with_reducible first|apply a_|apply b_|apply c_)|((with_reducible first|apply d_|apply e_|apply f_|apply g_|apply h_);first|omega|simp only[q_]<;>omega)|((with_reducible apply i_);first|omega|simp only[q_]<;>omega)|((with_reducible apply h_);first|decide|kernel_rfl)|refine s_ (by decide) ?_|refine t_ (by decide) ?_|(refine Idx.at' hrow (by omega) ?_)|refine r_ pn rfl ?_|(refine Idx.mapI (f:=natC) a rfl hal ?_)|with_reducible first|apply l_|apply m_|apply n_|apply o_|refine p_ (fun _=>?_) (fun _=>?_))<;>conv=>whnf));all_goals first|(exfalso;omega)|skip
       exact⟨(l,b),⟨by show l<=U.length;omega,g2,g3⟩,by show l<l+1;omega,[],rfl,rfl,⟨.inl rfl,.inl rfl,.inl rfl,.inl rfl,trivial⟩,trivial⟩
end
section
open Go.RowKit K
open Tr
namespace Tr
set_option maxRecDepth 100000 in
theorem cmpstring_any (a b:ByteArray) (w:World):Calls Try.prog 58 #[.string a,.string b] w fun e w'=>e=.returned (.int .i64 (Lib.compareBytes a.data.toList b.data.toList))/\w=w':=by
 go_enter Try.func58,Try.ntmps58
 go_wp2
 rw[run_callFunc_extern Try.func73 (by kernel_rfl) (by kernel_rfl) (by kernel_rfl) (e:=Extern.BytealgCompare.compare) (by kernel_rfl),Lib.run_compareString];simp only[Result.andThen];rw[Oper.upon_value]
 go_wp2
 go_ret
 exact⟨rfl,rfl⟩
theorem cmp_string (a b:ByteArray) (w:World):Calls Try.prog 41 #[.string a,.string b] w fun e w'=>e=.returned (.int .i64 (Lib.compareBytes a.data.toList b.data.toList))/\w=w':=by
 go_enter Try.func41,Try.ntmps41
 go_wp2_with (go_at_call 58;refine (cmpstring_any _ _ _).mono ?_;rintro e w' ⟨rfl,rfl⟩)
 go_ret
 exact⟨rfl,rfl⟩
end Tr
theorem p_cmpstr (a b:List UInt8):Pure Try.prog 41 [pStr (tx a),pStr (tx b)] (pInt .i64 (Lib.compareBytes a b)):=by
 refine pure_hand (vs:=[.string (tx a),.string (tx b)]) ⟨_,Try.func41,by rfl,by rfl⟩ fun w hG=>?_;refine (cmp_string (tx a) (tx b) w).mono ?_;rintro e w' ⟨rfl,rfl⟩;exact⟨_,rfl,Below.refl _ _,fun F _=>rep_int _ _⟩
abbrev prV (p:PairD):PV:=.agg (p.c.map D.c)
abbrev lfV (l:List PairD):PV:=.d (.c (.sl 2 (l.map PairD.c)))
abbrev fnP (f:FuncId):PV:=.d (.c (.v (.func (.func f) #[] #[])))
theorem p_seek1 (p:PairD) (key:List UInt8):Pure Try.prog 40 [prV p,pStr (tx key)] (pInt .i64 (Lib.compareBytes p.Key key)):=by
 have pc:=p_cmpstr p.Key key;refine pure_of Try.func40 (by rfl) rfl (by kernel_rfl) (by rfl) ?_;((conv=>whnf);repeat' ((first|(with_reducible first|apply a_|apply b_|apply c_)|((with_reducible first|apply d_|apply e_|apply f_|apply g_|apply h_);first|omega|simp only[q_]<;>omega)|((with_reducible apply i_);first|omega|simp only[q_]<;>omega)|((with_reducible apply h_);first|decide|kernel_rfl)|refine s_ (by decide) ?_|refine t_ (by decide) ?_|refine r_ pc rfl ?_|with_reducible first|apply l_|apply m_|apply n_|apply o_|refine p_ (fun _=>?_) (fun _=>?_))<;>conv=>whnf));all_goals first|exact Ret.int rfl|exact Ret.mk rfl
def Asc (l:List PairD):Prop:=l.Pairwise fun a b=>a.Key<b.Key
def posF (l:List PairD) (key:List UInt8):Nat:=(l.filter fun q=>decide (ltT q.Key key)).length
theorem Asc.lt {l:List PairD} (h:Asc l) {i j:Nat} (hj:j<l.length) (hi:i<j):(l[i]'(by omega)).Key<l[j].Key:=List.pairwise_iff_getElem.1 h i j (by omega) hj hi
theorem pos_at {l:List PairD} {key:List UInt8} {i:Nat} (h1:∀m (h:m<l.length),m<i->l[m].Key<key) (h2:∀m (h:m<l.length),i<=m->¬l[m].Key<key) (hi:i<=l.length):l.filter (fun q=>decide (ltT q.Key key))=l.take i:=by
 conv=>lhs;rw[<- take_append_drop i l]
 rw[filter_append,filter_eq_self.2,filter_eq_nil_iff.2,List.append_nil]
 ·intro q hq;obtain⟨m,hm,rfl⟩:=List.getElem_of_mem hq;rw[length_drop] at hm;rw[List.getElem_drop];have:=h2 (i+m) (by omega) (by omega);simpa using this
 ·intro q hq;obtain⟨m,hm,rfl⟩:=List.getElem_of_mem hq;rw[length_take] at hm;rw[List.getElem_take];have:=h1 m (by omega) (by omega);simpa using this
theorem posF_at {l:List PairD} {key:List UInt8} {i:Nat} (h1:∀m (h:m<l.length),m<i->l[m].Key<key) (h2:∀m (h:m<l.length),i<=m->¬l[m].Key<key) (hi:i<=l.length):posF l key=i:=by
 unfold posF;rw[pos_at h1 h2 hi,length_take];omega
def hitF (l:List PairD) (key:List UInt8):Bool:=l.any fun q=>decide (q.Key=key)
theorem hit_at {l:List PairD} (ha:Asc l) {key:List UInt8} {i:Nat} (h1:∀m (h:m<l.length),m<i->l[m].Key<key) (h2:∀m (h:m<l.length),i<=m->¬l[m].Key<key):hitF l key=decide (∃h:i<l.length,l[i].Key=key):=by
 unfold hitF;rw[Bool.eq_iff_iff,any_eq_true,decide_eq_true_iff];constructor
 ·rintro⟨q,hq,he⟩;have he:=of_decide_eq_true he;obtain⟨m,hm,rfl⟩:=List.getElem_of_mem hq;rcases lt_trichotomy m i with h | h | h
  ·have:=h1 m hm h;rw[he] at this;exact absurd this (lt_irr _)
  ·subst h;exact⟨hm,he⟩
  ·have h3:=ha.lt hm h;rw[he] at h3;exact absurd h3 (h2 i (by omega) (Nat.le_refl _))
 ·rintro⟨h,he⟩;exact⟨_,List.getElem_mem h,decide_eq_true he⟩
theorem p_bsearch (l:List PairD) (ha:Asc l) (hl:l.length<=1000) (key:List UInt8):Pure Try.prog 39 [lfV l,pStr (tx key),fnP 40] (.tup [pInt .i64 (posF l key),pBool (hitF l key)]):=by
 refine pure_of Try.func39 (by rfl) rfl (by kernel_rfl) (by rfl) ?_;((conv=>whnf);repeat' ((first|(with_reducible first|apply a_|apply b_|apply c_)|((with_reducible first|apply d_|apply e_|apply f_|apply g_|apply h_);first|omega|simp only[q_]<;>omega)|((with_reducible apply i_);first|omega|simp only[q_]<;>omega)|((with_reducible apply h_);first|decide|kernel_rfl)|refine s_ (by decide) ?_|refine t_ (by decide) ?_|with_reducible first|apply l_|apply m_|apply n_|apply o_|refine p_ (fun _=>?_) (fun _=>?_))<;>conv=>whnf));refine LoopC.mk (Nat×Nat) (fun s=>[(0,lfV l),(1,pStr (tx key)),(2,fnP 40),(8,pInt .i64 l.length),(9,pInt .i64 s.1),(10,pInt .i64 s.2)]) (fun _=>[]) []
  (fun s=>s.1<=s.2/\s.2<=l.length/\(∀m (h:m<l.length),m<s.1->l[m].Key<key)/\∀m (h:m<l.length),s.2<=m->¬l[m].Key<key) (fun s=>s.2 - s.1) (0,l.length) ⟨zero_le _,Nat.le_refl _,fun m _ h=>absurd h (not_lt_zero m),fun m h g=>absurd h (Nat.not_lt.2 g)⟩ ?start ?round
 case start=>exact⟨[],rfl,rfl,⟨.inl rfl,.inl rfl,.inl rfl,PLe.int (by rw[length_map]),.inl rfl,PLe.int (by rw[length_map]),trivial⟩,trivial⟩
 case round=>
  rintro⟨i,j⟩ ⟨h1,h2,h3,h4⟩;have h1:i<=j:=h1;have h2:j<=l.length:=h2;have h3:∀m (h:m<l.length),m<i->l[m].Key<key:=h3;have h4:∀m (h:m<l.length),j<=m->¬l[m].Key<key:=h4;by_cases hij:i<j
  ·obtain⟨m,hm⟩:∃m,m=(i+j) / 2:=⟨_,rfl⟩;have hfd:((i:Int)+(j:Int)).fdiv (2^min (Int.toNat 1) IntKind.u64.bits)=(m:Int):=by
    show ((i:Int)+(j:Int)).fdiv 2=_;rw[Int.fdiv_eq_ediv_of_nonneg _ (by decide)];omega
   have hml:m<l.length:=by omega
   have ps:=p_seek1 l[m] key;have hci:=(cmp_iff l[m].Key key).1;by_cases hc:l[m].Key<key
   ·have hcb:=hci.2 hc;((conv=>whnf);repeat' ((first|(with_reducible first|apply a_|apply b_|apply c_)|((with_reducible first|apply d_|apply e_|apply f_|apply g_|apply h_);first|omega|simp only[q_]<;>omega)|((with_reducible apply i_);first|omega|simp only[q_]<;>omega)|((with_reducible apply h_);first|decide|kernel_rfl)|refine s_ (by decide) ?_|refine t_ (by decide) ?_|(refine Idx.mapI (f:=PairD.c) m hfd hml ?_)|refine r_ ps rfl ?_|with_reducible first|apply l_|apply m_|apply n_|apply o_|refine p_ (fun _=>?_) (fun _=>?_))<;>conv=>whnf));all_goals first|(exfalso;omega)|skip
    refine⟨(m+1,j),⟨by show m+1<=j;omega,h2,fun k hk hkm=>?_,h4⟩,by show j - (m+1)<j - i;omega,[],rfl,rfl,⟨.inl rfl,.inl rfl,.inl rfl,.inl rfl,PLe.int (by dsimp only;omega),.inl rfl,trivial⟩,trivial⟩;have hkm:k<m+1:=hkm;rcases lt_or_ge k m with h | h
    ·exact lt_tr (ha.lt hml h) hc
    ·have:k=m:=by omega
     subst this;exact hc
   ·have hcb:¬Lib.compareBytes l[m].Key key<0:=fun h=>hc (hci.1 h);((conv=>whnf);repeat' ((first|(with_reducible first|apply a_|apply b_|apply c_)|((with_reducible first|apply d_|apply e_|apply f_|apply g_|apply h_);first|omega|simp only[q_]<;>omega)|((with_reducible apply i_);first|omega|simp only[q_]<;>omega)|((with_reducible apply h_);first|decide|kernel_rfl)|refine s_ (by decide) ?_|refine t_ (by decide) ?_|(refine Idx.mapI (f:=PairD.c) m hfd hml ?_)|refine r_ ps rfl ?_|with_reducible first|apply l_|apply m_|apply n_|apply o_|refine p_ (fun _=>?_) (fun _=>?_))<;>conv=>whnf));all_goals first|(exfalso;omega)|skip
    refine⟨(i,m),⟨by show i<=m;omega,by show m<=l.length;omega,h3,fun k hk hkm=>?_⟩,by show m - i<j - i;omega,[],rfl,rfl,⟨.inl rfl,.inl rfl,.inl rfl,.inl rfl,.inl rfl,PLe.int hfd,trivial⟩,trivial⟩;have hkm:m<=k:=hkm;intro hlt;rcases lt_or_ge m k with h | h
    ·exact hc (lt_tr (ha.lt hk h) hlt)
    ·have:k=m:=by omega
     subst this;exact hc hlt
  ·have e:i=j:=by omega
   subst e;rw[posF_at h3 h4 h2,hit_at ha h3 h4];by_cases hil:i<l.length
   ·have ps:=p_seek1 l[i] key;have hci:=(cmp_iff l[i].Key key).2;have hd:decide (∃h:i<l.length,l[i].Key=key)=decide (Lib.compareBytes l[i].Key key=0):=by
     rw[decide_eq_decide];exact⟨fun ⟨h,e⟩=>hci.2 e,fun h=>⟨hil,hci.1 h⟩⟩
    rw[hd];((conv=>whnf);repeat' ((first|(with_reducible first|apply a_|apply b_|apply c_)|((with_reducible first|apply d_|apply e_|apply f_|apply g_|apply h_);first|omega|simp only[q_]<;>omega)|((with_reducible apply i_);first|omega|simp only[q_]<;>omega)|((with_reducible apply h_);first|decide|kernel_rfl)|refine s_ (by decide) ?_|refine t_ (by decide) ?_|(refine Idx.mapI (f:=PairD.c) i rfl hil ?_)|refine r_ ps rfl ?_|with_reducible first|apply l_|apply m_|apply n_|apply o_|refine p_ (fun _=>?_) (fun _=>?_))<;>conv=>whnf));all_goals first|(exfalso;omega)|exact Ret.mk rfl|skip
   ·have hd:decide (∃h:i<l.length,l[i].Key=key)=false:=decide_eq_false fun ⟨h,_⟩=>hil h;rw[hd];((conv=>whnf);repeat' ((first|(with_reducible first|apply a_|apply b_|apply c_)|((with_reducible first|apply d_|apply e_|apply f_|apply g_|apply h_);first|omega|simp only[q_]<;>omega)|((with_reducible apply i_);first|omega|simp only[q_]<;>omega)|((with_reducible apply h_);first|decide|kernel_rfl)|refine s_ (by decide) ?_|refine t_ (by decide) ?_|with_reducible first|apply l_|apply m_|apply n_|apply o_|refine p_ (fun _=>?_) (fun _=>?_))<;>conv=>whnf));all_goals first|(exfalso;omega)|exact Ret.mk rfl|skip
theorem p_seek (l:List PairD) (ha:Asc l) (hl:l.length<=1000) (key:List UInt8):Pure Try.prog 15 [lfV l,pStr (tx key)] (.tup [pInt .i64 (posF l key),pBool (hitF l key)]):=by
 have pb:=p_bsearch l ha hl key;refine pure_of Try.func15 (by rfl) rfl (by kernel_rfl) (by rfl) ?_;((conv=>whnf);repeat' ((first|(with_reducible first|apply a_|apply b_|apply c_)|((with_reducible first|apply d_|apply e_|apply f_|apply g_|apply h_);first|omega|simp only[q_]<;>omega)|((with_reducible apply i_);first|omega|simp only[q_]<;>omega)|((with_reducible apply h_);first|decide|kernel_rfl)|refine s_ (by decide) ?_|refine t_ (by decide) ?_|refine r_ pb rfl ?_|with_reducible first|apply l_|apply m_|apply n_|apply o_|refine p_ (fun _=>?_) (fun _=>?_))<;>conv=>whnf));all_goals first|exact Ret.mk rfl|skip
end
section
open Go.RowKit K
open Tr
namespace Tr
theorem set_midL {α:Type} {A B:List α} {s t:α}:(A++[s]++B).set A.length t=A++[t]++B:=set_mid
abbrev fkey (l:List PairD):List UInt8:=(l.headD ⟨[],0⟩).Key
structure IsAt (L:List (List PairD)) (key:List UInt8) (a:Nat):Prop where
 lt:a<L.length
 lo:a=0\/¬key<fkey (L.getD a [])
 hi:∀j,a<j->j<L.length->key<fkey (L.getD j [])
def Rise (L:List (List PairD)):Prop:=∀i j,i<j->j<L.length->fkey (L.getD i [])<fkey (L.getD j [])
theorem IsAt.uniq {L:List (List PairD)} {key:List UInt8} {a b:Nat} (ha:IsAt L key a) (hb:IsAt L key b):a=b:=by
 rcases lt_trichotomy a b with h | h | h
 ·have:=ha.hi b h hb.lt;rcases hb.lo with e | e
  ·omega
  ·exact absurd this e
 ·exact h
 ·have:=hb.hi a h ha.lt;rcases ha.lo with e | e
  ·omega
  ·exact absurd this e
theorem scanF_spec (fk:Nat->List UInt8) (key:List UInt8):∀(c k at_:Nat),(scanF fk key k c at_=at_/\∀m,k<=m->m<k+c->key<fk m)\/
  (k<=scanF fk key k c at_/\scanF fk key k c at_<k+c/\¬key<fk (scanF fk key k c at_)/\∀m,scanF fk key k c at_<m->m<k+c->key<fk m)
 | 0,k,at_=>.inl ⟨rfl,fun m h1 h2=>by omega⟩|c+1,k,at_=>by
  rw[scanF];rcases scanF_spec fk key c (k+1) (if ¬key<fk k then k else at_) with ⟨h1,h2⟩ | ⟨h1,h2,h3,h4⟩
  ·rw[h1];by_cases hk:¬key<fk k
   ·rw[if_pos hk];exact .inr ⟨Nat.le_refl _,by omega,hk,fun m h3 h4=>h2 m (by omega) (by omega)⟩
   ·rw[if_neg hk];refine .inl ⟨rfl,fun m h3 h4=>?_⟩;rcases eq_or_lt_of_le h3 with e | h
    ·subst e;exact Decidable.of_not_not hk
    ·exact h2 m (by omega) (by omega)
  ·exact .inr ⟨by omega,by omega,h3,fun m g1 g2=>h4 m g1 (by omega)⟩
theorem leafF_go {L:List (List PairD)} {U:List (List Nat)} (hv:OkT L U) (hR:Rise L) (key:List UInt8):∀(l a:Nat),l<=U.length->a<lenAt L U l->
  (firstF U l a=0\/¬key<fkey (L.getD (firstF U l a) []))->(∀j,firstF U l (a+1)<=j->j<L.length->key<fkey (L.getD j []))->IsAt L key (leafF L U key l a)
 | 0,a,_,ha,h1,h2=>⟨ha,h1,fun j h3 h4=>h2 j h3 h4⟩|l+1,a,hl,ha,h1,h2=>by
  have hlU:l<U.length:=hl;rw[leafF];obtain⟨u,hu⟩:∃u,u=U.getD l []:=⟨_,rfl⟩;have hue:u=U[l]:=by rw[hu,List.getD_eq_getElem?_getD,List.getElem?_eq_getElem hlU];rfl
  have hal:a<u.length:=by rw[hu];exact ha
  rw[firstF,<- hu] at h1;rw[firstF,<- hu] at h2;rw[<- hu];have hgd:u.getD a 0=u[a]:=by rw[List.getD_eq_getElem?_getD,List.getElem?_eq_getElem hal];rfl
  have hpos:=hv.pos u (by rw[hue];exact List.getElem_mem hlU) u[a] (List.getElem_mem hal);have hsum:=sum_part hal;have hus:u.sum=lenAt L U l:=by rw[hue];exact hv.sums l hlU
  have hs1:(u.take (a+1)).sum=(u.take a).sum+u[a]:=by rw[List.take_succ_eq_append_getElem hal,sum_append,sum_singleton]
  rw[hgd];rw[hs1] at h2;obtain⟨fr,hfr⟩:∃fr,fr=(u.take a).sum:=⟨_,rfl⟩;rw[<- hfr] at h1 h2 hsum ⊢;have hb:scanF (firstK L U l) key (fr+1) (u[a] - 1) fr<lenAt L U l:=scanF_lt _ _ _ _ _ _ (by omega) (by omega);have hfk:∀m,firstK L U l m=fkey (L.getD (firstF U l m) []):=fun m=>rfl;have hbo:∀m,fr+1<=m->m<fr+1+(u[a] - 1)->key<firstK L U l m->∀j,firstF U l m<=j->j<L.length->key<fkey (L.getD j []):=fun m g1 g2 g3 j g4 g5=>by
   rw[hfk] at g3;rcases eq_or_lt_of_le g4 with e | h
   ·rw[<- e];exact g3
   ·exact lt_tr g3 (hR _ j h g5)
  rcases scanF_spec (firstK L U l) key (u[a] - 1) (fr+1) fr with ⟨e,h3⟩ | ⟨h3,h4,h5,h6⟩
  ·rw[e];refine leafF_go hv hR key l fr (by omega) (by omega) h1 fun j h4 h5=>?_;by_cases hq:u[a]=1
   ·exact h2 j (by rw[hq];exact h4) h5
   ·exact hbo (fr+1) (Nat.le_refl _) (by omega) (h3 _ (Nat.le_refl _) (by omega)) j h4 h5
  ·refine leafF_go hv hR key l _ (by omega) hb (.inr (by rw[<- hfk];exact h5)) fun j h7 h8=>?_;by_cases hq:scanF (firstK L U l) key (fr+1) (u[a] - 1) fr+1=fr+u[a]
   ·rw[hq] at h7;exact h2 j h7 h8
   ·exact hbo _ (by omega) (by omega) (h6 _ (lt_succ_self _) (by omega)) j h7 h8
theorem leafF_at {L:List (List PairD)} {U:List (List Nat)} (hv:OkT L U) (hR:Rise L) (ht:lenAt L U U.length=1) (key:List UInt8):IsAt L key (leafF L U key U.length 0):=by
 have h0:∀l,firstF U l 0=0:=fun l=>by
  induction l with
  | zero=>rfl|succ l ih=>rw[firstF,take_zero];exact ih
 have h1:∀l,l<=U.length->firstF U l (lenAt L U l)=L.length:=fun l hl=>by
  induction l with
  | zero=>rfl|succ l ih=>
   have hlU:l<U.length:=hl;have hue:U.getD l []=U[l]:=by rw[List.getD_eq_getElem?_getD,List.getElem?_eq_getElem hlU];rfl
   rw[firstF,lenAt,take_length,hue,hv.sums l hlU];exact ih (by omega)
 refine leafF_go hv hR key _ _ (Nat.le_refl _) (by rw[ht];decide) (.inl (h0 _)) fun j h2 h3=>?_;have:=h1 U.length (Nat.le_refl _);rw[ht] at this;rw[this] at h2;omega
def dn:Nat->List Nest->List Nest
 | 0,F=>F|h+1,F=>dn h (F.flatMap Nest.kids)
theorem lvs_dn:∀(h:Nat) (F:List Nest),lvs h F=(dn h F).map Nest.pairs
 | 0,_=>rfl|h+1,F=>lvs_dn h _
theorem dn_out:∀(h:Nat) (F:List Nest),dn (h+1) F=(dn h F).flatMap Nest.kids
 | 0,_=>rfl|h+1,F=>dn_out h _
theorem lF_snoc (l r:List Nest):∀fs:Frs,lF (fs++[(l,r)])=dn fs.length l++lF fs
 | []=>by simp[lF,dn]
 | (a,b)::fs=>by
  rw[cons_append,lF,lF_snoc l r fs,flatMap_append,<- dn_out,length_cons,lF,append_assoc]
theorem leafI_succ {h:Nat} {n:Nest} {key:List UInt8}:leafI (h+1) n key=(lvs h (n.kids.take (kidF h n.kids key))).length+leafI h (n.kids.getD (kidF h n.kids key) noN) key:=by
 unfold leafI;rw[pathF,lF_snoc,path_len,length_append,lvs_dn,length_map]
theorem lvs_pos:∀(h:Nat) (n:Nest),sized h n->0<(lvs h [n]).length
 | 0,n,_=>zero_lt_one|h+1,n,hs=>by
  have e:[n].flatMap Nest.kids=n.kids:=by simp
  rw[lvs,e];cases hk:n.kids with
  | nil=>have:=hs.1;rw[hk] at this;exact absurd this (by decide)
  | cons k ks=>
   rw[show k::ks=[k]++ks from rfl,lvs_app,length_append];have:=lvs_pos h k (hs.2.2 k (by rw[hk];exact mem_cons_self));omega
theorem lvs_one (h:Nat) (n:Nest):lvs (h+1) [n]=lvs h n.kids:=by
 rw[lvs]
 congr 1
 simp
theorem firstN_at:∀(h:Nat) (n:Nest),sized h n->firstN h n=fkey ((lvs h [n]).getD 0 [])
 | 0,n,_=>rfl|h+1,n,hs=>by
  rw[lvs_one,firstN];cases hk:n.kids with
  | nil=>have:=hs.1;rw[hk] at this;exact absurd this (by decide)
  | cons k ks=>
   have h1:=hs.2.2 k (by rw[hk];exact mem_cons_self);show firstN h k=_;rw[show k::ks=[k]++ks from rfl,lvs_app,firstN_at h k h1];have:=lvs_pos h k h1;rw[List.getD_eq_getElem?_getD,List.getD_eq_getElem?_getD,List.getElem?_append_left this]
theorem kidA_spec (key:List UInt8):∀(xs:List (List UInt8)) (i a:Nat),(kidA key xs i a=a/\∀m (h:m<xs.length),1<=i+m->key<xs[m])\/
  ∃m,∃h:m<xs.length,kidA key xs i a=i+m/\1<=i+m/\¬key<xs[m]/\∀q (h:q<xs.length),m<q->key<xs[q]
 | [],i,a=>.inl ⟨rfl,fun m h=>absurd h (not_lt_zero m)⟩|x::xs,i,a=>by
  rw[kidA];rcases kidA_spec key xs (i+1) (if 1<=i/\¬ltT key x then i else a) with ⟨h1,h2⟩ | ⟨m,hm,h1,h2,h3,h4⟩
  ·rw[h1];by_cases hq:1<=i/\¬ltT key x
   ·rw[if_pos hq];refine .inr ⟨0,zero_lt_succ _,rfl,hq.1,hq.2,fun q h g=>?_⟩;cases q with
    | zero=>omega|succ q=>exact h2 q (by simpa using h) (by omega)
   ·rw[if_neg hq];refine .inl ⟨rfl,fun m h g=>?_⟩;cases m with
    | zero=>exact Decidable.of_not_not fun g2=>hq ⟨g,g2⟩
    | succ m=>exact h2 m (by simpa using h) (by omega)
  ·refine .inr ⟨m+1,by simpa using hm,by rw[h1];omega,by omega,h3,fun q h g=>?_⟩;cases q with
   | zero=>omega|succ q=>exact h4 q (by simpa using h) (by omega)
theorem kidF_spec {h:Nat} {ks:List Nest} (hk:ks≠[]) (key:List UInt8):(kidF h ks key=0\/¬key<firstN h (ks.getD (kidF h ks key) noN))/\∀m,kidF h ks key<m->m<ks.length->key<firstN h (ks.getD m noN):=by
 have hg:∀m (hm:m<ks.length),ks.getD m noN=ks[m]:=fun m hm=>by rw[List.getD_eq_getElem?_getD,List.getElem?_eq_getElem hm];rfl
 rcases kidA_spec key (ks.map (firstN h)) 0 0 with ⟨h1,h2⟩ | ⟨m,hm,h1,h2,h3,h4⟩
 ·refine⟨.inl h1,fun m h3 h4=>?_⟩;have:=h2 m (by simpa using h4) (by omega)
  rwa [List.getElem_map,<- hg m h4] at this
 ·have hm':m<ks.length:=by simpa using hm
  have e:kidF h ks key=m:=by unfold kidF;rw[h1];omega
  rw[e];refine⟨.inr ?_,fun q h5 h6=>?_⟩
  ·rw[hg m hm'];rwa [List.getElem_map] at h3
  ·have:=h4 q (by simpa using h6) h5
   rwa [List.getElem_map,<- hg q h6] at this
theorem getD_left {A B:List (List PairD)} {j:Nat} (h:j<A.length):(A++B).getD j []=A.getD j []:=by
 rw[List.getD_eq_getElem?_getD,List.getD_eq_getElem?_getD,List.getElem?_append_left h]
theorem getD_right {A B:List (List PairD)} {j:Nat}:(A++B).getD (A.length+j) []=B.getD j []:=by
 rw[List.getD_eq_getElem?_getD,List.getD_eq_getElem?_getD,List.getElem?_append_right (by omega)]
 congr 2;omega
theorem Rise.left {A B:List (List PairD)} (h:Rise (A++B)):Rise A:=fun i j hi hj=>by
 have:=h i j hi (by rw[length_append];omega)
 rwa [getD_left (by omega),getD_left hj] at this
theorem Rise.right {A B:List (List PairD)} (h:Rise (A++B)):Rise B:=fun i j hi hj=>by
 have:=h (A.length+i) (A.length+j) (by omega) (by rw[length_append];omega)
 rwa [getD_right,getD_right] at this
theorem leafI_at:∀(h:Nat) (n:Nest) (key:List UInt8),sized h n->Rise (lvs h [n])->IsAt (lvs h [n]) key (leafI h n key)
 | 0,n,key,_,_=>⟨zero_lt_one,.inl rfl,fun j h1 h2=>by
   have h2:j<1:=h2;have h1:0<j:=h1;omega⟩
 | h+1,n,key,hs,hR=>by
  have hi:=kid_at (key:=key) hs;have hne:n.kids≠[]:=fun e=>by rw[e] at hi;exact absurd hi (not_lt_zero _)
  obtain⟨k1,k2⟩:=kidF_spec (h:=h) hne key;rw[leafI_succ];rw[lvs_one] at hR ⊢;obtain⟨i,hie⟩:∃i,i=kidF h n.kids key:=⟨_,rfl⟩;rw[<- hie] at hi k1 k2 ⊢;have hm:=mid_kid hi noN;obtain⟨k,hke⟩:∃k,k=n.kids.getD i noN:=⟨_,rfl⟩;have hsk:sized h k:=by rw[hke];exact hs.2.2 _ (kid_mem hi)
  have hrest:∀x∈n.kids.drop (i+1),sized h x:=fun x hx=>hs.2.2 x (mem_of_mem_drop hx);have hnx:∀x xs,n.kids.drop (i+1)=x::xs->key<firstN h x:=fun x xs e=>by
   have hl:i+1<n.kids.length:=by
    have:=congrArg List.length e;rw[length_drop,length_cons] at this;omega
   have:=k2 (i+1) (lt_succ_self _) hl;rw[List.getD_eq_getElem?_getD,List.getElem?_eq_getElem hl] at this;rw[List.drop_eq_getElem_cons hl] at e;cases e;exact this
  rw[<- hke] at hm k1 ⊢;have hL:lvs h n.kids=lvs h (n.kids.take i)++(lvs h [k]++lvs h (n.kids.drop (i+1))):=by
   conv=>lhs;rw[<- hm]
   rw[lvs_app,lvs_app,append_assoc]
  obtain⟨A,hA⟩:∃A,A=lvs h (n.kids.take i):=⟨_,rfl⟩;obtain⟨B,hB⟩:∃B,B=lvs h [k]:=⟨_,rfl⟩;obtain⟨C,hC⟩:∃C,C=lvs h (n.kids.drop (i+1)):=⟨_,rfl⟩;have hi0:i=0->A=[]:=fun e=>by
   rw[hA,e,take_zero];clear hm hL hR hnx hA;induction h with
   | zero=>rfl|succ h ih=>exact lvs_dn _ _ ▸ (by
     have:∀q,dn q []=[]:=fun q=>by
      induction q with
      | zero=>rfl|succ q ih=>exact ih
     rw[this];rfl)
  have ih:=leafI_at h k key hsk (by rw[hL] at hR;exact hR.right.left);have hfk:=firstN_at h k hsk;rw[hL,<- hA,<- hB,<- hC] at hR ⊢;rw[<- hB] at ih hfk;obtain⟨b,hb⟩:∃b,b=leafI h k key:=⟨_,rfl⟩;rw[<- hb] at ih ⊢;refine⟨by rw[length_append,length_append];have:=ih.lt;omega,?_,fun j h1 h2=>?_⟩
  ·rw[getD_right,getD_left ih.lt];rcases ih.lo with e | e
   ·rcases k1 with e1 | e1
    ·left;rw[hi0 e1,e];rfl
    ·right;rw[e,<- hfk];exact e1
   ·exact .inr e
  ·obtain⟨q,rfl⟩:∃q,j=A.length+q:=⟨j - A.length,by omega⟩;rw[getD_right];rw[length_append,length_append] at h2;by_cases hq:q<B.length
   ·rw[getD_left hq];exact ih.hi q (by omega) hq
   ·obtain⟨p,rfl⟩:∃p,q=B.length+p:=⟨q - B.length,by omega⟩;rw[getD_right];cases hd:n.kids.drop (i+1) with
    | nil=>
     have hnil:∀q,lvs q []=[]:=fun q=>by
      induction q with
      | zero=>rfl|succ q ih=>exact ih
     rw[hd,hnil] at hC;rw[hC] at h2;simp at h2;omega
    | cons x xs=>
     have h5:=hnx x xs hd;rw[hd] at hC hrest;have hsx:=hrest x mem_cons_self;have hxp:=lvs_pos h x hsx;rw[firstN_at h x hsx] at h5;have hC0:C.getD 0 []=(lvs h [x]).getD 0 []:=by
      rw[hC,show x::xs=[x]++xs from rfl,lvs_app,getD_left hxp]
     rw[<- hC0] at h5;rcases eq_zero_or_pos p with e | hp
     ·rw[e];exact h5
     ·exact lt_tr h5 (hR.right.right 0 p hp (by omega))
theorem getD_mem {L:List (List PairD)} {i:Nat} (h:i<L.length):L.getD i []∈L:=by
 rw[List.getD_eq_getElem?_getD,List.getElem?_eq_getElem h];exact List.getElem_mem h
theorem rise_of {L:List (List PairD)} (hn:∀l∈L,l≠[]) (ha:Asc L.flatten):Rise L:=fun i j hi hj=>by
 have h2:=(pairwise_flatten.1 ha).2;have:=List.pairwise_iff_getElem.1 h2 i j (by omega) hj hi;rw[List.getD_eq_getElem?_getD,List.getElem?_eq_getElem (show i<L.length by omega),List.getD_eq_getElem?_getD,List.getElem?_eq_getElem hj,getD_some,getD_some];have hm:∀l∈L,∃p ps,l=p::ps:=fun l hl=>by
  cases l with
  | nil=>exact absurd rfl (hn _ hl)|cons p ps=>exact⟨p,ps,rfl⟩
 obtain⟨p,ps,e1⟩:=hm L[i] (List.getElem_mem _);obtain⟨q,qs,e2⟩:=hm L[j] (List.getElem_mem _);rw[e1,e2] at this ⊢;exact this p mem_cons_self q mem_cons_self
end Tr
end
section
open Go.RowKit K
open Tr
namespace Tr
def delP (Q:List PairD) (key:List UInt8):List PairD:=Q.filter fun q=>!decide (q.Key=key)
theorem asc_nil:Asc []:=List.Pairwise.nil
theorem asc_cons {x:PairD} {l:List PairD}:Asc (x::l)↔(∀y∈l,x.Key<y.Key)/\Asc l:=pairwise_cons
theorem asc_app {a b:List PairD}:Asc (a++b)↔Asc a/\Asc b/\∀x∈a,∀y∈b,x.Key<y.Key:=List.pairwise_append
theorem asc_filter {l:List PairD} (f:PairD->Bool) (h:Asc l):Asc (l.filter f):=List.Pairwise.filter f h
theorem asc_split {key:List UInt8}:∀{l:List PairD},Asc l->l.filter (fun q=>decide (ltT q.Key key))++l.filter (fun q=>!decide (ltT q.Key key))=l
 | [],_=>rfl|x::l,h=>by
  obtain⟨h1,h2⟩:=asc_cons.1 h;by_cases hx:ltT x.Key key
  ·rw[filter_cons_of_pos (by simpa using hx),filter_cons_of_neg (by simpa using hx),cons_append,asc_split h2]
  ·rw[filter_cons_of_neg (by simpa using hx),filter_cons_of_pos (by simpa using hx),filter_eq_nil_iff.2,nil_append,filter_eq_self.2]
   ·intro y hy;have:¬ltT y.Key key:=fun g=>hx (lt_tr (h1 y hy) g);simpa using this
   ·intro y hy;have:¬ltT y.Key key:=fun g=>hx (lt_tr (h1 y hy) g);simpa using this
theorem delP_asc {Q:List PairD} (h:Asc Q) (key:List UInt8):Asc (delP Q key):=asc_filter _ h
theorem delP_mem {Q:List PairD} {key:List UInt8} {x:PairD}:x∈delP Q key↔x∈Q/\x.Key≠key:=by
 unfold delP;rw[mem_filter];simp
theorem asc_key {Q:List PairD} (h:Asc Q) {x y:PairD} (hx:x∈Q) (hy:y∈Q) (e:x.Key=y.Key):x=y:=by
 induction Q with
 | nil=>cases hx
 | cons z Q ih=>
  obtain⟨h1,h2⟩:=asc_cons.1 h;rcases mem_cons.1 hx with hx' | hx'<;>rcases mem_cons.1 hy with hy' | hy'
  ·rw[hx',hy']
  ·have:=h1 y hy';rw[<- hx',e] at this;exact absurd this (lt_irr _)
  ·have:=h1 x hx';rw[<- hy',e] at this;exact absurd this (lt_irr _)
  ·exact ih h2 hx' hy'
def lookP (Q:List PairD) (key:List UInt8):Option Int:=(Q.find? fun q=>decide (q.Key=key)).map (·.Id)
theorem look_mem {Q:List PairD} (h:Asc Q) {p:PairD} (hp:p∈Q):lookP Q p.Key=some p.Id:=by
 unfold lookP;cases hf:Q.find? fun q=>decide (q.Key=p.Key) with
 | none=>
  have:=List.find?_eq_none.1 hf p hp;simp at this
 | some q=>
  have h1:=List.mem_of_find?_eq_some hf;have h2:q.Key=p.Key:=by simpa using List.find?_some hf
  rw[asc_key h h1 hp h2];rfl
theorem look_none {Q:List PairD} {key:List UInt8}:lookP Q key=none↔∀q∈Q,q.Key≠key:=by
 unfold lookP;rw[Option.map_eq_none_iff,List.find?_eq_none];simp
theorem look_some {Q:List PairD} (h:Asc Q) {key:List UInt8} {i:Int}:lookP Q key=some i↔∃p∈Q,p.Key=key/\p.Id=i:=by
 constructor
 ·intro e;unfold lookP at e;obtain⟨p,h1,h2⟩:=Option.map_eq_some_iff.1 e;exact⟨p,List.mem_of_find?_eq_some h1,by simpa using List.find?_some h1,h2⟩
 ·rintro⟨p,h1,rfl,rfl⟩;exact look_mem h h1
theorem look_ext {Q R:List PairD} (hQ:Asc Q) (hR:Asc R) {key:List UInt8} (h:∀p,p.Key=key->(p∈Q↔p∈R)):lookP Q key=lookP R key:=by
 refine Option.ext fun i=>?_;rw[look_some hQ,look_some hR];exact⟨fun ⟨p,h1,h2,h3⟩=>⟨p,(h p h2).1 h1,h2,h3⟩,fun ⟨p,h1,h2,h3⟩=>⟨p,(h p h2).2 h1,h2,h3⟩⟩
theorem at_parts {L:List (List PairD)} {key:List UInt8} {a:Nat} (hA:IsAt L key a) (hn:∀l∈L,l≠[]) (ha:Asc L.flatten) :
  ∃A B,L=A++[L.getD a []]++B/\A.length=a/\(∀x∈A.flatten,x.Key<key)/\(∀y∈B.flatten,key<y.Key)/\Asc (L.getD a []):=by
 have hlt:=hA.lt;have hg:L.getD a []=L[a]:=by rw[List.getD_eq_getElem?_getD,List.getElem?_eq_getElem hlt];rfl
 have hL:L=L.take a++[L.getD a []]++L.drop (a+1):=by rw[hg,<- List.take_succ_eq_append_getElem hlt,take_append_drop]
 have hfk:∀l∈L,fkey l=(l.headD ⟨[],0⟩).Key/\∃p ps,l=p::ps:=fun l hl=>by
  cases l with
  | nil=>exact absurd rfl (hn _ hl)|cons p ps=>exact⟨rfl,p,ps,rfl⟩
 have hpl:=(pairwise_flatten.1 ha);refine⟨L.take a,L.drop (a+1),hL,by rw[length_take];omega,fun x hx=>?_,fun y hy=>?_,hpl.1 _ (getD_mem hlt)⟩
 ·obtain⟨l,hl,hxl⟩:=mem_flatten.1 hx;obtain⟨i,hi,rfl⟩:=List.getElem_of_mem hl;rw[length_take] at hi;rw[List.getElem_take] at hxl;have h2:=List.pairwise_iff_getElem.1 hpl.2 i a (by omega) hlt (by omega) x hxl;obtain⟨_,p,ps,e⟩:=hfk L[a] (List.getElem_mem hlt);have h3:=h2 p (by rw[e];exact mem_cons_self);rcases hA.lo with h0 | h0
  ·omega
  ·rw[hg,e] at h0;have h0:¬key<p.Key:=h0;rcases lt_tri p.Key key with g | g | g
   ·exact lt_tr h3 g
   ·rw[<- g];exact h3
   ·exact absurd g h0
 ·obtain⟨l,hl,hyl⟩:=mem_flatten.1 hy;obtain⟨i,hi,rfl⟩:=List.getElem_of_mem hl;rw[length_drop] at hi;rw[List.getElem_drop] at hyl;have h4:=hA.hi (a+1+i) (by omega) (by omega);rw[List.getD_eq_getElem?_getD,List.getElem?_eq_getElem (show a+1+i<L.length by omega),getD_some] at h4;have h5:=hpl.1 L[a+1+i] (List.getElem_mem _);obtain⟨_,p,ps,e⟩:=hfk L[a+1+i] (List.getElem_mem _);rw[e] at h4 h5 hyl;have h4:key<p.Key:=h4;rcases mem_cons.1 hyl with rfl | hyl
  ·exact h4
  ·exact lt_tr h4 ((asc_cons.1 h5).1 y hyl)
theorem look_flat {L:List (List PairD)} {key:List UInt8} {a:Nat} (hA:IsAt L key a) (hn:∀l∈L,l≠[]) (ha:Asc L.flatten):lookP L.flatten key=lookP (L.getD a []) key:=by
 obtain⟨A,B,hL,hl,hx,hy,hasc⟩:=at_parts hA hn ha;refine look_ext ha hasc fun p hp=>?_;obtain⟨l,hle⟩:∃l,l=L.getD a []:=⟨_,rfl⟩;rw[<- hle] at hL ⊢;rw[hL];simp only[flatten_append,mem_append,flatten_cons,flatten_nil,List.append_nil];constructor
 ·rintro ((h | h) | h)
  ·have:=hx p h;rw[hp] at this;exact absurd this (lt_irr _)
  ·exact h
  ·have:=hy p h;rw[hp] at this;exact absurd this (lt_irr _)
 ·exact fun h=>.inl (.inr h)
theorem del_flat {L:List (List PairD)} {key:List UInt8} {a:Nat} (hA:IsAt L key a) (hn:∀l∈L,l≠[]) (ha:Asc L.flatten):(L.set a (delP (L.getD a []) key)).flatten=delP L.flatten key:=by
 obtain⟨A,B,hL,hl,hx,hy,hasc⟩:=at_parts hA hn ha;obtain⟨l,hle⟩:∃l,l=L.getD a []:=⟨_,rfl⟩;rw[<- hle] at hL ⊢;rw[hL];subst hl;rw[set_midL];unfold delP;have e1:A.flatten.filter (fun q=>!decide (q.Key=key))=A.flatten:=filter_eq_self.2 fun q hq=>by
  have:=hx q hq;have:q.Key≠key:=fun e=>by rw[e] at this;exact lt_irr _ this
  simpa using this
 have e4:B.flatten.filter (fun q=>!decide (q.Key=key))=B.flatten:=filter_eq_self.2 fun q hq=>by
  have:=hy q hq;have:q.Key≠key:=fun e=>by rw[e] at this;exact lt_irr _ this
  simpa using this
 simp only[flatten_append,flatten_cons,flatten_nil,List.append_nil,filter_append,e1,e4]
theorem hit_pos {l:List PairD} (h:Asc l) {key:List UInt8}:(hitF l key=true↔∃q∈l,q.Key=key)/\∀q∈l,q.Key=key->∃hp:posF l key<l.length,l[posF l key]=q/\delP l key=l.take (posF l key)++l.drop (posF l key+1):=by
 constructor
 ·unfold hitF;rw[any_eq_true];simp
 ·intro q hq hk;obtain⟨i,hi,rfl⟩:=List.getElem_of_mem hq;have h1:posF l key=i:=posF_at (fun m hm hmi=>by rw[<- hk];exact h.lt hi hmi) (fun m hm hmi=>by
   rcases eq_or_lt_of_le hmi with e | g
   ·subst e;rw[hk];exact lt_irr _
   ·have:=h.lt hm g;rw[hk] at this;exact lt_asym this) (by omega)
  rw[h1];refine⟨hi,rfl,?_⟩;unfold delP;have hl:l=l.take i++[l[i]]++l.drop (i+1):=by rw[<- List.take_succ_eq_append_getElem hi,take_append_drop]
  conv=>lhs;rw[hl]
  rw[filter_append,filter_append,filter_eq_self.2,filter_cons_of_neg (by simpa using hk),List.filter_nil,List.append_nil,filter_eq_self.2]
  ·intro x hx;obtain⟨m,hm,rfl⟩:=List.getElem_of_mem hx;rw[length_drop] at hm;rw[List.getElem_drop];have:=h.lt (j:=i+1+m) (i:=i) (by omega) (by omega);rw[hk] at this;have:l[i+1+m].Key≠key:=fun e=>by rw[e] at this;exact lt_irr _ this
   simpa using this
  ·intro x hx;obtain⟨m,hm,rfl⟩:=List.getElem_of_mem hx;rw[length_take] at hm;rw[List.getElem_take];have:=h.lt (j:=i) (i:=m) hi (by omega);rw[hk] at this;have:l[m].Key≠key:=fun e=>by rw[e] at this;exact lt_irr _ this
   simpa using this
end Tr
end
section
open Go.RowKit K
open Tr
namespace Tr
def lastK (seen:List PairD):List UInt8:=(seen.getLastD ⟨[],0⟩).Key
def prChk:List PairD->List PairD->Int
 | [],_=>0|p::ps,seen=>if 40<p.Key.length then 2 else if 0<seen.length/\¬ltT (lastK seen) p.Key then 4 else prChk ps (seen++[p])
abbrev badL (m:Nat) (l:List PairD):Prop:=(l.length<2\/4<l.length)/\(1<m\/l.length=0\/4<l.length)
def lvChk (m:Nat):List (List PairD)->List PairD->Int
 | [],_=>0|l::ls,seen=>if badL m l then 1 else if prChk l seen≠0 then prChk l seen else lvChk m ls (seen++l)
def upChk:Nat->List (List Int)->Int
 | b,[]=>if 1<b then 1 else 0|b,u::us=>if b<2 then 1 else if (∀n∈u,2<=n/\n<=4)/\u.sum=b then upChk u.length us else 1
def chkT (L:List (List PairD)) (Us:List (List Int)):Int:=
 if 64<L.length\/8<Us.length then 2 else if lvChk L.length L []≠0 then lvChk L.length L [] else if upChk L.length Us≠0 then 1 else if 64<L.flatten.length then 2 else 0
theorem lastK_snoc (seen:List PairD) (p:PairD):lastK (seen++[p])=p.Key:=by unfold lastK;rw[List.getLastD_concat]
theorem asc_snoc {seen:List PairD} {p:PairD} (h:Asc seen):Asc (seen++[p])↔¬(0<seen.length/\¬ltT (lastK seen) p.Key):=by
 rw[asc_app];rcases eq_nil_or_concat seen with rfl | ⟨s,q,e⟩
 ·exact⟨fun _ h=>absurd h.1 (Nat.lt_irrefl 0),fun _=>⟨asc_nil,pairwise_singleton _ _,fun x hx=>(by cases hx)⟩⟩
 ·rw[concat_eq_append] at e;subst e;rw[lastK_snoc];constructor
  ·rintro⟨_,_,h3⟩ ⟨_,h4⟩;exact h4 (h3 q (by simp) p (by simp))
  ·intro h1;have h2:q.Key<p.Key:=Decidable.of_not_not fun g=>h1 ⟨by simp,g⟩;refine⟨h,pairwise_singleton _ _,fun x hx y hy=>?_⟩;rw[mem_singleton] at hy;subst hy;rcases mem_append.1 hx with hx | hx
   ·exact lt_tr ((asc_app.1 h).2.2 x hx q (by simp)) h2
   ·rw[mem_singleton] at hx;subst hx;exact h2
theorem prChk_ok:∀(ps seen:List PairD),Asc seen->(prChk ps seen=0↔Asc (seen++ps)/\∀p∈ps,p.Key.length<=40)
 | [],seen,h=>by rw[List.append_nil];exact⟨fun _=>⟨h,fun p hp=>(by cases hp)⟩,fun _=>rfl⟩
 | p::ps,seen,h=>by
  rw[prChk];by_cases h1:40<p.Key.length
  ·rw[if_pos h1];exact⟨fun e=>(by cases e),fun e=>by have:=e.2 p mem_cons_self;omega⟩
  rw[if_neg h1];by_cases h2:0<seen.length/\¬ltT (lastK seen) p.Key
  ·rw[if_pos h2];refine⟨fun e=>(by cases e),fun e=>?_⟩;have:Asc (seen++[p]):=by
    have:=e.1;rw[show seen++p::ps=(seen++[p])++ps by simp] at this;exact (asc_app.1 this).1
   exact absurd h2 ((asc_snoc h).1 this)
  ·rw[if_neg h2,prChk_ok ps (seen++[p]) ((asc_snoc h).2 h2),append_assoc];refine⟨fun ⟨a,b⟩=>⟨a,fun q hq=>?_⟩,fun ⟨a,b⟩=>⟨a,fun q hq=>b q (mem_cons_of_mem _ hq)⟩⟩;rcases mem_cons.1 hq with rfl | hq
   ·omega
   ·exact b q hq
theorem lvChk_ok (m:Nat):∀(ls:List (List PairD)) (seen:List PairD),Asc seen->(lvChk m ls seen=0↔(∀l∈ls,¬badL m l)/\Asc (seen++ls.flatten)/\∀p∈ls.flatten,p.Key.length<=40)
 | [],seen,h=>by
  rw[flatten_nil,List.append_nil];exact⟨fun _=>⟨fun l hl=>(by cases hl),h,fun p hp=>(by cases hp)⟩,fun _=>rfl⟩
 | l::ls,seen,h=>by
  rw[lvChk];by_cases h1:badL m l
  ·rw[if_pos h1];exact⟨fun e=>(by cases e),fun e=>absurd h1 (e.1 l mem_cons_self)⟩
  rw[if_neg h1];have hp:=prChk_ok l seen h;by_cases h2:prChk l seen≠0
  ·rw[if_pos h2];refine⟨fun e=>absurd e h2,fun ⟨_,e,e2⟩=>absurd (hp.2 ⟨?_,fun p hp=>e2 p (by rw[flatten_cons];exact mem_append_left _ hp)⟩) h2⟩;rw[flatten_cons,<- append_assoc] at e;exact (asc_app.1 e).1
  ·rw[if_neg h2];obtain⟨g1,g2⟩:=hp.1 (Decidable.of_not_not h2);rw[lvChk_ok m ls (seen++l) g1,flatten_cons,append_assoc];refine⟨fun ⟨a,b,c⟩=>⟨fun q hq=>?_,b,fun q hq=>?_⟩,fun ⟨a,b,c⟩=>⟨fun q hq=>a q (mem_cons_of_mem _ hq),b,fun q hq=>c q (mem_append_right _ hq)⟩⟩
   ·rcases mem_cons.1 hq with rfl | hq
    ·exact h1
    ·exact a q hq
   ·rcases mem_append.1 hq with hq | hq
    ·exact g2 q hq
    ·exact c q hq
abbrev intU (U:List (List Nat)):List (List Int):=U.map (List.map fun n:Nat=>(n:Int))
def upOk:Nat->List (List Nat)->Nat->Prop
 | b,[],t=>b=t|b,u::us,t=>2<=b/\(∀n∈u,2<=n/\n<=4)/\u.sum=b/\upOk u.length us t
theorem sum_int (u:List Nat):(u.map fun n:Nat=>(n:Int)).sum=(u.sum:Int):=by
 induction u with
 | nil=>rfl|cons x u ih=>rw[map_cons,sum_cons,ih,sum_cons];push_cast;rfl
theorem nat_of {u:List Int} (h:∀n∈u,2<=n/\n<=4):∃v:List Nat,u=v.map (fun n:Nat=>(n:Int))/\∀n∈v,2<=n/\n<=4:=by
 refine⟨u.map Int.toNat,?_,?_⟩
 ·rw[map_map];conv=>lhs;rw[<- map_id u]
  refine map_congr_left fun n hn=>?_;have:=h n hn;show n=((n.toNat:Nat):Int);omega
 ·intro n hn;obtain⟨x,hx,rfl⟩:=mem_map.1 hn;have:=h x hx;omega
theorem upChk_ok:∀(us:List (List Int)) (b:Nat),upChk b us=0->∃U,us=intU U/\(b=0/\U=[]\/upOk b U 1)
 | [],b,h=>by
  rw[upChk] at h;refine⟨[],rfl,?_⟩;by_cases h1:1<b
  ·rw[if_pos h1] at h;cases h
  ·rcases eq_zero_or_pos b with e | e
   ·exact .inl ⟨e,rfl⟩
   ·refine .inr ?_;show b=1;omega
 | u::us,b,h=>by
  rw[upChk] at h;by_cases h1:b<2
  ·rw[if_pos h1] at h;cases h
  rw[if_neg h1] at h;by_cases h2:(∀n∈u,2<=n/\n<=4)/\u.sum=b
  ·rw[if_pos h2] at h;obtain⟨v,rfl,hv⟩:=nat_of h2.1;rw[length_map] at h;have hs:=h2.2;rw[sum_int] at hs;obtain⟨U,rfl,hU⟩:=upChk_ok us v.length h;refine⟨v::U,rfl,.inr ⟨by omega,hv,by omega,?_⟩⟩;rcases hU with ⟨e,_⟩ | hU
   ·have:v=[]:=eq_nil_of_length_eq_zero e;subst this;have:(0:Int)=b:=hs;omega
   ·exact hU
  ·rw[if_neg h2] at h;cases h
theorem upChk_of:∀(U:List (List Nat)) (b:Nat),upOk b U 1->upChk b (intU U)=0
 | [],b,h=>by
  have h:b=1:=h;subst h;rfl
 | u::U,b,⟨h1,h2,h3,h4⟩=>by
  show upChk b ((u.map fun n:Nat=>(n:Int))::intU U)=0;have hm:∀n∈u.map (fun n:Nat=>(n:Int)),2<=n/\n<=4:=fun n hn=>by
   obtain⟨x,hx,rfl⟩:=mem_map.1 hn;have:=h2 x hx;omega
  rw[upChk,if_neg (by omega),if_pos ⟨hm,by rw[sum_int,h3]⟩,length_map];exact upChk_of U _ h4
structure TreeOk (L:List (List PairD)) (U:List (List Nat)):Prop where
 many:L.length<=64
 deep:U.length<=8
 leaf:∀l∈L,¬badL L.length l
 asc:Asc L.flatten
 keys:∀p∈L.flatten,p.Key.length<=40
 up:L=[]/\U=[]\/upOk L.length U 1
 count:L.flatten.length<=64
theorem chk_ok {L:List (List PairD)} {Us:List (List Int)} (h:chkT L Us=0):∃U,Us=intU U/\TreeOk L U:=by
 unfold chkT at h;by_cases h1:64<L.length\/8<Us.length
 ·rw[if_pos h1] at h;cases h
 rw[if_neg h1] at h;by_cases h2:lvChk L.length L []≠0
 ·rw[if_pos h2] at h;exact absurd h h2
 rw[if_neg h2] at h;by_cases h3:upChk L.length Us≠0
 ·rw[if_pos h3] at h;cases h
 rw[if_neg h3] at h;by_cases h4:64<L.flatten.length
 ·rw[if_pos h4] at h;cases h
 obtain⟨g1,g2,g3⟩:=(lvChk_ok L.length L [] asc_nil).1 (Decidable.of_not_not h2);obtain⟨U,rfl,hU⟩:=upChk_ok Us _ (Decidable.of_not_not h3);rw[length_map] at h1;exact⟨U,rfl,by omega,by omega,g1,g2,g3,hU.imp (fun e=>⟨eq_nil_of_length_eq_zero e.1,e.2⟩) id,by omega⟩
theorem chk_of {L:List (List PairD)} {U:List (List Nat)} (h:TreeOk L U):chkT L (intU U)=0:=by
 have h1:=h.many;have h2:=h.deep;have h3:=h.count;have h4:lvChk L.length L []=0:=(lvChk_ok L.length L [] asc_nil).2 ⟨h.leaf,h.asc,h.keys⟩;have h5:upChk L.length (intU U)=0:=by
  rcases h.up with ⟨rfl,rfl⟩ | e
  ·rfl
  ·exact upChk_of U _ e
 unfold chkT;rw[if_neg (by rw[length_map];omega),h4,if_neg (by decide),h5,if_neg (by decide),if_neg (by omega)]
def lenB (b:Nat) (U:List (List Nat)):Nat->Nat
 | 0=>b|l+1=>(U.getD l []).length
theorem lenB_at (L:List (List PairD)) (U:List (List Nat)) (l:Nat):lenAt L U l=lenB L.length U l:=by cases l<;>rfl
theorem lenB_cons (b:Nat) (u:List Nat) (U:List (List Nat)) (l:Nat):lenB b (u::U) (l+1)=lenB u.length U l:=by cases l<;>rfl
theorem two_sum:∀{u:List Nat},(∀n∈u,2<=n/\n<=4)->2*u.length<=u.sum/\u.sum<=4*u.length
 | [],_=>⟨Nat.le_refl _,Nat.le_refl _⟩|x::u,h=>by
  obtain⟨h1,h2⟩:=two_sum (u:=u) fun n hn=>h n (mem_cons_of_mem _ hn);have:=h x mem_cons_self;rw[length_cons,sum_cons];omega
theorem upOk_at:∀(U:List (List Nat)) (b t:Nat),upOk b U t->(∀l (h:l<U.length),U[l].sum=lenB b U l)/\(∀l,l<=U.length->lenB b U l<=b)/\lenB b U U.length=t/\∀u∈U,∀n∈u,2<=n/\n<=4
 | [],b,t,h=>⟨fun l h=>absurd h (not_lt_zero l),fun l hl=>by
   have:l=0:=Nat.le_zero.1 hl;subst this;exact Nat.le_refl _,h,fun u hu=>(by cases hu)⟩
 | u::U,b,t,⟨h1,h2,h3,h4⟩=>by
  obtain⟨g1,g2,g3,g4⟩:=upOk_at U _ t h4;have hu:=two_sum h2;refine⟨fun l hl=>?_,fun l hl=>?_,?_,fun v hv=>?_⟩
  ·cases l with
   | zero=>exact h3|succ l=>rw[lenB_cons];exact g1 l (by simpa using hl)
  ·cases l with
   | zero=>exact Nat.le_refl _|succ l=>
    rw[lenB_cons];have:=g2 l (by simpa using hl);omega
  ·rw[length_cons,lenB_cons];exact g3
  ·rcases mem_cons.1 hv with rfl | hv
   ·exact h2
   ·exact g4 v hv
theorem TreeOk.okT {L:List (List PairD)} {U:List (List Nat)} (h:TreeOk L U):OkT L U:=by
 have hl:∀l∈L,0<l.length/\l.length<=4:=fun l hl=>by
  have:=h.leaf l hl;unfold badL at this;omega
 rcases h.up with ⟨rfl,rfl⟩ | e
 ·refine⟨fun u hu=>(by cases hu),fun l hl=>absurd hl (not_lt_zero l),fun l hl=>?_,zero_le _,hl⟩;have:l=0:=Nat.le_zero.1 hl;subst this;exact zero_le _
 ·obtain⟨g1,g2,g3,g4⟩:=upOk_at _ _ _ e;have:=h.many;exact⟨g4,fun l hl=>by rw[lenB_at];exact g1 l hl,fun l hl=>by rw[lenB_at];have:=g2 l hl;omega,h.deep,hl⟩
theorem TreeOk.top {L:List (List PairD)} {U:List (List Nat)} (h:TreeOk L U) (hL:L≠[]):lenAt L U U.length=1/\upOk L.length U 1:=by
 rcases h.up with ⟨rfl,_⟩ | e
 ·exact absurd rfl hL
 ·exact⟨by rw[lenB_at];exact (upOk_at _ _ _ e).2.2.1,e⟩
theorem TreeOk.ne {L:List (List PairD)} {U:List (List Nat)} (h:TreeOk L U):∀l∈L,l≠[]:=fun l hl e=>by
 have:=(h.okT.leaf l hl).1;rw[e] at this;exact absurd this (by decide)
theorem TreeOk.rise {L:List (List PairD)} {U:List (List Nat)} (h:TreeOk L U):Rise L:=rise_of h.ne h.asc
theorem TreeOk.at_ {L:List (List PairD)} {U:List (List Nat)} (h:TreeOk L U) (hL:L≠[]) (key:List UInt8):IsAt L key (leafF L U key U.length 0):=leafF_at h.okT h.rise (h.top hL).1 key
abbrev wfN (h:Nat) (n:Nest):Prop:=tall h n/\sized h n
theorem upOk_snoc:∀(U:List (List Nat)) (b m:Nat) (u:List Nat),upOk b U m->2<=m->(∀n∈u,2<=n/\n<=4)->u.sum=m->upOk b (U++[u]) u.length
 | [],b,m,u,h,h1,h2,h3=>by
  have h:b=m:=h;subst h;exact⟨h1,h2,h3,rfl⟩
 | v::U,b,m,u,⟨g1,g2,g3,g4⟩,h1,h2,h3=>⟨g1,g2,g3,upOk_snoc U _ m u g4 h1 h2 h3⟩
theorem wf_kids {h:Nat} {F:List Nest} (hF:∀n∈F,wfN (h+1) n):inner F/\(∀k∈F.flatMap Nest.kids,wfN h k)/\∀s∈F.map Nest.size,2<=s/\s<=4:=by
 refine⟨fun n hn=>(tall_node (hF n hn).1).2.1,fun k hk=>?_,fun s hs=>?_⟩
 ·obtain⟨n,hn,hk⟩:=mem_flatMap.1 hk;exact⟨(tall_node (hF n hn).1).2.2 k hk,(hF n hn).2.2.2 k hk⟩
 ·obtain⟨n,hn,rfl⟩:=mem_map.1 hs;rw[<- (tall_node (hF n hn).1).2.1];exact⟨(hF n hn).2.1,(hF n hn).2.2.1⟩
theorem ups_ok:∀(h:Nat) (F:List Nest),F≠[]->(∀n∈F,wfN h n)->upOk (lvs h F).length (ups h F) F.length
 | 0,F,_,_=>by rw[lvs,length_map];exact rfl
 | h+1,F,hne,hF=>by
  obtain⟨k1,k2,k3⟩:=wf_kids hF;have h1:=sizes_sum k1;have h2:=two_sum k3;rw[length_map] at h2;have h3:0<F.length:=length_pos_iff.2 hne;have hk:F.flatMap Nest.kids≠[]:=fun e=>by rw[e] at h1;rw[<- h1] at h2;simp at h2;omega
  have:=ups_ok h (F.flatMap Nest.kids) hk k2;rw[lvs,ups];have h4:=upOk_snoc _ _ _ (F.map Nest.size) this (by omega) k3 h1.symm
  rwa [length_map] at h4
theorem dn_len:∀(h:Nat) (F:List Nest),(∀n∈F,wfN h n)->2^h*F.length<=(lvs h F).length/\(lvs h F).length<=4^h*F.length
 | 0,F,_=>by rw[lvs,length_map];simp
 | h+1,F,hF=>by
  obtain⟨k1,k2,k3⟩:=wf_kids hF;have h1:=sizes_sum k1;have h2:=two_sum k3;rw[length_map] at h2;obtain⟨h3,h4⟩:=dn_len h (F.flatMap Nest.kids) k2;rw[lvs,pow_succ,pow_succ,Nat.mul_assoc,Nat.mul_assoc];exact⟨le_trans (Nat.mul_le_mul_left _ (by omega)) h3,le_trans h4 (Nat.mul_le_mul_left _ (by omega))⟩
theorem flat_len:∀{L:List (List PairD)},(∀l∈L,2<=l.length/\l.length<=4)->2*L.length<=L.flatten.length/\L.flatten.length<=4*L.length
 | [],_=>⟨Nat.le_refl _,Nat.le_refl _⟩|l::L,h=>by
  obtain⟨h1,h2⟩:=flat_len (L:=L) fun x hx=>h x (mem_cons_of_mem _ hx);have:=h l mem_cons_self;rw[flatten_cons,length_append,length_cons];omega
theorem nest_ok {H:Nat} {n:Nest} (hw:wfN H n) (hs:∀l∈lvs H [n],(2<=l.length\/H=0/\1<=l.length)/\l.length<=4) (ha:Asc (lvs H [n]).flatten) (hk:∀p∈(lvs H [n]).flatten,p.Key.length<=40) (hc:(lvs H [n]).flatten.length<=64) :
  TreeOk (lvs H [n]) (ups H [n]):=by
 have hF:∀x∈[n],wfN H x:=fun x hx=>by rw[mem_singleton] at hx;subst hx;exact hw
 have hup:=ups_ok H [n] (by simp) hF;have hdn:=(dn_len H [n] hF).1;rw[length_singleton,mul_one] at hdn;rw[length_singleton] at hup;have hH:(lvs H [n]).length<=32\/H=0:=by
  by_cases e:H=0
  ·exact .inr e
  ·left;have:=(flat_len (L:=lvs H [n]) fun l hl=>⟨(hs l hl).1.resolve_right fun g=>e g.1,(hs l hl).2⟩).1;omega
 have hH5:H<=5:=by
  rcases hH with e | e
  ·refine Decidable.byContradiction fun g=>?_;have:2^6<=2^H:=Nat.pow_le_pow_right (by decide) (by omega);omega
  ·omega
 have hl0:H=0->(lvs H [n]).length=1:=fun e=>by subst e;rfl
 refine⟨by omega,by rw[ups_len];omega,fun l hl=>?_,ha,hk,.inr hup,hc⟩;have h1:=hs l hl;unfold badL;by_cases e:H=0
 ·have:=hl0 e;omega
 ·omega
def grp:List Nat->List Nest->List Nest
 | [],_=>[]|n::ns,F=>.node (F.take n)::grp ns (F.drop n)
theorem grp_ok {h:Nat}:∀(u:List Nat) (F:List Nest),(∀n∈u,2<=n/\n<=4)->u.sum=F.length->(∀n∈F,wfN h n)->(∀n∈grp u F,wfN (h+1) n)/\(grp u F).flatMap Nest.kids=F/\(grp u F).map Nest.size=u
 | [],F,_,hs,_=>by
  have:F=[]:=eq_nil_of_length_eq_zero (by rw[<- hs];rfl);subst this;exact⟨fun n hn=>(by cases hn),rfl,rfl⟩
 | n::u,F,hu,hs,hF=>by
  rw[sum_cons] at hs;have hn:=hu n mem_cons_self;obtain⟨h1,h2,h3⟩:=grp_ok u (F.drop n) (fun x hx=>hu x (mem_cons_of_mem _ hx)) (by rw[length_drop];omega) fun x hx=>hF x (mem_of_mem_drop hx);have hl:(F.take n).length=n:=by rw[length_take];omega
  refine⟨fun m hm=>?_,?_,?_⟩
  ·rw[grp] at hm;rcases mem_cons.1 hm with rfl | hm
   ·exact⟨fun k hk=>(hF k (mem_of_mem_take hk)).1,by show 2<=(F.take n).length;omega,by show (F.take n).length<=4;omega,fun k hk=>(hF k (mem_of_mem_take hk)).2⟩
   ·exact h1 m hm
  ·rw[grp,flatMap_cons,h2];exact take_append_drop n F
  ·rw[grp,map_cons,h3];show (F.take n).length::u=n::u;rw[hl]
def nestF:List (List Nat)->List Nest->List Nest
 | [],F=>F|u::U,F=>nestF U (grp u F)
theorem nestF_ok:∀(U:List (List Nat)) (h:Nat) (F:List Nest) (t:Nat),upOk F.length U t->(∀n∈F,wfN h n)->
  (nestF U F).length=t/\(∀n∈nestF U F,wfN (h+U.length) n)/\lvs (h+U.length) (nestF U F)=lvs h F/\ups (h+U.length) (nestF U F)=ups h F++U
 | [],h,F,t,hu,hF=>⟨hu,hF,rfl,by rw[List.append_nil];rfl⟩|u::U,h,F,t,⟨h1,h2,h3,h4⟩,hF=>by
  obtain⟨g1,g2,g3⟩:=grp_ok u F h2 h3 hF;have hl:(grp u F).length=u.length:=by rw[<- g3,length_map];exact congrArg List.length (by rw[g3])
  obtain⟨k1,k2,k3,k4⟩:=nestF_ok U (h+1) (grp u F) t (by rw[hl];exact h4) g1;rw[length_cons,show h+(U.length+1)=h+1+U.length by omega];refine⟨k1,k2,?_,?_⟩
  ·rw[nestF,k3,lvs,g2]
  ·rw[nestF,k4,ups,g2,g3,append_assoc];rfl
def nestT (L:List (List PairD)) (U:List (List Nat)):Nest:=(nestF U (L.map Nest.leaf)).headD noN
theorem nestT_ok {L:List (List PairD)} {U:List (List Nat)} (h:TreeOk L U) (hL:L≠[]):wfN U.length (nestT L U)/\lvs U.length [nestT L U]=L/\ups U.length [nestT L U]=U/\nestF U (L.map Nest.leaf)=[nestT L U]:=by
 have h1:=(h.top hL).2;obtain⟨k1,k2,k3,k4⟩:=nestF_ok U 0 (L.map Nest.leaf) 1 (by rw[length_map];exact h1) fun n hn=>by
  obtain⟨l,_,rfl⟩:=mem_map.1 hn;exact⟨trivial,trivial⟩
 obtain⟨n,hn⟩:∃n,nestF U (L.map Nest.leaf)=[n]:=length_eq_one_iff.1 k1;have e:nestT L U=n:=by unfold nestT;rw[hn];rfl
 rw[e];rw[hn,zero_add] at k2 k3 k4;refine⟨k2 n mem_cons_self,?_,?_,hn⟩
 ·rw[k3,lvs,map_map];conv=>rhs;rw[<- map_id L]
  rfl
 ·rw[k4];rfl
theorem TreeOk.sizes {L:List (List PairD)} {U:List (List Nat)} (h:TreeOk L U):∀l∈L,(1<L.length->2<=l.length)/\1<=l.length/\l.length<=4:=fun l hl=>by
 have:=h.leaf l hl;unfold badL at this;omega
end Tr
end
section
open Go.RowKit K
structure TreeD where
 Leaves:List (List PairD)
 Up:List (List Int)
def TreeD.c (x:TreeD):List C:=[.sl 1 (x.Leaves.map (eSl 2 PairD.c)),.sl 1 (x.Up.map (eSl 1 eInt))]
def TreeD.ok (x:TreeD):Prop:=(okSl (Try.prog.bytesOf 44) (okSl (Try.prog.bytesOf 41) PairD.ok)) x.Leaves/\(okSl (Try.prog.bytesOf 61) (okSl (Try.prog.bytesOf 3) okInt)) x.Up
theorem openC_Tree:OpensC Try.prog 25 2 TreeD.c TreeD.ok:=by
 refine⟨by kernel_rfl,by decide,?_⟩;intro H enc w spare held fuel cs x h hl;have ht:Try.prog.underlying 25=some (.struct (Try.prog.fieldsOf 25)):=by kernel_rfl
 have hlen:=struct_len ht h;rw[show Try.prog.cellsOf 25=2 by kernel_rfl] at hlen;obtain⟨a0,e0,k0⟩:=field_of ht h hl 0 22 0 1 (by kernel_rfl) (openC_slice (sz:=1) (enc:=(eSl 2 PairD.c)) Try.underlying22 (by kernel_rfl) (fun _=>rfl) (openC_slice (sz:=2) (enc:=PairD.c) Try.underlying44 (by kernel_rfl) (fun _=>rfl) openC_Pair));obtain⟨a1,e1,k1⟩:=field_of ht h hl 1 23 1 1 (by kernel_rfl) (openC_slice (sz:=1) (enc:=(eSl 1 eInt)) Try.underlying23 (by kernel_rfl) (fun _=>rfl) (openC_slice (sz:=1) (enc:=eInt) Try.underlying61 (by kernel_rfl) (fun _=>rfl) (openC_int Try.underlying3 (by kernel_rfl))));have hall:CsRep (FW w) w ((eSl 1 (eSl 2 PairD.c)) a0++((eSl 1 (eSl 1 eInt)) a1++[])) (cs.drop 0):=(cs_field e0 (cs_field e1 (cs_end hlen)));rw[drop_zero] at hall;exact⟨hlen,⟨a0,a1⟩,hall,⟨k0,k1⟩⟩
end
section
open Go.RowKit K
open Tr
def intC (n:Int):List C:=[.v (.int .i64 n)]
def upI (U:List (List Int)):List (List C):=U.map fun l=>[.sl 1 (l.map intC)]
theorem upI_int (U:List (List Nat)):upI (intU U)=upC U:=by
 unfold upI upC;rw[map_map];refine map_congr_left fun l _=>?_;show [C.sl 1 ((l.map fun n:Nat=>(n:Int)).map intC)]=_;rw[map_map];rfl
abbrev lvV (L:List (List PairD)):PV:=.d (.c (.sl 1 (lvC L)))
abbrev trV (L:List (List PairD)) (U:List (List Int)):PV:=.agg [.c (.sl 1 (lvC L)),.c (.sl 1 (upI U))]
theorem p_fits (n:Nat):Pure Try.prog 34 [pInt .i64 n] (pBool (decide (2<=n/\n<=4))):=by
 refine pure_of Try.func34 (by rfl) rfl (by kernel_rfl) (by rfl) ?_;by_cases h1:2<=n
 ·by_cases h2:n<=4
  ·rw[decide_eq_true ⟨h1,h2⟩];((conv=>whnf);repeat' ((first|(with_reducible first|apply a_|apply b_|apply c_)|((with_reducible first|apply d_|apply e_|apply f_|apply g_|apply h_);first|omega|simp only[q_]<;>omega)|((with_reducible apply i_);first|omega|simp only[q_]<;>omega)|((with_reducible apply h_);first|decide|kernel_rfl)|refine s_ (by decide) ?_|refine t_ (by decide) ?_|with_reducible first|apply l_|apply m_|apply n_|apply o_|refine p_ (fun _=>?_) (fun _=>?_))<;>conv=>whnf));all_goals first|exact Ret.mk rfl | (exfalso;omega) | exact Ret.mk (by simp;omega)
  ·rw[decide_eq_false fun h=>h2 h.2];((conv=>whnf);repeat' ((first|(with_reducible first|apply a_|apply b_|apply c_)|((with_reducible first|apply d_|apply e_|apply f_|apply g_|apply h_);first|omega|simp only[q_]<;>omega)|((with_reducible apply i_);first|omega|simp only[q_]<;>omega)|((with_reducible apply h_);first|decide|kernel_rfl)|refine s_ (by decide) ?_|refine t_ (by decide) ?_|with_reducible first|apply l_|apply m_|apply n_|apply o_|refine p_ (fun _=>?_) (fun _=>?_))<;>conv=>whnf));all_goals first|exact Ret.mk rfl | (exfalso;omega) | exact Ret.mk (by simp;omega)
 ·rw[decide_eq_false fun h=>h1 h.1];((conv=>whnf);repeat' ((first|(with_reducible first|apply a_|apply b_|apply c_)|((with_reducible first|apply d_|apply e_|apply f_|apply g_|apply h_);first|omega|simp only[q_]<;>omega)|((with_reducible apply i_);first|omega|simp only[q_]<;>omega)|((with_reducible apply h_);first|decide|kernel_rfl)|refine s_ (by decide) ?_|refine t_ (by decide) ?_|with_reducible first|apply l_|apply m_|apply n_|apply o_|refine p_ (fun _=>?_) (fun _=>?_))<;>conv=>whnf));all_goals first|exact Ret.mk rfl | (exfalso;omega) | exact Ret.mk (by simp;omega)
theorem p_fitsI (n:Int):Pure Try.prog 34 [pInt .i64 n] (pBool (decide (2<=n/\n<=4))):=by
 refine pure_of Try.func34 (by rfl) rfl (by kernel_rfl) (by rfl) ?_;by_cases h1:2<=n
 ·by_cases h2:n<=4
  ·rw[decide_eq_true ⟨h1,h2⟩];((conv=>whnf);repeat' ((first|(with_reducible first|apply a_|apply b_|apply c_)|((with_reducible first|apply d_|apply e_|apply f_|apply g_|apply h_);first|omega|simp only[q_]<;>omega)|((with_reducible apply i_);first|omega|simp only[q_]<;>omega)|((with_reducible apply h_);first|decide|kernel_rfl)|refine s_ (by decide) ?_|refine t_ (by decide) ?_|with_reducible first|apply l_|apply m_|apply n_|apply o_|refine p_ (fun _=>?_) (fun _=>?_))<;>conv=>whnf));all_goals first|exact Ret.mk rfl | (exfalso;omega) | exact Ret.mk (by simp;omega)
  ·rw[decide_eq_false fun h=>h2 h.2];((conv=>whnf);repeat' ((first|(with_reducible first|apply a_|apply b_|apply c_)|((with_reducible first|apply d_|apply e_|apply f_|apply g_|apply h_);first|omega|simp only[q_]<;>omega)|((with_reducible apply i_);first|omega|simp only[q_]<;>omega)|((with_reducible apply h_);first|decide|kernel_rfl)|refine s_ (by decide) ?_|refine t_ (by decide) ?_|with_reducible first|apply l_|apply m_|apply n_|apply o_|refine p_ (fun _=>?_) (fun _=>?_))<;>conv=>whnf));all_goals first|exact Ret.mk rfl | (exfalso;omega) | exact Ret.mk (by simp;omega)
 ·rw[decide_eq_false fun h=>h1 h.1];((conv=>whnf);repeat' ((first|(with_reducible first|apply a_|apply b_|apply c_)|((with_reducible first|apply d_|apply e_|apply f_|apply g_|apply h_);first|omega|simp only[q_]<;>omega)|((with_reducible apply i_);first|omega|simp only[q_]<;>omega)|((with_reducible apply h_);first|decide|kernel_rfl)|refine s_ (by decide) ?_|refine t_ (by decide) ?_|with_reducible first|apply l_|apply m_|apply n_|apply o_|refine p_ (fun _=>?_) (fun _=>?_))<;>conv=>whnf));all_goals first|exact Ret.mk rfl | (exfalso;omega) | exact Ret.mk (by simp;omega)
namespace Tr
theorem take_flatL {L:List (List PairD)} {k:Nat} (h:k<L.length):(L.take (k+1)).flatten=(L.take k).flatten++L[k]:=by
 rw[List.take_succ_eq_append_getElem h,flatten_append];simp
end Tr
theorem p_chkleaves (L:List (List PairD)) (h64:L.length<=64) (hk:∀l∈L,∀p∈l,p.ok) (hl:∀l∈L,l.length<=140737488351232) :
  Pure Try.prog 12 [lvV L] (.tup [pInt .i64 (if lvChk L.length L []=0 then (L.flatten.length:Int) else 0),pInt .i64 (lvChk L.length L [])]):=by
 have hLl:(lvC L).length=L.length:=length_map _;refine pure_of Try.func12 (by rfl) rfl (by kernel_rfl) (by rfl) ?_;obtain⟨m,hm⟩:∃m,m=L.length:=⟨_,rfl⟩;rw[<- hm];((conv=>whnf);repeat' ((first|(with_reducible first|apply a_|apply b_|apply c_)|((with_reducible first|apply d_|apply e_|apply f_|apply g_|apply h_);first|omega|simp only[q_]<;>omega)|((with_reducible apply i_);first|omega|simp only[q_]<;>omega)|((with_reducible apply h_);first|decide|kernel_rfl)|refine s_ (by decide) ?_|refine t_ (by decide) ?_|with_reducible first|apply l_|apply m_|apply n_|apply o_|refine p_ (fun _=>?_) (fun _=>?_))<;>conv=>whnf));refine LoopC.mk Nat (fun k=>[(0,lvV L),(4,pInt .i64 (L.take k).flatten.length),(5,pStr (tx (lastK (L.take k).flatten))),(10,lvV L),(11,pInt .i64 L.length),(12,pInt .i64 (k:Int))]) (fun _=>[]) []
  (fun k=>k<=L.length/\(L.take k).flatten.length<=4*k/\Asc (L.take k).flatten/\lvChk m L []=lvChk m (L.drop k) (L.take k).flatten) (fun k=>L.length - k) 0 ⟨zero_le _,Nat.le_refl _,asc_nil,rfl⟩ ?start ?round
 case start=>exact⟨[],rfl,rfl,⟨.inl rfl,.inl rfl,.inl rfl,.inl rfl,PLe.int (by rw[hLl]),.inl rfl,trivial⟩,trivial⟩
 case round=>
  rintro k ⟨h1,h2,h3,h4⟩;have h1:k<=L.length:=h1;have h2:(L.take k).flatten.length<=4*k:=h2;have h3:Asc (L.take k).flatten:=h3;have h4:lvChk m L []=lvChk m (L.drop k) (L.take k).flatten:=h4;by_cases hkL:k<L.length
  ·rw[List.drop_eq_getElem_cons hkL,lvChk] at h4;obtain⟨l,hle⟩:∃l,l=L[k]:=⟨_,rfl⟩;have hmem:l∈L:=by rw[hle];exact List.getElem_mem hkL
   have hll:=hl l hmem;have hlo:=hk l hmem;have htf:=take_flatL hkL;rw[<- hle] at h4 htf;have hrow:(lvC L)[k]? = some [.sl 2 (l.map PairD.c)]:=by
    unfold lvC;rw[List.getElem?_map,List.getElem?_eq_getElem hkL,hle];rfl
   have hlml:(l.map PairD.c).length=l.length:=length_map _;have pf:=p_fits (l.map PairD.c).length;rw[show decide (2<=(l.map PairD.c).length/\(l.map PairD.c).length<=4)=decide (2<=l.length/\l.length<=4) by rw[hlml]] at pf;by_cases hb:badL m l
   ·rw[if_pos hb] at h4;rw[h4,if_neg (by decide)];have hf:decide (2<=l.length/\l.length<=4)=false:=decide_eq_false (by unfold badL at hb;omega);rw[hf] at pf;unfold badL at hb;rw[hm] at hb;((conv=>whnf);repeat' ((first|(with_reducible first|apply a_|apply b_|apply c_)|((with_reducible first|apply d_|apply e_|apply f_|apply g_|apply h_);first|omega|simp only[q_]<;>omega)|((with_reducible apply i_);first|omega|simp only[q_]<;>omega)|((with_reducible apply h_);first|decide|kernel_rfl)|refine s_ (by decide) ?_|refine t_ (by decide) ?_|(refine Idx.at' hrow rfl ?_)|refine r_ pf rfl ?_|with_reducible first|apply l_|apply m_|apply n_|apply o_|refine p_ (fun _=>?_) (fun _=>?_))<;>conv=>whnf));all_goals first|exact Ret.mk rfl|(exfalso;omega)|skip
   ·rw[if_neg hb] at h4;obtain⟨sn,hsn⟩:∃sn,sn=(L.take k).flatten:=⟨_,rfl⟩;rw[<- hsn] at h2 h3 h4 htf;unfold badL at hb;rw[hm] at hb;have hl4:l.length<=4:=by omega
    by_cases hf:2<=l.length/\l.length<=4
    all_goals
     first
     | rw[decide_eq_true hf] at pf
     | rw[decide_eq_false hf] at pf
     ((conv=>whnf);repeat' ((first|(with_reducible first|apply a_|apply b_|apply c_)|((with_reducible first|apply d_|apply e_|apply f_|apply g_|apply h_);first|omega|simp only[q_]<;>omega)|((with_reducible apply i_);first|omega|simp only[q_]<;>omega)|((with_reducible apply h_);first|decide|kernel_rfl)|refine s_ (by decide) ?_|refine t_ (by decide) ?_|(refine Idx.at' hrow rfl ?_)|refine r_ pf rfl ?_|with_reducible first|apply l_|apply m_|apply n_|apply o_|refine p_ (fun _=>?_) (fun _=>?_))<;>conv=>whnf));all_goals first|(exfalso;omega)|skip
     refine LoopC.mk Nat (fun j=>[(0,lvV L),(4,pInt .i64 (sn++l.take j).length),(5,pStr (tx (lastK (sn++l.take j)))),(10,lvV L),(11,pInt .i64 L.length),(12,pInt .i64 (k:Int)),(35,.d (.c (.sl 2 (l.map PairD.c)))),(36,pInt .i64 l.length),(37,pInt .i64 (j:Int))]) (fun _=>[]) []
      (fun j=>j<=l.length/\Asc (sn++l.take j)/\prChk l sn=prChk (l.drop j) (sn++l.take j)) (fun j=>l.length - j) 0 ⟨zero_le _,by simpa using h3,by simp⟩ ?start2 ?round2
     case start2=>exact⟨[],rfl,rfl,⟨.inl rfl,PLe.int (by rw[hsn];simp),PLe.text (by rw[hsn];simp),.inl rfl,.inl rfl,.inl rfl,.inl rfl,PLe.int (by rw[hlml]),.inl rfl,trivial⟩,trivial⟩
     case round2=>
      rintro j ⟨g1,g2,g3⟩;have g1:j<=l.length:=g1;have g2:Asc (sn++l.take j):=g2;have g3:prChk l sn=prChk (l.drop j) (sn++l.take j):=g3;obtain⟨s2,hs2⟩:∃s2,s2=sn++l.take j:=⟨_,rfl⟩;have hs2l:s2.length=sn.length+j:=by rw[hs2,length_append,length_take];omega
      rw[<- hs2] at g2 g3 ⊢;by_cases hj:j<l.length
      ·have hnx:sn++l.take (j+1)=s2++[l[j]]:=by rw[List.take_succ_eq_append_getElem hj,hs2,append_assoc]
       obtain⟨p,hp⟩:∃p,p=l[j]:=⟨_,rfl⟩;have hpo:p.ok:=by rw[hp];exact hlo _ (List.getElem_mem hj)
       have hpk:p.Key.length<=140737488351232:=hpo.1;have hks:(tx p.Key).size=p.Key.length:=rfl;rw[List.drop_eq_getElem_cons hj,prChk] at g3;have hrp:(l.map PairD.c)[j]? = some (PairD.c p):=by rw[List.getElem?_map,List.getElem?_eq_getElem hj,hp];rfl
       rw[<- hp] at g3 hnx;by_cases hq:40<p.Key.length
       ·rw[if_pos hq] at g3;rw[g3,if_pos (by decide)] at h4;rw[h4,if_neg (by decide)];((conv=>whnf);repeat' ((first|(with_reducible first|apply a_|apply b_|apply c_)|((with_reducible first|apply d_|apply e_|apply f_|apply g_|apply h_);first|omega|simp only[q_]<;>omega)|((with_reducible apply i_);first|omega|simp only[q_]<;>omega)|((with_reducible apply h_);first|decide|kernel_rfl)|refine s_ (by decide) ?_|refine t_ (by decide) ?_|(refine Idx.at' hrp rfl ?_)|with_reducible first|apply l_|apply m_|apply n_|apply o_|refine p_ (fun _=>?_) (fun _=>?_))<;>conv=>whnf));all_goals first|exact Ret.mk rfl|(exfalso;omega)|skip
       ·rw[if_neg hq] at g3;have done:¬(0<s2.length/\¬ltT (lastK s2) p.Key)->Asc (sn++l.take (j+1))/\prChk l sn=prChk (l.drop (j+1)) (sn++l.take (j+1)):=fun hc=>by
         rw[if_neg hc] at g3;rw[hnx];exact⟨(asc_snoc g2).2 hc,g3⟩
        have hlk:lastK (sn++l.take (j+1))=p.Key:=by rw[hnx,lastK_snoc]
        have hnl:(sn++l.take (j+1)).length=s2.length+1:=by rw[hnx,length_append];rfl
        by_cases h0:0<s2.length
        ·rcases lt_tri p.Key (lastK s2) with hc | hc | hc
         ·rw[if_pos ⟨h0,lt_asym hc⟩] at g3;rw[g3,if_pos (by decide)] at h4;rw[h4,if_neg (by decide)];have hb:Op.bytesLess (tx p.Key).toList (tx (lastK s2)).toList=true:=by rw[less_tx];exact decide_eq_true hc
          ((conv=>whnf);repeat' ((first|(with_reducible first|apply a_|apply b_|apply c_)|((with_reducible first|apply d_|apply e_|apply f_|apply g_|apply h_);first|omega|simp only[q_]<;>omega)|((with_reducible apply i_);first|omega|simp only[q_]<;>omega)|((with_reducible apply h_);first|decide|kernel_rfl)|refine s_ (by decide) ?_|refine t_ (by decide) ?_|(refine Idx.at' hrp rfl ?_)|(refine BCase.t hb ?_)|with_reducible first|apply l_|apply m_|apply n_|apply o_|refine p_ (fun _=>?_) (fun _=>?_))<;>conv=>whnf));all_goals first|exact Ret.mk rfl|(exfalso;omega)|skip
         ·rw[if_pos ⟨h0,by rw[hc];exact lt_irr _⟩] at g3;rw[g3,if_pos (by decide)] at h4;rw[h4,if_neg (by decide)];have hb:Op.bytesLess (tx p.Key).toList (tx (lastK s2)).toList=false:=by rw[less_tx,hc];exact decide_eq_false (lt_irr _)
          have hb2:decide (tx p.Key=tx (lastK s2))=true:=by rw[hc];exact decide_eq_true rfl
          ((conv=>whnf);repeat' ((first|(with_reducible first|apply a_|apply b_|apply c_)|((with_reducible first|apply d_|apply e_|apply f_|apply g_|apply h_);first|omega|simp only[q_]<;>omega)|((with_reducible apply i_);first|omega|simp only[q_]<;>omega)|((with_reducible apply h_);first|decide|kernel_rfl)|refine s_ (by decide) ?_|refine t_ (by decide) ?_|(refine Idx.at' hrp rfl ?_)|(refine BCase.f hb ?_)|(refine BCase.t hb2 ?_)|with_reducible first|apply l_|apply m_|apply n_|apply o_|refine p_ (fun _=>?_) (fun _=>?_))<;>conv=>whnf));all_goals first|exact Ret.mk rfl|(exfalso;omega)|skip
         ·obtain⟨d1,d2⟩:=done fun h=>h.2 hc;have hb:Op.bytesLess (tx p.Key).toList (tx (lastK s2)).toList=false:=by rw[less_tx];exact decide_eq_false (lt_asym hc)
          have hb2:decide (tx p.Key=tx (lastK s2))=false:=decide_eq_false fun e=>by
           rw[tx_eq] at e;rw[e] at hc;exact lt_irr _ hc
          ((conv=>whnf);repeat' ((first|(with_reducible first|apply a_|apply b_|apply c_)|((with_reducible first|apply d_|apply e_|apply f_|apply g_|apply h_);first|omega|simp only[q_]<;>omega)|((with_reducible apply i_);first|omega|simp only[q_]<;>omega)|((with_reducible apply h_);first|decide|kernel_rfl)|refine s_ (by decide) ?_|refine t_ (by decide) ?_|(refine Idx.at' hrp rfl ?_)|(refine BCase.f hb ?_)|(refine BCase.f hb2 ?_)|with_reducible first|apply l_|apply m_|apply n_|apply o_|refine p_ (fun _=>?_) (fun _=>?_))<;>conv=>whnf));all_goals first|(exfalso;omega)|exact⟨j+1,⟨hj,d1,d2⟩,by show l.length - (j+1)<l.length - j;omega,[],rfl,rfl,⟨.inl rfl,PLe.int (by rw[hnl];push_cast;rfl),PLe.text (by rw[hlk]),.inl rfl,.inl rfl,.inl rfl,.inl rfl,.inl rfl,PLe.int (by push_cast;rfl),trivial⟩,trivial⟩
        ·obtain⟨d1,d2⟩:=done fun h=>h0 h.1;((conv=>whnf);repeat' ((first|(with_reducible first|apply a_|apply b_|apply c_)|((with_reducible first|apply d_|apply e_|apply f_|apply g_|apply h_);first|omega|simp only[q_]<;>omega)|((with_reducible apply i_);first|omega|simp only[q_]<;>omega)|((with_reducible apply h_);first|decide|kernel_rfl)|refine s_ (by decide) ?_|refine t_ (by decide) ?_|(refine Idx.at' hrp rfl ?_)|with_reducible first|apply l_|apply m_|apply n_|apply o_|refine p_ (fun _=>?_) (fun _=>?_))<;>conv=>whnf));all_goals first|(exfalso;omega)|skip
         exact⟨j+1,⟨hj,d1,d2⟩,by show l.length - (j+1)<l.length - j;omega,[],rfl,rfl,⟨.inl rfl,PLe.int (by rw[hnl];push_cast;rfl),PLe.text (by rw[hlk]),.inl rfl,.inl rfl,.inl rfl,.inl rfl,.inl rfl,PLe.int (by push_cast;rfl),trivial⟩,trivial⟩
      ·have hjl:j=l.length:=by omega
       rw[hjl,take_length] at hs2;rw[hjl,drop_length,prChk] at g3;rw[g3,if_neg (by decide)] at h4;((conv=>whnf);repeat' ((first|(with_reducible first|apply a_|apply b_|apply c_)|((with_reducible first|apply d_|apply e_|apply f_|apply g_|apply h_);first|omega|simp only[q_]<;>omega)|((with_reducible apply i_);first|omega|simp only[q_]<;>omega)|((with_reducible apply h_);first|decide|kernel_rfl)|refine s_ (by decide) ?_|refine t_ (by decide) ?_|with_reducible first|apply l_|apply m_|apply n_|apply o_|refine p_ (fun _=>?_) (fun _=>?_))<;>conv=>whnf));all_goals first|(exfalso;omega)|skip
       exact⟨k+1,⟨hkL,by show ((L.take (k+1)).flatten).length<=4*(k+1);rw[htf,length_append];omega,by show Asc (L.take (k+1)).flatten;rw[htf,<- hs2];exact g2,by show _=lvChk m (L.drop (k+1)) (L.take (k+1)).flatten;rw[htf];exact h4⟩,by show L.length - (k+1)<L.length - k;omega,[],rfl,rfl,⟨.inl rfl,PLe.int (by rw[htf,<- hs2]),PLe.text (by rw[htf,<- hs2]),.inl rfl,.inl rfl,PLe.int (by push_cast;rfl),trivial⟩,trivial⟩
  ·obtain rfl:k=L.length:=by omega
   rw[drop_length,lvChk] at h4;rw[take_length];rw[h4,if_pos rfl];rw[take_length] at h2;((conv=>whnf);repeat' ((first|(with_reducible first|apply a_|apply b_|apply c_)|((with_reducible first|apply d_|apply e_|apply f_|apply g_|apply h_);first|omega|simp only[q_]<;>omega)|((with_reducible apply i_);first|omega|simp only[q_]<;>omega)|((with_reducible apply h_);first|decide|kernel_rfl)|refine s_ (by decide) ?_|refine t_ (by decide) ?_|with_reducible first|apply l_|apply m_|apply n_|apply o_|refine p_ (fun _=>?_) (fun _=>?_))<;>conv=>whnf));all_goals first|exact Ret.mk rfl | (exfalso;omega) | skip
namespace Tr
theorem sum_bound:∀{u:List Int},(∀n∈u,2<=n/\n<=4)->0<=u.sum/\u.sum<=4*(u.length:Int)
 | [],_=>⟨Int.le_refl _,Int.le_refl _⟩|x::u,h=>by
  obtain⟨h1,h2⟩:=sum_bound (u:=u) fun n hn=>h n (mem_cons_of_mem _ hn);have:=h x mem_cons_self;rw[sum_cons,length_cons];push_cast;omega
end Tr
theorem p_chkup (b:Nat) (Us:List (List Int)) (hb:b<=17592186044416) (hu:∀u∈Us,u.length<=17592186044416) (hU:Us.length<=1000) :
  Pure Try.prog 52 [pInt .i64 b,.d (.c (.sl 1 (upI Us)))] (pInt .i64 (upChk b Us)):=by
 have hUl:(upI Us).length=Us.length:=length_map _;refine pure_of Try.func52 (by rfl) rfl (by kernel_rfl) (by rfl) ?_;((conv=>whnf);repeat' ((first|(with_reducible first|apply a_|apply b_|apply c_)|((with_reducible first|apply d_|apply e_|apply f_|apply g_|apply h_);first|omega|simp only[q_]<;>omega)|((with_reducible apply i_);first|omega|simp only[q_]<;>omega)|((with_reducible apply h_);first|decide|kernel_rfl)|refine s_ (by decide) ?_|refine t_ (by decide) ?_|with_reducible first|apply l_|apply m_|apply n_|apply o_|refine p_ (fun _=>?_) (fun _=>?_))<;>conv=>whnf));refine LoopC.mk (Nat×Nat) (fun s=>[(0,pInt .i64 s.2),(10,.d (.c (.sl 1 (upI Us)))),(11,pInt .i64 Us.length),(12,pInt .i64 (s.1:Int))]) (fun _=>[]) []
  (fun s=>s.1<=Us.length/\s.2<=17592186044416/\upChk b Us=upChk s.2 (Us.drop s.1)) (fun s=>Us.length - s.1) (0,b) ⟨zero_le _,hb,rfl⟩ ?start ?round
 case start=>exact⟨[],rfl,rfl,⟨.inl rfl,.inl rfl,PLe.int (by rw[hUl]),.inl rfl,trivial⟩,trivial⟩
 case round=>
  rintro⟨k,c⟩ ⟨h1,h2,h3⟩;have h1:k<=Us.length:=h1;have h2:c<=17592186044416:=h2;have h3:upChk b Us=upChk c (Us.drop k):=h3;by_cases hkU:k<Us.length
  ·rw[List.drop_eq_getElem_cons hkU,upChk] at h3;obtain⟨u,hue⟩:∃u,u=Us[k]:=⟨_,rfl⟩;have hul:u.length<=17592186044416:=by rw[hue];exact hu _ (List.getElem_mem hkU)
   have hrow:(upI Us)[k]? = some [.sl 1 (u.map intC)]:=by
    unfold upI;rw[List.getElem?_map,List.getElem?_eq_getElem hkU,hue];rfl
   have hum:(u.map intC).length=u.length:=length_map _;rw[<- hue] at h3;by_cases hc2:c<2
   ·rw[if_pos hc2] at h3;rw[h3];((conv=>whnf);repeat' ((first|(with_reducible first|apply a_|apply b_|apply c_)|((with_reducible first|apply d_|apply e_|apply f_|apply g_|apply h_);first|omega|simp only[q_]<;>omega)|((with_reducible apply i_);first|omega|simp only[q_]<;>omega)|((with_reducible apply h_);first|decide|kernel_rfl)|refine s_ (by decide) ?_|refine t_ (by decide) ?_|(refine Idx.at' hrow rfl ?_)|with_reducible first|apply l_|apply m_|apply n_|apply o_|refine p_ (fun _=>?_) (fun _=>?_))<;>conv=>whnf));all_goals first|exact Ret.int rfl|(exfalso;omega)|skip
   ·rw[if_neg hc2] at h3;((conv=>whnf);repeat' ((first|(with_reducible first|apply a_|apply b_|apply c_)|((with_reducible first|apply d_|apply e_|apply f_|apply g_|apply h_);first|omega|simp only[q_]<;>omega)|((with_reducible apply i_);first|omega|simp only[q_]<;>omega)|((with_reducible apply h_);first|decide|kernel_rfl)|refine s_ (by decide) ?_|refine t_ (by decide) ?_|(refine Idx.at' hrow rfl ?_)|with_reducible first|apply l_|apply m_|apply n_|apply o_|refine p_ (fun _=>?_) (fun _=>?_))<;>conv=>whnf));refine LoopC.mk Nat (fun j=>[(0,pInt .i64 c),(6,.d (.c (.sl 1 (u.map intC)))),(7,pInt .i64 (u.take j).sum),(10,.d (.c (.sl 1 (upI Us)))),(11,pInt .i64 Us.length),(12,pInt .i64 (k:Int)),(18,.d (.c (.sl 1 (u.map intC)))),(19,pInt .i64 u.length),(20,pInt .i64 (j:Int))]) (fun _=>[]) []
     (fun j=>j<=u.length/\∀n∈u.take j,2<=n/\n<=4) (fun j=>u.length - j) 0 ⟨zero_le _,fun n hn=>(by cases hn)⟩ ?start2 ?round2
    case start2=>exact⟨[],rfl,rfl,⟨.inl rfl,.inl rfl,.inl rfl,.inl rfl,.inl rfl,.inl rfl,.inl rfl,PLe.int (by rw[hum]),.inl rfl,trivial⟩,trivial⟩
    case round2=>
     rintro j ⟨g1,g2⟩;have g1:j<=u.length:=g1;have g2:∀n∈u.take j,2<=n/\n<=4:=g2;have hsb:=sum_bound g2;rw[length_take] at hsb;by_cases hj:j<u.length
     ·have pf:=p_fitsI u[j];by_cases hf:2<=u[j]/\u[j]<=4
      ·rw[decide_eq_true hf] at pf;have hs1:(u.take (j+1)).sum=(u.take j).sum+u[j]:=by rw[List.take_succ_eq_append_getElem hj,sum_append,sum_singleton]
       ((conv=>whnf);repeat' ((first|(with_reducible first|apply a_|apply b_|apply c_)|((with_reducible first|apply d_|apply e_|apply f_|apply g_|apply h_);first|omega|simp only[q_]<;>omega)|((with_reducible apply i_);first|omega|simp only[q_]<;>omega)|((with_reducible apply h_);first|decide|kernel_rfl)|refine s_ (by decide) ?_|refine t_ (by decide) ?_|(refine Idx.mapI (f:=intC) j rfl hj ?_)|refine r_ pf rfl ?_|with_reducible first|apply l_|apply m_|apply n_|apply o_|refine p_ (fun _=>?_) (fun _=>?_))<;>conv=>whnf));all_goals first|(exfalso;omega)|skip
       refine⟨j+1,⟨hj,fun n hn=>?_⟩,by show u.length - (j+1)<u.length - j;omega,[],rfl,rfl,⟨.inl rfl,.inl rfl,PLe.int (by rw[hs1]),.inl rfl,.inl rfl,.inl rfl,.inl rfl,.inl rfl,PLe.int (by push_cast;rfl),trivial⟩,trivial⟩;rw[List.take_succ_eq_append_getElem hj] at hn;rcases mem_append.1 hn with hn | hn
       ·exact g2 n hn
       ·rw[mem_singleton] at hn;subst hn;exact hf
      ·rw[decide_eq_false hf] at pf;rw[if_neg fun h=>hf (h.1 _ (List.getElem_mem hj))] at h3;rw[h3];((conv=>whnf);repeat' ((first|(with_reducible first|apply a_|apply b_|apply c_)|((with_reducible first|apply d_|apply e_|apply f_|apply g_|apply h_);first|omega|simp only[q_]<;>omega)|((with_reducible apply i_);first|omega|simp only[q_]<;>omega)|((with_reducible apply h_);first|decide|kernel_rfl)|refine s_ (by decide) ?_|refine t_ (by decide) ?_|(refine Idx.mapI (f:=intC) j rfl hj ?_)|refine r_ pf rfl ?_|with_reducible first|apply l_|apply m_|apply n_|apply o_|refine p_ (fun _=>?_) (fun _=>?_))<;>conv=>whnf));all_goals first|exact Ret.int rfl|(exfalso;omega)|skip
     ·have e:u.take j=u:=take_of_length_le (by omega);rw[e] at g2 hsb ⊢;by_cases hs:u.sum=c
      ·rw[if_pos ⟨g2,hs⟩] at h3;((conv=>whnf);repeat' ((first|(with_reducible first|apply a_|apply b_|apply c_)|((with_reducible first|apply d_|apply e_|apply f_|apply g_|apply h_);first|omega|simp only[q_]<;>omega)|((with_reducible apply i_);first|omega|simp only[q_]<;>omega)|((with_reducible apply h_);first|decide|kernel_rfl)|refine s_ (by decide) ?_|refine t_ (by decide) ?_|with_reducible first|apply l_|apply m_|apply n_|apply o_|refine p_ (fun _=>?_) (fun _=>?_))<;>conv=>whnf));all_goals first|(exfalso;omega)|skip
       exact⟨(k+1,u.length),⟨hkU,hul,h3⟩,by show Us.length - (k+1)<Us.length - k;omega,[],rfl,rfl,⟨PLe.int (by rw[hum]),.inl rfl,.inl rfl,PLe.int (by push_cast;rfl),trivial⟩,trivial⟩
      ·rw[if_neg fun h=>hs h.2] at h3;rw[h3];((conv=>whnf);repeat' ((first|(with_reducible first|apply a_|apply b_|apply c_)|((with_reducible first|apply d_|apply e_|apply f_|apply g_|apply h_);first|omega|simp only[q_]<;>omega)|((with_reducible apply i_);first|omega|simp only[q_]<;>omega)|((with_reducible apply h_);first|decide|kernel_rfl)|refine s_ (by decide) ?_|refine t_ (by decide) ?_|with_reducible first|apply l_|apply m_|apply n_|apply o_|refine p_ (fun _=>?_) (fun _=>?_))<;>conv=>whnf));all_goals first|exact Ret.int rfl|(exfalso;omega)|skip
  ·have hke:k=Us.length:=by omega
   rw[hke,drop_length,upChk] at h3;rw[h3];by_cases hc:1<c
   ·rw[if_pos hc];((conv=>whnf);repeat' ((first|(with_reducible first|apply a_|apply b_|apply c_)|((with_reducible first|apply d_|apply e_|apply f_|apply g_|apply h_);first|omega|simp only[q_]<;>omega)|((with_reducible apply i_);first|omega|simp only[q_]<;>omega)|((with_reducible apply h_);first|decide|kernel_rfl)|refine s_ (by decide) ?_|refine t_ (by decide) ?_|with_reducible first|apply l_|apply m_|apply n_|apply o_|refine p_ (fun _=>?_) (fun _=>?_))<;>conv=>whnf));all_goals first|exact Ret.int rfl|(exfalso;omega)|skip
   ·rw[if_neg hc];((conv=>whnf);repeat' ((first|(with_reducible first|apply a_|apply b_|apply c_)|((with_reducible first|apply d_|apply e_|apply f_|apply g_|apply h_);first|omega|simp only[q_]<;>omega)|((with_reducible apply i_);first|omega|simp only[q_]<;>omega)|((with_reducible apply h_);first|decide|kernel_rfl)|refine s_ (by decide) ?_|refine t_ (by decide) ?_|with_reducible first|apply l_|apply m_|apply n_|apply o_|refine p_ (fun _=>?_) (fun _=>?_))<;>conv=>whnf));all_goals first|exact Ret.int rfl|(exfalso;omega)|skip
structure DataOk (t:TreeD):Prop where
 keys:∀l∈t.Leaves,∀p∈l,p.ok
 leaves:∀l∈t.Leaves,l.length<=140737488351232
 ups:∀u∈t.Up,u.length<=17592186044416
abbrev trD (t:TreeD):PV:=trV t.Leaves t.Up
abbrev chkD (t:TreeD):Int:=chkT t.Leaves t.Up
theorem p_treecheck (t:TreeD) (h:DataOk t):Pure Try.prog 29 [trD t] (pInt .i64 (chkD t)):=by
 obtain⟨h1,h2,h3⟩:=h;have hLl:(lvC t.Leaves).length=t.Leaves.length:=length_map _;have hUl:(upI t.Up).length=t.Up.length:=length_map _;refine pure_of Try.func29 (by rfl) rfl (by kernel_rfl) (by rfl) ?_;unfold chkD chkT;by_cases hm:64<t.Leaves.length\/8<t.Up.length
 ·rw[if_pos hm];((conv=>whnf);repeat' ((first|(with_reducible first|apply a_|apply b_|apply c_)|((with_reducible first|apply d_|apply e_|apply f_|apply g_|apply h_);first|omega|simp only[q_]<;>omega)|((with_reducible apply i_);first|omega|simp only[q_]<;>omega)|((with_reducible apply h_);first|decide|kernel_rfl)|refine s_ (by decide) ?_|refine t_ (by decide) ?_|with_reducible first|apply l_|apply m_|apply n_|apply o_|refine p_ (fun _=>?_) (fun _=>?_))<;>conv=>whnf));all_goals first|exact Ret.int rfl|(exfalso;omega)|skip
 ·rw[if_neg hm];have p1:=p_chkleaves t.Leaves (by omega) h1 h2;have p2:=p_chkup t.Leaves.length t.Up (by omega) h3 (by omega);rw[<- hLl] at p2;by_cases c1:lvChk t.Leaves.length t.Leaves []≠0
  ·rw[if_pos c1];rw[if_neg c1] at p1;((conv=>whnf);repeat' ((first|(with_reducible first|apply a_|apply b_|apply c_)|((with_reducible first|apply d_|apply e_|apply f_|apply g_|apply h_);first|omega|simp only[q_]<;>omega)|((with_reducible apply i_);first|omega|simp only[q_]<;>omega)|((with_reducible apply h_);first|decide|kernel_rfl)|refine s_ (by decide) ?_|refine t_ (by decide) ?_|refine r_ p1 rfl ?_|with_reducible first|apply l_|apply m_|apply n_|apply o_|refine p_ (fun _=>?_) (fun _=>?_))<;>conv=>whnf));all_goals first|exact Ret.int rfl|(exfalso;omega)|skip
  ·rw[if_neg c1];have c1:lvChk t.Leaves.length t.Leaves []=0:=Decidable.of_not_not c1;rw[if_pos c1,c1] at p1;rw[hLl] at p2;by_cases c2:upChk t.Leaves.length t.Up≠0
   ·rw[if_pos c2];have c3:upChk t.Leaves.length t.Up=1:=by
     have:∀(us:List (List Int)) (b:Nat),upChk b us=0\/upChk b us=1:=fun us=>by
      induction us with
      | nil=>
       intro b;rw[upChk];split
       ·exact .inr rfl
       ·exact .inl rfl
      | cons u us ih=>
       intro b;rw[upChk];split
       ·exact .inr rfl
       ·split
        ·exact ih _
        ·exact .inr rfl
     exact (this t.Up _).resolve_left c2
    rw[c3] at p2;rw[<- hLl] at p2;((conv=>whnf);repeat' ((first|(with_reducible first|apply a_|apply b_|apply c_)|((with_reducible first|apply d_|apply e_|apply f_|apply g_|apply h_);first|omega|simp only[q_]<;>omega)|((with_reducible apply i_);first|omega|simp only[q_]<;>omega)|((with_reducible apply h_);first|decide|kernel_rfl)|refine s_ (by decide) ?_|refine t_ (by decide) ?_|refine r_ p1 rfl ?_|refine r_ p2 rfl ?_|with_reducible first|apply l_|apply m_|apply n_|apply o_|refine p_ (fun _=>?_) (fun _=>?_))<;>conv=>whnf));all_goals first|exact Ret.int rfl|(exfalso;omega)|skip
   ·rw[if_neg c2];rw[Decidable.of_not_not c2] at p2;rw[<- hLl] at p2;by_cases c4:64<t.Leaves.flatten.length
    ·rw[if_pos c4];((conv=>whnf);repeat' ((first|(with_reducible first|apply a_|apply b_|apply c_)|((with_reducible first|apply d_|apply e_|apply f_|apply g_|apply h_);first|omega|simp only[q_]<;>omega)|((with_reducible apply i_);first|omega|simp only[q_]<;>omega)|((with_reducible apply h_);first|decide|kernel_rfl)|refine s_ (by decide) ?_|refine t_ (by decide) ?_|refine r_ p1 rfl ?_|refine r_ p2 rfl ?_|with_reducible first|apply l_|apply m_|apply n_|apply o_|refine p_ (fun _=>?_) (fun _=>?_))<;>conv=>whnf));all_goals first|exact Ret.int rfl|(exfalso;omega)|skip
    ·rw[if_neg c4];((conv=>whnf);repeat' ((first|(with_reducible first|apply a_|apply b_|apply c_)|((with_reducible first|apply d_|apply e_|apply f_|apply g_|apply h_);first|omega|simp only[q_]<;>omega)|((with_reducible apply i_);first|omega|simp only[q_]<;>omega)|((with_reducible apply h_);first|decide|kernel_rfl)|refine s_ (by decide) ?_|refine t_ (by decide) ?_|refine r_ p1 rfl ?_|refine r_ p2 rfl ?_|with_reducible first|apply l_|apply m_|apply n_|apply o_|refine p_ (fun _=>?_) (fun _=>?_))<;>conv=>whnf));all_goals first|exact Ret.int rfl|(exfalso;omega)|skip
end
section
open Go.RowKit K
open Tr
namespace Tr
def sideF (u:List Nat) (at_:Nat):Nat:=if at_+1=(u.take (nodeF u at_+1)).sum then at_ - 1 else at_+1
def mendU:List Nat->List (List Nat)->Nat->List (List Nat)
 | cur,[],at_=>if cur.getD at_ 0=1 then [] else [cur]|cur,u::us,at_=>if 2<=cur.getD at_ 0 then cur::u::us
  else if 2<cur.getD (sideF u at_) 0 then ((cur.set (sideF u at_) (cur.getD (sideF u at_) 0 - 1)).set at_ (cur.getD at_ 0+1))::u::us
  else ((cur.set (min at_ (sideF u at_)) (cur.getD (min at_ (sideF u at_)) 0+cur.getD (min at_ (sideF u at_)+1) 0)).eraseIdx (min at_ (sideF u at_)+1))::mendU (u.set (nodeF u at_) (u.getD (nodeF u at_) 0 - 1)) us (nodeF u at_)
abbrev LU:=List (List PairD)×List (List Nat)
def handL (L:List (List PairD)) (at_ side:Nat):List (List PairD):=
 if at_<side then (L.set at_ (L.getD at_ []++(L.getD side []).take 1)).set side ((L.getD side []).drop 1)
 else (L.set at_ ((L.getD side []).drop ((L.getD side []).length - 1)++L.getD at_ [])).set side ((L.getD side []).take ((L.getD side []).length - 1))
def joinL (L:List (List PairD)) (m:Nat):List (List PairD):=(L.set m (L.getD m []++L.getD (m+1) [])).eraseIdx (m+1)
def mendL (L:List (List PairD)):List (List Nat)->Nat->LU
 | [],_=>(L,[])|u::us,at_=>if 2<=(L.getD at_ []).length then (L,u::us)
  else if 2<(L.getD (sideF u at_) []).length then (handL L at_ (sideF u at_),u::us)
  else (joinL L (min at_ (sideF u at_)),mendU (u.set (nodeF u at_) (u.getD (nodeF u at_) 0 - 1)) us (nodeF u at_))
def withN:Nest->Nest->Nest
 | .leaf a,.leaf b=>.leaf (a++b)|m,n=>.node (m.kids++n.kids)
def cutN:Nest->Nat->List Nest
 | .leaf a,k=>[.leaf (a.take k),.leaf (a.drop k)]|.node a,k=>[.node (a.take k),.node (a.drop k)]
def fixZ (l:List Nest) (X:Nest) (r:List Nest):List Nest:=
 if 2<=X.size then l++[X]++r else match r with
  | s::r'=>if 2<s.size then l++cutN (withN X s) 2++r' else l++[withN X s]++r'|[]=>match l.getLast? with
   | none=>[X]|some s=>if 2<s.size then l.dropLast++cutN (withN s X) (s.size - 1) else l.dropLast++[withN s X]
def takeN:Nat->Nest->List UInt8->Nest
 | 0,n,key=>.leaf (delP n.pairs key)|h+1,n,key=>.node (fixZ (n.kids.take (kidF h n.kids key)) (takeN h (n.kids.getD (kidF h n.kids key) noN) key) (n.kids.drop (kidF h n.kids key+1)))
def mendZ:Frs->Nest->Nest
 | [],X=>X|(l,r)::fs,X=>mendZ fs (.node (fixZ l X r))
theorem mendZ_snoc (l r:List Nest):∀(fs:Frs) (X:Nest),mendZ (fs++[(l,r)]) X=.node (fixZ l (mendZ fs X) r)
 | [],X=>rfl|(a,b)::fs,X=>by rw[cons_append,mendZ,mendZ_snoc l r fs,mendZ]
theorem take_path:∀(h:Nat) (n:Nest) (key:List UInt8),takeN h n key=mendZ (pathF h n key) (.leaf (delP (pathX h n key).pairs key))
 | 0,_,_=>rfl|h+1,n,key=>by rw[takeN,pathF,mendZ_snoc,take_path h];rfl
def topN:Nest->Nest
 | .node [k]=>k|n=>n
section
variable {α:Type} {P Q:List α} {x s:α}
theorem two_at (d:α):(P++[x,s]++Q).getD P.length d=x/\(P++[x,s]++Q).getD (P.length+1) d=s:=by
 refine⟨?_,?_⟩
 ·rw[List.getD_eq_getElem?_getD,append_assoc,List.getElem?_append_right (Nat.le_refl _),sub_self];rfl
 ·rw[List.getD_eq_getElem?_getD,append_assoc,List.getElem?_append_right (by omega),show P.length+1 - P.length=1 by omega];rfl
theorem two_set1 (y:α):(P++[x,s]++Q).set P.length y=P++[y,s]++Q:=by
 rw[append_assoc,set_append_right _ _ (Nat.le_refl _),sub_self,append_assoc];rfl
theorem two_set2 (y:α):(P++[x,s]++Q).set (P.length+1) y=P++[x,y]++Q:=by
 rw[append_assoc,set_append_right _ _ (by omega),show P.length+1 - P.length=1 by omega,append_assoc];rfl
theorem two_del:(P++[x,s]++Q).eraseIdx (P.length+1)=P++[x]++Q:=by
 rw[append_assoc,List.eraseIdx_append_of_length_le (by omega),show P.length+1 - P.length=1 by omega,append_assoc];rfl
end
theorem with_size {m n:Nest} (h:Nat) (hm:tall h m) (hn:tall h n):(withN m n).size=m.size+n.size/\(withN m n).kids=m.kids++n.kids/\(withN m n).pairs=m.pairs++n.pairs/\tall h (withN m n):=by
 cases h with
 | zero=>
  cases m with
  | node _=>exact hm.elim|leaf a=>cases n with
   | node _=>exact hn.elim|leaf b=>exact⟨length_append,rfl,rfl,trivial⟩
 | succ h=>
  cases m with
  | leaf _=>exact hm.elim|node a=>cases n with
   | leaf _=>exact hn.elim|node b=>exact⟨length_append,rfl,rfl,fun k hk=>(mem_append.1 hk).elim (hm k) (hn k)⟩
theorem cut_two {n:Nest} (h:Nat) (hn:tall h n) (k:Nat) (hk:k<=n.size):∃A B,cutN n k=[A,B]/\A.size=k/\B.size=n.size - k/\A.kids++B.kids=n.kids/\A.pairs=n.pairs.take k/\B.pairs=n.pairs.drop k/\tall h A/\tall h B:=by
 cases h with
 | zero=>
  cases n with
  | node _=>exact hn.elim|leaf a=>exact⟨_,_,rfl,by show (a.take k).length=k;rw[length_take];exact min_eq_left hk,by show (a.drop k).length=_;rw[length_drop];rfl,rfl,rfl,rfl,trivial,trivial⟩
 | succ h=>
  cases n with
  | leaf _=>exact hn.elim|node a=>exact⟨_,_,rfl,by show (a.take k).length=k;rw[length_take];exact min_eq_left hk,by show (a.drop k).length=_;rw[length_drop];rfl,take_append_drop k a,by show []=[].take k;rw[take_nil],by show []=[].drop k;rw[List.drop_nil],fun x hx=>hn x (mem_of_mem_take hx),fun x hx=>hn x (mem_of_mem_drop hx)⟩
theorem mendZ_still:∀(fs:Frs) (j:Nat) (X:Nest),wfF j fs->2<=X.size->mendZ fs X=plug fs X/\2<=(plug fs X).size
 | [],_,X,_,h=>⟨rfl,h⟩|(l,r)::fs,j,X,⟨h1,h2,h3,h4,h5⟩,h=>by
  rw[mendZ,plug];unfold fixZ;rw[if_pos h];exact mendZ_still fs (j+1) _ h5 (by show 2<=(l++[X]++r).length;simp only[length_append,length_singleton];omega)
theorem topN_two {X:Nest} (h:2<=X.size):topN X=X:=by
 cases X with
 | leaf _=>rfl|node ks=>match ks,h with
  | [],_=>rfl|[k],h=>exact absurd h (by decide:¬2<=1)|_::_::_,_=>rfl
theorem still_lv {fs:Frs} {j h:Nat} {X:Nest} (hw:wfF j fs) (h2:2<=X.size):topN (mendZ fs X)=plug fs X/\lvs (h+fs.length) [plug fs X]=lvs h (lF fs++[X]++rF fs)/\ups (h+fs.length) [plug fs X]=ups h (lF fs++[X]++rF fs)++abv fs 1:=by
 obtain⟨e1,e2⟩:=mendZ_still fs j X hw h2;obtain⟨o1,o2⟩:=okFr_of fs j hw;obtain⟨M,m1,m2,m3,m4⟩:=rise_one fs h X o1 o2;subst m2;exact⟨by rw[e1,topN_two e2],m3,m4⟩
theorem side_at {l r:List Nest} {fs:Frs} (hi:inner (lF fs)):nodeF ((lF fs).map Nest.size++[l.length+1+r.length]++(rF fs).map Nest.size) (lF ((l,r)::fs)).length=(lF fs).length/\
  sideF ((lF fs).map Nest.size++[l.length+1+r.length]++(rF fs).map Nest.size) (lF ((l,r)::fs)).length=if r=[] then (lF ((l,r)::fs)).length - 1 else (lF ((l,r)::fs)).length+1:=by
 have hn:=node_mid fs l r 1 hi (by decide);rw[length_map] at hn;refine⟨hn,?_⟩;unfold sideF;rw[hn];have e:(((lF fs).map Nest.size++[l.length+1+r.length]++(rF fs).map Nest.size).take ((lF fs).length+1)).sum=((lF fs).flatMap Nest.kids).length+(l.length+1+r.length):=by
  rw[show (lF fs).length+1=((lF fs).map Nest.size++[l.length+1+r.length]).length by simp,take_left']
  ·rw[sum_append,sum_singleton,sizes_sum hi]
  ·rfl
 rw[e];have e2:(lF ((l,r)::fs)).length=((lF fs).flatMap Nest.kids).length+l.length:=by rw[lF,length_append]
 rw[e2];cases r with
 | nil=>rw[if_pos (by simp only[length_nil];omega),if_pos rfl]|cons s r=>rw[if_neg (by simp only[length_cons];omega),if_neg (by simp)]
theorem less_mid {A B:List Nat} {n:Nat}:(A++[n]++B).set A.length ((A++[n]++B).getD A.length 0 - 1)=A++[n - 1]++B:=by rw[getD_mid,set_mid]
theorem fix_cases (j:Nat) {l r:List Nest} {X:Nest} (hl:∀n∈l,tall j n) (hr:∀n∈r,tall j n) (hX:tall j X) (h2:2<=l.length+1+r.length) (h1:X.size=1) :
  (∃s r',r=s::r'/\((2<s.size/\∃P Q,fixZ l X r=l++[P,Q]++r'/\P.size=2/\Q.size=s.size - 1/\P.kids++Q.kids=X.kids++s.kids/\P.pairs=(X.pairs++s.pairs).take 2/\Q.pairs=(X.pairs++s.pairs).drop 2/\tall j P/\tall j Q)\/
   (¬2<s.size/\∃W,fixZ l X r=l++[W]++r'/\W.size=X.size+s.size/\W.kids=X.kids++s.kids/\W.pairs=X.pairs++s.pairs/\tall j W)))\/
  ∃s l',r=[]/\l=l'++[s]/\((2<s.size/\∃P Q,fixZ l X r=l'++[P,Q]/\P.size=s.size - 1/\Q.size=2/\P.kids++Q.kids=s.kids++X.kids/\P.pairs=(s.pairs++X.pairs).take (s.size - 1)/\Q.pairs=(s.pairs++X.pairs).drop (s.size - 1)/\tall j P/\tall j Q)\/
   (¬2<s.size/\∃W,fixZ l X r=l'++[W]/\W.size=s.size+X.size/\W.kids=s.kids++X.kids/\W.pairs=s.pairs++X.pairs/\tall j W)):=by
 have hlt:¬2<=X.size:=by omega
 cases r with
 | cons s r'=>
  left;refine⟨s,r',rfl,?_⟩;have hs:=hr s mem_cons_self;obtain⟨w1,w2,w3,w4⟩:=with_size j hX hs;unfold fixZ;rw[if_neg hlt];by_cases h:2<s.size
  ·left;obtain⟨A,B,c1,c2,c3,c4,c5,c6,c7,c8⟩:=cut_two j w4 2 (by omega);exact⟨h,A,B,by dsimp only;rw[if_pos h,c1],c2,by omega,by rw[c4,w2],by rw[c5,w3],by rw[c6,w3],c7,c8⟩
  ·right;exact⟨h,_,by dsimp only;rw[if_neg h],w1,w2,w3,w4⟩
 | nil=>
  right;rcases eq_nil_or_concat l with rfl | ⟨l',s,e⟩
  ·exact absurd h2 (by decide)
  ·rw[concat_eq_append] at e;subst e;refine⟨s,l',rfl,rfl,?_⟩;have hs:=hl s (by simp);obtain⟨w1,w2,w3,w4⟩:=with_size j hs hX;unfold fixZ;rw[if_neg hlt];have hg:(l'++[s]).getLast? = some s:=by simp
   have hd:(l'++[s]).dropLast=l':=by simp
   by_cases h:2<s.size
   ·left;obtain⟨A,B,c1,c2,c3,c4,c5,c6,c7,c8⟩:=cut_two j w4 (s.size - 1) (by omega);exact⟨h,A,B,by dsimp only;rw[hg];dsimp only;rw[if_pos h,c1,hd],c2,by omega,by rw[c4,w2],by rw[c5,w3],by rw[c6,w3],c7,c8⟩
   ·right;exact⟨h,_,by dsimp only;rw[hg];dsimp only;rw[if_neg h,hd],w1,w2,w3,w4⟩
theorem node_lv (h:Nat) (l r:List Nest) (fs:Frs) (Z:List Nest) :
  (lF fs++[Nest.node Z]++rF fs).flatMap Nest.kids=(lF fs).flatMap Nest.kids++Z++(rF fs).flatMap Nest.kids/\
  ups (h+1) (lF fs++[Nest.node Z]++rF fs)=ups h ((lF fs).flatMap Nest.kids++Z++(rF fs).flatMap Nest.kids)++[(lF fs).map Nest.size++[Z.length]++(rF fs).map Nest.size]:=by
 have e:(lF fs++[Nest.node Z]++rF fs).flatMap Nest.kids=(lF fs).flatMap Nest.kids++Z++(rF fs).flatMap Nest.kids:=by simp[Nest.kids]
 refine⟨e,?_⟩;rw[ups,e]
 congr 1
 simp[Nest.size]
theorem mend_stop {j h:Nat} {l r:List Nest} {fs:Frs} {Z:List Nest} (w5:wfF j fs) (h2:2<=Z.length) :
  lvs (h+1+fs.length) [topN (mendZ fs (.node Z))]=lvs h ((lF fs).flatMap Nest.kids++Z++(rF fs).flatMap Nest.kids)/\
  ups (h+1+fs.length) [topN (mendZ fs (.node Z))]=ups h ((lF fs).flatMap Nest.kids++Z++(rF fs).flatMap Nest.kids)++(((lF fs).map Nest.size++[Z.length]++(rF fs).map Nest.size)::abv fs 1):=by
 obtain⟨e1,e2,e3⟩:=still_lv (h:=h+1) (X:=.node Z) w5 h2;obtain⟨n1,n2⟩:=node_lv h l r fs Z;refine⟨?_,?_⟩
 ·rw[e1,e2,lvs,n1]
 ·rw[e1,e3,n2,append_assoc];rfl
theorem mend_up:∀(fs:Frs) (h:Nat) (X:Nest),wfF (h+1) fs->tall (h+1) X->1<=X.size->
  ∃H,lvs H [topN (mendZ fs X)]=lvs h ((lF fs++[X]++rF fs).flatMap Nest.kids)/\
   ups H [topN (mendZ fs X)]=ups h ((lF fs++[X]++rF fs).flatMap Nest.kids)++mendU ((lF fs++[X]++rF fs).map Nest.size) (abv fs 1) (lF fs).length
 | [],h,X,_,ht,h1=>by
  cases X with
  | leaf _=>exact ht.elim|node ks=>
   by_cases e:ks.length=1
   ·obtain⟨k,rfl⟩:=length_eq_one_iff.1 e;refine⟨h,?_,?_⟩
    ·simp[mendZ,topN,lF,rF,Nest.kids]
    ·simp[mendZ,topN,lF,rF,Nest.kids,abv,mendU,Nest.size]
   ·have h1:1<=ks.length:=h1;have h2:2<=(Nest.node ks).size:=by show 2<=ks.length;omega
    refine⟨h+1,?_,?_⟩
    ·rw[mendZ,topN_two h2];simp[lF,rF,lvs]
    ·rw[mendZ,topN_two h2];simp[lF,rF,ups,abv,mendU,Nest.size,e]
 | (l,r)::fs,h,X,hw,ht,h1=>by
  obtain⟨w1,w2,w3,w4,w5⟩:=hw;obtain⟨g1,g2⟩:=lF_tall fs (h+1+1) w5;have hiL:inner (lF fs):=fun n hn=>(tall_node (g1 n hn).1).2.1;obtain⟨s1,s2⟩:=side_at (l:=l) (r:=r) hiL;rw[mendZ,abv,mendU];rw[s1,s2];obtain⟨a0,ha0⟩:∃a0,a0=(lF fs).flatMap Nest.kids:=⟨_,rfl⟩;obtain⟨b0,hb0⟩:∃b0,b0=(rF fs).flatMap Nest.kids:=⟨_,rfl⟩;have hA:lF ((l,r)::fs)=a0++l:=by rw[ha0];rfl
  have hB:rF ((l,r)::fs)=r++b0:=by rw[hb0];rfl
  have hlm:(lF fs).length=((lF fs).map Nest.size).length:=by rw[length_map]
  have stop:∀Z:List Nest,Z.length=l.length+1+r.length->Z.flatMap Nest.kids=(l++[X]++r).flatMap Nest.kids->fixZ l X r=Z->
    ∃H,lvs H [topN (mendZ fs (.node (fixZ l X r)))]=lvs h ((lF ((l,r)::fs)++[X]++rF ((l,r)::fs)).flatMap Nest.kids)/\
     ups H [topN (mendZ fs (.node (fixZ l X r)))]=ups h ((lF ((l,r)::fs)++[X]++rF ((l,r)::fs)).flatMap Nest.kids)++((a0++Z++b0).map Nest.size::((lF fs).map Nest.size++[l.length+1+r.length]++(rF fs).map Nest.size)::abv fs 1):=by
   intro Z hZ hk hf;rw[hf];obtain⟨e1,e2⟩:=mend_stop (h:=h+1) (l:=l) (r:=r) (Z:=Z) w5 (by omega);have hkk:(a0++Z++b0).flatMap Nest.kids=(lF ((l,r)::fs)++[X]++rF ((l,r)::fs)).flatMap Nest.kids:=by
    rw[hA,hB];simp only[flatMap_append,append_assoc] at hk ⊢;rw[hk];simp only[append_assoc]
   refine⟨_,e1.trans ?_,e2.trans ?_⟩
   ·rw[lvs,<- ha0,<- hb0,hkk]
   ·rw[ups,<- ha0,<- hb0,hkk,hZ,append_assoc];rfl
  have go:∀Z:List Nest,Z.length=l.length+r.length->Z.flatMap Nest.kids=(l++[X]++r).flatMap Nest.kids->fixZ l X r=Z->
    ∃H,lvs H [topN (mendZ fs (.node (fixZ l X r)))]=lvs h ((lF ((l,r)::fs)++[X]++rF ((l,r)::fs)).flatMap Nest.kids)/\
     ups H [topN (mendZ fs (.node (fixZ l X r)))]=ups h ((lF ((l,r)::fs)++[X]++rF ((l,r)::fs)).flatMap Nest.kids)++((a0++Z++b0).map Nest.size::mendU ((lF fs).map Nest.size++[l.length+1+r.length - 1]++(rF fs).map Nest.size) (abv fs 1) (lF fs).length):=by
   intro Z hZ hk hf;rw[hf];have hfz:∀k∈Z,tall (h+1) k:=fun k hk'=>by
    rw[<- hf] at hk';clear hk hf
    revert k hk'
    have hX1:2<=X.size\/X.size=1:=by omega
    rcases hX1 with hX | hX
    ·unfold fixZ;rw[if_pos hX];intro k hk';rcases mem_append.1 hk' with hk' | hk'
     ·rcases mem_append.1 hk' with hk' | hk'
      ·exact (w1 k hk').1
      ·rw[mem_singleton] at hk';subst hk';exact ht
     ·exact (w2 k hk').1
    ·rcases fix_cases (h+1) (fun n hn=>(w1 n hn).1) (fun n hn=>(w2 n hn).1) ht w3 hX with ⟨s,r',e,⟨_,P,Q,c1,_,_,_,_,_,c7,c8⟩ | ⟨_,W,c1,_,_,_,c5⟩⟩ | ⟨s,l',e,e',⟨_,P,Q,c1,_,_,_,_,_,c7,c8⟩ | ⟨_,W,c1,_,_,_,c5⟩⟩
     ·intro k hk';rw[c1] at hk';simp only[mem_append,mem_cons,not_mem_nil,or_false] at hk';rcases hk' with (hk' | rfl | rfl) | hk'
      ·exact (w1 k hk').1
      ·exact c7
      ·exact c8
      ·exact (w2 k (by rw[e];exact mem_cons_of_mem _ hk')).1
     ·intro k hk';rw[c1] at hk';simp only[mem_append,mem_cons,not_mem_nil,or_false] at hk';rcases hk' with (hk' | rfl) | hk'
      ·exact (w1 k hk').1
      ·exact c5
      ·exact (w2 k (by rw[e];exact mem_cons_of_mem _ hk')).1
     ·intro k hk';rw[c1] at hk';simp only[mem_append,mem_cons,not_mem_nil,or_false] at hk';rcases hk' with hk' | rfl | rfl
      ·exact (w1 k (by rw[e'];exact mem_append_left _ hk')).1
      ·exact c7
      ·exact c8
     ·intro k hk';rw[c1] at hk';simp only[mem_append,mem_cons,not_mem_nil,or_false] at hk';rcases hk' with hk' | rfl
      ·exact (w1 k (by rw[e'];exact mem_append_left _ hk')).1
      ·exact c5
   obtain⟨H,e1,e2⟩:=mend_up fs (h+1) (.node Z) w5 hfz (by show 1<=Z.length;omega);obtain⟨n1,n2⟩:=node_lv h l r fs Z;have hkk:(a0++Z++b0).flatMap Nest.kids=(lF ((l,r)::fs)++[X]++rF ((l,r)::fs)).flatMap Nest.kids:=by
    rw[hA,hB];simp only[flatMap_append,append_assoc] at hk ⊢;rw[hk];simp only[append_assoc]
   refine⟨H,e1.trans ?_,e2.trans ?_⟩
   ·rw[n1,lvs,<- ha0,<- hb0,hkk]
   ·rw[n1,ups,<- ha0,<- hb0,hkk,append_assoc]
    congr 1
    simp only[map_append,map_cons,map_nil,Nest.size,hZ,singleton_append];rw[show l.length+1+r.length - 1=l.length+r.length by omega]
  have hlen:(lF ((l,r)::fs)).length=(a0++l).length:=by rw[hA]
  rw[hA,hB] at stop go ⊢;by_cases hX:2<=X.size
  ·have hat:((a0++l++[X]++(r++b0)).map Nest.size).getD (a0++l).length 0=X.size:=by
    rw[map_append,map_append];have:=getD_mid (A:=(a0++l).map Nest.size) (B:=(r++b0).map Nest.size) (s:=X.size);rw[length_map] at this;exact this
   rw[hat,if_pos hX];have hfx:fixZ l X r=l++[X]++r:=by unfold fixZ;rw[if_pos hX]
   have:=stop (l++[X]++r) (by simp;omega) rfl hfx;rw[show a0++(l++[X]++r)++b0=a0++l++[X]++(r++b0) by simp] at this;exact this
  ·have hX1:X.size=1:=by omega
   have hup:((lF fs).map Nest.size++[l.length+1+r.length]++(rF fs).map Nest.size).set (lF fs).length (((lF fs).map Nest.size++[l.length+1+r.length]++(rF fs).map Nest.size).getD (lF fs).length 0 - 1) =
     (lF fs).map Nest.size++[l.length+1+r.length - 1]++(rF fs).map Nest.size:=by rw[hlm];exact less_mid
   rw[hup];rcases fix_cases (h+1) (fun n hn=>(w1 n hn).1) (fun n hn=>(w2 n hn).1) ht w3 hX1 with ⟨s,r',e,hh⟩ | ⟨s,l',e,e',hh⟩
   ·subst e;have hF:(a0++l++[X]++(s::r'++b0)).map Nest.size=(a0++l).map Nest.size++[X.size,s.size]++(r'++b0).map Nest.size:=by simp
    have hll:((a0++l).map Nest.size).length=(a0++l).length:=length_map _;obtain⟨t1,t2⟩:=two_at (P:=(a0++l).map Nest.size) (Q:=(r'++b0).map Nest.size) (x:=X.size) (s:=s.size) 0;rw[hll] at t1 t2;rw[if_neg (show ¬(s::r'=[]) by simp),hF,t1,if_neg hX,t2,show min (a0++l).length ((a0++l).length+1)=(a0++l).length by omega,t1,t2];rcases hh with ⟨q,P,Q,c1,c2,c3,c4,_⟩ | ⟨q,W,c1,c2,c3,_⟩
    ·rw[if_pos q,<- hll,two_set2,two_set1];have:=stop (l++[P,Q]++r') (by simp;omega) (by simp[c4];rw[<- append_assoc,c4,append_assoc]) c1;rw[show (a0++(l++[P,Q]++r')++b0).map Nest.size=(a0++l).map Nest.size++[X.size+1,s.size - 1]++(r'++b0).map Nest.size by simp[c2,c3,hX1]] at this;exact this
    ·rw[if_neg q,<- hll,two_set1,two_del];have:=go (l++[W]++r') (by simp) (by simp[c3]) c1;rw[show (a0++(l++[W]++r')++b0).map Nest.size=(a0++l).map Nest.size++[X.size+s.size]++(r'++b0).map Nest.size by simp[c2]] at this;exact this
   ·subst e;subst e';have hF:(a0++(l'++[s])++[X]++([]++b0)).map Nest.size=(a0++l').map Nest.size++[s.size,X.size]++b0.map Nest.size:=by simp
    have hll:((a0++l').map Nest.size).length=(a0++l').length:=length_map _;have hl1:(a0++(l'++[s])).length=(a0++l').length+1:=by simp;omega
    obtain⟨t1,t2⟩:=two_at (P:=(a0++l').map Nest.size) (Q:=b0.map Nest.size) (x:=s.size) (s:=X.size) 0;rw[hll] at t1 t2;rw[if_pos (show ([]:List Nest)=[] from rfl),hF,hl1,t2,if_neg hX,show (a0++l').length+1 - 1=(a0++l').length by omega,t1,show min ((a0++l').length+1) (a0++l').length=(a0++l').length by omega,t1,t2];rcases hh with ⟨q,P,Q,c1,c2,c3,c4,_⟩ | ⟨q,W,c1,c2,c3,_⟩
    ·rw[if_pos q,<- hll,two_set1,two_set2];have:=stop (l'++[P,Q]) (by simp) (by simp[c4]) c1;rw[show (a0++(l'++[P,Q])++b0).map Nest.size=(a0++l').map Nest.size++[s.size - 1,X.size+1]++b0.map Nest.size by simp[c2,c3,hX1]] at this;exact this
    ·rw[if_neg q,<- hll,two_set1,two_del];have:=go (l'++[W]) (by simp) (by simp[c3]) c1;rw[show (a0++(l'++[W])++b0).map Nest.size=(a0++l').map Nest.size++[s.size+X.size]++b0.map Nest.size by simp[c2]] at this;exact this
end Tr
end
section
open Go.RowKit K
open Tr
namespace Tr
theorem leaf_of {n:Nest} (h:tall 0 n):n=.leaf n.pairs/\n.size=n.pairs.length:=by
 cases n with
 | leaf ps=>exact⟨rfl,rfl⟩|node _=>exact h.elim
theorem mend_leaf:∀(fs:Frs) (q:List PairD),wfF 0 fs->(fs≠[]->1<=q.length)->
  ∃H,mendL ((lF fs++[Nest.leaf q]++rF fs).map Nest.pairs) (abv fs 1) (lF fs).length=(lvs H [topN (mendZ fs (.leaf q))],ups H [topN (mendZ fs (.leaf q))])
 | [],q,_,_=>⟨0,rfl⟩|(l,r)::fs,q,hw,hq=>by
  have hq:=hq (by simp);obtain⟨w1,w2,w3,w4,w5⟩:=hw;obtain⟨g1,g2⟩:=lF_tall fs 1 w5;have hiL:inner (lF fs):=fun n hn=>(tall_node (g1 n hn).1).2.1;obtain⟨s1,s2⟩:=side_at (l:=l) (r:=r) hiL;rw[mendZ,abv,mendL];rw[s1,s2];obtain⟨a0,ha0⟩:∃a0,a0=(lF fs).flatMap Nest.kids:=⟨_,rfl⟩;obtain⟨b0,hb0⟩:∃b0,b0=(rF fs).flatMap Nest.kids:=⟨_,rfl⟩;have hA:lF ((l,r)::fs)=a0++l:=by rw[ha0];rfl
  have hB:rF ((l,r)::fs)=r++b0:=by rw[hb0];rfl
  have hlm:(lF fs).length=((lF fs).map Nest.size).length:=by rw[length_map]
  have stop:∀Z:List Nest,Z.length=l.length+1+r.length->fixZ l (.leaf q) r=Z->
    ∃H,((a0++Z++b0).map Nest.pairs,((lF fs).map Nest.size++[l.length+1+r.length]++(rF fs).map Nest.size)::abv fs 1)=(lvs H [topN (mendZ fs (.node (fixZ l (.leaf q) r)))],ups H [topN (mendZ fs (.node (fixZ l (.leaf q) r)))]):=by
   intro Z hZ hf;rw[hf];obtain⟨e1,e2⟩:=mend_stop (h:=0) (l:=l) (r:=r) (Z:=Z) w5 (by omega);refine⟨0+1+fs.length,?_⟩;rw[e1,e2,<- ha0,<- hb0,hZ];rfl
  have go:∀Z:List Nest,Z.length=l.length+r.length->(∀k∈Z,tall 0 k)->fixZ l (.leaf q) r=Z->
    ∃H,((a0++Z++b0).map Nest.pairs,mendU ((lF fs).map Nest.size++[l.length+1+r.length - 1]++(rF fs).map Nest.size) (abv fs 1) (lF fs).length)=(lvs H [topN (mendZ fs (.node (fixZ l (.leaf q) r)))],ups H [topN (mendZ fs (.node (fixZ l (.leaf q) r)))]):=by
   intro Z hZ ht hf;rw[hf];obtain⟨H,e1,e2⟩:=mend_up fs 0 (.node Z) w5 ht (by show 1<=Z.length;omega);obtain⟨n1,n2⟩:=node_lv 0 l r fs Z;refine⟨H,?_⟩;rw[e1,e2,n1,<- ha0,<- hb0];simp only[map_append,map_cons,map_nil,Nest.size,hZ,lvs,ups,nil_append];rw[show l.length+1+r.length - 1=l.length+r.length by omega]
  rw[hA,hB];by_cases hX:2<=q.length
  ·have hat:((a0++l++[Nest.leaf q]++(r++b0)).map Nest.pairs).getD (a0++l).length []=q:=by
    rw[map_append,map_append];have:=getD_midL (A:=(a0++l).map Nest.pairs) (B:=(r++b0).map Nest.pairs) (s:=q);rw[length_map] at this;exact this
   rw[hat,if_pos hX];have hfx:fixZ l (.leaf q) r=l++[.leaf q]++r:=by unfold fixZ;rw[if_pos (by exact hX)]
   have:=stop (l++[.leaf q]++r) (by simp;omega) hfx;rw[show a0++(l++[Nest.leaf q]++r)++b0=a0++l++[Nest.leaf q]++(r++b0) by simp] at this;exact this
  ·have hX1:(Nest.leaf q).size=1:=by show q.length=1;omega
   have hq1:q.length=1:=hX1;have hup:((lF fs).map Nest.size++[l.length+1+r.length]++(rF fs).map Nest.size).set (lF fs).length (((lF fs).map Nest.size++[l.length+1+r.length]++(rF fs).map Nest.size).getD (lF fs).length 0 - 1) =
     (lF fs).map Nest.size++[l.length+1+r.length - 1]++(rF fs).map Nest.size:=by rw[hlm];exact less_mid
   rw[hup];have t0:tall 0 (Nest.leaf q):=trivial;rcases fix_cases 0 (fun n hn=>(w1 n hn).1) (fun n hn=>(w2 n hn).1) t0 w3 hX1 with ⟨s,r',e,hh⟩ | ⟨s,l',e,e',hh⟩
   ·subst e;obtain⟨_,hss⟩:=leaf_of (w2 s mem_cons_self).1;have hF:(a0++l++[Nest.leaf q]++(s::r'++b0)).map Nest.pairs=(a0++l).map Nest.pairs++[q,s.pairs]++(r'++b0).map Nest.pairs:=by simp[Nest.pairs]
    have hll:((a0++l).map Nest.pairs).length=(a0++l).length:=length_map _;obtain⟨t1,t2⟩:=two_at (P:=(a0++l).map Nest.pairs) (Q:=(r'++b0).map Nest.pairs) (x:=q) (s:=s.pairs) [];rw[hll] at t1 t2;unfold handL joinL;rw[if_neg (show ¬(s::r'=[]) by simp),hF,t1,if_neg hX,t2,show min (a0++l).length ((a0++l).length+1)=(a0++l).length by omega,t1,t2,if_pos (lt_succ_self _),<- hss];rcases hh with ⟨qq,P,Q,c1,c2,c3,c4,c5,c6,_⟩ | ⟨qq,W,c1,c2,c3,c4,c5⟩
    ·rw[if_pos qq,<- hll,two_set1,two_set2];have:=stop (l++[P,Q]++r') (by simp;omega) c1;have e5:P.pairs=q++s.pairs.take 1:=by rw[c5];show (q++s.pairs).take 2=_;rw[List.take_append,hq1,take_of_length_le (by omega)]
     have e6:Q.pairs=s.pairs.drop 1:=by rw[c6];show (q++s.pairs).drop 2=_;rw[drop_append,hq1,drop_of_length_le (by omega),nil_append]
     rw[show (a0++(l++[P,Q]++r')++b0).map Nest.pairs=(a0++l).map Nest.pairs++[q++s.pairs.take 1,s.pairs.drop 1]++(r'++b0).map Nest.pairs by simp[e5,e6]] at this;exact this
    ·rw[if_neg qq,<- hll,two_set1,two_del];have:=go (l++[W]++r') (by simp) (fun k hk=>by
      simp only[mem_append,mem_cons,not_mem_nil,or_false] at hk;rcases hk with (hk | rfl) | hk
      ·exact (w1 k hk).1
      ·exact c5
      ·exact (w2 k (mem_cons_of_mem _ hk)).1) c1
     have c4:W.pairs=q++s.pairs:=c4;rw[show (a0++(l++[W]++r')++b0).map Nest.pairs=(a0++l).map Nest.pairs++[q++s.pairs]++(r'++b0).map Nest.pairs by simp[c4]] at this;exact this
   ·subst e;subst e';obtain⟨_,hss⟩:=leaf_of (w1 s (by simp)).1;have hF:(a0++(l'++[s])++[Nest.leaf q]++([]++b0)).map Nest.pairs=(a0++l').map Nest.pairs++[s.pairs,q]++b0.map Nest.pairs:=by simp[Nest.pairs]
    have hll:((a0++l').map Nest.pairs).length=(a0++l').length:=length_map _;have hl1:(a0++(l'++[s])).length=(a0++l').length+1:=by simp;omega
    obtain⟨t1,t2⟩:=two_at (P:=(a0++l').map Nest.pairs) (Q:=b0.map Nest.pairs) (x:=s.pairs) (s:=q) [];rw[hll] at t1 t2;unfold handL joinL;rw[if_pos (show ([]:List Nest)=[] from rfl),hF,hl1,t2,if_neg hX,show (a0++l').length+1 - 1=(a0++l').length by omega,t1,show min ((a0++l').length+1) (a0++l').length=(a0++l').length by omega,t1,t2,if_neg (show ¬((a0++l').length+1<(a0++l').length) by omega),<- hss];rcases hh with ⟨qq,P,Q,c1,c2,c3,c4,c5,c6,_⟩ | ⟨qq,W,c1,c2,c3,c4,c5⟩
    ·rw[if_pos qq,<- hll,two_set2,two_set1];have:=stop (l'++[P,Q]) (by simp) c1;have e5:P.pairs=s.pairs.take (s.size - 1):=by rw[c5];show (s.pairs++q).take _=_;rw[List.take_append,<- hss,show s.size - 1 - s.size=0 by omega,take_zero,List.append_nil]
     have e6:Q.pairs=s.pairs.drop (s.size - 1)++q:=by rw[c6];show (s.pairs++q).drop _=_;rw[drop_append,<- hss,show s.size - 1 - s.size=0 by omega,drop_zero]
     rw[show (a0++(l'++[P,Q])++b0).map Nest.pairs=(a0++l').map Nest.pairs++[s.pairs.take (s.size - 1),s.pairs.drop (s.size - 1)++q]++b0.map Nest.pairs by simp[e5,e6]] at this;exact this
    ·rw[if_neg qq,<- hll,two_set1,two_del];have:=go (l'++[W]) (by simp) (fun k hk=>by
      simp only[mem_append,mem_cons,not_mem_nil,or_false] at hk;rcases hk with hk | rfl
      ·exact (w1 k (mem_append_left _ hk)).1
      ·exact c5) c1
     have c4:W.pairs=s.pairs++q:=c4;rw[show (a0++(l'++[W])++b0).map Nest.pairs=(a0++l').map Nest.pairs++[s.pairs++q]++b0.map Nest.pairs by simp[c4]] at this;exact this
def delF (L:List (List PairD)) (U:List (List Nat)) (a:Nat) (key:List UInt8):LU:=
 if delP (L.getD a []) key=[] then ([],[]) else mendL (L.set a (delP (L.getD a []) key)) U a
theorem del_take {h:Nat} {n:Nest} (ht:tall h n) (hs:sized h n) (key:List UInt8) (hne:h≠0->1<=(delP ((lvs h [n]).getD (leafI h n key) []) key).length) :
  ∃H,mendL ((lvs h [n]).set (leafI h n key) (delP ((lvs h [n]).getD (leafI h n key) []) key)) (ups h [n]) (leafI h n key)=(lvs H [topN (takeN h n key)],ups H [topN (takeN h n key)]):=by
 have hw:=wf_path h n key ht hs;obtain⟨ok1,ok2⟩:=okFr_of _ 0 hw;obtain⟨ps,hps⟩:∃ps,pathX h n key=.leaf ps:=by
  have hx:=pathX_tall h n key ht hs;cases hc:pathX h n key with
  | leaf ps=>exact⟨ps,rfl⟩|node ks=>rw[hc] at hx;exact hx.elim
 have hp:=take_path h n key;have hn:=plug_path h n key ht hs;have hlen:=path_len h n key;rw[hps] at hp hn;obtain⟨fs,hfs⟩:∃fs,fs=pathF h n key:=⟨_,rfl⟩;unfold leafI at hne ⊢;rw[<- hfs] at hp hn ok1 ok2 hlen hw hne ⊢;obtain⟨M,m1,m2,m3,m4⟩:=rise_one fs 0 (.leaf ps) ok1 ok2;rw[m2,hn,zero_add,hlen] at m3 m4;have hlv:lvs h [n]=(lF fs).map Nest.pairs++[ps]++(rF fs).map Nest.pairs:=by rw[m3];simp[lvs,Nest.pairs]
 have hun:ups h [n]=abv fs 1:=by rw[m4];rfl
 have hll:((lF fs).map Nest.pairs).length=(lF fs).length:=length_map _;have hg:(lvs h [n]).getD (lF fs).length []=ps:=by rw[hlv,<- hll];exact getD_midL
 rw[hg] at hne;obtain⟨H,e⟩:=mend_leaf fs (delP ps key) hw fun hf=>hne fun e=>hf (by rw[e] at hlen;exact eq_nil_of_length_eq_zero hlen);refine⟨H,?_⟩;rw[hg,hp,hun];rw[hlv];conv=>lhs;arg 1;rw[<- hll,set_midL]
 rw[show (lF fs).map Nest.pairs++[delP ps key]++(rF fs).map Nest.pairs=(lF fs++[Nest.leaf (delP ps key)]++rF fs).map Nest.pairs by simp[Nest.pairs]];exact e
def good:Nat->Nest->Prop
 | 0,.leaf ps=>2<=ps.length/\ps.length<=4|h+1,.node ks=>2<=ks.length/\ks.length<=4/\∀k∈ks,good h k|_,_=>False
def near:Nat->Nest->Prop
 | 0,.leaf ps=>1<=ps.length/\ps.length<=4|h+1,.node ks=>1<=ks.length/\ks.length<=4/\∀k∈ks,good h k|_,_=>False
theorem near_good {h:Nat} {n:Nest} (hn:near h n) (h2:2<=n.size):good h n:=by
 cases h with
 | zero=>cases n with
  | leaf ps=>exact⟨h2,hn.2⟩|node _=>exact hn.elim
 | succ h=>cases n with
  | leaf ps=>exact hn.elim|node ks=>exact⟨h2,hn.2⟩
theorem good_size {h:Nat} {n:Nest} (hn:good h n):2<=n.size/\n.size<=4:=by
 cases h with
 | zero=>cases n with
  | leaf ps=>exact hn|node _=>exact hn.elim
 | succ h=>cases n with
  | leaf ps=>exact hn.elim|node ks=>exact⟨hn.1,hn.2.1⟩
theorem near_size {h:Nat} {n:Nest} (hn:near h n):1<=n.size/\n.size<=4:=by
 cases h with
 | zero=>cases n with
  | leaf ps=>exact hn|node _=>exact hn.elim
 | succ h=>cases n with
  | leaf ps=>exact hn.elim|node ks=>exact⟨hn.1,hn.2.1⟩
theorem good_tall:∀{h:Nat} {n:Nest},good h n->tall h n
 | 0,.leaf _,_=>trivial|0,.node _,h=>h.elim|h+1,.node ks,hn=>fun k hk=>good_tall (hn.2.2 k hk)
 | _+1,.leaf _,h=>h.elim
theorem good_sized:∀{h:Nat} {n:Nest},good h n->sized h n
 | 0,_,_=>trivial|h+1,.node ks,hn=>⟨hn.1,hn.2.1,fun k hk=>good_sized (hn.2.2 k hk)⟩|_+1,.leaf _,h=>h.elim
theorem good_lvs:∀(h:Nat) (F:List Nest),(∀n∈F,good h n)->∀l∈lvs h F,2<=l.length/\l.length<=4
 | 0,F,hF,l,hl=>by
  obtain⟨n,hn,rfl⟩:=mem_map.1 hl;have:=hF n hn;cases n with
  | leaf ps=>exact this|node _=>exact this.elim
 | h+1,F,hF,l,hl=>good_lvs h (F.flatMap Nest.kids) (fun k hk=>by
   obtain⟨n,hn,hk⟩:=mem_flatMap.1 hk;have:=hF n hn;cases n with
   | leaf _=>exact this.elim|node ks=>exact this.2.2 k hk) l hl
theorem good_of:∀(h:Nat) (n:Nest),wfN h n->(∀l∈lvs h [n],2<=l.length/\l.length<=4)->good h n
 | 0,.leaf ps,_,hl=>hl ps mem_cons_self|0,.node _,hw,_=>hw.1.elim|h+1,.leaf _,hw,_=>hw.1.elim|h+1,.node ks,hw,hl=>⟨hw.2.1,hw.2.2.1,fun k hk=>good_of h k ⟨hw.1 k hk,hw.2.2.2 k hk⟩ fun l hl'=>hl l (by
   rw[lvs_one];show l∈lvs h ks;obtain⟨a,b,rfl⟩:=append_of_mem hk;rw[show a++k::b=a++([k]++b) by simp,lvs_app,lvs_app];exact mem_append_right _ (mem_append_left _ hl'))⟩
theorem with_near {h:Nat} {m n:Nest} (hm:near h m) (hn:near h n) (hs:m.size+n.size<=4):good h (withN m n):=by
 have h1:=(near_size hm).1;have h2:=(near_size hn).1;cases h with
 | zero=>
  cases m with
  | node _=>exact hm.elim|leaf a=>cases n with
   | node _=>exact hn.elim|leaf b=>
    have h1:1<=a.length:=h1;have h2:1<=b.length:=h2;have hs:a.length+b.length<=4:=hs;exact⟨by rw[length_append];omega,by rw[length_append];omega⟩
 | succ h=>
  cases m with
  | leaf _=>exact hm.elim|node a=>cases n with
   | leaf _=>exact hn.elim|node b=>
    have h1:1<=a.length:=h1;have h2:1<=b.length:=h2;have hs:a.length+b.length<=4:=hs;exact⟨by show 2<=(a++b).length;rw[length_append];omega,by show (a++b).length<=4;rw[length_append];omega,fun k hk=>(mem_append.1 hk).elim (hm.2.2 k) (hn.2.2 k)⟩
theorem cut_near {h:Nat} {m n:Nest} (hm:near h m) (hn:near h n) (k:Nat) (h2:2<=k) (h4:k<=4) (hs:k+2<=m.size+n.size) (hs4:m.size+n.size<=k+4):∀x∈cutN (withN m n) k,good h x:=by
 cases h with
 | zero=>
  cases m with
  | node _=>exact hm.elim|leaf a=>cases n with
   | node _=>exact hn.elim|leaf b=>
    have hs:k+2<=a.length+b.length:=hs;have hs4:a.length+b.length<=k+4:=hs4;intro x hx;rcases mem_cons.1 hx with rfl | hx
    ·exact⟨by rw[length_take,length_append];omega,by rw[length_take,length_append];omega⟩
    ·rw[mem_singleton] at hx;subst hx;exact⟨by rw[length_drop,length_append];omega,by rw[length_drop,length_append];omega⟩
 | succ h=>
  cases m with
  | leaf _=>exact hm.elim|node a=>cases n with
   | leaf _=>exact hn.elim|node b=>
    have hs:k+2<=a.length+b.length:=hs;have hs4:a.length+b.length<=k+4:=hs4;have hk:∀y∈a++b,good h y:=fun y hy=>(mem_append.1 hy).elim (hm.2.2 y) (hn.2.2 y);intro x hx;rcases mem_cons.1 hx with rfl | hx
    ·exact⟨by show 2<=((a++b).take k).length;rw[length_take,length_append];omega,by show ((a++b).take k).length<=4;rw[length_take,length_append];omega,fun y hy=>hk y (mem_of_mem_take hy)⟩
    ·rw[mem_singleton] at hx;subst hx;exact⟨by show 2<=((a++b).drop k).length;rw[length_drop,length_append];omega,by show ((a++b).drop k).length<=4;rw[length_drop,length_append];omega,fun y hy=>hk y (mem_of_mem_drop hy)⟩
theorem good_near {h:Nat} {n:Nest} (hn:good h n):near h n:=by
 cases h with
 | zero=>cases n with
  | leaf ps=>exact⟨by have:=hn.1;omega,hn.2⟩|node _=>exact hn.elim
 | succ h=>cases n with
  | leaf ps=>exact hn.elim|node ks=>exact⟨by have:=hn.1;omega,hn.2⟩
theorem fix_near {h:Nat} {l r:List Nest} {X:Nest} (hl:∀n∈l,good h n) (hr:∀n∈r,good h n) (hX:near h X) (h2:2<=l.length+1+r.length) (h4:l.length+1+r.length<=4):near (h+1) (.node (fixZ l X r)):=by
 have hx:=near_size hX;by_cases h0:2<=X.size
 ·unfold fixZ;rw[if_pos h0];refine⟨?_,?_,fun k hk=>?_⟩
  ·simp only[length_append,length_singleton];omega
  ·simp only[length_append,length_singleton];omega
  ·rcases mem_append.1 hk with hk | hk
   ·rcases mem_append.1 hk with hk | hk
    ·exact hl k hk
    ·rw[mem_singleton] at hk;subst hk;exact near_good hX h0
   ·exact hr k hk
 ·have h1:X.size=1:=by omega
  have cl:∀(k:Nest) (n:Nat),(cutN k n).length=2:=fun k n=>by cases k<;>rfl
  unfold fixZ;rw[if_neg h0];cases r with
  | cons s r'=>
   dsimp only;rw[length_cons] at h2 h4;have hs:=hr s mem_cons_self;have hsz:=good_size hs;have hr':∀k∈r',good h k:=fun k hk=>hr k (mem_cons_of_mem _ hk);by_cases h3:2<s.size
   ·rw[if_pos h3];have hc:=cut_near hX (good_near hs) 2 (by omega) (by omega) (by omega) (by omega);refine⟨?_,?_,fun k hk=>?_⟩
    ·simp only[length_append,cl];omega
    ·simp only[length_append,cl];omega
    ·rcases mem_append.1 hk with hk | hk
     ·rcases mem_append.1 hk with hk | hk
      ·exact hl k hk
      ·exact hc k hk
     ·exact hr' k hk
   ·rw[if_neg h3];have hc:=with_near hX (good_near hs) (by omega);refine⟨?_,?_,fun k hk=>?_⟩
    ·simp only[length_append,length_singleton];omega
    ·simp only[length_append,length_singleton];omega
    ·rcases mem_append.1 hk with hk | hk
     ·rcases mem_append.1 hk with hk | hk
      ·exact hl k hk
      ·rw[mem_singleton] at hk;subst hk;exact hc
     ·exact hr' k hk
  | nil=>
   dsimp only;rcases eq_nil_or_concat l with rfl | ⟨l',s,e⟩
   ·exact absurd h2 (by decide)
   ·rw[concat_eq_append] at e;subst e;have hg:(l'++[s]).getLast? = some s:=by simp
    have hd:(l'++[s]).dropLast=l':=by simp
    rw[hg];dsimp only;rw[hd];simp only[length_append,length_singleton,length_nil] at h2 h4;have hs:=hl s (by simp);have hsz:=good_size hs;have hl':∀k∈l',good h k:=fun k hk=>hl k (mem_append_left _ hk);by_cases h3:2<s.size
    ·rw[if_pos h3];have hc:=cut_near (good_near hs) hX (s.size - 1) (by omega) (by omega) (by omega) (by omega);refine⟨?_,?_,fun k hk=>?_⟩
     ·simp only[length_append,cl];omega
     ·simp only[length_append,cl];omega
     ·rcases mem_append.1 hk with hk | hk
      ·exact hl' k hk
      ·exact hc k hk
    ·rw[if_neg h3];have hc:=with_near (good_near hs) hX (by omega);refine⟨?_,?_,fun k hk=>?_⟩
     ·simp only[length_append,length_singleton];omega
     ·simp only[length_append,length_singleton];omega
     ·rcases mem_append.1 hk with hk | hk
      ·exact hl' k hk
      ·rw[mem_singleton] at hk;subst hk;exact hc
theorem delP_len {l:List PairD} (h:Asc l) (key:List UInt8):l.length<=(delP l key).length+1/\(delP l key).length<=l.length:=by
 refine⟨?_,length_filter_le _ _⟩;by_cases hq:∃q∈l,q.Key=key
 ·obtain⟨q,h1,h2⟩:=hq;obtain⟨hp,_,e⟩:=(hit_pos (key:=key) h).2 q h1 h2;rw[e,length_append,length_take,length_drop];omega
 ·have:delP l key=l:=filter_eq_self.2 fun q hq'=>by
   have:q.Key≠key:=fun e=>hq ⟨q,hq',e⟩;simpa using this
  rw[this];omega
theorem take_near:∀(h:Nat) (n:Nest) (key:List UInt8),good h n->(∀l∈lvs h [n],Asc l)->near h (takeN h n key)
 | 0,.leaf ps,key,hg,ha=>by
  have:=delP_len (ha ps mem_cons_self) key;have h1:=hg.1;have h2:=hg.2;exact⟨by show 1<=(delP ps key).length;omega,by show (delP ps key).length<=4;omega⟩
 | 0,.node _,_,hg,_=>hg.elim|h+1,.leaf _,_,hg,_=>hg.elim|h+1,.node ks,key,hg,ha=>by
  have hi:=kid_at (h:=h) (n:=.node ks) (key:=key) (good_sized hg);have hi':kidF h ks key<ks.length:=hi;have hk:=kid_mem hi;have hk:(ks.getD (kidF h ks key) noN)∈ks:=hk;refine fix_near (fun n hn=>hg.2.2 n (mem_of_mem_take hn)) (fun n hn=>hg.2.2 n (mem_of_mem_drop hn)) (take_near h _ key (hg.2.2 _ hk) fun l hl=>ha l ?_) ?_ ?_
  ·rw[lvs_one];show l∈lvs h ks;obtain⟨a,b,e⟩:=append_of_mem hk;have hl:l∈lvs h [ks.getD (kidF h ks key) noN]:=hl;generalize ks.getD (kidF h ks key) noN=k at e hl;rw[e,show a++k::b=a++([k]++b) by simp,lvs_app,lvs_app];exact mem_append_right _ (mem_append_left _ hl)
  ·have:=hg.1;show 2<=(ks.take (kidF h ks key)).length+1+(ks.drop (kidF h ks key+1)).length;rw[length_take,length_drop];omega
  ·have:=hg.2.1;show (ks.take (kidF h ks key)).length+1+(ks.drop (kidF h ks key+1)).length<=4;rw[length_take,length_drop];omega
theorem flat_two {P Q:List (List PairD)} {x s:List PairD}:(P++[x,s]++Q).flatten=P.flatten++(x++s)++Q.flatten:=by simp
theorem at_two {L:List (List PairD)} {a:Nat} (h:a+1<L.length):L=L.take a++[L.getD a [],L.getD (a+1) []]++L.drop (a+2):=by
 have e1:L.getD a []=L[a]:=by rw[List.getD_eq_getElem?_getD,List.getElem?_eq_getElem (show a<L.length by omega)];rfl
 have e2:L.getD (a+1) []=L[a+1]:=by rw[List.getD_eq_getElem?_getD,List.getElem?_eq_getElem h];rfl
 rw[e1,e2];conv=>lhs;rw[<- take_append_drop a L,List.drop_eq_getElem_cons (show a<L.length by omega),List.drop_eq_getElem_cons h]
 simp
theorem hand_flat {L:List (List PairD)} {a:Nat} (h:a+1<L.length):(handL L a (a+1)).flatten=L.flatten/\(handL L (a+1) a).flatten=L.flatten:=by
 have hL:=at_two h;have hl:(L.take a).length=a:=by rw[length_take];omega
 obtain⟨P,hP⟩:∃P,P=L.take a:=⟨_,rfl⟩;obtain⟨Q,hQ⟩:∃Q,Q=L.drop (a+2):=⟨_,rfl⟩;obtain⟨x,hx⟩:∃x,x=L.getD a []:=⟨_,rfl⟩;obtain⟨s,hs⟩:∃s,s=L.getD (a+1) []:=⟨_,rfl⟩;rw[<- hP] at hl;unfold handL;rw[if_pos (lt_succ_self _),if_neg (by omega),<- hx,<- hs];rw[<- hP,<- hQ,<- hx,<- hs] at hL;rw[hL,<- hl];refine⟨?_,?_⟩
 ·rw[two_set1,two_set2,flat_two,flat_two,append_assoc x,take_append_drop]
 ·rw[two_set2,two_set1,flat_two,flat_two,<- append_assoc (x.take _),take_append_drop]
theorem join_flat {L:List (List PairD)} {a:Nat} (h:a+1<L.length):(joinL L a).flatten=L.flatten:=by
 have hL:=at_two h;have hl:(L.take a).length=a:=by rw[length_take];omega
 obtain⟨P,hP⟩:∃P,P=L.take a:=⟨_,rfl⟩;obtain⟨Q,hQ⟩:∃Q,Q=L.drop (a+2):=⟨_,rfl⟩;obtain⟨x,hx⟩:∃x,x=L.getD a []:=⟨_,rfl⟩;obtain⟨s,hs⟩:∃s,s=L.getD (a+1) []:=⟨_,rfl⟩;rw[<- hP] at hl;unfold joinL;rw[<- hx,<- hs];rw[<- hP,<- hQ,<- hx,<- hs] at hL;rw[hL,<- hl,two_set1,two_del,flat_two];simp
end Tr
end
section
open Go.RowKit K
open Tr
namespace Tr
theorem nodeF_spec:∀(u:List Nat) (a:Nat),a<u.sum->nodeF u a<u.length/\(u.take (nodeF u a)).sum<=a/\a<(u.take (nodeF u a+1)).sum
 | [],a,h=>absurd h (not_lt_zero a)|x::u,a,h=>by
  rw[sum_cons] at h;rw[nodeF];by_cases hx:a<x
  ·rw[if_pos hx];exact⟨zero_lt_succ _,zero_le _,by simpa using hx⟩
  ·rw[if_neg hx];obtain⟨h1,h2,h3⟩:=nodeF_spec u (a - x) (by omega);refine⟨by rw[length_cons];omega,?_,?_⟩
   ·rw[take_succ_cons,sum_cons];omega
   ·rw[take_succ_cons,sum_cons];omega
theorem sideF_ok {u:List Nat} (hu:∀n∈u,2<=n/\n<=4) {a:Nat} (ha:a<u.sum):(a+1≠(u.take (nodeF u a+1)).sum/\sideF u a=a+1/\a+1<u.sum)\/(a+1=(u.take (nodeF u a+1)).sum/\1<=a/\sideF u a=a - 1):=by
 obtain⟨h1,h2,h3⟩:=nodeF_spec u a ha;have h4:=sum_take_le u (nodeF u a+1);unfold sideF;by_cases e:a+1=(u.take (nodeF u a+1)).sum
 ·rw[if_pos e];refine .inr ⟨e,?_,rfl⟩;rw[List.take_succ_eq_append_getElem h1,sum_append,sum_singleton] at e;have:=hu _ (List.getElem_mem h1);omega
 ·rw[if_neg e];exact .inl ⟨e,rfl,by omega⟩
theorem mend_flat {L:List (List PairD)} {U:List (List Nat)} {a t:Nat} (hu:upOk L.length U t) (ha:a<L.length):(mendL L U a).1.flatten=L.flatten:=by
 cases U with
 | nil=>rfl|cons u us=>
  obtain⟨h1,h2,h3,_⟩:=hu;rw[mendL];split
  ·rfl
  ·split
   ·rcases sideF_ok h2 (a:=a) (by omega) with ⟨_,e,h⟩ | ⟨_,h,e⟩
    ·show (handL L a (sideF u a)).flatten=_;rw[e];exact (hand_flat (by omega)).1
    ·show (handL L a (sideF u a)).flatten=_;rw[e];have:=(hand_flat (L:=L) (a:=a - 1) (by omega)).2
     rwa [show a - 1+1=a by omega] at this
   ·rcases sideF_ok h2 (a:=a) (by omega) with ⟨_,e,h⟩ | ⟨_,h,e⟩
    ·show (joinL L (min a (sideF u a))).flatten=_;rw[e,show min a (a+1)=a by omega];exact join_flat (by omega)
    ·show (joinL L (min a (sideF u a))).flatten=_;rw[e,show min a (a - 1)=a - 1 by omega];exact join_flat (by omega)
theorem lvs_nil:∀h:Nat,lvs h []=[]
 | 0=>rfl|h+1=>lvs_nil h
theorem lvs_off:∀(H h:Nat) (F:List Nest),(∀n∈F,tall h n)->H≠h->(lvs H F).flatten=[]
 | 0,0,F,_,h=>absurd rfl h|0,h+1,F,hF,_=>by
  rw[List.flatten_eq_nil_iff];intro l hl;obtain⟨n,hn,rfl⟩:=mem_map.1 hl;have:=hF n hn;cases n with
  | leaf _=>exact this.elim|node ks=>rfl
 | H+1,0,F,hF,_=>by
  rw[lvs,show F.flatMap Nest.kids=[] from List.flatMap_eq_nil_iff.2 fun n hn=>(by
   have:=hF n hn;cases n with
   | leaf _=>rfl|node _=>exact this.elim),lvs_nil];rfl
 | H+1,h+1,F,hF,hne=>by
  rw[lvs];refine lvs_off H h _ (fun k hk=>?_) fun e=>hne (by rw[e]);obtain⟨n,hn,hk⟩:=mem_flatMap.1 hk;exact (tall_node (hF n hn)).2.2 k hk
theorem top_good {h:Nat} {n:Nest} (hn:near h n):∃h',wfN h' (topN n)/\1<=(topN n).size/\∀l∈lvs h' [topN n],(2<=l.length\/h'=0/\1<=l.length)/\l.length<=4:=by
 have ofgood:∀(h:Nat) (m:Nest),good h m->wfN h m/\1<=m.size/\∀l∈lvs h [m],(2<=l.length\/h=0/\1<=l.length)/\l.length<=4:=fun h m hm=>by
  refine⟨⟨good_tall hm,good_sized hm⟩,by have:=(good_size hm).1;omega,fun l hl=>?_⟩;have:=good_lvs h [m] (fun x hx=>by rw[mem_singleton] at hx;subst hx;exact hm) l hl;exact⟨.inl this.1,this.2⟩
 cases h with
 | zero=>cases n with
  | node _=>exact hn.elim|leaf ps=>
   refine⟨0,⟨trivial,trivial⟩,hn.1,fun l hl=>?_⟩;have hl:l∈[ps]:=hl;rw[mem_singleton] at hl;subst hl;exact⟨.inr ⟨rfl,hn.1⟩,hn.2⟩
 | succ h=>cases n with
  | leaf _=>exact hn.elim|node ks=>match ks,hn with
   | [],hn=>exact absurd hn.1 (by decide)|[k],hn=>exact⟨h,ofgood h k (hn.2.2 k mem_cons_self)⟩|a::b::ks,hn=>exact⟨h+1,ofgood (h+1) _ (near_good hn (by show 2<=ks.length+1+1;omega))⟩
theorem del_ok {L:List (List PairD)} {U:List (List Nat)} (h:TreeOk L U) (hL:L≠[]) (key:List UInt8) :
  (delF L U (leafF L U key U.length 0) key=([],[])/\delP L.flatten key=[]/\takeN U.length (nestT L U) key=.leaf [])\/
  ∃H,delF L U (leafF L U key U.length 0) key=(lvs H [topN (takeN U.length (nestT L U) key)],ups H [topN (takeN U.length (nestT L U) key)])/\wfN H (topN (takeN U.length (nestT L U) key))/\1<=(topN (takeN U.length (nestT L U) key)).size/\
   TreeOk (lvs H [topN (takeN U.length (nestT L U) key)]) (ups H [topN (takeN U.length (nestT L U) key)])/\(lvs H [topN (takeN U.length (nestT L U) key)]).flatten=delP L.flatten key:=by
 obtain⟨n1,n2,n3,_⟩:=nestT_ok h hL;have hat:=h.at_ hL key;have hat2:=leafI_at U.length (nestT L U) key n1.2 (by rw[n2];exact h.rise);rw[n2] at hat2;have he:=hat.uniq hat2;have hal:=hat.lt;have hasc:∀l∈L,Asc l:=(pairwise_flatten.1 h.asc).1;have hflat:=del_flat hat h.ne h.asc;have hlf:=getD_mem hal;have hsz:=h.sizes _ hlf;have hup:=(h.top hL).2;have hone:(U=[]/\∃l,L=[l])\/(1<L.length/\U.length≠0):=by
  cases U with
  | nil=>exact .inl ⟨rfl,length_eq_one_iff.1 hup⟩|cons u us=>exact .inr ⟨by have:=hup.1;omega,by simp⟩
 have hdl:=delP_len (hasc _ hlf) key;rcases hone with ⟨rfl,l,rfl⟩ | ⟨hl1,hU⟩
 ·
  have ha0:leafF [l] [] key ([]:List (List Nat)).length 0=0:=rfl;have hnt:nestT [l] []=.leaf l:=rfl;rw[ha0,hnt];have hll:=h.sizes l mem_cons_self;have hdl:=delP_len (hasc l mem_cons_self) key;have hfl:([l]:List (List PairD)).flatten=l:=by simp
  rw[hfl];show (delF [l] [] 0 key=([],[])/\_/\Nest.leaf (delP l key)=_)\/∃H,_=(lvs H [Nest.leaf (delP l key)],ups H [Nest.leaf (delP l key)])/\wfN H (.leaf (delP l key))/\1<=(delP l key).length/\TreeOk (lvs H [Nest.leaf (delP l key)]) (ups H [Nest.leaf (delP l key)])/\(lvs H [Nest.leaf (delP l key)]).flatten=delP l key;by_cases hd:delP l key=[]
  ·left;refine⟨if_pos hd,hd,by rw[hd]⟩
  ·right;have hd1:1<=(delP l key).length:=length_pos_iff.2 hd;have hf:(lvs 0 [Nest.leaf (delP l key)]).flatten=delP l key:=by show [delP l key].flatten=_;simp
   refine⟨0,if_neg hd,⟨trivial,trivial⟩,hd1,nest_ok ⟨trivial,trivial⟩ (fun x hx=>?_) ?_ (fun p hp=>?_) ?_,hf⟩
   ·have hx:x∈[delP l key]:=hx;rw[mem_singleton] at hx;subst hx;exact⟨.inr ⟨rfl,hd1⟩,by omega⟩
   ·rw[hf];exact delP_asc (hasc l mem_cons_self) key
   ·rw[hf] at hp;exact h.keys p (by rw[hfl];exact (delP_mem.1 hp).1)
   ·rw[hf];omega
 ·
  right;have hsz2:=hsz.1 hl1;have hd1:1<=(delP (L.getD (leafF L U key U.length 0) []) key).length:=by omega
  have hd:delP (L.getD (leafF L U key U.length 0) []) key≠[]:=length_pos_iff.1 hd1;have hg:good U.length (nestT L U):=good_of _ _ n1 fun l hl'=>by
   rw[n2] at hl';have:=h.sizes l hl';exact⟨this.1 hl1,this.2.2⟩
  obtain⟨H,e1⟩:=del_take n1.1 n1.2 key (by rw[n2,<- he];exact fun _=>hd1);rw[n2,n3,<- he] at e1;have hn:=take_near _ _ key hg (by rw[n2];exact hasc);obtain⟨h',t1,t2,t3⟩:=top_good hn;obtain⟨m,hm⟩:∃m,m=topN (takeN U.length (nestT L U) key):=⟨_,rfl⟩;rw[<- hm] at e1 t1 t2 t3 ⊢;have hfl:(lvs H [m]).flatten=delP L.flatten key:=by
   rw[<- hflat,<- mend_flat (L:=L.set (leafF L U key U.length 0) _) (U:=U) (t:=1) (a:=leafF L U key U.length 0) (by rw[length_set];exact hup) (by rw[length_set];exact hal),e1]
  have hne:delP L.flatten key≠[]:=fun e=>by
   rw[e] at hflat;have:=List.flatten_eq_nil_iff.1 hflat _ (List.mem_iff_getElem.2 ⟨leafF L U key U.length 0,by rw[length_set];exact hal,by rw[List.getElem_set_self]⟩);exact hd this
  have hH:H=h':=Decidable.byContradiction fun hc=>hne (by rw[<- hfl];exact lvs_off H h' [m] (fun x hx=>by rw[mem_singleton] at hx;subst hx;exact t1.1) hc);subst hH;refine⟨H,by unfold delF;rw[if_neg hd];exact e1,t1,t2,nest_ok t1 t3 ?_ (fun p hp=>?_) ?_,hfl⟩
  ·rw[hfl];exact delP_asc h.asc key
  ·rw[hfl] at hp;exact h.keys p (delP_mem.1 hp).1
  ·rw[hfl];have:=(delP_len h.asc key).2;have:=h.count;omega
end Tr
end
section
open Go.RowKit K
open Tr
theorem s_leafRo (L:List (List PairD)) (U:List (List Nat)) (hv:OkT L U) (ht:lenAt L U U.length=1) (key:List UInt8) (hL:∀l∈L,∀p∈l,p.ok) :
  CallS Try.prog 14 [.d (.ptr FK 0),pStr (tx key)] [(FK,.box 43 [.c (.sl 1 (lvC L)),.c (.sl 1 (upC U))])] [] (pInt .i64 (leafF L U key U.length 0)) []:=
 lend (p_leaf L U hv ht key hL) (plainR_int _ _) ⟨.inr ⟨FK,_,_,_,rfl,rfl,rfl,rfl⟩,.inl rfl,trivial⟩
def findE (t:TreeD) (key:List UInt8):Int:=if chkD t≠0 then chkD t else if 40<key.length then 2 else 0
def findI (t:TreeD) (key:List UInt8):Int:=if findE t key≠0 then 0 else (lookP t.Leaves.flatten key).getD 0
def findB (t:TreeD) (key:List UInt8):Bool:=decide (findE t key=0)&&(lookP t.Leaves.flatten key).isSome
abbrev findV (t:TreeD) (key:List UInt8):PV:=.tup [pInt .i64 (findI t key),pBool (findB t key),pInt .i64 (findE t key)]
theorem p_Find (t:TreeD) (h:DataOk t) (key:List UInt8) (hkl:key.length<=140737488351232):Pure Try.prog 11 [trD t,pStr (tx key)] (findV t key):=by
 rcases t with ⟨L,Us⟩;have pc:Pure Try.prog 29 [.agg [.c (.sl 1 (lvC L)),.c (.sl 1 (upI Us))]] (pInt .i64 (chkT L Us)):=p_treecheck ⟨L,Us⟩ h;have hkeys:∀l∈L,∀p∈l,p.ok:=h.keys;have hLl:(lvC L).length=L.length:=length_map _;have hks:(tx key).size=key.length:=rfl;show Pure _ _ [.agg [.c (.sl 1 (lvC L)),.c (.sl 1 (upI Us))],pStr (tx key)] (.tup [pInt .i64 (findI ⟨L,Us⟩ key),pBool (findB ⟨L,Us⟩ key),pInt .i64 (findE ⟨L,Us⟩ key)]);refine pure_of Try.func11 (by rfl) rfl (by kernel_rfl) (by rfl) ?_;have hd:chkD ⟨L,Us⟩=chkT L Us:=rfl;by_cases c1:chkT L Us≠0
 ·have e1:findE ⟨L,Us⟩ key=chkT L Us:=if_pos c1;have e2:findI ⟨L,Us⟩ key=0:=by unfold findI;rw[if_pos (by rw[e1];exact c1)]
  have e3:findB ⟨L,Us⟩ key=false:=by unfold findB;rw[e1,decide_eq_false c1];rfl
  rw[e1,e2,e3];((conv=>whnf);repeat' ((first|(with_reducible first|apply a_|apply b_|apply c_)|((with_reducible first|apply d_|apply e_|apply f_|apply g_|apply h_);first|omega|simp only[q_]<;>omega)|((with_reducible apply i_);first|omega|simp only[q_]<;>omega)|((with_reducible apply h_);first|decide|kernel_rfl)|refine s_ (by decide) ?_|refine t_ (by decide) ?_|refine r_ pc rfl ?_|with_reducible first|apply l_|apply m_|apply n_|apply o_|refine p_ (fun _=>?_) (fun _=>?_))<;>conv=>whnf));all_goals first|exact Ret.mk rfl|(exfalso;omega)|skip
 ·have c1:chkT L Us=0:=Decidable.of_not_not c1;rw[c1] at pc;by_cases c2:40<key.length
  ·have e1:findE ⟨L,Us⟩ key=2:=by unfold findE;rw[if_neg (not_not_intro c1),if_pos c2]
   have e2:findI ⟨L,Us⟩ key=0:=by unfold findI;rw[if_pos (by rw[e1];decide)]
   have e3:findB ⟨L,Us⟩ key=false:=by unfold findB;rw[e1];rfl
   rw[e1,e2,e3];((conv=>whnf);repeat' ((first|(with_reducible first|apply a_|apply b_|apply c_)|((with_reducible first|apply d_|apply e_|apply f_|apply g_|apply h_);first|omega|simp only[q_]<;>omega)|((with_reducible apply i_);first|omega|simp only[q_]<;>omega)|((with_reducible apply h_);first|decide|kernel_rfl)|refine s_ (by decide) ?_|refine t_ (by decide) ?_|refine r_ pc rfl ?_|with_reducible first|apply l_|apply m_|apply n_|apply o_|refine p_ (fun _=>?_) (fun _=>?_))<;>conv=>whnf));all_goals first|exact Ret.mk rfl|(exfalso;omega)|skip
  ·have e1:findE ⟨L,Us⟩ key=0:=by unfold findE;rw[if_neg (not_not_intro c1),if_neg c2]
   have e2:findI ⟨L,Us⟩ key=(lookP L.flatten key).getD 0:=by unfold findI;rw[if_neg (not_not_intro e1)]
   have e3:findB ⟨L,Us⟩ key=(lookP L.flatten key).isSome:=by unfold findB;rw[e1];rfl
   rw[e1,e2,e3];by_cases hL:L=[]
   ·subst hL;have hl0:lookP ([]:List (List PairD)).flatten key=none:=rfl;rw[hl0];((conv=>whnf);repeat' ((first|(with_reducible first|apply a_|apply b_|apply c_)|((with_reducible first|apply d_|apply e_|apply f_|apply g_|apply h_);first|omega|simp only[q_]<;>omega)|((with_reducible apply i_);first|omega|simp only[q_]<;>omega)|((with_reducible apply h_);first|decide|kernel_rfl)|refine s_ (by decide) ?_|refine t_ (by decide) ?_|refine r_ pc rfl ?_|with_reducible first|apply l_|apply m_|apply n_|apply o_|refine p_ (fun _=>?_) (fun _=>?_))<;>conv=>whnf));all_goals first|exact Ret.mk rfl|(exfalso;simp only[length_nil] at hLl;omega)|skip
   ·obtain⟨U,hU,hok⟩:=chk_ok c1;have hLpos:0<L.length:=length_pos_iff.2 hL;have hat:=hok.at_ hL key;rw[look_flat hat hok.ne hok.asc];have sl:=s_leafRo L U hok.okT (hok.top hL).1 key hkeys;obtain⟨a,ha⟩:∃a,a=leafF L U key U.length 0:=⟨_,rfl⟩;rw[<- ha] at sl hat ⊢;have hal:=hat.lt;have hg:L.getD a []=L[a]:=by rw[List.getD_eq_getElem?_getD,List.getElem?_eq_getElem hal];rfl
    obtain⟨l,hle⟩:∃l,l=L[a]:=⟨_,rfl⟩;have hmem:l∈L:=by rw[hle];exact List.getElem_mem hal
    rw[hg,<- hle];have hasc:Asc l:=(pairwise_flatten.1 hok.asc).1 l hmem;have hl4:=(hok.sizes l hmem).2.2;have hrow:(lvC L)[a]? = some [.sl 2 (l.map PairD.c)]:=by
     unfold lvC;rw[List.getElem?_map,List.getElem?_eq_getElem hal,hle];rfl
    have ps:=p_seek l hasc (by omega) key;obtain⟨hp1,hp2⟩:=hit_pos (key:=key) hasc;rw[hU,upI_int] at pc ⊢;by_cases hh:hitF l key=true
    ·obtain⟨q,hq1,hq2⟩:=hp1.1 hh;obtain⟨hpl,hpq,_⟩:=hp2 q hq1 hq2;have hlk:lookP l key=some q.Id:=by rw[<- hq2];exact look_mem hasc hq1
     rw[hlk];rw[hh] at ps;have hqi:(l[posF l key]).Id=q.Id:=by rw[hpq]
     ((conv=>whnf);repeat' ((first|(with_reducible first|apply a_|apply b_|apply c_)|((with_reducible first|apply d_|apply e_|apply f_|apply g_|apply h_);first|omega|simp only[q_]<;>omega)|((with_reducible apply i_);first|omega|simp only[q_]<;>omega)|((with_reducible apply h_);first|decide|kernel_rfl)|refine s_ (by decide) ?_|refine t_ (by decide) ?_|refine r_ pc rfl ?_|(refine CallP.ret [(FK,33)] _ _ _ _ _ _ _ sl rfl rfl rfl rfl ⟨rfl,trivial⟩ ?_)|refine r_ ps rfl ?_|(refine Idx.at' hrow rfl ?_)|(refine Idx.mapI (f:=PairD.c) (posF l key) rfl hpl ?_)|with_reducible first|apply l_|apply m_|apply n_|apply o_|refine p_ (fun _=>?_) (fun _=>?_))<;>conv=>whnf));all_goals first|exact Ret.mk (by show _=PV.tup [pInt .i64 q.Id,pBool true,pInt .i64 0];rw[<- hqi])|(exfalso;omega)|skip
    ·have hh:hitF l key=false:=Bool.eq_false_iff.2 hh;have hlk:lookP l key=none:=look_none.2 fun q hq e=>by
      rw[hp1.2 ⟨q,hq,e⟩] at hh;cases hh
     rw[hlk];rw[hh] at ps;((conv=>whnf);repeat' ((first|(with_reducible first|apply a_|apply b_|apply c_)|((with_reducible first|apply d_|apply e_|apply f_|apply g_|apply h_);first|omega|simp only[q_]<;>omega)|((with_reducible apply i_);first|omega|simp only[q_]<;>omega)|((with_reducible apply h_);first|decide|kernel_rfl)|refine s_ (by decide) ?_|refine t_ (by decide) ?_|refine r_ pc rfl ?_|(refine CallP.ret [(FK,33)] _ _ _ _ _ _ _ sl rfl rfl rfl rfl ⟨rfl,trivial⟩ ?_)|refine r_ ps rfl ?_|(refine Idx.at' hrow rfl ?_)|with_reducible first|apply l_|apply m_|apply n_|apply o_|refine p_ (fun _=>?_) (fun _=>?_))<;>conv=>whnf));all_goals first|exact Ret.mk rfl|(exfalso;omega)|skip
end
end Go.Proofs.Ytdjbckknghddpaa.Pm
