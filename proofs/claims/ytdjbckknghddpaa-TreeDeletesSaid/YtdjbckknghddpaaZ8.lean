/- Parts of the proof, one behind the other: PtMend4 PtMend5 PtMend6 PtMend7 PtHand0 PtHand1 PtHand2 PtJoin0 PtMend8 PtDelW PtIter2 PtRange PtRef. Conditions: none beyond what each theorem says. -/
import Derived.Shelf.Abstract
import Derived.Test.YtdjbckknghddpaaZ7
open List (all_cons append_assoc cons_append count_append count_cons count_nil drop_left' drop_zero filter_append filter_cons_of_neg filter_cons_of_pos filter_eq_nil_iff flatMap_cons flatten_cons length_append length_cons length_drop length_filter_le length_map length_nil length_pos_iff length_set length_take map_append map_congr_left map_cons map_drop map_map map_nil map_take mem_append mem_append_left mem_append_right mem_cons mem_cons_of_mem mem_cons_self mem_map mem_or_eq_of_mem_set mem_singleton nil_append nil_sublist nodup_append nodup_cons not_mem_nil pairwise_cons pairwise_flatten perm_iff_count set_eq_take_append_cons_drop sublist_append_left sublist_append_right sublist_cons_self sum_append sum_singleton take_append_drop take_left' take_length take_of_length_le)
open Nat (le_of_ble_eq_true not_lt_zero one_mul pow_succ zero_add zero_le zero_lt_succ)
open Option (map_some)
set_option linter.unusedVariables false
set_option linter.unusedSimpArgs false
set_option maxRecDepth 100000
namespace Go.Proofs.Ytdjbckknghddpaa.Pm
section
open Go.RowKit K
open Tr
set_option maxHeartbeats 4000000 in
theorem s_mendC (es esJ esR:List LE) (P PJ Q usR:List UE) (k1:Nat) (u:List Nat) (at_ x:Nat) (c:Nat->Nat) (hn:NmT es (P++(k1,u)::Q)) (hok:∀e∈es,e.ok) (hx:x∈nT) (hxn:x∉namesT es (P++(k1,u)::Q)) (hl:P.length+1+Q.length<=20) (hel:es.length<=1000)
  (hu:∀n∈u,2<=n/\n<=4) (hul:u.length<=64) (hat:at_<u.sum) (hus:u.sum<=64)
  (hsz:CallS Try.prog 53 [.d (.ptr FK 0),pInt .i64 P.length,pInt .i64 at_] (tIn es (P++(k1,u)::Q)) [] (pInt .i64 (c at_)) []) (h2:¬2<=c at_)
  (hsz2:CallS Try.prog 53 [.d (.ptr FK 0),pInt .i64 P.length,pInt .i64 (sideF u at_)] (tIn es (P++(k1,u)::Q)) [] (pInt .i64 (c (sideF u at_))) []) (h3:¬2<c (sideF u at_))
  (hnJ:NmT esJ (PJ++(k1,u)::Q)) (hxJ:x∉namesT esJ (PJ++(k1,u)::Q)) (hPJ:PJ.length=P.length)
  (hj:CallS Try.prog 55 [.d (.ptr FK 0),pInt .i64 P.length,pInt .i64 ((min at_ (sideF u at_):Nat):Int)] [] (tIn es (P++(k1,u)::Q)) (.tup []) (tOut esJ (PJ++(k1,u)::Q)))
  (hm:CallS Try.prog 31 [.d (.ptr FK 0),pInt .i64 ((P.length+1:Nat):Int),pInt .i64 (nodeF u at_)] [] (tIn esJ (PJ++(x,u.set (nodeF u at_) (u.getD (nodeF u at_) 0 - 1))::Q)) (.tup []) (tOut esR usR))
  (hnR:NmT esR usR) (hRN:∀k∈namesT esR usR,k∈namesT es (P++(k1,u)::Q)->k∈namesT esJ (PJ++Q)) :
  CallS Try.prog 31 [.d (.ptr FK 0),pInt .i64 P.length,pInt .i64 at_] [] (tIn es (P++(k1,u)::Q)) (.tup []) (tOut esR usR):=by
 have hnP:NmT es (P++Q):=nm_sub hn (List.Sublist.refl _) ((List.Sublist.refl P).append (sublist_cons_self _ _));refine callS_sem Try.func31 (by rfl) rfl (by kernel_rfl) (by rfl) ([FK,FK1,FK2]++namesT es (P++(k1,u)::Q)) (fun k hk=>by rw[nil_append,tIn_keys] at hk;exact hk) ?_;refine Smc.cut (le:=[(0,.d (.ptr FK 0)),(1,pInt .i64 P.length),(2,pInt .i64 at_)]) (m:=ksF [(900,k1)]) (wk_lvl hn (P.length+1+Q.length) rfl ⟨⟨rfl,rfl,rfl⟩,.inl rfl,.inl rfl,trivial⟩) ?_;have hR:=nm_fam hnP;have look:∀q∈famT es (P++Q),hpL ([(FK,.box 43 [.arr FK1 44 1 0 es.length,.arr FK2 61 1 0 (P.length+1+Q.length)]),(FK1,.darr 44 1 (es.map LE.row)),(FK2,.darr 61 1 ((P++(900,u)::Q).map urow)),(900,lvlH u)]++famT es (P++Q)) q.1=some q.2:=fun q hq=>hR.past rfl hq;have hHas:Has (hpL ([(FK,.box 43 [.arr FK1 44 1 0 es.length,.arr FK2 61 1 0 (P.length+1+Q.length)]),(FK1,.darr 44 1 (es.map LE.row)),(FK2,.darr 61 1 ((P++(900,u)::Q).map urow)),(900,lvlH u)]++famT es (P++Q))) FK FK1 FK2 es (P++(900,u)::Q):=by
  refine has_of ?_ rfl rfl (fun e he=>look e.fam (mem_append_left _ (mem_map.2 ⟨e,he,rfl⟩))) (fun p hp=>?_)
  ·rw[show (P++(900,u)::Q).length=P.length+1+Q.length by rw[length_append,length_cons];omega];rfl
  ·have hp':p=(900,u)\/p∈P++Q:=by
    simp only[mem_append,mem_cons] at hp ⊢;rcases hp with h | h | h
    ·exact .inr (.inl h)
    ·exact .inl h
    ·exact .inr (.inr h)
   rcases hp' with rfl | hp
   ·rfl
   ·exact look (ufam p) (mem_append_right _ (mem_map.2 ⟨p,hp,rfl⟩))
 refine Smc.seq rfl ?_;((conv=>whnf);repeat' ((first|(with_reducible first|apply a_|apply b_|apply c_)|((with_reducible first|apply d_|apply e_|apply f_|apply g_|apply h_);first|omega|simp only[q_]<;>omega)|((with_reducible apply i_);first|omega|simp only[q_]<;>omega)|((with_reducible apply h_);first|decide|kernel_rfl)|refine s_ (by decide) ?_|refine t_ (by decide) ?_|with_reducible first|apply l_|apply m_|apply n_|apply o_|refine p_ (fun _=>?_) (fun _=>?_))<;>conv=>whnf));all_goals first|(exfalso;omega)|skip
 refine Smc.seq rfl ?_;((conv=>whnf);repeat' ((first|(with_reducible first|apply a_|apply b_|apply c_)|((with_reducible first|apply d_|apply e_|apply f_|apply g_|apply h_);first|omega|simp only[q_]<;>omega)|((with_reducible apply i_);first|omega|simp only[q_]<;>omega)|((with_reducible apply h_);first|decide|kernel_rfl)|refine s_ (by decide) ?_|refine t_ (by decide) ?_|with_reducible first|apply l_|apply m_|apply n_|apply o_|refine p_ (fun _=>?_) (fun _=>?_))<;>conv=>whnf));refine ro_k1 hsz hn hHas (fun rf=>?_);((conv=>whnf);repeat' ((first|(with_reducible first|apply a_|apply b_|apply c_)|((with_reducible first|apply d_|apply e_|apply f_|apply g_|apply h_);first|omega|simp only[q_]<;>omega)|((with_reducible apply i_);first|omega|simp only[q_]<;>omega)|((with_reducible apply h_);first|decide|kernel_rfl)|refine s_ (by decide) ?_|refine t_ (by decide) ?_|with_reducible first|apply l_|apply m_|apply n_|apply o_|refine p_ (fun _=>?_) (fun _=>?_))<;>conv=>whnf));obtain⟨up,hup⟩:∃up,up=nodeF u at_:=⟨_,rfl⟩;obtain⟨n1,n2,n3⟩:=nodeF_spec u at_ (by omega);rw[<- hup] at n1;have sn:=s_nodeO hn hok P.length u (by rw[map_append];exact get_mid2 (by rw[length_map])) at_ (by omega) (by omega) (by omega);rw[<- hup] at sn;refine Smc.seq rfl ?_;((conv=>whnf);repeat' ((first|(with_reducible first|apply a_|apply b_|apply c_)|((with_reducible first|apply d_|apply e_|apply f_|apply g_|apply h_);first|omega|simp only[q_]<;>omega)|((with_reducible apply i_);first|omega|simp only[q_]<;>omega)|((with_reducible apply h_);first|decide|kernel_rfl)|refine s_ (by decide) ?_|refine t_ (by decide) ?_|with_reducible first|apply l_|apply m_|apply n_|apply o_|refine p_ (fun _=>?_) (fun _=>?_))<;>conv=>whnf));refine ro_k1 sn hn hHas (fun rf=>?_);((conv=>whnf);repeat' ((first|(with_reducible first|apply a_|apply b_|apply c_)|((with_reducible first|apply d_|apply e_|apply f_|apply g_|apply h_);first|omega|simp only[q_]<;>omega)|((with_reducible apply i_);first|omega|simp only[q_]<;>omega)|((with_reducible apply h_);first|decide|kernel_rfl)|refine s_ (by decide) ?_|refine t_ (by decide) ?_|with_reducible first|apply l_|apply m_|apply n_|apply o_|refine p_ (fun _=>?_) (fun _=>?_))<;>conv=>whnf));refine Smc.seq rfl ?_;((conv=>whnf);repeat' ((first|(with_reducible first|apply a_|apply b_|apply c_)|((with_reducible first|apply d_|apply e_|apply f_|apply g_|apply h_);first|omega|simp only[q_]<;>omega)|((with_reducible apply i_);first|omega|simp only[q_]<;>omega)|((with_reducible apply h_);first|decide|kernel_rfl)|refine s_ (by decide) ?_|refine t_ (by decide) ?_|with_reducible first|apply l_|apply m_|apply n_|apply o_|refine p_ (fun _=>?_) (fun _=>?_))<;>conv=>whnf));refine Smc.seq rfl ?_;have r1:((P++(900,u)::Q).map urow)[0+((P.length:Nat):Int).toNat]? = some [.arr 900 3 1 0 u.length]:=by
  rw[show 0+((P.length:Nat):Int).toNat=P.length by omega,map_append,map_cons];exact get_mid2 (by rw[length_map])
 ((conv=>whnf);repeat' ((first|(with_reducible first|apply a_|apply b_|apply c_)|((with_reducible first|apply d_|apply e_|apply f_|apply g_|apply h_);first|omega|simp only[q_]<;>omega)|((with_reducible apply i_);first|omega|simp only[q_]<;>omega)|((with_reducible apply h_);first|decide|kernel_rfl)|refine s_ (by decide) ?_|refine t_ (by decide) ?_|(refine Row.mk _ r1 ?_)|with_reducible first|apply l_|apply m_|apply n_|apply o_|refine p_ (fun _=>?_) (fun _=>?_))<;>conv=>whnf));have hfk:∀k∈[FK,FK1,FK2]++namesT es (P++(k1,u)::Q),k∈ksF [(900,k1)]:=fun k hk=>by
  rcases mem_append.1 hk with hk | hk
  ·exact mem_append_left _ hk
  ·exact mem_append_right _ (mem_append_right _ (hn.inn k hk))
 refine LoopC.mk Nat (fun i=>[(0,.d (.ptr FK 0)),(1,pInt .i64 P.length),(2,pInt .i64 at_),(6,pInt .i64 up),(7,pInt .i64 (((u.take i).sum:Nat) - 1)),(59,.d (.arr 900 3 1 0 (up+1))),(60,pInt .i64 ((up+1:Nat):Int)),(61,pInt .i64 i)])
  (fun _=>[(FK,.box 43 [.arr FK1 44 1 0 es.length,.arr FK2 61 1 0 (P.length+1+Q.length)]),(FK1,.darr 44 1 (es.map LE.row)),(FK2,.darr 61 1 ((P++(900,u)::Q).map urow)),(900,lvlH u)]++famT es (P++Q))
  (ksF [(900,k1)]) (fun i=>i<=up+1) (fun i=>up+1 - i) 0 (zero_le _) ?start ?round
 case start=>
  exact wk_keep hn _ rfl hfk hHas ⟨⟨rfl,rfl,rfl⟩,.inl rfl,.inl rfl,.inl rfl,PLe.int (by simp),⟨rfl,rfl,rfl,rfl,rfl,by omega⟩,PLe.int (by omega),.inl rfl,trivial⟩
 case round=>
  intro i hi;by_cases hlt:i<up+1
  ·have hiu:i<u.length:=by omega
   have r2:((u.map natC).map (List.map D.c))[0+((i:Nat):Int).toNat]? = some [.c (.v (.int .i64 (u[i]:Int)))]:=by
    rw[show 0+((i:Nat):Int).toNat=i by omega,List.getElem?_map,List.getElem?_map,List.getElem?_eq_getElem hiu];rfl
   have hs1:(u.take (i+1)).sum=(u.take i).sum+u[i]:=by rw[List.take_succ_eq_append_getElem hiu,sum_append,sum_singleton]
   have hs2:=sum_take_le u (i+1);have hs3:=hu _ (List.getElem_mem hiu);((conv=>whnf);repeat' ((first|(with_reducible first|apply a_|apply b_|apply c_)|((with_reducible first|apply d_|apply e_|apply f_|apply g_|apply h_);first|omega|simp only[q_]<;>omega)|((with_reducible apply i_);first|omega|simp only[q_]<;>omega)|((with_reducible apply h_);first|decide|kernel_rfl)|refine s_ (by decide) ?_|refine t_ (by decide) ?_|(refine Row.mk _ r2 ?_)|with_reducible first|apply l_|apply m_|apply n_|apply o_|refine p_ (fun _=>?_) (fun _=>?_))<;>conv=>whnf));exact⟨i+1,(show i+1<=up+1 by omega),(show up+1 - (i+1)<up+1 - i by omega),wk_keep hn _ rfl hfk hHas ⟨⟨rfl,rfl,rfl⟩,.inl rfl,.inl rfl,.inl rfl,PLe.int (by omega),⟨rfl,rfl,rfl,rfl,rfl,rfl⟩,.inl rfl,PLe.int (by push_cast;omega),trivial⟩⟩
  ·obtain rfl:i=up+1:=by omega
   ((conv=>whnf);repeat' ((first|(with_reducible first|apply a_|apply b_|apply c_)|((with_reducible first|apply d_|apply e_|apply f_|apply g_|apply h_);first|omega|simp only[q_]<;>omega)|((with_reducible apply i_);first|omega|simp only[q_]<;>omega)|((with_reducible apply h_);first|decide|kernel_rfl)|refine s_ (by decide) ?_|refine t_ (by decide) ?_|with_reducible first|apply l_|apply m_|apply n_|apply o_|refine p_ (fun _=>?_) (fun _=>?_))<;>conv=>whnf));refine Smc.seq rfl ?_;obtain⟨S,hS⟩:∃S,S=(u.take (up+1)).sum:=⟨_,rfl⟩;rw[<- hup] at n2 n3;rw[<- hS] at n3 ⊢;have hS2:=sum_take_le u (up+1);rw[<- hS] at hS2;have hsd:sideF u at_=if at_+1=S then at_ - 1 else at_+1:=by unfold sideF;rw[<- hup,<- hS]
   have hs1:at_+1=S->1<=at_:=fun e=>side_int (fun n hn=>(hu n hn).1) hat (by rw[e,hS,<- hup]);((conv=>whnf);repeat' ((first|(with_reducible first|apply a_|apply b_|apply c_)|((with_reducible first|apply d_|apply e_|apply f_|apply g_|apply h_);first|omega|simp only[q_]<;>omega)|((with_reducible apply i_);first|omega|simp only[q_]<;>omega)|((with_reducible apply h_);first|decide|kernel_rfl)|refine s_ (by decide) ?_|refine t_ (by decide) ?_|with_reducible first|apply l_|apply m_|apply n_|apply o_|refine p_ (fun _=>?_) (fun _=>?_))<;>conv=>whnf));obtain⟨sd,hsdd⟩:∃sd,sd=sideF u at_:=⟨_,rfl⟩;rw[<- hsdd] at hsd hsz2 h3 hj;refine Smc.via (le:=[(0,.d (.ptr FK 0)),(1,pInt .i64 P.length),(2,pInt .i64 at_),(6,pInt .i64 up),(10,pInt .i64 sd)])
    (lh:=[(FK,.box 43 [.arr FK1 44 1 0 es.length,.arr FK2 61 1 0 (P.length+1+Q.length)]),(FK1,.darr 44 1 (es.map LE.row)),(FK2,.darr 61 1 ((P++(900,u)::Q).map urow)),(900,lvlH u)]++famT es (P++Q)) (m:=ksF [(900,k1)]) (Smc.of rfl ?mid) ?_
   case mid=>
    by_cases hc:at_+1=S
    ·rw[if_pos hc] at hsd;have:=hs1 hc;((conv=>whnf);repeat' ((first|(with_reducible first|apply a_|apply b_|apply c_)|((with_reducible first|apply d_|apply e_|apply f_|apply g_|apply h_);first|omega|simp only[q_]<;>omega)|((with_reducible apply i_);first|omega|simp only[q_]<;>omega)|((with_reducible apply h_);first|decide|kernel_rfl)|refine s_ (by decide) ?_|refine t_ (by decide) ?_|with_reducible first|apply l_|apply m_|apply n_|apply o_|refine p_ (fun _=>?_) (fun _=>?_))<;>conv=>whnf));all_goals first|(exfalso;omega)|skip
     exact wk_keep hn _ rfl hfk hHas ⟨⟨rfl,rfl,rfl⟩,.inl rfl,.inl rfl,.inl rfl,PLe.int (by omega),trivial⟩
    ·rw[if_neg hc] at hsd;((conv=>whnf);repeat' ((first|(with_reducible first|apply a_|apply b_|apply c_)|((with_reducible first|apply d_|apply e_|apply f_|apply g_|apply h_);first|omega|simp only[q_]<;>omega)|((with_reducible apply i_);first|omega|simp only[q_]<;>omega)|((with_reducible apply h_);first|decide|kernel_rfl)|refine s_ (by decide) ?_|refine t_ (by decide) ?_|with_reducible first|apply l_|apply m_|apply n_|apply o_|refine p_ (fun _=>?_) (fun _=>?_))<;>conv=>whnf));all_goals first|(exfalso;omega)|skip
     exact wk_keep hn _ rfl hfk hHas ⟨⟨rfl,rfl,rfl⟩,.inl rfl,.inl rfl,.inl rfl,PLe.int (by omega),trivial⟩
   refine Smc.seq rfl ?_;((conv=>whnf);repeat' ((first|(with_reducible first|apply a_|apply b_|apply c_)|((with_reducible first|apply d_|apply e_|apply f_|apply g_|apply h_);first|omega|simp only[q_]<;>omega)|((with_reducible apply i_);first|omega|simp only[q_]<;>omega)|((with_reducible apply h_);first|decide|kernel_rfl)|refine s_ (by decide) ?_|refine t_ (by decide) ?_|with_reducible first|apply l_|apply m_|apply n_|apply o_|refine p_ (fun _=>?_) (fun _=>?_))<;>conv=>whnf));refine ro_k1 hsz2 hn hHas (fun rf=>?_);((conv=>whnf);repeat' ((first|(with_reducible first|apply a_|apply b_|apply c_)|((with_reducible first|apply d_|apply e_|apply f_|apply g_|apply h_);first|omega|simp only[q_]<;>omega)|((with_reducible apply i_);first|omega|simp only[q_]<;>omega)|((with_reducible apply h_);first|decide|kernel_rfl)|refine s_ (by decide) ?_|refine t_ (by decide) ?_|with_reducible first|apply l_|apply m_|apply n_|apply o_|refine p_ (fun _=>?_) (fun _=>?_))<;>conv=>whnf));have hk1:k1∈nT:=us_in hn (k1,u) (mem_append_right _ mem_cons_self);obtain⟨N,hN⟩:∃N,N=namesT es (P++(k1,u)::Q):=⟨_,rfl⟩;have hNn:∀k∈N,k∈nT:=fun k hk=>hn.inn k (by rw[hN] at hk;exact hk);have hmin:(if ((sd:Nat):Int)<((at_:Nat):Int) then ((sd:Nat):Int) else ((at_:Nat):Int))=((min at_ sd:Nat):Int):=by split<;>omega
   refine Smc.seq rfl ?_;((conv=>whnf);repeat' ((first|(with_reducible first|apply a_|apply b_|apply c_)|((with_reducible first|apply d_|apply e_|apply f_|apply g_|apply h_);first|omega|simp only[q_]<;>omega)|((with_reducible apply i_);first|omega|simp only[q_]<;>omega)|((with_reducible apply h_);first|decide|kernel_rfl)|refine s_ (by decide) ?_|refine t_ (by decide) ?_|with_reducible first|apply l_|apply m_|apply n_|apply o_|refine p_ (fun _=>?_) (fun _=>?_))<;>conv=>whnf));rw[hmin];refine tree_k1 hj hn hnJ (fun y hy=>?_) hHas hN (fun δ rf hnew hout=>?_)
   ·simp only[mem_cons,not_mem_nil,or_false] at hy;rcases hy with rfl | rfl<;>exact⟨_,rfl⟩
   refine newP_of (hnew _ rfl rfl rfl) ?_;conv=>whnf
   refine addKs_of (fun ks'=>?_);((conv=>whnf);repeat' ((first|(with_reducible first|apply a_|apply b_|apply c_)|((with_reducible first|apply d_|apply e_|apply f_|apply g_|apply h_);first|omega|simp only[q_]<;>omega)|((with_reducible apply i_);first|omega|simp only[q_]<;>omega)|((with_reducible apply h_);first|decide|kernel_rfl)|refine s_ (by decide) ?_|refine t_ (by decide) ?_|with_reducible first|apply l_|apply m_|apply n_|apply o_|refine p_ (fun _=>?_) (fun _=>?_))<;>conv=>whnf));have hk1J:=nm_out hnJ;have hnJQ:NmT esJ (PJ++Q):=nm_sub hnJ (List.Sublist.refl _) ((List.Sublist.refl PJ).append (sublist_cons_self _ _));have same:∀k,k∈namesT esJ (PJ++Q)->FX x N k=FX k1 N k:=fun k hk=>by
    have e1:k≠k1:=fun e=>hk1J (by rw[<- e];exact hk);have e2:k≠x:=fun e=>hxJ (by
     rw[<- e];simp only[namesT,mem_append,map_append,map_cons,mem_cons] at hk ⊢;rcases hk with h | h | h
     ·exact .inl h
     ·exact .inr (.inl h)
     ·exact .inr (.inr (.inr h)))
    unfold FX;rw[if_neg e1,if_neg e2]
   have hn3:NmT esJ (PJ++(x,u)::Q):=nm_ren u hnJ hx hxJ;have eZ:esJ.map (LE.mv (FX x N))=esJ.map (LE.mv (FX k1 N)):=map_congr_left fun e he=>by
    show (⟨FX x N e.k,_,_,_⟩:LE)=⟨FX k1 N e.k,_,_,_⟩;rw[same _ (mem_append_left _ (mem_map.2 ⟨e,he,rfl⟩))]
   have eU:∀L:List UE,L.Sublist (PJ++Q)->L.map (umv (FX x N))=L.map (umv (FX k1 N)):=fun L hL=>map_congr_left fun e he=>by
    show (FX x N e.1,e.2)=(FX k1 N e.1,e.2);rw[same _ (mem_append_right _ (mem_map.2 ⟨e,hL.subset he,rfl⟩))]
   have F93:∀k,(k<1000\/k=1000000\/k=1000001\/k=1000002)->FX x N k=k:=fun k hk=>
    FX_f hx hNn (fun hm=>by have:=nT_big k hm;omega) (by show k≠2000001;omega) (by show k≠2000002;omega)
   have eY:(PJ++(900,u)::Q).map (umv (FX x N))=(PJ++(k1,u)::Q).map (umv (FX k1 N)):=by
    rw[map_append,map_append,map_cons,map_cons,eU PJ (sublist_append_left _ _),eU Q (sublist_append_right _ _)];show _++(FX x N 900,u)::_=_++(FX k1 N k1,u)::_;rw[FX_y,F93 900 (by omega)]
   refine Smc.cut (le:=[(0,.d (.ptr FK 0)),(1,pInt .i64 P.length),(6,pInt .i64 up)])
    (lh:=[(FK,.box 43 [.arr 93 44 1 0 esJ.length,.arr 94 61 1 0 (P.length+1+Q.length)]),(93,.darr 44 1 (esJ.map LE.row)),(94,.darr 61 1 ((PJ++(900,u)::Q).map urow)),(900,lvlH u)]++famT esJ (PJ++Q)) (m:=[FK,FK1,FK2,93,94,900]++nT)
    (wk_sub (wk_has (near:=[]) (FX x N) (b:=FK) (l:=93) (u:=94) (es:=esJ) (us:=PJ++(900,u)::Q) ?g1 (fun k hk=>?g2) (fun k hk=>?g3) ?g4 (fun q hq=>(by cases hq)) ?g5) (fun q hq=>?g6)) ?_
   case g1=>
    rw[eZ,eY,F93 FK (.inr (.inl rfl)),F93 93 (by omega),F93 94 (by omega)];exact fun q hq=>hout _ q hq
   case g2=>
    rcases mem_append.1 hk with hk | hk
    ·simp only[mem_cons,not_mem_nil,or_false] at hk;refine⟨mem_append_left _ (by rcases hk with rfl | rfl | rfl<;>simp),F93 k ?_⟩;have hk:k=1000000\/k=1000001\/k=1000002:=hk;omega
    ·exact⟨mem_append_right _ (hn.inn k hk),FX_n (fun e=>hxn (by rw[<- e];exact hk)) (by rw[hN];exact hk)⟩
   case g3=>
    simp only[namesT,mem_append,map_append,map_cons,mem_cons] at hk;rcases hk with hk | hk | hk | rfl | hk
    ·refine mem_append_left _ ?_;simp only[not_mem_nil,or_false] at hk;rcases hk with rfl | rfl | rfl<;>simp
    ·exact mem_append_right _ (hnJQ.inn k (mem_append_left _ hk))
    ·exact mem_append_right _ (hnJQ.inn k (mem_append_right _ (by rw[map_append];exact mem_append_left _ hk)))
    ·exact mem_append_left _ (by simp)
    ·exact mem_append_right _ (hnJQ.inn k (mem_append_right _ (by rw[map_append];exact mem_append_right _ hk)))
   case g4=>
    have h0:([FK,NK1,NK2]++namesT esJ (PJ++(x,u)::Q)).Nodup:=by
     have:=tIn_nd (b:=FK) (l:=NK1) (u:=NK2) rfl hn3
     rwa [tIn_keys] at this
    have okO:∀k∈[FK,NK1,NK2]++namesT esJ (PJ++(x,u)::Q),k∈[FK,FK1,FK2,NK1,NK2]\/k∈nT:=fun k hk=>by
     rcases mem_append.1 hk with hk | hk
     ·left;simp only[mem_cons,not_mem_nil,or_false] at hk ⊢;rcases hk with rfl | rfl | rfl<;>simp
     ·exact .inr (hn3.inn k hk)
    have h1:=nodup_map (F:=FX x N) h0 (fun a ha b hb e=>FX_inj hx hNn (okO a ha) (okO b hb) e);have e:([FK,NK1,NK2]++namesT esJ (PJ++(x,u)::Q)).map (FX x N)=[FX x N FK,FX x N 93,FX x N 94]++(namesT esJ (PJ++(900,u)::Q)).map (FX x N):=by
     rw[map_append]
     congr 1
     ·show [FX x N FK,FX x N NK1,FX x N NK2]=_;rw[FX_1 hx hNn,FX_2 hx hNn,F93 93 (by omega),F93 94 (by omega)]
     ·simp only[namesT,map_append,map_cons];rw[FX_y,F93 900 (by omega)]
    rw[e] at h1;exact h1
   case g5=>
    have m:∀k∈[FK,FK1,FK2,93,94,900]++nT,fnL (mR (FX x N) ([FK,FK1,FK2,93,94,900]++nT)) k=some (FX x N k):=fun k hk=>mR_in hk;exact⟨⟨rfl,by rw[m FK (by simp),F93 FK (.inr (.inl rfl))],rfl⟩,.inl rfl,.inl rfl,trivial⟩
   case g6=>
    rcases mem_append.1 hq with hq | hq
    ·simp only[mem_cons,not_mem_nil,or_false] at hq;rcases hq with h | h | h | h
     ·exact mem_append_right _ (mem_append_left _ (by rw[h,show P.length+1+Q.length=(PJ++(900,u)::Q).length by rw[length_append,length_cons];omega];exact mem_cons_self))
     ·exact mem_append_right _ (mem_append_left _ (by rw[h];simp))
     ·exact mem_append_right _ (mem_append_left _ (by rw[h];simp))
     ·refine mem_append_right _ (mem_append_right _ (mem_append_right _ ?_));rw[h,map_append];exact mem_append_right _ mem_cons_self
    ·refine mem_append_right _ (mem_append_right _ ?_);rcases mem_append.1 hq with hq | hq
     ·exact mem_append_left _ hq
     ·refine mem_append_right _ ?_;rw[map_append] at hq ⊢;rcases mem_append.1 hq with hq | hq
      ·exact mem_append_left _ hq
      ·exact mem_append_right _ (mem_cons_of_mem _ hq)
   have r3:((PJ++(900,u)::Q).map urow)[0+((P.length:Nat):Int).toNat]? = some [.arr 900 3 1 0 u.length]:=by
    rw[show 0+((P.length:Nat):Int).toNat=P.length by omega,map_append,map_cons];exact get_mid2 (by rw[length_map,hPJ])
   have r4:((u.map natC).map (List.map D.c))[0+((up:Nat):Int).toNat]? = some [.c (.v (.int .i64 (u[up]:Int)))]:=by
    rw[show 0+((up:Nat):Int).toNat=up by omega,List.getElem?_map,List.getElem?_map,List.getElem?_eq_getElem n1];rfl
   have hu2:=hu _ (List.getElem_mem n1);refine Smc.seq rfl ?_;((conv=>whnf);repeat' ((first|(with_reducible first|apply a_|apply b_|apply c_)|((with_reducible first|apply d_|apply e_|apply f_|apply g_|apply h_);first|omega|simp only[q_]<;>omega)|((with_reducible apply i_);first|omega|simp only[q_]<;>omega)|((with_reducible apply h_);first|decide|kernel_rfl)|refine s_ (by decide) ?_|refine t_ (by decide) ?_|(first|refine Row.mk _ r3 ?_|refine Row.mk _ r4 ?_)|with_reducible first|apply l_|apply m_|apply n_|apply o_|refine p_ (fun _=>?_) (fun _=>?_))<;>conv=>whnf));refine Smc.of rfl ?_;((conv=>whnf);repeat' ((first|(with_reducible first|apply a_|apply b_|apply c_)|((with_reducible first|apply d_|apply e_|apply f_|apply g_|apply h_);first|omega|simp only[q_]<;>omega)|((with_reducible apply i_);first|omega|simp only[q_]<;>omega)|((with_reducible apply h_);first|decide|kernel_rfl)|refine s_ (by decide) ?_|refine t_ (by decide) ?_|with_reducible first|apply l_|apply m_|apply n_|apply o_|refine p_ (fun _=>?_) (fun _=>?_))<;>conv=>whnf));rw[<- hup,show ((P.length+1:Nat):Int)=(P.length:Int)+1 from rfl] at hm;have hgd:u.getD up 0=u[up]:=by rw[List.getD_eq_getElem?_getD,List.getElem?_eq_getElem n1];rfl
   rw[hgd] at hm;obtain⟨u',hu'⟩:∃u',u'=u.set up (u[up] - 1):=⟨_,rfl⟩;have hu'l:u'.length=u.length:=by rw[hu',length_set]
   rw[<- hu'] at hm;have hR2:=nm_fam hnJQ;have look2:∀q∈famT esJ (PJ++Q),hpL ([(FK,.box 43 [.arr 93 44 1 0 esJ.length,.arr 94 61 1 0 (P.length+1+Q.length)]),(93,.darr 44 1 (esJ.map LE.row)),(94,.darr 61 1 ((PJ++(900,u)::Q).map urow)),(900,lvlH u)]++famT esJ (PJ++Q)) q.1=some q.2:=fun q hq=>hR2.past rfl hq;refine tree_x hm (nm_ren u' hnJ hx hxJ) hnR (fun y hy=>?_) (has_of ?_ rfl ?_ (fun e he=>?_) (fun p hp=>?_)) rfl (fun δ2 rf2 hnew2 hout2=>?_)
   ·simp only[mem_cons,not_mem_nil,or_false] at hy;rcases hy with rfl | rfl<;>exact⟨_,rfl⟩
   ·rw[show (PJ++(900,u')::Q).length=P.length+1+Q.length by rw[length_append,length_cons];omega];rfl
   ·refine congrArg (fun r=>some (HB.darr 61 1 r)) ?_;rw[map_append,map_append,map_cons,map_cons]
    congr 2
    show [D.arr 900 3 1 0 _]=[D.arr 900 3 1 0 _];rw[hu'l]
   ·have hm:e.fam∈famT esJ (PJ++Q):=mem_append_left _ (mem_map.2 ⟨e,he,rfl⟩);have hb:=(hR2.keys e.fam hm).1;repeat refine app_fam rfl hb ?_
    exact look2 e.fam hm
   ·have hp':p=(900,u')\/p∈PJ++Q:=by
     simp only[mem_append,mem_cons] at hp ⊢;rcases hp with h | h | h
     ·exact .inr (.inl h)
     ·exact .inl h
     ·exact .inr (.inr h)
    rcases hp' with rfl | hp
    ·refine (lvl_eq ?_:_);rw[show 0+((up:Nat):Int).toNat=up by omega,hu'];exact lvl_set u up (n:=u[up] - 1) (by omega)
    ·have hm:ufam p∈famT esJ (PJ++Q):=mem_append_right _ (mem_map.2 ⟨p,hp,rfl⟩);have hb:=(hR2.keys (ufam p) hm).1;repeat refine app_fam rfl hb ?_
     exact look2 (ufam p) hm
   refine newP_of (hnew2 _ rfl rfl rfl) ?_;conv=>whnf
   refine addKs_of (fun ks2=>?_);((conv=>whnf);repeat' ((first|(with_reducible first|apply a_|apply b_|apply c_)|((with_reducible first|apply d_|apply e_|apply f_|apply g_|apply h_);first|omega|simp only[q_]<;>omega)|((with_reducible apply i_);first|omega|simp only[q_]<;>omega)|((with_reducible apply h_);first|decide|kernel_rfl)|refine s_ (by decide) ?_|refine t_ (by decide) ?_|with_reducible first|apply l_|apply m_|apply n_|apply o_|refine p_ (fun _=>?_) (fun _=>?_))<;>conv=>whnf));obtain⟨J,hJ⟩:∃J,J=namesT esJ (PJ++Q):=⟨_,rfl⟩;have hJn:∀k∈J,k∈nT:=fun k hk=>hnJQ.inn k (by rw[hJ] at hk;exact hk);obtain⟨F4,hF4⟩:∃F4:Nat->Nat,F4=fun k=>if k∈N\/k=FK1\/k=FK2 then k else FZ x J k:=⟨_,rfl⟩
   have F4a:∀k,(k∈N\/k=FK1\/k=FK2)->F4 k=k:=fun k hk=>by rw[hF4];exact if_pos hk
   have F4b:∀k,¬(k∈N\/k=FK1\/k=FK2)->F4 k=FZ x J k:=fun k hk=>by rw[hF4];exact if_neg hk
   have F4n:∀k,k∈namesT esR usR->F4 k=FZ x J k:=fun k hk=>by
    by_cases h:k∈N
    ·rw[F4a k (.inl h),FZ_n (fun e=>hxn (by rw[<- e,<- hN];exact h)) (by rw[hJ];exact hRN k hk (by rw[<- hN];exact h))]
    ·refine F4b k fun h'=>?_;have hb:=nT_big k (hnR.inn k hk);rcases h' with h' | h' | h'
     ·exact h h'
     ·have:k=1000001:=h';omega
     ·have:k=1000002:=h';omega
   have F4f:∀k,k=FK\/k=NK1\/k=NK2->F4 k=FZ x J k:=fun k hk=>F4b k fun h=>by
    have hk:k=1000000\/k=2000001\/k=2000002:=hk;rcases h with h | h | h
    ·have:=nT_big k (hNn k h);omega
    ·have:k=1000001:=h;omega
    ·have:k=1000002:=h;omega
   have z0:F4 FK=FK:=(F4f _ (.inl rfl)).trans ((FZ_f hx hJn (far_nT (by decide))).trans rfl);have z1:F4 NK1=95:=(F4f _ (.inr (.inl rfl))).trans ((FZ_f hx hJn (far_nT (by decide))).trans rfl);have z2:F4 NK2=96:=(F4f _ (.inr (.inr rfl))).trans ((FZ_f hx hJn (far_nT (by decide))).trans rfl);have eZ2:esR.map (LE.mv F4)=esR.map (LE.mv (FZ x J)):=map_congr_left fun e he=>by
    show (⟨F4 e.k,_,_,_⟩:LE)=⟨FZ x J e.k,_,_,_⟩;rw[F4n _ (mem_append_left _ (mem_map.2 ⟨e,he,rfl⟩))]
   have eY2:usR.map (umv F4)=usR.map (umv (FZ x J)):=map_congr_left fun e he=>by
    show (F4 e.1,e.2)=(FZ x J e.1,e.2);rw[F4n _ (mem_append_right _ (mem_map.2 ⟨e,he,rfl⟩))]
   refine ret_has ([FK,FK1,FK2,NK1,NK2]++nT) F4 z0 (us:=usR) ?o1 (fun k hk=>?o2) (fun k hk=>?o3) ?o4 rfl
   case o1=>
    rw[z1,z2,eZ2,eY2,hJ];exact fun q hq=>hout2 _ q hq
   case o2=>
    rcases mem_append.1 hk with hk | hk
    ·simp only[mem_cons,not_mem_nil,or_false] at hk;refine⟨mem_append_left _ (by rcases hk with rfl | rfl | rfl<;>simp),?_⟩;rcases hk with rfl | hk
     ·exact z0
     ·exact F4a k (.inr hk)
    ·exact⟨mem_append_right _ (hn.inn k hk),F4a k (.inl (by rw[hN];exact hk))⟩
   case o3=>
    rcases mem_append.1 hk with hk | hk
    ·refine mem_append_left _ ?_;simp only[mem_cons,not_mem_nil,or_false] at hk ⊢;rcases hk with rfl | rfl | rfl<;>simp
    ·exact mem_append_right _ (hnR.inn k hk)
   case o4=>
    have h0:([FK,NK1,NK2]++namesT esR usR).Nodup:=by
     have:=tIn_nd (b:=FK) (l:=NK1) (u:=NK2) rfl hnR
     rwa [tIn_keys] at this
    have okO:∀k∈[FK,NK1,NK2]++namesT esR usR,k∈[FK,FK1,FK2,NK1,NK2]\/k∈nT:=fun k hk=>by
     rcases mem_append.1 hk with hk | hk
     ·left;simp only[mem_cons,not_mem_nil,or_false] at hk ⊢;rcases hk with rfl | rfl | rfl<;>simp
     ·exact .inr (hnR.inn k hk)
    have h1:=nodup_map (F:=FZ x J) h0 (fun a ha b hb e=>FZ_inj hx hJn (okO a ha) (okO b hb) e);rw[map_append] at h1;have e:[FK,NK1,NK2].map (FZ x J)=[FK,F4 NK1,F4 NK2]:=by
     show [FZ x J FK,FZ x J NK1,FZ x J NK2]=_;rw[<- F4f _ (.inl rfl),<- F4f _ (.inr (.inl rfl)),<- F4f _ (.inr (.inr rfl)),z0]
    rw[e,<- map_congr_left F4n] at h1;exact h1
end
section
open Go.RowKit K
open Tr
def mendN:Nat->Nat->List Nat->List UE->Nat->List UE
 | _,k0,v,[],at_=>if v.getD at_ 0=1 then [] else [(k0,v)]|i,k0,v,(_,u)::Q,at_=>if 2<=v.getD at_ 0 then (k0,v)::(2*i+3+3000,u)::Q
  else if 2<v.getD (sideF u at_) 0 then (2*i+3000,(v.set (sideF u at_) (v.getD (sideF u at_) 0 - 1)).set at_ (v.getD at_ 0+1))::(2*i+3+3000,u)::Q
  else (2*i+3000,(v.set (min at_ (sideF u at_)) (v.getD (min at_ (sideF u at_)) 0+v.getD (min at_ (sideF u at_)+1) 0)).eraseIdx (min at_ (sideF u at_)+1))::mendN (i+1) (2*i+3+3000) (u.set (nodeF u at_) (u.getD (nodeF u at_) 0 - 1)) Q (nodeF u at_)
namespace Tr
theorem mendN_snd:∀(Q:List UE) (i k0:Nat) (v:List Nat) (at_:Nat),(mendN i k0 v Q at_).map Prod.snd=mendU v (Q.map Prod.snd) at_
 | [],i,k0,v,at_=>by
  rw[map_nil,mendN,mendU];split<;>rfl
 | (k1,u)::Q,i,k0,v,at_=>by
  rw[map_cons,mendN,mendU];split
  ·rfl
  ·split
   ·rfl
   ·rw[map_cons,mendN_snd Q]
theorem mendN_nd:∀(Q:List UE) (i k0:Nat) (v:List Nat) (at_:Nat),(k0::Q.map Prod.fst).Nodup->(∀j,(j=2*i\/2*i+2<=j)->j<=2*i+2*Q.length+1->j+3000∉k0::Q.map Prod.fst)->
  ((mendN i k0 v Q at_).map Prod.fst).Nodup/\∀k∈(mendN i k0 v Q at_).map Prod.fst,k∈k0::Q.map Prod.fst\/∃j,(j=2*i\/2*i+2<=j)/\j<=2*i+2*Q.length+1/\k=j+3000
 | [],i,k0,v,at_,hn,hf=>by
  rw[mendN];split
  ·exact⟨List.nodup_nil,fun k hk=>by cases hk⟩
  ·exact⟨hn,fun k hk=>.inl hk⟩
 | (k1,u)::Q,i,k0,v,at_,hn,hf=>by
  rw[map_cons] at hn hf;obtain⟨n1,n2⟩:=nodup_cons.1 hn;obtain⟨n3,n4⟩:=nodup_cons.1 n2;have hl:((k1,u)::Q).length=Q.length+1:=rfl;rw[hl] at hf ⊢;have f1:∀j,(j=2*i\/2*i+2<=j)->j<=2*i+2*(Q.length+1)+1->j+3000≠k0/\j+3000∉Q.map Prod.fst:=fun j h1 h2=>by
   have:=hf j h1 h2;exact⟨fun e=>this (by rw[e];exact mem_cons_self),fun hm=>this (mem_cons_of_mem _ (mem_cons_of_mem _ hm))⟩
  have fa:=f1 (2*i) (.inl rfl) (by omega);have fb:=f1 (2*i+3) (.inr (by omega)) (by omega);have n5:k0∉Q.map Prod.fst:=fun hm=>n1 (mem_cons_of_mem _ hm);rw[mendN];split
  ·refine⟨nodup_cons.2 ⟨fun hm=>?_,nodup_cons.2 ⟨fb.2,n4⟩⟩,fun k hk=>?_⟩
   ·rcases mem_cons.1 hm with e | hm
    ·exact fb.1 e.symm
    ·exact n5 hm
   ·rcases mem_cons.1 hk with rfl | hk
    ·exact .inl mem_cons_self
    ·rcases mem_cons.1 hk with rfl | hk
     ·exact .inr ⟨2*i+3,.inr (by omega),by omega,rfl⟩
     ·exact .inl (mem_cons_of_mem _ (mem_cons_of_mem _ hk))
  ·split
   ·refine⟨nodup_cons.2 ⟨fun hm=>?_,nodup_cons.2 ⟨fb.2,n4⟩⟩,fun k hk=>?_⟩
    ·rcases mem_cons.1 hm with e | hm
     ·have e:2*i+3000=2*i+3+3000:=e;omega
     ·exact fa.2 hm
    ·rcases mem_cons.1 hk with rfl | hk
     ·exact .inr ⟨2*i,.inl rfl,by omega,rfl⟩
     ·rcases mem_cons.1 hk with rfl | hk
      ·exact .inr ⟨2*i+3,.inr (by omega),by omega,rfl⟩
      ·exact .inl (mem_cons_of_mem _ (mem_cons_of_mem _ hk))
   ·obtain⟨g1,g2⟩:=mendN_nd Q (i+1) (2*i+3+3000) (u.set (nodeF u at_) (u.getD (nodeF u at_) 0 - 1)) (nodeF u at_) (nodup_cons.2 ⟨fb.2,n4⟩) (fun j h1 h2 hm=>by
     rcases mem_cons.1 hm with e | hm
     ·omega
     ·exact (f1 j (.inr (by omega)) (by omega)).2 hm)
    rw[map_cons];refine⟨nodup_cons.2 ⟨fun hm=>?_,g1⟩,fun k hk=>?_⟩
    ·rcases g2 _ hm with h | ⟨j,h1,h2,h3⟩
     ·rcases mem_cons.1 h with e | h
      ·have e:2*i+3000=2*i+3+3000:=e;omega
      ·exact fa.2 h
     ·have h3:2*i+3000=j+3000:=h3;omega
    ·rcases mem_cons.1 hk with rfl | hk
     ·exact .inr ⟨2*i,.inl rfl,by omega,rfl⟩
     ·rcases g2 k hk with h | ⟨j,h1,h2,h3⟩
      ·rcases mem_cons.1 h with e | h
       ·exact .inr ⟨2*i+3,.inr (by omega),by omega,e⟩
       ·exact .inl (mem_cons_of_mem _ (mem_cons_of_mem _ h))
      ·exact .inr ⟨j,.inr (by omega),by omega,h3⟩
end Tr
end
section
open Go.RowKit K
open Tr
theorem side_lt {u:List Nat} {at_:Nat} (hu:∀n∈u,2<=n) (hat:at_<u.sum):sideF u at_<u.sum/\sideF u at_≠at_/\min at_ (sideF u at_)+1<u.sum:=by
 obtain⟨n1,n2,n3⟩:=nodeF_spec u at_ hat;have h1:=sum_take_le u (nodeF u at_+1);unfold sideF;by_cases e:at_+1=(u.take (nodeF u at_+1)).sum
 ·have:=side_int hu hat e;rw[if_pos e];omega
 ·rw[if_neg e];omega
theorem mendN_nm {Q P:List UE} {k0:Nat} {v:List Nat} {at_:Nat} {es:List LE} (hn:NmT es (P++(k0,v)::Q)) (hfr:∀j,(j=2*P.length\/2*P.length+2<=j)->j<=11->j+3000∉namesT es (P++(k0,v)::Q)) (hl:P.length+Q.length<=5):NmT es (P++mendN P.length k0 v Q at_):=by
 have hnd:=hn.nd;rw[map_append,<- append_assoc] at hnd;obtain⟨d1,d2,d3⟩:=nodup_append.1 hnd;have hsub:∀k∈k0::Q.map Prod.fst,k∈namesT es (P++(k0,v)::Q):=fun k hk=>mem_append_right _ (by rw[map_append];exact mem_append_right _ hk);have hsub2:∀k∈es.map LE.k++P.map Prod.fst,k∈namesT es (P++(k0,v)::Q):=fun k hk=>by
  rcases mem_append.1 hk with hk | hk
  ·exact mem_append_left _ hk
  ·exact mem_append_right _ (by rw[map_append];exact mem_append_left _ hk)
 obtain⟨g1,g2⟩:=mendN_nd Q P.length k0 v at_ d2 fun j h1 h2 hm=>hfr j h1 (by omega) (hsub _ hm);refine⟨?_,fun k hk=>?_⟩
 ·rw[map_append,<- append_assoc];refine nodup_append.2 ⟨d1,g1,fun a ha b hb e=>?_⟩;subst e;rcases g2 a hb with h | ⟨j,j1,j2,rfl⟩
  ·exact d3 a ha a h rfl
  ·exact hfr j j1 (by omega) (hsub2 _ ha)
 ·rw[map_append,<- append_assoc] at hk;rcases mem_append.1 hk with hk | hk
  ·exact hn.inn k (hsub2 k hk)
  ·rcases g2 k hk with h | ⟨j,j1,j2,rfl⟩
   ·exact hn.inn k (hsub k h)
   ·exact in_new (by omega)
theorem s_mendU:∀(Q P:List UE) (k0:Nat) (v:List Nat) (at_:Nat) (es:List LE),NmT es (P++(k0,v)::Q)->(∀e∈es,e.ok)->(∀j,(j=2*P.length\/2*P.length+2<=j)->j<=11->j+3000∉namesT es (P++(k0,v)::Q))->P.length+Q.length<=5->es.length<=1000->
  at_<v.length->v.length<=64->(∀n∈v,1<=n/\n<=64)->chainQ v.length Q->
  NmT es (P++mendN P.length k0 v Q at_)/\CallS Try.prog 31 [.d (.ptr FK 0),pInt .i64 ((P.length+1:Nat):Int),pInt .i64 at_] [] (tIn es (P++(k0,v)::Q)) (.tup []) (tOut es (P++mendN P.length k0 v Q at_)):=by
 intro Q;induction Q with
 | nil=>
  intro P k0 v at_ es hn hok hfr hl hel hat hv hm hc;have hnm:=mendN_nm (at_:=at_) hn hfr hl;refine⟨hnm,?_⟩;have:=s_mendT P k0 v at_ es hn hok (by omega) hel hat hv hm;have e:P++mendN P.length k0 v [] at_=if v.getD at_ 0=1 then P else P++[(k0,v)]:=by
   rw[mendN];split
   ·rw[List.append_nil]
   ·rfl
  rw[e];exact this
 | cons q Q ih=>
  obtain⟨k1,u⟩:=q;intro P k0 v at_ es hn hok hfr hl hel hat hv hm hc;have hnm:=mendN_nm (at_:=at_) hn hfr hl;refine⟨hnm,?_⟩;obtain⟨hu,hus,hv64,hcQ⟩:=hc;have hl:P.length+(Q.length+1)<=5:=hl;have hP:(P++[(k0,v)]).length=P.length+1:=by simp
  have eus:P++(k0,v)::(k1,u)::Q=(P++[(k0,v)])++(k1,u)::Q:=by simp
  have hat':at_<u.sum:=by omega
  have hu2:∀n∈u,2<=n:=fun n hn=>(hu n hn).1;obtain⟨s1,s2,s3⟩:=side_lt hu2 hat';have hul:u.length<=64:=by have:=two_sum hu;omega
  have hx:2*P.length+3+3000∈nT:=in_new (k:=2*P.length+3) (by omega);have hxn:=hfr (2*P.length+3) (.inr (by omega)) (by omega);have hy:2*P.length+3000∈nT:=in_new (k:=2*P.length) (by omega);have hyn:=hfr (2*P.length) (.inl rfl) (by omega);have gz:∀a,a<v.length->CallS Try.prog 53 [.d (.ptr FK 0),pInt .i64 ((P++[(k0,v)]).length:Nat),pInt .i64 a] (tIn es ((P++[(k0,v)])++(k1,u)::Q)) [] (pInt .i64 (v.getD a 0:Nat)) []:=fun a ha=>by
   have:=s_sizeU hn hok P.length (by omega) v (by rw[map_append];exact get_mid2 (by rw[length_map])) a ha;rw[hP,<- eus,show v.getD a 0=v[a] by rw[List.getD_eq_getElem?_getD,List.getElem?_eq_getElem ha];rfl];exact this
  rw[<- hP];by_cases c1:2<=v.getD at_ 0
  ·have:=s_mendA es (P++[(k0,v)]) Q k1 u at_ (2*P.length+3+3000) (fun a=>v.getD a 0) (by rw[<- eus];exact hn) hok hx (by rw[<- eus];exact hxn) (by rw[hP];omega) hel (gz at_ hat) c1;rw[<- eus] at this;rw[mendN,if_pos c1];rw[append_assoc] at this;exact this
  ·have hsz:=gz at_ hat;have hsz2:=gz (sideF u at_) (by omega);have hn':=hn;rw[eus] at hn';have hxn':=hxn;rw[eus] at hxn';have xren:∀w:List Nat,2*P.length+3+3000∉namesT es (P++(2*P.length+3000,w)::(k1,u)::Q):=fun w hm=>by
    simp only[namesT,mem_append,map_append,map_cons,mem_cons] at hm hxn;rcases hm with h | h | h | h
    ·exact hxn (.inl h)
    ·exact hxn (.inr (.inl h))
    ·omega
    ·exact hxn (.inr (.inr (.inr h)))
   by_cases c2:2<v.getD (sideF u at_) 0
   ·obtain⟨w,hw⟩:∃w,w=(v.set (sideF u at_) (v.getD (sideF u at_) 0 - 1)).set at_ (v.getD at_ 0+1):=⟨_,rfl⟩;have hh:=s_handU P ((k1,u)::Q) k0 v (sideF u at_) at_ es hn hy hyn (by show P.length+1+(Q.length+1)<=20;omega) hel (by omega) hat s2 hv hm;rw[<- hw] at hh;have e2:P++(2*P.length+3000,w)::(k1,u)::Q=(P++[(2*P.length+3000,w)])++(k1,u)::Q:=by simp
    rw[eus,e2,<- hP] at hh;have:=s_mendB es es (P++[(k0,v)]) (P++[(2*P.length+3000,w)]) Q k1 u at_ (2*P.length+3+3000) (fun a=>v.getD a 0) hn' hok hx hxn' (by rw[hP];omega) hel hu hul hat' (by omega) hsz c1 hsz2 c2 (by rw[<- e2];exact nm_ren w hn hy hyn) (by rw[<- e2];exact xren w) hh;rw[mendN,if_neg c1,if_pos c2,<- hw];rw[<- eus,append_assoc] at this;exact this
   ·obtain⟨w,hw⟩:∃w,w=(v.set (min at_ (sideF u at_)) (v.getD (min at_ (sideF u at_)) 0+v.getD (min at_ (sideF u at_)+1) 0)).eraseIdx (min at_ (sideF u at_)+1):=⟨_,rfl⟩;have hj:=s_joinU P ((k1,u)::Q) k0 v (min at_ (sideF u at_)) es hn hy hyn (by show P.length+1+(Q.length+1)<=20;omega) hel (by omega) hv hm;rw[<- hw] at hj;have e2:P++(2*P.length+3000,w)::(k1,u)::Q=(P++[(2*P.length+3000,w)])++(k1,u)::Q:=by simp
    rw[eus,e2,<- hP] at hj;have hPJ:(P++[(2*P.length+3000,w)]).length=P.length+1:=by simp
    obtain⟨n1,n2,n3⟩:=nodeF_spec u at_ hat';obtain⟨u',hu'⟩:∃u',u'=u.set (nodeF u at_) (u.getD (nodeF u at_) 0 - 1):=⟨_,rfl⟩;have hu'l:u'.length=u.length:=by rw[hu',length_set]
    have hnJ:NmT es ((P++[(2*P.length+3000,w)])++(k1,u)::Q):=by rw[<- e2];exact nm_ren w hn hy hyn
    have hxJ:2*P.length+3+3000∉namesT es ((P++[(2*P.length+3000,w)])++(k1,u)::Q):=by rw[<- e2];exact xren w
    have hn5:=nm_ren u' hnJ hx hxJ;have hfr5:∀j,(j=2*(P++[(2*P.length+3000,w)]).length\/2*(P++[(2*P.length+3000,w)]).length+2<=j)->j<=11->j+3000∉namesT es ((P++[(2*P.length+3000,w)])++(2*P.length+3+3000,u')::Q):=fun j h1 h2 hm=>by
     rw[hPJ] at h1;have h0:=hfr j (.inr (by omega)) h2;simp only[namesT,mem_append,map_append,map_cons,mem_cons,map_nil,not_mem_nil,or_false] at hm h0;rcases hm with h | (h | h) | h | h
     ·exact h0 (.inl h)
     ·exact h0 (.inr (.inl h))
     ·omega
     ·omega
     ·exact h0 (.inr (.inr (.inr (.inr h))))
    have hm5:∀n∈u',1<=n/\n<=64:=fun n hn=>by
     rw[hu'] at hn;rcases mem_or_eq_of_mem_set hn with h | h
     ·have:=hu n h;omega
     ·have hq:=hu _ (List.getElem_mem n1);rw[h,List.getD_eq_getElem?_getD,List.getElem?_eq_getElem n1];show 1<=u[nodeF u at_] - 1/\u[nodeF u at_] - 1<=64;omega
    obtain⟨r1,r2⟩:=ih (P++[(2*P.length+3000,w)]) (2*P.length+3+3000) u' (nodeF u at_) es hn5 hok hfr5 (by rw[hPJ];omega) hel (by rw[hu'l];exact n1) (by rw[hu'l];exact hul) hm5 (by rw[hu'l];exact hcQ);obtain⟨g1,g2⟩:=mendN_nd Q (P.length+1) (2*P.length+3+3000) u' (nodeF u at_) (by
     have:=hn5.nd;rw[map_append,<- append_assoc] at this;exact (nodup_append.1 this).2.1) (fun j h1 h2 hm=>hfr5 j (by rw[hPJ];exact h1) (by omega) (mem_append_right _ (by rw[map_append];exact mem_append_right _ hm)))
    rw[hPJ] at r1 r2;have:=s_mendC es es es (P++[(k0,v)]) (P++[(2*P.length+3000,w)]) Q _ k1 u at_ (2*P.length+3+3000) (fun a=>v.getD a 0) hn' hok hx hxn' (by rw[hP];omega) hel hu hul hat' (by omega) hsz c1 hsz2 c2 hnJ hxJ (by rw[hPJ,hP]) hj (by rw[hP,<- hu'];exact r2) r1 (fun k hk hk2=>by
     simp only[namesT,mem_append,map_append,map_cons,mem_cons,map_nil,not_mem_nil,or_false] at hk ⊢;rcases hk with h | (h | h) | h
     ·exact .inl h
     ·exact .inr (.inl (.inl h))
     ·exact .inr (.inl (.inr h))
     ·rcases g2 k h with h | ⟨j,j1,j2,h⟩
      ·rcases mem_cons.1 h with h | h
       ·rw[h] at hk2;exact absurd hk2 hxn'
       ·exact .inr (.inr h)
      ·rw[h,<- eus] at hk2;exact absurd hk2 (hfr j (.inr (by omega)) (by omega)))
    rw[mendN,if_neg c1,if_neg c2,<- hw,<- hu'];rw[<- eus,append_assoc] at this;exact this
end
section
open Go.RowKit K
open Tr
theorem s_mendT0 (at_:Nat) (es:List LE) {e0:LE} (he0:es[at_]? = some e0) (hl0:e0.val.length<=1000) (hn:NmT es []) (hok:∀e∈es,e.ok) (hel:es.length<=1000) :
  CallS Try.prog 31 [.d (.ptr FK 0),pInt .i64 0,pInt .i64 at_] [] (tIn es []) (.tup []) (tOut es []):=by
 obtain⟨us,hus⟩:∃us:List UE,us=[]:=⟨_,rfl⟩;rw[<- hus] at hn ⊢;have husl:us.length=0:=by rw[hus];rfl
 have hat:at_<es.length:=(List.getElem?_eq_some_iff.1 he0).1;have sz:=s_size0 hn hok at_ he0 hl0;refine callS_sem Try.func31 (by rfl) rfl (by kernel_rfl) (by rfl) ([FK,FK1,FK2]++namesT es us) (fun k hk=>by rw[nil_append,tIn_keys] at hk;exact hk) ?_;refine Smc.cut (le:=[(0,.d (.ptr FK 0)),(1,pInt .i64 0),(2,pInt .i64 at_)])
  (lh:=[(FK,.box 43 [.arr FK1 44 1 0 es.length,.arr FK2 61 1 0 0]),(FK1,.darr 44 1 (es.map LE.row)),(FK2,.darr 61 1 (us.map urow))]++famT es us) (m:=ksF [])
  (wk_all hn (fun q hq=>by subst hus;exact hq) ⟨⟨rfl,rfl,rfl⟩,.inl rfl,.inl rfl,trivial⟩) ?_
 have hR:=nm_fam hn;have look:∀q∈famT es us,hpL ([(FK,.box 43 [.arr FK1 44 1 0 es.length,.arr FK2 61 1 0 0]),(FK1,.darr 44 1 (es.map LE.row)),(FK2,.darr 61 1 (us.map urow))]++famT es us) q.1=some q.2:=fun q hq=>hR.past rfl hq;refine Smc.seqs ?_;refine Smc.seq rfl ?_;((conv=>whnf);repeat' ((first|(with_reducible first|apply a_|apply b_|apply c_)|((with_reducible first|apply d_|apply e_|apply f_|apply g_|apply h_);first|omega|simp only[q_]<;>omega)|((with_reducible apply i_);first|omega|simp only[q_]<;>omega)|((with_reducible apply h_);first|decide|kernel_rfl)|refine s_ (by decide) ?_|refine t_ (by decide) ?_|with_reducible first|apply l_|apply m_|apply n_|apply o_|refine p_ (fun _=>?_) (fun _=>?_))<;>conv=>whnf));refine Smc.cond rfl (fun _=>?_) (fun hb=>?_)
 ·refine Smc.seqs ?_;refine Smc.seq rfl ?_;((conv=>whnf);repeat' ((first|(with_reducible first|apply a_|apply b_|apply c_)|((with_reducible first|apply d_|apply e_|apply f_|apply g_|apply h_);first|omega|simp only[q_]<;>omega)|((with_reducible apply i_);first|omega|simp only[q_]<;>omega)|((with_reducible apply h_);first|decide|kernel_rfl)|refine s_ (by decide) ?_|refine t_ (by decide) ?_|with_reducible first|apply l_|apply m_|apply n_|apply o_|refine p_ (fun _=>?_) (fun _=>?_))<;>conv=>whnf));refine ro_id sz hn (has_of ?_ rfl rfl (fun e he=>?_) (fun p hp=>?_)) (fun rf=>?_)
  ·rw[husl];rfl
  ·have hm:e.fam∈famT es us:=mem_append_left _ (mem_map.2 ⟨e,he,rfl⟩);have hb:=(hR.keys e.fam hm).1;repeat refine app_fam rfl hb ?_
   exact look e.fam hm
  ·have hm:ufam p∈famT es us:=mem_append_right _ (mem_map.2 ⟨p,hp,rfl⟩);have hb:=(hR.keys (ufam p) hm).1;repeat refine app_fam rfl hb ?_
   exact look (ufam p) hm
  ((conv=>whnf);repeat' ((first|(with_reducible first|apply a_|apply b_|apply c_)|((with_reducible first|apply d_|apply e_|apply f_|apply g_|apply h_);first|omega|simp only[q_]<;>omega)|((with_reducible apply i_);first|omega|simp only[q_]<;>omega)|((with_reducible apply h_);first|decide|kernel_rfl)|refine s_ (by decide) ?_|refine t_ (by decide) ?_|with_reducible first|apply l_|apply m_|apply n_|apply o_|refine p_ (fun _=>?_) (fun _=>?_))<;>conv=>whnf))
  ·rename_i hv1;refine Smc.cond rfl (fun ht=>?_) (fun ht=>?_)
   ·cases ht
   ·refine Smc.of rfl ?_;((conv=>whnf);repeat' ((first|(with_reducible first|apply a_|apply b_|apply c_)|((with_reducible first|apply d_|apply e_|apply f_|apply g_|apply h_);first|omega|simp only[q_]<;>omega)|((with_reducible apply i_);first|omega|simp only[q_]<;>omega)|((with_reducible apply h_);first|decide|kernel_rfl)|refine s_ (by decide) ?_|refine t_ (by decide) ?_|with_reducible first|apply l_|apply m_|apply n_|apply o_|refine p_ (fun _=>?_) (fun _=>?_))<;>conv=>whnf));refine Smc.of rfl ?_;((conv=>whnf);repeat' ((first|(with_reducible first|apply a_|apply b_|apply c_)|((with_reducible first|apply d_|apply e_|apply f_|apply g_|apply h_);first|omega|simp only[q_]<;>omega)|((with_reducible apply i_);first|omega|simp only[q_]<;>omega)|((with_reducible apply h_);first|decide|kernel_rfl)|refine s_ (by decide) ?_|refine t_ (by decide) ?_|with_reducible first|apply l_|apply m_|apply n_|apply o_|refine p_ (fun _=>?_) (fun _=>?_))<;>conv=>whnf));refine ret_all hn (List.Sublist.refl _) FK1 FK2 rfl rfl (has_of ?_ rfl rfl (fun e he=>?_) (fun p hp=>?_))
    ·rw[husl];rfl
    ·have hm:e.fam∈famT es us:=mem_append_left _ (mem_map.2 ⟨e,he,rfl⟩);have hb:=(hR.keys e.fam hm).1;repeat refine app_fam rfl hb ?_
     exact look e.fam hm
    ·have hm:ufam p∈famT es us:=mem_append_right _ (mem_map.2 ⟨p,hp,rfl⟩);have hb:=(hR.keys (ufam p) hm).1;repeat refine app_fam rfl hb ?_
     exact look (ufam p) hm
  ·rename_i hv1;refine Smc.cond rfl (fun ht=>?_) (fun ht=>?_)
   ·cases ht
   ·refine Smc.of rfl ?_;((conv=>whnf);repeat' ((first|(with_reducible first|apply a_|apply b_|apply c_)|((with_reducible first|apply d_|apply e_|apply f_|apply g_|apply h_);first|omega|simp only[q_]<;>omega)|((with_reducible apply i_);first|omega|simp only[q_]<;>omega)|((with_reducible apply h_);first|decide|kernel_rfl)|refine s_ (by decide) ?_|refine t_ (by decide) ?_|with_reducible first|apply l_|apply m_|apply n_|apply o_|refine p_ (fun _=>?_) (fun _=>?_))<;>conv=>whnf));refine Smc.of rfl ?_;((conv=>whnf);repeat' ((first|(with_reducible first|apply a_|apply b_|apply c_)|((with_reducible first|apply d_|apply e_|apply f_|apply g_|apply h_);first|omega|simp only[q_]<;>omega)|((with_reducible apply i_);first|omega|simp only[q_]<;>omega)|((with_reducible apply h_);first|decide|kernel_rfl)|refine s_ (by decide) ?_|refine t_ (by decide) ?_|with_reducible first|apply l_|apply m_|apply n_|apply o_|refine p_ (fun _=>?_) (fun _=>?_))<;>conv=>whnf));refine ret_all hn (List.Sublist.refl _) FK1 FK2 rfl rfl (has_of ?_ rfl rfl (fun e he=>?_) (fun p hp=>?_))
    ·rw[husl];rfl
    ·have hm:e.fam∈famT es us:=mem_append_left _ (mem_map.2 ⟨e,he,rfl⟩);have hb:=(hR.keys e.fam hm).1;repeat refine app_fam rfl hb ?_
     exact look e.fam hm
    ·have hm:ufam p∈famT es us:=mem_append_right _ (mem_map.2 ⟨p,hp,rfl⟩);have hb:=(hR.keys (ufam p) hm).1;repeat refine app_fam rfl hb ?_
     exact look (ufam p) hm
 ·exact absurd rfl (of_decide_eq_false hb)
end
section
open Go.RowKit K
open Tr
namespace Tr
abbrev ks2 (k0 k1:Nat):List (Nat×Nat):=[(800,k0),(801,k1)]
theorem wk_two {A B:List LE} {us:List UE} {k0 k1:Nat} {a b:List PairD} (hn:NmT (A++mkL k0 a::mkL k1 b::B) us) (N:Nat) (hN:N=A.length+2+B.length) {e:Env} {le:List (Nat×PV)} (he:PLes (fnL (mR (Fl (ks2 k0 k1)) (ksF (ks2 k0 k1)))) (ksF (ks2 k0 k1)) e le) :
  Wk ([FK,FK1,FK2]++namesT (A++mkL k0 a::mkL k1 b::B) us) e (hpL (tIn (A++mkL k0 a::mkL k1 b::B) us)) le
   ([(FK,.box 43 [.arr FK1 44 1 0 N,.arr FK2 61 1 0 us.length]),(FK1,.darr 44 1 ((A++mkL 800 a::mkL 801 b::B).map LE.row)),(FK2,.darr 61 1 (us.map urow)),(800,leafH a),(801,leafH b)]++famT (A++B) us) (ksF (ks2 k0 k1)):=by
 have hAB:(A++B).Sublist (A++mkL k0 a::mkL k1 b::B):=(List.Sublist.refl A).append ((sublist_cons_self _ _).trans (sublist_cons_self _ _));have hnAB:NmT (A++B) us:=nm_sub hn hAB (List.Sublist.refl _);refine wk_in (ks2 k0 k1) rfl rfl rfl rfl hn (es2:=A++mkL 800 a::mkL 801 b::B) ?e2 (ump_fix rfl (us_in hn)) (fun k hk=>?nm) _ (fun q hq=>?lh) he rfl
 case e2=>
  rw[map_append,map_cons,map_cons,mp_fix rfl fun e he=>es_in hn e (mem_append_left _ he),mp_fix rfl fun e he=>es_in hn e (mem_append_right _ (mem_cons_of_mem _ (mem_cons_of_mem _ he)))];rfl
 case nm=>
  have:k=800\/k=801\/k∈namesT (A++B) us:=by
   simp only[namesT,mem_append,map_append,map_cons,mem_cons] at hk ⊢;rcases hk with (h | h | h | h) | h
   ·exact .inr (.inr (.inl (.inl h)))
   ·exact .inl h
   ·exact .inr (.inl h)
   ·exact .inr (.inr (.inl (.inr h)))
   ·exact .inr (.inr (.inr h))
  rcases this with rfl | rfl | h
  ·exact mem_append_left _ (show 800∈[800,801] by decide)
  ·exact mem_append_left _ (show 801∈[800,801] by decide)
  ·exact mem_append_right _ (hnAB.inn k h)
 case lh=>
  rcases mem_append.1 hq with hq | hq
  ·simp only[mem_cons,not_mem_nil,or_false] at hq;rcases hq with h | h | h | h | h
   ·exact mem_append_left _ (by rw[h,show N=(A++mkL 800 a::mkL 801 b::B).length by rw[hN];simp;omega];exact mem_cons_self)
   ·exact mem_append_left _ (by rw[h];simp)
   ·exact mem_append_left _ (by rw[h];simp)
   ·refine mem_append_right _ (mem_append_left _ ?_);rw[h,map_append];exact mem_append_right _ mem_cons_self
   ·refine mem_append_right _ (mem_append_left _ ?_);rw[h,map_append];exact mem_append_right _ (mem_cons_of_mem _ mem_cons_self)
  ·refine mem_append_right _ ?_;rcases mem_append.1 hq with hq | hq
   ·refine mem_append_left _ ?_;rw[map_append] at hq ⊢;rcases mem_append.1 hq with hq | hq
    ·exact mem_append_left _ hq
    ·exact mem_append_right _ (mem_cons_of_mem _ (mem_cons_of_mem _ hq))
   ·exact mem_append_right _ hq
theorem ret_two {A B:List LE} {us:List UE} {k0 k1:Nat} {a b:List PairD} (hn:NmT (A++mkL k0 a::mkL k1 b::B) us) (h5:5000∉namesT (A++mkL k0 a::mkL k1 b::B) us/\5001∉namesT (A++mkL k0 a::mkL k1 b::B) us) (ht:5000∈nT/\5001∈nT)
  (e0 e1:LE) (l u y0 y1:Nat) (hd:nd [FK,l,u,y0,y1]=true) (hf:[FK,l,u,y0,y1].all farK=true) (q0:e0.k=5000) (q1:e1.k=5001)
  {h:Hp} (hh:Has h FK l u (A++(⟨y0,e0.lo,e0.n,e0.a⟩:LE)::(⟨y1,e1.lo,e1.n,e1.a⟩:LE)::B) us):RetS ([FK,FK1,FK2]++namesT (A++mkL k0 a::mkL k1 b::B) us) h (.tup []) (tOut (A++e0::e1::B) us) (.tup []):=by
 have hAB:(A++B).Sublist (A++mkL k0 a::mkL k1 b::B):=(List.Sublist.refl A).append ((sublist_cons_self _ _).trans (sublist_cons_self _ _));have hnAB:NmT (A++B) us:=nm_sub hn hAB (List.Sublist.refl _);have hsub:∀k∈namesT (A++B) us,k∈namesT (A++mkL k0 a::mkL k1 b::B) us:=fun k hk=>by
  simp only[namesT,mem_append,map_append,map_cons,mem_cons] at hk ⊢;rcases hk with (h | h) | h
  ·exact .inl (.inl h)
  ·exact .inl (.inr (.inr (.inr h)))
  ·exact .inr h
 obtain⟨G,hG⟩:∃G,G=Fl [(NK1,l),(NK2,u),(5000,y0),(5001,y1)]:=⟨_,rfl⟩;have G1:G NK1=l:=by rw[hG];exact Fl_hit
 have G2:G NK2=u:=by rw[hG,Fl_skip (by decide)];exact Fl_hit
 have G3:G 5000=y0:=by rw[hG,Fl_skip (by decide),Fl_skip (by decide)];exact Fl_hit
 have G4:G 5001=y1:=by rw[hG,Fl_skip (by decide),Fl_skip (by decide),Fl_skip (by decide)];exact Fl_hit
 have GN:∀k,k≠NK1->k≠NK2->k≠5000->k≠5001->G k=k:=fun k h1 h2 h3 h4=>by
  rw[hG];refine Fl_no fun p hp=>?_;simp only[mem_cons,not_mem_nil,or_false] at hp;rcases hp with rfl | rfl | rfl | rfl
  ·exact fun e=>h1 e.symm
  ·exact fun e=>h2 e.symm
  ·exact fun e=>h3 e.symm
  ·exact fun e=>h4 e.symm
 have GnT:∀k∈nT,k≠5000->k≠5001->G k=k:=fun k hk h3 h4=>by
  have:=nT_big k hk;exact GN k (by show _≠2000001;omega) (by show _≠2000002;omega) h3 h4
 have GF:∀k,k=FK\/k=FK1\/k=FK2->G k=k:=fun k hk=>by
  have hk:k=1000000\/k=1000001\/k=1000002:=hk;exact GN k (by show _≠2000001;omega) (by show _≠2000002;omega) (by omega) (by omega)
 have Gi:∀k∈namesT (A++mkL k0 a::mkL k1 b::B) us,G k=k:=fun k hk=>GnT k (hn.inn k hk) (fun e=>h5.1 (by rw[<- e];exact hk)) (fun e=>h5.2 (by rw[<- e];exact hk));have gA:∀L:List LE,L.Sublist (A++B)->L.map (LE.mv G)=L:=fun L hL=>mv_same fun e he=>Gi _ (hsub _ (mem_append_left _ (mem_map.2 ⟨e,hL.subset he,rfl⟩)));have gu:us.map (umv G)=us:=umv_same fun p hp=>Gi _ (mem_append_right _ (mem_map.2 ⟨p,hp,rfl⟩));have ge:(A++e0::e1::B).map (LE.mv G)=A++(⟨y0,e0.lo,e0.n,e0.a⟩:LE)::(⟨y1,e1.lo,e1.n,e1.a⟩:LE)::B:=by
  rw[map_append,map_cons,map_cons,gA A (sublist_append_left _ _),gA B (sublist_append_right _ _)];show A++(⟨G e0.k,_,_,_⟩:LE)::(⟨G e1.k,_,_,_⟩:LE)::B=_;rw[q0,q1,G3,G4]
 refine ret_has ([FK,FK1,FK2,NK1,NK2]++nT) G (GF _ (.inl rfl)) (us:=us) ?o1 (fun k hk=>?o2) (fun k hk=>?o3) ?o4 rfl
 case o1=>rw[ge,gu,G1,G2];exact hh
 case o2=>
  rcases mem_append.1 hk with hk | hk
  ·simp only[mem_cons,not_mem_nil,or_false] at hk;exact⟨mem_append_left _ (by rcases hk with rfl | rfl | rfl<;>simp),GF k hk⟩
  ·exact⟨mem_append_right _ (hn.inn k hk),Gi k hk⟩
 case o3=>
  rcases mem_append.1 hk with hk | hk
  ·refine mem_append_left _ ?_;simp only[mem_cons,not_mem_nil,or_false] at hk ⊢;rcases hk with rfl | rfl | rfl<;>simp
  ·refine mem_append_right _ ?_;simp only[namesT,mem_append,map_append,map_cons,mem_cons] at hk;rcases hk with (h | h | h | h) | h
   ·exact hnAB.inn k (by simp only[namesT,mem_append,map_append];exact .inl (.inl h))
   ·rw[h,q0];exact ht.1
   ·rw[h,q1];exact ht.2
   ·exact hnAB.inn k (by simp only[namesT,mem_append,map_append];exact .inl (.inr h))
   ·exact hnAB.inn k (by simp only[namesT,mem_append,map_append];exact .inr h)
 case o4=>
  rw[<- names_mv,ge,gu,G1,G2];refine nd_perm (lits:=[FK,l,u,y0,y1]) (names:=namesT (A++B) us) (perm_iff_count.2 fun q=>?_) hd hf hnAB.nd hnAB.inn;simp only[namesT,count_append,map_append,map_cons,map_nil,count_cons,count_nil];omega
end Tr
end
section
open Go.RowKit K
open Tr
set_option maxHeartbeats 4000000 in
theorem s_hand0R (A B:List LE) (us:List UE) (k0 k1:Nat) (a b:List PairD) (hn:NmT (A++mkL k0 a::mkL k1 b::B) us) (h5:5000∉namesT (A++mkL k0 a::mkL k1 b::B) us/\5001∉namesT (A++mkL k0 a::mkL k1 b::B) us)
  (hel:A.length+2+B.length<=100) (hul:us.length<=20) (ha:0<a.length/\a.length<=4) (hb:0<b.length/\b.length<=4) :
  CallS Try.prog 54 [.d (.ptr FK 0),pInt .i64 0,pInt .i64 ((A.length+1:Nat):Int),pInt .i64 A.length] [] (tIn (A++mkL k0 a::mkL k1 b::B) us) (.tup [])
   (tOut (A++mkL 5000 (a++b.take 1)::(⟨5001,1,b.length - 1,b⟩:LE)::B) us):=by
 have hAB:(A++B).Sublist (A++mkL k0 a::mkL k1 b::B):=(List.Sublist.refl A).append ((sublist_cons_self _ _).trans (sublist_cons_self _ _));have hnAB:NmT (A++B) us:=nm_sub hn hAB (List.Sublist.refl _);refine callS_sem Try.func54 (by rfl) rfl (by kernel_rfl) (by rfl) ([FK,FK1,FK2]++namesT (A++mkL k0 a::mkL k1 b::B) us) (fun k hk=>by rw[nil_append,tIn_keys] at hk;exact hk) ?_;refine Smc.cut (le:=[(0,.d (.ptr FK 0)),(1,pInt .i64 0),(2,pInt .i64 ((A.length+1:Nat):Int)),(3,pInt .i64 A.length)]) (m:=ksF (ks2 k0 k1)) (wk_two hn (A.length+2+B.length) rfl ⟨⟨rfl,rfl,rfl⟩,.inl rfl,.inl rfl,.inl rfl,trivial⟩) ?_;refine Smc.of rfl ?_;have r1:((A++mkL 800 a::mkL 801 b::B).map LE.row)[0+((A.length+1:Nat):Int).toNat]? = some [.arr 801 41 2 0 b.length]:=by
  rw[show 0+((A.length+1:Nat):Int).toNat=A.length+1 by omega,map_append,map_cons,map_cons];exact get_mid3 (by rw[length_map])
 have r2:((A++mkL 800 a::mkL 801 b::B).map LE.row)[0+((A.length:Nat):Int).toNat]? = some [.arr 800 41 2 0 a.length]:=by
  rw[show 0+((A.length:Nat):Int).toNat=A.length by omega,map_append,map_cons,map_cons];exact get_mid2 (by rw[length_map])
 have r3:((b.map PairD.c).map (List.map D.c))[0+Int.toNat 0]? = some ((b[0]'hb.1).c.map D.c):=by
  rw[show 0+Int.toNat 0=0 from rfl,List.getElem?_map,List.getElem?_map,List.getElem?_eq_getElem hb.1];rfl
 have r4:∀r,(((A++mkL 800 a::mkL 801 b::B).map LE.row).set (0+((A.length:Nat):Int).toNat) r)[0+((A.length+1:Nat):Int).toNat]? = some [.arr 801 41 2 0 b.length]:=fun r=>by
  rw[List.getElem?_set_ne (by omega)];exact r1
 have n2:(a.length+1)*24<=140737488355328:=by omega
 ((conv=>whnf);repeat' ((first|(with_reducible first|apply a_|apply b_|apply c_)|((with_reducible first|apply d_|apply e_|apply f_|apply g_|apply h_);first|omega|simp only[q_]<;>omega)|((with_reducible apply i_);first|omega|simp only[q_]<;>omega)|((with_reducible apply h_);first|decide|kernel_rfl)|refine s_ (by decide) ?_|refine t_ (by decide) ?_|(first|refine Row.mk _ r1 ?_|refine Row.mk _ r2 ?_|refine Row.mk _ r3 ?_|refine Need.by1 24 rfl n2 ?_|refine Row.mk _ (r4 _) ?_)|with_reducible first|apply l_|apply m_|apply n_|apply o_|refine p_ (fun _=>?_) (fun _=>?_))<;>conv=>whnf));have hR:=nm_fam hnAB;have look:∀q∈famT (A++B) us,hpL ([(FK,.box 43 [.arr FK1 44 1 0 (A.length+2+B.length),.arr FK2 61 1 0 us.length]),(FK1,.darr 44 1 ((A++mkL 800 a::mkL 801 b::B).map LE.row)),(FK2,.darr 61 1 (us.map urow)),(800,leafH a),(801,leafH b)]++famT (A++B) us) q.1=some q.2:=fun q hq=>hR.past rfl hq;obtain⟨b0,b',rfl⟩:∃b0 b',b=b0::b':=by
  cases b with
  | nil=>simp at hb|cons x y=>exact⟨x,y,rfl⟩
 refine ret_two hn h5 (by decide) (mkL 5000 (a++[b0])) ⟨5001,1,b'.length,b0::b'⟩ FK1 FK2 76 801 rfl rfl rfl rfl (has_of ?_ ?_ rfl (fun e he=>?_) (fun p hp=>?_))
 ·rw[show ∀x y:LE,(A++x::y::B).length=A.length+2+B.length from fun x y=>by rw[length_append,length_cons,length_cons];omega];rfl
 ·refine congrArg (fun r=>some (HB.darr 44 1 r)) ?_;rw[map_append,map_append,map_cons,map_cons,map_cons,map_cons];rw[show 0+((A.length:Nat):Int).toNat=A.length by omega,show 0+((A.length+1:Nat):Int).toNat=A.length+1 by omega];rw[set_mid2 (by rw[length_map]),set_mid3 (by rw[length_map])];refine congrArg (fun z=>A.map LE.row++z) ?_;show [D.arr 76 _ 2 0 (a.length+1)]::[D.arr 801 _ 2 1 (((b'.length+1:Nat):Int).toNat - 1)]::_=[D.arr 76 _ 2 0 (a++[b0]).length]::[D.arr 801 _ 2 1 b'.length]::_;rw[length_append,show ((b'.length+1:Nat):Int).toNat - 1=b'.length by omega];rfl
 ·have he':e=(⟨76,0,(a++[b0]).length,a++[b0]⟩:LE)\/e=(⟨801,1,b'.length,b0::b'⟩:LE)\/e∈A++B:=by
   simp only[mem_append,mem_cons] at he ⊢;rcases he with h | h | h | h
   ·exact .inr (.inr (.inl h))
   ·exact .inl h
   ·exact .inr (.inl h)
   ·exact .inr (.inr (.inr h))
  rcases he' with rfl | rfl | he
  ·refine (leaf_eq ?_:_);rw[take_of_length_le (by rw[length_map,length_map];exact Nat.le_refl _)];show _=((a++[b0]).map PairD.c).map (List.map D.c);rw[map_append,map_append];rfl
  ·rfl
  ·have hm:e.fam∈famT (A++B) us:=mem_append_left _ (mem_map.2 ⟨e,he,rfl⟩);have hb:=(hR.keys e.fam hm).1;repeat refine app_fam rfl hb ?_
   exact look e.fam hm
 ·have hm:ufam p∈famT (A++B) us:=mem_append_right _ (mem_map.2 ⟨p,hp,rfl⟩);have hb:=(hR.keys (ufam p) hm).1;repeat refine app_fam rfl hb ?_
  exact look (ufam p) hm
end
section
open Go.RowKit K
open Tr
set_option maxHeartbeats 4000000 in
theorem s_hand0L (A B:List LE) (us:List UE) (k0 k1:Nat) (a b:List PairD) (x:PairD) (hn:NmT (A++mkL k0 (a++[x])::mkL k1 b::B) us) (h5:5000∉namesT (A++mkL k0 (a++[x])::mkL k1 b::B) us/\5001∉namesT (A++mkL k0 (a++[x])::mkL k1 b::B) us)
  (hel:A.length+2+B.length<=100) (hul:us.length<=20) (ha:a.length<=4) (hb:0<b.length/\b.length<=4) :
  CallS Try.prog 54 [.d (.ptr FK 0),pInt .i64 0,pInt .i64 A.length,pInt .i64 ((A.length+1:Nat):Int)] [] (tIn (A++mkL k0 (a++[x])::mkL k1 b::B) us) (.tup [])
   (tOut (A++(⟨5000,0,a.length,a++[x]⟩:LE)::mkL 5001 (x::b)::B) us):=by
 obtain⟨a',ha'⟩:∃a',a'=a++[x]:=⟨_,rfl⟩;have hal:a'.length=a.length+1:=by rw[ha',length_append];rfl
 have hax:a'[a.length]'(by omega)=x:=by simp[ha']
 rw[<- ha'] at hn h5 ⊢;have hAB:(A++B).Sublist (A++mkL k0 a'::mkL k1 b::B):=(List.Sublist.refl A).append ((sublist_cons_self _ _).trans (sublist_cons_self _ _));have hnAB:NmT (A++B) us:=nm_sub hn hAB (List.Sublist.refl _);refine callS_sem Try.func54 (by rfl) rfl (by kernel_rfl) (by rfl) ([FK,FK1,FK2]++namesT (A++mkL k0 a'::mkL k1 b::B) us) (fun k hk=>by rw[nil_append,tIn_keys] at hk;exact hk) ?_;refine Smc.cut (le:=[(0,.d (.ptr FK 0)),(1,pInt .i64 0),(2,pInt .i64 A.length),(3,pInt .i64 ((A.length+1:Nat):Int))]) (m:=ksF (ks2 k0 k1)) (wk_two hn (A.length+2+B.length) rfl ⟨⟨rfl,rfl,rfl⟩,.inl rfl,.inl rfl,.inl rfl,trivial⟩) ?_;refine Smc.of rfl ?_;have r1:((A++mkL 800 a'::mkL 801 b::B).map LE.row)[0+((A.length+1:Nat):Int).toNat]? = some [.arr 801 41 2 0 b.length]:=by
  rw[show 0+((A.length+1:Nat):Int).toNat=A.length+1 by omega,map_append,map_cons,map_cons];exact get_mid3 (by rw[length_map])
 have r2:((A++mkL 800 a'::mkL 801 b::B).map LE.row)[0+((A.length:Nat):Int).toNat]? = some [.arr 800 41 2 0 a'.length]:=by
  rw[show 0+((A.length:Nat):Int).toNat=A.length by omega,map_append,map_cons,map_cons];exact get_mid2 (by rw[length_map])
 have r3:((a'.map PairD.c).map (List.map D.c))[0+(((a'.length:Nat):Int) - 1).toNat]? = some (x.c.map D.c):=by
  rw[show 0+(((a'.length:Nat):Int) - 1).toNat=a.length by omega,List.getElem?_map,List.getElem?_map,List.getElem?_eq_getElem (by omega),hax];rfl
 have r4:∀r,(((A++mkL 800 a'::mkL 801 b::B).map LE.row).set (0+((A.length+1:Nat):Int).toNat) r)[0+((A.length:Nat):Int).toNat]? = some [.arr 800 41 2 0 a'.length]:=fun r=>by
  rw[List.getElem?_set_ne (by omega)];exact r2
 have hrl:((b.map PairD.c).map (List.map D.c)).length=b.length:=by rw[length_map,length_map]
 have si:=s_ins_pair ((b.map PairD.c).map (List.map D.c)) 0 (zero_le _) (by rw[hrl];omega) (by rw[hrl];omega) (hon_cs _ _ _ _) (x.c.map D.c) (hon_cs _ _ _ [x.c]) [] Fam.nil;rw[hrl] at si;((conv=>whnf);repeat' ((first|(with_reducible first|apply a_|apply b_|apply c_)|((with_reducible first|apply d_|apply e_|apply f_|apply g_|apply h_);first|omega|simp only[q_]<;>omega)|((with_reducible apply i_);first|omega|simp only[q_]<;>omega)|((with_reducible apply h_);first|decide|kernel_rfl)|refine s_ (by decide) ?_|refine t_ (by decide) ?_|(first|refine Row.mk _ r1 ?_|refine Row.mk _ r2 ?_|refine Row.mk _ r3 ?_|refine EmpOr.emp ?_|refine Row.mk _ (r4 _) ?_)|with_reducible first|apply l_|apply m_|apply n_|apply o_|refine p_ (fun _=>?_) (fun _=>?_))<;>conv=>whnf));refine call_cs [(FK,801),(FK1,100),(NK,101)] si rfl rfl rfl rfl rfl (fun q hq=>?_) (fun y hy=>?_) (show NK∈[FK,FK1,NK] by decide) rfl (fun q hq=>?_) ?_
 ·simp only[cons_append,nil_append,mem_cons,not_mem_nil,or_false] at hq;rcases hq with rfl | rfl | rfl
  ·exact hon_cs _ _ _ _
  ·exact hon_cs _ _ _ [x.c]
  ·exact hon_put (hon_cs _ 41 2 _) (hon_cs _ _ _ [x.c])
 ·simp only[mem_cons,not_mem_nil,or_false] at hy;rcases hy with rfl | rfl | rfl
  ·show FK∈_;decide
  ·trivial
  ·show FK1∈_;decide
 ·simp only[mem_cons,not_mem_nil,or_false] at hq;rcases hq with rfl | rfl<;>rfl
 ((conv=>whnf);repeat' ((first|(with_reducible first|apply a_|apply b_|apply c_)|((with_reducible first|apply d_|apply e_|apply f_|apply g_|apply h_);first|omega|simp only[q_]<;>omega)|((with_reducible apply i_);first|omega|simp only[q_]<;>omega)|((with_reducible apply h_);first|decide|kernel_rfl)|refine s_ (by decide) ?_|refine t_ (by decide) ?_|(first|refine Row.mk _ r1 ?_|refine Row.mk _ r2 ?_|refine Row.mk _ (r4 _) ?_)|with_reducible first|apply l_|apply m_|apply n_|apply o_|refine p_ (fun _=>?_) (fun _=>?_))<;>conv=>whnf));have hR:=nm_fam hnAB;have look:∀q∈famT (A++B) us,hpL ([(FK,.box 43 [.arr FK1 44 1 0 (A.length+2+B.length),.arr FK2 61 1 0 us.length]),(FK1,.darr 44 1 ((A++mkL 800 a'::mkL 801 b::B).map LE.row)),(FK2,.darr 61 1 (us.map urow)),(800,leafH a'),(801,leafH b)]++famT (A++B) us) q.1=some q.2:=fun q hq=>hR.past rfl hq;refine ret_two hn h5 (by decide) ⟨5000,0,a.length,a'⟩ (mkL 5001 (x::b)) FK1 FK2 800 101 rfl rfl rfl rfl (has_of ?_ ?_ rfl (fun e he=>?_) (fun p hp=>?_))
 ·rw[show ∀x y:LE,(A++x::y::B).length=A.length+2+B.length from fun x y=>by rw[length_append,length_cons,length_cons];omega];rfl
 ·refine congrArg (fun r=>some (HB.darr 44 1 r)) ?_;rw[map_append,map_append,map_cons,map_cons,map_cons,map_cons];rw[show 0+((A.length:Nat):Int).toNat=A.length by omega,show 0+((A.length+1:Nat):Int).toNat=A.length+1 by omega];rw[set_mid3 (by rw[length_map]),set_mid2 (by rw[length_map])];refine congrArg (fun z=>A.map LE.row++z) ?_;show [D.arr 800 _ 2 0 (((a'.length:Nat):Int) - 1).toNat]::[D.arr 101 _ 2 0 (b.length+1)]::_=[D.arr 800 _ 2 0 a.length]::[D.arr 101 _ 2 0 (x::b).length]::_;rw[show (((a'.length:Nat):Int) - 1).toNat=a.length by omega];rfl
 ·have he':e=(⟨800,0,a.length,a'⟩:LE)\/e=(⟨101,0,(x::b).length,x::b⟩:LE)\/e∈A++B:=by
   simp only[mem_append,mem_cons] at he ⊢;rcases he with h | h | h | h
   ·exact .inr (.inr (.inl h))
   ·exact .inl h
   ·exact .inr (.inl h)
   ·exact .inr (.inr (.inr h))
  rcases he' with rfl | rfl | he
  ·rfl
  ·rfl
  ·have hm:e.fam∈famT (A++B) us:=mem_append_left _ (mem_map.2 ⟨e,he,rfl⟩);have hb:=(hR.keys e.fam hm).1;repeat refine app_fam rfl hb ?_
   exact look e.fam hm
 ·have hm:ufam p∈famT (A++B) us:=mem_append_right _ (mem_map.2 ⟨p,hp,rfl⟩);have hb:=(hR.keys (ufam p) hm).1;repeat refine app_fam rfl hb ?_
  exact look (ufam p) hm
end
section
open Go.RowKit K
open Tr
namespace Tr
theorem ret_one {A B:List LE} {us:List UE} {k0 k1:Nat} {a b:List PairD} (hn:NmT (A++mkL k0 a::mkL k1 b::B) us) (h5:5000∉namesT (A++mkL k0 a::mkL k1 b::B) us) (ht:5000∈nT)
  (e0:LE) (l u y0:Nat) (hd:nd [FK,l,u,y0]=true) (hf:[FK,l,u,y0].all farK=true) (q0:e0.k=5000)
  {h:Hp} (hh:Has h FK l u (A++(⟨y0,e0.lo,e0.n,e0.a⟩:LE)::B) us):RetS ([FK,FK1,FK2]++namesT (A++mkL k0 a::mkL k1 b::B) us) h (.tup []) (tOut (A++e0::B) us) (.tup []):=by
 have hAB:(A++B).Sublist (A++mkL k0 a::mkL k1 b::B):=(List.Sublist.refl A).append ((sublist_cons_self _ _).trans (sublist_cons_self _ _));have hnAB:NmT (A++B) us:=nm_sub hn hAB (List.Sublist.refl _);have hsub:∀k∈namesT (A++B) us,k∈namesT (A++mkL k0 a::mkL k1 b::B) us:=fun k hk=>by
  simp only[namesT,mem_append,map_append,map_cons,mem_cons] at hk ⊢;rcases hk with (h | h) | h
  ·exact .inl (.inl h)
  ·exact .inl (.inr (.inr (.inr h)))
  ·exact .inr h
 obtain⟨G,hG⟩:∃G,G=Fl [(NK1,l),(NK2,u),(5000,y0)]:=⟨_,rfl⟩;have G1:G NK1=l:=by rw[hG];exact Fl_hit
 have G2:G NK2=u:=by rw[hG,Fl_skip (by decide)];exact Fl_hit
 have G3:G 5000=y0:=by rw[hG,Fl_skip (by decide),Fl_skip (by decide)];exact Fl_hit
 have GN:∀k,k≠NK1->k≠NK2->k≠5000->G k=k:=fun k h1 h2 h3=>by
  rw[hG];refine Fl_no fun p hp=>?_;simp only[mem_cons,not_mem_nil,or_false] at hp;rcases hp with rfl | rfl | rfl
  ·exact fun e=>h1 e.symm
  ·exact fun e=>h2 e.symm
  ·exact fun e=>h3 e.symm
 have GnT:∀k∈nT,k≠5000->G k=k:=fun k hk h3=>by
  have:=nT_big k hk;exact GN k (by show _≠2000001;omega) (by show _≠2000002;omega) h3
 have GF:∀k,k=FK\/k=FK1\/k=FK2->G k=k:=fun k hk=>by
  have hk:k=1000000\/k=1000001\/k=1000002:=hk;exact GN k (by show _≠2000001;omega) (by show _≠2000002;omega) (by omega)
 have Gi:∀k∈namesT (A++mkL k0 a::mkL k1 b::B) us,G k=k:=fun k hk=>GnT k (hn.inn k hk) (fun e=>h5 (by rw[<- e];exact hk));have gA:∀L:List LE,L.Sublist (A++B)->L.map (LE.mv G)=L:=fun L hL=>mv_same fun e he=>Gi _ (hsub _ (mem_append_left _ (mem_map.2 ⟨e,hL.subset he,rfl⟩)));have gu:us.map (umv G)=us:=umv_same fun p hp=>Gi _ (mem_append_right _ (mem_map.2 ⟨p,hp,rfl⟩));have ge:(A++e0::B).map (LE.mv G)=A++(⟨y0,e0.lo,e0.n,e0.a⟩:LE)::B:=by
  rw[map_append,map_cons,gA A (sublist_append_left _ _),gA B (sublist_append_right _ _)];show A++(⟨G e0.k,_,_,_⟩:LE)::B=_;rw[q0,G3]
 refine ret_has ([FK,FK1,FK2,NK1,NK2]++nT) G (GF _ (.inl rfl)) (us:=us) ?o1 (fun k hk=>?o2) (fun k hk=>?o3) ?o4 rfl
 case o1=>rw[ge,gu,G1,G2];exact hh
 case o2=>
  rcases mem_append.1 hk with hk | hk
  ·simp only[mem_cons,not_mem_nil,or_false] at hk;exact⟨mem_append_left _ (by rcases hk with rfl | rfl | rfl<;>simp),GF k hk⟩
  ·exact⟨mem_append_right _ (hn.inn k hk),Gi k hk⟩
 case o3=>
  rcases mem_append.1 hk with hk | hk
  ·refine mem_append_left _ ?_;simp only[mem_cons,not_mem_nil,or_false] at hk ⊢;rcases hk with rfl | rfl | rfl<;>simp
  ·refine mem_append_right _ ?_;simp only[namesT,mem_append,map_append,map_cons,mem_cons] at hk;rcases hk with (h | h | h) | h
   ·exact hnAB.inn k (by simp only[namesT,mem_append,map_append];exact .inl (.inl h))
   ·rw[h,q0];exact ht
   ·exact hnAB.inn k (by simp only[namesT,mem_append,map_append];exact .inl (.inr h))
   ·exact hnAB.inn k (by simp only[namesT,mem_append,map_append];exact .inr h)
 case o4=>
  rw[<- names_mv,ge,gu,G1,G2];refine nd_perm (lits:=[FK,l,u,y0]) (names:=namesT (A++B) us) (perm_iff_count.2 fun q=>?_) hd hf hnAB.nd hnAB.inn;simp only[namesT,count_append,map_append,map_cons,map_nil,count_cons,count_nil];omega
end Tr
set_option maxHeartbeats 4000000 in
theorem s_join0 (A B:List LE) (us:List UE) (k0 k1:Nat) (a b:List PairD) (hn:NmT (A++mkL k0 a::mkL k1 b::B) us) (h5:5000∉namesT (A++mkL k0 a::mkL k1 b::B) us)
  (hel:A.length+2+B.length<=100) (hul:us.length<=20) (ha:a.length<=4) (hb:0<b.length/\b.length<=4) :
  CallS Try.prog 55 [.d (.ptr FK 0),pInt .i64 0,pInt .i64 A.length] [] (tIn (A++mkL k0 a::mkL k1 b::B) us) (.tup [])
   (tOut (A++mkL 5000 (a++b)::B) us):=by
 have hAB:(A++B).Sublist (A++mkL k0 a::mkL k1 b::B):=(List.Sublist.refl A).append ((sublist_cons_self _ _).trans (sublist_cons_self _ _));have hnAB:NmT (A++B) us:=nm_sub hn hAB (List.Sublist.refl _);refine callS_sem Try.func55 (by rfl) rfl (by kernel_rfl) (by rfl) ([FK,FK1,FK2]++namesT (A++mkL k0 a::mkL k1 b::B) us) (fun k hk=>by rw[nil_append,tIn_keys] at hk;exact hk) ?_;refine Smc.cut (le:=[(0,.d (.ptr FK 0)),(1,pInt .i64 0),(2,pInt .i64 A.length)]) (m:=ksF (ks2 k0 k1)) (wk_two hn (A.length+2+B.length) rfl ⟨⟨rfl,rfl,rfl⟩,.inl rfl,.inl rfl,trivial⟩) ?_;refine Smc.of rfl ?_;have r1:((A++mkL 800 a::mkL 801 b::B).map LE.row)[0+(((A.length:Nat):Int)+1).toNat]? = some [.arr 801 41 2 0 b.length]:=by
  rw[show 0+(((A.length:Nat):Int)+1).toNat=A.length+1 by omega,map_append,map_cons,map_cons];exact get_mid3 (by rw[length_map])
 have r2:((A++mkL 800 a::mkL 801 b::B).map LE.row)[0+((A.length:Nat):Int).toNat]? = some [.arr 800 41 2 0 a.length]:=by
  rw[show 0+((A.length:Nat):Int).toNat=A.length by omega,map_append,map_cons,map_cons];exact get_mid2 (by rw[length_map])
 have q1:a.length<=((a.map PairD.c).map (List.map D.c)).length:=by rw[length_map,length_map];exact Nat.le_refl _
 have q2:0+b.length<=((b.map PairD.c).map (List.map D.c)).length:=by rw[length_map,length_map,zero_add];exact Nat.le_refl _
 have n2:(a.length+b.length)*24<=140737488355328:=by omega
 ((conv=>whnf);repeat' ((first|(with_reducible first|apply a_|apply b_|apply c_)|((with_reducible first|apply d_|apply e_|apply f_|apply g_|apply h_);first|omega|simp only[q_]<;>omega)|((with_reducible apply i_);first|omega|simp only[q_]<;>omega)|((with_reducible apply h_);first|decide|kernel_rfl)|refine s_ (by decide) ?_|refine t_ (by decide) ?_|(first|refine Row.mk _ r1 ?_|refine Row.mk _ r2 ?_|refine Need.by4 24 rfl ⟨hb.1,q1,q2,n2⟩ ?_)|with_reducible first|apply l_|apply m_|apply n_|apply o_|refine p_ (fun _=>?_) (fun _=>?_))<;>conv=>whnf));obtain⟨esR,hesR⟩:∃esR,esR=A++mkL 5000 (a++b)::mkL k1 b::B:=⟨_,rfl⟩;obtain⟨es,hes⟩:∃es,es=A++mkL k0 a::mkL k1 b::B:=⟨_,rfl⟩;have hk1:k1∈namesT es us:=mem_append_left _ (by rw[hes,map_append];exact mem_append_right _ (mem_cons_of_mem _ mem_cons_self));rw[<- hes] at hn h5;have hk1n:k1∉namesT (A++B) us:=by
  have hp:(namesT es us).Perm (k1::k0::namesT (A++B) us):=perm_iff_count.2 fun x=>by
   rw[hes];simp only[namesT,count_append,map_append,map_cons,count_cons,mkL_k];omega
  exact fun h=>(nodup_cons.1 (hp.nodup_iff.1 hn.nd)).1 (mem_cons_of_mem _ h)
 have nAB:∀k∈namesT (A++B) us,k∈namesT es us:=fun k hk=>by
  rw[hes];rcases mem_append.1 hk with hk | hk
  ·exact mem_append_left _ (List.Sublist.subset (hAB.map LE.k) hk)
  ·exact mem_append_right _ hk
 have hnR:NmT esR []:=by
  have hp:(namesT esR []).Perm (5000::k1::namesT (A++B) []):=perm_iff_count.2 fun x=>by
   rw[hesR];simp only[namesT,count_append,map_append,map_cons,count_cons,mkL_k];omega
  have hsub:∀k∈namesT (A++B) ([]:List UE),k∈namesT (A++B) us:=fun k hk=>by
   rcases mem_append.1 hk with hk | hk
   ·exact mem_append_left _ hk
   ·cases hk
  have hnAB0:NmT (A++B) []:=nm_sub hnAB (List.Sublist.refl _) (nil_sublist _);refine⟨hp.nodup_iff.2 (nodup_cons.2 ⟨fun hm=>?_,nodup_cons.2 ⟨fun hm=>hk1n (hsub _ hm),hnAB0.nd⟩⟩),fun k hk=>?_⟩
  ·rcases mem_cons.1 hm with e | hm
   ·exact h5 (by rw[e];exact hk1)
   ·exact h5 (nAB _ (hsub _ hm))
  ·rcases mem_cons.1 (hp.subset hk) with rfl | hk
   ·exact (by decide:5000∈nT)
   ·rcases mem_cons.1 hk with rfl | hk
    ·exact hn.inn _ hk1
    ·exact hnAB0.inn k hk
 have hRl:(esR.map LE.row).length=A.length+2+B.length:=by rw[length_map,hesR,length_append,length_cons,length_cons];omega
 have sd:=s_del_leaf (esR.map LE.row) (A.length+1) (by rw[hRl];omega) (by rw[hRl];omega) (fun r hr x hx=>on_imp (fun k hk=>hnR.inn k hk) (row_on esR [] r hr x hx)) (famT esR []) (nm_fam hnR);obtain⟨F,hF⟩:∃F,F=Fl [(FK,FK1),(NK,44),(5000,32),(k1,801)]:=⟨_,rfl⟩;have hk1T:=hn.inn k1 hk1;have hk1b:=nT_big k1 hk1T;have k15:k1≠5000:=fun e=>h5 (by rw[<- e];exact hk1);have FK_:F FK=FK1:=by rw[hF];rfl
 have NK_:F NK=44:=by rw[hF];rfl
 have F5:F 5000=32:=by rw[hF];rfl
 have F1:F k1=801:=by rw[hF,Fl_skip (by show k1≠1000000;omega),Fl_skip (by show k1≠2000000;omega),Fl_skip k15];exact Fl_hit
 have FN:∀k∈namesT (A++B) us,F k=k:=fun k hk=>by
  have hb:=nT_big k (hnAB.inn k hk);rw[hF];refine Fl_no fun p hp=>?_;simp only[mem_cons,not_mem_nil,or_false] at hp;rcases hp with rfl | rfl | rfl | rfl
  ·show 1000000≠k;omega
  ·show 2000000≠k;omega
  ·exact fun e=>h5 (by rw[show 5000=k from e];exact nAB k hk)
  ·exact fun e=>hk1n (by rw[show k1=k from e];exact hk)
 have eA:A.map (LE.mv F)=A:=mv_same fun e he=>FN _ (mem_append_left _ (mem_map.2 ⟨e,mem_append_left _ he,rfl⟩));have eB:B.map (LE.mv F)=B:=mv_same fun e he=>FN _ (mem_append_left _ (mem_map.2 ⟨e,mem_append_right _ he,rfl⟩));have ees:esR.map (LE.mv F)=A++mkL 32 (a++b)::mkL 801 b::B:=by
  rw[hesR,map_append,map_cons,map_cons,eA,eB];show A++(⟨F 5000,0,(a++b).length,a++b⟩:LE)::(⟨F k1,0,b.length,b⟩:LE)::B=_;rw[F5,F1];rfl
 have hR:=nm_fam hnAB;have look:∀q∈famT (A++B) us,hpL ([(FK,.box 43 [.arr FK1 44 1 0 (A.length+2+B.length),.arr FK2 61 1 0 us.length]),(FK1,.darr 44 1 ((A++mkL 800 a::mkL 801 b::B).map LE.row)),(FK2,.darr 61 1 (us.map urow)),(800,leafH a),(801,leafH b)]++famT (A++B) us) q.1=some q.2:=fun q hq=>hR.past rfl hq;have hRk:(famT esR []).map Prod.fst=esR.map LE.k:=by
  rw[famT_keys];show esR.map LE.k++[]=_;rw[List.append_nil]
 have hRin:∀k∈(famT esR []).map Prod.fst,k∈nT:=(nm_fam hnR).key;have hRnd:((famT esR []).map Prod.fst).Nodup:=by rw[famT_keys];exact hnR.nd
 have farn:∀k∈(famT esR []).map Prod.fst,∀x∈[FK,NK],k≠x:=fun k hk x hx e=>by
  subst e;exact farK_out (apart_far (l:=[FK,NK]) rfl k hx) (hRin k hk)
 have hon1:hon (·∈[FK,NK]++(famT esR []).map Prod.fst) (.darr 44 1 (esR.map LE.row)):=fun r hr x hx=>on_imp (fun k hk=>by
  rw[hRk];rcases mem_append.1 hk with hk | hk
  ·exact mem_append_right _ hk
  ·cases hk) (row_on esR [] r hr x hx)
 refine call_mp F sd ?d1 ?d2 ([FK,NK]++(famT esR []).map Prod.fst) (fun k=>?kk) (map_nd_inj ?inj) (fun q hq=>?hon) (fun x hx=>?hao) (show NK∈_ by simp) ?ha (fun q hq=>?hh) ?_
 case d1=>
  rw[map_append];exact nodup_append.2 ⟨hRnd,(show [FK].Nodup by decide),fun x hx y hy e=>farn x hx y (by
   have hy:y∈[FK]:=hy;simp only[mem_cons,not_mem_nil,or_false] at hy ⊢;exact .inl hy) e⟩
 case d2=>
  rw[map_append];exact nodup_append.2 ⟨hRnd,(show [NK].Nodup by decide),fun x hx y hy e=>farn x hx y (by
   have hy:y∈[NK]:=hy;simp only[mem_cons,not_mem_nil,or_false] at hy ⊢;exact .inr hy) e⟩
 case kk=>
  rw[map_append];simp only[mem_append,map_cons,map_nil,map_append,mem_cons,not_mem_nil,or_false];constructor
  ·rintro ((h | h) | h)
   ·exact .inr (.inl h)
   ·exact .inr (.inr h)
   ·exact .inl h
  ·rintro (h | h | h)
   ·exact .inr h
   ·exact .inl (.inl h)
   ·exact .inl (.inr h)
 case inj=>
  rw[map_append,hRk];have hm:(esR.map LE.k).map F=(A++mkL 32 (a++b)::mkL 801 b::B).map LE.k:=by
   rw[<- ees,map_map,map_map];rfl
  rw[hm];show ([F FK,F NK]++_).Nodup;rw[FK_,NK_];refine nd_perm (lits:=[FK1,44,32,801]) (names:=namesT (A++B) []) (perm_iff_count.2 fun x=>?_) rfl rfl (nm_sub hnAB (List.Sublist.refl _) (nil_sublist _)).nd (nm_sub hnAB (List.Sublist.refl _) (nil_sublist _)).inn;simp only[namesT,count_append,map_append,map_cons,map_nil,count_cons,count_nil,mkL_k];omega
 case hon=>
  rcases mem_append.1 hq with hq | hq
  ·exact hon_imp (fun k (hk:False)=>hk.elim) (famT_no esR [] q hq)
  ·simp only[cons_append,nil_append,mem_cons,not_mem_nil,or_false] at hq;rcases hq with rfl | rfl
   ·exact hon1
   ·exact hon_sub hon1 del_sub
 case hao=>
  simp only[mem_cons,not_mem_nil,or_false] at hx;rcases hx with rfl | rfl | rfl
  ·show FK∈_;simp
  ·trivial
  ·trivial
 case ha=>
  show [PV.d (.arr (F FK) _ 1 0 _),_,_]=_;rw[FK_,hRl];rfl
 case hh=>
  rcases mem_append.1 hq with hq | hq
  ·rcases mem_append.1 hq with hq | hq
   ·obtain⟨e,he,rfl⟩:=mem_map.1 hq;show _=some (hmp F (leafH e.a));rw[hmp_leaf];show _=some (leafH e.a);rw[hesR] at he;have hcase:e∈A++B\/e=mkL 5000 (a++b)\/e=mkL k1 b:=by
     simp only[mem_append,mem_cons] at he ⊢;rcases he with h | h | h | h
     ·exact .inl (.inl h)
     ·exact .inr (.inl h)
     ·exact .inr (.inr h)
     ·exact .inl (.inr h)
    rcases hcase with he | rfl | rfl
    ·have hm:e.fam∈famT (A++B) us:=mem_append_left _ (mem_map.2 ⟨e,he,rfl⟩);have hb:=(hR.keys e.fam hm).1;show _=_;have hFe:F e.fam.1=e.k:=FN _ (mem_append_left _ (mem_map.2 ⟨e,he,rfl⟩));rw[hFe];repeat refine app_fam rfl hb ?_
     exact look e.fam hm
    ·rw[show (mkL 5000 (a++b)).fam.1=5000 from rfl,F5];refine (leaf_eq ?_:_);show ((a.map PairD.c).map (List.map D.c)).take a.length++(((b.map PairD.c).map (List.map D.c)).drop 0).take b.length=((a++b).map PairD.c).map (List.map D.c);rw[drop_zero,take_of_length_le (by rw[length_map,length_map];exact Nat.le_refl _),take_of_length_le (by rw[length_map,length_map];exact Nat.le_refl _),map_append,map_append]
    ·rw[show (mkL k1 b).fam.1=k1 from rfl,F1];rfl
   ·cases hq
  ·simp only[cons_append,nil_append,mem_cons,not_mem_nil,or_false] at hq;subst hq;show _=some (HB.darr 44 1 ((esR.map LE.row).map (List.map (mp F))));rw[row_mv,ees];show _=_;rw[FK_];refine congrArg (fun r=>some (HB.darr 44 1 r)) ?_;rw[map_append,map_append,map_cons,map_cons,map_cons,map_cons,show 0+((A.length:Nat):Int).toNat=A.length by omega,set_mid2 (by rw[length_map])];show _=A.map LE.row++[D.arr 32 _ 2 0 (a++b).length]::_;rw[length_append];rfl
 have e_rf:List.map (qmp F) [(FK,HB.darr 44 1 (esR.map LE.row))]=[(FK1,HB.darr 44 1 ((A++mkL 32 (a++b)::mkL 801 b::B).map LE.row))]:=by
  show [(F FK,HB.darr 44 1 ((esR.map LE.row).map (List.map (mp F))))]=_;rw[row_mv,ees,FK_]
 have e_out:List.map (qmp F) [(NK,HB.darr 44 1 ((esR.map LE.row).take (A.length+1)++(esR.map LE.row).drop (A.length+1+1)))]=[(44,HB.darr 44 1 ((A++mkL 32 (a++b)::B).map LE.row))]:=by
  show [(F NK,HB.darr 44 1 (((esR.map LE.row).take (A.length+1)++(esR.map LE.row).drop (A.length+1+1)).map (List.map (mp F))))]=_;rw[map_append,map_take,map_drop,row_mv,ees,NK_]
  congr 3
  rw[<- map_take,<- map_drop,<- map_append]
  congr 1
  rw[show A++mkL 32 (a++b)::mkL 801 b::B=(A++[mkL 32 (a++b)])++mkL 801 b::B by simp,take_left' (by simp),show (A++[mkL 32 (a++b)])++mkL 801 b::B=(A++[mkL 32 (a++b),mkL 801 b])++B by simp,drop_left' (by simp)];simp
 have e_res:pmp F (.d (.arr NK 44 1 0 ((esR.map LE.row).length - 1)))=.d (.arr 44 44 1 0 (A.length+1+B.length)):=by
  show PV.d (.arr (F NK) _ 1 0 _)=_;rw[NK_,hRl,show A.length+2+B.length - 1=A.length+1+B.length by omega]
 rw[e_rf,e_out,e_res];have NF:∀q:Rf,∀k∈q.map Prod.fst,rfHas k ((famT esR []).map (qmp F)++q)=true:=fun q k hk=>rfHas_of (by rw[map_append];exact mem_append_right _ hk);refine newP_of (fun p hp=>?_) ?_
 ·have hp:p∈[(FK1,none),(44,some _)]:=hp;simp only[mem_cons,not_mem_nil,or_false] at hp;rcases hp with rfl | rfl
  ·exact .inl (NF _ FK1 (by simp))
  ·exact .inr rfl
 ((conv=>whnf);repeat' ((first|(with_reducible first|apply a_|apply b_|apply c_)|((with_reducible first|apply d_|apply e_|apply f_|apply g_|apply h_);first|omega|simp only[q_]<;>omega)|((with_reducible apply i_);first|omega|simp only[q_]<;>omega)|((with_reducible apply h_);first|decide|kernel_rfl)|refine s_ (by decide) ?_|refine t_ (by decide) ?_|with_reducible first|apply l_|apply m_|apply n_|apply o_|refine p_ (fun _=>?_) (fun _=>?_))<;>conv=>whnf));rw[hes] at hn h5;refine ret_one hn h5 (by decide) (mkL 5000 (a++b)) 44 FK2 32 rfl rfl rfl (has_of ?_ rfl rfl (fun e he=>?_) (fun p hp=>?_))
 ·rw[show ∀x:LE,(A++x::B).length=A.length+1+B.length from fun x=>by rw[length_append,length_cons];omega];rfl
 ·have he':e=(⟨32,0,(a++b).length,a++b⟩:LE)\/e∈A++B:=by
   simp only[mem_append,mem_cons] at he ⊢;rcases he with h | h | h
   ·exact .inr (.inl h)
   ·exact .inl h
   ·exact .inr (.inr h)
  rcases he' with rfl | he
  ·refine (leaf_eq ?_:_);show ((a.map PairD.c).map (List.map D.c)).take a.length++(((b.map PairD.c).map (List.map D.c)).drop 0).take b.length=((a++b).map PairD.c).map (List.map D.c);rw[drop_zero,take_of_length_le (by rw[length_map,length_map];exact Nat.le_refl _),take_of_length_le (by rw[length_map,length_map];exact Nat.le_refl _),map_append,map_append]
  ·have hm:e.fam∈famT (A++B) us:=mem_append_left _ (mem_map.2 ⟨e,he,rfl⟩);have hb:=(hR.keys e.fam hm).1;repeat refine app_fam rfl hb ?_
   exact look e.fam hm
 ·have hm:ufam p∈famT (A++B) us:=mem_append_right _ (mem_map.2 ⟨p,hp,rfl⟩);have hb:=(hR.keys (ufam p) hm).1;repeat refine app_fam rfl hb ?_
  exact look (ufam p) hm
end
section
open Go.RowKit K
open Tr
namespace Tr
theorem two_of {α:Type} (l:List α) (m:Nat) (h:m+1<l.length):∃A B x y,l=A++x::y::B/\A.length=m:=
 ⟨l.take m,l.drop (m+2),l[m],l[m+1],by
  rw[<- List.drop_eq_getElem_cons,<- List.drop_eq_getElem_cons,take_append_drop],by rw[length_take];omega⟩
theorem val_two {A B:List LE} {k0 k1:Nat} {a b:List PairD}:(A++mkL k0 a::mkL k1 b::B).map LE.val=A.map LE.val++[a,b]++B.map LE.val:=by
 rw[map_append,map_cons,map_cons,mkL_val,mkL_val];simp
theorem nm_two {A B:List LE} {us:List UE} {x y:LE} {e0 e1:LE} (h:NmT (A++x::y::B) us) (q0:e0.k=5000) (q1:e1.k=5001) (h5:5000∉namesT (A++x::y::B) us/\5001∉namesT (A++x::y::B) us):NmT (A++e0::e1::B) us:=by
 have hAB:(A++B).Sublist (A++x::y::B):=(List.Sublist.refl A).append ((sublist_cons_self _ _).trans (sublist_cons_self _ _));have hn:=nm_sub h hAB (List.Sublist.refl us);have hs:∀k∈namesT (A++B) us,k∈namesT (A++x::y::B) us:=fun k hk=>by
  rcases mem_append.1 hk with hk | hk
  ·exact mem_append_left _ ((hAB.map LE.k).subset hk)
  ·exact mem_append_right _ hk
 have hp:(namesT (A++e0::e1::B) us).Perm (5000::5001::namesT (A++B) us):=perm_iff_count.2 fun z=>by
  simp only[namesT,count_append,map_append,map_cons,count_cons,q0,q1];omega
 refine⟨hp.nodup_iff.2 (nodup_cons.2 ⟨fun hm=>?_,nodup_cons.2 ⟨fun hm=>h5.2 (hs _ hm),hn.nd⟩⟩),fun k hk=>?_⟩
 ·rcases mem_cons.1 hm with e | hm
  ·cases e
  ·exact h5.1 (hs _ hm)
 ·rcases mem_cons.1 (hp.subset hk) with rfl | hk
  ·decide
  ·rcases mem_cons.1 hk with rfl | hk
   ·decide
   ·exact hn.inn k hk
theorem nm_one {A B:List LE} {us:List UE} {x y:LE} {e0:LE} (h:NmT (A++x::y::B) us) (q0:e0.k=5000) (h5:5000∉namesT (A++x::y::B) us):NmT (A++e0::B) us:=by
 have hAB:(A++B).Sublist (A++x::y::B):=(List.Sublist.refl A).append ((sublist_cons_self _ _).trans (sublist_cons_self _ _));have hn:=nm_sub h hAB (List.Sublist.refl us);have hs:∀k∈namesT (A++B) us,k∈namesT (A++x::y::B) us:=fun k hk=>by
  rcases mem_append.1 hk with hk | hk
  ·exact mem_append_left _ ((hAB.map LE.k).subset hk)
  ·exact mem_append_right _ hk
 have hp:(namesT (A++e0::B) us).Perm (5000::namesT (A++B) us):=perm_iff_count.2 fun z=>by
  simp only[namesT,count_append,map_append,map_cons,count_cons,q0];omega
 refine⟨hp.nodup_iff.2 (nodup_cons.2 ⟨fun hm=>h5 (hs _ hm),hn.nd⟩),fun k hk=>?_⟩;rcases mem_cons.1 (hp.subset hk) with rfl | hk
 ·decide
 ·exact hn.inn k hk
theorem out_two {A B:List LE} {us:List UE} {x y e0 e1:LE} {k:Nat} (hk:k∉namesT (A++x::y::B) us) (q0:e0.k≠k) (q1:e1.k≠k):k∉namesT (A++e0::e1::B) us:=fun hm=>hk (by
 simp only[namesT,mem_append,map_append,map_cons,mem_cons] at hm ⊢;rcases hm with (h | h | h | h) | h
 ·exact .inl (.inl h)
 ·exact absurd h.symm q0
 ·exact absurd h.symm q1
 ·exact .inl (.inr (.inr (.inr h)))
 ·exact .inr h)
theorem out_one {A B:List LE} {us us':List UE} {x y e0:LE} {k:Nat} (hk:k∉namesT (A++x::y::B) us) (q0:e0.k≠k) (hu:k∉us'.map Prod.fst):k∉namesT (A++e0::B) us':=fun hm=>hk (by
 simp only[namesT,mem_append,map_append,map_cons,mem_cons] at hm ⊢;rcases hm with (h | h | h) | h
 ·exact .inl (.inl h)
 ·exact absurd h.symm q0
 ·exact .inl (.inr (.inr (.inr h)))
 ·exact absurd h hu)
end Tr
theorem s_mend0 (at_:Nat) (es:List LE) (us:List UE) (hn:NmT es us) (hmk:∀e∈es,e=mkL e.k e.a) (hfr:∀i,i<=11->i+3000∉namesT es us) (h5:5000∉namesT es us/\5001∉namesT es us)
  (hul:us.length<=6) (hel:es.length<=64) (hat:at_<es.length) (hL:∀e∈es,1<=e.a.length/\e.a.length<=4) (hc:chainQ es.length us) :
  ∃esR usR,mendL (es.map LE.val) (us.map Prod.snd) at_=(esR.map LE.val,usR.map Prod.snd)/\NmT esR usR/\(∀e∈esR,e.ok)/\(∀k∈namesT esR usR,k∈namesT es us\/k=5000\/k=5001\/∃j,j<=11/\k=j+3000)/\
   CallS Try.prog 31 [.d (.ptr FK 0),pInt .i64 0,pInt .i64 at_] [] (tIn es us) (.tup []) (tOut esR usR):=by
 have hok:∀e∈es,e.ok:=fun e he=>by rw[hmk e he];exact (show 0+e.a.length<=e.a.length by omega)
 have hval:∀i (h:i<es.length),es[i].val=es[i].a:=fun i h=>by
  have:=hmk es[i] (List.getElem_mem h);rw[this];exact mkL_val _ _
 have hgd:∀i (h:i<es.length),(es.map LE.val).getD i []=es[i].a:=fun i h=>by
  rw[List.getD_eq_getElem?_getD,List.getElem?_map,List.getElem?_eq_getElem h,<- hval i h];rfl
 cases us with
 | nil=>
  have:=s_mendT0 at_ es (List.getElem?_eq_getElem hat) (by rw[hval _ hat];have:=hL _ (List.getElem_mem hat);omega) hn hok (by omega);exact⟨es,[],rfl,hn,hok,fun k hk=>.inl hk,this⟩
 | cons q Q=>
  obtain⟨k1,u⟩:=q;obtain⟨hu,hus,h64,hcQ⟩:=hc;have hat':at_<u.sum:=by omega
  have hu2:∀n∈u,2<=n:=fun n hn=>(hu n hn).1;obtain⟨s1,s2,s3⟩:=side_lt hu2 hat';have hu4:u.length<=64:=by have:=two_sum hu;omega
  have hx:3001∈nT:=in_new (k:=1) (by omega);have hxn:3001∉namesT es ((k1,u)::Q):=hfr 1 (by omega);have hQ:Q.length+1<=6:=hul;have gz:∀i,i<es.length->CallS Try.prog 53 [.d (.ptr FK 0),pInt .i64 (([]:List UE).length:Nat),pInt .i64 i] (tIn es ([]++(k1,u)::Q)) [] (pInt .i64 (((es.map LE.val).getD i []).length:Nat)) []:=fun i hi=>by
   have:=s_size0 hn hok i (List.getElem?_eq_getElem hi) (by rw[hval _ hi];have:=hL _ (List.getElem_mem hi);omega);rw[hval _ hi] at this;rw[hgd i hi];exact this
  by_cases c1:2<=((es.map LE.val).getD at_ []).length
  ·refine⟨es,(3001,u)::Q,?_,nm_ren (A:=[]) u hn hx hxn,hok,fun k hk=>?_,s_mendA es [] Q k1 u at_ 3001 (fun i=>((es.map LE.val).getD i []).length) hn hok hx hxn (by show 0+1+Q.length<=20;omega) (by omega) (gz at_ hat) c1⟩
   ·show mendL _ (u::Q.map Prod.snd) at_=_;rw[mendL,if_pos c1];rfl
   ·simp only[namesT,mem_append,map_cons,mem_cons] at hk ⊢;rcases hk with h | h | h
    ·exact .inl (.inl h)
    ·exact .inr (.inr (.inr ⟨1,by omega,h⟩))
    ·exact .inl (.inr (.inr h))
  ·have hsd:sideF u at_<es.length:=by omega
   have hsz:=gz at_ hat;have hsz2:=gz (sideF u at_) hsd;have hse:sideF u at_=at_+1\/(sideF u at_+1=at_):=by
    unfold sideF at s2 ⊢;by_cases e:at_+1=(u.take (nodeF u at_+1)).sum
    ·rw[if_pos e] at s2 ⊢;exact .inr (by omega)
    ·rw[if_neg e];exact .inl rfl
   obtain⟨m,hm⟩:∃m,m=min at_ (sideF u at_):=⟨_,rfl⟩;have hml:m+1<es.length:=by omega
   obtain⟨A,B,x,y,hes,hA⟩:=two_of es m hml;obtain⟨k0,a,rfl⟩:∃k0 a,x=mkL k0 a:=⟨_,_,hmk x (by rw[hes];simp)⟩;obtain⟨k2,b,rfl⟩:∃k2 b,y=mkL k2 b:=⟨_,_,hmk y (by rw[hes];simp)⟩;have ha:1<=a.length/\a.length<=4:=hL (mkL k0 a) (by rw[hes];simp);have hb:1<=b.length/\b.length<=4:=hL (mkL k2 b) (by rw[hes];simp);have hAm:(A.map LE.val).length=m:=by rw[length_map];exact hA
   have hlen:es.length=A.length+2+B.length:=by rw[hes,length_append,length_cons,length_cons];omega
   have hvals:es.map LE.val=A.map LE.val++[a,b]++B.map LE.val:=by rw[hes];exact val_two
   have hokAB:∀e∈A++B,e.ok:=fun e he=>hok e (by
    rw[hes];simp only[mem_append,mem_cons] at he ⊢;rcases he with h | h
    ·exact .inl h
    ·exact .inr (.inr (.inr h)))
   obtain⟨g1,g2⟩:=two_at (P:=A.map LE.val) (Q:=B.map LE.val) (x:=a) (s:=b) ([]:List PairD);rw[hAm] at g1 g2;rw[<- hvals] at g1 g2;have hsz':=hsz;have hn':=hn;have hxn':=hxn;have h5':=h5;rw[hes] at hn' hxn' h5';by_cases c2:2<((es.map LE.val).getD (sideF u at_) []).length
   ·rcases hse with hse | hse
    ·have hmat:m=at_:=by omega
     have hh:=s_hand0R A B ((k1,u)::Q) k0 k2 a b hn' h5' (by omega) (by show Q.length+1<=20;omega) (by omega) (by omega);rw[<- hes,show A.length+1=sideF u at_ by omega,show A.length=at_ by omega] at hh;have hnH:=nm_two (e0:=mkL 5000 (a++b.take 1)) (e1:=⟨5001,1,b.length - 1,b⟩) hn' rfl rfl h5';refine⟨A++mkL 5000 (a++b.take 1)::(⟨5001,1,b.length - 1,b⟩:LE)::B,(3001,u)::Q,?_,nm_ren (A:=[]) u hnH hx (out_two hxn' (show 5000≠3001 by decide) (show 5001≠3001 by decide)),fun e he=>?_,fun k hk=>?_,
      s_mendB es _ [] [] Q k1 u at_ 3001 (fun i=>((es.map LE.val).getD i []).length) hn hok hx hxn (by show 0+1+Q.length<=20;omega) (by omega) hu hu4 hat' (by omega) hsz c1 hsz2 c2 hnH (out_two hxn' (show 5000≠3001 by decide) (show 5001≠3001 by decide)) hh⟩
     ·show mendL _ (u::Q.map Prod.snd) at_=_;rw[mendL,if_neg c1,if_pos c2];unfold handL;rw[if_pos (by omega),hse,<- hmat,g1,g2,hvals,<- hAm,two_set1,two_set2];refine congrArg (fun z=>(z,u::Q.map Prod.snd)) ?_;rw[map_append,map_cons,map_cons,mkL_val,show LE.val ⟨5001,1,b.length - 1,b⟩=b.drop 1 from take_of_length_le (by rw[length_drop];exact Nat.le_refl _)];simp
     ·simp only[mem_append,mem_cons] at he;rcases he with h | rfl | rfl | h
      ·exact hokAB e (mem_append_left _ h)
      ·show 0+(a++b.take 1).length<=(a++b.take 1).length;omega
      ·show 1+(b.length - 1)<=b.length;omega
      ·exact hokAB e (mem_append_right _ h)
     ·rw[hes];simp only[namesT,mem_append,map_append,map_cons,mem_cons] at hk ⊢;rcases hk with (h | h | h | h) | h | h
      ·exact .inl (.inl (.inl h))
      ·exact .inr (.inl h)
      ·exact .inr (.inr (.inl h))
      ·exact .inl (.inl (.inr (.inr (.inr h))))
      ·exact .inr (.inr (.inr ⟨1,by omega,h⟩))
      ·exact .inl (.inr (.inr h))
    ·have hmat:m=sideF u at_:=by omega
     have hl2:2<a.length:=by rw[<- hmat,g1] at c2;exact c2
     obtain⟨a',z,rfl⟩:∃a' z,a=a'++[z]:=by
      refine⟨a.dropLast,a.getLast (length_pos_iff.1 (by omega)),(List.dropLast_concat_getLast _).symm⟩
     have hal:(a'++[z]).length=a'.length+1:=by rw[length_append];rfl
     have hh:=s_hand0L A B ((k1,u)::Q) k0 k2 a' b z hn' h5' (by omega) (by show Q.length+1<=20;omega) (by omega) (by omega);rw[<- hes,show A.length+1=at_ by omega,show A.length=sideF u at_ by omega] at hh;have hnH:=nm_two (e0:=⟨5000,0,a'.length,a'++[z]⟩) (e1:=mkL 5001 (z::b)) hn' rfl rfl h5';refine⟨A++(⟨5000,0,a'.length,a'++[z]⟩:LE)::mkL 5001 (z::b)::B,(3001,u)::Q,?_,nm_ren (A:=[]) u hnH hx (out_two hxn' (show 5000≠3001 by decide) (show 5001≠3001 by decide)),fun e he=>?_,fun k hk=>?_,
      s_mendB es _ [] [] Q k1 u at_ 3001 (fun i=>((es.map LE.val).getD i []).length) hn hok hx hxn (by show 0+1+Q.length<=20;omega) (by omega) hu hu4 hat' (by omega) hsz c1 hsz2 c2 hnH (out_two hxn' (show 5000≠3001 by decide) (show 5001≠3001 by decide)) hh⟩
     ·show mendL _ (u::Q.map Prod.snd) at_=_;rw[mendL,if_neg c1,if_pos c2];unfold handL;rw[if_neg (by omega),<- hmat,show at_=m+1 by omega,g1,g2,hvals,<- hAm,two_set2,two_set1];refine congrArg (fun z=>(z,u::Q.map Prod.snd)) ?_;rw[hal,Nat.add_sub_cancel,map_append,map_cons,map_cons,mkL_val,show LE.val ⟨5000,0,a'.length,a'++[z]⟩=a' from take_left' rfl,take_left' rfl,drop_left' rfl];simp
     ·simp only[mem_append,mem_cons] at he;rcases he with h | rfl | rfl | h
      ·exact hokAB e (mem_append_left _ h)
      ·show 0+a'.length<=(a'++[z]).length;omega
      ·show 0+(z::b).length<=(z::b).length;omega
      ·exact hokAB e (mem_append_right _ h)
     ·rw[hes];simp only[namesT,mem_append,map_append,map_cons,mem_cons] at hk ⊢;rcases hk with (h | h | h | h) | h | h
      ·exact .inl (.inl (.inl h))
      ·exact .inr (.inl h)
      ·exact .inr (.inr (.inl h))
      ·exact .inl (.inl (.inr (.inr (.inr h))))
      ·exact .inr (.inr (.inr ⟨1,by omega,h⟩))
      ·exact .inl (.inr (.inr h))
   ·have hj:=s_join0 A B ((k1,u)::Q) k0 k2 a b hn' h5'.1 (by omega) (by show Q.length+1<=20;omega) (by omega) (by omega);rw[<- hes,show A.length=min at_ (sideF u at_) by omega] at hj;have hnJ:=nm_one (e0:=mkL 5000 (a++b)) hn' rfl h5'.1;have hokJ:∀e∈A++mkL 5000 (a++b)::B,e.ok:=fun e he=>by
     simp only[mem_append,mem_cons] at he;rcases he with h | rfl | h
     ·exact hokAB e (mem_append_left _ h)
     ·show 0+(a++b).length<=(a++b).length;omega
     ·exact hokAB e (mem_append_right _ h)
    obtain⟨esJ,hesJ⟩:∃esJ,esJ=A++mkL 5000 (a++b)::B:=⟨_,rfl⟩;have hJval:esJ.map LE.val=joinL (es.map LE.val) m:=by
     unfold joinL;rw[g1,g2,hvals,<- hAm,two_set1,two_del,hesJ,map_append,map_cons,mkL_val];simp
    have hxJ:3001∉namesT esJ ((k1,u)::Q):=by
     rw[hesJ];refine out_one hxn' (show 5000≠3001 by decide) fun h=>hxn (mem_append_right _ h)
    rw[<- hesJ] at hj hnJ hokJ;obtain⟨n1,n2,n3⟩:=nodeF_spec u at_ hat';obtain⟨u',hu'⟩:∃u',u'=u.set (nodeF u at_) (u.getD (nodeF u at_) 0 - 1):=⟨_,rfl⟩;have hu'l:u'.length=u.length:=by rw[hu',length_set]
    have hn5:NmT esJ ([]++(3001,u')::Q):=nm_ren (A:=[]) u' hnJ hx hxJ;have hJn:∀k∈esJ.map LE.k,k=5000\/k∈es.map LE.k:=fun k hk=>by
     rw[hesJ] at hk;rw[hes];simp only[mem_append,map_append,map_cons,mem_cons] at hk ⊢;rcases hk with h | h | h
     ·exact .inr (.inl h)
     ·exact .inl h
     ·exact .inr (.inr (.inr (.inr h)))
    have hfr5:∀j,(j=2*([]:List UE).length\/2*([]:List UE).length+2<=j)->j<=11->j+3000∉namesT esJ ([]++(3001,u')::Q):=fun j h1 h2 hm=>by
     have h1:j=0\/2<=j:=h1;have h0:=hfr j (by omega);simp only[namesT,mem_append,map_append,map_cons,mem_cons,map_nil,not_mem_nil,or_false,nil_append] at hm h0;rcases hm with h | h | h
     ·rcases hJn _ h with e | e
      ·omega
      ·exact h0 (.inl e)
     ·omega
     ·exact h0 (.inr (.inr h))
    have hm5:∀n∈u',1<=n/\n<=64:=fun n hn=>by
     rw[hu'] at hn;rcases mem_or_eq_of_mem_set hn with h | h
     ·have:=hu n h;omega
     ·have hq:=hu _ (List.getElem_mem n1);rw[h,List.getD_eq_getElem?_getD,List.getElem?_eq_getElem n1];show 1<=u[nodeF u at_] - 1/\u[nodeF u at_] - 1<=64;omega
    obtain⟨r1,r2⟩:=s_mendU Q [] 3001 u' (nodeF u at_) esJ hn5 hokJ hfr5 (by show 0+Q.length<=5;omega) (by rw[hesJ,length_append,length_cons];omega) (by rw[hu'l];exact n1) (by rw[hu'l];exact hu4) hm5 (by rw[hu'l];exact hcQ);obtain⟨g1',g2'⟩:=mendN_nd Q 0 3001 u' (nodeF u at_) (nodup_append.1 hn5.nd).2.1 (fun j h1 h2 hm=>hfr5 j h1 (by omega) (mem_append_right _ hm));refine⟨esJ,[]++mendN 0 3001 u' Q (nodeF u at_),?_,r1,hokJ,fun k hk=>?_,s_mendC es esJ esJ [] [] Q _ k1 u at_ 3001 (fun i=>((es.map LE.val).getD i []).length) hn hok hx hxn (by show 0+1+Q.length<=20;omega) (by omega) hu hu4 hat' (by omega) hsz c1 hsz2 c2 hnJ hxJ rfl hj (by rw[<- hu'];exact r2) r1 (fun k hk hk2=>?_)⟩
    ·show mendL _ (u::Q.map Prod.snd) at_=_;rw[mendL,if_neg c1,if_neg c2,hJval,<- hm,<- hu',nil_append,mendN_snd]
    ·rcases mem_append.1 hk with hk | hk
     ·rcases hJn k hk with h | h
      ·exact .inr (.inl h)
      ·exact .inl (mem_append_left _ h)
     ·rw[nil_append] at hk;rcases g2' k hk with h | ⟨j,j1,j2,h⟩
      ·rcases mem_cons.1 h with h | h
       ·exact .inr (.inr (.inr ⟨1,by omega,h⟩))
       ·exact .inl (mem_append_right _ (mem_cons_of_mem _ h))
      ·exact .inr (.inr (.inr ⟨j,by omega,h⟩))
    ·simp only[namesT,mem_append,nil_append] at hk ⊢;rcases hk with h | h
     ·exact .inl h
     ·rcases g2' k h with h | ⟨j,j1,j2,h⟩
      ·rcases mem_cons.1 h with h | h
       ·rw[h] at hk2;exact absurd hk2 hxn
       ·exact .inr h
      ·rw[h] at hk2;exact absurd hk2 (hfr j (by omega))
end
section
open Go.RowKit K
open Tr
def delE (t:TreeD) (key:List UInt8):Int:=if chkD t≠0 then chkD t else if (lookP t.Leaves.flatten key).isSome=true then 0 else 5
def delR (t:TreeD) (key:List UInt8):LU:=delF t.Leaves (natU t.Up) (leafF t.Leaves (natU t.Up) key (natU t.Up).length 0) key
def delT (t:TreeD) (key:List UInt8):TreeD:=if delE t key≠0 then ⟨[],[]⟩ else ⟨(delR t key).1,intU (delR t key).2⟩
namespace Tr
theorem upOk_pow:∀{U:List (List Nat)} {b t:Nat},upOk b U t->2^U.length*t<=b
 | [],b,t,h=>by have h:b=t:=h;subst h;rw[length_nil,Nat.pow_zero,one_mul];exact Nat.le_refl _
 | u::U,b,t,⟨h1,h2,h3,h4⟩=>by
  have h5:=upOk_pow h4;have h6:=two_sum h2;have h3:u.sum=b:=h3;rw[length_cons,pow_succ,Nat.mul_right_comm];omega
theorem deep6 {b:Nat} {U:List (List Nat)} (h:upOk b U 1) (hb:b<=64):U.length<=6:=Classical.byContradiction fun hc=>by
 have h1:=upOk_pow h;have h2:2^7<=2^U.length:=Nat.pow_le_pow_right (by decide) (by omega);omega
end Tr
set_option maxHeartbeats 4000000 in
theorem p_Delete (t:TreeD) (h:DataOk t) (key:List UInt8) (hkl:key.length<=140737488351232):Pure Try.prog 9 [trD t,pStr (tx key)] (.tup [trD (delT t key),pInt .i64 (delE t key)]):=by
 have pc:=p_treecheck t h;refine pure_sem Try.func9 (by rfl) rfl (by kernel_rfl) (by rfl) ?_;by_cases c1:chkD t≠0
 ·have e1:delE t key=chkD t:=if_pos c1;have e2:delT t key=⟨[],[]⟩:=if_pos (by rw[e1];exact c1);rw[e1,e2];refine Smc.of rfl ?_;((conv=>whnf);repeat' ((first|(with_reducible first|apply a_|apply b_|apply c_)|((with_reducible first|apply d_|apply e_|apply f_|apply g_|apply h_);first|omega|simp only[q_]<;>omega)|((with_reducible apply i_);first|omega|simp only[q_]<;>omega)|((with_reducible apply h_);first|decide|kernel_rfl)|refine s_ (by decide) ?_|refine t_ (by decide) ?_|refine r_ pc rfl ?_|with_reducible first|apply l_|apply m_|apply n_|apply o_|refine p_ (fun _=>?_) (fun _=>?_))<;>conv=>whnf));all_goals first|exact Ret.le ⟨⟨.inr ⟨⟨1,rfl⟩,.inl rfl⟩,.inr ⟨⟨1,rfl⟩,.inl rfl⟩,rfl⟩,.inl rfl,rfl⟩|(exfalso;omega)|skip
 have c1:chkD t=0:=Decidable.of_not_not c1;rw[c1] at pc;have hE:delE t key=if (lookP t.Leaves.flatten key).isSome=true then 0 else 5:=by unfold delE;rw[if_neg (not_not_intro c1)]
 obtain⟨U,hU,hok⟩:=chk_ok c1;rcases t with ⟨L,Us⟩;have hU:Us=intU U:=hU;subst hU
 replace hok:TreeOk L U:=hok
 have hkeys:∀l∈L,∀q∈l,q.ok:=h.keys;have hLl:(lvC L).length=L.length:=length_map _;have pc:Pure Try.prog 29 [.agg [.c (.sl 1 (lvC L)),.c (.sl 1 (upC U))]] (pInt .i64 0):=by
  have:=pc;rw[show trD ⟨L,intU U⟩=.agg [.c (.sl 1 (lvC L)),.c (.sl 1 (upI (intU U)))] from rfl,upI_int] at this;exact this
 have hgo:argsE [trD ⟨L,intU U⟩,pStr (tx key)]=argsE [.agg [.c (.sl 1 (lvC L)),.c (.sl 1 (upC U))],pStr (tx key)]:=by
  rw[show trD ⟨L,intU U⟩=.agg [.c (.sl 1 (lvC L)),.c (.sl 1 (upI (intU U)))] from rfl,upI_int]
 rw[hgo];have hcnt:=hok.count;have hus2:∀u∈U,0<u.length/\u.length<=64:=fun u hu=>by
  obtain⟨i,hi,rfl⟩:=List.getElem_of_mem hu;have hv:=hok.okT;have hs:=hv.small (i+1) hi;have hs2:=hv.sums i hi;have e:lenAt L U (i+1)=U[i].length:=by show (U.getD i []).length=_;rw[List.getD_eq_getElem?_getD,List.getElem?_eq_getElem hi];rfl
  rw[e] at hs;refine⟨length_pos_iff.2 fun h0=>?_,hs⟩;rw[h0] at hs2;have hz:lenAt L U i=0:=hs2.symm;rcases hok.up with ⟨_,h2⟩ | h2
  ·rw[h2] at hi;exact absurd hi (not_lt_zero _)
  ·have:∀(U:List (List Nat)) (b i:Nat),upOk b U 1->i<U.length->lenB b U i≠0:=fun U=>by
    induction U with
    | nil=>intro b i _ hi;exact absurd hi (not_lt_zero _)
    | cons u U ih=>
     intro b i hu hi;cases i with
     | zero=>have:=hu.1;show b≠0;omega
     | succ i=>rw[lenB_cons];exact ih _ i hu.2.2.2 (by simpa using hi)
   exact this U L.length i h2 hi (by rw[<- lenB_at];exact hz)
 have so:=s_own L U hok.many (fun l hl=>(hok.okT.leaf l hl)) hok.deep hus2;refine Smc.seq rfl ?_;((conv=>whnf);repeat' ((first|(with_reducible first|apply a_|apply b_|apply c_)|((with_reducible first|apply d_|apply e_|apply f_|apply g_|apply h_);first|omega|simp only[q_]<;>omega)|((with_reducible apply i_);first|omega|simp only[q_]<;>omega)|((with_reducible apply h_);first|decide|kernel_rfl)|refine s_ (by decide) ?_|refine t_ (by decide) ?_|with_reducible first|apply l_|apply m_|apply n_|apply o_|refine p_ (fun _=>?_) (fun _=>?_))<;>conv=>whnf));refine Smc.seq rfl ?_;((conv=>whnf);repeat' ((first|(with_reducible first|apply a_|apply b_|apply c_)|((with_reducible first|apply d_|apply e_|apply f_|apply g_|apply h_);first|omega|simp only[q_]<;>omega)|((with_reducible apply i_);first|omega|simp only[q_]<;>omega)|((with_reducible apply h_);first|decide|kernel_rfl)|refine s_ (by decide) ?_|refine t_ (by decide) ?_|refine r_ pc rfl ?_|with_reducible first|apply l_|apply m_|apply n_|apply o_|refine p_ (fun _=>?_) (fun _=>?_))<;>conv=>whnf));refine Smc.seq rfl ?_;((conv=>whnf);repeat' ((first|(with_reducible first|apply a_|apply b_|apply c_)|((with_reducible first|apply d_|apply e_|apply f_|apply g_|apply h_);first|omega|simp only[q_]<;>omega)|((with_reducible apply i_);first|omega|simp only[q_]<;>omega)|((with_reducible apply h_);first|decide|kernel_rfl)|refine s_ (by decide) ?_|refine t_ (by decide) ?_|with_reducible first|apply l_|apply m_|apply n_|apply o_|refine p_ (fun _=>?_) (fun _=>?_))<;>conv=>whnf));all_goals first|(exfalso;omega)|skip
 refine Smc.seq rfl ?_;((conv=>whnf);repeat' ((first|(with_reducible first|apply a_|apply b_|apply c_)|((with_reducible first|apply d_|apply e_|apply f_|apply g_|apply h_);first|omega|simp only[q_]<;>omega)|((with_reducible apply i_);first|omega|simp only[q_]<;>omega)|((with_reducible apply h_);first|decide|kernel_rfl)|refine s_ (by decide) ?_|refine t_ (by decide) ?_|with_reducible first|apply l_|apply m_|apply n_|apply o_|refine p_ (fun _=>?_) (fun _=>?_))<;>conv=>whnf));obtain⟨us,hus⟩:∃us,us=ownU U U.length:=⟨_,rfl⟩;have husv:us.map Prod.snd=U:=by rw[hus];exact ownU_val U
 have husl:us.length=U.length:=by rw[hus];exact ownU_len _ _
 have hno:=own_nm L U hok.many hok.deep;rw[<- hus] at so hno;refine call_own so 18 150 151 rfl hno (fun x hx=>?_) ?_
 ·rw[mem_singleton] at hx;subst hx;intro y hy;simp only[mem_cons,not_mem_nil,or_false] at hy;rcases hy with rfl | rfl<;>trivial
 obtain⟨δ,hδ⟩:∃δ,δ=deltaOf [] (nearT 18 150 151 (ownL L L.length) us++famT (ownL L L.length) us):=⟨_,rfl⟩;rw[<- hδ];have hδn:((nearT 18 150 151 (ownL L L.length) us++famT (ownL L L.length) us).map Prod.fst).Nodup:=tIn_nd rfl hno;have hδo:∀(h:Hp) q,q∈nearT 18 150 151 (ownL L L.length) us++famT (ownL L L.length) us->Dl.app h δ q.1=some q.2:=fun h q hq=>by rw[hδ];exact delta_out hδn hq
 have hδe:∀(h:Hp) k,k<18->Dl.app h δ k=h k:=fun h k hk=>by
  rw[hδ];refine delta_else hδn (by simp) fun hm=>?_;rw[tIn_keys] at hm;rcases mem_append.1 hm with hm | hm
  ·simp only[mem_cons,not_mem_nil,or_false] at hm;omega
  ·have:=nT_big k (hno.inn k hm);omega
 refine newP_of (fun q hq=>?_) ?_
 ·right;rw[hδ] at hq;unfold deltaOf at hq;rw[map_nil,nil_append] at hq;obtain⟨x,hx,rfl⟩:=mem_map.1 hq;have hm:x.1∈[18,150,151]++namesT (ownL L L.length) us:=by rw[<- tIn_keys];exact mem_map.2 ⟨x,hx,rfl⟩
  show ksHas x.1 _=false;rcases mem_append.1 hm with hm | hm
  ·simp only[mem_cons,not_mem_nil,or_false] at hm;rcases hm with e | e | e<;>(rw[e];rfl)
  ·have hb:=nT_big _ (hno.inn _ hm);have:∀ks:List Nat,(ks.all fun k=>Nat.blt k 1000)=true->ksHas x.1 ks=false:=fun ks=>by
    induction ks with
    | nil=>intro _;rfl
    | cons k ks ih=>
     intro hk;rw[all_cons,Bool.and_eq_true] at hk;have:=le_of_ble_eq_true hk.1;unfold ksHas;rw[nbeq (show k≠x.1 by omega)];exact ih hk.2
   exact this _ rfl
 conv=>whnf
 refine addKs_of (fun ks'=>?_);((conv=>whnf);repeat' ((first|(with_reducible first|apply a_|apply b_|apply c_)|((with_reducible first|apply d_|apply e_|apply f_|apply g_|apply h_);first|omega|simp only[q_]<;>omega)|((with_reducible apply i_);first|omega|simp only[q_]<;>omega)|((with_reducible apply h_);first|decide|kernel_rfl)|refine s_ (by decide) ?_|refine t_ (by decide) ?_|with_reducible first|apply l_|apply m_|apply n_|apply o_|refine p_ (fun _=>?_) (fun _=>?_))<;>conv=>whnf));by_cases hL:L=[]
 ·have hU0:U=[]:=by
   rcases hok.up with ⟨_,h2⟩ | h2
   ·exact h2
   ·rw[hL] at h2;cases U with
    | nil=>rfl|cons u U=>exact absurd h2.1 (show ¬2<=0 by decide)
  have e1:delE ⟨L,intU U⟩ key=5:=by rw[hE,hL];rfl
  have e2:delT ⟨L,intU U⟩ key=⟨[],[]⟩:=if_pos (by rw[e1];decide);rw[e1,e2];have hel:ownL L L.length=[]:=by rw[hL];rfl
  have hul:us=[]:=by rw[hus,hU0];rfl
  refine Smc.cut (le:=[(1,pStr (tx key)),(4,.d (.ptr 4 0)),(7,.d (.ptr 18 0))]) (lh:=[(4,.box 25 [.c (.v (.slice none 0 0)),.c (.v (.slice none 0 0))])]++(nearT 18 150 151 [] []++famT [] [])) (m:=[4,18,150,151])
   (wk_has (fun k=>k) (near:=[(4,.box 25 [.c (.v (.slice none 0 0)),.c (.v (.slice none 0 0))])]) (b:=18) (l:=150) (u:=151) (es:=[]) (us:=[]) ?a1 (fun k hk=>(by cases hk)) (fun k hk=>hk |> mem_cons_of_mem _) ?a3 (fun q hq=>?a4) ?a5) ?_
  case a1=>
   intro q hq;refine hδo _ q ?_;rw[hel,hul];exact hq
  case a3=>decide
  case a4=>
   rw[mem_singleton] at hq;subst hq;exact⟨by decide,_,(hδe _ 4 (by decide)).trans rfl,rfl,.inl rfl,.inl rfl,rfl⟩
  case a5=>exact⟨.inl rfl,⟨rfl,rfl,rfl⟩,⟨rfl,rfl,rfl⟩,trivial⟩
  refine Smc.of rfl ?_;((conv=>whnf);repeat' ((first|(with_reducible first|apply a_|apply b_|apply c_)|((with_reducible first|apply d_|apply e_|apply f_|apply g_|apply h_);first|omega|simp only[q_]<;>omega)|((with_reducible apply i_);first|omega|simp only[q_]<;>omega)|((with_reducible apply h_);first|decide|kernel_rfl)|refine s_ (by decide) ?_|refine t_ (by decide) ?_|with_reducible first|apply l_|apply m_|apply n_|apply o_|refine p_ (fun _=>?_) (fun _=>?_))<;>conv=>whnf));all_goals first|exact Ret.le ⟨⟨.inr ⟨⟨1,rfl⟩,.inl rfl⟩,.inr ⟨⟨1,rfl⟩,.inl rfl⟩,rfl⟩,.inl rfl,rfl⟩|(exfalso;omega)|skip
 ·have hat:=hok.at_ hL key;have hlf0:=look_flat hat hok.ne hok.asc;obtain⟨a,ha⟩:∃a,a=leafF L U key U.length 0:=⟨_,rfl⟩;rw[<- ha] at hat hlf0;have hal:=hat.lt;have hLpos:0<L.length:=by omega
  have ha64:a<64:=by have:=hok.many;omega
  obtain⟨A,B,hAB,hAl,hAv,hBv,hABok,hABl⟩:=own_parts hal;obtain⟨l,hle⟩:∃l,l=L.getD a []:=⟨_,rfl⟩;rw[<- hle] at hAB;have hlm:l∈L:=by rw[hle];exact getD_mem hal
  have hlasc:Asc l:=(pairwise_flatten.1 hok.asc).1 l hlm;have hlsz:=hok.sizes l hlm;rw[hAB] at hno hδo;have hnAB:NmT (A++B) us:=nm_sub hno ((List.Sublist.refl A).append (sublist_cons_self _ _)) (List.Sublist.refl _);have haT:a+1000∈nT:=in_leaf (by have:=hok.many;omega);obtain⟨F,hF⟩:∃F,F=Fl [(800,a+1000)]:=⟨_,rfl⟩;have FN:∀k,k≠800->F k=k:=fun k hk=>by rw[hF,Fl_skip hk];rfl
  have F8:F 800=a+1000:=by rw[hF];exact Fl_hit
  have fA:A.map (LE.mv F)=A:=mv_same fun e he=>FN _ (by have:=nT_big _ (es_in hnAB e (mem_append_left _ he));omega);have fB:B.map (LE.mv F)=B:=mv_same fun e he=>FN _ (by have:=nT_big _ (es_in hnAB e (mem_append_right _ he));omega);have fu:us.map (umv F)=us:=umv_same fun q hq=>FN _ (by have:=nT_big _ (us_in hnAB q hq);omega);have fe:(A++mkL 800 l::B).map (LE.mv F)=A++mkL (a+1000) l::B:=by
   rw[map_append,map_cons,fA,fB];show A++(⟨F 800,0,l.length,l⟩:LE)::B=_;rw[F8];rfl
  refine Smc.cut (le:=[(1,pStr (tx key)),(4,.d (.ptr 4 0)),(7,.d (.ptr 18 0))])
   (lh:=[(4,.box 25 [.c (.v (.slice none 0 0)),.c (.v (.slice none 0 0))]),(18,.box 43 [.arr 150 44 1 0 L.length,.arr 151 61 1 0 us.length]),(150,.darr 44 1 ((A++mkL 800 l::B).map LE.row)),(151,.darr 61 1 (us.map urow)),(800,leafH l)]++famT (A++B) us)
   (m:=[4,18,150,151,800]++nT)
   (wk_sub (wk_has F (near:=[(4,.box 25 [.c (.v (.slice none 0 0)),.c (.v (.slice none 0 0))])]) (b:=18) (l:=150) (u:=151) (es:=A++mkL 800 l::B) (us:=us) ?b1 (fun k hk=>(by cases hk)) (fun k hk=>?b2) ?b3 (fun q hq=>?b4) ?b5) (fun q hq=>?b6)) ?_
  case b1=>
   rw[fe,fu,FN 18 (by decide),FN 150 (by decide),FN 151 (by decide)];intro q hq;exact hδo _ q hq
  case b2=>
   rcases mem_append.1 hk with hk | hk
   ·refine mem_append_left _ ?_;simp only[mem_cons,not_mem_nil,or_false] at hk ⊢;rcases hk with h | h | h
    ·exact .inr (.inl h)
    ·exact .inr (.inr (.inl h))
    ·exact .inr (.inr (.inr (.inl h)))
   ·have:k=800\/k∈namesT (A++B) us:=by
     simp only[namesT,mem_append,map_append,map_cons,mem_cons,mkL_k] at hk ⊢;rcases hk with (h | h | h) | h
     ·exact .inr (.inl (.inl h))
     ·exact .inl h
     ·exact .inr (.inl (.inr h))
     ·exact .inr (.inr h)
    rcases this with rfl | h
    ·exact mem_append_left _ (show 800∈[4,18,150,151,800] by decide)
    ·exact mem_append_right _ (hnAB.inn k h)
  case b3=>
   rw[<- names_mv,fe,fu,FN 18 (by decide),FN 150 (by decide),FN 151 (by decide)];show ([F 4]++([18,150,151]++_)).Nodup;rw[FN 4 (by decide)];exact nd_perm (lits:=[4,18,150,151]) (names:=namesT (A++mkL (a+1000) l::B) us) (List.Perm.refl _) rfl rfl hno.nd hno.inn
  case b4=>
   rw[mem_singleton] at hq;subst hq;refine⟨mem_append_left _ (show 4∈[4,18,150,151,800] by decide),.box 25 [.c (.v (.slice none 0 0)),.c (.v (.slice none 0 0))],?_,?_⟩
   ·show Dl.app _ δ (F 4)=_;rw[FN 4 (by decide)];exact (hδe _ 4 (by decide)).trans rfl
   ·exact⟨rfl,.inl rfl,.inl rfl,rfl⟩
  case b5=>
   have m:∀k∈[4,18,150,151,800]++nT,fnL (mR F ([4,18,150,151,800]++nT)) k=some (F k):=fun k hk=>mR_in hk;exact⟨.inl rfl,⟨rfl,by rw[m 4 (by simp),FN 4 (by decide)];rfl,rfl⟩,⟨rfl,by rw[m 18 (by simp),FN 18 (by decide)],rfl⟩,trivial⟩
  case b6=>
   rcases mem_append.1 hq with hq | hq
   ·simp only[mem_cons,not_mem_nil,or_false] at hq;rcases hq with h | h | h | h | h
    ·exact mem_append_left _ (by rw[h];simp)
    ·refine mem_append_right _ (mem_append_left _ ?_);rw[h,show L.length=(A++mkL 800 l::B).length by rw[length_append,length_cons];omega];exact mem_cons_self
    ·exact mem_append_right _ (mem_append_left _ (by rw[h];simp))
    ·exact mem_append_right _ (mem_append_left _ (by rw[h];simp))
    ·refine mem_append_right _ (mem_append_right _ (mem_append_left _ ?_));rw[h,map_append];exact mem_append_right _ mem_cons_self
   ·refine mem_append_right _ (mem_append_right _ ?_);rcases mem_append.1 hq with hq | hq
    ·refine mem_append_left _ ?_;rw[map_append] at hq ⊢;rcases mem_append.1 hq with hq | hq
     ·exact mem_append_left _ hq
     ·exact mem_append_right _ (mem_cons_of_mem _ hq)
    ·exact mem_append_right _ hq
  refine Smc.seq rfl ?_;((conv=>whnf);repeat' ((first|(with_reducible first|apply a_|apply b_|apply c_)|((with_reducible first|apply d_|apply e_|apply f_|apply g_|apply h_);first|omega|simp only[q_]<;>omega)|((with_reducible apply i_);first|omega|simp only[q_]<;>omega)|((with_reducible apply h_);first|decide|kernel_rfl)|refine s_ (by decide) ?_|refine t_ (by decide) ?_|with_reducible first|apply l_|apply m_|apply n_|apply o_|refine p_ (fun _=>?_) (fun _=>?_))<;>conv=>whnf));all_goals first|(exfalso;omega)|skip
  have hLval:(A++mkL (a+1000) l::B).map LE.val=L:=by rw[<- hAB];exact ownL_val L
  have hokE:∀e∈A++mkL (a+1000) l::B,e.ok:=fun e he=>by
   simp only[mem_append,mem_cons] at he;rcases he with h | rfl | h
   ·exact hABok e (mem_append_left _ h)
   ·exact (show 0+l.length<=l.length by omega)
   ·exact hABok e (mem_append_right _ h)
  have sl:=s_leafO (us:=us) hno hokE (by rw[hLval,husv];exact hok.okT) (by rw[hLval,husv];exact (hok.top hL).1) key (fun e he q hq=>hkeys e.val (by rw[<- hLval];exact mem_map.2 ⟨e,he,rfl⟩) q hq);rw[hLval,husv,<- ha] at sl;have hR:=nm_fam hnAB;have look:∀q∈famT (A++B) us,hpL ([(4,.box 25 [.c (.v (.slice none 0 0)),.c (.v (.slice none 0 0))]),(18,.box 43 [.arr 150 44 1 0 L.length,.arr 151 61 1 0 us.length]),(150,.darr 44 1 ((A++mkL 800 l::B).map LE.row)),(151,.darr 61 1 (us.map urow)),(800,leafH l)]++famT (A++B) us) q.1=some q.2:=fun q hq=>hR.past rfl hq;obtain⟨F2,hF2⟩:∃F2,F2=Fl [(FK,18),(FK1,150),(FK2,151),(a+1000,800)]:=⟨_,rfl⟩;have haN:a+1000∉namesT (A++B) us:=by
   have hp:(namesT (A++mkL (a+1000) l::B) us).Perm ((a+1000)::namesT (A++B) us):=perm_iff_count.2 fun x=>by
    simp only[namesT,count_append,map_append,map_cons,count_cons,mkL_k];omega
   exact (nodup_cons.1 (hp.nodup_iff.1 hno.nd)).1
  have F20:F2 FK=18:=by rw[hF2];rfl
  have F21:F2 FK1=150:=by rw[hF2];rfl
  have F22:F2 FK2=151:=by rw[hF2];rfl
  have F2a:F2 (a+1000)=800:=by rw[hF2,Fl_skip (by show _≠1000000;omega),Fl_skip (by show _≠1000001;omega),Fl_skip (by show _≠1000002;omega)];exact Fl_hit
  have F2N:∀k∈namesT (A++B) us,F2 k=k:=fun k hk=>by
   have hb:=nT_big k (hnAB.inn k hk);rw[hF2,Fl_skip (by show _≠1000000;omega),Fl_skip (by show _≠1000001;omega),Fl_skip (by show _≠1000002;omega),Fl_skip (fun e=>haN (by rw[<- e];exact hk))];rfl
  have f2A:A.map (LE.mv F2)=A:=mv_same fun e he=>F2N _ (mem_append_left _ (mem_map.2 ⟨e,mem_append_left _ he,rfl⟩));have f2B:B.map (LE.mv F2)=B:=mv_same fun e he=>F2N _ (mem_append_left _ (mem_map.2 ⟨e,mem_append_right _ he,rfl⟩));have f2u:us.map (umv F2)=us:=umv_same fun q hq=>F2N _ (mem_append_right _ (mem_map.2 ⟨q,hq,rfl⟩));have f2e:(A++mkL (a+1000) l::B).map (LE.mv F2)=A++mkL 800 l::B:=by
   rw[map_append,map_cons,f2A,f2B];show A++(⟨F2 (a+1000),0,l.length,l⟩:LE)::B=_;rw[F2a];rfl
  have famA:∀e∈A++B,e.fam∈famT (A++B) us:=fun e he=>mem_append_left _ (mem_map.2 ⟨e,he,rfl⟩);have famU:∀q∈us,ufam q∈famT (A++B) us:=fun q hq=>mem_append_right _ (mem_map.2 ⟨q,hq,rfl⟩);refine Smc.seq rfl ?_;((conv=>whnf);repeat' ((first|(with_reducible first|apply a_|apply b_|apply c_)|((with_reducible first|apply d_|apply e_|apply f_|apply g_|apply h_);first|omega|simp only[q_]<;>omega)|((with_reducible apply i_);first|omega|simp only[q_]<;>omega)|((with_reducible apply h_);first|decide|kernel_rfl)|refine s_ (by decide) ?_|refine t_ (by decide) ?_|with_reducible first|apply l_|apply m_|apply n_|apply o_|refine p_ (fun _=>?_) (fun _=>?_))<;>conv=>whnf));refine call_ro sl F2 hno (map_nd_inj ?c1) (fun x hx=>?c2) trivial ?c3 ?c4 (fun rf=>?_)
  case c1=>
   rw[map_append,<- names_mv,f2e,f2u];show ([F2 FK,F2 FK1,F2 FK2]++_).Nodup;rw[F20,F21,F22];refine nd_perm (lits:=[18,150,151,800]) (names:=namesT (A++B) us) (perm_iff_count.2 fun x=>?_) rfl rfl hnAB.nd hnAB.inn;simp only[namesT,count_append,map_append,map_cons,count_cons,count_nil,mkL_k];omega
  case c2=>
   simp only[mem_cons,not_mem_nil,or_false] at hx;rcases hx with rfl | rfl
   ·rfl
   ·trivial
  case c3=>
   show [PV.d (.ptr (F2 FK) 0),_]=_;rw[F20];rfl
  case c4=>
   rw[F20,F21,F22,f2e,f2u];refine has_of ?_ rfl rfl (fun e he=>?_) (fun q hq=>?_)
   ·rw[show (A++mkL 800 l::B).length=L.length by rw[length_append,length_cons];omega];rfl
   ·simp only[mem_append,mem_cons] at he;rcases he with h | rfl | h
    ·have hb:=(hR.keys e.fam (famA e (mem_append_left _ h))).1;repeat refine app_fam rfl hb ?_
     exact look e.fam (famA e (mem_append_left _ h))
    ·rfl
    ·have hb:=(hR.keys e.fam (famA e (mem_append_right _ h))).1;repeat refine app_fam rfl hb ?_
     exact look e.fam (famA e (mem_append_right _ h))
   ·have hb:=(hR.keys (ufam q) (famU q hq)).1;repeat refine app_fam rfl hb ?_
    exact look (ufam q) (famU q hq)
  ((conv=>whnf);repeat' ((first|(with_reducible first|apply a_|apply b_|apply c_)|((with_reducible first|apply d_|apply e_|apply f_|apply g_|apply h_);first|omega|simp only[q_]<;>omega)|((with_reducible apply i_);first|omega|simp only[q_]<;>omega)|((with_reducible apply h_);first|decide|kernel_rfl)|refine s_ (by decide) ?_|refine t_ (by decide) ?_|with_reducible first|apply l_|apply m_|apply n_|apply o_|refine p_ (fun _=>?_) (fun _=>?_))<;>conv=>whnf));have r1:((A++mkL 800 l::B).map LE.row)[0+((a:Nat):Int).toNat]? = some [.arr 800 41 2 0 l.length]:=by
   rw[show 0+((a:Nat):Int).toNat=a by omega,map_append,map_cons];exact get_mid2 (by rw[length_map];exact hAl.symm)
  have ss:=s_seekO l 0 l.length (by omega) (by rw[drop_zero,take_length];exact hlasc) (by omega) key;rw[drop_zero,take_length] at ss;refine Smc.seq rfl ?_;((conv=>whnf);repeat' ((first|(with_reducible first|apply a_|apply b_|apply c_)|((with_reducible first|apply d_|apply e_|apply f_|apply g_|apply h_);first|omega|simp only[q_]<;>omega)|((with_reducible apply i_);first|omega|simp only[q_]<;>omega)|((with_reducible apply h_);first|decide|kernel_rfl)|refine s_ (by decide) ?_|refine t_ (by decide) ?_|(refine Row.mk _ r1 ?_)|with_reducible first|apply l_|apply m_|apply n_|apply o_|refine p_ (fun _=>?_) (fun _=>?_))<;>conv=>whnf));refine call_rd1 800 ss (hon_leaf _ _) rfl rfl (fun K hK=>hK) ?_;((conv=>whnf);repeat' ((first|(with_reducible first|apply a_|apply b_|apply c_)|((with_reducible first|apply d_|apply e_|apply f_|apply g_|apply h_);first|omega|simp only[q_]<;>omega)|((with_reducible apply i_);first|omega|simp only[q_]<;>omega)|((with_reducible apply h_);first|decide|kernel_rfl)|refine s_ (by decide) ?_|refine t_ (by decide) ?_|with_reducible first|apply l_|apply m_|apply n_|apply o_|refine p_ (fun _=>?_) (fun _=>?_))<;>conv=>whnf));have hrl:((l.map PairD.c).map (List.map D.c)).length=l.length:=by rw[length_map,length_map]
  rw[<- hle] at hlf0;obtain⟨hp1,hp2⟩:=hit_pos (key:=key) hlasc;by_cases hh:hitF l key=true
  case neg=>
   have hh:hitF l key=false:=Bool.eq_false_iff.2 hh;have hlk:lookP l key=none:=look_none.2 fun q hq e=>by
    rw[hp1.2 ⟨q,hq,e⟩] at hh;cases hh
   have e1:delE ⟨L,intU U⟩ key=5:=by rw[hE];show (if (lookP L.flatten key).isSome=true then (0:Int) else 5)=5;rw[hlf0,hlk];rfl
   have e2:delT ⟨L,intU U⟩ key=⟨[],[]⟩:=if_pos (by rw[e1];decide);rw[e1,e2];rw[hh];refine Smc.of rfl ?_;((conv=>whnf);repeat' ((first|(with_reducible first|apply a_|apply b_|apply c_)|((with_reducible first|apply d_|apply e_|apply f_|apply g_|apply h_);first|omega|simp only[q_]<;>omega)|((with_reducible apply i_);first|omega|simp only[q_]<;>omega)|((with_reducible apply h_);first|decide|kernel_rfl)|refine s_ (by decide) ?_|refine t_ (by decide) ?_|with_reducible first|apply l_|apply m_|apply n_|apply o_|refine p_ (fun _=>?_) (fun _=>?_))<;>conv=>whnf));all_goals first|exact Ret.le ⟨⟨.inr ⟨⟨1,rfl⟩,.inl rfl⟩,.inr ⟨⟨1,rfl⟩,.inl rfl⟩,rfl⟩,.inl rfl,rfl⟩|(exfalso;omega)|skip
  obtain⟨q0,hq1,hq2⟩:=hp1.1 hh;obtain⟨hpl,hpq,hdp⟩:=hp2 q0 hq1 hq2;rw[hh];have hlk:lookP l key=some q0.Id:=by rw[<- hq2];exact look_mem hlasc hq1
  have e1:delE ⟨L,intU U⟩ key=0:=by rw[hE];show (if (lookP L.flatten key).isSome=true then (0:Int) else 5)=0;rw[hlf0,hlk];rfl
  have e2:delT ⟨L,intU U⟩ key=⟨(delF L U a key).1,intU (delF L U a key).2⟩:=by
   unfold delT delR;rw[if_neg (not_not_intro e1),natU_int,<- ha]
  rw[e1,e2];have sd:=s_del_pair ((l.map PairD.c).map (List.map D.c)) (posF l key) (by rw[hrl];exact hpl) (by rw[hrl];omega) (hon_cs _ _ _ _) [] Fam.nil;rw[hrl] at sd;refine Smc.seq rfl ?_;((conv=>whnf);repeat' ((first|(with_reducible first|apply a_|apply b_|apply c_)|((with_reducible first|apply d_|apply e_|apply f_|apply g_|apply h_);first|omega|simp only[q_]<;>omega)|((with_reducible apply i_);first|omega|simp only[q_]<;>omega)|((with_reducible apply h_);first|decide|kernel_rfl)|refine s_ (by decide) ?_|refine t_ (by decide) ?_|with_reducible first|apply l_|apply m_|apply n_|apply o_|refine p_ (fun _=>?_) (fun _=>?_))<;>conv=>whnf));refine Smc.seq rfl ?_;((conv=>whnf);repeat' ((first|(with_reducible first|apply a_|apply b_|apply c_)|((with_reducible first|apply d_|apply e_|apply f_|apply g_|apply h_);first|omega|simp only[q_]<;>omega)|((with_reducible apply i_);first|omega|simp only[q_]<;>omega)|((with_reducible apply h_);first|decide|kernel_rfl)|refine s_ (by decide) ?_|refine t_ (by decide) ?_|(refine Row.mk _ r1 ?_)|with_reducible first|apply l_|apply m_|apply n_|apply o_|refine p_ (fun _=>?_) (fun _=>?_))<;>conv=>whnf));refine call_cs [(FK,800),(NK,63)] sd rfl rfl rfl rfl rfl (fun q hq=>?_) (fun x hx=>?_) (show NK∈[FK,NK] by decide) rfl (fun q hq=>?_) ?_
  ·simp only[cons_append,nil_append,mem_cons,not_mem_nil,or_false] at hq;rcases hq with rfl | rfl
   ·exact hon_cs _ _ _ _
   ·exact hon_sub (hon_cs _ 41 2 _) del_sub
  ·simp only[mem_cons,not_mem_nil,or_false] at hx;rcases hx with rfl | rfl | rfl
   ·show FK∈_;decide
   ·trivial
   ·trivial
  ·simp only[mem_cons,not_mem_nil,or_false] at hq;subst hq;rfl
  ((conv=>whnf);repeat' ((first|(with_reducible first|apply a_|apply b_|apply c_)|((with_reducible first|apply d_|apply e_|apply f_|apply g_|apply h_);first|omega|simp only[q_]<;>omega)|((with_reducible apply i_);first|omega|simp only[q_]<;>omega)|((with_reducible apply h_);first|decide|kernel_rfl)|refine s_ (by decide) ?_|refine t_ (by decide) ?_|(refine Row.mk _ r1 ?_)|with_reducible first|apply l_|apply m_|apply n_|apply o_|refine p_ (fun _=>?_) (fun _=>?_))<;>conv=>whnf));obtain⟨l',hl'⟩:∃l',l'=delP l key:=⟨_,rfl⟩;have hl'p:l'=l.take (posF l key)++l.drop (posF l key+1):=by rw[hl'];exact hdp
  have hl'l:l'.length=l.length - 1:=by rw[hl'p,length_append,length_take,length_drop];omega
  have hl'r:((l.map PairD.c).map (List.map D.c)).take (posF l key)++((l.map PairD.c).map (List.map D.c)).drop (posF l key+1)=(l'.map PairD.c).map (List.map D.c):=by
   rw[hl'p];simp only[map_append,map_take,map_drop]
  have r6:∀Y,(((A++mkL 800 l::B).map LE.row).set (0+((a:Nat):Int).toNat) Y)[0+((a:Nat):Int).toNat]? = some Y:=fun Y=>List.getElem?_set_self (by rw[length_map,length_append,length_cons];omega);have rset:∀Y,((A++mkL 800 l::B).map LE.row).set (0+((a:Nat):Int).toNat) Y=A.map LE.row++Y::B.map LE.row:=fun Y=>by
   rw[map_append,map_cons];exact set_mid2 (by rw[length_map];omega) _
  have hdel:delF L U a key=if l'=[] then ([],[]) else mendL (L.set a l') U a:=by unfold delF;rw[<- hle,<- hl']
  by_cases h0:l'=[]
  ·rw[hdel,if_pos h0];have h0l:l.length=1:=by
    have:=congrArg List.length h0;rw[hl'l] at this;have h1:l.length - 1=0:=this;omega
   refine Smc.of rfl ?_;((conv=>whnf);repeat' ((first|(with_reducible first|apply a_|apply b_|apply c_)|((with_reducible first|apply d_|apply e_|apply f_|apply g_|apply h_);first|omega|simp only[q_]<;>omega)|((with_reducible apply i_);first|omega|simp only[q_]<;>omega)|((with_reducible apply h_);first|decide|kernel_rfl)|refine s_ (by decide) ?_|refine t_ (by decide) ?_|(refine Row.mk _ (r6 _) ?_)|with_reducible first|apply l_|apply m_|apply n_|apply o_|refine p_ (fun _=>?_) (fun _=>?_))<;>conv=>whnf));all_goals first|exact Ret.le ⟨⟨.inr ⟨⟨1,rfl⟩,.inl rfl⟩,.inr ⟨⟨1,rfl⟩,.inl rfl⟩,rfl⟩,.inl rfl,rfl⟩|(exfalso;omega)|skip
  ·rw[hdel,if_neg h0];have h0l:1<l.length:=by
    have:=length_pos_iff.2 h0;omega
   refine Smc.seq rfl ?_;((conv=>whnf);repeat' ((first|(with_reducible first|apply a_|apply b_|apply c_)|((with_reducible first|apply d_|apply e_|apply f_|apply g_|apply h_);first|omega|simp only[q_]<;>omega)|((with_reducible apply i_);first|omega|simp only[q_]<;>omega)|((with_reducible apply h_);first|decide|kernel_rfl)|refine s_ (by decide) ?_|refine t_ (by decide) ?_|(refine Row.mk _ (r6 _) ?_)|with_reducible first|apply l_|apply m_|apply n_|apply o_|refine p_ (fun _=>?_) (fun _=>?_))<;>conv=>whnf));all_goals first|(exfalso;omega)|skip
   have hlow:∀k∈namesT (A++mkL (a+1000) l::B) us,k<2100:=fun k hk=>own_low (L:=L) (U:=U) hok.many hok.deep k (by rw[hAB,<- hus];exact hk);have hn':NmT (A++mkL (a+1000) l'::B) us:=by
    have e:namesT (A++mkL (a+1000) l'::B) us=namesT (A++mkL (a+1000) l::B) us:=by simp[namesT,mkL_k]
    exact⟨by show (namesT (A++mkL (a+1000) l'::B) us).Nodup;rw[e];exact hno.nd,fun k hk=>hno.inn k (by
     rw[show (A++mkL (a+1000) l::B).map LE.k++us.map Prod.fst=namesT (A++mkL (a+1000) l::B) us from rfl,<- e];exact hk)⟩
   have hlow':∀k∈namesT (A++mkL (a+1000) l'::B) us,k<2100:=fun k hk=>hlow k (by
    have e:namesT (A++mkL (a+1000) l'::B) us=namesT (A++mkL (a+1000) l::B) us:=by simp[namesT,mkL_k]
    rw[<- e];exact hk)
   have hmkE:∀e∈A++mkL (a+1000) l'::B,e=mkL e.k e.a:=fun e he=>by
    have own:∀e∈A++mkL (a+1000) l::B,e=mkL e.k e.a:=fun e he=>by
     rw[<- hAB] at he;unfold ownL at he;obtain⟨i,_,rfl⟩:=mem_map.1 he;rfl
    simp only[mem_append,mem_cons] at he;rcases he with h | rfl | h
    ·exact own e (mem_append_left _ h)
    ·rfl
    ·exact own e (mem_append_right _ (mem_cons_of_mem _ h))
   have hvalE:(A++mkL (a+1000) l'::B).map LE.val=L.set a l':=by
    rw[map_append,map_cons,hAv,hBv,mkL_val,set_eq_take_append_cons_drop,if_pos hal]
   have hlenE:(A++mkL (a+1000) l'::B).length=L.length:=by rw[length_append,length_cons];omega
   have hsizeE:∀e∈A++mkL (a+1000) l'::B,1<=e.a.length/\e.a.length<=4:=fun e he=>by
    have hv:e.val∈L.set a l':=by rw[<- hvalE];exact mem_map.2 ⟨e,he,rfl⟩
    have e1:e.val=e.a:=by rw[hmkE e he];exact mkL_val _ _
    rw[e1] at hv;rcases mem_or_eq_of_mem_set hv with h | h
    ·have:=hok.sizes _ h;omega
    ·rw[h];omega
   obtain⟨es3,us3,hm3,hn3,hok3,hnm3,hsp⟩:=s_mend0 a (A++mkL (a+1000) l'::B) us hn' hmkE (fun i hi hm=>by have:=hlow' _ hm;omega) ⟨fun hm=>by have:=hlow' _ hm;omega,fun hm=>by have:=hlow' _ hm;omega⟩ (by rw[husl];exact deep6 (hok.top hL).2 hok.many) (by rw[hlenE];exact hok.many) (by rw[hlenE];exact hal) hsizeE (chainQ_of us _ 1 (by rw[husv,hlenE];exact (hok.top hL).2) (by rw[hlenE];exact hok.many));rw[hvalE,husv] at hm3;have hnames3:∀k∈namesT es3 us3,k∈namesT (A++B) us\/k=a+1000\/k=5000\/k=5001\/∃j,j<=11/\k=j+3000:=fun k hk=>by
    rcases hnm3 k hk with h | h
    ·simp only[namesT,mem_append,map_append,map_cons,mem_cons,mkL_k] at h ⊢;rcases h with (h | h | h) | h
     ·exact .inl (.inl (.inl h))
     ·exact .inr (.inl h)
     ·exact .inl (.inl (.inr h))
     ·exact .inl (.inr h)
    ·exact .inr (.inr h)
   have lowAB:∀k∈namesT (A++B) us,k<2100:=fun k hk=>hlow k (by
    simp only[namesT,mem_append,map_append,map_cons,mem_cons] at hk ⊢;rcases hk with (h | h) | h
    ·exact .inl (.inl h)
    ·exact .inl (.inr (.inr h))
    ·exact .inr h)
   obtain⟨G,hG⟩:∃G:Nat->Nat,G=fun k=>if k=FK then 18 else if k=FK1 then 150 else if k=FK2 then 151 else if k=NK1 then 160 else if k=NK2 then 161 else if k=a+1000 then 63 else newI k:=⟨_,rfl⟩
   have G0:G FK=18:=by rw[hG];rfl
   have G1:G FK1=150:=by rw[hG];rfl
   have G2:G FK2=151:=by rw[hG];rfl
   have GN1:G NK1=160:=by rw[hG];rfl
   have GN2:G NK2=161:=by rw[hG];rfl
   have Gn:∀k,k<7000->k≠a+1000->G k=newI k:=fun k hk hne=>by
    rw[hG];dsimp only;rw[if_neg (by show k≠1000000;omega),if_neg (by show k≠1000001;omega),if_neg (by show k≠1000002;omega),if_neg (by show k≠2000001;omega),if_neg (by show k≠2000002;omega),if_neg hne]
   have Ga:G (a+1000)=63:=by
    rw[hG];dsimp only;rw[if_neg (by show a+1000≠1000000;omega),if_neg (by show a+1000≠1000001;omega),if_neg (by show a+1000≠1000002;omega),if_neg (by show a+1000≠2000001;omega),if_neg (by show a+1000≠2000002;omega),if_pos rfl]
   have GAB:∀k∈namesT (A++B) us,G k=k:=fun k hk=>by
    have h1:=lowAB k hk;rw[Gn k (by omega) (fun e=>haN (by rw[<- e];exact hk))];exact if_neg (by omega)
   have gA:A.map (LE.mv G)=A:=mv_same fun e he=>GAB _ (mem_append_left _ (mem_map.2 ⟨e,mem_append_left _ he,rfl⟩));have gB:B.map (LE.mv G)=B:=mv_same fun e he=>GAB _ (mem_append_left _ (mem_map.2 ⟨e,mem_append_right _ he,rfl⟩));have gu:us.map (umv G)=us:=umv_same fun q hq=>GAB _ (mem_append_right _ (mem_map.2 ⟨q,hq,rfl⟩));have ge:(A++mkL (a+1000) l'::B).map (LE.mv G)=A++(⟨63,0,l.length - 1,l'⟩:LE)::B:=by
    rw[map_append,map_cons,gA,gB];show A++(⟨G (a+1000),0,l'.length,l'⟩:LE)::B=_;rw[Ga,hl'l]
   have ok5:∀k,k∈namesT (A++mkL (a+1000) l'::B) us\/k∈namesT es3 us3->k<7000/\(k=a+1000\/(k≠a+1000/\G k=newI k)):=fun k hk=>by
    have hb:k<7000:=by
     rcases hk with hk | hk
     ·exact (nT_big k (hn'.inn k hk)).2
     ·exact (nT_big k (hn3.inn k hk)).2
    refine⟨hb,?_⟩;by_cases e:k=a+1000
    ·exact .inl e
    ·exact .inr ⟨e,Gn k hb e⟩
   refine Smc.seq rfl ?_;((conv=>whnf);repeat' ((first|(with_reducible first|apply a_|apply b_|apply c_)|((with_reducible first|apply d_|apply e_|apply f_|apply g_|apply h_);first|omega|simp only[q_]<;>omega)|((with_reducible apply i_);first|omega|simp only[q_]<;>omega)|((with_reducible apply h_);first|decide|kernel_rfl)|refine s_ (by decide) ?_|refine t_ (by decide) ?_|with_reducible first|apply l_|apply m_|apply n_|apply o_|refine p_ (fun _=>?_) (fun _=>?_))<;>conv=>whnf));refine call_tree hsp G hn' hn3 (fun x hx y hy e=>?d1) (fun x hx=>?d2) trivial ?d3 ?d4 ?_
   case d1=>
    have val:∀k∈[FK,FK1,FK2,NK1,NK2]++(namesT (A++mkL (a+1000) l'::B) us++namesT es3 us3),(k=FK/\G k=18)\/(k=FK1/\G k=150)\/(k=FK2/\G k=151)\/(k=NK1/\G k=160)\/(k=NK2/\G k=161)\/(k=a+1000/\G k=63)\/(1000<=k/\k<7000/\G k=newI k):=fun k hk=>by
     rcases mem_append.1 hk with hk | hk
     ·simp only[mem_cons,not_mem_nil,or_false] at hk;rcases hk with rfl | rfl | rfl | rfl | rfl
      ·exact .inl ⟨rfl,G0⟩
      ·exact .inr (.inl ⟨rfl,G1⟩)
      ·exact .inr (.inr (.inl ⟨rfl,G2⟩))
      ·exact .inr (.inr (.inr (.inl ⟨rfl,GN1⟩)))
      ·exact .inr (.inr (.inr (.inr (.inl ⟨rfl,GN2⟩))))
     ·have hk:=mem_append.1 hk;have h1:1000<=k:=by
       rcases hk with hk | hk
       ·exact (nT_big k (hn'.inn k hk)).1
       ·exact (nT_big k (hn3.inn k hk)).1
      obtain⟨h2,h3⟩:=ok5 k hk;rcases h3 with h3 | ⟨h3,h4⟩
      ·exact .inr (.inr (.inr (.inr (.inr (.inl ⟨h3,by rw[h3];exact Ga⟩)))))
      ·exact .inr (.inr (.inr (.inr (.inr (.inr ⟨h1,h2,h4⟩)))))
    have nI:∀k,1000<=k->1000<=newI k:=fun k hk=>by unfold newI;split<;>omega
    have nIj:∀k j,k<7000->j<7000->newI k=newI j->k=j:=fun k j h1 h2 he=>by
     unfold newI at he;split at he<;>split at he<;>omega
    rcases val x hx with ⟨p1,p2⟩ | ⟨p1,p2⟩ | ⟨p1,p2⟩ | ⟨p1,p2⟩ | ⟨p1,p2⟩ | ⟨p1,p2⟩ | ⟨p0,p1,p2⟩<;>rcases val y hy with ⟨q1,q2⟩ | ⟨q1,q2⟩ | ⟨q1,q2⟩ | ⟨q1,q2⟩ | ⟨q1,q2⟩ | ⟨q1,q2⟩ | ⟨q0,q1,q2⟩<;>rw[p2,q2] at e<;>first|(rw[p1,q1];done)|(cases e;done)|(have:=nI y q0;omega)|(have:=nI x p0;omega)|exact nIj x y p1 q1 e
   case d2=>
    simp only[mem_cons,not_mem_nil,or_false] at hx;rcases hx with rfl | rfl | rfl
    ·rfl
    ·trivial
    ·trivial
   case d3=>
    show [PV.d (.ptr (G FK) 0),_,_]=_;rw[G0];rfl
   case d4=>
    rw[G0,G1,G2,ge,gu];refine has_of ?_ ?_ rfl (fun e he=>?_) (fun q hq=>?_)
    ·rw[show (A++(⟨63,0,l.length - 1,l'⟩:LE)::B).length=L.length by rw[length_append,length_cons];omega];rfl
    ·refine congrArg (fun r=>some (HB.darr 44 1 r)) ?_;rw[map_append (l₁:=A) (l₂:=(⟨63,0,l.length - 1,l'⟩:LE)::B),map_cons];exact rset _
    ·simp only[mem_append,mem_cons] at he;rcases he with h | rfl | h
     ·have hb:=(hR.keys e.fam (famA e (mem_append_left _ h))).1;repeat refine app_fam rfl hb ?_
      exact look e.fam (famA e (mem_append_left _ h))
     ·exact (leaf_eq hl'r:_)
     ·have hb:=(hR.keys e.fam (famA e (mem_append_right _ h))).1;repeat refine app_fam rfl hb ?_
      exact look e.fam (famA e (mem_append_right _ h))
    ·have hb:=(hR.keys (ufam q) (famU q hq)).1;repeat refine app_fam rfl hb ?_
     exact look (ufam q) (famU q hq)
   rw[G0,G1,G2,GN1,GN2,ge,gu];obtain⟨Y,hY⟩:∃Y,Y=us3.map (umv G):=⟨_,rfl⟩;obtain⟨Z,hZ⟩:∃Z,Z=es3.map (LE.mv G):=⟨_,rfl⟩;have hZY:namesT Z Y=(namesT es3 us3).map G:=by rw[hZ,hY,names_mv]
   have hZYk:∀k∈namesT Z Y,k∈namesT (A++B) us\/k=63\/(13000<=k/\k<1000000):=fun k hk=>by
    rw[hZY] at hk;obtain⟨x,hx,rfl⟩:=mem_map.1 hk;rcases hnames3 x hx with h | h | h | h | ⟨j,j2,h⟩
    ·rw[GAB x h];exact .inl h
    ·rw[h,Ga];exact .inr (.inl rfl)
    ·rw[h,Gn 5000 (by decide) (by omega)];exact .inr (.inr (by decide))
    ·rw[h,Gn 5001 (by decide) (by omega)];exact .inr (.inr (by decide))
    ·rw[h,Gn (j+3000) (by omega) (by omega)];right;right;unfold newI;rw[if_pos (by omega)];omega
   have hinjO:∀x∈[FK,NK1,NK2]++namesT es3 us3,∀y∈[FK,NK1,NK2]++namesT es3 us3,G x=G y->x=y:=fun x hx y hy e=>by
    have val:∀k∈[FK,NK1,NK2]++namesT es3 us3,(k=FK/\G k=18)\/(k=NK1/\G k=160)\/(k=NK2/\G k=161)\/(k=a+1000/\G k=63)\/(1000<=k/\k<7000/\G k=newI k):=fun k hk=>by
     rcases mem_append.1 hk with hk | hk
     ·simp only[mem_cons,not_mem_nil,or_false] at hk;rcases hk with rfl | rfl | rfl
      ·exact .inl ⟨rfl,G0⟩
      ·exact .inr (.inl ⟨rfl,GN1⟩)
      ·exact .inr (.inr (.inl ⟨rfl,GN2⟩))
     ·have hb:=nT_big k (hn3.inn k hk);by_cases e:k=a+1000
      ·exact .inr (.inr (.inr (.inl ⟨e,by rw[e];exact Ga⟩)))
      ·exact .inr (.inr (.inr (.inr ⟨hb.1,hb.2,Gn k hb.2 e⟩)))
    have nI:∀k,1000<=k->1000<=newI k:=fun k hk=>by unfold newI;split<;>omega
    have nIj:∀k j,k<7000->j<7000->newI k=newI j->k=j:=fun k j h1 h2 he=>by
     unfold newI at he;split at he<;>split at he<;>omega
    rcases val x hx with ⟨p1,p2⟩ | ⟨p1,p2⟩ | ⟨p1,p2⟩ | ⟨p1,p2⟩ | ⟨p0,p1,p2⟩<;>rcases val y hy with ⟨q1,q2⟩ | ⟨q1,q2⟩ | ⟨q1,q2⟩ | ⟨q1,q2⟩ | ⟨q0,q1,q2⟩<;>rw[p2,q2] at e<;>first|(rw[p1,q1];done)|(cases e;done)|(have:=nI y q0;omega)|(have:=nI x p0;omega)|exact nIj x y p1 q1 e
   have hYd:((nearT 18 160 161 Z Y++famT Z Y).map Prod.fst).Nodup:=by
    rw[tIn_keys,hZY];have h0:([FK,NK1,NK2]++namesT es3 us3).Nodup:=by
     have:=tIn_nd (b:=FK) (l:=NK1) (u:=NK2) rfl hn3
     rwa [tIn_keys] at this
    have h1:=nodup_map (F:=G) h0 hinjO;rw[map_append] at h1;have e:[FK,NK1,NK2].map G=[18,160,161]:=by
     show [G FK,G NK1,G NK2]=_;rw[G0,GN1,GN2]
    rwa [e] at h1
   rw[<- hY,<- hZ];obtain⟨δ2,hδ2⟩:∃δ2,δ2=deltaOf (nearT 18 150 151 (A++(⟨63,0,l.length - 1,l'⟩:LE)::B) us++famT (A++(⟨63,0,l.length - 1,l'⟩:LE)::B) us) (nearT 18 160 161 Z Y++famT Z Y):=⟨_,rfl⟩;rw[<- hδ2];have hA:∀k∈[18,150,151]++namesT (A++(⟨63,0,l.length - 1,l'⟩:LE)::B) us,rfHas k (nearT 18 150 151 (A++(⟨63,0,l.length - 1,l'⟩:LE)::B) us++famT (A++(⟨63,0,l.length - 1,l'⟩:LE)::B) us)=true:=fun k hk=>rfHas_of (by rw[tIn_keys];exact hk);have hAn:∀k∈namesT (A++B) us,k∈namesT (A++(⟨63,0,l.length - 1,l'⟩:LE)::B) us:=fun k hk=>by
    simp only[namesT,mem_append,map_append,map_cons,mem_cons] at hk ⊢;rcases hk with (h | h) | h
    ·exact .inl (.inl h)
    ·exact .inl (.inr (.inr h))
    ·exact .inr h
   refine newP_of (fun q hq=>?_) ?_
   ·rw[hδ2] at hq;unfold deltaOf at hq;rcases mem_append.1 hq with hq | hq
    ·obtain⟨x,hx,rfl⟩:=mem_map.1 hq;exact .inl (rfHas_of (mem_map.2 ⟨x,hx,rfl⟩))
    ·obtain⟨x,hx,rfl⟩:=mem_map.1 hq;have hqk:x.1∈[18,160,161]++namesT Z Y:=by rw[<- tIn_keys];exact mem_map.2 ⟨x,hx,rfl⟩
     show rfHas x.1 _=true\/ksHas x.1 _=false;rcases mem_append.1 hqk with hk | hk
     ·simp only[mem_cons,not_mem_nil,or_false] at hk;rcases hk with e | e | e
      ·rw[e];exact .inl (hA 18 (by simp))
      ·rw[e];exact .inr rfl
      ·rw[e];exact .inr rfl
     ·rcases hZYk _ hk with h | h | ⟨h1,h2⟩
      ·exact .inl (hA _ (mem_append_right _ (hAn _ h)))
      ·rw[h];exact .inl (hA _ (mem_append_right _ (mem_append_left _ (by rw[map_append];exact mem_append_right _ mem_cons_self))))
      ·exact .inr (ksHas_far2 h1 h2 rfl)
   have hδo2:∀(h:Hp) q,q∈nearT 18 160 161 Z Y++famT Z Y->Dl.app h δ2 q.1=some q.2:=fun h q hq=>by rw[hδ2];exact delta_out hYd hq
   have hδe2:∀(h:Hp),Dl.app h δ2 4=h 4:=fun h=>by
    rw[hδ2];have nk:∀k∈namesT (A++B) us,k≠4:=fun k hk=>by have:=nT_big k (hnAB.inn k hk);omega
    refine delta_else hYd (fun hm=>?_) fun hm=>?_
    ·rw[tIn_keys] at hm;simp only[namesT,mem_append,map_append,map_cons,mem_cons,not_mem_nil,or_false] at hm;rcases hm with (h | h | h) | (h | h | h) | h
     ·cases h
     ·cases h
     ·cases h
     ·exact nk 4 (by simp only[namesT,mem_append,map_append];exact .inl (.inl h)) rfl
     ·cases h
     ·exact nk 4 (by simp only[namesT,mem_append,map_append];exact .inl (.inr h)) rfl
     ·exact nk 4 (by simp only[namesT,mem_append,map_append];exact .inr h) rfl
    ·rw[tIn_keys] at hm;rcases mem_append.1 hm with hm | hm
     ·simp at hm
     ·rcases hZYk 4 hm with h | h | h
      ·exact nk 4 h rfl
      ·omega
      ·omega
   conv=>whnf
   refine addKs_of (fun ks'=>?_);((conv=>whnf);repeat' ((first|(with_reducible first|apply a_|apply b_|apply c_)|((with_reducible first|apply d_|apply e_|apply f_|apply g_|apply h_);first|omega|simp only[q_]<;>omega)|((with_reducible apply i_);first|omega|simp only[q_]<;>omega)|((with_reducible apply h_);first|decide|kernel_rfl)|refine s_ (by decide) ?_|refine t_ (by decide) ?_|with_reducible first|apply l_|apply m_|apply n_|apply o_|refine p_ (fun _=>?_) (fun _=>?_))<;>conv=>whnf));obtain⟨H,hH⟩:∃H:Nat->Nat,H=fun k=>if k∈nT then G k else k:=⟨_,rfl⟩
   have HT:∀k∈nT,H k=G k:=fun k hk=>by rw[hH];exact if_pos hk
   have Hf:∀k,farK k=true->H k=k:=fun k hk=>by rw[hH];exact if_neg (farK_out hk)
   have hHe:es3.map (LE.mv H)=Z:=by
    rw[hZ];refine map_congr_left fun e he=>?_;show (⟨H e.k,e.lo,e.n,e.a⟩:LE)=⟨G e.k,e.lo,e.n,e.a⟩;rw[HT _ (es_in hn3 e he)]
   have hHu:us3.map (umv H)=Y:=by
    rw[hY];refine map_congr_left fun q hq=>?_;show (H q.1,q.2)=(G q.1,q.2);rw[HT _ (us_in hn3 q hq)]
   refine Smc.cut (le:=[(4,.d (.ptr 4 0)),(7,.d (.ptr 18 0))])
    (lh:=[(4,.box 25 [.c (.v (.slice none 0 0)),.c (.v (.slice none 0 0))])]++(nearT 18 160 161 es3 us3++famT es3 us3)) (m:=[4,18,160,161]++nT)
    (wk_has H (near:=[(4,.box 25 [.c (.v (.slice none 0 0)),.c (.v (.slice none 0 0))])]) (b:=18) (l:=160) (u:=161) (es:=es3) (us:=us3) ?g1 (fun k hk=>(by cases hk)) (fun k hk=>?g2) ?g3 (fun q hq=>?g4) ?g5) ?_
   case g1=>
    rw[hHe,hHu,Hf 18 rfl,Hf 160 rfl,Hf 161 rfl];intro q hq;exact hδo2 _ q hq
   case g2=>
    rcases mem_append.1 hk with hk | hk
    ·refine mem_append_left _ ?_;simp only[mem_cons,not_mem_nil,or_false] at hk ⊢;exact .inr hk
    ·exact mem_append_right _ (hn3.inn k hk)
   case g3=>
    rw[<- names_mv,hHe,hHu,Hf 18 rfl,Hf 160 rfl,Hf 161 rfl];show ([H 4]++([18,160,161]++namesT Z Y)).Nodup;rw[Hf 4 rfl];rw[tIn_keys] at hYd;refine nodup_cons.2 ⟨fun hm=>?_,hYd⟩;have hm:4∈[18,160,161]++namesT Z Y:=hm;rcases mem_append.1 hm with hm | hm
    ·simp at hm
    ·rcases hZYk 4 hm with h | h | h
     ·have:=nT_big 4 (hnAB.inn 4 h);omega
     ·omega
     ·omega
   case g4=>
    rw[mem_singleton] at hq;subst hq;refine⟨mem_append_left _ (show 4∈[4,18,160,161] by decide),.box 25 [.c (.v (.slice none 0 0)),.c (.v (.slice none 0 0))],?_,?_⟩
    ·show Dl.app _ δ2 (H 4)=_;rw[Hf 4 rfl,hδe2];rfl
    ·exact⟨rfl,.inl rfl,.inl rfl,rfl⟩
   case g5=>
    have m:∀k∈[4,18,160,161]++nT,fnL (mR H ([4,18,160,161]++nT)) k=some (H k):=fun k hk=>mR_in hk;exact⟨⟨rfl,by rw[m 4 (by simp),Hf 4 rfl],rfl⟩,⟨rfl,by rw[m 18 (by simp),Hf 18 rfl],rfl⟩,trivial⟩
   refine Smc.of rfl ?_;have hR3:=nm_fam hn3;have look3:∀q∈famT es3 us3,hpL ([(4,.box 25 [.c (.v (.slice none 0 0)),.c (.v (.slice none 0 0))])]++(nearT 18 160 161 es3 us3++famT es3 us3)) q.1=some q.2:=fun q hq=>hR3.past (a:=[(4,.box 25 [.c (.v (.slice none 0 0)),.c (.v (.slice none 0 0))])]++nearT 18 160 161 es3 us3) rfl hq;((conv=>whnf);repeat' ((first|(with_reducible first|apply a_|apply b_|apply c_)|((with_reducible first|apply d_|apply e_|apply f_|apply g_|apply h_);first|omega|simp only[q_]<;>omega)|((with_reducible apply i_);first|omega|simp only[q_]<;>omega)|((with_reducible apply h_);first|decide|kernel_rfl)|refine s_ (by decide) ?_|refine t_ (by decide) ?_|with_reducible first|apply l_|apply m_|apply n_|apply o_|refine p_ (fun _=>?_) (fun _=>?_))<;>conv=>whnf));refine RowsC.mk (lvC (es3.map LE.val)) (clR_leaves fun e he=>⟨?i1,hok3 e he⟩) (Need.mk ?i2 ?_)
   case i1=>
    have hm:e.fam∈famT es3 us3:=mem_append_left _ (mem_map.2 ⟨e,he,rfl⟩);have hb:=(hR3.keys e.fam hm).1;repeat refine app_fam rfl hb ?_
    exact look3 e.fam hm
   case i2=>
    unfold lvC;rw[length_map,length_map];omega
   ((conv=>whnf);repeat' ((first|(with_reducible first|apply a_|apply b_|apply c_)|((with_reducible first|apply d_|apply e_|apply f_|apply g_|apply h_);first|omega|simp only[q_]<;>omega)|((with_reducible apply i_);first|omega|simp only[q_]<;>omega)|((with_reducible apply h_);first|decide|kernel_rfl)|refine s_ (by decide) ?_|refine t_ (by decide) ?_|with_reducible first|apply l_|apply m_|apply n_|apply o_|refine p_ (fun _=>?_) (fun _=>?_))<;>conv=>whnf));refine RowsC.mk (upC (us3.map Prod.snd)) (clR_levels fun q hq=>?i3) (Need.mk ?i4 ?_)
   case i3=>
    have hm:ufam q∈famT es3 us3:=mem_append_right _ (mem_map.2 ⟨q,hq,rfl⟩);have hb:=(hR3.keys (ufam q) hm).1;repeat refine app_fam rfl hb ?_
    exact look3 (ufam q) hm
   case i4=>
    unfold upC;rw[length_map,length_map];omega
   ((conv=>whnf);repeat' ((first|(with_reducible first|apply a_|apply b_|apply c_)|((with_reducible first|apply d_|apply e_|apply f_|apply g_|apply h_);first|omega|simp only[q_]<;>omega)|((with_reducible apply i_);first|omega|simp only[q_]<;>omega)|((with_reducible apply h_);first|decide|kernel_rfl)|refine s_ (by decide) ?_|refine t_ (by decide) ?_|with_reducible first|apply l_|apply m_|apply n_|apply o_|refine p_ (fun _=>?_) (fun _=>?_))<;>conv=>whnf));refine Ret.mk ?_;rw[hm3,drop_zero,drop_zero,take_of_length_le (by unfold lvC;rw[length_map,length_map];exact Nat.le_refl _),take_of_length_le (by unfold upC;rw[length_map,length_map];exact Nat.le_refl _)];show _=PV.tup [.agg [.c (.sl 1 (lvC _)),.c (.sl 1 (upI (intU _)))],pInt .i64 0];rw[upI_int];rfl
end
section
open Go.RowKit K
open Tr
theorem rg_seen {F:Fzn} {w:World} {sz:Nat} {rows:List (List C)} {u:Value} (h:CRep F w (.sl sz rows) u) (hz0:0<sz) (hlen:∀r∈rows,r.length=sz) (hlt:∀b o,F b o->b<w.heap.size) :
  ∃(a:Option Addr) (cap:Nat) (us:List Value),u=.slice a rows.length cap/\CsRep F w rows.flatten us/\
   ∀W:World,w.heap.size<=W.heap.size->(∀b o,F b o->W.heap[b]? = w.heap[b]?)->Seen W u rows.length sz us:=by
 unfold CRep at h;obtain⟨a,cap,rfl,c1,c2,c3,c4⟩:=h;rcases c4 with c4 | ⟨b,off,rfl,c5⟩
 ·obtain rfl:rows=[]:=c4;exact⟨a,cap,[],rfl,csRep_nil,fun W hle hW=>⟨by simp,a,cap,rfl,c1,c2,c3,.inl rfl⟩⟩
 ·obtain⟨_,c6⟩:=rowsAt_iff.1 c5;obtain⟨us,u1,u2,u3⟩:=csAt_values c6;have hfl:=flatten_len hlen;refine⟨_,cap,us,rfl,u1,fun W hle hW=>⟨by rw[u1.len];exact hfl,_,cap,rfl,c1,c2,c3,?_⟩⟩;by_cases hz:rows.length=0
  ·exact .inl hz
  ·have hp:0<rows.flatten.length:=by rw[hfl];exact Nat.mul_pos (by omega) hz0
   have hf0:=u3 0 hp;have hb1:=hlt _ _ hf0;refine .inr ⟨b,off,rfl,by omega,fun j u hu=>?_⟩;have:=u2 j u hu;unfold World.cell? at this ⊢;rw[hW b _ hf0];exact this
theorem rg_fz_box {c:Ctx} {σ:Sg} {h:Hp} {w:World} (hc:c.Ok) (hs:SW c σ h w) {b o g n k T:Nat} {l:List D} (hf:fz c σ h w b o) (hk:h k=some (.box T l)) (hσ:σ k=some (some g,n)):b≠g:=by
 rintro rfl;have hb:=hb_block (hs.hp k _ hk) hσ;rcases hf with ⟨f1,f2⟩ | ⟨f1,f2,f3⟩
 ·rcases hb.2 with q | q
  ·omega
  ·exact (hc.fz _ _ f2).2 q
 ·exact f3 k n _ hk hσ
theorem lvC_flat (L:List (List PairD)):(lvC L).flatten=L.map fun l=>C.sl 2 (l.map PairD.c):=by
 unfold lvC;induction L with
 | nil=>rfl|cons l L ih=>rw[map_cons,flatten_cons,ih];rfl
def pv2 (p:PairD):Value×Value:=(.string (tx p.Key),.int .i64 p.Id)
theorem pair_cells {F:Fzn} {w:World}:∀{l:List PairD} {us:List Value},CsRep F w (l.map PairD.c).flatten us->us=aFlat (l.map pv2)
 | [],us,h=>csRep_nil_inv h|p::l,us,h=>by
  have h:CsRep F w (.v (.string (tx p.Key))::.v (.int .i64 p.Id)::(l.map PairD.c).flatten) us:=h;obtain⟨u,vs,rfl,h1,h2⟩:=csRep_inv h;obtain⟨u2,vs2,rfl,h3,h4⟩:=csRep_inv h2;unfold CRep at h1 h3;rw[h1.1,h3.1,pair_cells h4];rfl
theorem leaf_list {F:Fzn} {w:World} (hlt:∀b o,F b o->b<w.heap.size):∀{L:List (List PairD)} {vs:List Value},CsRep F w (L.map fun l=>C.sl 2 (l.map PairD.c)) vs->
  ∃ls:List AL,ls.map Prod.fst=vs/\ls.map Prod.snd=L.map (fun l=>l.map pv2)/\∀W:World,w.heap.size<=W.heap.size->(∀b o,F b o->W.heap[b]? = w.heap[b]?)->∀l∈ls,Seen W l.1 l.2.length 2 (aFlat l.2)
 | [],vs,h=>⟨[],by rw[csRep_nil_inv h];rfl,rfl,fun _ _ _ l hl=>by cases hl⟩|l::L,vs,h=>by
  obtain⟨u,vs',rfl,h1,h2⟩:=csRep_inv h;obtain⟨ls,g1,g2,g3⟩:=leaf_list hlt h2;obtain⟨a,cap,us,e1,e2,e3⟩:=rg_seen h1 (by decide) (fun r hr=>by obtain⟨p,_,rfl⟩:=mem_map.1 hr;rfl) hlt;have e4:=pair_cells e2;subst e4;refine⟨(u,l.map pv2)::ls,by rw[map_cons,g1],by rw[map_cons,map_cons,g2],fun W hle hW x hx=>?_⟩;rcases mem_cons.1 hx with rfl | hx
  ·have:=e3 W hle hW;rw[length_map] at this ⊢;exact this
  ·exact g3 W hle hW x hx
abbrev pairP (p:PairD):PV:=.agg (p.c.map D.c)
theorem all_vals {ls:List AL} {L:List (List PairD)} (h:ls.map Prod.snd=L.map (fun l=>l.map pv2)):aAll ls=L.flatten.map fun p=>aVal (pv2 p):=by
 unfold aAll;rw[show (ls.flatMap fun l=>l.2.map aVal)=(ls.map Prod.snd).flatMap (fun l=>l.map aVal) by rw[List.flatMap_map],h,List.flatMap_map];induction L generalizing ls with
 | nil=>rfl|cons l L ih=>
  rw[flatMap_cons,flatten_cons,map_append]
  congr 1
  ·rw[map_map];rfl
  ·cases ls with
   | nil=>cases h
   | cons x ls=>
    rw[map_cons,map_cons] at h;exact ih (List.cons.inj h).2
theorem iter_all {N:Env->Hp->List Nat->Prop} {nt gt kb:Nat} {kn0:List Nat} {L:List (List PairD)} {U':D} (hN:∀e h n,N e h n->e gt=.d (.clo 69 [] [.ptr kb 0])/\h kb=some (.box 25 [.c (.sl 1 (lvC L)),U'])/\kb∉kn0/\∀k∈kn0,∃T l,h k=some (.box T l)) :
  IterAt Try.prog N nt gt 69 kn0 (L.flatten.map pairP):=by
 intro c σ e h n a w hc hNN hs;obtain⟨n1,n2,n3,n4⟩:=hN e h n hNN;have hg:=hs.env gt;rw[n1] at hg;unfold PRep DRep at hg;obtain⟨us0,cvs,e1,e2,e3⟩:=hg;have e4:=dsRep_nil_inv e2;subst e4;obtain⟨u1,v1,rfl,p1,e5⟩:=dsRep_inv e3;have e6:=dsRep_nil_inv e5;subst e6;unfold DRep at p1;obtain⟨g,m,s1,rfl⟩:=p1;obtain⟨g',n',cs,q1,q2,q3,q4⟩:=hs.hp kb _ n2;rw[s1] at q1;cases q1;obtain⟨va,vs,f1,f2,f3⟩:=dsRep_inv q4;unfold DRep at f2;have hlt:∀b o,fz c σ h w b o->b<w.heap.size:=fun b o hf=>fz_lt hs.toSW hf;obtain⟨aa,cap,vs1,rfl,r2,r3⟩:=rg_seen f2 (by decide) (fun r hr=>by unfold lvC at hr;obtain⟨l,_,rfl⟩:=mem_map.1 hr;rfl) hlt;rw[lvC_flat] at r2;obtain⟨ls,y1,y2,y3⟩:=leaf_list hlt r2;have hLl:(lvC L).length=L.length:=length_map _;have hval:=all_vals y2;refine⟨_,aAll ls,TAll g (lvC L).length cap aa ls,e1,by rw[hval,length_map,length_map],?_,all_any 5 g (lvC L).length cap aa ls ?_,?_⟩
 ·intro i u x hu hx;rw[hval,List.getElem?_map] at hu;rw[List.getElem?_map] at hx;cases hq:L.flatten[i]? with
  | none=>rw[hq] at hu;cases hu
  | some p=>
   rw[hq] at hu hx;simp only[map_some,Option.some.injEq] at hu hx;subst hu hx;unfold PRep;refine⟨_,rfl,dsRep_cons ?_ (dsRep_cons ?_ dsRep_nil)⟩
   ·unfold DRep CRep;exact⟨rfl,rfl⟩
   ·unfold DRep CRep;exact⟨rfl,rfl⟩
 ·intro l hl p hp;have hm:l.2∈ls.map Prod.snd:=mem_map.2 ⟨l,hl,rfl⟩;rw[y2] at hm;obtain⟨l0,_,e⟩:=mem_map.1 hm;rw[<- e] at hp;obtain⟨q,_,rfl⟩:=mem_map.1 hp;exact⟨rfl,rfl⟩
 ·intro W hle hW;have hgl:g<w.heap.size:=(Array.getElem?_eq_some_iff.1 q3).1;have hgne:∀k∈kn0,∀n,σ k≠some (some g,n):=fun k hk n hq=>by
   obtain⟨T,l,hb⟩:=n4 k hk;have:=hs.inj kb k g _ _ (by rw[n2];simp) (by rw[hb];simp) s1 hq;exact n3 (by rw[this];exact hk)
  have hfz:∀b o,fz c σ h w b o->W.heap[b]? = w.heap[b]?:=fun b o hf=>hW b (hlt b o hf) fun k hk n hq=>by
   obtain⟨T,l,hb⟩:=n4 k hk;exact rg_fz_box hc hs.toSW hf hb hq rfl
  refine⟨by rw[y1];exact r3 W hle hfz,?_,y3 W hle hfz⟩;rw[cell_of_row W g 0 cs _ (0,0) ((hW g hgl hgne).trans q3)];have:cs=(Value.slice aa (lvC L).length cap::vs).toArray:=by rw[<- Array.toArray_toList (xs:=cs),f1]
  rw[this];rfl
abbrev treeB (L:List (List PairD)) (U:List (List Int)):HB:=.box 25 [.c (.sl 1 (lvC L)),.c (.sl 1 (upI U))]
theorem s_all (L:List (List PairD)) (U:List (List Int)):CallS Try.prog 50 [trD ⟨L,U⟩] [] [] (.d (.clo 69 [] [.ptr NK 0])) [(NK,treeB L U)]:=by
 refine callS_of Try.func50 (by rfl) rfl (by kernel_rfl) (by rfl) [] rfl ?_;((conv=>whnf);repeat' ((first|(with_reducible first|apply a_|apply b_|apply c_)|((with_reducible first|apply d_|apply e_|apply f_|apply g_|apply h_);first|omega|simp only[q_]<;>omega)|((with_reducible apply i_);first|omega|simp only[q_]<;>omega)|((with_reducible apply h_);first|decide|kernel_rfl)|refine s_ (by decide) ?_|refine t_ (by decide) ?_|with_reducible first|apply l_|apply m_|apply n_|apply o_|refine p_ (fun _=>?_) (fun _=>?_))<;>conv=>whnf));exact RetS.mk [(NK,1)] [NK] rfl rfl ⟨rfl,rfl,⟨rfl,rfl,rfl⟩,rfl⟩ ⟨⟨rfl,rfl,.inl rfl,.inl rfl,rfl⟩,trivial⟩
abbrev pT:Nat:=41
abbrev plT:Nat:=44
def apR (ps:List PairD):Rf:=[(2,.box plT [.app 60 pT 2 (ps.map PairD.c)]),(60,.tail pT 2)]
def apR' (ps:List PairD):Rf:=[(2,.box plT [.app 61 pT 2 (ps.map PairD.c)]),(61,.tail pT 2)]
abbrev nilS:D:=.c (.v (.slice none 0 0))
set_option maxHeartbeats 4000000 in
theorem s_appendseq (L:List (List PairD)) (U:List (List Int)) (hL:L.flatten.length<=1000) :
  CallS Try.prog 70 [.d nilS,.d (.clo 69 [] [.ptr FK 0])] [(FK,treeB L U)] [] (.d (.app NK pT 2 (L.flatten.map PairD.c))) [(NK,.tail pT 2)]:=by
 obtain⟨P0,hP0⟩:∃P0,P0=L.flatten:=⟨_,rfl⟩;rw[<- hP0] at hL ⊢;refine callS_range (pre:=[_]) (bid:=0) (gt:=6) (p:=7) (kb:=5) (gf:=69) (rd:=[]) (r0:=[(2,.box plT [nilS])]) (R:=fun i=>apR (P0.take i)) (RF:=apR P0) (le:=[(2,.d (.ptr 2 0))])
  (lA:=fun x=>[(2,.d (.ptr 2 0)),(5,.d (.ptr 5 0))]) (bA:=fun x=>match x with | .agg l=>.box pT l | _=>.box pT []) (xs:=P0.map pairP) (kn0:=[2]) (kn:=[2,60]) (kn1:=[2,60,5]) (ks2:=[2,60,5,61]) (f0:=[(2,2)])
  (knP:=[FK,2,60]) (ksP:=[FK,2,60]) (leP:=[(2,.d (.ptr 2 0))]) (leR:=[(4,.d (.app 60 pT 2 (P0.map PairD.c)))]) (HP:=(FK,treeB L U)::apR P0) (outR:=[(FK,treeB L U),(60,.tail pT 2)])
  Try.func70 rfl (by rfl) rfl (by rfl) rfl [FK] (fun k hk=>hk)
  (fun e h n=>e 6=.d (.clo 69 [] [.ptr FK 0])/\e 2=.d (.ptr 2 0)/\h FK=some (treeB L U)/\h 2=some (.box plT [nilS])/\kin 60 n=false)
  (enters_of Try.func69 (by kernel_rfl) rfl) ?hit ?hN ?hnm ?hok ?hRF rfl rfl ?hh0 rfl rfl ?hasg ?hrb ?hwP ?hP ?hv
 case hit=>
  rw[hP0];refine iter_all (kb:=FK) (U':=.c (.sl 1 (upI U))) fun e h n hN=>⟨hN.1,hN.2.2.1,by decide,fun k hk=>?_⟩;rw[mem_singleton] at hk;subst hk;exact⟨_,_,hN.2.2.2.1⟩
 case hN=>
  rintro e h n ⟨n1,n2,n3,n4,n5⟩;refine⟨fun q hq=>?_,fun k hk hk0=>?_,fun q hq=>?_⟩
  ·rw[nil_append,mem_singleton] at hq;subst hq;exact n4
  ·simp only[mem_cons,not_mem_nil,or_false] at hk hk0;rcases hk with rfl | rfl
   ·exact absurd rfl hk0
   ·exact n5
  ·rw[mem_singleton] at hq;subst hq;exact n2
 case hnm=>exact⟨rfl,by decide,by decide,by decide,rfl,rfl,rfl,⟨_,_,_,rfl,rfl,rfl,rfl⟩,rfl,fun x hx=>by obtain⟨p,_,rfl⟩:=mem_map.1 hx;rfl⟩
 case hok=>
  intro i hi;refine⟨rfl,rfl,rfl,⟨_,_,_,rfl,rfl,rfl,_,_,_,rfl,rfl,rfl,rfl⟩,⟨_,_,_,rfl,rfl,rfl,_,_,_,rfl,rfl,rfl,rfl⟩,rfl,?_,?_,?_,?_,?_,?_,?_⟩;all_goals (intro x hx;obtain⟨p,_,rfl⟩:=mem_map.1 hx)
  ·rfl
  ·rfl
  ·rfl
  ·exact⟨_,_,_,rfl,rfl,rfl,_,_,_,rfl,rfl,rfl,_,_,_,rfl,rfl,rfl,rfl⟩
  ·exact⟨_,_,_,rfl,rfl,rfl,_,_,_,rfl,rfl,rfl,_,_,_,rfl,rfl,rfl,rfl⟩
  ·rfl
  ·rfl
 case hRF=>rw[length_map,take_of_length_le (Nat.le_refl _)]
 case hh0=>exact⟨⟨rfl,rfl,⟨rfl,rfl,zero_lt_succ _,rfl,rfl⟩,rfl⟩,⟨rfl,zero_lt_succ _⟩,trivial⟩
 case hasg=>
  intro i x hx;obtain⟨p,hp⟩:∃p,x=pairP p:=by
   rw[List.getElem?_map] at hx;cases hq:P0[i]? with
   | none=>rw[hq] at hx;cases hx
   | some p=>rw[hq] at hx;exact⟨p,(Option.some.inj hx).symm⟩
  subst hp;((conv=>whnf);repeat' ((first|(with_reducible first|apply a_|apply b_|apply c_)|((with_reducible first|apply d_|apply e_|apply f_|apply g_|apply h_);first|omega|simp only[q_]<;>omega)|((with_reducible apply i_);first|omega|simp only[q_]<;>omega)|((with_reducible apply h_);first|decide|kernel_rfl)|refine s_ (by decide) ?_|refine t_ (by decide) ?_|with_reducible first|apply l_|apply m_|apply n_|apply o_|refine p_ (fun _=>?_) (fun _=>?_))<;>conv=>whnf));exact⟨[2,60,5],⟨[(2,2),(60,60),(5,5)],rfl,rfl,⟨⟨rfl,rfl,rfl⟩,⟨rfl,rfl,rfl⟩,trivial⟩,⟨⟨rfl,rfl,⟨rfl,rfl,rfl,rfl,rfl⟩,rfl⟩,⟨rfl,rfl,rfl⟩,⟨rfl,rfl,.inl rfl,.inl rfl,rfl⟩,trivial⟩⟩⟩
 case hrb=>
  intro i x hx;obtain⟨p,hq,hp⟩:∃p,P0[i]? = some p/\x=pairP p:=by
   rw[List.getElem?_map] at hx;cases hq:P0[i]? with
   | none=>rw[hq] at hx;cases hx
   | some p=>rw[hq] at hx;exact⟨p,rfl,(Option.some.inj hx).symm⟩
  subst hp;have hts:P0.take (i+1)=P0.take i++[p]:=by
   obtain⟨hi,e⟩:=List.getElem?_eq_some_iff.1 hq;rw[List.take_succ_eq_append_getElem hi,e]
  rw[hts];have n2:(((P0.take i).map PairD.c).length+1)*24<=140737488355328:=by rw[length_map,length_take];omega
  generalize P0.take i=ps at n2 ⊢;((conv=>whnf);repeat' ((first|(with_reducible first|apply a_|apply b_|apply c_)|((with_reducible first|apply d_|apply e_|apply f_|apply g_|apply h_);first|omega|simp only[q_]<;>omega)|((with_reducible apply i_);first|omega|simp only[q_]<;>omega)|((with_reducible apply h_);first|decide|kernel_rfl)|refine s_ (by decide) ?_|refine t_ (by decide) ?_|(refine Need.by1 24 rfl n2 ?_)|with_reducible first|apply l_|apply m_|apply n_|apply o_|refine p_ (fun _=>?_) (fun _=>?_))<;>conv=>whnf));refine⟨apR' (ps++[p]),[2,60,5,61],[(2,2),(60,61)],⟨[(2,2),(60,60),(5,5),(61,11)],rfl,rfl,trivial,?_⟩,rfl,?_,rfl,rfl,?_⟩
  ·unfold apR';rw[map_append];exact⟨⟨rfl,rfl,⟨rfl,rfl,rfl,rfl,rfl⟩,rfl⟩,⟨rfl,rfl,rfl⟩,trivial⟩
  ·exact⟨_,_,_,rfl,rfl,rfl,_,_,_,rfl,rfl,rfl,rfl⟩
  ·exact⟨⟨rfl,rfl,⟨rfl,rfl,rfl,rfl,rfl⟩,rfl⟩,⟨rfl,rfl,rfl⟩,trivial⟩
 case hwP=>
  rintro e h n ⟨n1,n2,n3,n4,n5⟩;have n3':Dl.app h (deltaOf [(2,.box plT [nilS])] (apR P0)) FK=some (treeB L U):=n3;refine⟨[(FK,FK),(2,2),(60,60)],rfl,rfl,⟨?_,trivial⟩,⟨rfl,kle_of rfl n3' ⟨rfl,.inl rfl,.inl rfl,rfl⟩⟩,⟨rfl,kle_of rfl rfl ⟨rfl,⟨rfl,rfl,rfl,rfl,rfl⟩,rfl⟩⟩,⟨rfl,kle_of rfl rfl ⟨rfl,rfl⟩⟩,trivial⟩;rw[n2];exact⟨rfl,rfl,rfl⟩
 case hP=>
  refine⟨?_,rfl,rfl,by decide,rfl,?_,rfl,rfl,?_,rfl,?_⟩
  ·((conv=>whnf);repeat' ((first|(with_reducible first|apply a_|apply b_|apply c_)|((with_reducible first|apply d_|apply e_|apply f_|apply g_|apply h_);first|omega|simp only[q_]<;>omega)|((with_reducible apply i_);first|omega|simp only[q_]<;>omega)|((with_reducible apply h_);first|decide|kernel_rfl)|refine s_ (by decide) ?_|refine t_ (by decide) ?_|with_reducible first|apply l_|apply m_|apply n_|apply o_|refine p_ (fun _=>?_) (fun _=>?_))<;>conv=>whnf));exact⟨[FK,2,60],⟨[(FK,FK),(2,2),(60,60)],rfl,rfl,⟨⟨rfl,rfl,rfl,rfl,rfl⟩,trivial⟩,⟨⟨rfl,rfl,.inl rfl,.inl rfl,rfl⟩,⟨rfl,rfl,rfl⟩,trivial⟩⟩⟩
  ·exact⟨_,_,_,rfl,rfl,rfl,_,_,_,rfl,rfl,rfl,_,_,_,rfl,rfl,rfl,rfl⟩
  ·exact⟨_,_,_,rfl,rfl,rfl,_,_,_,rfl,rfl,rfl,rfl⟩
  ·((conv=>whnf);repeat' ((first|(with_reducible first|apply a_|apply b_|apply c_)|((with_reducible first|apply d_|apply e_|apply f_|apply g_|apply h_);first|omega|simp only[q_]<;>omega)|((with_reducible apply i_);first|omega|simp only[q_]<;>omega)|((with_reducible apply h_);first|decide|kernel_rfl)|refine s_ (by decide) ?_|refine t_ (by decide) ?_|with_reducible first|apply l_|apply m_|apply n_|apply o_|refine p_ (fun _=>?_) (fun _=>?_))<;>conv=>whnf));exact RetS.mk [(FK,FK),(NK,60)] [FK,NK] rfl rfl ⟨rfl,rfl,rfl,rfl,rfl⟩ ⟨⟨rfl,rfl,.inl rfl,.inl rfl,rfl⟩,⟨rfl,rfl,rfl⟩,trivial⟩
 case hv=>
  ((conv=>whnf);repeat' ((first|(with_reducible first|apply a_|apply b_|apply c_)|((with_reducible first|apply d_|apply e_|apply f_|apply g_|apply h_);first|omega|simp only[q_]<;>omega)|((with_reducible apply i_);first|omega|simp only[q_]<;>omega)|((with_reducible apply h_);first|decide|kernel_rfl)|refine s_ (by decide) ?_|refine t_ (by decide) ?_|with_reducible first|apply l_|apply m_|apply n_|apply o_|refine p_ (fun _=>?_) (fun _=>?_))<;>conv=>whnf));exact⟨rfl,rfl,rfl,rfl,rfl⟩
theorem s_collect (L:List (List PairD)) (U:List (List Int)) (hL:L.flatten.length<=1000) :
  CallS Try.prog 51 [.d (.clo 69 [] [.ptr FK 0])] [(FK,treeB L U)] [] (.d (.app NK pT 2 (L.flatten.map PairD.c))) [(NK,.tail pT 2)]:=by
 have sa:=s_appendseq L U hL;refine callS_of Try.func51 (by rfl) rfl (by kernel_rfl) (by rfl) [FK] rfl ?_;((conv=>whnf);repeat' ((first|(with_reducible first|apply a_|apply b_|apply c_)|((with_reducible first|apply d_|apply e_|apply f_|apply g_|apply h_);first|omega|simp only[q_]<;>omega)|((with_reducible apply i_);first|omega|simp only[q_]<;>omega)|((with_reducible apply h_);first|decide|kernel_rfl)|refine s_ (by decide) ?_|refine t_ (by decide) ?_|(refine CallP.ret [(FK,FK),(NK,4)] _ _ _ _ _ _ _ sa rfl rfl rfl rfl ⟨rfl,trivial⟩ ?_)|with_reducible first|apply l_|apply m_|apply n_|apply o_|refine p_ (fun _=>?_) (fun _=>?_))<;>conv=>whnf));exact RetS.mk [(FK,FK),(NK,4)] [FK,NK] rfl rfl ⟨rfl,rfl,rfl,rfl,rfl⟩ ⟨⟨rfl,rfl,.inl rfl,.inl rfl,rfl⟩,⟨rfl,rfl,rfl⟩,trivial⟩
def listF (t:TreeD):List PairD:=if chkD t≠0 then [] else t.Leaves.flatten
theorem p_List (t:TreeD) (h:DataOk t):Pure Try.prog 26 [trD t] (.tup [.d (.c (.sl 2 ((listF t).map PairD.c))),pInt .i64 (chkD t)]):=by
 have pc:=p_treecheck t h;refine pure_of Try.func26 (by rfl) rfl (by kernel_rfl) (by rfl) ?_;by_cases c1:chkD t≠0
 ·rw[show listF t=[] from if_pos c1];((conv=>whnf);repeat' ((first|(with_reducible first|apply a_|apply b_|apply c_)|((with_reducible first|apply d_|apply e_|apply f_|apply g_|apply h_);first|omega|simp only[q_]<;>omega)|((with_reducible apply i_);first|omega|simp only[q_]<;>omega)|((with_reducible apply h_);first|decide|kernel_rfl)|refine s_ (by decide) ?_|refine t_ (by decide) ?_|refine r_ pc rfl ?_|with_reducible first|apply l_|apply m_|apply n_|apply o_|refine p_ (fun _=>?_) (fun _=>?_))<;>conv=>whnf));all_goals first|exact Ret.le ⟨.inr ⟨⟨2,rfl⟩,.inl rfl⟩,.inl rfl,rfl⟩|(exfalso;omega)|skip
 ·have c1:chkD t=0:=Decidable.of_not_not c1;obtain⟨U,hU,hok⟩:=chk_ok c1;have hcnt:=hok.count;have sa:=s_all t.Leaves t.Up;have sc:=s_collect t.Leaves t.Up (by omega);rw[show listF t=t.Leaves.flatten from if_neg (not_not_intro c1)];rw[c1] at pc ⊢;((conv=>whnf);repeat' ((first|(with_reducible first|apply a_|apply b_|apply c_)|((with_reducible first|apply d_|apply e_|apply f_|apply g_|apply h_);first|omega|simp only[q_]<;>omega)|((with_reducible apply i_);first|omega|simp only[q_]<;>omega)|((with_reducible apply h_);first|decide|kernel_rfl)|refine s_ (by decide) ?_|refine t_ (by decide) ?_|refine r_ pc rfl ?_|(refine CallP.ret [(NK,11)] _ _ _ _ _ _ _ sa rfl rfl rfl rfl trivial ?_)|(refine CallP.ret [(FK,11),(NK,12)] _ _ _ _ _ _ _ sc rfl rfl rfl rfl ⟨rfl,trivial⟩ ?_)|with_reducible first|apply l_|apply m_|apply n_|apply o_|refine p_ (fun _=>?_) (fun _=>?_))<;>conv=>whnf));all_goals first|exact Ret.mk rfl|(exfalso;omega)|skip
end
section
open Go.RowKit K
open Tr
def inF (low high:List UInt8) (p:PairD):Bool:=!decide (p.Key<low)&&!decide (high<p.Key)
def rangeF (t:TreeD) (low high:List UInt8):List PairD:=if chkD t≠0 then [] else t.Leaves.flatten.filter (inF low high)
theorem filter_snoc {α:Type} (f:α->Bool) (l:List α) {i:Nat} {x:α} (h:l[i]? = some x):(l.take (i+1)).filter f=(l.take i).filter f++(if f x=true then [x] else []):=by
 obtain⟨hi,e⟩:=List.getElem?_eq_some_iff.1 h;rw[List.take_succ_eq_append_getElem hi,e,filter_append]
 congr 1
 by_cases hf:f x=true
 ·rw[if_pos hf,filter_cons_of_pos hf];rfl
 ·rw[if_neg hf,filter_cons_of_neg (by simpa using hf)];rfl
theorem range_cut {l:List PairD} (h:Asc l) {low high:List UInt8} {i:Nat} {x:PairD} (hx:l[i]? = some x) (hh:high<x.Key):l.filter (inF low high)=(l.take i).filter (inF low high):=by
 obtain⟨hi,e⟩:=List.getElem?_eq_some_iff.1 hx;conv=>lhs;rw[<- take_append_drop i l,filter_append]
 rw[show (l.drop i).filter (inF low high)=[] from ?_,List.append_nil];refine filter_eq_nil_iff.2 fun q hq=>?_;have hqx:high<q.Key:=by
  rw[List.drop_eq_getElem_cons hi] at hq;rcases mem_cons.1 hq with rfl | hq
  ·rw[e];exact hh
  ·have hp:(l[i]::l.drop (i+1)).Pairwise fun a b=>a.Key<b.Key:=by
    rw[<- List.drop_eq_getElem_cons hi];exact List.Pairwise.sublist (List.drop_sublist _ _) h
   have:=(pairwise_cons.1 hp).1 q hq;rw[e] at this;exact List.lt_trans hh this
 unfold inF;rw[decide_eq_true hqx];simp
def rgR (ps:List PairD):Rf:=[(9,.box plT [.app 60 pT 2 (ps.map PairD.c)]),(60,.tail pT 2)]
def rgD (low high:List UInt8):Rf:=[(4,.box 9 [.c (.v (.string (tx low)))]),(5,.box 9 [.c (.v (.string (tx high)))])]
def rgO (low high:List UInt8) (ps:List PairD):Rf:=rgD low high++[(9,.box plT [.app 61 pT 2 (ps.map PairD.c)]),(61,.tail pT 2)]
abbrev le3:List (Nat×PV):=[(4,.d (.ptr 4 0)),(5,.d (.ptr 5 0)),(9,.d (.ptr 9 0))]
set_option maxHeartbeats 4000000 in
theorem s_Range (t:TreeD) (h:DataOk t) (hc:chkD t=0) (low high:List UInt8) :
  CallS Try.prog 25 [trD t,pStr (tx low),pStr (tx high)] [] [] (.tup [.d (.app NK pT 2 ((t.Leaves.flatten.filter (inF low high)).map PairD.c)),pInt .i64 0]) [(NK,.tail pT 2)]:=by
 have pc:=p_treecheck t h;rw[hc] at pc;obtain⟨U,hU,hok⟩:=chk_ok hc;have hcnt:=hok.count;have hasc:=hok.asc;have sa:=s_all t.Leaves t.Up;obtain⟨P0,hP0⟩:∃P0,P0=t.Leaves.flatten:=⟨_,rfl⟩;rw[<- hP0] at hcnt hasc ⊢;refine callS_range (pre:=[_,_,_]) (bid:=0) (gt:=17) (p:=18) (kb:=10) (gf:=69) (rd:=rgD low high) (r0:=[(9,.box plT [nilS])]) (R:=fun i=>rgR ((P0.take i).filter (inF low high))) (RF:=rgR (P0.filter (inF low high))) (le:=le3)
  (lA:=fun x=>le3++[(10,.d (.ptr 10 0))]) (bA:=fun x=>match x with | .agg l=>.box pT l | _=>.box pT []) (xs:=P0.map pairP) (kn0:=[4,5,9]) (kn:=[4,5,9,60]) (kn1:=[4,5,9,60,10]) (ks2:=[4,5,9,60,10,61]) (f0:=[(4,4),(5,5),(9,9)])
  (knP:=[9,60]) (ksP:=[9,60]) (leP:=[(9,.d (.ptr 9 0))]) (leR:=[(6,.d (.app 60 pT 2 ((P0.filter (inF low high)).map PairD.c))),(7,pInt .i64 0)]) (HP:=rgR (P0.filter (inF low high))) (outR:=[(60,.tail pT 2)])
  Try.func25 rfl (by rfl) rfl (by rfl) rfl [] (fun k hk=>hk)
  (fun e h n=>e 17=.d (.clo 69 [] [.ptr 17 0])/\(e 4=.d (.ptr 4 0)/\e 5=.d (.ptr 5 0)/\e 9=.d (.ptr 9 0))/\h 17=some (treeB t.Leaves t.Up)/\(h 4=some (.box 9 [.c (.v (.string (tx low)))])/\h 5=some (.box 9 [.c (.v (.string (tx high)))])/\h 9=some (.box plT [nilS]))/\kin 60 n=false)
  (enters_of Try.func69 (by kernel_rfl) rfl) ?hit ?hN ?hnm ?hok ?hRF rfl rfl ?hh0 rfl rfl ?hasg ?hrb ?hwP ?hP ?hv
 case hit=>
  rw[hP0];refine iter_all (kb:=17) (U':=.c (.sl 1 (upI t.Up))) fun e h n hN=>⟨hN.1,hN.2.2.1,by decide,fun k hk=>?_⟩;simp only[mem_cons,not_mem_nil,or_false] at hk;rcases hk with rfl | rfl | rfl
  ·exact⟨_,_,hN.2.2.2.1.1⟩
  ·exact⟨_,_,hN.2.2.2.1.2.1⟩
  ·exact⟨_,_,hN.2.2.2.1.2.2⟩
 case hN=>
  rintro e h n ⟨n1,⟨n2,n21,n22⟩,n3,⟨n4,n41,n42⟩,n5⟩;refine⟨fun q hq=>?_,fun k hk hk0=>?_,fun q hq=>?_⟩
  ·have hq:q∈[(4,HB.box 9 [D.c (.v (.string (tx low)))]),(5,.box 9 [.c (.v (.string (tx high)))]),(9,.box plT [nilS])]:=hq;simp only[mem_cons,not_mem_nil,or_false] at hq;rcases hq with rfl | rfl | rfl
   ·exact n4
   ·exact n41
   ·exact n42
  ·simp only[mem_cons,not_mem_nil,or_false] at hk hk0;rcases hk with rfl | rfl | rfl | rfl
   ·simp at hk0
   ·simp at hk0
   ·simp at hk0
   ·exact n5
  ·simp only[mem_cons,not_mem_nil,or_false] at hq;rcases hq with rfl | rfl | rfl
   ·exact n2
   ·exact n21
   ·exact n22
 case hnm=>exact⟨rfl,by decide,by decide,by decide,rfl,rfl,⟨_,_,_,rfl,rfl,rfl,_,_,_,rfl,rfl,rfl,rfl⟩,⟨_,_,_,rfl,rfl,rfl,rfl⟩,rfl,fun x hx=>by obtain⟨p,_,rfl⟩:=mem_map.1 hx;rfl⟩
 case hok=>
  intro i hi;refine⟨rfl,rfl,rfl,⟨_,_,_,rfl,rfl,rfl,_,_,_,rfl,rfl,rfl,rfl⟩,⟨_,_,_,rfl,rfl,rfl,_,_,_,rfl,rfl,rfl,_,_,_,rfl,rfl,rfl,_,_,_,rfl,rfl,rfl,rfl⟩,rfl,?_,?_,?_,?_,?_,?_,?_⟩;all_goals (intro x hx;obtain⟨p,_,rfl⟩:=mem_map.1 hx)
  ·rfl
  ·rfl
  ·rfl
  ·exact⟨_,_,_,rfl,rfl,rfl,_,_,_,rfl,rfl,rfl,_,_,_,rfl,rfl,rfl,_,_,_,rfl,rfl,rfl,_,_,_,rfl,rfl,rfl,rfl⟩
  ·exact⟨_,_,_,rfl,rfl,rfl,_,_,_,rfl,rfl,rfl,_,_,_,rfl,rfl,rfl,_,_,_,rfl,rfl,rfl,_,_,_,rfl,rfl,rfl,rfl⟩
  ·rfl
  ·rfl
 case hRF=>rw[length_map,take_of_length_le (Nat.le_refl _)]
 case hh0=>exact⟨⟨rfl,rfl,.inl rfl,rfl⟩,⟨rfl,rfl,.inl rfl,rfl⟩,⟨rfl,rfl,⟨rfl,rfl,zero_lt_succ _,rfl,rfl⟩,rfl⟩,⟨rfl,zero_lt_succ _⟩,trivial⟩
 case hasg=>
  intro i x hx;obtain⟨p,hp⟩:∃p,x=pairP p:=by
   rw[List.getElem?_map] at hx;cases hq:P0[i]? with
   | none=>rw[hq] at hx;cases hx
   | some p=>rw[hq] at hx;exact⟨p,(Option.some.inj hx).symm⟩
  subst hp;((conv=>whnf);repeat' ((first|(with_reducible first|apply a_|apply b_|apply c_)|((with_reducible first|apply d_|apply e_|apply f_|apply g_|apply h_);first|omega|simp only[q_]<;>omega)|((with_reducible apply i_);first|omega|simp only[q_]<;>omega)|((with_reducible apply h_);first|decide|kernel_rfl)|refine s_ (by decide) ?_|refine t_ (by decide) ?_|with_reducible first|apply l_|apply m_|apply n_|apply o_|refine p_ (fun _=>?_) (fun _=>?_))<;>conv=>whnf));exact⟨[4,5,9,60,10],⟨[(4,4),(5,5),(9,9),(60,60),(10,10)],rfl,rfl,⟨⟨rfl,rfl,rfl⟩,⟨rfl,rfl,rfl⟩,⟨rfl,rfl,rfl⟩,⟨rfl,rfl,rfl⟩,trivial⟩,⟨⟨rfl,rfl,.inl rfl,rfl⟩,⟨rfl,rfl,.inl rfl,rfl⟩,⟨rfl,rfl,⟨rfl,rfl,rfl,rfl,rfl⟩,rfl⟩,⟨rfl,rfl,rfl⟩,⟨rfl,rfl,.inl rfl,.inl rfl,rfl⟩,trivial⟩⟩⟩
 case hrb=>
  intro i x hx;obtain⟨p,hq,hp⟩:∃p,P0[i]? = some p/\x=pairP p:=by
   rw[List.getElem?_map] at hx;cases hq:P0[i]? with
   | none=>rw[hq] at hx;cases hx
   | some p=>rw[hq] at hx;exact⟨p,rfl,(Option.some.inj hx).symm⟩
  subst hp;rw[filter_snoc _ _ hq];have hcut:=range_cut hasc (low:=low) (high:=high) hq;have hlen:((P0.take i).filter (inF low high)).length<=64:=by
   have:=length_filter_le (inF low high) (P0.take i);rw[length_take] at this;omega
  generalize hps:(P0.take i).filter (inF low high)=ps at hlen hcut ⊢;have n2:((ps.map PairD.c).length+1)*24<=140737488355328:=by rw[length_map];omega
  by_cases c1:p.Key<low
  ·have b1:Op.bytesLess (tx p.Key).toList (tx low).toList=true:=by rw[less_tx];exact decide_eq_true c1
   have hf:inF low high p=false:=by unfold inF;rw[decide_eq_true c1];rfl
   rw[hf];rw[if_neg (by decide),List.append_nil];((conv=>whnf);repeat' ((first|(with_reducible first|apply a_|apply b_|apply c_)|((with_reducible first|apply d_|apply e_|apply f_|apply g_|apply h_);first|omega|simp only[q_]<;>omega)|((with_reducible apply i_);first|omega|simp only[q_]<;>omega)|((with_reducible apply h_);first|decide|kernel_rfl)|refine s_ (by decide) ?_|refine t_ (by decide) ?_|(refine BCase.t b1 ?_)|with_reducible first|apply l_|apply m_|apply n_|apply o_|refine p_ (fun _=>?_) (fun _=>?_))<;>conv=>whnf));refine⟨rgO low high ps,[4,5,9,60,10,61],[(4,4),(5,5),(9,9),(60,61)],⟨[(4,4),(5,5),(9,9),(60,60),(10,10),(61,60)],rfl,rfl,trivial,?_⟩,rfl,?_,rfl,rfl,?_⟩
   ·exact⟨⟨rfl,rfl,.inl rfl,rfl⟩,⟨rfl,rfl,.inl rfl,rfl⟩,⟨rfl,rfl,⟨rfl,rfl,rfl,rfl,rfl⟩,rfl⟩,⟨rfl,rfl,rfl⟩,trivial⟩
   ·exact⟨_,_,_,rfl,rfl,rfl,_,_,_,rfl,rfl,rfl,_,_,_,rfl,rfl,rfl,_,_,_,rfl,rfl,rfl,rfl⟩
   ·exact⟨⟨rfl,rfl,.inl rfl,rfl⟩,⟨rfl,rfl,.inl rfl,rfl⟩,⟨rfl,rfl,⟨rfl,rfl,rfl,rfl,rfl⟩,rfl⟩,⟨rfl,rfl,rfl⟩,trivial⟩
  ·have b1:Op.bytesLess (tx p.Key).toList (tx low).toList=false:=by rw[less_tx];exact decide_eq_false c1
   by_cases c2:high<p.Key
   ·have b2:Op.bytesLess (tx p.Key).toList (tx high).toList=false:=by rw[less_tx];exact decide_eq_false (lt_asym c2)
    have b3:¬tx p.Key=tx high:=fun e=>lt_irr high (by rw[tx_eq] at e;rw[e] at c2;exact c2);rw[hcut c2];((conv=>whnf);repeat' ((first|(with_reducible first|apply a_|apply b_|apply c_)|((with_reducible first|apply d_|apply e_|apply f_|apply g_|apply h_);first|omega|simp only[q_]<;>omega)|((with_reducible apply i_);first|omega|simp only[q_]<;>omega)|((with_reducible apply h_);first|decide|kernel_rfl)|refine s_ (by decide) ?_|refine t_ (by decide) ?_|(first|refine BCase.f b1 ?_|refine BCase.f b2 ?_|refine BCase.df b3 ?_)|with_reducible first|apply l_|apply m_|apply n_|apply o_|refine p_ (fun _=>?_) (fun _=>?_))<;>conv=>whnf));refine⟨rfl,rgO low high ps,[4,5,9,60,10,61],[(4,4),(5,5),(9,9),(60,61)],⟨[(4,4),(5,5),(9,9),(60,60),(10,10),(61,60)],rfl,rfl,trivial,?_⟩,rfl,?_,rfl,rfl,?_⟩
    ·exact⟨⟨rfl,rfl,.inl rfl,rfl⟩,⟨rfl,rfl,.inl rfl,rfl⟩,⟨rfl,rfl,⟨rfl,rfl,rfl,rfl,rfl⟩,rfl⟩,⟨rfl,rfl,rfl⟩,trivial⟩
    ·exact⟨_,_,_,rfl,rfl,rfl,_,_,_,rfl,rfl,rfl,_,_,_,rfl,rfl,rfl,_,_,_,rfl,rfl,rfl,rfl⟩
    ·exact⟨⟨rfl,rfl,.inl rfl,rfl⟩,⟨rfl,rfl,.inl rfl,rfl⟩,⟨rfl,rfl,⟨rfl,rfl,rfl,rfl,rfl⟩,rfl⟩,⟨rfl,rfl,rfl⟩,trivial⟩
   ·have hf:inF low high p=true:=by unfold inF;rw[decide_eq_false c1,decide_eq_false c2];rfl
    rw[if_pos hf];have b4:(Op.bytesLess (tx p.Key).toList (tx high).toList=true)\/(Op.bytesLess (tx p.Key).toList (tx high).toList=false/\tx p.Key=tx high):=by
     rw[less_tx,tx_eq];rcases lt_tri p.Key high with h | h | h
     ·exact .inl (decide_eq_true h)
     ·exact .inr ⟨decide_eq_false (by rw[h];exact lt_irr _),h⟩
     ·exact absurd h c2
    rcases b4 with b2 | ⟨b2,b3⟩
    ·((conv=>whnf);repeat' ((first|(with_reducible first|apply a_|apply b_|apply c_)|((with_reducible first|apply d_|apply e_|apply f_|apply g_|apply h_);first|omega|simp only[q_]<;>omega)|((with_reducible apply i_);first|omega|simp only[q_]<;>omega)|((with_reducible apply h_);first|decide|kernel_rfl)|refine s_ (by decide) ?_|refine t_ (by decide) ?_|(first|refine BCase.f b1 ?_|refine BCase.t b2 ?_|refine Need.by1 24 rfl n2 ?_)|with_reducible first|apply l_|apply m_|apply n_|apply o_|refine p_ (fun _=>?_) (fun _=>?_))<;>conv=>whnf));refine⟨rgO low high (ps++[p]),[4,5,9,60,10,61],[(4,4),(5,5),(9,9),(60,61)],⟨[(4,4),(5,5),(9,9),(60,60),(10,10),(61,30)],rfl,rfl,trivial,?_⟩,rfl,?_,rfl,rfl,?_⟩
     ·unfold rgO;rw[map_append];exact⟨⟨rfl,rfl,.inl rfl,rfl⟩,⟨rfl,rfl,.inl rfl,rfl⟩,⟨rfl,rfl,⟨rfl,rfl,rfl,rfl,rfl⟩,rfl⟩,⟨rfl,rfl,rfl⟩,trivial⟩
     ·exact⟨_,_,_,rfl,rfl,rfl,_,_,_,rfl,rfl,rfl,_,_,_,rfl,rfl,rfl,_,_,_,rfl,rfl,rfl,rfl⟩
     ·exact⟨⟨rfl,rfl,.inl rfl,rfl⟩,⟨rfl,rfl,.inl rfl,rfl⟩,⟨rfl,rfl,⟨rfl,rfl,rfl,rfl,rfl⟩,rfl⟩,⟨rfl,rfl,rfl⟩,trivial⟩
    ·((conv=>whnf);repeat' ((first|(with_reducible first|apply a_|apply b_|apply c_)|((with_reducible first|apply d_|apply e_|apply f_|apply g_|apply h_);first|omega|simp only[q_]<;>omega)|((with_reducible apply i_);first|omega|simp only[q_]<;>omega)|((with_reducible apply h_);first|decide|kernel_rfl)|refine s_ (by decide) ?_|refine t_ (by decide) ?_|(first|refine BCase.f b1 ?_|refine BCase.f b2 ?_|refine BCase.dt b3 ?_|refine Need.by1 24 rfl n2 ?_)|with_reducible first|apply l_|apply m_|apply n_|apply o_|refine p_ (fun _=>?_) (fun _=>?_))<;>conv=>whnf));refine⟨rgO low high (ps++[p]),[4,5,9,60,10,61],[(4,4),(5,5),(9,9),(60,61)],⟨[(4,4),(5,5),(9,9),(60,60),(10,10),(61,30)],rfl,rfl,trivial,?_⟩,rfl,?_,rfl,rfl,?_⟩
     ·unfold rgO;rw[map_append];exact⟨⟨rfl,rfl,.inl rfl,rfl⟩,⟨rfl,rfl,.inl rfl,rfl⟩,⟨rfl,rfl,⟨rfl,rfl,rfl,rfl,rfl⟩,rfl⟩,⟨rfl,rfl,rfl⟩,trivial⟩
     ·exact⟨_,_,_,rfl,rfl,rfl,_,_,_,rfl,rfl,rfl,_,_,_,rfl,rfl,rfl,_,_,_,rfl,rfl,rfl,rfl⟩
     ·exact⟨⟨rfl,rfl,.inl rfl,rfl⟩,⟨rfl,rfl,.inl rfl,rfl⟩,⟨rfl,rfl,⟨rfl,rfl,rfl,rfl,rfl⟩,rfl⟩,⟨rfl,rfl,rfl⟩,trivial⟩
 case hwP=>
  rintro e h n ⟨n1,⟨n2,n21,n22⟩,n3,⟨n4,n41,n42⟩,n5⟩;refine⟨[(9,9),(60,60)],rfl,rfl,⟨?_,trivial⟩,⟨rfl,kle_of rfl rfl ⟨rfl,⟨rfl,rfl,rfl,rfl,rfl⟩,rfl⟩⟩,⟨rfl,kle_of rfl rfl ⟨rfl,rfl⟩⟩,trivial⟩;rw[n22];exact⟨rfl,rfl,rfl⟩
 case hP=>
  refine⟨?_,rfl,rfl,by decide,rfl,?_,rfl,rfl,?_,rfl,?_⟩
  ·((conv=>whnf);repeat' ((first|(with_reducible first|apply a_|apply b_|apply c_)|((with_reducible first|apply d_|apply e_|apply f_|apply g_|apply h_);first|omega|simp only[q_]<;>omega)|((with_reducible apply i_);first|omega|simp only[q_]<;>omega)|((with_reducible apply h_);first|decide|kernel_rfl)|refine s_ (by decide) ?_|refine t_ (by decide) ?_|with_reducible first|apply l_|apply m_|apply n_|apply o_|refine p_ (fun _=>?_) (fun _=>?_))<;>conv=>whnf));exact⟨[9,60],⟨[(9,9),(60,60)],rfl,rfl,⟨⟨rfl,rfl,rfl,rfl,rfl⟩,.inl rfl,trivial⟩,⟨⟨rfl,rfl,rfl⟩,trivial⟩⟩⟩
  ·exact⟨_,_,_,rfl,rfl,rfl,_,_,_,rfl,rfl,rfl,rfl⟩
  ·exact⟨_,_,_,rfl,rfl,rfl,rfl⟩
  ·((conv=>whnf);repeat' ((first|(with_reducible first|apply a_|apply b_|apply c_)|((with_reducible first|apply d_|apply e_|apply f_|apply g_|apply h_);first|omega|simp only[q_]<;>omega)|((with_reducible apply i_);first|omega|simp only[q_]<;>omega)|((with_reducible apply h_);first|decide|kernel_rfl)|refine s_ (by decide) ?_|refine t_ (by decide) ?_|with_reducible first|apply l_|apply m_|apply n_|apply o_|refine p_ (fun _=>?_) (fun _=>?_))<;>conv=>whnf));exact RetS.mk [(NK,60)] [NK] rfl rfl ⟨⟨rfl,rfl,rfl,rfl,rfl⟩,.inl rfl,rfl⟩ ⟨⟨rfl,rfl,rfl⟩,trivial⟩
 case hv=>
  ((conv=>whnf);repeat' ((first|(with_reducible first|apply a_|apply b_|apply c_)|((with_reducible first|apply d_|apply e_|apply f_|apply g_|apply h_);first|omega|simp only[q_]<;>omega)|((with_reducible apply i_);first|omega|simp only[q_]<;>omega)|((with_reducible apply h_);first|decide|kernel_rfl)|refine s_ (by decide) ?_|refine t_ (by decide) ?_|refine r_ pc rfl ?_|(refine CallP.ret [(NK,17)] _ _ _ _ _ _ _ sa rfl rfl rfl rfl trivial ?_)|with_reducible first|apply l_|apply m_|apply n_|apply o_|refine p_ (fun _=>?_) (fun _=>?_))<;>conv=>whnf));all_goals first|exact⟨rfl,⟨rfl,rfl,rfl⟩,rfl,⟨rfl,rfl,rfl⟩,rfl⟩|(exfalso;omega)|skip
theorem p_Range (t:TreeD) (h:DataOk t) (low high:List UInt8):Pure Try.prog 25 [trD t,pStr (tx low),pStr (tx high)] (.tup [.d (.c (.sl 2 ((rangeF t low high).map PairD.c))),pInt .i64 (chkD t)]):=by
 by_cases c1:chkD t≠0
 ·have pc:=p_treecheck t h;rw[show rangeF t low high=[] from if_pos c1];refine pure_of Try.func25 (by rfl) rfl (by kernel_rfl) (by rfl) ?_;((conv=>whnf);repeat' ((first|(with_reducible first|apply a_|apply b_|apply c_)|((with_reducible first|apply d_|apply e_|apply f_|apply g_|apply h_);first|omega|simp only[q_]<;>omega)|((with_reducible apply i_);first|omega|simp only[q_]<;>omega)|((with_reducible apply h_);first|decide|kernel_rfl)|refine s_ (by decide) ?_|refine t_ (by decide) ?_|refine r_ pc rfl ?_|with_reducible first|apply l_|apply m_|apply n_|apply o_|refine p_ (fun _=>?_) (fun _=>?_))<;>conv=>whnf));all_goals first|exact Ret.le ⟨.inr ⟨⟨2,rfl⟩,.inl rfl⟩,.inl rfl,rfl⟩|(exfalso;omega)|skip
 ·have c1':chkD t=0:=Decidable.of_not_not c1;rw[show rangeF t low high=t.Leaves.flatten.filter (inF low high) from if_neg c1,c1'];exact (s_Range t h c1' low high).plain rfl
end
section
open Go.RowKit K
open Tr
theorem p_samepairs (l:List PairD) (hl:l.length<=140737488355328):Pure Try.prog 27 [lfV l,lfV l] (pBool true):=by
 refine pure_of Try.func27 (by rfl) rfl (by kernel_rfl) (by rfl) ?_;have hlm:(l.map PairD.c).length=l.length:=length_map _;((conv=>whnf);repeat' ((first|(with_reducible first|apply a_|apply b_|apply c_)|((with_reducible first|apply d_|apply e_|apply f_|apply g_|apply h_);first|omega|simp only[q_]<;>omega)|((with_reducible apply i_);first|omega|simp only[q_]<;>omega)|((with_reducible apply h_);first|decide|kernel_rfl)|refine s_ (by decide) ?_|refine t_ (by decide) ?_|with_reducible first|apply l_|apply m_|apply n_|apply o_|refine p_ (fun _=>?_) (fun _=>?_))<;>conv=>whnf));all_goals first | (exfalso;omega) | skip
 refine LoopC.mk Nat (fun k=>[(0,lfV l),(1,lfV l),(5,pInt .i64 k)]) (fun _=>[]) [] (fun k=>k<=l.length) (fun k=>l.length - k) 0 (zero_le _) ?start ?round
 case start=>exact⟨[],rfl,rfl,⟨.inl rfl,.inl rfl,.inl rfl,trivial⟩,trivial⟩
 case round=>
  intro k hk;by_cases h1:k<l.length
  ·((conv=>whnf);repeat' ((first|(with_reducible first|apply a_|apply b_|apply c_)|((with_reducible first|apply d_|apply e_|apply f_|apply g_|apply h_);first|omega|simp only[q_]<;>omega)|((with_reducible apply i_);first|omega|simp only[q_]<;>omega)|((with_reducible apply h_);first|decide|kernel_rfl)|refine s_ (by decide) ?_|refine t_ (by decide) ?_|(refine Idx.mapI (l:=l) k rfl h1 ?_)|with_reducible first|apply l_|apply m_|apply n_|apply o_|refine p_ (fun _=>?_) (fun _=>?_))<;>conv=>whnf));all_goals first|exact⟨k+1,by omega,by omega,[],rfl,rfl,⟨.inl rfl,.inl rfl,PLe.int (by omega),trivial⟩,trivial⟩|(exfalso;rename_i z;exact z rfl)|skip
  ·((conv=>whnf);repeat' ((first|(with_reducible first|apply a_|apply b_|apply c_)|((with_reducible first|apply d_|apply e_|apply f_|apply g_|apply h_);first|omega|simp only[q_]<;>omega)|((with_reducible apply i_);first|omega|simp only[q_]<;>omega)|((with_reducible apply h_);first|decide|kernel_rfl)|refine s_ (by decide) ?_|refine t_ (by decide) ?_|with_reducible first|apply l_|apply m_|apply n_|apply o_|refine p_ (fun _=>?_) (fun _=>?_))<;>conv=>whnf));all_goals first|exact Ret.bool rfl|(exfalso;omega)|skip
abbrev ivV (u:List Int):PV:=.d (.c (.sl 1 (u.map intC)))
theorem p_sameints (u:List Int) (hu:u.length<=140737488355328):Pure Try.prog 28 [ivV u,ivV u] (pBool true):=by
 refine pure_of Try.func28 (by rfl) rfl (by kernel_rfl) (by rfl) ?_;have hlm:(u.map intC).length=u.length:=length_map _;((conv=>whnf);repeat' ((first|(with_reducible first|apply a_|apply b_|apply c_)|((with_reducible first|apply d_|apply e_|apply f_|apply g_|apply h_);first|omega|simp only[q_]<;>omega)|((with_reducible apply i_);first|omega|simp only[q_]<;>omega)|((with_reducible apply h_);first|decide|kernel_rfl)|refine s_ (by decide) ?_|refine t_ (by decide) ?_|with_reducible first|apply l_|apply m_|apply n_|apply o_|refine p_ (fun _=>?_) (fun _=>?_))<;>conv=>whnf));all_goals first | (exfalso;omega) | skip
 refine LoopC.mk Nat (fun k=>[(0,ivV u),(1,ivV u),(5,pInt .i64 k)]) (fun _=>[]) [] (fun k=>k<=u.length) (fun k=>u.length - k) 0 (zero_le _) ?start ?round
 case start=>exact⟨[],rfl,rfl,⟨.inl rfl,.inl rfl,.inl rfl,trivial⟩,trivial⟩
 case round=>
  intro k hk;by_cases h1:k<u.length
  ·((conv=>whnf);repeat' ((first|(with_reducible first|apply a_|apply b_|apply c_)|((with_reducible first|apply d_|apply e_|apply f_|apply g_|apply h_);first|omega|simp only[q_]<;>omega)|((with_reducible apply i_);first|omega|simp only[q_]<;>omega)|((with_reducible apply h_);first|decide|kernel_rfl)|refine s_ (by decide) ?_|refine t_ (by decide) ?_|(refine Idx.mapI (l:=u) k rfl h1 ?_)|with_reducible first|apply l_|apply m_|apply n_|apply o_|refine p_ (fun _=>?_) (fun _=>?_))<;>conv=>whnf));all_goals first|exact⟨k+1,by omega,by omega,[],rfl,rfl,⟨.inl rfl,.inl rfl,PLe.int (by omega),trivial⟩,trivial⟩|(exfalso;rename_i z;exact z rfl)|skip
  ·((conv=>whnf);repeat' ((first|(with_reducible first|apply a_|apply b_|apply c_)|((with_reducible first|apply d_|apply e_|apply f_|apply g_|apply h_);first|omega|simp only[q_]<;>omega)|((with_reducible apply i_);first|omega|simp only[q_]<;>omega)|((with_reducible apply h_);first|decide|kernel_rfl)|refine s_ (by decide) ?_|refine t_ (by decide) ?_|with_reducible first|apply l_|apply m_|apply n_|apply o_|refine p_ (fun _=>?_) (fun _=>?_))<;>conv=>whnf));all_goals first|exact Ret.bool rfl|(exfalso;omega)|skip
theorem p_sametree (t:TreeD) (hl:t.Leaves.length<=140737488355328) (hu:t.Up.length<=140737488355328) (hls:∀l∈t.Leaves,l.length<=140737488355328) (hus:∀u∈t.Up,u.length<=140737488355328) :
  Pure Try.prog 8 [trD t,trD t] (pBool true):=by
 rcases t with ⟨L,U⟩;have hl:L.length<=140737488355328:=hl;have hu:U.length<=140737488355328:=hu;have hls:∀l∈L,l.length<=140737488355328:=hls;have hus:∀u∈U,u.length<=140737488355328:=hus;have hLl:(lvC L).length=L.length:=length_map _;have hUl:(upI U).length=U.length:=length_map _;show Pure _ _ [.agg [.c (.sl 1 (lvC L)),.c (.sl 1 (upI U))],.agg [.c (.sl 1 (lvC L)),.c (.sl 1 (upI U))]] _;refine pure_of Try.func8 (by rfl) rfl (by kernel_rfl) (by rfl) ?_;((conv=>whnf);repeat' ((first|(with_reducible first|apply a_|apply b_|apply c_)|((with_reducible first|apply d_|apply e_|apply f_|apply g_|apply h_);first|omega|simp only[q_]<;>omega)|((with_reducible apply i_);first|omega|simp only[q_]<;>omega)|((with_reducible apply h_);first|decide|kernel_rfl)|refine s_ (by decide) ?_|refine t_ (by decide) ?_|with_reducible first|apply l_|apply m_|apply n_|apply o_|refine p_ (fun _=>?_) (fun _=>?_))<;>conv=>whnf));all_goals first | (exfalso;omega) | skip
 refine LoopC.mk Nat (fun k=>[(2,.d (.ptr 2 0)),(3,.d (.ptr 3 0)),(5,pInt .i64 k)]) (fun _=>[(2,treeB L U),(3,treeB L U)]) [2,3] (fun k=>k<=L.length) (fun k=>L.length - k) 0 (zero_le _) ?start ?round
 case start=>exact Wk.mk [(2,2),(3,3)] rfl rfl ⟨⟨rfl,rfl,rfl⟩,⟨rfl,rfl,rfl⟩,.inl rfl,trivial⟩ ⟨⟨rfl,rfl,.inl rfl,.inl rfl,rfl⟩,⟨rfl,rfl,.inl rfl,.inl rfl,rfl⟩,trivial⟩
 case round=>
  intro k hk;by_cases h1:k<L.length
  ·obtain⟨l,hle⟩:∃l,l=L[k]:=⟨_,rfl⟩;have hrow:(lvC L)[k]? = some [.sl 2 (l.map PairD.c)]:=by unfold lvC;rw[List.getElem?_map,List.getElem?_eq_getElem h1,hle];rfl
   have ps:=p_samepairs l (hls l (by rw[hle];exact List.getElem_mem _));((conv=>whnf);repeat' ((first|(with_reducible first|apply a_|apply b_|apply c_)|((with_reducible first|apply d_|apply e_|apply f_|apply g_|apply h_);first|omega|simp only[q_]<;>omega)|((with_reducible apply i_);first|omega|simp only[q_]<;>omega)|((with_reducible apply h_);first|decide|kernel_rfl)|refine s_ (by decide) ?_|refine t_ (by decide) ?_|(refine Idx.at' hrow rfl ?_)|refine r_ ps rfl ?_|with_reducible first|apply l_|apply m_|apply n_|apply o_|refine p_ (fun _=>?_) (fun _=>?_))<;>conv=>whnf));all_goals first|exact⟨k+1,by omega,by omega,[(2,2),(3,3)],rfl,rfl,⟨⟨rfl,rfl,rfl⟩,⟨rfl,rfl,rfl⟩,PLe.int (by omega),trivial⟩,⟨⟨rfl,rfl,.inl rfl,.inl rfl,rfl⟩,⟨rfl,rfl,.inl rfl,.inl rfl,rfl⟩,trivial⟩⟩|(exfalso;omega)|skip
  ·((conv=>whnf);repeat' ((first|(with_reducible first|apply a_|apply b_|apply c_)|((with_reducible first|apply d_|apply e_|apply f_|apply g_|apply h_);first|omega|simp only[q_]<;>omega)|((with_reducible apply i_);first|omega|simp only[q_]<;>omega)|((with_reducible apply h_);first|decide|kernel_rfl)|refine s_ (by decide) ?_|refine t_ (by decide) ?_|with_reducible first|apply l_|apply m_|apply n_|apply o_|refine p_ (fun _=>?_) (fun _=>?_))<;>conv=>whnf));all_goals first | (exfalso;omega) | skip
   refine LoopC.mk Nat (fun k=>[(2,.d (.ptr 2 0)),(3,.d (.ptr 3 0)),(6,pInt .i64 k)]) (fun _=>[(2,treeB L U),(3,treeB L U)]) [2,3] (fun k=>k<=U.length) (fun k=>U.length - k) 0 (zero_le _) ?start2 ?round2
   case start2=>exact Wk.mk [(2,2),(3,3)] rfl rfl ⟨⟨rfl,rfl,rfl⟩,⟨rfl,rfl,rfl⟩,.inl rfl,trivial⟩ ⟨⟨rfl,rfl,.inl rfl,.inl rfl,rfl⟩,⟨rfl,rfl,.inl rfl,.inl rfl,rfl⟩,trivial⟩
   case round2=>
    intro k hk;by_cases h2:k<U.length
    ·obtain⟨u,hue⟩:∃u,u=U[k]:=⟨_,rfl⟩;have hrow:(upI U)[k]? = some [.sl 1 (u.map intC)]:=by unfold upI;rw[List.getElem?_map,List.getElem?_eq_getElem h2,hue];rfl
     have ps:=p_sameints u (hus u (by rw[hue];exact List.getElem_mem _));((conv=>whnf);repeat' ((first|(with_reducible first|apply a_|apply b_|apply c_)|((with_reducible first|apply d_|apply e_|apply f_|apply g_|apply h_);first|omega|simp only[q_]<;>omega)|((with_reducible apply i_);first|omega|simp only[q_]<;>omega)|((with_reducible apply h_);first|decide|kernel_rfl)|refine s_ (by decide) ?_|refine t_ (by decide) ?_|(refine Idx.at' hrow rfl ?_)|refine r_ ps rfl ?_|with_reducible first|apply l_|apply m_|apply n_|apply o_|refine p_ (fun _=>?_) (fun _=>?_))<;>conv=>whnf));all_goals first|exact⟨k+1,by omega,by omega,[(2,2),(3,3)],rfl,rfl,⟨⟨rfl,rfl,rfl⟩,⟨rfl,rfl,rfl⟩,PLe.int (by omega),trivial⟩,⟨⟨rfl,rfl,.inl rfl,.inl rfl,rfl⟩,⟨rfl,rfl,.inl rfl,.inl rfl,rfl⟩,trivial⟩⟩|(exfalso;omega)|skip
    ·((conv=>whnf);repeat' ((first|(with_reducible first|apply a_|apply b_|apply c_)|((with_reducible first|apply d_|apply e_|apply f_|apply g_|apply h_);first|omega|simp only[q_]<;>omega)|((with_reducible apply i_);first|omega|simp only[q_]<;>omega)|((with_reducible apply h_);first|decide|kernel_rfl)|refine s_ (by decide) ?_|refine t_ (by decide) ?_|with_reducible first|apply l_|apply m_|apply n_|apply o_|refine p_ (fun _=>?_) (fun _=>?_))<;>conv=>whnf));all_goals first|exact Ret.bool rfl|(exfalso;omega)|skip
end
end Go.Proofs.Ytdjbckknghddpaa.Pm
