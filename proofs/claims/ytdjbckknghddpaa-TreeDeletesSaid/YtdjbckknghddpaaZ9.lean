/- Parts of the proof, one behind the other: PtBegun PtLaws PtLaws2 PtLaws3 PtLaws4 PtLaws5 PtRef2 PtRef3 PtRef4 PtNst PtNst2 PtNst3 PtNst4 PtNst5 PtNst6 PtNst7 PtLaws6 PtLaws7 PtLaws8. Conditions: none beyond what each theorem says. -/
import Derived.Test.YtdjbckknghddpaaZ8
open List (all_eq_true append_assoc append_of_mem cons_lt_cons_iff cons_ne_nil drop_drop drop_length drop_of_length_le drop_zero eq_nil_of_length_eq_zero flatMap_append flatMap_cons flatten_cons length_append length_cons length_drop length_eq_one_iff length_filter_le length_map length_nil length_pos_iff length_set length_take map_append map_congr_left map_cons map_drop map_map map_nil map_take mem_append mem_append_left mem_append_right mem_cons mem_cons_of_mem mem_cons_self mem_flatMap mem_flatten mem_map mem_of_mem_take mem_singleton nil_append set_eq_take_append_cons_drop sum_append sum_cons sum_singleton take_append_drop take_length take_nil take_of_length_le take_set_of_le take_succ_cons take_take)
open Nat (le_trans lt_succ_self min_eq_left not_lt_zero zero_add zero_le zero_lt_succ)
open Int (natCast_nonneg toNat_natCast)
set_option linter.unusedVariables false
set_option linter.unusedSimpArgs false
set_option maxRecDepth 100000
namespace Go.Proofs.Ytdjbckknghddpaa.Pm
section
open Go.RowKit K
open Tr
def bP (k:UInt8):PairD:=⟨[k],k.toNat⟩
def bTr:Nat->TreeD
 | 0=>⟨[],[]⟩|1=>⟨[[bP 98]],[]⟩|2=>⟨[[bP 98,bP 100]],[]⟩|3=>⟨[[bP 97,bP 98,bP 100]],[]⟩|4=>⟨[[bP 97,bP 98,bP 100,bP 101]],[]⟩|5=>⟨[[bP 97,bP 98],[bP 99,bP 100,bP 101]],[[2]]⟩|6=>⟨[[bP 98,bP 99],[bP 100,bP 101]],[[2]]⟩|_=>⟨[[bP 99,bP 100,bP 101]],[]⟩
theorem bi0:insT (bTr 0) (bP 98)=bTr 1/\insE (bTr 0) [98]=0:=⟨by kernel_rfl,by decide +kernel⟩
theorem bi1:insT (bTr 1) (bP 100)=bTr 2/\insE (bTr 1) [100]=0:=⟨by kernel_rfl,by decide +kernel⟩
theorem bi2:insT (bTr 2) (bP 97)=bTr 3/\insE (bTr 2) [97]=0:=⟨by kernel_rfl,by decide +kernel⟩
theorem bi3:insT (bTr 3) (bP 101)=bTr 4/\insE (bTr 3) [101]=0:=⟨by kernel_rfl,by decide +kernel⟩
theorem bi4:insT (bTr 4) (bP 99)=bTr 5/\insE (bTr 4) [99]=0:=⟨by kernel_rfl,by decide +kernel⟩
theorem bd5:delT (bTr 5) [97]=bTr 6/\delE (bTr 5) [97]=0:=⟨by kernel_rfl,by decide +kernel⟩
theorem bd6:delT (bTr 6) [98]=bTr 7/\delE (bTr 6) [98]=0:=⟨by kernel_rfl,by decide +kernel⟩
theorem br5:(rangeF (bTr 5) [98] [100])=[bP 98,bP 99,bP 100]/\chkD (bTr 5)=0:=⟨by kernel_rfl,by decide +kernel⟩
theorem bl7:listF (bTr 7)=[bP 99,bP 100,bP 101]/\chkD (bTr 7)=0:=⟨by kernel_rfl,by decide +kernel⟩
theorem bf5:findI (bTr 5) [100]=100/\findB (bTr 5) [100]=true/\findE (bTr 5) [100]=0:=⟨by decide +kernel,by decide +kernel,by decide +kernel⟩
theorem dok_of {t:TreeD} (h1:(t.Leaves.all fun l=>decide (l.length<=5)&&l.all fun p=>decide (p.Key.length<=5)&&decide (0<=p.Id)&&decide (p.Id<=1000))=true) (h2:(t.Up.all fun l=>decide (l.length<=5))=true):DataOk t:=by
 simp only[all_eq_true,Bool.and_eq_true,decide_eq_true_eq] at h1 h2;refine⟨fun l hl p hp=>?_,fun l hl=>?_,fun u hu=>?_⟩
 ·obtain⟨⟨a,b⟩,c⟩:=(h1 l hl).2 p hp;exact⟨by unfold okText;omega,by unfold okInt;omega⟩
 ·have:=(h1 l hl).1;omega
 ·have:=h2 u hu;omega
theorem bok:∀k,k<=7->DataOk (bTr k):=fun k hk=>by
 rcases (by omega:k=0\/k=1\/k=2\/k=3\/k=4\/k=5\/k=6\/k=7) with rfl | rfl | rfl | rfl | rfl | rfl | rfl | rfl<;>exact dok_of (by decide +kernel) (by decide +kernel)
theorem p_pairlaw (k:List UInt8) (n:Int):Pure Try.prog 24 [pStr (tx k),pInt .i64 n] (.agg ((PairD.c ⟨k,n⟩).map D.c)):=by
 refine pure_of Try.func24 (by rfl) rfl (by kernel_rfl) (by rfl) ?_;((conv=>whnf);repeat' ((first|(with_reducible first|apply a_|apply b_|apply c_)|((with_reducible first|apply d_|apply e_|apply f_|apply g_|apply h_);first|omega|simp only[q_]<;>omega)|((with_reducible apply i_);first|omega|simp only[q_]<;>omega)|((with_reducible apply h_);first|decide|kernel_rfl)|refine s_ (by decide) ?_|refine t_ (by decide) ?_|with_reducible first|apply l_|apply m_|apply n_|apply o_|refine p_ (fun _=>?_) (fun _=>?_))<;>conv=>whnf));exact Ret.mk rfl
abbrev sT:Nat:=9
abbrev bR:List (List C):=[[.v (.string ⟨#[98]⟩)],[.v (.string ⟨#[100]⟩)],[.v (.string ⟨#[97]⟩)],[.v (.string ⟨#[101]⟩)],[.v (.string ⟨#[99]⟩)]]
abbrev treeD (t:TreeD):HB:=treeB t.Leaves t.Up
theorem pi_step {k:Nat} {c:UInt8} (hk:k<=7) (h:insT (bTr k) (bP c)=bTr (k+1)/\insE (bTr k) [c]=0):Pure Try.prog 5 [trD (bTr k),pStr ⟨#[c]⟩,pInt .i64 c.toNat] (.tup [trD (bTr (k+1)),pInt .i64 0]):=by
 have:=p_Insert (bTr k) (bok k hk) (bP c) (by show 1<=_;decide);rw[h.1,show (bP c).Key=[c] from rfl,h.2] at this;exact this
set_option maxHeartbeats 4000000 in
theorem p_treebegun:Pure Try.prog 7 [] (pBool true):=by
 have i0:=pi_step (by decide) bi0;have i1:=pi_step (by decide) bi1;have i2:=pi_step (by decide) bi2;have i3:=pi_step (by decide) bi3;have i4:=pi_step (by decide) bi4;have pp97:Pure Try.prog 24 [pStr ⟨#[97]⟩,pInt .i64 97] (.agg [.c (.v (.string ⟨#[97]⟩)),.c (.v (.int .i64 97))]):=p_pairlaw [97] 97;have pp98:Pure Try.prog 24 [pStr ⟨#[98]⟩,pInt .i64 98] (.agg [.c (.v (.string ⟨#[98]⟩)),.c (.v (.int .i64 98))]):=p_pairlaw [98] 98;have pp99:Pure Try.prog 24 [pStr ⟨#[99]⟩,pInt .i64 99] (.agg [.c (.v (.string ⟨#[99]⟩)),.c (.v (.int .i64 99))]):=p_pairlaw [99] 99;have pp100:Pure Try.prog 24 [pStr ⟨#[100]⟩,pInt .i64 100] (.agg [.c (.v (.string ⟨#[100]⟩)),.c (.v (.int .i64 100))]):=p_pairlaw [100] 100;have pp101:Pure Try.prog 24 [pStr ⟨#[101]⟩,pInt .i64 101] (.agg [.c (.v (.string ⟨#[101]⟩)),.c (.v (.int .i64 101))]):=p_pairlaw [101] 101;have w:∀c:UInt8,-9223372036854775808<=(c.toNat:Int)/\(c.toNat:Int)<=9223372036854775807:=fun c=>by have:=c.toNat_lt;omega
 have f5:Pure Try.prog 11 [trD (bTr 5),pStr ⟨#[100]⟩] (.tup [pInt .i64 100,pBool true,pInt .i64 0]):=by
  have:=p_Find (bTr 5) (bok 5 (by decide)) [100] (by decide);unfold findV at this;rw[bf5.1,bf5.2.1,bf5.2.2] at this;exact this
 have d5:Pure Try.prog 9 [trD (bTr 5),pStr ⟨#[97]⟩] (.tup [trD (bTr 6),pInt .i64 0]):=by
  have:=p_Delete (bTr 5) (bok 5 (by decide)) [97] (by decide);rw[bd5.1,bd5.2] at this;exact this
 have d6:Pure Try.prog 9 [trD (bTr 6),pStr ⟨#[98]⟩] (.tup [trD (bTr 7),pInt .i64 0]):=by
  have:=p_Delete (bTr 6) (bok 6 (by decide)) [98] (by decide);rw[bd6.1,bd6.2] at this;exact this
 have r5:Pure Try.prog 25 [trD (bTr 5),pStr ⟨#[98]⟩,pStr ⟨#[100]⟩] (.tup [lfV [bP 98,bP 99,bP 100],pInt .i64 0]):=by
  have:=p_Range (bTr 5) (bok 5 (by decide)) [98] [100];rw[br5.1,br5.2] at this;exact this
 have l7:Pure Try.prog 26 [trD (bTr 7)] (.tup [lfV [bP 99,bP 100,bP 101],pInt .i64 0]):=by
  have:=p_List (bTr 7) (bok 7 (by decide));rw[bl7.1,bl7.2] at this;exact this
 have st:=p_sametree (bTr 5) (by decide) (by decide) (by decide) (by decide);refine pure_of Try.func7 (by rfl) rfl (by kernel_rfl) (by rfl) ?_;((conv=>whnf);repeat' ((first|(with_reducible first|apply a_|apply b_|apply c_)|((with_reducible first|apply d_|apply e_|apply f_|apply g_|apply h_);first|omega|simp only[q_]<;>omega)|((with_reducible apply i_);first|omega|simp only[q_]<;>omega)|((with_reducible apply h_);first|decide|kernel_rfl)|refine s_ (by decide) ?_|refine t_ (by decide) ?_|with_reducible first|apply l_|apply m_|apply n_|apply o_|refine p_ (fun _=>?_) (fun _=>?_))<;>conv=>whnf));refine LoopC.mk Nat (fun k=>[(1,.d (.ptr 1 0)),(2,pInt .i64 0),(17,.d (.app 160 sT 1 bR)),(18,pInt .i64 5),(19,pInt .i64 (k:Int))]) (fun k=>[(1,treeD (bTr k)),(160,.tail sT 1)]) [1,160] (fun k=>k<=5) (fun k=>5 - k) 0 (zero_le _) ?start ?round
 case start=>exact Wk.mk [(1,1),(160,17)] rfl rfl ⟨⟨rfl,rfl,rfl⟩,.inl rfl,⟨rfl,rfl,rfl,rfl,rfl⟩,.inl rfl,.inl rfl,trivial⟩ ⟨⟨rfl,rfl,.inr ⟨⟨1,rfl⟩,.inl rfl⟩,.inr ⟨⟨1,rfl⟩,.inl rfl⟩,rfl⟩,⟨rfl,rfl,rfl⟩,trivial⟩
 case round=>
  intro k hk;rcases (by omega:k=0\/k=1\/k=2\/k=3\/k=4\/k=5) with rfl | rfl | rfl | rfl | rfl | rfl
  ·((conv=>whnf);repeat' ((first|(with_reducible first|apply a_|apply b_|apply c_)|((with_reducible first|apply d_|apply e_|apply f_|apply g_|apply h_);first|omega|simp only[q_]<;>omega)|((with_reducible apply i_);first|omega|simp only[q_]<;>omega)|((with_reducible apply h_);first|decide|kernel_rfl)|refine s_ (by decide) ?_|refine t_ (by decide) ?_|(first|refine Idx.mk [.v (.string ⟨#[98]⟩)] (natCast_nonneg _) rfl ?_|refine SIdx.mk 98 (Int.le_refl 0) rfl ?_|refine Wr.i64 (w _).1 (w _).2 ?_)|refine r_ i0 rfl ?_|with_reducible first|apply l_|apply m_|apply n_|apply o_|refine p_ (fun _=>?_) (fun _=>?_))<;>conv=>whnf));all_goals first|exact⟨1,by decide,by decide,[(1,1),(160,160)],rfl,rfl,⟨⟨rfl,rfl,rfl⟩,.inl rfl,⟨rfl,rfl,rfl,rfl,rfl⟩,.inl rfl,PLe.int (by decide),trivial⟩,⟨⟨rfl,rfl,.inl rfl,.inl rfl,rfl⟩,⟨rfl,rfl,rfl⟩,trivial⟩⟩|(exfalso;omega)|skip
  ·((conv=>whnf);repeat' ((first|(with_reducible first|apply a_|apply b_|apply c_)|((with_reducible first|apply d_|apply e_|apply f_|apply g_|apply h_);first|omega|simp only[q_]<;>omega)|((with_reducible apply i_);first|omega|simp only[q_]<;>omega)|((with_reducible apply h_);first|decide|kernel_rfl)|refine s_ (by decide) ?_|refine t_ (by decide) ?_|(first|refine Idx.mk [.v (.string ⟨#[100]⟩)] (natCast_nonneg _) rfl ?_|refine SIdx.mk 100 (Int.le_refl 0) rfl ?_|refine Wr.i64 (w _).1 (w _).2 ?_)|refine r_ i1 rfl ?_|with_reducible first|apply l_|apply m_|apply n_|apply o_|refine p_ (fun _=>?_) (fun _=>?_))<;>conv=>whnf));all_goals first|exact⟨2,by decide,by decide,[(1,1),(160,160)],rfl,rfl,⟨⟨rfl,rfl,rfl⟩,.inl rfl,⟨rfl,rfl,rfl,rfl,rfl⟩,.inl rfl,PLe.int (by decide),trivial⟩,⟨⟨rfl,rfl,.inl rfl,.inl rfl,rfl⟩,⟨rfl,rfl,rfl⟩,trivial⟩⟩|(exfalso;omega)|skip
  ·((conv=>whnf);repeat' ((first|(with_reducible first|apply a_|apply b_|apply c_)|((with_reducible first|apply d_|apply e_|apply f_|apply g_|apply h_);first|omega|simp only[q_]<;>omega)|((with_reducible apply i_);first|omega|simp only[q_]<;>omega)|((with_reducible apply h_);first|decide|kernel_rfl)|refine s_ (by decide) ?_|refine t_ (by decide) ?_|(first|refine Idx.mk [.v (.string ⟨#[97]⟩)] (natCast_nonneg _) rfl ?_|refine SIdx.mk 97 (Int.le_refl 0) rfl ?_|refine Wr.i64 (w _).1 (w _).2 ?_)|refine r_ i2 rfl ?_|with_reducible first|apply l_|apply m_|apply n_|apply o_|refine p_ (fun _=>?_) (fun _=>?_))<;>conv=>whnf));all_goals first|exact⟨3,by decide,by decide,[(1,1),(160,160)],rfl,rfl,⟨⟨rfl,rfl,rfl⟩,.inl rfl,⟨rfl,rfl,rfl,rfl,rfl⟩,.inl rfl,PLe.int (by decide),trivial⟩,⟨⟨rfl,rfl,.inl rfl,.inl rfl,rfl⟩,⟨rfl,rfl,rfl⟩,trivial⟩⟩|(exfalso;omega)|skip
  ·((conv=>whnf);repeat' ((first|(with_reducible first|apply a_|apply b_|apply c_)|((with_reducible first|apply d_|apply e_|apply f_|apply g_|apply h_);first|omega|simp only[q_]<;>omega)|((with_reducible apply i_);first|omega|simp only[q_]<;>omega)|((with_reducible apply h_);first|decide|kernel_rfl)|refine s_ (by decide) ?_|refine t_ (by decide) ?_|(first|refine Idx.mk [.v (.string ⟨#[101]⟩)] (natCast_nonneg _) rfl ?_|refine SIdx.mk 101 (Int.le_refl 0) rfl ?_|refine Wr.i64 (w _).1 (w _).2 ?_)|refine r_ i3 rfl ?_|with_reducible first|apply l_|apply m_|apply n_|apply o_|refine p_ (fun _=>?_) (fun _=>?_))<;>conv=>whnf));all_goals first|exact⟨4,by decide,by decide,[(1,1),(160,160)],rfl,rfl,⟨⟨rfl,rfl,rfl⟩,.inl rfl,⟨rfl,rfl,rfl,rfl,rfl⟩,.inl rfl,PLe.int (by decide),trivial⟩,⟨⟨rfl,rfl,.inl rfl,.inl rfl,rfl⟩,⟨rfl,rfl,rfl⟩,trivial⟩⟩|(exfalso;omega)|skip
  ·((conv=>whnf);repeat' ((first|(with_reducible first|apply a_|apply b_|apply c_)|((with_reducible first|apply d_|apply e_|apply f_|apply g_|apply h_);first|omega|simp only[q_]<;>omega)|((with_reducible apply i_);first|omega|simp only[q_]<;>omega)|((with_reducible apply h_);first|decide|kernel_rfl)|refine s_ (by decide) ?_|refine t_ (by decide) ?_|(first|refine Idx.mk [.v (.string ⟨#[99]⟩)] (natCast_nonneg _) rfl ?_|refine SIdx.mk 99 (Int.le_refl 0) rfl ?_|refine Wr.i64 (w _).1 (w _).2 ?_)|refine r_ i4 rfl ?_|with_reducible first|apply l_|apply m_|apply n_|apply o_|refine p_ (fun _=>?_) (fun _=>?_))<;>conv=>whnf));all_goals first|exact⟨5,by decide,by decide,[(1,1),(160,160)],rfl,rfl,⟨⟨rfl,rfl,rfl⟩,.inl rfl,⟨rfl,rfl,rfl,rfl,rfl⟩,.inl rfl,PLe.int (by decide),trivial⟩,⟨⟨rfl,rfl,.inl rfl,.inl rfl,rfl⟩,⟨rfl,rfl,rfl⟩,trivial⟩⟩|(exfalso;omega)|skip
  ·((conv=>whnf);repeat' ((first|(with_reducible first|apply a_|apply b_|apply c_)|((with_reducible first|apply d_|apply e_|apply f_|apply g_|apply h_);first|omega|simp only[q_]<;>omega)|((with_reducible apply i_);first|omega|simp only[q_]<;>omega)|((with_reducible apply h_);first|decide|kernel_rfl)|refine s_ (by decide) ?_|refine t_ (by decide) ?_|refine r_ pp97 rfl ?_|refine r_ pp98 rfl ?_|refine r_ pp99 rfl ?_|refine r_ pp100 rfl ?_|refine r_ pp101 rfl ?_|refine r_ f5 rfl ?_|refine r_ d5 rfl ?_|refine r_ d6 rfl ?_|refine r_ r5 rfl ?_|refine r_ l7 rfl ?_|refine r_ st rfl ?_|(refine Idx.mk [.sl 2 ([bP 98,bP 99].map PairD.c)] (Int.le_refl 0) rfl ?_)|with_reducible first|apply l_|apply m_|apply n_|apply o_|refine p_ (fun _=>?_) (fun _=>?_))<;>conv=>whnf));all_goals first|exact Ret.bool rfl|skip
end
section
open Go.RowKit K
open Tr
theorem dok_in {t:TreeD} (h:t.ok):DataOk t:=by
 obtain⟨⟨_,h1⟩,_,h2⟩:=h;refine⟨fun l hl p hp=>(h1 l hl).2 p hp,fun l hl=>?_,fun u hu=>?_⟩
 ·have:=(h1 l hl).1;rw[show Try.prog.bytesOf 41=24 by kernel_rfl] at this;omega
 ·have:=(h2 u hu).1;rw[show Try.prog.bytesOf 3=8 by kernel_rfl] at this;omega
abbrev flatD (t:TreeD):List PairD:=t.Leaves.flatten
theorem dok_tree {L:List (List PairD)} {U:List (List Nat)} (h:TreeOk L U) (hp:∀p∈L.flatten,p.ok):DataOk ⟨L,intU U⟩:=by
 have hv:=h.okT;refine⟨fun l hl p hq=>hp p (mem_flatten.2 ⟨l,hl,hq⟩),fun l hl=>by have h4:l.length<=4:=(h.sizes l hl).2.2;show l.length<=_;omega,fun u hu=>?_⟩;obtain⟨v,hv',rfl⟩:=mem_map.1 hu;rw[length_map];obtain⟨i,hi,rfl⟩:=List.getElem_of_mem hv';have hs:=hv.small (i+1) hi;have e:lenAt L U (i+1)=U[i].length:=by show (U.getD i []).length=_;rw[List.getD_eq_getElem?_getD,List.getElem?_eq_getElem hi];rfl
 rw[e] at hs;omega
theorem small_tree {L:List (List PairD)} {U:List (List Nat)} (h:TreeOk L U):Pure Try.prog 8 [trD ⟨L,intU U⟩,trD ⟨L,intU U⟩] (pBool true):=by
 have h1:=h.many;have h2:=h.deep;have h3:=dok_tree (L:=L) (U:=U) h;refine p_sametree ⟨L,intU U⟩ (by show L.length<=_;omega) (by show (intU U).length<=_;unfold intU;rw[length_map];omega) (fun l hl=>?_) (fun u hu=>?_)
 ·have h4:l.length<=4:=(h.sizes l hl).2.2;omega
 ·obtain⟨v,hv',rfl⟩:=mem_map.1 hu;rw[length_map];obtain⟨i,hi,rfl⟩:=List.getElem_of_mem hv';have hs:=h.okT.small (i+1) hi;have e:lenAt L U (i+1)=U[i].length:=by show (U.getD i []).length=_;rw[List.getD_eq_getElem?_getD,List.getElem?_eq_getElem hi];rfl
  rw[e] at hs;omega
theorem chkD_of {L:List (List PairD)} {U:List (List Nat)} (h:TreeOk L U):chkD ⟨L,intU U⟩=0:=chk_of h
structure DelGood (t:TreeD) (key:List UInt8) (u:TreeD):Prop where
 chk:chkD t=0
 old:(lookP (flatD t) key).isSome=true
 chk2:chkD u=0
 flat:flatD u=delP (flatD t) key
 ok:DataOk u
 asc:Asc (flatD t)
 same:Pure Try.prog 8 [trD u,trD u] (pBool true)
theorem treeOk_nil:TreeOk [] []:=⟨by decide,by decide,fun l hl=>(by cases hl),List.Pairwise.nil,fun p hp=>(by cases hp),.inl ⟨rfl,rfl⟩,by decide⟩
theorem del_good {t:TreeD} (h:DataOk t) {key:List UInt8} (he:delE t key=0):DelGood t key (delT t key):=by
 have c1:chkD t=0:=by
  unfold delE at he;by_cases q:chkD t≠0
  ·rw[if_pos q] at he;exact absurd he q
  ·exact Decidable.of_not_not q
 have c2:(lookP (flatD t) key).isSome=true:=by
  unfold delE at he;rw[if_neg (not_not_intro c1)] at he;by_cases q:(lookP (flatD t) key).isSome=true
  ·exact q
  ·have he:(if (lookP (flatD t) key).isSome=true then (0:Int) else 5)=0:=he;rw[if_neg q] at he;cases he
 obtain⟨U,hU,hok⟩:=chk_ok c1;rcases t with ⟨L,Us⟩;have hU:Us=intU U:=hU;subst hU
 replace hok:TreeOk L U:=hok
 have hL:L≠[]:=fun e=>by
  have c2:(lookP L.flatten key).isSome=true:=c2;rw[e] at c2;cases c2
 have e:delT ⟨L,intU U⟩ key=⟨(delF L U (leafF L U key U.length 0) key).1,intU (delF L U (leafF L U key U.length 0) key).2⟩:=by
  unfold delT delR;rw[if_neg (not_not_intro he),natU_int]
 rw[e];rcases del_ok hok hL key with ⟨d1,d2,_⟩ | ⟨H,d1,_,_,d4,d5⟩
 ·rw[d1];exact⟨c1,c2,chkD_of treeOk_nil,d2.symm,dok_tree treeOk_nil fun q hq=>(by cases hq),hok.asc,small_tree treeOk_nil⟩
 ·rw[d1];refine⟨c1,c2,chkD_of d4,d5,dok_tree d4 fun q hq=>?_,hok.asc,small_tree d4⟩;rw[d5,delP_mem] at hq;obtain⟨l,hl,hq⟩:=mem_flatten.1 hq.1;exact h.keys l hl q hq
end
section
open Go.RowKit K
open Tr
theorem delT_err {t:TreeD} {key:List UInt8} (h:delE t key≠0):delT t key=⟨[],[]⟩:=if_pos h
end
section
open Go.RowKit K
open Tr
theorem flat_bounds:∀{L:List (List PairD)} {a b:Nat},(∀l∈L,a<=l.length/\l.length<=b)->a*L.length<=L.flatten.length/\L.flatten.length<=b*L.length
 | [],a,b,_=>by simp
 | l::L,a,b,h=>by
  obtain⟨h1,h2⟩:=flat_bounds (L:=L) fun x hx=>h x (mem_cons_of_mem _ hx);have h3:=h l mem_cons_self;rw[flatten_cons,length_append,length_cons,Nat.mul_add,Nat.mul_add];omega
end
section
open Go.RowKit K
open Tr
end
section
open Go.RowKit K
open Tr
end
section
open Go.RowKit K
open Tr
theorem lt_at:∀{a b:List UInt8} {i:Nat},a.take i=b.take i->(h1:i<a.length)->(h2:i<b.length)->a[i]≠b[i]->(a<b↔a[i]<b[i])
 | [],_,_,_,h1,_,_=>absurd h1 (not_lt_zero _)|_::_,[],_,_,_,h2,_=>absurd h2 (not_lt_zero _)|x::a,y::b,0,_,_,_,hne=>by
  have hne:x≠y:=hne;show x::a<y::b↔x<y;rw[cons_lt_cons_iff];exact⟨fun h=>h.elim id fun h=>absurd h.1 hne,.inl⟩
 | x::a,y::b,i+1,he,h1,h2,hne=>by
  have he:x::a.take i=y::b.take i:=he;obtain⟨e1,e2⟩:=List.cons.inj he;have g1:i<a.length:=by simpa using h1
  have g2:i<b.length:=by simpa using h2
  have ih:=lt_at e2 g1 g2 hne;show x::a<y::b↔a[i]<b[i];rw[cons_lt_cons_iff,<- ih];subst e1;exact⟨fun h=>h.elim (fun h=>absurd h (UInt8.lt_irrefl _)) (·.2),fun h=>.inr ⟨rfl,h⟩⟩
theorem lt_end:∀{a b:List UInt8} {i:Nat},a.take i=b.take i->(a.length<=i\/b.length<=i)->i<=a.length->i<=b.length->(a<b↔a.length<b.length)
 | [],[],_,_,_,_,_=>by simp
 | [],y::b,_,_,_,_,_=>by simp
 | x::a,[],_,_,_,_,_=>by simp
 | x::a,y::b,0,_,h,_,_=>by simp at h
 | x::a,y::b,i+1,he,h,h1,h2=>by
  have he:x::a.take i=y::b.take i:=he;obtain⟨e1,e2⟩:=List.cons.inj he;have ih:=lt_end e2 (by simpa using h) (by simpa using h1) (by simpa using h2);subst e1;rw[cons_lt_cons_iff,ih];simp[UInt8.lt_irrefl]
theorem p_textlessT (a b:List UInt8) (ha:okText a) (hb:okText b):Pure Try.prog 46 [pStr (tx a),pStr (tx b)] (pBool (decide (a<b))):=by
 unfold okText at ha hb;have has:(tx a).size=a.length:=rfl;have hbs:(tx b).size=b.length:=rfl;refine pure_of Try.func46 (by rfl) rfl (by kernel_rfl) (by rfl) ?_;((conv=>whnf);repeat' ((first|(with_reducible first|apply a_|apply b_|apply c_)|((with_reducible first|apply d_|apply e_|apply f_|apply g_|apply h_);first|omega|simp only[q_]<;>omega)|((with_reducible apply i_);first|omega|simp only[q_]<;>omega)|((with_reducible apply h_);first|decide|kernel_rfl)|refine s_ (by decide) ?_|refine t_ (by decide) ?_|with_reducible first|apply l_|apply m_|apply n_|apply o_|refine p_ (fun _=>?_) (fun _=>?_))<;>conv=>whnf));refine LoopC.mk Nat (fun k=>[(0,pStr (tx a)),(1,pStr (tx b)),(5,pInt .i64 (k:Int))]) (fun _=>[]) [] (fun k=>k<=a.length/\k<=b.length/\a.take k=b.take k) (fun k=>a.length - k) 0 ⟨zero_le _,zero_le _,rfl⟩ ?start ?round
 case start=>exact⟨[],rfl,rfl,⟨.inl rfl,.inl rfl,.inl rfl,trivial⟩,trivial⟩
 case round=>
  rintro k ⟨hk1,hk2,he⟩;by_cases h1:k<a.length
  ·by_cases h2:k<b.length
   ·have g1:a.getD k 0=a[k]:=by rw[List.getD_eq_getElem?_getD,List.getElem?_eq_getElem h1];rfl
    have g2:b.getD k 0=b[k]:=by rw[List.getD_eq_getElem?_getD,List.getElem?_eq_getElem h2];rfl
    by_cases h3:a[k]=b[k]
    ·have hint:((a.getD k 0).toNat:Int)=((b.getD k 0).toNat:Int):=by rw[g1,g2,h3]
     ((conv=>whnf);repeat' ((first|(with_reducible first|apply a_|apply b_|apply c_)|((with_reducible first|apply d_|apply e_|apply f_|apply g_|apply h_);first|omega|simp only[q_]<;>omega)|((with_reducible apply i_);first|omega|simp only[q_]<;>omega)|((with_reducible apply h_);first|decide|kernel_rfl)|refine s_ (by decide) ?_|refine t_ (by decide) ?_|(first|refine SIdx.tx (l:=a) k rfl h1 ?_|refine SIdx.tx (l:=b) k rfl h2 ?_)|with_reducible first|apply l_|apply m_|apply n_|apply o_|refine p_ (fun _=>?_) (fun _=>?_))<;>conv=>whnf));all_goals first|exact⟨k+1,⟨by omega,by omega,by rw[List.take_succ_eq_append_getElem h1,List.take_succ_eq_append_getElem h2,he,h3]⟩,by omega,[],rfl,rfl,⟨.inl rfl,.inl rfl,PLe.int (by omega),trivial⟩,trivial⟩|(exfalso;omega)|skip
    ·have hne:a[k].toNat≠b[k].toNat:=fun e=>h3 (UInt8.toNat_inj.1 e);have hint:¬((a.getD k 0).toNat:Int)=((b.getD k 0).toNat:Int):=by rw[g1,g2];omega
     have hlt:=lt_at he h1 h2 h3;((conv=>whnf);repeat' ((first|(with_reducible first|apply a_|apply b_|apply c_)|((with_reducible first|apply d_|apply e_|apply f_|apply g_|apply h_);first|omega|simp only[q_]<;>omega)|((with_reducible apply i_);first|omega|simp only[q_]<;>omega)|((with_reducible apply h_);first|decide|kernel_rfl)|refine s_ (by decide) ?_|refine t_ (by decide) ?_|(first|refine SIdx.tx (l:=a) k rfl h1 ?_|refine SIdx.tx (l:=b) k rfl h2 ?_)|with_reducible first|apply l_|apply m_|apply n_|apply o_|refine p_ (fun _=>?_) (fun _=>?_))<;>conv=>whnf));all_goals first|exact Ret.bool (by rw[g1,g2];refine decide_eq_decide.2 ?_;rw[hlt,UInt8.lt_iff_toNat_lt];omega)|(exfalso;omega)|skip
   ·have hlt:=lt_end he (.inr (by omega)) hk1 hk2;((conv=>whnf);repeat' ((first|(with_reducible first|apply a_|apply b_|apply c_)|((with_reducible first|apply d_|apply e_|apply f_|apply g_|apply h_);first|omega|simp only[q_]<;>omega)|((with_reducible apply i_);first|omega|simp only[q_]<;>omega)|((with_reducible apply h_);first|decide|kernel_rfl)|refine s_ (by decide) ?_|refine t_ (by decide) ?_|with_reducible first|apply l_|apply m_|apply n_|apply o_|refine p_ (fun _=>?_) (fun _=>?_))<;>conv=>whnf));all_goals first|exact Ret.bool (decide_eq_decide.2 (by rw[hlt];omega))|(exfalso;omega)|skip
  ·have hlt:=lt_end he (.inl (by omega)) hk1 hk2;((conv=>whnf);repeat' ((first|(with_reducible first|apply a_|apply b_|apply c_)|((with_reducible first|apply d_|apply e_|apply f_|apply g_|apply h_);first|omega|simp only[q_]<;>omega)|((with_reducible apply i_);first|omega|simp only[q_]<;>omega)|((with_reducible apply h_);first|decide|kernel_rfl)|refine s_ (by decide) ?_|refine t_ (by decide) ?_|with_reducible first|apply l_|apply m_|apply n_|apply o_|refine p_ (fun _=>?_) (fun _=>?_))<;>conv=>whnf));all_goals first|exact Ret.bool (decide_eq_decide.2 (by rw[hlt];omega))|(exfalso;omega)|skip
theorem p_pairsof (t:TreeD) (h1:t.Leaves.length<=1048576) (h2:∀l∈t.Leaves,l.length<=1048576):Pure Try.prog 19 [trD t] (lfV (flatD t)):=by
 rcases t with ⟨L,Us⟩;have h1:L.length<=1048576:=h1;have h2:∀l∈L,l.length<=1048576:=h2;have hLl:(lvC L).length=L.length:=length_map _;refine pure_of Try.func19 (by rfl) rfl (by kernel_rfl) (by rfl) ?_;((conv=>whnf);repeat' ((first|(with_reducible first|apply a_|apply b_|apply c_)|((with_reducible first|apply d_|apply e_|apply f_|apply g_|apply h_);first|omega|simp only[q_]<;>omega)|((with_reducible apply i_);first|omega|simp only[q_]<;>omega)|((with_reducible apply h_);first|decide|kernel_rfl)|refine s_ (by decide) ?_|refine t_ (by decide) ?_|with_reducible first|apply l_|apply m_|apply n_|apply o_|refine p_ (fun _=>?_) (fun _=>?_))<;>conv=>whnf));refine LoopC.mk Nat (fun k=>[(1,.d (.ptr 1 0)),(3,.d (.app 160 pT 2 ((L.take k).flatten.map PairD.c))),(4,pInt .i64 (k:Int))]) (fun _=>[(1,treeB L Us),(160,.tail pT 2)]) [1,160] (fun k=>k<=L.length) (fun k=>L.length - k) 0 (zero_le _) ?start ?round
 case start=>exact Wk.mk [(1,1)] rfl rfl ⟨⟨rfl,rfl,rfl⟩,⟨rfl,rfl,zero_lt_succ _,rfl,rfl⟩,.inl rfl,trivial⟩ ⟨⟨rfl,rfl,.inl rfl,.inl rfl,rfl⟩,⟨rfl,zero_lt_succ _⟩,trivial⟩
 case round=>
  intro k hk;by_cases h:k<L.length
  ·obtain⟨l,hle⟩:∃l,l=L[k]:=⟨_,rfl⟩;have hrow:(lvC L)[k]? = some [.sl 2 (l.map PairD.c)]:=by unfold lvC;rw[List.getElem?_map,List.getElem?_eq_getElem h,hle];rfl
   have hl:=h2 l (by rw[hle];exact List.getElem_mem _);have hb:=(flat_bounds (L:=L.take k) (a:=0) (b:=1048576) fun x hx=>⟨zero_le _,h2 x (mem_of_mem_take hx)⟩).2;have hlt:(L.take k).length<=1048576:=by rw[length_take];omega
   have htk:(L.take (k+1)).flatten=(L.take k).flatten++l:=by rw[take_flatL h,hle]
   have n6:(((L.take k).flatten.map PairD.c).length+(l.map PairD.c).length)*24<=140737488355328:=by rw[length_map,length_map];omega
   ((conv=>whnf);repeat' ((first|(with_reducible first|apply a_|apply b_|apply c_)|((with_reducible first|apply d_|apply e_|apply f_|apply g_|apply h_);first|omega|simp only[q_]<;>omega)|((with_reducible apply i_);first|omega|simp only[q_]<;>omega)|((with_reducible apply h_);first|decide|kernel_rfl)|refine s_ (by decide) ?_|refine t_ (by decide) ?_|(first|refine Idx.at' hrow rfl ?_|refine Need.by1 24 rfl n6 ?_)|with_reducible first|apply l_|apply m_|apply n_|apply o_|refine p_ (fun _=>?_) (fun _=>?_))<;>conv=>whnf));all_goals first|(refine⟨k+1,by omega,by omega,[(1,1),(160,18)],rfl,rfl,⟨⟨rfl,rfl,rfl⟩,⟨rfl,rfl,rfl,rfl,?_⟩,PLe.int (by omega),trivial⟩,⟨⟨rfl,rfl,.inl rfl,.inl rfl,rfl⟩,⟨rfl,rfl,rfl⟩,trivial⟩⟩;rw[htk,map_append];done)|(exfalso;omega)|skip
  ·((conv=>whnf);repeat' ((first|(with_reducible first|apply a_|apply b_|apply c_)|((with_reducible first|apply d_|apply e_|apply f_|apply g_|apply h_);first|omega|simp only[q_]<;>omega)|((with_reducible apply i_);first|omega|simp only[q_]<;>omega)|((with_reducible apply h_);first|decide|kernel_rfl)|refine s_ (by decide) ?_|refine t_ (by decide) ?_|with_reducible first|apply l_|apply m_|apply n_|apply o_|refine p_ (fun _=>?_) (fun _=>?_))<;>conv=>whnf));all_goals first|exact Ret.mk (by rw[take_of_length_le (by omega)])|(exfalso;omega)|skip
theorem sum_snoc (u:List Int) {k:Nat} (h:k<u.length):(u.take (k+1)).sum=(u.take k).sum+u[k]:=by rw[List.take_succ_eq_append_getElem h,sum_append,sum_singleton]
theorem sum_small:∀{u:List Int},(∀n∈u,2<=n/\n<=4)->0<=u.sum/\u.sum<=4*u.length
 | [],_=>⟨by simp,by simp⟩|x::u,h=>by
  obtain⟨h1,h2⟩:=sum_small (u:=u) fun n hn=>h n (mem_cons_of_mem _ hn);have h3:=h x mem_cons_self;rw[sum_cons,length_cons]
  push_cast
  omega
theorem p_sums (u:List Int) (b:Nat) (hu:u.length<=17592186044416) (hb:b<=140737488355328):Pure Try.prog 47 [ivV u,pInt .i64 b] (pBool (decide ((∀n∈u,2<=n/\n<=4)/\u.sum=b))):=by
 have hum:(u.map intC).length=u.length:=length_map _;refine pure_of Try.func47 (by rfl) rfl (by kernel_rfl) (by rfl) ?_;((conv=>whnf);repeat' ((first|(with_reducible first|apply a_|apply b_|apply c_)|((with_reducible first|apply d_|apply e_|apply f_|apply g_|apply h_);first|omega|simp only[q_]<;>omega)|((with_reducible apply i_);first|omega|simp only[q_]<;>omega)|((with_reducible apply h_);first|decide|kernel_rfl)|refine s_ (by decide) ?_|refine t_ (by decide) ?_|with_reducible first|apply l_|apply m_|apply n_|apply o_|refine p_ (fun _=>?_) (fun _=>?_))<;>conv=>whnf));refine LoopC.mk Nat (fun k=>[(0,ivV u),(1,pInt .i64 ((b:Int) - (u.take k).sum)),(5,pInt .i64 (k:Int))]) (fun _=>[]) [] (fun k=>k<=u.length/\∀n∈u.take k,2<=n/\n<=4) (fun k=>u.length - k) 0 ⟨zero_le _,fun n hn=>by simp at hn⟩ ?start ?round
 case start=>exact⟨[],rfl,rfl,⟨.inl rfl,PLe.int (by simp),.inl rfl,trivial⟩,trivial⟩
 case round=>
  rintro k ⟨hk,hz⟩;have hs:=sum_small hz;have hkl:((u.take k).length:Int)=k:=by rw[length_take];omega
  by_cases h1:k<u.length
  ·have hsn:=sum_snoc u h1;by_cases h2:2<=u[k]/\u[k]<=4
   ·have hz':∀n∈u.take (k+1),2<=n/\n<=4:=fun n hn=>by
     rw[List.take_succ_eq_append_getElem h1] at hn;rcases mem_append.1 hn with hn | hn
     ·exact hz n hn
     ·rw[mem_singleton] at hn;rw[hn];exact h2
    ((conv=>whnf);repeat' ((first|(with_reducible first|apply a_|apply b_|apply c_)|((with_reducible first|apply d_|apply e_|apply f_|apply g_|apply h_);first|omega|simp only[q_]<;>omega)|((with_reducible apply i_);first|omega|simp only[q_]<;>omega)|((with_reducible apply h_);first|decide|kernel_rfl)|refine s_ (by decide) ?_|refine t_ (by decide) ?_|(refine Idx.mapI (f:=intC) k rfl h1 ?_)|with_reducible first|apply l_|apply m_|apply n_|apply o_|refine p_ (fun _=>?_) (fun _=>?_))<;>conv=>whnf));all_goals first|exact⟨k+1,⟨by omega,hz'⟩,by omega,[],rfl,rfl,⟨.inl rfl,PLe.int (by rw[hsn];omega),PLe.int (by omega),trivial⟩,trivial⟩|(exfalso;omega)|skip
   ·have hf:¬((∀n∈u,2<=n/\n<=4)/\u.sum=b):=fun h=>h2 (h.1 _ (List.getElem_mem h1));rw[decide_eq_false hf];((conv=>whnf);repeat' ((first|(with_reducible first|apply a_|apply b_|apply c_)|((with_reducible first|apply d_|apply e_|apply f_|apply g_|apply h_);first|omega|simp only[q_]<;>omega)|((with_reducible apply i_);first|omega|simp only[q_]<;>omega)|((with_reducible apply h_);first|decide|kernel_rfl)|refine s_ (by decide) ?_|refine t_ (by decide) ?_|(refine Idx.mapI (f:=intC) k rfl h1 ?_)|with_reducible first|apply l_|apply m_|apply n_|apply o_|refine p_ (fun _=>?_) (fun _=>?_))<;>conv=>whnf));all_goals first|exact Ret.bool rfl|(exfalso;omega)|skip
  ·have hk:k=u.length:=by omega
   subst hk;rw[take_length] at hz hs ⊢;((conv=>whnf);repeat' ((first|(with_reducible first|apply a_|apply b_|apply c_)|((with_reducible first|apply d_|apply e_|apply f_|apply g_|apply h_);first|omega|simp only[q_]<;>omega)|((with_reducible apply i_);first|omega|simp only[q_]<;>omega)|((with_reducible apply h_);first|decide|kernel_rfl)|refine s_ (by decide) ?_|refine t_ (by decide) ?_|with_reducible first|apply l_|apply m_|apply n_|apply o_|refine p_ (fun _=>?_) (fun _=>?_))<;>conv=>whnf));all_goals first|exact Ret.bool (decide_eq_decide.2 ⟨fun h=>⟨hz,by omega⟩,fun h=>by omega⟩)|(exfalso;omega)|skip
def foundF (l:List PairD) (key:List UInt8):Int:=match l.findIdx? (fun p=>decide (p.Key=key)) with
 | some i=>i|none=>-1
theorem foundF_at {l:List PairD} {key:List UInt8} {k:Nat} (h:k<l.length) (hn:∀p∈l.take k,p.Key≠key) (he:l[k].Key=key):foundF l key=k:=by
 have hk:l.findIdx? (fun p=>decide (p.Key=key))=some k:=by
  rw[List.findIdx?_eq_some_iff_getElem];refine⟨h,by simpa using he,fun j hj=>?_⟩;have:=hn l[j] (by rw[List.mem_take_iff_getElem];exact⟨j,by omega,rfl⟩);simpa using this
 unfold foundF;rw[hk]
theorem foundF_no {l:List PairD} {key:List UInt8} (hn:∀p∈l,p.Key≠key):foundF l key=-1:=by
 have hk:l.findIdx? (fun p=>decide (p.Key=key))=none:=by
  rw[List.findIdx?_eq_none_iff];intro p hp;simpa using hn p hp
 unfold foundF;rw[hk]
theorem p_foundof (l:List PairD) (hl:l.length<=140737488355328) (key:List UInt8):Pure Try.prog 20 [lfV l,pStr (tx key)] (pInt .i64 (foundF l key)):=by
 have hlm:(l.map PairD.c).length=l.length:=length_map _;refine pure_of Try.func20 (by rfl) rfl (by kernel_rfl) (by rfl) ?_;((conv=>whnf);repeat' ((first|(with_reducible first|apply a_|apply b_|apply c_)|((with_reducible first|apply d_|apply e_|apply f_|apply g_|apply h_);first|omega|simp only[q_]<;>omega)|((with_reducible apply i_);first|omega|simp only[q_]<;>omega)|((with_reducible apply h_);first|decide|kernel_rfl)|refine s_ (by decide) ?_|refine t_ (by decide) ?_|with_reducible first|apply l_|apply m_|apply n_|apply o_|refine p_ (fun _=>?_) (fun _=>?_))<;>conv=>whnf));refine LoopC.mk Nat (fun k=>[(0,lfV l),(1,pStr (tx key)),(5,pInt .i64 (k:Int))]) (fun _=>[]) [] (fun k=>k<=l.length/\∀p∈l.take k,p.Key≠key) (fun k=>l.length - k) 0 ⟨zero_le _,fun n hn=>by simp at hn⟩ ?start ?round
 case start=>exact⟨[],rfl,rfl,⟨.inl rfl,.inl rfl,.inl rfl,trivial⟩,trivial⟩
 case round=>
  rintro k ⟨hk,hz⟩;by_cases h1:k<l.length
  ·by_cases h2:l[k].Key=key
   ·have ht:tx l[k].Key=tx key:=by rw[h2]
    rw[foundF_at h1 hz h2];((conv=>whnf);repeat' ((first|(with_reducible first|apply a_|apply b_|apply c_)|((with_reducible first|apply d_|apply e_|apply f_|apply g_|apply h_);first|omega|simp only[q_]<;>omega)|((with_reducible apply i_);first|omega|simp only[q_]<;>omega)|((with_reducible apply h_);first|decide|kernel_rfl)|refine s_ (by decide) ?_|refine t_ (by decide) ?_|(first|refine Idx.mapI (f:=PairD.c) k rfl h1 ?_|refine BCase.dt ht ?_)|with_reducible first|apply l_|apply m_|apply n_|apply o_|refine p_ (fun _=>?_) (fun _=>?_))<;>conv=>whnf));all_goals first|exact Ret.int rfl|(exfalso;omega)|skip
   ·have ht:¬tx l[k].Key=tx key:=fun e=>h2 (by rwa [tx_eq] at e);have hz':∀p∈l.take (k+1),p.Key≠key:=fun n hn=>by
     rw[List.take_succ_eq_append_getElem h1] at hn;rcases mem_append.1 hn with hn | hn
     ·exact hz n hn
     ·rw[mem_singleton] at hn;rw[hn];exact h2
    ((conv=>whnf);repeat' ((first|(with_reducible first|apply a_|apply b_|apply c_)|((with_reducible first|apply d_|apply e_|apply f_|apply g_|apply h_);first|omega|simp only[q_]<;>omega)|((with_reducible apply i_);first|omega|simp only[q_]<;>omega)|((with_reducible apply h_);first|decide|kernel_rfl)|refine s_ (by decide) ?_|refine t_ (by decide) ?_|(first|refine Idx.mapI (f:=PairD.c) k rfl h1 ?_|refine BCase.df ht ?_)|with_reducible first|apply l_|apply m_|apply n_|apply o_|refine p_ (fun _=>?_) (fun _=>?_))<;>conv=>whnf));all_goals first|exact⟨k+1,⟨by omega,hz'⟩,by omega,[],rfl,rfl,⟨.inl rfl,.inl rfl,PLe.int (by omega),trivial⟩,trivial⟩|(exfalso;omega)|skip
  ·rw[foundF_no fun p hp=>hz p (by rw[take_of_length_le (by omega)];exact hp)];((conv=>whnf);repeat' ((first|(with_reducible first|apply a_|apply b_|apply c_)|((with_reducible first|apply d_|apply e_|apply f_|apply g_|apply h_);first|omega|simp only[q_]<;>omega)|((with_reducible apply i_);first|omega|simp only[q_]<;>omega)|((with_reducible apply h_);first|decide|kernel_rfl)|refine s_ (by decide) ?_|refine t_ (by decide) ?_|with_reducible first|apply l_|apply m_|apply n_|apply o_|refine p_ (fun _=>?_) (fun _=>?_))<;>conv=>whnf));all_goals first|exact Ret.int rfl|(exfalso;omega)|skip
end
section
open Go.RowKit K
open Tr
end
section
open Go.RowKit K
open Tr
def blwF (L:List (List PairD)) (Us:List (List Int)):Nat->Nat
 | 0=>L.length|i+1=>(Us.getD i []).length
set_option maxHeartbeats 4000000 in
theorem p_treecheckR (t:TreeD) (hd:DataOk t):Pure Try.prog 18 [trD t] (pInt .i64 (chkD t)):=by
 rcases t with ⟨L,Us⟩;obtain⟨hk,hl,hu⟩:=hd;have hk:∀l∈L,∀p∈l,p.ok:=hk;have hl:∀l∈L,l.length<=140737488351232:=hl;have hu:∀u∈Us,u.length<=17592186044416:=hu;have hLl:(lvC L).length=L.length:=length_map _;have hUl:(upI Us).length=Us.length:=length_map _;show Pure _ _ _ (pInt .i64 (chkT L Us));refine pure_of Try.func18 (by rfl) rfl (by kernel_rfl) (by rfl) ?_;by_cases hbig:64<L.length\/8<Us.length
 ·rw[show chkT L Us=2 from if_pos hbig];by_cases hb1:64<L.length
  ·((conv=>whnf);repeat' ((first|(with_reducible first|apply a_|apply b_|apply c_)|((with_reducible first|apply d_|apply e_|apply f_|apply g_|apply h_);first|omega|simp only[q_]<;>omega)|((with_reducible apply i_);first|omega|simp only[q_]<;>omega)|((with_reducible apply h_);first|decide|kernel_rfl)|refine s_ (by decide) ?_|refine t_ (by decide) ?_|with_reducible first|apply l_|apply m_|apply n_|apply o_|refine p_ (fun _=>?_) (fun _=>?_))<;>conv=>whnf));all_goals first|exact Ret.int rfl | (exfalso;omega) | skip
  ·((conv=>whnf);repeat' ((first|(with_reducible first|apply a_|apply b_|apply c_)|((with_reducible first|apply d_|apply e_|apply f_|apply g_|apply h_);first|omega|simp only[q_]<;>omega)|((with_reducible apply i_);first|omega|simp only[q_]<;>omega)|((with_reducible apply h_);first|decide|kernel_rfl)|refine s_ (by decide) ?_|refine t_ (by decide) ?_|with_reducible first|apply l_|apply m_|apply n_|apply o_|refine p_ (fun _=>?_) (fun _=>?_))<;>conv=>whnf));all_goals first|exact Ret.int rfl | (exfalso;omega) | skip
 have hc:chkT L Us=if lvChk L.length L []≠0 then lvChk L.length L [] else if upChk L.length Us≠0 then 1 else if 64<L.flatten.length then 2 else 0:=if_neg hbig
 obtain⟨m,hm⟩:∃m,m=L.length:=⟨_,rfl⟩;rw[hc,<- hm];((conv=>whnf);repeat' ((first|(with_reducible first|apply a_|apply b_|apply c_)|((with_reducible first|apply d_|apply e_|apply f_|apply g_|apply h_);first|omega|simp only[q_]<;>omega)|((with_reducible apply i_);first|omega|simp only[q_]<;>omega)|((with_reducible apply h_);first|decide|kernel_rfl)|refine s_ (by decide) ?_|refine t_ (by decide) ?_|with_reducible first|apply l_|apply m_|apply n_|apply o_|refine p_ (fun _=>?_) (fun _=>?_))<;>conv=>whnf));all_goals first | (exfalso;omega) | skip
 refine LoopC.mk Nat (fun k=>[(1,.d (.ptr 1 0)),(3,.d (.app 160 pT 2 ((L.take k).flatten.map PairD.c))),(4,pInt .i64 (k:Int))]) (fun _=>[(1,treeB L Us),(160,.tail pT 2)]) [1,160]
  (fun k=>k<=L.length/\(L.take k).flatten.length<=4*k/\lvChk m L []=lvChk m (L.drop k) (L.take k).flatten) (fun k=>L.length - k) 0 ⟨zero_le _,Nat.le_refl _,rfl⟩ ?start ?round
 case start=>exact Wk.mk [(1,1)] rfl rfl ⟨⟨rfl,rfl,rfl⟩,⟨rfl,rfl,zero_lt_succ _,rfl,rfl⟩,.inl rfl,trivial⟩ ⟨⟨rfl,rfl,.inl rfl,.inl rfl,rfl⟩,⟨rfl,zero_lt_succ _⟩,trivial⟩
 case round=>
  rintro k ⟨h1,h2,h4⟩;have h1:k<=L.length:=h1;have h2:(L.take k).flatten.length<=4*k:=h2;have h4:lvChk m L []=lvChk m (L.drop k) (L.take k).flatten:=h4;by_cases hkL:k<L.length
  ·rw[List.drop_eq_getElem_cons hkL,lvChk] at h4;obtain⟨l,hle⟩:∃l,l=L[k]:=⟨_,rfl⟩;have hmem:l∈L:=by rw[hle];exact List.getElem_mem hkL
   have hll:=hl l hmem;have hlo:=hk l hmem;have htf:=take_flatL hkL;rw[<- hle] at h4 htf;have hrow:(lvC L)[k]? = some [.sl 2 (l.map PairD.c)]:=by
    unfold lvC;rw[List.getElem?_map,List.getElem?_eq_getElem hkL,hle];rfl
   have hlml:(l.map PairD.c).length=l.length:=length_map _;by_cases hb:badL m l
   ·rw[if_pos hb] at h4;rw[h4,if_pos (by decide)];unfold badL at hb;rw[hm] at hb;((conv=>whnf);repeat' ((first|(with_reducible first|apply a_|apply b_|apply c_)|((with_reducible first|apply d_|apply e_|apply f_|apply g_|apply h_);first|omega|simp only[q_]<;>omega)|((with_reducible apply i_);first|omega|simp only[q_]<;>omega)|((with_reducible apply h_);first|decide|kernel_rfl)|refine s_ (by decide) ?_|refine t_ (by decide) ?_|(refine Idx.at' hrow rfl ?_)|with_reducible first|apply l_|apply m_|apply n_|apply o_|refine p_ (fun _=>?_) (fun _=>?_))<;>conv=>whnf));all_goals first|exact Ret.int rfl|(exfalso;omega)|skip
   ·rw[if_neg hb] at h4;obtain⟨sn,hsn⟩:∃sn,sn=(L.take k).flatten:=⟨_,rfl⟩;rw[<- hsn] at h2 h4 htf ⊢;have hsno:∀q∈sn,q.ok:=fun q hq=>by
     rw[hsn] at hq;obtain⟨x,hx,hq⟩:=mem_flatten.1 hq;exact hk x (mem_of_mem_take hx) q hq
    unfold badL at hb;rw[hm] at hb;have hl4:l.length<=4:=by omega
    ((conv=>whnf);repeat' ((first|(with_reducible first|apply a_|apply b_|apply c_)|((with_reducible first|apply d_|apply e_|apply f_|apply g_|apply h_);first|omega|simp only[q_]<;>omega)|((with_reducible apply i_);first|omega|simp only[q_]<;>omega)|((with_reducible apply h_);first|decide|kernel_rfl)|refine s_ (by decide) ?_|refine t_ (by decide) ?_|(refine Idx.at' hrow rfl ?_)|with_reducible first|apply l_|apply m_|apply n_|apply o_|refine p_ (fun _=>?_) (fun _=>?_))<;>conv=>whnf));all_goals first|(exfalso;omega)|skip
    all_goals
     refine LoopC.mk Nat (fun j=>[(1,.d (.ptr 1 0)),(3,.d (.app 160 pT 2 ((sn++l.take j).map PairD.c))),(4,pInt .i64 (k:Int)),(5,pInt .i64 l.length),(6,pInt .i64 (j:Int))]) (fun _=>[(1,treeB L Us),(160,.tail pT 2)]) [1,160]
      (fun j=>j<=l.length/\prChk l sn=prChk (l.drop j) (sn++l.take j)) (fun j=>l.length - j) 0 ⟨zero_le _,by simp⟩ ?start2 ?round2
     case start2=>exact Wk.mk [(1,1),(160,160)] rfl rfl ⟨⟨rfl,rfl,rfl⟩,⟨rfl,rfl,rfl,rfl,by simp⟩,.inl rfl,PLe.int (by rw[hlml]),.inl rfl,trivial⟩ ⟨⟨rfl,rfl,.inl rfl,.inl rfl,rfl⟩,⟨rfl,rfl,rfl⟩,trivial⟩
     case round2=>
      rintro j ⟨g1,g3⟩;have g1:j<=l.length:=g1;have g3:prChk l sn=prChk (l.drop j) (sn++l.take j):=g3;obtain⟨s2,hs2⟩:∃s2,s2=sn++l.take j:=⟨_,rfl⟩;have hs2l:s2.length=sn.length+j:=by rw[hs2,length_append,length_take];omega
      have hs2o:∀q∈s2,q.ok:=fun q hq=>by
       rw[hs2] at hq;rcases mem_append.1 hq with hq | hq
       ·exact hsno q hq
       ·exact hlo q (mem_of_mem_take hq)
      rw[<- hs2] at g3 ⊢;have hs2m:(s2.map PairD.c).length=s2.length:=length_map _;by_cases hj:j<l.length
      ·have hnx:sn++l.take (j+1)=s2++[l[j]]:=by rw[List.take_succ_eq_append_getElem hj,hs2,append_assoc]
       obtain⟨p,hp⟩:∃p,p=l[j]:=⟨_,rfl⟩;have hpo:p.ok:=by rw[hp];exact hlo _ (List.getElem_mem hj)
       have hpk:p.Key.length<=140737488351232:=hpo.1;have hks:(tx p.Key).size=p.Key.length:=rfl;rw[List.drop_eq_getElem_cons hj,prChk] at g3;have hrp:(l.map PairD.c)[j]? = some (PairD.c p):=by rw[List.getElem?_map,List.getElem?_eq_getElem hj,hp];rfl
       rw[<- hp] at g3 hnx;by_cases hq:40<p.Key.length
       ·rw[if_pos hq] at g3;rw[g3,if_pos (by decide)] at h4;rw[h4,if_pos (by decide)];((conv=>whnf);repeat' ((first|(with_reducible first|apply a_|apply b_|apply c_)|((with_reducible first|apply d_|apply e_|apply f_|apply g_|apply h_);first|omega|simp only[q_]<;>omega)|((with_reducible apply i_);first|omega|simp only[q_]<;>omega)|((with_reducible apply h_);first|decide|kernel_rfl)|refine s_ (by decide) ?_|refine t_ (by decide) ?_|(refine Idx.at' hrow rfl ?_)|(refine Idx.at' hrp rfl ?_)|with_reducible first|apply l_|apply m_|apply n_|apply o_|refine p_ (fun _=>?_) (fun _=>?_))<;>conv=>whnf));all_goals first|exact Ret.int rfl|(exfalso;omega)|skip
       ·rw[if_neg hq] at g3;have done:¬(0<s2.length/\¬ltT (lastK s2) p.Key)->prChk l sn=prChk (l.drop (j+1)) (sn++l.take (j+1)):=fun hc=>by
         rw[if_neg hc] at g3;rw[hnx];exact g3
        have n2:((s2.map PairD.c).length+1)*24<=140737488355328:=by rw[hs2m];omega
        by_cases h0:0<s2.length
        ·obtain⟨q,hqe⟩:∃q,q=s2[s2.length - 1]:=⟨_,rfl⟩;have hlk:lastK s2=q.Key:=by
          unfold lastK;rw[List.getLastD_eq_getLast?,List.getLast?_eq_getElem?,List.getElem?_eq_getElem (by omega),hqe];rfl
         have hqo:q.ok:=hs2o q (by rw[hqe];exact List.getElem_mem _);have hrq:(s2.map PairD.c)[s2.length - 1]? = some (PairD.c q):=by rw[List.getElem?_map,List.getElem?_eq_getElem (by omega),hqe];rfl
         have tl:=p_textlessT q.Key p.Key hqo.1 hpo.1;by_cases hc:q.Key<p.Key
         ·have d2:=done fun h=>h.2 (by rw[hlk];exact hc);rw[decide_eq_true hc] at tl;((conv=>whnf);repeat' ((first|(with_reducible first|apply a_|apply b_|apply c_)|((with_reducible first|apply d_|apply e_|apply f_|apply g_|apply h_);first|omega|simp only[q_]<;>omega)|((with_reducible apply i_);first|omega|simp only[q_]<;>omega)|((with_reducible apply h_);first|decide|kernel_rfl)|refine s_ (by decide) ?_|refine t_ (by decide) ?_|(first|refine Idx.at' hrow rfl ?_|refine Idx.at' hrp rfl ?_|refine Idx.at' hrq (by rw[hs2m];omega) ?_|refine Need.by1 24 rfl n2 ?_)|refine r_ tl rfl ?_|with_reducible first|apply l_|apply m_|apply n_|apply o_|refine p_ (fun _=>?_) (fun _=>?_))<;>conv=>whnf));all_goals first|exact⟨j+1,⟨hj,d2⟩,by show l.length - (j+1)<l.length - j;omega,[(1,1),(160,85)],rfl,rfl,⟨⟨rfl,rfl,rfl⟩,⟨rfl,rfl,rfl,rfl,by rw[hnx,map_append];rfl⟩,.inl rfl,.inl rfl,PLe.int (by omega),trivial⟩,⟨⟨rfl,rfl,.inl rfl,.inl rfl,rfl⟩,⟨rfl,rfl,rfl⟩,trivial⟩⟩|(exfalso;omega)|skip
         ·rw[if_pos ⟨h0,by rw[hlk];exact hc⟩] at g3;rw[g3,if_pos (by decide)] at h4;rw[h4,if_pos (by decide)];rw[decide_eq_false hc] at tl;((conv=>whnf);repeat' ((first|(with_reducible first|apply a_|apply b_|apply c_)|((with_reducible first|apply d_|apply e_|apply f_|apply g_|apply h_);first|omega|simp only[q_]<;>omega)|((with_reducible apply i_);first|omega|simp only[q_]<;>omega)|((with_reducible apply h_);first|decide|kernel_rfl)|refine s_ (by decide) ?_|refine t_ (by decide) ?_|(first|refine Idx.at' hrow rfl ?_|refine Idx.at' hrp rfl ?_|refine Idx.at' hrq (by rw[hs2m];omega) ?_)|refine r_ tl rfl ?_|with_reducible first|apply l_|apply m_|apply n_|apply o_|refine p_ (fun _=>?_) (fun _=>?_))<;>conv=>whnf));all_goals first|exact Ret.int rfl|(exfalso;omega)|skip
        ·have d2:=done fun h=>h0 h.1;((conv=>whnf);repeat' ((first|(with_reducible first|apply a_|apply b_|apply c_)|((with_reducible first|apply d_|apply e_|apply f_|apply g_|apply h_);first|omega|simp only[q_]<;>omega)|((with_reducible apply i_);first|omega|simp only[q_]<;>omega)|((with_reducible apply h_);first|decide|kernel_rfl)|refine s_ (by decide) ?_|refine t_ (by decide) ?_|(first|refine Idx.at' hrow rfl ?_|refine Idx.at' hrp rfl ?_|refine Need.by1 24 rfl n2 ?_)|with_reducible first|apply l_|apply m_|apply n_|apply o_|refine p_ (fun _=>?_) (fun _=>?_))<;>conv=>whnf));all_goals first|exact⟨j+1,⟨hj,d2⟩,by show l.length - (j+1)<l.length - j;omega,[(1,1),(160,85)],rfl,rfl,⟨⟨rfl,rfl,rfl⟩,⟨rfl,rfl,rfl,rfl,by rw[hnx,map_append];rfl⟩,.inl rfl,.inl rfl,PLe.int (by omega),trivial⟩,⟨⟨rfl,rfl,.inl rfl,.inl rfl,rfl⟩,⟨rfl,rfl,rfl⟩,trivial⟩⟩|(exfalso;omega)|skip
      ·have hjl:j=l.length:=by omega
       have e0:prChk l sn=0:=by rw[g3,hjl,drop_of_length_le (Nat.le_refl _)];rfl
       rw[e0,if_neg (by decide)] at h4;have hse:s2=(L.take (k+1)).flatten:=by rw[hs2,hjl,take_length,htf]
       ((conv=>whnf);repeat' ((first|(with_reducible first|apply a_|apply b_|apply c_)|((with_reducible first|apply d_|apply e_|apply f_|apply g_|apply h_);first|omega|simp only[q_]<;>omega)|((with_reducible apply i_);first|omega|simp only[q_]<;>omega)|((with_reducible apply h_);first|decide|kernel_rfl)|refine s_ (by decide) ?_|refine t_ (by decide) ?_|with_reducible first|apply l_|apply m_|apply n_|apply o_|refine p_ (fun _=>?_) (fun _=>?_))<;>conv=>whnf));all_goals first|exact⟨k+1,⟨by omega,by rw[<- hse];omega,by rw[<- hse,hs2,hjl,take_length];exact h4⟩,by show L.length - (k+1)<L.length - k;omega,[(1,1),(160,160)],rfl,rfl,⟨⟨rfl,rfl,rfl⟩,⟨rfl,rfl,rfl,rfl,by rw[hse]⟩,PLe.int (by omega),trivial⟩,⟨⟨rfl,rfl,.inl rfl,.inl rfl,rfl⟩,⟨rfl,rfl,rfl⟩,trivial⟩⟩|(exfalso;omega)|skip
  ·have hkl:k=L.length:=by omega
   subst hkl;rw[drop_length,take_length] at h4;have h4:lvChk m L []=0:=h4;rw[h4,if_neg (by decide)];rw[take_length] at h2 ⊢;have hfm:(L.flatten.map PairD.c).length=L.flatten.length:=length_map _;((conv=>whnf);repeat' ((first|(with_reducible first|apply a_|apply b_|apply c_)|((with_reducible first|apply d_|apply e_|apply f_|apply g_|apply h_);first|omega|simp only[q_]<;>omega)|((with_reducible apply i_);first|omega|simp only[q_]<;>omega)|((with_reducible apply h_);first|decide|kernel_rfl)|refine s_ (by decide) ?_|refine t_ (by decide) ?_|with_reducible first|apply l_|apply m_|apply n_|apply o_|refine p_ (fun _=>?_) (fun _=>?_))<;>conv=>whnf));all_goals first | (exfalso;omega) | skip
   refine LoopC.mk Nat (fun i=>[(1,.d (.ptr 1 0)),(3,.d (.app 160 pT 2 (L.flatten.map PairD.c))),(8,pInt .i64 (blwF L Us i)),(9,pInt .i64 (i:Int))]) (fun _=>[(1,treeB L Us),(160,.tail pT 2)]) [1,160]
    (fun i=>i<=Us.length/\upChk m Us=upChk (blwF L Us i) (Us.drop i)) (fun i=>Us.length - i) 0 ⟨zero_le _,by rw[hm];rfl⟩ ?start3 ?round3
   case start3=>exact Wk.mk [(1,1),(160,160)] rfl rfl ⟨⟨rfl,rfl,rfl⟩,⟨rfl,rfl,rfl,rfl,rfl⟩,PLe.int (by rw[hLl];rfl),.inl rfl,trivial⟩ ⟨⟨rfl,rfl,.inl rfl,.inl rfl,rfl⟩,⟨rfl,rfl,rfl⟩,trivial⟩
   case round3=>
    rintro i ⟨g1,g2⟩;have g1:i<=Us.length:=g1;have g2:upChk m Us=upChk (blwF L Us i) (Us.drop i):=g2;obtain⟨b,hb⟩:∃b,b=blwF L Us i:=⟨_,rfl⟩;have hbs:b<=17592186044416:=by
     rw[hb];cases i with
     | zero=>show L.length<=_;omega
     | succ i=>
      show (Us.getD i []).length<=_;rw[List.getD_eq_getElem?_getD];cases hq:Us[i]? with
      | none=>exact zero_le _|some u=>exact hu u (List.mem_of_getElem? hq)
    rw[<- hb] at g2 ⊢;by_cases hi:i<Us.length
    ·rw[List.drop_eq_getElem_cons hi,upChk] at g2;obtain⟨u,hue⟩:∃u,u=Us[i]:=⟨_,rfl⟩;have hrow:(upI Us)[i]? = some [.sl 1 (u.map intC)]:=by unfold upI;rw[List.getElem?_map,List.getElem?_eq_getElem hi,hue];rfl
     have hul:=hu u (by rw[hue];exact List.getElem_mem _);have hum:(u.map intC).length=u.length:=length_map _;have ps:=p_sums u b hul (by omega);have hnb:blwF L Us (i+1)=u.length:=by show (Us.getD i []).length=_;rw[List.getD_eq_getElem?_getD,List.getElem?_eq_getElem hi,hue];rfl
     rw[<- hue] at g2;by_cases c1:b<2
     ·rw[if_pos c1] at g2;rw[g2,if_pos (by decide)];((conv=>whnf);repeat' ((first|(with_reducible first|apply a_|apply b_|apply c_)|((with_reducible first|apply d_|apply e_|apply f_|apply g_|apply h_);first|omega|simp only[q_]<;>omega)|((with_reducible apply i_);first|omega|simp only[q_]<;>omega)|((with_reducible apply h_);first|decide|kernel_rfl)|refine s_ (by decide) ?_|refine t_ (by decide) ?_|(refine Idx.at' hrow rfl ?_)|refine r_ ps rfl ?_|with_reducible first|apply l_|apply m_|apply n_|apply o_|refine p_ (fun _=>?_) (fun _=>?_))<;>conv=>whnf));all_goals first|exact Ret.int rfl|(exfalso;omega)|skip
     ·rw[if_neg c1] at g2;by_cases c2:(∀n∈u,2<=n/\n<=4)/\u.sum=b
      ·rw[if_pos c2] at g2;rw[decide_eq_true c2] at ps;((conv=>whnf);repeat' ((first|(with_reducible first|apply a_|apply b_|apply c_)|((with_reducible first|apply d_|apply e_|apply f_|apply g_|apply h_);first|omega|simp only[q_]<;>omega)|((with_reducible apply i_);first|omega|simp only[q_]<;>omega)|((with_reducible apply h_);first|decide|kernel_rfl)|refine s_ (by decide) ?_|refine t_ (by decide) ?_|(refine Idx.at' hrow rfl ?_)|refine r_ ps rfl ?_|with_reducible first|apply l_|apply m_|apply n_|apply o_|refine p_ (fun _=>?_) (fun _=>?_))<;>conv=>whnf));all_goals first|exact⟨i+1,⟨by omega,by rw[hnb];exact g2⟩,by show Us.length - (i+1)<Us.length - i;omega,[(1,1),(160,160)],rfl,rfl,⟨⟨rfl,rfl,rfl⟩,⟨rfl,rfl,rfl,rfl,rfl⟩,PLe.int (by rw[hnb,hum]),PLe.int (by omega),trivial⟩,⟨⟨rfl,rfl,.inl rfl,.inl rfl,rfl⟩,⟨rfl,rfl,rfl⟩,trivial⟩⟩|(exfalso;omega)|skip
      ·rw[if_neg c2] at g2;rw[g2,if_pos (by decide)];rw[decide_eq_false c2] at ps;((conv=>whnf);repeat' ((first|(with_reducible first|apply a_|apply b_|apply c_)|((with_reducible first|apply d_|apply e_|apply f_|apply g_|apply h_);first|omega|simp only[q_]<;>omega)|((with_reducible apply i_);first|omega|simp only[q_]<;>omega)|((with_reducible apply h_);first|decide|kernel_rfl)|refine s_ (by decide) ?_|refine t_ (by decide) ?_|(refine Idx.at' hrow rfl ?_)|refine r_ ps rfl ?_|with_reducible first|apply l_|apply m_|apply n_|apply o_|refine p_ (fun _=>?_) (fun _=>?_))<;>conv=>whnf));all_goals first|exact Ret.int rfl|(exfalso;omega)|skip
    ·rw[drop_of_length_le (by omega)] at g2;have g2:upChk m Us=if 1<b then 1 else 0:=g2
     by_cases c1:1<b
     ·rw[if_pos c1] at g2;rw[g2,if_pos (by decide)];((conv=>whnf);repeat' ((first|(with_reducible first|apply a_|apply b_|apply c_)|((with_reducible first|apply d_|apply e_|apply f_|apply g_|apply h_);first|omega|simp only[q_]<;>omega)|((with_reducible apply i_);first|omega|simp only[q_]<;>omega)|((with_reducible apply h_);first|decide|kernel_rfl)|refine s_ (by decide) ?_|refine t_ (by decide) ?_|with_reducible first|apply l_|apply m_|apply n_|apply o_|refine p_ (fun _=>?_) (fun _=>?_))<;>conv=>whnf));all_goals first|exact Ret.int rfl|(exfalso;omega)|skip
     ·rw[if_neg c1] at g2;rw[g2,if_neg (by decide)];by_cases c2:64<L.flatten.length
      ·rw[if_pos c2];((conv=>whnf);repeat' ((first|(with_reducible first|apply a_|apply b_|apply c_)|((with_reducible first|apply d_|apply e_|apply f_|apply g_|apply h_);first|omega|simp only[q_]<;>omega)|((with_reducible apply i_);first|omega|simp only[q_]<;>omega)|((with_reducible apply h_);first|decide|kernel_rfl)|refine s_ (by decide) ?_|refine t_ (by decide) ?_|with_reducible first|apply l_|apply m_|apply n_|apply o_|refine p_ (fun _=>?_) (fun _=>?_))<;>conv=>whnf));all_goals first|exact Ret.int rfl|(exfalso;omega)|skip
      ·rw[if_neg c2];((conv=>whnf);repeat' ((first|(with_reducible first|apply a_|apply b_|apply c_)|((with_reducible first|apply d_|apply e_|apply f_|apply g_|apply h_);first|omega|simp only[q_]<;>omega)|((with_reducible apply i_);first|omega|simp only[q_]<;>omega)|((with_reducible apply h_);first|decide|kernel_rfl)|refine s_ (by decide) ?_|refine t_ (by decide) ?_|with_reducible first|apply l_|apply m_|apply n_|apply o_|refine p_ (fun _=>?_) (fun _=>?_))<;>conv=>whnf));all_goals first|exact Ret.int rfl|(exfalso;omega)|skip
end
section
open Go.RowKit K
open Tr
def CSub (c c':C):Prop:=∀(F:Fzn) (w:World) (u:Value),CRep F w c' u->CRep F w c u
inductive RSub:List C->List C->Prop
 | nil:RSub [] []
 | cons {c c':C} {r r':List C}:CSub c c'->RSub r r'->RSub (c::r) (c'::r')
inductive RsSub:List (List C)->List (List C)->Prop
 | nil:RsSub [] []
 | cons {r r':List C} {l l':List (List C)}:RSub r r'->RsSub l l'->RsSub (r::l) (r'::l')
theorem CSub.refl (c:C):CSub c c:=fun _ _ _ h=>h
theorem RSub.len {r r':List C} (h:RSub r r'):r.length=r'.length:=by
 induction h with
 | nil=>rfl|cons _ _ ih=>rw[length_cons,length_cons,ih]
theorem RsSub.len {r r':List (List C)} (h:RsSub r r'):r.length=r'.length:=by
 induction h with
 | nil=>rfl|cons _ _ ih=>rw[length_cons,length_cons,ih]
theorem RSub.app {a a' b b':List C} (h:RSub a a') (k:RSub b b'):RSub (a++b) (a'++b'):=by
 induction h with
 | nil=>exact k|cons h1 _ ih=>exact .cons h1 ih
theorem RsSub.flat {l l':List (List C)} (h:RsSub l l'):RSub l.flatten l'.flatten:=by
 induction h with
 | nil=>exact .nil|cons h1 _ ih=>rw[flatten_cons,flatten_cons];exact h1.app ih
theorem RsSub.sizes {l l':List (List C)} {n:Nat} (h:RsSub l l'):(∀r∈l',r.length=n)->∀r∈l,r.length=n:=by
 induction h with
 | nil=>exact fun h=>h
 | cons h1 _ ih=>
  intro hn r hr;rcases mem_cons.1 hr with rfl | hr
  ·rw[h1.len];exact hn _ mem_cons_self
  ·exact ih (fun r hr=>hn r (mem_cons_of_mem _ hr)) r hr
theorem csAt_sub {F:Fzn} {w:World} {b:Nat} {l l':List C} (h:RSub l l'):∀{off:Nat},CsAt F w b off l'->CsAt F w b off l:=by
 induction h with
 | nil=>exact fun h=>h
 | cons h1 _ ih=>
  intro off k;unfold CsAt at k ⊢;obtain⟨⟨k1,u,k2,k3⟩,k4⟩:=k;exact⟨⟨k1,u,k2,h1 _ _ _ k3⟩,ih k4⟩
theorem CSub.sl {sz:Nat} {l l':List (List C)} (h:RsSub l l'):CSub (.sl sz l) (.sl sz l'):=fun F w u k=>by
 unfold CRep at k ⊢;obtain⟨a,cap,rfl,k2,k3,k4,k5⟩:=k;refine⟨a,cap,by rw[h.len],by rw[h.len];exact k2,k3,k4,?_⟩;rcases k5 with k5 | ⟨b,off,k6,k7⟩
 ·left;have:=h.len;rw[k5] at this;exact eq_nil_of_length_eq_zero this
 ·refine .inr ⟨b,off,k6,?_⟩;rw[rowsAt_iff] at k7 ⊢;exact⟨h.sizes k7.1,csAt_sub h.flat k7.2⟩
theorem CSub.nil (sz:Nat):CSub (.sl sz []) (.v (.slice none 0 0)):=fun F w u k=>by
 unfold CRep at k ⊢;obtain⟨rfl,_⟩:=k;exact⟨none,0,rfl,Nat.le_refl _,zero_le _,fun _=>rfl,.inl rfl⟩
def PSub (x y:PV):Prop:=∀(σ:Sg) (F:Fzn) (w:World) (u:Value),PRep σ F w y u->PRep σ F w x u
theorem PSub.c {c c':C} (h:CSub c c'):PSub (.d (.c c)) (.d (.c c')):=fun σ F w u k=>by
 unfold PRep DRep at k ⊢;exact h _ _ _ k
theorem dsRep_sub {σ:Sg} {F:Fzn} {w:World} {r r':List C} (h:RSub r r'):∀{us:List Value},DsRep σ F w (r'.map D.c) us->DsRep σ F w (r.map D.c) us:=by
 induction h with
 | nil=>exact fun h=>h
 | cons h1 _ ih=>
  intro us k;rw[map_cons] at k ⊢;obtain⟨u,vs,rfl,k1,k2⟩:=dsRep_inv k;refine dsRep_cons ?_ (ih k2);unfold DRep at k1 ⊢;exact h1 _ _ _ k1
theorem PSub.agg {r r':List C} (h:RSub r r'):PSub (.agg (r.map D.c)) (.agg (r'.map D.c)):=fun σ F w u k=>by
 unfold PRep at k ⊢;obtain⟨xs,rfl,k⟩:=k;exact⟨xs,rfl,dsRep_sub h k⟩
theorem Pure.res {P:Program} {f:FuncId} {args:List PV} {res res':PV} (h:Pure P f args res') (hr:PSub res res'):Pure P f args res:=
 ⟨h.1,fun F w vs hG hF hargs=>(h.2 F w vs hG hF hargs).mono fun e w' ⟨v,h1,h2,h3⟩=>⟨v,h1,h2,hr _ _ _ _ h3⟩⟩
mutual
def nestC:Nest->List C
 | .leaf ps=>[.sl 2 (ps.map PairD.c),.sl 2 []]|.node ks=>[.sl 2 [],.sl 2 (nestCs ks)]
def nestCs:List Nest->List (List C)
 | []=>[]|k::ks=>nestC k::nestCs ks
end
theorem nestCs_map:∀ks:List Nest,nestCs ks=ks.map nestC
 | []=>by unfold nestCs;rfl
 | k::ks=>by unfold nestCs;rw[nestCs_map ks,map_cons]
abbrev nsV (n:Nest):PV:=.agg ((nestC n).map D.c)
abbrev nssV (ks:List Nest):PV:=.d (.c (.sl 2 (ks.map nestC)))
theorem nestC_eq (n:Nest):nestC n=[.sl 2 (n.pairs.map PairD.c),.sl 2 (n.kids.map nestC)]:=by
 cases n with
 | leaf ps=>unfold nestC;rfl|node ks=>unfold nestC;rw[nestCs_map];rfl
theorem p_nsize (n:Nest) (h1:n.pairs.length<=70368744177664) (h2:n.kids.length<=70368744177664):Pure Try.prog 33 [nsV n] (pInt .i64 n.size):=by
 have hs:n.size=n.pairs.length+n.kids.length:=by
  cases n with
  | leaf ps=>rfl|node ks=>show ks.length=0+ks.length;omega
 have g1:(n.pairs.map PairD.c).length=n.pairs.length:=length_map _;have g2:(n.kids.map nestC).length=n.kids.length:=length_map _;rw[show nsV n=.agg [.c (.sl 2 (n.pairs.map PairD.c)),.c (.sl 2 (n.kids.map nestC))] by unfold nsV;rw[nestC_eq];rfl];refine pure_of Try.func33 (by rfl) rfl (by kernel_rfl) (by rfl) ?_;((conv=>whnf);repeat' ((first|(with_reducible first|apply a_|apply b_|apply c_)|((with_reducible first|apply d_|apply e_|apply f_|apply g_|apply h_);first|omega|simp only[q_]<;>omega)|((with_reducible apply i_);first|omega|simp only[q_]<;>omega)|((with_reducible apply h_);first|decide|kernel_rfl)|refine s_ (by decide) ?_|refine t_ (by decide) ?_|with_reducible first|apply l_|apply m_|apply n_|apply o_|refine p_ (fun _=>?_) (fun _=>?_))<;>conv=>whnf));all_goals first|exact Ret.int (by omega) | (exfalso;omega) | skip
def fullN:Nat->Nest->Prop
 | 0,n=>n.pairs≠[]/\n.pairs.length<=1000/\∀p∈n.pairs,okText p.Key|h+1,n=>n.kids≠[]/\n.kids.length<=1000/\∀k∈n.kids,fullN h k
theorem p_nfirst (h:Nat) (n:Nest) (ht:tall h n) (hf:fullN h n):Pure Try.prog 68 [nsV n] (pStr (tx (firstN h n))):=by
 rw[show nsV n=.agg [.c (.sl 2 (n.pairs.map PairD.c)),.c (.sl 2 (n.kids.map nestC))] by unfold nsV;rw[nestC_eq];rfl];refine pure_of Try.func68 (by rfl) rfl (by kernel_rfl) (by rfl) ?_;((conv=>whnf);repeat' ((first|(with_reducible first|apply a_|apply b_|apply c_)|((with_reducible first|apply d_|apply e_|apply f_|apply g_|apply h_);first|omega|simp only[q_]<;>omega)|((with_reducible apply i_);first|omega|simp only[q_]<;>omega)|((with_reducible apply h_);first|decide|kernel_rfl)|refine s_ (by decide) ?_|refine t_ (by decide) ?_|with_reducible first|apply l_|apply m_|apply n_|apply o_|refine p_ (fun _=>?_) (fun _=>?_))<;>conv=>whnf));refine LoopC.mk (Nat×Nest) (fun _=>[(1,.d (.ptr 1 0))]) (fun s=>[(1,.box 55 [.c (.sl 2 (s.2.pairs.map PairD.c)),.c (.sl 2 (s.2.kids.map nestC))])]) [1] (fun s=>tall s.1 s.2/\fullN s.1 s.2/\firstN s.1 s.2=firstN h n) (fun s=>s.1) (h,n) ⟨ht,hf,rfl⟩ ?start ?round
 case start=>exact Wk.mk [(1,1)] rfl rfl ⟨⟨rfl,rfl,rfl⟩,trivial⟩ ⟨⟨rfl,rfl,.inl rfl,.inl rfl,rfl⟩,trivial⟩
 case round=>
  rintro⟨j,m⟩ ⟨h1,h2,h3⟩;have h1:tall j m:=h1;have h2:fullN j m:=h2;have h3:firstN j m=firstN h n:=h3;have g1:(m.pairs.map PairD.c).length=m.pairs.length:=length_map _;have g2:(m.kids.map nestC).length=m.kids.length:=length_map _;cases j with
  | zero=>
   obtain⟨p,ps,hp⟩:∃p ps,m.pairs=p::ps:=by
    cases hq:m.pairs with
    | nil=>exact absurd hq h2.1|cons p ps=>exact⟨p,ps,rfl⟩
   have hk:m.kids=[]:=by
    cases m with
    | leaf ps=>rfl|node ks=>exact h1.elim
   have hfn:firstN 0 m=p.Key:=by show (m.pairs.headD ⟨[],0⟩).Key=_;rw[hp];rfl
   rw[<- h3,hfn];have hrow:(m.pairs.map PairD.c)[0]? = some p.c:=by rw[hp];rfl
   have g3:m.kids.length=0:=by rw[hk];rfl
   ((conv=>whnf);repeat' ((first|(with_reducible first|apply a_|apply b_|apply c_)|((with_reducible first|apply d_|apply e_|apply f_|apply g_|apply h_);first|omega|simp only[q_]<;>omega)|((with_reducible apply i_);first|omega|simp only[q_]<;>omega)|((with_reducible apply h_);first|decide|kernel_rfl)|refine s_ (by decide) ?_|refine t_ (by decide) ?_|(refine Idx.at' hrow rfl ?_)|with_reducible first|apply l_|apply m_|apply n_|apply o_|refine p_ (fun _=>?_) (fun _=>?_))<;>conv=>whnf));all_goals first|exact Ret.mk rfl | (exfalso;omega) | skip
  | succ j=>
   obtain⟨k,ks,hk⟩:∃k ks,m.kids=k::ks:=by
    cases hq:m.kids with
    | nil=>exact absurd hq h2.1|cons p ps=>exact⟨p,ps,rfl⟩
   have hrow:(m.kids.map nestC)[0]? = some [.sl 2 (k.pairs.map PairD.c),.sl 2 (k.kids.map nestC)]:=by rw[hk,<- nestC_eq];rfl
   have hkm:k∈m.kids:=by rw[hk];exact mem_cons_self
   have hfn:firstN (j+1) m=firstN j k:=by show (match m.kids with | []=>[] | k::_=>firstN j k)=_;rw[hk]
   have g3:m.kids.length=ks.length+1:=by rw[hk];rfl
   have g4:=h2.2.1;have ht':tall j k:=(tall_node h1).2.2 k hkm;((conv=>whnf);repeat' ((first|(with_reducible first|apply a_|apply b_|apply c_)|((with_reducible first|apply d_|apply e_|apply f_|apply g_|apply h_);first|omega|simp only[q_]<;>omega)|((with_reducible apply i_);first|omega|simp only[q_]<;>omega)|((with_reducible apply h_);first|decide|kernel_rfl)|refine s_ (by decide) ?_|refine t_ (by decide) ?_|(refine Idx.at' hrow rfl ?_)|with_reducible first|apply l_|apply m_|apply n_|apply o_|refine p_ (fun _=>?_) (fun _=>?_))<;>conv=>whnf));all_goals first|exact⟨(j,k),⟨ht',h2.2.2 k hkm,by rw[<- hfn];exact h3⟩,lt_succ_self _,[(1,1)],rfl,rfl,⟨⟨rfl,rfl,rfl⟩,trivial⟩,⟨⟨rfl,rfl,.inl rfl,.inl rfl,rfl⟩,trivial⟩⟩|(exfalso;omega)|skip
end
section
open Go.RowKit K
open Tr
abbrev nT2:Nat:=55
abbrev nestB (n:Nest):HB:=.box nT2 [.c (.sl 2 (n.pairs.map PairD.c)),.c (.sl 2 (n.kids.map nestC))]
theorem nsV_eq (n:Nest):nsV n=.agg [.c (.sl 2 (n.pairs.map PairD.c)),.c (.sl 2 (n.kids.map nestC))]:=by unfold nsV;rw[nestC_eq];rfl
theorem first_ok:∀(h:Nat) (n:Nest),fullN h n->okText (firstN h n)
 | 0,n,hf=>by
  show okText (n.pairs.headD ⟨[],0⟩).Key;cases hq:n.pairs with
  | nil=>exact absurd hq hf.1|cons p ps=>exact hf.2.2 p (by rw[hq];exact mem_cons_self)
 | h+1,n,hf=>by
  show okText (match n.kids with | []=>[] | k::_=>firstN h k);cases hq:n.kids with
  | nil=>exact absurd hq hf.1|cons k ks=>exact first_ok h k (hf.2.2 k (by rw[hq];exact mem_cons_self))
theorem p_nkid (h:Nat) (n:Nest) (ht:tall (h+1) n) (hf:fullN (h+1) n) (key:List UInt8) (hk:okText key):Pure Try.prog 49 [nsV n,pStr (tx key)] (pInt .i64 (kidF h n.kids key)):=by
 obtain⟨f1,f2,f3⟩:=hf;have g2:(n.kids.map nestC).length=n.kids.length:=length_map _;have g3:((n.kids.map (firstN h))).length=n.kids.length:=length_map _;have hpos:=length_pos_iff.2 f1;rw[nsV_eq];refine pure_of Try.func49 (by rfl) rfl (by kernel_rfl) (by rfl) ?_;((conv=>whnf);repeat' ((first|(with_reducible first|apply a_|apply b_|apply c_)|((with_reducible first|apply d_|apply e_|apply f_|apply g_|apply h_);first|omega|simp only[q_]<;>omega)|((with_reducible apply i_);first|omega|simp only[q_]<;>omega)|((with_reducible apply h_);first|decide|kernel_rfl)|refine s_ (by decide) ?_|refine t_ (by decide) ?_|with_reducible first|apply l_|apply m_|apply n_|apply o_|refine p_ (fun _=>?_) (fun _=>?_))<;>conv=>whnf));refine LoopC.mk (Nat×Nat) (fun s=>[(1,pStr (tx key)),(2,.d (.ptr 2 0)),(5,pInt .i64 (s.2:Int)),(6,pInt .i64 (s.1:Int))]) (fun _=>[(2,nestB n)]) [2] (fun s=>1<=s.1/\s.1<=n.kids.length/\kidF h n.kids key=kidA key ((n.kids.map (firstN h)).drop s.1) s.1 s.2) (fun s=>n.kids.length - s.1) (1,0) ⟨Nat.le_refl _,hpos,?first⟩ ?start ?round
 case first=>
  show kidA key (n.kids.map (firstN h)) 0 0=kidA key ((n.kids.map (firstN h)).drop 1) 1 0;cases hq:n.kids with
  | nil=>exact absurd hq f1|cons k ks=>
   rw[map_cons,kidA,if_neg (by omega)];rfl
 case start=>exact Wk.mk [(2,2)] rfl rfl ⟨.inl rfl,⟨rfl,rfl,rfl⟩,.inl rfl,.inl rfl,trivial⟩ ⟨⟨rfl,rfl,.inl rfl,.inl rfl,rfl⟩,trivial⟩
 case round=>
  rintro⟨i,a⟩ ⟨h1,h2,h3⟩;have h1:1<=i:=h1;have h2:i<=n.kids.length:=h2;have h3:kidF h n.kids key=kidA key ((n.kids.map (firstN h)).drop i) i a:=h3;by_cases hi:i<n.kids.length
  ·obtain⟨k,hke⟩:∃k,k=n.kids[i]:=⟨_,rfl⟩;have hkm:k∈n.kids:=by rw[hke];exact List.getElem_mem _
   have hrow:(n.kids.map nestC)[i]? = some [.sl 2 (k.pairs.map PairD.c),.sl 2 (k.kids.map nestC)]:=by rw[<- nestC_eq,List.getElem?_map,List.getElem?_eq_getElem hi,hke];rfl
   have pf:=p_nfirst h k ((tall_node ht).2.2 k hkm) (f3 k hkm);rw[nsV_eq] at pf;have tl:=p_textlessT key (firstN h k) hk (first_ok h k (f3 k hkm));rw[List.drop_eq_getElem_cons (by omega),kidA,List.getElem_map,<- hke] at h3;by_cases hc:key<firstN h k
   ·rw[if_neg (fun g=>g.2 hc)] at h3;rw[decide_eq_true hc] at tl;((conv=>whnf);repeat' ((first|(with_reducible first|apply a_|apply b_|apply c_)|((with_reducible first|apply d_|apply e_|apply f_|apply g_|apply h_);first|omega|simp only[q_]<;>omega)|((with_reducible apply i_);first|omega|simp only[q_]<;>omega)|((with_reducible apply h_);first|decide|kernel_rfl)|refine s_ (by decide) ?_|refine t_ (by decide) ?_|(refine Idx.at' hrow rfl ?_)|refine r_ pf rfl ?_|refine r_ tl rfl ?_|with_reducible first|apply l_|apply m_|apply n_|apply o_|refine p_ (fun _=>?_) (fun _=>?_))<;>conv=>whnf));all_goals first|exact⟨(i+1,a),⟨by show 1<=i+1;omega,hi,h3⟩,by show n.kids.length - (i+1)<n.kids.length - i;omega,[(2,2)],rfl,rfl,⟨.inl rfl,⟨rfl,rfl,rfl⟩,.inl rfl,PLe.int (by show _=((i+1:Nat):Int);omega),trivial⟩,⟨⟨rfl,rfl,.inl rfl,.inl rfl,rfl⟩,trivial⟩⟩|(exfalso;omega)|skip
   ·rw[if_pos ⟨h1,hc⟩] at h3;rw[decide_eq_false hc] at tl;((conv=>whnf);repeat' ((first|(with_reducible first|apply a_|apply b_|apply c_)|((with_reducible first|apply d_|apply e_|apply f_|apply g_|apply h_);first|omega|simp only[q_]<;>omega)|((with_reducible apply i_);first|omega|simp only[q_]<;>omega)|((with_reducible apply h_);first|decide|kernel_rfl)|refine s_ (by decide) ?_|refine t_ (by decide) ?_|(refine Idx.at' hrow rfl ?_)|refine r_ pf rfl ?_|refine r_ tl rfl ?_|with_reducible first|apply l_|apply m_|apply n_|apply o_|refine p_ (fun _=>?_) (fun _=>?_))<;>conv=>whnf));all_goals first|exact⟨(i+1,i),⟨by show 1<=i+1;omega,hi,h3⟩,by show n.kids.length - (i+1)<n.kids.length - i;omega,[(2,2)],rfl,rfl,⟨.inl rfl,⟨rfl,rfl,rfl⟩,.inl rfl,PLe.int (by show _=((i+1:Nat):Int);omega),trivial⟩,⟨⟨rfl,rfl,.inl rfl,.inl rfl,rfl⟩,trivial⟩⟩|(exfalso;omega)|skip
  ·rw[drop_of_length_le (by omega)] at h3;have h3:kidF h n.kids key=a:=h3;rw[h3];((conv=>whnf);repeat' ((first|(with_reducible first|apply a_|apply b_|apply c_)|((with_reducible first|apply d_|apply e_|apply f_|apply g_|apply h_);first|omega|simp only[q_]<;>omega)|((with_reducible apply i_);first|omega|simp only[q_]<;>omega)|((with_reducible apply h_);first|decide|kernel_rfl)|refine s_ (by decide) ?_|refine t_ (by decide) ?_|with_reducible first|apply l_|apply m_|apply n_|apply o_|refine p_ (fun _=>?_) (fun _=>?_))<;>conv=>whnf));all_goals first|exact Ret.int rfl|(exfalso;omega)|skip
theorem sl_rest {α:Type} (l:List α) (a:Int) (k:Nat) (ha:a.toNat=k):List.take ((l.length:Int).toNat - a.toNat) (List.drop a.toNat l)=l.drop k:=by
 rw[ha];exact take_of_length_le (by rw[length_drop,toNat_natCast];exact Nat.le_refl _)
theorem sl_first {α:Type} (l:List α) (b:Int) (k:Nat) (hb:b.toNat=k):List.take (b.toNat - Int.toNat 0) (List.drop (Int.toNat 0) l)=l.take k:=by
 rw[hb];rfl
end
section
open Go.RowKit K
open Tr
end
section
open Go.RowKit K
open Tr
abbrev leafR (l:List PairD):List C:=[.sl 2 (l.map PairD.c),.v (.slice none 0 0)]
def grpR:List Nat->List (List C)->List (List C)
 | [],_=>[]|n::u,R=>[.v (.slice none 0 0),.sl 2 (R.take n)]::grpR u (R.drop n)
def levR:List (List Nat)->List (List C)->List (List C)
 | [],R=>R|u::U,R=>levR U (grpR u R)
theorem RsSub.take {l l':List (List C)} (h:RsSub l l'):∀n,RsSub (l.take n) (l'.take n):=by
 induction h with
 | nil=>intro n;rw[take_nil];exact .nil
 | cons h1 _ ih=>
  intro n;cases n with
  | zero=>exact .nil|succ n=>exact .cons h1 (ih n)
theorem RsSub.drop {l l':List (List C)} (h:RsSub l l'):∀n,RsSub (l.drop n) (l'.drop n):=by
 induction h with
 | nil=>intro n;rw[List.drop_nil];exact .nil
 | cons h1 h2 ih=>
  intro n;cases n with
  | zero=>exact .cons h1 h2|succ n=>exact ih n
theorem grp_sub:∀(u:List Nat) (F:List Nest) (R:List (List C)),RsSub (F.map nestC) R->RsSub ((grp u F).map nestC) (grpR u R)
 | [],_,_,_=>.nil|n::u,F,R,h=>by
  rw[grp,grpR,map_cons,nestC_eq];refine .cons (.cons (CSub.nil 2) (.cons (CSub.sl ?_) .nil)) (grp_sub u _ _ ?_)
  ·show RsSub ((F.take n).map nestC) _;rw[map_take];exact h.take n
  ·rw[map_drop];exact h.drop n
theorem lev_sub:∀(U:List (List Nat)) (F:List Nest) (R:List (List C)),RsSub (F.map nestC) R->RsSub ((nestF U F).map nestC) (levR U R)
 | [],_,_,h=>h|u::U,F,R,h=>by rw[nestF,levR];exact lev_sub U _ _ (grp_sub u F R h)
theorem leaf_sub:∀L:List (List PairD),RsSub ((L.map Nest.leaf).map nestC) (L.map leafR)
 | []=>.nil|l::L=>by
  rw[map_cons,map_cons,nestC_eq];exact .cons (.cons (CSub.refl _) (.cons (CSub.nil 2) .nil)) (leaf_sub L)
theorem grpR_len:∀(u:List Nat) (R:List (List C)),(grpR u R).length=u.length
 | [],_=>rfl|n::u,R=>by rw[grpR,length_cons,length_cons,grpR_len u]
theorem grpR_snoc:∀(u:List Nat) (R:List (List C)) {k:Nat} (h:k<u.length),grpR (u.take (k+1)) R=grpR (u.take k) R++[[.v (.slice none 0 0),.sl 2 ((R.drop (u.take k).sum).take u[k])]]
 | n::u,R,0,_=>rfl|n::u,R,k+1,h=>by
  rw[take_succ_cons,grpR,grpR_snoc u (R.drop n) (k:=k) (by simpa using h),take_succ_cons,grpR,sum_cons,drop_drop];rfl
theorem sumtk_snoc (u:List Nat) {k:Nat} (h:k<u.length):(u.take (k+1)).sum=(u.take k).sum+u[k]:=by rw[List.take_succ_eq_append_getElem h,sum_append,sum_singleton]
theorem sumtk_le:∀(u:List Nat) (k:Nat),(u.take k).sum<=u.sum
 | [],k=>by rw[take_nil];exact Nat.le_refl _
 | n::u,0=>zero_le _|n::u,k+1=>by
  have:=sumtk_le u k;rw[take_succ_cons,sum_cons,sum_cons];omega
theorem nest_one {U:List (List Nat)} {L:List (List PairD)} {n:Nest} (h:nestF U (L.map Nest.leaf)=[n]):∃x y,levR U (L.map leafR)=[[x,y]]/\RSub (nestC n) [x,y]:=by
 have hs:=lev_sub U _ _ (leaf_sub L);rw[h,map_cons,map_nil] at hs;rw[nestC_eq] at hs ⊢;obtain⟨R,hR⟩:∃R,R=levR U (L.map leafR):=⟨_,rfl⟩;rw[<- hR] at hs ⊢;cases hs with
 | cons h1 h2=>
  cases h2;cases h1 with
  | cons g1 g2=>cases g2 with
   | cons g2 g3=>
    cases g3;exact⟨_,_,rfl,.cons g1 (.cons g2 .nil)⟩
set_option maxHeartbeats 4000000 in
theorem p_nestof {L:List (List PairD)} {U:List (List Nat)} (h:TreeOk L U) (hL:L≠[]):Pure Try.prog 21 [.agg [.c (.sl 1 (lvC L)),.c (.sl 1 (upC U))]] (nsV (nestT L U)):=by
 obtain⟨x,y,e1,e2⟩:=nest_one (nestT_ok h hL).2.2.2;refine Pure.res (res':=.agg [.c x,.c y]) ?_ (PSub.agg e2);have hup:=(h.top hL).2;have hLl:(lvC L).length=L.length:=length_map _;have hUl:(upC U).length=U.length:=length_map _;have h64:=h.many;have h8:=h.deep;refine pure_of Try.func21 (by rfl) rfl (by kernel_rfl) (by rfl) ?_;((conv=>whnf);repeat' ((first|(with_reducible first|apply a_|apply b_|apply c_)|((with_reducible first|apply d_|apply e_|apply f_|apply g_|apply h_);first|omega|simp only[q_]<;>omega)|((with_reducible apply i_);first|omega|simp only[q_]<;>omega)|((with_reducible apply h_);first|decide|kernel_rfl)|refine s_ (by decide) ?_|refine t_ (by decide) ?_|with_reducible first|apply l_|apply m_|apply n_|apply o_|refine p_ (fun _=>?_) (fun _=>?_))<;>conv=>whnf));all_goals first | (exfalso;omega) | skip
 refine LoopC.mk Nat (fun k=>[(1,.d (.ptr 1 0)),(2,.d (.ptr 2 0)),(3,.d (.app 160 nT2 2 ((L.take k).map leafR))),(4,pInt .i64 (k:Int))]) (fun _=>[(1,.box 25 [.c (.sl 1 (lvC L)),.c (.sl 1 (upC U))]),(2,.box nT2 [.c (.v (.slice none 0 0)),.c (.v (.slice none 0 0))]),(160,.tail nT2 2)]) [1,2,160] (fun k=>k<=L.length) (fun k=>L.length - k) 0 (zero_le _) ?start ?round
 case start=>exact Wk.mk [(1,1),(2,2)] rfl rfl ⟨⟨rfl,rfl,rfl⟩,⟨rfl,rfl,rfl⟩,⟨rfl,rfl,zero_lt_succ _,rfl,rfl⟩,.inl rfl,trivial⟩ ⟨⟨rfl,rfl,.inl rfl,.inl rfl,rfl⟩,⟨rfl,rfl,.inl rfl,.inl rfl,rfl⟩,⟨rfl,zero_lt_succ _⟩,trivial⟩
 case round=>
  intro k hk;by_cases hkl:k<L.length
  ·obtain⟨l,hle⟩:∃l,l=L[k]:=⟨_,rfl⟩;have hrow:(lvC L)[k]? = some [.sl 2 (l.map PairD.c)]:=by unfold lvC;rw[List.getElem?_map,List.getElem?_eq_getElem hkl,hle];rfl
   have hsn:(L.take (k+1)).map leafR=(L.take k).map leafR++[leafR l]:=by rw[List.take_succ_eq_append_getElem hkl,map_append,<- hle];rfl
   have hlk:((L.take k).map leafR).length=k:=by rw[length_map,length_take];omega
   ((conv=>whnf);repeat' ((first|(with_reducible first|apply a_|apply b_|apply c_)|((with_reducible first|apply d_|apply e_|apply f_|apply g_|apply h_);first|omega|simp only[q_]<;>omega)|((with_reducible apply i_);first|omega|simp only[q_]<;>omega)|((with_reducible apply h_);first|decide|kernel_rfl)|refine s_ (by decide) ?_|refine t_ (by decide) ?_|(first|refine Idx.at' hrow rfl ?_|refine Need.by1 48 rfl (by rw[hlk];simp only[length_cons,length_nil];omega) ?_)|with_reducible first|apply l_|apply m_|apply n_|apply o_|refine p_ (fun _=>?_) (fun _=>?_))<;>conv=>whnf));all_goals first|exact⟨k+1,by omega,by omega,[(1,1),(2,2),(160,24)],rfl,rfl,⟨⟨rfl,rfl,rfl⟩,⟨rfl,rfl,rfl⟩,⟨rfl,rfl,rfl,rfl,by rw[hsn]⟩,PLe.int (by omega),trivial⟩,⟨⟨rfl,rfl,.inl rfl,.inl rfl,rfl⟩,⟨rfl,rfl,.inl rfl,.inl rfl,rfl⟩,⟨rfl,rfl,rfl⟩,trivial⟩⟩|(exfalso;omega)|skip
  ·rw[take_of_length_le (by omega)];((conv=>whnf);repeat' ((first|(with_reducible first|apply a_|apply b_|apply c_)|((with_reducible first|apply d_|apply e_|apply f_|apply g_|apply h_);first|omega|simp only[q_]<;>omega)|((with_reducible apply i_);first|omega|simp only[q_]<;>omega)|((with_reducible apply h_);first|decide|kernel_rfl)|refine s_ (by decide) ?_|refine t_ (by decide) ?_|with_reducible first|apply l_|apply m_|apply n_|apply o_|refine p_ (fun _=>?_) (fun _=>?_))<;>conv=>whnf));all_goals first | (exfalso;omega) | skip
   refine LoopC.mk (Nat×List (List C)) (fun s=>[(1,.d (.ptr 1 0)),(2,.d (.ptr 2 0)),(3,.d (.c (.sl 2 s.2))),(5,pInt .i64 (s.1:Int))]) (fun _=>[(1,.box 25 [.c (.sl 1 (lvC L)),.c (.sl 1 (upC U))]),(2,.box nT2 [.c (.v (.slice none 0 0)),.c (.v (.slice none 0 0))])]) [1,2] (fun s=>s.1<=U.length/\upOk s.2.length (U.drop s.1) 1/\levR (U.drop s.1) s.2=[[x,y]]/\s.2.length<=64) (fun s=>U.length - s.1) (0,L.map leafR) ⟨zero_le _,by rw[length_map];exact hup,e1,by rw[length_map];exact h64⟩ ?start2 ?round2
   case start2=>exact Wk.mk [(1,1),(2,2)] rfl rfl ⟨⟨rfl,rfl,rfl⟩,⟨rfl,rfl,rfl⟩,rfl,.inl rfl,trivial⟩ ⟨⟨rfl,rfl,.inl rfl,.inl rfl,rfl⟩,⟨rfl,rfl,.inl rfl,.inl rfl,rfl⟩,trivial⟩
   case round2=>
    rintro⟨i,R⟩ ⟨k1,k2,k3,k4⟩;have k1:i<=U.length:=k1;have k2:upOk R.length (U.drop i) 1:=k2;have k3:levR (U.drop i) R=[[x,y]]:=k3;have k4:R.length<=64:=k4;by_cases hi:i<U.length
    ·rw[List.drop_eq_getElem_cons hi] at k2 k3;obtain⟨u,hue⟩:∃u,u=U[i]:=⟨_,rfl⟩;rw[<- hue] at k2 k3;obtain⟨m1,m2,m3,m4⟩:=k2;have hu2:=two_sum m2;rw[levR] at k3;have hrow:(upC U)[i]? = some [.sl 1 (u.map natC)]:=by unfold upC;rw[List.getElem?_map,List.getElem?_eq_getElem hi,hue];rfl
     have hum:(u.map natC).length=u.length:=length_map _;((conv=>whnf);repeat' ((first|(with_reducible first|apply a_|apply b_|apply c_)|((with_reducible first|apply d_|apply e_|apply f_|apply g_|apply h_);first|omega|simp only[q_]<;>omega)|((with_reducible apply i_);first|omega|simp only[q_]<;>omega)|((with_reducible apply h_);first|decide|kernel_rfl)|refine s_ (by decide) ?_|refine t_ (by decide) ?_|(refine Idx.at' hrow rfl ?_)|with_reducible first|apply l_|apply m_|apply n_|apply o_|refine p_ (fun _=>?_) (fun _=>?_))<;>conv=>whnf));all_goals first | (exfalso;omega) | skip
     refine LoopC.mk Nat (fun k=>[(1,.d (.ptr 1 0)),(2,.d (.ptr 2 0)),(3,.d (.c (.sl 2 R))),(5,pInt .i64 (i:Int)),(6,.d (.app 161 nT2 2 (grpR (u.take k) R))),(7,pInt .i64 ((u.take k).sum:Int)),(8,pInt .i64 (k:Int))]) (fun _=>[(1,.box 25 [.c (.sl 1 (lvC L)),.c (.sl 1 (upC U))]),(2,.box nT2 [.c (.v (.slice none 0 0)),.c (.v (.slice none 0 0))]),(161,.tail nT2 2)]) [1,2,161] (fun k=>k<=u.length) (fun k=>u.length - k) 0 (zero_le _) ?start3 ?round3
     case start3=>exact Wk.mk [(1,1),(2,2)] rfl rfl ⟨⟨rfl,rfl,rfl⟩,⟨rfl,rfl,rfl⟩,.inl rfl,.inl rfl,⟨rfl,rfl,zero_lt_succ _,rfl,rfl⟩,.inl rfl,.inl rfl,trivial⟩ ⟨⟨rfl,rfl,.inl rfl,.inl rfl,rfl⟩,⟨rfl,rfl,.inl rfl,.inl rfl,rfl⟩,⟨rfl,zero_lt_succ _⟩,trivial⟩
     case round3=>
      intro k hk2;by_cases hku:k<u.length
      ·obtain⟨a,ha⟩:∃a,a=(u.take k).sum:=⟨_,rfl⟩;obtain⟨z,hz⟩:∃z,z=u[k]:=⟨_,rfl⟩;have hst:=sumtk_snoc u hku;have hsl:=sumtk_le u (k+1);have hgs:=grpR_snoc u R hku;rw[<- ha,<- hz] at hst hgs;rw[hst] at hsl;have hrk:(u.map natC)[k]? = some [.v (.int .i64 (z:Int))]:=by rw[List.getElem?_map,List.getElem?_eq_getElem hku,hz];rfl
       have hgl:=grpR_len (u.take k) R;rw[length_take,min_eq_left hk2] at hgl;have hgs:grpR (u.take (k+1)) R=grpR (u.take k) R++[[.v (.slice none 0 0),.sl 2 (List.take (((a:Int)+(z:Int)).toNat - (a:Int).toNat) (List.drop (a:Int).toNat R))]]:=by
        rw[hgs,show ((a:Int)+(z:Int)).toNat - (a:Int).toNat=z by omega];rfl
       rw[<- ha];((conv=>whnf);repeat' ((first|(with_reducible first|apply a_|apply b_|apply c_)|((with_reducible first|apply d_|apply e_|apply f_|apply g_|apply h_);first|omega|simp only[q_]<;>omega)|((with_reducible apply i_);first|omega|simp only[q_]<;>omega)|((with_reducible apply h_);first|decide|kernel_rfl)|refine s_ (by decide) ?_|refine t_ (by decide) ?_|(first|refine Idx.at' hrow rfl ?_|refine Idx.at' hrk rfl ?_|refine Need.by1 48 rfl (by rw[hgl];simp only[length_cons,length_nil];omega) ?_)|with_reducible first|apply l_|apply m_|apply n_|apply o_|refine p_ (fun _=>?_) (fun _=>?_))<;>conv=>whnf));all_goals first|exact⟨k+1,by omega,by omega,[(1,1),(2,2),(161,58)],rfl,rfl,⟨⟨rfl,rfl,rfl⟩,⟨rfl,rfl,rfl⟩,.inl rfl,.inl rfl,⟨rfl,rfl,rfl,rfl,by rw[hgs]⟩,PLe.int (by rw[hst];omega),PLe.int (by omega),trivial⟩,⟨⟨rfl,rfl,.inl rfl,.inl rfl,rfl⟩,⟨rfl,rfl,.inl rfl,.inl rfl,rfl⟩,⟨rfl,rfl,rfl⟩,trivial⟩⟩|(exfalso;omega)|skip
      ·rw[take_of_length_le (by omega)];((conv=>whnf);repeat' ((first|(with_reducible first|apply a_|apply b_|apply c_)|((with_reducible first|apply d_|apply e_|apply f_|apply g_|apply h_);first|omega|simp only[q_]<;>omega)|((with_reducible apply i_);first|omega|simp only[q_]<;>omega)|((with_reducible apply h_);first|decide|kernel_rfl)|refine s_ (by decide) ?_|refine t_ (by decide) ?_|(refine Idx.at' hrow rfl ?_)|with_reducible first|apply l_|apply m_|apply n_|apply o_|refine p_ (fun _=>?_) (fun _=>?_))<;>conv=>whnf));all_goals first|exact⟨(i+1,grpR u R),⟨hi,by rw[grpR_len];exact m4,k3,by rw[grpR_len];omega⟩,by show U.length - (i+1)<U.length - i;omega,[(1,1),(2,2)],rfl,rfl,⟨⟨rfl,rfl,rfl⟩,⟨rfl,rfl,rfl⟩,rfl,PLe.int (by show _=((i+1:Nat):Int);omega),trivial⟩,⟨⟨rfl,rfl,.inl rfl,.inl rfl,rfl⟩,⟨rfl,rfl,.inl rfl,.inl rfl,rfl⟩,trivial⟩⟩|(exfalso;omega)|skip
    ·rw[drop_of_length_le (by omega),levR] at k3;subst k3;have hrow:[[x,y]][0]? = some [x,y]:=rfl;((conv=>whnf);repeat' ((first|(with_reducible first|apply a_|apply b_|apply c_)|((with_reducible first|apply d_|apply e_|apply f_|apply g_|apply h_);first|omega|simp only[q_]<;>omega)|((with_reducible apply i_);first|omega|simp only[q_]<;>omega)|((with_reducible apply h_);first|decide|kernel_rfl)|refine s_ (by decide) ?_|refine t_ (by decide) ?_|(refine Idx.at' hrow rfl ?_)|with_reducible first|apply l_|apply m_|apply n_|apply o_|refine p_ (fun _=>?_) (fun _=>?_))<;>conv=>whnf));all_goals first|exact Ret.mk rfl|(exfalso;omega)|skip
end
section
open Go.RowKit K
open Tr
theorem kids_big:∀F:List Nest,(∀m∈F,m.kids≠[])->F.length<=(F.flatMap Nest.kids).length
 | [],_=>zero_le _|x::F,h=>by
  have h2:=length_pos_iff.2 (h x mem_cons_self);have h3:=kids_big F fun m hm=>h m (mem_cons_of_mem _ hm);rw[flatMap_cons,length_append,length_cons];omega
theorem lvs_big:∀(j:Nat) (F:List Nest),(∀m∈F,fullN j m)->F.length<=(lvs j F).length
 | 0,F,_=>by rw[lvs,length_map];exact Nat.le_refl _
 | j+1,F,h=>by
  rw[lvs];refine le_trans ?_ (lvs_big j (F.flatMap Nest.kids) fun m hm=>?_)
  ·exact kids_big F fun m hm=>(h m hm).1
  ·obtain⟨x,hx,hm⟩:=mem_flatMap.1 hm;exact (h x hx).2.2 m hm
abbrev szC (m:Nest):List C:=[.v (.int .i64 (m.kids.length:Int))]
abbrev prR (m:Nest):List C:=[.sl 2 (m.pairs.map PairD.c)]
theorem sz_nat {j:Nat} {F:List Nest} (h:∀m∈F,tall (j+1) m):F.map szC=(F.map Nest.size).map natC:=by
 rw[map_map];refine map_congr_left fun m hm=>?_;show [C.v (.int .i64 (m.kids.length:Int))]=[C.v (.int .i64 (m.size:Int))];rw[(tall_node (h m hm)).2.1]
theorem fm_snoc {F:List Nest} {k:Nat} (h:k<F.length):(F.take (k+1)).flatMap Nest.kids=(F.take k).flatMap Nest.kids++F[k].kids:=by
 rw[List.take_succ_eq_append_getElem h,flatMap_append,List.flatMap_singleton]
theorem fm_le (F:List Nest) (k:Nat):((F.take k).flatMap Nest.kids).length<=(F.flatMap Nest.kids).length:=by
 have:(F.take k++F.drop k).flatMap Nest.kids=F.flatMap Nest.kids:=by rw[take_append_drop]
 rw[<- this,flatMap_append,length_append];exact Nat.le_add_right _ _
abbrev apIn:Nat:=3
abbrev apTr:Nat:=25
set_option maxHeartbeats 4000000 in
theorem p_flatof (H:Nat) (n:Nest) (ht:tall H n) (hf:fullN H n) (hl:(lvs H [n]).length<=1000) (hH:H<=1000):Pure Try.prog 23 [nsV n] (trD ⟨lvs H [n],intU (ups H [n])⟩):=by
 rw[nsV_eq,show trD ⟨lvs H [n],intU (ups H [n])⟩=.agg [.c (.sl 1 (lvC (lvs H [n]))),.c (.sl 1 (upI (intU (ups H [n]))))] from rfl,upI_int];refine pure_of Try.func23 (by rfl) rfl (by kernel_rfl) (by rfl) ?_;((conv=>whnf);repeat' ((first|(with_reducible first|apply a_|apply b_|apply c_)|((with_reducible first|apply d_|apply e_|apply f_|apply g_|apply h_);first|omega|simp only[q_]<;>omega)|((with_reducible apply i_);first|omega|simp only[q_]<;>omega)|((with_reducible apply h_);first|decide|kernel_rfl)|refine s_ (by decide) ?_|refine t_ (by decide) ?_|with_reducible first|apply l_|apply m_|apply n_|apply o_|refine p_ (fun _=>?_) (fun _=>?_))<;>conv=>whnf));all_goals first | (exfalso;omega) | skip
 refine LoopC.mk (Nat×List Nest×List (List Nat)) (fun s=>[(2,.d (.ptr 2 0)),(3,.d (.ptr 3 0)),(4,.d (.c (.sl 2 (s.2.1.map nestC))))]) (fun s=>[(2,.box apTr [.c (.v (.slice none 0 0)),.c (.v (.slice none 0 0))]),(3,.box apTr [.c (.v (.slice none 0 0)),.c (.sl 1 (upC s.2.2))])]) [2,3]
  (fun s=>(∀m∈s.2.1,tall s.1 m)/\(∀m∈s.2.1,fullN s.1 m)/\s.2.1≠[]/\lvs s.1 s.2.1=lvs H [n]/\ups s.1 s.2.1++s.2.2=ups H [n]) (fun s=>s.1) (H,[n],[]) ⟨fun m hm=>by rw[mem_singleton.1 hm];exact ht,fun m hm=>by rw[mem_singleton.1 hm];exact hf,cons_ne_nil _ _,rfl,List.append_nil _⟩ ?start ?round
 case start=>
  refine Wk.mk [(2,2),(3,3)] rfl rfl ⟨⟨rfl,rfl,rfl⟩,⟨rfl,rfl,rfl⟩,congrArg (fun r=>C.sl 2 [r]) (nestC_eq n),trivial⟩ ⟨⟨rfl,rfl,.inl rfl,.inl rfl,rfl⟩,⟨rfl,rfl,.inl rfl,.inr ⟨⟨1,rfl⟩,.inl rfl⟩,rfl⟩,trivial⟩
 case round=>
  rintro⟨j,F,Up⟩ ⟨k1,k2,k3,k4,k5⟩;have k1:∀m∈F,tall j m:=k1;have k2:∀m∈F,fullN j m:=k2;have k3:F≠[]:=k3;have k4:lvs j F=lvs H [n]:=k4;have k5:ups j F++Up=ups H [n]:=k5;have hb:=lvs_big j F k2;rw[k4] at hb;have hFm:(F.map nestC).length=F.length:=length_map _;obtain⟨m0,F0,hF0⟩:∃m0 F0,F=m0::F0:=by
   cases F with
   | nil=>exact absurd rfl k3|cons a b=>exact⟨a,b,rfl⟩
  have hm0:m0∈F:=by rw[hF0];exact mem_cons_self
  have h0l:F.length=F0.length+1:=by rw[hF0];rfl
  have hrow0:(F.map nestC)[0]? = some [.sl 2 (m0.pairs.map PairD.c),.sl 2 (m0.kids.map nestC)]:=by rw[hF0,<- nestC_eq];rfl
  have hm0m:(m0.kids.map nestC).length=m0.kids.length:=length_map _;cases j with
  | zero=>
   have hk0:m0.kids.length=0:=by
    have:=k1 m0 hm0;cases m0 with
    | leaf ps=>rfl|node ks=>exact this.elim
   rw[ups,nil_append] at k5;rw[<- k4,<- k5];((conv=>whnf);repeat' ((first|(with_reducible first|apply a_|apply b_|apply c_)|((with_reducible first|apply d_|apply e_|apply f_|apply g_|apply h_);first|omega|simp only[q_]<;>omega)|((with_reducible apply i_);first|omega|simp only[q_]<;>omega)|((with_reducible apply h_);first|decide|kernel_rfl)|refine s_ (by decide) ?_|refine t_ (by decide) ?_|(refine Idx.at' hrow0 rfl ?_)|with_reducible first|apply l_|apply m_|apply n_|apply o_|refine p_ (fun _=>?_) (fun _=>?_))<;>conv=>whnf));all_goals first | (exfalso;omega) | skip
   refine LoopC.mk Nat (fun k=>[(2,.d (.ptr 2 0)),(3,.d (.ptr 3 0)),(4,.d (.c (.sl 2 (F.map nestC)))),(8,pInt .i64 (k:Int))]) (fun k=>[(2,.box apTr [.c (.v (.slice none 0 0)),.c (.v (.slice none 0 0))]),(3,.box apTr [.app 160 plT 1 ((F.take k).map prR),.c (.sl 1 (upC Up))]),(160,.tail plT 1)]) [2,3,160] (fun k=>k<=F.length) (fun k=>F.length - k) 0 (zero_le _) ?start2 ?round2
   case start2=>exact Wk.mk [(2,2),(3,3)] rfl rfl ⟨⟨rfl,rfl,rfl⟩,⟨rfl,rfl,rfl⟩,.inl rfl,.inl rfl,trivial⟩ ⟨⟨rfl,rfl,.inl rfl,.inl rfl,rfl⟩,⟨rfl,rfl,⟨rfl,rfl,zero_lt_succ _,rfl,rfl⟩,.inl rfl,rfl⟩,⟨rfl,zero_lt_succ _⟩,trivial⟩
   case round2=>
    intro k hk;by_cases hkl:k<F.length
    ·obtain⟨m,hm⟩:∃m,m=F[k]:=⟨_,rfl⟩;have hrow:(F.map nestC)[k]? = some [.sl 2 (m.pairs.map PairD.c),.sl 2 (m.kids.map nestC)]:=by rw[<- nestC_eq,List.getElem?_map,List.getElem?_eq_getElem hkl,hm];rfl
     have hsn:(F.take (k+1)).map prR=(F.take k).map prR++[prR m]:=by rw[List.take_succ_eq_append_getElem hkl,map_append,<- hm];rfl
     have hlk:((F.take k).map prR).length=k:=by rw[length_map,length_take];omega
     ((conv=>whnf);repeat' ((first|(with_reducible first|apply a_|apply b_|apply c_)|((with_reducible first|apply d_|apply e_|apply f_|apply g_|apply h_);first|omega|simp only[q_]<;>omega)|((with_reducible apply i_);first|omega|simp only[q_]<;>omega)|((with_reducible apply h_);first|decide|kernel_rfl)|refine s_ (by decide) ?_|refine t_ (by decide) ?_|(first|refine Idx.at' hrow rfl ?_|refine Need.by1 24 rfl (by rw[hlk];simp only[length_cons,length_nil];omega) ?_)|with_reducible first|apply l_|apply m_|apply n_|apply o_|refine p_ (fun _=>?_) (fun _=>?_))<;>conv=>whnf));all_goals first|exact⟨k+1,by omega,by omega,[(2,2),(3,3),(160,60)],rfl,rfl,⟨⟨rfl,rfl,rfl⟩,⟨rfl,rfl,rfl⟩,.inl rfl,PLe.int (by omega),trivial⟩,⟨⟨rfl,rfl,.inl rfl,.inl rfl,rfl⟩,⟨rfl,rfl,⟨rfl,rfl,rfl,rfl,by rw[hsn]⟩,.inl rfl,rfl⟩,⟨rfl,rfl,rfl⟩,trivial⟩⟩|(exfalso;omega)|skip
    ·have hlv:(F.take k).map prR=lvC (lvs 0 F):=by
      rw[take_of_length_le (by omega),lvs];unfold lvC;rw[map_map];rfl
     rw[hlv];((conv=>whnf);repeat' ((first|(with_reducible first|apply a_|apply b_|apply c_)|((with_reducible first|apply d_|apply e_|apply f_|apply g_|apply h_);first|omega|simp only[q_]<;>omega)|((with_reducible apply i_);first|omega|simp only[q_]<;>omega)|((with_reducible apply h_);first|decide|kernel_rfl)|refine s_ (by decide) ?_|refine t_ (by decide) ?_|with_reducible first|apply l_|apply m_|apply n_|apply o_|refine p_ (fun _=>?_) (fun _=>?_))<;>conv=>whnf));all_goals first|exact Ret.le ⟨rfl,.inl rfl,rfl⟩|exact Ret.mk rfl|(exfalso;omega)|skip
  | succ j=>
   have hk0:=length_pos_iff.2 (k2 m0 hm0).1;have hn1:∀m∈F.flatMap Nest.kids,tall j m:=fun m hm=>by
    obtain⟨x,hx,hm⟩:=mem_flatMap.1 hm;exact (tall_node (k1 x hx)).2.2 m hm
   have hn2:∀m∈F.flatMap Nest.kids,fullN j m:=fun m hm=>by
    obtain⟨x,hx,hm⟩:=mem_flatMap.1 hm;exact (k2 x hx).2.2 m hm
   have hn3:F.flatMap Nest.kids≠[]:=fun e=>by
    have h2:=fm_le F 1;rw[e,hF0,take_succ_cons,flatMap_cons,length_append] at h2;have h2:m0.kids.length+_<=0:=h2;omega
   have k4':lvs j (F.flatMap Nest.kids)=lvs H [n]:=k4;have k5':ups j (F.flatMap Nest.kids)++(F.map Nest.size::Up)=ups H [n]:=by
    rw[<- k5,ups,append_assoc];rfl
   have hb2:=lvs_big j _ hn2;rw[k4'] at hb2;((conv=>whnf);repeat' ((first|(with_reducible first|apply a_|apply b_|apply c_)|((with_reducible first|apply d_|apply e_|apply f_|apply g_|apply h_);first|omega|simp only[q_]<;>omega)|((with_reducible apply i_);first|omega|simp only[q_]<;>omega)|((with_reducible apply h_);first|decide|kernel_rfl)|refine s_ (by decide) ?_|refine t_ (by decide) ?_|(refine Idx.at' hrow0 rfl ?_)|with_reducible first|apply l_|apply m_|apply n_|apply o_|refine p_ (fun _=>?_) (fun _=>?_))<;>conv=>whnf));all_goals first | (exfalso;omega) | skip
   refine LoopC.mk Nat (fun k=>[(2,.d (.ptr 2 0)),(3,.d (.ptr 3 0)),(4,.d (.c (.sl 2 (F.map nestC)))),(5,.d (.app 160 nT2 2 (((F.take k).flatMap Nest.kids).map nestC))),(6,.d (.app 161 apIn 1 ((F.take k).map szC))),(7,pInt .i64 (k:Int))]) (fun _=>[(2,.box apTr [.c (.v (.slice none 0 0)),.c (.v (.slice none 0 0))]),(3,.box apTr [.c (.v (.slice none 0 0)),.c (.sl 1 (upC Up))]),(160,.tail nT2 2),(161,.tail apIn 1)]) [2,3,160,161] (fun k=>k<=F.length) (fun k=>F.length - k) 0 (zero_le _) ?start3 ?round3
   case start3=>exact Wk.mk [(2,2),(3,3)] rfl rfl ⟨⟨rfl,rfl,rfl⟩,⟨rfl,rfl,rfl⟩,.inl rfl,⟨rfl,rfl,zero_lt_succ _,rfl,rfl⟩,⟨rfl,rfl,zero_lt_succ _,rfl,rfl⟩,.inl rfl,trivial⟩ ⟨⟨rfl,rfl,.inl rfl,.inl rfl,rfl⟩,⟨rfl,rfl,.inl rfl,.inl rfl,rfl⟩,⟨rfl,zero_lt_succ _⟩,⟨rfl,zero_lt_succ _⟩,trivial⟩
   case round3=>
    intro k hk;by_cases hkl:k<F.length
    ·obtain⟨m,hm⟩:∃m,m=F[k]:=⟨_,rfl⟩;have hrow:(F.map nestC)[k]? = some [.sl 2 (m.pairs.map PairD.c),.sl 2 (m.kids.map nestC)]:=by rw[<- nestC_eq,List.getElem?_map,List.getElem?_eq_getElem hkl,hm];rfl
     have hsn:(F.take (k+1)).map szC=(F.take k).map szC++[szC m]:=by rw[List.take_succ_eq_append_getElem hkl,map_append,<- hm];rfl
     have hlk:((F.take k).map szC).length=k:=by rw[length_map,length_take];omega
     have hfs:=fm_snoc hkl;have hf1:=fm_le F (k+1);rw[<- hm] at hfs;rw[hfs,length_append] at hf1;have hnm:(((F.take k).flatMap Nest.kids).map nestC).length=((F.take k).flatMap Nest.kids).length:=length_map _;have hkm:(m.kids.map nestC).length=m.kids.length:=length_map _;((conv=>whnf);repeat' ((first|(with_reducible first|apply a_|apply b_|apply c_)|((with_reducible first|apply d_|apply e_|apply f_|apply g_|apply h_);first|omega|simp only[q_]<;>omega)|((with_reducible apply i_);first|omega|simp only[q_]<;>omega)|((with_reducible apply h_);first|decide|kernel_rfl)|refine s_ (by decide) ?_|refine t_ (by decide) ?_|(first|refine Idx.at' hrow rfl ?_|refine Need.by1 8 rfl (by rw[hlk];simp only[length_cons,length_nil];omega) ?_|refine Need.by1 48 rfl (by rw[hnm,hkm];omega) ?_)|with_reducible first|apply l_|apply m_|apply n_|apply o_|refine p_ (fun _=>?_) (fun _=>?_))<;>conv=>whnf));all_goals first|exact⟨k+1,by omega,by omega,[(2,2),(3,3),(160,38),(161,31)],rfl,rfl,⟨⟨rfl,rfl,rfl⟩,⟨rfl,rfl,rfl⟩,.inl rfl,⟨rfl,rfl,rfl,rfl,by rw[hfs,map_append]⟩,⟨rfl,rfl,rfl,rfl,by rw[hsn,hkm]⟩,PLe.int (by omega),trivial⟩,⟨⟨rfl,rfl,.inl rfl,.inl rfl,rfl⟩,⟨rfl,rfl,.inl rfl,.inl rfl,rfl⟩,⟨rfl,rfl,rfl⟩,⟨rfl,rfl,rfl⟩,trivial⟩⟩|(exfalso;omega)|skip
    ·rw[take_of_length_le (by omega),sz_nat k1];have hup:=congrArg List.length k5;rw[length_append,ups_len,ups_len] at hup;have hum:(upC Up).length=Up.length:=length_map _;((conv=>whnf);repeat' ((first|(with_reducible first|apply a_|apply b_|apply c_)|((with_reducible first|apply d_|apply e_|apply f_|apply g_|apply h_);first|omega|simp only[q_]<;>omega)|((with_reducible apply i_);first|omega|simp only[q_]<;>omega)|((with_reducible apply h_);first|decide|kernel_rfl)|refine s_ (by decide) ?_|refine t_ (by decide) ?_|(first|refine Need.by1 24 rfl (by rw[hum];simp only[length_cons,length_nil];omega) ?_)|with_reducible first|apply l_|apply m_|apply n_|apply o_|refine p_ (fun _=>?_) (fun _=>?_))<;>conv=>whnf));all_goals first|exact⟨(j,F.flatMap Nest.kids,F.map Nest.size::Up),⟨hn1,hn2,hn3,k4',k5'⟩,lt_succ_self _,[(2,2),(3,3)],rfl,rfl,⟨⟨rfl,rfl,rfl⟩,⟨rfl,rfl,rfl⟩,rfl,trivial⟩,⟨⟨rfl,rfl,.inl rfl,.inl rfl,rfl⟩,⟨rfl,rfl,.inl rfl,rfl,rfl⟩,trivial⟩⟩|(exfalso;omega)|skip
end
section
open Go.RowKit K
open Tr
def sameK:Nest->Nest->Prop
 | .leaf _,.leaf _=>True|.node _,.node _=>True|_,_=>False
theorem with_parts {m n:Nest} (h:sameK m n):(withN m n).pairs=m.pairs++n.pairs/\(withN m n).kids=m.kids++n.kids:=by
 cases m<;>cases n
 ·exact⟨rfl,rfl⟩
 ·exact h.elim
 ·exact h.elim
 ·exact⟨rfl,rfl⟩
theorem p_nwith (m n:Nest) (h:sameK m n) (h1:m.pairs.length<=100000) (h2:m.kids.length<=100000) (h3:n.pairs.length<=100000) (h4:n.kids.length<=100000):Pure Try.prog 56 [nsV m,nsV n] (nsV (withN m n)):=by
 obtain⟨e1,e2⟩:=with_parts h;have g1:(m.pairs.map PairD.c).length=m.pairs.length:=length_map _;have g2:(m.kids.map nestC).length=m.kids.length:=length_map _;have g3:(n.pairs.map PairD.c).length=n.pairs.length:=length_map _;have g4:(n.kids.map nestC).length=n.kids.length:=length_map _;rw[nsV_eq,nsV_eq,nsV_eq,e1,e2,map_append,map_append];obtain⟨a,ha⟩:∃a,a=m.pairs.map PairD.c:=⟨_,rfl⟩;obtain⟨b,hb⟩:∃b,b=m.kids.map nestC:=⟨_,rfl⟩;obtain⟨c,hc⟩:∃c,c=n.pairs.map PairD.c:=⟨_,rfl⟩;obtain⟨d,hd⟩:∃d,d=n.kids.map nestC:=⟨_,rfl⟩;rw[<- ha] at g1 ⊢;rw[<- hb] at g2 ⊢;rw[<- hc] at g3 ⊢;rw[<- hd] at g4 ⊢;refine pure_of Try.func56 (by rfl) rfl (by kernel_rfl) (by rfl) ?_;((conv=>whnf);repeat' ((first|(with_reducible first|apply a_|apply b_|apply c_)|((with_reducible first|apply d_|apply e_|apply f_|apply g_|apply h_);first|omega|simp only[q_]<;>omega)|((with_reducible apply i_);first|omega|simp only[q_]<;>omega)|((with_reducible apply h_);first|decide|kernel_rfl)|refine s_ (by decide) ?_|refine t_ (by decide) ?_|(first|refine Need.by1 24 rfl (by simp only[length_append,length_nil];omega) ?_|refine Need.by1 48 rfl (by simp only[length_append,length_nil];omega) ?_)|with_reducible first|apply l_|apply m_|apply n_|apply o_|refine p_ (fun _=>?_) (fun _=>?_))<;>conv=>whnf));all_goals first|exact Ret.le ⟨.inl rfl,.inl rfl,rfl⟩ | (exfalso;omega) | skip
theorem p_ncut (n:Nest) (k:Nat) (hk:k<=n.size) (hn:n.size<=100000) (h0:n.size≠0):Pure Try.prog 57 [nsV n,pInt .i64 (k:Int)] (nssV (cutN n k)):=by
 cases n with
 | leaf l=>
  have hs:k<=l.length:=hk;have hn:l.length<=100000:=hn;have g1:(l.map PairD.c).length=l.length:=length_map _;refine Pure.res (res':=.d (.c (.sl 2 [[.sl 2 ((l.map PairD.c).take k),.v (.slice none 0 0)],[.sl 2 ((l.map PairD.c).drop k),.v (.slice none 0 0)]]))) ?_ ?_
  ·rw[nsV_eq];show Pure _ _ [.agg [.c (.sl 2 (l.map PairD.c)),.c (.sl 2 [])],_] _;refine pure_of Try.func57 (by rfl) rfl (by kernel_rfl) (by rfl) ?_;((conv=>whnf);repeat' ((first|(with_reducible first|apply a_|apply b_|apply c_)|((with_reducible first|apply d_|apply e_|apply f_|apply g_|apply h_);first|omega|simp only[q_]<;>omega)|((with_reducible apply i_);first|omega|simp only[q_]<;>omega)|((with_reducible apply h_);first|decide|kernel_rfl)|refine s_ (by decide) ?_|refine t_ (by decide) ?_|with_reducible first|apply l_|apply m_|apply n_|apply o_|refine p_ (fun _=>?_) (fun _=>?_))<;>conv=>whnf));all_goals first|exact Ret.mk (by rw[sl_rest _ (k:Int) k (by omega),sl_first _ (k:Int) k (by omega)]) | (exfalso;omega) | skip
  ·refine PSub.c (CSub.sl ?_);rw[<- map_take,<- map_drop];show RsSub [nestC (.leaf (l.take k)),nestC (.leaf (l.drop k))] _;rw[nestC_eq,nestC_eq];exact .cons (.cons (CSub.refl _) (.cons (CSub.nil 2) .nil)) (.cons (.cons (CSub.refl _) (.cons (CSub.nil 2) .nil)) .nil)
 | node ks=>
  have hs:k<=ks.length:=hk;have hn:ks.length<=100000:=hn;have h0:ks.length≠0:=h0;have g2:(ks.map nestC).length=ks.length:=length_map _;refine Pure.res (res':=.d (.c (.sl 2 [[.v (.slice none 0 0),.sl 2 ((ks.map nestC).take k)],[.v (.slice none 0 0),.sl 2 ((ks.map nestC).drop k)]]))) ?_ ?_
  ·rw[nsV_eq];show Pure _ _ [.agg [.c (.sl 2 []),.c (.sl 2 (ks.map nestC))],_] _;refine pure_of Try.func57 (by rfl) rfl (by kernel_rfl) (by rfl) ?_;((conv=>whnf);repeat' ((first|(with_reducible first|apply a_|apply b_|apply c_)|((with_reducible first|apply d_|apply e_|apply f_|apply g_|apply h_);first|omega|simp only[q_]<;>omega)|((with_reducible apply i_);first|omega|simp only[q_]<;>omega)|((with_reducible apply h_);first|decide|kernel_rfl)|refine s_ (by decide) ?_|refine t_ (by decide) ?_|with_reducible first|apply l_|apply m_|apply n_|apply o_|refine p_ (fun _=>?_) (fun _=>?_))<;>conv=>whnf));all_goals first|exact Ret.mk (by rw[sl_rest _ (k:Int) k (by omega),sl_first _ (k:Int) k (by omega)]) | (exfalso;omega) | skip
  ·refine PSub.c (CSub.sl ?_);rw[<- map_take,<- map_drop];show RsSub [nestC (.node (ks.take k)),nestC (.node (ks.drop k))] _;rw[nestC_eq,nestC_eq];exact .cons (.cons (CSub.nil 2) (.cons (CSub.refl _) .nil)) (.cons (.cons (CSub.nil 2) (.cons (CSub.refl _) .nil)) .nil)
end
section
open Go.RowKit K
open Tr
theorem nest_size (n:Nest):n.size=n.pairs.length+n.kids.length:=by
 cases n with
 | leaf ps=>rfl|node ks=>show ks.length=0+ks.length;omega
theorem cut_len (n:Nest) (k:Nat):(cutN n k).length=2:=by cases n<;>rfl
theorem fixZ_len (l:List Nest) (X:Nest) (r:List Nest):(fixZ l X r).length<=l.length+1+r.length:=by
 unfold fixZ;split
 ·simp only[length_append,length_cons,length_nil];omega
 ·split
  ·split
   ·simp only[length_append,length_cons,cut_len];omega
   ·simp only[length_append,length_cons,length_nil];omega
  ·split
   ·simp
   ·rename_i s hs;have hl:l≠[]:=fun e=>by rw[e] at hs;cases hs
    have:=length_pos_iff.2 hl;split
    ·simp only[length_append,List.length_dropLast,cut_len,length_nil];omega
    ·simp only[length_append,List.length_dropLast,length_cons,length_nil];omega
theorem takeN_size {h:Nat} {n:Nest} (hs:sized h n) (hf:fullN h n) (key:List UInt8):(takeN h n key).size<=1000:=by
 cases h with
 | zero=>exact le_trans (length_filter_le _ _) hf.2.1|succ h=>
  have h1:=fixZ_len (n.kids.take (kidF h n.kids key)) (takeN h (n.kids.getD (kidF h n.kids key) noN) key) (n.kids.drop (kidF h n.kids key+1));have h2:=kid_at (key:=key) hs;have h3:=hs.2.1;rw[length_take,length_drop] at h1;show (fixZ _ _ _).length<=1000;omega
theorem takeN_same {h:Nat} {n s:Nest} (hs:tall h s) (key:List UInt8):sameK (takeN h n key) s/\sameK s (takeN h n key):=by
 cases h with
 | zero=>cases s with
  | leaf _=>exact⟨trivial,trivial⟩|node _=>exact hs.elim
 | succ h=>cases s with
  | leaf _=>exact hs.elim|node _=>exact⟨trivial,trivial⟩
theorem kid_size {h:Nat} {ks:List Nest} (hk:∀k∈ks,tall h k) (f3:∀k∈ks,fullN h k) (s3:∀k∈ks,sized h k):∀s∈ks,s.size<=1000:=fun s hsm=>by
 cases h with
 | zero=>
  have h1:=(f3 s hsm).2.1;have h2:=hk s hsm;cases s with
  | leaf ps=>exact h1|node _=>exact h2.elim
 | succ h=>
  have:=(s3 s hsm).2.1;rw[<- (tall_node (hk s hsm)).2.1];omega
theorem set_first (rows:List (List C)) {i:Nat} {row:List C} {x:Int} (a:Nat) (hx:x.toNat=a) (ha:a<=i):List.take (x.toNat - Int.toNat 0) (List.drop (0+Int.toNat 0) (rows.set i row))=rows.take a:=by
 rw[hx];show (rows.set i row).take a=_;exact take_set_of_le ha
theorem set_rest (rows:List (List C)) {i:Nat} {row:List C} {x:Int} (b:Nat) (hx:x.toNat=b) (hb:i<b):List.take ((rows.length:Int).toNat - x.toNat) (List.drop (0+x.toNat) (rows.set i row))=rows.drop b:=by
 rw[hx,zero_add,List.drop_set_of_lt hb];exact take_of_length_le (by rw[length_drop,toNat_natCast];exact Nat.le_refl _)
set_option maxHeartbeats 4000000 in
theorem p_ntake:∀(h:Nat) (n:Nest) (key:List UInt8),tall h n->sized h n->fullN h n->okText key->Pure Try.prog 32 [nsV n,pStr (tx key)] (nsV (takeN h n key))
 | 0,n,key,ht,hs,hf,hkey=>by
  obtain⟨ps,rfl⟩:∃ps,n=.leaf ps:=by
   cases n with
   | leaf ps=>exact⟨ps,rfl⟩|node ks=>exact ht.elim
  obtain⟨f1,f2,f3⟩:=hf;have f2:ps.length<=1000:=f2;have hlm:(ps.map PairD.c).length=ps.length:=length_map _;obtain⟨low,hlow⟩:∃low,low=fun q:PairD=>!decide (q.Key=key):=⟨_,rfl⟩;rw[show takeN 0 (.leaf ps) key=.leaf (ps.filter low) by rw[hlow];rfl,nsV_eq,nsV_eq];show Pure _ _ [.agg [.c (.sl 2 (ps.map PairD.c)),.c (.sl 2 [])],_] (.agg [.c (.sl 2 ((ps.filter low).map PairD.c)),.c (.sl 2 [])]);refine pure_of Try.func32 (by rfl) rfl (by kernel_rfl) (by rfl) ?_;((conv=>whnf);repeat' ((first|(with_reducible first|apply a_|apply b_|apply c_)|((with_reducible first|apply d_|apply e_|apply f_|apply g_|apply h_);first|omega|simp only[q_]<;>omega)|((with_reducible apply i_);first|omega|simp only[q_]<;>omega)|((with_reducible apply h_);first|decide|kernel_rfl)|refine s_ (by decide) ?_|refine t_ (by decide) ?_|with_reducible first|apply l_|apply m_|apply n_|apply o_|refine p_ (fun _=>?_) (fun _=>?_))<;>conv=>whnf));all_goals first | (exfalso;omega) | skip
  refine LoopC.mk Nat (fun k=>[(1,pStr (tx key)),(2,.d (.ptr 2 0)),(4,.d (.ptr 4 0)),(5,.d (.app 160 pT 2 (((ps.take k).filter low).map PairD.c))),(6,pInt .i64 (k:Int))]) (fun _=>[(2,.box nT2 [.c (.sl 2 (ps.map PairD.c)),.c (.sl 2 [])]),(4,.box nT2 [.c (.v (.slice none 0 0)),.c (.v (.slice none 0 0))]),(160,.tail pT 2)]) [2,4,160] (fun k=>k<=ps.length) (fun k=>ps.length - k) 0 (zero_le _) ?start ?round
  case start=>exact Wk.mk [(2,2),(4,4)] rfl rfl ⟨.inl rfl,⟨rfl,rfl,rfl⟩,⟨rfl,rfl,rfl⟩,⟨rfl,rfl,zero_lt_succ _,rfl,rfl⟩,.inl rfl,trivial⟩ ⟨⟨rfl,rfl,.inl rfl,.inl rfl,rfl⟩,⟨rfl,rfl,.inl rfl,.inl rfl,rfl⟩,⟨rfl,zero_lt_succ _⟩,trivial⟩
  case round=>
   intro k hk;by_cases hkl:k<ps.length
   ·obtain⟨q,hq⟩:∃q,q=ps[k]:=⟨_,rfl⟩;have hrow:(ps.map PairD.c)[k]? = some q.c:=by rw[List.getElem?_map,List.getElem?_eq_getElem hkl,<- hq];rfl
    have hsn:=filter_snoc low ps (List.getElem?_eq_getElem hkl);rw[<- hq] at hsn;have hf2:((ps.take k).filter low).length<=1000:=by
     have:=length_filter_le low (ps.take k);rw[length_take] at this;omega
    obtain⟨s2,hs2⟩:∃s2,s2=(ps.take k).filter low:=⟨_,rfl⟩;rw[<- hs2] at hsn hf2 ⊢;have n2:((s2.map PairD.c).length+1)*24<=140737488355328:=by rw[length_map];omega
    by_cases hc:q.Key=key
    ·have ht:tx q.Key=tx key:=by rw[hc]
     rw[show low q=false by rw[hlow];show (!decide (q.Key=key))=false;rw[decide_eq_true hc];rfl,if_neg (by decide),List.append_nil] at hsn;((conv=>whnf);repeat' ((first|(with_reducible first|apply a_|apply b_|apply c_)|((with_reducible first|apply d_|apply e_|apply f_|apply g_|apply h_);first|omega|simp only[q_]<;>omega)|((with_reducible apply i_);first|omega|simp only[q_]<;>omega)|((with_reducible apply h_);first|decide|kernel_rfl)|refine s_ (by decide) ?_|refine t_ (by decide) ?_|(first|refine Idx.at' hrow rfl ?_|refine BCase.dt ht ?_|refine BCase.df (not_not_intro ht) ?_)|with_reducible first|apply l_|apply m_|apply n_|apply o_|refine p_ (fun _=>?_) (fun _=>?_))<;>conv=>whnf));all_goals first|exact⟨k+1,by omega,by omega,[(2,2),(4,4),(160,160)],rfl,rfl,⟨.inl rfl,⟨rfl,rfl,rfl⟩,⟨rfl,rfl,rfl⟩,⟨rfl,rfl,rfl,rfl,by rw[hsn]⟩,PLe.int (by omega),trivial⟩,⟨⟨rfl,rfl,.inl rfl,.inl rfl,rfl⟩,⟨rfl,rfl,.inl rfl,.inl rfl,rfl⟩,⟨rfl,rfl,rfl⟩,trivial⟩⟩|(exfalso;omega)|skip
    ·have ht:¬tx q.Key=tx key:=fun e=>hc (by rwa [tx_eq] at e);rw[show low q=true by rw[hlow];show (!decide (q.Key=key))=true;rw[decide_eq_false hc];rfl,if_pos rfl] at hsn;((conv=>whnf);repeat' ((first|(with_reducible first|apply a_|apply b_|apply c_)|((with_reducible first|apply d_|apply e_|apply f_|apply g_|apply h_);first|omega|simp only[q_]<;>omega)|((with_reducible apply i_);first|omega|simp only[q_]<;>omega)|((with_reducible apply h_);first|decide|kernel_rfl)|refine s_ (by decide) ?_|refine t_ (by decide) ?_|(first|refine Idx.at' hrow rfl ?_|refine Need.by1 24 rfl n2 ?_|refine BCase.df ht ?_|refine BCase.dt ht ?_)|with_reducible first|apply l_|apply m_|apply n_|apply o_|refine p_ (fun _=>?_) (fun _=>?_))<;>conv=>whnf));all_goals first|exact⟨k+1,by omega,by omega,[(2,2),(4,4),(160,40)],rfl,rfl,⟨.inl rfl,⟨rfl,rfl,rfl⟩,⟨rfl,rfl,rfl⟩,⟨rfl,rfl,rfl,rfl,by rw[hsn,map_append];rfl⟩,PLe.int (by omega),trivial⟩,⟨⟨rfl,rfl,.inl rfl,.inl rfl,rfl⟩,⟨rfl,rfl,.inl rfl,.inl rfl,rfl⟩,⟨rfl,rfl,rfl⟩,trivial⟩⟩|(exfalso;omega)|skip
   ·rw[take_of_length_le (by omega)];((conv=>whnf);repeat' ((first|(with_reducible first|apply a_|apply b_|apply c_)|((with_reducible first|apply d_|apply e_|apply f_|apply g_|apply h_);first|omega|simp only[q_]<;>omega)|((with_reducible apply i_);first|omega|simp only[q_]<;>omega)|((with_reducible apply h_);first|decide|kernel_rfl)|refine s_ (by decide) ?_|refine t_ (by decide) ?_|with_reducible first|apply l_|apply m_|apply n_|apply o_|refine p_ (fun _=>?_) (fun _=>?_))<;>conv=>whnf));all_goals first|exact Ret.le ⟨.inl rfl,.inr ⟨⟨2,rfl⟩,.inl rfl⟩,rfl⟩|(exfalso;omega)|skip
 | h+1,n,key,ht,hs,hf,hkey=>by
  obtain⟨e,g1,hk⟩:=tall_node ht;have hi:=kid_at (key:=key) hs;have pk:=p_nkid h n ht hf key hkey;obtain⟨ks,hks⟩:∃ks,ks=n.kids:=⟨_,rfl⟩;obtain⟨s1,s2,s3⟩:=hs;obtain⟨f1,f2,f3⟩:=hf;rw[<- hks] at hi hk s1 s2 s3 f1 f2 f3 pk;obtain⟨at_,hat⟩:∃at_,at_=kidF h ks key:=⟨_,rfl⟩;rw[<- hat] at hi pk;have hg:ks.getD at_ noN=ks[at_]:=by rw[List.getD_eq_getElem?_getD,List.getElem?_eq_getElem hi];rfl
  obtain⟨k,hke⟩:∃k,k=ks[at_]:=⟨_,rfl⟩;have hkm:k∈ks:=by rw[hke];exact List.getElem_mem hi
  have htk:takeN (h+1) n key=.node (fixZ (ks.take at_) (takeN h k key) (ks.drop (at_+1))):=by
   show Nest.node (fixZ (n.kids.take (kidF h n.kids key)) (takeN h (n.kids.getD (kidF h n.kids key) noN) key) (n.kids.drop (kidF h n.kids key+1)))=_;rw[<- hks,<- hat,hg,<- hke]
  have ih:=p_ntake h k key (hk k hkm) (s3 k hkm) (f3 k hkm) hkey;have hXs:=takeN_size (s3 k hkm) (f3 k hkm) key;have hsame:∀s∈ks,sameK (takeN h k key) s/\sameK s (takeN h k key):=fun s hs=>takeN_same (hk s hs) key;obtain⟨X,hX⟩:∃X,X=takeN h k key:=⟨_,rfl⟩;rw[<- hX] at htk ih hXs hsame;have hXz:=nest_size X;have pz:=p_nsize X (by omega) (by omega);rw[htk,nsV_eq (.node _)];show Pure _ _ _ (.agg [.c (.sl 2 []),.c (.sl 2 ((fixZ (ks.take at_) X (ks.drop (at_+1))).map nestC))]);obtain⟨Z,hZ⟩:∃Z,Z=fixZ (ks.take at_) X (ks.drop (at_+1)):=⟨_,rfl⟩;rw[<- hZ];rw[nsV_eq] at ih pk pz ⊢;rw[nsV_eq] at ih;rw[<- hks] at pk ⊢;have hkm2:(ks.map nestC).length=ks.length:=length_map _;have hrow:(ks.map nestC)[at_]? = some [.sl 2 (k.pairs.map PairD.c),.sl 2 (k.kids.map nestC)]:=by rw[<- nestC_eq,List.getElem?_map,List.getElem?_eq_getElem hi,hke];rfl
  have r1:(ks.map nestC)[0+(at_:Int).toNat]? = some [.sl 2 (k.pairs.map PairD.c),.sl 2 (k.kids.map nestC)]:=by rw[show 0+(at_:Int).toNat=at_ by omega];exact hrow
  have r2:∀row:List C,((ks.map nestC).set (0+(at_:Int).toNat) row)[0+(at_:Int).toNat]? = some row:=fun row=>by
   rw[show 0+(at_:Int).toNat=at_ by omega];exact List.getElem?_set_self (by omega)
  have hRS:(ks.map nestC).set (0+(at_:Int).toNat) [.sl 2 (X.pairs.map PairD.c),.sl 2 (X.kids.map nestC)]=(ks.take at_).map nestC++[nestC X]++(ks.drop (at_+1)).map nestC:=by
   rw[show 0+(at_:Int).toNat=at_ by omega,set_eq_take_append_cons_drop,if_pos (by omega),nestC_eq X,map_take,map_drop,append_assoc];rfl
  by_cases hX2:2<=X.size
  ·refine pure_of Try.func32 (by rfl) rfl (by kernel_rfl) (by rfl) ?_;((conv=>whnf);repeat' ((first|(with_reducible first|apply a_|apply b_|apply c_)|((with_reducible first|apply d_|apply e_|apply f_|apply g_|apply h_);first|omega|simp only[q_]<;>omega)|((with_reducible apply i_);first|omega|simp only[q_]<;>omega)|((with_reducible apply h_);first|decide|kernel_rfl)|refine s_ (by decide) ?_|refine t_ (by decide) ?_|(first|refine EmpOr.emp (key:=46) ?_|refine Need.mk (length_pos_iff.1 (by rw[length_map];omega)) ?_|refine Need.by1 48 rfl (by rw[hkm2];omega) ?_|refine Idx.at' hrow rfl ?_|refine Row.mk _ r1 ?_|refine Row.mk _ (r2 _) ?_)|refine r_ pk rfl ?_|refine r_ ih rfl ?_|refine r_ pz rfl ?_|with_reducible first|apply l_|apply m_|apply n_|apply o_|refine p_ (fun _=>?_) (fun _=>?_))<;>conv=>whnf));have hZA:Z=ks.take at_++[X]++ks.drop (at_+1):=by rw[hZ];unfold fixZ;rw[if_pos hX2]
   have hfin:List.take (ks.map nestC).length (List.drop 0 ((ks.map nestC).set (0+(at_:Int).toNat) [.sl 2 (X.pairs.map PairD.c),.sl 2 (X.kids.map nestC)]))=Z.map nestC:=by
    rw[hZA,drop_zero,take_of_length_le (by rw[length_set];exact Nat.le_refl _),hRS];simp only[map_append,map_cons,map_nil]
   all_goals first|exact Ret.le ⟨.inr ⟨⟨2,rfl⟩,.inl rfl⟩,.inl (congrArg (C.sl 2) hfin),rfl⟩|(exfalso;omega)|skip
  ·by_cases hB:at_+1<ks.length
   ·obtain⟨s,hs⟩:∃s,s=ks[at_+1]:=⟨_,rfl⟩;have hsm:s∈ks:=by rw[hs];exact List.getElem_mem hB
    have hsz:=nest_size s;have hss:=kid_size hk f3 s3 s hsm;have ps:=p_nsize s (by omega) (by omega);have pw:=p_nwith X s (hsame s hsm).1 (by omega) (by omega) (by omega) (by omega);have hwz:(withN X s).size=X.size+s.size:=by
     rw[nest_size,(with_parts (hsame s hsm).1).1,(with_parts (hsame s hsm).1).2,length_append,length_append];omega
    have r3:∀row:List C,((ks.map nestC).set (0+(at_:Int).toNat) row)[0+((at_:Int)+1).toNat]? = some [.sl 2 (s.pairs.map PairD.c),.sl 2 (s.kids.map nestC)]:=fun row=>by
     rw[show 0+(at_:Int).toNat=at_ by omega,show 0+((at_:Int)+1).toNat=at_+1 by omega,List.getElem?_set_ne (by omega),List.getElem?_map,List.getElem?_eq_getElem hB,<- hs,<- nestC_eq];rfl
    have r4:∀row:List C,((ks.map nestC).set (0+(at_:Int).toNat) row)[0+((at_:Int)+1 - ((at_:Int) - (at_:Int))).toNat]? = some [.sl 2 (s.pairs.map PairD.c),.sl 2 (s.kids.map nestC)]:=fun row=>by
     rw[show (at_:Int)+1 - ((at_:Int) - (at_:Int))=(at_:Int)+1 by omega];exact r3 row
    have hdr:ks.drop (at_+1)=s::ks.drop (at_+2):=by rw[List.drop_eq_getElem_cons hB,hs]
    have hZB:Z=if 2<s.size then ks.take at_++cutN (withN X s) 2++ks.drop (at_+2) else ks.take at_++[withN X s]++ks.drop (at_+2):=by
     rw[hZ,hdr];unfold fixZ;rw[if_neg hX2]
    rw[nsV_eq,nsV_eq,nsV_eq] at pw;rw[nsV_eq] at ps;by_cases h2s:2<s.size
    ·rw[if_pos h2s] at hZB;have pc:=p_ncut (withN X s) 2 (by rw[hwz];omega) (by rw[hwz];omega) (by rw[hwz];omega);rw[nsV_eq] at pc;refine pure_of Try.func32 (by rfl) rfl (by kernel_rfl) (by rfl) ?_;((conv=>whnf);repeat' ((first|(with_reducible first|apply a_|apply b_|apply c_)|((with_reducible first|apply d_|apply e_|apply f_|apply g_|apply h_);first|omega|simp only[q_]<;>omega)|((with_reducible apply i_);first|omega|simp only[q_]<;>omega)|((with_reducible apply h_);first|decide|kernel_rfl)|refine s_ (by decide) ?_|refine t_ (by decide) ?_|(first|refine EmpOr.emp (key:=46) ?_|refine Need.mk (length_pos_iff.1 (by rw[length_map];omega)) ?_|refine Need.by1 48 rfl (by simp only[length_append,length_map,length_set,length_take,length_drop,length_cons,length_nil,cut_len];omega) ?_|refine Idx.at' hrow rfl ?_|refine Row.mk _ r1 ?_|refine Row.mk _ (r2 _) ?_|refine Row.mk _ (r3 _) ?_|refine Row.mk _ (r4 _) ?_)|refine r_ pk rfl ?_|refine r_ ih rfl ?_|refine r_ pz rfl ?_|refine r_ pw rfl ?_|refine r_ ps rfl ?_|refine r_ pc rfl ?_|with_reducible first|apply l_|apply m_|apply n_|apply o_|refine p_ (fun _=>?_) (fun _=>?_))<;>conv=>whnf));all_goals first|(refine Ret.le ⟨.inr ⟨⟨2,rfl⟩,.inl rfl⟩,.inl (congrArg (C.sl 2) ?_),rfl⟩;rw[hZB,set_first (ks.map nestC) at_ (by omega) (by omega),set_rest (ks.map nestC) (at_+2) (by omega) (by omega)];simp only[nil_append,map_append,map_cons,map_nil,map_take,map_drop,nestC_eq];done)|(exfalso;omega)|skip
    ·rw[if_neg h2s] at hZB;refine pure_of Try.func32 (by rfl) rfl (by kernel_rfl) (by rfl) ?_;((conv=>whnf);repeat' ((first|(with_reducible first|apply a_|apply b_|apply c_)|((with_reducible first|apply d_|apply e_|apply f_|apply g_|apply h_);first|omega|simp only[q_]<;>omega)|((with_reducible apply i_);first|omega|simp only[q_]<;>omega)|((with_reducible apply h_);first|decide|kernel_rfl)|refine s_ (by decide) ?_|refine t_ (by decide) ?_|(first|refine EmpOr.emp (key:=46) ?_|refine Need.mk (length_pos_iff.1 (by rw[length_map];omega)) ?_|refine Need.by1 48 rfl (by simp only[length_append,length_map,length_set,length_take,length_drop,length_cons,length_nil,cut_len];omega) ?_|refine Idx.at' hrow rfl ?_|refine Row.mk _ r1 ?_|refine Row.mk _ (r2 _) ?_|refine Row.mk _ (r3 _) ?_|refine Row.mk _ (r4 _) ?_)|refine r_ pk rfl ?_|refine r_ ih rfl ?_|refine r_ pz rfl ?_|refine r_ pw rfl ?_|refine r_ ps rfl ?_|with_reducible first|apply l_|apply m_|apply n_|apply o_|refine p_ (fun _=>?_) (fun _=>?_))<;>conv=>whnf));all_goals first|(refine Ret.le ⟨.inr ⟨⟨2,rfl⟩,.inl rfl⟩,.inl (congrArg (C.sl 2) ?_),rfl⟩;rw[hZB,set_first (ks.map nestC) at_ (by omega) (by omega),set_rest (ks.map nestC) (at_+2) (by omega) (by omega)];simp only[nil_append,map_append,map_cons,map_nil,map_take,map_drop,nestC_eq];done)|(exfalso;omega)|skip
   ·have hlast:at_+1=ks.length:=by omega
    have h1:at_ - 1<ks.length:=by omega
    obtain⟨s,hs⟩:∃s,s=ks[at_ - 1]:=⟨_,rfl⟩;have hsm:s∈ks:=by rw[hs];exact List.getElem_mem h1
    have hsz:=nest_size s;have hss:=kid_size hk f3 s3 s hsm;have ps:=p_nsize s (by omega) (by omega);have pw:=p_nwith s X (hsame s hsm).2 (by omega) (by omega) (by omega) (by omega);have hwz:(withN s X).size=s.size+X.size:=by
     rw[nest_size,(with_parts (hsame s hsm).2).1,(with_parts (hsame s hsm).2).2,length_append,length_append];omega
    have r3:∀row:List C,((ks.map nestC).set (0+(at_:Int).toNat) row)[0+((at_:Int) - 1).toNat]? = some [.sl 2 (s.pairs.map PairD.c),.sl 2 (s.kids.map nestC)]:=fun row=>by
     rw[show 0+(at_:Int).toNat=at_ by omega,show 0+((at_:Int) - 1).toNat=at_ - 1 by omega,List.getElem?_set_ne (by omega),List.getElem?_map,List.getElem?_eq_getElem h1,<- hs,<- nestC_eq];rfl
    have r4:∀row:List C,((ks.map nestC).set (0+(at_:Int).toNat) row)[0+((at_:Int) - 1+1 - ((at_:Int) - ((at_:Int) - 1))).toNat]? = some [.sl 2 (s.pairs.map PairD.c),.sl 2 (s.kids.map nestC)]:=fun row=>by
     rw[show (at_:Int) - 1+1 - ((at_:Int) - ((at_:Int) - 1))=(at_:Int) - 1 by omega];exact r3 row
    have r5:∀row:List C,((ks.map nestC).set (0+(at_:Int).toNat) row)[0+((at_:Int) - 1+1).toNat]? = some row:=fun row=>by
     rw[show (at_:Int) - 1+1=(at_:Int) by omega];exact r2 row
    have hdr:ks.drop (at_+1)=[]:=drop_of_length_le (by omega);have hlt:(ks.take at_).getLast? = some s:=by
     rw[List.getLast?_eq_getElem?,length_take,min_eq_left (by omega),List.getElem?_take,if_pos (by omega),List.getElem?_eq_getElem h1,hs]
    have hdl:(ks.take at_).dropLast=ks.take (at_ - 1):=by
     rw[List.dropLast_eq_take,length_take,min_eq_left (by omega),take_take,min_eq_left (by omega)]
    have hZB:Z=if 2<s.size then ks.take (at_ - 1)++cutN (withN s X) (s.size - 1)++ks.drop (at_+1) else ks.take (at_ - 1)++[withN s X]++ks.drop (at_+1):=by
     rw[hZ,hdr];unfold fixZ;rw[if_neg hX2];simp only[hlt,hdl,List.append_nil]
    rw[nsV_eq,nsV_eq,nsV_eq] at pw;rw[nsV_eq] at ps;by_cases h2s:2<s.size
    ·rw[if_pos h2s] at hZB;have pc:=p_ncut (withN s X) (s.size - 1) (by rw[hwz];omega) (by rw[hwz];omega) (by rw[hwz];omega);rw[nsV_eq,show ((s.size - 1:Nat):Int)=(s.size:Int) - 1 by omega] at pc;refine pure_of Try.func32 (by rfl) rfl (by kernel_rfl) (by rfl) ?_;((conv=>whnf);repeat' ((first|(with_reducible first|apply a_|apply b_|apply c_)|((with_reducible first|apply d_|apply e_|apply f_|apply g_|apply h_);first|omega|simp only[q_]<;>omega)|((with_reducible apply i_);first|omega|simp only[q_]<;>omega)|((with_reducible apply h_);first|decide|kernel_rfl)|refine s_ (by decide) ?_|refine t_ (by decide) ?_|(first|refine EmpOr.emp (key:=46) ?_|refine Need.mk (length_pos_iff.1 (by rw[length_map];omega)) ?_|refine Need.by1 48 rfl (by simp only[length_append,length_map,length_set,length_take,length_drop,length_cons,length_nil,cut_len];omega) ?_|refine Idx.at' hrow rfl ?_|refine Row.mk _ r1 ?_|refine Row.mk _ (r2 _) ?_|refine Row.mk _ (r3 _) ?_|refine Row.mk _ (r4 _) ?_|refine Row.mk _ (r5 _) ?_)|refine r_ pk rfl ?_|refine r_ ih rfl ?_|refine r_ pz rfl ?_|refine r_ pw rfl ?_|refine r_ ps rfl ?_|refine r_ pc rfl ?_|with_reducible first|apply l_|apply m_|apply n_|apply o_|refine p_ (fun _=>?_) (fun _=>?_))<;>conv=>whnf));all_goals first|(refine Ret.le ⟨.inr ⟨⟨2,rfl⟩,.inl rfl⟩,.inl (congrArg (C.sl 2) ?_),rfl⟩;rw[hZB,set_first (ks.map nestC) (at_ - 1) (by omega) (by omega),set_rest (ks.map nestC) (at_+1) (by omega) (by omega)];simp only[nil_append,map_append,map_cons,map_nil,map_take,map_drop,nestC_eq];done)|(exfalso;omega)|skip
    ·rw[if_neg h2s] at hZB;refine pure_of Try.func32 (by rfl) rfl (by kernel_rfl) (by rfl) ?_;((conv=>whnf);repeat' ((first|(with_reducible first|apply a_|apply b_|apply c_)|((with_reducible first|apply d_|apply e_|apply f_|apply g_|apply h_);first|omega|simp only[q_]<;>omega)|((with_reducible apply i_);first|omega|simp only[q_]<;>omega)|((with_reducible apply h_);first|decide|kernel_rfl)|refine s_ (by decide) ?_|refine t_ (by decide) ?_|(first|refine EmpOr.emp (key:=46) ?_|refine Need.mk (length_pos_iff.1 (by rw[length_map];omega)) ?_|refine Need.by1 48 rfl (by simp only[length_append,length_map,length_set,length_take,length_drop,length_cons,length_nil,cut_len];omega) ?_|refine Idx.at' hrow rfl ?_|refine Row.mk _ r1 ?_|refine Row.mk _ (r2 _) ?_|refine Row.mk _ (r3 _) ?_|refine Row.mk _ (r4 _) ?_|refine Row.mk _ (r5 _) ?_)|refine r_ pk rfl ?_|refine r_ ih rfl ?_|refine r_ pz rfl ?_|refine r_ pw rfl ?_|refine r_ ps rfl ?_|with_reducible first|apply l_|apply m_|apply n_|apply o_|refine p_ (fun _=>?_) (fun _=>?_))<;>conv=>whnf));all_goals first|(refine Ret.le ⟨.inr ⟨⟨2,rfl⟩,.inl rfl⟩,.inl (congrArg (C.sl 2) ?_),rfl⟩;rw[hZB,set_first (ks.map nestC) (at_ - 1) (by omega) (by omega),set_rest (ks.map nestC) (at_+1) (by omega) (by omega)];simp only[nil_append,map_append,map_cons,map_nil,map_take,map_drop,nestC_eq];done)|(exfalso;omega)|skip
end
section
open Go.RowKit K
open Tr
theorem found_cases (l:List PairD) (h:Asc l) (key:List UInt8):(∃k,∃hk:k<l.length,foundF l key=k/\l[k].Key=key/\lookP l key=some l[k].Id)\/(foundF l key=-1/\lookP l key=none):=by
 cases hq:lookP l key with
 | none=>exact .inr ⟨foundF_no (look_none.1 hq),rfl⟩|some i=>
  obtain⟨p,h1,h2,h3⟩:=(look_some h).1 hq;obtain⟨k,hk,rfl⟩:=List.getElem_of_mem h1;refine .inl ⟨k,hk,foundF_at hk (fun q hq' e=>?_) h2,h2,by rw[<- h3]⟩;obtain⟨j,hj,rfl⟩:=List.mem_take_iff_getElem.1 hq';have hjk:j<k:=by omega
  have:=List.pairwise_iff_getElem.1 h j k (by omega) hk hjk;rw[e,h2] at this;exact lt_irr _ this
end
section
open Go.RowKit K
open Tr
theorem full_of:∀(h:Nat) (n:Nest),wfN h n->(∀l∈lvs h [n],l≠[]/\l.length<=1000/\∀p∈l,okText p.Key)->fullN h n
 | 0,.leaf ps,_,hl=>hl ps mem_cons_self|0,.node _,hw,_=>hw.1.elim|h+1,.leaf _,hw,_=>hw.1.elim|h+1,.node ks,hw,hl=>⟨fun e=>by
   have h2:2<=ks.length:=hw.2.1;have e:ks=[]:=e;rw[e] at h2;exact absurd h2 (by decide),by have h2:ks.length<=4:=hw.2.2.1;show ks.length<=1000;omega,fun k hk=>full_of h k ⟨hw.1 k hk,hw.2.2.2 k hk⟩ fun l hl'=>hl l (by
   rw[show lvs (h+1) [Nest.node ks]=lvs h ks by rw[lvs,List.flatMap_singleton];rfl];obtain⟨a,b,rfl⟩:=append_of_mem hk;rw[show a++k::b=a++([k]++b) by simp,lvs_app,lvs_app];exact mem_append_right _ (mem_append_left _ hl'))⟩
theorem full_tree {H:Nat} {n:Nest} (hw:wfN H n) (h:TreeOk (lvs H [n]) (ups H [n])) (hk:∀p∈(lvs H [n]).flatten,okText p.Key):fullN H n:=
 full_of H n hw fun l hl=>by
  have:=h.sizes l hl;exact⟨fun e=>by rw[e] at this;exact absurd this.2.1 (by decide),by omega,fun p hp=>hk p (mem_flatten.2 ⟨l,hl,hp⟩)⟩
theorem flat_tree {H:Nat} {n:Nest} (hw:wfN H n) (h:TreeOk (lvs H [n]) (ups H [n])) (hk:∀p∈(lvs H [n]).flatten,okText p.Key):Pure Try.prog 23 [nsV n] (trD ⟨lvs H [n],intU (ups H [n])⟩):=
 p_flatof H n hw.1 (full_tree hw h hk) (by have:=h.many;omega) (by have:=h.deep;rw[ups_len] at this;omega)
end
section
open Go.RowKit K
open Tr
theorem topN_same {n:Nest} (h:n.kids.length≠1):topN n=n:=by
 cases n with
 | leaf _=>rfl|node ks=>match ks,h with
  | [],_=>rfl|[k],h=>exact absurd rfl h|_::_::_,_=>rfl
theorem del_key {t:TreeD} {key:List UInt8} (h1:chkD t=0) (h2:(lookP (flatD t) key).isSome=true):delE t key=0:=by
 unfold delE;rw[if_neg (not_not_intro h1)];exact if_pos h2
theorem del_none {t:TreeD} {key:List UInt8} (h1:chkD t=0) (h2:lookP (flatD t) key=none):delE t key=5:=by
 unfold delE;rw[if_neg (not_not_intro h1)];exact if_neg (by show ¬(lookP (flatD t) key).isSome=true;rw[h2];decide)
set_option maxHeartbeats 4000000 in
theorem p_deleteof (t:TreeD) (ht:t.ok) (key:List UInt8) (hk:okText key) :
  Pure Try.prog 10 [trD t,pStr (tx key)] (.tup [trD (delT t key),pInt .i64 (delE t key)]):=by
 have hd:=dok_in ht;have pw:=p_treecheckR t hd;refine pure_of Try.func10 (by rfl) rfl (by kernel_rfl) (by rfl) ?_;by_cases hc:chkD t=0
 ·obtain⟨U,hU,hok⟩:=chk_ok hc;have h64:(flatD t).length<=64:=hok.count;have hasc:Asc (flatD t):=hok.asc;have hm:=hok.many;rw[hc] at pw;have pp:=p_pairsof t (by omega) fun l hl=>by have:=hok.sizes l hl;omega
  have po:=p_foundof (flatD t) (by omega) key;have hfm:((flatD t).map PairD.c).length=(flatD t).length:=length_map _;rcases found_cases (flatD t) hasc key with ⟨k,hkl,e1,e2,e3⟩ | ⟨e1,e3⟩
  ·have he:delE t key=0:=del_key hc (by rw[e3];rfl);rw[he];rw[e1] at po;rcases t with ⟨L,Us⟩;have hU:Us=intU U:=hU;subst hU
   replace hok:TreeOk L U:=hok
   have hL:L≠[]:=fun e=>by subst e;exact absurd hkl (not_lt_zero _)
   have hT:delT ⟨L,intU U⟩ key=⟨(delF L U (leafF L U key U.length 0) key).1,intU (delF L U (leafF L U key U.length 0) key).2⟩:=by
    unfold delT delR;rw[if_neg (not_not_intro he),natU_int]
   have hkeys:∀q∈L.flatten,okText q.Key:=fun q hq=>by
    obtain⟨l,hl,hq⟩:=mem_flatten.1 hq;exact (hd.keys l hl q hq).1
   obtain⟨n1,n2,n3,_⟩:=nestT_ok hok hL;have hfull:=full_tree n1 (by rw[n2,n3];exact hok) (by rw[n2];exact hkeys);have pn:=p_nestof hok hL;have pt:=p_ntake U.length (nestT L U) key n1.1 n1.2 hfull hk;have hdk:=del_ok hok hL key;obtain⟨T,hTe⟩:∃T,T=takeN U.length (nestT L U) key:=⟨_,rfl⟩;rw[<- hTe] at pt hdk;have pw:Pure Try.prog 18 [.agg [.c (.sl 1 (lvC L)),.c (.sl 1 (upC U))]] (pInt .i64 0):=by
    rw[<- upI_int];exact pw
   have pp:Pure Try.prog 19 [.agg [.c (.sl 1 (lvC L)),.c (.sl 1 (upC U))]] (lfV (flatD ⟨L,intU U⟩)):=by
    rw[<- upI_int];exact pp
   have hgo:argsE [trD ⟨L,intU U⟩,pStr (tx key)]=argsE [.agg [.c (.sl 1 (lvC L)),.c (.sl 1 (upC U))],pStr (tx key)]:=by
    rw[show trD ⟨L,intU U⟩=.agg [.c (.sl 1 (lvC L)),.c (.sl 1 (upI (intU U)))] from rfl,upI_int]
   rw[hgo,hT];rw[nsV_eq] at pn pt;rcases hdk with ⟨d1,d2,d3⟩ | ⟨H,d1,d2,d3,d4,d5⟩
   ·rw[d1];subst d3;rw[nsV_eq] at pt;have pt:Pure Try.prog 32 _ (.agg [.c (.sl 2 []),.c (.sl 2 [])]):=pt;have pz:=p_nsize (.leaf []) (zero_le _) (zero_le _);rw[nsV_eq] at pz;have pz:Pure Try.prog 33 [.agg [.c (.sl 2 []),.c (.sl 2 [])]] (pInt .i64 0):=pz;((conv=>whnf);repeat' ((first|(with_reducible first|apply a_|apply b_|apply c_)|((with_reducible first|apply d_|apply e_|apply f_|apply g_|apply h_);first|omega|simp only[q_]<;>omega)|((with_reducible apply i_);first|omega|simp only[q_]<;>omega)|((with_reducible apply h_);first|decide|kernel_rfl)|refine s_ (by decide) ?_|refine t_ (by decide) ?_|refine r_ pw rfl ?_|refine r_ pp rfl ?_|refine r_ po rfl ?_|refine r_ pn rfl ?_|refine r_ pt rfl ?_|refine r_ pz rfl ?_|with_reducible first|apply l_|apply m_|apply n_|apply o_|refine p_ (fun _=>?_) (fun _=>?_))<;>conv=>whnf));all_goals first|exact Ret.le ⟨⟨.inr ⟨⟨1,rfl⟩,.inl rfl⟩,.inr ⟨⟨1,rfl⟩,.inl rfl⟩,rfl⟩,.inl rfl,rfl⟩|(exfalso;omega)|skip
   ·rw[d1];have hfM:=full_tree d2 d4 fun q hq=>by
     rw[d5] at hq;exact hkeys q (delP_mem.1 hq).1
    have pf:=flat_tree d2 d4 fun q hq=>by
     rw[d5] at hq;exact hkeys q (delP_mem.1 hq).1
    have hMs:(topN T).size<=1000:=kid_size (ks:=[topN T]) (fun k hk=>by rw[mem_singleton.1 hk];exact d2.1) (fun k hk=>by rw[mem_singleton.1 hk];exact hfM) (fun k hk=>by rw[mem_singleton.1 hk];exact d2.2) _ mem_cons_self;have hMz:=nest_size (topN T);have pz:=p_nsize (topN T) (by omega) (by omega);rw[nsV_eq] at pt;by_cases h1:T.kids.length=1
    ·obtain⟨x,rfl⟩:∃x,T=.node [x]:=by
      cases T with
      | leaf _=>exact absurd h1 (by decide:¬0=1)|node ks=>
       obtain⟨x,hx⟩:=length_eq_one_iff.1 h1;have hx:ks=[x]:=hx;exact⟨x,by rw[hx]⟩
     have hx:topN (.node [x])=x:=rfl;rw[hx] at pf pz d3 hMs ⊢;rw[nsV_eq] at pf pz;have hrow:[nestC x][0]? = some [.sl 2 (x.pairs.map PairD.c),.sl 2 (x.kids.map nestC)]:=by rw[<- nestC_eq];rfl
     have pt:Pure Try.prog 32 _ (.agg [.c (.sl 2 []),.c (.sl 2 [nestC x])]):=pt;((conv=>whnf);repeat' ((first|(with_reducible first|apply a_|apply b_|apply c_)|((with_reducible first|apply d_|apply e_|apply f_|apply g_|apply h_);first|omega|simp only[q_]<;>omega)|((with_reducible apply i_);first|omega|simp only[q_]<;>omega)|((with_reducible apply h_);first|decide|kernel_rfl)|refine s_ (by decide) ?_|refine t_ (by decide) ?_|(refine Idx.at' hrow rfl ?_)|refine r_ pw rfl ?_|refine r_ pp rfl ?_|refine r_ po rfl ?_|refine r_ pn rfl ?_|refine r_ pt rfl ?_|refine r_ pz rfl ?_|refine r_ pf rfl ?_|with_reducible first|apply l_|apply m_|apply n_|apply o_|refine p_ (fun _=>?_) (fun _=>?_))<;>conv=>whnf));all_goals first|exact Ret.mk rfl|(exfalso;omega)|skip
    ·have h2:(T.kids.map nestC).length≠1:=by rw[length_map];exact h1
     rw[topN_same h1] at pf pz d3 hMs ⊢;rw[nsV_eq] at pf pz;((conv=>whnf);repeat' ((first|(with_reducible first|apply a_|apply b_|apply c_)|((with_reducible first|apply d_|apply e_|apply f_|apply g_|apply h_);first|omega|simp only[q_]<;>omega)|((with_reducible apply i_);first|omega|simp only[q_]<;>omega)|((with_reducible apply h_);first|decide|kernel_rfl)|refine s_ (by decide) ?_|refine t_ (by decide) ?_|refine r_ pw rfl ?_|refine r_ pp rfl ?_|refine r_ po rfl ?_|refine r_ pn rfl ?_|refine r_ pt rfl ?_|refine r_ pz rfl ?_|refine r_ pf rfl ?_|with_reducible first|apply l_|apply m_|apply n_|apply o_|refine p_ (fun _=>?_) (fun _=>?_))<;>conv=>whnf));all_goals first|exact Ret.mk rfl|(exfalso;omega)|skip
  ·have he:delE t key=5:=del_none hc e3;rw[delT_err (by rw[he];decide),he];rw[e1] at po;((conv=>whnf);repeat' ((first|(with_reducible first|apply a_|apply b_|apply c_)|((with_reducible first|apply d_|apply e_|apply f_|apply g_|apply h_);first|omega|simp only[q_]<;>omega)|((with_reducible apply i_);first|omega|simp only[q_]<;>omega)|((with_reducible apply h_);first|decide|kernel_rfl)|refine s_ (by decide) ?_|refine t_ (by decide) ?_|refine r_ pw rfl ?_|refine r_ pp rfl ?_|refine r_ po rfl ?_|with_reducible first|apply l_|apply m_|apply n_|apply o_|refine p_ (fun _=>?_) (fun _=>?_))<;>conv=>whnf));all_goals first|exact Ret.le ⟨⟨.inr ⟨⟨1,rfl⟩,.inl rfl⟩,.inr ⟨⟨1,rfl⟩,.inl rfl⟩,rfl⟩,.inl rfl,rfl⟩|(exfalso;omega)|skip
 ·have he:delE t key=chkD t:=if_pos hc;rw[delT_err (by rw[he];exact hc),he];((conv=>whnf);repeat' ((first|(with_reducible first|apply a_|apply b_|apply c_)|((with_reducible first|apply d_|apply e_|apply f_|apply g_|apply h_);first|omega|simp only[q_]<;>omega)|((with_reducible apply i_);first|omega|simp only[q_]<;>omega)|((with_reducible apply h_);first|decide|kernel_rfl)|refine s_ (by decide) ?_|refine t_ (by decide) ?_|refine r_ pw rfl ?_|with_reducible first|apply l_|apply m_|apply n_|apply o_|refine p_ (fun _=>?_) (fun _=>?_))<;>conv=>whnf));all_goals first|exact Ret.le ⟨⟨.inr ⟨⟨1,rfl⟩,.inl rfl⟩,.inr ⟨⟨1,rfl⟩,.inl rfl⟩,rfl⟩,.inl rfl,rfl⟩|(exfalso;omega)|skip
theorem law_TreeDeletes (t:TreeD) (ht:t.ok) (key:List UInt8) (hk:okText key) :
  Pure Try.prog 4 [.agg (t.c.map D.c),pStr (tx key)] (pBool true):=by
 have hd:=dok_in ht;have pi:=p_Delete t hd key hk;have pj:=p_deleteof t ht key hk;have pb:=p_treebegun;have ps:Pure Try.prog 8 [trD (delT t key),trD (delT t key)] (pBool true):=by
  by_cases he:delE t key=0
  ·exact (del_good hd he).same
  ·rw[delT_err he];exact small_tree treeOk_nil
 show Pure _ _ [trD t,_] _;refine pure_of Try.func4 (by rfl) rfl (by kernel_rfl) (by rfl) ?_;((conv=>whnf);repeat' ((first|(with_reducible first|apply a_|apply b_|apply c_)|((with_reducible first|apply d_|apply e_|apply f_|apply g_|apply h_);first|omega|simp only[q_]<;>omega)|((with_reducible apply i_);first|omega|simp only[q_]<;>omega)|((with_reducible apply h_);first|decide|kernel_rfl)|refine s_ (by decide) ?_|refine t_ (by decide) ?_|refine r_ pi rfl ?_|refine r_ pj rfl ?_|refine r_ pb rfl ?_|refine r_ ps rfl ?_|with_reducible first|apply l_|apply m_|apply n_|apply o_|refine p_ (fun _=>?_) (fun _=>?_))<;>conv=>whnf));all_goals first|exact Ret.bool rfl|exact Ret.bool (beq_self_eq_true _) | (exfalso;omega) | skip
end
end Go.Proofs.Ytdjbckknghddpaa.Pm
