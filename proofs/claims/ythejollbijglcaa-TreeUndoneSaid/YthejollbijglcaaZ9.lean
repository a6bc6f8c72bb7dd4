/- Parts of the proof, one behind the other: PtBegun PtLaws PtLaws2. Conditions: none beyond what each theorem says. -/
import Derived.Test.YthejollbijglcaaZ8
set_option linter.unusedVariables false
set_option linter.unusedSimpArgs false
namespace Go.Proofs.Ythejollbijglcaa.Pm
section
open Go.RowKit K
set_option maxRecDepth 100000
set_option maxRecDepth 100000
open Tr
def bP (k:UInt8):PairD:=⟨[k],k.toNat⟩
def bTr:Nat→TreeD
 | 0=>⟨[],[]⟩
 | 1=>⟨[[bP 98]],[]⟩
 | 2=>⟨[[bP 98,bP 100]],[]⟩
 | 3=>⟨[[bP 97,bP 98,bP 100]],[]⟩
 | 4=>⟨[[bP 97,bP 98,bP 100,bP 101]],[]⟩
 | 5=>⟨[[bP 97,bP 98],[bP 99,bP 100,bP 101]],[[2]]⟩
 | 6=>⟨[[bP 98,bP 99],[bP 100,bP 101]],[[2]]⟩
 | _=>⟨[[bP 99,bP 100,bP 101]],[]⟩
theorem bi0:insT (bTr 0) (bP 98)=bTr 1∧insE (bTr 0) [98]=0:=⟨by kernel_rfl,by decide +kernel⟩
theorem bi1:insT (bTr 1) (bP 100)=bTr 2∧insE (bTr 1) [100]=0:=⟨by kernel_rfl,by decide +kernel⟩
theorem bi2:insT (bTr 2) (bP 97)=bTr 3∧insE (bTr 2) [97]=0:=⟨by kernel_rfl,by decide +kernel⟩
theorem bi3:insT (bTr 3) (bP 101)=bTr 4∧insE (bTr 3) [101]=0:=⟨by kernel_rfl,by decide +kernel⟩
theorem bi4:insT (bTr 4) (bP 99)=bTr 5∧insE (bTr 4) [99]=0:=⟨by kernel_rfl,by decide +kernel⟩
theorem bd5:delT (bTr 5) [97]=bTr 6∧delE (bTr 5) [97]=0:=⟨by kernel_rfl,by decide +kernel⟩
theorem bd6:delT (bTr 6) [98]=bTr 7∧delE (bTr 6) [98]=0:=⟨by kernel_rfl,by decide +kernel⟩
theorem br5:(rangeF (bTr 5) [98] [100])=[bP 98,bP 99,bP 100]∧chkD (bTr 5)=0:=⟨by kernel_rfl,by decide +kernel⟩
theorem bl7:listF (bTr 7)=[bP 99,bP 100,bP 101]∧chkD (bTr 7)=0:=⟨by kernel_rfl,by decide +kernel⟩
theorem bf5:findI (bTr 5) [100]=100∧findB (bTr 5) [100]=true∧findE (bTr 5) [100]=0:=⟨by decide +kernel,by decide +kernel,by decide +kernel⟩
theorem dok_of {t:TreeD} (h1:(t.Leaves.all fun l=>decide (l.length≤5)&&l.all fun p=>decide (p.Key.length≤5)&&decide (0≤p.Id)&&decide (p.Id≤1000))=true) (h2:(t.Up.all fun l=>decide (l.length≤5))=true):DataOk t:=by
 simp only[List.all_eq_true,Bool.and_eq_true,decide_eq_true_eq] at h1 h2
 refine⟨fun l hl p hp=>?_,fun l hl=>?_,fun u hu=>?_⟩
 ·obtain⟨⟨a,b⟩,c⟩:=(h1 l hl).2 p hp
  exact⟨by unfold okText;omega,by unfold okInt;omega⟩
 ·have:=(h1 l hl).1;omega
 ·have:=h2 u hu;omega
theorem bok:∀k,k≤7→DataOk (bTr k):=fun k hk=>by
 rcases (by omega:k=0∨k=1∨k=2∨k=3∨k=4∨k=5∨k=6∨k=7) with rfl | rfl | rfl | rfl | rfl | rfl | rfl | rfl<;>exact dok_of (by decide +kernel) (by decide +kernel)
theorem p_pairlaw (k:List UInt8) (n:Int):Pure Try.prog 33 [pStr (tx k),pInt .i64 n] (.agg ((PairD.c ⟨k,n⟩).map D.c)):=by
 refine pure_of Try.func33 (by rfl) rfl (by kernel_rfl) (by rfl) ?_
 ((conv=>whnf);repeat' ((first|(with_reducible first|apply a_|apply b_|apply c_)|((with_reducible first|apply d_|apply e_|apply f_|apply g_);focus first|omega|(simp only[q_]<;>omega))|((with_reducible first|apply i_|apply h_);focus first|omega|(simp only[q_]<;>omega))|((with_reducible apply h_);focus first|decide|kernel_rfl)|refine s_ (by decide) ?_|refine t_ (by decide) ?_|with_reducible first|apply l_|apply m_|apply n_|apply o_|refine p_ (fun _=>?_) (fun _=>?_))<;>(conv=>whnf)))
 exact Ret.mk rfl
abbrev sT:Nat:=9
abbrev bR:List (List C):=[[.v (.string ⟨#[98]⟩)],[.v (.string ⟨#[100]⟩)],[.v (.string ⟨#[97]⟩)],[.v (.string ⟨#[101]⟩)],[.v (.string ⟨#[99]⟩)]]
abbrev treeD (t:TreeD):HB:=treeB t.Leaves t.Up
theorem pi_step {k:Nat} {c:UInt8} (hk:k≤7) (h:insT (bTr k) (bP c)=bTr (k+1)∧insE (bTr k) [c]=0):Pure Try.prog 22 [trD (bTr k),pStr ⟨#[c]⟩,pInt .i64 c.toNat] (.tup [trD (bTr (k+1)),pInt .i64 0]):=by
 have:=p_Insert (bTr k) (bok k hk) (bP c) (by show 1≤_;decide)
 rw[h.1,show (bP c).Key=[c] from rfl,h.2] at this
 exact this
set_option maxHeartbeats 4000000 in
theorem p_treebegun:Pure Try.prog 16 [] (pBool true):=by
 have i0:=pi_step (by decide) bi0
 have i1:=pi_step (by decide) bi1
 have i2:=pi_step (by decide) bi2
 have i3:=pi_step (by decide) bi3
 have i4:=pi_step (by decide) bi4
 have pp97:Pure Try.prog 33 [pStr ⟨#[97]⟩,pInt .i64 97] (.agg [.c (.v (.string ⟨#[97]⟩)),.c (.v (.int .i64 97))]):=p_pairlaw [97] 97
 have pp98:Pure Try.prog 33 [pStr ⟨#[98]⟩,pInt .i64 98] (.agg [.c (.v (.string ⟨#[98]⟩)),.c (.v (.int .i64 98))]):=p_pairlaw [98] 98
 have pp99:Pure Try.prog 33 [pStr ⟨#[99]⟩,pInt .i64 99] (.agg [.c (.v (.string ⟨#[99]⟩)),.c (.v (.int .i64 99))]):=p_pairlaw [99] 99
 have pp100:Pure Try.prog 33 [pStr ⟨#[100]⟩,pInt .i64 100] (.agg [.c (.v (.string ⟨#[100]⟩)),.c (.v (.int .i64 100))]):=p_pairlaw [100] 100
 have pp101:Pure Try.prog 33 [pStr ⟨#[101]⟩,pInt .i64 101] (.agg [.c (.v (.string ⟨#[101]⟩)),.c (.v (.int .i64 101))]):=p_pairlaw [101] 101
 have w:∀c:UInt8,-9223372036854775808≤(c.toNat:Int)∧(c.toNat:Int)≤9223372036854775807:=fun c=>by have:=c.toNat_lt;omega
 have f5:Pure Try.prog 14 [trD (bTr 5),pStr ⟨#[100]⟩] (.tup [pInt .i64 100,pBool true,pInt .i64 0]):=by
  have:=p_Find (bTr 5) (bok 5 (by decide)) [100] (by decide)
  unfold findV at this
  rw[bf5.1,bf5.2.1,bf5.2.2] at this
  exact this
 have d5:Pure Try.prog 25 [trD (bTr 5),pStr ⟨#[97]⟩] (.tup [trD (bTr 6),pInt .i64 0]):=by
  have:=p_Delete (bTr 5) (bok 5 (by decide)) [97] (by decide)
  rw[bd5.1,bd5.2] at this
  exact this
 have d6:Pure Try.prog 25 [trD (bTr 6),pStr ⟨#[98]⟩] (.tup [trD (bTr 7),pInt .i64 0]):=by
  have:=p_Delete (bTr 6) (bok 6 (by decide)) [98] (by decide)
  rw[bd6.1,bd6.2] at this
  exact this
 have r5:Pure Try.prog 15 [trD (bTr 5),pStr ⟨#[98]⟩,pStr ⟨#[100]⟩] (.tup [lfV [bP 98,bP 99,bP 100],pInt .i64 0]):=by
  have:=p_Range (bTr 5) (bok 5 (by decide)) [98] [100]
  rw[br5.1,br5.2] at this
  exact this
 have l7:Pure Try.prog 13 [trD (bTr 7)] (.tup [lfV [bP 99,bP 100,bP 101],pInt .i64 0]):=by
  have:=p_List (bTr 7) (bok 7 (by decide))
  rw[bl7.1,bl7.2] at this
  exact this
 have st:=p_sametree (bTr 5) (by decide) (by decide) (by decide) (by decide)
 refine pure_of Try.func16 (by rfl) rfl (by kernel_rfl) (by rfl) ?_
 ((conv=>whnf);repeat' ((first|(with_reducible first|apply a_|apply b_|apply c_)|((with_reducible first|apply d_|apply e_|apply f_|apply g_);focus first|omega|(simp only[q_]<;>omega))|((with_reducible first|apply i_|apply h_);focus first|omega|(simp only[q_]<;>omega))|((with_reducible apply h_);focus first|decide|kernel_rfl)|refine s_ (by decide) ?_|refine t_ (by decide) ?_|with_reducible first|apply l_|apply m_|apply n_|apply o_|refine p_ (fun _=>?_) (fun _=>?_))<;>(conv=>whnf)))
 refine LoopC.mk Nat (fun k=>[(1,.d (.ptr 1 0)),(2,pInt .i64 0),(17,.d (.app 160 sT 1 bR)),(18,pInt .i64 5),(19,pInt .i64 (k:Int))]) (fun k=>[(1,treeD (bTr k)),(160,.tail sT 1)]) [1,160] (fun k=>k≤5) (fun k=>5 - k) 0 (Nat.zero_le _) ?start ?round
 case start=>exact Wk.mk [(1,1),(160,17)] rfl rfl ⟨⟨rfl,rfl,rfl⟩,.inl rfl,⟨rfl,rfl,rfl,rfl,rfl⟩,.inl rfl,.inl rfl,trivial⟩ ⟨⟨rfl,rfl,.inr ⟨⟨1,rfl⟩,.inl rfl⟩,.inr ⟨⟨1,rfl⟩,.inl rfl⟩,rfl⟩,⟨rfl,rfl,rfl⟩,trivial⟩
 case round=>
  intro k hk
  rcases (by omega:k=0∨k=1∨k=2∨k=3∨k=4∨k=5) with rfl | rfl | rfl | rfl | rfl | rfl
  ·((conv=>whnf);repeat' ((first|(with_reducible first|apply a_|apply b_|apply c_)|((with_reducible first|apply d_|apply e_|apply f_|apply g_);focus first|omega|(simp only[q_]<;>omega))|((with_reducible first|apply i_|apply h_);focus first|omega|(simp only[q_]<;>omega))|((with_reducible apply h_);focus first|decide|kernel_rfl)|refine s_ (by decide) ?_|refine t_ (by decide) ?_|(first|refine Idx.mk [.v (.string ⟨#[98]⟩)] (Int.natCast_nonneg _) rfl ?_|refine SIdx.mk 98 (Int.le_refl 0) rfl ?_|refine Wr.i64 (w _).1 (w _).2 ?_)|refine r_ i0 rfl ?_|with_reducible first|apply l_|apply m_|apply n_|apply o_|refine p_ (fun _=>?_) (fun _=>?_))<;>(conv=>whnf)))
   all_goals first
    | exact⟨1,by decide,by decide,[(1,1),(160,160)],rfl,rfl,⟨⟨rfl,rfl,rfl⟩,.inl rfl,⟨rfl,rfl,rfl,rfl,rfl⟩,.inl rfl,PLe.int (by decide),trivial⟩,⟨⟨rfl,rfl,.inl rfl,.inl rfl,rfl⟩,⟨rfl,rfl,rfl⟩,trivial⟩⟩
    | (exfalso;omega)
    | skip
  ·((conv=>whnf);repeat' ((first|(with_reducible first|apply a_|apply b_|apply c_)|((with_reducible first|apply d_|apply e_|apply f_|apply g_);focus first|omega|(simp only[q_]<;>omega))|((with_reducible first|apply i_|apply h_);focus first|omega|(simp only[q_]<;>omega))|((with_reducible apply h_);focus first|decide|kernel_rfl)|refine s_ (by decide) ?_|refine t_ (by decide) ?_|(first|refine Idx.mk [.v (.string ⟨#[100]⟩)] (Int.natCast_nonneg _) rfl ?_|refine SIdx.mk 100 (Int.le_refl 0) rfl ?_|refine Wr.i64 (w _).1 (w _).2 ?_)|refine r_ i1 rfl ?_|with_reducible first|apply l_|apply m_|apply n_|apply o_|refine p_ (fun _=>?_) (fun _=>?_))<;>(conv=>whnf)))
   all_goals first
    | exact⟨2,by decide,by decide,[(1,1),(160,160)],rfl,rfl,⟨⟨rfl,rfl,rfl⟩,.inl rfl,⟨rfl,rfl,rfl,rfl,rfl⟩,.inl rfl,PLe.int (by decide),trivial⟩,⟨⟨rfl,rfl,.inl rfl,.inl rfl,rfl⟩,⟨rfl,rfl,rfl⟩,trivial⟩⟩
    | (exfalso;omega)
    | skip
  ·((conv=>whnf);repeat' ((first|(with_reducible first|apply a_|apply b_|apply c_)|((with_reducible first|apply d_|apply e_|apply f_|apply g_);focus first|omega|(simp only[q_]<;>omega))|((with_reducible first|apply i_|apply h_);focus first|omega|(simp only[q_]<;>omega))|((with_reducible apply h_);focus first|decide|kernel_rfl)|refine s_ (by decide) ?_|refine t_ (by decide) ?_|(first|refine Idx.mk [.v (.string ⟨#[97]⟩)] (Int.natCast_nonneg _) rfl ?_|refine SIdx.mk 97 (Int.le_refl 0) rfl ?_|refine Wr.i64 (w _).1 (w _).2 ?_)|refine r_ i2 rfl ?_|with_reducible first|apply l_|apply m_|apply n_|apply o_|refine p_ (fun _=>?_) (fun _=>?_))<;>(conv=>whnf)))
   all_goals first
    | exact⟨3,by decide,by decide,[(1,1),(160,160)],rfl,rfl,⟨⟨rfl,rfl,rfl⟩,.inl rfl,⟨rfl,rfl,rfl,rfl,rfl⟩,.inl rfl,PLe.int (by decide),trivial⟩,⟨⟨rfl,rfl,.inl rfl,.inl rfl,rfl⟩,⟨rfl,rfl,rfl⟩,trivial⟩⟩
    | (exfalso;omega)
    | skip
  ·((conv=>whnf);repeat' ((first|(with_reducible first|apply a_|apply b_|apply c_)|((with_reducible first|apply d_|apply e_|apply f_|apply g_);focus first|omega|(simp only[q_]<;>omega))|((with_reducible first|apply i_|apply h_);focus first|omega|(simp only[q_]<;>omega))|((with_reducible apply h_);focus first|decide|kernel_rfl)|refine s_ (by decide) ?_|refine t_ (by decide) ?_|(first|refine Idx.mk [.v (.string ⟨#[101]⟩)] (Int.natCast_nonneg _) rfl ?_|refine SIdx.mk 101 (Int.le_refl 0) rfl ?_|refine Wr.i64 (w _).1 (w _).2 ?_)|refine r_ i3 rfl ?_|with_reducible first|apply l_|apply m_|apply n_|apply o_|refine p_ (fun _=>?_) (fun _=>?_))<;>(conv=>whnf)))
   all_goals first
    | exact⟨4,by decide,by decide,[(1,1),(160,160)],rfl,rfl,⟨⟨rfl,rfl,rfl⟩,.inl rfl,⟨rfl,rfl,rfl,rfl,rfl⟩,.inl rfl,PLe.int (by decide),trivial⟩,⟨⟨rfl,rfl,.inl rfl,.inl rfl,rfl⟩,⟨rfl,rfl,rfl⟩,trivial⟩⟩
    | (exfalso;omega)
    | skip
  ·((conv=>whnf);repeat' ((first|(with_reducible first|apply a_|apply b_|apply c_)|((with_reducible first|apply d_|apply e_|apply f_|apply g_);focus first|omega|(simp only[q_]<;>omega))|((with_reducible first|apply i_|apply h_);focus first|omega|(simp only[q_]<;>omega))|((with_reducible apply h_);focus first|decide|kernel_rfl)|refine s_ (by decide) ?_|refine t_ (by decide) ?_|(first|refine Idx.mk [.v (.string ⟨#[99]⟩)] (Int.natCast_nonneg _) rfl ?_|refine SIdx.mk 99 (Int.le_refl 0) rfl ?_|refine Wr.i64 (w _).1 (w _).2 ?_)|refine r_ i4 rfl ?_|with_reducible first|apply l_|apply m_|apply n_|apply o_|refine p_ (fun _=>?_) (fun _=>?_))<;>(conv=>whnf)))
   all_goals first
    | exact⟨5,by decide,by decide,[(1,1),(160,160)],rfl,rfl,⟨⟨rfl,rfl,rfl⟩,.inl rfl,⟨rfl,rfl,rfl,rfl,rfl⟩,.inl rfl,PLe.int (by decide),trivial⟩,⟨⟨rfl,rfl,.inl rfl,.inl rfl,rfl⟩,⟨rfl,rfl,rfl⟩,trivial⟩⟩
    | (exfalso;omega)
    | skip
  ·((conv=>whnf);repeat' ((first|(with_reducible first|apply a_|apply b_|apply c_)|((with_reducible first|apply d_|apply e_|apply f_|apply g_);focus first|omega|(simp only[q_]<;>omega))|((with_reducible first|apply i_|apply h_);focus first|omega|(simp only[q_]<;>omega))|((with_reducible apply h_);focus first|decide|kernel_rfl)|refine s_ (by decide) ?_|refine t_ (by decide) ?_|refine r_ pp97 rfl ?_|refine r_ pp98 rfl ?_|refine r_ pp99 rfl ?_|refine r_ pp100 rfl ?_|refine r_ pp101 rfl ?_|refine r_ f5 rfl ?_|refine r_ d5 rfl ?_|refine r_ d6 rfl ?_|refine r_ r5 rfl ?_|refine r_ l7 rfl ?_|refine r_ st rfl ?_|(refine Idx.mk [.sl 2 ([bP 98,bP 99].map PairD.c)] (Int.le_refl 0) rfl ?_)|with_reducible first|apply l_|apply m_|apply n_|apply o_|refine p_ (fun _=>?_) (fun _=>?_))<;>(conv=>whnf)))
   all_goals first|exact Ret.bool rfl|skip
end
section
open Go.RowKit K
set_option maxRecDepth 100000
set_option maxRecDepth 100000
open Tr
theorem dok_in {t:TreeD} (h:t.ok):DataOk t:=by
 obtain⟨⟨_,h1⟩,_,h2⟩:=h
 refine⟨fun l hl p hp=>(h1 l hl).2 p hp,fun l hl=>?_,fun u hu=>?_⟩
 ·have:=(h1 l hl).1
  rw[show Try.prog.bytesOf 38=24 by kernel_rfl] at this
  omega
 ·have:=(h2 u hu).1
  rw[show Try.prog.bytesOf 3=8 by kernel_rfl] at this
  omega
abbrev flatD (t:TreeD):List PairD:=t.Leaves.flatten
theorem dok_tree {L:List (List PairD)} {U:List (List Nat)} (h:TreeOk L U) (hp:∀p∈L.flatten,p.ok):DataOk ⟨L,intU U⟩:=by
 have hv:=h.okT
 refine⟨fun l hl p hq=>hp p (List.mem_flatten.2 ⟨l,hl,hq⟩),fun l hl=>by have h4:l.length≤4:=(h.sizes l hl).2.2;show l.length≤_;omega,fun u hu=>?_⟩
 obtain⟨v,hv',rfl⟩:=List.mem_map.1 hu
 rw[List.length_map]
 obtain⟨i,hi,rfl⟩:=List.getElem_of_mem hv'
 have hs:=hv.small (i+1) hi
 have e:lenAt L U (i+1)=U[i].length:=by show (U.getD i []).length=_;rw[List.getD_eq_getElem?_getD,List.getElem?_eq_getElem hi];rfl
 rw[e] at hs
 omega
theorem small_tree {L:List (List PairD)} {U:List (List Nat)} (h:TreeOk L U):Pure Try.prog 24 [trD ⟨L,intU U⟩,trD ⟨L,intU U⟩] (pBool true):=by
 have h1:=h.many
 have h2:=h.deep
 have h3:=dok_tree (L:=L) (U:=U) h
 refine p_sametree ⟨L,intU U⟩ (by show L.length≤_;omega) (by show (intU U).length≤_;unfold intU;rw[List.length_map];omega) (fun l hl=>?_) (fun u hu=>?_)
 ·have h4:l.length≤4:=(h.sizes l hl).2.2
  omega
 ·obtain⟨v,hv',rfl⟩:=List.mem_map.1 hu
  rw[List.length_map]
  obtain⟨i,hi,rfl⟩:=List.getElem_of_mem hv'
  have hs:=h.okT.small (i+1) hi
  have e:lenAt L U (i+1)=U[i].length:=by show (U.getD i []).length=_;rw[List.getD_eq_getElem?_getD,List.getElem?_eq_getElem hi];rfl
  rw[e] at hs
  omega
theorem chkD_of {L:List (List PairD)} {U:List (List Nat)} (h:TreeOk L U):chkD ⟨L,intU U⟩=0:=chk_of h
theorem insE_zero {t:TreeD} {key:List UInt8} (h:insE t key=0):chkD t=0∧key.length≤40∧(∀q∈flatD t,q.Key≠key)∧(flatD t).length≠64:=by
 unfold insE at h
 by_cases c1:findE t key≠0
 ·rw[if_pos c1] at h;exact absurd h c1
 have c1:findE t key=0:=Decidable.of_not_not c1
 rw[if_neg (not_not_intro c1)] at h
 have hch:chkD t=0∧key.length≤40:=by
  unfold findE at c1
  by_cases q:chkD t≠0
  ·rw[if_pos q] at c1;exact absurd c1 q
  ·rw[if_neg q] at c1
   refine⟨Decidable.of_not_not q,?_⟩
   by_cases q2:40<key.length
   ·rw[if_pos q2] at c1;cases c1
   ·omega
 by_cases c2:findB t key=true
 ·rw[if_pos c2] at h;cases h
 rw[if_neg c2] at h
 refine⟨hch.1,hch.2,?_,fun c3=>by rw[if_pos c3] at h;cases h⟩
 have hh:findB t key=(lookP (flatD t) key).isSome:=by
  unfold findB
  rw[c1];rfl
 rw[hh] at c2
 cases hq:lookP (flatD t) key with
 | none=>exact look_none.1 hq
 | some x=>rw[hq] at c2;exact absurd rfl c2
structure InsGood (t:TreeD) (p:PairD) (u:TreeD):Prop where
 chk:chkD t=0
 key:p.Key.length≤40
 new:∀q∈flatD t,q.Key≠p.Key
 len:(flatD t).length<64
 chk2:chkD u=0
 flat:flatD u=insP (flatD t) p
 ok:DataOk u
 asc:Asc (flatD t)
 same:Pure Try.prog 24 [trD u,trD u] (pBool true)
theorem ins_good {t:TreeD} (h:DataOk t) {p:PairD} (hp:p.ok) (he:insE t p.Key=0):InsGood t p (insT t p):=by
 obtain⟨c1,c2,c3,c4⟩:=insE_zero he
 obtain⟨U,hU,hok⟩:=chk_ok c1
 rcases t with ⟨L,Us⟩
 have hU:Us=intU U:=hU
 subst hU
 replace hok:TreeOk L U:=hok
 have c3:∀q∈L.flatten,q.Key≠p.Key:=c3
 have hlen:L.flatten.length<64:=by have:=hok.count;have h4:L.flatten.length≠64:=c4;omega
 by_cases hL:L=[]
 ·have e:insT ⟨L,intU U⟩ p=⟨[[p]],[]⟩:=by
   unfold insT
   rw[if_neg (not_not_intro he)]
   exact if_pos hL
  have hok1:TreeOk [[p]] []:=by
   refine⟨(show 1≤64 by decide),by decide,fun l hl=>?_,?_,fun q hq=>?_,.inr rfl,(show 1≤64 by decide)⟩
   ·rw[List.mem_singleton] at hl
    subst hl
    unfold badL
    simp
   ·show Asc [p];exact List.pairwise_singleton _ _
   ·have hq:q∈[p]:=hq
    rw[List.mem_singleton] at hq
    subst hq;exact c2
  rw[e]
  refine⟨c1,c2,c3,hlen,chkD_of hok1,?_,dok_tree hok1 fun q hq=>?_,hok.asc,small_tree hok1⟩
  ·show [[p]].flatten=insP L.flatten p
   rw[hL];rfl
  ·have hq:q∈[p]:=hq
   rw[List.mem_singleton] at hq
   subst hq;exact hp
 ·have e:insT ⟨L,intU U⟩ p=⟨(insF L U (leafF L U p.Key U.length 0) p).1,intU (insF L U (leafF L U p.Key U.length 0) p).2⟩:=by
   unfold insT insR
   rw[if_neg (not_not_intro he),natU_int]
   exact if_neg hL
  obtain⟨H,e1,e2,e3,e4⟩:=ins_ok hok hL p c2 c3 hlen
  rw[e,e1]
  refine⟨c1,c2,c3,hlen,chkD_of e3,e4,dok_tree e3 fun q hq=>?_,hok.asc,small_tree e3⟩
  rw[e4,insP_mem] at hq
  rcases hq with rfl | hq
  ·exact hp
  ·obtain⟨l,hl,hq⟩:=List.mem_flatten.1 hq
   exact h.keys l hl q hq
structure DelGood (t:TreeD) (key:List UInt8) (u:TreeD):Prop where
 chk:chkD t=0
 old:(lookP (flatD t) key).isSome=true
 chk2:chkD u=0
 flat:flatD u=delP (flatD t) key
 ok:DataOk u
 asc:Asc (flatD t)
 same:Pure Try.prog 24 [trD u,trD u] (pBool true)
theorem treeOk_nil:TreeOk [] []:=⟨by decide,by decide,fun l hl=>(by cases hl),List.Pairwise.nil,fun p hp=>(by cases hp),.inl ⟨rfl,rfl⟩,by decide⟩
theorem del_good {t:TreeD} (h:DataOk t) {key:List UInt8} (he:delE t key=0):DelGood t key (delT t key):=by
 have c1:chkD t=0:=by
  unfold delE at he
  by_cases q:chkD t≠0
  ·rw[if_pos q] at he;exact absurd he q
  ·exact Decidable.of_not_not q
 have c2:(lookP (flatD t) key).isSome=true:=by
  unfold delE at he
  rw[if_neg (not_not_intro c1)] at he
  by_cases q:(lookP (flatD t) key).isSome=true
  ·exact q
  ·have he:(if (lookP (flatD t) key).isSome=true then (0:Int) else 5)=0:=he
   rw[if_neg q] at he;cases he
 obtain⟨U,hU,hok⟩:=chk_ok c1
 rcases t with ⟨L,Us⟩
 have hU:Us=intU U:=hU
 subst hU
 replace hok:TreeOk L U:=hok
 have hL:L≠[]:=fun e=>by
  have c2:(lookP L.flatten key).isSome=true:=c2
  rw[e] at c2;cases c2
 have e:delT ⟨L,intU U⟩ key=⟨(delF L U (leafF L U key U.length 0) key).1,intU (delF L U (leafF L U key U.length 0) key).2⟩:=by
  unfold delT delR
  rw[if_neg (not_not_intro he),natU_int]
 rw[e]
 rcases del_ok hok hL key with ⟨d1,d2,_⟩ | ⟨H,d1,_,_,d4,d5⟩
 ·rw[d1]
  exact⟨c1,c2,chkD_of treeOk_nil,d2.symm,dok_tree treeOk_nil fun q hq=>(by cases hq),hok.asc,small_tree treeOk_nil⟩
 ·rw[d1]
  refine⟨c1,c2,chkD_of d4,d5,dok_tree d4 fun q hq=>?_,hok.asc,small_tree d4⟩
  rw[d5,delP_mem] at hq
  obtain⟨l,hl,hq⟩:=List.mem_flatten.1 hq.1
  exact h.keys l hl q hq
end
section
open Go.RowKit K
set_option maxRecDepth 100000
set_option maxRecDepth 100000
open Tr
theorem insT_err {t:TreeD} {p:PairD} (h:insE t p.Key≠0):insT t p=⟨[],[]⟩:=if_pos h
theorem delT_err {t:TreeD} {key:List UInt8} (h:delE t key≠0):delT t key=⟨[],[]⟩:=if_pos h
theorem findE_of {t:TreeD} (h:chkD t=0) (key:List UInt8):findE t key=if 40<key.length then 2 else 0:=by unfold findE;rw[if_neg (not_not_intro h)]
theorem findB_of {t:TreeD} {key:List UInt8} (h:findE t key=0):findB t key=(lookP (flatD t) key).isSome:=by unfold findB;rw[h];rfl
theorem findI_of {t:TreeD} {key:List UInt8} (h:findE t key=0):findI t key=(lookP (flatD t) key).getD 0:=by unfold findI;rw[if_neg (not_not_intro h)]
theorem findB_no {t:TreeD} {key:List UInt8} (h:findE t key≠0):findB t key=false:=by unfold findB;rw[decide_eq_false h];rfl
theorem findI_no {t:TreeD} {key:List UInt8} (h:findE t key≠0):findI t key=0:=by unfold findI;rw[if_pos h]
theorem InsGood.self {t u:TreeD} {p:PairD} (G:InsGood t p u):lookP (flatD u) p.Key=some p.Id:=by
 rw[G.flat]
 exact look_mem (insP_asc G.asc G.new) (insP_mem.2 (.inl rfl))
theorem InsGood.other {t u:TreeD} {p:PairD} (G:InsGood t p u) {o:List UInt8} (h:o≠p.Key):lookP (flatD u) o=lookP (flatD t) o:=by
 rw[G.flat]
 exact look_ins G.asc G.new h
theorem flat_len {t:TreeD} (h:chkD t=0):(flatD t).length≤64:=by
 obtain⟨U,hU,hok⟩:=chk_ok h
 exact hok.count
theorem DelGood.gone {t u:TreeD} {key:List UInt8} (G:DelGood t key u):lookP (flatD u) key=none:=by
 rw[G.flat]
 exact look_none.2 fun q hq=>(delP_mem.1 hq).2
theorem DelGood.other {t u:TreeD} {key:List UInt8} (G:DelGood t key u) {o:List UInt8} (h:o≠key):lookP (flatD u) o=lookP (flatD t) o:=by
 rw[G.flat]
 exact look_ext (delP_asc G.asc key) G.asc fun p hp=>by rw[delP_mem];exact⟨fun h=>h.1,fun h'=>⟨h',by rw[hp];exact h⟩⟩
theorem DelGood.len {t u:TreeD} {key:List UInt8} (G:DelGood t key u):(flatD t).length=(flatD u).length+1:=by
 rw[G.flat]
 have ho:=G.old
 cases hq:lookP (flatD t) key with
 | none=>rw[hq] at ho;cases ho
 | some i=>
  obtain⟨p,h1,h2,_⟩:=(look_some G.asc).1 hq
  obtain⟨hp,_,e⟩:=(hit_pos (key:=key) G.asc).2 p h1 h2
  rw[e,List.length_append,List.length_take,List.length_drop];omega
theorem law_TreeGone (t:TreeD) (ht:t.ok) (key:List UInt8) (hk:okText key) (o:List UInt8) (ho:okText o) :
  Pure Try.prog 7 [.agg (t.c.map D.c),pStr (tx key),pStr (tx o)] (pBool true):=by
 have hd:=dok_in ht
 have pi:=p_Delete t hd key hk
 have pb:=p_treebegun
 show Pure _ _ [trD t,_,_] _
 refine pure_of Try.func7 (by rfl) rfl (by kernel_rfl) (by rfl) ?_
 by_cases he:delE t key=0
 ·have G:DelGood t key (delT t key):=del_good hd he
  obtain⟨u,hu⟩:∃u,u=delT t key:=⟨_,rfl⟩
  rw[← hu] at G pi
  rw[he] at pi
  have hk40:key.length≤40:=by
   obtain⟨U,hU,hok⟩:=chk_ok G.chk
   have ho:=G.old
   cases hq:lookP (flatD t) key with
   | none=>rw[hq] at ho;cases ho
   | some i=>
    obtain⟨p,h1,h2,_⟩:=(look_some G.asc).1 hq
    rw[← h2];exact hok.keys p h1
  have f1:=p_Find u G.ok key hk
  have hf1:findE u key=0:=by rw[findE_of G.chk2,if_neg (by omega)]
  unfold findV at f1
  rw[findI_of hf1,findB_of hf1,G.gone,hf1] at f1
  replace f1:Pure Try.prog 14 [trD u,pStr (tx key)] (.tup [pInt .i64 0,pBool false,pInt .i64 0]):=f1
  have l1:=p_List t hd
  have l2:=p_List u G.ok
  rw[show listF t=flatD t from if_neg (not_not_intro G.chk),G.chk] at l1
  rw[show listF u=flatD u from if_neg (not_not_intro G.chk2),G.chk2] at l2
  have hl:=G.len
  have hl2:=flat_len G.chk
  have pc:=p_treecheck u G.ok
  rw[G.chk2] at pc
  have f2:=p_Find t hd o ho
  have f3:=p_Find u G.ok o ho
  have hE:findE u o=findE t o:=by rw[findE_of G.chk2,findE_of G.chk]
  unfold findV at f2 f3
  rw[hE] at f3
  by_cases hok:o=key
  ·subst hok
   ((conv=>whnf);repeat' ((first|(with_reducible first|apply a_|apply b_|apply c_)|((with_reducible first|apply d_|apply e_|apply f_|apply g_);focus first|omega|(simp only[q_]<;>omega))|((with_reducible first|apply i_|apply h_);focus first|omega|(simp only[q_]<;>omega))|((with_reducible apply h_);focus first|decide|kernel_rfl)|refine s_ (by decide) ?_|refine t_ (by decide) ?_|refine r_ pi rfl ?_|refine r_ pb rfl ?_|refine r_ f1 rfl ?_|refine r_ l1 rfl ?_|refine r_ l2 rfl ?_|refine r_ pc rfl ?_|refine r_ f2 rfl ?_|refine r_ f3 rfl ?_|with_reducible first|apply l_|apply m_|apply n_|apply o_|refine p_ (fun _=>?_) (fun _=>?_))<;>(conv=>whnf)))
   all_goals first|exact Ret.bool rfl|exact Ret.bool (beq_self_eq_true _) | (exfalso;omega) | skip
  ·have hB:findB u o=findB t o∧findI u o=findI t o:=by
    by_cases h0:findE t o=0
    ·have h1:findE u o=0:=by rw[hE];exact h0
     rw[findB_of h0,findB_of h1,findI_of h0,findI_of h1,G.other hok]
     exact⟨rfl,rfl⟩
    ·have h1:findE u o≠0:=by rw[hE];exact h0
     rw[findB_no h0,findB_no h1,findI_no h0,findI_no h1]
     exact⟨rfl,rfl⟩
   rw[hB.1,hB.2] at f3
   ((conv=>whnf);repeat' ((first|(with_reducible first|apply a_|apply b_|apply c_)|((with_reducible first|apply d_|apply e_|apply f_|apply g_);focus first|omega|(simp only[q_]<;>omega))|((with_reducible first|apply i_|apply h_);focus first|omega|(simp only[q_]<;>omega))|((with_reducible apply h_);focus first|decide|kernel_rfl)|refine s_ (by decide) ?_|refine t_ (by decide) ?_|refine r_ pi rfl ?_|refine r_ pb rfl ?_|refine r_ f1 rfl ?_|refine r_ l1 rfl ?_|refine r_ l2 rfl ?_|refine r_ pc rfl ?_|refine r_ f2 rfl ?_|refine r_ f3 rfl ?_|with_reducible first|apply l_|apply m_|apply n_|apply o_|refine p_ (fun _=>?_) (fun _=>?_))<;>(conv=>whnf)))
   all_goals first|exact Ret.bool rfl|exact Ret.bool (beq_self_eq_true _) | (exfalso;omega) | skip
 ·rw[delT_err he] at pi
  ((conv=>whnf);repeat' ((first|(with_reducible first|apply a_|apply b_|apply c_)|((with_reducible first|apply d_|apply e_|apply f_|apply g_);focus first|omega|(simp only[q_]<;>omega))|((with_reducible first|apply i_|apply h_);focus first|omega|(simp only[q_]<;>omega))|((with_reducible apply h_);focus first|decide|kernel_rfl)|refine s_ (by decide) ?_|refine t_ (by decide) ?_|refine r_ pi rfl ?_|refine r_ pb rfl ?_|with_reducible first|apply l_|apply m_|apply n_|apply o_|refine p_ (fun _=>?_) (fun _=>?_))<;>(conv=>whnf)))
  all_goals first|exact Ret.bool rfl | (exfalso;omega) | skip
theorem del_ins {Q:List PairD} {p:PairD} (hn:∀q∈Q,q.Key≠p.Key) (h:Asc Q):delP (insP Q p) p.Key=Q:=
 asc_ext (delP_asc (insP_asc h hn) _) h fun x=>by
  rw[delP_mem,insP_mem]
  constructor
  ·rintro⟨rfl | h,h2⟩
   ·exact absurd rfl h2
   ·exact h
  ·exact fun h=>⟨.inr h,hn x h⟩
theorem law_TreeUndone (t:TreeD) (ht:t.ok) (key:List UInt8) (hk:okText key) (id:Int) (hi:okInt id) :
  Pure Try.prog 8 [.agg (t.c.map D.c),pStr (tx key),pInt .i64 id] (pBool true):=by
 have hd:=dok_in ht
 have pi:Pure Try.prog 22 [trD t,pStr (tx key),pInt .i64 id] (.tup [trD (insT t ⟨key,id⟩),pInt .i64 (insE t key)]):=p_Insert t hd ⟨key,id⟩ hk
 have pb:=p_treebegun
 show Pure _ _ [trD t,_,_] _
 refine pure_of Try.func8 (by rfl) rfl (by kernel_rfl) (by rfl) ?_
 by_cases he:insE t key=0
 ·have G:InsGood t ⟨key,id⟩ (insT t ⟨key,id⟩):=ins_good hd (p:=⟨key,id⟩) ⟨hk,hi⟩ he
  obtain⟨u,hu⟩:∃u,u=insT t ⟨key,id⟩:=⟨_,rfl⟩
  rw[← hu] at G pi
  rw[he] at pi
  have hd0:delE u key=0:=by
   unfold delE
   rw[if_neg (not_not_intro G.chk2)]
   have hs:lookP u.Leaves.flatten key=some id:=G.self
   rw[hs];rfl
  have D:=del_good G.ok hd0
  have pd:=p_Delete u G.ok key hk
  rw[hd0] at pd
  obtain⟨v,hv⟩:∃v,v=delT u key:=⟨_,rfl⟩
  rw[← hv] at pd D
  have hfl:flatD v=flatD t:=by rw[D.flat,G.flat];exact del_ins (p:=⟨key,id⟩) G.new G.asc
  have l1:=p_List t hd
  have l2:=p_List v D.ok
  rw[show listF t=flatD t from if_neg (not_not_intro G.chk),G.chk] at l1
  rw[show listF v=flatD v from if_neg (not_not_intro D.chk2),D.chk2,hfl] at l2
  have hl2:=flat_len G.chk
  have sp:=p_samepairs (flatD t) (by omega)
  ((conv=>whnf);repeat' ((first|(with_reducible first|apply a_|apply b_|apply c_)|((with_reducible first|apply d_|apply e_|apply f_|apply g_);focus first|omega|(simp only[q_]<;>omega))|((with_reducible first|apply i_|apply h_);focus first|omega|(simp only[q_]<;>omega))|((with_reducible apply h_);focus first|decide|kernel_rfl)|refine s_ (by decide) ?_|refine t_ (by decide) ?_|refine r_ pi rfl ?_|refine r_ pb rfl ?_|refine r_ pd rfl ?_|refine r_ l1 rfl ?_|refine r_ l2 rfl ?_|refine r_ sp rfl ?_|with_reducible first|apply l_|apply m_|apply n_|apply o_|refine p_ (fun _=>?_) (fun _=>?_))<;>(conv=>whnf)))
  all_goals first|exact Ret.bool rfl | (exfalso;omega) | skip
 ·rw[insT_err (p:=⟨key,id⟩) he] at pi
  ((conv=>whnf);repeat' ((first|(with_reducible first|apply a_|apply b_|apply c_)|((with_reducible first|apply d_|apply e_|apply f_|apply g_);focus first|omega|(simp only[q_]<;>omega))|((with_reducible first|apply i_|apply h_);focus first|omega|(simp only[q_]<;>omega))|((with_reducible apply h_);focus first|decide|kernel_rfl)|refine s_ (by decide) ?_|refine t_ (by decide) ?_|refine r_ pi rfl ?_|refine r_ pb rfl ?_|with_reducible first|apply l_|apply m_|apply n_|apply o_|refine p_ (fun _=>?_) (fun _=>?_))<;>(conv=>whnf)))
  all_goals first|exact Ret.bool rfl | (exfalso;omega) | skip
end
end Go.Proofs.Ythejollbijglcaa.Pm
