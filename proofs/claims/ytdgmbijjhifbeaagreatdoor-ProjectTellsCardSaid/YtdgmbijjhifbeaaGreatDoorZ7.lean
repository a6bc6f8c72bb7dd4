/- Parts of the proof, one behind the other: PbDist PxSplit PbProj PbRef2 PrUnk PrLaws PrKeyLaws PbThm PxMk PbBegun PbLaws PmLikeR PmMatchOf PxNodeR PxNodeR2 PxValue PxSame PxFoldE PxFold PxFold2 PxFold3 PxSplit2 PmNil PxPush PxPush2 PxBegun PbFil PbLaws2 PbLaws4. Conditions: none beyond what each theorem says. -/
import Derived.Test.YtdgmbijjhifbeaaGreatDoorZ6
set_option linter.unusedVariables false
set_option linter.unusedSimpArgs false
namespace Go.Proofs.YtdgmbijjhifbeaaGreatDoor.Pm
section
open Go.RowKit K
set_option maxRecDepth 100000
set_option maxRecDepth 100000
def putS (seen:List (List UInt8)) (s:List UInt8):List (List UInt8):=if s∈seen then seen else seen++[s]
theorem s_distinct1 (row:RowT) (hr:row.length≤1000) (hN:∀v∈row,okInt v.N) (seen:List (List UInt8)) (T:Nat):CallS Tryz.prog 56 [slV 3 ValueD.c row,.d (.ptr FK 0)] [(FK,.box T [.mp FK1])] [(FK1,.mp (nmap seen))] (.tup [pBool (!decide (keyR row∈seen)),pInt .i64 (rowChk row)]) [(FK1,.mp (nmap (putS seen (keyR row))))]:=by
 have pk:=p_key row (by omega) hN
 refine callS_of Tryz.func56 (by rfl) rfl (by kernel_rfl) (by rfl) [FK,FK1] rfl ?_
 ((conv=>whnf);repeat' ((first|(with_reducible first|apply a_|apply b_|apply c_)|((with_reducible first|apply d_|apply e_|apply f_|apply g_);focus first|omega|(simp only[q_]<;>omega))|((with_reducible first|apply i_|apply h_);focus first|omega|(simp only[q_]<;>omega))|((with_reducible apply h_);focus first|decide|kernel_rfl)|refine s_ (by decide) ?_|refine t_ (by decide) ?_|refine r_ pk rfl ?_|(refine Need.mk ⟨rfl,nmap_plain seen⟩ ?_)|with_reducible first|apply l_|apply m_|apply n_|apply o_|refine p_ (fun _=>?_) (fun _=>?_))<;>(conv=>whnf)))
 refine⟨fun v hv=>?_,fun hv=>?_⟩
 ·rw[mpGet_nmap] at hv
  by_cases h:keyR row∈seen
  ·rw[if_pos h] at hv
   cases hv
   ((conv=>whnf);repeat' ((first|(with_reducible first|apply a_|apply b_|apply c_)|((with_reducible first|apply d_|apply e_|apply f_|apply g_);focus first|omega|(simp only[q_]<;>omega))|((with_reducible first|apply i_|apply h_);focus first|omega|(simp only[q_]<;>omega))|((with_reducible apply h_);focus first|decide|kernel_rfl)|refine s_ (by decide) ?_|refine t_ (by decide) ?_|with_reducible first|apply l_|apply m_|apply n_|apply o_|refine p_ (fun _=>?_) (fun _=>?_))<;>(conv=>whnf)))
   refine RetS.mk [(FK,FK),(FK1,FK1)] [FK,FK1] rfl rfl ?_ ?_
   ·exact⟨PLe.bool (by simp[h]),.inl rfl,rfl⟩
   ·refine⟨?_,⟨rfl,by unfold putS;rw[if_pos h];show mpPut _ _ _=_;rw[mpPut_nmap,if_pos h]⟩,trivial⟩<;>repeat' (first|exact rfl|exact trivial|exact Or.inl rfl|refine And.intro ?_ ?_)
  ·rw[if_neg h] at hv;cases hv
 ·rw[mpGet_nmap] at hv
  by_cases h:keyR row∈seen
  ·rw[if_pos h] at hv;cases hv
  ·((conv=>whnf);repeat' ((first|(with_reducible first|apply a_|apply b_|apply c_)|((with_reducible first|apply d_|apply e_|apply f_|apply g_);focus first|omega|(simp only[q_]<;>omega))|((with_reducible first|apply i_|apply h_);focus first|omega|(simp only[q_]<;>omega))|((with_reducible apply h_);focus first|decide|kernel_rfl)|refine s_ (by decide) ?_|refine t_ (by decide) ?_|with_reducible first|apply l_|apply m_|apply n_|apply o_|refine p_ (fun _=>?_) (fun _=>?_))<;>(conv=>whnf)))
   refine RetS.mk [(FK,FK),(FK1,FK1)] [FK,FK1] rfl rfl ?_ ?_
   ·exact⟨PLe.bool (by simp[h]),.inl rfl,rfl⟩
   ·refine⟨?_,⟨rfl,by unfold putS;rw[if_neg h];show mpPut _ _ _=_;rw[mpPut_nmap,if_neg h]⟩,trivial⟩<;>repeat' (first|exact rfl|exact trivial|exact Or.inl rfl|refine And.intro ?_ ?_)
def distK:List (List UInt8)→List RowT→List RowT
 | _,[]=>[]
 | seen,r::l=>if keyR r∈seen then distK seen l else r::distK (seen++[keyR r]) l
def seenK (seen:List (List UInt8)) (l:List RowT):List (List UInt8):=l.foldl (fun s r=>putS s (keyR r)) seen
theorem seenK_snoc {seen:List (List UInt8)} {l:List RowT} {k:Nat} (h:k<l.length):seenK seen (l.take (k+1))=putS (seenK seen (l.take k)) (keyR l[k]):=by
 unfold seenK
 rw[take_snoc h,List.foldl_append];rfl
theorem distK_snoc:∀(l:List RowT) (seen:List (List UInt8)) (r:RowT),distK seen (l++[r])=distK seen l++(if keyR r∈seenK seen l then [] else [r])
 | [],seen,r=>by
  show distK seen [r]=_
  rw[distK,distK]
  show _=[]++if keyR r∈seen then [] else [r]
  split<;>simp[distK]
 | x::l,seen,r=>by
  rw[List.cons_append,distK,distK]
  have e:seenK seen (x::l)=seenK (putS seen (keyR x)) l:=rfl
  rw[e]
  unfold putS
  by_cases h:keyR x∈seen
  ·rw[if_pos h,if_pos h,if_pos h,distK_snoc l seen r]
  ·rw[if_neg h,if_neg h,if_neg h,distK_snoc l _ r];rfl
theorem s_kept_dist (l:List RowT) (hl:l.length≤1000) (hr:∀r∈l,r.length≤1000∧(∀v∈r,okInt v.N)∧rowChk r=0) (T:Nat):CallS Tryz.prog 37 [rwsV l,.d (.clo 56 [] [.ptr FK 0])] [(FK,.box T [.mp FK1])] [(FK1,.mp (nmap []))] (.tup [rwsV (distK [] l),pInt .i64 0]) [(FK1,.mp (nmap (seenK [] l)))]:=by
 refine callS_of Tryz.func37 (by rfl) rfl (by kernel_rfl) (by rfl) [FK,FK1] rfl ?_
 ((conv=>whnf);repeat' ((first|(with_reducible first|apply a_|apply b_|apply c_)|((with_reducible first|apply d_|apply e_|apply f_|apply g_);focus first|omega|(simp only[q_]<;>omega))|((with_reducible first|apply i_|apply h_);focus first|omega|(simp only[q_]<;>omega))|((with_reducible apply h_);focus first|decide|kernel_rfl)|refine s_ (by decide) ?_|refine t_ (by decide) ?_|with_reducible first|apply l_|apply m_|apply n_|apply o_|refine p_ (fun _=>?_) (fun _=>?_))<;>(conv=>whnf)))
 refine LoopC.mk Nat (fun k=>[(1,.d (.clo 56 [] [.ptr FK 0])),(6,.d (.app 60 49 1 ((distK [] (l.take k)).map rowC))),(11,rwsV l),(12,pInt .i64 l.length),(13,pInt .i64 (k:Int))]) (fun k=>[(FK,.box T [.mp FK1]),(FK1,.mp (nmap (seenK [] (l.take k)))),(60,.tail 49 1)]) [FK,FK1,60] (fun k=>k≤l.length∧(distK [] (l.take k)).length≤k) (fun k=>l.length - k) 0 ⟨Nat.zero_le _,by rw[List.take_zero];exact Nat.le_refl _⟩ ?start ?round
 case start=>
  refine⟨[(FK,FK),(FK1,FK1)],rfl,rfl,?_,?_⟩<;>repeat' (first|exact rfl|exact trivial|exact Or.inl rfl|exact Nat.zero_lt_succ _|refine And.intro ?_ ?_)
  all_goals exact PLe.int (by simp)
 case round=>
  rintro k ⟨hk,hdl⟩
  have hk:k≤l.length:=hk
  have hdl:(distK [] (l.take k)).length≤k:=hdl
  by_cases q:k<l.length
  ·obtain⟨h1,h2,h3⟩:=hr _ (List.getElem_mem q)
   have pf:=s_distinct1 l[k] h1 h2 (seenK [] (l.take k)) T
   have pc:=p_cloneV l[k] (by omega)
   rw[h3] at pf
   have hs:=seenK_snoc (seen:=[]) q
   have hd:distK [] (l.take (k+1))=distK [] (l.take k)++(if keyR l[k]∈seenK [] (l.take k) then [] else [l[k]]):=by rw[take_snoc q];exact distK_snoc _ _ _
   by_cases h:keyR l[k]∈seenK [] (l.take k)
   ·rw[if_pos h,List.append_nil] at hd
    have hb:(!decide (keyR l[k]∈seenK [] (l.take k)))=false:=by simp[h]
    rw[hb] at pf
    ((conv=>whnf);repeat' ((first|(with_reducible first|apply a_|apply b_|apply c_)|((with_reducible first|apply d_|apply e_|apply f_|apply g_);focus first|omega|(simp only[q_]<;>omega))|((with_reducible first|apply i_|apply h_);focus first|omega|(simp only[q_]<;>omega))|((with_reducible apply h_);focus first|decide|kernel_rfl)|refine s_ (by decide) ?_|refine t_ (by decide) ?_|(refine Idx.mapI (f:=rowC) k rfl q ?_)|(refine CallP.ret [(FK,FK),(FK1,FK1)] _ _ _ _ _ _ _ pf rfl rfl rfl rfl ⟨rfl,rfl,trivial⟩ ?_)|refine r_ pc rfl ?_|(refine Need.by 24 rfl (by simp only[List.length_map,List.length_singleton];omega) ?_)|with_reducible first|apply l_|apply m_|apply n_|apply o_|refine p_ (fun _=>?_) (fun _=>?_))<;>(conv=>whnf)))
    all_goals first
     | (exfalso;omega)
     | skip
    refine⟨k+1,⟨by show k+1≤_;omega,by rw[hd];omega⟩,by show l.length - (k+1)<l.length - k;omega,[(FK,FK),(FK1,FK1),(60,60)],rfl,rfl,?_,?_⟩<;>repeat' (first|exact rfl|exact trivial|exact Or.inl rfl|exact (show _=(distK [] (l.take (k+1))).map rowC by rw[hd]) | exact (show _=nmap (seenK [] (l.take (k+1))) by rw[hs]) | refine And.intro ?_ ?_)
    all_goals first|exact PLe.int (by simp) | exact PLe.int (by omega)
   ·rw[if_neg h] at hd
    have hb:(!decide (keyR l[k]∈seenK [] (l.take k)))=true:=by simp[h]
    rw[hb] at pf
    ((conv=>whnf);repeat' ((first|(with_reducible first|apply a_|apply b_|apply c_)|((with_reducible first|apply d_|apply e_|apply f_|apply g_);focus first|omega|(simp only[q_]<;>omega))|((with_reducible first|apply i_|apply h_);focus first|omega|(simp only[q_]<;>omega))|((with_reducible apply h_);focus first|decide|kernel_rfl)|refine s_ (by decide) ?_|refine t_ (by decide) ?_|(refine Idx.mapI (f:=rowC) k rfl q ?_)|(refine CallP.ret [(FK,FK),(FK1,FK1)] _ _ _ _ _ _ _ pf rfl rfl rfl rfl ⟨rfl,rfl,trivial⟩ ?_)|refine r_ pc rfl ?_|(refine Need.by 24 rfl (by simp only[List.length_map,List.length_singleton];omega) ?_)|with_reducible first|apply l_|apply m_|apply n_|apply o_|refine p_ (fun _=>?_) (fun _=>?_))<;>(conv=>whnf)))
    all_goals first
     | (exfalso;omega)
     | skip
    refine⟨k+1,⟨by show k+1≤_;omega,by rw[hd,List.length_append,List.length_singleton];omega⟩,by show l.length - (k+1)<l.length - k;omega,[(FK,FK),(FK1,FK1),(60,31)],rfl,rfl,?_,?_⟩<;>repeat' (first|exact rfl|exact trivial|exact Or.inl rfl|exact (show _=(distK [] (l.take (k+1))).map rowC by rw[hd,List.map_append];rfl) | exact (show _=nmap (seenK [] (l.take (k+1))) by rw[hs]) | refine And.intro ?_ ?_)
    all_goals first|exact PLe.int (by simp) | exact PLe.int (by omega)
  ·have e1:l.take k=l:=List.take_of_length_le (by omega)
   rw[e1]
   ((conv=>whnf);repeat' ((first|(with_reducible first|apply a_|apply b_|apply c_)|((with_reducible first|apply d_|apply e_|apply f_|apply g_);focus first|omega|(simp only[q_]<;>omega))|((with_reducible first|apply i_|apply h_);focus first|omega|(simp only[q_]<;>omega))|((with_reducible apply h_);focus first|decide|kernel_rfl)|refine s_ (by decide) ?_|refine t_ (by decide) ?_|with_reducible first|apply l_|apply m_|apply n_|apply o_|refine p_ (fun _=>?_) (fun _=>?_))<;>(conv=>whnf)))
   all_goals first
    | (exfalso;omega)
    | (refine RetS.mk [(FK,FK),(FK1,FK1)] [FK,FK1] rfl rfl ?_ ?_<;>repeat' (first|exact rfl|exact trivial|exact Or.inl rfl|exact Or.inr ⟨⟨1,rfl⟩,.inl rfl⟩ | refine And.intro ?_ ?_))
def distF (l:List RowT):List RowT×Int:=if rowsChk l≠0 then ([],rowsChk l) else (distK [] l,0)
theorem p_Distinct (l:List RowT) (hN:∀r∈l,∀v∈r,okInt v.N):Pure Tryz.prog 28 [rwsV l] (.tup [rwsV (distF l).1,pInt .i64 (distF l).2]):=by
 have pc:=p_bagcheck l
 refine pure_of Tryz.func28 (by rfl) rfl (by kernel_rfl) (by rfl) ?_
 unfold distF
 by_cases h1:rowsChk l=0
 ·rw[if_neg (not_not_intro h1)]
  rw[h1] at pc
  obtain⟨h40,h8⟩:=rowsChk_ok.1 h1
  have pk (T:Nat):=s_kept_dist l (by omega) (fun r hr=>⟨by have:=(h8 r hr).1;omega,hN r hr,by unfold rowChk;rw[if_neg (by have:=(h8 r hr).1;omega)];exact (h8 r hr).2.2⟩) T
  ((conv=>whnf);repeat' ((first|(with_reducible first|apply a_|apply b_|apply c_)|((with_reducible first|apply d_|apply e_|apply f_|apply g_);focus first|omega|(simp only[q_]<;>omega))|((with_reducible first|apply i_|apply h_);focus first|omega|(simp only[q_]<;>omega))|((with_reducible apply h_);focus first|decide|kernel_rfl)|refine s_ (by decide) ?_|refine t_ (by decide) ?_|refine r_ pc rfl ?_|(refine CallP.ret [(FK,5),(FK1,11)] _ _ _ _ _ _ _ (pk _) rfl rfl rfl rfl ⟨rfl,rfl,trivial⟩ ?_)|with_reducible first|apply l_|apply m_|apply n_|apply o_|refine p_ (fun _=>?_) (fun _=>?_))<;>(conv=>whnf)))
  all_goals first|exact Ret.eq rfl | (exfalso;omega) | skip
 ·rw[if_pos h1]
  ((conv=>whnf);repeat' ((first|(with_reducible first|apply a_|apply b_|apply c_)|((with_reducible first|apply d_|apply e_|apply f_|apply g_);focus first|omega|(simp only[q_]<;>omega))|((with_reducible first|apply i_|apply h_);focus first|omega|(simp only[q_]<;>omega))|((with_reducible apply h_);focus first|decide|kernel_rfl)|refine s_ (by decide) ?_|refine t_ (by decide) ?_|refine r_ pc rfl ?_|with_reducible first|apply l_|apply m_|apply n_|apply o_|refine p_ (fun _=>?_) (fun _=>?_))<;>(conv=>whnf)))
  all_goals first|exact Ret.le ⟨.inr ⟨⟨1,rfl⟩,.inl rfl⟩,.inl rfl,rfl⟩ | (exfalso;omega)
end
section
open Go.RowKit K
set_option maxRecDepth 100000
theorem flat_le_flats:∀{l:List Ex} {t:Ex},t∈l→t.flat.length≤(Ex.flats l).length
 | [],_,h=>by cases h
 | x::l,t,h=>by
  rw[Ex.flats,List.length_append]
  rcases List.mem_cons.1 h with rfl | h
  ·omega
  ·have:=flat_le_flats h;omega
theorem len_le_flats:∀(l:List Ex),l.length≤(Ex.flats l).length
 | []=>Nat.zero_le _
 | x::l=>by
  rw[Ex.flats,List.length_append,List.length_cons]
  have:=x.flat_pos
  have:=len_le_flats l
  omega
theorem flats_snoc {ks:List Ex} {i:Nat} (h:i<ks.length):Ex.flats (ks.take (i+1))=Ex.flats (ks.take i)++ks[i].flat:=by
 rw[take_snoc h,Ex.flats_append,Ex.flats_one]
theorem flats_part {ks:List Ex} {i:Nat} (h:i<ks.length):Ex.flats ks=Ex.flats (ks.take i)++ks[i].flat++Ex.flats (ks.drop (i+1)):=by
 rw[← flats_snoc h,← Ex.flats_append,List.take_append_drop]
theorem root_at {n:NodeD} {ks:List Ex} {e pre post:List NodeD} (he:e=pre++(Ex.mk n ks).flat++post):e=(pre++Ex.flats ks)++n::post:=by
 rw[he,Ex.flat];simp
theorem root_get {n:NodeD} {a b e:List NodeD} (he:e=a++n::b):∃h:a.length<e.length,e[a.length]=n:=by
 subst he
 exact⟨by simp,by simp⟩
theorem p_exprbegin:∀(N:Nat) (t:Ex),t.flat.length≤N→t.good→∀(e pre post:List NodeD),e=pre++t.flat++post→e.length≤1000000→Pure Tryz.prog 125 [slV 6 NodeD.c e,pInt .i64 ((pre.length+t.flat.length:Nat):Int)] (pInt .i64 pre.length)
 | 0,t,hN,hg,e,pre,post,he,hl=>by have:=t.flat_pos;omega
 | N+1,.mk n ks,hN,hg,e,pre,post,he,hl=>by
  rw[Ex.good] at hg
  obtain⟨hk,hgs⟩:=hg
  have hlen:(Ex.mk n ks).flat.length=(Ex.flats ks).length+1:=by rw[Ex.flat,List.length_append,List.length_singleton]
  have he2:=root_at he
  obtain⟨hr1,hr2⟩:=root_get he2
  have hpl:(pre++Ex.flats ks).length=pre.length+(Ex.flats ks).length:=List.length_append
  rw[hlen] at hN ⊢
  have hkb:=len_le_flats ks
  refine pure_of Tryz.func125 (by rfl) rfl (by kernel_rfl) (by rfl) ?_
  ((conv=>whnf);repeat' ((first|(with_reducible first|apply a_|apply b_|apply c_)|((with_reducible first|apply d_|apply e_|apply f_|apply g_);focus first|omega|(simp only[q_]<;>omega))|((with_reducible first|apply i_|apply h_);focus first|omega|(simp only[q_]<;>omega))|((with_reducible apply h_);focus first|decide|kernel_rfl)|refine s_ (by decide) ?_|refine t_ (by decide) ?_|with_reducible first|apply l_|apply m_|apply n_|apply o_|refine p_ (fun _=>?_) (fun _=>?_))<;>(conv=>whnf)))
  refine LoopC.mk Nat (fun k=>[(0,slV 6 NodeD.c e),(1,pInt .i64 ((pre.length+((Ex.flats ks).length+1):Nat):Int)),(5,pInt .i64 ((pre.length+(Ex.flats (ks.take (ks.length - k))).length:Nat):Int)),(6,pInt .i64 k)]) (fun _=>[]) [] (fun k=>k≤ks.length) (fun k=>ks.length - k) 0 (Nat.zero_le _) ?start ?round
  case start=>exact⟨[],rfl,rfl,⟨.inl rfl,.inl rfl,PLe.int (by rw[List.take_of_length_le (by omega)];omega),.inl rfl,trivial⟩,trivial⟩
  case round=>
   intro k hk2
   have hk2:k≤ks.length:=hk2
   by_cases q:k<ks.length
   ·have hi:ks.length - (k+1)<ks.length:=by omega
    have hp:=flats_part hi
    have hm:=List.getElem_mem hi
    have hfl:=flat_le_flats hm
    have hs:=flats_snoc hi
    rw[show ks.length - (k+1)+1=ks.length - k by omega] at hs hp
    have pb:=p_exprbegin N ks[ks.length - (k+1)] (by omega) (Ex.goods_mem hgs _ hm) e (pre++Ex.flats (ks.take (ks.length - (k+1)))) (Ex.flats (ks.drop (ks.length - k))++n::post) (by rw[he2,hp];simp) hl
    have e1:(pre++Ex.flats (ks.take (ks.length - (k+1)))).length+ks[ks.length - (k+1)].flat.length=pre.length+(Ex.flats (ks.take (ks.length - k))).length:=by rw[hs,List.length_append,List.length_append];omega
    rw[e1] at pb
    ((conv=>whnf);repeat' ((first|(with_reducible first|apply a_|apply b_|apply c_)|((with_reducible first|apply d_|apply e_|apply f_|apply g_);focus first|omega|(simp only[q_]<;>omega))|((with_reducible first|apply i_|apply h_);focus first|omega|(simp only[q_]<;>omega))|((with_reducible apply h_);focus first|decide|kernel_rfl)|refine s_ (by decide) ?_|refine t_ (by decide) ?_|(refine Idx.mapE (pre++Ex.flats ks).length (by omega) hr1 hr2 ?_)|refine r_ pb rfl ?_|with_reducible first|apply l_|apply m_|apply n_|apply o_|refine p_ (fun _=>?_) (fun _=>?_))<;>(conv=>whnf)))
    exact⟨k+1,by show k+1≤_;omega,by omega,[],rfl,rfl,⟨.inl rfl,.inl rfl,PLe.int (by rw[List.length_append]),PLe.int (by omega),trivial⟩,trivial⟩
   ·((conv=>whnf);repeat' ((first|(with_reducible first|apply a_|apply b_|apply c_)|((with_reducible first|apply d_|apply e_|apply f_|apply g_);focus first|omega|(simp only[q_]<;>omega))|((with_reducible first|apply i_|apply h_);focus first|omega|(simp only[q_]<;>omega))|((with_reducible apply h_);focus first|decide|kernel_rfl)|refine s_ (by decide) ?_|refine t_ (by decide) ?_|(refine Idx.mapE (pre++Ex.flats ks).length (by omega) hr1 hr2 ?_)|with_reducible first|apply l_|apply m_|apply n_|apply o_|refine p_ (fun _=>?_) (fun _=>?_))<;>(conv=>whnf)))
    refine Ret.int ?_
    rw[show ks.length - k=0 by omega,List.take_zero,Ex.flats];simp
def ek (x:List NodeD):List C:=[.sl 6 (x.map NodeD.c)]
theorem kid_slice {n:NodeD} {ks:List Ex} {i:Nat} (h:i<ks.length) {a b:Nat} (ha:a=(Ex.flats (ks.take i)).length) (hb:b=(Ex.flats (ks.take (i+1))).length):(((Ex.mk n ks).flat.map NodeD.c).drop a).take (b - a)=ks[i].flat.map NodeD.c:=by
 have hp:=flats_part h
 have hs:=flats_snoc h
 subst ha hb
 rw[hs,List.length_append,Nat.add_sub_cancel_left,Ex.flat,hp,← List.map_drop,← List.map_take]
 congr 1
 rw[List.append_assoc,List.append_assoc,List.drop_left' rfl,List.take_left' rfl]
theorem p_exprkids (n:NodeD) (ks:List Ex) (hg:(Ex.mk n ks).good) (e:List NodeD) (he:(Ex.mk n ks).flat=e) (hl:e.length≤1000):Pure Tryz.prog 104 [slV 6 NodeD.c e] (.d (.c (.sl 1 (ks.map fun k=>ek k.flat)))):=by
 have hg0:=hg
 rw[Ex.good] at hg0
 obtain⟨hk,hgs⟩:=hg0
 have hlen:e.length=(Ex.flats ks).length+1:=by rw[← he,Ex.flat,List.length_append,List.length_singleton]
 have hml:(e.map NodeD.c).length=(Ex.flats ks).length+1:=by rw[List.length_map,hlen]
 have he2:=root_at (n:=n) (ks:=ks) (e:=e) (pre:=[]) (post:=[]) (by rw[he];simp)
 obtain⟨hr1,hr2⟩:=root_get he2
 have hpl:([]++Ex.flats ks).length=(Ex.flats ks).length:=rfl
 have hkb:=len_le_flats ks
 have hsp:Ex.flats ks=Ex.flats (ks.take ks.length):=by rw[List.take_length]
 refine pure_of Tryz.func104 (by rfl) rfl (by kernel_rfl) (by rfl) ?_
 ((conv=>whnf);repeat' ((first|(with_reducible first|apply a_|apply b_|apply c_)|((with_reducible first|apply d_|apply e_|apply f_|apply g_);focus first|omega|(simp only[q_]<;>omega))|((with_reducible first|apply i_|apply h_);focus first|omega|(simp only[q_]<;>omega))|((with_reducible apply h_);focus first|decide|kernel_rfl)|refine s_ (by decide) ?_|refine t_ (by decide) ?_|with_reducible first|apply l_|apply m_|apply n_|apply o_|refine p_ (fun _=>?_) (fun _=>?_))<;>(conv=>whnf)))
 refine LoopC.mk Nat (fun k=>[(0,slV 6 NodeD.c e),(3,.d (.app 60 24 1 ((ks.drop (ks.length - k)).map fun k=>ek k.flat))),(4,pInt .i64 ((Ex.flats (ks.take (ks.length - k))).length:Nat)),(5,pInt .i64 k)]) (fun _=>[(60,.tail 24 1)]) [60] (fun k=>k≤ks.length) (fun k=>ks.length - k) 0 (Nat.zero_le _) ?start ?round
 case start=>exact⟨[],rfl,rfl,⟨.inl rfl,⟨rfl,rfl,Nat.zero_lt_succ _,by rw[List.drop_of_length_le (by omega)];rfl,rfl⟩,PLe.int (by rw[Nat.sub_zero,← hsp];omega),.inl rfl,trivial⟩,⟨rfl,Nat.zero_lt_succ _⟩,trivial⟩
 case round=>
  intro k hk2
  have hk2:k≤ks.length:=hk2
  by_cases q:k<ks.length
  ·have hi:ks.length - (k+1)<ks.length:=by omega
   have hp:=flats_part hi
   have hm:=List.getElem_mem hi
   have hfl:=flat_le_flats hm
   have hs:=flats_snoc hi
   have hks:=kid_slice (n:=n) hi rfl rfl
   rw[he] at hks
   rw[show ks.length - (k+1)+1=ks.length - k by omega] at hs hp hks
   have hsl:(Ex.flats (ks.take (ks.length - k))).length≤(Ex.flats ks).length:=by rw[hp,hs];simp
   have hsl2:(Ex.flats (ks.take (ks.length - (k+1)))).length≤(Ex.flats (ks.take (ks.length - k))).length:=by rw[hs];simp
   have pb:=p_exprbegin 1000 ks[ks.length - (k+1)] (by omega) (Ex.goods_mem hgs _ hm) e (Ex.flats (ks.take (ks.length - (k+1)))) (Ex.flats (ks.drop (ks.length - k))++[n]) (by rw[he2,hp];simp) (by omega)
   have e1:(Ex.flats (ks.take (ks.length - (k+1)))).length+ks[ks.length - (k+1)].flat.length=(Ex.flats (ks.take (ks.length - k))).length:=by rw[hs,List.length_append]
   rw[e1] at pb
   ((conv=>whnf);repeat' ((first|(with_reducible first|apply a_|apply b_|apply c_)|((with_reducible first|apply d_|apply e_|apply f_|apply g_);focus first|omega|(simp only[q_]<;>omega))|((with_reducible first|apply i_|apply h_);focus first|omega|(simp only[q_]<;>omega))|((with_reducible apply h_);focus first|decide|kernel_rfl)|refine s_ (by decide) ?_|refine t_ (by decide) ?_|(refine Idx.mapE ([]++Ex.flats ks).length (by omega) hr1 hr2 ?_)|refine r_ pb rfl ?_|(refine Need.by 24 rfl (by simp only[List.length_singleton,List.length_map,List.length_drop];omega) ?_)|with_reducible first|apply l_|apply m_|apply n_|apply o_|refine p_ (fun _=>?_) (fun _=>?_))<;>(conv=>whnf)))
   refine⟨k+1,by show k+1≤_;omega,by omega,[(60,30)],rfl,rfl,⟨.inl rfl,⟨rfl,rfl,rfl,rfl,?_⟩,.inl rfl,PLe.int rfl,trivial⟩,⟨rfl,rfl,rfl⟩,trivial⟩
   rw[List.drop_eq_getElem_cons (by omega:ks.length - (k+1)<ks.length),show ks.length - (k+1)+1=ks.length - k by omega,List.map_cons]
   show _=ek _::_
   unfold ek
   rw[← hks]
   simp
  ·((conv=>whnf);repeat' ((first|(with_reducible first|apply a_|apply b_|apply c_)|((with_reducible first|apply d_|apply e_|apply f_|apply g_);focus first|omega|(simp only[q_]<;>omega))|((with_reducible first|apply i_|apply h_);focus first|omega|(simp only[q_]<;>omega))|((with_reducible apply h_);focus first|decide|kernel_rfl)|refine s_ (by decide) ?_|refine t_ (by decide) ?_|(refine Idx.mapE ([]++Ex.flats ks).length (by omega) hr1 hr2 ?_)|with_reducible first|apply l_|apply m_|apply n_|apply o_|refine p_ (fun _=>?_) (fun _=>?_))<;>(conv=>whnf)))
   refine Ret.eq ?_
   rw[show ks.length - k=0 by omega,List.drop_zero]
end
section
open Go.RowKit K
set_option maxRecDepth 100000
set_option maxRecDepth 100000
def mapX {α β:Type} (f:α→Except Int β):List α→Except Int (List β)
 | []=>.ok []
 | a::l=>match f a with
  | .error x=>.error x
  | .ok b=>match mapX f l with
   | .error x=>.error x
   | .ok bs=>.ok (b::bs)
theorem mapX_app {α β:Type} {f:α→Except Int β}:∀(l m:List α),mapX f (l++m)=match mapX f l with
  | .error x=>.error x
  | .ok bs=>match mapX f m with
   | .error x=>.error x
   | .ok cs=>.ok (bs++cs)
 | [],m=>by
  rw[List.nil_append,mapX]
  cases mapX f m<;>rfl
 | a::l,m=>by
  rw[List.cons_append,mapX,mapX,mapX_app l m]
  cases f a with
  | error x=>rfl
  | ok b=>
   cases mapX f l with
   | error x=>rfl
   | ok bs=>
    cases mapX f m with
    | error x=>rfl
    | ok cs=>rfl
theorem mapX_len {α β:Type} {f:α→Except Int β}:∀{l:List α} {bs:List β},mapX f l=.ok bs→bs.length=l.length
 | [],bs,h=>by rw[mapX] at h;cases h;rfl
 | a::l,bs,h=>by
  rw[mapX] at h
  split at h
  ·cases h
  ·split at h
   ·cases h
   ·rename_i cs hc;cases h;rw[List.length_cons,List.length_cons,mapX_len hc]
theorem mapX_step {α β:Type} {f:α→Except Int β} {l:List α} {k:Nat} {bs:List β} {b:β} (h:k<l.length) (hp:mapX f (l.take k)=.ok bs) (hb:f l[k]=.ok b):mapX f (l.take (k+1))=.ok (bs++[b]):=by
 rw[take_snoc h,mapX_app,hp,mapX,hb,mapX]
theorem mapX_stop {α β:Type} {f:α→Except Int β} {l:List α} {k:Nat} {bs:List β} {x:Int} (h:k<l.length) (hp:mapX f (l.take k)=.ok bs) (hb:f l[k]=.error x):mapX f l=.error x:=by
 conv=>lhs;rw[← List.take_append_drop k l]
 rw[mapX_app,hp,List.drop_eq_getElem_cons h,mapX,hb]
noncomputable def evP (e:List NodeD) (cols:List (List UInt8)) (row:RowT):ValueD×Int:=match evalF e cols row with
 | .ok v=>(v,0)
 | .error x=>(noV,x)
theorem evP_eq (e:List NodeD) (cols:List (List UInt8)) (row:RowT):eVal (evalF e cols row)=.tup [vV (evP e cols row).1,pInt .i64 (evP e cols row).2]:=by
 unfold evP
 cases evalF e cols row<;>rfl
def pairX {α:Type} (p:α×Int):Except Int α:=if p.2=0 then .ok p.1 else .error p.2
noncomputable def projR (list:List (List NodeD)) (cols:List (List UInt8)) (row:RowT):Except Int RowT:=mapX (fun e=>pairX (evP e cols row)) list
def firstX {α:Type} (f:α→Int):List α→Int
 | []=>0
 | a::l=>if f a≠0 then f a else firstX f l
theorem firstX_skip {α:Type} {f:α→Int}:∀(l:List α) (k:Nat),(∀a∈l.take k,f a=0)→firstX f l=firstX f (l.drop k)
 | l,0,_=>by rw[List.drop_zero]
 | [],k+1,_=>rfl
 | a::l,k+1,h=>by
  rw[firstX,if_neg (not_not_intro (h a (by rw[List.take_succ_cons];exact List.mem_cons_self))),List.drop_succ_cons]
  exact firstX_skip l k fun x hx=>h x (by rw[List.take_succ_cons];exact List.mem_cons_of_mem _ hx)
theorem firstX_ok {α:Type} {f:α→Int} {l:List α}:firstX f l=0↔∀a∈l,f a=0:=by
 induction l with
 | nil=>exact⟨fun _ a h=>absurd h List.not_mem_nil,fun _=>rfl⟩
 | cons a l ih=>
  rw[firstX]
  constructor
  ·intro h
   split at h
   ·rename_i q;exact absurd h q
   ·rename_i q
    intro x hx
    rcases List.mem_cons.1 hx with rfl | hx
    ·exact Decidable.of_not_not q
    ·exact ih.1 h x hx
  ·intro h
   rw[if_neg (not_not_intro (h a List.mem_cons_self))]
   exact ih.2 fun x hx=>h x (List.mem_cons_of_mem _ hx)
theorem firstX_at {α:Type} {f:α→Int} {l:List α} {k:Nat} (hk:k<l.length) (h:∀a∈l.take k,f a=0) (hx:f l[k]≠0):firstX f l=f l[k]:=by
 rw[firstX_skip l k h,List.drop_eq_getElem_cons hk,firstX,if_pos hx]
noncomputable def projF (l:List RowT) (cols:List (List UInt8)) (list:List (List NodeD)):List RowT×Int:=
 if rowsChk l≠0 then ([],rowsChk l) else if 8<list.length then ([],2) else if firstX checkF list≠0 then ([],firstX checkF list) else
 match mapX (projR list cols) l with
 | .error x=>([],x)
 | .ok m=>(m,0)
abbrev lstV (list:List (List NodeD)):PV:=.d (.c (.sl 1 (list.map ek)))
theorem p_Project (l:List RowT) (hv:∀r∈l,∀v∈r,WholeP.In64 v.N) (cols:List (List UInt8)) (list:List (List NodeD)) (hn:∀e∈list,∀n∈e,hNode n):Pure Tryz.prog 26 [rwsV l,slV 1 eText cols,lstV list] (.tup [rwsV (projF l cols list).1,pInt .i64 (projF l cols list).2]):=by
 have pc:=p_bagcheck l
 have hml:(list.map ek).length=list.length:=List.length_map _
 refine pure_of Tryz.func26 (by rfl) rfl (by kernel_rfl) (by rfl) ?_
 unfold projF
 by_cases h1:rowsChk l=0
 ·rw[if_neg (not_not_intro h1)]
  rw[h1] at pc
  obtain⟨h40,h8⟩:=rowsChk_ok.1 h1
  by_cases h2:8<list.length
  ·rw[if_pos h2]
   ((conv=>whnf);repeat' ((first|(with_reducible first|apply a_|apply b_|apply c_)|((with_reducible first|apply d_|apply e_|apply f_|apply g_);focus first|omega|(simp only[q_]<;>omega))|((with_reducible first|apply i_|apply h_);focus first|omega|(simp only[q_]<;>omega))|((with_reducible apply h_);focus first|decide|kernel_rfl)|refine s_ (by decide) ?_|refine t_ (by decide) ?_|refine r_ pc rfl ?_|with_reducible first|apply l_|apply m_|apply n_|apply o_|refine p_ (fun _=>?_) (fun _=>?_))<;>(conv=>whnf)))
   all_goals first|exact Ret.le ⟨.inr ⟨⟨1,rfl⟩,.inl rfl⟩,.inl rfl,rfl⟩ | (exfalso;omega)
  ·rw[if_neg h2]
   ((conv=>whnf);repeat' ((first|(with_reducible first|apply a_|apply b_|apply c_)|((with_reducible first|apply d_|apply e_|apply f_|apply g_);focus first|omega|(simp only[q_]<;>omega))|((with_reducible first|apply i_|apply h_);focus first|omega|(simp only[q_]<;>omega))|((with_reducible apply h_);focus first|decide|kernel_rfl)|refine s_ (by decide) ?_|refine t_ (by decide) ?_|refine r_ pc rfl ?_|with_reducible first|apply l_|apply m_|apply n_|apply o_|refine p_ (fun _=>?_) (fun _=>?_))<;>(conv=>whnf)))
   refine LoopC.mk Nat (fun k=>[(0,rwsV l),(1,slV 1 eText cols),(2,lstV list),(28,lstV list),(29,pInt .i64 list.length),(30,pInt .i64 (k:Int))]) (fun _=>[]) [] (fun k=>k≤list.length∧∀a∈list.take k,checkF a=0) (fun k=>list.length - k) 0 ⟨Nat.zero_le _,by simp⟩ ?start ?round
   case start=>exact⟨[],rfl,rfl,⟨.inl rfl,.inl rfl,.inl rfl,.inl rfl,PLe.int (by simp),.inl rfl,trivial⟩,trivial⟩
   case round=>
    rintro k ⟨hk,hz⟩
    have hk:k≤list.length:=hk
    have hz:∀a∈list.take k,checkF a=0:=hz
    by_cases q:k<list.length
    ·have pe:=p_echeck list[k] fun n h=>(hn _ (List.getElem_mem q) n h).1
     by_cases hx:checkF list[k]=0
     ·rw[hx] at pe
      ((conv=>whnf);repeat' ((first|(with_reducible first|apply a_|apply b_|apply c_)|((with_reducible first|apply d_|apply e_|apply f_|apply g_);focus first|omega|(simp only[q_]<;>omega))|((with_reducible first|apply i_|apply h_);focus first|omega|(simp only[q_]<;>omega))|((with_reducible apply h_);focus first|decide|kernel_rfl)|refine s_ (by decide) ?_|refine t_ (by decide) ?_|(refine Idx.mapI (f:=ek) k rfl q ?_)|refine r_ pe rfl ?_|with_reducible first|apply l_|apply m_|apply n_|apply o_|refine p_ (fun _=>?_) (fun _=>?_))<;>(conv=>whnf)))
      all_goals first
       | (exfalso;omega)
       | skip
      refine⟨k+1,⟨by show k+1≤_;omega,fun a ha=>?_⟩,by show list.length - (k+1)<list.length - k;omega,[],rfl,rfl,⟨.inl rfl,.inl rfl,.inl rfl,.inl rfl,PLe.int (by simp),PLe.int (by omega),trivial⟩,trivial⟩
      rw[take_snoc q,List.mem_append,List.mem_singleton] at ha
      rcases ha with ha | rfl
      ·exact hz a ha
      ·exact hx
     ·rw[if_pos (by rw[firstX_at q hz hx];exact hx),firstX_at q hz hx]
      ((conv=>whnf);repeat' ((first|(with_reducible first|apply a_|apply b_|apply c_)|((with_reducible first|apply d_|apply e_|apply f_|apply g_);focus first|omega|(simp only[q_]<;>omega))|((with_reducible first|apply i_|apply h_);focus first|omega|(simp only[q_]<;>omega))|((with_reducible apply h_);focus first|decide|kernel_rfl)|refine s_ (by decide) ?_|refine t_ (by decide) ?_|(refine Idx.mapI (f:=ek) k rfl q ?_)|refine r_ pe rfl ?_|with_reducible first|apply l_|apply m_|apply n_|apply o_|refine p_ (fun _=>?_) (fun _=>?_))<;>(conv=>whnf)))
      all_goals first|exact Ret.le ⟨.inr ⟨⟨1,rfl⟩,.inl rfl⟩,.inl rfl,rfl⟩ | (exfalso;omega)
    ·have e1:list.take k=list:=List.take_of_length_le (by omega)
     rw[e1] at hz
     rw[if_neg (not_not_intro (firstX_ok.2 hz))]
     ((conv=>whnf);repeat' ((first|(with_reducible first|apply a_|apply b_|apply c_)|((with_reducible first|apply d_|apply e_|apply f_|apply g_);focus first|omega|(simp only[q_]<;>omega))|((with_reducible first|apply i_|apply h_);focus first|omega|(simp only[q_]<;>omega))|((with_reducible apply h_);focus first|decide|kernel_rfl)|refine s_ (by decide) ?_|refine t_ (by decide) ?_|with_reducible first|apply l_|apply m_|apply n_|apply o_|refine p_ (fun _=>?_) (fun _=>?_))<;>(conv=>whnf)))
     refine LoopC.mk (Nat×List RowT) (fun s=>[(1,slV 1 eText cols),(2,lstV list),(12,.d (.app 60 49 1 (s.2.map rowC))),(40,rwsV l),(41,pInt .i64 l.length),(42,pInt .i64 (s.1:Int))]) (fun _=>[(60,.tail 49 1)]) [60] (fun s=>s.1≤l.length∧mapX (projR list cols) (l.take s.1)=.ok s.2) (fun s=>l.length - s.1) (0,[]) ⟨Nat.zero_le _,rfl⟩ ?start2 ?round2
     case start2=>exact⟨[],rfl,rfl,⟨.inl rfl,.inl rfl,⟨rfl,rfl,Nat.zero_lt_succ _,rfl,rfl⟩,.inl rfl,PLe.int (by simp),.inl rfl,trivial⟩,⟨rfl,Nat.zero_lt_succ _⟩,trivial⟩
     case round2=>
      rintro⟨i,m⟩ ⟨hi,hm⟩
      have hi:i≤l.length:=hi
      have hm:mapX (projR list cols) (l.take i)=.ok m:=hm
      have hmlen:m.length=i:=by rw[mapX_len hm,List.length_take];omega
      by_cases qi:i<l.length
      ·((conv=>whnf);repeat' ((first|(with_reducible first|apply a_|apply b_|apply c_)|((with_reducible first|apply d_|apply e_|apply f_|apply g_);focus first|omega|(simp only[q_]<;>omega))|((with_reducible first|apply i_|apply h_);focus first|omega|(simp only[q_]<;>omega))|((with_reducible apply h_);focus first|decide|kernel_rfl)|refine s_ (by decide) ?_|refine t_ (by decide) ?_|(refine Idx.mapI (f:=rowC) i rfl qi ?_)|with_reducible first|apply l_|apply m_|apply n_|apply o_|refine p_ (fun _=>?_) (fun _=>?_))<;>(conv=>whnf)))
       refine LoopC.mk (Nat×RowT) (fun s=>[(1,slV 1 eText cols),(2,lstV list),(12,.d (.app 60 49 1 (m.map rowC))),(14,slV 3 ValueD.c l[i]),(15,.d (.app 61 33 3 (s.2.map ValueD.c))),(40,rwsV l),(41,pInt .i64 l.length),(42,pInt .i64 (i:Int)),(46,lstV list),(47,pInt .i64 list.length),(48,pInt .i64 (s.1:Int))]) (fun _=>[(60,.tail 49 1),(61,.tail 33 3)]) [60,61] (fun s=>s.1≤list.length∧mapX (fun e=>pairX (evP e cols l[i])) (list.take s.1)=.ok s.2) (fun s=>list.length - s.1) (0,[]) ⟨Nat.zero_le _,rfl⟩ ?start3 ?round3
       case start3=>exact⟨[(60,60)],rfl,rfl,⟨.inl rfl,.inl rfl,⟨rfl,rfl,rfl,rfl,rfl⟩,.inl rfl,⟨rfl,rfl,Nat.zero_lt_succ _,rfl,rfl⟩,.inl rfl,.inl rfl,.inl rfl,.inl rfl,PLe.int (by simp),.inl rfl,trivial⟩,⟨rfl,rfl,rfl⟩,⟨rfl,Nat.zero_lt_succ _⟩,trivial⟩
       case round3=>
        rintro⟨j,r⟩ ⟨hj,hr⟩
        have hj:j≤list.length:=hj
        have hr:mapX (fun e=>pairX (evP e cols l[i])) (list.take j)=.ok r:=hr
        have hrlen:r.length=j:=by rw[mapX_len hr,List.length_take];omega
        by_cases qj:j<list.length
        ·have hmi:=List.getElem_mem qi
         have pv:=p_eval list[j] (hn _ (List.getElem_mem qj)) cols l[i] (by have:=(h8 _ hmi).1;omega) (hv _ hmi)
         rw[evP_eq] at pv
         by_cases hx:(evP list[j] cols l[i]).2=0
         ·rw[hx] at pv
          have hs:=mapX_step (f:=fun e=>pairX (evP e cols l[i])) qj hr (show pairX (evP list[j] cols l[i])=.ok _ from if_pos hx)
          ((conv=>whnf);repeat' ((first|(with_reducible first|apply a_|apply b_|apply c_)|((with_reducible first|apply d_|apply e_|apply f_|apply g_);focus first|omega|(simp only[q_]<;>omega))|((with_reducible first|apply i_|apply h_);focus first|omega|(simp only[q_]<;>omega))|((with_reducible apply h_);focus first|decide|kernel_rfl)|refine s_ (by decide) ?_|refine t_ (by decide) ?_|(refine Idx.mapI (f:=ek) j rfl qj ?_)|refine r_ pv rfl ?_|(refine Need.by 32 rfl (by simp only[List.length_map,List.length_singleton];omega) ?_)|with_reducible first|apply l_|apply m_|apply n_|apply o_|refine p_ (fun _=>?_) (fun _=>?_))<;>(conv=>whnf)))
          all_goals first
           | (exfalso;omega)
           | skip
          refine⟨(j+1,r++[(evP list[j] cols l[i]).1]),⟨by show j+1≤_;omega,hs⟩,by show list.length - (j+1)<list.length - j;omega,[(60,60),(61,65)],rfl,rfl,⟨.inl rfl,.inl rfl,⟨rfl,rfl,rfl,rfl,rfl⟩,.inl rfl,⟨rfl,rfl,rfl,rfl,(show _=(r++[(evP list[j] cols l[i]).1]).map ValueD.c by rw[List.map_append];rfl)⟩,.inl rfl,.inl rfl,.inl rfl,.inl rfl,PLe.int (by simp),PLe.int rfl,trivial⟩,⟨rfl,rfl,rfl⟩,⟨rfl,rfl,rfl⟩,trivial⟩
         ·have hs:=mapX_stop (f:=fun e=>pairX (evP e cols l[i])) qj hr (show pairX (evP list[j] cols l[i])=.error _ from if_neg hx)
          have hs2:=mapX_stop (f:=projR list cols) qi hm hs
          rw[hs2]
          ((conv=>whnf);repeat' ((first|(with_reducible first|apply a_|apply b_|apply c_)|((with_reducible first|apply d_|apply e_|apply f_|apply g_);focus first|omega|(simp only[q_]<;>omega))|((with_reducible first|apply i_|apply h_);focus first|omega|(simp only[q_]<;>omega))|((with_reducible apply h_);focus first|decide|kernel_rfl)|refine s_ (by decide) ?_|refine t_ (by decide) ?_|(refine Idx.mapI (f:=ek) j rfl qj ?_)|refine r_ pv rfl ?_|with_reducible first|apply l_|apply m_|apply n_|apply o_|refine p_ (fun _=>?_) (fun _=>?_))<;>(conv=>whnf)))
          all_goals first|exact Ret.le ⟨.inr ⟨⟨1,rfl⟩,.inl rfl⟩,.inl rfl,rfl⟩ | (exfalso;omega)
        ·have e2:list.take j=list:=List.take_of_length_le (by omega)
         rw[e2] at hr
         have hs:=mapX_step (f:=projR list cols) qi hm hr
         ((conv=>whnf);repeat' ((first|(with_reducible first|apply a_|apply b_|apply c_)|((with_reducible first|apply d_|apply e_|apply f_|apply g_);focus first|omega|(simp only[q_]<;>omega))|((with_reducible first|apply i_|apply h_);focus first|omega|(simp only[q_]<;>omega))|((with_reducible apply h_);focus first|decide|kernel_rfl)|refine s_ (by decide) ?_|refine t_ (by decide) ?_|(refine Need.by 24 rfl (by simp only[List.length_map,List.length_singleton];omega) ?_)|with_reducible first|apply l_|apply m_|apply n_|apply o_|refine p_ (fun _=>?_) (fun _=>?_))<;>(conv=>whnf)))
         all_goals first
          | (exfalso;omega)
          | skip
         refine⟨(i+1,m++[r]),⟨by show i+1≤_;omega,hs⟩,by show l.length - (i+1)<l.length - i;omega,[(60,70)],rfl,rfl,⟨.inl rfl,.inl rfl,⟨rfl,rfl,rfl,rfl,(show _=(m++[r]).map rowC by rw[List.map_append];rfl)⟩,.inl rfl,PLe.int (by simp),PLe.int rfl,trivial⟩,⟨rfl,rfl,rfl⟩,trivial⟩
      ·have e2:l.take i=l:=List.take_of_length_le (by omega)
       rw[e2] at hm
       rw[hm]
       ((conv=>whnf);repeat' ((first|(with_reducible first|apply a_|apply b_|apply c_)|((with_reducible first|apply d_|apply e_|apply f_|apply g_);focus first|omega|(simp only[q_]<;>omega))|((with_reducible first|apply i_|apply h_);focus first|omega|(simp only[q_]<;>omega))|((with_reducible apply h_);focus first|decide|kernel_rfl)|refine s_ (by decide) ?_|refine t_ (by decide) ?_|with_reducible first|apply l_|apply m_|apply n_|apply o_|refine p_ (fun _=>?_) (fun _=>?_))<;>(conv=>whnf)))
       all_goals first|exact Ret.eq rfl | (exfalso;omega)
 ·rw[if_pos h1]
  ((conv=>whnf);repeat' ((first|(with_reducible first|apply a_|apply b_|apply c_)|((with_reducible first|apply d_|apply e_|apply f_|apply g_);focus first|omega|(simp only[q_]<;>omega))|((with_reducible first|apply i_|apply h_);focus first|omega|(simp only[q_]<;>omega))|((with_reducible apply h_);focus first|decide|kernel_rfl)|refine s_ (by decide) ?_|refine t_ (by decide) ?_|refine r_ pc rfl ?_|with_reducible first|apply l_|apply m_|apply n_|apply o_|refine p_ (fun _=>?_) (fun _=>?_))<;>(conv=>whnf)))
  all_goals first|exact Ret.le ⟨.inr ⟨⟨1,rfl⟩,.inl rfl⟩,.inl rfl,rfl⟩ | (exfalso;omega)
end
section
open Go.RowKit K
set_option maxRecDepth 100000
set_option maxRecDepth 100000
end
section
open Go.RowKit K NumP NumW NumRd NumZ NumL
set_option maxRecDepth 100000
end
section
open Go.RowKit K NumP NumW NumRd NumZ NumL
set_option maxRecDepth 100000
end
section
open Go.RowKit K NumP NumW NumRd NumZ NumL
set_option maxRecDepth 100000
end
section
open Go.RowKit K
set_option maxRecDepth 100000
set_option maxRecDepth 100000
theorem rowEqB_iff (a b:RowT):rowEqB a b=true↔a=b:=listEqB_iff ValueD.eqB_iff a b
theorem rowsEqB_iff (a b:List RowT):rowsEqB a b=true↔a=b:=listEqB_iff rowEqB_iff a b
end
section
open Go.RowKit K
set_option maxRecDepth 100000
def litN (v:ValueD):NodeD:=⟨1,0,v,[]⟩
theorem p_nodes (l:List NodeD):Pure Tryz.prog 45 [slV 6 NodeD.c l] (slV 6 NodeD.c l):=by
 refine pure_of Tryz.func45 (by rfl) rfl (by kernel_rfl) (by rfl) ?_
 ((conv=>whnf);repeat' ((first|(with_reducible first|apply a_|apply b_|apply c_)|((with_reducible first|apply d_|apply e_|apply f_|apply g_);focus first|omega|(simp only[q_]<;>omega))|((with_reducible first|apply i_|apply h_);focus first|omega|(simp only[q_]<;>omega))|((with_reducible apply h_);focus first|decide|kernel_rfl)|refine s_ (by decide) ?_|refine t_ (by decide) ?_|with_reducible first|apply l_|apply m_|apply n_|apply o_|refine p_ (fun _=>?_) (fun _=>?_))<;>(conv=>whnf)))
 exact Ret.eq rfl
def colN (s:List UInt8):NodeD:=⟨2,0,noV,s⟩
def opsN (op k:Int):NodeD:=⟨op,k,noV,[]⟩
theorem p_ncol (s:List UInt8):Pure Tryz.prog 46 [pStr (tx s)] (nV (colN s)):=by
 refine pure_of Tryz.func46 (by rfl) rfl (by kernel_rfl) (by rfl) ?_
 ((conv=>whnf);repeat' ((first|(with_reducible first|apply a_|apply b_|apply c_)|((with_reducible first|apply d_|apply e_|apply f_|apply g_);focus first|omega|(simp only[q_]<;>omega))|((with_reducible first|apply i_|apply h_);focus first|omega|(simp only[q_]<;>omega))|((with_reducible apply h_);focus first|decide|kernel_rfl)|refine s_ (by decide) ?_|refine t_ (by decide) ?_|with_reducible first|apply l_|apply m_|apply n_|apply o_|refine p_ (fun _=>?_) (fun _=>?_))<;>(conv=>whnf)))
 exact Ret.eq rfl
theorem p_nlit (v:ValueD):Pure Tryz.prog 47 [vV v] (nV (litN v)):=by
 refine pure_of Tryz.func47 (by rfl) rfl (by kernel_rfl) (by rfl) ?_
 ((conv=>whnf);repeat' ((first|(with_reducible first|apply a_|apply b_|apply c_)|((with_reducible first|apply d_|apply e_|apply f_|apply g_);focus first|omega|(simp only[q_]<;>omega))|((with_reducible first|apply i_|apply h_);focus first|omega|(simp only[q_]<;>omega))|((with_reducible apply h_);focus first|decide|kernel_rfl)|refine s_ (by decide) ?_|refine t_ (by decide) ?_|with_reducible first|apply l_|apply m_|apply n_|apply o_|refine p_ (fun _=>?_) (fun _=>?_))<;>(conv=>whnf)))
 exact Ret.eq rfl
theorem p_nop (op k:Int):Pure Tryz.prog 22 [pInt .i64 op,pInt .i64 k] (nV (opsN op k)):=by
 refine pure_of Tryz.func22 (by rfl) rfl (by kernel_rfl) (by rfl) ?_
 ((conv=>whnf);repeat' ((first|(with_reducible first|apply a_|apply b_|apply c_)|((with_reducible first|apply d_|apply e_|apply f_|apply g_);focus first|omega|(simp only[q_]<;>omega))|((with_reducible first|apply i_|apply h_);focus first|omega|(simp only[q_]<;>omega))|((with_reducible apply h_);focus first|decide|kernel_rfl)|refine s_ (by decide) ?_|refine t_ (by decide) ?_|with_reducible first|apply l_|apply m_|apply n_|apply o_|refine p_ (fun _=>?_) (fun _=>?_))<;>(conv=>whnf)))
 exact Ret.eq rfl
theorem p_vI (n:Int):Pure Tryz.prog 43 [pInt .i64 n] (vV ⟨1,n,[]⟩):=by
 refine pure_of Tryz.func43 (by rfl) rfl (by kernel_rfl) (by rfl) ?_
 ((conv=>whnf);repeat' ((first|(with_reducible first|apply a_|apply b_|apply c_)|((with_reducible first|apply d_|apply e_|apply f_|apply g_);focus first|omega|(simp only[q_]<;>omega))|((with_reducible first|apply i_|apply h_);focus first|omega|(simp only[q_]<;>omega))|((with_reducible apply h_);focus first|decide|kernel_rfl)|refine s_ (by decide) ?_|refine t_ (by decide) ?_|with_reducible first|apply l_|apply m_|apply n_|apply o_|refine p_ (fun _=>?_) (fun _=>?_))<;>(conv=>whnf)))
 exact Ret.eq rfl
theorem p_vT (s:List UInt8):Pure Tryz.prog 44 [pStr (tx s)] (vV ⟨2,0,s⟩):=by
 refine pure_of Tryz.func44 (by rfl) rfl (by kernel_rfl) (by rfl) ?_
 ((conv=>whnf);repeat' ((first|(with_reducible first|apply a_|apply b_|apply c_)|((with_reducible first|apply d_|apply e_|apply f_|apply g_);focus first|omega|(simp only[q_]<;>omega))|((with_reducible first|apply i_|apply h_);focus first|omega|(simp only[q_]<;>omega))|((with_reducible apply h_);focus first|decide|kernel_rfl)|refine s_ (by decide) ?_|refine t_ (by decide) ?_|with_reducible first|apply l_|apply m_|apply n_|apply o_|refine p_ (fun _=>?_) (fun _=>?_))<;>(conv=>whnf)))
 exact Ret.eq rfl
end
section
open Go.RowKit K
set_option maxRecDepth 100000
set_option maxRecDepth 100000
theorem p_brow (l:List ValueD):Pure Tryz.prog 42 [slV 3 ValueD.c l] (slV 3 ValueD.c l):=by
 refine pure_of Tryz.func42 (by rfl) rfl (by kernel_rfl) (by rfl) ?_
 ((conv=>whnf);repeat' ((first|(with_reducible first|apply a_|apply b_|apply c_)|((with_reducible first|apply d_|apply e_|apply f_|apply g_);focus first|omega|(simp only[q_]<;>omega))|((with_reducible first|apply i_|apply h_);focus first|omega|(simp only[q_]<;>omega))|((with_reducible apply h_);focus first|decide|kernel_rfl)|refine s_ (by decide) ?_|refine t_ (by decide) ?_|with_reducible first|apply l_|apply m_|apply n_|apply o_|refine p_ (fun _=>?_) (fun _=>?_))<;>(conv=>whnf)))
 exact Ret.eq rfl
theorem p_brows (l:List RowT):Pure Tryz.prog 41 [rwsV l] (rwsV l):=by
 refine pure_of Tryz.func41 (by rfl) rfl (by kernel_rfl) (by rfl) ?_
 ((conv=>whnf);repeat' ((first|(with_reducible first|apply a_|apply b_|apply c_)|((with_reducible first|apply d_|apply e_|apply f_|apply g_);focus first|omega|(simp only[q_]<;>omega))|((with_reducible first|apply i_|apply h_);focus first|omega|(simp only[q_]<;>omega))|((with_reducible apply h_);focus first|decide|kernel_rfl)|refine s_ (by decide) ?_|refine t_ (by decide) ?_|with_reducible first|apply l_|apply m_|apply n_|apply o_|refine p_ (fun _=>?_) (fun _=>?_))<;>(conv=>whnf)))
 exact Ret.eq rfl
theorem p_brows0 (rows:List (List C)):Pure Tryz.prog 41 [.d (.c (.sl 1 rows))] (.d (.c (.sl 1 rows))):=by
 refine pure_of Tryz.func41 (by rfl) rfl (by kernel_rfl) (by rfl) ?_
 ((conv=>whnf);repeat' ((first|(with_reducible first|apply a_|apply b_|apply c_)|((with_reducible first|apply d_|apply e_|apply f_|apply g_);focus first|omega|(simp only[q_]<;>omega))|((with_reducible first|apply i_|apply h_);focus first|omega|(simp only[q_]<;>omega))|((with_reducible apply h_);focus first|decide|kernel_rfl)|refine s_ (by decide) ?_|refine t_ (by decide) ?_|with_reducible first|apply l_|apply m_|apply n_|apply o_|refine p_ (fun _=>?_) (fun _=>?_))<;>(conv=>whnf)))
 exact Ret.eq rfl
theorem nilrow_pure {P:Program} {f:FuncId} {rows:List (List C)} {res:PV} (h:Pure P f [.d (.c (.sl 1 ([.sl 3 []]::rows)))] res):Pure P f [.d (.c (.sl 1 ([.v (.slice none 0 0)]::rows)))] res:=by
 refine⟨h.1,fun F w vs hG hF hv=>h.2 F w vs hG hF ?_⟩
 cases vs with
 | nil=>unfold PsRep at hv;exact hv.elim
 | cons v vs=>
  unfold PsRep at hv ⊢
  refine⟨?_,hv.2⟩
  have h1:=hv.1
  unfold PRep DRep CRep at h1 ⊢
  obtain⟨a,cap,e,c1,c2,c3,c4⟩:=h1
  refine⟨a,cap,e,c1,c2,c3,.inr ?_⟩
  obtain⟨b,off,e2,c5⟩:=c4.resolve_left (by simp)
  refine⟨b,off,e2,?_⟩
  unfold RowsAt at c5 ⊢
  refine⟨⟨rfl,?_⟩,c5.2⟩
  have c6:=c5.1.2
  unfold CsAt at c6 ⊢
  obtain⟨⟨f1,u,f2,f3⟩,f4⟩:=c6
  refine⟨⟨f1,u,f2,?_⟩,by unfold CsAt;trivial⟩
  unfold CRep at f3 ⊢
  obtain⟨rfl,_⟩:=f3
  exact⟨none,0,rfl,Nat.le_refl _,Nat.zero_le _,fun _=>rfl,.inl rfl⟩
theorem hnode_small {e:List NodeD} (h:∀n∈e,n.Name.length≤10∧WholeP.In64 n.V.N):∀n∈e,hNode n:=fun n hn=>⟨by have:=(h n hn).1;unfold okText;omega,(h n hn).2⟩
def bb:ValueD:=⟨2,0,[98]⟩
def bi (n:Int):ValueD:=⟨1,n,[]⟩
def bR0:RowT:=[bi 2,bb]
def bR1:RowT:=[bi 1,bb]
def bgL:List RowT:=[bR0,bR1,bR0]
def bgC:List (List UInt8):=[[110],[115]]
def bgE:List NodeD:=[colN [110],litN (bi 1),opsN 14 2]
def bgP:List (List NodeD):=[[colN [115]],[colN [110],opsN 3 1]]
def bgA:List AggD:=[⟨2,0⟩,⟨1,-1⟩]
theorem g1:filtF bgL bgC bgE=([bR0,bR0],0):=by rfl
theorem g2:sortF bgL [⟨1,false⟩,⟨0,false⟩]=([bR1,bR0,bR0],0):=by rfl
theorem g3:distF bgL=([bR0,bR1],0):=by rfl
theorem g4:sumF (colF bgL 0)=(bi 5,0):=by rfl
theorem g5:projF [bR0] bgC bgP=([[bb,bi (-2)]],0):=by rfl
theorem g6:joinF2 [bR0] [bR0,bR1]=([bR0++bR0,bR0++bR1],0):=by rfl
theorem g7:limF bgL 1 1=([bR1],0):=by rfl
theorem g8:rowsChk [[],bR0]=1:=by decide +kernel
set_option maxHeartbeats 1000000 in
theorem p_bagbegun:Pure Tryz.prog 18 [] (pBool true):=by
 have hL:∀r∈bgL,∀v∈r,WholeP.In64 v.N:=by decide
 have h0:∀r∈[bR0],∀v∈r,WholeP.In64 v.N:=by decide
 have q1:=p_Filter bgL hL bgC bgE (hnode_small (by decide))
 rw[g1] at q1
 have q2:=p_Sort20 bgL [⟨1,false⟩,⟨0,false⟩] (fun _=>.inr (.inr (by decide)))
 rw[g2] at q2
 have q3:=p_Distinct bgL hL
 rw[g3] at q3
 have t1:=p_tell_sum bgL 0 (by decide) (by decide) (by decide) hL
 rw[g4] at t1
 have t2:=p_tell_count bgL (-1) (by decide)
 have pg:=p_grouping_ok bgL (by decide) [1] bgA (by decide) (by decide) (by rfl) (by decide)
 have q4:=p_Group1 bgL 1 bb bgA [bi 5,bi 3] (by decide) (by rfl) (fun r hr=>by
  have:r=bR0∨r=bR1:=by
   rcases List.mem_cons.1 hr with h | hr
   ·exact .inl h
   ·rcases List.mem_cons.1 hr with h | hr
    ·exact .inr h
    ·exact .inl (List.mem_singleton.1 hr)
  rcases this with rfl | rfl<;>exact⟨by decide,rfl⟩) pg (by decide) rfl (fun k h h2=>by
  have:k=0∨k=1:=by have:k<2:=h;omega
  rcases this with rfl | rfl
  ·exact t1
  ·exact t2)
 have q5:=p_Project [bR0] h0 bgC bgP (fun e he=>by
  have:e=[colN [115]]∨e=[colN [110],opsN 3 1]:=by simpa [bgP] using he
  rcases this with rfl | rfl<;>exact hnode_small (by decide))
 rw[g5] at q5
 have q6:=s_Join [bR0] [bR0,bR1]
 rw[g6] at q6
 have q7:=p_Limit bgL 1 1
 rw[g7] at q7
 have q8:=p_bagcheck [[],bR0]
 rw[g8] at q8
 have q8:=nilrow_pure (rows:=[rowC bR0]) q8
 have cn:Pure _ _ [pStr ⟨#[110]⟩] _:=p_ncol [110]
 have cs:Pure _ _ [pStr ⟨#[115]⟩] _:=p_ncol [115]
 have vt:Pure _ _ [pStr ⟨#[98]⟩] _:=p_vT [98]
 have i2:=p_vI 2
 have i1:=p_vI 1
 have i5:=p_vI 5
 have i3:=p_vI 3
 have im:=p_vI (-2)
 have nl:=p_nlit (bi 1)
 have n1:=p_nop 14 2
 have n2:=p_nop 3 1
 have e1:=p_nodes bgE
 have e2:=p_nodes [colN [115]]
 have e3:=p_nodes [colN [110],opsN 3 1]
 have r0:=p_brow bR0
 have r1:=p_brow bR1
 have r2:=p_brow [bb,bi 5,bi 3]
 have r3:=p_brow [bb,bi (-2)]
 have w0:=p_brows bgL
 have w1:=p_brows [bR0,bR0]
 have w2:=p_brows [bR1,bR0,bR0]
 have w3:=p_brows [[bb,bi 5,bi 3]]
 have w4:=p_brows [[bb,bi (-2)]]
 have w5:=p_brows0 [[.v (.slice none 0 0)],rowC bR0]
 have s1:=p_samerows [bR0,bR0] [bR0,bR0] (by decide) (by decide)
 have s2:=p_samerows [bR1,bR0,bR0] [bR1,bR0,bR0] (by decide) (by decide)
 have s3:=p_samerows [bR0,bR1] [bR0,bR1] (by decide) (by decide)
 have s4:=p_samerows [[bb,bi 5,bi 3]] [[bb,bi 5,bi 3]] (by decide) (by decide)
 have s5:=p_samerows [[bb,bi (-2)]] [[bb,bi (-2)]] (by decide) (by decide)
 have s6:=p_samerows [bR1] [bR1] (by decide) (by decide)
 rw[(rowsEqB_iff _ _).2 rfl] at s1 s2 s3 s4 s5 s6
 refine pure_of Tryz.func18 (by rfl) rfl (by kernel_rfl) (by rfl) ?_
 ((conv=>whnf);repeat' ((first|(with_reducible first|apply a_|apply b_|apply c_)|((with_reducible first|apply d_|apply e_|apply f_|apply g_);focus first|omega|(simp only[q_]<;>omega))|((with_reducible first|apply i_|apply h_);focus first|omega|(simp only[q_]<;>omega))|((with_reducible apply h_);focus first|decide|kernel_rfl)|refine s_ (by decide) ?_|refine t_ (by decide) ?_|refine r_ vt rfl ?_|refine r_ i2 rfl ?_|refine r_ i1 rfl ?_|refine r_ i5 rfl ?_|refine r_ i3 rfl ?_|refine r_ im rfl ?_|refine r_ r0 rfl ?_|refine r_ r1 rfl ?_|refine r_ r2 rfl ?_|refine r_ r3 rfl ?_|refine r_ w0 rfl ?_|refine r_ w1 rfl ?_|refine r_ w2 rfl ?_|refine r_ w3 rfl ?_|refine r_ w4 rfl ?_|refine r_ w5 rfl ?_|refine r_ cn rfl ?_|refine r_ cs rfl ?_|refine r_ nl rfl ?_|refine r_ n1 rfl ?_|refine r_ n2 rfl ?_|refine r_ e1 rfl ?_|refine r_ e2 rfl ?_|refine r_ e3 rfl ?_|refine r_ q1 rfl ?_|refine r_ q2 rfl ?_|refine r_ q3 rfl ?_|refine r_ q4 rfl ?_|refine r_ q5 rfl ?_|(refine CallP.ret [(NK,86)] _ _ _ _ _ _ _ q6 rfl rfl rfl rfl trivial ?_)|refine r_ q7 rfl ?_|refine r_ q8 rfl ?_|refine r_ s1 rfl ?_|refine r_ s2 rfl ?_|refine r_ s3 rfl ?_|refine r_ s4 rfl ?_|refine r_ s5 rfl ?_|refine r_ s6 rfl ?_|(refine Idx.mk _ (by decide) rfl ?_)|with_reducible first|apply l_|apply m_|apply n_|apply o_|refine p_ (fun _=>?_) (fun _=>?_))<;>(conv=>whnf)))
 all_goals first
  | exact Ret.eq rfl
  | exact Ret.bool (by decide +kernel)
  | trace_state
end
section
open Go.RowKit K
set_option maxRecDepth 100000
set_option maxRecDepth 100000
theorem CallS.pure {P:Program} {f:FuncId} {args:List PV} {res r:PV} {out:Rf} (h:CallS P f args [] [] res out) (hcl:PV.closeH (hpL out) res fun y=>y=r):Pure P f args r:=by
 refine⟨h.1,fun F w vs hG hF hargs=>?_⟩
 obtain⟨c,hcdef⟩:∃c:Ctx,c=⟨w,F,fun _=>False,fun _ _=>False,fun _=>none,[]⟩:=⟨_,rfl⟩
 have hn0:c.n0=w.heap.size:=by rw[hcdef]
 have hF0:c.F0=F:=by rw[hcdef]
 have hF1:c.F1=fun _ _=>False:=by rw[hcdef]
 have hσ0:c.σ0=fun _=>none:=by rw[hcdef]
 have hw0:c.w0=w:=by rw[hcdef]
 have hdf:c.df=[]:=by rw[hcdef]
 have hext:∀b,¬c.ext b:=by intro b;rw[hcdef];exact id
 have hc:c.Ok:=⟨fun b o h=>⟨by rw[hn0];exact hF b o (by rw[← hF0];exact h),hext b⟩,by rw[hw0];exact hG,fun b _=>hext b⟩
 have hfz:∀b o,F b o→fz c (fun _=>none) (hpL ([]++[])) w b o:=fun b o h=>.inl ⟨by rw[hn0];exact hF b o h,by rw[hF0];exact h⟩
 have hsw:SW c c.σ0 (hpL ([]++[])) c.w0:=by
  refine⟨rfl,rfl,rfl,Nat.le_refl _,fun b _ _=>rfl,(fun k hb hk=>by cases hk),fun k k' g n n' hk=>absurd rfl hk,?_,Shape.refl _,fun k x hk=>hk⟩
  rw[hF1];exact⟨fun _ _ h=>h.elim,fun _ _ h=>h.elim⟩
 have:=h.2 c vs hc hdf (fun k _=>by rw[hσ0]) hsw (by rw[hσ0,hw0];exact PsRep.of_none ⟨hfz,fun _ _ _=>rfl⟩ _ _ hargs)
 rw[hw0] at this
 refine this.mono ?_
 rintro e w' ⟨v,σ',rfl,hs',hp⟩
 rw[List.nil_append] at hs' hp
 have hbel:Below w.heap.size w w':=⟨by rw[hs'.os,hw0],by rw[hs'.tape,hw0],by rw[hs'.output,hw0],by have:=hs'.size;rw[hn0] at this;exact this,fun k hk=>by
  rw[hs'.block k (by rw[hn0];exact hk) (hext k),hw0]⟩
 have hkeep:Keeps (fz c σ' (hpL out) w') (fun b o=>F b o∨(w.heap.size≤b∧b<w'.heap.size)) w' w':=by
  refine⟨fun b o hq=>?_,fun _ _ _=>rfl⟩
  rcases hq with ⟨q1,q2⟩ | ⟨q1,q2,_⟩
  ·rw[hF0] at q2;exact .inl q2
  ·rcases q1 with q1 | q1
   ·rw[hn0] at q1;exact .inr ⟨q1,q2⟩
   ·exact absurd q1 (hext b)
 obtain⟨y,rfl,h4⟩:=pcloseH_out hs' hkeep (fun b o hown hlt=>by
  rcases hown with q | q
  ·rw[hn0] at q;exact .inr ⟨q,hlt⟩
  ·exact absurd q (hext b)) hcl
 exact⟨v,rfl,hbel,h4 v hp⟩
abbrev okRws (l:List RowT):Prop:=okSl (Tryz.prog.bytesOf 49) (okSl (Tryz.prog.bytesOf 33) ValueD.ok) l
theorem okRws_in {l:List RowT} (h:okRws l):∀r∈l,∀v∈r,WholeP.In64 v.N:=fun r hr v hv=>((h.2 r hr).2 v hv).2.1
theorem okRws_row {l:List RowT} (h:okRws l):∀r∈l,r.length≤140737488355328:=fun r hr=>by
 have h1:=(h.2 r hr).1
 rw[show Tryz.prog.bytesOf 33=32 by kernel_rfl] at h1
 omega
theorem okRws_len {l:List RowT} (h:okRws l):l.length≤140737488355328:=by
 have h1:=h.1
 rw[show Tryz.prog.bytesOf 49=24 by kernel_rfl] at h1
 omega
theorem samerows_refl (a:List RowT) (hla:a.length≤140737488355328) (ha:∀r∈a,r.length≤140737488355328):Pure Tryz.prog 21 [rwsV a,rwsV a] (pBool true):=by
 have:=p_samerows a a hla ha
 rwa [(rowsEqB_iff a a).2 rfl] at this
theorem same_small {a:List RowT} (h:a.length≤40∧∀r∈a,r.length≤16):Pure Tryz.prog 21 [rwsV a,rwsV a] (pBool true):=samerows_refl a (by omega) fun r hr=>by have:=h.2 r hr;omega
end
section
open Go.RowKit LikeP
end
section
open Go.RowKit LikeP
def encB (b:Bool):List C:=[.v (.bool b)]
abbrev tBool:Nat:=4
abbrev rowD (k:Nat) (r:List Bool):PV:=.d (.app k tBool 1 (r.map encB))
theorem row_more {f:Nat→Bool} {m k:Nat} (hk:k<m) {b:Bool} (hb:f k=b):(((List.range m).map f).take k).map encB++[[.v (.bool b)]]=(((List.range m).map f).take (k+1)).map encB:=by
 rw[take_range f m k hk,List.map_append,hb];rfl
theorem row_len {f:Nat→Bool} {m k:Nat} (hk:k≤m):((((List.range m).map f).take k).map encB).length=k:=by simp;omega
set_option maxRecDepth 100000 in
theorem p_matchof (p s:ByteArray) (hp:patE p=0) (hs:s.size≤16):Pure Tryz.prog 129 [pStr p,pStr s] (pBool (matB p s)):=by
 obtain⟨hpz,hop⟩:=patE_ok hp
 have hPl:=pcs_length p
 have hTl:=pcs_length s
 have hE:matE p s=0:=by unfold matE;rw[if_neg (by omega),if_neg (by omega)]
 have hfin:∀{b:Bool},(b=true↔glob (pat p) (pcs s))→matB p s=b:=fun {b} h=>by
  rw[Bool.eq_iff_iff,matB_iff,h];simp[hE]
 obtain⟨P,hP⟩:∃P,P=pcs p:=⟨_,rfl⟩
 obtain⟨T,hT⟩:∃T,T=pcs s:=⟨_,rfl⟩
 have hPL:P.length≤32:=by rw[hP];omega
 have hTL:T.length≤16:=by rw[hT];omega
 have hPp:pat p=partsE false P:=by rw[hP];rfl
 have hopP:openE false P=false:=by rw[hP];exact hop
 clear hPl hTl
 refine pure_of Tryz.func129 (by rfl) rfl (by kernel_rfl) (by rfl) ?_
 ((conv=>whnf);repeat ((with_reducible first|refine BCase.tt ?_|refine BCase.ff ?_);(conv=>whnf)))
 refine CallP.pure _ rfl _ (p_piecesof p (by omega)) ?_
 ((conv=>whnf);repeat ((with_reducible first|refine BCase.tt ?_|refine BCase.ff ?_);(conv=>whnf)))
 refine CallP.pure _ rfl _ (p_piecesof s (by omega)) ?_
 ((conv=>whnf);repeat ((with_reducible first|refine BCase.tt ?_|refine BCase.ff ?_);(conv=>whnf)))
 rw[← hP,← hT]
 refine LoopC.mk Nat (fun k=>[(5,texts P),(6,texts T),(7,rowD 7 ((row0 T.length).take k)),(8,pInt .i64 k)]) (fun _=>[(7,.tail tBool 1)]) [7] (fun k=>k≤T.length+1) (fun k=>T.length+1 - k) 0 (Nat.zero_le _) ?start ?round
 case start=>exact⟨[],rfl,rfl,⟨.inl rfl,.inl rfl,⟨rfl,rfl,by decide,rfl,rfl⟩,.inl rfl,trivial⟩,⟨rfl,Nat.zero_lt_one⟩,trivial⟩
 case round=>
  intro k hk
  ((conv=>whnf);repeat ((with_reducible first|refine BCase.tt ?_|refine BCase.ff ?_);(conv=>whnf)))
  rw[List.length_map]
  refine BCase.d (fun h=>?_) (fun h=>?_)
  ·have hln:(((row0 T.length).take k).map encB).length=k:=by unfold row0;simp;omega
   have hnx:(row0 T.length).take (k+1)=(row0 T.length).take k++[decide (k=0)]:=take_range _ _ _ (by omega)
   ((conv=>whnf);repeat ((with_reducible first|refine BCase.tt ?_|refine BCase.ff ?_);(conv=>whnf)))
   refine Need.mk (by show (_+1)*1≤_;omega) ?_
   ((conv=>whnf);repeat ((with_reducible first|refine BCase.tt ?_|refine BCase.ff ?_);(conv=>whnf)))
   refine Wr.i64 (by omega) (by omega) ?_
   ((conv=>whnf);repeat ((with_reducible first|refine BCase.tt ?_|refine BCase.ff ?_);(conv=>whnf)))
   refine⟨k+1,by omega,by omega,[(7,29)],rfl,rfl,⟨.inl rfl,.inl rfl,⟨rfl,rfl,rfl,rfl,?_⟩,PLe.int (by omega),trivial⟩,⟨rfl,rfl,rfl⟩,trivial⟩
   rw[hnx,List.map_append]
   have:decide ((k:Int)=0)=decide (k=0):=by rw[Bool.eq_iff_iff];simp
   rw[this];rfl
  ·have hk0:(row0 T.length).take k=row0 T.length:=List.take_of_length_le (by unfold row0;simp;omega)
   ((conv=>whnf);repeat ((with_reducible first|refine BCase.tt ?_|refine BCase.ff ?_);(conv=>whnf)))
   rw[hk0]
   refine LoopC.mk (Nat×List Bool) (fun q=>[(5,texts P),(6,texts T),(7,rowD 7 q.2),(9,pInt .i64 q.1)]) (fun _=>[(7,.tail tBool 1)]) [7]
    (fun q=>q.1≤P.length∧openE false (P.take q.1)=false∧q.2.length=T.length+1∧LikeP.Row (pat p) T (partsE false (P.take q.1)).length (rowP q.2)) (fun q=>P.length - q.1) (0,row0 T.length) ⟨Nat.zero_le _,rfl,by unfold row0;simp,row_start _ _⟩ ?start2 ?round2
   case start2=>exact⟨[(7,7)],rfl,rfl,⟨.inl rfl,.inl rfl,⟨rfl,rfl,rfl,rfl,rfl⟩,.inl rfl,trivial⟩,⟨rfl,rfl,rfl⟩,trivial⟩
   case round2=>
    rintro⟨i,r⟩ ⟨hi,ho,hrl,hrow⟩
    dsimp only at hi ho hrl hrow ⊢
    ((conv=>whnf);repeat ((with_reducible first|refine BCase.tt ?_|refine BCase.ff ?_);(conv=>whnf)))
    rw[List.length_map]
    refine BCase.d (fun h=>?_) (fun h=>?_)
    ·((conv=>whnf);repeat ((with_reducible first|refine BCase.tt ?_|refine BCase.ff ?_);(conv=>whnf)))
     refine Idx.map (by omega) ?_
     ((conv=>whnf);repeat ((with_reducible first|refine BCase.tt ?_|refine BCase.ff ?_);(conv=>whnf)))
     refine Idx.map (by omega) ?_
     ((conv=>whnf);repeat ((with_reducible first|refine BCase.tt ?_|refine BCase.ff ?_);(conv=>whnf)))
     refine Idx.map (by omega) ?_
     ((conv=>whnf);repeat ((with_reducible first|refine BCase.tt ?_|refine BCase.ff ?_);(conv=>whnf)))
     refine Idx.map (by omega) ?_
     ((conv=>whnf);repeat ((with_reducible first|refine BCase.tt ?_|refine BCase.ff ?_);(conv=>whnf)))
     refine BCase.d (fun hb=>?_) (fun hb=>?_)
     ·obtain⟨h5,h6,h7,h8⟩:=step_bs hopP ho (by omega) hb
      ((conv=>whnf);repeat ((with_reducible first|refine BCase.tt ?_|refine BCase.ff ?_);(conv=>whnf)))
      refine Wr.i64 (by omega) (by omega) ?_
      ((conv=>whnf);repeat ((with_reducible first|refine BCase.tt ?_|refine BCase.ff ?_);(conv=>whnf)))
      refine Idx.mapI (i+1) (by omega) h5 ?_
      ((conv=>whnf);repeat ((with_reducible first|refine BCase.tt ?_|refine BCase.ff ?_);(conv=>whnf)))
      obtain⟨any,hany⟩:∃b:Bool,b=decide (P[i]=percent):=⟨_,rfl⟩
      obtain⟨one,hone⟩:∃b:Bool,b=decide (P[i]=underscore):=⟨_,rfl⟩
      obtain⟨y,hy⟩:∃y,y=P[i+1]:=⟨_,rfl⟩
      have hf1:any=false:=by rw[hany,hb];decide
      have hf2:one=false:=by rw[hone,hb];decide
      obtain⟨nx,hnx⟩:∃f:Nat→Bool,f=fun k=>if any=true then nxA r k else nxO r T one y k:=⟨_,rfl⟩
      refine LoopC.mk Nat (fun k=>[(5,texts P),(6,texts T),(7,rowD 7 r),(9,pInt .i64 (i+1:Nat)),(10,pStr y),(11,pBool any),(12,pBool one),(13,rowD 13 (((List.range (T.length+1)).map nx).take k)),(14,pInt .i64 k)]) (fun _=>[(7,.tail tBool 1),(13,.tail tBool 1)]) [7,13] (fun k=>k≤T.length+1) (fun k=>T.length+1 - k) 0 (Nat.zero_le _) ?si1 ?ri1
      case si1=>exact⟨[(7,7)],rfl,rfl,⟨.inl rfl,.inl rfl,⟨rfl,rfl,rfl,rfl,rfl⟩,PLe.int (by omega),PLe.c (by rw[hy]),PLe.c (by rw[hany];rfl),PLe.c (by rw[hone];rfl),⟨rfl,rfl,Nat.zero_lt_one,rfl,rfl⟩,.inl rfl,trivial⟩,⟨rfl,rfl,rfl⟩,⟨rfl,Nat.zero_lt_one⟩,trivial⟩
      case ri1=>
       intro k hk
       ((conv=>whnf);repeat ((with_reducible first|refine BCase.tt ?_|refine BCase.ff ?_);(conv=>whnf)))
       rw[List.length_map]
       refine BCase.d (fun h2=>?_) (fun h2=>?_)
       ·have hln:((((List.range (T.length+1)).map nx).take k).map encB).length=k:=row_len (by omega)
        ((conv=>whnf);repeat ((with_reducible first|refine BCase.tt ?_|refine BCase.ff ?_);(conv=>whnf)))
        refine BCase.mk (fun ha=>?_) (fun ha=>?_)
        ·have hnx:nx=nxA r:=by rw[hnx];funext j;rw[if_pos ha]
         ((conv=>whnf);repeat ((with_reducible first|refine BCase.tt ?_|refine BCase.ff ?_);(conv=>whnf)))
         refine Idx.map (by omega) ?_
         ((conv=>whnf);repeat ((with_reducible first|refine BCase.tt ?_|refine BCase.ff ?_);(conv=>whnf)))
         refine BCase.mk (fun hr=>?_) (fun hr=>?_)
         ·have hv:nx k=true:=by rw[hnx,nxA_iff];exact⟨k,Nat.le_refl _,by unfold rowP;rw[List.getElem?_eq_getElem (by omega),hr]⟩
          ((conv=>whnf);repeat ((with_reducible first|refine BCase.tt ?_|refine BCase.ff ?_);(conv=>whnf)))
          refine Need.mk (by show (_+1)*1≤_;rw[hln];omega) ?_
          ((conv=>whnf);repeat ((with_reducible first|refine BCase.tt ?_|refine BCase.ff ?_);(conv=>whnf)))
          refine Wr.i64 (by omega) (by omega) ?_
          ((conv=>whnf);repeat ((with_reducible first|refine BCase.tt ?_|refine BCase.ff ?_);(conv=>whnf)))
          exact⟨k+1,by omega,by omega,[(7,7),(13,83)],rfl,rfl,⟨.inl rfl,.inl rfl,⟨rfl,rfl,rfl,rfl,rfl⟩,.inl rfl,.inl rfl,.inl rfl,.inl rfl,⟨rfl,rfl,rfl,rfl,row_more (by omega) (hv)⟩,PLe.int (by omega),trivial⟩,⟨rfl,rfl,rfl⟩,⟨rfl,rfl,rfl⟩,trivial⟩
         ·((conv=>whnf);repeat ((with_reducible first|refine BCase.tt ?_|refine BCase.ff ?_);(conv=>whnf)))
          refine BCase.d (fun h3=>?_) (fun h3=>?_)
          ·obtain⟨j,rfl⟩:∃j,k=j+1:=⟨k - 1,by omega⟩
           have hv:nx (j+1)=nx j:=by rw[hnx,nxA_succ r j (by omega),hr];rfl
           ((conv=>whnf);repeat ((with_reducible first|refine BCase.tt ?_|refine BCase.ff ?_);(conv=>whnf)))
           refine Wr.i64 (by omega) (by omega) ?_
           ((conv=>whnf);repeat ((with_reducible first|refine BCase.tt ?_|refine BCase.ff ?_);(conv=>whnf)))
           refine Idx.mapI j (by omega) (by simp;omega) ?_
           rw[show (((List.range (T.length+1)).map nx).take (j+1))[j]'(by simp;omega)=nx j by simp]
           ((conv=>whnf);repeat ((with_reducible first|refine BCase.tt ?_|refine BCase.ff ?_);(conv=>whnf)))
           refine Need.mk (by show (_+1)*1≤_;rw[hln];omega) ?_
           ((conv=>whnf);repeat ((with_reducible first|refine BCase.tt ?_|refine BCase.ff ?_);(conv=>whnf)))
           refine Wr.i64 (by omega) (by omega) ?_
           ((conv=>whnf);repeat ((with_reducible first|refine BCase.tt ?_|refine BCase.ff ?_);(conv=>whnf)))
           exact⟨j+1+1,by omega,by omega,[(7,7),(13,83)],rfl,rfl,⟨.inl rfl,.inl rfl,⟨rfl,rfl,rfl,rfl,rfl⟩,.inl rfl,.inl rfl,.inl rfl,.inl rfl,⟨rfl,rfl,rfl,rfl,row_more (by omega) (hv)⟩,PLe.int (by omega),trivial⟩,⟨rfl,rfl,rfl⟩,⟨rfl,rfl,rfl⟩,trivial⟩
          ·obtain rfl:k=0:=by omega
           have hv:nx 0=false:=by rw[hnx,nxA_zero r (by omega),hr]
           ((conv=>whnf);repeat ((with_reducible first|refine BCase.tt ?_|refine BCase.ff ?_);(conv=>whnf)))
           refine Need.mk (by show (_+1)*1≤_;rw[hln];omega) ?_
           ((conv=>whnf);repeat ((with_reducible first|refine BCase.tt ?_|refine BCase.ff ?_);(conv=>whnf)))
           refine Wr.i64 (by omega) (by omega) ?_
           ((conv=>whnf);repeat ((with_reducible first|refine BCase.tt ?_|refine BCase.ff ?_);(conv=>whnf)))
           exact⟨0+1,by omega,by omega,[(7,7),(13,83)],rfl,rfl,⟨.inl rfl,.inl rfl,⟨rfl,rfl,rfl,rfl,rfl⟩,.inl rfl,.inl rfl,.inl rfl,.inl rfl,⟨rfl,rfl,rfl,rfl,row_more (by omega) (hv)⟩,PLe.int (by omega),trivial⟩,⟨rfl,rfl,rfl⟩,⟨rfl,rfl,rfl⟩,trivial⟩
        ·have hnx:nx=nxO r T one y:=by rw[hnx];funext j;rw[if_neg (by rw[ha];decide)]
         ((conv=>whnf);repeat ((with_reducible first|refine BCase.tt ?_|refine BCase.ff ?_);(conv=>whnf)))
         refine BCase.d (fun h3=>?_) (fun h3=>?_)
         ·obtain⟨j,rfl⟩:∃j,k=j+1:=⟨k - 1,by omega⟩
          have hq:nx (j+1)=(r.getD j false&&(one||decide (T.getD j ByteArray.empty=y))):=by rw[hnx];rfl
          rw[List.getD_eq_getElem?_getD,List.getD_eq_getElem?_getD,List.getElem?_eq_getElem (by omega),List.getElem?_eq_getElem (by omega)] at hq
          ((conv=>whnf);repeat ((with_reducible first|refine BCase.tt ?_|refine BCase.ff ?_);(conv=>whnf)))
          refine Wr.i64 (by omega) (by omega) ?_
          ((conv=>whnf);repeat ((with_reducible first|refine BCase.tt ?_|refine BCase.ff ?_);(conv=>whnf)))
          refine Idx.mapI j (by omega) (by omega) ?_
          ((conv=>whnf);repeat ((with_reducible first|refine BCase.tt ?_|refine BCase.ff ?_);(conv=>whnf)))
          refine BCase.mk (fun hr=>?_) (fun hr=>?_)
          ·((conv=>whnf);repeat ((with_reducible first|refine BCase.tt ?_|refine BCase.ff ?_);(conv=>whnf)))
           refine BCase.mk (fun h1=>?_) (fun h1=>?_)
           ·have hv:nx (j+1)=true:=by rw[hq,Option.getD_some,hr,h1];rfl
            ((conv=>whnf);repeat ((with_reducible first|refine BCase.tt ?_|refine BCase.ff ?_);(conv=>whnf)))
            refine Need.mk (by show (_+1)*1≤_;rw[hln];omega) ?_
            ((conv=>whnf);repeat ((with_reducible first|refine BCase.tt ?_|refine BCase.ff ?_);(conv=>whnf)))
            refine Wr.i64 (by omega) (by omega) ?_
            ((conv=>whnf);repeat ((with_reducible first|refine BCase.tt ?_|refine BCase.ff ?_);(conv=>whnf)))
            exact⟨j+1+1,by omega,by omega,[(7,7),(13,107)],rfl,rfl,⟨.inl rfl,.inl rfl,⟨rfl,rfl,rfl,rfl,rfl⟩,.inl rfl,.inl rfl,.inl rfl,.inl rfl,⟨rfl,rfl,rfl,rfl,row_more (by omega) (hv)⟩,PLe.int (by omega),trivial⟩,⟨rfl,rfl,rfl⟩,⟨rfl,rfl,rfl⟩,trivial⟩
           ·have hv:nx (j+1)=decide (T[j]=y):=by rw[hq,Option.getD_some,Option.getD_some,hr,h1];rfl
            ((conv=>whnf);repeat ((with_reducible first|refine BCase.tt ?_|refine BCase.ff ?_);(conv=>whnf)))
            refine Wr.i64 (by omega) (by omega) ?_
            ((conv=>whnf);repeat ((with_reducible first|refine BCase.tt ?_|refine BCase.ff ?_);(conv=>whnf)))
            refine Idx.mapI j (by omega) (by omega) ?_
            ((conv=>whnf);repeat ((with_reducible first|refine BCase.tt ?_|refine BCase.ff ?_);(conv=>whnf)))
            refine Need.mk (by show (_+1)*1≤_;rw[hln];omega) ?_
            ((conv=>whnf);repeat ((with_reducible first|refine BCase.tt ?_|refine BCase.ff ?_);(conv=>whnf)))
            refine Wr.i64 (by omega) (by omega) ?_
            ((conv=>whnf);repeat ((with_reducible first|refine BCase.tt ?_|refine BCase.ff ?_);(conv=>whnf)))
            exact⟨j+1+1,by omega,by omega,[(7,7),(13,107)],rfl,rfl,⟨.inl rfl,.inl rfl,⟨rfl,rfl,rfl,rfl,rfl⟩,.inl rfl,.inl rfl,.inl rfl,.inl rfl,⟨rfl,rfl,rfl,rfl,row_more (by omega) (hv)⟩,PLe.int (by omega),trivial⟩,⟨rfl,rfl,rfl⟩,⟨rfl,rfl,rfl⟩,trivial⟩
          ·have hv:nx (j+1)=false:=by rw[hq,Option.getD_some,hr];rfl
           ((conv=>whnf);repeat ((with_reducible first|refine BCase.tt ?_|refine BCase.ff ?_);(conv=>whnf)))
           refine Need.mk (by show (_+1)*1≤_;rw[hln];omega) ?_
           ((conv=>whnf);repeat ((with_reducible first|refine BCase.tt ?_|refine BCase.ff ?_);(conv=>whnf)))
           refine Wr.i64 (by omega) (by omega) ?_
           ((conv=>whnf);repeat ((with_reducible first|refine BCase.tt ?_|refine BCase.ff ?_);(conv=>whnf)))
           exact⟨j+1+1,by omega,by omega,[(7,7),(13,107)],rfl,rfl,⟨.inl rfl,.inl rfl,⟨rfl,rfl,rfl,rfl,rfl⟩,.inl rfl,.inl rfl,.inl rfl,.inl rfl,⟨rfl,rfl,rfl,rfl,row_more (by omega) (hv)⟩,PLe.int (by omega),trivial⟩,⟨rfl,rfl,rfl⟩,⟨rfl,rfl,rfl⟩,trivial⟩
         ·obtain rfl:k=0:=by omega
          have hv:nx 0=false:=by rw[hnx];rfl
          ((conv=>whnf);repeat ((with_reducible first|refine BCase.tt ?_|refine BCase.ff ?_);(conv=>whnf)))
          refine Need.mk (by show (_+1)*1≤_;rw[hln];omega) ?_
          ((conv=>whnf);repeat ((with_reducible first|refine BCase.tt ?_|refine BCase.ff ?_);(conv=>whnf)))
          refine Wr.i64 (by omega) (by omega) ?_
          ((conv=>whnf);repeat ((with_reducible first|refine BCase.tt ?_|refine BCase.ff ?_);(conv=>whnf)))
          exact⟨0+1,by omega,by omega,[(7,7),(13,107)],rfl,rfl,⟨.inl rfl,.inl rfl,⟨rfl,rfl,rfl,rfl,rfl⟩,.inl rfl,.inl rfl,.inl rfl,.inl rfl,⟨rfl,rfl,rfl,rfl,row_more (by omega) (hv)⟩,PLe.int (by omega),trivial⟩,⟨rfl,rfl,rfl⟩,⟨rfl,rfl,rfl⟩,trivial⟩
       ·have hfull:((List.range (T.length+1)).map nx).take k=(List.range (T.length+1)).map nx:=List.take_of_length_le (by simp;omega)
        ((conv=>whnf);repeat ((with_reducible first|refine BCase.tt ?_|refine BCase.ff ?_);(conv=>whnf)))
        rw[hfull]
        refine Wr.i64 (by omega) (by omega) ?_
        ((conv=>whnf);repeat ((with_reducible first|refine BCase.tt ?_|refine BCase.ff ?_);(conv=>whnf)))
        exact⟨((i+1:Nat)+1,(List.range (T.length+1)).map nx),⟨by show i+1+1≤_;omega,h7,by simp,by show LikeP.Row _ _ _ _;rw[h8,hnx,hf1,hf2];exact row_one hrow (by rw[hPp];exact h6) false y (by rw[hy];exact stands_esc _) (by show (0:Int)≠37;decide)⟩,by omega,[(7,13)],rfl,rfl,⟨.inl rfl,.inl rfl,⟨rfl,rfl,rfl,rfl,rfl⟩,PLe.int (by show _=_;omega),trivial⟩,⟨rfl,rfl,rfl⟩,trivial⟩
     ·obtain⟨any,hany⟩:∃b:Bool,b=decide (P[i]=percent):=⟨_,rfl⟩
      obtain⟨one,hone⟩:∃b:Bool,b=decide (P[i]=underscore):=⟨_,rfl⟩
      obtain⟨y,hy⟩:∃y,y=P[i]:=⟨_,rfl⟩
      have hstep:∀nx:Nat→Bool,(nx=fun k=>if any=true then nxA r k else nxO r T one y k)→openE false (P.take (i+1))=false∧LikeP.Row (pat p) T (partsE false (P.take (i+1))).length (rowP ((List.range (T.length+1)).map nx)):=by
       intro nx hnx
       by_cases c1:P[i]=percent
       ·obtain⟨h6,h7,h8⟩:=step_one ho (by omega) hb (37,⟨#[]⟩) (part_any c1)
        refine⟨h7,?_⟩
        rw[h8,hnx,show any=true by rw[hany];exact decide_eq_true c1]
        exact row_any hrow (by rw[hPp];exact h6) rfl
       ·rw[hnx,show any=false by rw[hany];exact decide_eq_false c1]
        by_cases c2:P[i]=underscore
        ·obtain⟨h6,h7,h8⟩:=step_one ho (by omega) hb (95,⟨#[]⟩) (part_one c2)
         refine⟨h7,?_⟩
         rw[h8,show one=true by rw[hone];exact decide_eq_true c2]
         exact row_one hrow (by rw[hPp];exact h6) true y (stands_under _ _) (by show (95:Int)≠37;decide)
        ·obtain⟨h6,h7,h8⟩:=step_one ho (by omega) hb (0,P[i]) (part_self hb c1 c2)
         refine⟨h7,?_⟩
         rw[h8,show one=false by rw[hone];exact decide_eq_false c2]
         exact row_one hrow (by rw[hPp];exact h6) false y (by rw[hy];exact stands_esc _) (by show (0:Int)≠37;decide)
      ((conv=>whnf);repeat ((with_reducible first|refine BCase.tt ?_|refine BCase.ff ?_);(conv=>whnf)))
      obtain⟨nx,hnx⟩:∃f:Nat→Bool,f=fun k=>if any=true then nxA r k else nxO r T one y k:=⟨_,rfl⟩
      refine LoopC.mk Nat (fun k=>[(5,texts P),(6,texts T),(7,rowD 7 r),(9,pInt .i64 i),(10,pStr y),(11,pBool any),(12,pBool one),(13,rowD 13 (((List.range (T.length+1)).map nx).take k)),(14,pInt .i64 k)]) (fun _=>[(7,.tail tBool 1),(13,.tail tBool 1)]) [7,13] (fun k=>k≤T.length+1) (fun k=>T.length+1 - k) 0 (Nat.zero_le _) ?si2 ?ri2
      case si2=>exact⟨[(7,7)],rfl,rfl,⟨.inl rfl,.inl rfl,⟨rfl,rfl,rfl,rfl,rfl⟩,.inl rfl,PLe.c (by rw[hy]),PLe.c (by rw[hany];rfl),PLe.c (by rw[hone];rfl),⟨rfl,rfl,Nat.zero_lt_one,rfl,rfl⟩,.inl rfl,trivial⟩,⟨rfl,rfl,rfl⟩,⟨rfl,Nat.zero_lt_one⟩,trivial⟩
      case ri2=>
       intro k hk
       ((conv=>whnf);repeat ((with_reducible first|refine BCase.tt ?_|refine BCase.ff ?_);(conv=>whnf)))
       rw[List.length_map]
       refine BCase.d (fun h2=>?_) (fun h2=>?_)
       ·have hln:((((List.range (T.length+1)).map nx).take k).map encB).length=k:=row_len (by omega)
        ((conv=>whnf);repeat ((with_reducible first|refine BCase.tt ?_|refine BCase.ff ?_);(conv=>whnf)))
        refine BCase.mk (fun ha=>?_) (fun ha=>?_)
        ·have hnx:nx=nxA r:=by rw[hnx];funext j;rw[if_pos ha]
         ((conv=>whnf);repeat ((with_reducible first|refine BCase.tt ?_|refine BCase.ff ?_);(conv=>whnf)))
         refine Idx.map (by omega) ?_
         ((conv=>whnf);repeat ((with_reducible first|refine BCase.tt ?_|refine BCase.ff ?_);(conv=>whnf)))
         refine BCase.mk (fun hr=>?_) (fun hr=>?_)
         ·have hv:nx k=true:=by rw[hnx,nxA_iff];exact⟨k,Nat.le_refl _,by unfold rowP;rw[List.getElem?_eq_getElem (by omega),hr]⟩
          ((conv=>whnf);repeat ((with_reducible first|refine BCase.tt ?_|refine BCase.ff ?_);(conv=>whnf)))
          refine Need.mk (by show (_+1)*1≤_;rw[hln];omega) ?_
          ((conv=>whnf);repeat ((with_reducible first|refine BCase.tt ?_|refine BCase.ff ?_);(conv=>whnf)))
          refine Wr.i64 (by omega) (by omega) ?_
          ((conv=>whnf);repeat ((with_reducible first|refine BCase.tt ?_|refine BCase.ff ?_);(conv=>whnf)))
          exact⟨k+1,by omega,by omega,[(7,7),(13,83)],rfl,rfl,⟨.inl rfl,.inl rfl,⟨rfl,rfl,rfl,rfl,rfl⟩,.inl rfl,.inl rfl,.inl rfl,.inl rfl,⟨rfl,rfl,rfl,rfl,row_more (by omega) (hv)⟩,PLe.int (by omega),trivial⟩,⟨rfl,rfl,rfl⟩,⟨rfl,rfl,rfl⟩,trivial⟩
         ·((conv=>whnf);repeat ((with_reducible first|refine BCase.tt ?_|refine BCase.ff ?_);(conv=>whnf)))
          refine BCase.d (fun h3=>?_) (fun h3=>?_)
          ·obtain⟨j,rfl⟩:∃j,k=j+1:=⟨k - 1,by omega⟩
           have hv:nx (j+1)=nx j:=by rw[hnx,nxA_succ r j (by omega),hr];rfl
           ((conv=>whnf);repeat ((with_reducible first|refine BCase.tt ?_|refine BCase.ff ?_);(conv=>whnf)))
           refine Wr.i64 (by omega) (by omega) ?_
           ((conv=>whnf);repeat ((with_reducible first|refine BCase.tt ?_|refine BCase.ff ?_);(conv=>whnf)))
           refine Idx.mapI j (by omega) (by simp;omega) ?_
           rw[show (((List.range (T.length+1)).map nx).take (j+1))[j]'(by simp;omega)=nx j by simp]
           ((conv=>whnf);repeat ((with_reducible first|refine BCase.tt ?_|refine BCase.ff ?_);(conv=>whnf)))
           refine Need.mk (by show (_+1)*1≤_;rw[hln];omega) ?_
           ((conv=>whnf);repeat ((with_reducible first|refine BCase.tt ?_|refine BCase.ff ?_);(conv=>whnf)))
           refine Wr.i64 (by omega) (by omega) ?_
           ((conv=>whnf);repeat ((with_reducible first|refine BCase.tt ?_|refine BCase.ff ?_);(conv=>whnf)))
           exact⟨j+1+1,by omega,by omega,[(7,7),(13,83)],rfl,rfl,⟨.inl rfl,.inl rfl,⟨rfl,rfl,rfl,rfl,rfl⟩,.inl rfl,.inl rfl,.inl rfl,.inl rfl,⟨rfl,rfl,rfl,rfl,row_more (by omega) (hv)⟩,PLe.int (by omega),trivial⟩,⟨rfl,rfl,rfl⟩,⟨rfl,rfl,rfl⟩,trivial⟩
          ·obtain rfl:k=0:=by omega
           have hv:nx 0=false:=by rw[hnx,nxA_zero r (by omega),hr]
           ((conv=>whnf);repeat ((with_reducible first|refine BCase.tt ?_|refine BCase.ff ?_);(conv=>whnf)))
           refine Need.mk (by show (_+1)*1≤_;rw[hln];omega) ?_
           ((conv=>whnf);repeat ((with_reducible first|refine BCase.tt ?_|refine BCase.ff ?_);(conv=>whnf)))
           refine Wr.i64 (by omega) (by omega) ?_
           ((conv=>whnf);repeat ((with_reducible first|refine BCase.tt ?_|refine BCase.ff ?_);(conv=>whnf)))
           exact⟨0+1,by omega,by omega,[(7,7),(13,83)],rfl,rfl,⟨.inl rfl,.inl rfl,⟨rfl,rfl,rfl,rfl,rfl⟩,.inl rfl,.inl rfl,.inl rfl,.inl rfl,⟨rfl,rfl,rfl,rfl,row_more (by omega) (hv)⟩,PLe.int (by omega),trivial⟩,⟨rfl,rfl,rfl⟩,⟨rfl,rfl,rfl⟩,trivial⟩
        ·have hnx:nx=nxO r T one y:=by rw[hnx];funext j;rw[if_neg (by rw[ha];decide)]
         ((conv=>whnf);repeat ((with_reducible first|refine BCase.tt ?_|refine BCase.ff ?_);(conv=>whnf)))
         refine BCase.d (fun h3=>?_) (fun h3=>?_)
         ·obtain⟨j,rfl⟩:∃j,k=j+1:=⟨k - 1,by omega⟩
          have hq:nx (j+1)=(r.getD j false&&(one||decide (T.getD j ByteArray.empty=y))):=by rw[hnx];rfl
          rw[List.getD_eq_getElem?_getD,List.getD_eq_getElem?_getD,List.getElem?_eq_getElem (by omega),List.getElem?_eq_getElem (by omega)] at hq
          ((conv=>whnf);repeat ((with_reducible first|refine BCase.tt ?_|refine BCase.ff ?_);(conv=>whnf)))
          refine Wr.i64 (by omega) (by omega) ?_
          ((conv=>whnf);repeat ((with_reducible first|refine BCase.tt ?_|refine BCase.ff ?_);(conv=>whnf)))
          refine Idx.mapI j (by omega) (by omega) ?_
          ((conv=>whnf);repeat ((with_reducible first|refine BCase.tt ?_|refine BCase.ff ?_);(conv=>whnf)))
          refine BCase.mk (fun hr=>?_) (fun hr=>?_)
          ·((conv=>whnf);repeat ((with_reducible first|refine BCase.tt ?_|refine BCase.ff ?_);(conv=>whnf)))
           refine BCase.mk (fun h1=>?_) (fun h1=>?_)
           ·have hv:nx (j+1)=true:=by rw[hq,Option.getD_some,hr,h1];rfl
            ((conv=>whnf);repeat ((with_reducible first|refine BCase.tt ?_|refine BCase.ff ?_);(conv=>whnf)))
            refine Need.mk (by show (_+1)*1≤_;rw[hln];omega) ?_
            ((conv=>whnf);repeat ((with_reducible first|refine BCase.tt ?_|refine BCase.ff ?_);(conv=>whnf)))
            refine Wr.i64 (by omega) (by omega) ?_
            ((conv=>whnf);repeat ((with_reducible first|refine BCase.tt ?_|refine BCase.ff ?_);(conv=>whnf)))
            exact⟨j+1+1,by omega,by omega,[(7,7),(13,107)],rfl,rfl,⟨.inl rfl,.inl rfl,⟨rfl,rfl,rfl,rfl,rfl⟩,.inl rfl,.inl rfl,.inl rfl,.inl rfl,⟨rfl,rfl,rfl,rfl,row_more (by omega) (hv)⟩,PLe.int (by omega),trivial⟩,⟨rfl,rfl,rfl⟩,⟨rfl,rfl,rfl⟩,trivial⟩
           ·have hv:nx (j+1)=decide (T[j]=y):=by rw[hq,Option.getD_some,Option.getD_some,hr,h1];rfl
            ((conv=>whnf);repeat ((with_reducible first|refine BCase.tt ?_|refine BCase.ff ?_);(conv=>whnf)))
            refine Wr.i64 (by omega) (by omega) ?_
            ((conv=>whnf);repeat ((with_reducible first|refine BCase.tt ?_|refine BCase.ff ?_);(conv=>whnf)))
            refine Idx.mapI j (by omega) (by omega) ?_
            ((conv=>whnf);repeat ((with_reducible first|refine BCase.tt ?_|refine BCase.ff ?_);(conv=>whnf)))
            refine Need.mk (by show (_+1)*1≤_;rw[hln];omega) ?_
            ((conv=>whnf);repeat ((with_reducible first|refine BCase.tt ?_|refine BCase.ff ?_);(conv=>whnf)))
            refine Wr.i64 (by omega) (by omega) ?_
            ((conv=>whnf);repeat ((with_reducible first|refine BCase.tt ?_|refine BCase.ff ?_);(conv=>whnf)))
            exact⟨j+1+1,by omega,by omega,[(7,7),(13,107)],rfl,rfl,⟨.inl rfl,.inl rfl,⟨rfl,rfl,rfl,rfl,rfl⟩,.inl rfl,.inl rfl,.inl rfl,.inl rfl,⟨rfl,rfl,rfl,rfl,row_more (by omega) (hv)⟩,PLe.int (by omega),trivial⟩,⟨rfl,rfl,rfl⟩,⟨rfl,rfl,rfl⟩,trivial⟩
          ·have hv:nx (j+1)=false:=by rw[hq,Option.getD_some,hr];rfl
           ((conv=>whnf);repeat ((with_reducible first|refine BCase.tt ?_|refine BCase.ff ?_);(conv=>whnf)))
           refine Need.mk (by show (_+1)*1≤_;rw[hln];omega) ?_
           ((conv=>whnf);repeat ((with_reducible first|refine BCase.tt ?_|refine BCase.ff ?_);(conv=>whnf)))
           refine Wr.i64 (by omega) (by omega) ?_
           ((conv=>whnf);repeat ((with_reducible first|refine BCase.tt ?_|refine BCase.ff ?_);(conv=>whnf)))
           exact⟨j+1+1,by omega,by omega,[(7,7),(13,107)],rfl,rfl,⟨.inl rfl,.inl rfl,⟨rfl,rfl,rfl,rfl,rfl⟩,.inl rfl,.inl rfl,.inl rfl,.inl rfl,⟨rfl,rfl,rfl,rfl,row_more (by omega) (hv)⟩,PLe.int (by omega),trivial⟩,⟨rfl,rfl,rfl⟩,⟨rfl,rfl,rfl⟩,trivial⟩
         ·obtain rfl:k=0:=by omega
          have hv:nx 0=false:=by rw[hnx];rfl
          ((conv=>whnf);repeat ((with_reducible first|refine BCase.tt ?_|refine BCase.ff ?_);(conv=>whnf)))
          refine Need.mk (by show (_+1)*1≤_;rw[hln];omega) ?_
          ((conv=>whnf);repeat ((with_reducible first|refine BCase.tt ?_|refine BCase.ff ?_);(conv=>whnf)))
          refine Wr.i64 (by omega) (by omega) ?_
          ((conv=>whnf);repeat ((with_reducible first|refine BCase.tt ?_|refine BCase.ff ?_);(conv=>whnf)))
          exact⟨0+1,by omega,by omega,[(7,7),(13,107)],rfl,rfl,⟨.inl rfl,.inl rfl,⟨rfl,rfl,rfl,rfl,rfl⟩,.inl rfl,.inl rfl,.inl rfl,.inl rfl,⟨rfl,rfl,rfl,rfl,row_more (by omega) (hv)⟩,PLe.int (by omega),trivial⟩,⟨rfl,rfl,rfl⟩,⟨rfl,rfl,rfl⟩,trivial⟩
       ·have hfull:((List.range (T.length+1)).map nx).take k=(List.range (T.length+1)).map nx:=List.take_of_length_le (by simp;omega)
        ((conv=>whnf);repeat ((with_reducible first|refine BCase.tt ?_|refine BCase.ff ?_);(conv=>whnf)))
        rw[hfull]
        refine Wr.i64 (by omega) (by omega) ?_
        ((conv=>whnf);repeat ((with_reducible first|refine BCase.tt ?_|refine BCase.ff ?_);(conv=>whnf)))
        exact⟨(i+1,(List.range (T.length+1)).map nx),⟨by show i+1≤_;omega,(hstep nx hnx).1,by simp,(hstep nx hnx).2⟩,by omega,[(7,13)],rfl,rfl,⟨.inl rfl,.inl rfl,⟨rfl,rfl,rfl,rfl,rfl⟩,PLe.int (by show _=_;omega),trivial⟩,⟨rfl,rfl,rfl⟩,trivial⟩
    ·have hie:i=P.length:=by omega
     ((conv=>whnf);repeat ((with_reducible first|refine BCase.tt ?_|refine BCase.ff ?_);(conv=>whnf)))
     rw[List.length_map]
     refine Idx.map (by omega) ?_
     ((conv=>whnf);repeat ((with_reducible first|refine BCase.tt ?_|refine BCase.ff ?_);(conv=>whnf)))
     refine Ret.mk ?_
     subst hie
     rw[List.take_of_length_le (Nat.le_refl _),← hPp] at hrow
     have hd:=hrow.done
     have hg:matB p s=r[T.length]:=hfin (by
      rw[← hT,hd]
      unfold rowP
      rw[List.getElem?_eq_getElem (by omega)]
      simp)
     rw[hg]
end
section
open Go.RowKit K
set_option maxRecDepth 100000
theorem p_wholeof (op a b:Int) (ho:op=3∨(5≤op∧op≤9)) (ha:WholeP.In64 a) (hb:WholeP.In64 b):Pure Tryz.prog 126 [pInt .i64 op,pInt .i64 a,pInt .i64 b] (pFit (whoF op a b)):=by
 have hc:op=3∨op=5∨op=6∨op=7∨op=8∨op=9:=by omega
 refine pure_of Tryz.func126 (by rfl) rfl (by kernel_rfl) (by rfl) ?_
 rcases hc with rfl | rfl | rfl | rfl | rfl | rfl
 ·have p:=p_minusof 0 a (by decide) ha
  rw[Int.zero_sub] at p
  ((conv=>whnf);repeat' ((first|(with_reducible first|apply a_|apply b_|apply c_)|((with_reducible first|apply d_|apply e_|apply f_|apply g_);focus first|omega|(simp only[q_]<;>omega))|((with_reducible first|apply i_|apply h_);focus first|omega|(simp only[q_]<;>omega))|((with_reducible apply h_);focus first|decide|kernel_rfl)|refine s_ (by decide) ?_|refine t_ (by decide) ?_|refine r_ p rfl ?_|with_reducible first|apply l_|apply m_|apply n_|apply o_|refine p_ (fun _=>?_) (fun _=>?_))<;>(conv=>whnf)))
  exact Ret.eq rfl
 ·have p:=p_plusof a b ha hb
  ((conv=>whnf);repeat' ((first|(with_reducible first|apply a_|apply b_|apply c_)|((with_reducible first|apply d_|apply e_|apply f_|apply g_);focus first|omega|(simp only[q_]<;>omega))|((with_reducible first|apply i_|apply h_);focus first|omega|(simp only[q_]<;>omega))|((with_reducible apply h_);focus first|decide|kernel_rfl)|refine s_ (by decide) ?_|refine t_ (by decide) ?_|refine r_ p rfl ?_|with_reducible first|apply l_|apply m_|apply n_|apply o_|refine p_ (fun _=>?_) (fun _=>?_))<;>(conv=>whnf)))
  exact Ret.eq rfl
 ·have p:=p_minusof a b ha hb
  ((conv=>whnf);repeat' ((first|(with_reducible first|apply a_|apply b_|apply c_)|((with_reducible first|apply d_|apply e_|apply f_|apply g_);focus first|omega|(simp only[q_]<;>omega))|((with_reducible first|apply i_|apply h_);focus first|omega|(simp only[q_]<;>omega))|((with_reducible apply h_);focus first|decide|kernel_rfl)|refine s_ (by decide) ?_|refine t_ (by decide) ?_|refine r_ p rfl ?_|with_reducible first|apply l_|apply m_|apply n_|apply o_|refine p_ (fun _=>?_) (fun _=>?_))<;>(conv=>whnf)))
  exact Ret.eq rfl
 ·have p:=p_timesof a b ha hb
  ((conv=>whnf);repeat' ((first|(with_reducible first|apply a_|apply b_|apply c_)|((with_reducible first|apply d_|apply e_|apply f_|apply g_);focus first|omega|(simp only[q_]<;>omega))|((with_reducible first|apply i_|apply h_);focus first|omega|(simp only[q_]<;>omega))|((with_reducible apply h_);focus first|decide|kernel_rfl)|refine s_ (by decide) ?_|refine t_ (by decide) ?_|refine r_ p rfl ?_|with_reducible first|apply l_|apply m_|apply n_|apply o_|refine p_ (fun _=>?_) (fun _=>?_))<;>(conv=>whnf)))
  exact Ret.eq rfl
 ·have p:=p_overof a b ha hb
  ((conv=>whnf);repeat' ((first|(with_reducible first|apply a_|apply b_|apply c_)|((with_reducible first|apply d_|apply e_|apply f_|apply g_);focus first|omega|(simp only[q_]<;>omega))|((with_reducible first|apply i_|apply h_);focus first|omega|(simp only[q_]<;>omega))|((with_reducible apply h_);focus first|decide|kernel_rfl)|refine s_ (by decide) ?_|refine t_ (by decide) ?_|refine r_ p rfl ?_|with_reducible first|apply l_|apply m_|apply n_|apply o_|refine p_ (fun _=>?_) (fun _=>?_))<;>(conv=>whnf)))
  exact Ret.eq rfl
 ·have p:=p_leftof a b ha hb
  ((conv=>whnf);repeat' ((first|(with_reducible first|apply a_|apply b_|apply c_)|((with_reducible first|apply d_|apply e_|apply f_|apply g_);focus first|omega|(simp only[q_]<;>omega))|((with_reducible first|apply i_|apply h_);focus first|omega|(simp only[q_]<;>omega))|((with_reducible apply h_);focus first|decide|kernel_rfl)|refine s_ (by decide) ?_|refine t_ (by decide) ?_|refine r_ p rfl ?_|with_reducible first|apply l_|apply m_|apply n_|apply o_|refine p_ (fun _=>?_) (fun _=>?_))<;>(conv=>whnf)))
  exact Ret.eq rfl
theorem rv_text {v:ValueD} (h:RV v):okText v.S:=by
 have:=(okV_kind h.1).2.2
 unfold okText;omega
theorem p_askof (op:Int) (k:List ValueD) (h1:leastK op≤k.length) (h2:(k.length:Int)≤mostK op) (hk:∀v∈k,RV v) (ho:(10≤op∧op≤15)∨op=18∨op=19∨(22≤op∧op≤25)) :
  Pure Tryz.prog 133 [pInt .i64 op,slV 3 ValueD.c k] (pInt .i64 (askR op k)):=by
 have hm:=mostK_le op
 have hc:op=10∨op=11∨op=12∨op=13∨op=14∨op=15∨op=18∨op=19∨op=22∨op=23∨op=24∨op=25:=by omega
 have hp:1≤leastK op:=by rcases hc with rfl | rfl | rfl | rfl | rfl | rfl | rfl | rfl | rfl | rfl | rfl | rfl<;>decide
 have l0:0<k.length:=by omega
 have t0:=rv_text (hk _ (List.getElem_mem l0))
 refine pure_of Tryz.func133 (by rfl) rfl (by kernel_rfl) (by rfl) ?_
 by_cases s18:op=18∨op=19
 ·rcases s18 with rfl | rfl
  ·rw[show askR 18 k=tOf (isN (k.getD 0 noV)==decide ((18:Int)=18)) from by simp[askR],getD_at l0]
   have p:=p_truth (isN k[0]==decide ((18:Int)=18))
   ((conv=>whnf);repeat' ((first|(with_reducible first|apply a_|apply b_|apply c_)|((with_reducible first|apply d_|apply e_|apply f_|apply g_);focus first|omega|(simp only[q_]<;>omega))|((with_reducible first|apply i_|apply h_);focus first|omega|(simp only[q_]<;>omega))|((with_reducible apply h_);focus first|decide|kernel_rfl)|refine s_ (by decide) ?_|refine t_ (by decide) ?_|(refine Idx.mapI 0 rfl l0 ?_)|refine r_ p rfl ?_|with_reducible first|apply l_|apply m_|apply n_|apply o_|refine p_ (fun _=>?_) (fun _=>?_))<;>(conv=>whnf)))
   all_goals exact Ret.int rfl
  ·rw[show askR 19 k=tOf (isN (k.getD 0 noV)==decide ((19:Int)=18)) from by simp[askR],getD_at l0]
   have p:=p_truth (isN k[0]==decide ((19:Int)=18))
   ((conv=>whnf);repeat' ((first|(with_reducible first|apply a_|apply b_|apply c_)|((with_reducible first|apply d_|apply e_|apply f_|apply g_);focus first|omega|(simp only[q_]<;>omega))|((with_reducible first|apply i_|apply h_);focus first|omega|(simp only[q_]<;>omega))|((with_reducible apply h_);focus first|decide|kernel_rfl)|refine s_ (by decide) ?_|refine t_ (by decide) ?_|(refine Idx.mapI 0 rfl l0 ?_)|refine r_ p rfl ?_|with_reducible first|apply l_|apply m_|apply n_|apply o_|refine p_ (fun _=>?_) (fun _=>?_))<;>(conv=>whnf)))
   all_goals exact Ret.int rfl
 ·have hl2:2≤leastK op:=by rcases hc with rfl|rfl|rfl|rfl|rfl|rfl|rfl|rfl|rfl|rfl|rfl|rfl<;>first|decide | (exfalso;omega)
  have l1:1<k.length:=by omega
  have t1:=rv_text (hk _ (List.getElem_mem l1))
  have pS:=p_sameof k[0] k[1]
  have pL:=p_lessof k[0] k[1] t0 t1
  have pG:=p_lessof k[1] k[0] t1 t0
  have pI:=p_inof k[0] (k.drop 1) (by rw[List.length_drop];omega)
  have e1:∀n,n=(((k.map ValueD.c).length:Nat):Int).toNat - (1:Int).toNat→slV 3 ValueD.c (k.drop 1)=.d (.c (.sl 3 (((k.map ValueD.c).drop (1:Int).toNat).take n))):=by
   rintro n rfl
   rw[List.take_of_length_le (by rw[List.length_drop];omega),← List.map_drop];rfl
  rw[e1 _ rfl] at pI
  have nS:=p_truthnot (rSame k[0] k[1])
  have nL:=p_truthnot (rLess k[0] k[1])
  have nG:=p_truthnot (rLess k[1] k[0])
  have nI:=p_truthnot (rIn k[0] (k.drop 1))
  rcases hc with rfl | rfl | rfl | rfl | rfl | rfl | rfl | rfl | rfl | rfl | rfl | rfl
  ·simp only[askR,getD_at l0,getD_at l1]
   ((conv=>whnf);repeat' ((first|(with_reducible first|apply a_|apply b_|apply c_)|((with_reducible first|apply d_|apply e_|apply f_|apply g_);focus first|omega|(simp only[q_]<;>omega))|((with_reducible first|apply i_|apply h_);focus first|omega|(simp only[q_]<;>omega))|((with_reducible apply h_);focus first|decide|kernel_rfl)|refine s_ (by decide) ?_|refine t_ (by decide) ?_|(refine Idx.mapI 0 rfl l0 ?_)|(refine Idx.mapI 1 rfl l1 ?_)|refine r_ pS rfl ?_|with_reducible first|apply l_|apply m_|apply n_|apply o_|refine p_ (fun _=>?_) (fun _=>?_))<;>(conv=>whnf)))
   all_goals exact Ret.int rfl
  ·rw[show askR 11 k=tNot (rSame (k.getD 0 noV) (k.getD 1 noV)) from by simp[askR],getD_at l0,getD_at l1]
   ((conv=>whnf);repeat' ((first|(with_reducible first|apply a_|apply b_|apply c_)|((with_reducible first|apply d_|apply e_|apply f_|apply g_);focus first|omega|(simp only[q_]<;>omega))|((with_reducible first|apply i_|apply h_);focus first|omega|(simp only[q_]<;>omega))|((with_reducible apply h_);focus first|decide|kernel_rfl)|refine s_ (by decide) ?_|refine t_ (by decide) ?_|(refine Idx.mapI 0 rfl l0 ?_)|(refine Idx.mapI 1 rfl l1 ?_)|refine r_ pS rfl ?_|refine r_ nS rfl ?_|with_reducible first|apply l_|apply m_|apply n_|apply o_|refine p_ (fun _=>?_) (fun _=>?_))<;>(conv=>whnf)))
   all_goals exact Ret.int rfl
  ·rw[show askR 12 k=(rLess (k.getD 0 noV) (k.getD 1 noV)) from by simp[askR],getD_at l0,getD_at l1]
   ((conv=>whnf);repeat' ((first|(with_reducible first|apply a_|apply b_|apply c_)|((with_reducible first|apply d_|apply e_|apply f_|apply g_);focus first|omega|(simp only[q_]<;>omega))|((with_reducible first|apply i_|apply h_);focus first|omega|(simp only[q_]<;>omega))|((with_reducible apply h_);focus first|decide|kernel_rfl)|refine s_ (by decide) ?_|refine t_ (by decide) ?_|(refine Idx.mapI 0 rfl l0 ?_)|(refine Idx.mapI 1 rfl l1 ?_)|refine r_ pL rfl ?_|with_reducible first|apply l_|apply m_|apply n_|apply o_|refine p_ (fun _=>?_) (fun _=>?_))<;>(conv=>whnf)))
   all_goals exact Ret.int rfl
  ·rw[show askR 13 k=tNot (rLess (k.getD 1 noV) (k.getD 0 noV)) from by simp[askR],getD_at l0,getD_at l1]
   ((conv=>whnf);repeat' ((first|(with_reducible first|apply a_|apply b_|apply c_)|((with_reducible first|apply d_|apply e_|apply f_|apply g_);focus first|omega|(simp only[q_]<;>omega))|((with_reducible first|apply i_|apply h_);focus first|omega|(simp only[q_]<;>omega))|((with_reducible apply h_);focus first|decide|kernel_rfl)|refine s_ (by decide) ?_|refine t_ (by decide) ?_|(refine Idx.mapI 0 rfl l0 ?_)|(refine Idx.mapI 1 rfl l1 ?_)|refine r_ pG rfl ?_|refine r_ nG rfl ?_|with_reducible first|apply l_|apply m_|apply n_|apply o_|refine p_ (fun _=>?_) (fun _=>?_))<;>(conv=>whnf)))
   all_goals exact Ret.int rfl
  ·rw[show askR 14 k=(rLess (k.getD 1 noV) (k.getD 0 noV)) from by simp[askR],getD_at l0,getD_at l1]
   ((conv=>whnf);repeat' ((first|(with_reducible first|apply a_|apply b_|apply c_)|((with_reducible first|apply d_|apply e_|apply f_|apply g_);focus first|omega|(simp only[q_]<;>omega))|((with_reducible first|apply i_|apply h_);focus first|omega|(simp only[q_]<;>omega))|((with_reducible apply h_);focus first|decide|kernel_rfl)|refine s_ (by decide) ?_|refine t_ (by decide) ?_|(refine Idx.mapI 0 rfl l0 ?_)|(refine Idx.mapI 1 rfl l1 ?_)|refine r_ pG rfl ?_|with_reducible first|apply l_|apply m_|apply n_|apply o_|refine p_ (fun _=>?_) (fun _=>?_))<;>(conv=>whnf)))
   all_goals exact Ret.int rfl
  ·rw[show askR 15 k=tNot (rLess (k.getD 0 noV) (k.getD 1 noV)) from by simp[askR],getD_at l0,getD_at l1]
   ((conv=>whnf);repeat' ((first|(with_reducible first|apply a_|apply b_|apply c_)|((with_reducible first|apply d_|apply e_|apply f_|apply g_);focus first|omega|(simp only[q_]<;>omega))|((with_reducible first|apply i_|apply h_);focus first|omega|(simp only[q_]<;>omega))|((with_reducible apply h_);focus first|decide|kernel_rfl)|refine s_ (by decide) ?_|refine t_ (by decide) ?_|(refine Idx.mapI 0 rfl l0 ?_)|(refine Idx.mapI 1 rfl l1 ?_)|refine r_ pL rfl ?_|refine r_ nL rfl ?_|with_reducible first|apply l_|apply m_|apply n_|apply o_|refine p_ (fun _=>?_) (fun _=>?_))<;>(conv=>whnf)))
   all_goals exact Ret.int rfl
  ·exfalso;omega
  ·exfalso;omega
  ·rw[show askR 22 k=(rIn (k.getD 0 noV) (k.drop 1)) from by simp[askR],getD_at l0]
   ((conv=>whnf);repeat' ((first|(with_reducible first|apply a_|apply b_|apply c_)|((with_reducible first|apply d_|apply e_|apply f_|apply g_);focus first|omega|(simp only[q_]<;>omega))|((with_reducible first|apply i_|apply h_);focus first|omega|(simp only[q_]<;>omega))|((with_reducible apply h_);focus first|decide|kernel_rfl)|refine s_ (by decide) ?_|refine t_ (by decide) ?_|(refine Idx.mapI 0 rfl l0 ?_)|refine r_ pI rfl ?_|with_reducible first|apply l_|apply m_|apply n_|apply o_|refine p_ (fun _=>?_) (fun _=>?_))<;>(conv=>whnf)))
   all_goals exact Ret.int rfl
  ·rw[show askR 23 k=tNot (rIn (k.getD 0 noV) (k.drop 1)) from by simp[askR],getD_at l0]
   ((conv=>whnf);repeat' ((first|(with_reducible first|apply a_|apply b_|apply c_)|((with_reducible first|apply d_|apply e_|apply f_|apply g_);focus first|omega|(simp only[q_]<;>omega))|((with_reducible first|apply i_|apply h_);focus first|omega|(simp only[q_]<;>omega))|((with_reducible apply h_);focus first|decide|kernel_rfl)|refine s_ (by decide) ?_|refine t_ (by decide) ?_|(refine Idx.mapI 0 rfl l0 ?_)|refine r_ pI rfl ?_|refine r_ nI rfl ?_|with_reducible first|apply l_|apply m_|apply n_|apply o_|refine p_ (fun _=>?_) (fun _=>?_))<;>(conv=>whnf)))
   all_goals exact Ret.int rfl
  ·have l2:2<k.length:=by have:leastK 24=3:=rfl;omega
   have pB:=p_betweenof k[0] k[1] k[2] t0 t1 (rv_text (hk _ (List.getElem_mem l2)))
   rw[show askR 24 k=(rBetween (k.getD 0 noV) (k.getD 1 noV) (k.getD 2 noV)) from by simp[askR],getD_at l0,getD_at l1,getD_at l2]
   ((conv=>whnf);repeat' ((first|(with_reducible first|apply a_|apply b_|apply c_)|((with_reducible first|apply d_|apply e_|apply f_|apply g_);focus first|omega|(simp only[q_]<;>omega))|((with_reducible first|apply i_|apply h_);focus first|omega|(simp only[q_]<;>omega))|((with_reducible apply h_);focus first|decide|kernel_rfl)|refine s_ (by decide) ?_|refine t_ (by decide) ?_|(refine Idx.mapI 0 rfl l0 ?_)|(refine Idx.mapI 1 rfl l1 ?_)|(refine Idx.mapI 2 rfl l2 ?_)|refine r_ pB rfl ?_|with_reducible first|apply l_|apply m_|apply n_|apply o_|refine p_ (fun _=>?_) (fun _=>?_))<;>(conv=>whnf)))
   all_goals exact Ret.int rfl
  ·have l2:2<k.length:=by have:leastK 25=3:=rfl;omega
   have pB:=p_betweenof k[0] k[1] k[2] t0 t1 (rv_text (hk _ (List.getElem_mem l2)))
   have nB:=p_truthnot (rBetween k[0] k[1] k[2])
   rw[show askR 25 k=tNot (rBetween (k.getD 0 noV) (k.getD 1 noV) (k.getD 2 noV)) from by simp[askR],getD_at l0,getD_at l1,getD_at l2]
   ((conv=>whnf);repeat' ((first|(with_reducible first|apply a_|apply b_|apply c_)|((with_reducible first|apply d_|apply e_|apply f_|apply g_);focus first|omega|(simp only[q_]<;>omega))|((with_reducible first|apply i_|apply h_);focus first|omega|(simp only[q_]<;>omega))|((with_reducible apply h_);focus first|decide|kernel_rfl)|refine s_ (by decide) ?_|refine t_ (by decide) ?_|(refine Idx.mapI 0 rfl l0 ?_)|(refine Idx.mapI 1 rfl l1 ?_)|(refine Idx.mapI 2 rfl l2 ?_)|refine r_ pB rfl ?_|refine r_ nB rfl ?_|with_reducible first|apply l_|apply m_|apply n_|apply o_|refine p_ (fun _=>?_) (fun _=>?_))<;>(conv=>whnf)))
   all_goals exact Ret.int rfl
end
section
open Go.RowKit K
set_option maxRecDepth 100000
def nK (q:Int) (k:List ValueD):Nat:=k.countP fun v=>decide (v.Kind=q)
theorem nK_snoc (q:Int) {k:List ValueD} {j:Nat} (h:j<k.length):nK q (k.take (j+1))=nK q (k.take j)+if k[j].Kind=q then 1 else 0:=by
 unfold nK
 rw[take_snoc h,List.countP_append,List.countP_singleton]
 by_cases e:k[j].Kind=q
 ·rw[decide_eq_true e,if_pos e];rfl
 ·rw[decide_eq_false e,if_neg e];rfl
theorem nK_le (q:Int) (k:List ValueD):nK q k≤k.length:=List.countP_le_length
theorem nK_none {q:Int} {k:List ValueD}:nK q k=0↔∀v∈k,v.Kind≠q:=by
 unfold nK
 rw[List.countP_eq_zero]
 simp
theorem any_isN (k:List ValueD):k.any isN=decide (0<nK 0 k):=by
 rw[Bool.eq_iff_iff,decide_eq_true_iff,List.any_eq_true]
 constructor
 ·rintro⟨v,hv,h⟩
  have h:=of_decide_eq_true h
  have:=nK_none (q:=0) (k:=k)
  rcases Nat.eq_zero_or_pos (nK 0 k) with e | e
  ·exact absurd h (this.1 e v hv)
  ·exact e
 ·intro h
  unfold nK at h
  rw[List.countP_pos_iff] at h
  exact h
theorem any_two (p:ValueD→Bool) (a b:Int) (hp:∀v,p v=decide (v.Kind=a∨v.Kind=b)) (k:List ValueD):k.any p=decide (0<nK a k+nK b k):=by
 rw[Bool.eq_iff_iff,decide_eq_true_iff,List.any_eq_true]
 have ha:=nK_none (q:=a) (k:=k)
 have hb:=nK_none (q:=b) (k:=k)
 constructor
 ·rintro⟨v,hv,h⟩
  rw[hp] at h
  rcases of_decide_eq_true h with e | e
  ·rcases Nat.eq_zero_or_pos (nK a k) with g | g
   ·exact absurd e (ha.1 g v hv)
   ·omega
  ·rcases Nat.eq_zero_or_pos (nK b k) with g | g
   ·exact absurd e (hb.1 g v hv)
   ·omega
 ·intro h
  rcases Nat.eq_zero_or_pos (nK a k) with g | g
  ·have:0<nK b k:=by omega
   unfold nK at this
   rw[List.countP_pos_iff] at this
   obtain⟨v,hv,e⟩:=this
   exact⟨v,hv,by rw[hp];exact decide_eq_true (.inr (of_decide_eq_true e))⟩
  ·have g:0<nK a k:=g
   unfold nK at g
   rw[List.countP_pos_iff] at g
   obtain⟨v,hv,e⟩:=g
   exact⟨v,hv,by rw[hp];exact decide_eq_true (.inl (of_decide_eq_true e))⟩
set_option maxHeartbeats 2000000 in
theorem p_nodeof (cols:List (List UInt8)) (row:List ValueD) (hc:cols.length=row.length) (hcl:cols.length≤1000000) (n:NodeD) (k:List ValueD) (hn:alF n=0) (hl:(k.length:Int)=n.Kids) (hk:∀v∈k,RV v) :
  Pure Tryz.prog 105 [nV n,slV 3 ValueD.c k,slV 1 eText cols,slV 3 ValueD.c row] (.tup [vV (nodR (lookC cols row) n k).1,pInt .i64 (nodR (lookC cols row) n k).2]):=by
 obtain⟨h1,h2,h3,h4,h5,h6⟩:=alF_kids hn
 refine pure_of Tryz.func105 (by rfl) rfl (by kernel_rfl) (by rfl) ?_
 unfold nodR
 by_cases g1:n.Op=1
 ·rw[if_pos g1]
  ((conv=>whnf);repeat' ((first|(with_reducible first|apply a_|apply b_|apply c_)|((with_reducible first|apply d_|apply e_|apply f_|apply g_);focus first|omega|(simp only[q_]<;>omega))|((with_reducible first|apply i_|apply h_);focus first|omega|(simp only[q_]<;>omega))|((with_reducible apply h_);focus first|decide|kernel_rfl)|refine s_ (by decide) ?_|refine t_ (by decide) ?_|with_reducible first|apply l_|apply m_|apply n_|apply o_|refine p_ (fun _=>?_) (fun _=>?_))<;>(conv=>whnf)))
  exact Ret.eq rfl
 rw[if_neg g1]
 by_cases g2:n.Op=2
 ·rw[if_pos g2]
  ((conv=>whnf);repeat' ((first|(with_reducible first|apply a_|apply b_|apply c_)|((with_reducible first|apply d_|apply e_|apply f_|apply g_);focus first|omega|(simp only[q_]<;>omega))|((with_reducible first|apply i_|apply h_);focus first|omega|(simp only[q_]<;>omega))|((with_reducible apply h_);focus first|decide|kernel_rfl)|refine s_ (by decide) ?_|refine t_ (by decide) ?_|with_reducible first|apply l_|apply m_|apply n_|apply o_|refine p_ (fun _=>?_) (fun _=>?_))<;>(conv=>whnf)))
  refine LoopC.mk Nat (fun j=>[(2,slV 1 eText cols),(3,slV 3 ValueD.c row),(4,.d (.ptr 4 0)),(8,.d (.ptr 8 0)),(10,pInt .i64 j)]) (fun _=>[(4,.box 35 (n.c.map D.c)),(8,.box 33 vZ)]) [4,8] (fun j=>j≤cols.length∧lookC cols row n.Name=lookC (cols.drop j) (row.drop j) n.Name) (fun j=>cols.length - j) 0 ⟨Nat.zero_le _,rfl⟩ ?start ?round
  case start=>exact⟨[(4,4),(8,8)],rfl,rfl,⟨.inl rfl,.inl rfl,⟨rfl,rfl,rfl⟩,⟨rfl,rfl,rfl⟩,.inl rfl,trivial⟩,⟨rfl,rfl,⟨.inl rfl,.inl rfl,.inl rfl,.inl rfl,.inl rfl,.inl rfl,rfl⟩⟩,⟨rfl,rfl,⟨.inl rfl,.inl rfl,.inl rfl,rfl⟩⟩,trivial⟩
  case round=>
   rintro j ⟨hj,hz⟩
   have hj:j≤cols.length:=hj
   by_cases q:j<cols.length
   ·have q2:j<row.length:=by omega
    rw[List.drop_eq_getElem_cons q,List.drop_eq_getElem_cons q2,lookC] at hz
    by_cases e:n.Name=cols[j]
    ·rw[if_pos e] at hz
     have e2:tx cols[j]=tx n.Name:=by rw[e]
     rw[hz]
     ((conv=>whnf);repeat' ((first|(with_reducible first|apply a_|apply b_|apply c_)|((with_reducible first|apply d_|apply e_|apply f_|apply g_);focus first|omega|(simp only[q_]<;>omega))|((with_reducible first|apply i_|apply h_);focus first|omega|(simp only[q_]<;>omega))|((with_reducible apply h_);focus first|decide|kernel_rfl)|refine s_ (by decide) ?_|refine t_ (by decide) ?_|(refine Idx.mapI (l:=cols) j rfl q ?_)|(refine Idx.mapI (l:=row) j rfl q2 ?_)|(refine BCase.dt e2 ?_)|with_reducible first|apply l_|apply m_|apply n_|apply o_|refine p_ (fun _=>?_) (fun _=>?_))<;>(conv=>whnf)))
     all_goals exact Ret.eq rfl
    ·rw[if_neg e] at hz
     have e2:¬tx cols[j]=tx n.Name:=fun x=>e (tx_inj x).symm
     ((conv=>whnf);repeat' ((first|(with_reducible first|apply a_|apply b_|apply c_)|((with_reducible first|apply d_|apply e_|apply f_|apply g_);focus first|omega|(simp only[q_]<;>omega))|((with_reducible first|apply i_|apply h_);focus first|omega|(simp only[q_]<;>omega))|((with_reducible apply h_);focus first|decide|kernel_rfl)|refine s_ (by decide) ?_|refine t_ (by decide) ?_|(refine Idx.mapI (l:=cols) j rfl q ?_)|(refine BCase.df e2 ?_)|with_reducible first|apply l_|apply m_|apply n_|apply o_|refine p_ (fun _=>?_) (fun _=>?_))<;>(conv=>whnf)))
     all_goals exact⟨j+1,⟨by omega,hz⟩,by omega,[(4,4),(8,8)],rfl,rfl,⟨.inl rfl,.inl rfl,⟨rfl,rfl,rfl⟩,⟨rfl,rfl,rfl⟩,PLe.int (by omega),trivial⟩,⟨rfl,rfl,⟨.inl rfl,.inl rfl,.inl rfl,.inl rfl,.inl rfl,.inl rfl,rfl⟩⟩,⟨rfl,rfl,⟨.inl rfl,.inl rfl,.inl rfl,rfl⟩⟩,trivial⟩
   ·have hz:lookC cols row n.Name=none:=by rw[hz,List.drop_of_length_le (by omega)];cases row.drop j<;>rfl
    rw[hz]
    ((conv=>whnf);repeat' ((first|(with_reducible first|apply a_|apply b_|apply c_)|((with_reducible first|apply d_|apply e_|apply f_|apply g_);focus first|omega|(simp only[q_]<;>omega))|((with_reducible first|apply i_|apply h_);focus first|omega|(simp only[q_]<;>omega))|((with_reducible apply h_);focus first|decide|kernel_rfl)|refine s_ (by decide) ?_|refine t_ (by decide) ?_|with_reducible first|apply l_|apply m_|apply n_|apply o_|refine p_ (fun _=>?_) (fun _=>?_))<;>(conv=>whnf)))
    exact Ret.eq rfl
 rw[if_neg g2]
 have l0:0<k.length:=by
  have:leastK n.Op=1∨leastK n.Op=2∨leastK n.Op=3:=by unfold leastK;(repeat' split)<;>omega
  omega
 ((conv=>whnf);repeat' ((first|(with_reducible first|apply a_|apply b_|apply c_)|((with_reducible first|apply d_|apply e_|apply f_|apply g_);focus first|omega|(simp only[q_]<;>omega))|((with_reducible first|apply i_|apply h_);focus first|omega|(simp only[q_]<;>omega))|((with_reducible apply h_);focus first|decide|kernel_rfl)|refine s_ (by decide) ?_|refine t_ (by decide) ?_|with_reducible first|apply l_|apply m_|apply n_|apply o_|refine p_ (fun _=>?_) (fun _=>?_))<;>(conv=>whnf)))
 refine LoopC.mk Nat (fun j=>[(1,slV 3 ValueD.c k),(4,.d (.ptr 4 0)),(8,.d (.ptr 8 0)),(11,pInt .i64 (nK 0 (k.take j))),(12,pInt .i64 (nK 2 (k.take j))),(13,pInt .i64 (nK 1 (k.take j))),(14,pInt .i64 (nK 3 (k.take j))),(15,pInt .i64 j)]) (fun _=>[(4,.box 35 (n.c.map D.c)),(8,.box 33 vZ)]) [4,8] (fun j=>j≤k.length) (fun j=>k.length - j) 0 (Nat.zero_le _) ?start ?round
 case start=>exact⟨[(4,4),(8,8)],rfl,rfl,⟨.inl rfl,⟨rfl,rfl,rfl⟩,⟨rfl,rfl,rfl⟩,PLe.int rfl,PLe.int rfl,PLe.int rfl,PLe.int rfl,.inl rfl,trivial⟩,⟨rfl,rfl,⟨.inl rfl,.inl rfl,.inl rfl,.inl rfl,.inl rfl,.inl rfl,rfl⟩⟩,⟨rfl,rfl,⟨.inl rfl,.inl rfl,.inl rfl,rfl⟩⟩,trivial⟩
 case round=>
  intro j hj
  have hj:j≤k.length:=hj
  by_cases q:j<k.length
  ·have q0:=nK_snoc 0 q
   have q1:=nK_snoc 1 q
   have q2:=nK_snoc 2 q
   have q3:=nK_snoc 3 q
   have hkd:=okV_kind (hk _ (List.getElem_mem q)).1
   have hkd:k[j].Kind=0∨k[j].Kind=1∨k[j].Kind=2∨k[j].Kind=3:=by omega
   have b0:=nK_le 0 (k.take j)
   have b1:=nK_le 1 (k.take j)
   have b2:=nK_le 2 (k.take j)
   have b3:=nK_le 3 (k.take j)
   rw[List.length_take] at b0 b1 b2 b3
   rcases hkd with e | e | e | e<;>rw[e] at q0 q1 q2 q3
   all_goals
    ((conv=>whnf);repeat' ((first|(with_reducible first|apply a_|apply b_|apply c_)|((with_reducible first|apply d_|apply e_|apply f_|apply g_);focus first|omega|(simp only[q_]<;>omega))|((with_reducible first|apply i_|apply h_);focus first|omega|(simp only[q_]<;>omega))|((with_reducible apply h_);focus first|decide|kernel_rfl)|refine s_ (by decide) ?_|refine t_ (by decide) ?_|(refine Idx.mapI j rfl q ?_)|with_reducible first|apply l_|apply m_|apply n_|apply o_|refine p_ (fun _=>?_) (fun _=>?_))<;>(conv=>whnf)))
    exact⟨j+1,by show j+1≤_;omega,by omega,[(4,4),(8,8)],rfl,rfl,⟨.inl rfl,⟨rfl,rfl,rfl⟩,⟨rfl,rfl,rfl⟩,PLe.int (by rw[q0];rfl),PLe.int (by rw[q2];rfl),PLe.int (by rw[q1];rfl),PLe.int (by rw[q3];rfl),PLe.int (by omega),trivial⟩,⟨rfl,rfl,⟨.inl rfl,.inl rfl,.inl rfl,.inl rfl,.inl rfl,.inl rfl,rfl⟩⟩,⟨rfl,rfl,⟨.inl rfl,.inl rfl,.inl rfl,rfl⟩⟩,trivial⟩
  ·rw[List.take_of_length_le (by omega)]
   have aN:=any_isN k
   have aT:=any_two isTB 2 3 (fun _=>rfl) k
   have aI:=any_two isIB 1 3 (fun _=>rfl) k
   have b0:=nK_le 0 k
   have b1:=nK_le 1 k
   have b2:=nK_le 2 k
   have b3:=nK_le 3 k
   obtain⟨c0,e0⟩:∃c,c=nK 0 k:=⟨_,rfl⟩
   obtain⟨c1,e1⟩:∃c,c=nK 1 k:=⟨_,rfl⟩
   obtain⟨c2,e2⟩:∃c,c=nK 2 k:=⟨_,rfl⟩
   obtain⟨c3,e3⟩:∃c,c=nK 3 k:=⟨_,rfl⟩
   rw[← e0] at aN b0
   rw[← e2,← e3] at aT
   rw[← e1,← e3] at aI
   rw[← e1] at b1
   rw[← e2] at b2
   rw[← e3] at b3
   rw[← e0,← e1,← e2,← e3]
   have l1:k.length - 1<k.length:=by omega
   by_cases g3:n.Op=3∨(5≤n.Op∧n.Op≤9)
   ·rw[if_pos g3]
    have q0:k.headD noV=k[0]:=by cases k with
     | nil=>simp at l0
     | cons x k=>rfl
    have q1:k.getLastD noV=k[k.length - 1]:=by
     rw[List.getLastD_eq_getLast?,List.getLast?_eq_getElem?,List.getElem?_eq_getElem l1];rfl
    have ei:(((k.map ValueD.c).length:Nat):Int) - 1=((k.length - 1:Nat):Int):=by rw[List.length_map];omega
    have pw:=p_wholeof n.Op k[0].N k[k.length - 1].N g3 (hk _ (List.getElem_mem _)).2 (hk _ (List.getElem_mem _)).2
    unfold recV
    rw[aT,aN,q0,q1]
    by_cases hT:0<c2+c3
    ·rw[decide_eq_true hT,if_pos rfl]
     ((conv=>whnf);repeat' ((first|(with_reducible first|apply a_|apply b_|apply c_)|((with_reducible first|apply d_|apply e_|apply f_|apply g_);focus first|omega|(simp only[q_]<;>omega))|((with_reducible first|apply i_|apply h_);focus first|omega|(simp only[q_]<;>omega))|((with_reducible apply h_);focus first|decide|kernel_rfl)|refine s_ (by decide) ?_|refine t_ (by decide) ?_|with_reducible first|apply l_|apply m_|apply n_|apply o_|refine p_ (fun _=>?_) (fun _=>?_))<;>(conv=>whnf)))
     all_goals first|exact Ret.eq rfl | (exfalso;omega)
    ·rw[decide_eq_false hT,if_neg (by simp)]
     by_cases hN:0<c0
     ·rw[decide_eq_true hN,if_pos rfl]
      ((conv=>whnf);repeat' ((first|(with_reducible first|apply a_|apply b_|apply c_)|((with_reducible first|apply d_|apply e_|apply f_|apply g_);focus first|omega|(simp only[q_]<;>omega))|((with_reducible first|apply i_|apply h_);focus first|omega|(simp only[q_]<;>omega))|((with_reducible apply h_);focus first|decide|kernel_rfl)|refine s_ (by decide) ?_|refine t_ (by decide) ?_|with_reducible first|apply l_|apply m_|apply n_|apply o_|refine p_ (fun _=>?_) (fun _=>?_))<;>(conv=>whnf)))
      all_goals first|exact Ret.eq rfl | (exfalso;omega)
     ·rw[decide_eq_false hN,if_neg (by simp)]
      by_cases he:(whoF n.Op k[0].N k[k.length - 1].N).2=0
      ·rw[if_neg (by simp[he])]
       ((conv=>whnf);repeat' ((first|(with_reducible first|apply a_|apply b_|apply c_)|((with_reducible first|apply d_|apply e_|apply f_|apply g_);focus first|omega|(simp only[q_]<;>omega))|((with_reducible first|apply i_|apply h_);focus first|omega|(simp only[q_]<;>omega))|((with_reducible apply h_);focus first|decide|kernel_rfl)|refine s_ (by decide) ?_|refine t_ (by decide) ?_|(refine Idx.mapI 0 rfl l0 ?_)|(refine Idx.mapI (k.length - 1) ei l1 ?_)|refine r_ pw rfl ?_|with_reducible first|apply l_|apply m_|apply n_|apply o_|refine p_ (fun _=>?_) (fun _=>?_))<;>(conv=>whnf)))
       all_goals first|exact Ret.eq rfl | (exfalso;omega)
      ·rw[if_pos he]
       ((conv=>whnf);repeat' ((first|(with_reducible first|apply a_|apply b_|apply c_)|((with_reducible first|apply d_|apply e_|apply f_|apply g_);focus first|omega|(simp only[q_]<;>omega))|((with_reducible first|apply i_|apply h_);focus first|omega|(simp only[q_]<;>omega))|((with_reducible apply h_);focus first|decide|kernel_rfl)|refine s_ (by decide) ?_|refine t_ (by decide) ?_|(refine Idx.mapI 0 rfl l0 ?_)|(refine Idx.mapI (k.length - 1) ei l1 ?_)|refine r_ pw rfl ?_|with_reducible first|apply l_|apply m_|apply n_|apply o_|refine p_ (fun _=>?_) (fun _=>?_))<;>(conv=>whnf)))
       all_goals first|exact Ret.eq rfl | (exfalso;omega)
   rw[if_neg g3]
   by_cases g4:n.Op=20∨n.Op=21
   ·rw[if_pos g4]
    have l2:k.length=2:=by
     rcases g4 with e | e<;>rw[e] at h3 h4
     ·have:leastK 20=2:=rfl
      have:mostK 20=2:=rfl
      omega
     ·have:leastK 21=2:=rfl
      have:mostK 21=2:=rfl
      omega
    have l3:1<k.length:=by omega
    rw[getD_at l0,getD_at l3,aI,aN]
    have pc:=p_check (tx k[1].S)
    by_cases hI:0<c1+c3
    ·rw[decide_eq_true hI,if_pos rfl]
     ((conv=>whnf);repeat' ((first|(with_reducible first|apply a_|apply b_|apply c_)|((with_reducible first|apply d_|apply e_|apply f_|apply g_);focus first|omega|(simp only[q_]<;>omega))|((with_reducible first|apply i_|apply h_);focus first|omega|(simp only[q_]<;>omega))|((with_reducible apply h_);focus first|decide|kernel_rfl)|refine s_ (by decide) ?_|refine t_ (by decide) ?_|with_reducible first|apply l_|apply m_|apply n_|apply o_|refine p_ (fun _=>?_) (fun _=>?_))<;>(conv=>whnf)))
     all_goals first|exact Ret.eq rfl | (exfalso;omega)
    ·rw[decide_eq_false hI,if_neg (by simp)]
     by_cases hN:0<c0
     ·rw[decide_eq_true hN,if_pos rfl]
      ((conv=>whnf);repeat' ((first|(with_reducible first|apply a_|apply b_|apply c_)|((with_reducible first|apply d_|apply e_|apply f_|apply g_);focus first|omega|(simp only[q_]<;>omega))|((with_reducible first|apply i_|apply h_);focus first|omega|(simp only[q_]<;>omega))|((with_reducible apply h_);focus first|decide|kernel_rfl)|refine s_ (by decide) ?_|refine t_ (by decide) ?_|with_reducible first|apply l_|apply m_|apply n_|apply o_|refine p_ (fun _=>?_) (fun _=>?_))<;>(conv=>whnf)))
      all_goals first|exact Ret.eq rfl | (exfalso;omega)
     ·rw[decide_eq_false hN,if_neg (by simp)]
      by_cases he:LikeP.patE (tx k[1].S)=0
      ·rw[if_neg (by rw[he];decide)]
       rw[he] at pc
       have ps:=tx_small ((okV_kind (hk _ (List.getElem_mem l0)).1).2.2)
       have pm:=p_matchof (tx k[1].S) (tx k[0].S) he (by omega)
       have pt:=p_truth (LikeP.matB (tx k[1].S) (tx k[0].S)==decide (n.Op=20))
       have pv:=p_truthvalue _ (isT_of (LikeP.matB (tx k[1].S) (tx k[0].S)==decide (n.Op=20)))
       ((conv=>whnf);repeat' ((first|(with_reducible first|apply a_|apply b_|apply c_)|((with_reducible first|apply d_|apply e_|apply f_|apply g_);focus first|omega|(simp only[q_]<;>omega))|((with_reducible first|apply i_|apply h_);focus first|omega|(simp only[q_]<;>omega))|((with_reducible apply h_);focus first|decide|kernel_rfl)|refine s_ (by decide) ?_|refine t_ (by decide) ?_|(refine Idx.mapI 0 rfl l0 ?_)|(refine Idx.mapI 1 rfl l3 ?_)|refine r_ pc rfl ?_|refine r_ pm rfl ?_|refine r_ pt rfl ?_|refine r_ pv rfl ?_|with_reducible first|apply l_|apply m_|apply n_|apply o_|refine p_ (fun _=>?_) (fun _=>?_))<;>(conv=>whnf)))
       all_goals first|exact Ret.eq rfl | (exfalso;omega)
      ·rw[if_pos he]
       ((conv=>whnf);repeat' ((first|(with_reducible first|apply a_|apply b_|apply c_)|((with_reducible first|apply d_|apply e_|apply f_|apply g_);focus first|omega|(simp only[q_]<;>omega))|((with_reducible first|apply i_|apply h_);focus first|omega|(simp only[q_]<;>omega))|((with_reducible apply h_);focus first|decide|kernel_rfl)|refine s_ (by decide) ?_|refine t_ (by decide) ?_|(refine Idx.mapI 1 rfl l3 ?_)|refine r_ pc rfl ?_|with_reducible first|apply l_|apply m_|apply n_|apply o_|refine p_ (fun _=>?_) (fun _=>?_))<;>(conv=>whnf)))
       all_goals first|exact Ret.eq rfl | (exfalso;omega)
   rw[if_neg g4]
   by_cases g5:n.Op=4∨n.Op=16∨n.Op=17
   ·rw[if_pos g5,aT]
    by_cases hT:0<c2+c3
    ·rw[decide_eq_true hT,if_pos rfl]
     ((conv=>whnf);repeat' ((first|(with_reducible first|apply a_|apply b_|apply c_)|((with_reducible first|apply d_|apply e_|apply f_|apply g_);focus first|omega|(simp only[q_]<;>omega))|((with_reducible first|apply i_|apply h_);focus first|omega|(simp only[q_]<;>omega))|((with_reducible apply h_);focus first|decide|kernel_rfl)|refine s_ (by decide) ?_|refine t_ (by decide) ?_|with_reducible first|apply l_|apply m_|apply n_|apply o_|refine p_ (fun _=>?_) (fun _=>?_))<;>(conv=>whnf)))
     all_goals first|exact Ret.eq rfl | (exfalso;omega)
    ·rw[decide_eq_false hT,if_neg (by simp)]
     obtain⟨Q,hQ⟩:∃Q,Q=(k.map fun v=>(meaV v).1):=⟨_,rfl⟩
     have eQ:(k.map fun v=>(meaV v).1).headD 0=(k.map fun v=>(meaV v).1)[0]'(by rw[List.length_map];exact l0):=by cases k with
      | nil=>simp at l0
      | cons x k=>rfl
     have pa:=p_truthall (k.map fun v=>(meaV v).1) (by rw[List.length_map];omega)
     have py:=p_truthany (k.map fun v=>(meaV v).1) (by rw[List.length_map];omega)
     have pn:=p_truthnot ((k.map fun v=>(meaV v).1)[0]'(by rw[List.length_map];exact l0))
     have va:=p_truthvalue _ (isT_all (k.map fun v=>(meaV v).1))
     have vy:=p_truthvalue _ (isT_any (k.map fun v=>(meaV v).1))
     have vn:=p_truthvalue _ (isT_not ((k.map fun v=>(meaV v).1)[0]'(by rw[List.length_map];exact l0)))
     rcases g5 with e | e | e
     ·((conv=>whnf);repeat' ((first|(with_reducible first|apply a_|apply b_|apply c_)|((with_reducible first|apply d_|apply e_|apply f_|apply g_);focus first|omega|(simp only[q_]<;>omega))|((with_reducible first|apply i_|apply h_);focus first|omega|(simp only[q_]<;>omega))|((with_reducible apply h_);focus first|decide|kernel_rfl)|refine s_ (by decide) ?_|refine t_ (by decide) ?_|with_reducible first|apply l_|apply m_|apply n_|apply o_|refine p_ (fun _=>?_) (fun _=>?_))<;>(conv=>whnf)))
      refine LoopC.mk Nat (fun j=>[(1,slV 3 ValueD.c k),(4,.d (.ptr 4 0)),(8,.d (.ptr 8 0)),(19,.d (.app 60 3 1 (((k.take j).map fun v=>(meaV v).1).map eInt))),(20,pInt .i64 j)]) (fun _=>[(4,.box 35 (n.c.map D.c)),(8,.box 33 vZ),(60,.tail 3 1)]) [4,8,60] (fun j=>j≤k.length) (fun j=>k.length - j) 0 (Nat.zero_le _) ?s4 ?r4
      case s4=>exact⟨[(4,4),(8,8)],rfl,rfl,⟨.inl rfl,⟨rfl,rfl,rfl⟩,⟨rfl,rfl,rfl⟩,⟨rfl,rfl,Nat.zero_lt_succ _,rfl,rfl⟩,.inl rfl,trivial⟩,⟨rfl,rfl,⟨.inl rfl,.inl rfl,.inl rfl,.inl rfl,.inl rfl,.inl rfl,rfl⟩⟩,⟨rfl,rfl,⟨.inl rfl,.inl rfl,.inl rfl,rfl⟩⟩,⟨rfl,Nat.zero_lt_succ _⟩,trivial⟩
      case r4=>
       intro j hj
       have hj:j≤k.length:=hj
       by_cases q:j<k.length
       ·have pm:=p_truthof k[j] (okV_kind (hk _ (List.getElem_mem q)).1).1
        ((conv=>whnf);repeat' ((first|(with_reducible first|apply a_|apply b_|apply c_)|((with_reducible first|apply d_|apply e_|apply f_|apply g_);focus first|omega|(simp only[q_]<;>omega))|((with_reducible first|apply i_|apply h_);focus first|omega|(simp only[q_]<;>omega))|((with_reducible apply h_);focus first|decide|kernel_rfl)|refine s_ (by decide) ?_|refine t_ (by decide) ?_|(refine Idx.mapI j rfl q ?_)|refine r_ pm rfl ?_|(refine Need.by 8 rfl (by simp only[List.length_map,List.length_take,List.length_singleton];omega) ?_)|with_reducible first|apply l_|apply m_|apply n_|apply o_|refine p_ (fun _=>?_) (fun _=>?_))<;>(conv=>whnf)))
        exact⟨j+1,by show j+1≤_;omega,by omega,[(4,4),(8,8),(60,200)],rfl,rfl,⟨.inl rfl,⟨rfl,rfl,rfl⟩,⟨rfl,rfl,rfl⟩,⟨rfl,rfl,rfl,rfl,by rw[take_snoc q,List.map_append,List.map_append];rfl⟩,PLe.int (by omega),trivial⟩,⟨rfl,rfl,⟨.inl rfl,.inl rfl,.inl rfl,.inl rfl,.inl rfl,.inl rfl,rfl⟩⟩,⟨rfl,rfl,⟨.inl rfl,.inl rfl,.inl rfl,rfl⟩⟩,⟨rfl,rfl,rfl⟩,trivial⟩
       ·rw[List.take_of_length_le (by omega)]
        rw[if_pos e,eQ]
        ((conv=>whnf);repeat' ((first|(with_reducible first|apply a_|apply b_|apply c_)|((with_reducible first|apply d_|apply e_|apply f_|apply g_);focus first|omega|(simp only[q_]<;>omega))|((with_reducible first|apply i_|apply h_);focus first|omega|(simp only[q_]<;>omega))|((with_reducible apply h_);focus first|decide|kernel_rfl)|refine s_ (by decide) ?_|refine t_ (by decide) ?_|(refine Idx.mapI 0 rfl (by rw[List.length_map];exact l0) ?_)|refine r_ pn rfl ?_|refine r_ vn rfl ?_|with_reducible first|apply l_|apply m_|apply n_|apply o_|refine p_ (fun _=>?_) (fun _=>?_))<;>(conv=>whnf)))
        all_goals first|exact Ret.eq rfl | (exfalso;omega)
     ·((conv=>whnf);repeat' ((first|(with_reducible first|apply a_|apply b_|apply c_)|((with_reducible first|apply d_|apply e_|apply f_|apply g_);focus first|omega|(simp only[q_]<;>omega))|((with_reducible first|apply i_|apply h_);focus first|omega|(simp only[q_]<;>omega))|((with_reducible apply h_);focus first|decide|kernel_rfl)|refine s_ (by decide) ?_|refine t_ (by decide) ?_|with_reducible first|apply l_|apply m_|apply n_|apply o_|refine p_ (fun _=>?_) (fun _=>?_))<;>(conv=>whnf)))
      refine LoopC.mk Nat (fun j=>[(1,slV 3 ValueD.c k),(4,.d (.ptr 4 0)),(8,.d (.ptr 8 0)),(19,.d (.app 60 3 1 (((k.take j).map fun v=>(meaV v).1).map eInt))),(20,pInt .i64 j)]) (fun _=>[(4,.box 35 (n.c.map D.c)),(8,.box 33 vZ),(60,.tail 3 1)]) [4,8,60] (fun j=>j≤k.length) (fun j=>k.length - j) 0 (Nat.zero_le _) ?s16 ?r16
      case s16=>exact⟨[(4,4),(8,8)],rfl,rfl,⟨.inl rfl,⟨rfl,rfl,rfl⟩,⟨rfl,rfl,rfl⟩,⟨rfl,rfl,Nat.zero_lt_succ _,rfl,rfl⟩,.inl rfl,trivial⟩,⟨rfl,rfl,⟨.inl rfl,.inl rfl,.inl rfl,.inl rfl,.inl rfl,.inl rfl,rfl⟩⟩,⟨rfl,rfl,⟨.inl rfl,.inl rfl,.inl rfl,rfl⟩⟩,⟨rfl,Nat.zero_lt_succ _⟩,trivial⟩
      case r16=>
       intro j hj
       have hj:j≤k.length:=hj
       by_cases q:j<k.length
       ·have pm:=p_truthof k[j] (okV_kind (hk _ (List.getElem_mem q)).1).1
        ((conv=>whnf);repeat' ((first|(with_reducible first|apply a_|apply b_|apply c_)|((with_reducible first|apply d_|apply e_|apply f_|apply g_);focus first|omega|(simp only[q_]<;>omega))|((with_reducible first|apply i_|apply h_);focus first|omega|(simp only[q_]<;>omega))|((with_reducible apply h_);focus first|decide|kernel_rfl)|refine s_ (by decide) ?_|refine t_ (by decide) ?_|(refine Idx.mapI j rfl q ?_)|refine r_ pm rfl ?_|(refine Need.by 8 rfl (by simp only[List.length_map,List.length_take,List.length_singleton];omega) ?_)|with_reducible first|apply l_|apply m_|apply n_|apply o_|refine p_ (fun _=>?_) (fun _=>?_))<;>(conv=>whnf)))
        exact⟨j+1,by show j+1≤_;omega,by omega,[(4,4),(8,8),(60,200)],rfl,rfl,⟨.inl rfl,⟨rfl,rfl,rfl⟩,⟨rfl,rfl,rfl⟩,⟨rfl,rfl,rfl,rfl,by rw[take_snoc q,List.map_append,List.map_append];rfl⟩,PLe.int (by omega),trivial⟩,⟨rfl,rfl,⟨.inl rfl,.inl rfl,.inl rfl,.inl rfl,.inl rfl,.inl rfl,rfl⟩⟩,⟨rfl,rfl,⟨.inl rfl,.inl rfl,.inl rfl,rfl⟩⟩,⟨rfl,rfl,rfl⟩,trivial⟩
       ·rw[List.take_of_length_le (by omega)]
        rw[if_neg (by omega),if_pos e]
        ((conv=>whnf);repeat' ((first|(with_reducible first|apply a_|apply b_|apply c_)|((with_reducible first|apply d_|apply e_|apply f_|apply g_);focus first|omega|(simp only[q_]<;>omega))|((with_reducible first|apply i_|apply h_);focus first|omega|(simp only[q_]<;>omega))|((with_reducible apply h_);focus first|decide|kernel_rfl)|refine s_ (by decide) ?_|refine t_ (by decide) ?_|refine r_ pa rfl ?_|refine r_ va rfl ?_|with_reducible first|apply l_|apply m_|apply n_|apply o_|refine p_ (fun _=>?_) (fun _=>?_))<;>(conv=>whnf)))
        all_goals first|exact Ret.eq rfl | (exfalso;omega)
     ·((conv=>whnf);repeat' ((first|(with_reducible first|apply a_|apply b_|apply c_)|((with_reducible first|apply d_|apply e_|apply f_|apply g_);focus first|omega|(simp only[q_]<;>omega))|((with_reducible first|apply i_|apply h_);focus first|omega|(simp only[q_]<;>omega))|((with_reducible apply h_);focus first|decide|kernel_rfl)|refine s_ (by decide) ?_|refine t_ (by decide) ?_|with_reducible first|apply l_|apply m_|apply n_|apply o_|refine p_ (fun _=>?_) (fun _=>?_))<;>(conv=>whnf)))
      refine LoopC.mk Nat (fun j=>[(1,slV 3 ValueD.c k),(4,.d (.ptr 4 0)),(8,.d (.ptr 8 0)),(19,.d (.app 60 3 1 (((k.take j).map fun v=>(meaV v).1).map eInt))),(20,pInt .i64 j)]) (fun _=>[(4,.box 35 (n.c.map D.c)),(8,.box 33 vZ),(60,.tail 3 1)]) [4,8,60] (fun j=>j≤k.length) (fun j=>k.length - j) 0 (Nat.zero_le _) ?s17 ?r17
      case s17=>exact⟨[(4,4),(8,8)],rfl,rfl,⟨.inl rfl,⟨rfl,rfl,rfl⟩,⟨rfl,rfl,rfl⟩,⟨rfl,rfl,Nat.zero_lt_succ _,rfl,rfl⟩,.inl rfl,trivial⟩,⟨rfl,rfl,⟨.inl rfl,.inl rfl,.inl rfl,.inl rfl,.inl rfl,.inl rfl,rfl⟩⟩,⟨rfl,rfl,⟨.inl rfl,.inl rfl,.inl rfl,rfl⟩⟩,⟨rfl,Nat.zero_lt_succ _⟩,trivial⟩
      case r17=>
       intro j hj
       have hj:j≤k.length:=hj
       by_cases q:j<k.length
       ·have pm:=p_truthof k[j] (okV_kind (hk _ (List.getElem_mem q)).1).1
        ((conv=>whnf);repeat' ((first|(with_reducible first|apply a_|apply b_|apply c_)|((with_reducible first|apply d_|apply e_|apply f_|apply g_);focus first|omega|(simp only[q_]<;>omega))|((with_reducible first|apply i_|apply h_);focus first|omega|(simp only[q_]<;>omega))|((with_reducible apply h_);focus first|decide|kernel_rfl)|refine s_ (by decide) ?_|refine t_ (by decide) ?_|(refine Idx.mapI j rfl q ?_)|refine r_ pm rfl ?_|(refine Need.by 8 rfl (by simp only[List.length_map,List.length_take,List.length_singleton];omega) ?_)|with_reducible first|apply l_|apply m_|apply n_|apply o_|refine p_ (fun _=>?_) (fun _=>?_))<;>(conv=>whnf)))
        exact⟨j+1,by show j+1≤_;omega,by omega,[(4,4),(8,8),(60,200)],rfl,rfl,⟨.inl rfl,⟨rfl,rfl,rfl⟩,⟨rfl,rfl,rfl⟩,⟨rfl,rfl,rfl,rfl,by rw[take_snoc q,List.map_append,List.map_append];rfl⟩,PLe.int (by omega),trivial⟩,⟨rfl,rfl,⟨.inl rfl,.inl rfl,.inl rfl,.inl rfl,.inl rfl,.inl rfl,rfl⟩⟩,⟨rfl,rfl,⟨.inl rfl,.inl rfl,.inl rfl,rfl⟩⟩,⟨rfl,rfl,rfl⟩,trivial⟩
       ·rw[List.take_of_length_le (by omega)]
        rw[if_neg (by omega),if_neg (by omega)]
        ((conv=>whnf);repeat' ((first|(with_reducible first|apply a_|apply b_|apply c_)|((with_reducible first|apply d_|apply e_|apply f_|apply g_);focus first|omega|(simp only[q_]<;>omega))|((with_reducible first|apply i_|apply h_);focus first|omega|(simp only[q_]<;>omega))|((with_reducible apply h_);focus first|decide|kernel_rfl)|refine s_ (by decide) ?_|refine t_ (by decide) ?_|refine r_ py rfl ?_|refine r_ vy rfl ?_|with_reducible first|apply l_|apply m_|apply n_|apply o_|refine p_ (fun _=>?_) (fun _=>?_))<;>(conv=>whnf)))
        all_goals first|exact Ret.eq rfl | (exfalso;omega)
   rw[if_neg g5]
   have pq:=p_askof n.Op k (by omega) (by omega) hk (by omega)
   have ht:IsT (askR n.Op k):=by
    unfold askR
    (repeat' split)<;>first|exact isT_same _ _|exact isT_not _|exact isT_less _ _|exact isT_of _|exact isT_any _|exact isT_and _ _
   have pv:=p_truthvalue _ ht
   ((conv=>whnf);repeat' ((first|(with_reducible first|apply a_|apply b_|apply c_)|((with_reducible first|apply d_|apply e_|apply f_|apply g_);focus first|omega|(simp only[q_]<;>omega))|((with_reducible first|apply i_|apply h_);focus first|omega|(simp only[q_]<;>omega))|((with_reducible apply h_);focus first|decide|kernel_rfl)|refine s_ (by decide) ?_|refine t_ (by decide) ?_|refine r_ pq rfl ?_|refine r_ pv rfl ?_|with_reducible first|apply l_|apply m_|apply n_|apply o_|refine p_ (fun _=>?_) (fun _=>?_))<;>(conv=>whnf)))
   all_goals first|exact Ret.eq rfl | (exfalso;omega)
end
section
open Go.RowKit K
set_option maxRecDepth 100000
def NInT (t:Ex):Prop:=∀n∈t.flat,alF n=0∧WholeP.In64 n.V.N
theorem flats_mem:∀{l:List Ex} {t:Ex} {m:NodeD},t∈l→m∈t.flat→m∈Ex.flats l
 | [],_,_,h,_=>by cases h
 | x::l,t,m,h,hm=>by
  rw[Ex.flats]
  rcases List.mem_cons.1 h with rfl | h
  ·exact List.mem_append_left _ hm
  ·exact List.mem_append_right _ (flats_mem h hm)
theorem nInT_kid {n:NodeD} {ks:List Ex} (h:NInT (.mk n ks)):∀t∈ks,NInT t:=by
 intro t ht m hm
 refine h m ?_
 rw[Ex.flat]
 refine List.mem_append_left _ ?_
 exact flats_mem ht hm
theorem nInT_root {n:NodeD} {ks:List Ex} (h:NInT (.mk n ks)):alF n=0∧WholeP.In64 n.V.N:=h n (by rw[Ex.flat];simp)
mutual
theorem foldX_rv {look:Look} (hL:LookOk look):∀(t:Ex),NInT t→∀v,foldX (nodF look) t=.ok v→RV v
 | .mk n ks,hn,v,h=>by
  rw[foldX] at h
  split at h
  ·cases h
  ·rename_i vs hvs
   unfold nodF at h
   split at h
   ·cases h
    have hr:=nInT_root hn
    exact nod_rv hL hr.1 hr.2 fun u hu=>(foldXs_rv hL ks (nInT_kid hn) vs hvs u hu).2
   ·cases h
theorem foldXs_rv {look:Look} (hL:LookOk look):∀(l:List Ex),(∀t∈l,NInT t)→∀vs,foldXs (nodF look) l=.ok vs→∀u∈vs,RV u
 | [],_,vs,h,u,hu=>by rw[foldXs] at h;cases h;cases hu
 | t::l,hn,vs,h,u,hu=>by
  rw[foldXs] at h
  split at h
  ·cases h
  ·rename_i v hv
   split at h
   ·cases h
   ·rename_i us hus
    cases h
    rcases List.mem_cons.1 hu with rfl | hu
    ·exact foldX_rv hL t (hn t (List.mem_cons_self ..)) _ hv
    ·exact foldXs_rv hL l (fun t ht=>hn t (List.mem_cons_of_mem _ ht)) us hus u hu
end
mutual
theorem foldX_err {look:Look}:∀(t:Ex) {x:Int},foldX (nodF look) t=.error x→x≠0
 | .mk n ks,x,h=>by
  rw[foldX] at h
  split at h
  ·rename_i y hy;cases h;exact foldXs_err ks hy
  ·exact nodF_err h
theorem foldXs_err {look:Look}:∀(l:List Ex) {x:Int},foldXs (nodF look) l=.error x→x≠0
 | [],x,h=>by rw[foldXs] at h;cases h
 | t::l,x,h=>by
  rw[foldXs] at h
  split at h
  ·rename_i y hy;cases h;exact foldX_err t hy
  ·split at h
   ·rename_i y hy;cases h;exact foldXs_err l hy
   ·cases h
end
theorem recV_err {op:Int} {k:List ValueD} (h:(recV op k).2≠0):(recV op k).1=noV:=by
 unfold recV at h ⊢
 split
 ·rfl
 ·rename_i q;rw[if_neg q] at h
  split
  ·rfl
  ·rename_i q;rw[if_neg q] at h
   split
   ·rfl
   ·rename_i q;rw[if_neg q] at h;exact absurd rfl h
theorem nodV_err {look:Look} {n:NodeD} {k:List ValueD} (h:(nodV look n k).2≠0):(nodV look n k).1=noV:=by
 unfold nodV at h ⊢
 by_cases g1:n.Op=1
 ·rw[if_pos g1] at h;exact absurd rfl h
 rw[if_neg g1] at h ⊢
 by_cases g2:n.Op=2
 ·rw[if_pos g2] at h ⊢
  cases hq:look n.Name with
  | none=>rfl
  | some v=>rw[hq] at h;exact absurd rfl h
 rw[if_neg g2] at h ⊢
 by_cases g3:n.Op=3∨(5≤n.Op∧n.Op≤9)
 ·rw[if_pos g3] at h ⊢;exact recV_err h
 rw[if_neg g3] at h ⊢
 by_cases g4:(askV (if negB n.Op then couF n.Op else n.Op) k).2≠0
 ·rw[if_pos g4]
 ·rw[if_neg g4] at h;exact absurd rfl h
def aheadV (vs:List ValueD) (r:Except Int (List ValueD)):Except Int (List ValueD):=match r with
 | .error x=>.error x
 | .ok us=>.ok (vs++us)
theorem p_valueof (cols:List (List UInt8)) (row:List ValueD) (hc:cols.length=row.length) (hcl:cols.length≤1000000) (hr:∀v∈row,RV v):∀(N:Nat) (t:Ex),t.flat.length≤N→t.good→NInT t→t.flat.length≤1000→
  Pure Tryz.prog 81 [slV 6 NodeD.c t.flat,slV 1 eText cols,slV 3 ValueD.c row] (eVal (foldX (nodF (lookC cols row)) t))
 | 0,t,hN,hg,hn,hl=>by have:=t.flat_pos;omega
 | N+1,.mk n ks,hN,hg,hn,hl=>by
  have hg0:=hg
  rw[Ex.good] at hg
  obtain⟨hk,hgs⟩:=hg
  have hlen:(Ex.mk n ks).flat.length=(Ex.flats ks).length+1:=by rw[Ex.flat,List.length_append,List.length_singleton]
  have hkb:=len_le_flats ks
  obtain⟨e,he⟩:∃e,e=(Ex.mk n ks).flat:=⟨_,rfl⟩
  have pk:=p_exprkids n ks hg0 e he.symm (by rw[he];exact hl)
  have he2:=root_at (n:=n) (ks:=ks) (e:=e) (pre:=[]) (post:=[]) (by rw[he];simp)
  obtain⟨hr1,hr2⟩:=root_get he2
  have hpl:([]++Ex.flats ks).length=(Ex.flats ks).length:=rfl
  have hel:e.length=(Ex.flats ks).length+1:=by rw[he,hlen]
  have hml:(e.map NodeD.c).length=(Ex.flats ks).length+1:=by rw[List.length_map,hel]
  have hroot:=nInT_root hn
  have hL:=look_ok (cols:=cols) hr
  rw[← he] at hl hN ⊢
  rw[foldX]
  refine pure_of Tryz.func81 (by rfl) rfl (by kernel_rfl) (by rfl) ?_
  ((conv=>whnf);repeat' ((first|(with_reducible first|apply a_|apply b_|apply c_)|((with_reducible first|apply d_|apply e_|apply f_|apply g_);focus first|omega|(simp only[q_]<;>omega))|((with_reducible first|apply i_|apply h_);focus first|omega|(simp only[q_]<;>omega))|((with_reducible apply h_);focus first|decide|kernel_rfl)|refine s_ (by decide) ?_|refine t_ (by decide) ?_|refine r_ pk rfl ?_|with_reducible first|apply l_|apply m_|apply n_|apply o_|refine p_ (fun _=>?_) (fun _=>?_))<;>(conv=>whnf)))
  refine LoopC.mk (Nat×List ValueD) (fun s=>[(0,slV 6 NodeD.c e),(1,slV 1 eText cols),(2,slV 3 ValueD.c row),(6,.d (.ptr 6 0)),(8,.d (.c (.sl 1 (ks.map fun k=>ek k.flat)))),(9,.d (.app 60 33 3 (s.2.map ValueD.c))),(10,pInt .i64 s.1)]) (fun s=>[(6,.box 33 vZ),(60,.tail 33 3)]) [6,60] (fun s=>s.1≤ks.length∧s.2.length=s.1∧foldXs (nodF (lookC cols row)) ks=aheadV s.2 (foldXs (nodF (lookC cols row)) (ks.drop s.1))) (fun s=>ks.length - s.1) (0,[]) ⟨Nat.zero_le _,rfl,?base⟩ ?start ?round
  case base=>
   show foldXs _ ks=aheadV [] (foldXs _ ks)
   cases foldXs (nodF (lookC cols row)) ks<;>rfl
  case start=>exact⟨[(6,6)],rfl,rfl,⟨.inl rfl,.inl rfl,.inl rfl,⟨rfl,rfl,rfl⟩,.inl rfl,⟨rfl,rfl,Nat.zero_lt_succ _,rfl,rfl⟩,.inl rfl,trivial⟩,⟨rfl,rfl,⟨.inl rfl,.inl rfl,.inl rfl,rfl⟩⟩,⟨rfl,Nat.zero_lt_succ _⟩,trivial⟩
  case round=>
   rintro⟨j,vs⟩ ⟨hj,hvl,hz⟩
   have hj:j≤ks.length:=hj
   have hvl:vs.length=j:=hvl
   have hz:foldXs (nodF (lookC cols row)) ks=aheadV vs (foldXs (nodF (lookC cols row)) (ks.drop j)):=hz
   by_cases q:j<ks.length
   ·have hm:=List.getElem_mem q
    have hfl:=flat_le_flats hm
    have pv:=p_valueof cols row hc hcl hr N ks[j] (by omega) (Ex.goods_mem hgs _ hm) (nInT_kid hn _ hm) (by omega)
    rw[List.drop_eq_getElem_cons q,foldXs] at hz
    cases hx:foldX (nodF (lookC cols row)) ks[j] with
    | error x=>
     rw[hx] at hz pv
     have pv:Pure _ _ _ (.tup [vV noV,pInt .i64 x]):=pv
     have h0:=foldX_err _ hx
     rw[hz]
     ((conv=>whnf);repeat' ((first|(with_reducible first|apply a_|apply b_|apply c_)|((with_reducible first|apply d_|apply e_|apply f_|apply g_);focus first|omega|(simp only[q_]<;>omega))|((with_reducible first|apply i_|apply h_);focus first|omega|(simp only[q_]<;>omega))|((with_reducible apply h_);focus first|decide|kernel_rfl)|refine s_ (by decide) ?_|refine t_ (by decide) ?_|(refine Idx.mapI (f:=fun k=>ek k.flat) j rfl q ?_)|refine r_ pv rfl ?_|with_reducible first|apply l_|apply m_|apply n_|apply o_|refine p_ (fun _=>?_) (fun _=>?_))<;>(conv=>whnf)))
     all_goals first|exact Ret.eq rfl | (exfalso;omega)
    | ok v=>
     rw[hx] at hz pv
     have pv:Pure _ _ _ (.tup [vV v,pInt .i64 0]):=pv
     ((conv=>whnf);repeat' ((first|(with_reducible first|apply a_|apply b_|apply c_)|((with_reducible first|apply d_|apply e_|apply f_|apply g_);focus first|omega|(simp only[q_]<;>omega))|((with_reducible first|apply i_|apply h_);focus first|omega|(simp only[q_]<;>omega))|((with_reducible apply h_);focus first|decide|kernel_rfl)|refine s_ (by decide) ?_|refine t_ (by decide) ?_|(refine Idx.mapI (f:=fun k=>ek k.flat) j rfl q ?_)|refine r_ pv rfl ?_|(refine Need.by 32 rfl (by simp only[List.length_map,List.length_singleton];omega) ?_)|with_reducible first|apply l_|apply m_|apply n_|apply o_|refine p_ (fun _=>?_) (fun _=>?_))<;>(conv=>whnf)))
     refine⟨(j+1,vs++[v]),⟨by show j+1≤_;omega,by show (vs++[v]).length=j+1;simp[hvl],?_⟩,by show ks.length - (j+1)<ks.length - j;omega,[(6,6),(60,38)],rfl,rfl,⟨.inl rfl,.inl rfl,.inl rfl,⟨rfl,rfl,rfl⟩,.inl rfl,⟨rfl,rfl,rfl,rfl,by rw[List.map_append];rfl⟩,PLe.int (by omega),trivial⟩,⟨rfl,rfl,⟨.inl rfl,.inl rfl,.inl rfl,rfl⟩⟩,⟨rfl,rfl,rfl⟩,trivial⟩
     show foldXs _ ks=aheadV (vs++[v]) (foldXs _ (ks.drop (j+1)))
     rw[hz]
     cases foldXs (nodF (lookC cols row)) (ks.drop (j+1)) with
     | error x=>rfl
     | ok us=>simp[aheadV]
   ·rw[List.drop_of_length_le (by omega),foldXs] at hz
    have hz:foldXs (nodF (lookC cols row)) ks=.ok vs:=by rw[hz];show Except.ok (vs++[])=_;rw[List.append_nil]
    have hvr:=foldXs_rv hL ks (nInT_kid hn) vs hz
    have pn:=p_nodeof cols row hc hcl n vs hroot.1 (by rw[hvl,hk];omega) hvr
    rw[nod_eq (lookC cols row) hroot.1 (by rw[hvl,hk];omega) (fun v hv=>(hvr v hv).1)] at pn
    rw[hz]
    ((conv=>whnf);repeat' ((first|(with_reducible first|apply a_|apply b_|apply c_)|((with_reducible first|apply d_|apply e_|apply f_|apply g_);focus first|omega|(simp only[q_]<;>omega))|((with_reducible first|apply i_|apply h_);focus first|omega|(simp only[q_]<;>omega))|((with_reducible apply h_);focus first|decide|kernel_rfl)|refine s_ (by decide) ?_|refine t_ (by decide) ?_|(refine Idx.mapE ([]++Ex.flats ks).length (by omega) hr1 hr2 ?_)|refine r_ pn rfl ?_|with_reducible first|apply l_|apply m_|apply n_|apply o_|refine p_ (fun _=>?_) (fun _=>?_))<;>(conv=>whnf)))
    refine Ret.eq ?_
    show _=eVal (nodF (lookC cols row) n vs)
    unfold nodF
    split
    ·rename_i h0;rw[h0];rfl
    ·rename_i h0;rw[nodV_err h0];rfl
end
section
open Go.RowKit K
set_option maxRecDepth 100000
end
section
open Go.RowKit K
set_option maxRecDepth 100000
end
section
open Go.RowKit K
set_option maxRecDepth 100000
structure FoldD where
 e:List NodeD
 cols:Bool
def FoldD.c (x:FoldD):List C:=[.sl 6 (x.e.map NodeD.c),.v (.bool x.cols)]
end
section
open Go.RowKit K
set_option maxRecDepth 100000
theorem walkG_rv {look:Look} (hL:LookOk look):∀(l:List NodeD) (st us:List ValueD),NIn l→(∀x∈st,RV x)→walkG (nodF look) st l=.ok us→∀x∈us,RV x
 | [],st,us,_,hs,h=>by cases h;exact hs
 | n::l,st,us,hn,hs,h=>by
  rw[walkG_cons] at h
  split at h
  ·cases h
  ·split at h
   ·cases h
   ·rename_i x hx
    have h1:=hn n (List.mem_cons_self ..)
    refine walkG_rv hL l _ us (fun m hm=>hn m (List.mem_cons_of_mem _ hm)) (fun y hy=>?_) h
    rcases List.mem_append.1 hy with hy | hy
    ·exact hs y (List.mem_of_mem_take hy)
    ·rw[List.mem_singleton.1 hy]
     unfold nodF at hx
     split at hx
     ·cases hx;exact nod_rv hL h1.1 h1.2 fun v hv=>(hs v (List.mem_of_mem_drop hv)).2
     ·cases hx
theorem walkR_rv {look:Look} (hL:LookOk look) {l:List NodeD} {v:ValueD} (hn:NIn l) (h:walkR (nodF look) l=.ok v):RV v:=by
 unfold walkR at h
 split at h
 ·cases h
 ·rename_i x hx
  cases h
  exact walkG_rv hL l [] _ hn (fun x hx=>by cases hx) hx _ (List.mem_cons_self ..)
 ·cases h
end
section
open Go.RowKit K
set_option maxRecDepth 100000
end
section
open Go.RowKit K
set_option maxRecDepth 100000
end
section
open Go.RowKit
end
section
open Go.RowKit K
set_option maxRecDepth 100000
end
section
open Go.RowKit K
set_option maxRecDepth 100000
def HN (e:List NodeD):Prop:=∀n∈e,hNode n
end
section
open Go.RowKit K
set_option maxRecDepth 100000
theorem p_scopecheck (e:List NodeD) (hn:∀n∈e,okText n.Name) (cols:List (List UInt8)) (row:List ValueD) (hr:row.length≤140737488355328):Pure Tryz.prog 80 [slV 6 NodeD.c e,slV 1 eText cols,slV 3 ValueD.c row] (pInt .i64 (scopeE e cols row)):=by
 have pe:=p_exprcheck e hn
 have pc:=p_checkvalues row hr
 refine pure_of Tryz.func80 (by rfl) rfl (by kernel_rfl) (by rfl) ?_
 unfold scopeE
 by_cases h1:checkF e=0
 ·rw[if_neg (by rw[h1];decide)]
  rw[h1] at pe
  by_cases h2:8<cols.length
  ·rw[if_pos h2]
   ((conv=>whnf);repeat' ((first|(with_reducible first|apply a_|apply b_|apply c_)|((with_reducible first|apply d_|apply e_|apply f_|apply g_);focus first|omega|(simp only[q_]<;>omega))|((with_reducible first|apply i_|apply h_);focus first|omega|(simp only[q_]<;>omega))|((with_reducible apply h_);focus first|decide|kernel_rfl)|refine s_ (by decide) ?_|refine t_ (by decide) ?_|refine r_ pe rfl ?_|with_reducible first|apply l_|apply m_|apply n_|apply o_|refine p_ (fun _=>?_) (fun _=>?_))<;>(conv=>whnf)))
   all_goals first|exact Ret.int rfl | (exfalso;omega)
  ·rw[if_neg h2]
   by_cases h3:cols.length=row.length
   ·rw[if_neg (by omega)]
    ((conv=>whnf);repeat' ((first|(with_reducible first|apply a_|apply b_|apply c_)|((with_reducible first|apply d_|apply e_|apply f_|apply g_);focus first|omega|(simp only[q_]<;>omega))|((with_reducible first|apply i_|apply h_);focus first|omega|(simp only[q_]<;>omega))|((with_reducible apply h_);focus first|decide|kernel_rfl)|refine s_ (by decide) ?_|refine t_ (by decide) ?_|refine r_ pe rfl ?_|refine r_ pc rfl ?_|with_reducible first|apply l_|apply m_|apply n_|apply o_|refine p_ (fun _=>?_) (fun _=>?_))<;>(conv=>whnf)))
    all_goals first|exact Ret.int rfl | (exfalso;omega)
   ·rw[if_pos h3]
    ((conv=>whnf);repeat' ((first|(with_reducible first|apply a_|apply b_|apply c_)|((with_reducible first|apply d_|apply e_|apply f_|apply g_);focus first|omega|(simp only[q_]<;>omega))|((with_reducible first|apply i_|apply h_);focus first|omega|(simp only[q_]<;>omega))|((with_reducible apply h_);focus first|decide|kernel_rfl)|refine s_ (by decide) ?_|refine t_ (by decide) ?_|refine r_ pe rfl ?_|with_reducible first|apply l_|apply m_|apply n_|apply o_|refine p_ (fun _=>?_) (fun _=>?_))<;>(conv=>whnf)))
    all_goals first|exact Ret.int rfl | (exfalso;omega)
 ·rw[if_pos h1]
  ((conv=>whnf);repeat' ((first|(with_reducible first|apply a_|apply b_|apply c_)|((with_reducible first|apply d_|apply e_|apply f_|apply g_);focus first|omega|(simp only[q_]<;>omega))|((with_reducible first|apply i_|apply h_);focus first|omega|(simp only[q_]<;>omega))|((with_reducible apply h_);focus first|decide|kernel_rfl)|refine s_ (by decide) ?_|refine t_ (by decide) ?_|refine r_ pe rfl ?_|with_reducible first|apply l_|apply m_|apply n_|apply o_|refine p_ (fun _=>?_) (fun _=>?_))<;>(conv=>whnf)))
  all_goals first|exact Ret.int rfl | (exfalso;omega)
theorem nin_tree {t:Ex} (ht:RightT t) (hn:HN t.flat):NInT t:=fun n hm=>⟨ht.all n hm,(hn n hm).2⟩
theorem p_evalof (e:List NodeD) (hn:HN e) (cols:List (List UInt8)) (row:List ValueD) (hr:row.length≤140737488355328) (hv:∀v∈row,WholeP.In64 v.N):Pure Tryz.prog 55 [slV 6 NodeD.c e,slV 1 eText cols,slV 3 ValueD.c row] (eVal (evalF e cols row)):=by
 have pc:=p_scopecheck e (fun n h=>(hn n h).1) cols row hr
 refine pure_of Tryz.func55 (by rfl) rfl (by kernel_rfl) (by rfl) ?_
 unfold evalF
 by_cases h:scopeE e cols row=0
 ·rw[if_neg (by rw[h];decide)]
  rw[h] at pc
  obtain⟨h1,h2,h3,h4⟩:=scope_ok h
  obtain⟨t,ht,rfl⟩:=right_of h1
  have pr:=p_valueof cols row h3 (by omega) (fun v hm=>⟨h4 v hm,hv v hm⟩) _ t (Nat.le_refl _) ht.good (nin_tree ht hn) (by have:=ht.len;omega)
  rw[walkR_fold _ _ ht.good]
  cases hw:foldX (nodF (lookC cols row)) t with
  | ok v=>
   rw[hw] at pr
   have pr:Pure _ _ _ (.tup [vV v,pInt .i64 0]):=pr
   ((conv=>whnf);repeat' ((first|(with_reducible first|apply a_|apply b_|apply c_)|((with_reducible first|apply d_|apply e_|apply f_|apply g_);focus first|omega|(simp only[q_]<;>omega))|((with_reducible first|apply i_|apply h_);focus first|omega|(simp only[q_]<;>omega))|((with_reducible apply h_);focus first|decide|kernel_rfl)|refine s_ (by decide) ?_|refine t_ (by decide) ?_|refine r_ pc rfl ?_|refine r_ pr rfl ?_|with_reducible first|apply l_|apply m_|apply n_|apply o_|refine p_ (fun _=>?_) (fun _=>?_))<;>(conv=>whnf)))
   exact Ret.eq rfl
  | error x=>
   rw[hw] at pr
   have pr:Pure _ _ _ (.tup [vV noV,pInt .i64 x]):=pr
   ((conv=>whnf);repeat' ((first|(with_reducible first|apply a_|apply b_|apply c_)|((with_reducible first|apply d_|apply e_|apply f_|apply g_);focus first|omega|(simp only[q_]<;>omega))|((with_reducible first|apply i_|apply h_);focus first|omega|(simp only[q_]<;>omega))|((with_reducible apply h_);focus first|decide|kernel_rfl)|refine s_ (by decide) ?_|refine t_ (by decide) ?_|refine r_ pc rfl ?_|refine r_ pr rfl ?_|with_reducible first|apply l_|apply m_|apply n_|apply o_|refine p_ (fun _=>?_) (fun _=>?_))<;>(conv=>whnf)))
   exact Ret.eq rfl
 ·rw[if_pos h]
  ((conv=>whnf);repeat' ((first|(with_reducible first|apply a_|apply b_|apply c_)|((with_reducible first|apply d_|apply e_|apply f_|apply g_);focus first|omega|(simp only[q_]<;>omega))|((with_reducible first|apply i_|apply h_);focus first|omega|(simp only[q_]<;>omega))|((with_reducible apply h_);focus first|decide|kernel_rfl)|refine s_ (by decide) ?_|refine t_ (by decide) ?_|refine r_ pc rfl ?_|with_reducible first|apply l_|apply m_|apply n_|apply o_|refine p_ (fun _=>?_) (fun _=>?_))<;>(conv=>whnf)))
  all_goals first|exact Ret.eq rfl | (exfalso;omega)
theorem evalF_rv {e:List NodeD} {cols:List (List UInt8)} {row:List ValueD} {v:ValueD} (hn:HN e) (hv:∀v∈row,WholeP.In64 v.N) (h:evalF e cols row=.ok v):RV v:=by
 unfold evalF at h
 split at h
 ·cases h
 ·rename_i q
  obtain⟨h1,h2,h3,h4⟩:=scope_ok (Decidable.of_not_not q)
  obtain⟨h5,h6⟩:=check_all h1
  exact walkR_rv (look_ok fun v hm=>⟨h4 v hm,hv v hm⟩) (fun n hm=>⟨h6 n hm,(hn n hm).2⟩) h
theorem p_truthfor (e:List NodeD) (hn:HN e) (cols:List (List UInt8)) (row:List ValueD) (hr:row.length≤140737488355328) (hv:∀v∈row,WholeP.In64 v.N):Pure Tryz.prog 40 [slV 6 NodeD.c e,slV 1 eText cols,slV 3 ValueD.c row] (.tup [pInt .i64 (truR (evalF e cols row)).1,pInt .i64 (truR (evalF e cols row)).2]):=by
 have pr:=p_evalof e hn cols row hr hv
 refine pure_of Tryz.func40 (by rfl) rfl (by kernel_rfl) (by rfl) ?_
 cases hw:evalF e cols row with
 | ok v=>
  rw[hw] at pr
  have pr:Pure _ _ _ (.tup [vV v,pInt .i64 0]):=pr
  have pm:=p_truthof v (okV_kind (evalF_rv hn hv hw).1).1
  ((conv=>whnf);repeat' ((first|(with_reducible first|apply a_|apply b_|apply c_)|((with_reducible first|apply d_|apply e_|apply f_|apply g_);focus first|omega|(simp only[q_]<;>omega))|((with_reducible first|apply i_|apply h_);focus first|omega|(simp only[q_]<;>omega))|((with_reducible apply h_);focus first|decide|kernel_rfl)|refine s_ (by decide) ?_|refine t_ (by decide) ?_|refine r_ pr rfl ?_|refine r_ pm rfl ?_|with_reducible first|apply l_|apply m_|apply n_|apply o_|refine p_ (fun _=>?_) (fun _=>?_))<;>(conv=>whnf)))
  exact Ret.eq rfl
 | error x=>
  rw[hw] at pr
  have pr:Pure _ _ _ (.tup [vV noV,pInt .i64 x]):=pr
  have h0:=evalF_err hw
  ((conv=>whnf);repeat' ((first|(with_reducible first|apply a_|apply b_|apply c_)|((with_reducible first|apply d_|apply e_|apply f_|apply g_);focus first|omega|(simp only[q_]<;>omega))|((with_reducible first|apply i_|apply h_);focus first|omega|(simp only[q_]<;>omega))|((with_reducible apply h_);focus first|decide|kernel_rfl)|refine s_ (by decide) ?_|refine t_ (by decide) ?_|refine r_ pr rfl ?_|with_reducible first|apply l_|apply m_|apply n_|apply o_|refine p_ (fun _=>?_) (fun _=>?_))<;>(conv=>whnf)))
  all_goals first|exact Ret.eq rfl | (exfalso;omega)
end
section
open Go.RowKit K
set_option maxRecDepth 100000
set_option maxRecDepth 100000
theorem p_filterof (l:List RowT) (hb:∀r∈l,r.length≤140737488355328) (hv:∀r∈l,∀v∈r,WholeP.In64 v.N) (cols:List (List UInt8)) (e:List NodeD) (hn:HN e) :
  Pure Tryz.prog 17 [rwsV l,slV 1 eText cols,slV 6 NodeD.c e] (.tup [rwsV (filtF l cols e).1,pInt .i64 (filtF l cols e).2]):=by
 have hml:(l.map rowC).length=l.length:=List.length_map _
 have pc:=p_rowscheck l hb
 have pe:=p_exprcheck e fun n h=>(hn n h).1
 obtain⟨E0,hE0⟩:∃E0:Int,E0=if rowsChk l≠0 then rowsChk l else checkF e:=⟨_,rfl⟩
 refine pure_of Tryz.func17 (by rfl) rfl (by kernel_rfl) (by rfl) ?_
 have hE:(E0≠0→filtF l cols e=([],E0))∧(E0=0→rowsChk l=0∧checkF e=0∧filtF l cols e=keepF (truF e cols) l):=by
  unfold filtF
  rw[hE0]
  by_cases h1:rowsChk l=0
  ·rw[if_neg (not_not_intro h1),if_neg (not_not_intro h1)]
   by_cases h2:checkF e=0
   ·rw[if_neg (not_not_intro h2)]
    exact⟨fun h=>absurd h2 h,fun _=>⟨h1,h2,rfl⟩⟩
   ·rw[if_pos h2]
    exact⟨fun _=>rfl,fun h=>absurd h h2⟩
  ·rw[if_pos h1,if_pos h1]
   exact⟨fun _=>rfl,fun h=>absurd h h1⟩
 by_cases h1:rowsChk l=0
 ·rw[h1] at pc
  have e0:E0=checkF e:=by rw[hE0,if_neg (not_not_intro h1)]
  rw[← e0] at pe
  ((conv=>whnf);repeat' ((first|(with_reducible first|apply a_|apply b_|apply c_)|((with_reducible first|apply d_|apply e_|apply f_|apply g_);focus first|omega|(simp only[q_]<;>omega))|((with_reducible first|apply i_|apply h_);focus first|omega|(simp only[q_]<;>omega))|((with_reducible apply h_);focus first|decide|kernel_rfl)|refine s_ (by decide) ?_|refine t_ (by decide) ?_|refine r_ pc rfl ?_|refine r_ pe rfl ?_|with_reducible first|apply l_|apply m_|apply n_|apply o_|refine p_ (fun _=>?_) (fun _=>?_))<;>(conv=>whnf)))
  refine LoopC.mk (Nat×Int×List RowT) (fun s=>[(0,rwsV l),(1,slV 1 eText cols),(2,slV 6 NodeD.c e),(8,pInt .i64 s.2.1),(9,.d (.app 60 49 1 (s.2.2.map rowC))),(10,pInt .i64 (s.1:Int))]) (fun _=>[(60,.tail 49 1)]) [60]
   (fun s=>s.2.2.length≤1000∧((s.2.1≠0∧filtF l cols e=([],s.2.1))∨(s.2.1=0∧E0=0∧s.1≤l.length∧(∀r∈l.take s.1,(truF e cols r).2=0)∧s.2.2=(l.take s.1).filter fun r=>(truF e cols r).1))) (fun s=>l.length - s.1) (0,E0,[]) ?inv ?start ?round
  case inv=>
   refine⟨Nat.zero_le _,?_⟩
   by_cases h:E0=0
   ·exact .inr ⟨h,h,Nat.zero_le _,by simp,by simp⟩
   ·exact .inl ⟨h,hE.1 h⟩
  case start=>exact⟨[],rfl,rfl,⟨.inl rfl,.inl rfl,.inl rfl,.inl rfl,⟨rfl,rfl,Nat.zero_lt_succ _,rfl,rfl⟩,.inl rfl,trivial⟩,⟨rfl,Nat.zero_lt_succ _⟩,trivial⟩
  case round=>
   rintro⟨k,x,rows⟩ ⟨hrl,⟨hx,hf⟩ | ⟨hx,hz,hk,hall,hrows⟩⟩
   ·have hx:x≠0:=hx
    have hf:filtF l cols e=([],x):=hf
    rw[hf]
    ((conv=>whnf);repeat' ((first|(with_reducible first|apply a_|apply b_|apply c_)|((with_reducible first|apply d_|apply e_|apply f_|apply g_);focus first|omega|(simp only[q_]<;>omega))|((with_reducible first|apply i_|apply h_);focus first|omega|(simp only[q_]<;>omega))|((with_reducible apply h_);focus first|decide|kernel_rfl)|refine s_ (by decide) ?_|refine t_ (by decide) ?_|with_reducible first|apply l_|apply m_|apply n_|apply o_|refine p_ (fun _=>?_) (fun _=>?_))<;>(conv=>whnf)))
    all_goals first|exact Ret.le ⟨.inr ⟨⟨1,rfl⟩,.inl rfl⟩,.inl rfl,rfl⟩ | (exfalso;omega) | skip
   ·have hx:x=0:=hx
    subst hx
    have hk:k≤l.length:=hk
    have hrl:rows.length≤1000:=hrl
    have hall:∀r∈l.take k,(truF e cols r).2=0:=hall
    have hrows:rows=(l.take k).filter fun r=>(truF e cols r).1:=hrows
    obtain⟨c1,c2,c3⟩:=hE.2 hz
    by_cases q:k<l.length
    ·have pt:=p_truthfor e hn cols l[k] (hb _ (List.getElem_mem q)) (hv _ (List.getElem_mem q))
     obtain⟨h40,h8⟩:=rowsChk_ok.1 c1
     have hle:rows.length≤40:=by
      rw[hrows]
      have:=List.length_filter_le (fun r=>(truF e cols r).1) (l.take k)
      rw[List.length_take] at this
      omega
     obtain⟨t,ht⟩:∃t,t=(truR (evalF e cols l[k])).1:=⟨_,rfl⟩
     obtain⟨y,hy⟩:∃y,y=(truR (evalF e cols l[k])).2:=⟨_,rfl⟩
     have ey:(truF e cols l[k]).2=y:=hy.symm
     have et:(truF e cols l[k]).1=decide (t=2):=by rw[ht];rfl
     rw[← ht,← hy] at pt
     have hnext:∀rows':List RowT,rows'.length≤1000→(rows'=if t=2 then rows++[l[k]] else rows)→rows'.length≤1000∧((y≠0∧filtF l cols e=([],y))∨(y=0∧E0=0∧k+1≤l.length∧(∀r∈l.take (k+1),(truF e cols r).2=0)∧rows'=(l.take (k+1)).filter fun r=>(truF e cols r).1)):=by
      intro rows' hl' hr'
      refine⟨hl',?_⟩
      by_cases hy0:y=0
      ·refine .inr ⟨hy0,hz,q,fun r hr=>?_,?_⟩
       ·rw[take_snoc q,List.mem_append,List.mem_singleton] at hr
        rcases hr with hr | rfl
        ·exact hall r hr
        ·rw[ey];exact hy0
       ·rw[filter_snoc q,et,hr',hrows]
        by_cases h2:t=2
        ·rw[if_pos h2,if_pos (decide_eq_true h2)]
        ·rw[if_neg h2,if_neg (by simpa using h2)]
      ·refine .inl ⟨hy0,?_⟩
       rw[c3,keepF_err q hall (by rw[ey];exact hy0),ey]
     by_cases h2:t=2
     ·have hn2:=hnext (rows++[l[k]]) (by rw[List.length_append,List.length_singleton];omega) (by rw[if_pos h2])
      ((conv=>whnf);repeat' ((first|(with_reducible first|apply a_|apply b_|apply c_)|((with_reducible first|apply d_|apply e_|apply f_|apply g_);focus first|omega|(simp only[q_]<;>omega))|((with_reducible first|apply i_|apply h_);focus first|omega|(simp only[q_]<;>omega))|((with_reducible apply h_);focus first|decide|kernel_rfl)|refine s_ (by decide) ?_|refine t_ (by decide) ?_|(refine Idx.mapI (f:=rowC) k rfl q ?_)|refine r_ pt rfl ?_|(refine Need.by 24 rfl (by simp only[List.length_map,List.length_singleton];omega) ?_)|with_reducible first|apply l_|apply m_|apply n_|apply o_|refine p_ (fun _=>?_) (fun _=>?_))<;>(conv=>whnf)))
      all_goals first
       | exact⟨(k+1,y,rows++[l[k]]),hn2,by show l.length - (k+1)<l.length - k;omega,[(60,46)],rfl,rfl,⟨.inl rfl,.inl rfl,.inl rfl,.inl rfl,⟨rfl,rfl,rfl,rfl,by rw[List.map_append];rfl⟩,PLe.int (by show _=_;omega),trivial⟩,⟨rfl,rfl,rfl⟩,trivial⟩
       | (exfalso;omega)
       | skip
     ·have hn2:=hnext rows hrl (by rw[if_neg h2])
      ((conv=>whnf);repeat' ((first|(with_reducible first|apply a_|apply b_|apply c_)|((with_reducible first|apply d_|apply e_|apply f_|apply g_);focus first|omega|(simp only[q_]<;>omega))|((with_reducible first|apply i_|apply h_);focus first|omega|(simp only[q_]<;>omega))|((with_reducible apply h_);focus first|decide|kernel_rfl)|refine s_ (by decide) ?_|refine t_ (by decide) ?_|(refine Idx.mapI (f:=rowC) k rfl q ?_)|refine r_ pt rfl ?_|with_reducible first|apply l_|apply m_|apply n_|apply o_|refine p_ (fun _=>?_) (fun _=>?_))<;>(conv=>whnf)))
      all_goals first
       | exact⟨(k+1,y,rows),hn2,by show l.length - (k+1)<l.length - k;omega,[(60,60)],rfl,rfl,⟨.inl rfl,.inl rfl,.inl rfl,.inl rfl,⟨rfl,rfl,rfl,rfl,rfl⟩,PLe.int (by show _=_;omega),trivial⟩,⟨rfl,rfl,rfl⟩,trivial⟩
       | (exfalso;omega)
       | skip
    ·have e1:l.take k=l:=List.take_of_length_le (by omega)
     rw[e1] at hall hrows
     rw[c3,keepF_ok hall,← hrows]
     ((conv=>whnf);repeat' ((first|(with_reducible first|apply a_|apply b_|apply c_)|((with_reducible first|apply d_|apply e_|apply f_|apply g_);focus first|omega|(simp only[q_]<;>omega))|((with_reducible first|apply i_|apply h_);focus first|omega|(simp only[q_]<;>omega))|((with_reducible apply h_);focus first|decide|kernel_rfl)|refine s_ (by decide) ?_|refine t_ (by decide) ?_|with_reducible first|apply l_|apply m_|apply n_|apply o_|refine p_ (fun _=>?_) (fun _=>?_))<;>(conv=>whnf)))
     all_goals first|exact Ret.mk rfl|exact Ret.eq rfl | (exfalso;omega) | skip
 ·have e0:E0=rowsChk l:=by rw[hE0,if_pos h1]
  rw[← e0] at pc
  have hne:E0≠0:=by rw[e0];exact h1
  ((conv=>whnf);repeat' ((first|(with_reducible first|apply a_|apply b_|apply c_)|((with_reducible first|apply d_|apply e_|apply f_|apply g_);focus first|omega|(simp only[q_]<;>omega))|((with_reducible first|apply i_|apply h_);focus first|omega|(simp only[q_]<;>omega))|((with_reducible apply h_);focus first|decide|kernel_rfl)|refine s_ (by decide) ?_|refine t_ (by decide) ?_|refine r_ pc rfl ?_|with_reducible first|apply l_|apply m_|apply n_|apply o_|refine p_ (fun _=>?_) (fun _=>?_))<;>(conv=>whnf)))
  refine LoopC.mk (Nat×Int×List RowT) (fun s=>[(0,rwsV l),(1,slV 1 eText cols),(2,slV 6 NodeD.c e),(8,pInt .i64 s.2.1),(9,.d (.app 60 49 1 (s.2.2.map rowC))),(10,pInt .i64 (s.1:Int))]) (fun _=>[(60,.tail 49 1)]) [60]
   (fun s=>s.2.2.length≤1000∧((s.2.1≠0∧filtF l cols e=([],s.2.1))∨(s.2.1=0∧E0=0∧s.1≤l.length∧(∀r∈l.take s.1,(truF e cols r).2=0)∧s.2.2=(l.take s.1).filter fun r=>(truF e cols r).1))) (fun s=>l.length - s.1) (0,E0,[]) ?inv ?start ?round
  case inv=>
   refine⟨Nat.zero_le _,?_⟩
   by_cases h:E0=0
   ·exact .inr ⟨h,h,Nat.zero_le _,by simp,by simp⟩
   ·exact .inl ⟨h,hE.1 h⟩
  case start=>exact⟨[],rfl,rfl,⟨.inl rfl,.inl rfl,.inl rfl,.inl rfl,⟨rfl,rfl,Nat.zero_lt_succ _,rfl,rfl⟩,.inl rfl,trivial⟩,⟨rfl,Nat.zero_lt_succ _⟩,trivial⟩
  case round=>
   rintro⟨k,x,rows⟩ ⟨hrl,⟨hx,hf⟩ | ⟨hx,hz,hk,hall,hrows⟩⟩
   ·have hx:x≠0:=hx
    have hf:filtF l cols e=([],x):=hf
    rw[hf]
    ((conv=>whnf);repeat' ((first|(with_reducible first|apply a_|apply b_|apply c_)|((with_reducible first|apply d_|apply e_|apply f_|apply g_);focus first|omega|(simp only[q_]<;>omega))|((with_reducible first|apply i_|apply h_);focus first|omega|(simp only[q_]<;>omega))|((with_reducible apply h_);focus first|decide|kernel_rfl)|refine s_ (by decide) ?_|refine t_ (by decide) ?_|with_reducible first|apply l_|apply m_|apply n_|apply o_|refine p_ (fun _=>?_) (fun _=>?_))<;>(conv=>whnf)))
    all_goals first|exact Ret.le ⟨.inr ⟨⟨1,rfl⟩,.inl rfl⟩,.inl rfl,rfl⟩ | (exfalso;omega) | skip
   ·have hx:x=0:=hx
    subst hx
    have hk:k≤l.length:=hk
    have hrl:rows.length≤1000:=hrl
    have hall:∀r∈l.take k,(truF e cols r).2=0:=hall
    have hrows:rows=(l.take k).filter fun r=>(truF e cols r).1:=hrows
    obtain⟨c1,c2,c3⟩:=hE.2 hz
    by_cases q:k<l.length
    ·have pt:=p_truthfor e hn cols l[k] (hb _ (List.getElem_mem q)) (hv _ (List.getElem_mem q))
     obtain⟨h40,h8⟩:=rowsChk_ok.1 c1
     have hle:rows.length≤40:=by
      rw[hrows]
      have:=List.length_filter_le (fun r=>(truF e cols r).1) (l.take k)
      rw[List.length_take] at this
      omega
     obtain⟨t,ht⟩:∃t,t=(truR (evalF e cols l[k])).1:=⟨_,rfl⟩
     obtain⟨y,hy⟩:∃y,y=(truR (evalF e cols l[k])).2:=⟨_,rfl⟩
     have ey:(truF e cols l[k]).2=y:=hy.symm
     have et:(truF e cols l[k]).1=decide (t=2):=by rw[ht];rfl
     rw[← ht,← hy] at pt
     have hnext:∀rows':List RowT,rows'.length≤1000→(rows'=if t=2 then rows++[l[k]] else rows)→rows'.length≤1000∧((y≠0∧filtF l cols e=([],y))∨(y=0∧E0=0∧k+1≤l.length∧(∀r∈l.take (k+1),(truF e cols r).2=0)∧rows'=(l.take (k+1)).filter fun r=>(truF e cols r).1)):=by
      intro rows' hl' hr'
      refine⟨hl',?_⟩
      by_cases hy0:y=0
      ·refine .inr ⟨hy0,hz,q,fun r hr=>?_,?_⟩
       ·rw[take_snoc q,List.mem_append,List.mem_singleton] at hr
        rcases hr with hr | rfl
        ·exact hall r hr
        ·rw[ey];exact hy0
       ·rw[filter_snoc q,et,hr',hrows]
        by_cases h2:t=2
        ·rw[if_pos h2,if_pos (decide_eq_true h2)]
        ·rw[if_neg h2,if_neg (by simpa using h2)]
      ·refine .inl ⟨hy0,?_⟩
       rw[c3,keepF_err q hall (by rw[ey];exact hy0),ey]
     by_cases h2:t=2
     ·have hn2:=hnext (rows++[l[k]]) (by rw[List.length_append,List.length_singleton];omega) (by rw[if_pos h2])
      ((conv=>whnf);repeat' ((first|(with_reducible first|apply a_|apply b_|apply c_)|((with_reducible first|apply d_|apply e_|apply f_|apply g_);focus first|omega|(simp only[q_]<;>omega))|((with_reducible first|apply i_|apply h_);focus first|omega|(simp only[q_]<;>omega))|((with_reducible apply h_);focus first|decide|kernel_rfl)|refine s_ (by decide) ?_|refine t_ (by decide) ?_|(refine Idx.mapI (f:=rowC) k rfl q ?_)|refine r_ pt rfl ?_|(refine Need.by 24 rfl (by simp only[List.length_map,List.length_singleton];omega) ?_)|with_reducible first|apply l_|apply m_|apply n_|apply o_|refine p_ (fun _=>?_) (fun _=>?_))<;>(conv=>whnf)))
      all_goals first
       | exact⟨(k+1,y,rows++[l[k]]),hn2,by show l.length - (k+1)<l.length - k;omega,[(60,46)],rfl,rfl,⟨.inl rfl,.inl rfl,.inl rfl,.inl rfl,⟨rfl,rfl,rfl,rfl,by rw[List.map_append];rfl⟩,PLe.int (by show _=_;omega),trivial⟩,⟨rfl,rfl,rfl⟩,trivial⟩
       | (exfalso;omega)
       | skip
     ·have hn2:=hnext rows hrl (by rw[if_neg h2])
      ((conv=>whnf);repeat' ((first|(with_reducible first|apply a_|apply b_|apply c_)|((with_reducible first|apply d_|apply e_|apply f_|apply g_);focus first|omega|(simp only[q_]<;>omega))|((with_reducible first|apply i_|apply h_);focus first|omega|(simp only[q_]<;>omega))|((with_reducible apply h_);focus first|decide|kernel_rfl)|refine s_ (by decide) ?_|refine t_ (by decide) ?_|(refine Idx.mapI (f:=rowC) k rfl q ?_)|refine r_ pt rfl ?_|with_reducible first|apply l_|apply m_|apply n_|apply o_|refine p_ (fun _=>?_) (fun _=>?_))<;>(conv=>whnf)))
      all_goals first
       | exact⟨(k+1,y,rows),hn2,by show l.length - (k+1)<l.length - k;omega,[(60,60)],rfl,rfl,⟨.inl rfl,.inl rfl,.inl rfl,.inl rfl,⟨rfl,rfl,rfl,rfl,rfl⟩,PLe.int (by show _=_;omega),trivial⟩,⟨rfl,rfl,rfl⟩,trivial⟩
       | (exfalso;omega)
       | skip
    ·have e1:l.take k=l:=List.take_of_length_le (by omega)
     rw[e1] at hall hrows
     rw[c3,keepF_ok hall,← hrows]
     ((conv=>whnf);repeat' ((first|(with_reducible first|apply a_|apply b_|apply c_)|((with_reducible first|apply d_|apply e_|apply f_|apply g_);focus first|omega|(simp only[q_]<;>omega))|((with_reducible first|apply i_|apply h_);focus first|omega|(simp only[q_]<;>omega))|((with_reducible apply h_);focus first|decide|kernel_rfl)|refine s_ (by decide) ?_|refine t_ (by decide) ?_|with_reducible first|apply l_|apply m_|apply n_|apply o_|refine p_ (fun _=>?_) (fun _=>?_))<;>(conv=>whnf)))
     all_goals first|exact Ret.mk rfl|exact Ret.eq rfl | (exfalso;omega) | skip
theorem keepF_zero {f:RowT→Bool×Int}:∀{m:List RowT},(keepF f m).2=0→∀r∈m,(f r).2=0
 | [],_,r,hr=>by cases hr
 | y::m,h4,r,hr=>by
  rw[keepF] at h4
  split at h4
  ·rename_i q;exact absurd h4 q
  ·rename_i q
   split at h4
   ·rename_i q2;exact absurd h4 q2
   ·rename_i q2
    rcases List.mem_cons.1 hr with rfl | hr
    ·exact Decidable.of_not_not q
    ·exact keepF_zero (Decidable.of_not_not q2) r hr
theorem keepF_no {f:RowT→Bool×Int}:∀{m:List RowT},(keepF f m).2≠0→(keepF f m).1=[]
 | [],h=>absurd rfl h
 | y::m,h=>by
  rw[keepF] at h ⊢
  split
  ·rfl
  ·rename_i q
   rw[if_neg q] at h
   split
   ·rfl
   ·rename_i q2
    rw[if_neg q2] at h
    exact absurd rfl h
theorem keepF_sub (f:RowT→Bool×Int) (l:List RowT):(∀r∈(keepF f l).1,r∈l)∧(keepF f l).1.length≤l.length:=by
 by_cases h:(keepF f l).2=0
 ·rw[keepF_ok (keepF_zero h)]
  exact⟨fun r hr=>(List.mem_filter.1 hr).1,List.length_filter_le _ _⟩
 ·rw[keepF_no h]
  exact⟨(fun r h=>by cases h),Nat.zero_le _⟩
theorem filtF_sub (l:List RowT) (cols:List (List UInt8)) (e:List NodeD):(∀r∈(filtF l cols e).1,r∈l)∧(filtF l cols e).1.length≤l.length:=by
 unfold filtF
 split
 ·exact⟨(fun r h=>by cases h),Nat.zero_le _⟩
 ·split
  ·exact⟨(fun r h=>by cases h),Nat.zero_le _⟩
  ·exact keepF_sub _ l
abbrev okNs (e:List NodeD):Prop:=okSl (Tryz.prog.bytesOf 35) NodeD.ok e
theorem okNs_hn {e:List NodeD} (h:okNs e):HN e:=fun n hn=>by
 have:=h.2 n hn
 exact⟨this.2.2.2,this.2.2.1.2.1⟩
theorem law_FilterTells (l:List RowT) (hl:okRws l) (cols:List (List UInt8)) (hc:okSl (Tryz.prog.bytesOf 9) okText cols) (e:List NodeD) (he:okNs e):Pure Tryz.prog 3 [rwsV l,slV 1 eText cols,slV 6 NodeD.c e] (pBool true):=by
 have p1:=p_Filter l (okRws_in hl) cols e (okNs_hn he)
 have p2:=p_filterof l (okRws_row hl) (okRws_in hl) cols e (okNs_hn he)
 have p3:=p_bagcheck l
 have p4:=p_rowscheck l (okRws_row hl)
 obtain⟨h1,h2⟩:=filtF_sub l cols e
 have s1:=samerows_refl (filtF l cols e).1 (by have:=okRws_len hl;omega) (fun r h=>okRws_row hl r (h1 r h))
 refine pure_of Tryz.func3 (by rfl) rfl (by kernel_rfl) (by rfl) ?_
 ((conv=>whnf);repeat' ((first|(with_reducible first|apply a_|apply b_|apply c_)|((with_reducible first|apply d_|apply e_|apply f_|apply g_);focus first|omega|(simp only[q_]<;>omega))|((with_reducible first|apply i_|apply h_);focus first|omega|(simp only[q_]<;>omega))|((with_reducible apply h_);focus first|decide|kernel_rfl)|refine s_ (by decide) ?_|refine t_ (by decide) ?_|refine r_ p_bagbegun rfl ?_|refine r_ p1 rfl ?_|refine r_ p2 rfl ?_|refine r_ p3 rfl ?_|refine r_ p4 rfl ?_|refine r_ s1 rfl ?_|with_reducible first|apply l_|apply m_|apply n_|apply o_|refine p_ (fun _=>?_) (fun _=>?_))<;>(conv=>whnf)))
 all_goals first|exact Ret.bool rfl | (exact Ret.bool (by simp)) | skip
noncomputable def projE (l:List RowT) (list:List (List NodeD)):Int:=if rowsChk l≠0 then rowsChk l else if 8<list.length then 2 else firstX checkF list
theorem projF_bad {l:List RowT} {cols:List (List UInt8)} {list:List (List NodeD)} (h:projE l list≠0):projF l cols list=([],projE l list):=by
 unfold projF
 unfold projE at h ⊢
 by_cases h1:rowsChk l=0
 ·rw[if_neg (not_not_intro h1)] at h
  rw[if_neg (not_not_intro h1),if_neg (not_not_intro h1)]
  by_cases h2:8<list.length
  ·rw[if_pos h2,if_pos h2]
  ·rw[if_neg h2] at h
   rw[if_neg h2,if_neg h2,if_pos h]
 ·rw[if_pos h1,if_pos h1]
theorem projF_good {l:List RowT} {cols:List (List UInt8)} {list:List (List NodeD)} (h:projE l list=0):rowsChk l=0∧list.length≤8∧(∀e∈list,checkF e=0)∧projF l cols list=match mapX (projR list cols) l with
  | .error x=>([],x)
  | .ok m=>(m,0):=by
 unfold projE at h
 by_cases h1:rowsChk l=0
 ·rw[if_neg (not_not_intro h1)] at h
  by_cases h2:8<list.length
  ·rw[if_pos h2] at h;cases h
  ·rw[if_neg h2] at h
   refine⟨h1,by omega,firstX_ok.1 h,?_⟩
   unfold projF
   rw[if_neg (not_not_intro h1),if_neg h2,if_neg (not_not_intro h)]
   all_goals (cases mapX (projR list cols) l<;>rfl)
 ·rw[if_pos h1] at h;exact absurd h h1
theorem row_step {list:List (List NodeD)} {cols:List (List UInt8)} {r:RowT} {k:Nat} {vs:List ValueD} (q:k<list.length) (hp:mapX (fun e=>pairX (evP e cols r)) (list.take k)=.ok vs) :
  ((evP list[k] cols r).2=0→mapX (fun e=>pairX (evP e cols r)) (list.take (k+1))=.ok (vs++[(evP list[k] cols r).1]))∧((evP list[k] cols r).2≠0→projR list cols r=.error (evP list[k] cols r).2):=by
 constructor
 ·intro h
  exact mapX_step q hp (by unfold pairX;rw[if_pos h])
 ·intro h
  exact mapX_stop q hp (by unfold pairX;rw[if_neg h])
set_option maxHeartbeats 1000000 in
theorem p_projectof (l:List RowT) (hll:l.length*24≤140737488351232) (hb:∀r∈l,r.length≤140737488355328) (hv:∀r∈l,∀v∈r,WholeP.In64 v.N) (cols:List (List UInt8)) (list:List (List NodeD)) (hn:∀e∈list,HN e) (hls:list.length≤140737488355328) :
  Pure Tryz.prog 27 [rwsV l,slV 1 eText cols,lstV list] (.tup [rwsV (projF l cols list).1,pInt .i64 (projF l cols list).2]):=by
 have hml:(l.map rowC).length=l.length:=List.length_map _
 have hmk:(list.map ek).length=list.length:=List.length_map _
 have pc:=p_rowscheck l hb
 obtain⟨E0,hE0⟩:∃E0,E0=projE l list:=⟨_,rfl⟩
 refine pure_of Tryz.func27 (by rfl) rfl (by kernel_rfl) (by rfl) ?_
 obtain⟨B0,hB0⟩:∃B0:Int,B0=if rowsChk l≠0 then rowsChk l else if 8<list.length then 2 else 0:=⟨_,rfl⟩
 have hB:(B0≠0→projE l list=B0)∧(B0=0→rowsChk l=0∧list.length≤8∧projE l list=firstX checkF list):=by
  unfold projE
  rw[hB0]
  by_cases h1:rowsChk l=0
  ·rw[if_neg (not_not_intro h1),if_neg (not_not_intro h1)]
   by_cases h2:8<list.length
   ·rw[if_pos h2,if_pos h2];exact⟨fun _=>rfl,fun h=>by cases h⟩
   ·rw[if_neg h2,if_neg h2];exact⟨fun h=>absurd rfl h,fun _=>⟨h1,by omega,rfl⟩⟩
  ·rw[if_pos h1,if_pos h1];exact⟨fun _=>rfl,fun h=>absurd h h1⟩
 have hB1:rowsChk l≠0→B0=rowsChk l:=fun h=>by rw[hB0,if_pos h]
 have hB2:rowsChk l=0→8<list.length→B0=2:=fun h h2=>by rw[hB0,if_neg (not_not_intro h),if_pos h2]
 have hB3:rowsChk l=0→list.length≤8→B0=0:=fun h h2=>by rw[hB0,if_neg (not_not_intro h),if_neg (by omega)]
 ((conv=>whnf);repeat' ((first|(with_reducible first|apply a_|apply b_|apply c_)|((with_reducible first|apply d_|apply e_|apply f_|apply g_);focus first|omega|(simp only[q_]<;>omega))|((with_reducible first|apply i_|apply h_);focus first|omega|(simp only[q_]<;>omega))|((with_reducible apply h_);focus first|decide|kernel_rfl)|refine s_ (by decide) ?_|refine t_ (by decide) ?_|refine r_ pc rfl ?_|with_reducible first|apply l_|apply m_|apply n_|apply o_|refine p_ (fun _=>?_) (fun _=>?_))<;>(conv=>whnf)))
 all_goals
  refine LoopC.mk (Nat×Int) (fun s=>[(0,rwsV l),(1,slV 1 eText cols),(2,lstV list),(8,pInt .i64 s.2),(9,pInt .i64 (s.1:Int))]) (fun _=>[]) []
   (fun s=>(s.2≠0∧projE l list=s.2)∨(s.2=0∧B0=0∧s.1≤list.length∧∀e∈list.take s.1,checkF e=0)) (fun s=>list.length - s.1) (0,B0)
   (by
    by_cases h:B0=0
    ·exact .inr ⟨h,h,Nat.zero_le _,by simp⟩
    ·exact .inl ⟨h,hB.1 h⟩) ⟨[],rfl,rfl,⟨.inl rfl,.inl rfl,.inl rfl,PLe.int (by show _=B0;omega),.inl rfl,trivial⟩,trivial⟩ ?_
  rintro⟨k,x⟩ hs
  have hs:(x≠0∧projE l list=x)∨(x=0∧B0=0∧k≤list.length∧∀e∈list.take k,checkF e=0):=hs
  by_cases hcond:k<list.length∧x=0
  ·obtain⟨q,rfl⟩:=hcond
   obtain⟨_,hb0,_,hall⟩:=hs.resolve_left fun h=>h.1 rfl
   have pe:=p_exprcheck list[k] fun n h=>(hn _ (List.getElem_mem q) n h).1
   have hnext:(checkF list[k]≠0∧projE l list=checkF list[k])∨(checkF list[k]=0∧B0=0∧k+1≤list.length∧∀e∈list.take (k+1),checkF e=0):=by
    by_cases h:checkF list[k]=0
    ·refine .inr ⟨h,hb0,q,fun e he=>?_⟩
     rw[take_snoc q,List.mem_append,List.mem_singleton] at he
     exact he.elim (hall e) fun e2=>e2 ▸ h
    ·exact .inl ⟨h,by rw[(hB.2 hb0).2.2,firstX_at q hall h]⟩
   ((conv=>whnf);repeat' ((first|(with_reducible first|apply a_|apply b_|apply c_)|((with_reducible first|apply d_|apply e_|apply f_|apply g_);focus first|omega|(simp only[q_]<;>omega))|((with_reducible first|apply i_|apply h_);focus first|omega|(simp only[q_]<;>omega))|((with_reducible apply h_);focus first|decide|kernel_rfl)|refine s_ (by decide) ?_|refine t_ (by decide) ?_|(refine Idx.mapI (f:=ek) k rfl q ?_)|refine r_ pe rfl ?_|with_reducible first|apply l_|apply m_|apply n_|apply o_|refine p_ (fun _=>?_) (fun _=>?_))<;>(conv=>whnf)))
   all_goals first
    | exact⟨(k+1,checkF list[k]),hnext,by show list.length - (k+1)<list.length - k;omega,[],rfl,rfl,⟨.inl rfl,.inl rfl,.inl rfl,.inl rfl,PLe.int (by show _=_;omega),trivial⟩,trivial⟩
    | (exfalso;omega)
    | skip
  ·have hP:projE l list=x:=by
    rcases hs with h | ⟨h1,h2,h3,h4⟩
    ·exact h.2
    ·have hk:k=list.length:=by
      have:¬k<list.length:=fun h=>hcond ⟨h,h1⟩
      omega
     rw[h1,(hB.2 h2).2.2]
     rw[hk,List.take_length] at h4
     exact firstX_ok.2 h4
   ((conv=>whnf);repeat' ((first|(with_reducible first|apply a_|apply b_|apply c_)|((with_reducible first|apply d_|apply e_|apply f_|apply g_);focus first|omega|(simp only[q_]<;>omega))|((with_reducible first|apply i_|apply h_);focus first|omega|(simp only[q_]<;>omega))|((with_reducible apply h_);focus first|decide|kernel_rfl)|refine s_ (by decide) ?_|refine t_ (by decide) ?_|with_reducible first|apply l_|apply m_|apply n_|apply o_|refine p_ (fun _=>?_) (fun _=>?_))<;>(conv=>whnf)))
   all_goals first | (exfalso;omega) | skip
   all_goals
    refine LoopC.mk (Nat×Int×List (List C)) (fun s=>[(0,rwsV l),(1,slV 1 eText cols),(2,lstV list),(8,pInt .i64 s.2.1),(10,.d (.app 160 49 1 s.2.2)),(11,pInt .i64 (s.1:Int))]) (fun _=>[(160,.tail 49 1)]) [160]
     (fun s=>s.1≤l.length∧s.2.2.length=s.1∧((s.2.1≠0∧projF l cols list=([],s.2.1))∨(s.2.1=0∧projE l list=0∧∃m,mapX (projR list cols) (l.take s.1)=.ok m∧s.2.2=m.map rowC))) (fun s=>l.length - s.1) (0,x,[])
     (by
      refine⟨Nat.zero_le _,rfl,?_⟩
      by_cases h:x=0
      ·exact .inr ⟨h,by rw[hP,h],[],rfl,rfl⟩
      ·exact .inl ⟨h,by rw[projF_bad (by rw[hP];exact h),hP]⟩)
     ⟨[],rfl,rfl,⟨.inl rfl,.inl rfl,.inl rfl,PLe.int (by show _=x;omega),⟨rfl,rfl,Nat.zero_lt_succ _,rfl,rfl⟩,.inl rfl,trivial⟩,⟨rfl,Nat.zero_lt_succ _⟩,trivial⟩ ?_
    rintro⟨k2,x2,rows⟩ ⟨hk2,hrl,hst⟩
    have hk2:k2≤l.length:=hk2
    have hrl:rows.length=k2:=hrl
    have hst:(x2≠0∧projF l cols list=([],x2))∨(x2=0∧projE l list=0∧∃m,mapX (projR list cols) (l.take k2)=.ok m∧rows=m.map rowC):=hst
    by_cases q2:k2<l.length
    ·((conv=>whnf);repeat' ((first|(with_reducible first|apply a_|apply b_|apply c_)|((with_reducible first|apply d_|apply e_|apply f_|apply g_);focus first|omega|(simp only[q_]<;>omega))|((with_reducible first|apply i_|apply h_);focus first|omega|(simp only[q_]<;>omega))|((with_reducible apply h_);focus first|decide|kernel_rfl)|refine s_ (by decide) ?_|refine t_ (by decide) ?_|with_reducible first|apply l_|apply m_|apply n_|apply o_|refine p_ (fun _=>?_) (fun _=>?_))<;>(conv=>whnf)))
     all_goals first | (exfalso;omega) | skip
     refine LoopC.mk (Nat×Int×List ValueD) (fun s=>[(0,rwsV l),(1,slV 1 eText cols),(2,lstV list),(8,pInt .i64 s.2.1),(10,.d (.app 160 49 1 rows)),(11,pInt .i64 (k2:Int)),(12,.d (.app 161 33 3 (s.2.2.map ValueD.c))),(13,pInt .i64 (s.1:Int))]) (fun _=>[(160,.tail 49 1),(161,.tail 33 3)]) [160,161]
      (fun s=>s.2.2.length≤8∧((s.2.1≠0∧projF l cols list=([],s.2.1))∨(s.2.1=0∧x2=0∧s.1≤list.length∧list.length≤8∧s.2.2.length=s.1∧mapX (fun e=>pairX (evP e cols l[k2])) (list.take s.1)=.ok s.2.2))) (fun s=>list.length - s.1) (0,x2,[])
      (by
       refine⟨Nat.zero_le _,?_⟩
       by_cases h:x2=0
       ·obtain⟨_,hz,_⟩:=hst.resolve_left fun q=>q.1 h
        exact .inr ⟨h,h,Nat.zero_le _,(projF_good (cols:=cols) hz).2.1,rfl,rfl⟩
       ·exact .inl ⟨h,(hst.resolve_right fun q=>h q.1).2⟩)
      ⟨[(160,160)],rfl,rfl,⟨.inl rfl,.inl rfl,.inl rfl,.inl rfl,⟨rfl,rfl,rfl,rfl,rfl⟩,.inl rfl,⟨rfl,rfl,Nat.zero_lt_succ _,rfl,rfl⟩,.inl rfl,trivial⟩,⟨rfl,rfl,rfl⟩,⟨rfl,Nat.zero_lt_succ _⟩,trivial⟩ ?_
     rintro⟨j,y,vs⟩ ⟨hv8,hs3⟩
     have hv8:vs.length≤8:=hv8
     have hs3:(y≠0∧projF l cols list=([],y))∨(y=0∧x2=0∧j≤list.length∧list.length≤8∧vs.length=j∧mapX (fun e=>pairX (evP e cols l[k2])) (list.take j)=.ok vs):=hs3
     by_cases hc3:j<list.length∧y=0
     ·obtain⟨q3,rfl⟩:=hc3
      obtain⟨_,hx2,_,h8,hvj,hmx⟩:=hs3.resolve_left fun h=>h.1 rfl
      obtain⟨_,hz,m,hm,hrm⟩:=hst.resolve_left fun h=>h.1 hx2
      have pv:=p_evalof list[j] (hn _ (List.getElem_mem q3)) cols l[k2] (hb _ (List.getElem_mem q2)) (hv _ (List.getElem_mem q2))
      rw[evP_eq] at pv
      obtain⟨r1,r2⟩:=row_step (cols:=cols) (r:=l[k2]) q3 hmx
      have hnext:(vs++[(evP list[j] cols l[k2]).1]).length≤8∧(((evP list[j] cols l[k2]).2≠0∧projF l cols list=([],(evP list[j] cols l[k2]).2))∨((evP list[j] cols l[k2]).2=0∧x2=0∧j+1≤list.length∧list.length≤8∧(vs++[(evP list[j] cols l[k2]).1]).length=j+1∧mapX (fun e=>pairX (evP e cols l[k2])) (list.take (j+1))=.ok (vs++[(evP list[j] cols l[k2]).1]))):=by
       refine⟨by rw[List.length_append,List.length_singleton];omega,?_⟩
       by_cases h:(evP list[j] cols l[k2]).2=0
       ·exact .inr ⟨h,hx2,q3,h8,by rw[List.length_append,List.length_singleton,hvj],r1 h⟩
       ·refine .inl ⟨h,?_⟩
        rw[(projF_good (cols:=cols) hz).2.2.2,mapX_stop q2 hm (r2 h)]
      ((conv=>whnf);repeat' ((first|(with_reducible first|apply a_|apply b_|apply c_)|((with_reducible first|apply d_|apply e_|apply f_|apply g_);focus first|omega|(simp only[q_]<;>omega))|((with_reducible first|apply i_|apply h_);focus first|omega|(simp only[q_]<;>omega))|((with_reducible apply h_);focus first|decide|kernel_rfl)|refine s_ (by decide) ?_|refine t_ (by decide) ?_|(first|refine Idx.mapI (f:=ek) j rfl q3 ?_|refine Idx.mapI (f:=rowC) k2 rfl q2 ?_)|refine r_ pv rfl ?_|(refine Need.by 32 rfl (by simp only[List.length_map,List.length_singleton];omega) ?_)|with_reducible first|apply l_|apply m_|apply n_|apply o_|refine p_ (fun _=>?_) (fun _=>?_))<;>(conv=>whnf)))
      all_goals first
       | exact⟨(j+1,(evP list[j] cols l[k2]).2,vs++[(evP list[j] cols l[k2]).1]),hnext,by show list.length - (j+1)<list.length - j;omega,[(160,160),(161,71)],rfl,rfl,⟨.inl rfl,.inl rfl,.inl rfl,.inl rfl,⟨rfl,rfl,rfl,rfl,rfl⟩,.inl rfl,⟨rfl,rfl,rfl,rfl,by rw[List.map_append];rfl⟩,PLe.int (by show _=_;omega),trivial⟩,⟨rfl,rfl,rfl⟩,⟨rfl,rfl,rfl⟩,trivial⟩
       | (exfalso;omega)
       | skip
     ·have hnext:k2+1≤l.length∧(rows++[rowC vs]).length=k2+1∧((y≠0∧projF l cols list=([],y))∨(y=0∧projE l list=0∧∃m,mapX (projR list cols) (l.take (k2+1))=.ok m∧rows++[rowC vs]=m.map rowC)):=by
       refine⟨q2,by rw[List.length_append,List.length_singleton,hrl],?_⟩
       rcases hs3 with h | ⟨h1,hx2,h3,h8,hvj,hmx⟩
       ·exact .inl h
       ·obtain⟨_,hz,m,hm,hrm⟩:=hst.resolve_left fun h=>h.1 hx2
        have hj:j=list.length:=by
         have:¬j<list.length:=fun h=>hc3 ⟨h,h1⟩
         omega
        rw[hj,List.take_length] at hmx
        exact .inr ⟨h1,hz,m++[vs],mapX_step q2 hm hmx,by rw[hrm,List.map_append];rfl⟩
      ((conv=>whnf);repeat' ((first|(with_reducible first|apply a_|apply b_|apply c_)|((with_reducible first|apply d_|apply e_|apply f_|apply g_);focus first|omega|(simp only[q_]<;>omega))|((with_reducible first|apply i_|apply h_);focus first|omega|(simp only[q_]<;>omega))|((with_reducible apply h_);focus first|decide|kernel_rfl)|refine s_ (by decide) ?_|refine t_ (by decide) ?_|(refine Need.by 24 rfl (by simp only[List.length_singleton];omega) ?_)|with_reducible first|apply l_|apply m_|apply n_|apply o_|refine p_ (fun _=>?_) (fun _=>?_))<;>(conv=>whnf)))
      all_goals first
       | exact⟨(k2+1,y,rows++[rowC vs]),hnext,by show l.length - (k2+1)<l.length - k2;omega,[(160,75)],rfl,rfl,⟨.inl rfl,.inl rfl,.inl rfl,.inl rfl,⟨rfl,rfl,rfl,rfl,rfl⟩,PLe.int (by show _=_;omega),trivial⟩,⟨rfl,rfl,rfl⟩,trivial⟩
       | (exfalso;omega)
       | skip
    ·have e1:l.take k2=l:=List.take_of_length_le (by omega)
     rcases hst with ⟨h1,h2⟩ | ⟨h1,hz,m,hm,hrm⟩
     ·rw[h2]
      ((conv=>whnf);repeat' ((first|(with_reducible first|apply a_|apply b_|apply c_)|((with_reducible first|apply d_|apply e_|apply f_|apply g_);focus first|omega|(simp only[q_]<;>omega))|((with_reducible first|apply i_|apply h_);focus first|omega|(simp only[q_]<;>omega))|((with_reducible apply h_);focus first|decide|kernel_rfl)|refine s_ (by decide) ?_|refine t_ (by decide) ?_|with_reducible first|apply l_|apply m_|apply n_|apply o_|refine p_ (fun _=>?_) (fun _=>?_))<;>(conv=>whnf)))
      all_goals first|exact Ret.le ⟨.inr ⟨⟨1,rfl⟩,.inl rfl⟩,.inl rfl,rfl⟩ | (exfalso;omega) | skip
     ·rw[e1] at hm
      rw[(projF_good (cols:=cols) hz).2.2.2,hm,hrm]
      ((conv=>whnf);repeat' ((first|(with_reducible first|apply a_|apply b_|apply c_)|((with_reducible first|apply d_|apply e_|apply f_|apply g_);focus first|omega|(simp only[q_]<;>omega))|((with_reducible first|apply i_|apply h_);focus first|omega|(simp only[q_]<;>omega))|((with_reducible apply h_);focus first|decide|kernel_rfl)|refine s_ (by decide) ?_|refine t_ (by decide) ?_|with_reducible first|apply l_|apply m_|apply n_|apply o_|refine p_ (fun _=>?_) (fun _=>?_))<;>(conv=>whnf)))
      all_goals first|exact Ret.mk rfl|exact Ret.eq rfl | (exfalso;omega) | skip
end
section
open Go.RowKit K
set_option maxRecDepth 100000
set_option maxRecDepth 100000
end
section
open Go.RowKit K
set_option maxRecDepth 100000
set_option maxRecDepth 100000
abbrev okLst (l:List (List NodeD)):Prop:=okSl (Tryz.prog.bytesOf 24) okNs l
theorem okLst_hn {l:List (List NodeD)} (h:okLst l):∀e∈l,HN e:=fun e he=>okNs_hn (h.2 e he)
theorem okLst_len {l:List (List NodeD)} (h:okLst l):l.length≤140737488355328:=by
 have h1:=h.1
 rw[show Tryz.prog.bytesOf 24=24 by kernel_rfl] at h1
 omega
theorem okRws_24 {l:List RowT} (h:okRws l):l.length*24≤140737488351232:=by
 have h1:=h.1
 rw[show Tryz.prog.bytesOf 49=24 by kernel_rfl] at h1
 exact h1
theorem mapX_mem {α β:Type} {f:α→Except Int β}:∀{l:List α} {bs:List β},mapX f l=.ok bs→∀b∈bs,∃a∈l,f a=.ok b
 | [],bs,h,b,hb=>by rw[mapX] at h;cases h;cases hb
 | a::l,bs,h,b,hb=>by
  rw[mapX] at h
  cases hf:f a with
  | error x=>rw[hf] at h;cases h
  | ok c=>
   rw[hf] at h
   cases hm:mapX f l with
   | error x=>rw[hm] at h;cases h
   | ok cs=>
    rw[hm] at h
    cases h
    rcases List.mem_cons.1 hb with rfl | hb
    ·exact⟨a,List.mem_cons_self,hf⟩
    ·obtain⟨a',h1,h2⟩:=mapX_mem hm b hb
     exact⟨a',List.mem_cons_of_mem _ h1,h2⟩
theorem projF_small (l:List RowT) (cols:List (List UInt8)) (list:List (List NodeD)):(projF l cols list).1.length≤40∧∀r∈(projF l cols list).1,r.length≤16:=by
 by_cases h:projE l list=0
 ·obtain⟨h1,h2,_,h4⟩:=projF_good (cols:=cols) h
  rw[h4]
  cases hm:mapX (projR list cols) l with
  | error x=>exact⟨Nat.zero_le _,fun r h=>by cases h⟩
  | ok m=>
   refine⟨by rw[show ((m,(0:Int)):List RowT×Int).1=m from rfl,mapX_len hm];exact (rowsChk_ok.1 h1).1,fun r hr=>?_⟩
   obtain⟨a,_,ha⟩:=mapX_mem hm r hr
   have:=mapX_len ha
   omega
 ·rw[projF_bad h]
  exact⟨Nat.zero_le _,fun r h=>by cases h⟩
theorem law_ProjectTells (l:List RowT) (hl:okRws l) (cols:List (List UInt8)) (hc:okSl (Tryz.prog.bytesOf 9) okText cols) (list:List (List NodeD)) (hls:okLst list):Pure Tryz.prog 7 [rwsV l,slV 1 eText cols,lstV list] (pBool true):=by
 have p1:=p_Project l (okRws_in hl) cols list (okLst_hn hls)
 have p2:=p_projectof l (okRws_24 hl) (okRws_row hl) (okRws_in hl) cols list (okLst_hn hls) (okLst_len hls)
 have s1:=same_small (projF_small l cols list)
 refine pure_of Tryz.func7 (by rfl) rfl (by kernel_rfl) (by rfl) ?_
 ((conv=>whnf);repeat' ((first|(with_reducible first|apply a_|apply b_|apply c_)|((with_reducible first|apply d_|apply e_|apply f_|apply g_);focus first|omega|(simp only[q_]<;>omega))|((with_reducible first|apply i_|apply h_);focus first|omega|(simp only[q_]<;>omega))|((with_reducible apply h_);focus first|decide|kernel_rfl)|refine s_ (by decide) ?_|refine t_ (by decide) ?_|refine r_ p_bagbegun rfl ?_|refine r_ p1 rfl ?_|refine r_ p2 rfl ?_|refine r_ s1 rfl ?_|with_reducible first|apply l_|apply m_|apply n_|apply o_|refine p_ (fun _=>?_) (fun _=>?_))<;>(conv=>whnf)))
 all_goals first|exact Ret.bool rfl | (exact Ret.bool (by simp)) | skip
end
end Go.Proofs.YtdgmbijjhifbeaaGreatDoor.Pm
