/- Parts of the proof, one behind the other: PbProj PbRef2 PrUnk PrLaws PrKeyLaws PbThm PxMk PbBegun PbLaws PbLaws2 PbLaws3 PbJoinA PmLikeR PmMatchOf PxNodeR PxNodeR2 PxValue PxSame PxFoldE PxFold PxFold2 PxFold3 PxSplit2 PmNil PxPush PxPush2 PxBegun PbFil PbLaws4 PxBegun2 PxPlainB PxPlainC PbLaws5 PbLaws7 PmLaidH PmUpto PbLaws6. Conditions: none beyond what each theorem says. -/
import Derived.Deep.DeepHandedRow
import Derived.Deep.DeepWitnessRowRef
import Derived.Stop.Joined
import Derived.Test.YtdgmbijjhifbeaaGreatDoorYUpto
import Derived.Test.YtdgmbijjhifbeaaGreatDoorZ6
set_option linter.unusedVariables false
set_option linter.unusedSimpArgs false
namespace Go.Proofs.YtdgmbijjhifbeaaGreatDoor.Pm
section
open Go.RowKit K
set_option maxRecDepth 100000
set_option maxRecDepth 100000
def mapX {α β:Type} (f:α→Except Int β):List α→Except Int (List β)
 | []=>.ok []
 | a::l=>match f a with
  | .error x=>.error x
  | .ok b=>match mapX f l with
   | .error x=>.error x
   | .ok bs=>.ok (b::bs)
theorem mapX_app {α β:Type} {f:α→Except Int β}:∀(l m:List α),mapX f (l++m)=match mapX f l with
  | .error x=>.error x
  | .ok bs=>match mapX f m with
   | .error x=>.error x
   | .ok cs=>.ok (bs++cs)
 | [],m=>by
  rw[List.nil_append,mapX]
  cases mapX f m<;>rfl
 | a::l,m=>by
  rw[List.cons_append,mapX,mapX,mapX_app l m]
  cases f a with
  | error x=>rfl
  | ok b=>
   cases mapX f l with
   | error x=>rfl
   | ok bs=>
    cases mapX f m with
    | error x=>rfl
    | ok cs=>rfl
theorem mapX_len {α β:Type} {f:α→Except Int β}:∀{l:List α} {bs:List β},mapX f l=.ok bs→bs.length=l.length
 | [],bs,h=>by rw[mapX] at h;cases h;rfl
 | a::l,bs,h=>by
  rw[mapX] at h
  split at h
  ·cases h
  ·split at h
   ·cases h
   ·rename_i cs hc;cases h;rw[List.length_cons,List.length_cons,mapX_len hc]
theorem mapX_step {α β:Type} {f:α→Except Int β} {l:List α} {k:Nat} {bs:List β} {b:β} (h:k<l.length) (hp:mapX f (l.take k)=.ok bs) (hb:f l[k]=.ok b):mapX f (l.take (k+1))=.ok (bs++[b]):=by
 rw[take_snoc h,mapX_app,hp,mapX,hb,mapX]
theorem mapX_stop {α β:Type} {f:α→Except Int β} {l:List α} {k:Nat} {bs:List β} {x:Int} (h:k<l.length) (hp:mapX f (l.take k)=.ok bs) (hb:f l[k]=.error x):mapX f l=.error x:=by
 conv=>lhs;rw[← List.take_append_drop k l]
 rw[mapX_app,hp,List.drop_eq_getElem_cons h,mapX,hb]
noncomputable def evP (e:List NodeD) (cols:List (List UInt8)) (row:RowT):ValueD×Int:=match evalF e cols row with
 | .ok v=>(v,0)
 | .error x=>(noV,x)
theorem evP_eq (e:List NodeD) (cols:List (List UInt8)) (row:RowT):eVal (evalF e cols row)=.tup [vV (evP e cols row).1,pInt .i64 (evP e cols row).2]:=by
 unfold evP
 cases evalF e cols row<;>rfl
def pairX {α:Type} (p:α×Int):Except Int α:=if p.2=0 then .ok p.1 else .error p.2
noncomputable def projR (list:List (List NodeD)) (cols:List (List UInt8)) (row:RowT):Except Int RowT:=mapX (fun e=>pairX (evP e cols row)) list
def firstX {α:Type} (f:α→Int):List α→Int
 | []=>0
 | a::l=>if f a≠0 then f a else firstX f l
theorem firstX_skip {α:Type} {f:α→Int}:∀(l:List α) (k:Nat),(∀a∈l.take k,f a=0)→firstX f l=firstX f (l.drop k)
 | l,0,_=>by rw[List.drop_zero]
 | [],k+1,_=>rfl
 | a::l,k+1,h=>by
  rw[firstX,if_neg (not_not_intro (h a (by rw[List.take_succ_cons];exact List.mem_cons_self))),List.drop_succ_cons]
  exact firstX_skip l k fun x hx=>h x (by rw[List.take_succ_cons];exact List.mem_cons_of_mem _ hx)
theorem firstX_ok {α:Type} {f:α→Int} {l:List α}:firstX f l=0↔∀a∈l,f a=0:=by
 induction l with
 | nil=>exact⟨fun _ a h=>absurd h List.not_mem_nil,fun _=>rfl⟩
 | cons a l ih=>
  rw[firstX]
  constructor
  ·intro h
   split at h
   ·rename_i q;exact absurd h q
   ·rename_i q
    intro x hx
    rcases List.mem_cons.1 hx with rfl | hx
    ·exact Decidable.of_not_not q
    ·exact ih.1 h x hx
  ·intro h
   rw[if_neg (not_not_intro (h a List.mem_cons_self))]
   exact ih.2 fun x hx=>h x (List.mem_cons_of_mem _ hx)
theorem firstX_at {α:Type} {f:α→Int} {l:List α} {k:Nat} (hk:k<l.length) (h:∀a∈l.take k,f a=0) (hx:f l[k]≠0):firstX f l=f l[k]:=by
 rw[firstX_skip l k h,List.drop_eq_getElem_cons hk,firstX,if_pos hx]
noncomputable def projF (l:List RowT) (cols:List (List UInt8)) (list:List (List NodeD)):List RowT×Int:=
 if rowsChk l≠0 then ([],rowsChk l) else if 8<list.length then ([],2) else if firstX checkF list≠0 then ([],firstX checkF list) else
 match mapX (projR list cols) l with
 | .error x=>([],x)
 | .ok m=>(m,0)
abbrev lstV (list:List (List NodeD)):PV:=.d (.c (.sl 1 (list.map ek)))
theorem p_Project (l:List RowT) (hv:∀r∈l,∀v∈r,WholeP.In64 v.N) (cols:List (List UInt8)) (list:List (List NodeD)) (hn:∀e∈list,∀n∈e,hNode n):Pure Tryz.prog 26 [rwsV l,slV 1 eText cols,lstV list] (.tup [rwsV (projF l cols list).1,pInt .i64 (projF l cols list).2]):=by
 have pc:=p_bagcheck l
 have hml:(list.map ek).length=list.length:=List.length_map _
 refine pure_of Tryz.func26 (by rfl) rfl (by kernel_rfl) (by rfl) ?_
 unfold projF
 by_cases h1:rowsChk l=0
 ·rw[if_neg (not_not_intro h1)]
  rw[h1] at pc
  obtain⟨h40,h8⟩:=rowsChk_ok.1 h1
  by_cases h2:8<list.length
  ·rw[if_pos h2]
   ((conv=>whnf);repeat' ((first|(with_reducible first|apply a_|apply b_|apply c_)|((with_reducible first|apply d_|apply e_|apply f_|apply g_);focus first|omega|(simp only[q_]<;>omega))|((with_reducible first|apply i_|apply h_);focus first|omega|(simp only[q_]<;>omega))|((with_reducible apply h_);focus first|decide|kernel_rfl)|refine s_ (by decide) ?_|refine t_ (by decide) ?_|refine r_ pc rfl ?_|with_reducible first|apply l_|apply m_|apply n_|apply o_|refine p_ (fun _=>?_) (fun _=>?_))<;>(conv=>whnf)))
   all_goals first|exact Ret.le ⟨.inr ⟨⟨1,rfl⟩,.inl rfl⟩,.inl rfl,rfl⟩ | (exfalso;omega)
  ·rw[if_neg h2]
   ((conv=>whnf);repeat' ((first|(with_reducible first|apply a_|apply b_|apply c_)|((with_reducible first|apply d_|apply e_|apply f_|apply g_);focus first|omega|(simp only[q_]<;>omega))|((with_reducible first|apply i_|apply h_);focus first|omega|(simp only[q_]<;>omega))|((with_reducible apply h_);focus first|decide|kernel_rfl)|refine s_ (by decide) ?_|refine t_ (by decide) ?_|refine r_ pc rfl ?_|with_reducible first|apply l_|apply m_|apply n_|apply o_|refine p_ (fun _=>?_) (fun _=>?_))<;>(conv=>whnf)))
   refine LoopC.mk Nat (fun k=>[(0,rwsV l),(1,slV 1 eText cols),(2,lstV list),(28,lstV list),(29,pInt .i64 list.length),(30,pInt .i64 (k:Int))]) (fun _=>[]) [] (fun k=>k≤list.length∧∀a∈list.take k,checkF a=0) (fun k=>list.length - k) 0 ⟨Nat.zero_le _,by simp⟩ ?start ?round
   case start=>exact⟨[],rfl,rfl,⟨.inl rfl,.inl rfl,.inl rfl,.inl rfl,PLe.int (by simp),.inl rfl,trivial⟩,trivial⟩
   case round=>
    rintro k ⟨hk,hz⟩
    have hk:k≤list.length:=hk
    have hz:∀a∈list.take k,checkF a=0:=hz
    by_cases q:k<list.length
    ·have pe:=p_echeck list[k] fun n h=>(hn _ (List.getElem_mem q) n h).1
     by_cases hx:checkF list[k]=0
     ·rw[hx] at pe
      ((conv=>whnf);repeat' ((first|(with_reducible first|apply a_|apply b_|apply c_)|((with_reducible first|apply d_|apply e_|apply f_|apply g_);focus first|omega|(simp only[q_]<;>omega))|((with_reducible first|apply i_|apply h_);focus first|omega|(simp only[q_]<;>omega))|((with_reducible apply h_);focus first|decide|kernel_rfl)|refine s_ (by decide) ?_|refine t_ (by decide) ?_|(refine Idx.mapI (f:=ek) k rfl q ?_)|refine r_ pe rfl ?_|with_reducible first|apply l_|apply m_|apply n_|apply o_|refine p_ (fun _=>?_) (fun _=>?_))<;>(conv=>whnf)))
      all_goals first
       | (exfalso;omega)
       | skip
      refine⟨k+1,⟨by show k+1≤_;omega,fun a ha=>?_⟩,by show list.length - (k+1)<list.length - k;omega,[],rfl,rfl,⟨.inl rfl,.inl rfl,.inl rfl,.inl rfl,PLe.int (by simp),PLe.int (by omega),trivial⟩,trivial⟩
      rw[take_snoc q,List.mem_append,List.mem_singleton] at ha
      rcases ha with ha | rfl
      ·exact hz a ha
      ·exact hx
     ·rw[if_pos (by rw[firstX_at q hz hx];exact hx),firstX_at q hz hx]
      ((conv=>whnf);repeat' ((first|(with_reducible first|apply a_|apply b_|apply c_)|((with_reducible first|apply d_|apply e_|apply f_|apply g_);focus first|omega|(simp only[q_]<;>omega))|((with_reducible first|apply i_|apply h_);focus first|omega|(simp only[q_]<;>omega))|((with_reducible apply h_);focus first|decide|kernel_rfl)|refine s_ (by decide) ?_|refine t_ (by decide) ?_|(refine Idx.mapI (f:=ek) k rfl q ?_)|refine r_ pe rfl ?_|with_reducible first|apply l_|apply m_|apply n_|apply o_|refine p_ (fun _=>?_) (fun _=>?_))<;>(conv=>whnf)))
      all_goals first|exact Ret.le ⟨.inr ⟨⟨1,rfl⟩,.inl rfl⟩,.inl rfl,rfl⟩ | (exfalso;omega)
    ·have e1:list.take k=list:=List.take_of_length_le (by omega)
     rw[e1] at hz
     rw[if_neg (not_not_intro (firstX_ok.2 hz))]
     ((conv=>whnf);repeat' ((first|(with_reducible first|apply a_|apply b_|apply c_)|((with_reducible first|apply d_|apply e_|apply f_|apply g_);focus first|omega|(simp only[q_]<;>omega))|((with_reducible first|apply i_|apply h_);focus first|omega|(simp only[q_]<;>omega))|((with_reducible apply h_);focus first|decide|kernel_rfl)|refine s_ (by decide) ?_|refine t_ (by decide) ?_|with_reducible first|apply l_|apply m_|apply n_|apply o_|refine p_ (fun _=>?_) (fun _=>?_))<;>(conv=>whnf)))
     refine LoopC.mk (Nat×List RowT) (fun s=>[(1,slV 1 eText cols),(2,lstV list),(12,.d (.app 60 49 1 (s.2.map rowC))),(40,rwsV l),(41,pInt .i64 l.length),(42,pInt .i64 (s.1:Int))]) (fun _=>[(60,.tail 49 1)]) [60] (fun s=>s.1≤l.length∧mapX (projR list cols) (l.take s.1)=.ok s.2) (fun s=>l.length - s.1) (0,[]) ⟨Nat.zero_le _,rfl⟩ ?start2 ?round2
     case start2=>exact⟨[],rfl,rfl,⟨.inl rfl,.inl rfl,⟨rfl,rfl,Nat.zero_lt_succ _,rfl,rfl⟩,.inl rfl,PLe.int (by simp),.inl rfl,trivial⟩,⟨rfl,Nat.zero_lt_succ _⟩,trivial⟩
     case round2=>
      rintro⟨i,m⟩ ⟨hi,hm⟩
      have hi:i≤l.length:=hi
      have hm:mapX (projR list cols) (l.take i)=.ok m:=hm
      have hmlen:m.length=i:=by rw[mapX_len hm,List.length_take];omega
      by_cases qi:i<l.length
      ·((conv=>whnf);repeat' ((first|(with_reducible first|apply a_|apply b_|apply c_)|((with_reducible first|apply d_|apply e_|apply f_|apply g_);focus first|omega|(simp only[q_]<;>omega))|((with_reducible first|apply i_|apply h_);focus first|omega|(simp only[q_]<;>omega))|((with_reducible apply h_);focus first|decide|kernel_rfl)|refine s_ (by decide) ?_|refine t_ (by decide) ?_|(refine Idx.mapI (f:=rowC) i rfl qi ?_)|with_reducible first|apply l_|apply m_|apply n_|apply o_|refine p_ (fun _=>?_) (fun _=>?_))<;>(conv=>whnf)))
       refine LoopC.mk (Nat×RowT) (fun s=>[(1,slV 1 eText cols),(2,lstV list),(12,.d (.app 60 49 1 (m.map rowC))),(14,slV 3 ValueD.c l[i]),(15,.d (.app 61 33 3 (s.2.map ValueD.c))),(40,rwsV l),(41,pInt .i64 l.length),(42,pInt .i64 (i:Int)),(46,lstV list),(47,pInt .i64 list.length),(48,pInt .i64 (s.1:Int))]) (fun _=>[(60,.tail 49 1),(61,.tail 33 3)]) [60,61] (fun s=>s.1≤list.length∧mapX (fun e=>pairX (evP e cols l[i])) (list.take s.1)=.ok s.2) (fun s=>list.length - s.1) (0,[]) ⟨Nat.zero_le _,rfl⟩ ?start3 ?round3
       case start3=>exact⟨[(60,60)],rfl,rfl,⟨.inl rfl,.inl rfl,⟨rfl,rfl,rfl,rfl,rfl⟩,.inl rfl,⟨rfl,rfl,Nat.zero_lt_succ _,rfl,rfl⟩,.inl rfl,.inl rfl,.inl rfl,.inl rfl,PLe.int (by simp),.inl rfl,trivial⟩,⟨rfl,rfl,rfl⟩,⟨rfl,Nat.zero_lt_succ _⟩,trivial⟩
       case round3=>
        rintro⟨j,r⟩ ⟨hj,hr⟩
        have hj:j≤list.length:=hj
        have hr:mapX (fun e=>pairX (evP e cols l[i])) (list.take j)=.ok r:=hr
        have hrlen:r.length=j:=by rw[mapX_len hr,List.length_take];omega
        by_cases qj:j<list.length
        ·have hmi:=List.getElem_mem qi
         have pv:=p_eval list[j] (hn _ (List.getElem_mem qj)) cols l[i] (by have:=(h8 _ hmi).1;omega) (hv _ hmi)
         rw[evP_eq] at pv
         by_cases hx:(evP list[j] cols l[i]).2=0
         ·rw[hx] at pv
          have hs:=mapX_step (f:=fun e=>pairX (evP e cols l[i])) qj hr (show pairX (evP list[j] cols l[i])=.ok _ from if_pos hx)
          ((conv=>whnf);repeat' ((first|(with_reducible first|apply a_|apply b_|apply c_)|((with_reducible first|apply d_|apply e_|apply f_|apply g_);focus first|omega|(simp only[q_]<;>omega))|((with_reducible first|apply i_|apply h_);focus first|omega|(simp only[q_]<;>omega))|((with_reducible apply h_);focus first|decide|kernel_rfl)|refine s_ (by decide) ?_|refine t_ (by decide) ?_|(refine Idx.mapI (f:=ek) j rfl qj ?_)|refine r_ pv rfl ?_|(refine Need.by 32 rfl (by simp only[List.length_map,List.length_singleton];omega) ?_)|with_reducible first|apply l_|apply m_|apply n_|apply o_|refine p_ (fun _=>?_) (fun _=>?_))<;>(conv=>whnf)))
          all_goals first
           | (exfalso;omega)
           | skip
          refine⟨(j+1,r++[(evP list[j] cols l[i]).1]),⟨by show j+1≤_;omega,hs⟩,by show list.length - (j+1)<list.length - j;omega,[(60,60),(61,65)],rfl,rfl,⟨.inl rfl,.inl rfl,⟨rfl,rfl,rfl,rfl,rfl⟩,.inl rfl,⟨rfl,rfl,rfl,rfl,(show _=(r++[(evP list[j] cols l[i]).1]).map ValueD.c by rw[List.map_append];rfl)⟩,.inl rfl,.inl rfl,.inl rfl,.inl rfl,PLe.int (by simp),PLe.int rfl,trivial⟩,⟨rfl,rfl,rfl⟩,⟨rfl,rfl,rfl⟩,trivial⟩
         ·have hs:=mapX_stop (f:=fun e=>pairX (evP e cols l[i])) qj hr (show pairX (evP list[j] cols l[i])=.error _ from if_neg hx)
          have hs2:=mapX_stop (f:=projR list cols) qi hm hs
          rw[hs2]
          ((conv=>whnf);repeat' ((first|(with_reducible first|apply a_|apply b_|apply c_)|((with_reducible first|apply d_|apply e_|apply f_|apply g_);focus first|omega|(simp only[q_]<;>omega))|((with_reducible first|apply i_|apply h_);focus first|omega|(simp only[q_]<;>omega))|((with_reducible apply h_);focus first|decide|kernel_rfl)|refine s_ (by decide) ?_|refine t_ (by decide) ?_|(refine Idx.mapI (f:=ek) j rfl qj ?_)|refine r_ pv rfl ?_|with_reducible first|apply l_|apply m_|apply n_|apply o_|refine p_ (fun _=>?_) (fun _=>?_))<;>(conv=>whnf)))
          all_goals first|exact Ret.le ⟨.inr ⟨⟨1,rfl⟩,.inl rfl⟩,.inl rfl,rfl⟩ | (exfalso;omega)
        ·have e2:list.take j=list:=List.take_of_length_le (by omega)
         rw[e2] at hr
         have hs:=mapX_step (f:=projR list cols) qi hm hr
         ((conv=>whnf);repeat' ((first|(with_reducible first|apply a_|apply b_|apply c_)|((with_reducible first|apply d_|apply e_|apply f_|apply g_);focus first|omega|(simp only[q_]<;>omega))|((with_reducible first|apply i_|apply h_);focus first|omega|(simp only[q_]<;>omega))|((with_reducible apply h_);focus first|decide|kernel_rfl)|refine s_ (by decide) ?_|refine t_ (by decide) ?_|(refine Need.by 24 rfl (by simp only[List.length_map,List.length_singleton];omega) ?_)|with_reducible first|apply l_|apply m_|apply n_|apply o_|refine p_ (fun _=>?_) (fun _=>?_))<;>(conv=>whnf)))
         all_goals first
          | (exfalso;omega)
          | skip
         refine⟨(i+1,m++[r]),⟨by show i+1≤_;omega,hs⟩,by show l.length - (i+1)<l.length - i;omega,[(60,70)],rfl,rfl,⟨.inl rfl,.inl rfl,⟨rfl,rfl,rfl,rfl,(show _=(m++[r]).map rowC by rw[List.map_append];rfl)⟩,.inl rfl,PLe.int (by simp),PLe.int rfl,trivial⟩,⟨rfl,rfl,rfl⟩,trivial⟩
      ·have e2:l.take i=l:=List.take_of_length_le (by omega)
       rw[e2] at hm
       rw[hm]
       ((conv=>whnf);repeat' ((first|(with_reducible first|apply a_|apply b_|apply c_)|((with_reducible first|apply d_|apply e_|apply f_|apply g_);focus first|omega|(simp only[q_]<;>omega))|((with_reducible first|apply i_|apply h_);focus first|omega|(simp only[q_]<;>omega))|((with_reducible apply h_);focus first|decide|kernel_rfl)|refine s_ (by decide) ?_|refine t_ (by decide) ?_|with_reducible first|apply l_|apply m_|apply n_|apply o_|refine p_ (fun _=>?_) (fun _=>?_))<;>(conv=>whnf)))
       all_goals first|exact Ret.eq rfl | (exfalso;omega)
 ·rw[if_pos h1]
  ((conv=>whnf);repeat' ((first|(with_reducible first|apply a_|apply b_|apply c_)|((with_reducible first|apply d_|apply e_|apply f_|apply g_);focus first|omega|(simp only[q_]<;>omega))|((with_reducible first|apply i_|apply h_);focus first|omega|(simp only[q_]<;>omega))|((with_reducible apply h_);focus first|decide|kernel_rfl)|refine s_ (by decide) ?_|refine t_ (by decide) ?_|refine r_ pc rfl ?_|with_reducible first|apply l_|apply m_|apply n_|apply o_|refine p_ (fun _=>?_) (fun _=>?_))<;>(conv=>whnf)))
  all_goals first|exact Ret.le ⟨.inr ⟨⟨1,rfl⟩,.inl rfl⟩,.inl rfl,rfl⟩ | (exfalso;omega)
end
section
open Go.RowKit K
set_option maxRecDepth 100000
set_option maxRecDepth 100000
def distR (l:List RowT):Nat→List RowT
 | 0=>[]
 | k+1=>distR l k++(match l[k]? with | some r=>if howF (l.take k) r=0 then [r] else [] | none=>[])
theorem distR_succ {l:List RowT} {k:Nat} (h:k<l.length):distR l (k+1)=distR l k++(if howF (l.take k) l[k]=0 then [l[k]] else []):=by
 rw[distR,List.getElem?_eq_getElem h]
theorem distR_len (l:List RowT):∀k,(distR l k).length≤k
 | 0=>Nat.le_refl _
 | k+1=>by
  have:=distR_len l k
  rw[distR,List.length_append]
  split
  ·split<;>simp<;>omega
  ·simp;omega
theorem p_distinctof (l:List RowT) (hb:∀r∈l,r.length≤140737488355328):Pure Tryz.prog 29 [rwsV l] (.tup [rwsV (if rowsChk l=0 then distR l l.length else []),pInt .i64 (rowsChk l)]):=by
 have hml:(l.map rowC).length=l.length:=List.length_map _
 have pc:=p_rowscheck l hb
 refine pure_of Tryz.func29 (by rfl) rfl (by kernel_rfl) (by rfl) ?_
 by_cases h:rowsChk l=0
 ·rw[if_pos h,h]
  rw[h] at pc
  have h40:=(rowsChk_ok.1 h).1
  ((conv=>whnf);repeat' ((first|(with_reducible first|apply a_|apply b_|apply c_)|((with_reducible first|apply d_|apply e_|apply f_|apply g_);focus first|omega|(simp only[q_]<;>omega))|((with_reducible first|apply i_|apply h_);focus first|omega|(simp only[q_]<;>omega))|((with_reducible apply h_);focus first|decide|kernel_rfl)|refine s_ (by decide) ?_|refine t_ (by decide) ?_|refine r_ pc rfl ?_|with_reducible first|apply l_|apply m_|apply n_|apply o_|refine p_ (fun _=>?_) (fun _=>?_))<;>(conv=>whnf)))
  refine LoopC.mk Nat (fun k=>[(0,rwsV l),(5,.d (.app 60 49 1 ((distR l k).map rowC))),(6,pInt .i64 (k:Int))]) (fun k=>[(60,.tail 49 1)]) [60] (fun k=>k≤l.length) (fun k=>l.length - k) 0 (Nat.zero_le _) ?start ?round
  case start=>exact⟨[],rfl,rfl,⟨.inl rfl,⟨rfl,rfl,Nat.zero_lt_succ _,rfl,rfl⟩,.inl rfl,trivial⟩,⟨rfl,Nat.zero_lt_succ _⟩,trivial⟩
  case round=>
   intro k hk
   have hk:k≤l.length:=hk
   by_cases q:k<l.length
   ·have hd:=distR_succ q
    have hdl:=distR_len l k
    have ph:=p_howoften (l.take k) l[k] (by rw[List.length_take];omega) (fun r hr=>hb r (List.mem_of_mem_take hr))
    have ph:=(show Pure Tryz.prog 32 [.d (.c (.sl 1 ((l.take k).map rowC))),_] _ from ph)
    rw[List.map_take] at ph
    by_cases hz:howF (l.take k) l[k]=0
    ·rw[if_pos hz] at hd
     rw[hz] at ph
     ((conv=>whnf);repeat' ((first|(with_reducible first|apply a_|apply b_|apply c_)|((with_reducible first|apply d_|apply e_|apply f_|apply g_);focus first|omega|(simp only[q_]<;>omega))|((with_reducible first|apply i_|apply h_);focus first|omega|(simp only[q_]<;>omega))|((with_reducible apply h_);focus first|decide|kernel_rfl)|refine s_ (by decide) ?_|refine t_ (by decide) ?_|(refine Idx.mapI (f:=rowC) k rfl q ?_)|refine r_ ph rfl ?_|(refine Need.by 24 rfl (by simp only[List.length_map,List.length_singleton];omega) ?_)|with_reducible first|apply l_|apply m_|apply n_|apply o_|refine p_ (fun _=>?_) (fun _=>?_))<;>(conv=>whnf)))
     refine⟨k+1,by omega,by omega,[(60,33)],rfl,rfl,⟨.inl rfl,⟨rfl,rfl,rfl,rfl,?_⟩,PLe.int (by omega),trivial⟩,⟨rfl,rfl,rfl⟩,trivial⟩
     rw[hd,List.map_append];rfl
    ·rw[if_neg hz,List.append_nil] at hd
     ((conv=>whnf);repeat' ((first|(with_reducible first|apply a_|apply b_|apply c_)|((with_reducible first|apply d_|apply e_|apply f_|apply g_);focus first|omega|(simp only[q_]<;>omega))|((with_reducible first|apply i_|apply h_);focus first|omega|(simp only[q_]<;>omega))|((with_reducible apply h_);focus first|decide|kernel_rfl)|refine s_ (by decide) ?_|refine t_ (by decide) ?_|(refine Idx.mapI (f:=rowC) k rfl q ?_)|refine r_ ph rfl ?_|with_reducible first|apply l_|apply m_|apply n_|apply o_|refine p_ (fun _=>?_) (fun _=>?_))<;>(conv=>whnf)))
     refine⟨k+1,by omega,by omega,[(60,60)],rfl,rfl,⟨.inl rfl,⟨rfl,rfl,rfl,rfl,?_⟩,PLe.int (by omega),trivial⟩,⟨rfl,rfl,rfl⟩,trivial⟩
     rw[hd]
   ·obtain rfl:k=l.length:=by omega
    ((conv=>whnf);repeat' ((first|(with_reducible first|apply a_|apply b_|apply c_)|((with_reducible first|apply d_|apply e_|apply f_|apply g_);focus first|omega|(simp only[q_]<;>omega))|((with_reducible first|apply i_|apply h_);focus first|omega|(simp only[q_]<;>omega))|((with_reducible apply h_);focus first|decide|kernel_rfl)|refine s_ (by decide) ?_|refine t_ (by decide) ?_|with_reducible first|apply l_|apply m_|apply n_|apply o_|refine p_ (fun _=>?_) (fun _=>?_))<;>(conv=>whnf)))
    exact Ret.mk rfl
 ·rw[if_neg h]
  ((conv=>whnf);repeat' ((first|(with_reducible first|apply a_|apply b_|apply c_)|((with_reducible first|apply d_|apply e_|apply f_|apply g_);focus first|omega|(simp only[q_]<;>omega))|((with_reducible first|apply i_|apply h_);focus first|omega|(simp only[q_]<;>omega))|((with_reducible apply h_);focus first|decide|kernel_rfl)|refine s_ (by decide) ?_|refine t_ (by decide) ?_|refine r_ pc rfl ?_|with_reducible first|apply l_|apply m_|apply n_|apply o_|refine p_ (fun _=>?_) (fun _=>?_))<;>(conv=>whnf)))
  all_goals first|exact Ret.le ⟨.inr ⟨⟨1,rfl⟩,.inl rfl⟩,.inl rfl,rfl⟩ | (exfalso;omega)
theorem lim_step {l:List RowT} {s m k:Nat} (h:k<l.length):((l.take (k+1)).drop s).take m=((l.take k).drop s).take m++(if s≤k∧(((l.take k).drop s).take m).length<m then [l[k]] else []):=by
 rw[take_snoc h]
 by_cases hs:s≤k
 ·rw[List.drop_append_of_le_length (by rw[List.length_take];omega),List.take_append]
  congr 1
  rw[List.length_take]
  by_cases hm:((l.take k).drop s).length<m
  ·rw[if_pos ⟨hs,by omega⟩,List.take_of_length_le (by show 1≤_;omega)]
  ·rw[if_neg (by omega),show m - ((l.take k).drop s).length=0 by omega,List.take_zero]
 ·rw[if_neg (fun h=>hs h.1),List.drop_of_length_le (by rw[List.length_append,List.length_take];show min k l.length+1≤s;omega),List.drop_of_length_le (by rw[List.length_take];omega)]
  simp
theorem p_limitof (l:List RowT) (skip most:Int) (hb:∀r∈l,r.length≤140737488355328):Pure Tryz.prog 31 [rwsV l,pInt .i64 skip,pInt .i64 most] (.tup [rwsV (limF l skip most).1,pInt .i64 (limF l skip most).2]):=by
 have hml:(l.map rowC).length=l.length:=List.length_map _
 have pc:=p_rowscheck l hb
 refine pure_of Tryz.func31 (by rfl) rfl (by kernel_rfl) (by rfl) ?_
 unfold limF
 by_cases h:rowsChk l=0
 ·rw[if_neg (not_not_intro h)]
  rw[h] at pc
  have h40:=(rowsChk_ok.1 h).1
  by_cases h2:skip<0∨most<0
  ·rw[if_pos h2]
   ((conv=>whnf);repeat' ((first|(with_reducible first|apply a_|apply b_|apply c_)|((with_reducible first|apply d_|apply e_|apply f_|apply g_);focus first|omega|(simp only[q_]<;>omega))|((with_reducible first|apply i_|apply h_);focus first|omega|(simp only[q_]<;>omega))|((with_reducible apply h_);focus first|decide|kernel_rfl)|refine s_ (by decide) ?_|refine t_ (by decide) ?_|refine r_ pc rfl ?_|with_reducible first|apply l_|apply m_|apply n_|apply o_|refine p_ (fun _=>?_) (fun _=>?_))<;>(conv=>whnf)))
   all_goals first|exact Ret.le ⟨.inr ⟨⟨1,rfl⟩,.inl rfl⟩,.inl rfl,rfl⟩ | (exfalso;omega)
  ·rw[if_neg h2]
   obtain⟨s,rfl⟩:∃s:Nat,skip=s:=⟨skip.toNat,by omega⟩
   obtain⟨m,rfl⟩:∃m:Nat,most=m:=⟨most.toNat,by omega⟩
   rw[show (s:Int).toNat=s from rfl,show (m:Int).toNat=m from rfl]
   ((conv=>whnf);repeat' ((first|(with_reducible first|apply a_|apply b_|apply c_)|((with_reducible first|apply d_|apply e_|apply f_|apply g_);focus first|omega|(simp only[q_]<;>omega))|((with_reducible first|apply i_|apply h_);focus first|omega|(simp only[q_]<;>omega))|((with_reducible apply h_);focus first|decide|kernel_rfl)|refine s_ (by decide) ?_|refine t_ (by decide) ?_|refine r_ pc rfl ?_|with_reducible first|apply l_|apply m_|apply n_|apply o_|refine p_ (fun _=>?_) (fun _=>?_))<;>(conv=>whnf)))
   all_goals try (exfalso;omega)
   refine LoopC.mk Nat (fun k=>[(0,rwsV l),(1,pInt .i64 (s:Int)),(2,pInt .i64 (m:Int)),(9,.d (.app 60 49 1 ((((l.take k).drop s).take m).map rowC))),(10,pInt .i64 (k:Int))]) (fun k=>[(60,.tail 49 1)]) [60] (fun k=>k≤l.length) (fun k=>l.length - k) 0 (Nat.zero_le _) ?start ?round
   case start=>exact⟨[],rfl,rfl,⟨.inl rfl,.inl rfl,.inl rfl,⟨rfl,rfl,Nat.zero_lt_succ _,by simp,rfl⟩,.inl rfl,trivial⟩,⟨rfl,Nat.zero_lt_succ _⟩,trivial⟩
   case round=>
    intro k hk
    have hk:k≤l.length:=hk
    by_cases q:k<l.length
    ·have hd:=lim_step (s:=s) (m:=m) q
     have hdl:(((l.take k).drop s).take m).length≤k:=by rw[List.length_take,List.length_drop,List.length_take];omega
     have hdm:((((l.take k).drop s).take m).map rowC).length=(((l.take k).drop s).take m).length:=List.length_map _
     by_cases hz:s≤k∧(((l.take k).drop s).take m).length<m
     ·rw[if_pos hz] at hd
      obtain⟨hz1,hz2⟩:=hz
      ((conv=>whnf);repeat' ((first|(with_reducible first|apply a_|apply b_|apply c_)|((with_reducible first|apply d_|apply e_|apply f_|apply g_);focus first|omega|(simp only[q_]<;>omega))|((with_reducible first|apply i_|apply h_);focus first|omega|(simp only[q_]<;>omega))|((with_reducible apply h_);focus first|decide|kernel_rfl)|refine s_ (by decide) ?_|refine t_ (by decide) ?_|(refine Idx.mapI (f:=rowC) k rfl q ?_)|(refine Need.by 24 rfl (by simp only[List.length_map,List.length_singleton];omega) ?_)|with_reducible first|apply l_|apply m_|apply n_|apply o_|refine p_ (fun _=>?_) (fun _=>?_))<;>(conv=>whnf)))
      all_goals try (exfalso;omega)
      refine⟨k+1,by omega,by omega,[(60,47)],rfl,rfl,⟨.inl rfl,.inl rfl,.inl rfl,⟨rfl,rfl,rfl,rfl,?_⟩,PLe.int (by omega),trivial⟩,⟨rfl,rfl,rfl⟩,trivial⟩
      rw[hd,List.map_append];rfl
     ·rw[if_neg hz,List.append_nil] at hd
      ((conv=>whnf);repeat' ((first|(with_reducible first|apply a_|apply b_|apply c_)|((with_reducible first|apply d_|apply e_|apply f_|apply g_);focus first|omega|(simp only[q_]<;>omega))|((with_reducible first|apply i_|apply h_);focus first|omega|(simp only[q_]<;>omega))|((with_reducible apply h_);focus first|decide|kernel_rfl)|refine s_ (by decide) ?_|refine t_ (by decide) ?_|(refine Idx.mapI (f:=rowC) k rfl q ?_)|with_reducible first|apply l_|apply m_|apply n_|apply o_|refine p_ (fun _=>?_) (fun _=>?_))<;>(conv=>whnf)))
      all_goals try (exfalso;omega)
      all_goals
       refine⟨k+1,by omega,by omega,[(60,60)],rfl,rfl,⟨.inl rfl,.inl rfl,.inl rfl,⟨rfl,rfl,rfl,rfl,?_⟩,PLe.int (by omega),trivial⟩,⟨rfl,rfl,rfl⟩,trivial⟩
       rw[hd]
    ·obtain rfl:k=l.length:=by omega
     rw[List.take_length]
     ((conv=>whnf);repeat' ((first|(with_reducible first|apply a_|apply b_|apply c_)|((with_reducible first|apply d_|apply e_|apply f_|apply g_);focus first|omega|(simp only[q_]<;>omega))|((with_reducible first|apply i_|apply h_);focus first|omega|(simp only[q_]<;>omega))|((with_reducible apply h_);focus first|decide|kernel_rfl)|refine s_ (by decide) ?_|refine t_ (by decide) ?_|with_reducible first|apply l_|apply m_|apply n_|apply o_|refine p_ (fun _=>?_) (fun _=>?_))<;>(conv=>whnf)))
     exact Ret.mk rfl
 ·rw[if_pos h]
  ((conv=>whnf);repeat' ((first|(with_reducible first|apply a_|apply b_|apply c_)|((with_reducible first|apply d_|apply e_|apply f_|apply g_);focus first|omega|(simp only[q_]<;>omega))|((with_reducible first|apply i_|apply h_);focus first|omega|(simp only[q_]<;>omega))|((with_reducible apply h_);focus first|decide|kernel_rfl)|refine s_ (by decide) ?_|refine t_ (by decide) ?_|refine r_ pc rfl ?_|with_reducible first|apply l_|apply m_|apply n_|apply o_|refine p_ (fun _=>?_) (fun _=>?_))<;>(conv=>whnf)))
  all_goals first|exact Ret.le ⟨.inr ⟨⟨1,rfl⟩,.inl rfl⟩,.inl rfl,rfl⟩ | (exfalso;omega)
end
section
open Go.RowKit K NumP NumW NumRd NumZ NumL
set_option maxRecDepth 100000
def unb:List UInt8→Option (List UInt8×List UInt8)
 | []=>none
 | [_]=>none
 | a::b::r=>if a≠0 then (match unb (b::r) with | some (t,q)=>some (a::t,q) | none=>none)
  else if b=1 then some ([],r) else if b=255 then (match unb r with | some (t,q)=>some (0::t,q) | none=>none) else none
theorem unb_two (a b:UInt8) (r:List UInt8):unb (a::b::r)=if a≠0 then (match unb (b::r) with | some (t,q)=>some (a::t,q) | none=>none)
  else if b=1 then some ([],r) else if b=255 then (match unb r with | some (t,q)=>some (0::t,q) | none=>none) else none:=by
 conv=>lhs;unfold unb
def unbR (l:List UInt8):List UInt8×List UInt8×Bool:=match unb l with
 | some (t,q)=>(t,q,true)
 | none=>([],[],false)
def fold8:Nat→List UInt8→Nat
 | n,[]=>n
 | n,b::l=>fold8 (n*256+b.toNat) l
def dec8 (l:List UInt8):Int:=(fold8 0 l:Int) - 9223372036854775808
def unkR:List UInt8→ValueD×List UInt8×Bool
 | []=>(z0,[],false)
 | tag::r=>
  if tag=5 then (z0,r,true)
  else if tag=16 then (if r.length<8 then (z0,[],false) else (⟨1,dec8 (r.take 8),[]⟩,r.drop 8,true))
  else if tag=32 then (⟨2,0,(unbR r).1⟩,(unbR r).2.1,(unbR r).2.2)
  else if tag=48 then (⟨3,0,(unbR r).1⟩,(unbR r).2.1,(unbR r).2.2)
  else (z0,[],false)
theorem unkR_cons (tag:UInt8) (r:List UInt8):unkR (tag::r) =
  if tag=5 then (z0,r,true)
  else if tag=16 then (if r.length<8 then (z0,[],false) else (⟨1,dec8 (r.take 8),[]⟩,r.drop 8,true))
  else if tag=32 then (⟨2,0,(unbR r).1⟩,(unbR r).2.1,(unbR r).2.2)
  else if tag=48 then (⟨3,0,(unbR r).1⟩,(unbR r).2.1,(unbR r).2.2)
  else (z0,[],false):=rfl
def ukGo:Nat→List ValueD→List UInt8→List ValueD×Int
 | 0,out,_=>(out,0)
 | f+1,out,s=>if s=[] then (out,0) else if out.length=8 then ([],2) else if (unkR s).2.2=false then ([],1) else if 16<(unkR s).1.S.length then ([],2) else ukGo f (out++[(unkR s).1]) (unkR s).2.1
def ukR (l:List UInt8):List ValueD×Int:=ukGo 9 [] l
end
section
open Go.RowKit K NumP NumW NumRd NumZ NumL
set_option maxRecDepth 100000
end
section
open Go.RowKit K NumP NumW NumRd NumZ NumL
set_option maxRecDepth 100000
theorem unb_back:∀(t q:List UInt8),unb (escK t++0::1::q)=some (t,q)
 | [],q=>by
  show unb (0::1::q)=_
  rw[unb_two,if_neg (by decide),if_pos rfl]
 | b::t,q=>by
  have ih:=unb_back t q
  show unb ((if b=0 then 0::255::escK t else b::escK t)++0::1::q)=_
  by_cases hb:b=0
  ·rw[if_pos hb]
   show unb (0::255::(escK t++0::1::q))=_
   rw[unb_two,if_neg (by decide),if_neg (by decide),if_pos rfl,ih,hb]
  ·rw[if_neg hb]
   show unb (b::(escK t++0::1::q))=_
   cases h:escK t++0::1::q with
   | nil=>simp at h
   | cons c r=>
    rw[unb_two,if_pos hb,← h,ih]
theorem b8_fold (n:Nat) (h:n<18446744073709551616):fold8 0 (b8 (n:Int))=n:=by
 have e:∀k:Int,((by1 k).toNat:Int)=k%256:=by1_int
 have h0:=e ((n:Int) / 2^56)
 have h1:=e ((n:Int) / 2^48)
 have h2:=e ((n:Int) / 2^40)
 have h3:=e ((n:Int) / 2^32)
 have h4:=e ((n:Int) / 2^24)
 have h5:=e ((n:Int) / 2^16)
 have h6:=e ((n:Int) / 2^8)
 have h7:=e (n:Int)
 simp only[fold8,b8]
 simp only[show (2:Int)^56=72057594037927936 from rfl,show (2:Int)^48=281474976710656 from rfl,show (2:Int)^40=1099511627776 from rfl,show (2:Int)^32=4294967296 from rfl,show (2:Int)^24=16777216 from rfl,show (2:Int)^16=65536 from rfl,show (2:Int)^8=256 from rfl] at *
 omega
theorem dec8_b8 {n:Int} (h:okInt n):dec8 (b8 (n+9223372036854775808))=n:=by
 obtain⟨u,hu⟩:∃u:Nat,n+9223372036854775808=u:=⟨(n+9223372036854775808).toNat,by have:=h.1;omega⟩
 have:=h.2
 unfold dec8
 rw[hu,b8_fold u (by omega)]
 omega
theorem unkR_back {v:ValueD} (h:vChk v=0) (hN:okInt v.N) (q:List UInt8):unkR (kW v++q)=(v,q,true):=by
 obtain⟨k1,k2,k3,k4⟩:=vChk_inv h
 obtain⟨kd,n,s⟩:=v
 simp only at k1 k2 k3 k4 hN
 have kk:kd=0∨kd=1∨kd=2∨kd=3:=by omega
 rcases kk with rfl | rfl | rfl | rfl
 ·rw[k2 (by decide),k3 (by decide)];rfl
 ·rw[k3 (by decide)]
  show unkR (16::(b8 (n+9223372036854775808)++q))=_
  rw[unkR_cons,if_neg (by decide),if_pos rfl,if_neg (by rw[List.length_append];show ¬8+_<8;omega)]
  have l8:(b8 (n+9223372036854775808)).length=8:=rfl
  rw[List.take_left' l8,List.drop_left' l8,dec8_b8 hN]
 ·rw[k2 (by decide)]
  show unkR (32::(escK s++[0,1]++q))=_
  rw[unkR_cons,if_neg (by decide),if_neg (by decide),if_pos rfl]
  have e:unbR (escK s++[0,1]++q)=(s,q,true):=by unfold unbR;rw[List.append_assoc];show (match unb (escK s++0::1::q) with | some (t,q)=>(t,q,true) | none=>([],[],false))=_;rw[unb_back]
  rw[e]
 ·rw[k2 (by decide)]
  show unkR (48::(escK s++[0,1]++q))=_
  rw[unkR_cons,if_neg (by decide),if_neg (by decide),if_neg (by decide),if_pos rfl]
  have e:unbR (escK s++[0,1]++q)=(s,q,true):=by unfold unbR;rw[List.append_assoc];show (match unb (escK s++0::1::q) with | some (t,q)=>(t,q,true) | none=>([],[],false))=_;rw[unb_back]
  rw[e]
theorem kW_ne (v:ValueD):kW v≠[]:=by unfold kW;simp
theorem ukGo_back:∀(l out:List ValueD),(∀v∈l,vChk v=0)→(∀v∈l,okInt v.N)→out.length+l.length≤8→ukGo (9 - out.length) out (keyW l)=(out++l,0)
 | [],out,_,_,hl=>by
  rw[show 9 - out.length=(8 - out.length)+1 by simp at hl;omega]
  unfold ukGo
  rw[if_pos (show keyW []=[] from rfl),List.append_nil]
 | v::l,out,h,hN,hl=>by
  simp only[List.length_cons] at hl
  have hv:=h v (List.mem_cons_self ..)
  rw[show 9 - out.length=(8 - out.length)+1 by omega]
  unfold ukGo
  have e:keyW (v::l)=kW v++keyW l:=by unfold keyW;rw[List.flatMap_cons]
  have hu:=unkR_back hv (hN v (List.mem_cons_self ..)) (keyW l)
  have h16:=(vChk_inv hv).2.2.2
  rw[e,if_neg (by simp[kW_ne]),if_neg (by omega),hu]
  simp only
  rw[if_neg (by simp),if_neg (by omega)]
  have:=ukGo_back l (out++[v]) (fun x hx=>h x (List.mem_cons_of_mem _ hx)) (fun x hx=>hN x (List.mem_cons_of_mem _ hx)) (by simp;omega)
  simp only[List.length_append,List.length_singleton] at this
  rw[show 9 - (out.length+1)=8 - out.length by omega] at this
  rw[this];simp
theorem ukR_back {l:List ValueD} (h:rowChk l=0) (hN:∀v∈l,okInt v.N):ukR (keyW l)=(l,0):=by
 obtain⟨h8,hv⟩:=rowChk_ok h
 have:=ukGo_back l [] hv hN (by simpa using h8)
 simpa [ukR] using this
end
section
open Go.RowKit K
set_option maxRecDepth 100000
set_option maxRecDepth 100000
theorem keyR_inj {a b:RowT} (ha:rowChk a=0) (na:∀v∈a,okInt v.N) (hb:rowChk b=0) (nb:∀v∈b,okInt v.N) (h:keyR a=keyR b):a=b:=by
 unfold keyR at h
 rw[if_pos ha,if_pos hb] at h
 have e:=ukR_back ha na
 rw[h,ukR_back hb nb] at e
 exact (Prod.mk.inj e).1.symm
theorem mem_putS {seen:List (List UInt8)} {s x:List UInt8}:x∈putS seen s↔x∈seen∨x=s:=by
 unfold putS
 split
 ·rename_i h
  exact⟨.inl,fun q=>q.elim id fun e=>e ▸ h⟩
 ·rw[List.mem_append,List.mem_singleton]
theorem mem_seenK:∀{l:List RowT} {seen:List (List UInt8)} {x:List UInt8},x∈seenK seen l↔x∈seen∨∃r∈l,x=keyR r
 | [],seen,x=>by
  show x∈seen↔_
  exact⟨.inl,fun q=>q.elim id fun ⟨r,h,_⟩=>absurd h List.not_mem_nil⟩
 | r::l,seen,x=>by
  show x∈seenK (putS seen (keyR r)) l↔_
  rw[mem_seenK,mem_putS]
  constructor
  ·rintro ((h | h) | ⟨y,h,e⟩)
   ·exact .inl h
   ·exact .inr ⟨r,List.mem_cons_self,h⟩
   ·exact .inr ⟨y,List.mem_cons_of_mem _ h,e⟩
  ·rintro (h | ⟨y,h,e⟩)
   ·exact .inl (.inl h)
   ·rcases List.mem_cons.1 h with rfl | h
    ·exact .inl (.inr e)
    ·exact .inr ⟨y,h,e⟩
theorem rowEqB_iff (a b:RowT):rowEqB a b=true↔a=b:=listEqB_iff ValueD.eqB_iff a b
theorem rowsEqB_iff (a b:List RowT):rowsEqB a b=true↔a=b:=listEqB_iff rowEqB_iff a b
theorem howF_zero {l:List RowT} {r:RowT}:howF l r=0↔r∉l:=by
 unfold howF
 rw[List.countP_eq_zero]
 constructor
 ·intro h m
  exact h r m ((rowEqB_iff r r).2 rfl)
 ·intro h x hx e
  rw[rowEqB_iff] at e
  exact h (e ▸ hx)
abbrev OkRows (l:List RowT):Prop:=∀r∈l,rowChk r=0∧∀v∈r,okInt v.N
theorem mem_seen_iff {l:List RowT} (h:OkRows l) {r:RowT} (hr:rowChk r=0) (nr:∀v∈r,okInt v.N):keyR r∈seenK [] l↔r∈l:=by
 rw[mem_seenK]
 constructor
 ·rintro (q | ⟨y,hy,e⟩)
  ·cases q
  ·rw[keyR_inj hr nr (h y hy).1 (h y hy).2 e];exact hy
 ·exact fun q=>.inr ⟨r,q,rfl⟩
theorem dist_ref {l:List RowT} (h:OkRows l):∀k,k≤l.length→distK [] (l.take k)=distR l k
 | 0,_=>rfl
 | k+1,hk=>by
  have q:k<l.length:=hk
  have ih:=dist_ref h k (by omega)
  obtain⟨h1,h2⟩:=h _ (List.getElem_mem q)
  rw[take_snoc q,distK_snoc,distR_succ q,ih]
  congr 1
  have e:=mem_seen_iff (l:=l.take k) (fun r hr=>h r (List.mem_of_mem_take hr)) h1 h2
  by_cases m:l[k]∈l.take k
  ·rw[if_pos (e.2 m),if_neg (fun z=>howF_zero.1 z m)]
  ·rw[if_neg (fun z=>m (e.1 z)),if_pos (howF_zero.2 m)]
theorem okRows_of {l:List RowT} (h:rowsChk l=0) (hN:∀r∈l,∀v∈r,okInt v.N):OkRows l:=fun r hr=>by
 obtain⟨_,h8⟩:=rowsChk_ok.1 h
 refine⟨?_,hN r hr⟩
 unfold rowChk
 rw[if_neg (by have:=(h8 r hr).1;omega)]
 exact (h8 r hr).2.2
theorem distinct_ref {l:List RowT} (h:rowsChk l=0) (hN:∀r∈l,∀v∈r,okInt v.N):distK [] l=distR l l.length:=by
 rw[← dist_ref (okRows_of h hN) l.length (Nat.le_refl _),List.take_length]
end
section
open Go.RowKit K
set_option maxRecDepth 100000
def litN (v:ValueD):NodeD:=⟨1,0,v,[]⟩
theorem p_nodes (l:List NodeD):Pure Tryz.prog 45 [slV 6 NodeD.c l] (slV 6 NodeD.c l):=by
 refine pure_of Tryz.func45 (by rfl) rfl (by kernel_rfl) (by rfl) ?_
 ((conv=>whnf);repeat' ((first|(with_reducible first|apply a_|apply b_|apply c_)|((with_reducible first|apply d_|apply e_|apply f_|apply g_);focus first|omega|(simp only[q_]<;>omega))|((with_reducible first|apply i_|apply h_);focus first|omega|(simp only[q_]<;>omega))|((with_reducible apply h_);focus first|decide|kernel_rfl)|refine s_ (by decide) ?_|refine t_ (by decide) ?_|with_reducible first|apply l_|apply m_|apply n_|apply o_|refine p_ (fun _=>?_) (fun _=>?_))<;>(conv=>whnf)))
 exact Ret.eq rfl
def colN (s:List UInt8):NodeD:=⟨2,0,noV,s⟩
def opsN (op k:Int):NodeD:=⟨op,k,noV,[]⟩
theorem p_ncol (s:List UInt8):Pure Tryz.prog 46 [pStr (tx s)] (nV (colN s)):=by
 refine pure_of Tryz.func46 (by rfl) rfl (by kernel_rfl) (by rfl) ?_
 ((conv=>whnf);repeat' ((first|(with_reducible first|apply a_|apply b_|apply c_)|((with_reducible first|apply d_|apply e_|apply f_|apply g_);focus first|omega|(simp only[q_]<;>omega))|((with_reducible first|apply i_|apply h_);focus first|omega|(simp only[q_]<;>omega))|((with_reducible apply h_);focus first|decide|kernel_rfl)|refine s_ (by decide) ?_|refine t_ (by decide) ?_|with_reducible first|apply l_|apply m_|apply n_|apply o_|refine p_ (fun _=>?_) (fun _=>?_))<;>(conv=>whnf)))
 exact Ret.eq rfl
theorem p_nlit (v:ValueD):Pure Tryz.prog 47 [vV v] (nV (litN v)):=by
 refine pure_of Tryz.func47 (by rfl) rfl (by kernel_rfl) (by rfl) ?_
 ((conv=>whnf);repeat' ((first|(with_reducible first|apply a_|apply b_|apply c_)|((with_reducible first|apply d_|apply e_|apply f_|apply g_);focus first|omega|(simp only[q_]<;>omega))|((with_reducible first|apply i_|apply h_);focus first|omega|(simp only[q_]<;>omega))|((with_reducible apply h_);focus first|decide|kernel_rfl)|refine s_ (by decide) ?_|refine t_ (by decide) ?_|with_reducible first|apply l_|apply m_|apply n_|apply o_|refine p_ (fun _=>?_) (fun _=>?_))<;>(conv=>whnf)))
 exact Ret.eq rfl
theorem p_nop (op k:Int):Pure Tryz.prog 22 [pInt .i64 op,pInt .i64 k] (nV (opsN op k)):=by
 refine pure_of Tryz.func22 (by rfl) rfl (by kernel_rfl) (by rfl) ?_
 ((conv=>whnf);repeat' ((first|(with_reducible first|apply a_|apply b_|apply c_)|((with_reducible first|apply d_|apply e_|apply f_|apply g_);focus first|omega|(simp only[q_]<;>omega))|((with_reducible first|apply i_|apply h_);focus first|omega|(simp only[q_]<;>omega))|((with_reducible apply h_);focus first|decide|kernel_rfl)|refine s_ (by decide) ?_|refine t_ (by decide) ?_|with_reducible first|apply l_|apply m_|apply n_|apply o_|refine p_ (fun _=>?_) (fun _=>?_))<;>(conv=>whnf)))
 exact Ret.eq rfl
theorem p_vI (n:Int):Pure Tryz.prog 43 [pInt .i64 n] (vV ⟨1,n,[]⟩):=by
 refine pure_of Tryz.func43 (by rfl) rfl (by kernel_rfl) (by rfl) ?_
 ((conv=>whnf);repeat' ((first|(with_reducible first|apply a_|apply b_|apply c_)|((with_reducible first|apply d_|apply e_|apply f_|apply g_);focus first|omega|(simp only[q_]<;>omega))|((with_reducible first|apply i_|apply h_);focus first|omega|(simp only[q_]<;>omega))|((with_reducible apply h_);focus first|decide|kernel_rfl)|refine s_ (by decide) ?_|refine t_ (by decide) ?_|with_reducible first|apply l_|apply m_|apply n_|apply o_|refine p_ (fun _=>?_) (fun _=>?_))<;>(conv=>whnf)))
 exact Ret.eq rfl
theorem p_vT (s:List UInt8):Pure Tryz.prog 44 [pStr (tx s)] (vV ⟨2,0,s⟩):=by
 refine pure_of Tryz.func44 (by rfl) rfl (by kernel_rfl) (by rfl) ?_
 ((conv=>whnf);repeat' ((first|(with_reducible first|apply a_|apply b_|apply c_)|((with_reducible first|apply d_|apply e_|apply f_|apply g_);focus first|omega|(simp only[q_]<;>omega))|((with_reducible first|apply i_|apply h_);focus first|omega|(simp only[q_]<;>omega))|((with_reducible apply h_);focus first|decide|kernel_rfl)|refine s_ (by decide) ?_|refine t_ (by decide) ?_|with_reducible first|apply l_|apply m_|apply n_|apply o_|refine p_ (fun _=>?_) (fun _=>?_))<;>(conv=>whnf)))
 exact Ret.eq rfl
end
section
open Go.RowKit K
set_option maxRecDepth 100000
set_option maxRecDepth 100000
theorem p_brow (l:List ValueD):Pure Tryz.prog 42 [slV 3 ValueD.c l] (slV 3 ValueD.c l):=by
 refine pure_of Tryz.func42 (by rfl) rfl (by kernel_rfl) (by rfl) ?_
 ((conv=>whnf);repeat' ((first|(with_reducible first|apply a_|apply b_|apply c_)|((with_reducible first|apply d_|apply e_|apply f_|apply g_);focus first|omega|(simp only[q_]<;>omega))|((with_reducible first|apply i_|apply h_);focus first|omega|(simp only[q_]<;>omega))|((with_reducible apply h_);focus first|decide|kernel_rfl)|refine s_ (by decide) ?_|refine t_ (by decide) ?_|with_reducible first|apply l_|apply m_|apply n_|apply o_|refine p_ (fun _=>?_) (fun _=>?_))<;>(conv=>whnf)))
 exact Ret.eq rfl
theorem p_brows (l:List RowT):Pure Tryz.prog 41 [rwsV l] (rwsV l):=by
 refine pure_of Tryz.func41 (by rfl) rfl (by kernel_rfl) (by rfl) ?_
 ((conv=>whnf);repeat' ((first|(with_reducible first|apply a_|apply b_|apply c_)|((with_reducible first|apply d_|apply e_|apply f_|apply g_);focus first|omega|(simp only[q_]<;>omega))|((with_reducible first|apply i_|apply h_);focus first|omega|(simp only[q_]<;>omega))|((with_reducible apply h_);focus first|decide|kernel_rfl)|refine s_ (by decide) ?_|refine t_ (by decide) ?_|with_reducible first|apply l_|apply m_|apply n_|apply o_|refine p_ (fun _=>?_) (fun _=>?_))<;>(conv=>whnf)))
 exact Ret.eq rfl
theorem p_brows0 (rows:List (List C)):Pure Tryz.prog 41 [.d (.c (.sl 1 rows))] (.d (.c (.sl 1 rows))):=by
 refine pure_of Tryz.func41 (by rfl) rfl (by kernel_rfl) (by rfl) ?_
 ((conv=>whnf);repeat' ((first|(with_reducible first|apply a_|apply b_|apply c_)|((with_reducible first|apply d_|apply e_|apply f_|apply g_);focus first|omega|(simp only[q_]<;>omega))|((with_reducible first|apply i_|apply h_);focus first|omega|(simp only[q_]<;>omega))|((with_reducible apply h_);focus first|decide|kernel_rfl)|refine s_ (by decide) ?_|refine t_ (by decide) ?_|with_reducible first|apply l_|apply m_|apply n_|apply o_|refine p_ (fun _=>?_) (fun _=>?_))<;>(conv=>whnf)))
 exact Ret.eq rfl
theorem nilrow_pure {P:Program} {f:FuncId} {rows:List (List C)} {res:PV} (h:Pure P f [.d (.c (.sl 1 ([.sl 3 []]::rows)))] res):Pure P f [.d (.c (.sl 1 ([.v (.slice none 0 0)]::rows)))] res:=by
 refine⟨h.1,fun F w vs hG hF hv=>h.2 F w vs hG hF ?_⟩
 cases vs with
 | nil=>unfold PsRep at hv;exact hv.elim
 | cons v vs=>
  unfold PsRep at hv ⊢
  refine⟨?_,hv.2⟩
  have h1:=hv.1
  unfold PRep DRep CRep at h1 ⊢
  obtain⟨a,cap,e,c1,c2,c3,c4⟩:=h1
  refine⟨a,cap,e,c1,c2,c3,.inr ?_⟩
  obtain⟨b,off,e2,c5⟩:=c4.resolve_left (by simp)
  refine⟨b,off,e2,?_⟩
  unfold RowsAt at c5 ⊢
  refine⟨⟨rfl,?_⟩,c5.2⟩
  have c6:=c5.1.2
  unfold CsAt at c6 ⊢
  obtain⟨⟨f1,u,f2,f3⟩,f4⟩:=c6
  refine⟨⟨f1,u,f2,?_⟩,by unfold CsAt;trivial⟩
  unfold CRep at f3 ⊢
  obtain⟨rfl,_⟩:=f3
  exact⟨none,0,rfl,Nat.le_refl _,Nat.zero_le _,fun _=>rfl,.inl rfl⟩
theorem hnode_small {e:List NodeD} (h:∀n∈e,n.Name.length≤10∧WholeP.In64 n.V.N):∀n∈e,hNode n:=fun n hn=>⟨by have:=(h n hn).1;unfold okText;omega,(h n hn).2⟩
def bb:ValueD:=⟨2,0,[98]⟩
def bi (n:Int):ValueD:=⟨1,n,[]⟩
def bR0:RowT:=[bi 2,bb]
def bR1:RowT:=[bi 1,bb]
def bgL:List RowT:=[bR0,bR1,bR0]
def bgC:List (List UInt8):=[[110],[115]]
def bgE:List NodeD:=[colN [110],litN (bi 1),opsN 14 2]
def bgP:List (List NodeD):=[[colN [115]],[colN [110],opsN 3 1]]
def bgA:List AggD:=[⟨2,0⟩,⟨1,-1⟩]
theorem g1:filtF bgL bgC bgE=([bR0,bR0],0):=by rfl
theorem g2:sortF bgL [⟨1,false⟩,⟨0,false⟩]=([bR1,bR0,bR0],0):=by rfl
theorem g3:distF bgL=([bR0,bR1],0):=by rfl
theorem g4:sumF (colF bgL 0)=(bi 5,0):=by rfl
theorem g5:projF [bR0] bgC bgP=([[bb,bi (-2)]],0):=by rfl
theorem g6:joinF2 [bR0] [bR0,bR1]=([bR0++bR0,bR0++bR1],0):=by rfl
theorem g7:limF bgL 1 1=([bR1],0):=by rfl
theorem g8:rowsChk [[],bR0]=1:=by decide +kernel
set_option maxHeartbeats 1000000 in
theorem p_bagbegun:Pure Tryz.prog 18 [] (pBool true):=by
 have hL:∀r∈bgL,∀v∈r,WholeP.In64 v.N:=by decide
 have h0:∀r∈[bR0],∀v∈r,WholeP.In64 v.N:=by decide
 have q1:=p_Filter bgL hL bgC bgE (hnode_small (by decide))
 rw[g1] at q1
 have q2:=p_Sort20 bgL [⟨1,false⟩,⟨0,false⟩] (fun _=>.inr (.inr (by decide)))
 rw[g2] at q2
 have q3:=p_Distinct bgL hL
 rw[g3] at q3
 have t1:=p_tell_sum bgL 0 (by decide) (by decide) (by decide) hL
 rw[g4] at t1
 have t2:=p_tell_count bgL (-1) (by decide)
 have pg:=p_grouping_ok bgL (by decide) [1] bgA (by decide) (by decide) (by rfl) (by decide)
 have q4:=p_Group1 bgL 1 bb bgA [bi 5,bi 3] (by decide) (by rfl) (fun r hr=>by
  have:r=bR0∨r=bR1:=by
   rcases List.mem_cons.1 hr with h | hr
   ·exact .inl h
   ·rcases List.mem_cons.1 hr with h | hr
    ·exact .inr h
    ·exact .inl (List.mem_singleton.1 hr)
  rcases this with rfl | rfl<;>exact⟨by decide,rfl⟩) pg (by decide) rfl (fun k h h2=>by
  have:k=0∨k=1:=by have:k<2:=h;omega
  rcases this with rfl | rfl
  ·exact t1
  ·exact t2)
 have q5:=p_Project [bR0] h0 bgC bgP (fun e he=>by
  have:e=[colN [115]]∨e=[colN [110],opsN 3 1]:=by simpa [bgP] using he
  rcases this with rfl | rfl<;>exact hnode_small (by decide))
 rw[g5] at q5
 have q6:=s_Join [bR0] [bR0,bR1]
 rw[g6] at q6
 have q7:=p_Limit bgL 1 1
 rw[g7] at q7
 have q8:=p_bagcheck [[],bR0]
 rw[g8] at q8
 have q8:=nilrow_pure (rows:=[rowC bR0]) q8
 have cn:Pure _ _ [pStr ⟨#[110]⟩] _:=p_ncol [110]
 have cs:Pure _ _ [pStr ⟨#[115]⟩] _:=p_ncol [115]
 have vt:Pure _ _ [pStr ⟨#[98]⟩] _:=p_vT [98]
 have i2:=p_vI 2
 have i1:=p_vI 1
 have i5:=p_vI 5
 have i3:=p_vI 3
 have im:=p_vI (-2)
 have nl:=p_nlit (bi 1)
 have n1:=p_nop 14 2
 have n2:=p_nop 3 1
 have e1:=p_nodes bgE
 have e2:=p_nodes [colN [115]]
 have e3:=p_nodes [colN [110],opsN 3 1]
 have r0:=p_brow bR0
 have r1:=p_brow bR1
 have r2:=p_brow [bb,bi 5,bi 3]
 have r3:=p_brow [bb,bi (-2)]
 have w0:=p_brows bgL
 have w1:=p_brows [bR0,bR0]
 have w2:=p_brows [bR1,bR0,bR0]
 have w3:=p_brows [[bb,bi 5,bi 3]]
 have w4:=p_brows [[bb,bi (-2)]]
 have w5:=p_brows0 [[.v (.slice none 0 0)],rowC bR0]
 have s1:=p_samerows [bR0,bR0] [bR0,bR0] (by decide) (by decide)
 have s2:=p_samerows [bR1,bR0,bR0] [bR1,bR0,bR0] (by decide) (by decide)
 have s3:=p_samerows [bR0,bR1] [bR0,bR1] (by decide) (by decide)
 have s4:=p_samerows [[bb,bi 5,bi 3]] [[bb,bi 5,bi 3]] (by decide) (by decide)
 have s5:=p_samerows [[bb,bi (-2)]] [[bb,bi (-2)]] (by decide) (by decide)
 have s6:=p_samerows [bR1] [bR1] (by decide) (by decide)
 rw[(rowsEqB_iff _ _).2 rfl] at s1 s2 s3 s4 s5 s6
 refine pure_of Tryz.func18 (by rfl) rfl (by kernel_rfl) (by rfl) ?_
 ((conv=>whnf);repeat' ((first|(with_reducible first|apply a_|apply b_|apply c_)|((with_reducible first|apply d_|apply e_|apply f_|apply g_);focus first|omega|(simp only[q_]<;>omega))|((with_reducible first|apply i_|apply h_);focus first|omega|(simp only[q_]<;>omega))|((with_reducible apply h_);focus first|decide|kernel_rfl)|refine s_ (by decide) ?_|refine t_ (by decide) ?_|refine r_ vt rfl ?_|refine r_ i2 rfl ?_|refine r_ i1 rfl ?_|refine r_ i5 rfl ?_|refine r_ i3 rfl ?_|refine r_ im rfl ?_|refine r_ r0 rfl ?_|refine r_ r1 rfl ?_|refine r_ r2 rfl ?_|refine r_ r3 rfl ?_|refine r_ w0 rfl ?_|refine r_ w1 rfl ?_|refine r_ w2 rfl ?_|refine r_ w3 rfl ?_|refine r_ w4 rfl ?_|refine r_ w5 rfl ?_|refine r_ cn rfl ?_|refine r_ cs rfl ?_|refine r_ nl rfl ?_|refine r_ n1 rfl ?_|refine r_ n2 rfl ?_|refine r_ e1 rfl ?_|refine r_ e2 rfl ?_|refine r_ e3 rfl ?_|refine r_ q1 rfl ?_|refine r_ q2 rfl ?_|refine r_ q3 rfl ?_|refine r_ q4 rfl ?_|refine r_ q5 rfl ?_|(refine CallP.ret [(NK,86)] _ _ _ _ _ _ _ q6 rfl rfl rfl rfl trivial ?_)|refine r_ q7 rfl ?_|refine r_ q8 rfl ?_|refine r_ s1 rfl ?_|refine r_ s2 rfl ?_|refine r_ s3 rfl ?_|refine r_ s4 rfl ?_|refine r_ s5 rfl ?_|refine r_ s6 rfl ?_|(refine Idx.mk _ (by decide) rfl ?_)|with_reducible first|apply l_|apply m_|apply n_|apply o_|refine p_ (fun _=>?_) (fun _=>?_))<;>(conv=>whnf)))
 all_goals first
  | exact Ret.eq rfl
  | exact Ret.bool (by decide +kernel)
  | trace_state
end
section
open Go.RowKit K
set_option maxRecDepth 100000
set_option maxRecDepth 100000
theorem CallS.pure {P:Program} {f:FuncId} {args:List PV} {res r:PV} {out:Rf} (h:CallS P f args [] [] res out) (hcl:PV.closeH (hpL out) res fun y=>y=r):Pure P f args r:=by
 refine⟨h.1,fun F w vs hG hF hargs=>?_⟩
 obtain⟨c,hcdef⟩:∃c:Ctx,c=⟨w,F,fun _=>False,fun _ _=>False,fun _=>none,[]⟩:=⟨_,rfl⟩
 have hn0:c.n0=w.heap.size:=by rw[hcdef]
 have hF0:c.F0=F:=by rw[hcdef]
 have hF1:c.F1=fun _ _=>False:=by rw[hcdef]
 have hσ0:c.σ0=fun _=>none:=by rw[hcdef]
 have hw0:c.w0=w:=by rw[hcdef]
 have hdf:c.df=[]:=by rw[hcdef]
 have hext:∀b,¬c.ext b:=by intro b;rw[hcdef];exact id
 have hc:c.Ok:=⟨fun b o h=>⟨by rw[hn0];exact hF b o (by rw[← hF0];exact h),hext b⟩,by rw[hw0];exact hG,fun b _=>hext b⟩
 have hfz:∀b o,F b o→fz c (fun _=>none) (hpL ([]++[])) w b o:=fun b o h=>.inl ⟨by rw[hn0];exact hF b o h,by rw[hF0];exact h⟩
 have hsw:SW c c.σ0 (hpL ([]++[])) c.w0:=by
  refine⟨rfl,rfl,rfl,Nat.le_refl _,fun b _ _=>rfl,(fun k hb hk=>by cases hk),fun k k' g n n' hk=>absurd rfl hk,?_,Shape.refl _,fun k x hk=>hk⟩
  rw[hF1];exact⟨fun _ _ h=>h.elim,fun _ _ h=>h.elim⟩
 have:=h.2 c vs hc hdf (fun k _=>by rw[hσ0]) hsw (by rw[hσ0,hw0];exact PsRep.of_none ⟨hfz,fun _ _ _=>rfl⟩ _ _ hargs)
 rw[hw0] at this
 refine this.mono ?_
 rintro e w' ⟨v,σ',rfl,hs',hp⟩
 rw[List.nil_append] at hs' hp
 have hbel:Below w.heap.size w w':=⟨by rw[hs'.os,hw0],by rw[hs'.tape,hw0],by rw[hs'.output,hw0],by have:=hs'.size;rw[hn0] at this;exact this,fun k hk=>by
  rw[hs'.block k (by rw[hn0];exact hk) (hext k),hw0]⟩
 have hkeep:Keeps (fz c σ' (hpL out) w') (fun b o=>F b o∨(w.heap.size≤b∧b<w'.heap.size)) w' w':=by
  refine⟨fun b o hq=>?_,fun _ _ _=>rfl⟩
  rcases hq with ⟨q1,q2⟩ | ⟨q1,q2,_⟩
  ·rw[hF0] at q2;exact .inl q2
  ·rcases q1 with q1 | q1
   ·rw[hn0] at q1;exact .inr ⟨q1,q2⟩
   ·exact absurd q1 (hext b)
 obtain⟨y,rfl,h4⟩:=pcloseH_out hs' hkeep (fun b o hown hlt=>by
  rcases hown with q | q
  ·rw[hn0] at q;exact .inr ⟨q,hlt⟩
  ·exact absurd q (hext b)) hcl
 exact⟨v,rfl,hbel,h4 v hp⟩
theorem p_Join (a b:List RowT):Pure Tryz.prog 33 [rwsV a,rwsV b] (.tup [rwsV (joinF2 a b).1,pInt .i64 (joinF2 a b).2]):=(s_Join a b).pure rfl
abbrev okRws (l:List RowT):Prop:=okSl (Tryz.prog.bytesOf 49) (okSl (Tryz.prog.bytesOf 33) ValueD.ok) l
theorem okRws_in {l:List RowT} (h:okRws l):∀r∈l,∀v∈r,WholeP.In64 v.N:=fun r hr v hv=>((h.2 r hr).2 v hv).2.1
theorem okRws_row {l:List RowT} (h:okRws l):∀r∈l,r.length≤140737488355328:=fun r hr=>by
 have h1:=(h.2 r hr).1
 rw[show Tryz.prog.bytesOf 33=32 by kernel_rfl] at h1
 omega
theorem okRws_len {l:List RowT} (h:okRws l):l.length≤140737488355328:=by
 have h1:=h.1
 rw[show Tryz.prog.bytesOf 49=24 by kernel_rfl] at h1
 omega
theorem rows_tl (l:List RowT) (k:Nat):(l.drop k).map rowC=List.take (((l.map rowC).length:Int).toNat - (k:Int).toNat) (List.drop (k:Int).toNat (l.map rowC)):=by
 rw[Int.toNat_natCast,Int.toNat_natCast,List.map_drop,List.take_of_length_le (by rw[List.length_drop];exact Nat.le_refl _)]
theorem rows_hd (l:List RowT) (k:Nat):(l.take k).map rowC=List.take ((k:Int).toNat - (0:Int).toNat) (List.drop (0:Int).toNat (l.map rowC)):=by
 rw[Int.toNat_natCast,show (0:Int).toNat=0 from rfl,List.drop_zero,Nat.sub_zero,List.map_take]
theorem rwsV_tl (l:List RowT) (k:Nat):rwsV (l.drop k)=.d (.c (.sl 1 (List.take (((l.map rowC).length:Int).toNat - (k:Int).toNat) (List.drop (k:Int).toNat (l.map rowC))))):=congrArg (fun x=>PV.d (D.c (C.sl 1 x))) (rows_tl l k)
theorem rwsV_hd (l:List RowT) (k:Nat):rwsV (l.take k)=.d (.c (.sl 1 (List.take ((k:Int).toNat - (0:Int).toNat) (List.drop (0:Int).toNat (l.map rowC))))):=congrArg (fun x=>PV.d (D.c (C.sl 1 x))) (rows_hd l k)
theorem rowsChk_some {l m:List RowT} (h:rowsChk l=0) (hm:∀r∈m,r∈l) (hl:m.length≤40):rowsChk m=0:=by
 obtain⟨_,h8⟩:=rowsChk_ok.1 h
 refine rowsChk_ok.2 ⟨hl,fun r hr=>?_⟩
 obtain⟨h1,h2,h3⟩:=h8 r (hm r hr)
 refine⟨h1,?_,h3⟩
 cases m with
 | nil=>cases hr
 | cons x xs=>
  have:=(h8 x (hm x List.mem_cons_self)).2.1
  rw[h2,← this];rfl
theorem rowsChk_take {l:List RowT} (h:rowsChk l=0) (k:Nat):rowsChk (l.take k)=0:=rowsChk_some h (fun r hr=>List.mem_of_mem_take hr) (by rw[List.length_take];have:=(rowsChk_ok.1 h).1;omega)
theorem rowsChk_drop {l:List RowT} (h:rowsChk l=0) (k:Nat):rowsChk (l.drop k)=0:=rowsChk_some h (fun r hr=>List.mem_of_mem_drop hr) (by rw[List.length_drop];have:=(rowsChk_ok.1 h).1;omega)
theorem p_together (a b:List RowT) (ha:a.length≤1000) (hb:b.length≤1000):Pure Tryz.prog 24 [rwsV a,rwsV b] (rwsV (a++b)):=by
 have hma:(a.map rowC).length=a.length:=List.length_map _
 have hmb:(b.map rowC).length=b.length:=List.length_map _
 refine pure_of Tryz.func24 (by rfl) rfl (by kernel_rfl) (by rfl) ?_
 ((conv=>whnf);repeat' ((first|(with_reducible first|apply a_|apply b_|apply c_)|((with_reducible first|apply d_|apply e_|apply f_|apply g_);focus first|omega|(simp only[q_]<;>omega))|((with_reducible first|apply i_|apply h_);focus first|omega|(simp only[q_]<;>omega))|((with_reducible apply h_);focus first|decide|kernel_rfl)|refine s_ (by decide) ?_|refine t_ (by decide) ?_|(refine EmpOr.app ?_)|(refine Need.by 24 rfl (by simp only[List.length_append,List.length_map,List.length_nil];omega) ?_)|with_reducible first|apply l_|apply m_|apply n_|apply o_|refine p_ (fun _=>?_) (fun _=>?_))<;>(conv=>whnf)))
 all_goals first
  | exact Ret.eq (congrArg (fun x=>PV.d (D.c (C.sl 1 x))) (List.map_append (f:=rowC) (l₁:=a) (l₂:=b)).symm)
  | skip
theorem samerows_refl (a:List RowT) (hla:a.length≤140737488355328) (ha:∀r∈a,r.length≤140737488355328):Pure Tryz.prog 21 [rwsV a,rwsV a] (pBool true):=by
 have:=p_samerows a a hla ha
 rwa [(rowsEqB_iff a a).2 rfl] at this
theorem distF_mem {l:List RowT}:∀{s:List (List UInt8)} {r:RowT},r∈distK s l→r∈l:=by
 induction l with
 | nil=>intro s r h;cases h
 | cons x l ih=>
  intro s r h
  unfold distK at h
  split at h
  ·exact List.mem_cons_of_mem _ (ih h)
  ·rcases List.mem_cons.1 h with rfl | h
   ·exact List.mem_cons_self
   ·exact List.mem_cons_of_mem _ (ih h)
theorem distF_eq (l:List RowT) (hN:∀r∈l,∀v∈r,okInt v.N):(if rowsChk l=0 then distR l l.length else [])=(distF l).1∧rowsChk l=(distF l).2:=by
 unfold distF
 by_cases h:rowsChk l=0
 ·rw[if_pos h,if_neg (not_not_intro h)]
  exact⟨(distinct_ref h hN).symm,h⟩
 ·rw[if_neg h,if_pos h]
  exact⟨rfl,rfl⟩
theorem distF_sub (l:List RowT):∀r∈(distF l).1,r∈l:=by
 unfold distF
 split
 ·intro r h;cases h
 ·exact fun r h=>distF_mem h
theorem distK_len:∀(l:List RowT) (s:List (List UInt8)),(distK s l).length≤l.length
 | [],s=>Nat.le_refl _
 | x::l,s=>by
  unfold distK
  split
  ·have:=distK_len l s;rw[List.length_cons];omega
  ·have:=distK_len l (s++[keyR x]);rw[List.length_cons,List.length_cons];omega
theorem distF_len (l:List RowT):(distF l).1.length≤l.length:=by
 unfold distF
 split
 ·exact Nat.zero_le _
 ·exact distK_len l []
theorem limF_sub (l:List RowT) (s m:Int):(∀r∈(limF l s m).1,r∈l)∧(limF l s m).1.length≤l.length:=by
 unfold limF
 split
 ·exact⟨(fun r h=>by cases h),Nat.zero_le _⟩
 ·split
  ·exact⟨(fun r h=>by cases h),Nat.zero_le _⟩
  ·exact⟨fun r h=>List.mem_of_mem_drop (List.mem_of_mem_take h),by rw[List.length_take,List.length_drop];omega⟩
theorem law_DistinctTells (l:List RowT) (hl:okRws l) (skip:Int) (hs:-9223372036854775808≤skip∧skip≤9223372036854775807) (most:Int) (hm:-9223372036854775808≤most∧most≤9223372036854775807) :
  Pure Tryz.prog 9 [rwsV l,pInt .i64 skip,pInt .i64 most] (pBool true):=by
 have hN:=okRws_in hl
 have hr:=okRws_row hl
 have p1:=p_Distinct l hN
 have p2:=p_distinctof l hr
 obtain⟨e1,e2⟩:=distF_eq l hN
 rw[e1,e2] at p2
 have p3:=p_Limit l skip most
 have p4:=p_limitof l skip most hr
 have s1:=samerows_refl (distF l).1 (by have:=distF_len l;have:=okRws_len hl;omega) (fun r h=>hr r (distF_sub l r h))
 have s2:=samerows_refl (limF l skip most).1 (by have:=(limF_sub l skip most).2;have:=okRws_len hl;omega) (fun r h=>hr r ((limF_sub l skip most).1 r h))
 refine pure_of Tryz.func9 (by rfl) rfl (by kernel_rfl) (by rfl) ?_
 ((conv=>whnf);repeat' ((first|(with_reducible first|apply a_|apply b_|apply c_)|((with_reducible first|apply d_|apply e_|apply f_|apply g_);focus first|omega|(simp only[q_]<;>omega))|((with_reducible first|apply i_|apply h_);focus first|omega|(simp only[q_]<;>omega))|((with_reducible apply h_);focus first|decide|kernel_rfl)|refine s_ (by decide) ?_|refine t_ (by decide) ?_|refine r_ p_bagbegun rfl ?_|refine r_ p1 rfl ?_|refine r_ p2 rfl ?_|refine r_ p3 rfl ?_|refine r_ p4 rfl ?_|refine r_ s1 rfl ?_|refine r_ s2 rfl ?_|with_reducible first|apply l_|apply m_|apply n_|apply o_|refine p_ (fun _=>?_) (fun _=>?_))<;>(conv=>whnf)))
 all_goals first|exact Ret.bool rfl | (exact Ret.bool (by simp)) | skip
theorem joinF2_ok {a b:List RowT} (h:(joinF2 a b).2=0):rowsChk a=0∧rowsChk b=0∧widthF a+widthF b≤8∧a.length*b.length≤40∧(joinF2 a b).1=joinX a b:=by
 unfold joinF2 at h ⊢
 split at h
 ·rename_i q;exact absurd h q
 ·rename_i q
  split at h
  ·rename_i q2;exact absurd h q2
  ·rename_i q2
   split at h
   ·cases h
   ·rename_i q3
    rw[if_neg q,if_neg q2,if_neg q3]
    exact⟨Decidable.of_not_not q,Decidable.of_not_not q2,by omega,by omega,rfl⟩
theorem joinF2_no {a b:List RowT} (h:(joinF2 a b).2≠0):(joinF2 a b).1=[]:=by
 unfold joinF2 at h ⊢
 split
 ·rfl
 ·split
  ·rfl
  ·split
   ·rfl
   ·rename_i q q2 q3;rw[if_neg q,if_neg q2,if_neg q3] at h;exact absurd rfl h
theorem joinF2_of {a b:List RowT} (h1:rowsChk a=0) (h2:rowsChk b=0) (h3:widthF a+widthF b≤8) (h4:a.length*b.length≤40):joinF2 a b=(joinX a b,0):=by
 unfold joinF2
 rw[if_neg (not_not_intro h1),if_neg (not_not_intro h2),if_neg (by omega)]
theorem joinX_mem {a b:List RowT} {r:RowT} (h:r∈joinX a b):∃x∈a,∃y∈b,r=x++y:=by
 unfold joinX at h
 simp only[List.mem_flatMap,List.mem_map] at h
 obtain⟨x,hx,y,hy,rfl⟩:=h
 exact⟨x,hx,y,hy,rfl⟩
theorem joinF2_small (a b:List RowT):(joinF2 a b).1.length≤40∧∀r∈(joinF2 a b).1,r.length≤16:=by
 by_cases h:(joinF2 a b).2=0
 ·obtain⟨h1,h2,h3,h4,e⟩:=joinF2_ok h
  rw[e]
  refine⟨by rw[joinX_len];exact h4,fun r hr=>?_⟩
  obtain⟨x,hx,y,hy,rfl⟩:=joinX_mem hr
  have:=((rowsChk_ok.1 h1).2 x hx).1
  have:=((rowsChk_ok.1 h2).2 y hy).1
  rw[List.length_append];omega
 ·rw[joinF2_no h]
  exact⟨Nat.zero_le _,fun r h=>by cases h⟩
theorem same_small {a:List RowT} (h:a.length≤40∧∀r∈a,r.length≤16):Pure Tryz.prog 21 [rwsV a,rwsV a] (pBool true):=samerows_refl a (by omega) fun r hr=>by have:=h.2 r hr;omega
theorem law_JoinTells (a:List RowT) (ha:okRws a) (b:List RowT) (hb:okRws b):Pure Tryz.prog 12 [rwsV a,rwsV b] (pBool true):=by
 have p1:=p_Join a b
 have p2:=p_joinof a b (okRws_row ha) (okRws_row hb)
 have s1:=same_small (joinF2_small a b)
 refine pure_of Tryz.func12 (by rfl) rfl (by kernel_rfl) (by rfl) ?_
 ((conv=>whnf);repeat' ((first|(with_reducible first|apply a_|apply b_|apply c_)|((with_reducible first|apply d_|apply e_|apply f_|apply g_);focus first|omega|(simp only[q_]<;>omega))|((with_reducible first|apply i_|apply h_);focus first|omega|(simp only[q_]<;>omega))|((with_reducible apply h_);focus first|decide|kernel_rfl)|refine s_ (by decide) ?_|refine t_ (by decide) ?_|refine r_ p_bagbegun rfl ?_|refine r_ p1 rfl ?_|refine r_ p2 rfl ?_|refine r_ s1 rfl ?_|with_reducible first|apply l_|apply m_|apply n_|apply o_|refine p_ (fun _=>?_) (fun _=>?_))<;>(conv=>whnf)))
 all_goals first|exact Ret.bool rfl | (exact Ret.bool (by simp)) | skip
end
section
open Go.RowKit K
set_option maxRecDepth 100000
set_option maxRecDepth 100000
theorem limF_of {l:List RowT} (h:rowsChk l=0) (n k:Nat):limF l (n:Int) (k:Int)=((l.drop n).take k,0):=by
 unfold limF
 rw[if_neg (not_not_intro h),if_neg (by omega),Int.toNat_natCast,Int.toNat_natCast]
theorem rows_small {l:List RowT} (h:rowsChk l=0):l.length≤40∧∀r∈l,r.length≤16:=by
 obtain⟨h1,h2⟩:=rowsChk_ok.1 h
 exact⟨h1,fun r hr=>by have:=(h2 r hr).1;omega⟩
theorem law_LimitParts (l:List RowT) (hl:okRws l) (a:Int) (wa:-9223372036854775808≤a∧a≤9223372036854775807) (b:Int) (wb:-9223372036854775808≤b∧b≤9223372036854775807) (most:Int) (wm:-9223372036854775808≤most∧most≤9223372036854775807) :
  Pure Tryz.prog 11 [rwsV l,pInt .i64 a,pInt .i64 b,pInt .i64 most] (pBool true):=by
 have pc:=p_bagcheck l
 by_cases h:a<0∨b<0∨most<0∨100<a∨100<b∨rowsChk l≠0
 ·refine pure_of Tryz.func11 (by rfl) rfl (by kernel_rfl) (by rfl) ?_
  ((conv=>whnf);repeat' ((first|(with_reducible first|apply a_|apply b_|apply c_)|((with_reducible first|apply d_|apply e_|apply f_|apply g_);focus first|omega|(simp only[q_]<;>omega))|((with_reducible first|apply i_|apply h_);focus first|omega|(simp only[q_]<;>omega))|((with_reducible apply h_);focus first|decide|kernel_rfl)|refine s_ (by decide) ?_|refine t_ (by decide) ?_|refine r_ p_bagbegun rfl ?_|refine r_ pc rfl ?_|with_reducible first|apply l_|apply m_|apply n_|apply o_|refine p_ (fun _=>?_) (fun _=>?_))<;>(conv=>whnf)))
  all_goals first|exact Ret.bool rfl | (exfalso;omega) | skip
 ·have hc:rowsChk l=0:=by omega
  obtain⟨n,rfl⟩:=Int.eq_ofNat_of_zero_le (show 0≤a by omega)
  obtain⟨m,rfl⟩:=Int.eq_ofNat_of_zero_le (show 0≤b by omega)
  obtain⟨k,rfl⟩:=Int.eq_ofNat_of_zero_le (show 0≤most by omega)
  rw[hc] at pc
  have h40:=(rowsChk_ok.1 hc).1
  have p1:=p_Limit l 0 (n:Int)
  rw[show limF l 0 (n:Int)=(l.take n,0) from (limF_of hc 0 n).trans (by rw[List.drop_zero])] at p1
  have p2:=p_Limit l (n:Int) 40
  rw[show limF l (n:Int) 40=(l.drop n,0) from (limF_of hc n 40).trans (by rw[List.take_of_length_le (by rw[List.length_drop];omega)])] at p2
  have p3:=p_Limit (l.drop n) (m:Int) (k:Int)
  rw[limF_of (rowsChk_drop hc n) m k] at p3
  have p4:=p_Limit l ((n:Int)+(m:Int)) (k:Int)
  rw[← Int.natCast_add,limF_of hc (n+m) k,Int.natCast_add,← List.drop_drop] at p4
  have p5:=p_together (l.take n) (l.drop n) (by rw[List.length_take];omega) (by rw[List.length_drop];omega)
  rw[List.take_append_drop] at p5
  have s1:=same_small (rows_small hc)
  have s2:=same_small (rows_small (rowsChk_take (rowsChk_drop (rowsChk_drop hc n) m) k))
  refine pure_of Tryz.func11 (by rfl) rfl (by kernel_rfl) (by rfl) ?_
  ((conv=>whnf);repeat' ((first|(with_reducible first|apply a_|apply b_|apply c_)|((with_reducible first|apply d_|apply e_|apply f_|apply g_);focus first|omega|(simp only[q_]<;>omega))|((with_reducible first|apply i_|apply h_);focus first|omega|(simp only[q_]<;>omega))|((with_reducible apply h_);focus first|decide|kernel_rfl)|refine s_ (by decide) ?_|refine t_ (by decide) ?_|refine r_ p_bagbegun rfl ?_|refine r_ pc rfl ?_|refine r_ p1 rfl ?_|refine r_ p2 rfl ?_|refine r_ p3 rfl ?_|refine r_ p4 rfl ?_|refine r_ p5 rfl ?_|refine r_ s1 rfl ?_|refine r_ s2 rfl ?_|with_reducible first|apply l_|apply m_|apply n_|apply o_|refine p_ (fun _=>?_) (fun _=>?_))<;>(conv=>whnf)))
  all_goals first|exact Ret.bool rfl | (exact Ret.bool (by simp)) | (exfalso;omega) | skip
theorem joinX_app (a1 a2 b:List RowT):joinX (a1++a2) b=joinX a1 b++joinX a2 b:=by unfold joinX;rw[List.flatMap_append]
theorem joinX_three (a b c:List RowT):joinX (joinX a b) c=joinX a (joinX b c):=by
 unfold joinX
 rw[List.flatMap_assoc]
 congr 1
 funext x
 rw[List.flatMap_map,List.map_flatMap]
 congr 1
 funext y
 rw[List.map_map]
 congr 1
 funext z
 exact List.append_assoc x y z
theorem law_JoinThree (a:List RowT) (ha:okRws a) (b:List RowT) (hb:okRws b) (c:List RowT) (hc:okRws c):Pure Tryz.prog 14 [rwsV a,rwsV b,rwsV c] (pBool true):=by
 have p1:=p_Join a b
 have p2:=p_Join b c
 by_cases h1:(joinF2 a b).2=0
 ·by_cases h2:(joinF2 b c).2=0
  ·rw[h1] at p1
   rw[h2] at p2
   have p3:=p_Join (joinF2 a b).1 c
   have p4:=p_Join a (joinF2 b c).1
   by_cases h3:(joinF2 (joinF2 a b).1 c).2=0
   ·by_cases h4:(joinF2 a (joinF2 b c).1).2=0
    ·rw[h3] at p3
     rw[h4] at p4
     have e:(joinF2 (joinF2 a b).1 c).1=(joinF2 a (joinF2 b c).1).1:=by
      rw[(joinF2_ok h3).2.2.2.2,(joinF2_ok h4).2.2.2.2,(joinF2_ok h1).2.2.2.2,(joinF2_ok h2).2.2.2.2,joinX_three]
     rw[e] at p3
     have s1:=same_small (joinF2_small a (joinF2 b c).1)
     refine pure_of Tryz.func14 (by rfl) rfl (by kernel_rfl) (by rfl) ?_
     ((conv=>whnf);repeat' ((first|(with_reducible first|apply a_|apply b_|apply c_)|((with_reducible first|apply d_|apply e_|apply f_|apply g_);focus first|omega|(simp only[q_]<;>omega))|((with_reducible first|apply i_|apply h_);focus first|omega|(simp only[q_]<;>omega))|((with_reducible apply h_);focus first|decide|kernel_rfl)|refine s_ (by decide) ?_|refine t_ (by decide) ?_|refine r_ p_bagbegun rfl ?_|refine r_ p1 rfl ?_|refine r_ p2 rfl ?_|refine r_ p3 rfl ?_|refine r_ p4 rfl ?_|refine r_ s1 rfl ?_|with_reducible first|apply l_|apply m_|apply n_|apply o_|refine p_ (fun _=>?_) (fun _=>?_))<;>(conv=>whnf)))
     all_goals first|exact Ret.bool rfl | (exfalso;omega) | skip
    ·refine pure_of Tryz.func14 (by rfl) rfl (by kernel_rfl) (by rfl) ?_
     ((conv=>whnf);repeat' ((first|(with_reducible first|apply a_|apply b_|apply c_)|((with_reducible first|apply d_|apply e_|apply f_|apply g_);focus first|omega|(simp only[q_]<;>omega))|((with_reducible first|apply i_|apply h_);focus first|omega|(simp only[q_]<;>omega))|((with_reducible apply h_);focus first|decide|kernel_rfl)|refine s_ (by decide) ?_|refine t_ (by decide) ?_|refine r_ p_bagbegun rfl ?_|refine r_ p1 rfl ?_|refine r_ p2 rfl ?_|refine r_ p3 rfl ?_|refine r_ p4 rfl ?_|with_reducible first|apply l_|apply m_|apply n_|apply o_|refine p_ (fun _=>?_) (fun _=>?_))<;>(conv=>whnf)))
     all_goals first|exact Ret.bool rfl | (exfalso;omega) | skip
   ·refine pure_of Tryz.func14 (by rfl) rfl (by kernel_rfl) (by rfl) ?_
    ((conv=>whnf);repeat' ((first|(with_reducible first|apply a_|apply b_|apply c_)|((with_reducible first|apply d_|apply e_|apply f_|apply g_);focus first|omega|(simp only[q_]<;>omega))|((with_reducible first|apply i_|apply h_);focus first|omega|(simp only[q_]<;>omega))|((with_reducible apply h_);focus first|decide|kernel_rfl)|refine s_ (by decide) ?_|refine t_ (by decide) ?_|refine r_ p_bagbegun rfl ?_|refine r_ p1 rfl ?_|refine r_ p2 rfl ?_|refine r_ p3 rfl ?_|refine r_ p4 rfl ?_|with_reducible first|apply l_|apply m_|apply n_|apply o_|refine p_ (fun _=>?_) (fun _=>?_))<;>(conv=>whnf)))
    all_goals first|exact Ret.bool rfl | (exfalso;omega) | skip
  ·have e2:((joinF2 b c).1.map rowC).length=0:=by rw[joinF2_no h2];rfl
   refine pure_of Tryz.func14 (by rfl) rfl (by kernel_rfl) (by rfl) ?_
   rw[h1] at p1
   ((conv=>whnf);repeat' ((first|(with_reducible first|apply a_|apply b_|apply c_)|((with_reducible first|apply d_|apply e_|apply f_|apply g_);focus first|omega|(simp only[q_]<;>omega))|((with_reducible first|apply i_|apply h_);focus first|omega|(simp only[q_]<;>omega))|((with_reducible apply h_);focus first|decide|kernel_rfl)|refine s_ (by decide) ?_|refine t_ (by decide) ?_|refine r_ p_bagbegun rfl ?_|refine r_ p1 rfl ?_|refine r_ p2 rfl ?_|with_reducible first|apply l_|apply m_|apply n_|apply o_|refine p_ (fun _=>?_) (fun _=>?_))<;>(conv=>whnf)))
   all_goals first|exact Ret.bool rfl | (exfalso;omega) | (refine Ret.bool ?_;first|rfl|simp[e1,e2] | simp[e1] | simp[e2])
 ·have e1:((joinF2 a b).1.map rowC).length=0:=by rw[joinF2_no h1];rfl
  by_cases h2:(joinF2 b c).2=0
  ·rw[h2] at p2
   refine pure_of Tryz.func14 (by rfl) rfl (by kernel_rfl) (by rfl) ?_
   ((conv=>whnf);repeat' ((first|(with_reducible first|apply a_|apply b_|apply c_)|((with_reducible first|apply d_|apply e_|apply f_|apply g_);focus first|omega|(simp only[q_]<;>omega))|((with_reducible first|apply i_|apply h_);focus first|omega|(simp only[q_]<;>omega))|((with_reducible apply h_);focus first|decide|kernel_rfl)|refine s_ (by decide) ?_|refine t_ (by decide) ?_|refine r_ p_bagbegun rfl ?_|refine r_ p1 rfl ?_|refine r_ p2 rfl ?_|with_reducible first|apply l_|apply m_|apply n_|apply o_|refine p_ (fun _=>?_) (fun _=>?_))<;>(conv=>whnf)))
   all_goals first|exact Ret.bool rfl | (exfalso;omega) | (refine Ret.bool ?_;first|rfl|simp[e1,e2] | simp[e1] | simp[e2])
  ·have e2:((joinF2 b c).1.map rowC).length=0:=by rw[joinF2_no h2];rfl
   refine pure_of Tryz.func14 (by rfl) rfl (by kernel_rfl) (by rfl) ?_
   ((conv=>whnf);repeat' ((first|(with_reducible first|apply a_|apply b_|apply c_)|((with_reducible first|apply d_|apply e_|apply f_|apply g_);focus first|omega|(simp only[q_]<;>omega))|((with_reducible first|apply i_|apply h_);focus first|omega|(simp only[q_]<;>omega))|((with_reducible apply h_);focus first|decide|kernel_rfl)|refine s_ (by decide) ?_|refine t_ (by decide) ?_|refine r_ p_bagbegun rfl ?_|refine r_ p1 rfl ?_|refine r_ p2 rfl ?_|with_reducible first|apply l_|apply m_|apply n_|apply o_|refine p_ (fun _=>?_) (fun _=>?_))<;>(conv=>whnf)))
   all_goals first|exact Ret.bool rfl | (exfalso;omega) | (refine Ret.bool ?_;first|rfl|simp[e1,e2] | simp[e1] | simp[e2])
theorem widthF_some {l m:List RowT} (h:rowsChk l=0) (hm:∀r∈m,r∈l):widthF m≤widthF l:=by
 cases m with
 | nil=>exact Nat.zero_le _
 | cons x m=>rw[show widthF (x::m)=x.length from rfl,((rowsChk_ok.1 h).2 x (hm x List.mem_cons_self)).2.1];exact Nat.le_refl _
theorem law_JoinParts (a:List RowT) (ha:okRws a) (b:List RowT) (hb:okRws b) (k:Int) (wk:-9223372036854775808≤k∧k≤9223372036854775807):Pure Tryz.prog 15 [rwsV a,rwsV b,pInt .i64 k] (pBool true):=by
 have p1:=p_Join a b
 have hma:(a.map rowC).length=a.length:=List.length_map _
 by_cases h1:(joinF2 a b).2=0
 ·rw[h1] at p1
  by_cases h:k<0∨(a.length:Int)<k
  ·refine pure_of Tryz.func15 (by rfl) rfl (by kernel_rfl) (by rfl) ?_
   ((conv=>whnf);repeat' ((first|(with_reducible first|apply a_|apply b_|apply c_)|((with_reducible first|apply d_|apply e_|apply f_|apply g_);focus first|omega|(simp only[q_]<;>omega))|((with_reducible first|apply i_|apply h_);focus first|omega|(simp only[q_]<;>omega))|((with_reducible apply h_);focus first|decide|kernel_rfl)|refine s_ (by decide) ?_|refine t_ (by decide) ?_|refine r_ p_bagbegun rfl ?_|refine r_ p1 rfl ?_|with_reducible first|apply l_|apply m_|apply n_|apply o_|refine p_ (fun _=>?_) (fun _=>?_))<;>(conv=>whnf)))
   all_goals first|exact Ret.bool rfl | (exfalso;omega) | skip
  ·obtain⟨n,rfl⟩:=Int.eq_ofNat_of_zero_le (show 0≤k by omega)
   obtain⟨c1,c2,c3,c4,e⟩:=joinF2_ok h1
   have w1:=widthF_some c1 (m:=a.take n) fun r hr=>List.mem_of_mem_take hr
   have w2:=widthF_some c1 (m:=a.drop n) fun r hr=>List.mem_of_mem_drop hr
   have l1:(a.take n).length*b.length≤40:=Nat.le_trans (Nat.mul_le_mul_right _ (by rw[List.length_take];omega)) c4
   have l2:(a.drop n).length*b.length≤40:=Nat.le_trans (Nat.mul_le_mul_right _ (by rw[List.length_drop];omega)) c4
   have p2:=p_Join (a.take n) b
   rw[joinF2_of (rowsChk_take c1 n) c2 (by omega) l1,rwsV_hd] at p2
   have p3:=p_Join (a.drop n) b
   rw[joinF2_of (rowsChk_drop c1 n) c2 (by omega) l2,rwsV_tl] at p3
   have p4:=p_together (joinX (a.take n) b) (joinX (a.drop n) b) (by rw[joinX_len];omega) (by rw[joinX_len];omega)
   rw[← joinX_app,List.take_append_drop,← e] at p4
   have s1:=same_small (joinF2_small a b)
   refine pure_of Tryz.func15 (by rfl) rfl (by kernel_rfl) (by rfl) ?_
   ((conv=>whnf);repeat' ((first|(with_reducible first|apply a_|apply b_|apply c_)|((with_reducible first|apply d_|apply e_|apply f_|apply g_);focus first|omega|(simp only[q_]<;>omega))|((with_reducible first|apply i_|apply h_);focus first|omega|(simp only[q_]<;>omega))|((with_reducible apply h_);focus first|decide|kernel_rfl)|refine s_ (by decide) ?_|refine t_ (by decide) ?_|refine r_ p_bagbegun rfl ?_|refine r_ p1 rfl ?_|refine r_ p2 rfl ?_|refine r_ p3 rfl ?_|refine r_ p4 rfl ?_|refine r_ s1 rfl ?_|with_reducible first|apply l_|apply m_|apply n_|apply o_|refine p_ (fun _=>?_) (fun _=>?_))<;>(conv=>whnf)))
   all_goals first|exact Ret.bool rfl | (exfalso;omega) | skip
 ·have e1:((joinF2 a b).1.map rowC).length=0:=by rw[joinF2_no h1];rfl
  refine pure_of Tryz.func15 (by rfl) rfl (by kernel_rfl) (by rfl) ?_
  ((conv=>whnf);repeat' ((first|(with_reducible first|apply a_|apply b_|apply c_)|((with_reducible first|apply d_|apply e_|apply f_|apply g_);focus first|omega|(simp only[q_]<;>omega))|((with_reducible first|apply i_|apply h_);focus first|omega|(simp only[q_]<;>omega))|((with_reducible apply h_);focus first|decide|kernel_rfl)|refine s_ (by decide) ?_|refine t_ (by decide) ?_|refine r_ p_bagbegun rfl ?_|refine r_ p1 rfl ?_|with_reducible first|apply l_|apply m_|apply n_|apply o_|refine p_ (fun _=>?_) (fun _=>?_))<;>(conv=>whnf)))
  all_goals first|exact Ret.bool rfl | (exfalso;omega) | (refine Ret.bool ?_;first|rfl|simp[e1,e2] | simp[e1] | simp[e2])
theorem distK_in {s:List (List UInt8)} {x:RowT} (h:keyR x∈s) (l:List RowT):distK s (x::l)=distK s l∧seenK s (x::l)=seenK s l:=
 by
 constructor
 ·conv=>lhs;unfold distK
  exact if_pos h
 ·show seenK (putS s (keyR x)) l=_
  rw[show putS s (keyR x)=s from if_pos h]
theorem distK_out {s:List (List UInt8)} {x:RowT} (h:keyR x∉s) (l:List RowT):distK s (x::l)=x::distK (s++[keyR x]) l∧seenK s (x::l)=seenK (s++[keyR x]) l:=
 by
 constructor
 ·conv=>lhs;unfold distK
  exact if_neg h
 ·show seenK (putS s (keyR x)) l=_
  rw[show putS s (keyR x)=s++[keyR x] from if_neg h]
theorem distK_app:∀(l m:List RowT) (s:List (List UInt8)),distK s (l++m)=distK s l++distK (seenK s l) m
 | [],m,s=>rfl
 | x::l,m,s=>by
  rw[List.cons_append]
  by_cases h:keyR x∈s
  ·rw[(distK_in h _).1,(distK_in h _).1,(distK_in h _).2,distK_app l m s]
  ·rw[(distK_out h _).1,(distK_out h _).1,(distK_out h _).2,distK_app l m _,List.cons_append]
theorem distK_again:∀(l:List RowT) (s:List (List UInt8)),distK s (distK s l)=distK s l∧seenK s (distK s l)=seenK s l
 | [],s=>⟨rfl,rfl⟩
 | x::l,s=>by
  by_cases h:keyR x∈s
  ·rw[(distK_in h _).1,(distK_in h _).2];exact distK_again l s
  ·obtain⟨i1,i2⟩:=distK_again l (s++[keyR x])
   rw[(distK_out h _).1,(distK_out h _).1,(distK_out h _).2,(distK_out h _).2,i1,i2]
   exact⟨rfl,rfl⟩
open Classical in
theorem howF_cons (x:RowT) (l:List RowT) (r:RowT):howF (x::l) r=howF l r+(if x=r then 1 else 0):=by
 unfold howF
 rw[List.countP_cons]
 congr 1
 by_cases h:x=r
 ·rw[if_pos h,if_pos ((rowEqB_iff x r).2 h)]
 ·rw[if_neg h,if_neg (fun e=>h ((rowEqB_iff x r).1 e))]
open Classical in
theorem howF_dist {r:RowT} (hr:rowChk r=0) (nr:∀v∈r,okInt v.N):∀(l:List RowT) (s:List (List UInt8)),OkRows l→howF (distK s l) r=if keyR r∈s then 0 else if r∈l then 1 else 0
 | [],s,_=>by
  show howF [] r=_
  split<;>rfl
 | x::l,s,h=>by
  have hx:=h x List.mem_cons_self
  have hl:OkRows l:=fun y hy=>h y (List.mem_cons_of_mem _ hy)
  by_cases hk:keyR x∈s
  ·rw[(distK_in hk _).1,howF_dist hr nr l s hl]
   by_cases q:keyR r∈s
   ·rw[if_pos q,if_pos q]
   ·rw[if_neg q,if_neg q]
    have:r∈x::l↔r∈l:=by
     rw[List.mem_cons]
     exact⟨fun q2=>q2.elim (fun e=>absurd (e ▸ hk) q) id,.inr⟩
    simp only[this]
  ·rw[(distK_out hk _).1,howF_cons,howF_dist hr nr l _ hl]
   by_cases hxr:x=r
   ·subst hxr
    rw[if_pos rfl,if_pos (List.mem_append_right _ (List.mem_singleton.2 rfl)),if_neg hk,if_pos List.mem_cons_self]
   ·have hne:keyR r≠keyR x:=fun e=>hxr (keyR_inj hr nr hx.1 hx.2 e).symm
    have h1:keyR r∈s++[keyR x]↔keyR r∈s:=by
     rw[List.mem_append,List.mem_singleton]
     exact⟨fun q=>q.elim id fun e=>absurd e hne,.inl⟩
    have h2:r∈x::l↔r∈l:=by
     rw[List.mem_cons]
     exact⟨fun q=>q.elim (fun e=>absurd e.symm hxr) id,.inr⟩
    rw[if_neg hxr,Nat.add_zero]
    simp only[h1,h2]
end
section
open Go.RowKit K
set_option maxRecDepth 100000
set_option maxRecDepth 100000
theorem distF_ok {l:List RowT} (h:rowsChk l=0):distF l=(distK [] l,0):=if_neg (not_not_intro h)
theorem law_DistinctOnce (l:List RowT) (hl:okRws l) (k:Int) (wk:-9223372036854775808≤k∧k≤9223372036854775807):Pure Tryz.prog 10 [rwsV l,pInt .i64 k] (pBool true):=by
 have hN:=okRws_in hl
 have hml:(l.map rowC).length=l.length:=List.length_map _
 have p1:=p_Distinct l hN
 by_cases hc:rowsChk l=0
 ·rw[distF_ok hc] at p1
  have p1:Pure _ _ _ (.tup [rwsV (distK [] l),pInt .i64 0]):=p1
  obtain⟨h40,h8⟩:=rowsChk_ok.1 hc
  by_cases h:k<0∨(l.length:Int)<k
  ·refine pure_of Tryz.func10 (by rfl) rfl (by kernel_rfl) (by rfl) ?_
   ((conv=>whnf);repeat' ((first|(with_reducible first|apply a_|apply b_|apply c_)|((with_reducible first|apply d_|apply e_|apply f_|apply g_);focus first|omega|(simp only[q_]<;>omega))|((with_reducible first|apply i_|apply h_);focus first|omega|(simp only[q_]<;>omega))|((with_reducible apply h_);focus first|decide|kernel_rfl)|refine s_ (by decide) ?_|refine t_ (by decide) ?_|refine r_ p_bagbegun rfl ?_|refine r_ p1 rfl ?_|with_reducible first|apply l_|apply m_|apply n_|apply o_|refine p_ (fun _=>?_) (fun _=>?_))<;>(conv=>whnf)))
   all_goals first|exact Ret.bool rfl | (exfalso;omega) | skip
  ·obtain⟨n,rfl⟩:=Int.eq_ofNat_of_zero_le (show 0≤k by omega)
   obtain⟨A,hA⟩:∃A,A=distK [] (l.take n):=⟨_,rfl⟩
   obtain⟨M,hM⟩:∃M,M=distK [] l:=⟨_,rfl⟩
   rw[← hM] at p1
   have hMA:M=A++distK (seenK [] (l.take n)) (l.drop n):=by rw[hM,hA,← distK_app,List.take_append_drop]
   have hAl:A.length≤n:=by rw[hA];have:=distK_len (l.take n) [];rw[List.length_take] at this;omega
   have hMl:M.length≤l.length:=by rw[hM];exact distK_len l []
   have hMm:∀r∈M,r∈l:=fun r hr=>distF_mem (by rw[hM] at hr;exact hr)
   have hAm:∀r∈A,r∈l:=fun r hr=>hMm r (by rw[hMA];exact List.mem_append_left _ hr)
   have hAM:A.length≤M.length:=by rw[hMA,List.length_append];omega
   have c1:=rowsChk_take hc n
   have p2:=p_Distinct (l.take n) fun r hr=>hN r (List.mem_of_mem_take hr)
   rw[distF_ok c1,rwsV_hd] at p2
   have p2:Pure _ _ _ (.tup [rwsV (distK [] (l.take n)),pInt .i64 0]):=p2
   rw[← hA] at p2
   have p3:=p_together A (l.drop n) (by omega) (by rw[List.length_drop];omega)
   rw[rwsV_tl] at p3
   have hTm:∀r∈A++l.drop n,r∈l:=fun r hr=>(List.mem_append.1 hr).elim (hAm r) fun h=>List.mem_of_mem_drop h
   have c2:rowsChk (A++l.drop n)=0:=rowsChk_some hc hTm (by rw[List.length_append,List.length_drop];omega)
   have p4:=p_Distinct (A++l.drop n) fun r hr=>hN r (hTm r hr)
   have e4:distK [] (A++l.drop n)=M:=by
    obtain⟨i1,i2⟩:=distK_again (l.take n) []
    rw[distK_app,hMA,hA,i1,i2]
   rw[distF_ok c2,e4] at p4
   have p4:Pure _ _ _ (.tup [rwsV M,pInt .i64 0]):=p4
   have sm:M.length≤40∧∀r∈M,r.length≤16:=⟨by omega,fun r hr=>by have:=(h8 r (hMm r hr)).1;omega⟩
   have sa:A.length≤40∧∀r∈A,r.length≤16:=⟨by omega,fun r hr=>by have:=(h8 r (hAm r hr)).1;omega⟩
   have s1:=same_small sm
   have s2:=p_samerows A (M.take (A.map rowC).length) (by omega) fun r hr=>by have:=sa.2 r hr;omega
   rw[show rowsEqB A (M.take (A.map rowC).length)=true from (rowsEqB_iff _ _).2 (by rw[List.length_map,hMA,List.take_left]),rwsV_hd] at s2
   have hmm:(M.map rowC).length=M.length:=List.length_map _
   have hma:(A.map rowC).length=A.length:=List.length_map _
   have hok:=okRows_of hc hN
   have hone:∀r∈l,howF M r=1:=fun r hr=>by
    rw[hM,howF_dist (hok r hr).1 (hok r hr).2 l [] hok,if_neg List.not_mem_nil,if_pos hr]
   refine pure_of Tryz.func10 (by rfl) rfl (by kernel_rfl) (by rfl) ?_
   ((conv=>whnf);repeat' ((first|(with_reducible first|apply a_|apply b_|apply c_)|((with_reducible first|apply d_|apply e_|apply f_|apply g_);focus first|omega|(simp only[q_]<;>omega))|((with_reducible first|apply i_|apply h_);focus first|omega|(simp only[q_]<;>omega))|((with_reducible apply h_);focus first|decide|kernel_rfl)|refine s_ (by decide) ?_|refine t_ (by decide) ?_|refine r_ p_bagbegun rfl ?_|refine r_ p1 rfl ?_|with_reducible first|apply l_|apply m_|apply n_|apply o_|refine p_ (fun _=>?_) (fun _=>?_))<;>(conv=>whnf)))
   all_goals first | (exfalso;omega) | skip
   refine LoopC.mk Nat (fun i=>[(0,rwsV l),(1,pInt .i64 (n:Int)),(5,rwsV M),(7,pInt .i64 (i:Int))]) (fun _=>[]) [] (fun i=>i≤l.length) (fun i=>l.length - i) 0 (Nat.zero_le _) ?start ?round
   case start=>exact⟨[],rfl,rfl,⟨.inl rfl,.inl rfl,.inl rfl,.inl rfl,trivial⟩,trivial⟩
   case round=>
    intro i hi
    have hi:i≤l.length:=hi
    by_cases q:i<l.length
    ·have ph:=p_howoften M l[i] (by omega) fun r hr=>by have:=sm.2 r hr;omega
     rw[hone _ (List.getElem_mem q)] at ph
     ((conv=>whnf);repeat' ((first|(with_reducible first|apply a_|apply b_|apply c_)|((with_reducible first|apply d_|apply e_|apply f_|apply g_);focus first|omega|(simp only[q_]<;>omega))|((with_reducible first|apply i_|apply h_);focus first|omega|(simp only[q_]<;>omega))|((with_reducible apply h_);focus first|decide|kernel_rfl)|refine s_ (by decide) ?_|refine t_ (by decide) ?_|(refine Idx.mapI (f:=rowC) i rfl q ?_)|refine r_ ph rfl ?_|with_reducible first|apply l_|apply m_|apply n_|apply o_|refine p_ (fun _=>?_) (fun _=>?_))<;>(conv=>whnf)))
     all_goals first
      | exact⟨i+1,q,by omega,[],rfl,rfl,⟨.inl rfl,.inl rfl,.inl rfl,PLe.int (by omega),trivial⟩,trivial⟩
      | (exfalso;omega)
      | skip
    ·((conv=>whnf);repeat' ((first|(with_reducible first|apply a_|apply b_|apply c_)|((with_reducible first|apply d_|apply e_|apply f_|apply g_);focus first|omega|(simp only[q_]<;>omega))|((with_reducible first|apply i_|apply h_);focus first|omega|(simp only[q_]<;>omega))|((with_reducible apply h_);focus first|decide|kernel_rfl)|refine s_ (by decide) ?_|refine t_ (by decide) ?_|refine r_ p2 rfl ?_|refine r_ p3 rfl ?_|refine r_ p4 rfl ?_|refine r_ s1 rfl ?_|refine r_ s2 rfl ?_|with_reducible first|apply l_|apply m_|apply n_|apply o_|refine p_ (fun _=>?_) (fun _=>?_))<;>(conv=>whnf)))
     all_goals first|exact Ret.bool rfl | (exfalso;omega) | skip
 ·have e:distF l=([],rowsChk l):=if_pos hc
  rw[e] at p1
  have p1:Pure _ _ _ (.tup [rwsV [],pInt .i64 (rowsChk l)]):=p1
  refine pure_of Tryz.func10 (by rfl) rfl (by kernel_rfl) (by rfl) ?_
  ((conv=>whnf);repeat' ((first|(with_reducible first|apply a_|apply b_|apply c_)|((with_reducible first|apply d_|apply e_|apply f_|apply g_);focus first|omega|(simp only[q_]<;>omega))|((with_reducible first|apply i_|apply h_);focus first|omega|(simp only[q_]<;>omega))|((with_reducible apply h_);focus first|decide|kernel_rfl)|refine s_ (by decide) ?_|refine t_ (by decide) ?_|refine r_ p_bagbegun rfl ?_|refine r_ p1 rfl ?_|with_reducible first|apply l_|apply m_|apply n_|apply o_|refine p_ (fun _=>?_) (fun _=>?_))<;>(conv=>whnf)))
  all_goals first|exact Ret.bool rfl | (exfalso;omega) | skip
end
section
open Go.RowKit K
set_option maxRecDepth 100000
set_option maxRecDepth 100000
abbrev hAr (rows:List (List C)):Rf:=[(9,.box TT [.arr 60 TE 1 0 rows.length]),(60,.arr TE 1 rows)]
abbrev hAr' (rows:List (List C)):Rf:=[(9,.box TT [.arr 61 TE 1 0 rows.length]),(61,.arr TE 1 rows)]
def roundA (rows:List (List C)):Cont:=fun x e h n=>match x with
 | .normal=>∃n',Wk [9,60] e h [] (hAr' rows) n'
 | _=>False
section
variable {P:Program} {nt:Nat} {c:Ctx} {σ:Sg} {e:Env} {h:Hp} {a:Act} {w:World}
theorem key_cellsA {rows:List (List C)} (hs:SW c σ (hpL (hAr rows)) w) {k b m:Nat} {hb:HB} (hk:(k,hb)∈hAr rows) (hσ:σ k=some (some b,m)):∃cs e fr,w.heap[b]? = some (.cells cs e fr):=by
 have:=hs.hp k hb (mem_hpL (by rfl) hk)
 rcases List.mem_cons.1 hk with q | q
 ·cases q
  obtain⟨g,n,cs,h1,h2,h3,h4⟩:=this
  rw[hσ] at h1;cases h1
  exact⟨_,_,_,h3⟩
 ·rw[List.mem_singleton] at q
  cases q
  obtain⟨_,_,ob,n',h1,h2⟩:=this
  rw[hσ] at h1;cases h1
  obtain⟨_,cur,h3,_⟩:=h2
  exact⟨_,_,_,h3⟩
theorem range_outA (hc:c.Ok) (hm:P.follows .mixedOrders=true) (hs:St c nt σ e h a w) {g:Operand} {gf:Nat} {lb:Array Value} {body:Code} {id1 id2:Nat} {o1 o2:Oper} {Q:Exit→Act→World→Prop}
  (hg:a.eval g=.func (.func gf) #[] lb) (eg:∀args w,(callFunc gf args).run P w=.ok (.enter gf args) w)
  (h9e:e 9=.d (.ptr 9 0)) (h9:h 9=some (.box TT [nilC])) (h60:σ 60=none) (hnt:44<nt) (ha1:isAssign o1 10 43) (ha2:isAssign o2 11 44)
  {A B:List C} {xa xb:List Value} (hA:CsRep (fz c σ h w) w A xa) (hB:CsRep (fz c σ h w) w B xb) {T0:World→Prop}
  (hseq:SeqP Fence.wide 5 P gf lb (fun x:Value×Value=>#[x.1,x.2]) (prs xa xb) T0)
  (hT0:∀W,w.heap.size≤W.heap.size→(∀b,b<w.heap.size→(∀n,σ 9≠some (some b,n))→W.heap[b]? = w.heap[b]?)→T0 W)
  (f:C×C→List C) (hok:okIn body=true)
  (hround:∀(i:Nat) (p:C×C),(prs A B)[i]? = some p→vc P nt [9,60] (fun _ _ _ _=>False) body (envX p.1 p.2) (hpL (hAr (((prs A B).take i).map f))) [9,60] (roundA (((prs A B).take (i+1)).map f)))
  (hdone:∀(D:Nat) (W:World) (σ':Sg),w.heap.size≤D→W.heap[D]? = some (.deferred (some []))→
   Evo σ σ' (fz c σ h w) (fz c σ' (Dl.app h (deltaOf r0 (hAr ((prs A B).map f)))) W) w W→SW c σ' (Dl.app h (deltaOf r0 (hAr ((prs A B).map f)))) W→(∀k,k∉[9,60]→σ k=none→σ' k=none)→
   Q .normal { a with defers:={ target:=.collected D,args:=#[] }::a.defers } W) :
  (Code.rangeFunc g #[43,44] ((Code.region id1 #[o1] false).seq (Code.region id2 #[o2] false)) body).wpIn Fence.wide 6 P Q a w:=by
 have hnm:namesOk [(9,9),(60,60)] [] r0 (hAr ((prs A B).map f))=true:=rfl
 have hr1:RR [(9,9),(60,60)] r0 r0:=⟨_,_,_,rfl,rfl,rfl,rfl⟩
 have hr2:∀rows,RR [(9,9),(60,60)] (hAr rows) (hAr rows):=fun rows=>⟨_,_,_,rfl,rfl,rfl,_,_,_,rfl,rfl,rfl,rfl⟩
 have hin:∀p∈([]:Rf)++r0,h p.1=some p.2:=by
  intro p hp
  rw[List.nil_append,List.mem_singleton] at hp
  subst hp;exact h9
 have hσ9:∃g9 n9,σ 9=some (some g9,n9):=by
  obtain⟨g,n,cs,q1,_⟩:=hs.hp 9 _ h9
  exact⟨g,n,q1⟩
 obtain⟨g9,n9,hσ9⟩:=hσ9
 have hfr:Fresh σ (deltaOf r0 (hAr ((prs A B).map f))) ([]++r0):=by
  intro k hk hno
  have:k=9∨k=60:=by simpa [Dl.keys,deltaOf] using hk
  rcases this with rfl | rfl
  ·exact absurd rfl (hno (9,.box TT [nilC]) (by simp))
  ·exact h60
 obtain⟨hCo,hCfr,hCk,hCs,fin⟩:=frame_world (res0:=.any) (res:=.any) hnm (rfl:RR [(9,9),(60,60)] [] []) hr1 (hr2 _) (by unfold renP;rfl) hc hs.toSW hin hfr
 obtain⟨C,hC⟩:∃C,C=calleeC c [(9,9),(60,60)] σ h w ([]++r0):=⟨_,rfl⟩
 have hCw:C.w0=w:=by rw[hC];rfl
 have hCσ:C.σ0=sg0 [(9,9),(60,60)] σ:=by rw[hC];rfl
 have hCF:C.F1=fz c σ h w:=by rw[hC];rfl
 have hC9:C.σ0 9=σ 9:=by rw[hCσ];rfl
 have hCn:∀k,k∉[9]→C.σ0 k=none:=fun k hk=>by rw[hCσ];exact hCfr k (by simpa using hk)
 have hCfk:∀k,C.σ0 k≠none→k∈[9]:=fun k hk=>Classical.byContradiction fun q=>hk (hCn k q)
 have hCe:∀b,C.ext b→∃n,σ 9=some (some b,n):=by
  rintro b hb
  rw[hC] at hb
  obtain⟨k,hb',m,q1,q2⟩:=hb
  have:=hpL_mem q1
  rw[List.nil_append,List.mem_singleton] at this
  cases this
  exact⟨m,q2⟩
 rw[← hC] at hCo hCk hCs fin
 rw[← hCσ] at hCk hCs
 have hCn0:C.n0=w.heap.size:=by show C.w0.heap.size=_;rw[hCw]
 have hpx:=prs_rep hA hB
 have hlen:(prs xa xb).length=(prs A B).length:=by rw[prs_len,prs_len,hA.len,hB.len]
 have h9v:a.tmps.getD 9 undef=.pointer (some ⟨g9,0,none⟩):=by
  have:=hs.env 9
  rw[h9e] at this
  unfold PRep DRep at this
  obtain⟨g,n,q1,q2⟩:=this
  rw[hσ9] at q1;cases q1;exact q2
 refine range_plain (a₁:=fun x=>(((({ tmps:=a.tmps,defers:=[] }:Act).put (some 43) x.1).put (some 44) x.2).put (some 10) x.1).put (some 11) x.2) rfl (by decide) hg trivial eg hseq (fun _=>rfl)
  (fun pre W=>∃σ',SW C σ' (hpL (hAr (((prs A B).take pre.length).map f))) W∧∀k,k∉[9,60]→σ' k=none) ?hT ?hIp ?hIa ?hId ?h0 ?assign ?body ?done
 case hT=>
  rintro s W ⟨σ',q1,_⟩
  refine hT0 W (by have:=q1.size;omega) fun b hb hne=>?_
  have:=q1.block b (by omega) (fun he=>by obtain⟨n,q⟩:=hCe b he;exact hne n q)
  rw[hCw] at this;exact this
 case hIp=>
  rintro s W l r r' ⟨σ',q1,q2⟩ hl hr
  exact⟨σ',(sw_other q1 (by omega) hr rfl (fun _ _ e=>by cases e) rfl).2,q2⟩
 case hIa=>
  rintro s W o ⟨σ',q1,q2⟩
  exact⟨σ',sw_below q1 ((Below.refl _ W).alloc (Nat.le_refl _) o),q2⟩
 case hId=>
  rintro s W ⟨σ',q1,q2⟩
  exact⟨σ',sw_below q1 (Below.refl _ W).drew,q2⟩
 case h0=>
  obtain⟨_,q⟩:=sw_wk (fk:=[9]) (f:=fnL [(9,9)]) (n:=[9,60]) (lh:=hAr []) hCfk hCs rfl rfl ⟨⟨rfl,rfl,⟨rfl,rfl,Nat.zero_lt_succ _,rfl,rfl⟩,rfl⟩,⟨rfl,Nat.zero_lt_succ _,rfl⟩,trivial⟩
  exact⟨_,q,fun k hk=>by unfold newSg;rw[if_neg fun e=>hk (kin_mem e)]⟩
 case assign=>
  intro l x W K hK
  have hact:({ tmps:=((#[43,44]:Array Tmp).zip #[x.1,x.2]).foldl (fun t (p,v)=>t.setIfInBounds p v) a.tmps,defers:=[] }:Act)=(({ tmps:=a.tmps,defers:=[] }:Act).put (some 43) x.1).put (some 44) x.2:=by simp[Act.put]
  rw[hact]
  refine wpIn_seq (assign_in ha1 ?_)
  refine assign_in ha2 ?_
  have hn:=hs.nt
  have e1:((({ tmps:=a.tmps,defers:=[] }:Act).put (some 43) x.1).put (some 44) x.2).eval (.tmp 43)=x.1:=by
   simp[Act.eval,Act.put,hn,Array.getElem?_setIfInBounds,show 43<nt by omega]
  have e2:(((({ tmps:=a.tmps,defers:=[] }:Act).put (some 43) x.1).put (some 44) x.2).put (some 10) x.1).eval (.tmp 44)=x.2:=by
   simp[Act.eval,Act.put,hn,Array.getElem?_setIfInBounds,show 44<nt by omega]
  rw[e1,e2]
  exact hK
 case body=>
  rintro l pre x W ⟨σ',q1,q2⟩ hx hsz
  obtain⟨q,hq,r1,r2⟩:=hpx _ _ hx
  obtain⟨i,hi⟩:∃i,i=pre.length:=⟨_,rfl⟩
  rw[← hi] at q1 hq hx
  have hnm2:namesOk [(9,9),(60,60),(61,61)] [] (hAr (((prs A B).take i).map f)) (hAr' (((prs A B).take (i+1)).map f))=true:=rfl
  have hra:RR [(9,9),(60,60),(61,61)] (hAr (((prs A B).take i).map f)) (hAr (((prs A B).take i).map f)):=⟨_,_,_,rfl,rfl,rfl,_,_,_,rfl,rfl,rfl,rfl⟩
  have hrb:RR [(9,9),(60,60),(61,61)] (hAr' (((prs A B).take (i+1)).map f)) (hAr' (((prs A B).take (i+1)).map f)):=⟨_,_,_,rfl,rfl,rfl,_,_,_,rfl,rfl,rfl,rfl⟩
  obtain⟨hi1,hi2⟩:(∀p∈([]:Rf)++hAr (((prs A B).take i).map f),hpL (hAr (((prs A B).take i).map f)) p.1=some p.2)∧Fresh σ' (deltaOf (hAr (((prs A B).take i).map f)) (hAr' (((prs A B).take (i+1)).map f))) ([]++hAr (((prs A B).take i).map f)):=by
   refine⟨fun p hp=>mem_hpL (by rfl) hp,fun k hk hno=>q2 k fun hm=>?_⟩
   rcases List.mem_cons.1 hm with rfl | hm
   ·exact hno _ (List.mem_cons_self ..) rfl
   ·rw[List.mem_singleton] at hm
    subst hm
    exact hno _ (List.mem_cons_of_mem _ (List.mem_cons_self ..)) rfl
  obtain⟨hDo,hDfr,hDk,hDs,fin2⟩:=frame_world (res0:=.any) (res:=.any) hnm2 (rfl:RR [(9,9),(60,60),(61,61)] [] []) hra hrb (by unfold renP;rfl) hCo q1 hi1 hi2
  obtain⟨D,hDD⟩:∃D,D=calleeC C [(9,9),(60,60),(61,61)] σ' (hpL (hAr (((prs A B).take i).map f))) W ([]++hAr (((prs A B).take i).map f)):=⟨_,rfl⟩
  have hDw:D.w0=W:=by rw[hDD];rfl
  have hDσ:D.σ0=sg0 [(9,9),(60,60),(61,61)] σ':=by rw[hDD];rfl
  have hDdf:D.df=[]:=by rw[hDD];rfl
  have hDn0:D.n0=W.heap.size:=by show D.w0.heap.size=_;rw[hDw]
  have hD9:D.σ0 9=some (some g9,n9):=by
   rw[hDσ]
   show σ' 9=_
   exact q1.sg0 9 _ (hC9.trans hσ9)
  have hDe:∀b,D.ext b→∃cs e fr,W.heap[b]? = some (.cells cs e fr):=by
   rintro b hb
   rw[hDD] at hb
   obtain⟨_,_,k',hb',m,g1,g2⟩:=ext_own hra q1 hi1 hb
   exact key_cellsA q1 g1 g2
  rw[← hDD] at hDo hDk hDs fin2
  rw[← hDσ] at hDk hDs hDfr
  have hDn:∀k,k∉[9,60]→D.σ0 k=none:=fun k hk=>hDfr k hk
  have hDfk:∀k,D.σ0 k≠none→k∈[9,60]:=fun k hk=>Classical.byContradiction fun q=>hk (hDn k q)
  have hkk:Keeps (fz c σ h w) (fz D D.σ0 (hpL (hAr (((prs A B).take i).map f))) W) w W:=by
   have:=q1.kept
   rw[hCF,hCw] at this
   exact this.trans hDk
  have hv1:PRep D.σ0 (fz D D.σ0 (hpL (hAr (((prs A B).take i).map f))) W) W (.d (.c q.1)) x.1:=by unfold PRep DRep;exact CRep.keeps hkk _ _ r1
  have hv2:PRep D.σ0 (fz D D.σ0 (hpL (hAr (((prs A B).take i).map f))) W) W (.d (.c q.2)) x.2:=by unfold PRep DRep;exact CRep.keeps hkk _ _ r2
  have st0:St D nt D.σ0 env9 (hpL (hAr (((prs A B).take i).map f))) { tmps:=a.tmps,defers:=[] } W:=by
   refine⟨hDs,fun t=>?_,hDdf.symm,hs.nt⟩
   by_cases ht:t=9
   ·subst ht
    show PRep _ _ _ (.d (.ptr 9 0)) (a.tmps.getD 9 undef)
    unfold PRep DRep
    exact⟨g9,n9,hD9,h9v⟩
   ·have:env9 t=.any:=by
     show (bif Nat.beq t 9 then _ else _)=_
     have:Nat.beq t 9=false:=by rw[Bool.eq_false_iff];intro e;exact ht (Nat.eq_of_beq_eq_true e)
     rw[this];rfl
    rw[this];exact rep_any
  have st1:=st_put (d:=some 43) (v:=.d (.c q.1)) (u:=x.1) st0 Evo.refl st0.toSW hv1 (fun t ht=>by cases ht;exact Nat.lt_of_le_of_lt (by decide) hnt)
  have st2:=st_put (d:=some 44) (v:=.d (.c q.2)) (u:=x.2) st1 Evo.refl st1.toSW hv2 (fun t ht=>by cases ht;exact Nat.lt_of_le_of_lt (by decide) hnt)
  have st3:=st_put (d:=some 10) (v:=.d (.c q.1)) (u:=x.1) st2 Evo.refl st2.toSW hv1 (fun t ht=>by cases ht;exact Nat.lt_of_le_of_lt (by decide) hnt)
  have st4:=st_put (d:=some 11) (v:=.d (.c q.2)) (u:=x.2) st3 Evo.refl st3.toSW hv2 (fun t ht=>by cases ht;exact Nat.lt_of_le_of_lt (by decide) hnt)
  refine wpIn_mono (vcIn_out (X:=fun _ _ _ _=>False) (fk:=[9,60]) hDfk hDo hm body _ _ [9,60] (roundA (((prs A B).take (i+1)).map f)) D.σ0 _ W hok (fun _ _ _ q=>q) (hround i q hq) st4 hDn) ?_
  intro ex a' W' hq'
  cases ex with
  | normal=>
   obtain⟨e',h',n',σ2,⟨n2,wk⟩,hs2,_⟩:=hq'
   obtain⟨σ3,st5,_⟩:=st_wk hDfk hs2 wk
   obtain⟨σ4,_,sw4,_,_⟩:=fin2 σ3 W' undef st5.toSW rep_any
   rw[app_delta (by rfl)] at sw4
   obtain⟨_,sw5⟩:=sw_wk (fk:=[9]) (f:=fnL [(9,9),(60,61)]) (n:=[9,60]) (lh:=hAr (((prs A B).take (i+1)).map f)) hCfk sw4 rfl rfl ⟨⟨rfl,rfl,⟨rfl,rfl,rfl,rfl,rfl,rfl⟩,rfl⟩,⟨rfl,rfl,rfl,rfl⟩,trivial⟩
   refine⟨rfl,⟨Nat.le_trans (Nat.le_of_eq hDn0.symm) hs2.size,fun k o hk hB ho=>?_⟩,newSg σ4 (fnL [(9,9),(60,61)]) [9,60],?_,fun k hk=>by unfold newSg;rw[if_neg fun e=>hk (kin_mem e)]⟩
   ·have hlt:k<W.heap.size:=(Array.getElem?_eq_some_iff.1 hk).1
    have:=hs2.block k (by rw[hDn0];exact hlt) (fun he=>by obtain⟨cs,e,fr,q⟩:=hDe k he;rw[hk] at q;cases q;cases ho)
    rw[this,hDw];exact hk
   ·rw[List.length_append,← hi];exact sw5
  | exit id=>obtain⟨e',h',n',σ2,hx,_⟩:=hq';exact hx.elim
  | goto l=>obtain⟨e',h',n',σ2,hx,_⟩:=hq';exact hx.elim
  | ret=>obtain⟨e',h',n',σ2,hx,_⟩:=hq';exact hx.elim
  | panic ch=>obtain⟨v,_,e',h',n',σ2,hx,_⟩:=hq';exact hx.elim
  | outgrown=>obtain⟨e',h',n',σ2,hx,_⟩:=hq';exact hx.elim
 case done=>
  rintro D W hD ⟨σ',q1,q2⟩ hK
  rw[hlen,List.take_of_length_le (Nat.le_refl _)] at q1
  obtain⟨σ4,ev,sw,_,fr⟩:=fin σ' W undef q1 rep_any
  exact hdone D W σ4 hD hK ev sw fun k hk hσ=>fr k (fun hm=>hk (by simpa [Dl.keys,deltaOf] using hm)) hσ
end
def postA (P:Program) (fn:Func) (rows:List (List C)):Cont:=fun x e h n=>match x with
 | .normal=>resP P h e fn.results.toList fun vs=>tupOf vs fun v=>RetS [9,60] h (.tup [.d (.arr 60 TE 1 0 rows.length),pInt .i64 0]) [(60,.arr TE 1 rows)] v
 | _=>False
section
variable {P:Program}
set_option maxHeartbeats 1000000 in
theorem callS_joinA {fid:FuncId} {fn:Func} {pre:List Code} {r11 body r15:Code} {bid id1 id2:Nat} {o1 o2:Oper} {args:List PV} {res:PV} {out:Rf} {G:Prop} {gf:Nat} {A B:List C} {RA RB rows:List (List C)} {f:C×C→List C}
  (hf:P.funcs[fid]? = some fn) (hn:(fn.name== "runtime.NumGoroutine")=false)
  (hbody:fn.body=some (seqs pre (.seq (.seq r11 (.block bid (.rangeFunc (.tmp 42) #[43,44] (.seq (.region id1 #[o1] false) (.region id2 #[o2] false)) body))) (.seq r15 .ret))))
  (hres:fn.results=#[.tmp 4,.tmp 5]) (hm:P.follows .mixedOrders=true) (ha:Nat.ble args.length fn.ntmps=true) (hnt:Nat.blt 44 fn.ntmps=true) (ha1:isAssign o1 10 43) (ha2:isAssign o2 11 44) (hok:okIn body=true)
  (eg:∀args w,(callFunc gf args).run P w=.ok (.enter gf args) w) (hRA:RA=A.map fun c=>[c]) (hRB:RB=B.map fun c=>[c]) (hrows:(prs A B).map f=rows) (hr:G→res=.tup [.d (.arr NK TE 1 0 rows.length),pInt .i64 0]∧out=[(NK,.arr TE 1 rows)])
  (hiter:∀(k1 k2 la lb ca cb:Nat) (a b:Option Addr) (xa xb:List Value),SeqP Fence.wide 5 P gf #[.pointer (some ⟨k1,0,none⟩),.pointer (some ⟨k2,0,none⟩)] (fun x:Value×Value=>#[x.1,x.2]) (prs xa xb)
   (fun W=>Seen W (.slice a la ca) la 1 xa∧Seen W (.slice b lb cb) lb 1 xb∧W.cell? ⟨k1,0,none⟩=some (.slice a la ca)∧W.cell? ⟨k2,0,none⟩=some (.slice b lb cb)))
  (hround:G→∀(i:Nat) (p:C×C),(prs A B)[i]? = some p→vc P fn.ntmps [9,60] (fun _ _ _ _=>False) body (envX p.1 p.2) (hpL (hAr (((prs A B).take i).map f))) [9,60] (roundA (((prs A B).take (i+1)).map f)))
  (hpost:G→vc P fn.ntmps [9,60] (fun _ _ _ _=>False) r15 env9 (hpL (hAr rows)) [9,60] (postA P fn rows))
  (hv:vcPre P fn.ntmps [] (fun _ _ _ _=>False) pre (fun e h n=>vc P fn.ntmps [] (fun _ _ _ _=>False) r11 e h n (jatK G gf RA RB))
   (fun x e h _=>match x with | .ret=>resP P h e fn.results.toList fun vs=>tupOf vs fun v=>RetS [] h res out v | _=>False) (argsE args) (hpL []) []) :
  CallS P fid args [] [] res out:=by
 refine⟨⟨fn,hf,hn,by rw[hbody];rfl⟩,fun c vs hc hdf hfr hs hargs=>?_⟩
 have hst:=st_begin hs hargs (Nat.le_of_ble_eq_true ha) hdf
 have hc0:∀k,c.σ0 k=none:=fun k=>hfr k (by simp)
 have hfk:∀k,c.σ0 k≠none→k∈([]:List Nat):=fun k hk=>absurd (hc0 k) hk
 have hnt':44<fn.ntmps:=by simpa using hnt
 refine callsIn_wide.1 (callsIn_of_wp_marks (F:=Fence.wide) (n:=6) hf hbody trivial ?_ rfl)
 refine pre_out (fk:=[]) (Fin:=fun h vs=>tupOf vs fun v=>RetS [] h res out v) hc hm hdf hfk ?fin ?tail pre _ _ [] _ _ _ hv hst (fun k _=>hc0 k)
 case fin=>
  intro σ' h' w' ps us h1 hs' h3
  obtain⟨v,h5,h6⟩:=tup_out h1 h3
  obtain⟨g,n,q1,q2,q3,q4⟩:=h5
  obtain⟨hk,hsw⟩:=sw_wk hfk hs' q1 q2 q4
  exact⟨_,_,rfl,hsw,prep_wk hk _ _ _ q3 h6⟩
 case tail=>
  intro e h n σ a w hN hs hf
  refine wpIn_seq (wpIn_seq (wpIn_mono (wpIn_wide.2 (vc_out hfk hc hm r11 e h n _ σ a w hN hs hf)) ?_))
  intro x a' w' hq
  cases x with
  | normal=>
   obtain⟨e',h',n',σ',⟨hG,j1,j2,j3,j4,j5,j6⟩,hs',hf'⟩:=hq
   refine wpIn_block ?_
   obtain⟨g9,n9,cs9,hσ9,_⟩:=hs'.hp 9 _ j3
   have h42:=hs'.env 42
   rw[j1] at h42
   unfold PRep DRep at h42
   obtain⟨us,cvs,e1,e2,e3⟩:=h42
   have e4:=dsRep_nil_inv e2
   subst e4
   obtain⟨u1,v1,rfl,p1,e5⟩:=dsRep_inv e3
   obtain⟨u2,v2,rfl,p2,e6⟩:=dsRep_inv e5
   have e7:=dsRep_nil_inv e6
   subst e7
   unfold DRep at p1 p2
   obtain⟨g1,n1,s1,rfl⟩:=p1
   obtain⟨g2,n2,s2,rfl⟩:=p2
   rw[hRA] at j4
   rw[hRB] at j5
   obtain⟨g1',n1',ca,aa,xa,s1',hA,seenA⟩:=box_seen hc hs'.toSW j4 j3 hσ9 (by decide)
   obtain⟨g2',n2',cb,ab,xb,s2',hB,seenB⟩:=box_seen hc hs'.toSW j5 j3 hσ9 (by decide)
   rw[s1] at s1';cases s1'
   rw[s2] at s2';cases s2'
   refine range_outA (A:=A) (B:=B) hc hm hs' (e1:a'.eval (.tmp 42)=_) eg j2 j3 (hf' 60 fun hm=>by have:=kin_of hm;rw[j6] at this;cases this) hnt' ha1 ha2 hA hB (hiter g1 g2 A.length B.length ca cb aa ab xa xb) ?hT f hok (hround hG) ?done
   case hT=>
    intro W hle hW
    have hb:∀b,b<w'.heap.size→b≠g9→W.heap[b]? = w'.heap[b]?:=fun b h1 h2=>hW b h1 fun m q=>by rw[hσ9] at q;cases q;exact h2 rfl
    exact⟨(seenA W hle hb).1,(seenB W hle hb).1,(seenA W hle hb).2,(seenB W hle hb).2⟩
   case done=>
    intro D W σ4 hD hK ev sw fr
    rw[hrows] at ev sw
    show (Code.seq r15 .ret).wpIn Fence.wide 6 P _ _ _
    obtain⟨h4,hh4⟩:∃h4,h4=Dl.app h' (deltaOf r0 (hAr rows)):=⟨_,rfl⟩
    rw[← hh4] at ev sw
    have hi1:∀p∈([]:Rf)++hAr rows,h4 p.1=some p.2:=by
     intro p hp
     rw[hh4]
     rcases List.mem_cons.1 hp with rfl | hp
     ·rfl
     ·rw[List.mem_singleton] at hp
      subst hp;rfl
    have hra:RR [(9,9),(60,60)] (hAr rows) (hAr rows):=⟨_,_,_,rfl,rfl,rfl,_,_,_,rfl,rfl,rfl,rfl⟩
    have hrb:RR [(9,9),(60,60)] [(60,.arr TE 1 rows)] [(60,.arr TE 1 rows)]:=⟨_,_,_,rfl,rfl,rfl,rfl⟩
    have hfr3:Fresh σ4 (deltaOf (hAr rows) [(60,.arr TE 1 rows)]) ([]++hAr rows):=by
     intro k hk hno
     exfalso
     have:k=9∨k=60:=by simpa [Dl.keys,deltaOf] using hk
     rcases this with rfl | rfl
     ·exact hno _ (List.mem_cons_self ..) rfl
     ·exact hno _ (List.mem_cons_of_mem _ (List.mem_cons_self ..)) rfl
    obtain⟨hEo,hEfr,hEk,hEs,fin3⟩:=frame_world (res0:=.tup [.d (.arr 60 TE 1 0 rows.length),pInt .i64 0]) (res:=.tup [.d (.arr 60 TE 1 0 rows.length),pInt .i64 0]) (rfl:namesOk [(9,9),(60,60)] [] (hAr rows) [(60,.arr TE 1 rows)]=true) (rfl:RR [(9,9),(60,60)] [] []) hra hrb rfl hc sw hi1 hfr3
    obtain⟨E,hE⟩:∃E,E=calleeC c [(9,9),(60,60)] σ4 h4 W ([]++hAr rows):=⟨_,rfl⟩
    have hEw:E.w0=W:=by rw[hE];rfl
    have hEσ:E.σ0=sg0 [(9,9),(60,60)] σ4:=by rw[hE];rfl
    have hEn0:E.n0=W.heap.size:=by show E.w0.heap.size=_;rw[hEw]
    have hE9:E.σ0 9=some (some g9,n9):=by rw[hEσ];show σ4 9=_;exact ev.sg 9 _ hσ9
    have hEe:∀b,E.ext b→∃cs e fr,W.heap[b]? = some (.cells cs e fr):=by
     rintro b hb
     rw[hE] at hb
     obtain⟨_,_,k',hb',m,q1,q2⟩:=ext_own hra sw hi1 hb
     have:=sw.hp k' hb' (hi1 _ q1)
     rcases List.mem_cons.1 q1 with q | q
     ·cases q
      obtain⟨g,n,cs,h1,h2,h3,h4⟩:=this
      rw[q2] at h1;cases h1
      exact⟨_,_,_,h3⟩
     ·rw[List.mem_singleton] at q
      cases q
      obtain⟨_,_,ob,n',h1,h2⟩:=this
      rw[q2] at h1;cases h1
      obtain⟨_,cur,h3,_⟩:=h2
      exact⟨_,_,_,h3⟩
    rw[← hE] at hEo hEk hEs fin3
    rw[← hEσ] at hEk hEs hEfr
    have hEn:∀k,k∉[9,60]→E.σ0 k=none:=fun k hk=>hEfr k hk
    have hEfk:∀k,E.σ0 k≠none→k∈[9,60]:=fun k hk=>Classical.byContradiction fun q=>hk (hEn k q)
    obtain⟨d,hd⟩:∃d:Deferred,d={ target:=.collected D,args:=#[] }:=⟨_,rfl⟩
    rw[← hd]
    have hadf:a'.defers=[]:=hs'.defers.trans hdf
    obtain⟨E',hE'⟩:∃E':Ctx,E'={ E with df:=[d],σ0:=E.σ0 }:=⟨_,rfl⟩
    have st0:St E' fn.ntmps E.σ0 env9 (hpL (hAr rows)) { a' with defers:=d::a'.defers } W:=by
     refine⟨by rw[hE'];exact sw_df hEs [d] E.σ0 (fun _ _ h=>h),fun t=>?_,by rw[hE',hadf],hs'.nt⟩
     by_cases ht:t=9
     ·subst ht
      show PRep _ _ _ (.d (.ptr 9 0)) (a'.tmps.getD 9 undef)
      have:=hs'.env 9
      rw[j2] at this
      unfold PRep DRep at this ⊢
      obtain⟨g,n,q1,q2⟩:=this
      rw[hσ9] at q1;cases q1
      exact⟨g9,n9,hE9,q2⟩
     ·have:env9 t=.any:=by
       show (bif Nat.beq t 9 then _ else _)=_
       have:Nat.beq t 9=false:=by rw[Bool.eq_false_iff];intro e;exact ht (Nat.eq_of_beq_eq_true e)
       rw[this];rfl
      rw[this];exact rep_any
    have hE'o:E'.Ok:=by rw[hE'];exact ctx_df hEo [d] E.σ0
    have hE'fk:∀k,E'.σ0 k≠none→k∈[9,60]:=by rw[hE'];exact hEfk
    refine wpIn_seq (wpIn_mono (wpIn_wide.2 (vc_out hE'fk hE'o hm r15 _ _ [9,60] _ E.σ0 _ W (hpost hG) st0 hEn)) ?_)
    intro x a5 w5 hq
    cases x with
    | normal=>
     obtain⟨e5,h5,n5,σ5,hq,hs5,_⟩:=hq
     refine wpIn_ret ?_
     show LeavesInM Fence.wide 6 P fn a5.tmps _ a5.defers .returning w5
     rw[hs5.defers,show E'.df=[d] by rw[hE'],hd]
     have hDlt:D<W.heap.size:=(Array.getElem?_eq_some_iff.1 hK).1
     have hsE:SW E σ5 h5 w5:=by
      have:=sw_df hs5.toSW E.df E.σ0 (fun k x hk=>hs5.sg0 k x (by rw[hE'];exact hk))
      rw[hE'] at this
      exact this
     have hK5:w5.heap[D]? = some (.deferred (some [])):=by
      have:=hsE.block D (by rw[hEn0];exact hDlt) (fun he=>by obtain⟨cs,e,fr,q⟩:=hEe D he;rw[hK] at q;cases q)
      rw[this,hEw];exact hK
     obtain⟨ps,us5,r1,r2,r3⟩:=results_run hs5 hq
     have hrun:∀W',(results fn a5.tmps).run P W'=.ok (.tuple #[a5.tmps.getD 4 undef,a5.tmps.getD 5 undef]) W':=fun W'=>by
      unfold results
      rw[hres]
      simp
     have hval:(if hx:us5.toArray.size=1 then us5.toArray[0] else .tuple us5.toArray)=.tuple #[a5.tmps.getD 4 undef,a5.tmps.getD 5 undef]:=by
      have:=hrun w5
      rw[r2] at this
      exact (Result.ok.inj this).1
     obtain⟨v,q5,q6⟩:=tup_out r1 r3
     obtain⟨gr,nr,t1,t2,t3,t4⟩:=q5
     obtain⟨hk5,hsw5⟩:=sw_wk hE'fk hs5.toSW t1 t2 t4
     have q7:=prep_wk hk5 _ _ _ t3 q6
     rw[hval] at q7
     have hsw6:SW E (newSg σ5 (fnL gr) nr) (hpL [(60,.arr TE 1 rows)]) w5:=by
      have:=sw_df hsw5 E.df E.σ0 (fun k x hk=>hsw5.sg0 k x (by rw[hE'];exact hk))
      rw[hE'] at this
      exact this
     have q8:PRep (newSg σ5 (fnL gr) nr) (fz E (newSg σ5 (fnL gr) nr) (hpL [(60,.arr TE 1 rows)]) w5) w5 (.tup [.d (.arr 60 TE 1 0 rows.length),pInt .i64 0]) (.tuple #[a5.tmps.getD 4 undef,a5.tmps.getD 5 undef]):=by
      rw[hE'] at q7
      exact q7
     obtain⟨σ6,_,sw6,q9,_⟩:=fin3 _ w5 _ hsw6 q8
     have hDn:c.n0≤D:=Nat.le_trans hs'.size hD
     obtain⟨ev7,sw7⟩:=sw_other (o':=.deferred none) sw6 hDn hK5 rfl (fun _ _ e=>by cases e) rfl
     refine⟨by simp,.inl ⟨_,_,rfl,run_takeDeferred hK5,?_⟩⟩
     refine⟨_,hrun _,?_⟩
     obtain⟨hk8,sw8⟩:=sw_wk (fk:=[]) (f:=fnL [(NK,60)]) (n:=[NK]) (lh:=[(NK,.arr TE 1 rows)]) hfk sw7 rfl rfl ⟨⟨rfl,rfl,rfl,rfl⟩,trivial⟩
     rw[(hr hG).1,(hr hG).2]
     exact⟨_,_,rfl,sw8,prep_wk hk8 (.tup [.d (.arr NK TE 1 0 rows.length),pInt .i64 0]) (.tup [.d (.arr 60 TE 1 0 rows.length),pInt .i64 0]) _ ⟨⟨rfl,rfl,rfl,rfl,rfl,rfl⟩,.inl rfl,rfl⟩ (PRep.evo ev7 _ _ q9)⟩
    | exit id=>obtain⟨e',h',n',σ',hq,_⟩:=hq;exact hq.elim
    | goto l=>obtain⟨e',h',n',σ',hq,_⟩:=hq;exact hq.elim
    | ret=>obtain⟨e',h',n',σ',hq,_⟩:=hq;exact hq.elim
    | panic ch=>obtain⟨v,_,e',h',n',σ',hq,_⟩:=hq;exact hq.elim
    | outgrown=>obtain⟨e',h',n',σ',hq,_⟩:=hq;exact hq.elim
  | exit id=>obtain⟨e',h',n',σ',hq,_⟩:=hq;exact hq.elim
  | goto l=>obtain⟨e',h',n',σ',hq,_⟩:=hq;exact hq.elim
  | ret=>obtain⟨e',h',n',σ',hq,_⟩:=hq;exact hq.elim
  | panic ch=>obtain⟨v,_,e',h',n',σ',hq,_⟩:=hq;exact hq.elim
  | outgrown=>obtain⟨e',h',n',σ',hq,_⟩:=hq;exact hq.elim
end
theorem s_JoinA (a b:List RowT):CallS Tryz.prog 33 [rwsV a,rwsV b] [] [] (.tup [.d (.arr NK TE 1 0 ((joinF2 a b).1.map rowC).length),pInt .i64 (joinF2 a b).2]) [(NK,.arr TE 1 ((joinF2 a b).1.map rowC))]:=by
 have hma:(a.map rowC).length=a.length:=List.length_map _
 have hmb:(b.map rowC).length=b.length:=List.length_map _
 have pa:=p_bagcheck a
 have pb:=p_bagcheck b
 have pp:=s_pairs a b
 obtain⟨G,hG⟩:∃G:Prop,G=(rowsChk a=0∧rowsChk b=0∧¬(8<widthF a+widthF b∨40<a.length*b.length)):=⟨_,rfl⟩
 refine callS_joinA (pre:=[_,_,_,_]) (G:=G) (gf:=83) (A:=a.map rowS) (B:=b.map rowS) (RA:=a.map rowC) (RB:=b.map rowC) (rows:=(joinX a b).map rowC) (f:=catC) Tryz.func33 rfl (by rfl) rfl (by rfl) rfl rfl ⟨rfl,rfl,rfl⟩ ⟨rfl,rfl,rfl⟩ rfl (enters_of Tryz.func83 (by kernel_rfl) rfl) (by rw[List.map_map];rfl) (by rw[List.map_map];rfl) (prs_join a b) ?hr (fun k1 k2 la lb ca cb a b xa xb=>pairs_any 5 k1 k2 la lb ca cb a b xa xb) ?round ?post ?pre
 case hr=>
  intro g
  rw[hG] at g
  unfold joinF2
  rw[if_neg (not_not_intro g.1),if_neg (not_not_intro g.2.1),if_neg g.2.2]
  exact⟨rfl,rfl⟩
 case round=>
  intro g i p hp
  rw[hG] at g
  obtain⟨h1,h2,h3⟩:=g
  obtain⟨ha40,ha8⟩:=rowsChk_ok.1 h1
  obtain⟨hb40,hb8⟩:=rowsChk_ok.1 h2
  have hil:i<(prs (a.map rowS) (b.map rowS)).length:=(List.getElem?_eq_some_iff.1 hp).1
  have hil2:i<a.length*b.length:=by rw[prs_len,List.length_map,List.length_map] at hil;exact hil
  have hsn:((prs (a.map rowS) (b.map rowS)).take (i+1)).map catC=((prs (a.map rowS) (b.map rowS)).take i).map catC++[catC p]:=by
   rw[map_snoc _ _ hil,(List.getElem?_eq_some_iff.1 hp).2]
  rw[hsn]
  have hrl:(((prs (a.map rowS) (b.map rowS)).take i).map catC).length≤1600:=by rw[List.length_map,List.length_take];omega
  rw[prs_map,List.getElem?_map] at hp
  cases hq:(prs a b)[i]? with
  | none=>rw[hq] at hp;cases hp
  | some xy=>
   rw[hq] at hp
   obtain⟨x,y⟩:=xy
   simp only[Option.map_some,Option.some.injEq] at hp
   subst hp
   obtain⟨hx,hy⟩:=prs_mem (List.mem_of_getElem? hq)
   have hx8:x.length≤8:=(ha8 x hx).1
   have hy8:y.length≤8:=(hb8 y hy).1
   have pc:=p_concat [x,y] (by simp;omega) (by simp)
   have e1:catC (rowS x,rowS y)=[C.sl 3 ([x,y].flatten.map ValueD.c)]:=by simp[catC,rowS]
   rw[e1]
   generalize ((prs (a.map rowS) (b.map rowS)).take i).map catC=rows at hrl ⊢
   have pc:Pure Tryz.prog 61 [.d (.c (.sl 1 [[rowS x],[rowS y]]))] _:=pc
   unfold rowS at pc ⊢
   ((conv=>whnf);repeat' ((first|(with_reducible first|apply a_|apply b_|apply c_)|((with_reducible first|apply d_|apply e_|apply f_|apply g_);focus first|omega|(simp only[q_]<;>omega))|((with_reducible first|apply i_|apply h_);focus first|omega|(simp only[q_]<;>omega))|((with_reducible apply h_);focus first|decide|kernel_rfl)|refine s_ (by decide) ?_|refine t_ (by decide) ?_|refine r_ pc rfl ?_|(refine Need.by 24 rfl (by simp only[List.length_singleton];omega) ?_)|with_reducible first|apply l_|apply m_|apply n_|apply o_|refine p_ (fun _=>?_) (fun _=>?_))<;>(conv=>whnf)))
   all_goals first
    | exact⟨[9,60,61],⟨[(9,9),(60,60),(61,51)],rfl,rfl,trivial,⟨⟨rfl,rfl,⟨rfl,rfl,rfl,rfl,rfl,by simp⟩,rfl⟩,⟨rfl,rfl,rfl,by simp⟩,trivial⟩⟩⟩
    | skip
 case post=>
  intro g
  ((conv=>whnf);repeat' ((first|(with_reducible first|apply a_|apply b_|apply c_)|((with_reducible first|apply d_|apply e_|apply f_|apply g_);focus first|omega|(simp only[q_]<;>omega))|((with_reducible first|apply i_|apply h_);focus first|omega|(simp only[q_]<;>omega))|((with_reducible apply h_);focus first|decide|kernel_rfl)|refine s_ (by decide) ?_|refine t_ (by decide) ?_|with_reducible first|apply l_|apply m_|apply n_|apply o_|refine p_ (fun _=>?_) (fun _=>?_))<;>(conv=>whnf)))
  all_goals first
   | exact RetS.mk [(9,9),(60,60)] [9,60] rfl rfl ⟨⟨rfl,rfl,rfl,rfl,rfl,rfl⟩,.inl rfl,rfl⟩ ⟨⟨rfl,rfl,rfl,rfl⟩,trivial⟩
   | skip
 case pre=>
  ((conv=>whnf);repeat' ((first|(with_reducible first|apply a_|apply b_|apply c_)|((with_reducible first|apply d_|apply e_|apply f_|apply g_);focus first|omega|(simp only[q_]<;>omega))|((with_reducible first|apply i_|apply h_);focus first|omega|(simp only[q_]<;>omega))|((with_reducible apply h_);focus first|decide|kernel_rfl)|refine s_ (by decide) ?_|refine t_ (by decide) ?_|with_reducible first|apply l_|apply m_|apply n_|apply o_|refine p_ (fun _=>?_) (fun _=>?_))<;>(conv=>whnf)))
  refine LoopC.mk Nat (fun k=>[(0,rwsV a),(1,rwsV b),(14,.d (.c (.sl 1 [[.sl 1 (a.map rowC)],[.sl 1 (b.map rowC)]]))),(15,pInt .i64 2),(16,pInt .i64 (k:Int))]) (fun _=>[]) [] (fun k=>k=0∨(k=1∧rowsChk a=0)∨(k=2∧rowsChk a=0∧rowsChk b=0)) (fun k=>2 - k) 0 (.inl rfl) ?start ?round
  case start=>exact⟨[],rfl,rfl,⟨.inl rfl,.inl rfl,rfl,PLe.int (by simp),.inl rfl,trivial⟩,trivial⟩
  case round=>
   rintro k (rfl | ⟨rfl,h1⟩ | ⟨rfl,h1,h2⟩)
   ·by_cases h1:rowsChk a=0
    ·rw[h1] at pa
     ((conv=>whnf);repeat' ((first|(with_reducible first|apply a_|apply b_|apply c_)|((with_reducible first|apply d_|apply e_|apply f_|apply g_);focus first|omega|(simp only[q_]<;>omega))|((with_reducible first|apply i_|apply h_);focus first|omega|(simp only[q_]<;>omega))|((with_reducible apply h_);focus first|decide|kernel_rfl)|refine s_ (by decide) ?_|refine t_ (by decide) ?_|(refine Idx.mk [.sl 1 (a.map rowC)] (by decide) rfl ?_)|refine r_ pa rfl ?_|with_reducible first|apply l_|apply m_|apply n_|apply o_|refine p_ (fun _=>?_) (fun _=>?_))<;>(conv=>whnf)))
     all_goals first
      | exact⟨1,.inr (.inl ⟨rfl,h1⟩),by decide,[],rfl,rfl,⟨.inl rfl,.inl rfl,.inl rfl,.inl rfl,PLe.int (by decide),trivial⟩,trivial⟩
      | (exfalso;omega)
      | skip
    ·have hj:joinF2 a b=([],rowsChk a):=by unfold joinF2;rw[if_pos h1]
     rw[hj]
     ((conv=>whnf);repeat' ((first|(with_reducible first|apply a_|apply b_|apply c_)|((with_reducible first|apply d_|apply e_|apply f_|apply g_);focus first|omega|(simp only[q_]<;>omega))|((with_reducible first|apply i_|apply h_);focus first|omega|(simp only[q_]<;>omega))|((with_reducible apply h_);focus first|decide|kernel_rfl)|refine s_ (by decide) ?_|refine t_ (by decide) ?_|(refine Idx.mk [.sl 1 (a.map rowC)] (by decide) rfl ?_)|refine r_ pa rfl ?_|with_reducible first|apply l_|apply m_|apply n_|apply o_|refine p_ (fun _=>?_) (fun _=>?_))<;>(conv=>whnf)))
     all_goals first
      | exact RetS.mk [] [NK] rfl rfl ⟨⟨rfl,rfl,Nat.zero_lt_succ _,rfl,rfl⟩,.inl rfl,rfl⟩ ⟨⟨rfl,Nat.zero_lt_succ _,rfl⟩,trivial⟩
      | (exfalso;omega)
      | skip
   ·by_cases h2:rowsChk b=0
    ·rw[h2] at pb
     ((conv=>whnf);repeat' ((first|(with_reducible first|apply a_|apply b_|apply c_)|((with_reducible first|apply d_|apply e_|apply f_|apply g_);focus first|omega|(simp only[q_]<;>omega))|((with_reducible first|apply i_|apply h_);focus first|omega|(simp only[q_]<;>omega))|((with_reducible apply h_);focus first|decide|kernel_rfl)|refine s_ (by decide) ?_|refine t_ (by decide) ?_|(refine Idx.mk [.sl 1 (b.map rowC)] (by decide) rfl ?_)|refine r_ pb rfl ?_|with_reducible first|apply l_|apply m_|apply n_|apply o_|refine p_ (fun _=>?_) (fun _=>?_))<;>(conv=>whnf)))
     all_goals first
      | exact⟨2,.inr (.inr ⟨rfl,h1,h2⟩),by decide,[],rfl,rfl,⟨.inl rfl,.inl rfl,.inl rfl,.inl rfl,PLe.int (by decide),trivial⟩,trivial⟩
      | (exfalso;omega)
      | skip
    ·have hj:joinF2 a b=([],rowsChk b):=by unfold joinF2;rw[if_neg (not_not_intro h1),if_pos h2]
     rw[hj]
     ((conv=>whnf);repeat' ((first|(with_reducible first|apply a_|apply b_|apply c_)|((with_reducible first|apply d_|apply e_|apply f_|apply g_);focus first|omega|(simp only[q_]<;>omega))|((with_reducible first|apply i_|apply h_);focus first|omega|(simp only[q_]<;>omega))|((with_reducible apply h_);focus first|decide|kernel_rfl)|refine s_ (by decide) ?_|refine t_ (by decide) ?_|(refine Idx.mk [.sl 1 (b.map rowC)] (by decide) rfl ?_)|refine r_ pb rfl ?_|with_reducible first|apply l_|apply m_|apply n_|apply o_|refine p_ (fun _=>?_) (fun _=>?_))<;>(conv=>whnf)))
     all_goals first
      | exact RetS.mk [] [NK] rfl rfl ⟨⟨rfl,rfl,Nat.zero_lt_succ _,rfl,rfl⟩,.inl rfl,rfl⟩ ⟨⟨rfl,Nat.zero_lt_succ _,rfl⟩,trivial⟩
      | (exfalso;omega)
      | skip
   ·obtain⟨ha40,ha8⟩:=rowsChk_ok.1 h1
    obtain⟨hb40,hb8⟩:=rowsChk_ok.1 h2
    have hmul:a.length*b.length≤40*40:=Nat.mul_le_mul ha40 hb40
    have hmi:((a.length*b.length:Nat):Int)=(a.length:Int)*(b.length:Int):=Int.natCast_mul _ _
    have wa:=p_width a (fun r hr=>by have:=(ha8 r hr).1;omega)
    have wb:=p_width b (fun r hr=>by have:=(hb8 r hr).1;omega)
    have hwa:widthF a≤8:=by
     unfold widthF
     cases a with
     | nil=>exact Nat.zero_le _
     | cons r a=>exact (ha8 r List.mem_cons_self).1
    have hwb:widthF b≤8:=by
     unfold widthF
     cases b with
     | nil=>exact Nat.zero_le _
     | cons r b=>exact (hb8 r List.mem_cons_self).1
    by_cases h3:8<widthF a+widthF b∨40<a.length*b.length
    ·have hj:joinF2 a b=([],2):=by unfold joinF2;rw[if_neg (not_not_intro h1),if_neg (not_not_intro h2),if_pos h3]
     rw[hj]
     ((conv=>whnf);repeat' ((first|(with_reducible first|apply a_|apply b_|apply c_)|((with_reducible first|apply d_|apply e_|apply f_|apply g_);focus first|omega|(simp only[q_]<;>omega))|((with_reducible first|apply i_|apply h_);focus first|omega|(simp only[q_]<;>omega))|((with_reducible apply h_);focus first|decide|kernel_rfl)|refine s_ (by decide) ?_|refine t_ (by decide) ?_|refine r_ wa rfl ?_|refine r_ wb rfl ?_|with_reducible first|apply l_|apply m_|apply n_|apply o_|refine p_ (fun _=>?_) (fun _=>?_))<;>(conv=>whnf)))
     all_goals first
      | exact RetS.mk [] [NK] rfl rfl ⟨⟨rfl,rfl,Nat.zero_lt_succ _,rfl,rfl⟩,.inl rfl,rfl⟩ ⟨⟨rfl,Nat.zero_lt_succ _,rfl⟩,trivial⟩
      | (exfalso;omega)
      | skip
    ·((conv=>whnf);repeat' ((first|(with_reducible first|apply a_|apply b_|apply c_)|((with_reducible first|apply d_|apply e_|apply f_|apply g_);focus first|omega|(simp only[q_]<;>omega))|((with_reducible first|apply i_|apply h_);focus first|omega|(simp only[q_]<;>omega))|((with_reducible apply h_);focus first|decide|kernel_rfl)|refine s_ (by decide) ?_|refine t_ (by decide) ?_|refine r_ wa rfl ?_|refine r_ wb rfl ?_|(refine CallP.ret [(NK,70),(NK1,71)] _ _ _ _ _ _ _ pp rfl rfl rfl rfl trivial ?_)|with_reducible first|apply l_|apply m_|apply n_|apply o_|refine p_ (fun _=>?_) (fun _=>?_))<;>(conv=>whnf)))
     all_goals first
      | (exfalso;omega)
      | refine⟨by rw[hG];exact⟨h1,h2,h3⟩,?_,?_,?_,?_,?_,?_⟩
     ·rfl
     ·rfl
     ·rfl
     ·rfl
     ·rfl
     ·rfl
end
section
open Go.RowKit LikeP
end
section
open Go.RowKit LikeP
end
section
open Go.RowKit K
set_option maxRecDepth 100000
end
section
open Go.RowKit K
set_option maxRecDepth 100000
end
section
open Go.RowKit K
set_option maxRecDepth 100000
end
section
open Go.RowKit K
set_option maxRecDepth 100000
end
section
open Go.RowKit K
set_option maxRecDepth 100000
end
section
open Go.RowKit K
set_option maxRecDepth 100000
structure FoldD where
 e:List NodeD
 cols:Bool
def FoldD.c (x:FoldD):List C:=[.sl 6 (x.e.map NodeD.c),.v (.bool x.cols)]
end
section
open Go.RowKit K
set_option maxRecDepth 100000
end
section
open Go.RowKit K
set_option maxRecDepth 100000
end
section
open Go.RowKit K
set_option maxRecDepth 100000
end
section
open Go.RowKit
end
section
open Go.RowKit K
set_option maxRecDepth 100000
end
section
open Go.RowKit K
set_option maxRecDepth 100000
def HN (e:List NodeD):Prop:=∀n∈e,hNode n
end
section
open Go.RowKit K
set_option maxRecDepth 100000
end
section
open Go.RowKit K
set_option maxRecDepth 100000
set_option maxRecDepth 100000
theorem keepF_zero {f:RowT→Bool×Int}:∀{m:List RowT},(keepF f m).2=0→∀r∈m,(f r).2=0
 | [],_,r,hr=>by cases hr
 | y::m,h4,r,hr=>by
  rw[keepF] at h4
  split at h4
  ·rename_i q;exact absurd h4 q
  ·rename_i q
   split at h4
   ·rename_i q2;exact absurd h4 q2
   ·rename_i q2
    rcases List.mem_cons.1 hr with rfl | hr
    ·exact Decidable.of_not_not q
    ·exact keepF_zero (Decidable.of_not_not q2) r hr
theorem keepF_no {f:RowT→Bool×Int}:∀{m:List RowT},(keepF f m).2≠0→(keepF f m).1=[]
 | [],h=>absurd rfl h
 | y::m,h=>by
  rw[keepF] at h ⊢
  split
  ·rfl
  ·rename_i q
   rw[if_neg q] at h
   split
   ·rfl
   ·rename_i q2
    rw[if_neg q2] at h
    exact absurd rfl h
theorem keepF_sub (f:RowT→Bool×Int) (l:List RowT):(∀r∈(keepF f l).1,r∈l)∧(keepF f l).1.length≤l.length:=by
 by_cases h:(keepF f l).2=0
 ·rw[keepF_ok (keepF_zero h)]
  exact⟨fun r hr=>(List.mem_filter.1 hr).1,List.length_filter_le _ _⟩
 ·rw[keepF_no h]
  exact⟨(fun r h=>by cases h),Nat.zero_le _⟩
theorem filtF_sub (l:List RowT) (cols:List (List UInt8)) (e:List NodeD):(∀r∈(filtF l cols e).1,r∈l)∧(filtF l cols e).1.length≤l.length:=by
 unfold filtF
 split
 ·exact⟨(fun r h=>by cases h),Nat.zero_le _⟩
 ·split
  ·exact⟨(fun r h=>by cases h),Nat.zero_le _⟩
  ·exact keepF_sub _ l
abbrev okNs (e:List NodeD):Prop:=okSl (Tryz.prog.bytesOf 35) NodeD.ok e
theorem okNs_hn {e:List NodeD} (h:okNs e):HN e:=fun n hn=>by
 have:=h.2 n hn
 exact⟨this.2.2.2,this.2.2.1.2.1⟩
noncomputable def projE (l:List RowT) (list:List (List NodeD)):Int:=if rowsChk l≠0 then rowsChk l else if 8<list.length then 2 else firstX checkF list
theorem projF_bad {l:List RowT} {cols:List (List UInt8)} {list:List (List NodeD)} (h:projE l list≠0):projF l cols list=([],projE l list):=by
 unfold projF
 unfold projE at h ⊢
 by_cases h1:rowsChk l=0
 ·rw[if_neg (not_not_intro h1)] at h
  rw[if_neg (not_not_intro h1),if_neg (not_not_intro h1)]
  by_cases h2:8<list.length
  ·rw[if_pos h2,if_pos h2]
  ·rw[if_neg h2] at h
   rw[if_neg h2,if_neg h2,if_pos h]
 ·rw[if_pos h1,if_pos h1]
theorem projF_good {l:List RowT} {cols:List (List UInt8)} {list:List (List NodeD)} (h:projE l list=0):rowsChk l=0∧list.length≤8∧(∀e∈list,checkF e=0)∧projF l cols list=match mapX (projR list cols) l with
  | .error x=>([],x)
  | .ok m=>(m,0):=by
 unfold projE at h
 by_cases h1:rowsChk l=0
 ·rw[if_neg (not_not_intro h1)] at h
  by_cases h2:8<list.length
  ·rw[if_pos h2] at h;cases h
  ·rw[if_neg h2] at h
   refine⟨h1,by omega,firstX_ok.1 h,?_⟩
   unfold projF
   rw[if_neg (not_not_intro h1),if_neg h2,if_neg (not_not_intro h)]
   all_goals (cases mapX (projR list cols) l<;>rfl)
 ·rw[if_pos h1] at h;exact absurd h h1
end
section
open Go.RowKit K
set_option maxRecDepth 100000
set_option maxRecDepth 100000
abbrev okLst (l:List (List NodeD)):Prop:=okSl (Tryz.prog.bytesOf 24) okNs l
theorem okLst_hn {l:List (List NodeD)} (h:okLst l):∀e∈l,HN e:=fun e he=>okNs_hn (h.2 e he)
theorem mapX_mem {α β:Type} {f:α→Except Int β}:∀{l:List α} {bs:List β},mapX f l=.ok bs→∀b∈bs,∃a∈l,f a=.ok b
 | [],bs,h,b,hb=>by rw[mapX] at h;cases h;cases hb
 | a::l,bs,h,b,hb=>by
  rw[mapX] at h
  cases hf:f a with
  | error x=>rw[hf] at h;cases h
  | ok c=>
   rw[hf] at h
   cases hm:mapX f l with
   | error x=>rw[hm] at h;cases h
   | ok cs=>
    rw[hm] at h
    cases h
    rcases List.mem_cons.1 hb with rfl | hb
    ·exact⟨a,List.mem_cons_self,hf⟩
    ·obtain⟨a',h1,h2⟩:=mapX_mem hm b hb
     exact⟨a',List.mem_cons_of_mem _ h1,h2⟩
theorem projF_small (l:List RowT) (cols:List (List UInt8)) (list:List (List NodeD)):(projF l cols list).1.length≤40∧∀r∈(projF l cols list).1,r.length≤16:=by
 by_cases h:projE l list=0
 ·obtain⟨h1,h2,_,h4⟩:=projF_good (cols:=cols) h
  rw[h4]
  cases hm:mapX (projR list cols) l with
  | error x=>exact⟨Nat.zero_le _,fun r h=>by cases h⟩
  | ok m=>
   refine⟨by rw[show ((m,(0:Int)):List RowT×Int).1=m from rfl,mapX_len hm];exact (rowsChk_ok.1 h1).1,fun r hr=>?_⟩
   obtain⟨a,_,ha⟩:=mapX_mem hm r hr
   have:=mapX_len ha
   omega
 ·rw[projF_bad h]
  exact⟨Nat.zero_le _,fun r h=>by cases h⟩
theorem projF_no {l:List RowT} {cols:List (List UInt8)} {list:List (List NodeD)} (h:(projF l cols list).2≠0):(projF l cols list).1=[]:=by
 by_cases hE:projE l list=0
 ·have e:=(projF_good (cols:=cols) hE).2.2.2
  rw[e] at h ⊢
  cases hm:mapX (projR list cols) l with
  | error x=>rfl
  | ok m=>rw[hm] at h;exact absurd rfl h
 ·rw[projF_bad hE]
theorem mapX_parts {α β:Type} {f:α→Except Int β} {l m:List α} {bs:List β} (h:mapX f (l++m)=.ok bs):∃b1 b2,mapX f l=.ok b1∧mapX f m=.ok b2∧bs=b1++b2:=by
 rw[mapX_app] at h
 cases h1:mapX f l with
 | error x=>rw[h1] at h;cases h
 | ok b1=>
  rw[h1] at h
  cases h2:mapX f m with
  | error x=>rw[h2] at h;cases h
  | ok b2=>rw[h2] at h;cases h;exact⟨b1,b2,rfl,rfl,rfl⟩
theorem projF_ok {l:List RowT} {cols:List (List UInt8)} {list:List (List NodeD)} (h:(projF l cols list).2=0):projE l list=0∧((∃m,mapX (projR list cols) l=.ok m∧(projF l cols list).1=m)∨mapX (projR list cols) l=.error 0):=by
 by_cases hE:projE l list=0
 ·refine⟨hE,?_⟩
  have e:=(projF_good (cols:=cols) hE).2.2.2
  rw[e] at h ⊢
  cases hm:mapX (projR list cols) l with
  | error x=>rw[hm] at h;exact .inr (by rw[show x=0 from h])
  | ok m=>exact .inl ⟨m,rfl,rfl⟩
 ·rw[projF_bad hE] at h;exact absurd h hE
theorem mapX_nz {α β:Type} {f:α→Except Int β} (hf:∀a,f a≠.error 0):∀l:List α,mapX f l≠.error 0
 | [],h=>by rw[mapX] at h;cases h
 | a::l,h=>by
  rw[mapX] at h
  cases h1:f a with
  | error x=>rw[h1] at h;cases h;exact hf a h1
  | ok b=>
   rw[h1] at h
   cases h2:mapX f l with
   | error x=>rw[h2] at h;cases h;exact mapX_nz hf l h2
   | ok bs=>rw[h2] at h;cases h
theorem projR_nz (list:List (List NodeD)) (cols:List (List UInt8)) (r:RowT):projR list cols r≠.error 0:=by
 refine mapX_nz (fun e=>?_) list
 unfold pairX
 split
 ·intro h;cases h
 ·rename_i h
  intro e2
  exact h (Except.error.inj e2)
theorem projE_some {l m:List RowT} {list:List (List NodeD)} (h:projE l list=0) (hm:∀r∈m,r∈l) (h40:m.length≤40):projE m list=0:=by
 obtain⟨h1,h2,h3,_⟩:=projF_good (cols:=[]) h
 unfold projE
 rw[if_neg (not_not_intro (rowsChk_some h1 hm h40)),if_neg (by omega)]
 exact firstX_ok.2 h3
theorem projF_of {l:List RowT} {cols:List (List UInt8)} {list:List (List NodeD)} {m:List RowT} (h:projE l list=0) (hm:mapX (projR list cols) l=.ok m):projF l cols list=(m,0):=by
 rw[(projF_good (cols:=cols) h).2.2.2,hm]
theorem law_ProjectApart (l:List RowT) (hl:okRws l) (k:Int) (wk:-9223372036854775808≤k∧k≤9223372036854775807) (cols:List (List UInt8)) (hc:okSl (Tryz.prog.bytesOf 9) okText cols) (list:List (List NodeD)) (hls:okLst list) :
  Pure Tryz.prog 8 [rwsV l,pInt .i64 k,slV 1 eText cols,lstV list] (pBool true):=by
 have hin:=okRws_in hl
 have hnl:=okLst_hn hls
 have p1:=p_Project l hin cols list hnl
 have hml:(l.map rowC).length=l.length:=List.length_map _
 by_cases h1:(projF l cols list).2=0
 ·by_cases h:k<0∨(l.length:Int)<k
  ·rw[h1] at p1
   refine pure_of Tryz.func8 (by rfl) rfl (by kernel_rfl) (by rfl) ?_
   ((conv=>whnf);repeat' ((first|(with_reducible first|apply a_|apply b_|apply c_)|((with_reducible first|apply d_|apply e_|apply f_|apply g_);focus first|omega|(simp only[q_]<;>omega))|((with_reducible first|apply i_|apply h_);focus first|omega|(simp only[q_]<;>omega))|((with_reducible apply h_);focus first|decide|kernel_rfl)|refine s_ (by decide) ?_|refine t_ (by decide) ?_|refine r_ p_bagbegun rfl ?_|refine r_ p1 rfl ?_|with_reducible first|apply l_|apply m_|apply n_|apply o_|refine p_ (fun _=>?_) (fun _=>?_))<;>(conv=>whnf)))
   all_goals first|exact Ret.bool rfl | (exfalso;omega) | skip
  ·obtain⟨n,rfl⟩:=Int.eq_ofNat_of_zero_le (show 0≤k by omega)
   obtain⟨hE,hm⟩:=projF_ok h1
   obtain⟨m,hm,_⟩:=hm.resolve_right (mapX_nz (projR_nz list cols) l)
   obtain⟨b1,b2,m1,m2,hmb⟩:=mapX_parts (l:=l.take n) (m:=l.drop n) (by rw[List.take_append_drop];exact hm)
   obtain⟨c1,_,_,_⟩:=projF_good (cols:=cols) hE
   have h40:=(rowsChk_ok.1 c1).1
   have sm:=projF_small l cols list
   rw[projF_of hE hm] at p1 sm
   have p1:Pure _ _ _ (.tup [rwsV m,pInt .i64 0]):=p1
   have p2:=p_Project (l.take n) (fun r hr=>hin r (List.mem_of_mem_take hr)) cols list hnl
   rw[projF_of (projE_some hE (fun r hr=>List.mem_of_mem_take hr) (by rw[List.length_take];omega)) m1,rwsV_hd] at p2
   have p2:Pure _ _ _ (.tup [rwsV b1,pInt .i64 0]):=p2
   have p3:=p_Project (l.drop n) (fun r hr=>hin r (List.mem_of_mem_drop hr)) cols list hnl
   rw[projF_of (projE_some hE (fun r hr=>List.mem_of_mem_drop hr) (by rw[List.length_drop];omega)) m2,rwsV_tl] at p3
   have p3:Pure _ _ _ (.tup [rwsV b2,pInt .i64 0]):=p3
   have l1:=mapX_len m1
   have l2:=mapX_len m2
   have l3:=mapX_len hm
   rw[List.length_take] at l1
   rw[List.length_drop] at l2
   have p4:=p_together b1 b2 (by omega) (by omega)
   rw[← hmb] at p4
   have s1:=same_small sm
   have hmm:(m.map rowC).length=m.length:=List.length_map _
   have hmb1:(b1.map rowC).length=b1.length:=List.length_map _
   refine pure_of Tryz.func8 (by rfl) rfl (by kernel_rfl) (by rfl) ?_
   ((conv=>whnf);repeat' ((first|(with_reducible first|apply a_|apply b_|apply c_)|((with_reducible first|apply d_|apply e_|apply f_|apply g_);focus first|omega|(simp only[q_]<;>omega))|((with_reducible first|apply i_|apply h_);focus first|omega|(simp only[q_]<;>omega))|((with_reducible apply h_);focus first|decide|kernel_rfl)|refine s_ (by decide) ?_|refine t_ (by decide) ?_|refine r_ p_bagbegun rfl ?_|refine r_ p1 rfl ?_|refine r_ p2 rfl ?_|refine r_ p3 rfl ?_|refine r_ p4 rfl ?_|refine r_ s1 rfl ?_|with_reducible first|apply l_|apply m_|apply n_|apply o_|refine p_ (fun _=>?_) (fun _=>?_))<;>(conv=>whnf)))
   all_goals first|exact Ret.bool rfl | (exfalso;omega) | skip
 ·have e1:((projF l cols list).1.map rowC).length=0:=by rw[projF_no h1];rfl
  refine pure_of Tryz.func8 (by rfl) rfl (by kernel_rfl) (by rfl) ?_
  ((conv=>whnf);repeat' ((first|(with_reducible first|apply a_|apply b_|apply c_)|((with_reducible first|apply d_|apply e_|apply f_|apply g_);focus first|omega|(simp only[q_]<;>omega))|((with_reducible first|apply i_|apply h_);focus first|omega|(simp only[q_]<;>omega))|((with_reducible apply h_);focus first|decide|kernel_rfl)|refine s_ (by decide) ?_|refine t_ (by decide) ?_|refine r_ p_bagbegun rfl ?_|refine r_ p1 rfl ?_|with_reducible first|apply l_|apply m_|apply n_|apply o_|refine p_ (fun _=>?_) (fun _=>?_))<;>(conv=>whnf)))
  all_goals first|exact Ret.bool rfl | (exfalso;omega) | (refine Ret.bool ?_;first|rfl|simp[e1])
theorem filtF_ok {l:List RowT} {cols:List (List UInt8)} {e:List NodeD} (h:(filtF l cols e).2=0):rowsChk l=0∧checkF e=0∧(∀r∈l,(truF e cols r).2=0)∧(filtF l cols e).1=l.filter fun r=>(truF e cols r).1:=by
 unfold filtF at h ⊢
 by_cases h1:rowsChk l=0
 ·rw[if_neg (not_not_intro h1)] at h ⊢
  by_cases h2:checkF e=0
  ·rw[if_neg (not_not_intro h2)] at h ⊢
   have h3:=keepF_zero h
   exact⟨h1,h2,h3,by rw[keepF_ok h3]⟩
  ·rw[if_pos h2] at h;exact absurd h h2
 ·rw[if_pos h1] at h;exact absurd h h1
theorem filtF_no {l:List RowT} {cols:List (List UInt8)} {e:List NodeD} (h:(filtF l cols e).2≠0):(filtF l cols e).1=[]:=by
 unfold filtF at h ⊢
 by_cases h1:rowsChk l=0
 ·rw[if_neg (not_not_intro h1)] at h ⊢
  by_cases h2:checkF e=0
  ·rw[if_neg (not_not_intro h2)] at h ⊢
   exact keepF_no h
  ·rw[if_pos h2]
 ·rw[if_pos h1]
theorem filtF_of {l:List RowT} {cols:List (List UInt8)} {e:List NodeD} (h1:rowsChk l=0) (h2:checkF e=0) (h3:∀r∈l,(truF e cols r).2=0):filtF l cols e=(l.filter fun r=>(truF e cols r).1,0):=by
 unfold filtF
 rw[if_neg (not_not_intro h1),if_neg (not_not_intro h2),keepF_ok h3]
theorem law_FilterParts (l:List RowT) (hl:okRws l) (k:Int) (wk:-9223372036854775808≤k∧k≤9223372036854775807) (cols:List (List UInt8)) (hc:okSl (Tryz.prog.bytesOf 9) okText cols) (e:List NodeD) (he:okNs e) :
  Pure Tryz.prog 5 [rwsV l,pInt .i64 k,slV 1 eText cols,slV 6 NodeD.c e] (pBool true):=by
 have hin:=okRws_in hl
 have hne:=okNs_hn he
 have p1:=p_Filter l hin cols e hne
 have hml:(l.map rowC).length=l.length:=List.length_map _
 by_cases h1:(filtF l cols e).2=0
 ·rw[h1] at p1
  by_cases h:k<0∨(l.length:Int)<k
  ·refine pure_of Tryz.func5 (by rfl) rfl (by kernel_rfl) (by rfl) ?_
   ((conv=>whnf);repeat' ((first|(with_reducible first|apply a_|apply b_|apply c_)|((with_reducible first|apply d_|apply e_|apply f_|apply g_);focus first|omega|(simp only[q_]<;>omega))|((with_reducible first|apply i_|apply h_);focus first|omega|(simp only[q_]<;>omega))|((with_reducible apply h_);focus first|decide|kernel_rfl)|refine s_ (by decide) ?_|refine t_ (by decide) ?_|refine r_ p_bagbegun rfl ?_|refine r_ p1 rfl ?_|with_reducible first|apply l_|apply m_|apply n_|apply o_|refine p_ (fun _=>?_) (fun _=>?_))<;>(conv=>whnf)))
   all_goals first|exact Ret.bool rfl | (exfalso;omega) | skip
  ·obtain⟨n,rfl⟩:=Int.eq_ofNat_of_zero_le (show 0≤k by omega)
   obtain⟨c1,c2,c3,c4⟩:=filtF_ok h1
   rw[c4] at p1
   have h40:=(rowsChk_ok.1 c1).1
   have p2:=p_Filter (l.take n) (fun r hr=>hin r (List.mem_of_mem_take hr)) cols e hne
   rw[filtF_of (rowsChk_take c1 n) c2 (fun r hr=>c3 r (List.mem_of_mem_take hr)),rwsV_hd] at p2
   have p3:=p_Filter (l.drop n) (fun r hr=>hin r (List.mem_of_mem_drop hr)) cols e hne
   rw[filtF_of (rowsChk_drop c1 n) c2 (fun r hr=>c3 r (List.mem_of_mem_drop hr)),rwsV_tl] at p3
   have l1:=List.length_filter_le (fun r=>(truF e cols r).1) (l.take n)
   have l2:=List.length_filter_le (fun r=>(truF e cols r).1) (l.drop n)
   rw[List.length_take] at l1
   rw[List.length_drop] at l2
   have p4:=p_together ((l.take n).filter fun r=>(truF e cols r).1) ((l.drop n).filter fun r=>(truF e cols r).1) (by omega) (by omega)
   rw[← List.filter_append,List.take_append_drop] at p4
   obtain⟨f1,f2⟩:=filtF_sub l cols e
   have s1:=samerows_refl (l.filter fun r=>(truF e cols r).1) (by rw[← c4];omega) (fun r hr=>okRws_row hl r (List.mem_filter.1 hr).1)
   refine pure_of Tryz.func5 (by rfl) rfl (by kernel_rfl) (by rfl) ?_
   ((conv=>whnf);repeat' ((first|(with_reducible first|apply a_|apply b_|apply c_)|((with_reducible first|apply d_|apply e_|apply f_|apply g_);focus first|omega|(simp only[q_]<;>omega))|((with_reducible first|apply i_|apply h_);focus first|omega|(simp only[q_]<;>omega))|((with_reducible apply h_);focus first|decide|kernel_rfl)|refine s_ (by decide) ?_|refine t_ (by decide) ?_|refine r_ p_bagbegun rfl ?_|refine r_ p1 rfl ?_|refine r_ p2 rfl ?_|refine r_ p3 rfl ?_|refine r_ p4 rfl ?_|refine r_ s1 rfl ?_|with_reducible first|apply l_|apply m_|apply n_|apply o_|refine p_ (fun _=>?_) (fun _=>?_))<;>(conv=>whnf)))
   all_goals first|exact Ret.bool rfl | (exfalso;omega) | skip
 ·have e1:((filtF l cols e).1.map rowC).length=0:=by rw[filtF_no h1];rfl
  refine pure_of Tryz.func5 (by rfl) rfl (by kernel_rfl) (by rfl) ?_
  ((conv=>whnf);repeat' ((first|(with_reducible first|apply a_|apply b_|apply c_)|((with_reducible first|apply d_|apply e_|apply f_|apply g_);focus first|omega|(simp only[q_]<;>omega))|((with_reducible first|apply i_|apply h_);focus first|omega|(simp only[q_]<;>omega))|((with_reducible apply h_);focus first|decide|kernel_rfl)|refine s_ (by decide) ?_|refine t_ (by decide) ?_|refine r_ p_bagbegun rfl ?_|refine r_ p1 rfl ?_|with_reducible first|apply l_|apply m_|apply n_|apply o_|refine p_ (fun _=>?_) (fun _=>?_))<;>(conv=>whnf)))
  all_goals first|exact Ret.bool rfl | (exfalso;omega) | (refine Ret.bool ?_;first|rfl|simp[e1])
end
section
open Go.RowKit K
set_option maxRecDepth 100000
end
section
open Go.RowKit K
set_option maxRecDepth 100000
theorem right_tree {t:Ex} (hg:t.good) (h:checkF t.flat=0):RightT t:=by
 obtain⟨u,hu,hf⟩:=right_of h
 rw[← flat_inj hu.good hg hf];exact hu
end
section
open Go.RowKit K
set_option maxRecDepth 100000
theorem mea_tol {t:Int} (h:IsT t):meaV (tolV t)=(t,0):=by rcases h with rfl | rfl | rfl<;>rfl
theorem mea_isT (v:ValueD):IsT (meaV v).1:=by
 unfold meaV
 split
 ·exact .inr (.inl rfl)
 ·split
  ·exact isT_of _
  ·exact .inl rfl
theorem ask_isT (op:Int) (k:List ValueD):IsT (askV op k).1:=by
 unfold askV
 by_cases a1:op=10
 ·rw[if_pos a1];exact isT_same _ _
 rw[if_neg a1]
 by_cases a2:op=12
 ·rw[if_pos a2];exact isT_less _ _
 rw[if_neg a2]
 by_cases a3:op=14
 ·rw[if_pos a3];exact isT_less _ _
 rw[if_neg a3]
 by_cases a4:op=18
 ·rw[if_pos a4];exact isT_of _
 rw[if_neg a4]
 by_cases a5:op=22
 ·rw[if_pos a5];exact isT_any _
 rw[if_neg a5]
 by_cases a6:op=24
 ·rw[if_pos a6];exact isT_and _ _
 rw[if_neg a6]
 by_cases a7:op=20
 ·rw[if_pos a7]
  unfold likV
  split
  ·exact .inl rfl
  ·split
   ·exact .inr (.inl rfl)
   ·exact isT_of _
 rw[if_neg a7]
 unfold joiV
 split
 ·exact .inl rfl
 ·show IsT (if op=16 then _ else _)
  split
  ·exact isT_all _
  ·split
   ·exact isT_any _
   ·exact isT_not _
def tvR (r:Except Int ValueD):Option Int:=match r with
 | .ok v=>if (meaV v).2=0 then some (meaV v).1 else none
 | .error _=>none
theorem tvR_isT {r:Except Int ValueD} {x:Int} (h:tvR r=some x):IsT x:=by
 unfold tvR at h
 split at h
 ·split at h
  ·cases h;exact mea_isT _
  ·cases h
 ·cases h
theorem tvR_tol {t:Int} (h:IsT t):tvR (.ok (tolV t))=some t:=by
 unfold tvR
 rw[show (match (Except.ok (tolV t):Except Int ValueD) with | .ok v=>if (meaV v).2=0 then some (meaV v).1 else none | .error _=>none)=if (meaV (tolV t)).2=0 then some (meaV (tolV t)).1 else none from rfl,mea_tol h]
 rfl
theorem nodF_ask {look:Look} {n:NodeD} {k:List ValueD} (h1:n.Op≠1) (h2:n.Op≠2) (h3:¬(n.Op=3∨(5≤n.Op∧n.Op≤9))):tvR (nodF look n k)=if (askV (if negB n.Op then couF n.Op else n.Op) k).2≠0 then none else some (if negB n.Op then tNot (askV (if negB n.Op then couF n.Op else n.Op) k).1 else (askV (if negB n.Op then couF n.Op else n.Op) k).1):=by
 have e:nodV look n k=if (askV (if negB n.Op then couF n.Op else n.Op) k).2≠0 then (noV,(askV (if negB n.Op then couF n.Op else n.Op) k).2) else (tolV (if negB n.Op then tNot (askV (if negB n.Op then couF n.Op else n.Op) k).1 else (askV (if negB n.Op then couF n.Op else n.Op) k).1),0):=by
  unfold nodV
  rw[if_neg h1,if_neg h2,if_neg h3]
 unfold nodF
 rw[e]
 by_cases g:(askV (if negB n.Op then couF n.Op else n.Op) k).2≠0
 ·rw[if_pos g,if_pos g,if_neg g];rfl
 ·rw[if_neg g,if_neg g,if_pos rfl]
  refine tvR_tol ?_
  split
  ·exact isT_not _
  ·exact ask_isT _ _
noncomputable def tvo (look:Look) (t:Ex):Option Int:=tvR (foldX (nodF look) t)
theorem tvo_two (look:Look) {n:NodeD} {a b:Ex} (h:n.Op=16∨n.Op=17):tvo look (.mk n [a,b])=match tvo look a,tvo look b with
  | some x,some y=>some (if n.Op=16 then tAll [x,y] else tAny [x,y])
  | _,_=>none:=by
 unfold tvo
 rw[foldX,foldXs,foldXs,foldXs]
 cases foldX (nodF look) a with
 | error x=>rfl
 | ok u=>
  cases foldX (nodF look) b with
  | error x=>
   show none=match tvR (.ok u),tvR (.error x) with
    | some x,some y=>some (if n.Op=16 then tAll [x,y] else tAny [x,y])
    | _,_=>none
   cases tvR (.ok u)<;>rfl
  | ok v=>
   show tvR (nodF look n [u,v])=_
   rw[nodF_ask (by omega) (by omega) (by omega)]
   have en:negB n.Op=false:=by rcases h with g | g<;>rw[g]<;>decide
   have ea:askV n.Op [u,v]=joiV n.Op [u,v]:=by rcases h with g | g<;>rw[g]<;>simp[askV]
   simp only[en,Bool.false_eq_true,if_false,ea]
   unfold joiV tvR
   by_cases g1:(meaV u).2=0
   ·by_cases g2:(meaV v).2=0
    ·rcases h with g | g<;>simp[g1,g2,g]
    ·simp[g1,g2]
   ·simp[g1]
end
section
open Go.RowKit K
set_option maxRecDepth 100000
set_option maxRecDepth 100000
theorem p_samebag (a b:List RowT) (ha:a.length≤1000) (hb:b.length≤1000) (ha2:∀r∈a,r.length≤1000) (hb2:∀r∈b,r.length≤1000) (h:∀r∈a,howF a r=howF b r) (hl:a.length=b.length):Pure Tryz.prog 25 [rwsV a,rwsV b] (pBool true):=by
 have hma:(a.map rowC).length=a.length:=List.length_map _
 have hmb:(b.map rowC).length=b.length:=List.length_map _
 refine pure_of Tryz.func25 (by rfl) rfl (by kernel_rfl) (by rfl) ?_
 ((conv=>whnf);repeat' ((first|(with_reducible first|apply a_|apply b_|apply c_)|((with_reducible first|apply d_|apply e_|apply f_|apply g_);focus first|omega|(simp only[q_]<;>omega))|((with_reducible first|apply i_|apply h_);focus first|omega|(simp only[q_]<;>omega))|((with_reducible apply h_);focus first|decide|kernel_rfl)|refine s_ (by decide) ?_|refine t_ (by decide) ?_|with_reducible first|apply l_|apply m_|apply n_|apply o_|refine p_ (fun _=>?_) (fun _=>?_))<;>(conv=>whnf)))
 refine LoopC.mk Nat (fun k=>[(0,rwsV a),(1,rwsV b),(5,pInt .i64 (k:Int))]) (fun _=>[]) [] (fun k=>k≤a.length) (fun k=>a.length - k) 0 (Nat.zero_le _) ?start ?round
 case start=>exact⟨[],rfl,rfl,⟨.inl rfl,.inl rfl,.inl rfl,trivial⟩,trivial⟩
 case round=>
  intro k hk
  have hk:k≤a.length:=hk
  by_cases q:k<a.length
  ·have p1:=p_howoften a a[k] (by omega) fun r hr=>by have:=ha2 r hr;omega
   have p2:=p_howoften b a[k] (by omega) fun r hr=>by have:=hb2 r hr;omega
   rw[← h _ (List.getElem_mem q)] at p2
   ((conv=>whnf);repeat' ((first|(with_reducible first|apply a_|apply b_|apply c_)|((with_reducible first|apply d_|apply e_|apply f_|apply g_);focus first|omega|(simp only[q_]<;>omega))|((with_reducible first|apply i_|apply h_);focus first|omega|(simp only[q_]<;>omega))|((with_reducible apply h_);focus first|decide|kernel_rfl)|refine s_ (by decide) ?_|refine t_ (by decide) ?_|(refine Idx.mapI (f:=rowC) k rfl q ?_)|refine r_ p1 rfl ?_|refine r_ p2 rfl ?_|with_reducible first|apply l_|apply m_|apply n_|apply o_|refine p_ (fun _=>?_) (fun _=>?_))<;>(conv=>whnf)))
   all_goals first
    | exact⟨k+1,q,by omega,[],rfl,rfl,⟨.inl rfl,.inl rfl,PLe.int (by omega),trivial⟩,trivial⟩
    | (exfalso;omega)
    | skip
  ·((conv=>whnf);repeat' ((first|(with_reducible first|apply a_|apply b_|apply c_)|((with_reducible first|apply d_|apply e_|apply f_|apply g_);focus first|omega|(simp only[q_]<;>omega))|((with_reducible first|apply i_|apply h_);focus first|omega|(simp only[q_]<;>omega))|((with_reducible apply h_);focus first|decide|kernel_rfl)|refine s_ (by decide) ?_|refine t_ (by decide) ?_|with_reducible first|apply l_|apply m_|apply n_|apply o_|refine p_ (fun _=>?_) (fun _=>?_))<;>(conv=>whnf)))
   all_goals first|exact Ret.bool (by rw[hma,hmb,hl];simp) | (exfalso;omega) | skip
theorem eval_tree {t:Ex} (ht:RightT t) (cols:List (List UInt8)) (row:List ValueD):evalF t.flat cols row=if scopeE t.flat cols row≠0 then .error (scopeE t.flat cols row) else foldX (nodF (lookC cols row)) t:=by
 unfold evalF
 rw[walkR_fold _ _ ht.good]
theorem fold_not {look:Look} {k:Ex} {v:ValueD} (hv:foldX (nodF look) k=.ok v) (hm:(meaV v).2=0):foldX (nodF look) (.mk (opsN 4 1) [k])=.ok (tolV (tNot (meaV v).1)):=by
 rw[foldX,foldXs,foldXs,hv]
 show nodF look (opsN 4 1) [v]=_
 have ea:askV 4 [v]=joiV 4 [v]:=by simp[askV]
 have ej:joiV 4 [v]=(tNot (meaV v).1,0):=by simp[joiV,hm]
 have en:negB 4=false:=by decide
 have e:nodV look (opsN 4 1) [v]=(tolV (tNot (meaV v).1),0):=by
  unfold nodV
  have ho:(opsN 4 1).Op=4:=rfl
  rw[ho,if_neg (by decide),if_neg (by decide),if_neg (by decide)]
  simp only[en,Bool.false_eq_true,if_false,ea,ej]
  simp
 unfold nodF
 rw[e]
 rfl
theorem fold_null {look:Look} {k:Ex} {v:ValueD} (hv:foldX (nodF look) k=.ok v):foldX (nodF look) (.mk (opsN 18 1) [k])=.ok (tolV (tOf (isN v))):=by
 rw[foldX,foldXs,foldXs,hv]
 show nodF look (opsN 18 1) [v]=_
 have ea:askV 18 [v]=(tOf (isN v),0):=by simp[askV]
 have en:negB 18=false:=by decide
 have e:nodV look (opsN 18 1) [v]=(tolV (tOf (isN v)),0):=by
  unfold nodV
  have ho:(opsN 18 1).Op=18:=rfl
  rw[ho,if_neg (by decide),if_neg (by decide),if_neg (by decide)]
  simp only[en,Bool.false_eq_true,if_false,ea]
  simp
 unfold nodF
 rw[e]
 rfl
theorem flat_one_kid (n:NodeD) (t:Ex):(Ex.mk n [t]).flat=t.flat++[n]:=by simp[Ex.flat,Ex.flats]
theorem good_one {n:NodeD} {t:Ex} (hn:n.Kids=1) (ht:t.good):(Ex.mk n [t]).good:=by
 unfold Ex.good
 exact⟨hn,by unfold Ex.goods;exact⟨ht,by unfold Ex.goods;trivial⟩⟩
theorem tol_tru {t:Int} (h:IsT t):truR (.ok (tolV t))=(t,0):=by
 show meaV (tolV t)=_
 exact mea_tol h
theorem tru_ok {t:Ex} (ht:RightT t) {cols:List (List UInt8)} {row:RowT} (h:(truF t.flat cols row).2=0):(scopeE t.flat cols row=0∧∃v,foldX (nodF (lookC cols row)) t=.ok v∧(meaV v).2=0∧truF t.flat cols row=(decide ((meaV v).1=2),0))∨foldX (nodF (lookC cols row)) t=.error 0:=by
 unfold truF at h ⊢
 rw[eval_tree ht] at h ⊢
 by_cases hs:scopeE t.flat cols row=0
 ·rw[if_neg (not_not_intro hs)] at h ⊢
  cases hv:foldX (nodF (lookC cols row)) t with
  | error x=>
   rw[hv] at h
   exact .inr (by rw[show x=0 from h])
  | ok v=>
   rw[hv] at h
   have h2:(meaV v).2=0:=h
   refine .inl ⟨hs,v,rfl,h2,?_⟩
   show (decide ((meaV v).1=2),(meaV v).2)=_
   rw[h2]
 ·rw[if_pos hs] at h
  exact absurd h hs
theorem nodF_nz {look:Look} {n:NodeD} {k:List ValueD}:nodF look n k≠.error 0:=by
 unfold nodF
 split
 ·intro h;cases h
 ·rename_i q
  intro e
  exact q (Except.error.inj e)
mutual
theorem fold_nz {look:Look}:∀t:Ex,foldX (nodF look) t≠.error 0
 | .mk n ks,h=>by
  rw[foldX] at h
  cases hk:foldXs (nodF look) ks with
  | error x=>rw[hk] at h;exact folds_nz ks (hk.trans (congrArg Except.error (Except.error.inj h)))
  | ok vs=>rw[hk] at h;exact nodF_nz h
theorem folds_nz {look:Look}:∀l:List Ex,foldXs (nodF look) l≠.error 0
 | [],h=>by rw[foldXs] at h;cases h
 | t::l,h=>by
  rw[foldXs] at h
  cases ht:foldX (nodF look) t with
  | error x=>rw[ht] at h;exact fold_nz t (ht.trans (congrArg Except.error (Except.error.inj h)))
  | ok v=>
   rw[ht] at h
   cases hl:foldXs (nodF look) l with
   | error x=>rw[hl] at h;exact folds_nz l (hl.trans (congrArg Except.error (Except.error.inj h)))
   | ok vs=>rw[hl] at h;cases h
end
theorem tru_get {t:Ex} (ht:RightT t) {cols:List (List UInt8)} {row:RowT} (h:(truF t.flat cols row).2=0):scopeE t.flat cols row=0∧∃v,foldX (nodF (lookC cols row)) t=.ok v∧(meaV v).2=0∧truF t.flat cols row=(decide ((meaV v).1=2),0):=by
 rcases tru_ok ht h with h | h
 ·exact h
 ·exact absurd h (fold_nz t)
theorem tru_three {t:Ex} (ht:RightT t) (h2:RightT (.mk (opsN 4 1) [t])) (h3:RightT (.mk (opsN 18 1) [.mk (opsN 4 1) [t]])) {cols:List (List UInt8)} {row:RowT} (h:(truF t.flat cols row).2=0) :
  ∃x,IsT x∧truF t.flat cols row=(decide (x=2),0)∧truF (Ex.mk (opsN 4 1) [t]).flat cols row=(decide (x=0),0)∧truF (Ex.mk (opsN 18 1) [.mk (opsN 4 1) [t]]).flat cols row=(decide (x=1),0):=by
 obtain⟨hs,v,hv,hm,e⟩:=tru_get ht h
 have hx:=mea_isT v
 have f2:=fold_not hv hm
 have f3:=fold_null f2
 have s2:scopeE (Ex.mk (opsN 4 1) [t]).flat cols row=0:=by
  unfold scopeE at hs ⊢
  rw[check_right ht] at hs
  rw[check_right h2];exact hs
 have s3:scopeE (Ex.mk (opsN 18 1) [.mk (opsN 4 1) [t]]).flat cols row=0:=by
  unfold scopeE at hs ⊢
  rw[check_right ht] at hs
  rw[check_right h3];exact hs
 refine⟨(meaV v).1,hx,e,?_,?_⟩
 ·unfold truF
  rw[eval_tree h2,if_neg (not_not_intro s2),f2,tol_tru (isT_not _)]
  rcases hx with q | q | q<;>rw[q]<;>decide
 ·unfold truF
  rw[eval_tree h3,if_neg (not_not_intro s3),f3,tol_tru (isT_of _)]
  rcases hx with q | q | q<;>rw[q]<;>decide
theorem part3 {α:Type} (p fa fb fc:α→Bool):∀l:List α,(∀r∈l,(fa r=true∧fb r=false∧fc r=false)∨(fa r=false∧fb r=true∧fc r=false)∨(fa r=false∧fb r=false∧fc r=true))→
  (l.filter fa).countP p+(l.filter fb).countP p+(l.filter fc).countP p=l.countP p∧(l.filter fa).length+(l.filter fb).length+(l.filter fc).length=l.length
 | [],_=>⟨rfl,rfl⟩
 | x::l,h=>by
  obtain⟨i1,i2⟩:=part3 p fa fb fc l fun r hr=>h r (List.mem_cons_of_mem _ hr)
  rcases h x List.mem_cons_self with ⟨h1,h2,h3⟩ | ⟨h1,h2,h3⟩ | ⟨h1,h2,h3⟩ <;>
   simp only[List.filter_cons,h1,h2,h3,if_true,if_false,Bool.false_eq_true,List.countP_cons,List.length_cons]<;>omega
set_option maxHeartbeats 1000000 in
theorem law_FilterThree (l:List RowT) (hl:okRws l) (cols:List (List UInt8)) (hc:okSl (Tryz.prog.bytesOf 9) okText cols) (e:List NodeD) (he:okNs e):Pure Tryz.prog 6 [rwsV l,slV 1 eText cols,slV 6 NodeD.c e] (pBool true):=by
 have hin:=okRws_in hl
 have hne:=okNs_hn he
 have h64:e.length*64≤140737488351232:=by
  have h1:=he.1
  rw[show Tryz.prog.bytesOf 35=64 by kernel_rfl] at h1
  exact h1
 have hml:(l.map rowC).length=l.length:=List.length_map _
 have hme:(e.map NodeD.c).length=e.length:=List.length_map _
 have hn1:HN (e++[opsN 4 1]):=fun n hn=>(List.mem_append.1 hn).elim (hne n) fun h=>by rw[List.mem_singleton.1 h];exact⟨Nat.zero_le _,by decide⟩
 have hn2:HN ((e++[opsN 4 1])++[opsN 18 1]):=fun n hn=>(List.mem_append.1 hn).elim (hn1 n) fun h=>by rw[List.mem_singleton.1 h];exact⟨Nat.zero_le _,by decide⟩
 have p1:=p_Filter l hin cols e hne
 have p2:=p_Filter l hin cols (e++[opsN 4 1]) hn1
 have p3:=p_Filter l hin cols ((e++[opsN 4 1])++[opsN 18 1]) hn2
 have c1:=p_nop 4 1
 have c2:=p_nop 18 1
 have m1:slV 6 NodeD.c (e++[opsN 4 1])=.d (.c (.sl 6 (([]++e.map NodeD.c)++[(opsN 4 1).c]))):=by simp[slV]
 have m2:slV 6 NodeD.c ((e++[opsN 4 1])++[opsN 18 1])=.d (.c (.sl 6 (([]++(([]++e.map NodeD.c)++[(opsN 4 1).c]))++[(opsN 18 1).c]))):=by simp[slV]
 rw[m1] at p2
 rw[m2] at p3
 by_cases hok:(filtF l cols e).2=0∧(filtF l cols (e++[opsN 4 1])).2=0∧(filtF l cols ((e++[opsN 4 1])++[opsN 18 1])).2=0
 ·obtain⟨o1,o2,o3⟩:=hok
  obtain⟨a1,a2,a3,a4⟩:=filtF_ok o1
  obtain⟨b1,b2,b3,b4⟩:=filtF_ok o2
  obtain⟨d1,d2,d3,d4⟩:=filtF_ok o3
  rw[o1] at p1
  rw[o2] at p2
  rw[o3] at p3
  obtain⟨t,ht,hte⟩:=right_of a2
  have t2:(Ex.mk (opsN 4 1) [t]).flat=e++[opsN 4 1]:=by rw[flat_one_kid,hte]
  have t3:(Ex.mk (opsN 18 1) [.mk (opsN 4 1) [t]]).flat=(e++[opsN 4 1])++[opsN 18 1]:=by rw[flat_one_kid,t2]
  have g2:=good_one (n:=opsN 4 1) rfl ht.good
  have r2:=right_tree g2 (by rw[t2];exact b2)
  have r3:=right_tree (good_one (n:=opsN 18 1) rfl g2) (by rw[t3];exact d2)
  have hrow:∀r∈l,((truF e cols r).1=true∧(truF (e++[opsN 4 1]) cols r).1=false∧(truF ((e++[opsN 4 1])++[opsN 18 1]) cols r).1=false)∨((truF e cols r).1=false∧(truF (e++[opsN 4 1]) cols r).1=true∧(truF ((e++[opsN 4 1])++[opsN 18 1]) cols r).1=false)∨((truF e cols r).1=false∧(truF (e++[opsN 4 1]) cols r).1=false∧(truF ((e++[opsN 4 1])++[opsN 18 1]) cols r).1=true):=by
   intro r hr
   obtain⟨x,hx,e1,e2,e3⟩:=tru_three ht r2 r3 (cols:=cols) (row:=r) (by rw[hte];exact a3 r hr)
   rw[hte] at e1
   rw[t2] at e2
   rw[t3] at e3
   rw[e1,e2,e3]
   rcases hx with rfl | rfl | rfl<;>decide
  have h40:=(rowsChk_ok.1 a1).1
  have h8:=(rowsChk_ok.1 a1).2
  have hlen:=(part3 (fun _=>true) _ _ _ l hrow).2
  have hA:=List.length_filter_le (fun r=>(truF e cols r).1) l
  have hB:=List.length_filter_le (fun r=>(truF (e++[opsN 4 1]) cols r).1) l
  have hC:=List.length_filter_le (fun r=>(truF ((e++[opsN 4 1])++[opsN 18 1]) cols r).1) l
  have hcnt:∀r∈l,howF l r=howF ((l.filter (fun r=>(truF e cols r).1)++l.filter (fun r=>(truF (e++[opsN 4 1]) cols r).1))++l.filter (fun r=>(truF ((e++[opsN 4 1])++[opsN 18 1]) cols r).1)) r:=by
   intro r _
   have:=(part3 (fun x=>rowEqB x r) _ _ _ l hrow).1
   unfold howF
   rw[List.countP_append,List.countP_append]
   exact this.symm
  rw[a4] at p1
  rw[b4] at p2
  rw[d4] at p3
  have hsub:∀r∈(l.filter (fun r=>(truF e cols r).1)++l.filter (fun r=>(truF (e++[opsN 4 1]) cols r).1))++l.filter (fun r=>(truF ((e++[opsN 4 1])++[opsN 18 1]) cols r).1),r∈l:=by
   intro r hr
   rcases List.mem_append.1 hr with hr | hr
   ·rcases List.mem_append.1 hr with hr | hr
    ·exact (List.mem_filter.1 hr).1
    ·exact (List.mem_filter.1 hr).1
   ·exact (List.mem_filter.1 hr).1
  have sb:=p_samebag l _ (by omega) (by rw[List.length_append,List.length_append];omega) (fun r hr=>by have:=(h8 r hr).1;omega) (fun r hr=>by have:=(h8 r (hsub r hr)).1;omega) hcnt (by rw[List.length_append,List.length_append];omega)
  have q1:=p_together (l.filter (fun r=>(truF e cols r).1)) (l.filter (fun r=>(truF (e++[opsN 4 1]) cols r).1)) (by omega) (by omega)
  have q2:=p_together (l.filter (fun r=>(truF e cols r).1)++l.filter (fun r=>(truF (e++[opsN 4 1]) cols r).1)) (l.filter (fun r=>(truF ((e++[opsN 4 1])++[opsN 18 1]) cols r).1)) (by rw[List.length_append];omega) (by omega)
  have k1:((l.filter (fun r=>(truF e cols r).1)).map rowC).length=(l.filter (fun r=>(truF e cols r).1)).length:=List.length_map _
  have k2:((l.filter (fun r=>(truF (e++[opsN 4 1]) cols r).1)).map rowC).length=(l.filter (fun r=>(truF (e++[opsN 4 1]) cols r).1)).length:=List.length_map _
  have k3:((l.filter (fun r=>(truF ((e++[opsN 4 1])++[opsN 18 1]) cols r).1)).map rowC).length=(l.filter (fun r=>(truF ((e++[opsN 4 1])++[opsN 18 1]) cols r).1)).length:=List.length_map _
  refine pure_of Tryz.func6 (by rfl) rfl (by kernel_rfl) (by rfl) ?_
  ((conv=>whnf);repeat' ((first|(with_reducible first|apply a_|apply b_|apply c_)|((with_reducible first|apply d_|apply e_|apply f_|apply g_);focus first|omega|(simp only[q_]<;>omega))|((with_reducible first|apply i_|apply h_);focus first|omega|(simp only[q_]<;>omega))|((with_reducible apply h_);focus first|decide|kernel_rfl)|refine s_ (by decide) ?_|refine t_ (by decide) ?_|refine r_ p_bagbegun rfl ?_|refine r_ c1 rfl ?_|refine r_ c2 rfl ?_|refine r_ p1 rfl ?_|refine r_ p2 rfl ?_|refine r_ p3 rfl ?_|refine r_ q1 rfl ?_|refine r_ q2 rfl ?_|refine r_ sb rfl ?_|(refine EmpOr.app ?_)|(refine Need.by 64 rfl (by simp only[List.length_append,List.length_nil,List.length_singleton];omega) ?_)|with_reducible first|apply l_|apply m_|apply n_|apply o_|refine p_ (fun _=>?_) (fun _=>?_))<;>(conv=>whnf)))
  all_goals first|exact Ret.bool rfl | (exfalso;omega) | skip
 ·have z1:(filtF l cols e).2≠0→((filtF l cols e).1.map rowC).length=0:=fun h=>by rw[filtF_no h];rfl
  have z2:(filtF l cols (e++[opsN 4 1])).2≠0→((filtF l cols (e++[opsN 4 1])).1.map rowC).length=0:=fun h=>by rw[filtF_no h];rfl
  have z3:(filtF l cols ((e++[opsN 4 1])++[opsN 18 1])).2≠0→((filtF l cols ((e++[opsN 4 1])++[opsN 18 1])).1.map rowC).length=0:=fun h=>by rw[filtF_no h];rfl
  refine pure_of Tryz.func6 (by rfl) rfl (by kernel_rfl) (by rfl) ?_
  ((conv=>whnf);repeat' ((first|(with_reducible first|apply a_|apply b_|apply c_)|((with_reducible first|apply d_|apply e_|apply f_|apply g_);focus first|omega|(simp only[q_]<;>omega))|((with_reducible first|apply i_|apply h_);focus first|omega|(simp only[q_]<;>omega))|((with_reducible apply h_);focus first|decide|kernel_rfl)|refine s_ (by decide) ?_|refine t_ (by decide) ?_|refine r_ p_bagbegun rfl ?_|refine r_ c1 rfl ?_|refine r_ c2 rfl ?_|refine r_ p1 rfl ?_|refine r_ p2 rfl ?_|refine r_ p3 rfl ?_|(refine EmpOr.app ?_)|(refine Need.by 64 rfl (by simp only[List.length_append,List.length_nil,List.length_singleton];omega) ?_)|with_reducible first|apply l_|apply m_|apply n_|apply o_|refine p_ (fun _=>?_) (fun _=>?_))<;>(conv=>whnf)))
  all_goals first|exact Ret.bool rfl | (exfalso;omega) | (refine Ret.bool (decide_eq_true ?_);omega) | skip
end
section
open Go.RowKit K
set_option maxRecDepth 100000
set_option maxRecDepth 100000
theorem cnt_put {α β γ:Type} (p:γ→Bool) (f:α→β→γ) (x:α) (a:List α):∀b:List β,(b.map (f x)).countP p+(b.flatMap fun y=>a.map fun x=>f x y).countP p=(b.flatMap fun y=>(x::a).map fun x=>f x y).countP p
 | []=>rfl
 | y::b=>by
  have:=cnt_put p f x a b
  simp only[List.map_cons,List.flatMap_cons,List.countP_append,List.countP_cons] at this ⊢
  omega
theorem cnt_swap {α β γ:Type} (p:γ→Bool) (f:α→β→γ):∀(a:List α) (b:List β),(a.flatMap fun x=>b.map (f x)).countP p=(b.flatMap fun y=>a.map fun x=>f x y).countP p
 | [],b=>by
  have:(b.flatMap fun y=>([]:List α).map fun x=>f x y)=[]:=by
   induction b with
   | nil=>rfl
   | cons y b ih=>rw[List.flatMap_cons,ih];rfl
  rw[this];rfl
 | x::a,b=>by rw[List.flatMap_cons,List.countP_append,cnt_swap p f a b];exact cnt_put p f x a b
def turnR (w:Nat) (r:RowT):RowT:=r.drop w++r.take w
def turnL (w:Nat) (l:List RowT) (i:Nat):List RowT:=(l.take i).map (turnR w)++l.drop i
theorem turnL_get {w:Nat} {l:List RowT} {i:Nat} (h:i<l.length):((turnL w l i).map rowC)[i]? = some (rowC l[i]):=by
 unfold turnL
 rw[List.getElem?_map,List.getElem?_append_right (by rw[List.length_map,List.length_take];omega),List.length_map,List.length_take,show i - min i l.length=0 by omega,List.getElem?_drop,Nat.add_zero,List.getElem?_eq_getElem h]
 rfl
theorem turnL_step {w:Nat} {l:List RowT} {i:Nat} (h:i<l.length):turnL w l (i+1)=(turnL w l i).set i (turnR w l[i]):=by
 unfold turnL
 rw[take_snoc h,List.map_append,List.append_assoc,List.set_append_right _ _ (by rw[List.length_map,List.length_take];omega),List.length_map,List.length_take,show i - min i l.length=0 by omega,List.drop_eq_getElem_cons h,List.set_cons_zero]
 rfl
theorem turn_all {a b:List RowT} (hb:∀y∈b,y.length=widthF b):(joinX b a).map (turnR (widthF b))=b.flatMap fun y=>a.map fun x=>x++y:=by
 unfold joinX
 rw[List.map_flatMap]
 have:∀l:List RowT,(∀y∈l,y.length=widthF b)→(l.flatMap fun y=>(a.map fun x=>y++x).map (turnR (widthF b)))=l.flatMap fun y=>a.map fun x=>x++y:=by
  intro l
  induction l with
  | nil=>intro _;rfl
  | cons y l ih=>
   intro hl
   rw[List.flatMap_cons,List.flatMap_cons,ih fun z hz=>hl z (List.mem_cons_of_mem _ hz),List.map_map]
   congr 1
   refine List.map_congr_left fun x _=>?_
   show (y++x).drop _++(y++x).take _=_
   rw[← hl y List.mem_cons_self,List.drop_left,List.take_left]
 exact this b hb
theorem how_turn {a b:List RowT} (hb:∀y∈b,y.length=widthF b) (r:RowT):howF (joinX a b) r=howF ((joinX b a).map (turnR (widthF b))) r:=by
 rw[turn_all hb]
 unfold howF joinX
 exact cnt_swap (fun x=>rowEqB x r) (fun x y=>x++y) a b
theorem join_turn_ok {a b:List RowT} (h:(joinF2 a b).2=0):(joinF2 b a).2=0:=by
 obtain⟨h1,h2,h3,h4,_⟩:=joinF2_ok h
 rw[joinF2_of h2 h1 (by omega) (by rw[Nat.mul_comm];exact h4)]
theorem law_JoinTurned (a:List RowT) (ha:okRws a) (b:List RowT) (hb:okRws b):Pure Tryz.prog 13 [rwsV a,rwsV b] (pBool true):=by
 have p1:=p_Join a b
 have hma:(a.map rowC).length=a.length:=List.length_map _
 have hmb:(b.map rowC).length=b.length:=List.length_map _
 by_cases h:(joinF2 a b).2=0
 ·have h':=join_turn_ok h
  obtain⟨c1,c2,c3,c4,e⟩:=joinF2_ok h
  obtain⟨_,_,_,_,e'⟩:=joinF2_ok h'
  have sj:=s_JoinA b a
  rw[h,e] at p1
  rw[h',e'] at sj
  have h40:=(rowsChk_ok.1 c1).1
  have h8:=(rowsChk_ok.1 c1).2
  have k40:=(rowsChk_ok.1 c2).1
  have k8:=(rowsChk_ok.1 c2).2
  have pw:=p_widthR b (okRws_row hb)
  obtain⟨w,hw⟩:∃w,w=widthF b:=⟨_,rfl⟩
  have hxl:(joinX a b).length=a.length*b.length:=joinX_len a b
  have hyl:(joinX b a).length=b.length*a.length:=joinX_len b a
  have hcm:b.length*a.length=a.length*b.length:=Nat.mul_comm _ _
  have hmi:((a.length*b.length:Nat):Int)=(a.length:Int)*(b.length:Int):=Int.natCast_mul _ _
  have hmx:((joinX a b).map rowC).length=(joinX a b).length:=List.length_map _
  have hmy:((joinX b a).map rowC).length=(joinX b a).length:=List.length_map _
  have hyr:∀r∈joinX b a,w≤r.length∧r.length≤16:=by
   intro r hr
   obtain⟨y,hy,x,hx,rfl⟩:=joinX_mem hr
   have i1:=(k8 y hy).1
   have i2:=(k8 y hy).2.1
   have i3:=(h8 x hx).1
   rw[List.length_append,hw]
   exact⟨by omega,by omega⟩
  have sb:=p_samebag (joinX a b) ((joinX b a).map (turnR w)) (by omega) (by rw[List.length_map];omega) (fun r hr=>by
   obtain⟨x,hx,y,hy,rfl⟩:=joinX_mem hr
   have:=(h8 x hx).1
   have:=(k8 y hy).1
   rw[List.length_append];omega) (fun r hr=>by
   obtain⟨z,hz,rfl⟩:=List.mem_map.1 hr
   have:=(hyr z hz).2
   unfold turnR
   rw[List.length_append,List.length_drop,List.length_take];omega) (fun r _=>by rw[hw];exact how_turn (fun y hy=>(k8 y hy).2.1) r) (by rw[List.length_map];omega)
  have sb':=sb.lend (rd:=[(FK,.arr TE 1 (((joinX b a).map (turnR w)).map rowC))]) (args:=[rwsV (joinX a b),.d (.arr FK TE 1 0 ((joinX b a).map rowC).length)]) rfl (by
   refine⟨by simp,?_⟩
   show [_,PV.d (D.c (C.sl 1 (List.take _ (List.drop 0 _))))]=_
   rw[List.drop_zero,List.take_of_length_le (by simp)])
  rw[← hw] at pw
  refine pure_of Tryz.func13 (by rfl) rfl (by kernel_rfl) (by rfl) ?_
  ((conv=>whnf);repeat' ((first|(with_reducible first|apply a_|apply b_|apply c_)|((with_reducible first|apply d_|apply e_|apply f_|apply g_);focus first|omega|(simp only[q_]<;>omega))|((with_reducible first|apply i_|apply h_);focus first|omega|(simp only[q_]<;>omega))|((with_reducible apply h_);focus first|decide|kernel_rfl)|refine s_ (by decide) ?_|refine t_ (by decide) ?_|refine r_ p_bagbegun rfl ?_|refine r_ p1 rfl ?_|(refine CallP.ret [(NK,150)] _ _ _ _ _ _ _ sj rfl rfl rfl rfl trivial ?_)|refine r_ pw rfl ?_|with_reducible first|apply l_|apply m_|apply n_|apply o_|refine p_ (fun _=>?_) (fun _=>?_))<;>(conv=>whnf)))
  refine LoopC.mk Nat (fun i=>[(0,rwsV a),(1,rwsV b),(5,rwsV (joinX a b)),(7,.d (.arr 150 TE 1 0 ((joinX b a).map rowC).length)),(9,pInt .i64 (w:Int)),(10,pInt .i64 (i:Int))]) (fun i=>[(150,.arr TE 1 ((turnL w (joinX b a) i).map rowC))]) [150] (fun i=>i≤(joinX b a).length) (fun i=>(joinX b a).length - i) 0 (Nat.zero_le _) ?start ?round
  case start=>
   refine⟨[(150,150)],rfl,rfl,?_,?_⟩<;>repeat' (first|exact rfl|exact trivial|exact Or.inl rfl|refine And.intro ?_ ?_)
  case round=>
   intro i hi
   have hi:i≤(joinX b a).length:=hi
   by_cases q:i<(joinX b a).length
   ·have hq:=hyr _ (List.getElem_mem q)
    have hmr:((joinX b a)[i].map ValueD.c).length=(joinX b a)[i].length:=List.length_map _
    have lR:∀m,m=i→((turnL w (joinX b a) i).map rowC)[m]? = some (rowC (joinX b a)[i]):=by rintro m rfl;exact turnL_get q
    have key:∀m r,m=i→r=rowC (turnR w (joinX b a)[i])→((turnL w (joinX b a) i).map rowC).set m r=(turnL w (joinX b a) (i+1)).map rowC:=by
     rintro m r rfl rfl
     rw[turnL_step q,List.map_set]
    ((conv=>whnf);repeat' ((first|(with_reducible first|apply a_|apply b_|apply c_)|((with_reducible first|apply d_|apply e_|apply f_|apply g_);focus first|omega|(simp only[q_]<;>omega))|((with_reducible first|apply i_|apply h_);focus first|omega|(simp only[q_]<;>omega))|((with_reducible apply h_);focus first|decide|kernel_rfl)|refine s_ (by decide) ?_|refine t_ (by decide) ?_|(refine Row.mk _ (lR _ (by omega)) ?_)|(refine EmpOr.app ?_)|(refine Need.by 32 rfl (by simp only[List.length_append,List.length_take,List.length_drop,List.length_nil];omega) ?_)|with_reducible first|apply l_|apply m_|apply n_|apply o_|refine p_ (fun _=>?_) (fun _=>?_))<;>(conv=>whnf)))
    all_goals first
     | (exfalso;omega)
     | skip
    refine⟨i+1,q,by omega,[(150,150)],rfl,rfl,⟨.inl rfl,.inl rfl,.inl rfl,⟨rfl,rfl,rfl,rfl,rfl,rfl⟩,.inl rfl,PLe.int (by omega),trivial⟩,⟨rfl,rfl,rfl,?_⟩,trivial⟩
    refine key _ _ (by omega) ?_
    show [C.sl 3 ([]++List.take ((((joinX b a)[i].map ValueD.c).length:Int).toNat - (w:Int).toNat) (List.drop (w:Int).toNat ((joinX b a)[i].map ValueD.c))++List.take ((w:Int).toNat - Int.toNat 0) ((joinX b a)[i].map ValueD.c))]=[C.sl 3 (((joinX b a)[i].drop w++(joinX b a)[i].take w).map ValueD.c)]
    rw[Int.toNat_natCast,Int.toNat_natCast,List.take_of_length_le (by rw[List.length_drop];exact Nat.le_refl _),List.nil_append,List.map_append,List.map_drop,List.map_take]
    rfl
   ·have hfull:turnL w (joinX b a) i=(joinX b a).map (turnR w):=by unfold turnL;rw[List.take_of_length_le (by omega),List.drop_of_length_le (by omega),List.append_nil]
    rw[hfull]
    ((conv=>whnf);repeat' ((first|(with_reducible first|apply a_|apply b_|apply c_)|((with_reducible first|apply d_|apply e_|apply f_|apply g_);focus first|omega|(simp only[q_]<;>omega))|((with_reducible first|apply i_|apply h_);focus first|omega|(simp only[q_]<;>omega))|((with_reducible apply h_);focus first|decide|kernel_rfl)|refine s_ (by decide) ?_|refine t_ (by decide) ?_|(refine CallP.ret [(FK,150)] _ _ _ _ _ _ _ sb' rfl rfl rfl rfl ⟨rfl,trivial⟩ ?_)|with_reducible first|apply l_|apply m_|apply n_|apply o_|refine p_ (fun _=>?_) (fun _=>?_))<;>(conv=>whnf)))
    all_goals first
     | exact Ret.bool rfl
     | (exfalso;omega)
     | skip
 ·have h':(joinF2 b a).2≠0:=fun q=>h (join_turn_ok q)
  have p2:=p_Join b a
  have z1:((joinF2 a b).1.map rowC).length=0:=by rw[joinF2_no h];rfl
  have z2:((joinF2 b a).1.map rowC).length=0:=by rw[joinF2_no h'];rfl
  refine pure_of Tryz.func13 (by rfl) rfl (by kernel_rfl) (by rfl) ?_
  have hd:(decide ((joinF2 a b).2=0)==decide ((joinF2 b a).2=0))=true:=by rw[decide_eq_false h,decide_eq_false h'];rfl
  ((conv=>whnf);repeat' ((first|(with_reducible first|apply a_|apply b_|apply c_)|((with_reducible first|apply d_|apply e_|apply f_|apply g_);focus first|omega|(simp only[q_]<;>omega))|((with_reducible first|apply i_|apply h_);focus first|omega|(simp only[q_]<;>omega))|((with_reducible apply h_);focus first|decide|kernel_rfl)|refine s_ (by decide) ?_|refine t_ (by decide) ?_|refine r_ p_bagbegun rfl ?_|refine r_ p1 rfl ?_|refine r_ p2 rfl ?_|with_reducible first|apply l_|apply m_|apply n_|apply o_|refine p_ (fun _=>?_) (fun _=>?_))<;>(conv=>whnf)))
  rw[hd]
  ((conv=>whnf);repeat' ((first|(with_reducible first|apply a_|apply b_|apply c_)|((with_reducible first|apply d_|apply e_|apply f_|apply g_);focus first|omega|(simp only[q_]<;>omega))|((with_reducible first|apply i_|apply h_);focus first|omega|(simp only[q_]<;>omega))|((with_reducible apply h_);focus first|decide|kernel_rfl)|refine s_ (by decide) ?_|refine t_ (by decide) ?_|with_reducible first|apply l_|apply m_|apply n_|apply o_|refine p_ (fun _=>?_) (fun _=>?_))<;>(conv=>whnf)))
  all_goals first|exact Ret.bool rfl | (exfalso;omega) | (refine Ret.bool ?_;first|rfl|simp[z1,z2]) | skip
end
section
open Go.RowKit
theorem noH:(laidList.filter fun x=>x.2.handleName?.isSome)=[]:=by kernel_rfl
theorem toH {W:World} (h:laidMet Tryz.prog laidList W):laidMetH Tryz.prog laidList W:=by
 unfold laidMetH;rw[noH];exact h
theorem ofH {W:World} (h:laidMetH Tryz.prog laidList W):laidMet Tryz.prog laidList W:=by
 unfold laidMetH at h;rw[noH] at h;exact h
end
section
open Go.ChangeShapes Go.WideShapes Go.ChangeAt Go.RowKit K
theorem slice_bulk {P:Program} {t e:TypeId} (hu:P.underlying t=some (.slice e)) {H:Type} {enc:TypeId×Value→H} {w:World} {spare:Nat→Bool} {held:Bool} {v:Value} {d:DataW H} {ps:List MemPlace}
  (h:DataW.Trod enc P w 0 spare held t v d ps) {F:Fzn} {α:Type} {sz:Nat} {en:α→List C} {l:List α} (R:CsRep F w (eSl sz en l) v.cells.toList) {N:Nat} (hb:Rows.uptoBulk d≤N):l.length≤N:=by
 obtain⟨fuel,hf⟩:=h
 obtain⟨u,us,e0,hc,_⟩:=csRep_inv R
 unfold CRep at hc
 obtain⟨ad,cap,e1,_⟩:=hc
 rw[e0,e1,List.length_map] at hf
 rcases DataW.trod_slice hu hf with ⟨hcs,hx⟩ | ⟨a,len,cap',elems,rest,n,_,hcs,hx,hb',hlc,hm,hlen,_⟩
 ·have:=(List.cons.inj hcs).1
  injection this with _ h2 _
  omega
 ·have:=(List.cons.inj hcs).1
  injection this with _ h2 _
  have hd:d=.slice (elems.map (·.1)) (rest.map (·.1)):=congrArg Prod.fst hx
  have h3:=bulk_len (elems.map (·.1))
  rw[hd] at hb
  simp only[Rows.uptoBulk] at hb
  rw[List.length_map] at h3
  omega
end
section
open Go.RowKit K
set_option maxRecDepth 100000
set_option maxRecDepth 100000
theorem flat_two_kids (n:NodeD) (t u:Ex):(Ex.mk n [t,u]).flat=(t.flat++u.flat)++[n]:=by simp[Ex.flat,Ex.flats]
theorem good_two {n:NodeD} {t u:Ex} (hn:n.Kids=2) (ht:t.good) (hu:u.good):(Ex.mk n [t,u]).good:=by
 unfold Ex.good
 exact⟨hn,by unfold Ex.goods;exact⟨ht,by unfold Ex.goods;exact⟨hu,by unfold Ex.goods;trivial⟩⟩⟩
theorem tvR_get {r:Except Int ValueD} {x:Int} (h:tvR r=some x):∃v,r=.ok v∧meaV v=(x,0):=by
 unfold tvR at h
 split at h
 ·rename_i v
  split at h
  ·rename_i q
   refine⟨v,rfl,?_⟩
   rw[← Option.some.inj h,← q]
  ·cases h
 ·cases h
theorem tru_of {t:Ex} (ht:RightT t) {cols:List (List UInt8)} {row:RowT} (hs:scopeE t.flat cols row=0) {x:Int} (h:tvo (lookC cols row) t=some x):truF t.flat cols row=(decide (x=2),0):=by
 obtain⟨v,hv,hm⟩:=tvR_get h
 unfold truF
 rw[eval_tree ht,if_neg (not_not_intro hs),hv]
 show (decide ((meaV v).1=2),(meaV v).2)=_
 rw[hm]
theorem tru_both {t u:Ex} (ht:RightT t) (hu:RightT u) (hb:RightT (.mk (opsN 16 2) [t,u])) {cols:List (List UInt8)} {row:RowT} (h:(truF (Ex.mk (opsN 16 2) [t,u]).flat cols row).2=0) :
  (truF t.flat cols row).2=0∧(truF u.flat cols row).2=0∧(truF (Ex.mk (opsN 16 2) [t,u]).flat cols row).1=((truF t.flat cols row).1&&(truF u.flat cols row).1):=by
 obtain⟨hs,v,hv,hm,e⟩:=tru_get hb h
 have st:scopeE t.flat cols row=0:=by
  unfold scopeE at hs ⊢
  rw[check_right hb] at hs
  rw[check_right ht];exact hs
 have su:scopeE u.flat cols row=0:=by
  unfold scopeE at hs ⊢
  rw[check_right hb] at hs
  rw[check_right hu];exact hs
 have h1:tvo (lookC cols row) (.mk (opsN 16 2) [t,u])=some (meaV v).1:=by
  unfold tvo
  rw[hv]
  unfold tvR
  exact if_pos hm
 rw[tvo_two (lookC cols row) (n:=opsN 16 2) (.inl rfl)] at h1
 cases hx:tvo (lookC cols row) t with
 | none=>rw[hx] at h1;cases h1
 | some x=>
  cases hy:tvo (lookC cols row) u with
  | none=>rw[hx,hy] at h1;cases h1
  | some y=>
   rw[hx,hy] at h1
   have h3:=Option.some.inj h1
   rw[if_pos (show (opsN 16 2).Op=16 from rfl)] at h3
   have h2:tAll [x,y]=(meaV v).1:=h3
   rw[e,tru_of ht st hx,tru_of hu su hy]
   refine⟨rfl,rfl,?_⟩
   rw[← h2]
   have ix:=tvR_isT hx
   have iy:=tvR_isT hy
   rcases ix with rfl | rfl | rfl<;>rcases iy with rfl | rfl | rfl<;>decide
set_option maxHeartbeats 1000000 in
theorem law_FilterBoth (l:List RowT) (hl:okRws l) (cols:List (List UInt8)) (hc:okSl (Tryz.prog.bytesOf 9) okText cols) (d:List NodeD) (hd:okNs d) (e:List NodeD) (he:okNs e) (z0:l.length≤1048576) (z1:cols.length≤1048576) (z2:d.length≤1048576) (z3:e.length≤1048576) :
  Pure Tryz.prog 4 [rwsV l,slV 1 eText cols,slV 6 NodeD.c d,slV 6 NodeD.c e] (pBool true):=by
 have hin:=okRws_in hl
 have hnd:=okNs_hn hd
 have hne:=okNs_hn he
 have hml:(l.map rowC).length=l.length:=List.length_map _
 have hmd:(d.map NodeD.c).length=d.length:=List.length_map _
 have hme:(e.map NodeD.c).length=e.length:=List.length_map _
 have hnb:HN ((d++e)++[opsN 16 2]):=fun n hn=>(List.mem_append.1 hn).elim (fun h=>(List.mem_append.1 h).elim (hnd n) (hne n)) fun h=>by rw[List.mem_singleton.1 h];exact⟨Nat.zero_le _,by decide⟩
 have p1:=p_Filter l hin cols ((d++e)++[opsN 16 2]) hnb
 have m1:slV 6 NodeD.c ((d++e)++[opsN 16 2])=.d (.c (.sl 6 ((([]++d.map NodeD.c)++e.map NodeD.c)++[(opsN 16 2).c]))):=by simp[slV]
 rw[m1] at p1
 have c1:=p_nop 16 2
 have x1:=p_exprcheck d fun n h=>(hnd n h).1
 have x2:=p_exprcheck e fun n h=>(hne n h).1
 by_cases hok:(filtF l cols ((d++e)++[opsN 16 2])).2=0∧checkF d=0∧checkF e=0
 ·obtain⟨o1,k1,k2⟩:=hok
  obtain⟨a1,a2,a3,a4⟩:=filtF_ok o1
  rw[o1,a4] at p1
  rw[k1] at x1
  rw[k2] at x2
  obtain⟨t,ht,htd⟩:=right_of k1
  obtain⟨u,hu,hue⟩:=right_of k2
  have tb:(Ex.mk (opsN 16 2) [t,u]).flat=(d++e)++[opsN 16 2]:=by rw[flat_two_kids,htd,hue]
  have rb:=right_tree (good_two (n:=opsN 16 2) rfl ht.good hu.good) (by rw[tb];exact a2)
  have hrow:∀r∈l,(truF d cols r).2=0∧(truF e cols r).2=0∧(truF ((d++e)++[opsN 16 2]) cols r).1=((truF d cols r).1&&(truF e cols r).1):=by
   intro r hr
   have:=tru_both ht hu rb (cols:=cols) (row:=r) (by rw[tb];exact a3 r hr)
   rwa [tb,htd,hue] at this
  have h40:=(rowsChk_ok.1 a1).1
  have h8:=(rowsChk_ok.1 a1).2
  have hM1:(l.filter fun r=>(truF ((d++e)++[opsN 16 2]) cols r).1)=(l.filter fun r=>(truF d cols r).1).filter fun r=>(truF e cols r).1:=by
   rw[List.filter_filter]
   refine List.filter_congr fun r hr=>?_
   rw[(hrow r hr).2.2,Bool.and_comm]
  have hM2:(l.filter fun r=>(truF ((d++e)++[opsN 16 2]) cols r).1)=(l.filter fun r=>(truF e cols r).1).filter fun r=>(truF d cols r).1:=by
   rw[List.filter_filter]
   refine List.filter_congr fun r hr=>?_
   rw[(hrow r hr).2.2]
  obtain⟨M,hM⟩:∃M,M=l.filter fun r=>(truF ((d++e)++[opsN 16 2]) cols r).1:=⟨_,rfl⟩
  rw[← hM] at p1 hM1 hM2
  have hMs:M.length≤40∧∀r∈M,r.length≤16:=by
   rw[hM]
   refine⟨Nat.le_trans (List.length_filter_le _ _) h40,fun r hr=>?_⟩
   have:=(h8 r (List.mem_filter.1 hr).1).1
   omega
  have p2:=p_Filter l hin cols d hnd
  rw[filtF_of a1 k1 (fun r hr=>(hrow r hr).1)] at p2
  have p3:=p_Filter l hin cols e hne
  rw[filtF_of a1 k2 (fun r hr=>(hrow r hr).2.1)] at p3
  have sA:∀r∈(l.filter fun r=>(truF d cols r).1),r∈l:=fun r hr=>(List.mem_filter.1 hr).1
  have sC:∀r∈(l.filter fun r=>(truF e cols r).1),r∈l:=fun r hr=>(List.mem_filter.1 hr).1
  have p4:=p_Filter (l.filter fun r=>(truF d cols r).1) (fun r hr=>hin r (sA r hr)) cols e hne
  rw[filtF_of (rowsChk_some a1 sA (Nat.le_trans (List.length_filter_le _ _) h40)) k2 (fun r hr=>(hrow r (sA r hr)).2.1),← hM1] at p4
  have p5:=p_Filter (l.filter fun r=>(truF e cols r).1) (fun r hr=>hin r (sC r hr)) cols d hnd
  rw[filtF_of (rowsChk_some a1 sC (Nat.le_trans (List.length_filter_le _ _) h40)) k1 (fun r hr=>(hrow r (sC r hr)).1),← hM2] at p5
  have s1:=same_small hMs
  refine pure_of Tryz.func4 (by rfl) rfl (by kernel_rfl) (by rfl) ?_
  ((conv=>whnf);repeat' ((first|(with_reducible first|apply a_|apply b_|apply c_)|((with_reducible first|apply d_|apply e_|apply f_|apply g_);focus first|omega|(simp only[q_]<;>omega))|((with_reducible first|apply i_|apply h_);focus first|omega|(simp only[q_]<;>omega))|((with_reducible apply h_);focus first|decide|kernel_rfl)|refine s_ (by decide) ?_|refine t_ (by decide) ?_|refine r_ p_bagbegun rfl ?_|refine r_ c1 rfl ?_|refine r_ p1 rfl ?_|refine r_ p2 rfl ?_|refine r_ p3 rfl ?_|refine r_ p4 rfl ?_|refine r_ p5 rfl ?_|refine r_ x1 rfl ?_|refine r_ x2 rfl ?_|refine r_ s1 rfl ?_|(refine EmpOr.app ?_)|(refine Need.by 64 rfl (by simp only[List.length_append,List.length_nil,List.length_singleton];omega) ?_)|with_reducible first|apply l_|apply m_|apply n_|apply o_|refine p_ (fun _=>?_) (fun _=>?_))<;>(conv=>whnf)))
  all_goals first|exact Ret.bool rfl | (exfalso;omega) | skip
 ·have z1:(filtF l cols ((d++e)++[opsN 16 2])).2≠0→((filtF l cols ((d++e)++[opsN 16 2])).1.map rowC).length=0:=fun h=>by rw[filtF_no h];rfl
  refine pure_of Tryz.func4 (by rfl) rfl (by kernel_rfl) (by rfl) ?_
  ((conv=>whnf);repeat' ((first|(with_reducible first|apply a_|apply b_|apply c_)|((with_reducible first|apply d_|apply e_|apply f_|apply g_);focus first|omega|(simp only[q_]<;>omega))|((with_reducible first|apply i_|apply h_);focus first|omega|(simp only[q_]<;>omega))|((with_reducible apply h_);focus first|decide|kernel_rfl)|refine s_ (by decide) ?_|refine t_ (by decide) ?_|refine r_ p_bagbegun rfl ?_|refine r_ c1 rfl ?_|refine r_ p1 rfl ?_|refine r_ x1 rfl ?_|refine r_ x2 rfl ?_|(refine EmpOr.app ?_)|(refine Need.by 64 rfl (by simp only[List.length_append,List.length_nil,List.length_singleton];omega) ?_)|with_reducible first|apply l_|apply m_|apply n_|apply o_|refine p_ (fun _=>?_) (fun _=>?_))<;>(conv=>whnf)))
  all_goals first|exact Ret.bool rfl | (exfalso;omega) | (refine Ret.bool (decide_eq_true ?_);omega) | skip
end
end Go.Proofs.YtdgmbijjhifbeaaGreatDoor.Pm
