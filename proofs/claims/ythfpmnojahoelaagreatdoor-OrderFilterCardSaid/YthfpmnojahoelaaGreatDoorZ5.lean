/- Parts of the proof, one behind the other: PbSwap PbSym PbSym2 PbSort PbSort2 PmRange PbPair PmDefer PbRng PbCat PbRef PbRef3 PbJoin PbLimit. Conditions: none beyond what each theorem says. -/
import Derived.RangeFuncNested
import Derived.RangeFuncBound
import Derived.RangeFuncCalls
import Derived.RangeFuncLeaves
import Derived.RangeFuncRecord
import Derived.RangeFuncBox
import Derived.OwnWalkIn
import Derived.TacticsInMore
import Derived.LoopNIn
import Derived.LoopIn
import Derived.Test.YthfpmnojahoelaaGreatDoorYSlice
import Derived.Recover
import Derived.Lib.AppendZerosOnto
import Derived.Test.YthfpmnojahoelaaGreatDoorZ4
set_option linter.unusedVariables false
set_option linter.unusedSimpArgs false
namespace Go.Proofs.YthfpmnojahoelaaGreatDoor.Pm
section
open Go.RowKit K
set_option maxRecDepth 100000
set_option maxRecDepth 100000
theorem two_get1 {α:Type} (A M B:List α) (p r:α):(A++p::(M++r::B))[A.length]? = some p:=by simp
theorem two_get2 {α:Type} (A M B:List α) (p r:α):(A++p::(M++r::B))[A.length+1+M.length]? = some r:=by
 rw[List.getElem?_append_right (by omega),show A.length+1+M.length - A.length=M.length+1 by omega,List.getElem?_cons_succ,List.getElem?_append_right (Nat.le_refl _),Nat.sub_self]
 rfl
theorem two_set {α:Type} (A M B:List α) (p r:α):((A++p::(M++r::B)).set A.length r).set (A.length+1+M.length) p=A++r::(M++p::B):=by
 rw[List.set_append_right _ _ (Nat.le_refl _),Nat.sub_self,List.set_cons_zero,List.set_append_right _ _ (by omega),show A.length+1+M.length - A.length=M.length+1 by omega,List.set_cons_succ,List.set_append_right _ _ (Nat.le_refl _),Nat.sub_self,List.set_cons_zero]
theorem s_swaprange (keys:List KeyD) (X P Q R Y:List RowT) (hPR:P.length=R.length) (N:Nat) (hN:(X++P++Q++R++Y).length=N) (hN2:N≤1000) (a b n:Nat) (ha:a=X.length) (hb:b=X.length+P.length+Q.length) (hn:n=P.length) (S:List RowT) (hS:S=X++R++Q++P++Y) :
  CallS Tryz.prog 96 [.d (.arr FK tRowI 1 0 N),pInt .i64 a,pInt .i64 b,pInt .i64 n,.d (keysF keys)] [] [(FK,.arr tRowI 1 ((X++P++Q++R++Y).map rowC))] (.tup []) [(FK,.arr tRowI 1 (S.map rowC))]:=by
 simp only[List.length_append] at hN
 refine callS_of Tryz.func96 (by rfl) rfl (by kernel_rfl) (by rfl) [FK] rfl ?_
 ((conv=>whnf);repeat' ((first|(with_reducible first|apply a_|apply b_|apply c_)|((with_reducible first|apply d_|apply e_|apply f_|apply g_);focus first|omega|(simp only[q_]<;>omega))|((with_reducible first|apply i_|apply h_);focus first|omega|(simp only[q_]<;>omega))|((with_reducible apply h_);focus first|decide|kernel_rfl)|refine s_ (by decide) ?_|refine t_ (by decide) ?_|with_reducible first|apply l_|apply m_|apply n_|apply o_|refine p_ (fun _=>?_) (fun _=>?_))<;>(conv=>whnf)))
 refine LoopC.mk Nat (fun i=>[(0,.d (.arr FK tRowI 1 0 N)),(1,pInt .i64 a),(2,pInt .i64 b),(3,pInt .i64 n),(10,pInt .i64 (i:Int))]) (fun i=>[(FK,.arr tRowI 1 ((X++R.take i++P.drop i++Q++P.take i++R.drop i++Y).map rowC))]) [FK] (fun i=>i≤n) (fun i=>n - i) 0 (Nat.zero_le _) ?start ?round
 case start=>
  refine⟨[(FK,FK)],rfl,rfl,?_,?_⟩<;>repeat' (first|exact rfl|exact trivial|exact Or.inl rfl|refine And.intro ?_ ?_)
  ·show (X++P++Q++R++Y).map rowC=(X++[]++P++Q++[]++R++Y).map rowC
   rw[List.append_nil,List.append_nil]
 case round=>
  intro i hi
  have hi:i≤n:=hi
  by_cases q:i<n
  ·have hp:i<P.length:=by omega
   have hr:i<R.length:=by omega
   obtain⟨A,hA⟩:∃A,A=(X++R.take i).map rowC:=⟨_,rfl⟩
   obtain⟨M,hM⟩:∃M,M=(P.drop (i+1)++Q++P.take i).map rowC:=⟨_,rfl⟩
   obtain⟨B,hB⟩:∃B,B=(R.drop (i+1)++Y).map rowC:=⟨_,rfl⟩
   have hst:(X++R.take i++P.drop i++Q++P.take i++R.drop i++Y).map rowC=A++rowC P[i]::(M++rowC R[i]::B):=by
    rw[hA,hM,hB,List.drop_eq_getElem_cons hp,List.drop_eq_getElem_cons hr]
    simp only[List.map_append,List.map_cons,List.append_assoc,List.cons_append]
   have hnx:(X++R.take (i+1)++P.drop (i+1)++Q++P.take (i+1)++R.drop (i+1)++Y).map rowC=A++rowC R[i]::(M++rowC P[i]::B):=by
    rw[hA,hM,hB,take_snoc hp,take_snoc hr]
    simp only[List.map_append,List.map_cons,List.map_nil,List.append_assoc,List.cons_append,List.nil_append]
   have lA:A.length=a+i:=by rw[hA,List.length_map,List.length_append,List.length_take];omega
   have lM:A.length+1+M.length=b+i:=by rw[lA,hM,List.length_map,List.length_append,List.length_append,List.length_drop,List.length_take];omega
   have lN:(A++rowC P[i]::(M++rowC R[i]::B)).length=N:=by
    rw[← hst,List.length_map]
    simp only[List.length_append,List.length_take,List.length_drop]
    omega
   have g1:=two_get1 A M B (rowC P[i]) (rowC R[i])
   have g2:=two_get2 A M B (rowC P[i]) (rowC R[i])
   have gs:=two_set A M B (rowC P[i]) (rowC R[i])
   rw[hst]
   generalize hL:A++rowC P[i]::(M++rowC R[i]::B)=L at *
   have j1:0+((a:Int)+(i:Int)).toNat=A.length:=by omega
   have j2:0+((b:Int)+(i:Int)).toNat=A.length+1+M.length:=by omega
   have r1:L[0+((a:Int)+(i:Int)).toNat]? = some (rowC P[i]):=by rw[j1];exact g1
   have r2:L[0+((b:Int)+(i:Int)).toNat]? = some (rowC R[i]):=by rw[j2];exact g2
   have r3:∀v,(L.set (0+((a:Int)+(i:Int)).toNat) v)[0+((b:Int)+(i:Int)).toNat]? = some (rowC R[i]):=fun v=>by
    rw[List.getElem?_set_ne (by omega)];exact r2
   ((conv=>whnf);repeat' ((first|(with_reducible first|apply a_|apply b_|apply c_)|((with_reducible first|apply d_|apply e_|apply f_|apply g_);focus first|omega|(simp only[q_]<;>omega))|((with_reducible first|apply i_|apply h_);focus first|omega|(simp only[q_]<;>omega))|((with_reducible apply h_);focus first|decide|kernel_rfl)|refine s_ (by decide) ?_|refine t_ (by decide) ?_|(first|refine Row.mk _ r1 ?_|refine Row.mk _ r2 ?_|refine Row.mk _ (r3 _) ?_)|with_reducible first|apply l_|apply m_|apply n_|apply o_|refine p_ (fun _=>?_) (fun _=>?_))<;>(conv=>whnf)))
   all_goals first
    | (exfalso;omega)
    | skip
   refine⟨i+1,q,by omega,[(FK,FK)],rfl,rfl,?_,?_⟩<;>repeat' (first|exact rfl|exact trivial|exact Or.inl rfl|exact PLe.int (by omega) | refine And.intro ?_ ?_)
   show (L.set (0+((a:Int)+(i:Int)).toNat) (rowC R[i])).set (0+((b:Int)+(i:Int)).toNat) (rowC P[i])=_
   rw[j1,j2,gs]
   exact hnx.symm
  ·have hi2:i=n:=by omega
   have hfin:X++R.take i++P.drop i++Q++P.take i++R.drop i++Y=S:=by
    rw[hS,List.take_of_length_le (by omega),List.drop_of_length_le (by omega),List.take_of_length_le (by omega),List.drop_of_length_le (by omega),List.append_nil,List.append_nil]
   rw[hfin]
   ((conv=>whnf);repeat' ((first|(with_reducible first|apply a_|apply b_|apply c_)|((with_reducible first|apply d_|apply e_|apply f_|apply g_);focus first|omega|(simp only[q_]<;>omega))|((with_reducible first|apply i_|apply h_);focus first|omega|(simp only[q_]<;>omega))|((with_reducible apply h_);focus first|decide|kernel_rfl)|refine s_ (by decide) ?_|refine t_ (by decide) ?_|with_reducible first|apply l_|apply m_|apply n_|apply o_|refine p_ (fun _=>?_) (fun _=>?_))<;>(conv=>whnf)))
   all_goals first
    | (exfalso;omega)
    | (refine RetS.mk [(FK,FK)] [FK] rfl rfl ?_ ?_<;>repeat' (first|exact rfl|exact trivial|exact Or.inl rfl|refine And.intro ?_ ?_))
theorem s_rotate (keys:List KeyD) (X U V Y:List RowT) (N:Nat) (hN:(X++U++V++Y).length=N) (hN2:N≤1000) (hU:0<U.length) (hV:0<V.length) (a m b:Nat) (ha:a=X.length) (hm:m=X.length+U.length) (hb:b=m+V.length) (S:List RowT) (hS:S=X++V++U++Y) :
  CallS Tryz.prog 84 [.d (.arr FK tRowI 1 0 N),pInt .i64 a,pInt .i64 m,pInt .i64 b,.d (keysF keys)] [] [(FK,.arr tRowI 1 ((X++U++V++Y).map rowC))] (.tup []) [(FK,.arr tRowI 1 (S.map rowC))]:=by
 have hN3:=hN
 simp only[List.length_append] at hN3
 refine callS_of Tryz.func84 (by rfl) rfl (by kernel_rfl) (by rfl) [FK] rfl ?_
 ((conv=>whnf);repeat' ((first|(with_reducible first|apply a_|apply b_|apply c_)|((with_reducible first|apply d_|apply e_|apply f_|apply g_);focus first|omega|(simp only[q_]<;>omega))|((with_reducible first|apply i_|apply h_);focus first|omega|(simp only[q_]<;>omega))|((with_reducible apply h_);focus first|decide|kernel_rfl)|refine s_ (by decide) ?_|refine t_ (by decide) ?_|with_reducible first|apply l_|apply m_|apply n_|apply o_|refine p_ (fun _=>?_) (fun _=>?_))<;>(conv=>whnf)))
 refine LoopC.mk (List RowT×List RowT×List RowT×List RowT) (fun s=>[(0,.d (.arr FK tRowI 1 0 N)),(2,pInt .i64 m),(4,.d (keysF keys)),(10,pInt .i64 (s.2.1.length:Int)),(11,pInt .i64 (s.2.2.1.length:Int))]) (fun s=>[(FK,.arr tRowI 1 ((s.1++s.2.1++s.2.2.1++s.2.2.2).map rowC))]) [FK] (fun s=>s.1++s.2.2.1++s.2.1++s.2.2.2=S∧s.1.length+s.2.1.length=m∧0<s.2.1.length∧0<s.2.2.1.length∧(s.1++s.2.1++s.2.2.1++s.2.2.2).length=N) (fun s=>s.2.1.length+s.2.2.1.length) (X,U,V,Y) ⟨hS.symm,hm.symm,hU,hV,hN⟩ ?start ?round
 case start=>
  refine⟨[(FK,FK)],rfl,rfl,?_,?_⟩<;>repeat' (first|exact rfl|exact trivial|exact Or.inl rfl|refine And.intro ?_ ?_)
  ·exact PLe.int (show (m:Int) - (a:Int)=((U.length:Nat):Int) by omega)
  ·exact PLe.int (show (b:Int) - (m:Int)=((V.length:Nat):Int) by omega)
 case round=>
  rintro⟨X,U,V,Y⟩ ⟨h1,h2,h3,h4,h5⟩
  have h1:X++V++U++Y=S:=h1
  have h2:X.length+U.length=m:=h2
  have h3:0<U.length:=h3
  have h4:0<V.length:=h4
  have h5:(X++U++V++Y).length=N:=h5
  have h6:=h5
  simp only[List.length_append] at h6
  rcases Nat.lt_trichotomy U.length V.length with q | q | q
  ·
   obtain⟨V1,V2,rfl,hl⟩:∃V1 V2,V=V1++V2∧V2.length=U.length:=⟨V.take (V.length - U.length),V.drop (V.length - U.length),(List.take_append_drop _ _).symm,by rw[List.length_drop];omega⟩
   rw[List.length_append] at q h4 h6
   have ps:=s_swaprange keys X U V1 V2 Y hl.symm N (by rw[← h5];simp only[List.append_assoc]) hN2 X.length (X.length+U.length+V1.length) U.length rfl rfl rfl _ rfl
   have e1:((m:Int) - (U.length:Int))=((X.length:Nat):Int):=by omega
   have e2:((m:Int)+((V1++V2).length:Int) - (U.length:Int))=((X.length+U.length+V1.length:Nat):Int):=by rw[List.length_append];omega
   have e3:(X++U++(V1++V2)++Y)=(X++U++V1++V2++Y):=by simp only[List.append_assoc]
   rw[← e1,← e2] at ps
   have hlv:(V1++V2).length=V1.length+V2.length:=List.length_append
   rw[e3]
   ((conv=>whnf);repeat' ((first|(with_reducible first|apply a_|apply b_|apply c_)|((with_reducible first|apply d_|apply e_|apply f_|apply g_);focus first|omega|(simp only[q_]<;>omega))|((with_reducible first|apply i_|apply h_);focus first|omega|(simp only[q_]<;>omega))|((with_reducible apply h_);focus first|decide|kernel_rfl)|refine s_ (by decide) ?_|refine t_ (by decide) ?_|(refine CallP.ret [(FK,FK)] _ _ _ _ _ _ _ ps rfl rfl rfl rfl ⟨rfl,trivial⟩ ?_)|with_reducible first|apply l_|apply m_|apply n_|apply o_|refine p_ (fun _=>?_) (fun _=>?_))<;>(conv=>whnf)))
   all_goals first
    | (exfalso;omega)
    | skip
   refine⟨(X,V2,V1,U++Y),⟨?_,?_,?_,?_,?_⟩,?_,[(FK,FK)],rfl,rfl,?_,?_⟩
   ·rw[← h1];simp only[List.append_assoc]
   ·show X.length+V2.length=m;omega
   ·show 0<V2.length;omega
   ·show 0<V1.length;omega
   ·rw[← h5];simp only[List.length_append];omega
   ·show V2.length+V1.length<U.length+(V1++V2).length;omega
   all_goals repeat' (first|exact rfl|exact trivial|exact Or.inl rfl|refine And.intro ?_ ?_)
   ·exact PLe.int (show (U.length:Int)=((V2.length:Nat):Int) by omega)
   ·exact PLe.int (show ((V1++V2).length:Int) - (U.length:Int)=((V1.length:Nat):Int) by omega)
   ·show (X++V2++V1++U++Y).map rowC=(X++V2++V1++(U++Y)).map rowC
    simp only[List.append_assoc]
  ·
   have ps:=s_swaprange keys X U [] V Y q N (by rw[← h5];simp only[List.append_assoc,List.nil_append]) hN2 X.length (X.length+U.length) U.length rfl rfl rfl S (by rw[← h1];simp)
   have e1:((m:Int) - (U.length:Int))=((X.length:Nat):Int):=by omega
   rw[List.append_nil,h2,← e1] at ps
   ((conv=>whnf);repeat' ((first|(with_reducible first|apply a_|apply b_|apply c_)|((with_reducible first|apply d_|apply e_|apply f_|apply g_);focus first|omega|(simp only[q_]<;>omega))|((with_reducible first|apply i_|apply h_);focus first|omega|(simp only[q_]<;>omega))|((with_reducible apply h_);focus first|decide|kernel_rfl)|refine s_ (by decide) ?_|refine t_ (by decide) ?_|(refine CallP.ret [(FK,FK)] _ _ _ _ _ _ _ ps rfl rfl rfl rfl ⟨rfl,trivial⟩ ?_)|with_reducible first|apply l_|apply m_|apply n_|apply o_|refine p_ (fun _=>?_) (fun _=>?_))<;>(conv=>whnf)))
   all_goals first
    | (exfalso;omega)
    | (refine RetS.mk [(FK,FK)] [FK] rfl rfl ?_ ?_<;>repeat' (first|exact rfl|exact trivial|exact Or.inl rfl|refine And.intro ?_ ?_))
  ·
   obtain⟨U1,U2,rfl,hl⟩:∃U1 U2,U=U1++U2∧U1.length=V.length:=⟨U.take V.length,U.drop V.length,(List.take_append_drop _ _).symm,by rw[List.length_take];omega⟩
   have hlu:(U1++U2).length=U1.length+U2.length:=List.length_append
   have ps:=s_swaprange keys X U1 U2 V Y hl N (by rw[← h5];simp only[List.append_assoc]) hN2 X.length (X.length+U1.length+U2.length) V.length rfl rfl hl.symm _ rfl
   have e1:((m:Int) - ((U1++U2).length:Int))=((X.length:Nat):Int):=by omega
   have e2:X.length+U1.length+U2.length=m:=by omega
   have e3:(X++(U1++U2)++V++Y)=(X++U1++U2++V++Y):=by simp only[List.append_assoc]
   rw[← e1,e2] at ps
   rw[e3]
   ((conv=>whnf);repeat' ((first|(with_reducible first|apply a_|apply b_|apply c_)|((with_reducible first|apply d_|apply e_|apply f_|apply g_);focus first|omega|(simp only[q_]<;>omega))|((with_reducible first|apply i_|apply h_);focus first|omega|(simp only[q_]<;>omega))|((with_reducible apply h_);focus first|decide|kernel_rfl)|refine s_ (by decide) ?_|refine t_ (by decide) ?_|(refine CallP.ret [(FK,FK)] _ _ _ _ _ _ _ ps rfl rfl rfl rfl ⟨rfl,trivial⟩ ?_)|with_reducible first|apply l_|apply m_|apply n_|apply o_|refine p_ (fun _=>?_) (fun _=>?_))<;>(conv=>whnf)))
   all_goals first
    | (exfalso;omega)
    | skip
   refine⟨(X++V,U2,U1,Y),⟨?_,?_,?_,?_,?_⟩,?_,[(FK,FK)],rfl,rfl,?_,?_⟩
   ·rw[← h1];simp only[List.append_assoc]
   ·show (X++V).length+U2.length=m;rw[List.length_append];omega
   ·show 0<U2.length;omega
   ·show 0<U1.length;omega
   ·rw[← h5];simp only[List.length_append];omega
   ·show U2.length+U1.length<(U1++U2).length+V.length;omega
   all_goals repeat' (first|exact rfl|exact trivial|exact Or.inl rfl|refine And.intro ?_ ?_)
   ·exact PLe.int (show ((U1++U2).length:Int) - (V.length:Int)=((U2.length:Nat):Int) by omega)
   ·exact PLe.int (show (V.length:Int)=((U1.length:Nat):Int) by omega)
end
section
open Go.RowKit K
set_option maxRecDepth 100000
set_option maxRecDepth 100000
abbrev KeysOk (keys:List KeyD) (l:List RowT):Prop:=∀k∈keys,∀r∈l,0≤k.Col∧k.Col<r.length
def SymOk (keys:List KeyD) (N:Nat) (X A B Y:List RowT) (S:List RowT):Prop:=
 CallS Tryz.prog 63 [.d (.arr FK tRowI 1 0 N),pInt .i64 (X.length:Int),pInt .i64 ((X.length+A.length:Nat):Int),pInt .i64 ((X.length+A.length+B.length:Nat):Int),.d (keysF keys)] [] [(FK,.arr tRowI 1 ((X++A++B++Y).map rowC))] (.tup []) [(FK,.arr tRowI 1 (S.map rowC))]
theorem row_at {X:List RowT} {x:RowT} {Y:List RowT} {n:Nat} (h:n=X.length):((X++x::Y).map rowC)[n]? = some (rowC x):=by
 subst h
 rw[List.getElem?_map,List.getElem?_append_right (Nat.le_refl _),Nat.sub_self];rfl
theorem Wr.to {x n:Int} {K:Int→Prop} (h:x=n) (h1:-9223372036854775808≤n) (h2:n≤9223372036854775807) (k:K n):Wr .i64 x K:=by subst h;exact Wr.i64 h1 h2 k
theorem half_of (p q:Nat):((p:Int)+(q:Int)).fdiv (2^min (Int.toNat 1) IntKind.u64.bits)=(((p+q) / 2:Nat):Int):=by
 show ((p:Int)+(q:Int)).fdiv 2=_
 rw[Int.fdiv_eq_ediv_of_nonneg _ (by decide)]
 omega
theorem Wr.half {p q n:Nat} (h:(p+q) / 2=n) (h2:n≤9223372036854775807) {K:Int→Prop} (k:K (n:Int)):Wr .i64 (((p:Int)+(q:Int)).fdiv (2^min (Int.toNat 1) IntKind.u64.bits)) K:=Wr.to ((half_of p q).trans (by rw[h])) (by omega) (by omega) k
theorem srt_le {f:RowT→RowT→Int} (hf:OrdR f) {l:List RowT} (h:SrtR f l) {i j:Nat} (hij:i<j) (hj:j<l.length):f (l[i]'(by omega)) l[j]≤0:=by
 have:=List.pairwise_iff_getElem.1 h i j (by omega) hj hij
 have:=hf.swap (l[i]'(by omega)) l[j]
 omega
theorem mem_take_at {l:List RowT} {n:Nat} {y:RowT} (h:y∈l.take n):∃i,i<n∧∃hi:i<l.length,y=l[i]:=by
 obtain⟨i,hi,e⟩:=List.getElem_of_mem h
 rw[List.length_take] at hi
 exact⟨i,by omega,by omega,by rw[← e,List.getElem_take]⟩
theorem mem_drop_at {l:List RowT} {n:Nat} {y:RowT} (h:y∈l.drop n):∃i,n≤i∧∃hi:i<l.length,y=l[i]:=by
 obtain⟨i,hi,e⟩:=List.getElem_of_mem h
 rw[List.length_drop] at hi
 exact⟨n+i,by omega,by omega,by rw[← e,List.getElem_drop]⟩
theorem srt_low {f:RowT→RowT→Int} (hf:OrdR f) {l:List RowT} (h:SrtR f l) {x:RowT} {c:Nat} (hc:c<l.length) (hx:f l[c] x<0):∀y∈l.take (c+1),f y x<0:=by
 intro y hy
 obtain⟨i,hi,hl,rfl⟩:=mem_take_at hy
 rcases Nat.lt_or_ge i c with q | q
 ·exact hf.le_lt (srt_le hf h q hc) hx
 ·have:i=c:=by omega
  subst this;exact hx
theorem srt_high {f:RowT→RowT→Int} (hf:OrdR f) {l:List RowT} (h:SrtR f l) {x:RowT} {c:Nat} (hc:c<l.length) (hx:¬f l[c] x<0):∀y∈l.drop c,¬f y x<0:=by
 intro y hy
 obtain⟨i,hi,hl,rfl⟩:=mem_drop_at hy
 rcases Nat.lt_or_ge c i with q | q
 ·intro g
  exact hx (hf.le_lt (srt_le hf h q hl) g)
 ·have:i=c:=by omega
  subst this;exact hx
theorem srt_low2 {f:RowT→RowT→Int} (hf:OrdR f) {l:List RowT} (h:SrtR f l) {x:RowT} {c:Nat} (hc:c<l.length) (hx:¬f x l[c]<0):∀y∈l.take (c+1),¬f x y<0:=by
 intro y hy
 obtain⟨i,hi,hl,rfl⟩:=mem_take_at hy
 rcases Nat.lt_or_ge i c with q | q
 ·intro g
  exact hx (hf.lt_le g (srt_le hf h q hc))
 ·have:i=c:=by omega
  subst this;exact hx
theorem srt_high2 {f:RowT→RowT→Int} (hf:OrdR f) {l:List RowT} (h:SrtR f l) {x:RowT} {c:Nat} (hc:c<l.length) (hx:f x l[c]<0):∀y∈l.drop c,f x y<0:=by
 intro y hy
 obtain⟨i,hi,hl,rfl⟩:=mem_drop_at hy
 rcases Nat.lt_or_ge c i with q | q
 ·exact hf.lt_le hx (srt_le hf h q hl)
 ·have:i=c:=by omega
  subst this;exact hx
theorem s_sym1 (keys:List KeyD) (hk:keys.length≤1000) (X:List RowT) (x:RowT) (B Y:List RowT) (N:Nat) (hN:(X++[x]++B++Y).length=N) (hN2:N≤1000) (hB:0<B.length) (hc:KeysOk keys (x::B)) (sB:SrtR (ordK keys) B):SymOk keys N X [x] B Y (X++mgR (ordK keys) [x] B++Y):=by
 have hf:=ordK_ord keys
 have hN3:=hN
 simp only[List.length_append,List.length_singleton] at hN3
 unfold SymOk
 refine callS_of Tryz.func63 (by rfl) rfl (by kernel_rfl) (by rfl) [FK] rfl ?_
 rw[List.length_singleton]
 ((conv=>whnf);repeat' ((first|(with_reducible first|apply a_|apply b_|apply c_)|((with_reducible first|apply d_|apply e_|apply f_|apply g_);focus first|omega|(simp only[q_]<;>omega))|((with_reducible first|apply i_|apply h_);focus first|omega|(simp only[q_]<;>omega))|((with_reducible apply h_);focus first|decide|kernel_rfl)|refine s_ (by decide) ?_|refine t_ (by decide) ?_|with_reducible first|apply l_|apply m_|apply n_|apply o_|refine p_ (fun _=>?_) (fun _=>?_))<;>(conv=>whnf)))
 refine LoopC.mk (Nat×Nat) (fun s=>[(0,.d (.arr FK tRowI 1 0 N)),(1,pInt .i64 (X.length:Int)),(4,.d (keysF keys)),(10,pInt .i64 ((X.length+1+s.1:Nat):Int)),(11,pInt .i64 ((X.length+1+s.2:Nat):Int))]) (fun _=>[(FK,.arr tRowI 1 ((X++[x]++B++Y).map rowC))]) [FK] (fun s=>s.1≤s.2∧s.2≤B.length∧(∀y∈B.take s.1,ordK keys y x<0)∧∀y∈B.drop s.2,¬ordK keys y x<0) (fun s=>s.2 - s.1) (0,B.length) ⟨Nat.zero_le _,Nat.le_refl _,(fun y hy=>absurd hy List.not_mem_nil),by rw[List.drop_length];exact fun y hy=>absurd hy List.not_mem_nil⟩ ?start ?round
 case start=>
  refine⟨[(FK,FK)],rfl,rfl,?_,?_⟩<;>repeat' (first|exact rfl|exact trivial|exact Or.inl rfl|refine And.intro ?_ ?_)
 case round=>
  rintro⟨i,j⟩ ⟨h1,h2,h3,h4⟩
  have h1:i≤j:=h1
  have h2:j≤B.length:=h2
  have h3:∀y∈B.take i,ordK keys y x<0:=h3
  have h4:∀y∈B.drop j,¬ordK keys y x<0:=h4
  by_cases q:i<j
  ·obtain⟨c,c1,c2,c3⟩:∃c,i≤c∧c<j∧(X.length+1+i+(X.length+1+j)) / 2=X.length+1+c:=⟨(X.length+1+i+(X.length+1+j)) / 2 - (X.length+1),by omega,by omega,by omega⟩
   have wh:∀K:Int→Prop,K ((X.length+1+c:Nat):Int)→Wr .i64 ((((X.length+1+i:Nat):Int)+((X.length+1+j:Nat):Int)).fdiv (2^min (Int.toNat 1) IntKind.u64.bits)) K:=fun K k=>Wr.half c3 (by omega) k
   have hcB:c<B.length:=by omega
   have r1:((X++[x]++B++Y).map rowC)[0+(((X.length+1+c:Nat):Int)).toNat]? = some (rowC B[c]):=by
    have e:X++[x]++B++Y=(X++[x]++B.take c)++B[c]::(B.drop (c+1)++Y):=by
     conv=>lhs;rw[← List.take_append_drop c B,List.drop_eq_getElem_cons hcB]
     simp only[List.append_assoc,List.cons_append]
    rw[e]
    exact row_at (by simp only[List.length_append,List.length_singleton,List.length_take];omega)
   have r2:((X++[x]++B++Y).map rowC)[0+((X.length:Int)).toNat]? = some (rowC x):=by
    rw[List.append_assoc,List.append_assoc,List.singleton_append]
    exact row_at (by omega)
   have po:=p_order keys hk B[c] x fun k hk=>⟨(hc k hk x List.mem_cons_self).1,(hc k hk B[c] (List.mem_cons_of_mem _ (List.getElem_mem hcB))).2,(hc k hk x List.mem_cons_self).2⟩
   by_cases ho:ordK keys B[c] x<0
   ·((conv=>whnf);repeat' ((first|(with_reducible first|apply a_|apply b_|apply c_)|((with_reducible first|apply d_|apply e_|apply f_|apply g_);focus first|omega|(simp only[q_]<;>omega))|((with_reducible first|apply i_|apply h_);focus first|omega|(simp only[q_]<;>omega))|((with_reducible apply h_);focus first|decide|kernel_rfl)|refine s_ (by decide) ?_|refine t_ (by decide) ?_|(refine wh _ ?_)|(first|refine Row.mk _ r1 ?_|refine Row.mk _ r2 ?_)|refine r_ po rfl ?_|with_reducible first|apply l_|apply m_|apply n_|apply o_|refine p_ (fun _=>?_) (fun _=>?_))<;>(conv=>whnf)))
    all_goals first
     | (exfalso;omega)
     | skip
    refine⟨(c+1,j),⟨by show c+1≤j;omega,h2,srt_low hf sB hcB ho,h4⟩,by show j - (c+1)<j - i;omega,[(FK,FK)],rfl,rfl,?_,?_⟩<;>repeat' (first|exact rfl|exact trivial|exact Or.inl rfl|refine And.intro ?_ ?_)
   ·((conv=>whnf);repeat' ((first|(with_reducible first|apply a_|apply b_|apply c_)|((with_reducible first|apply d_|apply e_|apply f_|apply g_);focus first|omega|(simp only[q_]<;>omega))|((with_reducible first|apply i_|apply h_);focus first|omega|(simp only[q_]<;>omega))|((with_reducible apply h_);focus first|decide|kernel_rfl)|refine s_ (by decide) ?_|refine t_ (by decide) ?_|(refine wh _ ?_)|(first|refine Row.mk _ r1 ?_|refine Row.mk _ r2 ?_)|refine r_ po rfl ?_|with_reducible first|apply l_|apply m_|apply n_|apply o_|refine p_ (fun _=>?_) (fun _=>?_))<;>(conv=>whnf)))
    all_goals first
     | (exfalso;omega)
     | skip
    refine⟨(i,c),⟨c1,by show c≤B.length;omega,h3,srt_high hf sB hcB ho⟩,by show c - i<j - i;omega,[(FK,FK)],rfl,rfl,?_,?_⟩<;>repeat' (first|exact rfl|exact trivial|exact Or.inl rfl|refine And.intro ?_ ?_)
  ·have hij:i=j:=by omega
   subst hij
   have hmg:mgR (ordK keys) [x] B=B.take i++x::B.drop i:=by
    conv=>lhs;rw[← List.take_append_drop i B]
    exact mg_first h3 h4
   rw[hmg]
   ((conv=>whnf);repeat' ((first|(with_reducible first|apply a_|apply b_|apply c_)|((with_reducible first|apply d_|apply e_|apply f_|apply g_);focus first|omega|(simp only[q_]<;>omega))|((with_reducible first|apply i_|apply h_);focus first|omega|(simp only[q_]<;>omega))|((with_reducible apply h_);focus first|decide|kernel_rfl)|refine s_ (by decide) ?_|refine t_ (by decide) ?_|with_reducible first|apply l_|apply m_|apply n_|apply o_|refine p_ (fun _=>?_) (fun _=>?_))<;>(conv=>whnf)))
   refine LoopC.mk Nat (fun k=>[(0,.d (.arr FK tRowI 1 0 N)),(10,pInt .i64 ((X.length+1+i:Nat):Int)),(13,pInt .i64 ((X.length+k:Nat):Int))]) (fun k=>[(FK,.arr tRowI 1 ((X++(B.take k++x::B.drop k)++Y).map rowC))]) [FK] (fun k=>k≤i) (fun k=>i - k) 0 (Nat.zero_le _) ?start2 ?round2
   case start2=>
    refine⟨[(FK,FK)],rfl,rfl,?_,?_⟩<;>repeat' (first|exact rfl|exact trivial|exact Or.inl rfl|refine And.intro ?_ ?_)
    show (X++[x]++B++Y).map rowC=(X++([]++x::B)++Y).map rowC
    simp
   case round2=>
    intro k hki
    have hki:k≤i:=hki
    by_cases qk:k<i
    ·have hkB:k<B.length:=by omega
     obtain⟨A',hA'⟩:∃A',A'=(X++B.take k).map rowC:=⟨_,rfl⟩
     obtain⟨B',hB'⟩:∃B',B'=(B.drop (k+1)++Y).map rowC:=⟨_,rfl⟩
     have hst:(X++(B.take k++x::B.drop k)++Y).map rowC=A'++rowC x::([]++rowC B[k]::B'):=by
      rw[hA',hB',List.drop_eq_getElem_cons hkB]
      simp only[List.map_append,List.map_cons,List.append_assoc,List.cons_append,List.nil_append]
     have hnx:(X++(B.take (k+1)++x::B.drop (k+1))++Y).map rowC=A'++rowC B[k]::([]++rowC x::B'):=by
      rw[hA',hB',take_snoc hkB]
      simp only[List.map_append,List.map_cons,List.map_nil,List.append_assoc,List.cons_append,List.nil_append]
     have lA:A'.length=X.length+k:=by rw[hA',List.length_map,List.length_append,List.length_take];omega
     have lN:(A'++rowC x::([]++rowC B[k]::B')).length=N:=by
      rw[← hst,List.length_map,← hN]
      simp only[List.length_append,List.length_take,List.length_drop,List.length_cons,List.length_nil]
      omega
     have g1:=two_get1 A' [] B' (rowC x) (rowC B[k])
     have g2:=two_get2 A' [] B' (rowC x) (rowC B[k])
     have gs:=two_set A' [] B' (rowC x) (rowC B[k])
     rw[hst]
     generalize hL:A'++rowC x::([]++rowC B[k]::B')=L at *
     have j1:0+(((X.length+k:Nat):Int)).toNat=A'.length:=by omega
     have j2:0+(((X.length+k:Nat):Int)+1).toNat=A'.length+1+([]:List (List C)).length:=by show _=A'.length+1+0;omega
     have r1:L[0+(((X.length+k:Nat):Int)).toNat]? = some (rowC x):=by rw[j1];exact g1
     have r2:L[0+(((X.length+k:Nat):Int)+1).toNat]? = some (rowC B[k]):=by rw[j2];exact g2
     have r3:∀v,(L.set (0+(((X.length+k:Nat):Int)).toNat) v)[0+(((X.length+k:Nat):Int)+1).toNat]? = some (rowC B[k]):=fun v=>by
      rw[List.getElem?_set_ne (by omega)];exact r2
     ((conv=>whnf);repeat' ((first|(with_reducible first|apply a_|apply b_|apply c_)|((with_reducible first|apply d_|apply e_|apply f_|apply g_);focus first|omega|(simp only[q_]<;>omega))|((with_reducible first|apply i_|apply h_);focus first|omega|(simp only[q_]<;>omega))|((with_reducible apply h_);focus first|decide|kernel_rfl)|refine s_ (by decide) ?_|refine t_ (by decide) ?_|(first|refine Row.mk _ r1 ?_|refine Row.mk _ r2 ?_|refine Row.mk _ (r3 _) ?_)|with_reducible first|apply l_|apply m_|apply n_|apply o_|refine p_ (fun _=>?_) (fun _=>?_))<;>(conv=>whnf)))
     all_goals first
      | (exfalso;omega)
      | skip
     refine⟨k+1,qk,by omega,[(FK,FK)],rfl,rfl,?_,?_⟩<;>repeat' (first|exact rfl|exact trivial|exact Or.inl rfl|refine And.intro ?_ ?_)
     ·show (L.set (0+(((X.length+k:Nat):Int)).toNat) (rowC B[k])).set (0+(((X.length+k:Nat):Int)+1).toNat) (rowC x)=_
      rw[j1,j2,gs]
      exact hnx.symm
    ·have hk2:k=i:=by omega
     subst hk2
     ((conv=>whnf);repeat' ((first|(with_reducible first|apply a_|apply b_|apply c_)|((with_reducible first|apply d_|apply e_|apply f_|apply g_);focus first|omega|(simp only[q_]<;>omega))|((with_reducible first|apply i_|apply h_);focus first|omega|(simp only[q_]<;>omega))|((with_reducible apply h_);focus first|decide|kernel_rfl)|refine s_ (by decide) ?_|refine t_ (by decide) ?_|with_reducible first|apply l_|apply m_|apply n_|apply o_|refine p_ (fun _=>?_) (fun _=>?_))<;>(conv=>whnf)))
     all_goals first
      | (exfalso;omega)
      | (refine RetS.mk [(FK,FK)] [FK] rfl rfl ?_ ?_<;>repeat' (first|exact rfl|exact trivial|exact Or.inl rfl|refine And.intro ?_ ?_))
theorem s_sym2 (keys:List KeyD) (hk:keys.length≤1000) (X A:List RowT) (x:RowT) (Y:List RowT) (N:Nat) (hN:(X++A++[x]++Y).length=N) (hN2:N≤1000) (hA:1<A.length) (hc:KeysOk keys (x::A)) (sA:SrtR (ordK keys) A):SymOk keys N X A [x] Y (X++mgR (ordK keys) A [x]++Y):=by
 have hf:=ordK_ord keys
 have hN3:=hN
 simp only[List.length_append,List.length_singleton] at hN3
 unfold SymOk
 refine callS_of Tryz.func63 (by rfl) rfl (by kernel_rfl) (by rfl) [FK] rfl ?_
 rw[List.length_singleton]
 ((conv=>whnf);repeat' ((first|(with_reducible first|apply a_|apply b_|apply c_)|((with_reducible first|apply d_|apply e_|apply f_|apply g_);focus first|omega|(simp only[q_]<;>omega))|((with_reducible first|apply i_|apply h_);focus first|omega|(simp only[q_]<;>omega))|((with_reducible apply h_);focus first|decide|kernel_rfl)|refine s_ (by decide) ?_|refine t_ (by decide) ?_|with_reducible first|apply l_|apply m_|apply n_|apply o_|refine p_ (fun _=>?_) (fun _=>?_))<;>(conv=>whnf)))
 all_goals first | (exfalso;omega) | skip
 refine LoopC.mk (Nat×Nat) (fun s=>[(0,.d (.arr FK tRowI 1 0 N)),(2,pInt .i64 ((X.length+A.length:Nat):Int)),(4,.d (keysF keys)),(14,pInt .i64 ((X.length+s.1:Nat):Int)),(15,pInt .i64 ((X.length+s.2:Nat):Int))]) (fun _=>[(FK,.arr tRowI 1 ((X++A++[x]++Y).map rowC))]) [FK] (fun s=>s.1≤s.2∧s.2≤A.length∧(∀y∈A.take s.1,¬ordK keys x y<0)∧∀y∈A.drop s.2,ordK keys x y<0) (fun s=>s.2 - s.1) (0,A.length) ⟨Nat.zero_le _,Nat.le_refl _,(fun y hy=>absurd hy List.not_mem_nil),by rw[List.drop_length];exact fun y hy=>absurd hy List.not_mem_nil⟩ ?start ?round
 case start=>
  refine⟨[(FK,FK)],rfl,rfl,?_,?_⟩<;>repeat' (first|exact rfl|exact trivial|exact Or.inl rfl|refine And.intro ?_ ?_)
 case round=>
  rintro⟨i,j⟩ ⟨h1,h2,h3,h4⟩
  have h1:i≤j:=h1
  have h2:j≤A.length:=h2
  have h3:∀y∈A.take i,¬ordK keys x y<0:=h3
  have h4:∀y∈A.drop j,ordK keys x y<0:=h4
  by_cases q:i<j
  ·obtain⟨c,c1,c2,c3⟩:∃c,i≤c∧c<j∧(X.length+i+(X.length+j)) / 2=X.length+c:=⟨(X.length+i+(X.length+j)) / 2 - X.length,by omega,by omega,by omega⟩
   have wh:∀K:Int→Prop,K ((X.length+c:Nat):Int)→Wr .i64 ((((X.length+i:Nat):Int)+((X.length+j:Nat):Int)).fdiv (2^min (Int.toNat 1) IntKind.u64.bits)) K:=fun K k=>Wr.half c3 (by omega) k
   have hcA:c<A.length:=by omega
   have r1:((X++A++[x]++Y).map rowC)[0+(((X.length+c:Nat):Int)).toNat]? = some (rowC A[c]):=by
    have e:X++A++[x]++Y=(X++A.take c)++A[c]::(A.drop (c+1)++[x]++Y):=by
     conv=>lhs;rw[← List.take_append_drop c A,List.drop_eq_getElem_cons hcA]
     simp only[List.append_assoc,List.cons_append]
    rw[e]
    exact row_at (by simp only[List.length_append,List.length_take];omega)
   have r2:((X++A++[x]++Y).map rowC)[0+(((X.length+A.length:Nat):Int)).toNat]? = some (rowC x):=by
    rw[List.append_assoc (X++A),List.singleton_append]
    exact row_at (by simp only[List.length_append];omega)
   have po:=p_order keys hk x A[c] fun k hk=>⟨(hc k hk x List.mem_cons_self).1,(hc k hk x List.mem_cons_self).2,(hc k hk A[c] (List.mem_cons_of_mem _ (List.getElem_mem hcA))).2⟩
   by_cases ho:ordK keys x A[c]<0
   ·((conv=>whnf);repeat' ((first|(with_reducible first|apply a_|apply b_|apply c_)|((with_reducible first|apply d_|apply e_|apply f_|apply g_);focus first|omega|(simp only[q_]<;>omega))|((with_reducible first|apply i_|apply h_);focus first|omega|(simp only[q_]<;>omega))|((with_reducible apply h_);focus first|decide|kernel_rfl)|refine s_ (by decide) ?_|refine t_ (by decide) ?_|(refine wh _ ?_)|(first|refine Row.mk _ r1 ?_|refine Row.mk _ r2 ?_)|refine r_ po rfl ?_|with_reducible first|apply l_|apply m_|apply n_|apply o_|refine p_ (fun _=>?_) (fun _=>?_))<;>(conv=>whnf)))
    all_goals first
     | (exfalso;omega)
     | skip
    refine⟨(i,c),⟨c1,by show c≤A.length;omega,h3,srt_high2 hf sA hcA ho⟩,by show c - i<j - i;omega,[(FK,FK)],rfl,rfl,?_,?_⟩<;>repeat' (first|exact rfl|exact trivial|exact Or.inl rfl|refine And.intro ?_ ?_)
   ·((conv=>whnf);repeat' ((first|(with_reducible first|apply a_|apply b_|apply c_)|((with_reducible first|apply d_|apply e_|apply f_|apply g_);focus first|omega|(simp only[q_]<;>omega))|((with_reducible first|apply i_|apply h_);focus first|omega|(simp only[q_]<;>omega))|((with_reducible apply h_);focus first|decide|kernel_rfl)|refine s_ (by decide) ?_|refine t_ (by decide) ?_|(refine wh _ ?_)|(first|refine Row.mk _ r1 ?_|refine Row.mk _ r2 ?_)|refine r_ po rfl ?_|with_reducible first|apply l_|apply m_|apply n_|apply o_|refine p_ (fun _=>?_) (fun _=>?_))<;>(conv=>whnf)))
    all_goals first
     | (exfalso;omega)
     | skip
    refine⟨(c+1,j),⟨by show c+1≤j;omega,h2,srt_low2 hf sA hcA ho,h4⟩,by show j - (c+1)<j - i;omega,[(FK,FK)],rfl,rfl,?_,?_⟩<;>repeat' (first|exact rfl|exact trivial|exact Or.inl rfl|refine And.intro ?_ ?_)
  ·have hij:i=j:=by omega
   subst hij
   have hmg:mgR (ordK keys) A [x]=A.take i++x::A.drop i:=by
    conv=>lhs;rw[← List.take_append_drop i A]
    exact mg_one h3 h4
   rw[hmg]
   ((conv=>whnf);repeat' ((first|(with_reducible first|apply a_|apply b_|apply c_)|((with_reducible first|apply d_|apply e_|apply f_|apply g_);focus first|omega|(simp only[q_]<;>omega))|((with_reducible first|apply i_|apply h_);focus first|omega|(simp only[q_]<;>omega))|((with_reducible apply h_);focus first|decide|kernel_rfl)|refine s_ (by decide) ?_|refine t_ (by decide) ?_|with_reducible first|apply l_|apply m_|apply n_|apply o_|refine p_ (fun _=>?_) (fun _=>?_))<;>(conv=>whnf)))
   refine LoopC.mk Nat (fun k=>[(0,.d (.arr FK tRowI 1 0 N)),(14,pInt .i64 ((X.length+i:Nat):Int)),(17,pInt .i64 ((X.length+k:Nat):Int))]) (fun k=>[(FK,.arr tRowI 1 ((X++(A.take k++x::A.drop k)++Y).map rowC))]) [FK] (fun k=>i≤k∧k≤A.length) (fun k=>k) A.length ⟨h2,Nat.le_refl _⟩ ?start2 ?round2
   case start2=>
    refine⟨[(FK,FK)],rfl,rfl,?_,?_⟩<;>repeat' (first|exact rfl|exact trivial|exact Or.inl rfl|refine And.intro ?_ ?_)
    show (X++A++[x]++Y).map rowC=(X++(A.take A.length++x::A.drop A.length)++Y).map rowC
    rw[List.take_length,List.drop_length]
    simp
   case round2=>
    rintro k ⟨hik,hkA⟩
    have hik:i≤k:=hik
    have hkA:k≤A.length:=hkA
    by_cases qk:i<k
    ·obtain⟨k,rfl⟩:∃k',k=k'+1:=⟨k - 1,by omega⟩
     have hkB:k<A.length:=by omega
     obtain⟨A',hA'⟩:∃A',A'=(X++A.take k).map rowC:=⟨_,rfl⟩
     obtain⟨B',hB'⟩:∃B',B'=(A.drop (k+1)++Y).map rowC:=⟨_,rfl⟩
     have hst:(X++(A.take (k+1)++x::A.drop (k+1))++Y).map rowC=A'++rowC A[k]::([]++rowC x::B'):=by
      rw[hA',hB',take_snoc hkB]
      simp only[List.map_append,List.map_cons,List.map_nil,List.append_assoc,List.cons_append,List.nil_append]
     have hnx:(X++(A.take k++x::A.drop k)++Y).map rowC=A'++rowC x::([]++rowC A[k]::B'):=by
      rw[hA',hB',List.drop_eq_getElem_cons hkB]
      simp only[List.map_append,List.map_cons,List.append_assoc,List.cons_append,List.nil_append]
     have lA:A'.length=X.length+k:=by rw[hA',List.length_map,List.length_append,List.length_take];omega
     have lN:(A'++rowC A[k]::([]++rowC x::B')).length=N:=by
      rw[← hst,List.length_map,← hN]
      simp only[List.length_append,List.length_take,List.length_drop,List.length_cons,List.length_nil]
      omega
     have g1:=two_get1 A' [] B' (rowC A[k]) (rowC x)
     have g2:=two_get2 A' [] B' (rowC A[k]) (rowC x)
     have gs:=two_set A' [] B' (rowC A[k]) (rowC x)
     rw[hst]
     generalize hL:A'++rowC A[k]::([]++rowC x::B')=L at *
     have j1:0+(((X.length+(k+1):Nat):Int) - 1).toNat=A'.length:=by omega
     have j2:0+(((X.length+(k+1):Nat):Int)).toNat=A'.length+1+([]:List (List C)).length:=by show _=A'.length+1+0;omega
     have r1:L[0+(((X.length+(k+1):Nat):Int) - 1).toNat]? = some (rowC A[k]):=by rw[j1];exact g1
     have r2:L[0+(((X.length+(k+1):Nat):Int)).toNat]? = some (rowC x):=by rw[j2];exact g2
     have r3:∀v,(L.set (0+(((X.length+(k+1):Nat):Int)).toNat) v)[0+(((X.length+(k+1):Nat):Int) - 1).toNat]? = some (rowC A[k]):=fun v=>by
      rw[List.getElem?_set_ne (by omega)];exact r1
     ((conv=>whnf);repeat' ((first|(with_reducible first|apply a_|apply b_|apply c_)|((with_reducible first|apply d_|apply e_|apply f_|apply g_);focus first|omega|(simp only[q_]<;>omega))|((with_reducible first|apply i_|apply h_);focus first|omega|(simp only[q_]<;>omega))|((with_reducible apply h_);focus first|decide|kernel_rfl)|refine s_ (by decide) ?_|refine t_ (by decide) ?_|(first|refine Row.mk _ r1 ?_|refine Row.mk _ r2 ?_|refine Row.mk _ (r3 _) ?_)|with_reducible first|apply l_|apply m_|apply n_|apply o_|refine p_ (fun _=>?_) (fun _=>?_))<;>(conv=>whnf)))
     all_goals first
      | (exfalso;omega)
      | skip
     refine⟨k,⟨by show i≤k;omega,by show k≤A.length;omega⟩,Nat.lt_succ_self k,[(FK,FK)],rfl,rfl,?_,?_⟩<;>repeat' (first|exact rfl|exact trivial|exact Or.inl rfl|refine And.intro ?_ ?_)
     ·exact PLe.int (show ((X.length+(k+1):Nat):Int) - 1=((X.length+k:Nat):Int) by omega)
     ·show (L.set (0+(((X.length+(k+1):Nat):Int)).toNat) (rowC A[k])).set (0+(((X.length+(k+1):Nat):Int) - 1).toNat) (rowC x)=_
      rw[j1,j2,List.set_comm _ _ (by omega),gs]
      exact hnx.symm
    ·have hk2:k=i:=by omega
     subst hk2
     ((conv=>whnf);repeat' ((first|(with_reducible first|apply a_|apply b_|apply c_)|((with_reducible first|apply d_|apply e_|apply f_|apply g_);focus first|omega|(simp only[q_]<;>omega))|((with_reducible first|apply i_|apply h_);focus first|omega|(simp only[q_]<;>omega))|((with_reducible apply h_);focus first|decide|kernel_rfl)|refine s_ (by decide) ?_|refine t_ (by decide) ?_|with_reducible first|apply l_|apply m_|apply n_|apply o_|refine p_ (fun _=>?_) (fun _=>?_))<;>(conv=>whnf)))
     all_goals first
      | (exfalso;omega)
      | (refine RetS.mk [(FK,FK)] [FK] rfl rfl ?_ ?_<;>repeat' (first|exact rfl|exact trivial|exact Or.inl rfl|refine And.intro ?_ ?_))
end
section
open Go.RowKit K
set_option maxRecDepth 100000
set_option maxRecDepth 100000
theorem srt_last {f:RowT→RowT→Int} (hf:OrdR f) {A B:List RowT} (sA:SrtR f A) (sB:SrtR f B) {i j:Nat} (h:∀(hi:i - 1<A.length) (hj:j<B.length),0<i→¬f B[j] A[i - 1]<0) (hiA:i≤A.length):∀a∈A.take i,∀b∈B.drop j,¬f b a<0:=by
 intro a ha b hb
 obtain⟨k,hk,hkA,rfl⟩:=mem_take_at ha
 obtain⟨m,hm,hmB,rfl⟩:=mem_drop_at hb
 have g:=h (by omega) (by omega) (by omega)
 have l1:f A[k] (A[i - 1]'(by omega))≤0:=by
  rcases Nat.lt_or_ge k (i - 1) with q | q
  ·exact srt_le hf sA q (by omega)
  ·have e:k=i - 1:=by omega
   subst e
   have:=hf.self (A[i - 1]'(by omega));omega
 have l2:f (B[j]'(by omega)) B[m]≤0:=by
  rcases Nat.lt_or_ge j m with q | q
  ·exact srt_le hf sB q (by omega)
  ·have e:j=m:=by omega
   subst e
   have:=hf.self B[j];omega
 intro q
 have s1:=hf.swap (A[i - 1]'(by omega)) (B[j]'(by omega))
 exact g (hf.lt_le (hf.le_lt l2 q) l1)
theorem srt_last2 {f:RowT→RowT→Int} (hf:OrdR f) {A B:List RowT} (sA:SrtR f A) (sB:SrtR f B) {i j:Nat} (h:∀(hi:i<A.length) (hj:j - 1<B.length),0<j→f B[j - 1] A[i]<0) (hjB:j≤B.length):∀b∈B.take j,∀a∈A.drop i,f b a<0:=by
 intro b hb a ha
 obtain⟨k,hk,hkB,rfl⟩:=mem_take_at hb
 obtain⟨m,hm,hmA,rfl⟩:=mem_drop_at ha
 have g:=h (by omega) (by omega) (by omega)
 have l1:f B[k] (B[j - 1]'(by omega))≤0:=by
  rcases Nat.lt_or_ge k (j - 1) with q | q
  ·exact srt_le hf sB q (by omega)
  ·have e:k=j - 1:=by omega
   subst e
   have:=hf.self (B[j - 1]'(by omega));omega
 have l2:f (A[i]'(by omega)) A[m]≤0:=by
  rcases Nat.lt_or_ge i m with q | q
  ·exact srt_le hf sA q (by omega)
  ·have e:i=m:=by omega
   subst e
   have:=hf.self A[i];omega
 exact hf.lt_le (hf.le_lt l1 g) l2
theorem row_getD {L:List RowT} {n:Nat} (h:n<L.length) {m:Nat} (e:m=n):(L.map rowC)[m]? = some (rowC (L.getD n [])):=by
 subst e
 rw[List.getD_eq_getElem?_getD,List.getElem?_eq_getElem h,List.getElem?_map,List.getElem?_eq_getElem h];rfl
theorem getD_left {X A B Y:List RowT} {n k:Nat} (h:k<A.length) (e:n=X.length+k):(X++A++B++Y).getD n []=A[k]:=by
 subst e
 rw[List.getD_eq_getElem?_getD,List.append_assoc,List.getElem?_append_left (by rw[List.length_append];omega),List.getElem?_append_right (by omega),show X.length+k - X.length=k by omega,List.getElem?_eq_getElem h];rfl
theorem getD_right {X A B Y:List RowT} {n k:Nat} (h:k<B.length) (e:n=X.length+A.length+k):(X++A++B++Y).getD n []=B[k]:=by
 subst e
 rw[List.getD_eq_getElem?_getD,List.getElem?_append_left (by simp only[List.length_append];omega),List.getElem?_append_right (by simp only[List.length_append];omega),List.length_append,show X.length+A.length+k - (X.length+A.length)=k by omega,List.getElem?_eq_getElem h];rfl
theorem getD_part {X A B Y:List RowT} {n:Nat} (h1:X.length≤n) (h2:n<X.length+A.length+B.length):(X++A++B++Y).getD n []∈A++B:=by
 rcases Nat.lt_or_ge n (X.length+A.length) with q | q
 ·rw[getD_left (k:=n - X.length) (by omega) (by omega)]
  exact List.mem_append_left _ (List.getElem_mem _)
 ·rw[getD_right (k:=n - (X.length+A.length)) (by omega) (by omega)]
  exact List.mem_append_right _ (List.getElem_mem _)
set_option maxHeartbeats 2000000 in
theorem sym_step (keys:List KeyD) (N:Nat) (hN2:N≤1000) (n:Nat) (ih:∀(X A B Y:List RowT),A.length+B.length≤n→(X++A++B++Y).length=N→0<A.length→0<B.length→KeysOk keys (A++B)→SrtR (ordK keys) A→SrtR (ordK keys) B→SymOk keys N X A B Y (X++mgR (ordK keys) A B++Y)) (X A B Y:List RowT) (hn:A.length+B.length≤n+1) (hA1:1<A.length) (hB1:1<B.length) (hc:KeysOk keys (A++B)) (sA:SrtR (ordK keys) A) (sB:SrtR (ordK keys) B)
  (m b mid:Nat) (hm:X.length+A.length=m) (hb:m+B.length=b) (hmid:(X.length+b) / 2=mid) (L0 L3:List RowT) (hL0:L0=X++A++B++Y) (hN:L0.length=N) (hL3:L3=X++mgR (ordK keys) A B++Y) (s0 r0 r e:Nat) (hlt:(mid<m∧s0=mid+m - b∧r0=mid)∨(¬mid<m∧s0=X.length∧r0=m)) (h1:s0≤r) (h3:r≤r0) (he:mid+m - r=e)
  (h4:s0<r→¬ordK keys (L0.getD (mid+m - r) []) (L0.getD (r - 1) [])<0) (h5:r<r0→ordK keys (L0.getD (mid+m - 1 - r) []) (L0.getD r [])<0) :
  ∃L1 L2:List RowT,((r<m∧m<e)→CallS Tryz.prog 84 [.d (.arr FK tRowI 1 0 N),pInt .i64 (r:Int),pInt .i64 (m:Int),pInt .i64 (((mid+m:Nat):Int) - (r:Int)),.d (keysF keys)] [] [(FK,.arr tRowI 1 (L0.map rowC))] (.tup []) [(FK,.arr tRowI 1 (L1.map rowC))])∧(¬(r<m∧m<e)→L0=L1)∧
   ((X.length<r∧r<mid)→CallS Tryz.prog 63 [.d (.arr FK tRowI 1 0 N),pInt .i64 (X.length:Int),pInt .i64 (r:Int),pInt .i64 (mid:Int),.d (keysF keys)] [] [(FK,.arr tRowI 1 (L1.map rowC))] (.tup []) [(FK,.arr tRowI 1 (L2.map rowC))])∧(¬(X.length<r∧r<mid)→L1=L2)∧
   ((mid<e∧e<b)→CallS Tryz.prog 63 [.d (.arr FK tRowI 1 0 N),pInt .i64 (mid:Int),pInt .i64 (((mid+m:Nat):Int) - (r:Int)),pInt .i64 (b:Int),.d (keysF keys)] [] [(FK,.arr tRowI 1 (L2.map rowC))] (.tup []) [(FK,.arr tRowI 1 (L3.map rowC))])∧(¬(mid<e∧e<b)→L2=L3):=by
 have hf:=ordK_ord keys
 have hN3:=hN
 rw[hL0] at hN3
 simp only[List.length_append] at hN3
 obtain⟨i,hi⟩:∃i,r=X.length+i:=⟨r - X.length,by omega⟩
 obtain⟨j,hj⟩:∃j,e=m+j:=⟨e - m,by omega⟩
 obtain⟨A1,dA1⟩:∃A1,A1=A.take i:=⟨_,rfl⟩
 obtain⟨A2,dA2⟩:∃A2,A2=A.drop i:=⟨_,rfl⟩
 obtain⟨B1,dB1⟩:∃B1,B1=B.take j:=⟨_,rfl⟩
 obtain⟨B2,dB2⟩:∃B2,B2=B.drop j:=⟨_,rfl⟩
 have lA1:A1.length=i:=by rw[dA1,List.length_take];omega
 have lA2:A2.length=A.length - i:=by rw[dA2,List.length_drop]
 have lB1:B1.length=j:=by rw[dB1,List.length_take];omega
 have lB2:B2.length=B.length - j:=by rw[dB2,List.length_drop]
 have eA:A=A1++A2:=by rw[dA1,dA2,List.take_append_drop]
 have eB:B=B1++B2:=by rw[dB1,dB2,List.take_append_drop]
 have x1:∀a∈A1,∀b∈B2,¬ordK keys b a<0:=by
  rw[dA1,dB2]
  refine srt_last hf sA sB (fun hi' hj' h0=>?_) (by omega)
  have g:=h4 (by omega)
  rw[hL0,getD_right (k:=j) hj' (by omega),getD_left (k:=i - 1) hi' (by omega)] at g
  exact g
 have x2:∀b∈B1,∀a∈A2,ordK keys b a<0:=by
  rw[dA2,dB1]
  refine srt_last2 hf sA sB (fun hi' hj' h0=>?_) (by omega)
  have g:=h5 (by omega)
  rw[hL0,getD_right (k:=j - 1) hj' (by omega),getD_left (k:=i) hi' (by omega)] at g
  exact g
 have mgs:mgR (ordK keys) A B=mgR (ordK keys) A1 B1++mgR (ordK keys) A2 B2:=by
  conv=>lhs;rw[eA,eB]
  exact mg_split _ A1 B1 (Nat.le_refl _) x1 x2
 obtain⟨sA1,sA2,_⟩:=List.pairwise_append.1 (show (A1++A2).Pairwise _ by rw[← eA];exact sA)
 obtain⟨sB1,sB2,_⟩:=List.pairwise_append.1 (show (B1++B2).Pairwise _ by rw[← eB];exact sB)
 have hc1:KeysOk keys (A1++B1):=fun k hk r hr=>hc k hk r (by rw[eA,eB];rcases List.mem_append.1 hr with h | h<;>simp[h])
 have hc2:KeysOk keys (A2++B2):=fun k hk r hr=>hc k hk r (by rw[eA,eB];rcases List.mem_append.1 hr with h | h<;>simp[h])
 obtain⟨L1,hL1⟩:∃L1,L1=X++A1++B1++A2++B2++Y:=⟨_,rfl⟩
 obtain⟨L2,hL2⟩:∃L2,L2=X++mgR (ordK keys) A1 B1++A2++B2++Y:=⟨_,rfl⟩
 have l1:L1.length=N:=by rw[hL1,← hN,hL0,eA,eB];simp only[List.length_append];omega
 have lm:=mg_len (f:=ordK keys) _ A1 B1 (Nat.le_refl _)
 have l2:L2.length=N:=by rw[hL2,← l1,hL1];simp only[List.length_append,lm];omega
 have ee:((mid+m:Nat):Int) - (r:Int)=((e:Nat):Int):=by omega
 have rot:(r<m∧m<e)→CallS Tryz.prog 84 [.d (.arr FK tRowI 1 0 N),pInt .i64 (r:Int),pInt .i64 (m:Int),pInt .i64 (((mid+m:Nat):Int) - (r:Int)),.d (keysF keys)] [] [(FK,.arr tRowI 1 (L0.map rowC))] (.tup []) [(FK,.arr tRowI 1 (L1.map rowC))]:=fun g=>by
  have e0:X++A1++A2++B1++(B2++Y)=L0:=by rw[hL0,eA,eB];simp only[List.append_assoc]
  have:=s_rotate keys (X++A1) A2 B1 (B2++Y) N (by rw[e0];exact hN) hN2 (by omega) (by omega) r m e (by rw[List.length_append];omega) (by rw[List.length_append];omega) (by omega) L1 (by rw[hL1];simp only[List.append_assoc])
  rw[e0] at this
  rw[ee]
  exact this
 have n1:¬(r<m∧m<e)→L0=L1:=fun g=>by
  rw[hL0,hL1,eA,eB]
  have:A2=[]∨B1=[]:=by
   rcases Nat.lt_or_ge r m with g1 | g1
   ·exact .inr (List.eq_nil_of_length_eq_zero (by omega))
   ·exact .inl (List.eq_nil_of_length_eq_zero (by omega))
  rcases this with h | h<;>rw[h]<;>simp
 have sy1:(X.length<r∧r<mid)→CallS Tryz.prog 63 [.d (.arr FK tRowI 1 0 N),pInt .i64 (X.length:Int),pInt .i64 (r:Int),pInt .i64 (mid:Int),.d (keysF keys)] [] [(FK,.arr tRowI 1 (L1.map rowC))] (.tup []) [(FK,.arr tRowI 1 (L2.map rowC))]:=fun g=>by
  have e0:X++A1++B1++(A2++B2++Y)=L1:=by rw[hL1];simp only[List.append_assoc]
  have e1:X++mgR (ordK keys) A1 B1++(A2++B2++Y)=L2:=by rw[hL2];simp only[List.append_assoc]
  have:=ih X A1 B1 (A2++B2++Y) (by omega) (by rw[e0];exact l1) (by omega) (by omega) hc1 sA1 sB1
  unfold SymOk at this
  rw[e0,e1,show X.length+A1.length+B1.length=mid by omega,show X.length+A1.length=r by omega] at this
  exact this
 have n2:¬(X.length<r∧r<mid)→L1=L2:=fun g=>by
  rw[hL1,hL2]
  have:A1=[]∨B1=[]:=by
   rcases Nat.lt_or_ge X.length r with g1 | g1
   ·exact .inr (List.eq_nil_of_length_eq_zero (by omega))
   ·exact .inl (List.eq_nil_of_length_eq_zero (by omega))
  rcases this with h | h<;>rw[h]
  ·rw[mg_nil,List.append_nil]
  ·rw[mg_end,List.append_nil]
 have sy2:(mid<e∧e<b)→CallS Tryz.prog 63 [.d (.arr FK tRowI 1 0 N),pInt .i64 (mid:Int),pInt .i64 (((mid+m:Nat):Int) - (r:Int)),pInt .i64 (b:Int),.d (keysF keys)] [] [(FK,.arr tRowI 1 (L2.map rowC))] (.tup []) [(FK,.arr tRowI 1 (L3.map rowC))]:=fun g=>by
  have e0:X++mgR (ordK keys) A1 B1++A2++B2++Y=L2:=hL2.symm
  have e1:X++mgR (ordK keys) A1 B1++mgR (ordK keys) A2 B2++Y=L3:=by rw[hL3,mgs];simp only[List.append_assoc]
  have:=ih (X++mgR (ordK keys) A1 B1) A2 B2 Y (by omega) (by rw[e0];exact l2) (by omega) (by omega) hc2 sA2 sB2
  unfold SymOk at this
  rw[e0,e1,List.length_append,lm,show X.length+(A1.length+B1.length)+A2.length+B2.length=b by omega,show X.length+(A1.length+B1.length)+A2.length=e by omega,show X.length+(A1.length+B1.length)=mid by omega] at this
  rw[ee]
  exact this
 have n3:¬(mid<e∧e<b)→L2=L3:=fun g=>by
  rw[hL2,hL3,mgs]
  have:A2=[]∨B2=[]:=by
   rcases Nat.lt_or_ge mid e with g1 | g1
   ·exact .inr (List.eq_nil_of_length_eq_zero (by omega))
   ·exact .inl (List.eq_nil_of_length_eq_zero (by omega))
  rcases this with h | h<;>rw[h]
  ·rw[mg_nil];simp only[List.append_assoc,List.append_nil]
  ·rw[mg_end];simp only[List.append_assoc,List.append_nil]
 exact⟨L1,L2,rot,n1,sy1,n2,sy2,n3⟩
set_option maxHeartbeats 2000000 in
theorem s_sym (keys:List KeyD) (hk:keys.length≤1000) (N:Nat) (hN2:N≤1000):∀(n:Nat) (X A B Y:List RowT),A.length+B.length≤n→(X++A++B++Y).length=N→0<A.length→0<B.length→KeysOk keys (A++B)→SrtR (ordK keys) A→SrtR (ordK keys) B→SymOk keys N X A B Y (X++mgR (ordK keys) A B++Y):=by
 have hf:=ordK_ord keys
 intro n
 induction n with
 | zero=>intro X A B Y h _ h1 h2;omega
 | succ n ih=>
  intro X A B Y hn hN hA hB hc sA sB
  have hN3:=hN
  simp only[List.length_append] at hN3
  rcases Nat.lt_or_ge 1 A.length with hA1 | hA1
  ·rcases Nat.lt_or_ge 1 B.length with hB1 | hB1
   ·unfold SymOk
    refine callS_of Tryz.func63 (by rfl) rfl (by kernel_rfl) (by rfl) [FK] rfl ?_
    obtain⟨mid,hmid⟩:∃mid,(X.length+(X.length+A.length+B.length)) / 2=mid:=⟨_,rfl⟩
    have wm:∀K:Int→Prop,K (mid:Int)→Wr .i64 (((X.length:Int)+((X.length+A.length+B.length:Nat):Int)).fdiv (2^min (Int.toNat 1) IntKind.u64.bits)) K:=fun K k=>Wr.half hmid (by omega) k
    obtain⟨m,hm⟩:∃m,X.length+A.length=m:=⟨_,rfl⟩
    obtain⟨b,hb⟩:∃b,m+B.length=b:=⟨_,rfl⟩
    obtain⟨L0,hL0⟩:∃L0,L0=X++A++B++Y:=⟨_,rfl⟩
    rw[hm,hb] at wm hmid ⊢
    rw[← hL0] at hN ⊢
    have hsrt:∀n,X.length≤n→n<b→L0.getD n []∈A++B:=fun n h1 h2=>by rw[hL0];exact getD_part h1 (by omega)
    have hcases:∃s0 r0,(mid<m∧s0=mid+m - b∧r0=mid)∨(¬mid<m∧s0=X.length∧r0=m):=by
     by_cases q:mid<m
     ·exact⟨_,_,.inl ⟨q,rfl,rfl⟩⟩
     ·exact⟨_,_,.inr ⟨q,rfl,rfl⟩⟩
    obtain⟨s0,r0,hcases⟩:=hcases
    rcases hcases with ⟨hlt,hs0,hr0⟩ | ⟨hlt,hs0,hr0⟩
    all_goals
     ((conv=>whnf);repeat' ((first|(with_reducible first|apply a_|apply b_|apply c_)|((with_reducible first|apply d_|apply e_|apply f_|apply g_);focus first|omega|(simp only[q_]<;>omega))|((with_reducible first|apply i_|apply h_);focus first|omega|(simp only[q_]<;>omega))|((with_reducible apply h_);focus first|decide|kernel_rfl)|refine s_ (by decide) ?_|refine t_ (by decide) ?_|(refine wm _ ?_)|with_reducible first|apply l_|apply m_|apply n_|apply o_|refine p_ (fun _=>?_) (fun _=>?_))<;>(conv=>whnf)))
    all_goals first | (exfalso;omega) | skip
    all_goals
     refine LoopC.mk (Nat×Nat) (fun s=>[(0,.d (.arr FK tRowI 1 0 N)),(1,pInt .i64 (X.length:Int)),(2,pInt .i64 (m:Int)),(3,pInt .i64 (b:Int)),(4,.d (keysF keys)),(18,pInt .i64 (mid:Int)),(19,pInt .i64 ((mid+m:Nat):Int)),(20,pInt .i64 (s.1:Int)),(21,pInt .i64 (s.2:Int)),(22,pInt .i64 ((mid+m - 1:Nat):Int))]) (fun _=>[(FK,.arr tRowI 1 (L0.map rowC))]) [FK] (fun s=>s0≤s.1∧s.1≤s.2∧s.2≤r0∧(s0<s.1→¬ordK keys (L0.getD (mid+m - s.1) []) (L0.getD (s.1 - 1) [])<0)∧(s.2<r0→ordK keys (L0.getD (mid+m - 1 - s.2) []) (L0.getD s.2 [])<0)) (fun s=>s.2 - s.1) (s0,r0) ⟨Nat.le_refl _,by show s0≤r0;omega,Nat.le_refl _,fun q=>absurd q (Nat.lt_irrefl _),fun q=>absurd q (Nat.lt_irrefl _)⟩ ?start ?round
     case start=>
      refine⟨[(FK,FK)],rfl,rfl,?_,?_⟩<;>repeat' (first|exact rfl|exact trivial|exact Or.inl rfl|refine And.intro ?_ ?_)
      all_goals first
       | exact PLe.int (show ((mid:Int)+(m:Int)) - (b:Int)=((s0:Nat):Int) by omega)
       | exact PLe.int (show ((X.length:Nat):Int)=((s0:Nat):Int) by omega)
       | exact PLe.int (show ((mid:Nat):Int)=((r0:Nat):Int) by omega)
       | exact PLe.int (show ((m:Nat):Int)=((r0:Nat):Int) by omega)
       | exact PLe.int (show ((mid:Int)+(m:Int)) - 1=((mid+m - 1:Nat):Int) by omega)
     case round=>
      rintro⟨s,r⟩ ⟨h1,h2,h3,h4,h5⟩
      have h1:s0≤s:=h1
      have h2:s≤r:=h2
      have h3:r≤r0:=h3
      have h4:s0<s→¬ordK keys (L0.getD (mid+m - s) []) (L0.getD (s - 1) [])<0:=h4
      have h5:r<r0→ordK keys (L0.getD (mid+m - 1 - r) []) (L0.getD r [])<0:=h5
      by_cases q:s<r
      ·obtain⟨c,c1,c2,c3⟩:∃c,s≤c∧c<r∧(s+r) / 2=c:=⟨(s+r) / 2,by omega,by omega,rfl⟩
       have wh:∀K:Int→Prop,K (c:Int)→Wr .i64 (((s:Int)+(r:Int)).fdiv (2^min (Int.toNat 1) IntKind.u64.bits)) K:=fun K k=>Wr.half c3 (by omega) k
       have g1:(L0.map rowC)[0+(((mid+m - 1:Nat):Int) - (c:Int)).toNat]? = some (rowC (L0.getD (mid+m - 1 - c) [])):=row_getD (by omega) (by omega)
       have g2:(L0.map rowC)[0+((c:Nat):Int).toNat]? = some (rowC (L0.getD c [])):=row_getD (by omega) (by omega)
       have po:=p_order keys hk (L0.getD (mid+m - 1 - c) []) (L0.getD c []) fun k hk=>⟨(hc k hk _ (hsrt c (by omega) (by omega))).1,(hc k hk _ (hsrt (mid+m - 1 - c) (by omega) (by omega))).2,(hc k hk _ (hsrt c (by omega) (by omega))).2⟩
       by_cases ho:ordK keys (L0.getD (mid+m - 1 - c) []) (L0.getD c [])<0
       ·((conv=>whnf);repeat' ((first|(with_reducible first|apply a_|apply b_|apply c_)|((with_reducible first|apply d_|apply e_|apply f_|apply g_);focus first|omega|(simp only[q_]<;>omega))|((with_reducible first|apply i_|apply h_);focus first|omega|(simp only[q_]<;>omega))|((with_reducible apply h_);focus first|decide|kernel_rfl)|refine s_ (by decide) ?_|refine t_ (by decide) ?_|(refine wh _ ?_)|(first|refine Row.mk _ g1 ?_|refine Row.mk _ g2 ?_)|refine r_ po rfl ?_|with_reducible first|apply l_|apply m_|apply n_|apply o_|refine p_ (fun _=>?_) (fun _=>?_))<;>(conv=>whnf)))
        all_goals first
         | (exfalso;omega)
         | skip
        refine⟨(s,c),⟨h1,c1,by show c≤r0;omega,h4,fun _=>ho⟩,by show c - s<r - s;omega,[(FK,FK)],rfl,rfl,?_,?_⟩<;>repeat' (first|exact rfl|exact trivial|exact Or.inl rfl|refine And.intro ?_ ?_)
       ·((conv=>whnf);repeat' ((first|(with_reducible first|apply a_|apply b_|apply c_)|((with_reducible first|apply d_|apply e_|apply f_|apply g_);focus first|omega|(simp only[q_]<;>omega))|((with_reducible first|apply i_|apply h_);focus first|omega|(simp only[q_]<;>omega))|((with_reducible apply h_);focus first|decide|kernel_rfl)|refine s_ (by decide) ?_|refine t_ (by decide) ?_|(refine wh _ ?_)|(first|refine Row.mk _ g1 ?_|refine Row.mk _ g2 ?_)|refine r_ po rfl ?_|with_reducible first|apply l_|apply m_|apply n_|apply o_|refine p_ (fun _=>?_) (fun _=>?_))<;>(conv=>whnf)))
        all_goals first
         | (exfalso;omega)
         | skip
        refine⟨(c+1,r),⟨by show s0≤c+1;omega,by show c+1≤r;omega,h3,fun _=>by rw[show mid+m - (c+1)=mid+m - 1 - c by omega,Nat.add_sub_cancel];exact ho,h5⟩,by show r - (c+1)<r - s;omega,[(FK,FK)],rfl,rfl,?_,?_⟩<;>repeat' (first|exact rfl|exact trivial|exact Or.inl rfl|refine And.intro ?_ ?_)
      ·have hrs:r=s:=by omega
       subst hrs
       obtain⟨e,he⟩:∃e,mid+m - r=e:=⟨_,rfl⟩
       obtain⟨L1,L2,rot,n1,sy1,n2,sy2,n3⟩:=sym_step keys N hN2 n ih X A B Y hn hA1 hB1 hc sA sB m b mid hm hb hmid L0 _ hL0 hN rfl s0 r0 r e (by omega) h1 h3 he h4 h5
       generalize X++mgR (ordK keys) A B++Y=L3 at *
       rcases Decidable.em (r<m∧m<e) with q1 | q1
       ·have rot':=rot q1
        rcases Decidable.em (X.length<r∧r<mid) with q2 | q2
        ·have sy1':=sy1 q2
         rcases Decidable.em (mid<e∧e<b) with q3 | q3
         ·have sy2':=sy2 q3
          ((conv=>whnf);repeat' ((first|(with_reducible first|apply a_|apply b_|apply c_)|((with_reducible first|apply d_|apply e_|apply f_|apply g_);focus first|omega|(simp only[q_]<;>omega))|((with_reducible first|apply i_|apply h_);focus first|omega|(simp only[q_]<;>omega))|((with_reducible apply h_);focus first|decide|kernel_rfl)|refine s_ (by decide) ?_|refine t_ (by decide) ?_|(first|refine CallP.ret [(FK,FK)] _ _ _ _ _ _ _ rot' rfl rfl rfl rfl ⟨rfl,trivial⟩ ?_|refine CallP.ret [(FK,FK)] _ _ _ _ _ _ _ sy1' rfl rfl rfl rfl ⟨rfl,trivial⟩ ?_|refine CallP.ret [(FK,FK)] _ _ _ _ _ _ _ sy2' rfl rfl rfl rfl ⟨rfl,trivial⟩ ?_)|with_reducible first|apply l_|apply m_|apply n_|apply o_|refine p_ (fun _=>?_) (fun _=>?_))<;>(conv=>whnf)))
          all_goals first
           | (exfalso;omega)
           | (refine RetS.mk [(FK,FK)] [FK] rfl rfl ?_ ?_<;>repeat' (first|exact rfl|exact trivial|exact Or.inl rfl|refine And.intro ?_ ?_))
         ·obtain rfl:=n3 q3
          ((conv=>whnf);repeat' ((first|(with_reducible first|apply a_|apply b_|apply c_)|((with_reducible first|apply d_|apply e_|apply f_|apply g_);focus first|omega|(simp only[q_]<;>omega))|((with_reducible first|apply i_|apply h_);focus first|omega|(simp only[q_]<;>omega))|((with_reducible apply h_);focus first|decide|kernel_rfl)|refine s_ (by decide) ?_|refine t_ (by decide) ?_|(first|refine CallP.ret [(FK,FK)] _ _ _ _ _ _ _ rot' rfl rfl rfl rfl ⟨rfl,trivial⟩ ?_|refine CallP.ret [(FK,FK)] _ _ _ _ _ _ _ sy1' rfl rfl rfl rfl ⟨rfl,trivial⟩ ?_)|with_reducible first|apply l_|apply m_|apply n_|apply o_|refine p_ (fun _=>?_) (fun _=>?_))<;>(conv=>whnf)))
          all_goals first
           | (exfalso;omega)
           | (refine RetS.mk [(FK,FK)] [FK] rfl rfl ?_ ?_<;>repeat' (first|exact rfl|exact trivial|exact Or.inl rfl|refine And.intro ?_ ?_))
        ·obtain rfl:=n2 q2
         rcases Decidable.em (mid<e∧e<b) with q3 | q3
         ·have sy2':=sy2 q3
          ((conv=>whnf);repeat' ((first|(with_reducible first|apply a_|apply b_|apply c_)|((with_reducible first|apply d_|apply e_|apply f_|apply g_);focus first|omega|(simp only[q_]<;>omega))|((with_reducible first|apply i_|apply h_);focus first|omega|(simp only[q_]<;>omega))|((with_reducible apply h_);focus first|decide|kernel_rfl)|refine s_ (by decide) ?_|refine t_ (by decide) ?_|(first|refine CallP.ret [(FK,FK)] _ _ _ _ _ _ _ rot' rfl rfl rfl rfl ⟨rfl,trivial⟩ ?_|refine CallP.ret [(FK,FK)] _ _ _ _ _ _ _ sy2' rfl rfl rfl rfl ⟨rfl,trivial⟩ ?_)|with_reducible first|apply l_|apply m_|apply n_|apply o_|refine p_ (fun _=>?_) (fun _=>?_))<;>(conv=>whnf)))
          all_goals first
           | (exfalso;omega)
           | (refine RetS.mk [(FK,FK)] [FK] rfl rfl ?_ ?_<;>repeat' (first|exact rfl|exact trivial|exact Or.inl rfl|refine And.intro ?_ ?_))
         ·obtain rfl:=n3 q3
          ((conv=>whnf);repeat' ((first|(with_reducible first|apply a_|apply b_|apply c_)|((with_reducible first|apply d_|apply e_|apply f_|apply g_);focus first|omega|(simp only[q_]<;>omega))|((with_reducible first|apply i_|apply h_);focus first|omega|(simp only[q_]<;>omega))|((with_reducible apply h_);focus first|decide|kernel_rfl)|refine s_ (by decide) ?_|refine t_ (by decide) ?_|(first|refine CallP.ret [(FK,FK)] _ _ _ _ _ _ _ rot' rfl rfl rfl rfl ⟨rfl,trivial⟩ ?_)|with_reducible first|apply l_|apply m_|apply n_|apply o_|refine p_ (fun _=>?_) (fun _=>?_))<;>(conv=>whnf)))
          all_goals first
           | (exfalso;omega)
           | (refine RetS.mk [(FK,FK)] [FK] rfl rfl ?_ ?_<;>repeat' (first|exact rfl|exact trivial|exact Or.inl rfl|refine And.intro ?_ ?_))
       ·obtain rfl:=n1 q1
        rcases Decidable.em (X.length<r∧r<mid) with q2 | q2
        ·have sy1':=sy1 q2
         rcases Decidable.em (mid<e∧e<b) with q3 | q3
         ·have sy2':=sy2 q3
          ((conv=>whnf);repeat' ((first|(with_reducible first|apply a_|apply b_|apply c_)|((with_reducible first|apply d_|apply e_|apply f_|apply g_);focus first|omega|(simp only[q_]<;>omega))|((with_reducible first|apply i_|apply h_);focus first|omega|(simp only[q_]<;>omega))|((with_reducible apply h_);focus first|decide|kernel_rfl)|refine s_ (by decide) ?_|refine t_ (by decide) ?_|(first|refine CallP.ret [(FK,FK)] _ _ _ _ _ _ _ sy1' rfl rfl rfl rfl ⟨rfl,trivial⟩ ?_|refine CallP.ret [(FK,FK)] _ _ _ _ _ _ _ sy2' rfl rfl rfl rfl ⟨rfl,trivial⟩ ?_)|with_reducible first|apply l_|apply m_|apply n_|apply o_|refine p_ (fun _=>?_) (fun _=>?_))<;>(conv=>whnf)))
          all_goals first
           | (exfalso;omega)
           | (refine RetS.mk [(FK,FK)] [FK] rfl rfl ?_ ?_<;>repeat' (first|exact rfl|exact trivial|exact Or.inl rfl|refine And.intro ?_ ?_))
         ·obtain rfl:=n3 q3
          ((conv=>whnf);repeat' ((first|(with_reducible first|apply a_|apply b_|apply c_)|((with_reducible first|apply d_|apply e_|apply f_|apply g_);focus first|omega|(simp only[q_]<;>omega))|((with_reducible first|apply i_|apply h_);focus first|omega|(simp only[q_]<;>omega))|((with_reducible apply h_);focus first|decide|kernel_rfl)|refine s_ (by decide) ?_|refine t_ (by decide) ?_|(first|refine CallP.ret [(FK,FK)] _ _ _ _ _ _ _ sy1' rfl rfl rfl rfl ⟨rfl,trivial⟩ ?_)|with_reducible first|apply l_|apply m_|apply n_|apply o_|refine p_ (fun _=>?_) (fun _=>?_))<;>(conv=>whnf)))
          all_goals first
           | (exfalso;omega)
           | (refine RetS.mk [(FK,FK)] [FK] rfl rfl ?_ ?_<;>repeat' (first|exact rfl|exact trivial|exact Or.inl rfl|refine And.intro ?_ ?_))
        ·obtain rfl:=n2 q2
         rcases Decidable.em (mid<e∧e<b) with q3 | q3
         ·have sy2':=sy2 q3
          ((conv=>whnf);repeat' ((first|(with_reducible first|apply a_|apply b_|apply c_)|((with_reducible first|apply d_|apply e_|apply f_|apply g_);focus first|omega|(simp only[q_]<;>omega))|((with_reducible first|apply i_|apply h_);focus first|omega|(simp only[q_]<;>omega))|((with_reducible apply h_);focus first|decide|kernel_rfl)|refine s_ (by decide) ?_|refine t_ (by decide) ?_|(first|refine CallP.ret [(FK,FK)] _ _ _ _ _ _ _ sy2' rfl rfl rfl rfl ⟨rfl,trivial⟩ ?_)|with_reducible first|apply l_|apply m_|apply n_|apply o_|refine p_ (fun _=>?_) (fun _=>?_))<;>(conv=>whnf)))
          all_goals first
           | (exfalso;omega)
           | (refine RetS.mk [(FK,FK)] [FK] rfl rfl ?_ ?_<;>repeat' (first|exact rfl|exact trivial|exact Or.inl rfl|refine And.intro ?_ ?_))
         ·obtain rfl:=n3 q3
          ((conv=>whnf);repeat' ((first|(with_reducible first|apply a_|apply b_|apply c_)|((with_reducible first|apply d_|apply e_|apply f_|apply g_);focus first|omega|(simp only[q_]<;>omega))|((with_reducible first|apply i_|apply h_);focus first|omega|(simp only[q_]<;>omega))|((with_reducible apply h_);focus first|decide|kernel_rfl)|refine s_ (by decide) ?_|refine t_ (by decide) ?_|with_reducible first|apply l_|apply m_|apply n_|apply o_|refine p_ (fun _=>?_) (fun _=>?_))<;>(conv=>whnf)))
          all_goals first
           | (exfalso;omega)
           | (refine RetS.mk [(FK,FK)] [FK] rfl rfl ?_ ?_<;>repeat' (first|exact rfl|exact trivial|exact Or.inl rfl|refine And.intro ?_ ?_))
   ·obtain⟨x,rfl⟩:∃x,B=[x]:=by
     match B,hB,hB1 with
     | [x],_,_=>exact⟨x,rfl⟩
    exact s_sym2 keys hk X A x Y N hN hN2 hA1 (fun k hk r hr=>hc k hk r (by rcases List.mem_cons.1 hr with h | h<;>simp[h])) sA
  ·obtain⟨x,rfl⟩:∃x,A=[x]:=by
    match A,hA,hA1 with
    | [x],_,_=>exact⟨x,rfl⟩
   exact s_sym1 keys hk X x B Y N hN hN2 hB (fun k hk r hr=>hc k hk r (by rcases List.mem_cons.1 hr with h | h<;>simp[h])) sB
end
section
open Go.RowKit K
set_option maxRecDepth 100000
set_option maxRecDepth 100000
theorem s_stable20 (keys:List KeyD) (hk:keys.length≤1000) (l:List RowT) (hl:l.length<20) (hc:∀k∈keys,∀r∈l,0≤k.Col∧k.Col<r.length):CallS Tryz.prog 43 [.d (.arr FK tRowI 1 0 l.length),pInt .i64 (l.length:Int),.d (keysF keys)] [] [(FK,.arr tRowI 1 (l.map rowC))] (.tup []) [(FK,.arr tRowI 1 ((isrt (ordK keys) l).map rowC))]:=by
 have ps:=s_insort keys hk l (by omega) hc 0 l.length (Nat.zero_le _) (Nat.le_refl _) (isrt (ordK keys) l) (by simp)
 refine callS_of Tryz.func43 (by rfl) rfl (by kernel_rfl) (by rfl) [FK] rfl ?_
 ((conv=>whnf);repeat' ((first|(with_reducible first|apply a_|apply b_|apply c_)|((with_reducible first|apply d_|apply e_|apply f_|apply g_);focus first|omega|(simp only[q_]<;>omega))|((with_reducible first|apply i_|apply h_);focus first|omega|(simp only[q_]<;>omega))|((with_reducible apply h_);focus first|decide|kernel_rfl)|refine s_ (by decide) ?_|refine t_ (by decide) ?_|with_reducible first|apply l_|apply m_|apply n_|apply o_|refine p_ (fun _=>?_) (fun _=>?_))<;>(conv=>whnf)))
 refine LoopC.mk Unit (fun _=>[(0,.d (.arr FK tRowI 1 0 l.length)),(1,pInt .i64 (l.length:Int)),(2,.d (keysF keys)),(6,pInt .i64 20),(7,pInt .i64 0),(8,pInt .i64 20)]) (fun _=>[(FK,.arr tRowI 1 (l.map rowC))]) [FK] (fun _=>True) (fun _=>0) () trivial ?start ?round
 case start=>refine⟨[(FK,FK)],rfl,rfl,?_,?_⟩<;>repeat' (first|exact rfl|exact trivial|exact Or.inl rfl|refine And.intro ?_ ?_)
 case round=>
  intro _ _
  ((conv=>whnf);repeat' ((first|(with_reducible first|apply a_|apply b_|apply c_)|((with_reducible first|apply d_|apply e_|apply f_|apply g_);focus first|omega|(simp only[q_]<;>omega))|((with_reducible first|apply i_|apply h_);focus first|omega|(simp only[q_]<;>omega))|((with_reducible apply h_);focus first|decide|kernel_rfl)|refine s_ (by decide) ?_|refine t_ (by decide) ?_|(refine CallP.ret [(FK,FK)] _ _ _ _ _ _ _ ps rfl rfl rfl rfl ⟨rfl,trivial⟩ ?_)|with_reducible first|apply l_|apply m_|apply n_|apply o_|refine p_ (fun _=>?_) (fun _=>?_))<;>(conv=>whnf)))
  all_goals first
   | (exfalso;omega)
   | skip
  refine LoopC.mk Unit (fun _=>[(0,.d (.arr FK tRowI 1 0 l.length)),(1,pInt .i64 (l.length:Int)),(2,.d (keysF keys)),(6,pInt .i64 20)]) (fun _=>[(FK,.arr tRowI 1 ((isrt (ordK keys) l).map rowC))]) [FK] (fun _=>True) (fun _=>0) () trivial ?start2 ?round2
  case start2=>refine⟨[(FK,FK)],rfl,rfl,?_,?_⟩<;>repeat' (first|exact rfl|exact trivial|exact Or.inl rfl|refine And.intro ?_ ?_)
  case round2=>
   intro _ _
   ((conv=>whnf);repeat' ((first|(with_reducible first|apply a_|apply b_|apply c_)|((with_reducible first|apply d_|apply e_|apply f_|apply g_);focus first|omega|(simp only[q_]<;>omega))|((with_reducible first|apply i_|apply h_);focus first|omega|(simp only[q_]<;>omega))|((with_reducible apply h_);focus first|decide|kernel_rfl)|refine s_ (by decide) ?_|refine t_ (by decide) ?_|with_reducible first|apply l_|apply m_|apply n_|apply o_|refine p_ (fun _=>?_) (fun _=>?_))<;>(conv=>whnf)))
   all_goals first
    | (exfalso;omega)
    | (refine RetS.mk [(FK,FK)] [FK] rfl rfl ?_ ?_<;>repeat' (first|exact rfl|exact trivial|exact Or.inl rfl|refine And.intro ?_ ?_))
theorem s_sortstable20 (keys:List KeyD) (hk:keys.length≤1000) (l:List RowT) (hl:l.length<20) (hc:∀k∈keys,∀r∈l,0≤k.Col∧k.Col<r.length):CallS Tryz.prog 17 [.d (.arr FK tRowI 1 0 l.length),.d (keysF keys)] [] [(FK,.arr tRowI 1 (l.map rowC))] (.tup []) [(FK,.arr tRowI 1 ((isrt (ordK keys) l).map rowC))]:=by
 have ps:=s_stable20 keys hk l hl hc
 refine callS_of Tryz.func17 (by rfl) rfl (by kernel_rfl) (by rfl) [FK] rfl ?_
 ((conv=>whnf);repeat' ((first|(with_reducible first|apply a_|apply b_|apply c_)|((with_reducible first|apply d_|apply e_|apply f_|apply g_);focus first|omega|(simp only[q_]<;>omega))|((with_reducible first|apply i_|apply h_);focus first|omega|(simp only[q_]<;>omega))|((with_reducible apply h_);focus first|decide|kernel_rfl)|refine s_ (by decide) ?_|refine t_ (by decide) ?_|(refine CallP.ret [(FK,FK)] _ _ _ _ _ _ _ ps rfl rfl rfl rfl ⟨rfl,trivial⟩ ?_)|with_reducible first|apply l_|apply m_|apply n_|apply o_|refine p_ (fun _=>?_) (fun _=>?_))<;>(conv=>whnf)))
 refine RetS.mk [(FK,FK)] [FK] rfl rfl ?_ ?_<;>repeat' (first|exact rfl|exact trivial|exact Or.inl rfl|refine And.intro ?_ ?_)
theorem s_own_rows (l:List RowT) (hl:l.length≤1000) (hr:∀r∈l,r.length≤1000):CallS Tryz.prog 16 [rwsV l] [] [] (.d (.arr NK tRowI 1 0 l.length)) [(NK,.arr tRowI 1 (l.map rowC))]:=by
 refine callS_of Tryz.func16 (by rfl) rfl (by kernel_rfl) (by rfl) [] rfl ?_
 ((conv=>whnf);repeat' ((first|(with_reducible first|apply a_|apply b_|apply c_)|((with_reducible first|apply d_|apply e_|apply f_|apply g_);focus first|omega|(simp only[q_]<;>omega))|((with_reducible first|apply i_|apply h_);focus first|omega|(simp only[q_]<;>omega))|((with_reducible apply h_);focus first|decide|kernel_rfl)|refine s_ (by decide) ?_|refine t_ (by decide) ?_|with_reducible first|apply l_|apply m_|apply n_|apply o_|refine p_ (fun _=>?_) (fun _=>?_))<;>(conv=>whnf)))
 refine LoopC.mk Nat (fun k=>[(3,.d (.arr 60 tRowI 1 0 k)),(6,rwsV l),(7,pInt .i64 l.length),(8,pInt .i64 (k:Int))]) (fun k=>[(60,.arr tRowI 1 ((l.take k).map rowC))]) [60] (fun k=>k≤l.length) (fun k=>l.length - k) 0 (Nat.zero_le _) ?start ?round
 case start=>
  refine⟨[],rfl,rfl,?_,?_⟩<;>repeat' (first|exact rfl|exact trivial|exact Or.inl rfl|exact Nat.zero_lt_succ _|refine And.intro ?_ ?_)
  all_goals exact PLe.int (by simp)
 case round=>
  intro k hk
  have hk:k≤l.length:=hk
  by_cases q:k<l.length
  ·have pc:=p_cloneV l[k] (by have:=hr _ (List.getElem_mem q);omega)
   have hml:((l.take k).map rowC).length=k:=by rw[List.length_map,List.length_take];omega
   ((conv=>whnf);repeat' ((first|(with_reducible first|apply a_|apply b_|apply c_)|((with_reducible first|apply d_|apply e_|apply f_|apply g_);focus first|omega|(simp only[q_]<;>omega))|((with_reducible first|apply i_|apply h_);focus first|omega|(simp only[q_]<;>omega))|((with_reducible apply h_);focus first|decide|kernel_rfl)|refine s_ (by decide) ?_|refine t_ (by decide) ?_|(refine Idx.mapI (f:=rowC) k rfl q ?_)|refine r_ pc rfl ?_|(refine Need.by 24 rfl (by simp only[List.length_singleton];omega) ?_)|with_reducible first|apply l_|apply m_|apply n_|apply o_|refine p_ (fun _=>?_) (fun _=>?_))<;>(conv=>whnf)))
   all_goals first
    | (exfalso;omega)
    | skip
   refine⟨k+1,by show k+1≤_;omega,by show l.length - (k+1)<l.length - k;omega,[(60,16)],rfl,rfl,?_,?_⟩<;>repeat' (first|exact rfl|exact trivial|exact Or.inl rfl|refine And.intro ?_ ?_)
   all_goals first|exact PLe.int (by simp) | exact PLe.int (by omega) | skip
   rw[List.take_of_length_le (by omega),take_snoc q,List.map_append];rfl
  ·have e:k=l.length:=by omega
   subst e
   ((conv=>whnf);repeat' ((first|(with_reducible first|apply a_|apply b_|apply c_)|((with_reducible first|apply d_|apply e_|apply f_|apply g_);focus first|omega|(simp only[q_]<;>omega))|((with_reducible first|apply i_|apply h_);focus first|omega|(simp only[q_]<;>omega))|((with_reducible apply h_);focus first|decide|kernel_rfl)|refine s_ (by decide) ?_|refine t_ (by decide) ?_|with_reducible first|apply l_|apply m_|apply n_|apply o_|refine p_ (fun _=>?_) (fun _=>?_))<;>(conv=>whnf)))
   refine RetS.mk [(NK,60)] [NK] rfl rfl ?_ ?_<;>repeat' (first|exact rfl|exact trivial|exact Or.inl rfl|refine And.intro ?_ ?_)
   all_goals first | (show _=l.map rowC;rw[List.take_length]) | skip
def keysBad (l:List RowT):List KeyD→Bool
 | []=>false
 | k::ks=>decide (placesF l [k.Col]≠0)||keysBad l ks
theorem places_one (l:List RowT) (c:Int):placesF l [c]=if 0<l.length∧(c<0∨(widthF l:Int)≤c) then 3 else 0:=rfl
def sortF (l:List RowT) (keys:List KeyD):List RowT×Int:=
 if rowsChk l≠0 then ([],rowsChk l) else if 8<keys.length then ([],2) else if keysBad l keys then ([],3) else (isrt (ordK keys) l,0)
theorem p_Sort20 (l:List RowT) (keys:List KeyD) (h20:rowsChk l=0→8<keys.length∨keysBad l keys=true∨l.length<20):Pure Tryz.prog 7 [rwsV l,slV 2 KeyD.c keys] (.tup [rwsV (sortF l keys).1,pInt .i64 (sortF l keys).2]):=by
 have pc:=p_bagcheck l
 have hkl:(keys.map KeyD.c).length=keys.length:=List.length_map _
 refine pure_of Tryz.func7 (by rfl) rfl (by kernel_rfl) (by rfl) ?_
 unfold sortF
 by_cases h1:rowsChk l=0
 ·rw[if_neg (not_not_intro h1)]
  rw[h1] at pc
  obtain⟨h40,h8⟩:=rowsChk_ok.1 h1
  by_cases h2:8<keys.length
  ·rw[if_pos h2]
   ((conv=>whnf);repeat' ((first|(with_reducible first|apply a_|apply b_|apply c_)|((with_reducible first|apply d_|apply e_|apply f_|apply g_);focus first|omega|(simp only[q_]<;>omega))|((with_reducible first|apply i_|apply h_);focus first|omega|(simp only[q_]<;>omega))|((with_reducible apply h_);focus first|decide|kernel_rfl)|refine s_ (by decide) ?_|refine t_ (by decide) ?_|refine r_ pc rfl ?_|with_reducible first|apply l_|apply m_|apply n_|apply o_|refine p_ (fun _=>?_) (fun _=>?_))<;>(conv=>whnf)))
   all_goals first|exact Ret.le ⟨.inr ⟨⟨1,rfl⟩,.inl rfl⟩,.inl rfl,rfl⟩ | (exfalso;omega)
  ·rw[if_neg h2]
   ((conv=>whnf);repeat' ((first|(with_reducible first|apply a_|apply b_|apply c_)|((with_reducible first|apply d_|apply e_|apply f_|apply g_);focus first|omega|(simp only[q_]<;>omega))|((with_reducible first|apply i_|apply h_);focus first|omega|(simp only[q_]<;>omega))|((with_reducible apply h_);focus first|decide|kernel_rfl)|refine s_ (by decide) ?_|refine t_ (by decide) ?_|refine r_ pc rfl ?_|with_reducible first|apply l_|apply m_|apply n_|apply o_|refine p_ (fun _=>?_) (fun _=>?_))<;>(conv=>whnf)))
   refine LoopC.mk Nat (fun k=>[(0,rwsV l),(1,slV 2 KeyD.c keys),(19,slV 2 KeyD.c keys),(20,pInt .i64 keys.length),(21,pInt .i64 (k:Int))]) (fun _=>[]) [] (fun k=>k≤keys.length∧keysBad l keys=keysBad l (keys.drop k)∧∀x∈keys.take k,placesF l [x.Col]=0) (fun k=>keys.length - k) 0 ⟨Nat.zero_le _,by rw[List.drop_zero],by simp⟩ ?start ?round
   case start=>exact⟨[],rfl,rfl,⟨.inl rfl,.inl rfl,.inl rfl,PLe.int (by simp),.inl rfl,trivial⟩,trivial⟩
   case round=>
    rintro k ⟨hk,hz,hp⟩
    have hk:k≤keys.length:=hk
    have hz:keysBad l keys=keysBad l (keys.drop k):=hz
    have hp:∀x∈keys.take k,placesF l [x.Col]=0:=hp
    by_cases q:k<keys.length
    ·rw[List.drop_eq_getElem_cons q,keysBad] at hz
     have pp:=p_places l (fun r hr=>by have:=(h8 r hr).1;omega) [keys[k].Col] (by simp)
     by_cases h:placesF l [keys[k].Col]=0
     ·rw[h] at pp hz
      have hz:keysBad l keys=keysBad l (keys.drop (k+1)):=hz
      ((conv=>whnf);repeat' ((first|(with_reducible first|apply a_|apply b_|apply c_)|((with_reducible first|apply d_|apply e_|apply f_|apply g_);focus first|omega|(simp only[q_]<;>omega))|((with_reducible first|apply i_|apply h_);focus first|omega|(simp only[q_]<;>omega))|((with_reducible apply h_);focus first|decide|kernel_rfl)|refine s_ (by decide) ?_|refine t_ (by decide) ?_|(refine Idx.mapI (f:=KeyD.c) k rfl q ?_)|refine r_ pp rfl ?_|with_reducible first|apply l_|apply m_|apply n_|apply o_|refine p_ (fun _=>?_) (fun _=>?_))<;>(conv=>whnf)))
      all_goals first
       | (exfalso;omega)
       | skip
      refine⟨k+1,⟨by show k+1≤_;omega,hz,fun x hx=>?_⟩,by show keys.length - (k+1)<keys.length - k;omega,[],rfl,rfl,⟨.inl rfl,.inl rfl,.inl rfl,PLe.int (by simp),PLe.int (by omega),trivial⟩,trivial⟩
      rw[take_snoc q,List.mem_append,List.mem_singleton] at hx
      rcases hx with hx | rfl
      ·exact hp x hx
      ·exact h
     ·have h3:placesF l [keys[k].Col]=3:=by
       rw[places_one] at h ⊢
       split at h
       ·rename_i g;rw[if_pos g]
       ·exact absurd rfl h
      rw[h3] at pp hz
      have hz:keysBad l keys=true:=hz
      rw[if_pos hz]
      ((conv=>whnf);repeat' ((first|(with_reducible first|apply a_|apply b_|apply c_)|((with_reducible first|apply d_|apply e_|apply f_|apply g_);focus first|omega|(simp only[q_]<;>omega))|((with_reducible first|apply i_|apply h_);focus first|omega|(simp only[q_]<;>omega))|((with_reducible apply h_);focus first|decide|kernel_rfl)|refine s_ (by decide) ?_|refine t_ (by decide) ?_|(refine Idx.mapI (f:=KeyD.c) k rfl q ?_)|refine r_ pp rfl ?_|with_reducible first|apply l_|apply m_|apply n_|apply o_|refine p_ (fun _=>?_) (fun _=>?_))<;>(conv=>whnf)))
      all_goals first|exact Ret.le ⟨.inr ⟨⟨1,rfl⟩,.inl rfl⟩,.inl rfl,rfl⟩ | (exfalso;omega)
    ·have e1:keys.take k=keys:=List.take_of_length_le (by omega)
     rw[e1] at hp
     rw[List.drop_of_length_le (by omega)] at hz
     have hz:keysBad l keys=false:=hz
     rw[hz,if_neg (by decide)]
     have hl20:l.length<20:=by
      rcases h20 h1 with g | g | g
      ·exact absurd g h2
      ·rw[hz] at g;cases g
      ·exact g
     have po:=s_own_rows l (by omega) fun r hr=>by have:=(h8 r hr).1;omega
     have ps:=s_sortstable20 keys (by omega) l hl20 fun k hk r hr=>by
      have:=hp k hk
      rw[places_one] at this
      have hlp:0<l.length:=List.length_pos_of_mem hr
      have hw:=(h8 r hr).2.1
      split at this
      ·cases this
      ·rename_i g
       constructor
       ·apply Decidable.byContradiction;intro x;exact g ⟨hlp,.inl (by omega)⟩
       ·apply Decidable.byContradiction;intro x;exact g ⟨hlp,.inr (by omega)⟩
     ((conv=>whnf);repeat' ((first|(with_reducible first|apply a_|apply b_|apply c_)|((with_reducible first|apply d_|apply e_|apply f_|apply g_);focus first|omega|(simp only[q_]<;>omega))|((with_reducible first|apply i_|apply h_);focus first|omega|(simp only[q_]<;>omega))|((with_reducible apply h_);focus first|decide|kernel_rfl)|refine s_ (by decide) ?_|refine t_ (by decide) ?_|(first|refine CallP.ret [(NK,35)] _ _ _ _ _ _ _ po rfl rfl rfl rfl trivial ?_|refine CallP.ret [(FK,35)] _ _ _ _ _ _ _ ps rfl rfl rfl rfl ⟨rfl,trivial⟩ ?_)|with_reducible first|apply l_|apply m_|apply n_|apply o_|refine p_ (fun _=>?_) (fun _=>?_))<;>(conv=>whnf)))
     all_goals first | (exfalso;omega) | skip
     refine Need.mk (by rw[List.length_map,isrt_len];omega) ?_
     ((conv=>whnf);repeat' ((first|(with_reducible first|apply a_|apply b_|apply c_)|((with_reducible first|apply d_|apply e_|apply f_|apply g_);focus first|omega|(simp only[q_]<;>omega))|((with_reducible first|apply i_|apply h_);focus first|omega|(simp only[q_]<;>omega))|((with_reducible apply h_);focus first|decide|kernel_rfl)|refine s_ (by decide) ?_|refine t_ (by decide) ?_|with_reducible first|apply l_|apply m_|apply n_|apply o_|refine p_ (fun _=>?_) (fun _=>?_))<;>(conv=>whnf)))
     refine Ret.eq ?_
     show PV.tup [PV.d (D.c (C.sl 1 (List.take _ (List.drop 0 _)))),_]=_
     rw[List.drop_zero,List.take_of_length_le (by rw[List.length_map,isrt_len];exact Nat.le_refl _)]
 ·rw[if_pos h1]
  ((conv=>whnf);repeat' ((first|(with_reducible first|apply a_|apply b_|apply c_)|((with_reducible first|apply d_|apply e_|apply f_|apply g_);focus first|omega|(simp only[q_]<;>omega))|((with_reducible first|apply i_|apply h_);focus first|omega|(simp only[q_]<;>omega))|((with_reducible apply h_);focus first|decide|kernel_rfl)|refine s_ (by decide) ?_|refine t_ (by decide) ?_|refine r_ pc rfl ?_|with_reducible first|apply l_|apply m_|apply n_|apply o_|refine p_ (fun _=>?_) (fun _=>?_))<;>(conv=>whnf)))
  all_goals first|exact Ret.le ⟨.inr ⟨⟨1,rfl⟩,.inl rfl⟩,.inl rfl,rfl⟩ | (exfalso;omega)
end
section
open Go.RowKit K
set_option maxRecDepth 100000
set_option maxRecDepth 100000
def blkR (f:RowT→RowT→Int) (l:List RowT):Nat→List RowT
 | 0=>l
 | 1=>isrt f (l.take 20)++l.drop 20
 | _=>isrt f (l.take 20)++isrt f (l.drop 20)
theorem blkR_len (f:RowT→RowT→Int) (l:List RowT) (k:Nat):(blkR f l k).length=l.length:=by
 match k with
 | 0=>rfl
 | 1=>show (isrt f (l.take 20)++l.drop 20).length=_;rw[List.length_append,isrt_len,List.length_take,List.length_drop];omega
 | k+2=>show (isrt f (l.take 20)++isrt f (l.drop 20)).length=_;rw[List.length_append,isrt_len,isrt_len,List.length_take,List.length_drop];omega
theorem blkR_mem (f:RowT→RowT→Int) (l:List RowT) (k:Nat):∀r∈blkR f l k,r∈l:=by
 intro r h
 match k with
 | 0=>exact h
 | 1=>
  rcases List.mem_append.1 (show r∈isrt f (l.take 20)++l.drop 20 from h) with h | h
  ·exact List.mem_of_mem_take (isrt_mem h)
  ·exact List.mem_of_mem_drop h
 | k+2=>
  rcases List.mem_append.1 (show r∈isrt f (l.take 20)++isrt f (l.drop 20) from h) with h | h
  ·exact List.mem_of_mem_take (isrt_mem h)
  ·exact List.mem_of_mem_drop (isrt_mem h)
theorem blkR_0 (f:RowT→RowT→Int) (l:List RowT):blkR f l 1=(blkR f l 0).take 0++isrt f (((blkR f l 0).drop 0).take (20 - 0))++(blkR f l 0).drop 20:=rfl
theorem blkR_1 (f:RowT→RowT→Int) (l:List RowT) (h:20≤l.length) (n:Nat) (hn:n=l.length):blkR f l 2=(blkR f l 1).take 20++isrt f (((blkR f l 1).drop 20).take (n - 20))++(blkR f l 1).drop n:=by
 have h1:(isrt f (l.take 20)).length=20:=by rw[isrt_len,List.length_take];omega
 have e1:(blkR f l 1).take 20=isrt f (l.take 20):=List.take_left' h1
 have e2:(blkR f l 1).drop 20=l.drop 20:=List.drop_left' h1
 have e3:(l.drop 20).take (n - 20)=l.drop 20:=List.take_of_length_le (by rw[List.length_drop];omega)
 have e4:(blkR f l 1).drop n=[]:=List.drop_of_length_le (by rw[blkR_len];omega)
 rw[e1,e2,e3,e4,List.append_nil]
 rfl
theorem blkR_2 (f:RowT→RowT→Int) (l:List RowT) (n:Nat) (hn:n=l.length):blkR f l 2=(blkR f l 2).take n++isrt f (((blkR f l 2).drop n).take (n - n))++(blkR f l 2).drop n:=by
 rw[List.take_of_length_le (by rw[blkR_len];omega),List.drop_of_length_le (by rw[blkR_len];omega)]
 simp[isrt]
theorem s_stable40 (keys:List KeyD) (hk:keys.length≤1000) (l:List RowT) (hl:20≤l.length) (hl2:l.length≤40) (hc:KeysOk keys l):CallS Tryz.prog 43 [.d (.arr FK tRowI 1 0 l.length),pInt .i64 (l.length:Int),.d (keysF keys)] [] [(FK,.arr tRowI 1 (l.map rowC))] (.tup []) [(FK,.arr tRowI 1 ((isrt (ordK keys) l).map rowC))]:=by
 have hf:=ordK_ord keys
 have ins:∀(k a b k':Nat),a≤b→b≤l.length→blkR (ordK keys) l k'=(blkR (ordK keys) l k).take a++isrt (ordK keys) (((blkR (ordK keys) l k).drop a).take (b - a))++(blkR (ordK keys) l k).drop b→CallS Tryz.prog 62 [.d (.arr FK tRowI 1 0 l.length),pInt .i64 a,pInt .i64 b,.d (keysF keys)] [] [(FK,.arr tRowI 1 ((blkR (ordK keys) l k).map rowC))] (.tup []) [(FK,.arr tRowI 1 ((blkR (ordK keys) l k').map rowC))]:=fun k a b k' h1 h2 h3=>by
  have:=s_insort keys hk (blkR (ordK keys) l k) (by rw[blkR_len];omega) (fun x hx r hr=>hc x hx r (blkR_mem _ _ _ r hr)) a b h1 (by rw[blkR_len];exact h2) _ h3
  rw[blkR_len] at this
  exact this
 refine callS_of Tryz.func43 (by rfl) rfl (by kernel_rfl) (by rfl) [FK] rfl ?_
 ((conv=>whnf);repeat' ((first|(with_reducible first|apply a_|apply b_|apply c_)|((with_reducible first|apply d_|apply e_|apply f_|apply g_);focus first|omega|(simp only[q_]<;>omega))|((with_reducible first|apply i_|apply h_);focus first|omega|(simp only[q_]<;>omega))|((with_reducible apply h_);focus first|decide|kernel_rfl)|refine s_ (by decide) ?_|refine t_ (by decide) ?_|with_reducible first|apply l_|apply m_|apply n_|apply o_|refine p_ (fun _=>?_) (fun _=>?_))<;>(conv=>whnf)))
 refine LoopC.mk Nat (fun k=>[(0,.d (.arr FK tRowI 1 0 l.length)),(1,pInt .i64 (l.length:Int)),(2,.d (keysF keys)),(6,pInt .i64 20),(7,pInt .i64 ((20*k:Nat):Int)),(8,pInt .i64 ((20*k+20:Nat):Int))]) (fun k=>[(FK,.arr tRowI 1 ((blkR (ordK keys) l k).map rowC))]) [FK] (fun k=>k≤2∧20*k≤l.length) (fun k=>2 - k) 0 ⟨by decide,Nat.zero_le _⟩ ?start ?round
 case start=>refine⟨[(FK,FK)],rfl,rfl,?_,?_⟩<;>repeat' (first|exact rfl|exact trivial|exact Or.inl rfl|refine And.intro ?_ ?_)
 case round=>
  rintro k ⟨hk1,hk2⟩
  have hk1:k≤2:=hk1
  have hk2:20*k≤l.length:=hk2
  by_cases q:20*k+20≤l.length
  ·have hk3:k=0∨k=1:=by omega
   have pi:CallS Tryz.prog 62 [.d (.arr FK tRowI 1 0 l.length),pInt .i64 ((20*k:Nat):Int),pInt .i64 ((20*k+20:Nat):Int),.d (keysF keys)] [] [(FK,.arr tRowI 1 ((blkR (ordK keys) l k).map rowC))] (.tup []) [(FK,.arr tRowI 1 ((blkR (ordK keys) l (k+1)).map rowC))]:=by
    refine ins k _ _ (k+1) (by omega) q ?_
    rcases hk3 with rfl | rfl
    ·exact blkR_0 _ _
    ·exact blkR_1 _ _ hl _ (by omega)
   ((conv=>whnf);repeat' ((first|(with_reducible first|apply a_|apply b_|apply c_)|((with_reducible first|apply d_|apply e_|apply f_|apply g_);focus first|omega|(simp only[q_]<;>omega))|((with_reducible first|apply i_|apply h_);focus first|omega|(simp only[q_]<;>omega))|((with_reducible apply h_);focus first|decide|kernel_rfl)|refine s_ (by decide) ?_|refine t_ (by decide) ?_|(refine CallP.ret [(FK,FK)] _ _ _ _ _ _ _ pi rfl rfl rfl rfl ⟨rfl,trivial⟩ ?_)|with_reducible first|apply l_|apply m_|apply n_|apply o_|refine p_ (fun _=>?_) (fun _=>?_))<;>(conv=>whnf)))
   all_goals first
    | (exfalso;omega)
    | skip
   refine⟨k+1,⟨by show k+1≤2;omega,by show 20*(k+1)≤l.length;omega⟩,by show 2 - (k+1)<2 - k;omega,[(FK,FK)],rfl,rfl,?_,?_⟩<;>repeat' (first|exact rfl|exact trivial|exact Or.inl rfl|refine And.intro ?_ ?_)
   all_goals first
    | exact PLe.int (show ((20*k+20:Nat):Int)=((20*(k+1):Nat):Int) by omega)
    | exact PLe.int (show ((20*k+20:Nat):Int)+20=((20*(k+1)+20:Nat):Int) by omega)
  ·have hk3:(k=1∧l.length<40)∨(k=2∧l.length=40):=by omega
   have pi:CallS Tryz.prog 62 [.d (.arr FK tRowI 1 0 l.length),pInt .i64 ((20*k:Nat):Int),pInt .i64 (l.length:Int),.d (keysF keys)] [] [(FK,.arr tRowI 1 ((blkR (ordK keys) l k).map rowC))] (.tup []) [(FK,.arr tRowI 1 ((blkR (ordK keys) l 2).map rowC))]:=by
    refine ins k _ _ 2 hk2 (Nat.le_refl _) ?_
    rcases hk3 with ⟨rfl,_⟩ | ⟨rfl,h⟩
    ·exact blkR_1 _ _ hl _ rfl
    ·rw[show 20*2=l.length by omega]
     exact blkR_2 _ _ _ rfl
   have hmg:isrt (ordK keys) l=mgR (ordK keys) (isrt (ordK keys) (l.take 20)) (isrt (ordK keys) (l.drop 20)):=by
    conv=>lhs;rw[← List.take_append_drop 20 l]
    exact isrt_app hf _ _
   have l1:(isrt (ordK keys) (l.take 20)).length=20:=by rw[isrt_len,List.length_take];omega
   have l2:(isrt (ordK keys) (l.drop 20)).length=l.length - 20:=by rw[isrt_len,List.length_drop]
   have sy:∀b:Int,b=(l.length:Int)→20<l.length→CallS Tryz.prog 63 [.d (.arr FK tRowI 1 0 l.length),pInt .i64 0,pInt .i64 20,pInt .i64 b,.d (keysF keys)] [] [(FK,.arr tRowI 1 ((blkR (ordK keys) l 2).map rowC))] (.tup []) [(FK,.arr tRowI 1 ((isrt (ordK keys) l).map rowC))]:=fun b eb g=>by
    subst eb
    have:=s_sym keys hk l.length (by omega) _ [] (isrt (ordK keys) (l.take 20)) (isrt (ordK keys) (l.drop 20)) [] (Nat.le_refl _) (by simp only[List.append_nil,List.nil_append];exact blkR_len (ordK keys) l 2) (by omega) (by omega) (fun x hx r hr=>hc x hx r (blkR_mem (ordK keys) l 2 r hr)) (srt_isrt hf _) (srt_isrt hf _)
    unfold SymOk at this
    rw[← hmg,List.length_nil,Nat.zero_add,l1,l2,show 20+(l.length - 20)=l.length by omega,List.append_nil,List.nil_append,List.append_nil,List.nil_append] at this
    exact this
   ((conv=>whnf);repeat' ((first|(with_reducible first|apply a_|apply b_|apply c_)|((with_reducible first|apply d_|apply e_|apply f_|apply g_);focus first|omega|(simp only[q_]<;>omega))|((with_reducible first|apply i_|apply h_);focus first|omega|(simp only[q_]<;>omega))|((with_reducible apply h_);focus first|decide|kernel_rfl)|refine s_ (by decide) ?_|refine t_ (by decide) ?_|(refine CallP.ret [(FK,FK)] _ _ _ _ _ _ _ pi rfl rfl rfl rfl ⟨rfl,trivial⟩ ?_)|with_reducible first|apply l_|apply m_|apply n_|apply o_|refine p_ (fun _=>?_) (fun _=>?_))<;>(conv=>whnf)))
   all_goals first
    | (exfalso;omega)
    | skip
   refine LoopC.mk Nat (fun k=>[(0,.d (.arr FK tRowI 1 0 l.length)),(1,pInt .i64 (l.length:Int)),(2,.d (keysF keys)),(6,pInt .i64 ((20*(k+1):Nat):Int))]) (fun k=>[(FK,.arr tRowI 1 ((if k=0 then blkR (ordK keys) l 2 else isrt (ordK keys) l).map rowC))]) [FK] (fun k=>k≤1) (fun k=>1 - k) 0 (Nat.zero_le _) ?start2 ?round2
   case start2=>refine⟨[(FK,FK)],rfl,rfl,?_,?_⟩<;>repeat' (first|exact rfl|exact trivial|exact Or.inl rfl|refine And.intro ?_ ?_)
   case round2=>
    intro z hz
    have hz:z≤1:=hz
    rcases (show z=0∨z=1 by omega) with rfl | rfl
    ·rcases Nat.lt_or_ge 20 l.length with g | g
     ·rw[if_pos rfl]
      ((conv=>whnf);repeat' ((first|(with_reducible first|apply a_|apply b_|apply c_)|((with_reducible first|apply d_|apply e_|apply f_|apply g_);focus first|omega|(simp only[q_]<;>omega))|((with_reducible first|apply i_|apply h_);focus first|omega|(simp only[q_]<;>omega))|((with_reducible apply h_);focus first|decide|kernel_rfl)|refine s_ (by decide) ?_|refine t_ (by decide) ?_|with_reducible first|apply l_|apply m_|apply n_|apply o_|refine p_ (fun _=>?_) (fun _=>?_))<;>(conv=>whnf)))
      all_goals first | (exfalso;omega) | skip
      refine LoopC.mk Nat (fun k=>[(0,.d (.arr FK tRowI 1 0 l.length)),(1,pInt .i64 (l.length:Int)),(2,.d (keysF keys)),(6,pInt .i64 20),(7,pInt .i64 ((40*k:Nat):Int)),(8,pInt .i64 ((40*k+40:Nat):Int))]) (fun k=>[(FK,.arr tRowI 1 ((if k=0 then blkR (ordK keys) l 2 else isrt (ordK keys) l).map rowC))]) [FK] (fun k=>k≤1∧40*k≤l.length) (fun k=>1 - k) 0 ⟨Nat.zero_le _,Nat.zero_le _⟩ ?start3 ?round3
      case start3=>refine⟨[(FK,FK)],rfl,rfl,?_,?_⟩<;>repeat' (first|exact rfl|exact trivial|exact Or.inl rfl|refine And.intro ?_ ?_)
      case round3=>
       rintro y ⟨hy,hy2⟩
       have hy:y≤1:=hy
       have hy2:40*y≤l.length:=hy2
       rcases (show y=0∨y=1 by omega) with rfl | rfl
       ·rw[if_pos rfl]
        rcases Nat.lt_or_ge l.length 40 with g4 | g4
        ·have sy':=sy _ rfl g
         ((conv=>whnf);repeat' ((first|(with_reducible first|apply a_|apply b_|apply c_)|((with_reducible first|apply d_|apply e_|apply f_|apply g_);focus first|omega|(simp only[q_]<;>omega))|((with_reducible first|apply i_|apply h_);focus first|omega|(simp only[q_]<;>omega))|((with_reducible apply h_);focus first|decide|kernel_rfl)|refine s_ (by decide) ?_|refine t_ (by decide) ?_|(refine CallP.ret [(FK,FK)] _ _ _ _ _ _ _ sy' rfl rfl rfl rfl ⟨rfl,trivial⟩ ?_)|with_reducible first|apply l_|apply m_|apply n_|apply o_|refine p_ (fun _=>?_) (fun _=>?_))<;>(conv=>whnf)))
         all_goals first | (exfalso;omega) | skip
         refine⟨1,Nat.le_refl _,by decide,[(FK,FK)],rfl,rfl,?_,?_⟩<;>repeat' (first|exact rfl|exact trivial|exact Or.inl rfl|refine And.intro ?_ ?_)
        ·have h40:l.length=40:=by omega
         have sy':=sy 40 (by omega) g
         ((conv=>whnf);repeat' ((first|(with_reducible first|apply a_|apply b_|apply c_)|((with_reducible first|apply d_|apply e_|apply f_|apply g_);focus first|omega|(simp only[q_]<;>omega))|((with_reducible first|apply i_|apply h_);focus first|omega|(simp only[q_]<;>omega))|((with_reducible apply h_);focus first|decide|kernel_rfl)|refine s_ (by decide) ?_|refine t_ (by decide) ?_|(refine CallP.ret [(FK,FK)] _ _ _ _ _ _ _ sy' rfl rfl rfl rfl ⟨rfl,trivial⟩ ?_)|with_reducible first|apply l_|apply m_|apply n_|apply o_|refine p_ (fun _=>?_) (fun _=>?_))<;>(conv=>whnf)))
         all_goals first | (exfalso;omega) | skip
         refine⟨1,⟨Nat.le_refl _,by show 40*1≤l.length;omega⟩,by decide,[(FK,FK)],rfl,rfl,?_,?_⟩<;>repeat' (first|exact rfl|exact trivial|exact Or.inl rfl|refine And.intro ?_ ?_)
       ·rw[if_neg (by decide)]
        ((conv=>whnf);repeat' ((first|(with_reducible first|apply a_|apply b_|apply c_)|((with_reducible first|apply d_|apply e_|apply f_|apply g_);focus first|omega|(simp only[q_]<;>omega))|((with_reducible first|apply i_|apply h_);focus first|omega|(simp only[q_]<;>omega))|((with_reducible apply h_);focus first|decide|kernel_rfl)|refine s_ (by decide) ?_|refine t_ (by decide) ?_|with_reducible first|apply l_|apply m_|apply n_|apply o_|refine p_ (fun _=>?_) (fun _=>?_))<;>(conv=>whnf)))
        all_goals first | (exfalso;omega) | skip
        refine⟨1,Nat.le_refl _,by decide,[(FK,FK)],rfl,rfl,?_,?_⟩<;>repeat' (first|exact rfl|exact trivial|exact Or.inl rfl|refine And.intro ?_ ?_)
     ·have e2:blkR (ordK keys) l 2=isrt (ordK keys) l:=by
       have e3:isrt (ordK keys) (l.drop 20)=[]:=List.eq_nil_of_length_eq_zero (by omega)
       rw[hmg,e3,mg_end]
       show isrt (ordK keys) (l.take 20)++isrt (ordK keys) (l.drop 20)=_
       rw[e3,List.append_nil]
      rw[if_pos rfl,e2]
      ((conv=>whnf);repeat' ((first|(with_reducible first|apply a_|apply b_|apply c_)|((with_reducible first|apply d_|apply e_|apply f_|apply g_);focus first|omega|(simp only[q_]<;>omega))|((with_reducible first|apply i_|apply h_);focus first|omega|(simp only[q_]<;>omega))|((with_reducible apply h_);focus first|decide|kernel_rfl)|refine s_ (by decide) ?_|refine t_ (by decide) ?_|with_reducible first|apply l_|apply m_|apply n_|apply o_|refine p_ (fun _=>?_) (fun _=>?_))<;>(conv=>whnf)))
      all_goals first
       | (exfalso;omega)
       | (refine RetS.mk [(FK,FK)] [FK] rfl rfl ?_ ?_<;>repeat' (first|exact rfl|exact trivial|exact Or.inl rfl|refine And.intro ?_ ?_))
    ·rw[if_neg (by decide)]
     ((conv=>whnf);repeat' ((first|(with_reducible first|apply a_|apply b_|apply c_)|((with_reducible first|apply d_|apply e_|apply f_|apply g_);focus first|omega|(simp only[q_]<;>omega))|((with_reducible first|apply i_|apply h_);focus first|omega|(simp only[q_]<;>omega))|((with_reducible apply h_);focus first|decide|kernel_rfl)|refine s_ (by decide) ?_|refine t_ (by decide) ?_|with_reducible first|apply l_|apply m_|apply n_|apply o_|refine p_ (fun _=>?_) (fun _=>?_))<;>(conv=>whnf)))
     all_goals first
      | (exfalso;omega)
      | (refine RetS.mk [(FK,FK)] [FK] rfl rfl ?_ ?_<;>repeat' (first|exact rfl|exact trivial|exact Or.inl rfl|refine And.intro ?_ ?_))
theorem s_sortstable (keys:List KeyD) (hk:keys.length≤1000) (l:List RowT) (hl:l.length≤40) (hc:KeysOk keys l):CallS Tryz.prog 17 [.d (.arr FK tRowI 1 0 l.length),.d (keysF keys)] [] [(FK,.arr tRowI 1 (l.map rowC))] (.tup []) [(FK,.arr tRowI 1 ((isrt (ordK keys) l).map rowC))]:=by
 rcases Nat.lt_or_ge l.length 20 with h | h
 ·exact s_sortstable20 keys hk l h hc
 ·have ps:=s_stable40 keys hk l h hl hc
  refine callS_of Tryz.func17 (by rfl) rfl (by kernel_rfl) (by rfl) [FK] rfl ?_
  ((conv=>whnf);repeat' ((first|(with_reducible first|apply a_|apply b_|apply c_)|((with_reducible first|apply d_|apply e_|apply f_|apply g_);focus first|omega|(simp only[q_]<;>omega))|((with_reducible first|apply i_|apply h_);focus first|omega|(simp only[q_]<;>omega))|((with_reducible apply h_);focus first|decide|kernel_rfl)|refine s_ (by decide) ?_|refine t_ (by decide) ?_|(refine CallP.ret [(FK,FK)] _ _ _ _ _ _ _ ps rfl rfl rfl rfl ⟨rfl,trivial⟩ ?_)|with_reducible first|apply l_|apply m_|apply n_|apply o_|refine p_ (fun _=>?_) (fun _=>?_))<;>(conv=>whnf)))
  refine RetS.mk [(FK,FK)] [FK] rfl rfl ?_ ?_<;>repeat' (first|exact rfl|exact trivial|exact Or.inl rfl|refine And.intro ?_ ?_)
theorem p_Sort (l:List RowT) (keys:List KeyD):Pure Tryz.prog 7 [rwsV l,slV 2 KeyD.c keys] (.tup [rwsV (sortF l keys).1,pInt .i64 (sortF l keys).2]):=by
 have pc:=p_bagcheck l
 have hkl:(keys.map KeyD.c).length=keys.length:=List.length_map _
 refine pure_of Tryz.func7 (by rfl) rfl (by kernel_rfl) (by rfl) ?_
 unfold sortF
 by_cases h1:rowsChk l=0
 ·rw[if_neg (not_not_intro h1)]
  rw[h1] at pc
  obtain⟨h40,h8⟩:=rowsChk_ok.1 h1
  by_cases h2:8<keys.length
  ·rw[if_pos h2]
   ((conv=>whnf);repeat' ((first|(with_reducible first|apply a_|apply b_|apply c_)|((with_reducible first|apply d_|apply e_|apply f_|apply g_);focus first|omega|(simp only[q_]<;>omega))|((with_reducible first|apply i_|apply h_);focus first|omega|(simp only[q_]<;>omega))|((with_reducible apply h_);focus first|decide|kernel_rfl)|refine s_ (by decide) ?_|refine t_ (by decide) ?_|refine r_ pc rfl ?_|with_reducible first|apply l_|apply m_|apply n_|apply o_|refine p_ (fun _=>?_) (fun _=>?_))<;>(conv=>whnf)))
   all_goals first|exact Ret.le ⟨.inr ⟨⟨1,rfl⟩,.inl rfl⟩,.inl rfl,rfl⟩ | (exfalso;omega)
  ·rw[if_neg h2]
   ((conv=>whnf);repeat' ((first|(with_reducible first|apply a_|apply b_|apply c_)|((with_reducible first|apply d_|apply e_|apply f_|apply g_);focus first|omega|(simp only[q_]<;>omega))|((with_reducible first|apply i_|apply h_);focus first|omega|(simp only[q_]<;>omega))|((with_reducible apply h_);focus first|decide|kernel_rfl)|refine s_ (by decide) ?_|refine t_ (by decide) ?_|refine r_ pc rfl ?_|with_reducible first|apply l_|apply m_|apply n_|apply o_|refine p_ (fun _=>?_) (fun _=>?_))<;>(conv=>whnf)))
   refine LoopC.mk Nat (fun k=>[(0,rwsV l),(1,slV 2 KeyD.c keys),(19,slV 2 KeyD.c keys),(20,pInt .i64 keys.length),(21,pInt .i64 (k:Int))]) (fun _=>[]) [] (fun k=>k≤keys.length∧keysBad l keys=keysBad l (keys.drop k)∧∀x∈keys.take k,placesF l [x.Col]=0) (fun k=>keys.length - k) 0 ⟨Nat.zero_le _,by rw[List.drop_zero],by simp⟩ ?start ?round
   case start=>exact⟨[],rfl,rfl,⟨.inl rfl,.inl rfl,.inl rfl,PLe.int (by simp),.inl rfl,trivial⟩,trivial⟩
   case round=>
    rintro k ⟨hk,hz,hp⟩
    have hk:k≤keys.length:=hk
    have hz:keysBad l keys=keysBad l (keys.drop k):=hz
    have hp:∀x∈keys.take k,placesF l [x.Col]=0:=hp
    by_cases q:k<keys.length
    ·rw[List.drop_eq_getElem_cons q,keysBad] at hz
     have pp:=p_places l (fun r hr=>by have:=(h8 r hr).1;omega) [keys[k].Col] (by simp)
     by_cases h:placesF l [keys[k].Col]=0
     ·rw[h] at pp hz
      have hz:keysBad l keys=keysBad l (keys.drop (k+1)):=hz
      ((conv=>whnf);repeat' ((first|(with_reducible first|apply a_|apply b_|apply c_)|((with_reducible first|apply d_|apply e_|apply f_|apply g_);focus first|omega|(simp only[q_]<;>omega))|((with_reducible first|apply i_|apply h_);focus first|omega|(simp only[q_]<;>omega))|((with_reducible apply h_);focus first|decide|kernel_rfl)|refine s_ (by decide) ?_|refine t_ (by decide) ?_|(refine Idx.mapI (f:=KeyD.c) k rfl q ?_)|refine r_ pp rfl ?_|with_reducible first|apply l_|apply m_|apply n_|apply o_|refine p_ (fun _=>?_) (fun _=>?_))<;>(conv=>whnf)))
      all_goals first
       | (exfalso;omega)
       | skip
      refine⟨k+1,⟨by show k+1≤_;omega,hz,fun x hx=>?_⟩,by show keys.length - (k+1)<keys.length - k;omega,[],rfl,rfl,⟨.inl rfl,.inl rfl,.inl rfl,PLe.int (by simp),PLe.int (by omega),trivial⟩,trivial⟩
      rw[take_snoc q,List.mem_append,List.mem_singleton] at hx
      rcases hx with hx | rfl
      ·exact hp x hx
      ·exact h
     ·have h3:placesF l [keys[k].Col]=3:=by
       rw[places_one] at h ⊢
       split at h
       ·rename_i g;rw[if_pos g]
       ·exact absurd rfl h
      rw[h3] at pp hz
      have hz:keysBad l keys=true:=hz
      rw[if_pos hz]
      ((conv=>whnf);repeat' ((first|(with_reducible first|apply a_|apply b_|apply c_)|((with_reducible first|apply d_|apply e_|apply f_|apply g_);focus first|omega|(simp only[q_]<;>omega))|((with_reducible first|apply i_|apply h_);focus first|omega|(simp only[q_]<;>omega))|((with_reducible apply h_);focus first|decide|kernel_rfl)|refine s_ (by decide) ?_|refine t_ (by decide) ?_|(refine Idx.mapI (f:=KeyD.c) k rfl q ?_)|refine r_ pp rfl ?_|with_reducible first|apply l_|apply m_|apply n_|apply o_|refine p_ (fun _=>?_) (fun _=>?_))<;>(conv=>whnf)))
      all_goals first|exact Ret.le ⟨.inr ⟨⟨1,rfl⟩,.inl rfl⟩,.inl rfl,rfl⟩ | (exfalso;omega)
    ·have e1:keys.take k=keys:=List.take_of_length_le (by omega)
     rw[e1] at hp
     rw[List.drop_of_length_le (by omega)] at hz
     have hz:keysBad l keys=false:=hz
     rw[hz,if_neg (by decide)]
     have po:=s_own_rows l (by omega) fun r hr=>by have:=(h8 r hr).1;omega
     have ps:=s_sortstable keys (by omega) l h40 fun k hk r hr=>by
      have:=hp k hk
      rw[places_one] at this
      have hlp:0<l.length:=List.length_pos_of_mem hr
      have hw:=(h8 r hr).2.1
      split at this
      ·cases this
      ·rename_i g
       constructor
       ·apply Decidable.byContradiction;intro x;exact g ⟨hlp,.inl (by omega)⟩
       ·apply Decidable.byContradiction;intro x;exact g ⟨hlp,.inr (by omega)⟩
     ((conv=>whnf);repeat' ((first|(with_reducible first|apply a_|apply b_|apply c_)|((with_reducible first|apply d_|apply e_|apply f_|apply g_);focus first|omega|(simp only[q_]<;>omega))|((with_reducible first|apply i_|apply h_);focus first|omega|(simp only[q_]<;>omega))|((with_reducible apply h_);focus first|decide|kernel_rfl)|refine s_ (by decide) ?_|refine t_ (by decide) ?_|(first|refine CallP.ret [(NK,35)] _ _ _ _ _ _ _ po rfl rfl rfl rfl trivial ?_|refine CallP.ret [(FK,35)] _ _ _ _ _ _ _ ps rfl rfl rfl rfl ⟨rfl,trivial⟩ ?_)|with_reducible first|apply l_|apply m_|apply n_|apply o_|refine p_ (fun _=>?_) (fun _=>?_))<;>(conv=>whnf)))
     all_goals first | (exfalso;omega) | skip
     refine Need.mk (by rw[List.length_map,isrt_len];omega) ?_
     ((conv=>whnf);repeat' ((first|(with_reducible first|apply a_|apply b_|apply c_)|((with_reducible first|apply d_|apply e_|apply f_|apply g_);focus first|omega|(simp only[q_]<;>omega))|((with_reducible first|apply i_|apply h_);focus first|omega|(simp only[q_]<;>omega))|((with_reducible apply h_);focus first|decide|kernel_rfl)|refine s_ (by decide) ?_|refine t_ (by decide) ?_|with_reducible first|apply l_|apply m_|apply n_|apply o_|refine p_ (fun _=>?_) (fun _=>?_))<;>(conv=>whnf)))
     refine Ret.eq ?_
     show PV.tup [PV.d (D.c (C.sl 1 (List.take _ (List.drop 0 _)))),_]=_
     rw[List.drop_zero,List.take_of_length_le (by rw[List.length_map,isrt_len];exact Nat.le_refl _)]
 ·rw[if_pos h1]
  ((conv=>whnf);repeat' ((first|(with_reducible first|apply a_|apply b_|apply c_)|((with_reducible first|apply d_|apply e_|apply f_|apply g_);focus first|omega|(simp only[q_]<;>omega))|((with_reducible first|apply i_|apply h_);focus first|omega|(simp only[q_]<;>omega))|((with_reducible apply h_);focus first|decide|kernel_rfl)|refine s_ (by decide) ?_|refine t_ (by decide) ?_|refine r_ pc rfl ?_|with_reducible first|apply l_|apply m_|apply n_|apply o_|refine p_ (fun _=>?_) (fun _=>?_))<;>(conv=>whnf)))
  all_goals first|exact Ret.le ⟨.inr ⟨⟨1,rfl⟩,.inl rfl⟩,.inl rfl,rfl⟩ | (exfalso;omega)
end
section
open Go.RowKit
def noDef (ops:Array Oper):Bool:=ops.toList.all fun o=>match o.op with | .defer _=>false | _=>true
def okIn:Code→Bool
 | .skip=>true
 | .region _ ops _=>noDef ops
 | .seq x y=>okIn x&&okIn y
 | .cond _ x y=>okIn x&&okIn y
 | .block _ x=>okIn x
 | .exit _=>true
 | _=>false
section
variable {P:Program} {l m:Nat}
theorem opIn_of_wp {o:Oper} {a:Act} {w:World} {K:Act→World→Prop} {Q:Exit→Act→World→Prop} (hd:∀c,o.op≠.defer c) (h:o.wp P a w K Q):o.wpIn (Fence.wide.inRound l) m P a w K Q:=by
 refine⟨fun _ _=>trivial,?_⟩
 rw[Oper.semAt_eq _ _ _ hd]
 unfold Oper.wp at h
 generalize (execOp a.eval o).run P w=r at *
 cases r with
 | ok x w'=>
  cases x with
  | enter f args=>exact⟨(fun h=>by cases h),CallsIn.inRound l (callsIn_wide.2 h)⟩
  | row r args=>exact⟨(fun h=>by cases h),fun c cs _=>by
    obtain⟨v,w'',hR,hs⟩:=h c cs
    exact⟨v,w'',hR,stepsIn_wide.2 hs⟩⟩
  | _=>first|exact h|exact False.elim h
 | halt x w'=>cases x<;>exact h
theorem anyIn_of_any {md:Region.Mode} {ops:Array Oper} {Q:Exit→Act→World→Prop} (hd:∀(i:Nat) (o:Oper),ops[i]? = some o→∀c,o.op≠.defer c) (hl:¬LetsOut Q) :
  ∀(fuel:Nat) (listed:Array Bool) (a:Act) (w:World),wpAny P md ops Q fuel listed a w→wpAnyIn (Fence.wide.inRound l) m P md ops Q fuel listed a w
 | 0,_,_,_,h=>h
 | fuel+1,listed,a,w,h=>by
  refine⟨h.1,fun i hi=>?_⟩
  have h1:=h.2 i hi
  unfold wpOp at h1
  unfold wpOpIn
  cases ho:ops[i]? with
  | none=>rw[ho] at h1;exact anyIn_of_any hd hl fuel _ a w h1
  | some o=>
   rw[ho] at h1
   simp only at h1 ⊢
   split
   ·rename_i hw
    rw[if_pos hw] at h1
    rcases h1 with h1 | ⟨_,h1⟩
    ·exact Oper.wpIn_mono (fun a w=>anyIn_of_any hd hl fuel _ a w) (opIn_of_wp (hd i o ho) h1)
    ·exact absurd h1 hl
   ·rename_i hw
    rw[if_neg hw] at h1
    exact⟨fun _ _=>trivial,anyIn_of_any hd hl fuel _ _ w h1⟩
theorem listIn_of_list {ops:Array Oper} {Q:Exit→Act→World→Prop} (hl:¬LetsOut Q) :
  ∀(rest:List Oper) (a:Act) (w:World),(∀o∈rest,∀c,o.op≠.defer c)→wpList P ops Q rest a w→wpListIn (Fence.wide.inRound l) m P ops Q rest a w
 | [],_,_,_,h=>h
 | o::rest,a,w,hd,h=>by
  unfold wpList at h
  unfold wpListIn
  split
  ·rename_i hw
   rw[if_pos hw] at h
   rcases h with h | ⟨_,h⟩
   ·exact Oper.wpIn_mono (fun a w=>listIn_of_list hl rest a w fun o ho=>hd o (List.mem_cons_of_mem _ ho)) (opIn_of_wp (hd o (List.mem_cons_self ..)) h)
   ·exact absurd h hl
  ·rename_i hw
   rw[if_neg hw] at h
   exact⟨fun _ _=>trivial,listIn_of_list hl rest _ w (fun o ho=>hd o (List.mem_cons_of_mem _ ho)) h⟩
theorem noDef_out {ops:Array Oper} (h:noDef ops=true):∀(i:Nat) (o:Oper),ops[i]? = some o→∀c,o.op≠.defer c:=fun i o ho c e=>by
 have hm:o∈ops.toList:=by rw[← (Array.getElem?_eq_some_iff.1 ho).2];simp
 have:=List.all_eq_true.1 h o hm
 rw[e] at this
 cases this
theorem vcIn_out {nt:Nat} {fk:List Nat} {X:XT} {c:Ctx} (hfk:∀k,c.σ0 k≠none→k∈fk) (hc:c.Ok) (hm:P.follows .mixedOrders=true):∀(cd:Code) (e:Env) (h:Hp) (n:List Nat) (Q:Cont) (σ:Sg) (a:Act) (w:World),okIn cd=true→(∀e h n,¬Q .outgrown e h n)→
  vc P nt fk X cd e h n Q→St c nt σ e h a w→(∀k,k∉n→σ k=none)→cd.wpIn (Fence.wide.inRound l) m P (After c nt X Q) a w
 | .skip,e,h,n,Q,σ,a,w,_,ho,hv,hs,hf=>wpIn_skip ⟨e,h,n,σ,hv,hs,hf⟩
 | .region id ops draw,e,h,n,Q,σ,a,w,hk,ho,hv,hs,hf=>by
  have hl:¬LetsOut (After c nt X Q):=by rintro⟨a,w,e,h,n,σ,hq,_⟩;exact ho _ _ _ hq
  have hk:noDef ops=true:=hk
  rcases region_mid (id:=id) (Q:=After c nt X Q) hc hv (fun x e h n σ a w hx hs hf=>⟨x,rfl,e,h,n,σ,hx,hs,hf⟩) hs hf (fun e' h' n' σ' a' w' hk hs' hf'=>⟨e',h',n',σ',hk,hs',hf'⟩) with ⟨rfl,q⟩ | ⟨rfl,q⟩
  ·refine wpIn_region_list (listIn_of_list hl _ _ _ (fun o ho c=>?_) q)
   obtain⟨i,hi,he⟩:=List.getElem_of_mem ho
   refine noDef_out hk i o ?_ c
   rw[← Array.getElem?_toList,List.getElem?_eq_getElem hi,he]
  ·exact wpIn_region_any hm (anyIn_of_any (noDef_out hk) hl _ _ _ _ q)
 | .seq x y,e,h,n,Q,σ,a,w,hk,ho,hv,hs,hf=>by
  have hk:(okIn x&&okIn y)=true:=hk
  rw[Bool.and_eq_true] at hk
  refine wpIn_seq (wpIn_mono (vcIn_out (X:=X) hfk hc hm x e h n (seqK (fun e' h' n'=>vc P nt fk X y e' h' n' Q) Q) σ a w hk.1 (fun e h n=>ho e h n) hv hs hf) ?_)
  intro ex a' w' hq
  cases ex with
  | normal=>
   obtain⟨e',h',n',σ',hq,hs',hf'⟩:=hq
   exact vcIn_out hfk hc hm y e' h' n' Q σ' a' w' hk.2 ho hq hs' hf'
  | exit id=>exact hq
  | goto l=>exact hq
  | ret=>exact hq
  | panic ch=>exact hq
  | outgrown=>exact hq
 | .cond o x y,e,h,n,Q,σ,a,w,hk,ho,hv,hs,hf=>by
  have hk:(okIn x&&okIn y)=true:=hk
  rw[Bool.and_eq_true] at hk
  rw[vc_cond] at hv
  split at hv
  ·rename_i b hb
   have h1:=rep_ev hs o
   rw[hb] at h1
   have h2:=rep_v h1
   obtain⟨ht,hff⟩:=hv
   refine wpIn_cond_split h2 (fun hb'=>vcIn_out hfk hc hm x e h n Q σ a w hk.1 ho (ht hb') hs hf) (fun hb'=>vcIn_out hfk hc hm y e h n Q σ a w hk.2 ho (hff hb') hs hf)
  ·exact hv.elim
 | .block id cd,e,h,n,Q,σ,a,w,hk,ho,hv,hs,hf=>by
  refine wpIn_block (wpIn_mono (vcIn_out (X:=X) hfk hc hm cd e h n (blockK id Q) σ a w hk (fun e h n=>ho e h n) hv hs hf) ?_)
  intro ex a' w' hq
  cases ex with
  | exit id'=>
   obtain⟨e',h',n',σ',hq,hs',hf'⟩:=hq
   simp only[Exit.inBlock]
   simp only[blockK] at hq
   split at hq
   ·rename_i hb
    rw[if_pos (Nat.eq_of_beq_eq_true hb)]
    exact⟨e',h',n',σ',hq,hs',hf'⟩
   ·rename_i hb
    rw[if_neg (fun e=>by subst e;rw[Nat.beq_refl] at hb;cases hb)]
    exact⟨e',h',n',σ',hq,hs',hf'⟩
  | normal=>exact hq
  | goto l=>exact hq
  | ret=>exact hq
  | panic ch=>exact hq
  | outgrown=>exact hq
 | .exit id,e,h,n,Q,σ,a,w,_,ho,hv,hs,hf=>wpIn_exit ⟨e,h,n,σ,hv,hs,hf⟩
 | .scope _,_,_,_,_,_,_,_,hk,_,_,_,_=>by cases hk
 | .loop _,_,_,_,_,_,_,_,hk,_,_,_,_=>by cases hk
 | .ret,_,_,_,_,_,_,_,hk,_,_,_,_=>by cases hk
 | .rangeFunc _ _ _ _,_,_,_,_,_,_,_,hk,_,_,_,_=>by cases hk
 | .label _,_,_,_,_,_,_,_,hk,_,_,_,_=>by cases hk
 | .goto _,_,_,_,_,_,_,_,hk,_,_,_,_=>by cases hk
 | .refuse _,_,_,_,_,_,_,_,hk,_,_,_,_=>by cases hk
end
def SeqP {α:Type} (F:Fence) (n:Nat) (P:Program) (g:Nat) (lb:Array Value) (encs:α→Array Value) (xs:List α) (T:World→Prop):Prop:=
 ∀(l:Nat) (J Jx:List α→World→Prop) (W:World),(∀s A,J s A→T A)→(∀s A,J s A→J s A.drew)→
  (∀pre x W1,J pre W1→xs[pre.length]? = some x→YieldAt F (n - 1) P l (encs x) W1 fun e W'=>
   (e=.returned (.bool true)∧J (pre++[x]) W')∨(e=.returned (.bool false)∧Jx (pre++[x]) W'))→
  J [] W→
  CallsIn F n P g (#[.func (.yield l) #[] #[]]++lb) W fun e W'=>(∃v,e=.returned v)∧(J xs W'∨∃pre,pre <+: xs∧Jx pre W')
structure Lets (B:Nat) (A A':World):Prop where
 size:A.heap.size≤A'.heap.size
 same:∀(k:Nat) (o:Obj),A.heap[k]? = some o→B≤k→o.isCells=false→A'.heap[k]? = some o
section
variable {F:Fence} {n:Nat} {P:Program}
theorem range_plain {α:Type} {g:Operand} {ps:Array Tmp} {assign body:Code} {Q:Exit→Act→World→Prop} {a:Act} {w:World}
  (hro:F.round=none) (h1:1≤n) {gf:Nat} {lb:Array Value} (hg:a.eval g=.func (.func gf) #[] lb) (hFg:F.fn gf) (eg:∀args w,(callFunc gf args).run P w=.ok (.enter gf args) w)
  {encs:α→Array Value} {xs:List α} {T:World→Prop} (hseq:SeqP F (n - 1) P gf lb encs xs T) (hps:∀x,(encs x).size=ps.size)
  (I:List α→World→Prop) (hT:∀s A,I s A→T A) (hIp:∀s A l r r',I s A→w.heap.size≤l→A.heap[l]? = some (.loop r)→I s (A.putObj l (.loop r'))) (hIa:∀s A o,I s A→I s (A.alloc o)) (hId:∀s A,I s A→I s A.drew) (h0:I [] w) (a₁:α→Act)
  (hassign:∀(l:Nat) (x:α) (W:World) (K:Act→World→Prop),K (a₁ x) W→
   assign.wpIn (F.inRound l) (n - 1 - 1) P (Exit.then K (fun _ _ _=>False)) { tmps:=(ps.zip (encs x)).foldl (fun t (p,v)=>t.setIfInBounds p v) a.tmps,defers:=[] } W)
  (hbody:∀(l:Nat) (pre:List α) (x:α) (W:World),I pre W→xs[pre.length]? = some x→w.heap.size≤W.heap.size→body.wpIn (F.inRound l) (n - 1 - 1) P (fun e _ W'=>e=.normal∧Lets w.heap.size W W'∧I (pre++[x]) W') (a₁ x) W)
  (hdone:∀(D:Nat) (W:World),w.heap.size≤D→I xs W→W.heap[D]? = some (.deferred (some []))→Q .normal { a with defers:={ target:=.collected D,args:=#[] }::a.defers } W) :
  (Code.rangeFunc g ps assign body).wpIn F n P Q a w:=by
 refine wpIn_rangeFunc ?_
 intro fn hfn
 rw[hro]
 obtain⟨rec,hrec⟩:∃rec:LoopState→Option Code→Loop,rec=fun st pe=>{ state:=st,pending:=pe,fn,tmps:=a.tmps,params:=ps,assign,body,defers:=w.heap.size }:=⟨_,rfl⟩
 obtain⟨W1,hW1⟩:∃W1,(w.alloc (.deferred (some []))).alloc (.loop (rec .ready none))=W1:=⟨_,rfl⟩
 obtain⟨L,hL⟩:∃L,w.heap.size+1=L:=⟨_,rfl⟩
 have hL1:W1.heap[L]? = some (.loop (rec .ready none)):=by
  rw[← hW1,← hL];have:=World.alloc_heap_new (w.alloc (.deferred (some []))) (.loop (rec .ready none));rwa [World.size_alloc] at this
 have hK1:W1.heap[w.heap.size]? = some (.deferred (some [])):=by
  rw[← hW1];exact (Below.heap_alloc _ _ _ (by simp)).trans (World.alloc_heap_new w _)
 have he:=run_enterLoop_outer (P:=P) (w:=w) fn a.tmps ps assign body
 rw[show ((w.alloc (.deferred (some []))).alloc (.loop { state:=.ready,pending:=none,fn,tmps:=a.tmps,params:=ps,assign,body,defers:=w.heap.size }))=W1 by rw[← hW1,hrec],hL] at he
 refine⟨L,[{ target:=.collected w.heap.size,args:=#[] }],W1,{ target:=.fn (.func gf) lb,args:=#[.func (.yield L) #[] #[]] },W1,gf,
  #[.func (.yield L) #[] #[]]++lb,W1,he,?_,?_,?_,fun _=>h1,?_⟩
 ·simp only[resolve,hg]
  simp[go_sem]
 ·intro f' hf';simp[Target.leads] at hf';subst hf';exact hFg
 ·simp[invoke,go_sem,eg]
 let Books:Loop→World→Prop:=fun r W=>W.heap[L]? = some (.loop r)∧W.heap[w.heap.size]? = some (.deferred (some []))∧w.heap.size≤W.heap.size
 have books_put:∀{r A} (r':Loop),Books r A→Books r' (A.putObj L (.loop r')):=fun r' h=>
  ⟨World.putObj_heap_same (Array.getElem?_eq_some_iff.1 h.1).1,(World.putObj_heap_other (by omega)).trans h.2.1,by simpa using h.2.2⟩
 have hsz1:w.heap.size≤W1.heap.size:=by rw[← hW1];simp;omega
 refine (hseq L (fun pre W=>I pre W∧Books (rec .ready none) W) (fun _ _=>False) W1
  (fun s A h=>hT s A h.1) (fun s A h=>⟨hId s A h.1,h.2.1,h.2.2⟩) ?_ ⟨by rw[← hW1];exact hIa _ _ _ (hIa _ _ _ h0),hL1,hK1,hsz1⟩).mono ?_
 ·rintro pre x W ⟨hi,hb⟩ hx
  have hy:=run_yield (P:=P) (args:=encs x) hb.1 (by rw[hrec];exact hps x)
  rw[hrec] at hy
  refine⟨fn,_,assign,body,hy,roundIn_of_wpIn hfn (hassign _ x W _ ⟨_,run_beginRound hb.1 (by rw[hrec]),?_⟩)⟩
  have hb2:=books_put { rec .ready none with state:=.busy } hb
  have hi2:=hIp _ _ L _ { rec .ready none with state:=.busy } hi (by omega) hb.1
  rw[hrec] at hb2 hi2 ⊢
  refine wpIn_mono (hbody _ pre x _ hi2 hx hb2.2.2) ?_
  rintro e a3 W3 ⟨rfl,hk,hi3⟩
  have h3:=hk.same _ _ hb2.1 (by omega) rfl
  have h3k:=hk.same _ _ hb2.2.1 (Nat.le_refl _) rfl
  have hr:=run_endRound (P:=P) none h3
  refine⟨_,_,hr,.inl ⟨rfl,hIp _ _ L _ _ hi3 (by omega) h3,?_,?_,?_⟩⟩
  ·exact World.putObj_heap_same (Array.getElem?_eq_some_iff.1 h3).1
  ·exact (World.putObj_heap_other (by omega)).trans h3k
  ·have:=hk.size;have:=hb2.2.2;simp at *;omega
 ·rintro e W2 ⟨⟨v,rfl⟩,(⟨hi,hb⟩ | ⟨pre,hpre,h⟩)⟩
  ·refine⟨none,_,by have:=run_endLoop (P:=P) hb.1 (by rw[hrec];simp);rw[hrec] at this;exact this,hdone _ _ (Nat.le_refl _) (hIp _ _ L _ _ hi (by omega) hb.1) ?_⟩
   exact (World.putObj_heap_other (by omega)).trans hb.2.1
  ·exact h.elim
end
end
section
open Go.RowKit K
attribute [local go_sem] Oper.semAt_some
def prs {α β:Type} (xa:List α) (xb:List β):List (α×β):=xa.flatMap fun x=>xb.map fun y=>(x,y)
theorem prs_snoc {α β:Type} (xa:List α) (xb:List β) {k:Nat} (hk:k<xa.length):prs (xa.take (k+1)) xb=prs (xa.take k) xb++xb.map fun y=>(xa[k],y):=by
 unfold prs;rw[List.take_succ_eq_append_getElem hk,List.flatMap_append];simp
theorem prs_cut {α β:Type} (xa:List α) (xb:List β) {k:Nat} (hk:k<xa.length):prs xa xb=prs (xa.take k) xb++((xb.map fun y=>(xa[k],y))++prs (xa.drop (k+1)) xb):=by
 unfold prs
 conv=>lhs;rw[← List.take_append_drop k xa,List.drop_eq_getElem_cons hk]
 rw[List.flatMap_append,List.flatMap_cons]
theorem prs_at {α β:Type} (xa:List α) (xb:List β) {k j:Nat} (hk:k<xa.length) (hj:j<xb.length) :
  (prs xa xb)[(prs (xa.take k) xb++(xb.take j).map fun y=>(xa[k],y)).length]? = some (xa[k],xb[j]):=by
 rw[prs_cut xa xb hk,List.length_append,List.getElem?_append_right (by omega),List.length_map,List.length_take,Nat.min_eq_left (by omega),Nat.add_sub_cancel_left,List.getElem?_append_left (by simpa using hj)]
 simp[hj]
theorem map_snoc {α β:Type} (f:α→β) (l:List α) {j:Nat} (hj:j<l.length):(l.take (j+1)).map f=(l.take j).map f++[f l[j]]:=by
 rw[List.take_succ_eq_append_getElem hj,List.map_append];rfl
set_option maxRecDepth 100000 in
set_option maxHeartbeats 1000000 in
theorem pairs_any (n:Nat) (k1 k2 la lb ca cb:Nat) (a b:Option Addr) (xa xb:List Value) :
  SeqP Fence.wide n Tryz.prog 78 #[.pointer (some ⟨k1,0,none⟩),.pointer (some ⟨k2,0,none⟩)] (fun x:Value×Value=>#[x.1,x.2]) (prs xa xb)
   (fun W=>Seen W (.slice a la ca) la 1 xa∧Seen W (.slice b lb cb) lb 1 xb∧W.cell? ⟨k1,0,none⟩=some (.slice a la ca)∧W.cell? ⟨k2,0,none⟩=some (.slice b lb cb)):=by
 intro l J Jx W hT hD hY h0
 refine callsIn_of_wp Tryz.func78 rfl trivial ?_ rfl
 simp only[Tryz.ntmps78,List.size_toArray,List.length_cons,List.length_nil,Nat.reduceAdd,Nat.reduceSub,Array.replicate_succ,Array.replicate_zero,List.push_toArray,List.append_toArray,List.nil_append,List.cons_append]
 obtain⟨hA,hB,hc1,hc2⟩:=hT _ _ h0
 obtain⟨ha0,a',ca',ha1,ha2,ha3,_,ha4⟩:=hA
 obtain⟨hb0,b',cb',hb1,hb2,hb3,_,hb4⟩:=hB
 unfold maxLen at ha3 hb3
 simp only[Value.slice.injEq,true_and] at ha1 hb1
 obtain⟨rfl,rfl⟩:=ha1
 obtain⟨rfl,rfl⟩:=hb1
 have hal:xa.length=la:=by omega
 have hbl:xb.length=lb:=by omega
 clear hb4 ha4
 gi_wp2
 gi_loopw [10] (fun i wr=>∃k:Nat,k≤la∧i=.int .i64 (k:Int)∧J (prs (xa.take k) xb) wr) (fun i _=>la - (intOf i).toNat)
 case atStart=>exact⟨0,by omega,rfl,h0⟩
 case round=>
  obtain⟨k,hk,rfl,hj⟩:=hrel
  obtain⟨hA,hB,hc1,hc2⟩:=hT _ _ hj
  by_cases h:k<la
  ·obtain⟨_,a',ca',ha1,_,_,_,ha4⟩:=hA
   simp only[Value.slice.injEq,true_and] at ha1
   obtain⟨rfl,rfl⟩:=ha1
   obtain⟨ba,oa,rfl,hba,hcl⟩:=ha4.resolve_left (by omega)
   have hx:=hcl k xa[k] (by simp[hal,h])
   gi_wp2
   gi_loopw [16] (fun i wr=>∃j:Nat,j≤lb∧i=.int .i64 (j:Int)∧J (prs (xa.take k) xb++(xb.take j).map fun y=>(xa[k],y)) wr) (fun i _=>lb - (intOf i).toNat)
   case atStart=>exact⟨0,by omega,rfl,by simpa using hj⟩
   case round=>
    obtain⟨j,hjl,rfl,hj2⟩:=hrel
    obtain⟨hA,hB,hc1,hc2⟩:=hT _ _ hj2
    by_cases h2:j<lb
    ·obtain⟨_,b',cb',hb1,_,_,_,hb4⟩:=hB
     simp only[Value.slice.injEq,true_and] at hb1
     obtain⟨rfl,rfl⟩:=hb1
     obtain⟨bb,ob,rfl,hbb,hcl2⟩:=hb4.resolve_left (by omega)
     have hy:=hcl2 j xb[j] (by simp[hbl,h2])
     obtain⟨fn,tmps,assign,body,hyl,hR⟩:=hY _ _ _ hj2 (prs_at xa xb (by omega) (by omega))
     dsimp only at hyl
     gi_wp2
     refine⟨(fun h=>by cases h),hR.mono ?_⟩
     rintro e W3 (⟨rfl,hJ3⟩ | ⟨rfl,hJx3⟩)
     ·gi_wp2
      go_roundw
      case rel=>exact⟨j+1,by omega,by go_num,by rw[map_snoc _ _ (by omega),← List.append_assoc];exact hJ3⟩
      case measure=>simp[intOf];omega
     ·gi_wp2
      refine bodyPost_ret (results_none rfl _ _ _) rfl ?_
      refine⟨⟨_,rfl⟩,.inr ⟨_,?_,hJx3⟩⟩
      rw[List.append_assoc,← map_snoc (fun y=>(xa[k],y)) xb (by omega),prs_cut xa xb (k:=k) (by omega)]
      refine List.prefix_append_right_inj _ |>.2 ?_
      refine List.IsPrefix.trans ?_ (List.prefix_append _ _)
      exact List.IsPrefix.map _ (List.take_prefix _ _)
    ·obtain rfl:j=lb:=by omega
     gi_wp2
     go_roundw
     case rel=>exact⟨k+1,by omega,by go_num,by rw[prs_snoc xa xb (by omega)];rw[List.take_of_length_le (l:=xb) (by omega)] at hj2;exact hj2⟩
     case measure=>simp[intOf];omega
  ·obtain rfl:k=la:=by omega
   gi_wp2
   go_end0
   rw[List.take_of_length_le (by omega)] at hj
   exact⟨⟨_,rfl⟩,.inl hj⟩
end
section
open Go.RowKit
def seqs:List Code→Code→Code
 | [],t=>t
 | c::l,t=>.seq c (seqs l t)
noncomputable def vcPre (P:Program) (nt:Nat) (fk:List Nat) (X:XT):List Code→(Env→Hp→List Nat→Prop)→Cont→Env→Hp→List Nat→Prop
 | [],N,_,e,h,n=>N e h n
 | c::l,N,Q,e,h,n=>vc P nt fk X c e h n (seqK (fun e h n=>vcPre P nt fk X l N Q e h n) Q)
section
variable {P:Program}
theorem sw_df {c:Ctx} {σ:Sg} {h:Hp} {w:World} (hs:SW c σ h w) (d:List Deferred) (s:Sg) (hsg:∀k x,s k=some x→σ k=some x):SW { c with df:=d,σ0:=s } σ h w:=
 ⟨hs.os,hs.tape,hs.output,hs.size,hs.block,hs.hp,hs.inj,hs.kept,hs.shape,hsg⟩
theorem ctx_df {c:Ctx} (hc:c.Ok) (d:List Deferred) (s:Sg):Ctx.Ok { c with df:=d,σ0:=s }:=⟨hc.fz,hc.gl,hc.gb⟩
end
end
section
open Go.RowKit K
set_option maxRecDepth 100000
set_option maxRecDepth 100000
abbrev TT:Nat:=22
abbrev TE:Nat:=31
abbrev nilC:D:=.c (.v (.slice none 0 0))
abbrev r0:Rf:=[(9,.box TT [nilC])]
abbrev hR (rows:List (List C)):Rf:=[(9,.box TT [.app 60 TE 1 rows]),(60,.tail TE 1)]
abbrev hR' (rows:List (List C)):Rf:=[(9,.box TT [.app 61 TE 1 rows]),(61,.tail TE 1)]
theorem flat_one {α:Type}:∀A:List α,(A.map fun c=>[c]).flatten=A
 | []=>rfl
 | x::xs=>by rw[List.map_cons,List.flatten_cons,flat_one xs];rfl
theorem csRep_get2 {F:Fzn} {w:World}:∀{A:List C} {us:List Value} {i:Nat} {c:C} {u:Value},CsRep F w A us→A[i]? = some c→us[i]? = some u→CRep F w c u
 | A,us,i,c,u,h,h1,h2=>by
  obtain⟨v,q1,q2⟩:=h.get h1
  rw[h2] at q1;cases q1;exact q2
theorem prs_rep {F:Fzn} {w:World}:∀{A B:List C} {xa xb:List Value},CsRep F w A xa→CsRep F w B xb→∀(i:Nat) (p:Value×Value),(prs xa xb)[i]? = some p→∃q,(prs A B)[i]? = some q∧CRep F w q.1 p.1∧CRep F w q.2 p.2
 | [],B,xa,xb,hA,hB,i,p,hp=>by rw[csRep_nil_inv hA] at hp;simp[prs] at hp
 | x::A,B,xa,xb,hA,hB,i,p,hp=>by
  obtain⟨u,vs,rfl,h1,h2⟩:=csRep_inv hA
  have e1:prs (u::vs) xb=(xb.map fun y=>(u,y))++prs vs xb:=by unfold prs;rw[List.flatMap_cons]
  have e2:prs (x::A) B=(B.map fun y=>(x,y))++prs A B:=by unfold prs;rw[List.flatMap_cons]
  have hl:=hB.len
  rw[e1] at hp
  rw[e2]
  by_cases hi:i<xb.length
  ·rw[List.getElem?_append_left (by simpa using hi)] at hp
   rw[List.getElem?_append_left (by rw[List.length_map];omega)]
   rw[List.getElem?_map,List.getElem?_eq_getElem hi] at hp
   simp only[Option.map_some,Option.some.injEq] at hp
   subst hp
   have hi2:i<B.length:=by omega
   refine⟨(x,B[i]),by rw[List.getElem?_map,List.getElem?_eq_getElem hi2];rfl,h1,csRep_get2 hB (List.getElem?_eq_getElem hi2) (List.getElem?_eq_getElem hi)⟩
  ·rw[List.getElem?_append_right (by rw[List.length_map];omega),List.length_map] at hp
   rw[List.getElem?_append_right (by rw[List.length_map];omega),List.length_map,← hl]
   exact prs_rep h2 hB _ p hp
theorem prs_len {α β:Type} (A:List α) (B:List β):(prs A B).length=A.length*B.length:=by
 unfold prs
 induction A with
 | nil=>simp
 | cons x xs ih=>rw[List.flatMap_cons,List.length_append,ih,List.length_map,List.length_cons,Nat.add_mul];omega
section
variable {c:Ctx} {σ:Sg} {h:Hp} {w:World}
theorem fz_box (hc:c.Ok) (hs:SW c σ h w) {b o g n k T:Nat} {l:List D} (hf:fz c σ h w b o) (hk:h k=some (.box T l)) (hσ:σ k=some (some g,n)):b≠g:=by
 rintro rfl
 have hb:=hb_block (hs.hp k _ hk) hσ
 rcases hf with ⟨f1,f2⟩ | ⟨f1,f2,f3⟩
 ·rcases hb.2 with q | q
  ·omega
  ·exact (hc.fz _ _ f2).2 q
 ·exact f3 k n _ hk hσ
theorem box_seen (hc:c.Ok) (hs:SW c σ h w) {k T g9 n9 T9:Nat} {l9:List D} {A:List C} (hk:h k=some (.box T [.c (.sl 1 (A.map fun c=>[c]))])) (h9:h 9=some (.box T9 l9)) (hσ9:σ 9=some (some g9,n9)) (hne:k≠9) :
  ∃(g n cap:Nat) (a:Option Addr) (us:List Value),σ k=some (some g,n)∧CsRep (fz c σ h w) w A us∧
   ∀W:World,w.heap.size≤W.heap.size→(∀b,b<w.heap.size→b≠g9→W.heap[b]? = w.heap[b]?)→Seen W (.slice a A.length cap) A.length 1 us∧W.cell? ⟨g,0,none⟩=some (.slice a A.length cap):=by
 obtain⟨g,n,cs,q1,q2,q3,q4⟩:=hs.hp k _ hk
 have hgg:g≠g9:=by
  rintro rfl
  exact hne (hs.inj k 9 g n n9 (by rw[hk];simp) (by rw[h9];simp) q1 hσ9)
 have hglt:g<w.heap.size:=(Array.getElem?_eq_some_iff.1 q3).1
 obtain⟨va,vs,e1,p1,p2⟩:=dsRep_inv q4
 have e2:=dsRep_nil_inv p2
 subst e2
 unfold DRep CRep at p1
 obtain⟨a,cap,rfl,c1,c2,c3,c4⟩:=p1
 rw[List.length_map] at c1
 have hcell:∀W:World,W.heap[g]? = w.heap[g]?→W.cell? ⟨g,0,none⟩=some (.slice a A.length cap):=by
  intro W hW
  rw[cell_of_row W g 0 cs T (0,0) (hW.trans q3)]
  have:cs=#[.slice a (A.map fun c=>[c]).length cap]:=by rw[← Array.toArray_toList (xs:=cs),e1]
  rw[this,List.length_map];rfl
 rcases c4 with c4 | ⟨b,off,rfl,c5⟩
 ·have hA:A=[]:=by simpa using c4
  subst hA
  exact⟨g,n,cap,a,[],q1,csRep_nil,fun W hle hW=>⟨⟨rfl,a,cap,rfl,c1,c2,c3,.inl rfl⟩,hcell W (hW g hglt hgg)⟩⟩
 ·obtain⟨_,c6⟩:=rowsAt_iff.1 c5
  rw[flat_one] at c6
  obtain⟨us,u1,u2,u3⟩:=csAt_values c6
  refine⟨g,n,cap,_,us,q1,u1,fun W hle hW=>⟨⟨by rw[u1.len,Nat.mul_one],_,cap,rfl,c1,c2,c3,?_⟩,hcell W (hW g hglt hgg)⟩⟩
  by_cases hz:A.length=0
  ·exact .inl hz
  ·have hf0:=u3 0 (by omega)
   have hb1:=fz_lt hs hf0
   have hb2:=fz_box hc hs hf0 h9 hσ9
   refine .inr ⟨b,off,rfl,by omega,fun j u hu=>?_⟩
   have:=u2 j u hu
   unfold World.cell? at this ⊢
   rw[hW b hb1 hb2];exact this
theorem sw_other (hs:SW c σ h w) {l:Nat} {o o':Obj} (hl:c.n0≤l) (ho:w.heap[l]? = some o) (hn:o.isCells=false) (hm:∀es cl,o≠.map es cl) (hn':o'.isCells=false) :
  Evo σ σ (fz c σ h w) (fz c σ h (w.putObj l o')) w (w.putObj l o')∧SW c σ h (w.putObj l o'):=by
 have hlt:l<w.heap.size:=(Array.getElem?_eq_some_iff.1 ho).1
 have hsz:(w.putObj l o').heap.size=w.heap.size:=by simp
 have hcellN:∀(W:World) (q:Obj) (off:Nat),W.heap[l]? = some q→q.isCells=false→W.cell? ⟨l,off,none⟩=none:=by
  intro W q off hq hc
  unfold World.cell?
  rw[hq]
  cases q<;>simp_all [Obj.isCells]
 have hnew:(w.putObj l o').heap[l]? = some o':=World.putObj_heap_same hlt
 have ev:Evo σ σ (fz c σ h w) (fz c σ h (w.putObj l o')) w (w.putObj l o'):=by
  refine⟨fun _ _ h=>h,⟨fun b o hf=>?_,fun b off hf=>?_⟩,fun g cur e fr hg=>⟨cur,fr,?_,rfl⟩⟩
  ·unfold fz;rw[hsz];exact hf
  ·by_cases q:b=l
   ·subst q;rw[hcellN _ _ _ hnew hn',hcellN _ _ _ ho hn]
   ·unfold World.cell?
    rw[World.putObj_heap_other q]
  ·have:g≠l:=by rintro rfl;rw[ho] at hg;cases hg;cases hn
   rw[World.putObj_heap_other this];exact hg
 refine⟨ev,hs.os,hs.tape,hs.output,by rw[hsz];exact hs.size,fun b h1 h2=>?_,fun k hb hk=>(hs.hp k hb hk).evo ev fun g n hg=>?_,hs.inj,hs.kept.trans ev.keeps,hs.shape.trans ev.shape,hs.sg0⟩
 ·rw[World.putObj_heap_other (by omega)];exact hs.block b h1 h2
 ·refine World.putObj_heap_other ?_
  rintro rfl
  have:=hs.hp k hb hk
  cases hb with
  | box bt l=>obtain⟨g',n',cs,h1,h2,h3,h4⟩:=this;rw[hg] at h1;cases h1;rw[ho] at h3;cases h3;cases hn
  | tail e sz=>
   obtain⟨_,ob,n',h1,h2⟩:=this
   rw[hg] at h1;cases h1
   obtain⟨_,cur,h3⟩:=h2
   rw[ho] at h3;cases h3;cases hn
  | arr e sz rows=>
   obtain⟨_,_,ob,n',h1,h2⟩:=this
   rw[hg] at h1;cases h1
   obtain⟨_,cur,h3,_⟩:=h2
   rw[ho] at h3;cases h3;cases hn
  | mp l=>obtain⟨g',n',es,cl,h1,h2,h3,h4⟩:=this;rw[hg] at h1;cases h1;rw[ho] at h3;cases h3;exact hm _ _ rfl
  | darr e sz rows=>
   obtain⟨_,_,ob,n',h1,h2⟩:=this
   rw[hg] at h1;cases h1
   obtain⟨_,cur,h3,_⟩:=h2
   rw[ho] at h3;cases h3;cases hn
end
theorem app_delta {rf out:Rf} (hn:ndK out=true):Dl.app (hpL rf) (deltaOf rf out)=hpL out:=by
 funext k
 unfold deltaOf
 rw[app_append]
 by_cases hk:∃b,(k,b)∈out
 ·obtain⟨b,hb⟩:=hk
  rw[app_somes_in (b:=b) (fun b' hb'=>by have e1:=mem_hpL hn hb;have e2:=mem_hpL hn hb';rw[e1] at e2;cases e2;rfl) hb,mem_hpL hn hb]
 ·rw[app_somes_out hk]
  have hno:hpL out k=none:=by
   cases q:hpL out k with
   | none=>rfl
   | some b=>exact absurd ⟨b,hpL_mem q⟩ hk
  rw[hno]
  refine app_nones_in ?_
  by_cases hr:∃b,(k,b)∈rf
  ·exact .inr hr
  ·refine .inl ?_
   cases q:hpL rf k with
   | none=>rfl
   | some b=>exact absurd ⟨b,hpL_mem q⟩ hr
def roundE (rows:List (List C)):Cont:=fun x e h n=>match x with
 | .normal=>∃n',Wk [9,60] e h [] (hR' rows) n'
 | _=>False
abbrev env9:Env:=ofL [(9,.d (.ptr 9 0))]
abbrev envX (x y:C):Env:=upd (upd (upd (upd env9 43 (.d (.c x))) 44 (.d (.c y))) 10 (.d (.c x))) 11 (.d (.c y))
def isAssign (o:Oper) (d s:Nat):Prop:=o.op=.assign (.tmp s)∧o.dst=some d∧o.guard=none
section
variable {P:Program} {nt:Nat} {c:Ctx} {σ:Sg} {e:Env} {h:Hp} {a:Act} {w:World}
theorem assign_in {l m id d s:Nat} {o:Oper} (ho:isAssign o d s) {Q:Exit→Act→World→Prop} {a:Act} {w:World} (h:Q .normal (a.put (some d) (a.eval (.tmp s))) w):(Code.region id #[o] false).wpIn (Fence.wide.inRound l) m P Q a w:=by
 refine wpIn_region_list ?_
 show wpListIn _ _ _ _ _ [o] a w
 unfold wpListIn
 rw[if_pos (by unfold Region.wanted;rw[ho.2.2])]
 refine opIn_of_wp (fun c e=>by rw[ho.1] at e;cases e) ?_
 unfold Oper.wp
 have e1:(execOp a.eval o).run P w=.ok (.value (a.eval (.tmp s))) w:=by simp[execOp,ho.1]
 rw[e1]
 show wpListIn (Fence.wide.inRound l) m P #[o] Q [] (a.put o.dst _) w
 rw[ho.2.1]
 exact h
theorem key_cells {rows:List (List C)} (hs:SW c σ (hpL (hR rows)) w) {k b m:Nat} {hb:HB} (hk:(k,hb)∈hR rows) (hσ:σ k=some (some b,m)):∃cs e fr,w.heap[b]? = some (.cells cs e fr):=by
 have:=hs.hp k hb (mem_hpL (by rfl) hk)
 rcases List.mem_cons.1 hk with q | q
 ·cases q
  obtain⟨g,n,cs,h1,h2,h3,h4⟩:=this
  rw[hσ] at h1;cases h1
  exact⟨_,_,_,h3⟩
 ·rw[List.mem_singleton] at q
  cases q
  obtain⟨_,ob,n',h1,h2⟩:=this
  rw[hσ] at h1;cases h1
  obtain⟨_,cur,h3⟩:=h2
  exact⟨_,_,_,h3⟩
theorem rep_any {σ:Sg} {F:Fzn} {w:World} {u:Value}:PRep σ F w .any u:=by unfold PRep;trivial
theorem range_out (hc:c.Ok) (hm:P.follows .mixedOrders=true) (hs:St c nt σ e h a w) {g:Operand} {gf:Nat} {lb:Array Value} {body:Code} {id1 id2:Nat} {o1 o2:Oper} {Q:Exit→Act→World→Prop}
  (hg:a.eval g=.func (.func gf) #[] lb) (eg:∀args w,(callFunc gf args).run P w=.ok (.enter gf args) w)
  (h9e:e 9=.d (.ptr 9 0)) (h9:h 9=some (.box TT [nilC])) (h60:σ 60=none) (hnt:44<nt) (ha1:isAssign o1 10 43) (ha2:isAssign o2 11 44)
  {A B:List C} {xa xb:List Value} (hA:CsRep (fz c σ h w) w A xa) (hB:CsRep (fz c σ h w) w B xb) {T0:World→Prop}
  (hseq:SeqP Fence.wide 5 P gf lb (fun x:Value×Value=>#[x.1,x.2]) (prs xa xb) T0)
  (hT0:∀W,w.heap.size≤W.heap.size→(∀b,b<w.heap.size→(∀n,σ 9≠some (some b,n))→W.heap[b]? = w.heap[b]?)→T0 W)
  (f:C×C→List C) (hok:okIn body=true)
  (hround:∀(i:Nat) (p:C×C),(prs A B)[i]? = some p→vc P nt [9,60] (fun _ _ _ _=>False) body (envX p.1 p.2) (hpL (hR (((prs A B).take i).map f))) [9,60] (roundE (((prs A B).take (i+1)).map f)))
  (hdone:∀(D:Nat) (W:World) (σ':Sg),w.heap.size≤D→W.heap[D]? = some (.deferred (some []))→
   Evo σ σ' (fz c σ h w) (fz c σ' (Dl.app h (deltaOf r0 (hR ((prs A B).map f)))) W) w W→SW c σ' (Dl.app h (deltaOf r0 (hR ((prs A B).map f)))) W→(∀k,k∉[9,60]→σ k=none→σ' k=none)→
   Q .normal { a with defers:={ target:=.collected D,args:=#[] }::a.defers } W) :
  (Code.rangeFunc g #[43,44] ((Code.region id1 #[o1] false).seq (Code.region id2 #[o2] false)) body).wpIn Fence.wide 6 P Q a w:=by
 have hnm:namesOk [(9,9),(60,60)] [] r0 (hR ((prs A B).map f))=true:=rfl
 have hr1:RR [(9,9),(60,60)] r0 r0:=⟨_,_,_,rfl,rfl,rfl,rfl⟩
 have hr2:∀rows,RR [(9,9),(60,60)] (hR rows) (hR rows):=fun rows=>⟨_,_,_,rfl,rfl,rfl,_,_,_,rfl,rfl,rfl,rfl⟩
 have hin:∀p∈([]:Rf)++r0,h p.1=some p.2:=by
  intro p hp
  rw[List.nil_append,List.mem_singleton] at hp
  subst hp;exact h9
 have hσ9:∃g9 n9,σ 9=some (some g9,n9):=by
  obtain⟨g,n,cs,q1,_⟩:=hs.hp 9 _ h9
  exact⟨g,n,q1⟩
 obtain⟨g9,n9,hσ9⟩:=hσ9
 have hfr:Fresh σ (deltaOf r0 (hR ((prs A B).map f))) ([]++r0):=by
  intro k hk hno
  have:k=9∨k=60:=by simpa [Dl.keys,deltaOf] using hk
  rcases this with rfl | rfl
  ·exact absurd rfl (hno (9,.box TT [nilC]) (by simp))
  ·exact h60
 obtain⟨hCo,hCfr,hCk,hCs,fin⟩:=frame_world (res0:=.any) (res:=.any) hnm (rfl:RR [(9,9),(60,60)] [] []) hr1 (hr2 _) (by unfold renP;rfl) hc hs.toSW hin hfr
 obtain⟨C,hC⟩:∃C,C=calleeC c [(9,9),(60,60)] σ h w ([]++r0):=⟨_,rfl⟩
 have hCw:C.w0=w:=by rw[hC];rfl
 have hCσ:C.σ0=sg0 [(9,9),(60,60)] σ:=by rw[hC];rfl
 have hCF:C.F1=fz c σ h w:=by rw[hC];rfl
 have hC9:C.σ0 9=σ 9:=by rw[hCσ];rfl
 have hCn:∀k,k∉[9]→C.σ0 k=none:=fun k hk=>by rw[hCσ];exact hCfr k (by simpa using hk)
 have hCfk:∀k,C.σ0 k≠none→k∈[9]:=fun k hk=>Classical.byContradiction fun q=>hk (hCn k q)
 have hCe:∀b,C.ext b→∃n,σ 9=some (some b,n):=by
  rintro b hb
  rw[hC] at hb
  obtain⟨k,hb',m,q1,q2⟩:=hb
  have:=hpL_mem q1
  rw[List.nil_append,List.mem_singleton] at this
  cases this
  exact⟨m,q2⟩
 rw[← hC] at hCo hCk hCs fin
 rw[← hCσ] at hCk hCs
 have hCn0:C.n0=w.heap.size:=by show C.w0.heap.size=_;rw[hCw]
 have hpx:=prs_rep hA hB
 have hlen:(prs xa xb).length=(prs A B).length:=by rw[prs_len,prs_len,hA.len,hB.len]
 have h9v:a.tmps.getD 9 undef=.pointer (some ⟨g9,0,none⟩):=by
  have:=hs.env 9
  rw[h9e] at this
  unfold PRep DRep at this
  obtain⟨g,n,q1,q2⟩:=this
  rw[hσ9] at q1;cases q1;exact q2
 refine range_plain (a₁:=fun x=>(((({ tmps:=a.tmps,defers:=[] }:Act).put (some 43) x.1).put (some 44) x.2).put (some 10) x.1).put (some 11) x.2) rfl (by decide) hg trivial eg hseq (fun _=>rfl)
  (fun pre W=>∃σ',SW C σ' (hpL (hR (((prs A B).take pre.length).map f))) W∧∀k,k∉[9,60]→σ' k=none) ?hT ?hIp ?hIa ?hId ?h0 ?assign ?body ?done
 case hT=>
  rintro s W ⟨σ',q1,_⟩
  refine hT0 W (by have:=q1.size;omega) fun b hb hne=>?_
  have:=q1.block b (by omega) (fun he=>by obtain⟨n,q⟩:=hCe b he;exact hne n q)
  rw[hCw] at this;exact this
 case hIp=>
  rintro s W l r r' ⟨σ',q1,q2⟩ hl hr
  exact⟨σ',(sw_other q1 (by omega) hr rfl (fun _ _ e=>by cases e) rfl).2,q2⟩
 case hIa=>
  rintro s W o ⟨σ',q1,q2⟩
  exact⟨σ',sw_below q1 ((Below.refl _ W).alloc (Nat.le_refl _) o),q2⟩
 case hId=>
  rintro s W ⟨σ',q1,q2⟩
  exact⟨σ',sw_below q1 (Below.refl _ W).drew,q2⟩
 case h0=>
  obtain⟨_,q⟩:=sw_wk (fk:=[9]) (f:=fnL [(9,9)]) (n:=[9,60]) (lh:=hR []) hCfk hCs rfl rfl ⟨⟨rfl,rfl,⟨rfl,rfl,Nat.zero_lt_succ _,rfl,rfl⟩,rfl⟩,⟨rfl,Nat.zero_lt_succ _⟩,trivial⟩
  exact⟨_,q,fun k hk=>by unfold newSg;rw[if_neg fun e=>hk (kin_mem e)]⟩
 case assign=>
  intro l x W K hK
  have hact:({ tmps:=((#[43,44]:Array Tmp).zip #[x.1,x.2]).foldl (fun t (p,v)=>t.setIfInBounds p v) a.tmps,defers:=[] }:Act)=(({ tmps:=a.tmps,defers:=[] }:Act).put (some 43) x.1).put (some 44) x.2:=by simp[Act.put]
  rw[hact]
  refine wpIn_seq (assign_in ha1 ?_)
  refine assign_in ha2 ?_
  have hn:=hs.nt
  have e1:((({ tmps:=a.tmps,defers:=[] }:Act).put (some 43) x.1).put (some 44) x.2).eval (.tmp 43)=x.1:=by
   simp[Act.eval,Act.put,hn,Array.getElem?_setIfInBounds,show 43<nt by omega]
  have e2:(((({ tmps:=a.tmps,defers:=[] }:Act).put (some 43) x.1).put (some 44) x.2).put (some 10) x.1).eval (.tmp 44)=x.2:=by
   simp[Act.eval,Act.put,hn,Array.getElem?_setIfInBounds,show 44<nt by omega]
  rw[e1,e2]
  exact hK
 case body=>
  rintro l pre x W ⟨σ',q1,q2⟩ hx hsz
  obtain⟨q,hq,r1,r2⟩:=hpx _ _ hx
  obtain⟨i,hi⟩:∃i,i=pre.length:=⟨_,rfl⟩
  rw[← hi] at q1 hq hx
  have hnm2:namesOk [(9,9),(60,60),(61,61)] [] (hR (((prs A B).take i).map f)) (hR' (((prs A B).take (i+1)).map f))=true:=rfl
  have hra:RR [(9,9),(60,60),(61,61)] (hR (((prs A B).take i).map f)) (hR (((prs A B).take i).map f)):=⟨_,_,_,rfl,rfl,rfl,_,_,_,rfl,rfl,rfl,rfl⟩
  have hrb:RR [(9,9),(60,60),(61,61)] (hR' (((prs A B).take (i+1)).map f)) (hR' (((prs A B).take (i+1)).map f)):=⟨_,_,_,rfl,rfl,rfl,_,_,_,rfl,rfl,rfl,rfl⟩
  obtain⟨hi1,hi2⟩:(∀p∈([]:Rf)++hR (((prs A B).take i).map f),hpL (hR (((prs A B).take i).map f)) p.1=some p.2)∧Fresh σ' (deltaOf (hR (((prs A B).take i).map f)) (hR' (((prs A B).take (i+1)).map f))) ([]++hR (((prs A B).take i).map f)):=by
   refine⟨fun p hp=>mem_hpL (by rfl) hp,fun k hk hno=>q2 k fun hm=>?_⟩
   rcases List.mem_cons.1 hm with rfl | hm
   ·exact hno _ (List.mem_cons_self ..) rfl
   ·rw[List.mem_singleton] at hm
    subst hm
    exact hno _ (List.mem_cons_of_mem _ (List.mem_cons_self ..)) rfl
  obtain⟨hDo,hDfr,hDk,hDs,fin2⟩:=frame_world (res0:=.any) (res:=.any) hnm2 (rfl:RR [(9,9),(60,60),(61,61)] [] []) hra hrb (by unfold renP;rfl) hCo q1 hi1 hi2
  obtain⟨D,hDD⟩:∃D,D=calleeC C [(9,9),(60,60),(61,61)] σ' (hpL (hR (((prs A B).take i).map f))) W ([]++hR (((prs A B).take i).map f)):=⟨_,rfl⟩
  have hDw:D.w0=W:=by rw[hDD];rfl
  have hDσ:D.σ0=sg0 [(9,9),(60,60),(61,61)] σ':=by rw[hDD];rfl
  have hDdf:D.df=[]:=by rw[hDD];rfl
  have hDn0:D.n0=W.heap.size:=by show D.w0.heap.size=_;rw[hDw]
  have hD9:D.σ0 9=some (some g9,n9):=by
   rw[hDσ]
   show σ' 9=_
   exact q1.sg0 9 _ (hC9.trans hσ9)
  have hDe:∀b,D.ext b→∃cs e fr,W.heap[b]? = some (.cells cs e fr):=by
   rintro b hb
   rw[hDD] at hb
   obtain⟨_,_,k',hb',m,g1,g2⟩:=ext_own hra q1 hi1 hb
   exact key_cells q1 g1 g2
  rw[← hDD] at hDo hDk hDs fin2
  rw[← hDσ] at hDk hDs hDfr
  have hDn:∀k,k∉[9,60]→D.σ0 k=none:=fun k hk=>hDfr k hk
  have hDfk:∀k,D.σ0 k≠none→k∈[9,60]:=fun k hk=>Classical.byContradiction fun q=>hk (hDn k q)
  have hkk:Keeps (fz c σ h w) (fz D D.σ0 (hpL (hR (((prs A B).take i).map f))) W) w W:=by
   have:=q1.kept
   rw[hCF,hCw] at this
   exact this.trans hDk
  have hv1:PRep D.σ0 (fz D D.σ0 (hpL (hR (((prs A B).take i).map f))) W) W (.d (.c q.1)) x.1:=by unfold PRep DRep;exact CRep.keeps hkk _ _ r1
  have hv2:PRep D.σ0 (fz D D.σ0 (hpL (hR (((prs A B).take i).map f))) W) W (.d (.c q.2)) x.2:=by unfold PRep DRep;exact CRep.keeps hkk _ _ r2
  have st0:St D nt D.σ0 env9 (hpL (hR (((prs A B).take i).map f))) { tmps:=a.tmps,defers:=[] } W:=by
   refine⟨hDs,fun t=>?_,hDdf.symm,hs.nt⟩
   by_cases ht:t=9
   ·subst ht
    show PRep _ _ _ (.d (.ptr 9 0)) (a.tmps.getD 9 undef)
    unfold PRep DRep
    exact⟨g9,n9,hD9,h9v⟩
   ·have:env9 t=.any:=by
     show (bif Nat.beq t 9 then _ else _)=_
     have:Nat.beq t 9=false:=by rw[Bool.eq_false_iff];intro e;exact ht (Nat.eq_of_beq_eq_true e)
     rw[this];rfl
    rw[this];exact rep_any
  have st1:=st_put (d:=some 43) (v:=.d (.c q.1)) (u:=x.1) st0 Evo.refl st0.toSW hv1 (fun t ht=>by cases ht;exact Nat.lt_of_le_of_lt (by decide) hnt)
  have st2:=st_put (d:=some 44) (v:=.d (.c q.2)) (u:=x.2) st1 Evo.refl st1.toSW hv2 (fun t ht=>by cases ht;exact Nat.lt_of_le_of_lt (by decide) hnt)
  have st3:=st_put (d:=some 10) (v:=.d (.c q.1)) (u:=x.1) st2 Evo.refl st2.toSW hv1 (fun t ht=>by cases ht;exact Nat.lt_of_le_of_lt (by decide) hnt)
  have st4:=st_put (d:=some 11) (v:=.d (.c q.2)) (u:=x.2) st3 Evo.refl st3.toSW hv2 (fun t ht=>by cases ht;exact Nat.lt_of_le_of_lt (by decide) hnt)
  refine wpIn_mono (vcIn_out (X:=fun _ _ _ _=>False) (fk:=[9,60]) hDfk hDo hm body _ _ [9,60] (roundE (((prs A B).take (i+1)).map f)) D.σ0 _ W hok (fun _ _ _ q=>q) (hround i q hq) st4 hDn) ?_
  intro ex a' W' hq'
  cases ex with
  | normal=>
   obtain⟨e',h',n',σ2,⟨n2,wk⟩,hs2,_⟩:=hq'
   obtain⟨σ3,st5,_⟩:=st_wk hDfk hs2 wk
   obtain⟨σ4,_,sw4,_,_⟩:=fin2 σ3 W' undef st5.toSW rep_any
   rw[app_delta (by rfl)] at sw4
   obtain⟨_,sw5⟩:=sw_wk (fk:=[9]) (f:=fnL [(9,9),(60,61)]) (n:=[9,60]) (lh:=hR (((prs A B).take (i+1)).map f)) hCfk sw4 rfl rfl ⟨⟨rfl,rfl,⟨rfl,rfl,rfl,rfl,rfl⟩,rfl⟩,⟨rfl,rfl,rfl⟩,trivial⟩
   refine⟨rfl,⟨Nat.le_trans (Nat.le_of_eq hDn0.symm) hs2.size,fun k o hk hB ho=>?_⟩,newSg σ4 (fnL [(9,9),(60,61)]) [9,60],?_,fun k hk=>by unfold newSg;rw[if_neg fun e=>hk (kin_mem e)]⟩
   ·have hlt:k<W.heap.size:=(Array.getElem?_eq_some_iff.1 hk).1
    have:=hs2.block k (by rw[hDn0];exact hlt) (fun he=>by obtain⟨cs,e,fr,q⟩:=hDe k he;rw[hk] at q;cases q;cases ho)
    rw[this,hDw];exact hk
   ·rw[List.length_append,← hi];exact sw5
  | exit id=>obtain⟨e',h',n',σ2,hx,_⟩:=hq';exact hx.elim
  | goto l=>obtain⟨e',h',n',σ2,hx,_⟩:=hq';exact hx.elim
  | ret=>obtain⟨e',h',n',σ2,hx,_⟩:=hq';exact hx.elim
  | panic ch=>obtain⟨v,_,e',h',n',σ2,hx,_⟩:=hq';exact hx.elim
  | outgrown=>obtain⟨e',h',n',σ2,hx,_⟩:=hq';exact hx.elim
 case done=>
  rintro D W hD ⟨σ',q1,q2⟩ hK
  rw[hlen,List.take_of_length_le (Nat.le_refl _)] at q1
  obtain⟨σ4,ev,sw,_,fr⟩:=fin σ' W undef q1 rep_any
  exact hdone D W σ4 hD hK ev sw fun k hk hσ=>fr k (fun hm=>hk (by simpa [Dl.keys,deltaOf] using hm)) hσ
end
end
section
open Go.RowKit K
set_option maxRecDepth 100000
set_option maxRecDepth 100000
theorem info_v:∃(i:TypeInfo) (z:Value),Tryz.prog.info? 49=some i∧i.zero=some z∧z.cells.size=i.size∧i.size=3∧i.bytes≤64∧0<i.bytes:=by
 have h:(Tryz.prog.info? 49).map (fun i=>(i.zero.map fun z=>z.cells.size,i.size,Nat.ble i.bytes 64,Nat.ble 1 i.bytes))=some (some 3,3,true,true):=by kernel_rfl
 cases hi:Tryz.prog.info? 49 with
 | none=>rw[hi] at h;cases h
 | some i=>
  rw[hi] at h
  simp only[Option.map_some,Option.some.injEq,Prod.mk.injEq] at h
  obtain⟨h1,h2,h3,h4⟩:=h
  cases hz:i.zero with
  | none=>rw[hz] at h1;cases h1
  | some z=>
   rw[hz] at h1
   simp only[Option.map_some,Option.some.injEq] at h1
   exact⟨i,z,rfl,hz,by omega,h2,Nat.le_of_ble_eq_true h3,Nat.le_of_ble_eq_true h4⟩
theorem zeroCells_add (z:Array Value) (a b:Nat) (hz:0<z.size):Builtin.zeroCells z a++Builtin.zeroCells z b=Builtin.zeroCells z (a+b):=by
 apply Array.ext
 ·simp[Builtin.zeroCells,Nat.add_mul]
 ·intro j h1 h2
  simp only[Builtin.zeroCells,Array.size_append,Array.size_map,Array.size_range] at h1 h2
  by_cases h:j<a*z.size
  ·rw[Array.getElem_append_left (by simpa [Builtin.zeroCells] using h)]
   simp[Builtin.zeroCells]
  ·rw[Array.getElem_append_right (by simp[Builtin.zeroCells];omega)]
   simp only[Builtin.zeroCells,Array.getElem_map,Array.getElem_range,Array.size_map,Array.size_range]
   have:(j - a*z.size)%z.size=j%z.size:=by
    conv=>rhs;rw[show j=(j - a*z.size)+z.size*a by rw[Nat.mul_comm z.size a];omega]
    rw[Nat.add_mul_mod_self_left]
   rw[this]
set_option maxHeartbeats 1000000 in
theorem grow_nil (n:Nat) (h0:0<n) (hn:n≤1000) (w:World) (i:TypeInfo) (z:Value) (hi:Tryz.prog.info? 49=some i) (hz:i.zero=some z) (hzs:z.cells.size=i.size) (hs:i.size=3) (hb:i.bytes≤64) :
  Calls Tryz.prog 79 #[.slice none 0 0,.int .i64 n] w fun e w'=>
   e=.returned (.slice (some ⟨w.heap.size,0,none⟩) 0 (grownCap w n 0 49))∧w'=w.drew.alloc (.cells (#[]++Builtin.zeroCells z.cells (grownCap w n 0 49 - 0)) 49):=by
 have hnb:n*i.bytes≤64000:=Nat.le_trans (Nat.mul_le_mul hn hb) (by decide)
 have hG:=grownCap_ge w n 0 49
 have hrz:∀ty,(Builtin.append_ #[31,3] ty #[.slice none 0 0,.int .i64 (n:Int)]).run Tryz.prog w =
   .ok (.slice (some ⟨w.heap.size,0,none⟩) n (grownCap w n 0 49)) (w.drew.alloc (.cells (#[]++Builtin.zeroCells z.cells (grownCap w n 0 49 - 0)) 49)):=fun ty=>by
  have h:=Lib.run_append_grow_zeros (P:=Tryz.prog) w 31 3 ty 49 i z .i64 .i64 (by kernel_rfl) (by kernel_rfl) hi hz none 0 0 [] (run_firstCells_none w.drew i.size 0 0 0) n h0 (by omega) (by omega) (by omega) (by omega)
   (growslice_fits (by omega) (by rw[Nat.zero_add];omega))
  simp only[Nat.zero_add] at h
  rw[Array.append_assoc,zeroCells_add _ _ _ (by omega),Nat.add_sub_cancel' hG] at h
  exact h
 have hw:wrap64 (n:Int)=n:=by unfold wrap64;omega
 have hpos:(n:Int)>0:=by omega
 have hneg:¬(n:Int)<0:=by omega
 obtain⟨G,hGG⟩:∃G,G=grownCap w n 0 49:=⟨_,rfl⟩
 rw[← hGG] at hrz hG ⊢
 have hG63:G≤9223372036854775807:=by
  have:=grownCap_le_maxLen w n 0 49 (by unfold maxLen;omega)
  rw[← hGG] at this
  unfold maxLen at this
  omega
 clear hGG
 go_enter Tryz.func79,Tryz.ntmps79
 go_wp2_with (at_builtin;refine Lib.wpList_append_run _ rfl _ _ _ _ rfl _ _ rfl rfl _ _ (hrz _) ?_)
 all_goals (go_ret;exact⟨rfl,rfl⟩)
set_option maxHeartbeats 1000000 in
theorem grow_zero (w:World):Calls Tryz.prog 79 #[.slice none 0 0,.int .i64 0] w fun e w'=>e=.returned (.slice none 0 0)∧w'=w:=by
 go_enter Tryz.func79,Tryz.ntmps79
 go_wp2
 all_goals (go_ret;exact⟨rfl,rfl⟩)
theorem s_grow (n:Nat) (hn:n≤1000):CallS Tryz.prog 79 [.d (.c (.v (.slice none 0 0))),pInt .i64 n] [] [] (.d (.app NK 49 3 [])) [(NK,.tail 49 3)]:=by
 refine⟨⟨_,Tryz.func79,rfl,by kernel_rfl⟩,fun c vs hc hdf hfr hs ha=>?_⟩
 have h0:c.σ0 NK=none:=hfr NK (by simp)
 obtain⟨u1,us,rfl,p1,ha⟩:∃u us,vs=u::us∧PRep c.σ0 (fz c c.σ0 (hpL []) c.w0) c.w0 (.d (.c (.v (.slice none 0 0)))) u∧PsRep c.σ0 (fz c c.σ0 (hpL []) c.w0) c.w0 [pInt .i64 n] us:=by
  cases vs with
  | nil=>unfold PsRep at ha;exact ha.elim
  | cons u us=>unfold PsRep at ha;exact⟨u,us,rfl,ha.1,ha.2⟩
 obtain⟨u2,rfl,p2⟩:∃u,us=[u]∧PRep c.σ0 (fz c c.σ0 (hpL []) c.w0) c.w0 (pInt .i64 n) u:=by
  cases us with
  | nil=>unfold PsRep at ha;exact ha.elim
  | cons u us=>
   unfold PsRep at ha
   cases us with
   | nil=>exact⟨u,rfl,ha.1⟩
   | cons _ _=>have:=ha.2;unfold PsRep at this;exact this.elim
 obtain rfl:=rep_v p1
 obtain rfl:=rep_v p2
 have hh:∀b,upd (hpL []) NK b=fun k=>bif Nat.beq k NK then b else none:=fun b=>by
  funext k;unfold upd hpL;rfl
 have hh2:∀b,upd (hpL []) NK (some b)=hpL ([]++[(NK,b)]):=fun b=>by
  funext k
  unfold upd
  by_cases q:k=NK
  ·subst q;rfl
  ·have:Nat.beq k NK=false:=by rw[Bool.eq_false_iff];intro e;exact q (Nat.eq_of_beq_eq_true e)
   have h2:Nat.beq NK k=false:=by rw[Bool.eq_false_iff];intro e;exact q (Nat.eq_of_beq_eq_true e).symm
   rw[this,List.nil_append]
   unfold hpL
   first|rw[this];rfl|rw[h2];rfl
 by_cases hz:n=0
 ·subst hz
  refine (grow_zero c.w0).mono ?_
  rintro e w' ⟨rfl,rfl⟩
  obtain⟨_,h1,h2⟩:=nil_tail (key:=NK) (e:=49) (sz:=3) hs h0 (by decide)
  refine⟨.slice none 0 0,upd c.σ0 NK (some (none,0)),rfl,?_,?_⟩
  ·rw[← hh2];exact h1
  ·rw[← hh2];exact h2
 ·obtain⟨i,z,hi,hzz,hzs,h3,hb,_⟩:=info_v
  refine (grow_nil n (by omega) hn c.w0 i z hi hzz hzs h3 hb).mono ?_
  rintro e w' ⟨rfl,rfl⟩
  obtain⟨σ',_,h1,h2,_⟩:=grown_new (key:=NK) (e:=49) (cap:=grownCap c.w0 n 0 49) (l:=[]) (us:=[]) hs h0 (hzs.trans h3) (by decide) (by simp) csRep_nil rfl (Nat.zero_le _) (grownCap_le_maxLen c.w0 n 0 49 (by unfold maxLen;omega))
  refine⟨_,σ',rfl,?_,?_⟩
  ·rw[← hh2];exact h1
  ·rw[← hh2];exact h2
theorem sum_le_take:∀(l:List Nat) (k:Nat),(l.take k).sum≤l.sum
 | [],k=>by simp
 | a::l,0=>by simp
 | a::l,k+1=>by have:=sum_le_take l k;simp only[List.take_succ_cons,List.sum_cons];omega
theorem p_concat (ls:List RowT) (hs:(ls.map List.length).sum≤1000) (hn:ls.length≤1000):Pure Tryz.prog 54 [rwsV ls] (.d (.c (.sl 3 (ls.flatten.map ValueD.c)))):=by
 have pg:=s_grow (ls.map List.length).sum hs
 have hml:(ls.map rowC).length=ls.length:=List.length_map _
 refine pure_of Tryz.func54 (by rfl) rfl (by kernel_rfl) (by rfl) ?_
 have hsum:∀(k:Nat) (hk:k<ls.length),((ls.take (k+1)).map List.length).sum=((ls.take k).map List.length).sum+ls[k].length∧((ls.take k).map List.length).sum+ls[k].length≤1000:=fun k hk=>by
  have h1:((ls.take (k+1)).map List.length).sum=((ls.take k).map List.length).sum+ls[k].length:=by
   rw[take_snoc hk,List.map_append,List.sum_append];simp
  have h2:=sum_le_take (ls.map List.length) (k+1)
  rw[← List.map_take] at h2
  omega
 ((conv=>whnf);repeat' ((first|(with_reducible first|apply a_|apply b_|apply c_)|((with_reducible first|apply d_|apply e_|apply f_|apply g_);focus first|omega|(simp only[q_]<;>omega))|((with_reducible first|apply i_|apply h_);focus first|omega|(simp only[q_]<;>omega))|((with_reducible apply h_);focus first|decide|kernel_rfl)|refine s_ (by decide) ?_|refine t_ (by decide) ?_|with_reducible first|apply l_|apply m_|apply n_|apply o_|refine p_ (fun _=>?_) (fun _=>?_))<;>(conv=>whnf)))
 refine LoopC.mk Nat (fun k=>[(0,rwsV ls),(3,pInt .i64 ((((ls.take k).map List.length).sum:Nat):Int)),(9,rwsV ls),(10,pInt .i64 ls.length),(11,pInt .i64 (k:Int))]) (fun _=>[]) [] (fun k=>k≤ls.length) (fun k=>ls.length - k) 0 (Nat.zero_le _) ?start ?round
 case start=>exact⟨[],rfl,rfl,⟨.inl rfl,PLe.int (by simp),.inl rfl,PLe.int (by simp),.inl rfl,trivial⟩,trivial⟩
 case round=>
  intro k hk
  have hk:k≤ls.length:=hk
  by_cases q:k<ls.length
  ·obtain⟨h1,h2⟩:=hsum k q
   have hm:(ls[k].map ValueD.c).length=ls[k].length:=List.length_map _
   ((conv=>whnf);repeat' ((first|(with_reducible first|apply a_|apply b_|apply c_)|((with_reducible first|apply d_|apply e_|apply f_|apply g_);focus first|omega|(simp only[q_]<;>omega))|((with_reducible first|apply i_|apply h_);focus first|omega|(simp only[q_]<;>omega))|((with_reducible apply h_);focus first|decide|kernel_rfl)|refine s_ (by decide) ?_|refine t_ (by decide) ?_|(refine Idx.mapI (f:=rowC) k rfl q ?_)|with_reducible first|apply l_|apply m_|apply n_|apply o_|refine p_ (fun _=>?_) (fun _=>?_))<;>(conv=>whnf)))
   all_goals first
    | exact⟨k+1,by show k+1≤_;omega,by show ls.length - (k+1)<ls.length - k;omega,[],rfl,rfl,⟨.inl rfl,PLe.int (by omega),.inl rfl,PLe.int (by simp),PLe.int (by omega),trivial⟩,trivial⟩
    | (exfalso;omega)
    | skip
  ·have e:ls.take k=ls:=List.take_of_length_le (by omega)
   rw[e]
   ((conv=>whnf);repeat' ((first|(with_reducible first|apply a_|apply b_|apply c_)|((with_reducible first|apply d_|apply e_|apply f_|apply g_);focus first|omega|(simp only[q_]<;>omega))|((with_reducible first|apply i_|apply h_);focus first|omega|(simp only[q_]<;>omega))|((with_reducible apply h_);focus first|decide|kernel_rfl)|refine s_ (by decide) ?_|refine t_ (by decide) ?_|(refine CallP.ret [(NK,24)] _ _ _ _ _ _ _ pg rfl rfl rfl rfl trivial ?_)|with_reducible first|apply l_|apply m_|apply n_|apply o_|refine p_ (fun _=>?_) (fun _=>?_))<;>(conv=>whnf)))
   refine LoopC.mk Nat (fun k=>[(6,.d (.app 60 49 3 ((ls.take k).flatten.map ValueD.c))),(25,rwsV ls),(26,pInt .i64 ls.length),(27,pInt .i64 (k:Int))]) (fun _=>[(60,.tail 49 3)]) [60] (fun k=>k≤ls.length) (fun k=>ls.length - k) 0 (Nat.zero_le _) ?start2 ?round2
   case start2=>exact⟨[(60,24)],rfl,rfl,⟨⟨rfl,rfl,rfl,rfl,by simp⟩,.inl rfl,PLe.int (by simp),.inl rfl,trivial⟩,⟨rfl,rfl,rfl⟩,trivial⟩
   case round2=>
    intro k hk
    have hk:k≤ls.length:=hk
    by_cases q:k<ls.length
    ·obtain⟨h1,h2⟩:=hsum k q
     have hf:(ls.take k).flatten.length=((ls.take k).map List.length).sum:=List.length_flatten
     ((conv=>whnf);repeat' ((first|(with_reducible first|apply a_|apply b_|apply c_)|((with_reducible first|apply d_|apply e_|apply f_|apply g_);focus first|omega|(simp only[q_]<;>omega))|((with_reducible first|apply i_|apply h_);focus first|omega|(simp only[q_]<;>omega))|((with_reducible apply h_);focus first|decide|kernel_rfl)|refine s_ (by decide) ?_|refine t_ (by decide) ?_|(refine Idx.mapI (f:=rowC) k rfl q ?_)|(refine Need.by 32 rfl (by simp only[List.length_map];omega) ?_)|with_reducible first|apply l_|apply m_|apply n_|apply o_|refine p_ (fun _=>?_) (fun _=>?_))<;>(conv=>whnf)))
     all_goals first
      | exact⟨k+1,by show k+1≤_;omega,by show ls.length - (k+1)<ls.length - k;omega,[(60,33)],rfl,rfl,⟨⟨rfl,rfl,rfl,rfl,by rw[take_snoc q,List.flatten_append,List.map_append];simp⟩,.inl rfl,PLe.int (by simp),PLe.int (by omega),trivial⟩,⟨rfl,rfl,rfl⟩,trivial⟩
      | (exfalso;omega)
      | skip
    ·have e:ls.take k=ls:=List.take_of_length_le (by omega)
     rw[e]
     ((conv=>whnf);repeat' ((first|(with_reducible first|apply a_|apply b_|apply c_)|((with_reducible first|apply d_|apply e_|apply f_|apply g_);focus first|omega|(simp only[q_]<;>omega))|((with_reducible first|apply i_|apply h_);focus first|omega|(simp only[q_]<;>omega))|((with_reducible apply h_);focus first|decide|kernel_rfl)|refine s_ (by decide) ?_|refine t_ (by decide) ?_|with_reducible first|apply l_|apply m_|apply n_|apply o_|refine p_ (fun _=>?_) (fun _=>?_))<;>(conv=>whnf)))
     all_goals first|exact Ret.mk rfl | (exfalso;omega)
end
section
open Go.RowKit K
set_option maxRecDepth 100000
set_option maxRecDepth 100000
theorem p_rowscheck (l:List RowT) (hb:∀r∈l,r.length≤140737488355328):Pure Tryz.prog 45 [rwsV l] (pInt .i64 (rowsChk l)):=by
 have hml:(l.map rowC).length=l.length:=List.length_map _
 refine pure_of Tryz.func45 (by rfl) rfl (by kernel_rfl) (by rfl) ?_
 unfold rowsChk
 by_cases h40:40<l.length
 ·rw[if_pos h40]
  ((conv=>whnf);repeat' ((first|(with_reducible first|apply a_|apply b_|apply c_)|((with_reducible first|apply d_|apply e_|apply f_|apply g_);focus first|omega|(simp only[q_]<;>omega))|((with_reducible first|apply i_|apply h_);focus first|omega|(simp only[q_]<;>omega))|((with_reducible apply h_);focus first|decide|kernel_rfl)|refine s_ (by decide) ?_|refine t_ (by decide) ?_|with_reducible first|apply l_|apply m_|apply n_|apply o_|refine p_ (fun _=>?_) (fun _=>?_))<;>(conv=>whnf)))
  all_goals first|exact Ret.int rfl | (exfalso;omega)
 ·rw[if_neg h40]
  ((conv=>whnf);repeat' ((first|(with_reducible first|apply a_|apply b_|apply c_)|((with_reducible first|apply d_|apply e_|apply f_|apply g_);focus first|omega|(simp only[q_]<;>omega))|((with_reducible first|apply i_|apply h_);focus first|omega|(simp only[q_]<;>omega))|((with_reducible apply h_);focus first|decide|kernel_rfl)|refine s_ (by decide) ?_|refine t_ (by decide) ?_|with_reducible first|apply l_|apply m_|apply n_|apply o_|refine p_ (fun _=>?_) (fun _=>?_))<;>(conv=>whnf)))
  refine LoopC.mk Nat (fun k=>[(0,rwsV l),(3,pInt .i64 (k:Int))]) (fun _=>[]) [] (fun k=>k≤l.length∧∀r∈l.take k,r.length≤8∧r.length=widthF l∧vChkAll r=0) (fun k=>l.length - k) 0 ⟨Nat.zero_le _,by simp⟩ ?start ?round
  case start=>exact⟨[],rfl,rfl,⟨.inl rfl,PLe.int (by simp),trivial⟩,trivial⟩
  case round=>
   rintro k ⟨hk,hz⟩
   have hk:k≤l.length:=hk
   have hz:∀r∈l.take k,r.length≤8∧r.length=widthF l∧vChkAll r=0:=hz
   by_cases q:k<l.length
   ·have q0:0<l.length:=by omega
    have hw:=width_get q0
    have hm:(l[k].map ValueD.c).length=l[k].length:=List.length_map _
    have hm0:(l[0].map ValueD.c).length=l[0].length:=List.length_map _
    rw[rChkW_at q hz]
    by_cases h8:8<l[k].length
    ·rw[if_pos h8]
     ((conv=>whnf);repeat' ((first|(with_reducible first|apply a_|apply b_|apply c_)|((with_reducible first|apply d_|apply e_|apply f_|apply g_);focus first|omega|(simp only[q_]<;>omega))|((with_reducible first|apply i_|apply h_);focus first|omega|(simp only[q_]<;>omega))|((with_reducible apply h_);focus first|decide|kernel_rfl)|refine s_ (by decide) ?_|refine t_ (by decide) ?_|(first|refine Idx.mapI (f:=rowC) k rfl q ?_|refine Idx.mapI (f:=rowC) 0 rfl q0 ?_)|with_reducible first|apply l_|apply m_|apply n_|apply o_|refine p_ (fun _=>?_) (fun _=>?_))<;>(conv=>whnf)))
     all_goals first|exact Ret.int rfl | (exfalso;omega)
    ·rw[if_neg h8]
     by_cases hwk:l[k].length≠widthF l
     ·rw[if_pos hwk]
      ((conv=>whnf);repeat' ((first|(with_reducible first|apply a_|apply b_|apply c_)|((with_reducible first|apply d_|apply e_|apply f_|apply g_);focus first|omega|(simp only[q_]<;>omega))|((with_reducible first|apply i_|apply h_);focus first|omega|(simp only[q_]<;>omega))|((with_reducible apply h_);focus first|decide|kernel_rfl)|refine s_ (by decide) ?_|refine t_ (by decide) ?_|(first|refine Idx.mapI (f:=rowC) k rfl q ?_|refine Idx.mapI (f:=rowC) 0 rfl q0 ?_)|with_reducible first|apply l_|apply m_|apply n_|apply o_|refine p_ (fun _=>?_) (fun _=>?_))<;>(conv=>whnf)))
      all_goals first|exact Ret.int rfl | (exfalso;omega)
     ·rw[if_neg hwk]
      have hwk:l[k].length=widthF l:=Decidable.of_not_not hwk
      have pc:=p_checkvalues l[k] (by omega)
      by_cases hv:vChkAll l[k]≠0
      ·rw[if_pos hv]
       ((conv=>whnf);repeat' ((first|(with_reducible first|apply a_|apply b_|apply c_)|((with_reducible first|apply d_|apply e_|apply f_|apply g_);focus first|omega|(simp only[q_]<;>omega))|((with_reducible first|apply i_|apply h_);focus first|omega|(simp only[q_]<;>omega))|((with_reducible apply h_);focus first|decide|kernel_rfl)|refine s_ (by decide) ?_|refine t_ (by decide) ?_|(first|refine Idx.mapI (f:=rowC) k rfl q ?_|refine Idx.mapI (f:=rowC) 0 rfl q0 ?_)|refine r_ pc rfl ?_|with_reducible first|apply l_|apply m_|apply n_|apply o_|refine p_ (fun _=>?_) (fun _=>?_))<;>(conv=>whnf)))
       all_goals first|exact Ret.int rfl | (exfalso;omega)
      ·have hv:vChkAll l[k]=0:=Decidable.of_not_not hv
       rw[hv,if_neg (by decide),← rChkW_skip l (k+1) (fun r hr=>by
        rw[take_snoc q,List.mem_append,List.mem_singleton] at hr
        rcases hr with hr | rfl
        ·exact hz r hr
        ·exact⟨by omega,hwk,hv⟩)]
       rw[hv] at pc
       ((conv=>whnf);repeat' ((first|(with_reducible first|apply a_|apply b_|apply c_)|((with_reducible first|apply d_|apply e_|apply f_|apply g_);focus first|omega|(simp only[q_]<;>omega))|((with_reducible first|apply i_|apply h_);focus first|omega|(simp only[q_]<;>omega))|((with_reducible apply h_);focus first|decide|kernel_rfl)|refine s_ (by decide) ?_|refine t_ (by decide) ?_|(first|refine Idx.mapI (f:=rowC) k rfl q ?_|refine Idx.mapI (f:=rowC) 0 rfl q0 ?_)|refine r_ pc rfl ?_|with_reducible first|apply l_|apply m_|apply n_|apply o_|refine p_ (fun _=>?_) (fun _=>?_))<;>(conv=>whnf)))
       refine⟨k+1,⟨by omega,fun r hr=>?_⟩,by omega,[],rfl,rfl,⟨.inl rfl,PLe.int (by omega),trivial⟩,trivial⟩
       rw[take_snoc q,List.mem_append,List.mem_singleton] at hr
       rcases hr with hr | rfl
       ·exact hz r hr
       ·exact⟨by omega,hwk,hv⟩
   ·((conv=>whnf);repeat' ((first|(with_reducible first|apply a_|apply b_|apply c_)|((with_reducible first|apply d_|apply e_|apply f_|apply g_);focus first|omega|(simp only[q_]<;>omega))|((with_reducible first|apply i_|apply h_);focus first|omega|(simp only[q_]<;>omega))|((with_reducible apply h_);focus first|decide|kernel_rfl)|refine s_ (by decide) ?_|refine t_ (by decide) ?_|with_reducible first|apply l_|apply m_|apply n_|apply o_|refine p_ (fun _=>?_) (fun _=>?_))<;>(conv=>whnf)))
    refine Ret.int ?_
    rw[rChkW_ok.2 fun x hx=>hz x (by rw[List.take_of_length_le (by omega)];exact hx)]
def rowEqB (a b:RowT):Bool:=listEqB ValueD.eqB a b
def rowsEqB (a b:List RowT):Bool:=listEqB rowEqB a b
theorem p_samerows (a b:List RowT) (hla:a.length≤140737488355328) (ha:∀r∈a,r.length≤140737488355328):Pure Tryz.prog 10 [rwsV a,rwsV b] (pBool (rowsEqB a b)):=by
 have hma:(a.map rowC).length=a.length:=List.length_map _
 have hmb:(b.map rowC).length=b.length:=List.length_map _
 refine pure_of Tryz.func10 (by rfl) rfl (by kernel_rfl) (by rfl) ?_
 by_cases hl:a.length=b.length
 ·((conv=>whnf);repeat' ((first|(with_reducible first|apply a_|apply b_|apply c_)|((with_reducible first|apply d_|apply e_|apply f_|apply g_);focus first|omega|(simp only[q_]<;>omega))|((with_reducible first|apply i_|apply h_);focus first|omega|(simp only[q_]<;>omega))|((with_reducible apply h_);focus first|decide|kernel_rfl)|refine s_ (by decide) ?_|refine t_ (by decide) ?_|with_reducible first|apply l_|apply m_|apply n_|apply o_|refine p_ (fun _=>?_) (fun _=>?_))<;>(conv=>whnf)))
  refine LoopC.mk Nat (fun k=>[(0,rwsV a),(1,rwsV b),(5,pInt .i64 k)]) (fun _=>[]) [] (fun k=>k≤a.length∧listEqB rowEqB (a.take k) (b.take k)=true) (fun k=>a.length - k) 0 ⟨Nat.zero_le _,by simp[listEqB]⟩ ?start ?round
  case start=>exact⟨[],rfl,rfl,⟨.inl rfl,.inl rfl,.inl rfl,trivial⟩,trivial⟩
  case round=>
   rintro k ⟨hk,hz⟩
   have hk:k≤a.length:=hk
   by_cases h1:k<a.length
   ·have h2:k<b.length:=by omega
    have ps:=p_samerow a[k] b[k] (ha _ (List.getElem_mem h1))
    cases hx:listEqB ValueD.eqB a[k] b[k] with
    | true=>
     rw[hx] at ps
     ((conv=>whnf);repeat' ((first|(with_reducible first|apply a_|apply b_|apply c_)|((with_reducible first|apply d_|apply e_|apply f_|apply g_);focus first|omega|(simp only[q_]<;>omega))|((with_reducible first|apply i_|apply h_);focus first|omega|(simp only[q_]<;>omega))|((with_reducible apply h_);focus first|decide|kernel_rfl)|refine s_ (by decide) ?_|refine t_ (by decide) ?_|(first|refine Idx.mapI (f:=rowC) (l:=a) k rfl h1 ?_|refine Idx.mapI (f:=rowC) (l:=b) k rfl h2 ?_)|refine r_ ps rfl ?_|with_reducible first|apply l_|apply m_|apply n_|apply o_|refine p_ (fun _=>?_) (fun _=>?_))<;>(conv=>whnf)))
     exact⟨k+1,⟨by omega,(listEqB_step hz h1 h2).trans hx⟩,by omega,[],rfl,rfl,⟨.inl rfl,.inl rfl,PLe.int (by omega),trivial⟩,trivial⟩
    | false=>
     rw[hx] at ps
     ((conv=>whnf);repeat' ((first|(with_reducible first|apply a_|apply b_|apply c_)|((with_reducible first|apply d_|apply e_|apply f_|apply g_);focus first|omega|(simp only[q_]<;>omega))|((with_reducible first|apply i_|apply h_);focus first|omega|(simp only[q_]<;>omega))|((with_reducible apply h_);focus first|decide|kernel_rfl)|refine s_ (by decide) ?_|refine t_ (by decide) ?_|(first|refine Idx.mapI (f:=rowC) (l:=a) k rfl h1 ?_|refine Idx.mapI (f:=rowC) (l:=b) k rfl h2 ?_)|refine r_ ps rfl ?_|with_reducible first|apply l_|apply m_|apply n_|apply o_|refine p_ (fun _=>?_) (fun _=>?_))<;>(conv=>whnf)))
     exact Ret.bool (listEqB_stop h1 h2 hx).symm
   ·((conv=>whnf);repeat' ((first|(with_reducible first|apply a_|apply b_|apply c_)|((with_reducible first|apply d_|apply e_|apply f_|apply g_);focus first|omega|(simp only[q_]<;>omega))|((with_reducible first|apply i_|apply h_);focus first|omega|(simp only[q_]<;>omega))|((with_reducible apply h_);focus first|decide|kernel_rfl)|refine s_ (by decide) ?_|refine t_ (by decide) ?_|with_reducible first|apply l_|apply m_|apply n_|apply o_|refine p_ (fun _=>?_) (fun _=>?_))<;>(conv=>whnf)))
    exact Ret.bool (listEqB_all hz (by omega) (by omega)).symm
 ·((conv=>whnf);repeat' ((first|(with_reducible first|apply a_|apply b_|apply c_)|((with_reducible first|apply d_|apply e_|apply f_|apply g_);focus first|omega|(simp only[q_]<;>omega))|((with_reducible first|apply i_|apply h_);focus first|omega|(simp only[q_]<;>omega))|((with_reducible apply h_);focus first|decide|kernel_rfl)|refine s_ (by decide) ?_|refine t_ (by decide) ?_|with_reducible first|apply l_|apply m_|apply n_|apply o_|refine p_ (fun _=>?_) (fun _=>?_))<;>(conv=>whnf)))
  exact Ret.bool (listEqB_len hl).symm
def howF (l:List RowT) (row:RowT):Nat:=l.countP (rowEqB · row)
theorem howF_snoc {l:List RowT} {row:RowT} {k:Nat} (h:k<l.length):howF (l.take (k+1)) row=howF (l.take k) row+(if rowEqB l[k] row then 1 else 0):=by
 unfold howF
 rw[take_snoc h,List.countP_append,List.countP_singleton]
theorem p_howoften (l:List RowT) (row:RowT) (hll:l.length≤140737488355328) (hl:∀r∈l,r.length≤140737488355328):Pure Tryz.prog 35 [rwsV l,slV 3 ValueD.c row] (pInt .i64 (howF l row:Int)):=by
 have hml:(l.map rowC).length=l.length:=List.length_map _
 refine pure_of Tryz.func35 (by rfl) rfl (by kernel_rfl) (by rfl) ?_
 ((conv=>whnf);repeat' ((first|(with_reducible first|apply a_|apply b_|apply c_)|((with_reducible first|apply d_|apply e_|apply f_|apply g_);focus first|omega|(simp only[q_]<;>omega))|((with_reducible first|apply i_|apply h_);focus first|omega|(simp only[q_]<;>omega))|((with_reducible apply h_);focus first|decide|kernel_rfl)|refine s_ (by decide) ?_|refine t_ (by decide) ?_|with_reducible first|apply l_|apply m_|apply n_|apply o_|refine p_ (fun _=>?_) (fun _=>?_))<;>(conv=>whnf)))
 refine LoopC.mk Nat (fun k=>[(0,rwsV l),(1,slV 3 ValueD.c row),(5,pInt .i64 (howF (l.take k) row:Int)),(6,pInt .i64 k)]) (fun _=>[]) [] (fun k=>k≤l.length∧howF (l.take k) row≤k) (fun k=>l.length - k) 0 ⟨Nat.zero_le _,by simp[howF]⟩ ?start ?round
 case start=>exact⟨[],rfl,rfl,⟨.inl rfl,.inl rfl,PLe.int (by simp[howF]),.inl rfl,trivial⟩,trivial⟩
 case round=>
  rintro k ⟨hk,hz⟩
  have hk:k≤l.length:=hk
  have hz:howF (l.take k) row≤k:=hz
  by_cases h1:k<l.length
  ·have ps:=p_samerow l[k] row (hl _ (List.getElem_mem h1))
   have hs:=howF_snoc (row:=row) h1
   cases hx:listEqB ValueD.eqB l[k] row with
   | true=>
    rw[show rowEqB l[k] row=true from hx,if_pos rfl] at hs
    rw[hx] at ps
    ((conv=>whnf);repeat' ((first|(with_reducible first|apply a_|apply b_|apply c_)|((with_reducible first|apply d_|apply e_|apply f_|apply g_);focus first|omega|(simp only[q_]<;>omega))|((with_reducible first|apply i_|apply h_);focus first|omega|(simp only[q_]<;>omega))|((with_reducible apply h_);focus first|decide|kernel_rfl)|refine s_ (by decide) ?_|refine t_ (by decide) ?_|(refine Idx.mapI (f:=rowC) k rfl h1 ?_)|refine r_ ps rfl ?_|with_reducible first|apply l_|apply m_|apply n_|apply o_|refine p_ (fun _=>?_) (fun _=>?_))<;>(conv=>whnf)))
    exact⟨k+1,⟨by omega,by omega⟩,by omega,[],rfl,rfl,⟨.inl rfl,.inl rfl,PLe.int (by omega),PLe.int (by omega),trivial⟩,trivial⟩
   | false=>
    rw[show rowEqB l[k] row=false from hx,if_neg (by decide)] at hs
    rw[hx] at ps
    ((conv=>whnf);repeat' ((first|(with_reducible first|apply a_|apply b_|apply c_)|((with_reducible first|apply d_|apply e_|apply f_|apply g_);focus first|omega|(simp only[q_]<;>omega))|((with_reducible first|apply i_|apply h_);focus first|omega|(simp only[q_]<;>omega))|((with_reducible apply h_);focus first|decide|kernel_rfl)|refine s_ (by decide) ?_|refine t_ (by decide) ?_|(refine Idx.mapI (f:=rowC) k rfl h1 ?_)|refine r_ ps rfl ?_|with_reducible first|apply l_|apply m_|apply n_|apply o_|refine p_ (fun _=>?_) (fun _=>?_))<;>(conv=>whnf)))
    exact⟨k+1,⟨by omega,by omega⟩,by omega,[],rfl,rfl,⟨.inl rfl,.inl rfl,PLe.int (by omega),PLe.int (by omega),trivial⟩,trivial⟩
  ·((conv=>whnf);repeat' ((first|(with_reducible first|apply a_|apply b_|apply c_)|((with_reducible first|apply d_|apply e_|apply f_|apply g_);focus first|omega|(simp only[q_]<;>omega))|((with_reducible first|apply i_|apply h_);focus first|omega|(simp only[q_]<;>omega))|((with_reducible apply h_);focus first|decide|kernel_rfl)|refine s_ (by decide) ?_|refine t_ (by decide) ?_|with_reducible first|apply l_|apply m_|apply n_|apply o_|refine p_ (fun _=>?_) (fun _=>?_))<;>(conv=>whnf)))
   refine Ret.int ?_
   rw[List.take_of_length_le (by omega)]
theorem p_widthR (l:List RowT) (hr:∀r∈l,r.length≤140737488355328):Pure Tryz.prog 46 [rwsV l] (pInt .i64 (widthF l:Int)):=by
 have hml:(l.map rowC).length=l.length:=List.length_map _
 refine pure_of Tryz.func46 (by rfl) rfl (by kernel_rfl) (by rfl) ?_
 by_cases h:0<l.length
 ·have hw:=width_get h
  have hm:(l[0].map ValueD.c).length=l[0].length:=List.length_map _
  ((conv=>whnf);repeat' ((first|(with_reducible first|apply a_|apply b_|apply c_)|((with_reducible first|apply d_|apply e_|apply f_|apply g_);focus first|omega|(simp only[q_]<;>omega))|((with_reducible first|apply i_|apply h_);focus first|omega|(simp only[q_]<;>omega))|((with_reducible apply h_);focus first|decide|kernel_rfl)|refine s_ (by decide) ?_|refine t_ (by decide) ?_|(refine Idx.mapI (f:=rowC) 0 rfl h ?_)|with_reducible first|apply l_|apply m_|apply n_|apply o_|refine p_ (fun _=>?_) (fun _=>?_))<;>(conv=>whnf)))
  all_goals first|exact Ret.int (by omega) | (exfalso;omega)
 ·have e:l=[]:=List.eq_nil_of_length_eq_zero (by omega)
  subst e
  ((conv=>whnf);repeat' ((first|(with_reducible first|apply a_|apply b_|apply c_)|((with_reducible first|apply d_|apply e_|apply f_|apply g_);focus first|omega|(simp only[q_]<;>omega))|((with_reducible first|apply i_|apply h_);focus first|omega|(simp only[q_]<;>omega))|((with_reducible apply h_);focus first|decide|kernel_rfl)|refine s_ (by decide) ?_|refine t_ (by decide) ?_|with_reducible first|apply l_|apply m_|apply n_|apply o_|refine p_ (fun _=>?_) (fun _=>?_))<;>(conv=>whnf)))
  all_goals first|exact Ret.int rfl | (exfalso;omega)
end
section
open Go.RowKit K
set_option maxRecDepth 100000
set_option maxRecDepth 100000
def joinX (a b:List RowT):List RowT:=a.flatMap fun x=>b.map (x++·)
def joinF2 (a b:List RowT):List RowT×Int:=
 if rowsChk a≠0 then ([],rowsChk a) else if rowsChk b≠0 then ([],rowsChk b) else if 8<widthF a+widthF b∨40<a.length*b.length then ([],2) else (joinX a b,0)
end
section
open Go.RowKit K
set_option maxRecDepth 100000
set_option maxRecDepth 100000
theorem s_pairs (a b:List RowT):CallS Tryz.prog 53 [rwsV a,rwsV b] [] [] (.d (.clo 78 [] [.ptr NK 0,.ptr NK1 0])) [(NK,.box TT [.c (.sl 1 (a.map rowC))]),(NK1,.box TT [.c (.sl 1 (b.map rowC))])]:=by
 refine callS_of Tryz.func53 (by rfl) rfl (by kernel_rfl) (by rfl) [] rfl ?_
 ((conv=>whnf);repeat' ((first|(with_reducible first|apply a_|apply b_|apply c_)|((with_reducible first|apply d_|apply e_|apply f_|apply g_);focus first|omega|(simp only[q_]<;>omega))|((with_reducible first|apply i_|apply h_);focus first|omega|(simp only[q_]<;>omega))|((with_reducible apply h_);focus first|decide|kernel_rfl)|refine s_ (by decide) ?_|refine t_ (by decide) ?_|with_reducible first|apply l_|apply m_|apply n_|apply o_|refine p_ (fun _=>?_) (fun _=>?_))<;>(conv=>whnf)))
 all_goals exact RetS.mk [(NK,2),(NK1,3)] [NK,NK1] rfl rfl ⟨rfl,rfl,⟨rfl,rfl,rfl⟩,⟨rfl,rfl,rfl⟩,rfl⟩ ⟨⟨rfl,rfl,.inl rfl,rfl⟩,⟨rfl,rfl,.inl rfl,rfl⟩,trivial⟩
section
variable {P:Program}
theorem pre_out {m:Nat} {fn:Func} {fk:List Nat} {c:Ctx} {R:Ending→World→Prop} {tail:Code} {N:Env→Hp→List Nat→Prop} {Fin:Hp→List PV→Prop} (hc:c.Ok) (hm:P.follows .mixedOrders=true) (hdf:c.df=[]) (hfk:∀k,c.σ0 k≠none→k∈fk)
  (hfin:∀σ h w vs us,Fin h vs→SW c σ h w→PsRep σ (fz c σ h w) w vs us→R (.returned (if hx:us.toArray.size=1 then us.toArray[0] else .tuple us.toArray)) w)
  (htail:∀(e:Env) (h:Hp) (n:List Nat) (σ:Sg) (a:Act) (w:World),N e h n→St c fn.ntmps σ e h a w→(∀k,k∉n→σ k=none)→tail.wpIn Fence.wide m P (bodyPostM Fence.wide m P fn R) a w) :
  ∀(pre:List Code) (e:Env) (h:Hp) (n:List Nat) (σ:Sg) (a:Act) (w:World),vcPre P fn.ntmps fk (fun _ _ _ _=>False) pre N (fun x e h _=>match x with | .ret=>resP P h e fn.results.toList fun vs=>Fin h vs | _=>False) e h n→
   St c fn.ntmps σ e h a w→(∀k,k∉n→σ k=none)→(seqs pre tail).wpIn Fence.wide m P (bodyPostM Fence.wide m P fn R) a w
 | [],e,h,n,σ,a,w,hv,hs,hf=>htail e h n σ a w hv hs hf
 | cd::pre,e,h,n,σ,a,w,hv,hs,hf=>by
  refine wpIn_seq (wpIn_mono (wpIn_wide.2 (vc_out hfk hc hm cd e h n _ σ a w hv hs hf)) ?_)
  intro x a' w' hq
  cases x with
  | normal=>
   obtain⟨e',h',n',σ',hq,hs',hf'⟩:=hq
   exact pre_out hc hm hdf hfk hfin htail pre e' h' n' σ' a' w' hq hs' hf'
  | ret=>
   obtain⟨e',h',n',σ',hq,hs',hf'⟩:=hq
   obtain⟨vs,us,g1,g2,g3⟩:=results_run hs' hq
   show LeavesInM Fence.wide m P fn a'.tmps R a'.defers .returning w'
   rw[hs'.defers,hdf]
   exact⟨_,g2,hfin σ' h' w' vs us g1 hs'.toSW g3⟩
  | exit id=>obtain⟨e',h',n',σ',hq,hs',_⟩:=hq;exact hq.elim
  | goto l=>obtain⟨e',h',n',σ',hq,hs',_⟩:=hq;exact hq.elim
  | panic ch=>obtain⟨v,_,e',h',n',σ',hq,_⟩:=hq;exact hq.elim
  | outgrown=>obtain⟨e',h',n',σ',hq,hs',_⟩:=hq;exact hq.elim
end
def JAt (G:Prop) (gf:Nat) (RA RB:List (List C)) (e:Env) (h:Hp) (n:List Nat):Prop:=
 G∧e 42=.d (.clo gf [] [.ptr 70 0,.ptr 71 0])∧e 9=.d (.ptr 9 0)∧h 9=some (.box TT [nilC])∧h 70=some (.box TT [.c (.sl 1 RA)])∧h 71=some (.box TT [.c (.sl 1 RB)])∧kin 60 n=false
def jatK (G:Prop) (gf:Nat) (RA RB:List (List C)):Cont:=fun x e h n=>match x with
 | .normal=>JAt G gf RA RB e h n
 | _=>False
def postK (P:Program) (fn:Func) (rows:List (List C)):Cont:=fun x e h n=>match x with
 | .normal=>resP P h e fn.results.toList fun vs=>tupOf vs fun v=>RetS [9,60] h (.tup [.d (.app 60 TE 1 rows),pInt .i64 0]) [(60,.tail TE 1)] v
 | _=>False
section
variable {P:Program}
set_option maxHeartbeats 1000000 in
theorem callS_join {fid:FuncId} {fn:Func} {pre:List Code} {r11 body r15:Code} {bid id1 id2:Nat} {o1 o2:Oper} {args:List PV} {res:PV} {G:Prop} {gf:Nat} {A B:List C} {RA RB rows:List (List C)} {f:C×C→List C}
  (hf:P.funcs[fid]? = some fn) (hn:(fn.name== "runtime.NumGoroutine")=false)
  (hbody:fn.body=some (seqs pre (.seq (.seq r11 (.block bid (.rangeFunc (.tmp 42) #[43,44] (.seq (.region id1 #[o1] false) (.region id2 #[o2] false)) body))) (.seq r15 .ret))))
  (hres:fn.results=#[.tmp 4,.tmp 5]) (hm:P.follows .mixedOrders=true) (ha:Nat.ble args.length fn.ntmps=true) (hnt:Nat.blt 44 fn.ntmps=true) (ha1:isAssign o1 10 43) (ha2:isAssign o2 11 44) (hok:okIn body=true)
  (eg:∀args w,(callFunc gf args).run P w=.ok (.enter gf args) w) (hRA:RA=A.map fun c=>[c]) (hRB:RB=B.map fun c=>[c]) (hrows:(prs A B).map f=rows) (hr:G→res=.tup [.d (.app NK TE 1 rows),pInt .i64 0])
  (hiter:∀(k1 k2 la lb ca cb:Nat) (a b:Option Addr) (xa xb:List Value),SeqP Fence.wide 5 P gf #[.pointer (some ⟨k1,0,none⟩),.pointer (some ⟨k2,0,none⟩)] (fun x:Value×Value=>#[x.1,x.2]) (prs xa xb)
   (fun W=>Seen W (.slice a la ca) la 1 xa∧Seen W (.slice b lb cb) lb 1 xb∧W.cell? ⟨k1,0,none⟩=some (.slice a la ca)∧W.cell? ⟨k2,0,none⟩=some (.slice b lb cb)))
  (hround:G→∀(i:Nat) (p:C×C),(prs A B)[i]? = some p→vc P fn.ntmps [9,60] (fun _ _ _ _=>False) body (envX p.1 p.2) (hpL (hR (((prs A B).take i).map f))) [9,60] (roundE (((prs A B).take (i+1)).map f)))
  (hpost:G→vc P fn.ntmps [9,60] (fun _ _ _ _=>False) r15 env9 (hpL (hR rows)) [9,60] (postK P fn rows))
  (hv:vcPre P fn.ntmps [] (fun _ _ _ _=>False) pre (fun e h n=>vc P fn.ntmps [] (fun _ _ _ _=>False) r11 e h n (jatK G gf RA RB))
   (fun x e h _=>match x with | .ret=>resP P h e fn.results.toList fun vs=>tupOf vs fun v=>RetS [] h res [(NK,.tail TE 1)] v | _=>False) (argsE args) (hpL []) []) :
  CallS P fid args [] [] res [(NK,.tail TE 1)]:=by
 refine⟨⟨fn,hf,hn,by rw[hbody];rfl⟩,fun c vs hc hdf hfr hs hargs=>?_⟩
 have hst:=st_begin hs hargs (Nat.le_of_ble_eq_true ha) hdf
 have hc0:∀k,c.σ0 k=none:=fun k=>hfr k (by simp)
 have hfk:∀k,c.σ0 k≠none→k∈([]:List Nat):=fun k hk=>absurd (hc0 k) hk
 have hnt':44<fn.ntmps:=by simpa using hnt
 refine callsIn_wide.1 (callsIn_of_wp_marks (F:=Fence.wide) (n:=6) hf hbody trivial ?_ rfl)
 refine pre_out (fk:=[]) (Fin:=fun h vs=>tupOf vs fun v=>RetS [] h res [(NK,.tail TE 1)] v) hc hm hdf hfk ?fin ?tail pre _ _ [] _ _ _ hv hst (fun k _=>hc0 k)
 case fin=>
  intro σ' h' w' ps us h1 hs' h3
  obtain⟨v,h5,h6⟩:=tup_out h1 h3
  obtain⟨g,n,q1,q2,q3,q4⟩:=h5
  obtain⟨hk,hsw⟩:=sw_wk hfk hs' q1 q2 q4
  exact⟨_,_,rfl,hsw,prep_wk hk _ _ _ q3 h6⟩
 case tail=>
  intro e h n σ a w hN hs hf
  refine wpIn_seq (wpIn_seq (wpIn_mono (wpIn_wide.2 (vc_out hfk hc hm r11 e h n _ σ a w hN hs hf)) ?_))
  intro x a' w' hq
  cases x with
  | normal=>
   obtain⟨e',h',n',σ',⟨hG,j1,j2,j3,j4,j5,j6⟩,hs',hf'⟩:=hq
   refine wpIn_block ?_
   obtain⟨g9,n9,cs9,hσ9,_⟩:=hs'.hp 9 _ j3
   have h42:=hs'.env 42
   rw[j1] at h42
   unfold PRep DRep at h42
   obtain⟨us,cvs,e1,e2,e3⟩:=h42
   have e4:=dsRep_nil_inv e2
   subst e4
   obtain⟨u1,v1,rfl,p1,e5⟩:=dsRep_inv e3
   obtain⟨u2,v2,rfl,p2,e6⟩:=dsRep_inv e5
   have e7:=dsRep_nil_inv e6
   subst e7
   unfold DRep at p1 p2
   obtain⟨g1,n1,s1,rfl⟩:=p1
   obtain⟨g2,n2,s2,rfl⟩:=p2
   rw[hRA] at j4
   rw[hRB] at j5
   obtain⟨g1',n1',ca,aa,xa,s1',hA,seenA⟩:=box_seen hc hs'.toSW j4 j3 hσ9 (by decide)
   obtain⟨g2',n2',cb,ab,xb,s2',hB,seenB⟩:=box_seen hc hs'.toSW j5 j3 hσ9 (by decide)
   rw[s1] at s1';cases s1'
   rw[s2] at s2';cases s2'
   refine range_out (A:=A) (B:=B) hc hm hs' (e1:a'.eval (.tmp 42)=_) eg j2 j3 (hf' 60 fun hm=>by have:=kin_of hm;rw[j6] at this;cases this) hnt' ha1 ha2 hA hB (hiter g1 g2 A.length B.length ca cb aa ab xa xb) ?hT f hok (hround hG) ?done
   case hT=>
    intro W hle hW
    have hb:∀b,b<w'.heap.size→b≠g9→W.heap[b]? = w'.heap[b]?:=fun b h1 h2=>hW b h1 fun m q=>by rw[hσ9] at q;cases q;exact h2 rfl
    exact⟨(seenA W hle hb).1,(seenB W hle hb).1,(seenA W hle hb).2,(seenB W hle hb).2⟩
   case done=>
    intro D W σ4 hD hK ev sw fr
    rw[hrows] at ev sw
    show (Code.seq r15 .ret).wpIn Fence.wide 6 P _ _ _
    obtain⟨h4,hh4⟩:∃h4,h4=Dl.app h' (deltaOf r0 (hR rows)):=⟨_,rfl⟩
    rw[← hh4] at ev sw
    have hi1:∀p∈([]:Rf)++hR rows,h4 p.1=some p.2:=by
     intro p hp
     rw[hh4]
     rcases List.mem_cons.1 hp with rfl | hp
     ·rfl
     ·rw[List.mem_singleton] at hp
      subst hp;rfl
    have hra:RR [(9,9),(60,60)] (hR rows) (hR rows):=⟨_,_,_,rfl,rfl,rfl,_,_,_,rfl,rfl,rfl,rfl⟩
    have hrb:RR [(9,9),(60,60)] [(60,.tail TE 1)] [(60,.tail TE 1)]:=⟨_,_,_,rfl,rfl,rfl,rfl⟩
    have hfr3:Fresh σ4 (deltaOf (hR rows) [(60,.tail TE 1)]) ([]++hR rows):=by
     intro k hk hno
     exfalso
     have:k=9∨k=60:=by simpa [Dl.keys,deltaOf] using hk
     rcases this with rfl | rfl
     ·exact hno _ (List.mem_cons_self ..) rfl
     ·exact hno _ (List.mem_cons_of_mem _ (List.mem_cons_self ..)) rfl
    obtain⟨hEo,hEfr,hEk,hEs,fin3⟩:=frame_world (res0:=.tup [.d (.app 60 TE 1 rows),pInt .i64 0]) (res:=.tup [.d (.app 60 TE 1 rows),pInt .i64 0]) (rfl:namesOk [(9,9),(60,60)] [] (hR rows) [(60,.tail TE 1)]=true) (rfl:RR [(9,9),(60,60)] [] []) hra hrb rfl hc sw hi1 hfr3
    obtain⟨E,hE⟩:∃E,E=calleeC c [(9,9),(60,60)] σ4 h4 W ([]++hR rows):=⟨_,rfl⟩
    have hEw:E.w0=W:=by rw[hE];rfl
    have hEσ:E.σ0=sg0 [(9,9),(60,60)] σ4:=by rw[hE];rfl
    have hEn0:E.n0=W.heap.size:=by show E.w0.heap.size=_;rw[hEw]
    have hE9:E.σ0 9=some (some g9,n9):=by rw[hEσ];show σ4 9=_;exact ev.sg 9 _ hσ9
    have hEe:∀b,E.ext b→∃cs e fr,W.heap[b]? = some (.cells cs e fr):=by
     rintro b hb
     rw[hE] at hb
     obtain⟨_,_,k',hb',m,q1,q2⟩:=ext_own hra sw hi1 hb
     have:=sw.hp k' hb' (hi1 _ q1)
     rcases List.mem_cons.1 q1 with q | q
     ·cases q
      obtain⟨g,n,cs,h1,h2,h3,h4⟩:=this
      rw[q2] at h1;cases h1
      exact⟨_,_,_,h3⟩
     ·rw[List.mem_singleton] at q
      cases q
      obtain⟨_,ob,n',h1,h2⟩:=this
      rw[q2] at h1;cases h1
      obtain⟨_,cur,h3⟩:=h2
      exact⟨_,_,_,h3⟩
    rw[← hE] at hEo hEk hEs fin3
    rw[← hEσ] at hEk hEs hEfr
    have hEn:∀k,k∉[9,60]→E.σ0 k=none:=fun k hk=>hEfr k hk
    have hEfk:∀k,E.σ0 k≠none→k∈[9,60]:=fun k hk=>Classical.byContradiction fun q=>hk (hEn k q)
    obtain⟨d,hd⟩:∃d:Deferred,d={ target:=.collected D,args:=#[] }:=⟨_,rfl⟩
    rw[← hd]
    have hadf:a'.defers=[]:=hs'.defers.trans hdf
    obtain⟨E',hE'⟩:∃E':Ctx,E'={ E with df:=[d],σ0:=E.σ0 }:=⟨_,rfl⟩
    have st0:St E' fn.ntmps E.σ0 env9 (hpL (hR rows)) { a' with defers:=d::a'.defers } W:=by
     refine⟨by rw[hE'];exact sw_df hEs [d] E.σ0 (fun _ _ h=>h),fun t=>?_,by rw[hE',hadf],hs'.nt⟩
     by_cases ht:t=9
     ·subst ht
      show PRep _ _ _ (.d (.ptr 9 0)) (a'.tmps.getD 9 undef)
      have:=hs'.env 9
      rw[j2] at this
      unfold PRep DRep at this ⊢
      obtain⟨g,n,q1,q2⟩:=this
      rw[hσ9] at q1;cases q1
      exact⟨g9,n9,hE9,q2⟩
     ·have:env9 t=.any:=by
       show (bif Nat.beq t 9 then _ else _)=_
       have:Nat.beq t 9=false:=by rw[Bool.eq_false_iff];intro e;exact ht (Nat.eq_of_beq_eq_true e)
       rw[this];rfl
      rw[this];exact rep_any
    have hE'o:E'.Ok:=by rw[hE'];exact ctx_df hEo [d] E.σ0
    have hE'fk:∀k,E'.σ0 k≠none→k∈[9,60]:=by rw[hE'];exact hEfk
    refine wpIn_seq (wpIn_mono (wpIn_wide.2 (vc_out hE'fk hE'o hm r15 _ _ [9,60] _ E.σ0 _ W (hpost hG) st0 hEn)) ?_)
    intro x a5 w5 hq
    cases x with
    | normal=>
     obtain⟨e5,h5,n5,σ5,hq,hs5,_⟩:=hq
     refine wpIn_ret ?_
     show LeavesInM Fence.wide 6 P fn a5.tmps _ a5.defers .returning w5
     rw[hs5.defers,show E'.df=[d] by rw[hE'],hd]
     have hDlt:D<W.heap.size:=(Array.getElem?_eq_some_iff.1 hK).1
     have hsE:SW E σ5 h5 w5:=by
      have:=sw_df hs5.toSW E.df E.σ0 (fun k x hk=>hs5.sg0 k x (by rw[hE'];exact hk))
      rw[hE'] at this
      exact this
     have hK5:w5.heap[D]? = some (.deferred (some [])):=by
      have:=hsE.block D (by rw[hEn0];exact hDlt) (fun he=>by obtain⟨cs,e,fr,q⟩:=hEe D he;rw[hK] at q;cases q)
      rw[this,hEw];exact hK
     obtain⟨ps,us5,r1,r2,r3⟩:=results_run hs5 hq
     have hrun:∀W',(results fn a5.tmps).run P W'=.ok (.tuple #[a5.tmps.getD 4 undef,a5.tmps.getD 5 undef]) W':=fun W'=>by
      unfold results
      rw[hres]
      simp
     have hval:(if hx:us5.toArray.size=1 then us5.toArray[0] else .tuple us5.toArray)=.tuple #[a5.tmps.getD 4 undef,a5.tmps.getD 5 undef]:=by
      have:=hrun w5
      rw[r2] at this
      exact (Result.ok.inj this).1
     obtain⟨v,q5,q6⟩:=tup_out r1 r3
     obtain⟨gr,nr,t1,t2,t3,t4⟩:=q5
     obtain⟨hk5,hsw5⟩:=sw_wk hE'fk hs5.toSW t1 t2 t4
     have q7:=prep_wk hk5 _ _ _ t3 q6
     rw[hval] at q7
     have hsw6:SW E (newSg σ5 (fnL gr) nr) (hpL [(60,.tail TE 1)]) w5:=by
      have:=sw_df hsw5 E.df E.σ0 (fun k x hk=>hsw5.sg0 k x (by rw[hE'];exact hk))
      rw[hE'] at this
      exact this
     have q8:PRep (newSg σ5 (fnL gr) nr) (fz E (newSg σ5 (fnL gr) nr) (hpL [(60,.tail TE 1)]) w5) w5 (.tup [.d (.app 60 TE 1 rows),pInt .i64 0]) (.tuple #[a5.tmps.getD 4 undef,a5.tmps.getD 5 undef]):=by
      rw[hE'] at q7
      exact q7
     obtain⟨σ6,_,sw6,q9,_⟩:=fin3 _ w5 _ hsw6 q8
     have hDn:c.n0≤D:=Nat.le_trans hs'.size hD
     obtain⟨ev7,sw7⟩:=sw_other (o':=.deferred none) sw6 hDn hK5 rfl (fun _ _ e=>by cases e) rfl
     refine⟨by simp,.inl ⟨_,_,rfl,run_takeDeferred hK5,?_⟩⟩
     refine⟨_,hrun _,?_⟩
     obtain⟨hk8,sw8⟩:=sw_wk (fk:=[]) (f:=fnL [(NK,60)]) (n:=[NK]) (lh:=[(NK,.tail TE 1)]) hfk sw7 rfl rfl ⟨⟨rfl,rfl,rfl⟩,trivial⟩
     rw[hr hG]
     exact⟨_,_,rfl,sw8,prep_wk hk8 (.tup [.d (.app NK TE 1 rows),pInt .i64 0]) (.tup [.d (.app 60 TE 1 rows),pInt .i64 0]) _ ⟨⟨rfl,rfl,rfl,rfl,rfl⟩,.inl rfl,rfl⟩ (PRep.evo ev7 _ _ q9)⟩
    | exit id=>obtain⟨e',h',n',σ',hq,_⟩:=hq;exact hq.elim
    | goto l=>obtain⟨e',h',n',σ',hq,_⟩:=hq;exact hq.elim
    | ret=>obtain⟨e',h',n',σ',hq,_⟩:=hq;exact hq.elim
    | panic ch=>obtain⟨v,_,e',h',n',σ',hq,_⟩:=hq;exact hq.elim
    | outgrown=>obtain⟨e',h',n',σ',hq,_⟩:=hq;exact hq.elim
  | exit id=>obtain⟨e',h',n',σ',hq,_⟩:=hq;exact hq.elim
  | goto l=>obtain⟨e',h',n',σ',hq,_⟩:=hq;exact hq.elim
  | ret=>obtain⟨e',h',n',σ',hq,_⟩:=hq;exact hq.elim
  | panic ch=>obtain⟨v,_,e',h',n',σ',hq,_⟩:=hq;exact hq.elim
  | outgrown=>obtain⟨e',h',n',σ',hq,_⟩:=hq;exact hq.elim
end
def catC (p:C×C):List C:=match p with
 | (.sl _ x,.sl _ y)=>[C.sl 3 (x++y)]
 | _=>[]
def rowS (r:RowT):C:=C.sl 3 (r.map ValueD.c)
theorem prs_join (a b:List RowT):(prs (a.map rowS) (b.map rowS)).map catC=(joinX a b).map rowC:=by
 unfold prs joinX
 induction a with
 | nil=>rfl
 | cons x a ih=>
  rw[List.map_cons,List.flatMap_cons,List.flatMap_cons,List.map_append,List.map_append,ih]
  congr 1
  simp[rowC,rowS,catC]
theorem prs_map {α β:Type} (f:α→β) (a b:List α):prs (a.map f) (b.map f)=(prs a b).map fun p=>(f p.1,f p.2):=by
 unfold prs
 induction a with
 | nil=>rfl
 | cons x a ih=>rw[List.map_cons,List.flatMap_cons,List.flatMap_cons,List.map_append,ih,List.map_map,List.map_map];rfl
theorem prs_mem {α β:Type} {a:List α} {b:List β} {p:α×β} (h:p∈prs a b):p.1∈a∧p.2∈b:=by
 unfold prs at h
 simp only[List.mem_flatMap,List.mem_map] at h
 obtain⟨x,hx,y,hy,rfl⟩:=h
 exact⟨hx,hy⟩
theorem s_Join (a b:List RowT):CallS Tryz.prog 31 [rwsV a,rwsV b] [] [] (.tup [.d (.app NK TE 1 ((joinF2 a b).1.map rowC)),pInt .i64 (joinF2 a b).2]) [(NK,.tail TE 1)]:=by
 have hma:(a.map rowC).length=a.length:=List.length_map _
 have hmb:(b.map rowC).length=b.length:=List.length_map _
 have pa:=p_bagcheck a
 have pb:=p_bagcheck b
 have pp:=s_pairs a b
 obtain⟨G,hG⟩:∃G:Prop,G=(rowsChk a=0∧rowsChk b=0∧¬(8<widthF a+widthF b∨40<a.length*b.length)):=⟨_,rfl⟩
 refine callS_join (pre:=[_,_,_,_]) (G:=G) (gf:=78) (A:=a.map rowS) (B:=b.map rowS) (RA:=a.map rowC) (RB:=b.map rowC) (rows:=(joinX a b).map rowC) (f:=catC) Tryz.func31 rfl (by rfl) rfl (by rfl) rfl rfl ⟨rfl,rfl,rfl⟩ ⟨rfl,rfl,rfl⟩ rfl (enters_of Tryz.func78 (by kernel_rfl) rfl) (by rw[List.map_map];rfl) (by rw[List.map_map];rfl) (prs_join a b) ?hr (fun k1 k2 la lb ca cb a b xa xb=>pairs_any 5 k1 k2 la lb ca cb a b xa xb) ?round ?post ?pre
 case hr=>
  intro g
  rw[hG] at g
  unfold joinF2
  rw[if_neg (not_not_intro g.1),if_neg (not_not_intro g.2.1),if_neg g.2.2]
 case round=>
  intro g i p hp
  rw[hG] at g
  obtain⟨h1,h2,h3⟩:=g
  obtain⟨ha40,ha8⟩:=rowsChk_ok.1 h1
  obtain⟨hb40,hb8⟩:=rowsChk_ok.1 h2
  have hil:i<(prs (a.map rowS) (b.map rowS)).length:=(List.getElem?_eq_some_iff.1 hp).1
  have hil2:i<a.length*b.length:=by rw[prs_len,List.length_map,List.length_map] at hil;exact hil
  have hsn:((prs (a.map rowS) (b.map rowS)).take (i+1)).map catC=((prs (a.map rowS) (b.map rowS)).take i).map catC++[catC p]:=by
   rw[map_snoc _ _ hil,(List.getElem?_eq_some_iff.1 hp).2]
  rw[hsn]
  have hrl:(((prs (a.map rowS) (b.map rowS)).take i).map catC).length≤1600:=by rw[List.length_map,List.length_take];omega
  rw[prs_map,List.getElem?_map] at hp
  cases hq:(prs a b)[i]? with
  | none=>rw[hq] at hp;cases hp
  | some xy=>
   rw[hq] at hp
   obtain⟨x,y⟩:=xy
   simp only[Option.map_some,Option.some.injEq] at hp
   subst hp
   obtain⟨hx,hy⟩:=prs_mem (List.mem_of_getElem? hq)
   have hx8:x.length≤8:=(ha8 x hx).1
   have hy8:y.length≤8:=(hb8 y hy).1
   have pc:=p_concat [x,y] (by simp;omega) (by simp)
   have e1:catC (rowS x,rowS y)=[C.sl 3 ([x,y].flatten.map ValueD.c)]:=by simp[catC,rowS]
   rw[e1]
   generalize ((prs (a.map rowS) (b.map rowS)).take i).map catC=rows at hrl ⊢
   have pc:Pure Tryz.prog 54 [.d (.c (.sl 1 [[rowS x],[rowS y]]))] _:=pc
   unfold rowS at pc ⊢
   ((conv=>whnf);repeat' ((first|(with_reducible first|apply a_|apply b_|apply c_)|((with_reducible first|apply d_|apply e_|apply f_|apply g_);focus first|omega|(simp only[q_]<;>omega))|((with_reducible first|apply i_|apply h_);focus first|omega|(simp only[q_]<;>omega))|((with_reducible apply h_);focus first|decide|kernel_rfl)|refine s_ (by decide) ?_|refine t_ (by decide) ?_|refine r_ pc rfl ?_|(refine Need.by 24 rfl (by simp only[List.length_singleton];omega) ?_)|with_reducible first|apply l_|apply m_|apply n_|apply o_|refine p_ (fun _=>?_) (fun _=>?_))<;>(conv=>whnf)))
   all_goals first
    | exact⟨[9,60,61],⟨[(9,9),(60,60),(61,51)],rfl,rfl,trivial,⟨⟨rfl,rfl,⟨rfl,rfl,rfl,rfl,rfl⟩,rfl⟩,⟨rfl,rfl,rfl⟩,trivial⟩⟩⟩
    | skip
 case post=>
  intro g
  ((conv=>whnf);repeat' ((first|(with_reducible first|apply a_|apply b_|apply c_)|((with_reducible first|apply d_|apply e_|apply f_|apply g_);focus first|omega|(simp only[q_]<;>omega))|((with_reducible first|apply i_|apply h_);focus first|omega|(simp only[q_]<;>omega))|((with_reducible apply h_);focus first|decide|kernel_rfl)|refine s_ (by decide) ?_|refine t_ (by decide) ?_|with_reducible first|apply l_|apply m_|apply n_|apply o_|refine p_ (fun _=>?_) (fun _=>?_))<;>(conv=>whnf)))
  all_goals first
   | exact RetS.mk [(9,9),(60,60)] [9,60] rfl rfl ⟨⟨rfl,rfl,rfl,rfl,rfl⟩,.inl rfl,rfl⟩ ⟨⟨rfl,rfl,rfl⟩,trivial⟩
   | skip
 case pre=>
  ((conv=>whnf);repeat' ((first|(with_reducible first|apply a_|apply b_|apply c_)|((with_reducible first|apply d_|apply e_|apply f_|apply g_);focus first|omega|(simp only[q_]<;>omega))|((with_reducible first|apply i_|apply h_);focus first|omega|(simp only[q_]<;>omega))|((with_reducible apply h_);focus first|decide|kernel_rfl)|refine s_ (by decide) ?_|refine t_ (by decide) ?_|with_reducible first|apply l_|apply m_|apply n_|apply o_|refine p_ (fun _=>?_) (fun _=>?_))<;>(conv=>whnf)))
  refine LoopC.mk Nat (fun k=>[(0,rwsV a),(1,rwsV b),(14,.d (.c (.sl 1 [[.sl 1 (a.map rowC)],[.sl 1 (b.map rowC)]]))),(15,pInt .i64 2),(16,pInt .i64 (k:Int))]) (fun _=>[]) [] (fun k=>k=0∨(k=1∧rowsChk a=0)∨(k=2∧rowsChk a=0∧rowsChk b=0)) (fun k=>2 - k) 0 (.inl rfl) ?start ?round
  case start=>exact⟨[],rfl,rfl,⟨.inl rfl,.inl rfl,rfl,PLe.int (by simp),.inl rfl,trivial⟩,trivial⟩
  case round=>
   rintro k (rfl | ⟨rfl,h1⟩ | ⟨rfl,h1,h2⟩)
   ·by_cases h1:rowsChk a=0
    ·rw[h1] at pa
     ((conv=>whnf);repeat' ((first|(with_reducible first|apply a_|apply b_|apply c_)|((with_reducible first|apply d_|apply e_|apply f_|apply g_);focus first|omega|(simp only[q_]<;>omega))|((with_reducible first|apply i_|apply h_);focus first|omega|(simp only[q_]<;>omega))|((with_reducible apply h_);focus first|decide|kernel_rfl)|refine s_ (by decide) ?_|refine t_ (by decide) ?_|(refine Idx.mk [.sl 1 (a.map rowC)] (by decide) rfl ?_)|refine r_ pa rfl ?_|with_reducible first|apply l_|apply m_|apply n_|apply o_|refine p_ (fun _=>?_) (fun _=>?_))<;>(conv=>whnf)))
     all_goals first
      | exact⟨1,.inr (.inl ⟨rfl,h1⟩),by decide,[],rfl,rfl,⟨.inl rfl,.inl rfl,.inl rfl,.inl rfl,PLe.int (by decide),trivial⟩,trivial⟩
      | (exfalso;omega)
      | skip
    ·have hj:joinF2 a b=([],rowsChk a):=by unfold joinF2;rw[if_pos h1]
     rw[hj]
     ((conv=>whnf);repeat' ((first|(with_reducible first|apply a_|apply b_|apply c_)|((with_reducible first|apply d_|apply e_|apply f_|apply g_);focus first|omega|(simp only[q_]<;>omega))|((with_reducible first|apply i_|apply h_);focus first|omega|(simp only[q_]<;>omega))|((with_reducible apply h_);focus first|decide|kernel_rfl)|refine s_ (by decide) ?_|refine t_ (by decide) ?_|(refine Idx.mk [.sl 1 (a.map rowC)] (by decide) rfl ?_)|refine r_ pa rfl ?_|with_reducible first|apply l_|apply m_|apply n_|apply o_|refine p_ (fun _=>?_) (fun _=>?_))<;>(conv=>whnf)))
     all_goals first
      | exact RetS.mk [] [NK] rfl rfl ⟨⟨rfl,rfl,Nat.zero_lt_succ _,rfl,rfl⟩,.inl rfl,rfl⟩ ⟨⟨rfl,Nat.zero_lt_succ _⟩,trivial⟩
      | (exfalso;omega)
      | skip
   ·by_cases h2:rowsChk b=0
    ·rw[h2] at pb
     ((conv=>whnf);repeat' ((first|(with_reducible first|apply a_|apply b_|apply c_)|((with_reducible first|apply d_|apply e_|apply f_|apply g_);focus first|omega|(simp only[q_]<;>omega))|((with_reducible first|apply i_|apply h_);focus first|omega|(simp only[q_]<;>omega))|((with_reducible apply h_);focus first|decide|kernel_rfl)|refine s_ (by decide) ?_|refine t_ (by decide) ?_|(refine Idx.mk [.sl 1 (b.map rowC)] (by decide) rfl ?_)|refine r_ pb rfl ?_|with_reducible first|apply l_|apply m_|apply n_|apply o_|refine p_ (fun _=>?_) (fun _=>?_))<;>(conv=>whnf)))
     all_goals first
      | exact⟨2,.inr (.inr ⟨rfl,h1,h2⟩),by decide,[],rfl,rfl,⟨.inl rfl,.inl rfl,.inl rfl,.inl rfl,PLe.int (by decide),trivial⟩,trivial⟩
      | (exfalso;omega)
      | skip
    ·have hj:joinF2 a b=([],rowsChk b):=by unfold joinF2;rw[if_neg (not_not_intro h1),if_pos h2]
     rw[hj]
     ((conv=>whnf);repeat' ((first|(with_reducible first|apply a_|apply b_|apply c_)|((with_reducible first|apply d_|apply e_|apply f_|apply g_);focus first|omega|(simp only[q_]<;>omega))|((with_reducible first|apply i_|apply h_);focus first|omega|(simp only[q_]<;>omega))|((with_reducible apply h_);focus first|decide|kernel_rfl)|refine s_ (by decide) ?_|refine t_ (by decide) ?_|(refine Idx.mk [.sl 1 (b.map rowC)] (by decide) rfl ?_)|refine r_ pb rfl ?_|with_reducible first|apply l_|apply m_|apply n_|apply o_|refine p_ (fun _=>?_) (fun _=>?_))<;>(conv=>whnf)))
     all_goals first
      | exact RetS.mk [] [NK] rfl rfl ⟨⟨rfl,rfl,Nat.zero_lt_succ _,rfl,rfl⟩,.inl rfl,rfl⟩ ⟨⟨rfl,Nat.zero_lt_succ _⟩,trivial⟩
      | (exfalso;omega)
      | skip
   ·obtain⟨ha40,ha8⟩:=rowsChk_ok.1 h1
    obtain⟨hb40,hb8⟩:=rowsChk_ok.1 h2
    have hmul:a.length*b.length≤40*40:=Nat.mul_le_mul ha40 hb40
    have hmi:((a.length*b.length:Nat):Int)=(a.length:Int)*(b.length:Int):=Int.natCast_mul _ _
    have wa:=p_width a (fun r hr=>by have:=(ha8 r hr).1;omega)
    have wb:=p_width b (fun r hr=>by have:=(hb8 r hr).1;omega)
    have hwa:widthF a≤8:=by
     unfold widthF
     cases a with
     | nil=>exact Nat.zero_le _
     | cons r a=>exact (ha8 r List.mem_cons_self).1
    have hwb:widthF b≤8:=by
     unfold widthF
     cases b with
     | nil=>exact Nat.zero_le _
     | cons r b=>exact (hb8 r List.mem_cons_self).1
    by_cases h3:8<widthF a+widthF b∨40<a.length*b.length
    ·have hj:joinF2 a b=([],2):=by unfold joinF2;rw[if_neg (not_not_intro h1),if_neg (not_not_intro h2),if_pos h3]
     rw[hj]
     ((conv=>whnf);repeat' ((first|(with_reducible first|apply a_|apply b_|apply c_)|((with_reducible first|apply d_|apply e_|apply f_|apply g_);focus first|omega|(simp only[q_]<;>omega))|((with_reducible first|apply i_|apply h_);focus first|omega|(simp only[q_]<;>omega))|((with_reducible apply h_);focus first|decide|kernel_rfl)|refine s_ (by decide) ?_|refine t_ (by decide) ?_|refine r_ wa rfl ?_|refine r_ wb rfl ?_|with_reducible first|apply l_|apply m_|apply n_|apply o_|refine p_ (fun _=>?_) (fun _=>?_))<;>(conv=>whnf)))
     all_goals first
      | exact RetS.mk [] [NK] rfl rfl ⟨⟨rfl,rfl,Nat.zero_lt_succ _,rfl,rfl⟩,.inl rfl,rfl⟩ ⟨⟨rfl,Nat.zero_lt_succ _⟩,trivial⟩
      | (exfalso;omega)
      | skip
    ·((conv=>whnf);repeat' ((first|(with_reducible first|apply a_|apply b_|apply c_)|((with_reducible first|apply d_|apply e_|apply f_|apply g_);focus first|omega|(simp only[q_]<;>omega))|((with_reducible first|apply i_|apply h_);focus first|omega|(simp only[q_]<;>omega))|((with_reducible apply h_);focus first|decide|kernel_rfl)|refine s_ (by decide) ?_|refine t_ (by decide) ?_|refine r_ wa rfl ?_|refine r_ wb rfl ?_|(refine CallP.ret [(NK,70),(NK1,71)] _ _ _ _ _ _ _ pp rfl rfl rfl rfl trivial ?_)|with_reducible first|apply l_|apply m_|apply n_|apply o_|refine p_ (fun _=>?_) (fun _=>?_))<;>(conv=>whnf)))
     all_goals first
      | (exfalso;omega)
      | refine⟨by rw[hG];exact⟨h1,h2,h3⟩,?_,?_,?_,?_,?_,?_⟩
     ·rfl
     ·rfl
     ·rfl
     ·rfl
     ·rfl
     ·rfl
end
section
open Go.RowKit K
set_option maxRecDepth 100000
set_option maxRecDepth 100000
def limF (l:List RowT) (skip most:Int):List RowT×Int:=
 if rowsChk l≠0 then ([],rowsChk l) else if skip<0∨most<0 then ([],3) else ((l.drop skip.toNat).take most.toNat,0)
theorem lim_rows (M:List (List C)) (skip most:Int) (hs:0≤skip) (hm:0≤most):List.take ((if ((List.take ((M.length:Int).toNat - (if (M.length:Int)<skip then (M.length:Int) else skip).toNat) (List.drop (if (M.length:Int)<skip then (M.length:Int) else skip).toNat M)).length:Int)<most then ((List.take ((M.length:Int).toNat - (if (M.length:Int)<skip then (M.length:Int) else skip).toNat) (List.drop (if (M.length:Int)<skip then (M.length:Int) else skip).toNat M)).length:Int) else most).toNat - (0:Int).toNat) (List.drop (0:Int).toNat (List.take ((M.length:Int).toNat - (if (M.length:Int)<skip then (M.length:Int) else skip).toNat) (List.drop (if (M.length:Int)<skip then (M.length:Int) else skip).toNat M)))=(M.drop skip.toNat).take most.toNat:=by
 have e1:List.take ((M.length:Int).toNat - (if (M.length:Int)<skip then (M.length:Int) else skip).toNat) (List.drop (if (M.length:Int)<skip then (M.length:Int) else skip).toNat M)=M.drop skip.toNat:=by
  split
  ·rw[List.drop_of_length_le (by omega),List.drop_of_length_le (by omega)];simp
  ·exact List.take_of_length_le (by rw[List.length_drop];omega)
 rw[e1,show (0:Int).toNat=0 from rfl,List.drop_zero,Nat.sub_zero]
 split
 ·rw[List.take_of_length_le (by omega),List.take_of_length_le (by omega)]
 ·rfl
theorem p_Limit (l:List RowT) (skip most:Int):Pure Tryz.prog 32 [rwsV l,pInt .i64 skip,pInt .i64 most] (.tup [rwsV (limF l skip most).1,pInt .i64 (limF l skip most).2]):=by
 have pc:=p_bagcheck l
 have hml:(l.map rowC).length=l.length:=List.length_map _
 refine pure_of Tryz.func32 (by rfl) rfl (by kernel_rfl) (by rfl) ?_
 unfold limF
 by_cases h1:rowsChk l=0
 ·rw[if_neg (not_not_intro h1)]
  rw[h1] at pc
  obtain⟨h40,h8⟩:=rowsChk_ok.1 h1
  by_cases h2:skip<0∨most<0
  ·rw[if_pos h2]
   ((conv=>whnf);repeat' ((first|(with_reducible first|apply a_|apply b_|apply c_)|((with_reducible first|apply d_|apply e_|apply f_|apply g_);focus first|omega|(simp only[q_]<;>omega))|((with_reducible first|apply i_|apply h_);focus first|omega|(simp only[q_]<;>omega))|((with_reducible apply h_);focus first|decide|kernel_rfl)|refine s_ (by decide) ?_|refine t_ (by decide) ?_|refine r_ pc rfl ?_|with_reducible first|apply l_|apply m_|apply n_|apply o_|refine p_ (fun _=>?_) (fun _=>?_))<;>(conv=>whnf)))
   all_goals first|exact Ret.le ⟨.inr ⟨⟨1,rfl⟩,.inl rfl⟩,.inl rfl,rfl⟩ | (exfalso;omega)
  ·rw[if_neg h2]
   have hs:0≤skip:=by omega
   have hm:0≤most:=by omega
   have po:=p_own_rows ((l.drop skip.toNat).take most.toNat) (by rw[List.length_take,List.length_drop];omega) (fun r hr=>by have:=(h8 r (List.mem_of_mem_drop (List.mem_of_mem_take hr))).1;omega)
   have po:=(show Pure Tryz.prog 16 [.d (.c (.sl 1 (((l.drop skip.toNat).take most.toNat).map rowC)))] _ from po)
   rw[List.map_take,List.map_drop,← lim_rows (l.map rowC) skip most hs hm] at po
   ((conv=>whnf);repeat' ((first|(with_reducible first|apply a_|apply b_|apply c_)|((with_reducible first|apply d_|apply e_|apply f_|apply g_);focus first|omega|(simp only[q_]<;>omega))|((with_reducible first|apply i_|apply h_);focus first|omega|(simp only[q_]<;>omega))|((with_reducible apply h_);focus first|decide|kernel_rfl)|refine s_ (by decide) ?_|refine t_ (by decide) ?_|refine r_ pc rfl ?_|refine r_ po rfl ?_|with_reducible first|apply l_|apply m_|apply n_|apply o_|refine p_ (fun _=>?_) (fun _=>?_))<;>(conv=>whnf)))
   all_goals first|exact Ret.eq rfl | (exfalso;omega) | skip
 ·rw[if_pos h1]
  ((conv=>whnf);repeat' ((first|(with_reducible first|apply a_|apply b_|apply c_)|((with_reducible first|apply d_|apply e_|apply f_|apply g_);focus first|omega|(simp only[q_]<;>omega))|((with_reducible first|apply i_|apply h_);focus first|omega|(simp only[q_]<;>omega))|((with_reducible apply h_);focus first|decide|kernel_rfl)|refine s_ (by decide) ?_|refine t_ (by decide) ?_|refine r_ pc rfl ?_|with_reducible first|apply l_|apply m_|apply n_|apply o_|refine p_ (fun _=>?_) (fun _=>?_))<;>(conv=>whnf)))
  all_goals first|exact Ret.le ⟨.inr ⟨⟨1,rfl⟩,.inl rfl⟩,.inl rfl,rfl⟩ | (exfalso;omega)
end
end Go.Proofs.YthfpmnojahoelaaGreatDoor.Pm
