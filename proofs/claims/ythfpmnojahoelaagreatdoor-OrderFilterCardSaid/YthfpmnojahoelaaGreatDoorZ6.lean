/- Parts of the proof, one behind the other: PbGrp PbGrp2 PxEval PxTruth PxTruth2 PxNode PxNode2 PmTry PmLike PxNode3 PxWhole PxNode4 PxNode5 PxNode6 PxAsk PxScope PxNodeP PxWalkV PxWalkV2 PxDeep PxChk PxRaw PbFilter PdSet PrNum PrRead PrRow PrReads PmBuild PrWrite PrOrd. Conditions: none beyond what each theorem says. -/
import Derived.Test.YthfpmnojahoelaaGreatDoorYWholeSum
import Derived.Test.YthfpmnojahoelaaGreatDoorYLikeTop
import Derived.Test.YthfpmnojahoelaaGreatDoorYWholeWalk
import Derived.Test.YthfpmnojahoelaaGreatDoorYLikePure
import Derived.Test.YthfpmnojahoelaaGreatDoorYLikeRef2
import Derived.Test.YthfpmnojahoelaaGreatDoorYLikeRows
import Derived.Test.YthfpmnojahoelaaGreatDoorYWholeRef
import Derived.Test.YthfpmnojahoelaaGreatDoorYNumBegun
import Derived.Test.YthfpmnojahoelaaGreatDoorYNumBack
import Derived.Lib.Hide
import Derived.Test.YthfpmnojahoelaaGreatDoorZ5
set_option linter.unusedVariables false
set_option linter.unusedSimpArgs false
namespace Go.Proofs.YthfpmnojahoelaaGreatDoor.Pm
section
open Go.RowKit K
set_option maxRecDepth 100000
set_option maxRecDepth 100000
abbrev TPA:Nat:=90
abbrev TP:Nat:=92
abbrev TV:Nat:=49
abbrev TES:Nat:=31
theorem p_equal (a b:List ValueD) (ha:a.length≤140737488355328):Pure Tryz.prog 72 [slV 3 ValueD.c a,slV 3 ValueD.c b] (pBool (rowEqB a b)):=by
 unfold rowEqB
 refine pure_of Tryz.func72 (by rfl) rfl (by kernel_rfl) (by rfl) ?_
 by_cases hl:a.length=b.length
 ·((conv=>whnf);repeat' ((first|(with_reducible first|apply a_|apply b_|apply c_)|((with_reducible first|apply d_|apply e_|apply f_|apply g_);focus first|omega|(simp only[q_]<;>omega))|((with_reducible first|apply i_|apply h_);focus first|omega|(simp only[q_]<;>omega))|((with_reducible apply h_);focus first|decide|kernel_rfl)|refine s_ (by decide) ?_|refine t_ (by decide) ?_|with_reducible first|apply l_|apply m_|apply n_|apply o_|refine p_ (fun _=>?_) (fun _=>?_))<;>(conv=>whnf)))
  refine LoopC.mk Nat (fun k=>[(0,slV 3 ValueD.c a),(1,slV 3 ValueD.c b),(12,pInt .i64 a.length),(13,pInt .i64 k)]) (fun _=>[]) [] (fun k=>k≤a.length∧listEqB ValueD.eqB (a.take k) (b.take k)=true) (fun k=>a.length - k) 0 ⟨Nat.zero_le _,by simp[listEqB]⟩ ?start ?round
  case start=>exact⟨[],rfl,rfl,⟨.inl rfl,.inl rfl,PLe.int (by simp),.inl rfl,trivial⟩,trivial⟩
  case round=>
   rintro k ⟨hk,hz⟩
   have hk:k≤a.length:=hk
   by_cases h1:k<a.length
   ·have h2:k<b.length:=by omega
    cases hx:ValueD.eqB a[k] b[k] with
    | true=>
     ((conv=>whnf);repeat' ((first|(with_reducible first|apply a_|apply b_|apply c_)|((with_reducible first|apply d_|apply e_|apply f_|apply g_);focus first|omega|(simp only[q_]<;>omega))|((with_reducible first|apply i_|apply h_);focus first|omega|(simp only[q_]<;>omega))|((with_reducible apply h_);focus first|decide|kernel_rfl)|refine s_ (by decide) ?_|refine t_ (by decide) ?_|(first|refine Idx.mapI (l:=a) k rfl h1 ?_|refine Idx.mapI (l:=b) k rfl h2 ?_)|(refine BCase.f (congrArg not hx) ?_)|with_reducible first|apply l_|apply m_|apply n_|apply o_|refine p_ (fun _=>?_) (fun _=>?_))<;>(conv=>whnf)))
     exact⟨k+1,⟨by omega,(listEqB_step hz h1 h2).trans hx⟩,by omega,[],rfl,rfl,⟨.inl rfl,.inl rfl,.inl rfl,PLe.int (by omega),trivial⟩,trivial⟩
    | false=>
     ((conv=>whnf);repeat' ((first|(with_reducible first|apply a_|apply b_|apply c_)|((with_reducible first|apply d_|apply e_|apply f_|apply g_);focus first|omega|(simp only[q_]<;>omega))|((with_reducible first|apply i_|apply h_);focus first|omega|(simp only[q_]<;>omega))|((with_reducible apply h_);focus first|decide|kernel_rfl)|refine s_ (by decide) ?_|refine t_ (by decide) ?_|(first|refine Idx.mapI (l:=a) k rfl h1 ?_|refine Idx.mapI (l:=b) k rfl h2 ?_)|(refine BCase.t (congrArg not hx) ?_)|with_reducible first|apply l_|apply m_|apply n_|apply o_|refine p_ (fun _=>?_) (fun _=>?_))<;>(conv=>whnf)))
     exact Ret.bool (listEqB_stop h1 h2 hx).symm
   ·((conv=>whnf);repeat' ((first|(with_reducible first|apply a_|apply b_|apply c_)|((with_reducible first|apply d_|apply e_|apply f_|apply g_);focus first|omega|(simp only[q_]<;>omega))|((with_reducible first|apply i_|apply h_);focus first|omega|(simp only[q_]<;>omega))|((with_reducible apply h_);focus first|decide|kernel_rfl)|refine s_ (by decide) ?_|refine t_ (by decide) ?_|with_reducible first|apply l_|apply m_|apply n_|apply o_|refine p_ (fun _=>?_) (fun _=>?_))<;>(conv=>whnf)))
    exact Ret.bool (listEqB_all hz (by omega) (by omega)).symm
 ·((conv=>whnf);repeat' ((first|(with_reducible first|apply a_|apply b_|apply c_)|((with_reducible first|apply d_|apply e_|apply f_|apply g_);focus first|omega|(simp only[q_]<;>omega))|((with_reducible first|apply i_|apply h_);focus first|omega|(simp only[q_]<;>omega))|((with_reducible apply h_);focus first|decide|kernel_rfl)|refine s_ (by decide) ?_|refine t_ (by decide) ?_|with_reducible first|apply l_|apply m_|apply n_|apply o_|refine p_ (fun _=>?_) (fun _=>?_))<;>(conv=>whnf)))
  exact Ret.bool (listEqB_len hl).symm
theorem rowEqB_refl (a:RowT):rowEqB a a=true:=(listEqB_iff ValueD.eqB_iff a a).2 rfl
theorem s_same (a b:List ValueD) (rows:List (List C)) (ha:a.length≤140737488355328):CallS Tryz.prog 71 [.d (.ptr FK 0),.d (.ptr FK1 0)]
  [(FK,.box TP [.app FK2 TV 3 (a.map ValueD.c),.app FK3 TES 1 rows]),(FK1,.box TES [.app NK1 TV 3 (b.map ValueD.c)]),(FK2,.tail TV 3),(FK3,.tail TES 1),(NK1,.tail TV 3)] [] (pBool (rowEqB a b)) []:=by
 have pe:=p_equal a b ha
 refine callS_of Tryz.func71 (by rfl) rfl (by kernel_rfl) (by rfl) [FK,FK1,FK2,FK3,NK1] rfl ?_
 ((conv=>whnf);repeat' ((first|(with_reducible first|apply a_|apply b_|apply c_)|((with_reducible first|apply d_|apply e_|apply f_|apply g_);focus first|omega|(simp only[q_]<;>omega))|((with_reducible first|apply i_|apply h_);focus first|omega|(simp only[q_]<;>omega))|((with_reducible apply h_);focus first|decide|kernel_rfl)|refine s_ (by decide) ?_|refine t_ (by decide) ?_|refine r_ pe rfl ?_|with_reducible first|apply l_|apply m_|apply n_|apply o_|refine p_ (fun _=>?_) (fun _=>?_))<;>(conv=>whnf)))
 all_goals first
  | (refine RetS.mk [(FK,FK),(FK1,FK1),(FK2,FK2),(FK3,FK3),(NK1,NK1)] [FK,FK1,FK2,FK3,NK1] rfl rfl ?_ ?_<;>repeat' (first|exact rfl|exact trivial|exact Or.inl rfl|refine And.intro ?_ ?_))
  | skip
theorem s_index0 (b:List ValueD):CallS Tryz.prog 70 [.d (.c (.v (.slice none 0 0))),.d (.clo 71 [] [.ptr FK1 0])]
  [(FK1,.box TES [.app NK1 TV 3 (b.map ValueD.c)]),(NK1,.tail TV 3)] [] (pInt .i64 (-1)) []:=by
 refine callS_of Tryz.func70 (by rfl) rfl (by kernel_rfl) (by rfl) [FK1,NK1] rfl ?_
 ((conv=>whnf);repeat' ((first|(with_reducible first|apply a_|apply b_|apply c_)|((with_reducible first|apply d_|apply e_|apply f_|apply g_);focus first|omega|(simp only[q_]<;>omega))|((with_reducible first|apply i_|apply h_);focus first|omega|(simp only[q_]<;>omega))|((with_reducible apply h_);focus first|decide|kernel_rfl)|refine s_ (by decide) ?_|refine t_ (by decide) ?_|with_reducible first|apply l_|apply m_|apply n_|apply o_|refine p_ (fun _=>?_) (fun _=>?_))<;>(conv=>whnf)))
 refine LoopC.mk Unit (fun _=>[(7,pInt .i64 0),(8,pInt .i64 0)]) (fun _=>[(FK1,.box TES [.app NK1 TV 3 (b.map ValueD.c)]),(NK1,.tail TV 3)]) [FK1,NK1] (fun _=>True) (fun _=>0) () trivial ?start ?round
 case start=>refine⟨[(FK1,FK1),(NK1,NK1)],?_,?_,?_,?_⟩<;>repeat' (first|exact rfl|exact trivial|exact Or.inl rfl|refine And.intro ?_ ?_)
 case round=>
  rintro _ _
  ((conv=>whnf);repeat' ((first|(with_reducible first|apply a_|apply b_|apply c_)|((with_reducible first|apply d_|apply e_|apply f_|apply g_);focus first|omega|(simp only[q_]<;>omega))|((with_reducible first|apply i_|apply h_);focus first|omega|(simp only[q_]<;>omega))|((with_reducible apply h_);focus first|decide|kernel_rfl)|refine s_ (by decide) ?_|refine t_ (by decide) ?_|with_reducible first|apply l_|apply m_|apply n_|apply o_|refine p_ (fun _=>?_) (fun _=>?_))<;>(conv=>whnf)))
  all_goals first
   | (refine RetS.mk [(FK1,FK1),(NK1,NK1)] [FK1,NK1] rfl rfl ?_ ?_<;>repeat' (first|exact rfl|exact trivial|exact Or.inl rfl|refine And.intro ?_ ?_))
   | skip
theorem s_index1 (a b:List ValueD) (rows:List (List C)) (ha:a.length≤140737488355328):CallS Tryz.prog 70 [.d (.arr NK2 TPA 1 0 1),.d (.clo 71 [] [.ptr FK1 0])]
  [(NK2,.darr TPA 1 [[.ptr FK 0]]),(FK,.box TP [.app FK2 TV 3 (a.map ValueD.c),.app FK3 TES 1 rows]),(FK1,.box TES [.app NK1 TV 3 (b.map ValueD.c)]),(FK2,.tail TV 3),(FK3,.tail TES 1),(NK1,.tail TV 3)] [] (pInt .i64 (if rowEqB a b then 0 else -1)) []:=by
 have ps:=s_same a b rows ha
 refine callS_of Tryz.func70 (by rfl) rfl (by kernel_rfl) (by rfl) [NK2,FK,FK1,FK2,FK3,NK1] rfl ?_
 ((conv=>whnf);repeat' ((first|(with_reducible first|apply a_|apply b_|apply c_)|((with_reducible first|apply d_|apply e_|apply f_|apply g_);focus first|omega|(simp only[q_]<;>omega))|((with_reducible first|apply i_|apply h_);focus first|omega|(simp only[q_]<;>omega))|((with_reducible apply h_);focus first|decide|kernel_rfl)|refine s_ (by decide) ?_|refine t_ (by decide) ?_|with_reducible first|apply l_|apply m_|apply n_|apply o_|refine p_ (fun _=>?_) (fun _=>?_))<;>(conv=>whnf)))
 refine LoopC.mk Nat (fun k=>[(0,.d (.arr NK2 TPA 1 0 1)),(1,.d (.clo 71 [] [.ptr FK1 0])),(7,pInt .i64 1),(8,pInt .i64 (k:Int))])
  (fun _=>[(NK2,.darr TPA 1 [[.ptr FK 0]]),(FK,.box TP [.app FK2 TV 3 (a.map ValueD.c),.app FK3 TES 1 rows]),(FK1,.box TES [.app NK1 TV 3 (b.map ValueD.c)]),(FK2,.tail TV 3),(FK3,.tail TES 1),(NK1,.tail TV 3)]) [NK2,FK,FK1,FK2,FK3,NK1]
  (fun k=>k=0∨(k=1∧rowEqB a b=false)) (fun k=>1 - k) 0 (.inl rfl) ?start ?round
 case start=>refine⟨[(NK2,NK2),(FK,FK),(FK1,FK1),(FK2,FK2),(FK3,FK3),(NK1,NK1)],?_,?_,?_,?_⟩<;>repeat' (first|exact rfl|exact trivial|exact Or.inl rfl|refine And.intro ?_ ?_)
 case round=>
  rintro k (rfl | ⟨rfl,hk⟩)
  ·cases hx:rowEqB a b with
   | true=>
    rw[hx] at ps
    ((conv=>whnf);repeat' ((first|(with_reducible first|apply a_|apply b_|apply c_)|((with_reducible first|apply d_|apply e_|apply f_|apply g_);focus first|omega|(simp only[q_]<;>omega))|((with_reducible first|apply i_|apply h_);focus first|omega|(simp only[q_]<;>omega))|((with_reducible apply h_);focus first|decide|kernel_rfl)|refine s_ (by decide) ?_|refine t_ (by decide) ?_|(refine CallP.ret [(FK,FK),(FK1,FK1),(FK2,FK2),(FK3,FK3),(NK1,NK1)] _ _ _ _ _ _ _ ps rfl rfl rfl rfl ⟨rfl,rfl,rfl,rfl,rfl,trivial⟩ ?_)|(refine Row.mk [.ptr FK 0] rfl ?_)|with_reducible first|apply l_|apply m_|apply n_|apply o_|refine p_ (fun _=>?_) (fun _=>?_))<;>(conv=>whnf)))
    all_goals first
     | (refine RetS.mk [(NK2,NK2),(FK,FK),(FK1,FK1),(FK2,FK2),(FK3,FK3),(NK1,NK1)] [NK2,FK,FK1,FK2,FK3,NK1] rfl rfl ?_ ?_<;>repeat' (first|exact rfl|exact trivial|exact Or.inl rfl|refine And.intro ?_ ?_))
     | skip
   | false=>
    rw[hx] at ps
    ((conv=>whnf);repeat' ((first|(with_reducible first|apply a_|apply b_|apply c_)|((with_reducible first|apply d_|apply e_|apply f_|apply g_);focus first|omega|(simp only[q_]<;>omega))|((with_reducible first|apply i_|apply h_);focus first|omega|(simp only[q_]<;>omega))|((with_reducible apply h_);focus first|decide|kernel_rfl)|refine s_ (by decide) ?_|refine t_ (by decide) ?_|(refine CallP.ret [(FK,FK),(FK1,FK1),(FK2,FK2),(FK3,FK3),(NK1,NK1)] _ _ _ _ _ _ _ ps rfl rfl rfl rfl ⟨rfl,rfl,rfl,rfl,rfl,trivial⟩ ?_)|(refine Row.mk [.ptr FK 0] rfl ?_)|with_reducible first|apply l_|apply m_|apply n_|apply o_|refine p_ (fun _=>?_) (fun _=>?_))<;>(conv=>whnf)))
    all_goals first
     | (refine⟨1,.inr ⟨rfl,rfl⟩,by decide,[(NK2,NK2),(FK,FK),(FK1,FK1),(FK2,FK2),(FK3,FK3),(NK1,NK1)],?_,?_,?_,?_⟩<;>repeat' (first|exact rfl|exact trivial|exact Or.inl rfl|exact PLe.int (by decide) | refine And.intro ?_ ?_))
     | skip
  ·rw[hk]
   ((conv=>whnf);repeat' ((first|(with_reducible first|apply a_|apply b_|apply c_)|((with_reducible first|apply d_|apply e_|apply f_|apply g_);focus first|omega|(simp only[q_]<;>omega))|((with_reducible first|apply i_|apply h_);focus first|omega|(simp only[q_]<;>omega))|((with_reducible apply h_);focus first|decide|kernel_rfl)|refine s_ (by decide) ?_|refine t_ (by decide) ?_|with_reducible first|apply l_|apply m_|apply n_|apply o_|refine p_ (fun _=>?_) (fun _=>?_))<;>(conv=>whnf)))
   all_goals first
    | (refine RetS.mk [(NK2,NK2),(FK,FK),(FK1,FK1),(FK2,FK2),(FK3,FK3),(NK1,NK1)] [NK2,FK,FK1,FK2,FK3,NK1] rfl rfl ?_ ?_<;>repeat' (first|exact rfl|exact trivial|exact Or.inl rfl|refine And.intro ?_ ?_))
    | skip
abbrev grpsE (l:List RowT) (c:Nat) (out:D) (k:Nat):List (Nat×PV):=[(1,slV 1 iC [(c:Int)]),(5,.d out),(18,rwsV l),(19,pInt .i64 l.length),(20,pInt .i64 (k:Int))]
abbrev partsH (y:ValueD) (rows:List (List C)):Rf:=[(50,.darr TPA 1 [[.ptr 48 0]]),(48,.box TP [.app 162 TV 3 [y.c],.app 163 TES 1 rows]),(162,.tail TV 3),(163,.tail TES 1)]
abbrev innerE (l:List RowT) (c:Nat) (out:D) (k:Nat) (r:RowT) (j:Nat):List (Nat×PV):=[(7,slV 3 ValueD.c r),(8,.d (.ptr 8 0)),(24,slV 1 iC [(c:Int)]),(25,pInt .i64 1),(26,pInt .i64 (j:Int))]++grpsE l c out k
abbrev innerH (y:ValueD) (j:Nat):Rf:=[(8,.box TES [.app 161 TV 3 (([y].take j).map ValueD.c)]),(161,.tail TV 3)]
def outK:Nat→D
 | 0=>.c (.v (.slice none 0 0))
 | _+1=>.arr 50 TPA 1 0 1
def partsHk (y:ValueD) (l:List RowT):Nat→Rf
 | 0=>[]
 | k+1=>partsH y ((l.take (k+1)).map rowC)
set_option maxHeartbeats 1000000 in
theorem s_parts (l:List RowT) (c:Nat) (y:ValueD) (hl:0<l.length) (h40:l.length≤40) (hy:∀r∈l,r.length≤8∧(r.map ValueD.c)[((c:Nat):Int).toNat]? = some y.c) :
  CallS Tryz.prog 50 [rwsV l,slV 1 iC [(c:Int)]] [] [] (.d (.arr NK TPA 1 0 1)) [(NK,.darr TPA 1 [[.ptr NK1 0]]),(NK1,.box TP [.app NK2 TV 3 [y.c],.app FK2 TES 1 (l.map rowC)]),(NK2,.tail TV 3),(FK2,.tail TES 1)]:=by
 have hml:(l.map rowC).length=l.length:=List.length_map _
 have s0:=s_index0 [y]
 refine callS_of Tryz.func50 (by rfl) rfl (by kernel_rfl) (by rfl) [] rfl ?_
 ((conv=>whnf);repeat' ((first|(with_reducible first|apply a_|apply b_|apply c_)|((with_reducible first|apply d_|apply e_|apply f_|apply g_);focus first|omega|(simp only[q_]<;>omega))|((with_reducible first|apply i_|apply h_);focus first|omega|(simp only[q_]<;>omega))|((with_reducible apply h_);focus first|decide|kernel_rfl)|refine s_ (by decide) ?_|refine t_ (by decide) ?_|with_reducible first|apply l_|apply m_|apply n_|apply o_|refine p_ (fun _=>?_) (fun _=>?_))<;>(conv=>whnf)))
 refine LoopC.mk Nat (fun k=>grpsE l c (outK k) k) (fun k=>partsHk y l k) [50,48,162,163] (fun k=>k≤l.length) (fun k=>l.length - k) 0 (Nat.zero_le _) ?start ?round
 case start=>exact⟨[],rfl,rfl,⟨.inl rfl,.inl rfl,.inl rfl,PLe.int (by simp),.inl rfl,trivial⟩,trivial⟩
 case round=>
  intro k hk
  have hk:k≤l.length:=hk
  cases k with
  | zero=>
   obtain⟨h8,hix⟩:=hy l[0] (List.getElem_mem hl)
   have hm0:(l[0].map ValueD.c).length=l[0].length:=List.length_map _
   ((conv=>whnf);repeat' ((first|(with_reducible first|apply a_|apply b_|apply c_)|((with_reducible first|apply d_|apply e_|apply f_|apply g_);focus first|omega|(simp only[q_]<;>omega))|((with_reducible first|apply i_|apply h_);focus first|omega|(simp only[q_]<;>omega))|((with_reducible apply h_);focus first|decide|kernel_rfl)|refine s_ (by decide) ?_|refine t_ (by decide) ?_|(refine Idx.mapI (f:=rowC) 0 rfl hl ?_)|with_reducible first|apply l_|apply m_|apply n_|apply o_|refine p_ (fun _=>?_) (fun _=>?_))<;>(conv=>whnf)))
   refine LoopC.mk Nat (fun j=>innerE l c (.c (.v (.slice none 0 0))) 0 l[0] j) (fun j=>innerH y j) [8,161] (fun j=>j≤1) (fun j=>1 - j) 0 (Nat.zero_le _) ?start0 ?round0
   case start0=>refine⟨[(8,8)],?_,?_,?_,?_⟩<;>repeat' (first|exact rfl|exact trivial|exact Or.inl rfl|exact PLe.int (by simp) | exact Nat.zero_lt_succ _|refine And.intro ?_ ?_)
   case round0=>
    intro j hj
    have hj:j≤1:=hj
    obtain rfl | rfl:j=0∨j=1:=by omega
    ·((conv=>whnf);repeat' ((first|(with_reducible first|apply a_|apply b_|apply c_)|((with_reducible first|apply d_|apply e_|apply f_|apply g_);focus first|omega|(simp only[q_]<;>omega))|((with_reducible first|apply i_|apply h_);focus first|omega|(simp only[q_]<;>omega))|((with_reducible apply h_);focus first|decide|kernel_rfl)|refine s_ (by decide) ?_|refine t_ (by decide) ?_|(first|refine Idx.mk (iC c) (by decide) rfl ?_|refine Idx.mk y.c (by omega) hix ?_)|(refine Need.by 32 rfl (by simp) ?_)|with_reducible first|apply l_|apply m_|apply n_|apply o_|refine p_ (fun _=>?_) (fun _=>?_))<;>(conv=>whnf)))
     all_goals first
      | (refine⟨1,by decide,by decide,[(8,8),(161,36)],?_,?_,?_,?_⟩<;>repeat' (first|exact rfl|exact trivial|exact Or.inl rfl|exact PLe.int (by decide) | refine And.intro ?_ ?_))
      | skip
    ·((conv=>whnf);repeat' ((first|(with_reducible first|apply a_|apply b_|apply c_)|((with_reducible first|apply d_|apply e_|apply f_|apply g_);focus first|omega|(simp only[q_]<;>omega))|((with_reducible first|apply i_|apply h_);focus first|omega|(simp only[q_]<;>omega))|((with_reducible apply h_);focus first|decide|kernel_rfl)|refine s_ (by decide) ?_|refine t_ (by decide) ?_|(refine CallP.ret [(FK1,8),(NK1,161)] _ _ _ _ _ _ _ s0 rfl rfl rfl rfl ⟨rfl,rfl,trivial⟩ ?_)|(refine Row.mk [.ptr 48 0] rfl ?_)|(refine Need.by 24 rfl (by simp) ?_)|with_reducible first|apply l_|apply m_|apply n_|apply o_|refine p_ (fun _=>?_) (fun _=>?_))<;>(conv=>whnf)))
     all_goals first
      | (refine⟨0+1,hl,by omega,[(50,50),(48,48),(162,161),(163,64)],?_,?_,?_,?_⟩<;>repeat' (first|exact rfl|exact trivial|exact Or.inl rfl|exact PLe.int (by simp) | exact (by rw[take_snoc hl];rfl) | refine And.intro ?_ ?_))
      | skip
  | succ k=>
   by_cases q:k+1<l.length
   ·obtain⟨h8,hix⟩:=hy l[k+1] (List.getElem_mem q)
    have hm0:(l[k+1].map ValueD.c).length=l[k+1].length:=List.length_map _
    have s1:=s_index1 [y] [y] ((l.take (k+1)).map rowC) (by simp)
    rw[show rowEqB [y] [y]=true from (rowEqB_refl _),if_pos rfl] at s1
    have hrl:((l.take (k+1)).map rowC).length≤40:=by rw[List.length_map,List.length_take];omega
    ((conv=>whnf);repeat' ((first|(with_reducible first|apply a_|apply b_|apply c_)|((with_reducible first|apply d_|apply e_|apply f_|apply g_);focus first|omega|(simp only[q_]<;>omega))|((with_reducible first|apply i_|apply h_);focus first|omega|(simp only[q_]<;>omega))|((with_reducible apply h_);focus first|decide|kernel_rfl)|refine s_ (by decide) ?_|refine t_ (by decide) ?_|(refine Idx.mapI (f:=rowC) (k+1) rfl q ?_)|with_reducible first|apply l_|apply m_|apply n_|apply o_|refine p_ (fun _=>?_) (fun _=>?_))<;>(conv=>whnf)))
    refine LoopC.mk Nat (fun j=>innerE l c (.arr 50 TPA 1 0 1) (k+1) l[k+1] j) (fun j=>innerH y j++partsH y ((l.take (k+1)).map rowC)) [8,161,50,48,162,163] (fun j=>j≤1) (fun j=>1 - j) 0 (Nat.zero_le _) ?start1 ?round1
    case start1=>refine⟨[(8,8),(50,50),(48,48),(162,162),(163,163)],?_,?_,?_,?_⟩<;>repeat' (first|exact rfl|exact trivial|exact Or.inl rfl|exact PLe.int (by simp) | exact Nat.zero_lt_succ _|refine And.intro ?_ ?_)
    case round1=>
     intro j hj
     have hj:j≤1:=hj
     obtain rfl | rfl:j=0∨j=1:=by omega
     ·((conv=>whnf);repeat' ((first|(with_reducible first|apply a_|apply b_|apply c_)|((with_reducible first|apply d_|apply e_|apply f_|apply g_);focus first|omega|(simp only[q_]<;>omega))|((with_reducible first|apply i_|apply h_);focus first|omega|(simp only[q_]<;>omega))|((with_reducible apply h_);focus first|decide|kernel_rfl)|refine s_ (by decide) ?_|refine t_ (by decide) ?_|(first|refine Idx.mk (iC c) (by decide) rfl ?_|refine Idx.mk y.c (by omega) hix ?_)|(refine Need.by 32 rfl (by simp) ?_)|with_reducible first|apply l_|apply m_|apply n_|apply o_|refine p_ (fun _=>?_) (fun _=>?_))<;>(conv=>whnf)))
      all_goals first
       | (refine⟨1,by decide,by decide,[(8,8),(161,36),(50,50),(48,48),(162,162),(163,163)],?_,?_,?_,?_⟩<;>repeat' (first|exact rfl|exact trivial|exact Or.inl rfl|exact PLe.int (by decide) | refine And.intro ?_ ?_))
       | skip
     ·((conv=>whnf);repeat' ((first|(with_reducible first|apply a_|apply b_|apply c_)|((with_reducible first|apply d_|apply e_|apply f_|apply g_);focus first|omega|(simp only[q_]<;>omega))|((with_reducible first|apply i_|apply h_);focus first|omega|(simp only[q_]<;>omega))|((with_reducible apply h_);focus first|decide|kernel_rfl)|refine s_ (by decide) ?_|refine t_ (by decide) ?_|(refine CallP.ret [(NK2,50),(FK,48),(FK1,8),(FK2,162),(FK3,163),(NK1,161)] _ _ _ _ _ _ _ s1 rfl rfl rfl rfl ⟨rfl,rfl,rfl,rfl,rfl,rfl,trivial⟩ ?_)|(refine Row.mk [.ptr 48 0] rfl ?_)|(refine Need.by 24 rfl (by simp only[List.length_singleton];omega) ?_)|with_reducible first|apply l_|apply m_|apply n_|apply o_|refine p_ (fun _=>?_) (fun _=>?_))<;>(conv=>whnf)))
      all_goals first
       | (refine⟨k+1+1,q,by omega,[(50,50),(48,48),(162,162),(163,64)],?_,?_,?_,?_⟩<;>repeat' (first|exact rfl|exact trivial|exact Or.inl rfl|exact PLe.int (by simp) | exact PLe.int (by omega) | exact (by rw[take_snoc q,List.map_append];rfl) | refine And.intro ?_ ?_))
       | skip
   ·have e:l.take (k+1)=l:=List.take_of_length_le (by omega)
    ((conv=>whnf);repeat' ((first|(with_reducible first|apply a_|apply b_|apply c_)|((with_reducible first|apply d_|apply e_|apply f_|apply g_);focus first|omega|(simp only[q_]<;>omega))|((with_reducible first|apply i_|apply h_);focus first|omega|(simp only[q_]<;>omega))|((with_reducible apply h_);focus first|decide|kernel_rfl)|refine s_ (by decide) ?_|refine t_ (by decide) ?_|with_reducible first|apply l_|apply m_|apply n_|apply o_|refine p_ (fun _=>?_) (fun _=>?_))<;>(conv=>whnf)))
    all_goals first
     | (refine RetS.mk [(NK,50),(NK1,48),(NK2,162),(FK2,163)] [NK,NK1,NK2,FK2] rfl rfl ?_ ?_<;>repeat' (first|exact rfl|exact trivial|exact Or.inl rfl|refine And.intro ?_ ?_ | (rw[e];done)))
     | skip
end
section
open Go.RowKit K
set_option maxRecDepth 100000
set_option maxRecDepth 100000
structure AggD where
 Kind:Int
 Col:Int
def AggD.c (x:AggD):List C:=[.v (.int .i64 x.Kind),.v (.int .i64 x.Col)]
def AggD.ok (x:AggD):Prop:=okInt x.Kind∧okInt x.Col
def AggD.eqB (x y:AggD):Bool:=(decide (x.Kind=y.Kind)&&(decide (x.Col=y.Col)&&true))
theorem AggD.eqB_iff (x y:AggD):AggD.eqB x y=true↔x=y:=by
 cases x;cases y
 simp[AggD.eqB,tx_eq]
abbrev aV (x:AggD):PV:=.agg (x.c.map D.c)
theorem rep_ints {F:Fzn} {w:World}:∀{l:List Int} {us:List Value},CsRep F w (l.map fun x=>C.v (.int .i64 x)) us→us=l.map (Value.int .i64)
 | [],us,h=>csRep_nil_inv h
 | x::l,us,h=>by
  obtain⟨u,vs,rfl,h1,h2⟩:=csRep_inv h
  unfold CRep at h1
  rw[h1.1,rep_ints h2];rfl
theorem p_wsum (l:List Int) (hl:∀x∈l,WholeP.In64 x):Pure Tryz.prog 89 [slV 1 iC l] (.tup [pInt .i64 (WholeP.total l).1,pInt .i64 (WholeP.total l).2]):=by
 refine⟨⟨_,Tryz.func89,rfl,by kernel_rfl⟩,fun F w vs hG hF hvs=>?_⟩
 obtain⟨v,rfl,hv⟩:∃v,vs=[v]∧PRep (fun _=>none) F w (slV 1 iC l) v:=by
  cases vs with
  | nil=>unfold PsRep at hvs;exact hvs.elim
  | cons v vs=>
   unfold PsRep at hvs
   cases vs with
   | nil=>exact⟨v,rfl,hvs.1⟩
   | cons _ _=>have:=hvs.2;unfold PsRep at this;exact this.elim
 unfold PRep DRep CRep at hv
 obtain⟨a,cap,rfl,c1,c2,c3,c4⟩:=hv
 rw[List.length_map] at c1
 have hseen:Seen w (.slice a l.length cap) l.length 1 (l.map (Value.int .i64)):=by
  refine⟨by rw[List.length_map,Nat.mul_one],a,cap,rfl,c1,c2,c3,?_⟩
  rcases c4 with c4 | ⟨b,off,rfl,c5⟩
  ·exact .inl (by simpa using congrArg List.length c4)
  ·by_cases hz:l.length=0
   ·exact .inl hz
   ·obtain⟨_,c6⟩:=rowsAt_iff.1 c5
    have hfl:(l.map iC).flatten=l.map fun x=>C.v (.int .i64 x):=by
     have:l.map iC=(l.map fun x=>C.v (.int .i64 x)).map fun c=>[c]:=by rw[List.map_map];rfl
     rw[this]
     generalize (l.map fun x=>C.v (.int .i64 x))=A
     induction A with
     | nil=>rfl
     | cons x xs ih=>rw[List.map_cons,List.flatten_cons,ih];rfl
    rw[hfl] at c6
    obtain⟨us,u1,u2,u3⟩:=csAt_values c6
    obtain rfl:=rep_ints u1
    exact .inr ⟨b,off,rfl,hF _ _ (u3 0 (by rw[List.length_map];omega)),u2⟩
 rw[List.length_map]
 refine (WholeP.total_any l hl _ w hseen).mono ?_
 rintro e w' ⟨rfl,hb⟩
 refine⟨_,rfl,hb,?_⟩
 unfold PRep
 exact⟨_,rfl,by unfold PsRep;exact⟨by unfold PRep DRep CRep;exact⟨rfl,rfl⟩,by unfold PsRep;exact⟨by unfold PRep DRep CRep;exact⟨rfl,rfl⟩,by unfold PsRep;trivial⟩⟩⟩
def colF (l:List RowT) (c:Nat):List ValueD:=(l.map fun r=>r[c]?.getD noV).filter fun v=>decide (v.Kind≠0)
theorem colF_snoc {l:List RowT} {c k:Nat} (h:k<l.length) (hc:c<l[k].length):colF (l.take (k+1)) c=colF (l.take k) c++(if l[k][c].Kind≠0 then [l[k][c]] else []):=by
 unfold colF
 rw[take_snoc h,List.map_append,List.filter_append]
 congr 1
 simp only[List.map_cons,List.map_nil,List.getElem?_eq_getElem hc,Option.getD_some,List.filter_cons,List.filter_nil,decide_eq_true_eq]
theorem colF_len (l:List RowT) (c:Nat):(colF l c).length≤l.length:=by
 unfold colF
 exact Nat.le_trans (List.length_filter_le _ _) (by rw[List.length_map];exact Nat.le_refl _)
theorem p_column (l:List RowT) (c:Nat) (h40:l.length≤40) (hc:∀r∈l,c<r.length∧r.length≤8):Pure Tryz.prog 73 [rwsV l,pInt .i64 (c:Int)] (slV 3 ValueD.c (colF l c)):=by
 have hml:(l.map rowC).length=l.length:=List.length_map _
 refine pure_of Tryz.func73 (by rfl) rfl (by kernel_rfl) (by rfl) ?_
 ((conv=>whnf);repeat' ((first|(with_reducible first|apply a_|apply b_|apply c_)|((with_reducible first|apply d_|apply e_|apply f_|apply g_);focus first|omega|(simp only[q_]<;>omega))|((with_reducible first|apply i_|apply h_);focus first|omega|(simp only[q_]<;>omega))|((with_reducible apply h_);focus first|decide|kernel_rfl)|refine s_ (by decide) ?_|refine t_ (by decide) ?_|with_reducible first|apply l_|apply m_|apply n_|apply o_|refine p_ (fun _=>?_) (fun _=>?_))<;>(conv=>whnf)))
 refine LoopC.mk Nat (fun k=>[(1,pInt .i64 (c:Int)),(5,.d (.app 60 TV 3 ((colF (l.take k) c).map ValueD.c))),(8,rwsV l),(9,pInt .i64 l.length),(10,pInt .i64 (k:Int))]) (fun _=>[(60,.tail TV 3)]) [60] (fun k=>k≤l.length) (fun k=>l.length - k) 0 (Nat.zero_le _) ?start ?round
 case start=>exact⟨[],rfl,rfl,⟨.inl rfl,⟨rfl,rfl,Nat.zero_lt_succ _,rfl,rfl⟩,.inl rfl,PLe.int (by simp),.inl rfl,trivial⟩,⟨rfl,Nat.zero_lt_succ _⟩,trivial⟩
 case round=>
  intro k hk
  have hk:k≤l.length:=hk
  by_cases q:k<l.length
  ·obtain⟨hck,h8⟩:=hc l[k] (List.getElem_mem q)
   have hm0:(l[k].map ValueD.c).length=l[k].length:=List.length_map _
   have hcl:=colF_len (l.take k) c
   rw[List.length_take] at hcl
   have hsn:=colF_snoc q hck
   by_cases hz:l[k][c].Kind≠0
   ·rw[if_pos hz] at hsn
    ((conv=>whnf);repeat' ((first|(with_reducible first|apply a_|apply b_|apply c_)|((with_reducible first|apply d_|apply e_|apply f_|apply g_);focus first|omega|(simp only[q_]<;>omega))|((with_reducible first|apply i_|apply h_);focus first|omega|(simp only[q_]<;>omega))|((with_reducible apply h_);focus first|decide|kernel_rfl)|refine s_ (by decide) ?_|refine t_ (by decide) ?_|(first|refine Idx.mapI (f:=rowC) k rfl q ?_|refine Idx.mapI (l:=l[k]) c rfl hck ?_)|(refine Need.by 32 rfl (by simp only[List.length_map,List.length_singleton];omega) ?_)|with_reducible first|apply l_|apply m_|apply n_|apply o_|refine p_ (fun _=>?_) (fun _=>?_))<;>(conv=>whnf)))
    all_goals first
     | exact⟨k+1,q,by omega,[(60,26)],rfl,rfl,⟨.inl rfl,⟨rfl,rfl,rfl,rfl,by rw[hsn,List.map_append];rfl⟩,.inl rfl,.inl rfl,PLe.int (by omega),trivial⟩,⟨rfl,rfl,rfl⟩,trivial⟩
     | (exfalso;omega)
     | skip
   ·rw[if_neg hz,List.append_nil] at hsn
    ((conv=>whnf);repeat' ((first|(with_reducible first|apply a_|apply b_|apply c_)|((with_reducible first|apply d_|apply e_|apply f_|apply g_);focus first|omega|(simp only[q_]<;>omega))|((with_reducible first|apply i_|apply h_);focus first|omega|(simp only[q_]<;>omega))|((with_reducible apply h_);focus first|decide|kernel_rfl)|refine s_ (by decide) ?_|refine t_ (by decide) ?_|(first|refine Idx.mapI (f:=rowC) k rfl q ?_|refine Idx.mapI (l:=l[k]) c rfl hck ?_)|with_reducible first|apply l_|apply m_|apply n_|apply o_|refine p_ (fun _=>?_) (fun _=>?_))<;>(conv=>whnf)))
    all_goals first
     | exact⟨k+1,q,by omega,[(60,60)],rfl,rfl,⟨.inl rfl,⟨rfl,rfl,rfl,rfl,by rw[hsn]⟩,.inl rfl,.inl rfl,PLe.int (by omega),trivial⟩,⟨rfl,rfl,rfl⟩,trivial⟩
     | (exfalso;omega)
     | skip
  ·have e:l.take k=l:=List.take_of_length_le (by omega)
   rw[e]
   ((conv=>whnf);repeat' ((first|(with_reducible first|apply a_|apply b_|apply c_)|((with_reducible first|apply d_|apply e_|apply f_|apply g_);focus first|omega|(simp only[q_]<;>omega))|((with_reducible first|apply i_|apply h_);focus first|omega|(simp only[q_]<;>omega))|((with_reducible apply h_);focus first|decide|kernel_rfl)|refine s_ (by decide) ?_|refine t_ (by decide) ?_|with_reducible first|apply l_|apply m_|apply n_|apply o_|refine p_ (fun _=>?_) (fun _=>?_))<;>(conv=>whnf)))
   all_goals first|exact Ret.mk rfl | (exfalso;omega)
def sumF (l:List ValueD):ValueD×Int:=if l.any (fun v=>decide (v.Kind≠1)) then (noV,7) else if (WholeP.total (l.map ValueD.N)).2≠0∨l.length=0 then (noV,(WholeP.total (l.map ValueD.N)).2) else (⟨1,(WholeP.total (l.map ValueD.N)).1,[]⟩,0)
theorem p_sum (l:List ValueD) (h40:l.length≤1000) (hN:∀v∈l,WholeP.In64 v.N):Pure Tryz.prog 74 [slV 3 ValueD.c l] (.tup [vV (sumF l).1,pInt .i64 (sumF l).2]):=by
 have pw:=p_wsum (l.map ValueD.N) (fun x hx=>by obtain⟨v,hv,rfl⟩:=List.mem_map.1 hx;exact hN v hv)
 refine pure_of Tryz.func74 (by rfl) rfl (by kernel_rfl) (by rfl) ?_
 unfold sumF
 ((conv=>whnf);repeat' ((first|(with_reducible first|apply a_|apply b_|apply c_)|((with_reducible first|apply d_|apply e_|apply f_|apply g_);focus first|omega|(simp only[q_]<;>omega))|((with_reducible first|apply i_|apply h_);focus first|omega|(simp only[q_]<;>omega))|((with_reducible apply h_);focus first|decide|kernel_rfl)|refine s_ (by decide) ?_|refine t_ (by decide) ?_|with_reducible first|apply l_|apply m_|apply n_|apply o_|refine p_ (fun _=>?_) (fun _=>?_))<;>(conv=>whnf)))
 refine LoopC.mk Nat (fun k=>[(0,slV 3 ValueD.c l),(2,.d (.ptr 2 0)),(4,.d (.app 60 2 1 (((l.take k).map ValueD.N).map iC))),(9,slV 3 ValueD.c l),(10,pInt .i64 l.length),(11,pInt .i64 (k:Int))]) (fun _=>[(2,.box TV (noV.c.map D.c)),(60,.tail 2 1)]) [2,60] (fun k=>k≤l.length∧∀v∈l.take k,v.Kind=1) (fun k=>l.length - k) 0 ⟨Nat.zero_le _,by simp⟩ ?start ?round
 case start=>refine⟨[(2,2)],?_,?_,?_,?_⟩<;>repeat' (first|exact rfl|exact trivial|exact Or.inl rfl|exact PLe.int (by simp) | exact Nat.zero_lt_succ _|refine And.intro ?_ ?_)
 case round=>
  rintro k ⟨hk,hz⟩
  have hk:k≤l.length:=hk
  have hz:∀v∈l.take k,v.Kind=1:=hz
  by_cases q:k<l.length
  ·by_cases h1:l[k].Kind≠1
   ·rw[if_pos (List.any_eq_true.2 ⟨l[k],List.getElem_mem q,decide_eq_true h1⟩)]
    ((conv=>whnf);repeat' ((first|(with_reducible first|apply a_|apply b_|apply c_)|((with_reducible first|apply d_|apply e_|apply f_|apply g_);focus first|omega|(simp only[q_]<;>omega))|((with_reducible first|apply i_|apply h_);focus first|omega|(simp only[q_]<;>omega))|((with_reducible apply h_);focus first|decide|kernel_rfl)|refine s_ (by decide) ?_|refine t_ (by decide) ?_|(refine Idx.mapI k rfl q ?_)|with_reducible first|apply l_|apply m_|apply n_|apply o_|refine p_ (fun _=>?_) (fun _=>?_))<;>(conv=>whnf)))
    all_goals first
     | exact Ret.eq rfl
     | (exfalso;omega)
     | skip
   ·have h1:l[k].Kind=1:=Decidable.of_not_not h1
    have hall:∀v∈l.take (k+1),v.Kind=1:=by
     intro v hv
     rw[take_snoc q] at hv
     rcases List.mem_append.1 hv with hv | hv
     ·exact hz v hv
     ·rw[List.mem_singleton.1 hv];exact h1
    ((conv=>whnf);repeat' ((first|(with_reducible first|apply a_|apply b_|apply c_)|((with_reducible first|apply d_|apply e_|apply f_|apply g_);focus first|omega|(simp only[q_]<;>omega))|((with_reducible first|apply i_|apply h_);focus first|omega|(simp only[q_]<;>omega))|((with_reducible apply h_);focus first|decide|kernel_rfl)|refine s_ (by decide) ?_|refine t_ (by decide) ?_|(refine Idx.mapI k rfl q ?_)|(refine Need.by 8 rfl (by simp only[List.length_map,List.length_take,List.length_singleton];omega) ?_)|with_reducible first|apply l_|apply m_|apply n_|apply o_|refine p_ (fun _=>?_) (fun _=>?_))<;>(conv=>whnf)))
    all_goals first
     | (refine⟨k+1,⟨q,hall⟩,by omega,[(2,2),(60,23)],?_,?_,?_,?_⟩<;>repeat' (first|exact rfl|exact trivial|exact Or.inl rfl|exact PLe.int (by omega) | exact (by rw[take_snoc q,List.map_append,List.map_append];rfl) | refine And.intro ?_ ?_))
     | (exfalso;omega)
     | skip
  ·have e:l.take k=l:=List.take_of_length_le (by omega)
   rw[e] at hz ⊢
   have hany:¬(l.any (fun v=>decide (v.Kind≠1))=true):=by
    intro h
    obtain⟨v,hv,hd⟩:=List.any_eq_true.1 h
    exact of_decide_eq_true hd (hz v hv)
   rw[if_neg hany]
   by_cases h2:(WholeP.total (l.map ValueD.N)).2≠0∨l.length=0
   ·rw[if_pos h2]
    ((conv=>whnf);repeat' ((first|(with_reducible first|apply a_|apply b_|apply c_)|((with_reducible first|apply d_|apply e_|apply f_|apply g_);focus first|omega|(simp only[q_]<;>omega))|((with_reducible first|apply i_|apply h_);focus first|omega|(simp only[q_]<;>omega))|((with_reducible apply h_);focus first|decide|kernel_rfl)|refine s_ (by decide) ?_|refine t_ (by decide) ?_|refine r_ pw rfl ?_|with_reducible first|apply l_|apply m_|apply n_|apply o_|refine p_ (fun _=>?_) (fun _=>?_))<;>(conv=>whnf)))
    all_goals first
     | exact Ret.eq rfl
     | (exfalso;omega)
     | skip
   ·rw[if_neg h2]
    have h3:(WholeP.total (l.map ValueD.N)).2=0:=by omega
    rw[h3] at pw
    ((conv=>whnf);repeat' ((first|(with_reducible first|apply a_|apply b_|apply c_)|((with_reducible first|apply d_|apply e_|apply f_|apply g_);focus first|omega|(simp only[q_]<;>omega))|((with_reducible first|apply i_|apply h_);focus first|omega|(simp only[q_]<;>omega))|((with_reducible apply h_);focus first|decide|kernel_rfl)|refine s_ (by decide) ?_|refine t_ (by decide) ?_|refine r_ pw rfl ?_|with_reducible first|apply l_|apply m_|apply n_|apply o_|refine p_ (fun _=>?_) (fun _=>?_))<;>(conv=>whnf)))
    all_goals first
     | exact Ret.eq rfl
     | (exfalso;omega)
     | skip
theorem p_tell_count (l:List RowT) (col:Int) (hc:col<0):Pure Tryz.prog 51 [rwsV l,aV ⟨1,col⟩] (.tup [vV ⟨1,(l.length:Int),[]⟩,pInt .i64 0]):=by
 have hml:(l.map rowC).length=l.length:=List.length_map _
 refine pure_of Tryz.func51 (by rfl) rfl (by kernel_rfl) (by rfl) ?_
 ((conv=>whnf);repeat' ((first|(with_reducible first|apply a_|apply b_|apply c_)|((with_reducible first|apply d_|apply e_|apply f_|apply g_);focus first|omega|(simp only[q_]<;>omega))|((with_reducible first|apply i_|apply h_);focus first|omega|(simp only[q_]<;>omega))|((with_reducible apply h_);focus first|decide|kernel_rfl)|refine s_ (by decide) ?_|refine t_ (by decide) ?_|with_reducible first|apply l_|apply m_|apply n_|apply o_|refine p_ (fun _=>?_) (fun _=>?_))<;>(conv=>whnf)))
 all_goals first
  | exact Ret.eq (by rw[hml];rfl)
  | exact Ret.eq rfl
  | (exfalso;omega)
  | skip
theorem p_tell_sum (l:List RowT) (c:Nat) (h0:0<l.length) (h40:l.length≤40) (hc:∀r∈l,c<r.length∧r.length≤8) (hN:∀r∈l,∀v∈r,WholeP.In64 v.N) :
  Pure Tryz.prog 51 [rwsV l,aV ⟨2,(c:Int)⟩] (.tup [vV (sumF (colF l c)).1,pInt .i64 (sumF (colF l c)).2]):=by
 have hml:(l.map rowC).length=l.length:=List.length_map _
 have pc:=p_column l c h40 hc
 have ps:=p_sum (colF l c) (by have:=colF_len l c;omega) (fun v hv=>by
  unfold colF at hv
  obtain⟨r,hr,rfl⟩:=List.mem_map.1 (List.mem_filter.1 hv).1
  have hcr:=(hc r hr).1
  rw[List.getElem?_eq_getElem hcr,Option.getD_some]
  exact hN r hr _ (List.getElem_mem hcr))
 refine pure_of Tryz.func51 (by rfl) rfl (by kernel_rfl) (by rfl) ?_
 ((conv=>whnf);repeat' ((first|(with_reducible first|apply a_|apply b_|apply c_)|((with_reducible first|apply d_|apply e_|apply f_|apply g_);focus first|omega|(simp only[q_]<;>omega))|((with_reducible first|apply i_|apply h_);focus first|omega|(simp only[q_]<;>omega))|((with_reducible apply h_);focus first|decide|kernel_rfl)|refine s_ (by decide) ?_|refine t_ (by decide) ?_|refine r_ pc rfl ?_|refine r_ ps rfl ?_|with_reducible first|apply l_|apply m_|apply n_|apply o_|refine p_ (fun _=>?_) (fun _=>?_))<;>(conv=>whnf)))
 all_goals first
  | exact Ret.eq rfl
  | (exfalso;omega)
  | skip
theorem p_grouping_ok (l:List RowT) (hr:∀r∈l,r.length≤8) (by_:List Int) (aggs:List AggD) (h8:by_.length+aggs.length≤8) (hk:∀a∈aggs,1≤a.Kind∧a.Kind≤4) (hp:placesF l by_=0) (hq:∀a∈aggs,(a.Kind≠1∨a.Col≠-1)→placesF l [a.Col]=0) :
  Pure Tryz.prog 49 [rwsV l,slV 1 iC by_,slV 2 AggD.c aggs] (pInt .i64 0):=by
 have hr':∀r∈l,r.length≤140737488355328:=fun r h=>by have:=hr r h;omega
 have pp:=p_places l hr' by_ (by omega)
 rw[hp] at pp
 have hmb:(by_.map iC).length=by_.length:=List.length_map _
 have hma:(aggs.map AggD.c).length=aggs.length:=List.length_map _
 refine pure_of Tryz.func49 (by rfl) rfl (by kernel_rfl) (by rfl) ?_
 ((conv=>whnf);repeat' ((first|(with_reducible first|apply a_|apply b_|apply c_)|((with_reducible first|apply d_|apply e_|apply f_|apply g_);focus first|omega|(simp only[q_]<;>omega))|((with_reducible first|apply i_|apply h_);focus first|omega|(simp only[q_]<;>omega))|((with_reducible apply h_);focus first|decide|kernel_rfl)|refine s_ (by decide) ?_|refine t_ (by decide) ?_|with_reducible first|apply l_|apply m_|apply n_|apply o_|refine p_ (fun _=>?_) (fun _=>?_))<;>(conv=>whnf)))
 refine LoopC.mk Nat (fun k=>[(0,rwsV l),(1,slV 1 iC by_),(2,slV 2 AggD.c aggs),(23,slV 2 AggD.c aggs),(24,pInt .i64 aggs.length),(25,pInt .i64 (k:Int))]) (fun _=>[]) [] (fun k=>k≤aggs.length) (fun k=>aggs.length - k) 0 (Nat.zero_le _) ?start ?round
 case start=>exact⟨[],rfl,rfl,⟨.inl rfl,.inl rfl,.inl rfl,.inl rfl,PLe.int (by simp),.inl rfl,trivial⟩,trivial⟩
 case round=>
  intro k hk0
  have hk0:k≤aggs.length:=hk0
  by_cases q:k<aggs.length
  ·obtain⟨h1,h4⟩:=hk _ (List.getElem_mem q)
   ((conv=>whnf);repeat' ((first|(with_reducible first|apply a_|apply b_|apply c_)|((with_reducible first|apply d_|apply e_|apply f_|apply g_);focus first|omega|(simp only[q_]<;>omega))|((with_reducible first|apply i_|apply h_);focus first|omega|(simp only[q_]<;>omega))|((with_reducible apply h_);focus first|decide|kernel_rfl)|refine s_ (by decide) ?_|refine t_ (by decide) ?_|(refine Idx.mapI k rfl q ?_)|with_reducible first|apply l_|apply m_|apply n_|apply o_|refine p_ (fun _=>?_) (fun _=>?_))<;>(conv=>whnf)))
   all_goals first
    | exact⟨k+1,q,by omega,[],rfl,rfl,⟨.inl rfl,.inl rfl,.inl rfl,.inl rfl,.inl rfl,PLe.int (by omega),trivial⟩,trivial⟩
    | (exfalso;omega)
    | skip
  ·((conv=>whnf);repeat' ((first|(with_reducible first|apply a_|apply b_|apply c_)|((with_reducible first|apply d_|apply e_|apply f_|apply g_);focus first|omega|(simp only[q_]<;>omega))|((with_reducible first|apply i_|apply h_);focus first|omega|(simp only[q_]<;>omega))|((with_reducible apply h_);focus first|decide|kernel_rfl)|refine s_ (by decide) ?_|refine t_ (by decide) ?_|refine r_ pp rfl ?_|with_reducible first|apply l_|apply m_|apply n_|apply o_|refine p_ (fun _=>?_) (fun _=>?_))<;>(conv=>whnf)))
   refine LoopC.mk Nat (fun k=>[(0,rwsV l),(9,pInt .i64 0),(41,slV 2 AggD.c aggs),(42,pInt .i64 aggs.length),(43,pInt .i64 (k:Int))]) (fun _=>[]) [] (fun k=>k≤aggs.length) (fun k=>aggs.length - k) 0 (Nat.zero_le _) ?start2 ?round2
   case start2=>exact⟨[],rfl,rfl,⟨.inl rfl,.inl rfl,.inl rfl,PLe.int (by simp),.inl rfl,trivial⟩,trivial⟩
   case round2=>
    intro k hk0
    have hk0:k≤aggs.length:=hk0
    by_cases q:k<aggs.length
    ·have hqk:=hq _ (List.getElem_mem q)
     by_cases hx:aggs[k].Kind≠1∨aggs[k].Col≠-1
     ·have pq:=p_places l hr' [aggs[k].Col] (by simp)
      rw[hqk hx] at pq
      ((conv=>whnf);repeat' ((first|(with_reducible first|apply a_|apply b_|apply c_)|((with_reducible first|apply d_|apply e_|apply f_|apply g_);focus first|omega|(simp only[q_]<;>omega))|((with_reducible first|apply i_|apply h_);focus first|omega|(simp only[q_]<;>omega))|((with_reducible apply h_);focus first|decide|kernel_rfl)|refine s_ (by decide) ?_|refine t_ (by decide) ?_|(refine Idx.mapI k rfl q ?_)|refine r_ pq rfl ?_|with_reducible first|apply l_|apply m_|apply n_|apply o_|refine p_ (fun _=>?_) (fun _=>?_))<;>(conv=>whnf)))
      all_goals first
       | exact⟨k+1,q,by omega,[],rfl,rfl,⟨.inl rfl,.inl rfl,.inl rfl,.inl rfl,PLe.int (by omega),trivial⟩,trivial⟩
       | (exfalso;omega)
       | skip
     ·((conv=>whnf);repeat' ((first|(with_reducible first|apply a_|apply b_|apply c_)|((with_reducible first|apply d_|apply e_|apply f_|apply g_);focus first|omega|(simp only[q_]<;>omega))|((with_reducible first|apply i_|apply h_);focus first|omega|(simp only[q_]<;>omega))|((with_reducible apply h_);focus first|decide|kernel_rfl)|refine s_ (by decide) ?_|refine t_ (by decide) ?_|(refine Idx.mapI k rfl q ?_)|with_reducible first|apply l_|apply m_|apply n_|apply o_|refine p_ (fun _=>?_) (fun _=>?_))<;>(conv=>whnf)))
      all_goals first
       | exact⟨k+1,q,by omega,[],rfl,rfl,⟨.inl rfl,.inl rfl,.inl rfl,.inl rfl,PLe.int (by omega),trivial⟩,trivial⟩
       | (exfalso;omega)
       | skip
    ·((conv=>whnf);repeat' ((first|(with_reducible first|apply a_|apply b_|apply c_)|((with_reducible first|apply d_|apply e_|apply f_|apply g_);focus first|omega|(simp only[q_]<;>omega))|((with_reducible first|apply i_|apply h_);focus first|omega|(simp only[q_]<;>omega))|((with_reducible apply h_);focus first|decide|kernel_rfl)|refine s_ (by decide) ?_|refine t_ (by decide) ?_|with_reducible first|apply l_|apply m_|apply n_|apply o_|refine p_ (fun _=>?_) (fun _=>?_))<;>(conv=>whnf)))
     all_goals first|exact Ret.int rfl | (exfalso;omega)
abbrev grpH (y:ValueD) (l:List RowT):Rf:=[(151,.darr TPA 1 [[.ptr 150 0]]),(150,.box TP [.app 162 TV 3 [y.c],.app 163 TES 1 (l.map rowC)]),(162,.tail TV 3),(163,.tail TES 1)]
def grpE (aggs:List AggD) (row:List (List C)):Nat→List (Nat×PV)
 | 0=>[(2,slV 2 AggD.c aggs),(10,.d (.c (.v (.slice none 0 0)))),(32,.d (.arr 151 TPA 1 0 1)),(33,pInt .i64 1),(34,pInt .i64 0)]
 | _+1=>[(10,.d (.app 161 TES 1 [[.sl 3 row]])),(33,pInt .i64 1),(34,pInt .i64 1)]
def grpHk (y:ValueD) (l:List RowT):Nat→Rf
 | 0=>grpH y l
 | _+1=>[(161,.tail TES 1)]
set_option maxHeartbeats 1000000 in
theorem p_Group1 (l:List RowT) (c:Nat) (y:ValueD) (aggs:List AggD) (tells:List ValueD) (hl:0<l.length) (hchk:rowsChk l=0) (hy:∀r∈l,r.length≤8∧(r.map ValueD.c)[((c:Nat):Int).toNat]? = some y.c)
  (pg:Pure Tryz.prog 49 [rwsV l,slV 1 iC [(c:Int)],slV 2 AggD.c aggs] (pInt .i64 0)) (hn:aggs.length≤8) (htl:tells.length=aggs.length)
  (pt:∀(k:Nat) (h:k<aggs.length) (h2:k<tells.length),Pure Tryz.prog 51 [rwsV l,aV aggs[k]] (.tup [vV tells[k],pInt .i64 0])) :
  Pure Tryz.prog 29 [rwsV l,slV 1 iC [(c:Int)],slV 2 AggD.c aggs] (.tup [rwsV [y::tells],pInt .i64 0]):=by
 have hml:(l.map rowC).length=l.length:=List.length_map _
 have hma:(aggs.map AggD.c).length=aggs.length:=List.length_map _
 have pc:=p_bagcheck l
 rw[hchk] at pc
 obtain⟨h40,h8⟩:=rowsChk_ok.1 hchk
 have ps:=s_parts l c y hl h40 hy
 refine pure_of Tryz.func29 (by rfl) rfl (by kernel_rfl) (by rfl) ?_
 ((conv=>whnf);repeat' ((first|(with_reducible first|apply a_|apply b_|apply c_)|((with_reducible first|apply d_|apply e_|apply f_|apply g_);focus first|omega|(simp only[q_]<;>omega))|((with_reducible first|apply i_|apply h_);focus first|omega|(simp only[q_]<;>omega))|((with_reducible apply h_);focus first|decide|kernel_rfl)|refine s_ (by decide) ?_|refine t_ (by decide) ?_|refine r_ pc rfl ?_|refine r_ pg rfl ?_|(refine CallP.ret [(NK,151),(NK1,150),(NK2,162),(FK2,163)] _ _ _ _ _ _ _ ps rfl rfl rfl rfl trivial ?_)|with_reducible first|apply l_|apply m_|apply n_|apply o_|refine p_ (fun _=>?_) (fun _=>?_))<;>(conv=>whnf)))
 refine LoopC.mk Nat (fun k=>grpE aggs ((y::tells).map ValueD.c) k) (fun k=>grpHk y l k) [151,150,162,163,161] (fun k=>k≤1) (fun k=>1 - k) 0 (Nat.zero_le _) ?start ?round
 case start=>refine⟨[(151,151),(150,150),(162,162),(163,163)],?_,?_,?_,?_⟩<;>repeat' (first|exact rfl|exact trivial|exact Or.inl rfl|refine And.intro ?_ ?_)
 case round=>
  intro k hk
  have hk:k≤1:=hk
  obtain rfl | rfl:k=0∨k=1:=by omega
  ·((conv=>whnf);repeat' ((first|(with_reducible first|apply a_|apply b_|apply c_)|((with_reducible first|apply d_|apply e_|apply f_|apply g_);focus first|omega|(simp only[q_]<;>omega))|((with_reducible first|apply i_|apply h_);focus first|omega|(simp only[q_]<;>omega))|((with_reducible apply h_);focus first|decide|kernel_rfl)|refine s_ (by decide) ?_|refine t_ (by decide) ?_|(refine Row.mk [.ptr 150 0] rfl ?_)|with_reducible first|apply l_|apply m_|apply n_|apply o_|refine p_ (fun _=>?_) (fun _=>?_))<;>(conv=>whnf)))
   refine LoopC.mk Nat (fun j=>[(10,.d (.c (.v (.slice none 0 0)))),(12,.d (.ptr 150 0)),(13,.d (.app 160 TV 3 ((y::tells.take j).map ValueD.c))),(33,pInt .i64 1),(34,pInt .i64 0),(42,slV 2 AggD.c aggs),(43,pInt .i64 aggs.length),(44,pInt .i64 (j:Int))]) (fun _=>[(150,.box TP [.c (.sl 3 [y.c]),.c (.sl 1 (l.map rowC))]),(160,.tail TV 3)]) [150,160] (fun j=>j≤aggs.length) (fun j=>aggs.length - j) 0 (Nat.zero_le _) ?start2 ?round2
   case start2=>refine⟨[(150,150),(160,162)],?_,?_,?_,?_⟩<;>repeat' (first|exact rfl|exact trivial|exact Or.inl rfl|exact PLe.int (by simp) | refine And.intro ?_ ?_)
   case round2=>
    intro j hj
    have hj:j≤aggs.length:=hj
    by_cases q:j<aggs.length
    ·have q2:j<tells.length:=by omega
     have pj:=pt j q q2
     ((conv=>whnf);repeat' ((first|(with_reducible first|apply a_|apply b_|apply c_)|((with_reducible first|apply d_|apply e_|apply f_|apply g_);focus first|omega|(simp only[q_]<;>omega))|((with_reducible first|apply i_|apply h_);focus first|omega|(simp only[q_]<;>omega))|((with_reducible apply h_);focus first|decide|kernel_rfl)|refine s_ (by decide) ?_|refine t_ (by decide) ?_|(refine Idx.mapI j rfl q ?_)|refine r_ pj rfl ?_|(refine Need.by 32 rfl (by simp only[List.length_map,List.length_cons,List.length_take,List.length_nil];omega) ?_)|with_reducible first|apply l_|apply m_|apply n_|apply o_|refine p_ (fun _=>?_) (fun _=>?_))<;>(conv=>whnf)))
     all_goals first
      | (refine⟨j+1,q,by omega,[(150,150),(160,63)],?_,?_,?_,?_⟩<;>repeat' (first|exact rfl|exact trivial|exact Or.inl rfl|exact PLe.int (by omega) | exact (by rw[take_snoc q2,← List.cons_append,List.map_append];rfl) | refine And.intro ?_ ?_))
      | (exfalso;omega)
      | skip
    ·have e:tells.take j=tells:=List.take_of_length_le (by omega)
     rw[e]
     ((conv=>whnf);repeat' ((first|(with_reducible first|apply a_|apply b_|apply c_)|((with_reducible first|apply d_|apply e_|apply f_|apply g_);focus first|omega|(simp only[q_]<;>omega))|((with_reducible first|apply i_|apply h_);focus first|omega|(simp only[q_]<;>omega))|((with_reducible apply h_);focus first|decide|kernel_rfl)|refine s_ (by decide) ?_|refine t_ (by decide) ?_|(refine Need.by 24 rfl (by simp) ?_)|with_reducible first|apply l_|apply m_|apply n_|apply o_|refine p_ (fun _=>?_) (fun _=>?_))<;>(conv=>whnf)))
     all_goals first
      | (refine⟨1,by decide,by decide,[(161,68)],?_,?_,?_,?_⟩<;>repeat' (first|exact rfl|exact trivial|exact Or.inl rfl|exact PLe.int (by simp) | refine And.intro ?_ ?_))
      | (exfalso;omega)
      | skip
  ·((conv=>whnf);repeat' ((first|(with_reducible first|apply a_|apply b_|apply c_)|((with_reducible first|apply d_|apply e_|apply f_|apply g_);focus first|omega|(simp only[q_]<;>omega))|((with_reducible first|apply i_|apply h_);focus first|omega|(simp only[q_]<;>omega))|((with_reducible apply h_);focus first|decide|kernel_rfl)|refine s_ (by decide) ?_|refine t_ (by decide) ?_|with_reducible first|apply l_|apply m_|apply n_|apply o_|refine p_ (fun _=>?_) (fun _=>?_))<;>(conv=>whnf)))
   all_goals first
    | exact Ret.eq rfl
    | exact Ret.mk rfl
    | skip
end
section
set_option maxRecDepth 100000
def tP (a:Int):Int:=if a=0 then 0 else if a=2 then 2 else 1
def tAnd (a b:Int):Int:=min (tP a) (tP b)
def tOr (a b:Int):Int:=max (tP a) (tP b)
def tNot (a:Int):Int:=2 - tP a
def tOf (b:Bool):Int:=if b then 2 else 0
def tAll (l:List Int):Int:=l.foldl tAnd 2
def tAny (l:List Int):Int:=l.foldl tOr 0
abbrev IsT (a:Int):Prop:=a=0∨a=1∨a=2
theorem isT_p (a:Int):IsT (tP a):=by unfold tP IsT;(repeat' split)<;>simp
def rLess (a b:ValueD):Int:=if a.Kind=0∨b.Kind=0 then 1 else tOf (decide (vOrd a b<0))
def rSame (a b:ValueD):Int:=if a.Kind=0∨b.Kind=0 then 1 else tOf (decide (vOrd a b=0))
def rIn (v:ValueD) (l:List ValueD):Int:=tAny (l.map (rSame v))
def rBetween (v lo hi:ValueD):Int:=tAnd (tNot (rLess v lo)) (tNot (rLess hi v))
def tolV (t:Int):ValueD:=if t=2 then ⟨1,1,[]⟩ else if t=0 then ⟨1,0,[]⟩ else noV
def meaV (v:ValueD):Int×Int:=if v.Kind=0 then (1,0) else if v.Kind=1 then (tOf (decide (v.N≠0)),0) else (0,7)
abbrev isN (v:ValueD):Bool:=decide (v.Kind=0)
abbrev isTB (v:ValueD):Bool:=decide (v.Kind=2∨v.Kind=3)
abbrev isIB (v:ValueD):Bool:=decide (v.Kind=1∨v.Kind=3)
def numV (k:List ValueD):Bool×Int:=(k.any isN,if k.any isTB then 7 else 0)
def whoF (op a b:Int):Int×Int:=if op=5 then WholeP.fit (a+b) else if op=6 then WholeP.fit (a - b) else if op=7 then WholeP.fit (a*b) else if op=8 then WholeP.quo a b else if op=9 then WholeP.rem a b else WholeP.fit (-a)
def recV (op:Int) (k:List ValueD):ValueD×Int:=
 if k.any isTB then (noV,7) else if k.any isN then (noV,0) else
 if (whoF op (k.headD noV).N (k.getLastD noV).N).2≠0 then (noV,(whoF op (k.headD noV).N (k.getLastD noV).N).2) else (⟨1,(whoF op (k.headD noV).N (k.getLastD noV).N).1,[]⟩,0)
noncomputable def likV (k:List ValueD):Int×Int:=
 if k.any isIB then (0,7) else if k.any isN then (1,0) else (tOf (LikeP.matB (tx (k.getD 1 noV).S) (tx (k.getD 0 noV).S)),LikeP.matE (tx (k.getD 1 noV).S) (tx (k.getD 0 noV).S))
def joiV (op:Int) (k:List ValueD):Int×Int:=
 if k.any (fun v=>decide ((meaV v).2≠0)) then (0,7) else (if op=16 then tAll (k.map fun v=>(meaV v).1) else if op=17 then tAny (k.map fun v=>(meaV v).1) else tNot ((k.map fun v=>(meaV v).1).headD 0),0)
noncomputable def askV (op:Int) (k:List ValueD):Int×Int:=
 if op=10 then (rSame (k.getD 0 noV) (k.getD 1 noV),0)
 else if op=12 then (rLess (k.getD 0 noV) (k.getD 1 noV),0)
 else if op=14 then (rLess (k.getD 1 noV) (k.getD 0 noV),0)
 else if op=18 then (tOf (isN (k.getD 0 noV)),0)
 else if op=22 then (rIn (k.getD 0 noV) (k.drop 1),0)
 else if op=24 then (rBetween (k.getD 0 noV) (k.getD 1 noV) (k.getD 2 noV),0)
 else if op=20 then likV k
 else joiV op k
def negB (op:Int):Bool:=decide (op=11∨op=13∨op=15∨op=19∨op=21∨op=23∨op=25)
def couF (op:Int):Int:=if op=10∨op=18∨op=20∨op=22∨op=24 then op+1 else if op=11∨op=19∨op=21∨op=23∨op=25 then op - 1 else if 12≤op∧op≤15 then 27 - op else 0
abbrev Look:=List UInt8→Option ValueD
noncomputable def nodV (look:Look) (n:NodeD) (k:List ValueD):ValueD×Int:=
 if n.Op=1 then (n.V,0)
 else if n.Op=2 then (match look n.Name with
  | some v=>(v,0)
  | none=>(noV,5))
 else if n.Op=3∨(5≤n.Op∧n.Op≤9) then recV n.Op k
 else if (askV (if negB n.Op then couF n.Op else n.Op) k).2≠0 then (noV,(askV (if negB n.Op then couF n.Op else n.Op) k).2)
 else (tolV (if negB n.Op then tNot (askV (if negB n.Op then couF n.Op else n.Op) k).1 else (askV (if negB n.Op then couF n.Op else n.Op) k).1),0)
abbrev OkV (v:ValueD):Prop:=vChk v=0
theorem tolV_ok (t:Int):OkV (tolV t):=by unfold tolV;(repeat' split)<;>decide
theorem noV_ok:OkV noV:=by decide
end
section
open Go.RowKit K
set_option maxRecDepth 100000
theorem p_lplain (a:Int):Pure Tryz.prog 120 [pInt .i64 a] (pInt .i64 (tP a)):=by
 refine pure_of Tryz.func120 (by rfl) rfl (by kernel_rfl) (by rfl) ?_
 unfold tP
 ((conv=>whnf);repeat' ((first|(with_reducible first|apply a_|apply b_|apply c_)|((with_reducible first|apply d_|apply e_|apply f_|apply g_);focus first|omega|(simp only[q_]<;>omega))|((with_reducible first|apply i_|apply h_);focus first|omega|(simp only[q_]<;>omega))|((with_reducible apply h_);focus first|decide|kernel_rfl)|refine s_ (by decide) ?_|refine t_ (by decide) ?_|with_reducible first|apply l_|apply m_|apply n_|apply o_|refine p_ (fun _=>?_) (fun _=>?_))<;>(conv=>whnf)))
 (all_goals (refine Ret.int ?_;((repeat' split)<;>first|rfl|omega)))
theorem p_lnot (a:Int):Pure Tryz.prog 104 [pInt .i64 a] (pInt .i64 (tNot a)):=by
 have h:=isT_p a
 refine pure_of Tryz.func104 (by rfl) rfl (by kernel_rfl) (by rfl) ?_
 unfold tNot
 ((conv=>whnf);repeat' ((first|(with_reducible first|apply a_|apply b_|apply c_)|((with_reducible first|apply d_|apply e_|apply f_|apply g_);focus first|omega|(simp only[q_]<;>omega))|((with_reducible first|apply i_|apply h_);focus first|omega|(simp only[q_]<;>omega))|((with_reducible apply h_);focus first|decide|kernel_rfl)|refine s_ (by decide) ?_|refine t_ (by decide) ?_|refine r_ (p_lplain a) rfl ?_|with_reducible first|apply l_|apply m_|apply n_|apply o_|refine p_ (fun _=>?_) (fun _=>?_))<;>(conv=>whnf)))
 (all_goals (refine Ret.int ?_;((repeat' split)<;>first|rfl|omega)))
theorem p_land (a b:Int):Pure Tryz.prog 133 [pInt .i64 a,pInt .i64 b] (pInt .i64 (tAnd a b)):=by
 refine pure_of Tryz.func133 (by rfl) rfl (by kernel_rfl) (by rfl) ?_
 unfold tAnd
 ((conv=>whnf);repeat' ((first|(with_reducible first|apply a_|apply b_|apply c_)|((with_reducible first|apply d_|apply e_|apply f_|apply g_);focus first|omega|(simp only[q_]<;>omega))|((with_reducible first|apply i_|apply h_);focus first|omega|(simp only[q_]<;>omega))|((with_reducible apply h_);focus first|decide|kernel_rfl)|refine s_ (by decide) ?_|refine t_ (by decide) ?_|refine r_ (p_lplain a) rfl ?_|refine r_ (p_lplain b) rfl ?_|with_reducible first|apply l_|apply m_|apply n_|apply o_|refine p_ (fun _=>?_) (fun _=>?_))<;>(conv=>whnf)))
 (all_goals (refine Ret.int ?_;((repeat' split)<;>first|rfl|omega)))
theorem p_lor (a b:Int):Pure Tryz.prog 132 [pInt .i64 a,pInt .i64 b] (pInt .i64 (tOr a b)):=by
 refine pure_of Tryz.func132 (by rfl) rfl (by kernel_rfl) (by rfl) ?_
 unfold tOr
 ((conv=>whnf);repeat' ((first|(with_reducible first|apply a_|apply b_|apply c_)|((with_reducible first|apply d_|apply e_|apply f_|apply g_);focus first|omega|(simp only[q_]<;>omega))|((with_reducible first|apply i_|apply h_);focus first|omega|(simp only[q_]<;>omega))|((with_reducible apply h_);focus first|decide|kernel_rfl)|refine s_ (by decide) ?_|refine t_ (by decide) ?_|refine r_ (p_lplain a) rfl ?_|refine r_ (p_lplain b) rfl ?_|with_reducible first|apply l_|apply m_|apply n_|apply o_|refine p_ (fun _=>?_) (fun _=>?_))<;>(conv=>whnf)))
 (all_goals (refine Ret.int ?_;((repeat' split)<;>first|rfl|omega)))
theorem p_lof (b:Bool):Pure Tryz.prog 95 [pBool b] (pInt .i64 (tOf b)):=by
 refine pure_of Tryz.func95 (by rfl) rfl (by kernel_rfl) (by rfl) ?_
 unfold tOf
 cases b
 ·((conv=>whnf);repeat' ((first|(with_reducible first|apply a_|apply b_|apply c_)|((with_reducible first|apply d_|apply e_|apply f_|apply g_);focus first|omega|(simp only[q_]<;>omega))|((with_reducible first|apply i_|apply h_);focus first|omega|(simp only[q_]<;>omega))|((with_reducible apply h_);focus first|decide|kernel_rfl)|refine s_ (by decide) ?_|refine t_ (by decide) ?_|with_reducible first|apply l_|apply m_|apply n_|apply o_|refine p_ (fun _=>?_) (fun _=>?_))<;>(conv=>whnf)))
  exact Ret.int rfl
 ·((conv=>whnf);repeat' ((first|(with_reducible first|apply a_|apply b_|apply c_)|((with_reducible first|apply d_|apply e_|apply f_|apply g_);focus first|omega|(simp only[q_]<;>omega))|((with_reducible first|apply i_|apply h_);focus first|omega|(simp only[q_]<;>omega))|((with_reducible apply h_);focus first|decide|kernel_rfl)|refine s_ (by decide) ?_|refine t_ (by decide) ?_|with_reducible first|apply l_|apply m_|apply n_|apply o_|refine p_ (fun _=>?_) (fun _=>?_))<;>(conv=>whnf)))
  exact Ret.int rfl
theorem p_rless1 (n:Int):Pure Tryz.prog 131 [pInt .i64 n] (pBool (decide (n<0))):=by
 refine pure_of Tryz.func131 (by rfl) rfl (by kernel_rfl) (by rfl) ?_
 ((conv=>whnf);repeat' ((first|(with_reducible first|apply a_|apply b_|apply c_)|((with_reducible first|apply d_|apply e_|apply f_|apply g_);focus first|omega|(simp only[q_]<;>omega))|((with_reducible first|apply i_|apply h_);focus first|omega|(simp only[q_]<;>omega))|((with_reducible apply h_);focus first|decide|kernel_rfl)|refine s_ (by decide) ?_|refine t_ (by decide) ?_|with_reducible first|apply l_|apply m_|apply n_|apply o_|refine p_ (fun _=>?_) (fun _=>?_))<;>(conv=>whnf)))
 all_goals exact Ret.bool rfl
theorem p_rsame1 (n:Int):Pure Tryz.prog 130 [pInt .i64 n] (pBool (decide (n=0))):=by
 refine pure_of Tryz.func130 (by rfl) rfl (by kernel_rfl) (by rfl) ?_
 ((conv=>whnf);repeat' ((first|(with_reducible first|apply a_|apply b_|apply c_)|((with_reducible first|apply d_|apply e_|apply f_|apply g_);focus first|omega|(simp only[q_]<;>omega))|((with_reducible first|apply i_|apply h_);focus first|omega|(simp only[q_]<;>omega))|((with_reducible apply h_);focus first|decide|kernel_rfl)|refine s_ (by decide) ?_|refine t_ (by decide) ?_|with_reducible first|apply l_|apply m_|apply n_|apply o_|refine p_ (fun _=>?_) (fun _=>?_))<;>(conv=>whnf)))
 all_goals exact Ret.bool rfl
theorem p_known (f:FuncId) (p:Int→Bool) (hp:∀n:Int,Pure Tryz.prog f [pInt .i64 n] (pBool (p n))) (a b:ValueD):Pure Tryz.prog 129 [vV a,vV b,fnV f] (pInt .i64 (if a.Kind=0∨b.Kind=0 then 1 else tOf (p (vOrd a b)))):=by
 have po:=p_vorder a b
 have p1:=hp (vOrd a b)
 have p2:=p_lof (p (vOrd a b))
 refine pure_of Tryz.func129 (by rfl) rfl (by kernel_rfl) (by rfl) ?_
 by_cases h:a.Kind=0∨b.Kind=0
 ·rw[if_pos h]
  ((conv=>whnf);repeat' ((first|(with_reducible first|apply a_|apply b_|apply c_)|((with_reducible first|apply d_|apply e_|apply f_|apply g_);focus first|omega|(simp only[q_]<;>omega))|((with_reducible first|apply i_|apply h_);focus first|omega|(simp only[q_]<;>omega))|((with_reducible apply h_);focus first|decide|kernel_rfl)|refine s_ (by decide) ?_|refine t_ (by decide) ?_|refine r_ po rfl ?_|refine r_ p1 rfl ?_|refine r_ p2 rfl ?_|with_reducible first|apply l_|apply m_|apply n_|apply o_|refine p_ (fun _=>?_) (fun _=>?_))<;>(conv=>whnf)))
  all_goals first|exact Ret.int rfl | (exfalso;omega)
 ·rw[if_neg h]
  ((conv=>whnf);repeat' ((first|(with_reducible first|apply a_|apply b_|apply c_)|((with_reducible first|apply d_|apply e_|apply f_|apply g_);focus first|omega|(simp only[q_]<;>omega))|((with_reducible first|apply i_|apply h_);focus first|omega|(simp only[q_]<;>omega))|((with_reducible apply h_);focus first|decide|kernel_rfl)|refine s_ (by decide) ?_|refine t_ (by decide) ?_|refine r_ po rfl ?_|refine r_ p1 rfl ?_|refine r_ p2 rfl ?_|with_reducible first|apply l_|apply m_|apply n_|apply o_|refine p_ (fun _=>?_) (fun _=>?_))<;>(conv=>whnf)))
  all_goals first|exact Ret.int rfl | (exfalso;omega)
theorem p_rawless (a b:ValueD):Pure Tryz.prog 115 [vV a,vV b] (pInt .i64 (rLess a b)):=by
 have pk:=p_known _ _ p_rless1 a b
 refine pure_of Tryz.func115 (by rfl) rfl (by kernel_rfl) (by rfl) ?_
 ((conv=>whnf);repeat' ((first|(with_reducible first|apply a_|apply b_|apply c_)|((with_reducible first|apply d_|apply e_|apply f_|apply g_);focus first|omega|(simp only[q_]<;>omega))|((with_reducible first|apply i_|apply h_);focus first|omega|(simp only[q_]<;>omega))|((with_reducible apply h_);focus first|decide|kernel_rfl)|refine s_ (by decide) ?_|refine t_ (by decide) ?_|refine r_ pk rfl ?_|with_reducible first|apply l_|apply m_|apply n_|apply o_|refine p_ (fun _=>?_) (fun _=>?_))<;>(conv=>whnf)))
 exact Ret.int rfl
theorem p_rawsame (a b:ValueD):Pure Tryz.prog 114 [vV a,vV b] (pInt .i64 (rSame a b)):=by
 have pk:=p_known _ _ p_rsame1 a b
 refine pure_of Tryz.func114 (by rfl) rfl (by kernel_rfl) (by rfl) ?_
 ((conv=>whnf);repeat' ((first|(with_reducible first|apply a_|apply b_|apply c_)|((with_reducible first|apply d_|apply e_|apply f_|apply g_);focus first|omega|(simp only[q_]<;>omega))|((with_reducible first|apply i_|apply h_);focus first|omega|(simp only[q_]<;>omega))|((with_reducible apply h_);focus first|decide|kernel_rfl)|refine s_ (by decide) ?_|refine t_ (by decide) ?_|refine r_ pk rfl ?_|with_reducible first|apply l_|apply m_|apply n_|apply o_|refine p_ (fun _=>?_) (fun _=>?_))<;>(conv=>whnf)))
 exact Ret.int rfl
theorem p_rawbetween (v lo hi:ValueD):Pure Tryz.prog 117 [vV v,vV lo,vV hi] (pInt .i64 (rBetween v lo hi)):=by
 have p1:=p_rawless v lo
 have p2:=p_rawless hi v
 have p3:=p_lnot (rLess v lo)
 have p4:=p_lnot (rLess hi v)
 have p5:=p_land (tNot (rLess v lo)) (tNot (rLess hi v))
 refine pure_of Tryz.func117 (by rfl) rfl (by kernel_rfl) (by rfl) ?_
 ((conv=>whnf);repeat' ((first|(with_reducible first|apply a_|apply b_|apply c_)|((with_reducible first|apply d_|apply e_|apply f_|apply g_);focus first|omega|(simp only[q_]<;>omega))|((with_reducible first|apply i_|apply h_);focus first|omega|(simp only[q_]<;>omega))|((with_reducible apply h_);focus first|decide|kernel_rfl)|refine s_ (by decide) ?_|refine t_ (by decide) ?_|refine r_ p1 rfl ?_|refine r_ p2 rfl ?_|refine r_ p3 rfl ?_|refine r_ p4 rfl ?_|refine r_ p5 rfl ?_|with_reducible first|apply l_|apply m_|apply n_|apply o_|refine p_ (fun _=>?_) (fun _=>?_))<;>(conv=>whnf)))
 exact Ret.int rfl
end
section
open Go.RowKit K
set_option maxRecDepth 100000
theorem p_lfold (f:FuncId) (two:Int→Int→Int) (hp:∀a b:Int,Pure Tryz.prog f [pInt .i64 a,pInt .i64 b] (pInt .i64 (two a b))) (z:Int) (l:List Int) (hl:l.length≤140737488355328):Pure Tryz.prog 143 [pInt .i64 z,fnV f,slV 1 eInt l] (pInt .i64 (l.foldl two z)):=by
 refine pure_of Tryz.func143 (by rfl) rfl (by kernel_rfl) (by rfl) ?_
 ((conv=>whnf);repeat' ((first|(with_reducible first|apply a_|apply b_|apply c_)|((with_reducible first|apply d_|apply e_|apply f_|apply g_);focus first|omega|(simp only[q_]<;>omega))|((with_reducible first|apply i_|apply h_);focus first|omega|(simp only[q_]<;>omega))|((with_reducible apply h_);focus first|decide|kernel_rfl)|refine s_ (by decide) ?_|refine t_ (by decide) ?_|with_reducible first|apply l_|apply m_|apply n_|apply o_|refine p_ (fun _=>?_) (fun _=>?_))<;>(conv=>whnf)))
 refine LoopC.mk Nat (fun k=>[(0,pInt .i64 ((l.take k).foldl two z)),(1,fnV f),(9,slV 1 eInt l),(10,pInt .i64 l.length),(11,pInt .i64 k)]) (fun _=>[]) [] (fun k=>k≤l.length) (fun k=>l.length - k) 0 (Nat.zero_le _) ?start ?round
 case start=>exact⟨[],rfl,rfl,⟨.inl rfl,.inl rfl,.inl rfl,PLe.int (by simp),.inl rfl,trivial⟩,trivial⟩
 case round=>
  intro k hk
  by_cases h1:k<l.length
  ·have pf:=hp ((l.take k).foldl two z) l[k]
   ((conv=>whnf);repeat' ((first|(with_reducible first|apply a_|apply b_|apply c_)|((with_reducible first|apply d_|apply e_|apply f_|apply g_);focus first|omega|(simp only[q_]<;>omega))|((with_reducible first|apply i_|apply h_);focus first|omega|(simp only[q_]<;>omega))|((with_reducible apply h_);focus first|decide|kernel_rfl)|refine s_ (by decide) ?_|refine t_ (by decide) ?_|(refine Idx.mapI k rfl h1 ?_)|refine r_ pf rfl ?_|with_reducible first|apply l_|apply m_|apply n_|apply o_|refine p_ (fun _=>?_) (fun _=>?_))<;>(conv=>whnf)))
   exact⟨k+1,by omega,by omega,[],rfl,rfl,⟨PLe.int (by rw[take_snoc h1,List.foldl_append];rfl),.inl rfl,.inl rfl,.inl rfl,PLe.int rfl,trivial⟩,trivial⟩
  ·((conv=>whnf);repeat' ((first|(with_reducible first|apply a_|apply b_|apply c_)|((with_reducible first|apply d_|apply e_|apply f_|apply g_);focus first|omega|(simp only[q_]<;>omega))|((with_reducible first|apply i_|apply h_);focus first|omega|(simp only[q_]<;>omega))|((with_reducible apply h_);focus first|decide|kernel_rfl)|refine s_ (by decide) ?_|refine t_ (by decide) ?_|with_reducible first|apply l_|apply m_|apply n_|apply o_|refine p_ (fun _=>?_) (fun _=>?_))<;>(conv=>whnf)))
   refine Ret.int ?_
   rw[List.take_of_length_le (by omega)]
theorem p_lall (l:List Int) (hl:l.length≤140737488355328):Pure Tryz.prog 135 [slV 1 eInt l] (pInt .i64 (tAll l)):=by
 have pf:=p_lfold _ tAnd p_land 2 l hl
 refine pure_of Tryz.func135 (by rfl) rfl (by kernel_rfl) (by rfl) ?_
 ((conv=>whnf);repeat' ((first|(with_reducible first|apply a_|apply b_|apply c_)|((with_reducible first|apply d_|apply e_|apply f_|apply g_);focus first|omega|(simp only[q_]<;>omega))|((with_reducible first|apply i_|apply h_);focus first|omega|(simp only[q_]<;>omega))|((with_reducible apply h_);focus first|decide|kernel_rfl)|refine s_ (by decide) ?_|refine t_ (by decide) ?_|refine r_ pf rfl ?_|with_reducible first|apply l_|apply m_|apply n_|apply o_|refine p_ (fun _=>?_) (fun _=>?_))<;>(conv=>whnf)))
 exact Ret.int rfl
theorem p_lany (l:List Int) (hl:l.length≤140737488355328):Pure Tryz.prog 136 [slV 1 eInt l] (pInt .i64 (tAny l)):=by
 have pf:=p_lfold _ tOr p_lor 0 l hl
 refine pure_of Tryz.func136 (by rfl) rfl (by kernel_rfl) (by rfl) ?_
 ((conv=>whnf);repeat' ((first|(with_reducible first|apply a_|apply b_|apply c_)|((with_reducible first|apply d_|apply e_|apply f_|apply g_);focus first|omega|(simp only[q_]<;>omega))|((with_reducible first|apply i_|apply h_);focus first|omega|(simp only[q_]<;>omega))|((with_reducible apply h_);focus first|decide|kernel_rfl)|refine s_ (by decide) ?_|refine t_ (by decide) ?_|refine r_ pf rfl ?_|with_reducible first|apply l_|apply m_|apply n_|apply o_|refine p_ (fun _=>?_) (fun _=>?_))<;>(conv=>whnf)))
 exact Ret.int rfl
theorem p_rawin (v:ValueD) (l:List ValueD) (hl:l.length≤140737488355328):Pure Tryz.prog 116 [vV v,slV 3 ValueD.c l] (pInt .i64 (rIn v l)):=by
 refine pure_of Tryz.func116 (by rfl) rfl (by kernel_rfl) (by rfl) ?_
 ((conv=>whnf);repeat' ((first|(with_reducible first|apply a_|apply b_|apply c_)|((with_reducible first|apply d_|apply e_|apply f_|apply g_);focus first|omega|(simp only[q_]<;>omega))|((with_reducible first|apply i_|apply h_);focus first|omega|(simp only[q_]<;>omega))|((with_reducible apply h_);focus first|decide|kernel_rfl)|refine s_ (by decide) ?_|refine t_ (by decide) ?_|with_reducible first|apply l_|apply m_|apply n_|apply o_|refine p_ (fun _=>?_) (fun _=>?_))<;>(conv=>whnf)))
 refine LoopC.mk Nat (fun k=>[(2,.d (.ptr 60 0)),(5,pInt .i64 (rIn v (l.take k))),(8,slV 3 ValueD.c l),(9,pInt .i64 l.length),(10,pInt .i64 k)]) (fun _=>[(60,.box 49 (v.c.map D.c))]) [60] (fun k=>k≤l.length) (fun k=>l.length - k) 0 (Nat.zero_le _) ?start ?round
 case start=>exact⟨[(60,2)],rfl,rfl,⟨⟨rfl,rfl,rfl⟩,.inl rfl,.inl rfl,PLe.int (by simp),.inl rfl,trivial⟩,⟨rfl,rfl,.inl rfl,.inl rfl,.inl rfl,rfl⟩,trivial⟩
 case round=>
  intro k hk
  by_cases h1:k<l.length
  ·have p1:=p_rawsame v l[k]
   have p2:=p_lor (rIn v (l.take k)) (rSame v l[k])
   ((conv=>whnf);repeat' ((first|(with_reducible first|apply a_|apply b_|apply c_)|((with_reducible first|apply d_|apply e_|apply f_|apply g_);focus first|omega|(simp only[q_]<;>omega))|((with_reducible first|apply i_|apply h_);focus first|omega|(simp only[q_]<;>omega))|((with_reducible apply h_);focus first|decide|kernel_rfl)|refine s_ (by decide) ?_|refine t_ (by decide) ?_|(refine Idx.mapI k rfl h1 ?_)|refine r_ p1 rfl ?_|refine r_ p2 rfl ?_|with_reducible first|apply l_|apply m_|apply n_|apply o_|refine p_ (fun _=>?_) (fun _=>?_))<;>(conv=>whnf)))
   refine⟨k+1,by omega,by omega,[(60,60)],rfl,rfl,⟨⟨rfl,rfl,rfl⟩,PLe.int ?_,.inl rfl,.inl rfl,PLe.int rfl,trivial⟩,⟨rfl,rfl,.inl rfl,.inl rfl,.inl rfl,rfl⟩,trivial⟩
   unfold rIn tAny
   rw[take_snoc h1,List.map_append,List.foldl_append];rfl
  ·((conv=>whnf);repeat' ((first|(with_reducible first|apply a_|apply b_|apply c_)|((with_reducible first|apply d_|apply e_|apply f_|apply g_);focus first|omega|(simp only[q_]<;>omega))|((with_reducible first|apply i_|apply h_);focus first|omega|(simp only[q_]<;>omega))|((with_reducible apply h_);focus first|decide|kernel_rfl)|refine s_ (by decide) ?_|refine t_ (by decide) ?_|with_reducible first|apply l_|apply m_|apply n_|apply o_|refine p_ (fun _=>?_) (fun _=>?_))<;>(conv=>whnf)))
   refine Ret.int ?_
   rw[List.take_of_length_le (by omega)]
end
section
open Go.RowKit K
set_option maxRecDepth 100000
theorem p_told (t:Int):Pure Tryz.prog 105 [pInt .i64 t] (vV (tolV t)):=by
 refine pure_of Tryz.func105 (by rfl) rfl (by kernel_rfl) (by rfl) ?_
 unfold tolV
 by_cases h2:t=2
 ·subst h2
  ((conv=>whnf);repeat' ((first|(with_reducible first|apply a_|apply b_|apply c_)|((with_reducible first|apply d_|apply e_|apply f_|apply g_);focus first|omega|(simp only[q_]<;>omega))|((with_reducible first|apply i_|apply h_);focus first|omega|(simp only[q_]<;>omega))|((with_reducible apply h_);focus first|decide|kernel_rfl)|refine s_ (by decide) ?_|refine t_ (by decide) ?_|with_reducible first|apply l_|apply m_|apply n_|apply o_|refine p_ (fun _=>?_) (fun _=>?_))<;>(conv=>whnf)))
  exact Ret.eq rfl
 ·rw[if_neg h2]
  by_cases h0:t=0
  ·subst h0
   ((conv=>whnf);repeat' ((first|(with_reducible first|apply a_|apply b_|apply c_)|((with_reducible first|apply d_|apply e_|apply f_|apply g_);focus first|omega|(simp only[q_]<;>omega))|((with_reducible first|apply i_|apply h_);focus first|omega|(simp only[q_]<;>omega))|((with_reducible apply h_);focus first|decide|kernel_rfl)|refine s_ (by decide) ?_|refine t_ (by decide) ?_|with_reducible first|apply l_|apply m_|apply n_|apply o_|refine p_ (fun _=>?_) (fun _=>?_))<;>(conv=>whnf)))
   exact Ret.eq rfl
  ·rw[if_neg h0]
   ((conv=>whnf);repeat' ((first|(with_reducible first|apply a_|apply b_|apply c_)|((with_reducible first|apply d_|apply e_|apply f_|apply g_);focus first|omega|(simp only[q_]<;>omega))|((with_reducible first|apply i_|apply h_);focus first|omega|(simp only[q_]<;>omega))|((with_reducible apply h_);focus first|decide|kernel_rfl)|refine s_ (by decide) ?_|refine t_ (by decide) ?_|with_reducible first|apply l_|apply m_|apply n_|apply o_|refine p_ (fun _=>?_) (fun _=>?_))<;>(conv=>whnf)))
   exact Ret.eq rfl
theorem p_meant (v:ValueD):Pure Tryz.prog 83 [vV v] (.tup [pInt .i64 (meaV v).1,pInt .i64 (meaV v).2]):=by
 have p1:=p_lof (decide (v.N≠0))
 refine pure_of Tryz.func83 (by rfl) rfl (by kernel_rfl) (by rfl) ?_
 unfold meaV
 by_cases h0:v.Kind=0
 ·rw[if_pos h0]
  ((conv=>whnf);repeat' ((first|(with_reducible first|apply a_|apply b_|apply c_)|((with_reducible first|apply d_|apply e_|apply f_|apply g_);focus first|omega|(simp only[q_]<;>omega))|((with_reducible first|apply i_|apply h_);focus first|omega|(simp only[q_]<;>omega))|((with_reducible apply h_);focus first|decide|kernel_rfl)|refine s_ (by decide) ?_|refine t_ (by decide) ?_|refine r_ p1 rfl ?_|with_reducible first|apply l_|apply m_|apply n_|apply o_|refine p_ (fun _=>?_) (fun _=>?_))<;>(conv=>whnf)))
  all_goals first|exact Ret.eq rfl | (exfalso;omega)
 ·rw[if_neg h0]
  by_cases h1:v.Kind=1
  ·rw[if_pos h1]
   ((conv=>whnf);repeat' ((first|(with_reducible first|apply a_|apply b_|apply c_)|((with_reducible first|apply d_|apply e_|apply f_|apply g_);focus first|omega|(simp only[q_]<;>omega))|((with_reducible first|apply i_|apply h_);focus first|omega|(simp only[q_]<;>omega))|((with_reducible apply h_);focus first|decide|kernel_rfl)|refine s_ (by decide) ?_|refine t_ (by decide) ?_|refine r_ p1 rfl ?_|with_reducible first|apply l_|apply m_|apply n_|apply o_|refine p_ (fun _=>?_) (fun _=>?_))<;>(conv=>whnf)))
   all_goals first|exact Ret.eq rfl | (exfalso;omega)
  ·rw[if_neg h1]
   ((conv=>whnf);repeat' ((first|(with_reducible first|apply a_|apply b_|apply c_)|((with_reducible first|apply d_|apply e_|apply f_|apply g_);focus first|omega|(simp only[q_]<;>omega))|((with_reducible first|apply i_|apply h_);focus first|omega|(simp only[q_]<;>omega))|((with_reducible apply h_);focus first|decide|kernel_rfl)|refine s_ (by decide) ?_|refine t_ (by decide) ?_|refine r_ p1 rfl ?_|with_reducible first|apply l_|apply m_|apply n_|apply o_|refine p_ (fun _=>?_) (fun _=>?_))<;>(conv=>whnf)))
   all_goals first|exact Ret.eq rfl | (exfalso;omega)
theorem p_negated (op:Int):Pure Tryz.prog 101 [pInt .i64 op] (pBool (negB op)):=by
 refine pure_of Tryz.func101 (by rfl) rfl (by kernel_rfl) (by rfl) ?_
 unfold negB
 by_cases h:op=11∨op=13∨op=15∨op=19∨op=21∨op=23∨op=25
 ·rw[decide_eq_true h]
  rcases h with rfl | rfl | rfl | rfl | rfl | rfl | rfl
  all_goals
   ((conv=>whnf);repeat' ((first|(with_reducible first|apply a_|apply b_|apply c_)|((with_reducible first|apply d_|apply e_|apply f_|apply g_);focus first|omega|(simp only[q_]<;>omega))|((with_reducible first|apply i_|apply h_);focus first|omega|(simp only[q_]<;>omega))|((with_reducible apply h_);focus first|decide|kernel_rfl)|refine s_ (by decide) ?_|refine t_ (by decide) ?_|with_reducible first|apply l_|apply m_|apply n_|apply o_|refine p_ (fun _=>?_) (fun _=>?_))<;>(conv=>whnf)))
   exact Ret.bool rfl
 ·rw[decide_eq_false h]
  ((conv=>whnf);repeat' ((first|(with_reducible first|apply a_|apply b_|apply c_)|((with_reducible first|apply d_|apply e_|apply f_|apply g_);focus first|omega|(simp only[q_]<;>omega))|((with_reducible first|apply i_|apply h_);focus first|omega|(simp only[q_]<;>omega))|((with_reducible apply h_);focus first|decide|kernel_rfl)|refine s_ (by decide) ?_|refine t_ (by decide) ?_|with_reducible first|apply l_|apply m_|apply n_|apply o_|refine p_ (fun _=>?_) (fun _=>?_))<;>(conv=>whnf)))
  all_goals first|exact Ret.bool rfl | (exfalso;omega)
theorem p_counter (op:Int):Pure Tryz.prog 102 [pInt .i64 op] (pInt .i64 (couF op)):=by
 refine pure_of Tryz.func102 (by rfl) rfl (by kernel_rfl) (by rfl) ?_
 unfold couF
 by_cases h:10≤op∧op≤25
 ·have hc:op=10∨op=11∨op=12∨op=13∨op=14∨op=15∨op=16∨op=17∨op=18∨op=19∨op=20∨op=21∨op=22∨op=23∨op=24∨op=25:=by omega
  clear h
  rcases hc with rfl | rfl | rfl | rfl | rfl | rfl | rfl | rfl | rfl | rfl | rfl | rfl | rfl | rfl | rfl | rfl
  all_goals
   ((conv=>whnf);repeat' ((first|(with_reducible first|apply a_|apply b_|apply c_)|((with_reducible first|apply d_|apply e_|apply f_|apply g_);focus first|omega|(simp only[q_]<;>omega))|((with_reducible first|apply i_|apply h_);focus first|omega|(simp only[q_]<;>omega))|((with_reducible apply h_);focus first|decide|kernel_rfl)|refine s_ (by decide) ?_|refine t_ (by decide) ?_|with_reducible first|apply l_|apply m_|apply n_|apply o_|refine p_ (fun _=>?_) (fun _=>?_))<;>(conv=>whnf)))
   exact Ret.int rfl
 ·rw[if_neg (by omega),if_neg (by omega),if_neg (by omega)]
  ((conv=>whnf);repeat' ((first|(with_reducible first|apply a_|apply b_|apply c_)|((with_reducible first|apply d_|apply e_|apply f_|apply g_);focus first|omega|(simp only[q_]<;>omega))|((with_reducible first|apply i_|apply h_);focus first|omega|(simp only[q_]<;>omega))|((with_reducible apply h_);focus first|decide|kernel_rfl)|refine s_ (by decide) ?_|refine t_ (by decide) ?_|with_reducible first|apply l_|apply m_|apply n_|apply o_|refine p_ (fun _=>?_) (fun _=>?_))<;>(conv=>whnf)))
  all_goals first|exact Ret.int rfl | (exfalso;omega)
end
section
open Go.RowKit K
set_option maxRecDepth 100000
theorem p_numbers (k:List ValueD) (hl:k.length≤140737488355328):Pure Tryz.prog 112 [slV 3 ValueD.c k] (.tup [pBool (numV k).1,pInt .i64 (numV k).2]):=by
 refine pure_of Tryz.func112 (by rfl) rfl (by kernel_rfl) (by rfl) ?_
 ((conv=>whnf);repeat' ((first|(with_reducible first|apply a_|apply b_|apply c_)|((with_reducible first|apply d_|apply e_|apply f_|apply g_);focus first|omega|(simp only[q_]<;>omega))|((with_reducible first|apply i_|apply h_);focus first|omega|(simp only[q_]<;>omega))|((with_reducible apply h_);focus first|decide|kernel_rfl)|refine s_ (by decide) ?_|refine t_ (by decide) ?_|with_reducible first|apply l_|apply m_|apply n_|apply o_|refine p_ (fun _=>?_) (fun _=>?_))<;>(conv=>whnf)))
 refine LoopC.mk Nat (fun j=>[(2,pBool (numV (k.take j)).1),(3,pInt .i64 (numV (k.take j)).2),(6,slV 3 ValueD.c k),(7,pInt .i64 k.length),(8,pInt .i64 j)]) (fun _=>[]) [] (fun j=>j≤k.length) (fun j=>k.length - j) 0 (Nat.zero_le _) ?start ?round
 case start=>exact⟨[],rfl,rfl,⟨.inl rfl,.inl rfl,.inl rfl,PLe.int (by simp),.inl rfl,trivial⟩,trivial⟩
 case round=>
  intro j hj
  by_cases h1:j<k.length
  ·have e1:(numV (k.take (j+1))).1=((numV (k.take j)).1||isN k[j]):=by
    show (k.take (j+1)).any isN=_
    rw[take_snoc h1,List.any_append];simp[numV]
   have e2:(numV (k.take (j+1))).2=if isTB k[j] then 7 else (numV (k.take j)).2:=by
    show (if (k.take (j+1)).any isTB then (7:Int) else 0)=if _ then 7 else (if (k.take j).any isTB then 7 else 0)
    rw[take_snoc h1,List.any_append]
    cases (k.take j).any isTB<;>cases q:isTB k[j]<;>simp[q]
   by_cases c0:k[j].Kind=0
   ·have a1:isN k[j]=true:=decide_eq_true c0
    have a2:isTB k[j]=false:=decide_eq_false (by omega)
    rw[a1,Bool.or_true] at e1
    rw[a2] at e2
    ((conv=>whnf);repeat' ((first|(with_reducible first|apply a_|apply b_|apply c_)|((with_reducible first|apply d_|apply e_|apply f_|apply g_);focus first|omega|(simp only[q_]<;>omega))|((with_reducible first|apply i_|apply h_);focus first|omega|(simp only[q_]<;>omega))|((with_reducible apply h_);focus first|decide|kernel_rfl)|refine s_ (by decide) ?_|refine t_ (by decide) ?_|(refine Idx.mapI j rfl h1 ?_)|with_reducible first|apply l_|apply m_|apply n_|apply o_|refine p_ (fun _=>?_) (fun _=>?_))<;>(conv=>whnf)))
    exact⟨j+1,by omega,by omega,[],rfl,rfl,⟨PLe.bool e1.symm,PLe.int e2.symm,.inl rfl,.inl rfl,PLe.int rfl,trivial⟩,trivial⟩
   ·have a1:isN k[j]=false:=decide_eq_false c0
    rw[a1,Bool.or_false] at e1
    by_cases c2:k[j].Kind=2∨k[j].Kind=3
    ·have a2:isTB k[j]=true:=decide_eq_true c2
     rw[a2] at e2
     ((conv=>whnf);repeat' ((first|(with_reducible first|apply a_|apply b_|apply c_)|((with_reducible first|apply d_|apply e_|apply f_|apply g_);focus first|omega|(simp only[q_]<;>omega))|((with_reducible first|apply i_|apply h_);focus first|omega|(simp only[q_]<;>omega))|((with_reducible apply h_);focus first|decide|kernel_rfl)|refine s_ (by decide) ?_|refine t_ (by decide) ?_|(refine Idx.mapI j rfl h1 ?_)|with_reducible first|apply l_|apply m_|apply n_|apply o_|refine p_ (fun _=>?_) (fun _=>?_))<;>(conv=>whnf)))
     all_goals first|exact⟨j+1,by omega,by omega,[],rfl,rfl,⟨PLe.bool e1.symm,PLe.int e2.symm,.inl rfl,.inl rfl,PLe.int rfl,trivial⟩,trivial⟩ | (exfalso;omega)
    ·have a2:isTB k[j]=false:=decide_eq_false c2
     rw[a2] at e2
     ((conv=>whnf);repeat' ((first|(with_reducible first|apply a_|apply b_|apply c_)|((with_reducible first|apply d_|apply e_|apply f_|apply g_);focus first|omega|(simp only[q_]<;>omega))|((with_reducible first|apply i_|apply h_);focus first|omega|(simp only[q_]<;>omega))|((with_reducible apply h_);focus first|decide|kernel_rfl)|refine s_ (by decide) ?_|refine t_ (by decide) ?_|(refine Idx.mapI j rfl h1 ?_)|with_reducible first|apply l_|apply m_|apply n_|apply o_|refine p_ (fun _=>?_) (fun _=>?_))<;>(conv=>whnf)))
     all_goals first|exact⟨j+1,by omega,by omega,[],rfl,rfl,⟨PLe.bool e1.symm,PLe.int e2.symm,.inl rfl,.inl rfl,PLe.int rfl,trivial⟩,trivial⟩ | (exfalso;omega)
  ·rw[List.take_of_length_le (by omega)]
   ((conv=>whnf);repeat' ((first|(with_reducible first|apply a_|apply b_|apply c_)|((with_reducible first|apply d_|apply e_|apply f_|apply g_);focus first|omega|(simp only[q_]<;>omega))|((with_reducible first|apply i_|apply h_);focus first|omega|(simp only[q_]<;>omega))|((with_reducible apply h_);focus first|decide|kernel_rfl)|refine s_ (by decide) ?_|refine t_ (by decide) ?_|with_reducible first|apply l_|apply m_|apply n_|apply o_|refine p_ (fun _=>?_) (fun _=>?_))<;>(conv=>whnf)))
   exact Ret.eq rfl
end
section
open Go.RowKit LikeP
end
section
open Go.RowKit LikeP
theorem p_match (p s:ByteArray):Pure Tryz.prog 134 [pStr p,pStr s] (.tup [pBool (matB p s),pInt .i64 (matE p s)]):=by
 refine pure_hand (vs:=[.string p,.string s]) ⟨_,Tryz.func134,by rfl,by rfl⟩ fun w hG=>?_
 refine (match_any p s w hG).mono ?_
 rintro e w' ⟨rfl,hb⟩
 refine⟨_,rfl,hb,fun F _=>?_⟩
 unfold PRep
 exact⟨[_,_],rfl,by unfold PsRep;exact⟨rep_bool _,by unfold PsRep;exact⟨rep_int _ _,by unfold PsRep;trivial⟩⟩⟩
end
section
open Go.RowKit K
set_option maxRecDepth 100000
theorem p_liken (k:List ValueD) (hl:k.length=2):Pure Tryz.prog 118 [slV 3 ValueD.c k] (.tup [pInt .i64 (likV k).1,pInt .i64 (likV k).2]):=by
 have l0:0<k.length:=by omega
 have l1:1<k.length:=by omega
 have pm:=p_match (tx k[1].S) (tx k[0].S)
 have po:=p_lof (LikeP.matB (tx k[1].S) (tx k[0].S))
 have g0:k.getD 0 noV=k[0]:=by rw[List.getD_eq_getElem?_getD,List.getElem?_eq_getElem l0];rfl
 have g1:k.getD 1 noV=k[1]:=by rw[List.getD_eq_getElem?_getD,List.getElem?_eq_getElem l1];rfl
 refine pure_of Tryz.func118 (by rfl) rfl (by kernel_rfl) (by rfl) ?_
 ((conv=>whnf);repeat' ((first|(with_reducible first|apply a_|apply b_|apply c_)|((with_reducible first|apply d_|apply e_|apply f_|apply g_);focus first|omega|(simp only[q_]<;>omega))|((with_reducible first|apply i_|apply h_);focus first|omega|(simp only[q_]<;>omega))|((with_reducible apply h_);focus first|decide|kernel_rfl)|refine s_ (by decide) ?_|refine t_ (by decide) ?_|with_reducible first|apply l_|apply m_|apply n_|apply o_|refine p_ (fun _=>?_) (fun _=>?_))<;>(conv=>whnf)))
 refine LoopC.mk Nat (fun j=>[(0,slV 3 ValueD.c k),(4,pInt .i64 (if (k.take j).any isN then 1 else 2)),(9,slV 3 ValueD.c k),(10,pInt .i64 k.length),(11,pInt .i64 j)]) (fun _=>[]) [] (fun j=>j≤k.length∧(k.take j).any isIB=false) (fun j=>k.length - j) 0 ⟨Nat.zero_le _,rfl⟩ ?start ?round
 case start=>exact⟨[],rfl,rfl,⟨.inl rfl,.inl rfl,.inl rfl,PLe.int (by simp),.inl rfl,trivial⟩,trivial⟩
 case round=>
  rintro j ⟨hj,hb⟩
  have hj:j≤k.length:=hj
  by_cases h1:j<k.length
  ·have e1:(k.take (j+1)).any isN=((k.take j).any isN||isN k[j]):=by rw[take_snoc h1,List.any_append];simp
   have e2:(k.take (j+1)).any isIB=isIB k[j]:=by rw[take_snoc h1,List.any_append,hb];simp
   by_cases c1:k[j].Kind=1∨k[j].Kind=3
   ·have hk:likV k=(0,7):=by
     unfold likV
     rw[if_pos (List.any_eq_true.2 ⟨k[j],List.getElem_mem h1,decide_eq_true c1⟩)]
    rw[hk]
    ((conv=>whnf);repeat' ((first|(with_reducible first|apply a_|apply b_|apply c_)|((with_reducible first|apply d_|apply e_|apply f_|apply g_);focus first|omega|(simp only[q_]<;>omega))|((with_reducible first|apply i_|apply h_);focus first|omega|(simp only[q_]<;>omega))|((with_reducible apply h_);focus first|decide|kernel_rfl)|refine s_ (by decide) ?_|refine t_ (by decide) ?_|(refine Idx.mapI j rfl h1 ?_)|with_reducible first|apply l_|apply m_|apply n_|apply o_|refine p_ (fun _=>?_) (fun _=>?_))<;>(conv=>whnf)))
    all_goals first|exact Ret.eq rfl | (exfalso;omega)
   ·have a2:isIB k[j]=false:=decide_eq_false c1
    rw[a2] at e2
    by_cases c0:k[j].Kind=0
    ·have a1:isN k[j]=true:=decide_eq_true c0
     rw[a1,Bool.or_true] at e1
     ((conv=>whnf);repeat' ((first|(with_reducible first|apply a_|apply b_|apply c_)|((with_reducible first|apply d_|apply e_|apply f_|apply g_);focus first|omega|(simp only[q_]<;>omega))|((with_reducible first|apply i_|apply h_);focus first|omega|(simp only[q_]<;>omega))|((with_reducible apply h_);focus first|decide|kernel_rfl)|refine s_ (by decide) ?_|refine t_ (by decide) ?_|(refine Idx.mapI j rfl h1 ?_)|with_reducible first|apply l_|apply m_|apply n_|apply o_|refine p_ (fun _=>?_) (fun _=>?_))<;>(conv=>whnf)))
     all_goals first|exact⟨j+1,⟨by omega,e2⟩,by omega,[],rfl,rfl,⟨.inl rfl,PLe.int (by rw[e1];rfl),.inl rfl,.inl rfl,PLe.int rfl,trivial⟩,trivial⟩ | (exfalso;omega)
    ·have a1:isN k[j]=false:=decide_eq_false c0
     rw[a1,Bool.or_false] at e1
     ((conv=>whnf);repeat' ((first|(with_reducible first|apply a_|apply b_|apply c_)|((with_reducible first|apply d_|apply e_|apply f_|apply g_);focus first|omega|(simp only[q_]<;>omega))|((with_reducible first|apply i_|apply h_);focus first|omega|(simp only[q_]<;>omega))|((with_reducible apply h_);focus first|decide|kernel_rfl)|refine s_ (by decide) ?_|refine t_ (by decide) ?_|(refine Idx.mapI j rfl h1 ?_)|with_reducible first|apply l_|apply m_|apply n_|apply o_|refine p_ (fun _=>?_) (fun _=>?_))<;>(conv=>whnf)))
     all_goals first|exact⟨j+1,⟨by omega,e2⟩,by omega,[],rfl,rfl,⟨.inl rfl,PLe.int (by rw[e1]),.inl rfl,.inl rfl,PLe.int rfl,trivial⟩,trivial⟩ | (exfalso;omega)
  ·rw[List.take_of_length_le (by omega)] at hb
   rw[List.take_of_length_le (by omega)]
   cases hN:k.any isN with
   | true=>
    have hk:likV k=(1,0):=by unfold likV;rw[hb,hN];rfl
    rw[hk]
    ((conv=>whnf);repeat' ((first|(with_reducible first|apply a_|apply b_|apply c_)|((with_reducible first|apply d_|apply e_|apply f_|apply g_);focus first|omega|(simp only[q_]<;>omega))|((with_reducible first|apply i_|apply h_);focus first|omega|(simp only[q_]<;>omega))|((with_reducible apply h_);focus first|decide|kernel_rfl)|refine s_ (by decide) ?_|refine t_ (by decide) ?_|with_reducible first|apply l_|apply m_|apply n_|apply o_|refine p_ (fun _=>?_) (fun _=>?_))<;>(conv=>whnf)))
    all_goals exact Ret.eq rfl
   | false=>
    have hk:likV k=(tOf (LikeP.matB (tx k[1].S) (tx k[0].S)),LikeP.matE (tx k[1].S) (tx k[0].S)):=by unfold likV;rw[hb,hN,g0,g1];rfl
    rw[hk]
    ((conv=>whnf);repeat' ((first|(with_reducible first|apply a_|apply b_|apply c_)|((with_reducible first|apply d_|apply e_|apply f_|apply g_);focus first|omega|(simp only[q_]<;>omega))|((with_reducible first|apply i_|apply h_);focus first|omega|(simp only[q_]<;>omega))|((with_reducible apply h_);focus first|decide|kernel_rfl)|refine s_ (by decide) ?_|refine t_ (by decide) ?_|(refine Idx.mapI 1 rfl l1 ?_)|(refine Idx.mapI 0 rfl l0 ?_)|refine r_ pm rfl ?_|refine r_ po rfl ?_|with_reducible first|apply l_|apply m_|apply n_|apply o_|refine p_ (fun _=>?_) (fun _=>?_))<;>(conv=>whnf)))
    all_goals exact Ret.eq rfl
end
section
open Go.RowKit K WholeP
set_option maxRecDepth 100000
def pFit (r:Int×Int):PV:=.tup [pInt .i64 r.1,pInt .i64 r.2]
theorem rep_pair {σ:Sg} {F:Fzn} {w:World} (r:Int×Int):PRep σ F w (pFit r) (pair r):=by
 unfold pFit PRep
 exact⟨[_,_],rfl,by unfold PsRep;exact⟨rep_int _ _,by unfold PsRep;exact⟨rep_int _ _,by unfold PsRep;trivial⟩⟩⟩
theorem pure_fit {f:FuncId} {a b:Int} {r:Int×Int} (hf:fnOk Tryz.prog f) (h:∀w:World,Calls Tryz.prog f #[.int .i64 a,.int .i64 b] w fun e w'=>e=.returned (pair r)∧w=w'):Pure Tryz.prog f [pInt .i64 a,pInt .i64 b] (pFit r):=by
 refine pure_hand (vs:=[.int .i64 a,.int .i64 b]) hf fun w hG=>?_
 refine (h w).mono ?_
 rintro e w' ⟨rfl,rfl⟩
 refine⟨_,rfl,Below.refl _ _,fun F hF=>?_⟩
 exact rep_pair _
theorem p_wadd (a b:Int) (ha:In64 a) (hb:In64 b):Pure Tryz.prog 122 [pInt .i64 a,pInt .i64 b] (pFit (fit (a+b))):=pure_fit ⟨_,Tryz.func122,by rfl,by rfl⟩ (add_any a b ha hb)
theorem p_wsub (a b:Int) (ha:In64 a) (hb:In64 b):Pure Tryz.prog 123 [pInt .i64 a,pInt .i64 b] (pFit (fit (a - b))):=pure_fit ⟨_,Tryz.func123,by rfl,by rfl⟩ (sub_any a b ha hb)
theorem p_wmul (a b:Int) (ha:In64 a) (hb:In64 b):Pure Tryz.prog 124 [pInt .i64 a,pInt .i64 b] (pFit (fit (a*b))):=pure_fit ⟨_,Tryz.func124,by rfl,by rfl⟩ (mul_any a b ha hb)
theorem p_wdiv (a b:Int) (ha:In64 a) (hb:In64 b):Pure Tryz.prog 125 [pInt .i64 a,pInt .i64 b] (pFit (quo a b)):=pure_fit ⟨_,Tryz.func125,by rfl,by rfl⟩ (div_any a b ha hb)
theorem p_wmod (a b:Int) (ha:In64 a) (hb:In64 b):Pure Tryz.prog 126 [pInt .i64 a,pInt .i64 b] (pFit (rem a b)):=pure_fit ⟨_,Tryz.func126,by rfl,by rfl⟩ (mod_any a b ha hb)
theorem p_wneg (a:Int) (ha:In64 a):Pure Tryz.prog 128 [pInt .i64 a] (pFit (fit (-a))):=by
 refine pure_hand (vs:=[.int .i64 a]) ⟨_,Tryz.func128,by rfl,by rfl⟩ fun w hG=>?_
 refine (neg_any a ha w).mono ?_
 rintro e w' ⟨rfl,rfl⟩
 exact⟨_,rfl,Below.refl _ _,fun F hF=>rep_pair _⟩
end
section
open Go.RowKit K
set_option maxRecDepth 100000
theorem p_reck5:Pure Tryz.prog 113 [pInt .i64 5] (fnV 122):=by
 refine pure_of Tryz.func113 (by rfl) rfl (by kernel_rfl) (by rfl) ?_
 ((conv=>whnf);repeat' ((first|(with_reducible first|apply a_|apply b_|apply c_)|((with_reducible first|apply d_|apply e_|apply f_|apply g_);focus first|omega|(simp only[q_]<;>omega))|((with_reducible first|apply i_|apply h_);focus first|omega|(simp only[q_]<;>omega))|((with_reducible apply h_);focus first|decide|kernel_rfl)|refine s_ (by decide) ?_|refine t_ (by decide) ?_|with_reducible first|apply l_|apply m_|apply n_|apply o_|refine p_ (fun _=>?_) (fun _=>?_))<;>(conv=>whnf)))
 exact Ret.eq rfl
theorem p_reck6:Pure Tryz.prog 113 [pInt .i64 6] (fnV 123):=by
 refine pure_of Tryz.func113 (by rfl) rfl (by kernel_rfl) (by rfl) ?_
 ((conv=>whnf);repeat' ((first|(with_reducible first|apply a_|apply b_|apply c_)|((with_reducible first|apply d_|apply e_|apply f_|apply g_);focus first|omega|(simp only[q_]<;>omega))|((with_reducible first|apply i_|apply h_);focus first|omega|(simp only[q_]<;>omega))|((with_reducible apply h_);focus first|decide|kernel_rfl)|refine s_ (by decide) ?_|refine t_ (by decide) ?_|with_reducible first|apply l_|apply m_|apply n_|apply o_|refine p_ (fun _=>?_) (fun _=>?_))<;>(conv=>whnf)))
 exact Ret.eq rfl
theorem p_reck7:Pure Tryz.prog 113 [pInt .i64 7] (fnV 124):=by
 refine pure_of Tryz.func113 (by rfl) rfl (by kernel_rfl) (by rfl) ?_
 ((conv=>whnf);repeat' ((first|(with_reducible first|apply a_|apply b_|apply c_)|((with_reducible first|apply d_|apply e_|apply f_|apply g_);focus first|omega|(simp only[q_]<;>omega))|((with_reducible first|apply i_|apply h_);focus first|omega|(simp only[q_]<;>omega))|((with_reducible apply h_);focus first|decide|kernel_rfl)|refine s_ (by decide) ?_|refine t_ (by decide) ?_|with_reducible first|apply l_|apply m_|apply n_|apply o_|refine p_ (fun _=>?_) (fun _=>?_))<;>(conv=>whnf)))
 exact Ret.eq rfl
theorem p_reck8:Pure Tryz.prog 113 [pInt .i64 8] (fnV 125):=by
 refine pure_of Tryz.func113 (by rfl) rfl (by kernel_rfl) (by rfl) ?_
 ((conv=>whnf);repeat' ((first|(with_reducible first|apply a_|apply b_|apply c_)|((with_reducible first|apply d_|apply e_|apply f_|apply g_);focus first|omega|(simp only[q_]<;>omega))|((with_reducible first|apply i_|apply h_);focus first|omega|(simp only[q_]<;>omega))|((with_reducible apply h_);focus first|decide|kernel_rfl)|refine s_ (by decide) ?_|refine t_ (by decide) ?_|with_reducible first|apply l_|apply m_|apply n_|apply o_|refine p_ (fun _=>?_) (fun _=>?_))<;>(conv=>whnf)))
 exact Ret.eq rfl
theorem p_reck9:Pure Tryz.prog 113 [pInt .i64 9] (fnV 126):=by
 refine pure_of Tryz.func113 (by rfl) rfl (by kernel_rfl) (by rfl) ?_
 ((conv=>whnf);repeat' ((first|(with_reducible first|apply a_|apply b_|apply c_)|((with_reducible first|apply d_|apply e_|apply f_|apply g_);focus first|omega|(simp only[q_]<;>omega))|((with_reducible first|apply i_|apply h_);focus first|omega|(simp only[q_]<;>omega))|((with_reducible apply h_);focus first|decide|kernel_rfl)|refine s_ (by decide) ?_|refine t_ (by decide) ?_|with_reducible first|apply l_|apply m_|apply n_|apply o_|refine p_ (fun _=>?_) (fun _=>?_))<;>(conv=>whnf)))
 exact Ret.eq rfl
theorem p_reck3:Pure Tryz.prog 113 [pInt .i64 3] (fnV 127):=by
 refine pure_of Tryz.func113 (by rfl) rfl (by kernel_rfl) (by rfl) ?_
 ((conv=>whnf);repeat' ((first|(with_reducible first|apply a_|apply b_|apply c_)|((with_reducible first|apply d_|apply e_|apply f_|apply g_);focus first|omega|(simp only[q_]<;>omega))|((with_reducible first|apply i_|apply h_);focus first|omega|(simp only[q_]<;>omega))|((with_reducible apply h_);focus first|decide|kernel_rfl)|refine s_ (by decide) ?_|refine t_ (by decide) ?_|with_reducible first|apply l_|apply m_|apply n_|apply o_|refine p_ (fun _=>?_) (fun _=>?_))<;>(conv=>whnf)))
 exact Ret.eq rfl
theorem p_reckneg (a b:Int) (ha:WholeP.In64 a):Pure Tryz.prog 127 [pInt .i64 a,pInt .i64 b] (pFit (WholeP.fit (-a))):=by
 have pn:=p_wneg a ha
 refine pure_of Tryz.func127 (by rfl) rfl (by kernel_rfl) (by rfl) ?_
 ((conv=>whnf);repeat' ((first|(with_reducible first|apply a_|apply b_|apply c_)|((with_reducible first|apply d_|apply e_|apply f_|apply g_);focus first|omega|(simp only[q_]<;>omega))|((with_reducible first|apply i_|apply h_);focus first|omega|(simp only[q_]<;>omega))|((with_reducible apply h_);focus first|decide|kernel_rfl)|refine s_ (by decide) ?_|refine t_ (by decide) ?_|refine r_ pn rfl ?_|with_reducible first|apply l_|apply m_|apply n_|apply o_|refine p_ (fun _=>?_) (fun _=>?_))<;>(conv=>whnf)))
 all_goals exact Ret.eq rfl
end
section
open Go.RowKit K
set_option maxRecDepth 100000
theorem p_reckon_of (op:Int) (f:FuncId) (pr:Pure Tryz.prog 113 [pInt .i64 op] (fnV f)) (pf:∀a b:Int,WholeP.In64 a→WholeP.In64 b→Pure Tryz.prog f [pInt .i64 a,pInt .i64 b] (pFit (whoF op a b))) (k:List ValueD) (h0:0<k.length) (hl:k.length≤1000) (hin:∀v∈k,WholeP.In64 v.N) :
  Pure Tryz.prog 100 [pInt .i64 op,slV 3 ValueD.c k] (.tup [vV (recV op k).1,pInt .i64 (recV op k).2]):=by
 have pn:=p_numbers k (by omega)
 have l1:k.length - 1<k.length:=by omega
 have e0:k.headD noV=k[0]:=by cases k with
  | nil=>simp at h0
  | cons x k=>rfl
 have e1:k.getLastD noV=k[k.length - 1]:=by
  rw[List.getLastD_eq_getLast?,List.getLast?_eq_getElem?,List.getElem?_eq_getElem l1];rfl
 have ei:(((k.map ValueD.c).length:Nat):Int) - 1=((k.length - 1:Nat):Int):=by rw[List.length_map];omega
 have pw:=pf k[0].N k[k.length - 1].N (hin _ (List.getElem_mem _)) (hin _ (List.getElem_mem _))
 refine pure_of Tryz.func100 (by rfl) rfl (by kernel_rfl) (by rfl) ?_
 unfold recV
 rw[e0,e1]
 unfold numV at pn
 cases hT:k.any isTB with
 | true=>
  rw[hT] at pn
  cases hN:k.any isN<;>rw[hN] at pn
  ·((conv=>whnf);repeat' ((first|(with_reducible first|apply a_|apply b_|apply c_)|((with_reducible first|apply d_|apply e_|apply f_|apply g_);focus first|omega|(simp only[q_]<;>omega))|((with_reducible first|apply i_|apply h_);focus first|omega|(simp only[q_]<;>omega))|((with_reducible apply h_);focus first|decide|kernel_rfl)|refine s_ (by decide) ?_|refine t_ (by decide) ?_|refine r_ pn rfl ?_|with_reducible first|apply l_|apply m_|apply n_|apply o_|refine p_ (fun _=>?_) (fun _=>?_))<;>(conv=>whnf)))
   all_goals exact Ret.eq rfl
  ·((conv=>whnf);repeat' ((first|(with_reducible first|apply a_|apply b_|apply c_)|((with_reducible first|apply d_|apply e_|apply f_|apply g_);focus first|omega|(simp only[q_]<;>omega))|((with_reducible first|apply i_|apply h_);focus first|omega|(simp only[q_]<;>omega))|((with_reducible apply h_);focus first|decide|kernel_rfl)|refine s_ (by decide) ?_|refine t_ (by decide) ?_|refine r_ pn rfl ?_|with_reducible first|apply l_|apply m_|apply n_|apply o_|refine p_ (fun _=>?_) (fun _=>?_))<;>(conv=>whnf)))
   all_goals exact Ret.eq rfl
 | false=>
  rw[hT] at pn
  cases hN:k.any isN<;>rw[hN] at pn
  ·by_cases he:(whoF op k[0].N k[k.length - 1].N).2=0
   ·rw[if_neg (by simp),if_neg (by simp),if_neg (by simp[he])]
    ((conv=>whnf);repeat' ((first|(with_reducible first|apply a_|apply b_|apply c_)|((with_reducible first|apply d_|apply e_|apply f_|apply g_);focus first|omega|(simp only[q_]<;>omega))|((with_reducible first|apply i_|apply h_);focus first|omega|(simp only[q_]<;>omega))|((with_reducible apply h_);focus first|decide|kernel_rfl)|refine s_ (by decide) ?_|refine t_ (by decide) ?_|refine r_ pn rfl ?_|refine r_ pr rfl ?_|(refine Idx.mapI 0 rfl h0 ?_)|(refine Idx.mapI (k.length - 1) ei l1 ?_)|refine r_ pw rfl ?_|with_reducible first|apply l_|apply m_|apply n_|apply o_|refine p_ (fun _=>?_) (fun _=>?_))<;>(conv=>whnf)))
    all_goals first|exact Ret.eq rfl | (exfalso;omega)
   ·rw[if_neg (by simp),if_neg (by simp),if_pos he]
    ((conv=>whnf);repeat' ((first|(with_reducible first|apply a_|apply b_|apply c_)|((with_reducible first|apply d_|apply e_|apply f_|apply g_);focus first|omega|(simp only[q_]<;>omega))|((with_reducible first|apply i_|apply h_);focus first|omega|(simp only[q_]<;>omega))|((with_reducible apply h_);focus first|decide|kernel_rfl)|refine s_ (by decide) ?_|refine t_ (by decide) ?_|refine r_ pn rfl ?_|refine r_ pr rfl ?_|(refine Idx.mapI 0 rfl h0 ?_)|(refine Idx.mapI (k.length - 1) ei l1 ?_)|refine r_ pw rfl ?_|with_reducible first|apply l_|apply m_|apply n_|apply o_|refine p_ (fun _=>?_) (fun _=>?_))<;>(conv=>whnf)))
    all_goals first|exact Ret.eq rfl | (exfalso;omega)
  ·((conv=>whnf);repeat' ((first|(with_reducible first|apply a_|apply b_|apply c_)|((with_reducible first|apply d_|apply e_|apply f_|apply g_);focus first|omega|(simp only[q_]<;>omega))|((with_reducible first|apply i_|apply h_);focus first|omega|(simp only[q_]<;>omega))|((with_reducible apply h_);focus first|decide|kernel_rfl)|refine s_ (by decide) ?_|refine t_ (by decide) ?_|refine r_ pn rfl ?_|with_reducible first|apply l_|apply m_|apply n_|apply o_|refine p_ (fun _=>?_) (fun _=>?_))<;>(conv=>whnf)))
   all_goals exact Ret.eq rfl
end
section
open Go.RowKit K
set_option maxRecDepth 100000
theorem mea_err {v:ValueD} (h:(meaV v).2≠0):(meaV v).2=7:=by
 unfold meaV at h ⊢
 split
 ·rename_i q;rw[if_pos q] at h;exact absurd rfl h
 ·rename_i q
  rw[if_neg q] at h
  split
  ·rename_i r;rw[if_pos r] at h;exact absurd rfl h
  ·rfl
theorem p_join (op:Int) (k:List ValueD) (h0:0<k.length) (hl:k.length≤1000):Pure Tryz.prog 119 [pInt .i64 op,slV 3 ValueD.c k] (.tup [pInt .i64 (joiV op k).1,pInt .i64 (joiV op k).2]):=by
 have hlm:0<(k.map fun v=>(meaV v).1).length:=by rw[List.length_map];exact h0
 have eh:(k.map fun v=>(meaV v).1).headD 0=(k.map fun v=>(meaV v).1)[0]:=by cases k with
  | nil=>simp at h0
  | cons x k=>rfl
 have pa:=p_lall (k.map fun v=>(meaV v).1) (by rw[List.length_map];omega)
 have py:=p_lany (k.map fun v=>(meaV v).1) (by rw[List.length_map];omega)
 have pn:=p_lnot (k.map fun v=>(meaV v).1)[0]
 refine pure_of Tryz.func119 (by rfl) rfl (by kernel_rfl) (by rfl) ?_
 ((conv=>whnf);repeat' ((first|(with_reducible first|apply a_|apply b_|apply c_)|((with_reducible first|apply d_|apply e_|apply f_|apply g_);focus first|omega|(simp only[q_]<;>omega))|((with_reducible first|apply i_|apply h_);focus first|omega|(simp only[q_]<;>omega))|((with_reducible apply h_);focus first|decide|kernel_rfl)|refine s_ (by decide) ?_|refine t_ (by decide) ?_|with_reducible first|apply l_|apply m_|apply n_|apply o_|refine p_ (fun _=>?_) (fun _=>?_))<;>(conv=>whnf)))
 refine LoopC.mk Nat (fun j=>[(0,pInt .i64 op),(6,.d (.app 60 3 1 (((k.take j).map fun v=>(meaV v).1).map eInt))),(11,slV 3 ValueD.c k),(12,pInt .i64 k.length),(13,pInt .i64 j)]) (fun _=>[(60,.tail 3 1)]) [60] (fun j=>j≤k.length∧(k.take j).any (fun v=>decide ((meaV v).2≠0))=false) (fun j=>k.length - j) 0 ⟨Nat.zero_le _,rfl⟩ ?start ?round
 case start=>exact⟨[],rfl,rfl,⟨.inl rfl,⟨rfl,rfl,Nat.zero_lt_succ _,rfl,rfl⟩,.inl rfl,PLe.int (by simp),.inl rfl,trivial⟩,⟨rfl,Nat.zero_lt_succ _⟩,trivial⟩
 case round=>
  rintro j ⟨hj,hb⟩
  have hj:j≤k.length:=hj
  by_cases h1:j<k.length
  ·have pm:=p_meant k[j]
   by_cases he:(meaV k[j]).2=0
   ·rw[he] at pm
    ((conv=>whnf);repeat' ((first|(with_reducible first|apply a_|apply b_|apply c_)|((with_reducible first|apply d_|apply e_|apply f_|apply g_);focus first|omega|(simp only[q_]<;>omega))|((with_reducible first|apply i_|apply h_);focus first|omega|(simp only[q_]<;>omega))|((with_reducible apply h_);focus first|decide|kernel_rfl)|refine s_ (by decide) ?_|refine t_ (by decide) ?_|(refine Idx.mapI j rfl h1 ?_)|refine r_ pm rfl ?_|(refine Need.by 8 rfl (by simp only[List.length_map,List.length_take,List.length_singleton];omega) ?_)|with_reducible first|apply l_|apply m_|apply n_|apply o_|refine p_ (fun _=>?_) (fun _=>?_))<;>(conv=>whnf)))
    refine⟨j+1,⟨by omega,?_⟩,by omega,[(60,28)],rfl,rfl,⟨.inl rfl,⟨rfl,rfl,rfl,rfl,by rw[take_snoc h1,List.map_append,List.map_append];rfl⟩,.inl rfl,.inl rfl,PLe.int rfl,trivial⟩,⟨rfl,rfl,rfl⟩,trivial⟩
    rw[take_snoc h1,List.any_append,hb];simp[he]
   ·have hk:joiV op k=(0,7):=by
     unfold joiV
     rw[if_pos (List.any_eq_true.2 ⟨k[j],List.getElem_mem h1,decide_eq_true he⟩)]
    rw[hk]
    rw[mea_err he] at pm
    ((conv=>whnf);repeat' ((first|(with_reducible first|apply a_|apply b_|apply c_)|((with_reducible first|apply d_|apply e_|apply f_|apply g_);focus first|omega|(simp only[q_]<;>omega))|((with_reducible first|apply i_|apply h_);focus first|omega|(simp only[q_]<;>omega))|((with_reducible apply h_);focus first|decide|kernel_rfl)|refine s_ (by decide) ?_|refine t_ (by decide) ?_|(refine Idx.mapI j rfl h1 ?_)|refine r_ pm rfl ?_|with_reducible first|apply l_|apply m_|apply n_|apply o_|refine p_ (fun _=>?_) (fun _=>?_))<;>(conv=>whnf)))
    all_goals exact Ret.eq rfl
  ·rw[List.take_of_length_le (by omega)] at hb
   rw[List.take_of_length_le (by omega)]
   unfold joiV
   rw[hb,if_neg (by simp),eh]
   by_cases h16:op=16
   ·rw[if_pos h16]
    ((conv=>whnf);repeat' ((first|(with_reducible first|apply a_|apply b_|apply c_)|((with_reducible first|apply d_|apply e_|apply f_|apply g_);focus first|omega|(simp only[q_]<;>omega))|((with_reducible first|apply i_|apply h_);focus first|omega|(simp only[q_]<;>omega))|((with_reducible apply h_);focus first|decide|kernel_rfl)|refine s_ (by decide) ?_|refine t_ (by decide) ?_|refine r_ pa rfl ?_|with_reducible first|apply l_|apply m_|apply n_|apply o_|refine p_ (fun _=>?_) (fun _=>?_))<;>(conv=>whnf)))
    all_goals first|exact Ret.eq rfl | (exfalso;omega)
   ·rw[if_neg h16]
    by_cases h17:op=17
    ·rw[if_pos h17]
     ((conv=>whnf);repeat' ((first|(with_reducible first|apply a_|apply b_|apply c_)|((with_reducible first|apply d_|apply e_|apply f_|apply g_);focus first|omega|(simp only[q_]<;>omega))|((with_reducible first|apply i_|apply h_);focus first|omega|(simp only[q_]<;>omega))|((with_reducible apply h_);focus first|decide|kernel_rfl)|refine s_ (by decide) ?_|refine t_ (by decide) ?_|refine r_ py rfl ?_|with_reducible first|apply l_|apply m_|apply n_|apply o_|refine p_ (fun _=>?_) (fun _=>?_))<;>(conv=>whnf)))
     all_goals first|exact Ret.eq rfl | (exfalso;omega)
    ·rw[if_neg h17]
     ((conv=>whnf);repeat' ((first|(with_reducible first|apply a_|apply b_|apply c_)|((with_reducible first|apply d_|apply e_|apply f_|apply g_);focus first|omega|(simp only[q_]<;>omega))|((with_reducible first|apply i_|apply h_);focus first|omega|(simp only[q_]<;>omega))|((with_reducible apply h_);focus first|decide|kernel_rfl)|refine s_ (by decide) ?_|refine t_ (by decide) ?_|(refine Idx.mapI 0 rfl hlm ?_)|refine r_ pn rfl ?_|with_reducible first|apply l_|apply m_|apply n_|apply o_|refine p_ (fun _=>?_) (fun _=>?_))<;>(conv=>whnf)))
     all_goals exact Ret.eq rfl
end
section
open Go.RowKit K
set_option maxRecDepth 100000
theorem p_reckon (op:Int) (ho:op=3∨(5≤op∧op≤9)) (k:List ValueD) (h0:0<k.length) (hl:k.length≤1000) (hin:∀v∈k,WholeP.In64 v.N) :
  Pure Tryz.prog 100 [pInt .i64 op,slV 3 ValueD.c k] (.tup [vV (recV op k).1,pInt .i64 (recV op k).2]):=by
 have hc:op=3∨op=5∨op=6∨op=7∨op=8∨op=9:=by omega
 rcases hc with rfl | rfl | rfl | rfl | rfl | rfl
 ·exact p_reckon_of 3 _ p_reck3 (fun a b ha hb=>p_reckneg a b ha) k h0 hl hin
 ·exact p_reckon_of 5 _ p_reck5 p_wadd k h0 hl hin
 ·exact p_reckon_of 6 _ p_reck6 p_wsub k h0 hl hin
 ·exact p_reckon_of 7 _ p_reck7 p_wmul k h0 hl hin
 ·exact p_reckon_of 8 _ p_reck8 p_wdiv k h0 hl hin
 ·exact p_reckon_of 9 _ p_reck9 p_wmod k h0 hl hin
theorem getD_at {k:List ValueD} {i:Nat} (h:i<k.length):k.getD i noV=k[i]:=by rw[List.getD_eq_getElem?_getD,List.getElem?_eq_getElem h];rfl
theorem p_ask (op:Int) (k:List ValueD) (h1:leastK op≤k.length) (h2:(k.length:Int)≤mostK op) (ho:op=4∨op=10∨op=12∨op=14∨op=16∨op=17∨op=18∨op=20∨op=22∨op=24) :
  Pure Tryz.prog 103 [pInt .i64 op,slV 3 ValueD.c k] (.tup [pInt .i64 (askV op k).1,pInt .i64 (askV op k).2]):=by
 have hm:=mostK_le op
 have hp:1≤leastK op:=by rcases ho with rfl | rfl | rfl | rfl | rfl | rfl | rfl | rfl | rfl | rfl<;>decide
 have l0:0<k.length:=by omega
 refine pure_of Tryz.func103 (by rfl) rfl (by kernel_rfl) (by rfl) ?_
 unfold askV
 by_cases a10:op=10
 ·subst a10
  have l1:1<k.length:=by have:leastK 10=2:=rfl;omega
  have pa:=p_rawsame k[0] k[1]
  rw[getD_at l0,getD_at l1]
  ((conv=>whnf);repeat' ((first|(with_reducible first|apply a_|apply b_|apply c_)|((with_reducible first|apply d_|apply e_|apply f_|apply g_);focus first|omega|(simp only[q_]<;>omega))|((with_reducible first|apply i_|apply h_);focus first|omega|(simp only[q_]<;>omega))|((with_reducible apply h_);focus first|decide|kernel_rfl)|refine s_ (by decide) ?_|refine t_ (by decide) ?_|(refine Idx.mapI 0 rfl l0 ?_)|(refine Idx.mapI 1 rfl l1 ?_)|refine r_ pa rfl ?_|with_reducible first|apply l_|apply m_|apply n_|apply o_|refine p_ (fun _=>?_) (fun _=>?_))<;>(conv=>whnf)))
  all_goals exact Ret.eq rfl
 rw[if_neg a10]
 by_cases a12:op=12
 ·subst a12
  have l1:1<k.length:=by have:leastK 12=2:=rfl;omega
  have pa:=p_rawless k[0] k[1]
  rw[getD_at l0,getD_at l1]
  ((conv=>whnf);repeat' ((first|(with_reducible first|apply a_|apply b_|apply c_)|((with_reducible first|apply d_|apply e_|apply f_|apply g_);focus first|omega|(simp only[q_]<;>omega))|((with_reducible first|apply i_|apply h_);focus first|omega|(simp only[q_]<;>omega))|((with_reducible apply h_);focus first|decide|kernel_rfl)|refine s_ (by decide) ?_|refine t_ (by decide) ?_|(refine Idx.mapI 0 rfl l0 ?_)|(refine Idx.mapI 1 rfl l1 ?_)|refine r_ pa rfl ?_|with_reducible first|apply l_|apply m_|apply n_|apply o_|refine p_ (fun _=>?_) (fun _=>?_))<;>(conv=>whnf)))
  all_goals exact Ret.eq rfl
 rw[if_neg a12]
 by_cases a14:op=14
 ·subst a14
  have l1:1<k.length:=by have:leastK 14=2:=rfl;omega
  have pa:=p_rawless k[1] k[0]
  rw[getD_at l0,getD_at l1]
  ((conv=>whnf);repeat' ((first|(with_reducible first|apply a_|apply b_|apply c_)|((with_reducible first|apply d_|apply e_|apply f_|apply g_);focus first|omega|(simp only[q_]<;>omega))|((with_reducible first|apply i_|apply h_);focus first|omega|(simp only[q_]<;>omega))|((with_reducible apply h_);focus first|decide|kernel_rfl)|refine s_ (by decide) ?_|refine t_ (by decide) ?_|(refine Idx.mapI 0 rfl l0 ?_)|(refine Idx.mapI 1 rfl l1 ?_)|refine r_ pa rfl ?_|with_reducible first|apply l_|apply m_|apply n_|apply o_|refine p_ (fun _=>?_) (fun _=>?_))<;>(conv=>whnf)))
  all_goals exact Ret.eq rfl
 rw[if_neg a14]
 by_cases a18:op=18
 ·subst a18
  have pa:=p_lof (isN k[0])
  rw[getD_at l0]
  ((conv=>whnf);repeat' ((first|(with_reducible first|apply a_|apply b_|apply c_)|((with_reducible first|apply d_|apply e_|apply f_|apply g_);focus first|omega|(simp only[q_]<;>omega))|((with_reducible first|apply i_|apply h_);focus first|omega|(simp only[q_]<;>omega))|((with_reducible apply h_);focus first|decide|kernel_rfl)|refine s_ (by decide) ?_|refine t_ (by decide) ?_|(refine Idx.mapI 0 rfl l0 ?_)|refine r_ pa rfl ?_|with_reducible first|apply l_|apply m_|apply n_|apply o_|refine p_ (fun _=>?_) (fun _=>?_))<;>(conv=>whnf)))
  all_goals exact Ret.eq rfl
 rw[if_neg a18]
 by_cases a22:op=22
 ·subst a22
  have pa:=p_rawin k[0] (k.drop 1) (by rw[List.length_drop];omega)
  rw[getD_at l0]
  have e1:∀n,n=(((k.map ValueD.c).length:Nat):Int).toNat - (1:Int).toNat→slV 3 ValueD.c (k.drop 1)=.d (.c (.sl 3 (((k.map ValueD.c).drop (1:Int).toNat).take n))):=by
   rintro n rfl
   rw[List.take_of_length_le (by rw[List.length_drop];omega),← List.map_drop];rfl
  rw[e1 _ rfl] at pa
  ((conv=>whnf);repeat' ((first|(with_reducible first|apply a_|apply b_|apply c_)|((with_reducible first|apply d_|apply e_|apply f_|apply g_);focus first|omega|(simp only[q_]<;>omega))|((with_reducible first|apply i_|apply h_);focus first|omega|(simp only[q_]<;>omega))|((with_reducible apply h_);focus first|decide|kernel_rfl)|refine s_ (by decide) ?_|refine t_ (by decide) ?_|(refine Idx.mapI 0 rfl l0 ?_)|refine r_ pa rfl ?_|with_reducible first|apply l_|apply m_|apply n_|apply o_|refine p_ (fun _=>?_) (fun _=>?_))<;>(conv=>whnf)))
  all_goals exact Ret.eq rfl
 rw[if_neg a22]
 by_cases a24:op=24
 ·subst a24
  have l1:1<k.length:=by have:leastK 24=3:=rfl;omega
  have l2:2<k.length:=by have:leastK 24=3:=rfl;omega
  have pa:=p_rawbetween k[0] k[1] k[2]
  rw[getD_at l0,getD_at l1,getD_at l2]
  ((conv=>whnf);repeat' ((first|(with_reducible first|apply a_|apply b_|apply c_)|((with_reducible first|apply d_|apply e_|apply f_|apply g_);focus first|omega|(simp only[q_]<;>omega))|((with_reducible first|apply i_|apply h_);focus first|omega|(simp only[q_]<;>omega))|((with_reducible apply h_);focus first|decide|kernel_rfl)|refine s_ (by decide) ?_|refine t_ (by decide) ?_|(refine Idx.mapI 0 rfl l0 ?_)|(refine Idx.mapI 1 rfl l1 ?_)|(refine Idx.mapI 2 rfl l2 ?_)|refine r_ pa rfl ?_|with_reducible first|apply l_|apply m_|apply n_|apply o_|refine p_ (fun _=>?_) (fun _=>?_))<;>(conv=>whnf)))
  all_goals exact Ret.eq rfl
 rw[if_neg a24]
 by_cases a20:op=20
 ·subst a20
  have pa:=p_liken k (by have:leastK 20=2:=rfl;have:mostK 20=2:=rfl;omega)
  rw[if_pos rfl]
  ((conv=>whnf);repeat' ((first|(with_reducible first|apply a_|apply b_|apply c_)|((with_reducible first|apply d_|apply e_|apply f_|apply g_);focus first|omega|(simp only[q_]<;>omega))|((with_reducible first|apply i_|apply h_);focus first|omega|(simp only[q_]<;>omega))|((with_reducible apply h_);focus first|decide|kernel_rfl)|refine s_ (by decide) ?_|refine t_ (by decide) ?_|refine r_ pa rfl ?_|with_reducible first|apply l_|apply m_|apply n_|apply o_|refine p_ (fun _=>?_) (fun _=>?_))<;>(conv=>whnf)))
  all_goals exact Ret.eq rfl
 rw[if_neg a20]
 have pa:=p_join op k l0 (by omega)
 ((conv=>whnf);repeat' ((first|(with_reducible first|apply a_|apply b_|apply c_)|((with_reducible first|apply d_|apply e_|apply f_|apply g_);focus first|omega|(simp only[q_]<;>omega))|((with_reducible first|apply i_|apply h_);focus first|omega|(simp only[q_]<;>omega))|((with_reducible apply h_);focus first|decide|kernel_rfl)|refine s_ (by decide) ?_|refine t_ (by decide) ?_|refine r_ pa rfl ?_|with_reducible first|apply l_|apply m_|apply n_|apply o_|refine p_ (fun _=>?_) (fun _=>?_))<;>(conv=>whnf)))
 all_goals first|exact Ret.eq rfl | (exfalso;omega)
end
section
open Go.RowKit K
set_option maxRecDepth 100000
abbrev Cols:=List (List UInt8×ValueD)
def vAgg (v:ValueD):Value:=.agg #[.int .i64 v.Kind,.int .i64 v.N,.string (tx v.S)]
def vmap (l:Cols):List (ByteArray×Value):=l.map fun p=>(tx p.1,vAgg p.2)
def vget:Cols→List UInt8→Option ValueD
 | [],_=>none
 | (k,v)::l,s=>if s=k then some v else vget l s
def vput:Cols→List UInt8→ValueD→Cols
 | [],s,x=>[(s,x)]
 | (k,v)::l,s,x=>if s=k then (s,x)::l else (k,v)::vput l s x
theorem mpGet_vmap:∀(l:Cols) (s:List UInt8),mpGet (vmap l) (tx s)=(vget l s).map vAgg
 | [],s=>rfl
 | (a,v)::l,s=>by
  show (bif decide (tx s=tx a) then _ else _)=_
  unfold vget
  by_cases h:s=a
  ·subst h;simp
  ·have:¬tx s=tx a:=fun e=>h (tx_inj e)
   rw[decide_eq_false this,cond_false,if_neg h]
   exact mpGet_vmap l s
theorem mpPut_vmap:∀(l:Cols) (s:List UInt8) (x:ValueD),mpPut (vmap l) (tx s) (vAgg x)=vmap (vput l s x)
 | [],s,x=>rfl
 | (a,v)::l,s,x=>by
  show (bif decide (tx s=tx a) then _ else _)=_
  unfold vput
  by_cases h:s=a
  ·subst h;simp[vmap]
  ·have:¬tx s=tx a:=fun e=>h (tx_inj e)
   rw[decide_eq_false this,cond_false,if_neg h]
   show _::mpPut (vmap l) (tx s) _=_
   rw[mpPut_vmap l s];rfl
theorem vmap_plain (l:Cols):∀p∈vmap l,plainV p.2=true:=by
 intro p hp
 obtain⟨s,_,rfl⟩:=List.mem_map.1 hp
 rfl
theorem vget_put:∀(l:Cols) (s:List UInt8) (x:ValueD) (t:List UInt8),vget (vput l s x) t=if t=s then some x else vget l t
 | [],s,x,t=>rfl
 | (k,v)::l,s,x,t=>by
  unfold vput
  by_cases h:s=k
  ·subst h
   rw[if_pos rfl]
   unfold vget
   by_cases h2:t=s
   ·rw[if_pos h2,if_pos h2]
   ·rw[if_neg h2,if_neg h2]
    by_cases h3:t=s
    ·exact absurd h3 h2
    ·rw[if_neg h3]
  ·rw[if_neg h]
   by_cases h2:t=k
   ·subst h2
    rw[vget,if_pos rfl,vget,if_pos rfl,if_neg (fun e=>h e.symm)]
   ·rw[vget,if_neg h2,vget_put l s x t,vget,if_neg h2]
def scM:List (List UInt8)→List ValueD→Cols
 | c::cs,v::vs=>vput (scM cs vs) c v
 | _,_=>[]
def lookC:List (List UInt8)→List ValueD→Look
 | c::cs,v::vs,s=>if s=c then some v else lookC cs vs s
 | _,_,_=>none
theorem vget_scM:∀(cols:List (List UInt8)) (row:List ValueD) (s:List UInt8),vget (scM cols row) s=lookC cols row s
 | [],_,_=>by cases ‹List ValueD›<;>rfl
 | _::_,[],_=>rfl
 | c::cs,v::vs,s=>by
  unfold scM lookC
  rw[vget_put,vget_scM cs vs s]
theorem s_scoped (cols:List (List UInt8)) (row:List ValueD) (h:cols.length=row.length) (hl:cols.length≤1000000):CallS Tryz.prog 91 [slV 1 eText cols,slV 3 ValueD.c row] [] [] (.agg [.mp NK]) [(NK,.mp (vmap (scM cols row)))]:=by
 refine callS_of Tryz.func91 (by rfl) rfl (by kernel_rfl) (by rfl) [] rfl ?_
 ((conv=>whnf);repeat' ((first|(with_reducible first|apply a_|apply b_|apply c_)|((with_reducible first|apply d_|apply e_|apply f_|apply g_);focus first|omega|(simp only[q_]<;>omega))|((with_reducible first|apply i_|apply h_);focus first|omega|(simp only[q_]<;>omega))|((with_reducible apply h_);focus first|decide|kernel_rfl)|refine s_ (by decide) ?_|refine t_ (by decide) ?_|with_reducible first|apply l_|apply m_|apply n_|apply o_|refine p_ (fun _=>?_) (fun _=>?_))<;>(conv=>whnf)))
 refine LoopC.mk Nat (fun j=>[(0,slV 1 eText cols),(1,slV 3 ValueD.c row),(4,.d (.ptr 4 0)),(5,.d (.ptr 5 0)),(6,pInt .i64 ((cols.length:Int) - 1 - j))]) (fun j=>[(4,.box 139 [.c (.v (.map none))]),(5,.box 139 [.mp 7]),(7,.mp (vmap (scM (cols.drop (cols.length - j)) (row.drop (cols.length - j)))))]) [4,5,7] (fun j=>j≤cols.length) (fun j=>cols.length - j) 0 (Nat.zero_le _) ?start ?round
 case start=>
  refine⟨[(4,4),(5,5),(7,7)],rfl,rfl,⟨.inl rfl,.inl rfl,⟨rfl,rfl,rfl⟩,⟨rfl,rfl,rfl⟩,PLe.int (by simp),trivial⟩,⟨rfl,rfl,⟨.inl rfl,rfl⟩⟩,⟨rfl,rfl,⟨⟨rfl,rfl⟩,rfl⟩⟩,⟨rfl,?_⟩,trivial⟩
  show []=vmap _
  rw[Nat.sub_zero,List.drop_length];rfl
 case round=>
  intro j hj
  have hj:j≤cols.length:=hj
  by_cases q:j<cols.length
  ·have hi:cols.length - (j+1)<cols.length:=by omega
   have hr:cols.length - (j+1)<row.length:=by omega
   have e1:scM (cols.drop (cols.length - (j+1))) (row.drop (cols.length - (j+1)))=vput (scM (cols.drop (cols.length - j)) (row.drop (cols.length - j))) cols[cols.length - (j+1)] row[cols.length - (j+1)]:=by
    rw[List.drop_eq_getElem_cons hi,List.drop_eq_getElem_cons hr,show cols.length - (j+1)+1=cols.length - j by omega];rfl
   ((conv=>whnf);repeat' ((first|(with_reducible first|apply a_|apply b_|apply c_)|((with_reducible first|apply d_|apply e_|apply f_|apply g_);focus first|omega|(simp only[q_]<;>omega))|((with_reducible first|apply i_|apply h_);focus first|omega|(simp only[q_]<;>omega))|((with_reducible apply h_);focus first|decide|kernel_rfl)|refine s_ (by decide) ?_|refine t_ (by decide) ?_|(refine Idx.mapI (l:=cols) (cols.length - (j+1)) (by omega) hi ?_)|(refine Idx.mapI (l:=row) (cols.length - (j+1)) (by omega) hr ?_)|with_reducible first|apply l_|apply m_|apply n_|apply o_|refine p_ (fun _=>?_) (fun _=>?_))<;>(conv=>whnf)))
   refine⟨j+1,by show j+1≤_;omega,by omega,[(4,4),(5,5),(7,7)],rfl,rfl,⟨.inl rfl,.inl rfl,⟨rfl,rfl,rfl⟩,⟨rfl,rfl,rfl⟩,PLe.int (by omega),trivial⟩,⟨rfl,rfl,⟨.inl rfl,rfl⟩⟩,⟨rfl,rfl,⟨⟨rfl,rfl⟩,rfl⟩⟩,⟨rfl,?_⟩,trivial⟩
   show mpPut (vmap _) (tx _) (vAgg _)=vmap _
   rw[mpPut_vmap,e1]
  ·have e0:cols.length - j=0:=by omega
   ((conv=>whnf);repeat' ((first|(with_reducible first|apply a_|apply b_|apply c_)|((with_reducible first|apply d_|apply e_|apply f_|apply g_);focus first|omega|(simp only[q_]<;>omega))|((with_reducible first|apply i_|apply h_);focus first|omega|(simp only[q_]<;>omega))|((with_reducible apply h_);focus first|decide|kernel_rfl)|refine s_ (by decide) ?_|refine t_ (by decide) ?_|with_reducible first|apply l_|apply m_|apply n_|apply o_|refine p_ (fun _=>?_) (fun _=>?_))<;>(conv=>whnf)))
   refine RetS.mk [(NK,7)] [NK] rfl rfl ?_ ?_
   ·exact⟨⟨rfl,rfl⟩,rfl⟩
   ·refine⟨⟨rfl,?_⟩,trivial⟩
    show vmap _=vmap _
    rw[e0,List.drop_zero,List.drop_zero]
end
section
open Go.RowKit K
set_option maxRecDepth 100000
theorem ple_ve {f:Nat→Option Nat} {n:List Nat} {a b:ValueD} {x y:Int} (h1:b=a) (h2:y=x):PLe f n (.tup [vV a,pInt .i64 x]) (.tup [vV b,pInt .i64 y]):=by
 subst h1 h2
 exact⟨⟨.inl rfl,.inl rfl,.inl rfl,rfl⟩,.inl rfl,rfl⟩
theorem s_node (cols:Cols) (n:NodeD) (k:List ValueD) (hn:alF n=0) (hl:(k.length:Int)=n.Kids) (hk:∀v∈k,WholeP.In64 v.N) :
  CallS Tryz.prog 92 [.agg [.mp FK],nV n,slV 3 ValueD.c k] [(FK,.mp (vmap cols))] [] (.tup [vV (nodV (vget cols) n k).1,pInt .i64 (nodV (vget cols) n k).2]) []:=by
 obtain⟨h1,h2,h3,h4,h5,h6⟩:=alF_kids hn
 refine callS_of Tryz.func92 (by rfl) rfl (by kernel_rfl) (by rfl) [FK] rfl ?_
 unfold nodV
 by_cases g1:n.Op=1
 ·rw[if_pos g1]
  ((conv=>whnf);repeat' ((first|(with_reducible first|apply a_|apply b_|apply c_)|((with_reducible first|apply d_|apply e_|apply f_|apply g_);focus first|omega|(simp only[q_]<;>omega))|((with_reducible first|apply i_|apply h_);focus first|omega|(simp only[q_]<;>omega))|((with_reducible apply h_);focus first|decide|kernel_rfl)|refine s_ (by decide) ?_|refine t_ (by decide) ?_|with_reducible first|apply l_|apply m_|apply n_|apply o_|refine p_ (fun _=>?_) (fun _=>?_))<;>(conv=>whnf)))
  refine RetS.mk [(FK,FK)] [FK] rfl rfl (ple_ve rfl rfl) ⟨⟨rfl,rfl⟩,trivial⟩
 rw[if_neg g1]
 by_cases g2:n.Op=2
 ·rw[if_pos g2]
  ((conv=>whnf);repeat' ((first|(with_reducible first|apply a_|apply b_|apply c_)|((with_reducible first|apply d_|apply e_|apply f_|apply g_);focus first|omega|(simp only[q_]<;>omega))|((with_reducible first|apply i_|apply h_);focus first|omega|(simp only[q_]<;>omega))|((with_reducible apply h_);focus first|decide|kernel_rfl)|refine s_ (by decide) ?_|refine t_ (by decide) ?_|with_reducible first|apply l_|apply m_|apply n_|apply o_|refine p_ (fun _=>?_) (fun _=>?_))<;>(conv=>whnf)))
  refine Need.mk ⟨rfl,vmap_plain cols⟩ ?_
  ((conv=>whnf);repeat' ((first|(with_reducible first|apply a_|apply b_|apply c_)|((with_reducible first|apply d_|apply e_|apply f_|apply g_);focus first|omega|(simp only[q_]<;>omega))|((with_reducible first|apply i_|apply h_);focus first|omega|(simp only[q_]<;>omega))|((with_reducible apply h_);focus first|decide|kernel_rfl)|refine s_ (by decide) ?_|refine t_ (by decide) ?_|with_reducible first|apply l_|apply m_|apply n_|apply o_|refine p_ (fun _=>?_) (fun _=>?_))<;>(conv=>whnf)))
  refine⟨fun v hv=>?_,fun hv=>?_⟩
  ·rw[mpGet_vmap] at hv
   cases hg:vget cols n.Name with
   | none=>rw[hg] at hv;cases hv
   | some x=>
    rw[hg] at hv
    obtain rfl:v=vAgg x:=(Option.some.inj hv).symm
    ((conv=>whnf);repeat' ((first|(with_reducible first|apply a_|apply b_|apply c_)|((with_reducible first|apply d_|apply e_|apply f_|apply g_);focus first|omega|(simp only[q_]<;>omega))|((with_reducible first|apply i_|apply h_);focus first|omega|(simp only[q_]<;>omega))|((with_reducible apply h_);focus first|decide|kernel_rfl)|refine s_ (by decide) ?_|refine t_ (by decide) ?_|with_reducible first|apply l_|apply m_|apply n_|apply o_|refine p_ (fun _=>?_) (fun _=>?_))<;>(conv=>whnf)))
    refine RetS.mk [(FK,FK)] [FK] rfl rfl (ple_ve (b:=x) rfl rfl) ⟨⟨rfl,rfl⟩,trivial⟩
  ·rw[mpGet_vmap] at hv
   cases hg:vget cols n.Name with
   | some x=>rw[hg] at hv;cases hv
   | none=>
    ((conv=>whnf);repeat' ((first|(with_reducible first|apply a_|apply b_|apply c_)|((with_reducible first|apply d_|apply e_|apply f_|apply g_);focus first|omega|(simp only[q_]<;>omega))|((with_reducible first|apply i_|apply h_);focus first|omega|(simp only[q_]<;>omega))|((with_reducible apply h_);focus first|decide|kernel_rfl)|refine s_ (by decide) ?_|refine t_ (by decide) ?_|with_reducible first|apply l_|apply m_|apply n_|apply o_|refine p_ (fun _=>?_) (fun _=>?_))<;>(conv=>whnf)))
    refine RetS.mk [(FK,FK)] [FK] rfl rfl (ple_ve (b:=noV) rfl rfl) ⟨⟨rfl,rfl⟩,trivial⟩
 rw[if_neg g2]
 by_cases g3:n.Op=3∨(5≤n.Op∧n.Op≤9)
 ·rw[if_pos g3]
  have l0:0<k.length:=by
   have:leastK n.Op=1∨leastK n.Op=2:=by unfold leastK;(repeat' split)<;>omega
   omega
  have pr:=p_reckon n.Op g3 k l0 (by omega) hk
  ((conv=>whnf);repeat' ((first|(with_reducible first|apply a_|apply b_|apply c_)|((with_reducible first|apply d_|apply e_|apply f_|apply g_);focus first|omega|(simp only[q_]<;>omega))|((with_reducible first|apply i_|apply h_);focus first|omega|(simp only[q_]<;>omega))|((with_reducible apply h_);focus first|decide|kernel_rfl)|refine s_ (by decide) ?_|refine t_ (by decide) ?_|refine r_ pr rfl ?_|with_reducible first|apply l_|apply m_|apply n_|apply o_|refine p_ (fun _=>?_) (fun _=>?_))<;>(conv=>whnf)))
  all_goals exact RetS.mk [(FK,FK)] [FK] rfl rfl (ple_ve rfl rfl) ⟨⟨rfl,rfl⟩,trivial⟩
 rw[if_neg g3]
 have pn:=p_negated n.Op
 have pc:=p_counter n.Op
 have cases_:n.Op=4∨n.Op=10∨n.Op=11∨n.Op=12∨n.Op=13∨n.Op=14∨n.Op=15∨n.Op=16∨n.Op=17∨n.Op=18∨n.Op=19∨n.Op=20∨n.Op=21∨n.Op=22∨n.Op=23∨n.Op=24∨n.Op=25:=by omega
 obtain⟨op,hop⟩:∃op,op=if negB n.Op then couF n.Op else n.Op:=⟨_,rfl⟩
 have hask:leastK op=leastK n.Op∧mostK op=mostK n.Op∧(op=4∨op=10∨op=12∨op=14∨op=16∨op=17∨op=18∨op=20∨op=22∨op=24):=by
  rw[hop]
  rcases cases_ with e | e | e | e | e | e | e | e | e | e | e | e | e | e | e | e | e<;>rw[e]<;>decide
 have pa:=p_ask op k (by rw[hask.1];omega) (by rw[hask.2.1];omega) hask.2.2
 rw[← hop]
 have pt:=p_lnot (askV op k).1
 cases hb:negB n.Op with
 | true=>
  rw[hb,if_pos rfl] at hop
  rw[← hop] at pc
  rw[hb] at pn
  have pv:=p_told (tNot (askV op k).1)
  by_cases he:(askV op k).2=0
  ·rw[if_neg (by rw[he];decide)]
   ((conv=>whnf);repeat' ((first|(with_reducible first|apply a_|apply b_|apply c_)|((with_reducible first|apply d_|apply e_|apply f_|apply g_);focus first|omega|(simp only[q_]<;>omega))|((with_reducible first|apply i_|apply h_);focus first|omega|(simp only[q_]<;>omega))|((with_reducible apply h_);focus first|decide|kernel_rfl)|refine s_ (by decide) ?_|refine t_ (by decide) ?_|refine r_ pn rfl ?_|refine r_ pc rfl ?_|refine r_ pa rfl ?_|refine r_ pt rfl ?_|refine r_ pv rfl ?_|with_reducible first|apply l_|apply m_|apply n_|apply o_|refine p_ (fun _=>?_) (fun _=>?_))<;>(conv=>whnf)))
   all_goals first|exact RetS.mk [(FK,FK)] [FK] rfl rfl (ple_ve rfl rfl) ⟨⟨rfl,rfl⟩,trivial⟩ | (exfalso;omega)
  ·rw[if_pos he]
   ((conv=>whnf);repeat' ((first|(with_reducible first|apply a_|apply b_|apply c_)|((with_reducible first|apply d_|apply e_|apply f_|apply g_);focus first|omega|(simp only[q_]<;>omega))|((with_reducible first|apply i_|apply h_);focus first|omega|(simp only[q_]<;>omega))|((with_reducible apply h_);focus first|decide|kernel_rfl)|refine s_ (by decide) ?_|refine t_ (by decide) ?_|refine r_ pn rfl ?_|refine r_ pc rfl ?_|refine r_ pa rfl ?_|refine r_ pt rfl ?_|refine r_ pv rfl ?_|with_reducible first|apply l_|apply m_|apply n_|apply o_|refine p_ (fun _=>?_) (fun _=>?_))<;>(conv=>whnf)))
   all_goals first|exact RetS.mk [(FK,FK)] [FK] rfl rfl (ple_ve (b:=noV) rfl rfl) ⟨⟨rfl,rfl⟩,trivial⟩ | (exfalso;omega)
 | false=>
  rw[hb,if_neg (by simp)] at hop
  subst hop
  rw[hb] at pn
  have pv:=p_told (askV n.Op k).1
  by_cases he:(askV n.Op k).2=0
  ·rw[if_neg (by rw[he];decide)]
   ((conv=>whnf);repeat' ((first|(with_reducible first|apply a_|apply b_|apply c_)|((with_reducible first|apply d_|apply e_|apply f_|apply g_);focus first|omega|(simp only[q_]<;>omega))|((with_reducible first|apply i_|apply h_);focus first|omega|(simp only[q_]<;>omega))|((with_reducible apply h_);focus first|decide|kernel_rfl)|refine s_ (by decide) ?_|refine t_ (by decide) ?_|refine r_ pn rfl ?_|refine r_ pa rfl ?_|refine r_ pt rfl ?_|refine r_ pv rfl ?_|with_reducible first|apply l_|apply m_|apply n_|apply o_|refine p_ (fun _=>?_) (fun _=>?_))<;>(conv=>whnf)))
   all_goals first|exact RetS.mk [(FK,FK)] [FK] rfl rfl (ple_ve rfl rfl) ⟨⟨rfl,rfl⟩,trivial⟩ | (exfalso;omega)
  ·rw[if_pos he]
   ((conv=>whnf);repeat' ((first|(with_reducible first|apply a_|apply b_|apply c_)|((with_reducible first|apply d_|apply e_|apply f_|apply g_);focus first|omega|(simp only[q_]<;>omega))|((with_reducible first|apply i_|apply h_);focus first|omega|(simp only[q_]<;>omega))|((with_reducible apply h_);focus first|decide|kernel_rfl)|refine s_ (by decide) ?_|refine t_ (by decide) ?_|refine r_ pn rfl ?_|refine r_ pa rfl ?_|refine r_ pt rfl ?_|refine r_ pv rfl ?_|with_reducible first|apply l_|apply m_|apply n_|apply o_|refine p_ (fun _=>?_) (fun _=>?_))<;>(conv=>whnf)))
   all_goals first|exact RetS.mk [(FK,FK)] [FK] rfl rfl (ple_ve (b:=noV) rfl rfl) ⟨⟨rfl,rfl⟩,trivial⟩ | (exfalso;omega)
end
section
open Go.RowKit K
set_option maxRecDepth 100000
def RV (v:ValueD):Prop:=OkV v∧WholeP.In64 v.N
theorem rv_no:RV noV:=⟨noV_ok,by decide⟩
theorem rv_tol (t:Int):RV (tolV t):=⟨tolV_ok t,by unfold tolV;(repeat' split)<;>decide⟩
theorem fit_in {n:Int} (h:(WholeP.fit n).2=0):WholeP.In64 (WholeP.fit n).1:=by
 unfold WholeP.fit at h ⊢
 split
 ·rename_i q;exact q
 ·decide
theorem tmod_in {a b:Int} (ha:WholeP.In64 a):WholeP.In64 (a.tmod b):=by
 obtain⟨a1,a2⟩:=ha
 have hn:(a.tmod b).natAbs≤a.natAbs:=by rw[Int.natAbs_tmod];exact Nat.mod_le _ _
 by_cases h:0≤a
 ·have:=Int.tmod_nonneg b h
  constructor<;>omega
 ·have e:a.tmod b=-((-a).tmod b):=by rw[Int.neg_tmod];simp
  have:=Int.tmod_nonneg (a:=-a) b (by omega)
  constructor<;>omega
theorem who_in {op a b:Int} (ha:WholeP.In64 a) (h:(whoF op a b).2=0):WholeP.In64 (whoF op a b).1:=by
 unfold whoF at h ⊢
 split
 ·rename_i q;rw[if_pos q] at h;exact fit_in h
 ·rename_i q;rw[if_neg q] at h
  split
  ·rename_i q;rw[if_pos q] at h;exact fit_in h
  ·rename_i q;rw[if_neg q] at h
   split
   ·rename_i q;rw[if_pos q] at h;exact fit_in h
   ·rename_i q;rw[if_neg q] at h
    split
    ·rename_i q;rw[if_pos q] at h
     unfold WholeP.quo at h ⊢
     split
     ·decide
     ·rename_i q;rw[if_neg q] at h;exact fit_in h
    ·rename_i q;rw[if_neg q] at h
     split
     ·unfold WholeP.rem
      split
      ·decide
      ·exact tmod_in ha
     ·rename_i q;rw[if_neg q] at h;exact fit_in h
theorem rec_rv {op:Int} {k:List ValueD} (hk:∀v∈k,WholeP.In64 v.N):RV (recV op k).1:=by
 unfold recV
 split
 ·exact rv_no
 ·split
  ·exact rv_no
  ·split
   ·exact rv_no
   ·rename_i h
    have h:(whoF op (k.headD noV).N (k.getLastD noV).N).2=0:=Decidable.of_not_not h
    have ha:WholeP.In64 (k.headD noV).N:=by
     cases k with
     | nil=>decide
     | cons v k=>exact hk v (List.mem_cons_self ..)
    have:=who_in ha h
    refine⟨?_,this⟩
    show vChk _=0
    unfold vChk
    rw[if_neg (by show ¬((1:Int)<0∨(3:Int)<1);omega),if_neg (by show ¬(((1:Int)≠1∧_)∨((1:Int)<2∧([]:List UInt8).length≠0));simp),if_neg (by show ¬16<([]:List UInt8).length;simp)]
theorem alF_lit {n:NodeD} (h:alF n=0) (h1:n.Op=1):OkV n.V∧0≤n.V.N:=by
 unfold alF at h
 split at h
 ·cases h
 ·split at h
  ·cases h
  ·split at h
   ·rename_i q;exact absurd h q
   ·rename_i q
    have q:vChk n.V=0:=Decidable.of_not_not q
    split at h
    ·cases h
    ·exact⟨q,by omega⟩
def LookOk (look:Look):Prop:=∀s v,look s=some v→RV v
theorem nod_rv {look:Look} (hL:LookOk look) {n:NodeD} {k:List ValueD} (hn:alF n=0) (hv:WholeP.In64 n.V.N) (hk:∀v∈k,WholeP.In64 v.N):RV (nodV look n k).1:=by
 unfold nodV
 by_cases g1:n.Op=1
 ·rw[if_pos g1];exact⟨(alF_lit hn g1).1,hv⟩
 rw[if_neg g1]
 by_cases g2:n.Op=2
 ·rw[if_pos g2]
  cases hq:look n.Name with
  | none=>exact rv_no
  | some v=>exact hL _ _ hq
 rw[if_neg g2]
 by_cases g3:n.Op=3∨(5≤n.Op∧n.Op≤9)
 ·rw[if_pos g3];exact rec_rv hk
 rw[if_neg g3]
 by_cases g4:(askV (if negB n.Op then couF n.Op else n.Op) k).2≠0
 ·rw[if_pos g4];exact rv_no
 ·rw[if_neg g4];exact rv_tol _
noncomputable def nodF (look:Look) (n:NodeD) (k:List ValueD):Except Int ValueD:=if (nodV look n k).2=0 then .ok (nodV look n k).1 else .error (nodV look n k).2
def eVal (r:Except Int ValueD):PV:=match r with
 | .ok v=>.tup [vV v,pInt .i64 0]
 | .error x=>.tup [vV noV,pInt .i64 x]
end
section
open Go.RowKit K
set_option maxRecDepth 100000
theorem p_clonev (l:List ValueD) (h:l.length≤1000000):Pure Tryz.prog 42 [slV 3 ValueD.c l] (slV 3 ValueD.c l):=by
 cases l with
 | nil=>
  refine pure_sl0 ?_ fun a cap=>?_
  ·refine pure_of Tryz.func42 (by rfl) rfl (by kernel_rfl) (by rfl) ?_
   ((conv=>whnf);repeat' ((first|(with_reducible first|apply a_|apply b_|apply c_)|((with_reducible first|apply d_|apply e_|apply f_|apply g_);focus first|omega|(simp only[q_]<;>omega))|((with_reducible first|apply i_|apply h_);focus first|omega|(simp only[q_]<;>omega))|((with_reducible apply h_);focus first|decide|kernel_rfl)|refine s_ (by decide) ?_|refine t_ (by decide) ?_|with_reducible first|apply l_|apply m_|apply n_|apply o_|refine p_ (fun _=>?_) (fun _=>?_))<;>(conv=>whnf)))
   exact Ret.le (.inr ⟨⟨3,rfl⟩,.inl rfl⟩)
  ·refine pure_of Tryz.func42 (by rfl) rfl (by kernel_rfl) (by rfl) ?_
   ((conv=>whnf);repeat' ((first|(with_reducible first|apply a_|apply b_|apply c_)|((with_reducible first|apply d_|apply e_|apply f_|apply g_);focus first|omega|(simp only[q_]<;>omega))|((with_reducible first|apply i_|apply h_);focus first|omega|(simp only[q_]<;>omega))|((with_reducible apply h_);focus first|decide|kernel_rfl)|refine s_ (by decide) ?_|refine t_ (by decide) ?_|with_reducible first|apply l_|apply m_|apply n_|apply o_|refine p_ (fun _=>?_) (fun _=>?_))<;>(conv=>whnf)))
   exact Ret.mk rfl
 | cons x l=>
  refine pure_of Tryz.func42 (by rfl) rfl (by kernel_rfl) (by rfl) ?_
  ((conv=>whnf);repeat' ((first|(with_reducible first|apply a_|apply b_|apply c_)|((with_reducible first|apply d_|apply e_|apply f_|apply g_);focus first|omega|(simp only[q_]<;>omega))|((with_reducible first|apply i_|apply h_);focus first|omega|(simp only[q_]<;>omega))|((with_reducible apply h_);focus first|decide|kernel_rfl)|refine s_ (by decide) ?_|refine t_ (by decide) ?_|(refine Need.mk (List.cons_ne_nil _ _) ?_)|(refine Need.by 32 rfl (by simp only[List.length_map,List.length_nil,Nat.zero_add];omega) ?_)|with_reducible first|apply l_|apply m_|apply n_|apply o_|refine p_ (fun _=>?_) (fun _=>?_))<;>(conv=>whnf)))
  exact Ret.mk rfl
theorem s_clonev (l:List ValueD) (lo n:Nat) (h:lo+n≤l.length) (hn:n≠0) (hz:l.length≤1000000):CallS Tryz.prog 42 [.d (.arr FK 49 3 lo n)] [(FK,.arr 49 3 (l.map ValueD.c))] [] (slV 3 ValueD.c ((l.drop lo).take n)) []:=by
 refine callS_of Tryz.func42 (by rfl) rfl (by kernel_rfl) (by rfl) [FK] rfl ?_
 ((conv=>whnf);repeat' ((first|(with_reducible first|apply a_|apply b_|apply c_)|((with_reducible first|apply d_|apply e_|apply f_|apply g_);focus first|omega|(simp only[q_]<;>omega))|((with_reducible first|apply i_|apply h_);focus first|omega|(simp only[q_]<;>omega))|((with_reducible apply h_);focus first|decide|kernel_rfl)|refine s_ (by decide) ?_|refine t_ (by decide) ?_|(refine Need.mk hn ?_)|(refine Need.mk (by rw[List.length_map];exact h) ?_)|(refine Need.by 32 rfl (by simp only[List.length_nil,Nat.zero_add];omega) ?_)|with_reducible first|apply l_|apply m_|apply n_|apply o_|refine p_ (fun _=>?_) (fun _=>?_))<;>(conv=>whnf)))
 refine RetS.mk [(FK,FK)] [FK] rfl rfl ?_ ?_
 ·show C.sl 3 _=C.sl 3 _
  rw[List.map_take,List.map_drop];rfl
 ·exact⟨⟨rfl,rfl,rfl,rfl⟩,trivial⟩
theorem s_lastv (st:List ValueD) (K:Int) (h0:0≤K) (h1:K≤st.length) (hz:st.length≤1000000):CallS Tryz.prog 42 [.d (.arr FK 49 3 (0+((st.length:Int) - K).toNat) (((st.length:Nat):Int).toNat - ((st.length:Int) - K).toNat))] [(FK,.arr 49 3 (st.map ValueD.c))] [] (slV 3 ValueD.c (st.drop (st.length - K.toNat))) []:=by
 have e1:0+((st.length:Int) - K).toNat=st.length - K.toNat:=by omega
 have e2:((st.length:Nat):Int).toNat - ((st.length:Int) - K).toNat=K.toNat:=by omega
 rw[e1,e2]
 by_cases k0:K=0
 ·subst k0
  rw[show st.drop (st.length - (0:Int).toNat)=[] from List.drop_of_length_le (by simp)]
  exact (p_clonev [] (by simp)).empty1
 ·have:=s_clonev st (st.length - K.toNat) K.toNat (by omega) (by omega) hz
  rwa [List.take_of_length_le (by rw[List.length_drop];omega)] at this
abbrev vZ:List D:=[.c (.v (.int .i64 0)),.c (.v (.int .i64 0)),.c (.v (.string .empty))]
def wvE (l:List NodeD) (j:Nat) (st:List ValueD):List (Nat×PV):=[(1,.d (.mclo 92 [.mp FK])),(4,.d (.ptr 4 0)),(6,.d (.ptr 6 0)),(7,.d (.arr 60 49 3 0 st.length)),(13,slV 6 NodeD.c l),(14,pInt .i64 l.length),(15,pInt .i64 j)]
theorem s_walkv (cols:Cols) (hL:LookOk (vget cols)) (l:List NodeD) (hl:l.length≤1000) (hn:∀n∈l,alF n=0∧WholeP.In64 n.V.N):CallS Tryz.prog 90 [slV 6 NodeD.c l,.d (.mclo 92 [.mp FK])] [(FK,.mp (vmap cols))] [] (eVal (walkR (nodF (vget cols)) l)) []:=by
 refine callS_of Tryz.func90 (by rfl) rfl (by kernel_rfl) (by rfl) [FK] rfl ?_
 ((conv=>whnf);repeat' ((first|(with_reducible first|apply a_|apply b_|apply c_)|((with_reducible first|apply d_|apply e_|apply f_|apply g_);focus first|omega|(simp only[q_]<;>omega))|((with_reducible first|apply i_|apply h_);focus first|omega|(simp only[q_]<;>omega))|((with_reducible apply h_);focus first|decide|kernel_rfl)|refine s_ (by decide) ?_|refine t_ (by decide) ?_|with_reducible first|apply l_|apply m_|apply n_|apply o_|refine p_ (fun _=>?_) (fun _=>?_))<;>(conv=>whnf)))
 refine LoopC.mk (Nat×List ValueD) (fun s=>wvE l s.1 s.2) (fun s=>[(FK,.mp (vmap cols)),(4,.box 49 vZ),(6,.box 49 vZ),(60,.arr 49 3 (s.2.map ValueD.c))]) [FK,4,6,60] (fun s=>s.1≤l.length∧s.2.length≤s.1∧(∀x∈s.2,WholeP.In64 x.N)∧walkG (nodF (vget cols)) [] l=walkG (nodF (vget cols)) s.2 (l.drop s.1)) (fun s=>l.length - s.1) (0,[]) ⟨Nat.zero_le _,Nat.zero_le _,by simp,rfl⟩ ?start ?round
 case start=>exact⟨[(FK,FK),(4,4),(6,6)],rfl,rfl,⟨⟨rfl,⟨rfl,rfl⟩,rfl⟩,⟨rfl,rfl,rfl⟩,⟨rfl,rfl,rfl⟩,⟨rfl,rfl,Nat.zero_lt_succ _,rfl,rfl⟩,.inl rfl,PLe.int (by simp),.inl rfl,trivial⟩,⟨rfl,rfl⟩,⟨rfl,rfl,⟨.inl rfl,.inl rfl,.inl rfl,rfl⟩⟩,⟨rfl,rfl,⟨.inl rfl,.inl rfl,.inl rfl,rfl⟩⟩,⟨rfl,Nat.zero_lt_succ _,rfl⟩,trivial⟩
 case round=>
  rintro⟨j,st⟩ ⟨hj,i1,i2,i3⟩
  have hj:j≤l.length:=hj
  have i1:st.length≤j:=i1
  have i2:∀x∈st,WholeP.In64 x.N:=i2
  have i3:walkG (nodF (vget cols)) [] l=walkG (nodF (vget cols)) st (l.drop j):=i3
  by_cases q:j<l.length
  ·rw[List.drop_eq_getElem_cons q,walkG_cons] at i3
   have hm:=hn _ (List.getElem_mem q)
   have hkk:=alF_kids hm.1
   by_cases g:l[j].Kids<0∨(st.length:Int)<l[j].Kids
   ·rw[if_pos g] at i3
    have hw:walkR (nodF (vget cols)) l=.error 1:=by unfold walkR;rw[i3]
    rw[hw]
    ((conv=>whnf);repeat' ((first|(with_reducible first|apply a_|apply b_|apply c_)|((with_reducible first|apply d_|apply e_|apply f_|apply g_);focus first|omega|(simp only[q_]<;>omega))|((with_reducible first|apply i_|apply h_);focus first|omega|(simp only[q_]<;>omega))|((with_reducible apply h_);focus first|decide|kernel_rfl)|refine s_ (by decide) ?_|refine t_ (by decide) ?_|(refine Idx.mapI j rfl q ?_)|with_reducible first|apply l_|apply m_|apply n_|apply o_|refine p_ (fun _=>?_) (fun _=>?_))<;>(conv=>whnf)))
    all_goals exact RetS.mk [(FK,FK)] [FK] rfl rfl (ple_ve (b:=noV) rfl rfl) ⟨⟨rfl,rfl⟩,trivial⟩
   ·rw[if_neg g] at i3
    have g1:¬l[j].Kids<0:=fun q=>g (.inl q)
    have g2:¬(st.length:Int)<l[j].Kids:=fun q=>g (.inr q)
    have pc:=s_lastv st l[j].Kids (by omega) (by omega) (by omega)
    obtain⟨ks,hks⟩:∃ks,ks=st.drop (st.length - l[j].Kids.toNat):=⟨_,rfl⟩
    have hkl:(ks.length:Int)=l[j].Kids:=by rw[hks,List.length_drop];omega
    have hin:∀x∈ks,WholeP.In64 x.N:=fun x hx=>i2 x (List.mem_of_mem_drop (by rw[hks] at hx;exact hx))
    rw[← hks] at pc i3
    have pd:=s_node cols l[j] ks hm.1 hkl hin
    have hrv:=nod_rv hL hm.1 hm.2 hin
    by_cases he:(nodV (vget cols) l[j] ks).2=0
    ·rw[show nodF (vget cols) l[j] ks=.ok (nodV (vget cols) l[j] ks).1 from if_pos he] at i3
     rw[he] at pd
     ((conv=>whnf);repeat' ((first|(with_reducible first|apply a_|apply b_|apply c_)|((with_reducible first|apply d_|apply e_|apply f_|apply g_);focus first|omega|(simp only[q_]<;>omega))|((with_reducible first|apply i_|apply h_);focus first|omega|(simp only[q_]<;>omega))|((with_reducible apply h_);focus first|decide|kernel_rfl)|refine s_ (by decide) ?_|refine t_ (by decide) ?_|(refine Idx.mapI j rfl q ?_)|(refine CallP.ret [(FK,60)] _ _ _ _ _ _ _ pc rfl rfl rfl rfl ⟨rfl,trivial⟩ ?_)|(refine CallP.ret [(FK,FK)] _ _ _ _ _ _ _ pd rfl rfl rfl rfl ⟨rfl,trivial⟩ ?_)|(refine Need.by 32 rfl (by simp only[List.length_singleton];omega) ?_)|with_reducible first|apply l_|apply m_|apply n_|apply o_|refine p_ (fun _=>?_) (fun _=>?_))<;>(conv=>whnf)))
     refine⟨(j+1,st.take (st.length - l[j].Kids.toNat)++[(nodV (vget cols) l[j] ks).1]),⟨by show j+1≤_;omega,?_,?_,i3⟩,by show l.length - (j+1)<l.length - j;omega,[(FK,FK),(4,4),(6,6),(60,54)],rfl,rfl,⟨⟨rfl,⟨rfl,rfl⟩,rfl⟩,⟨rfl,rfl,rfl⟩,⟨rfl,rfl,rfl⟩,⟨rfl,rfl,rfl,rfl,rfl,?_⟩,.inl rfl,.inl rfl,PLe.int rfl,trivial⟩,⟨rfl,rfl⟩,⟨rfl,rfl,⟨.inl rfl,.inl rfl,.inl rfl,rfl⟩⟩,⟨rfl,rfl,⟨.inl rfl,.inl rfl,.inl rfl,rfl⟩⟩,⟨rfl,rfl,rfl,?_⟩,trivial⟩
     ·show (st.take _++[_]).length≤j+1
      rw[List.length_append,List.length_take,List.length_singleton];omega
     ·intro x hx
      rcases List.mem_append.1 hx with hx | hx
      ·exact i2 x (List.mem_of_mem_take hx)
      ·rw[List.mem_singleton.1 hx];exact hrv.2
     ·show _=(st.take _++[_]).length
      rw[List.length_append,List.length_take,List.length_singleton];simp only[List.length_singleton];omega
     ·show _=(st.take _++[_]).map ValueD.c
      rw[List.map_append,List.map_take]
      have e1:((st.length:Int) - l[j].Kids).toNat=st.length - l[j].Kids.toNat:=by omega
      show (st.map ValueD.c).take ((st.length:Int) - l[j].Kids).toNat++_=_
      rw[e1];rfl
    ·rw[show nodF (vget cols) l[j] ks=.error (nodV (vget cols) l[j] ks).2 from if_neg he] at i3
     have hw:walkR (nodF (vget cols)) l=.error (nodV (vget cols) l[j] ks).2:=by unfold walkR;rw[i3]
     rw[hw]
     ((conv=>whnf);repeat' ((first|(with_reducible first|apply a_|apply b_|apply c_)|((with_reducible first|apply d_|apply e_|apply f_|apply g_);focus first|omega|(simp only[q_]<;>omega))|((with_reducible first|apply i_|apply h_);focus first|omega|(simp only[q_]<;>omega))|((with_reducible apply h_);focus first|decide|kernel_rfl)|refine s_ (by decide) ?_|refine t_ (by decide) ?_|(refine Idx.mapI j rfl q ?_)|(refine CallP.ret [(FK,60)] _ _ _ _ _ _ _ pc rfl rfl rfl rfl ⟨rfl,trivial⟩ ?_)|(refine CallP.ret [(FK,FK)] _ _ _ _ _ _ _ pd rfl rfl rfl rfl ⟨rfl,trivial⟩ ?_)|with_reducible first|apply l_|apply m_|apply n_|apply o_|refine p_ (fun _=>?_) (fun _=>?_))<;>(conv=>whnf)))
     all_goals exact RetS.mk [(FK,FK)] [FK] rfl rfl (ple_ve (b:=noV) rfl rfl) ⟨⟨rfl,rfl⟩,trivial⟩
  ·rw[List.drop_of_length_le (by omega)] at i3
   have i3:walkG (nodF (vget cols)) [] l=.ok st:=i3
   rcases st with _ | ⟨x,_ | ⟨y,r⟩⟩
   ·have hw:walkR (nodF (vget cols)) l=.error 1:=by unfold walkR;rw[i3]
    rw[hw]
    ((conv=>whnf);repeat' ((first|(with_reducible first|apply a_|apply b_|apply c_)|((with_reducible first|apply d_|apply e_|apply f_|apply g_);focus first|omega|(simp only[q_]<;>omega))|((with_reducible first|apply i_|apply h_);focus first|omega|(simp only[q_]<;>omega))|((with_reducible apply h_);focus first|decide|kernel_rfl)|refine s_ (by decide) ?_|refine t_ (by decide) ?_|with_reducible first|apply l_|apply m_|apply n_|apply o_|refine p_ (fun _=>?_) (fun _=>?_))<;>(conv=>whnf)))
    all_goals exact RetS.mk [(FK,FK)] [FK] rfl rfl (ple_ve (b:=noV) rfl rfl) ⟨⟨rfl,rfl⟩,trivial⟩
   ·have hw:walkR (nodF (vget cols)) l=.ok x:=by unfold walkR;rw[i3]
    rw[hw]
    ((conv=>whnf);repeat' ((first|(with_reducible first|apply a_|apply b_|apply c_)|((with_reducible first|apply d_|apply e_|apply f_|apply g_);focus first|omega|(simp only[q_]<;>omega))|((with_reducible first|apply i_|apply h_);focus first|omega|(simp only[q_]<;>omega))|((with_reducible apply h_);focus first|decide|kernel_rfl)|refine s_ (by decide) ?_|refine t_ (by decide) ?_|with_reducible first|apply l_|apply m_|apply n_|apply o_|refine p_ (fun _=>?_) (fun _=>?_))<;>(conv=>whnf)))
    refine Row.mk _ rfl ?_
    ((conv=>whnf);repeat' ((first|(with_reducible first|apply a_|apply b_|apply c_)|((with_reducible first|apply d_|apply e_|apply f_|apply g_);focus first|omega|(simp only[q_]<;>omega))|((with_reducible first|apply i_|apply h_);focus first|omega|(simp only[q_]<;>omega))|((with_reducible apply h_);focus first|decide|kernel_rfl)|refine s_ (by decide) ?_|refine t_ (by decide) ?_|with_reducible first|apply l_|apply m_|apply n_|apply o_|refine p_ (fun _=>?_) (fun _=>?_))<;>(conv=>whnf)))
    all_goals exact RetS.mk [(FK,FK)] [FK] rfl rfl (ple_ve (b:=x) rfl rfl) ⟨⟨rfl,rfl⟩,trivial⟩
   ·have hw:walkR (nodF (vget cols)) l=.error 1:=by unfold walkR;rw[i3]
    rw[hw]
    ((conv=>whnf);repeat' ((first|(with_reducible first|apply a_|apply b_|apply c_)|((with_reducible first|apply d_|apply e_|apply f_|apply g_);focus first|omega|(simp only[q_]<;>omega))|((with_reducible first|apply i_|apply h_);focus first|omega|(simp only[q_]<;>omega))|((with_reducible apply h_);focus first|decide|kernel_rfl)|refine s_ (by decide) ?_|refine t_ (by decide) ?_|with_reducible first|apply l_|apply m_|apply n_|apply o_|refine p_ (fun _=>?_) (fun _=>?_))<;>(conv=>whnf)))
    all_goals exact RetS.mk [(FK,FK)] [FK] rfl rfl (ple_ve (b:=noV) rfl rfl) ⟨⟨rfl,rfl⟩,trivial⟩
end
section
open Go.RowKit K
set_option maxRecDepth 100000
def dC (x:Nat):List C:=[.v (.int .i64 x)]
theorem maxL_snoc (l:List Nat) (x:Nat):maxL (l++[x])=max (maxL l) x:=by
 induction l with
 | nil=>simp[maxL]
 | cons y l ih=>rw[List.cons_append,maxL,maxL,ih];omega
theorem maxL_le:∀(l:List Nat) (b:Nat),(∀x∈l,x≤b)→maxL l≤b
 | [],_,_=>Nat.zero_le _
 | x::l,b,h=>by
  rw[maxL]
  have:=h x (List.mem_cons_self ..)
  have:=maxL_le l b fun y hy=>h y (List.mem_cons_of_mem _ hy)
  omega
theorem p_deeper (n:NodeD) (l:List Nat) (hl:l.length≤1000) (hx:∀x∈l,x≤1000000):Pure Tryz.prog 58 [nV n,slV 1 dC l] (.tup [pInt .i64 ((maxL l+1:Nat):Int),pInt .i64 0]):=by
 refine pure_of Tryz.func58 (by rfl) rfl (by kernel_rfl) (by rfl) ?_
 ((conv=>whnf);repeat' ((first|(with_reducible first|apply a_|apply b_|apply c_)|((with_reducible first|apply d_|apply e_|apply f_|apply g_);focus first|omega|(simp only[q_]<;>omega))|((with_reducible first|apply i_|apply h_);focus first|omega|(simp only[q_]<;>omega))|((with_reducible apply h_);focus first|decide|kernel_rfl)|refine s_ (by decide) ?_|refine t_ (by decide) ?_|with_reducible first|apply l_|apply m_|apply n_|apply o_|refine p_ (fun _=>?_) (fun _=>?_))<;>(conv=>whnf)))
 refine LoopC.mk Nat (fun k=>[(6,pInt .i64 (maxL (l.take k))),(9,slV 1 dC l),(10,pInt .i64 l.length),(11,pInt .i64 k)]) (fun _=>[]) [] (fun k=>k≤l.length) (fun k=>l.length - k) 0 (Nat.zero_le _) ?start ?round
 case start=>exact⟨[],rfl,rfl,⟨PLe.int rfl,.inl rfl,PLe.int (by simp),.inl rfl,trivial⟩,trivial⟩
 case round=>
  intro k hk
  by_cases h1:k<l.length
  ·have hs:=maxL_snoc (l.take k) l[k]
   rw[← take_snoc h1] at hs
   ((conv=>whnf);repeat' ((first|(with_reducible first|apply a_|apply b_|apply c_)|((with_reducible first|apply d_|apply e_|apply f_|apply g_);focus first|omega|(simp only[q_]<;>omega))|((with_reducible first|apply i_|apply h_);focus first|omega|(simp only[q_]<;>omega))|((with_reducible apply h_);focus first|decide|kernel_rfl)|refine s_ (by decide) ?_|refine t_ (by decide) ?_|(refine Idx.mapI k rfl h1 ?_)|with_reducible first|apply l_|apply m_|apply n_|apply o_|refine p_ (fun _=>?_) (fun _=>?_))<;>(conv=>whnf)))
   all_goals
    refine⟨k+1,by omega,by omega,[],rfl,rfl,⟨PLe.int (by rw[hs];(repeat' split)<;>omega),.inl rfl,.inl rfl,PLe.int (by omega),trivial⟩,trivial⟩
  ·have hm:∀l:List Nat,(∀x∈l,x≤1000000)→maxL l≤1000000:=by
    intro l
    induction l with
    | nil=>intro _;decide
    | cons x l ih=>intro h;rw[maxL];have:=h x (List.mem_cons_self ..);have:=ih fun y hy=>h y (List.mem_cons_of_mem _ hy);omega
   have:=hm l hx
   rw[List.take_of_length_le (by omega)]
   ((conv=>whnf);repeat' ((first|(with_reducible first|apply a_|apply b_|apply c_)|((with_reducible first|apply d_|apply e_|apply f_|apply g_);focus first|omega|(simp only[q_]<;>omega))|((with_reducible first|apply i_|apply h_);focus first|omega|(simp only[q_]<;>omega))|((with_reducible apply h_);focus first|decide|kernel_rfl)|refine s_ (by decide) ?_|refine t_ (by decide) ?_|with_reducible first|apply l_|apply m_|apply n_|apply o_|refine p_ (fun _=>?_) (fun _=>?_))<;>(conv=>whnf)))
   refine Ret.eq ?_
   simp
theorem p_clonei (l:List Nat) (h:l.length≤1000000):Pure Tryz.prog 82 [slV 1 dC l] (slV 1 dC l):=by
 cases l with
 | nil=>
  refine pure_sl0 ?_ fun a cap=>?_
  ·refine pure_of Tryz.func82 (by rfl) rfl (by kernel_rfl) (by rfl) ?_
   ((conv=>whnf);repeat' ((first|(with_reducible first|apply a_|apply b_|apply c_)|((with_reducible first|apply d_|apply e_|apply f_|apply g_);focus first|omega|(simp only[q_]<;>omega))|((with_reducible first|apply i_|apply h_);focus first|omega|(simp only[q_]<;>omega))|((with_reducible apply h_);focus first|decide|kernel_rfl)|refine s_ (by decide) ?_|refine t_ (by decide) ?_|with_reducible first|apply l_|apply m_|apply n_|apply o_|refine p_ (fun _=>?_) (fun _=>?_))<;>(conv=>whnf)))
   exact Ret.le (.inr ⟨⟨1,rfl⟩,.inl rfl⟩)
  ·refine pure_of Tryz.func82 (by rfl) rfl (by kernel_rfl) (by rfl) ?_
   ((conv=>whnf);repeat' ((first|(with_reducible first|apply a_|apply b_|apply c_)|((with_reducible first|apply d_|apply e_|apply f_|apply g_);focus first|omega|(simp only[q_]<;>omega))|((with_reducible first|apply i_|apply h_);focus first|omega|(simp only[q_]<;>omega))|((with_reducible apply h_);focus first|decide|kernel_rfl)|refine s_ (by decide) ?_|refine t_ (by decide) ?_|with_reducible first|apply l_|apply m_|apply n_|apply o_|refine p_ (fun _=>?_) (fun _=>?_))<;>(conv=>whnf)))
   exact Ret.mk rfl
 | cons x l=>
  refine pure_of Tryz.func82 (by rfl) rfl (by kernel_rfl) (by rfl) ?_
  ((conv=>whnf);repeat' ((first|(with_reducible first|apply a_|apply b_|apply c_)|((with_reducible first|apply d_|apply e_|apply f_|apply g_);focus first|omega|(simp only[q_]<;>omega))|((with_reducible first|apply i_|apply h_);focus first|omega|(simp only[q_]<;>omega))|((with_reducible apply h_);focus first|decide|kernel_rfl)|refine s_ (by decide) ?_|refine t_ (by decide) ?_|(refine Need.mk (List.cons_ne_nil _ _) ?_)|(refine Need.by 8 rfl (by simp only[List.length_map,List.length_nil,Nat.zero_add];omega) ?_)|with_reducible first|apply l_|apply m_|apply n_|apply o_|refine p_ (fun _=>?_) (fun _=>?_))<;>(conv=>whnf)))
  exact Ret.mk rfl
theorem s_clonei (l:List Nat) (lo n:Nat) (h:lo+n≤l.length) (hn:n≠0) (hz:l.length≤1000000):CallS Tryz.prog 82 [.d (.arr FK 3 1 lo n)] [(FK,.arr 3 1 (l.map dC))] [] (slV 1 dC ((l.drop lo).take n)) []:=by
 refine callS_of Tryz.func82 (by rfl) rfl (by kernel_rfl) (by rfl) [FK] rfl ?_
 ((conv=>whnf);repeat' ((first|(with_reducible first|apply a_|apply b_|apply c_)|((with_reducible first|apply d_|apply e_|apply f_|apply g_);focus first|omega|(simp only[q_]<;>omega))|((with_reducible first|apply i_|apply h_);focus first|omega|(simp only[q_]<;>omega))|((with_reducible apply h_);focus first|decide|kernel_rfl)|refine s_ (by decide) ?_|refine t_ (by decide) ?_|(refine Need.mk hn ?_)|(refine Need.mk (by rw[List.length_map];exact h) ?_)|(refine Need.by 8 rfl (by simp only[List.length_nil,Nat.zero_add];omega) ?_)|with_reducible first|apply l_|apply m_|apply n_|apply o_|refine p_ (fun _=>?_) (fun _=>?_))<;>(conv=>whnf)))
 refine RetS.mk [(FK,FK)] [FK] rfl rfl ?_ ?_
 ·show C.sl 1 _=C.sl 1 _
  rw[List.map_take,List.map_drop];rfl
 ·exact⟨⟨rfl,rfl,rfl,rfl⟩,trivial⟩
theorem s_lasti (st:List Nat) (K:Int) (h0:0≤K) (h1:K≤st.length) (hz:st.length≤1000000):CallS Tryz.prog 82 [.d (.arr FK 3 1 (0+((st.length:Int) - K).toNat) (((st.length:Nat):Int).toNat - ((st.length:Int) - K).toNat))] [(FK,.arr 3 1 (st.map dC))] [] (slV 1 dC (st.drop (st.length - K.toNat))) []:=by
 have e1:0+((st.length:Int) - K).toNat=st.length - K.toNat:=by omega
 have e2:((st.length:Nat):Int).toNat - ((st.length:Int) - K).toNat=K.toNat:=by omega
 rw[e1,e2]
 by_cases k0:K=0
 ·subst k0
  rw[show st.drop (st.length - (0:Int).toNat)=[] from List.drop_of_length_le (by simp)]
  exact (p_clonei [] (by simp)).empty1
 ·have:=s_clonei st (st.length - K.toNat) K.toNat (by omega) (by omega) hz
  rwa [List.take_of_length_le (by rw[List.length_drop];omega)] at this
def wiE (l:List NodeD) (j:Nat) (st:List Nat):List (Nat×PV):=[(1,fnV 58),(6,pInt .i64 0),(7,.d (.arr 60 3 1 0 st.length)),(13,slV 6 NodeD.c l),(14,pInt .i64 l.length),(15,pInt .i64 j)]
def eInt2 (r:Except Int Nat):PV:=match r with
 | .ok d=>.tup [pInt .i64 d,pInt .i64 0]
 | .error x=>.tup [pInt .i64 0,pInt .i64 x]
theorem p_walki (l:List NodeD) (hl:l.length≤1000):Pure Tryz.prog 57 [slV 6 NodeD.c l,fnV 58] (eInt2 (walkR deepF l)):=by
 refine pure_of Tryz.func57 (by rfl) rfl (by kernel_rfl) (by rfl) ?_
 ((conv=>whnf);repeat' ((first|(with_reducible first|apply a_|apply b_|apply c_)|((with_reducible first|apply d_|apply e_|apply f_|apply g_);focus first|omega|(simp only[q_]<;>omega))|((with_reducible first|apply i_|apply h_);focus first|omega|(simp only[q_]<;>omega))|((with_reducible apply h_);focus first|decide|kernel_rfl)|refine s_ (by decide) ?_|refine t_ (by decide) ?_|with_reducible first|apply l_|apply m_|apply n_|apply o_|refine p_ (fun _=>?_) (fun _=>?_))<;>(conv=>whnf)))
 refine LoopC.mk (Nat×List Nat) (fun s=>wiE l s.1 s.2) (fun s=>[(60,.arr 3 1 (s.2.map dC))]) [60] (fun s=>s.1≤l.length∧s.2.length≤s.1∧(∀x∈s.2,x≤s.1)∧walkG deepF [] l=walkG deepF s.2 (l.drop s.1)) (fun s=>l.length - s.1) (0,[]) ⟨Nat.zero_le _,Nat.zero_le _,by simp,rfl⟩ ?start ?round
 case start=>exact⟨[],rfl,rfl,⟨.inl rfl,.inl rfl,⟨rfl,rfl,Nat.zero_lt_succ _,rfl,rfl⟩,.inl rfl,PLe.int (by simp),.inl rfl,trivial⟩,⟨rfl,Nat.zero_lt_succ _,rfl⟩,trivial⟩
 case round=>
  rintro⟨j,st⟩ ⟨hj,i1,i2,i3⟩
  have hj:j≤l.length:=hj
  have i1:st.length≤j:=i1
  have i2:∀x∈st,x≤j:=i2
  have i3:walkG deepF [] l=walkG deepF st (l.drop j):=i3
  by_cases q:j<l.length
  ·rw[List.drop_eq_getElem_cons q,walkG_cons] at i3
   by_cases g:l[j].Kids<0∨(st.length:Int)<l[j].Kids
   ·rw[if_pos g] at i3
    have hw:walkR deepF l=.error 1:=by unfold walkR;rw[i3]
    rw[hw]
    ((conv=>whnf);repeat' ((first|(with_reducible first|apply a_|apply b_|apply c_)|((with_reducible first|apply d_|apply e_|apply f_|apply g_);focus first|omega|(simp only[q_]<;>omega))|((with_reducible first|apply i_|apply h_);focus first|omega|(simp only[q_]<;>omega))|((with_reducible apply h_);focus first|decide|kernel_rfl)|refine s_ (by decide) ?_|refine t_ (by decide) ?_|(refine Idx.mapI j rfl q ?_)|with_reducible first|apply l_|apply m_|apply n_|apply o_|refine p_ (fun _=>?_) (fun _=>?_))<;>(conv=>whnf)))
    all_goals exact Ret.eq rfl
   ·rw[if_neg g] at i3
    have g1:¬l[j].Kids<0:=fun q=>g (.inl q)
    have g2:¬(st.length:Int)<l[j].Kids:=fun q=>g (.inr q)
    have pc:=s_lasti st l[j].Kids (by omega) (by omega) (by omega)
    have pd:=p_deeper l[j] (st.drop (st.length - l[j].Kids.toNat)) (by rw[List.length_drop];omega) (fun x hx=>by have:=i2 x (List.mem_of_mem_drop hx);omega)
    ((conv=>whnf);repeat' ((first|(with_reducible first|apply a_|apply b_|apply c_)|((with_reducible first|apply d_|apply e_|apply f_|apply g_);focus first|omega|(simp only[q_]<;>omega))|((with_reducible first|apply i_|apply h_);focus first|omega|(simp only[q_]<;>omega))|((with_reducible apply h_);focus first|decide|kernel_rfl)|refine s_ (by decide) ?_|refine t_ (by decide) ?_|(refine Idx.mapI j rfl q ?_)|(refine CallP.ret [(FK,60)] _ _ _ _ _ _ _ pc rfl rfl rfl rfl ⟨rfl,trivial⟩ ?_)|refine r_ pd rfl ?_|(refine Need.by 8 rfl (by simp only[List.length_singleton];omega) ?_)|with_reducible first|apply l_|apply m_|apply n_|apply o_|refine p_ (fun _=>?_) (fun _=>?_))<;>(conv=>whnf)))
    have hx1:∀x∈st.drop (st.length - l[j].Kids.toNat),x≤j:=fun x hx=>i2 x (List.mem_of_mem_drop hx)
    have hx2:=maxL_le _ _ hx1
    refine⟨(j+1,st.take (st.length - l[j].Kids.toNat)++[maxL (st.drop (st.length - l[j].Kids.toNat))+1]),⟨by show j+1≤_;omega,?_,?_,i3⟩,by show l.length - (j+1)<l.length - j;omega,[(60,54)],rfl,rfl,⟨.inl rfl,.inl rfl,⟨rfl,rfl,rfl,rfl,rfl,?_⟩,.inl rfl,.inl rfl,PLe.int rfl,trivial⟩,⟨rfl,rfl,rfl,?_⟩,trivial⟩
    ·show (st.take _++[_]).length≤j+1
     rw[List.length_append,List.length_take,List.length_singleton];omega
    ·intro x hx
     show x≤j+1
     rcases List.mem_append.1 hx with hx | hx
     ·have:=i2 x (List.mem_of_mem_take hx);omega
     ·rw[List.mem_singleton.1 hx];omega
    ·show _=(st.take _++[_]).length
     rw[List.length_append,List.length_take,List.length_singleton];simp only[List.length_singleton];omega
    ·show _=(st.take _++[_]).map dC
     rw[List.map_append,List.map_take]
     have e1:((st.length:Int) - l[j].Kids).toNat=st.length - l[j].Kids.toNat:=by omega
     show (st.map dC).take ((st.length:Int) - l[j].Kids).toNat++_=_
     rw[e1];rfl
  ·rw[List.drop_of_length_le (by omega)] at i3
   have i3:walkG deepF [] l=.ok st:=i3
   rcases st with _ | ⟨x,_ | ⟨y,r⟩⟩
   ·have hw:walkR deepF l=.error 1:=by unfold walkR;rw[i3]
    rw[hw]
    ((conv=>whnf);repeat' ((first|(with_reducible first|apply a_|apply b_|apply c_)|((with_reducible first|apply d_|apply e_|apply f_|apply g_);focus first|omega|(simp only[q_]<;>omega))|((with_reducible first|apply i_|apply h_);focus first|omega|(simp only[q_]<;>omega))|((with_reducible apply h_);focus first|decide|kernel_rfl)|refine s_ (by decide) ?_|refine t_ (by decide) ?_|with_reducible first|apply l_|apply m_|apply n_|apply o_|refine p_ (fun _=>?_) (fun _=>?_))<;>(conv=>whnf)))
    all_goals exact Ret.eq rfl
   ·have hw:walkR deepF l=.ok x:=by unfold walkR;rw[i3]
    rw[hw]
    ((conv=>whnf);repeat' ((first|(with_reducible first|apply a_|apply b_|apply c_)|((with_reducible first|apply d_|apply e_|apply f_|apply g_);focus first|omega|(simp only[q_]<;>omega))|((with_reducible first|apply i_|apply h_);focus first|omega|(simp only[q_]<;>omega))|((with_reducible apply h_);focus first|decide|kernel_rfl)|refine s_ (by decide) ?_|refine t_ (by decide) ?_|with_reducible first|apply l_|apply m_|apply n_|apply o_|refine p_ (fun _=>?_) (fun _=>?_))<;>(conv=>whnf)))
    refine Row.mk _ rfl ?_
    ((conv=>whnf);repeat' ((first|(with_reducible first|apply a_|apply b_|apply c_)|((with_reducible first|apply d_|apply e_|apply f_|apply g_);focus first|omega|(simp only[q_]<;>omega))|((with_reducible first|apply i_|apply h_);focus first|omega|(simp only[q_]<;>omega))|((with_reducible apply h_);focus first|decide|kernel_rfl)|refine s_ (by decide) ?_|refine t_ (by decide) ?_|with_reducible first|apply l_|apply m_|apply n_|apply o_|refine p_ (fun _=>?_) (fun _=>?_))<;>(conv=>whnf)))
    all_goals exact Ret.eq rfl
   ·have hw:walkR deepF l=.error 1:=by unfold walkR;rw[i3]
    rw[hw]
    ((conv=>whnf);repeat' ((first|(with_reducible first|apply a_|apply b_|apply c_)|((with_reducible first|apply d_|apply e_|apply f_|apply g_);focus first|omega|(simp only[q_]<;>omega))|((with_reducible first|apply i_|apply h_);focus first|omega|(simp only[q_]<;>omega))|((with_reducible apply h_);focus first|decide|kernel_rfl)|refine s_ (by decide) ?_|refine t_ (by decide) ?_|with_reducible first|apply l_|apply m_|apply n_|apply o_|refine p_ (fun _=>?_) (fun _=>?_))<;>(conv=>whnf)))
    all_goals exact Ret.eq rfl
end
section
open Go.RowKit K
set_option maxRecDepth 100000
theorem chk_ok {l:List NodeD} (h:chkO 0 l=0):walkR deepF l=.ok (depthE l):=by
 obtain⟨x,hx⟩:=chk_walk (fun _ ks=>maxL ks+1) l [] h
 have hx:walkR deepF l=.ok x:=by
  unfold walkR
  rw[show walkG deepF [] l=.ok [x] from hx]
 rw[hx]
 unfold depthE
 rw[hx]
theorem p_echeck (l:List NodeD) (hn:∀n∈l,okText n.Name):Pure Tryz.prog 36 [slV 6 NodeD.c l] (pInt .i64 (checkF l)):=by
 refine pure_of Tryz.func36 (by rfl) rfl (by kernel_rfl) (by rfl) ?_
 by_cases h60:60<l.length
 ·rw[show checkF l=2 from if_pos h60]
  ((conv=>whnf);repeat' ((first|(with_reducible first|apply a_|apply b_|apply c_)|((with_reducible first|apply d_|apply e_|apply f_|apply g_);focus first|omega|(simp only[q_]<;>omega))|((with_reducible first|apply i_|apply h_);focus first|omega|(simp only[q_]<;>omega))|((with_reducible apply h_);focus first|decide|kernel_rfl)|refine s_ (by decide) ?_|refine t_ (by decide) ?_|with_reducible first|apply l_|apply m_|apply n_|apply o_|refine p_ (fun _=>?_) (fun _=>?_))<;>(conv=>whnf)))
  exact Ret.int rfl
 ·((conv=>whnf);repeat' ((first|(with_reducible first|apply a_|apply b_|apply c_)|((with_reducible first|apply d_|apply e_|apply f_|apply g_);focus first|omega|(simp only[q_]<;>omega))|((with_reducible first|apply i_|apply h_);focus first|omega|(simp only[q_]<;>omega))|((with_reducible apply h_);focus first|decide|kernel_rfl)|refine s_ (by decide) ?_|refine t_ (by decide) ?_|with_reducible first|apply l_|apply m_|apply n_|apply o_|refine p_ (fun _=>?_) (fun _=>?_))<;>(conv=>whnf)))
  refine LoopC.mk (Nat×Nat) (fun s=>[(0,slV 6 NodeD.c l),(3,pInt .i64 s.2),(12,slV 6 NodeD.c l),(13,pInt .i64 l.length),(14,pInt .i64 s.1)]) (fun _=>[]) [] (fun s=>s.1≤l.length∧s.2≤s.1∧chkO 0 l=chkO s.2 (l.drop s.1)) (fun s=>l.length - s.1) (0,0) ⟨Nat.zero_le _,Nat.zero_le _,rfl⟩ ?start ?round
  case start=>exact⟨[],rfl,rfl,⟨.inl rfl,.inl rfl,.inl rfl,PLe.int (by simp),.inl rfl,trivial⟩,trivial⟩
  case round=>
   rintro⟨j,o⟩ ⟨hj,i1,i2⟩
   have hj:j≤l.length:=hj
   have i1:o≤j:=i1
   have i2:chkO 0 l=chkO o (l.drop j):=i2
   by_cases q:j<l.length
   ·have hm:=List.getElem_mem q
    have pa:=p_alone l[j] (hn _ hm)
    rw[List.drop_eq_getElem_cons q,chkO_cons] at i2
    by_cases g:alF l[j]=0
    ·have hk:=alF_kids g
     rw[if_neg (by rw[g];decide)] at i2
     rw[g] at pa
     by_cases g2:(o:Int)<l[j].Kids
     ·rw[if_pos g2] at i2
      have hc:checkF l=1:=by unfold checkF;rw[if_neg h60,if_pos (by rw[i2];decide),i2]
      rw[hc]
      ((conv=>whnf);repeat' ((first|(with_reducible first|apply a_|apply b_|apply c_)|((with_reducible first|apply d_|apply e_|apply f_|apply g_);focus first|omega|(simp only[q_]<;>omega))|((with_reducible first|apply i_|apply h_);focus first|omega|(simp only[q_]<;>omega))|((with_reducible apply h_);focus first|decide|kernel_rfl)|refine s_ (by decide) ?_|refine t_ (by decide) ?_|(refine Idx.mapI j rfl q ?_)|refine r_ pa rfl ?_|with_reducible first|apply l_|apply m_|apply n_|apply o_|refine p_ (fun _=>?_) (fun _=>?_))<;>(conv=>whnf)))
      all_goals exact Ret.int rfl
     ·rw[if_neg g2] at i2
      ((conv=>whnf);repeat' ((first|(with_reducible first|apply a_|apply b_|apply c_)|((with_reducible first|apply d_|apply e_|apply f_|apply g_);focus first|omega|(simp only[q_]<;>omega))|((with_reducible first|apply i_|apply h_);focus first|omega|(simp only[q_]<;>omega))|((with_reducible apply h_);focus first|decide|kernel_rfl)|refine s_ (by decide) ?_|refine t_ (by decide) ?_|(refine Idx.mapI j rfl q ?_)|refine r_ pa rfl ?_|with_reducible first|apply l_|apply m_|apply n_|apply o_|refine p_ (fun _=>?_) (fun _=>?_))<;>(conv=>whnf)))
      refine⟨(j+1,o+1 - l[j].Kids.toNat),⟨by show j+1≤_;omega,by show o+1 - _≤j+1;omega,i2⟩,by show l.length - (j+1)<l.length - j;omega,[],rfl,rfl,⟨.inl rfl,PLe.int ?_,.inl rfl,.inl rfl,PLe.int rfl,trivial⟩,trivial⟩
      show _=((o+1 - l[j].Kids.toNat:Nat):Int)
      omega
    ·rw[if_pos g] at i2
     have hc:checkF l=alF l[j]:=by unfold checkF;rw[if_neg h60,if_pos (by rw[i2];exact g),i2]
     rw[hc]
     ((conv=>whnf);repeat' ((first|(with_reducible first|apply a_|apply b_|apply c_)|((with_reducible first|apply d_|apply e_|apply f_|apply g_);focus first|omega|(simp only[q_]<;>omega))|((with_reducible first|apply i_|apply h_);focus first|omega|(simp only[q_]<;>omega))|((with_reducible apply h_);focus first|decide|kernel_rfl)|refine s_ (by decide) ?_|refine t_ (by decide) ?_|(refine Idx.mapI j rfl q ?_)|refine r_ pa rfl ?_|with_reducible first|apply l_|apply m_|apply n_|apply o_|refine p_ (fun _=>?_) (fun _=>?_))<;>(conv=>whnf)))
     all_goals exact Ret.int rfl
   ·rw[List.drop_of_length_le (by omega)] at i2
    have i2:chkO 0 l=if o≠1 then 1 else 0:=i2
    by_cases g:o=1
    ·rw[if_neg (by omega)] at i2
     have pw:=p_walki l (by omega)
     rw[chk_ok i2] at pw
     have pw:Pure _ _ _ (.tup [pInt .i64 (depthE l),pInt .i64 0]):=pw
     have hc:checkF l=if 12<depthE l then 10 else 0:=by unfold checkF;rw[if_neg h60,if_neg (by rw[i2];decide)]
     rw[hc]
     ((conv=>whnf);repeat' ((first|(with_reducible first|apply a_|apply b_|apply c_)|((with_reducible first|apply d_|apply e_|apply f_|apply g_);focus first|omega|(simp only[q_]<;>omega))|((with_reducible first|apply i_|apply h_);focus first|omega|(simp only[q_]<;>omega))|((with_reducible apply h_);focus first|decide|kernel_rfl)|refine s_ (by decide) ?_|refine t_ (by decide) ?_|refine r_ pw rfl ?_|with_reducible first|apply l_|apply m_|apply n_|apply o_|refine p_ (fun _=>?_) (fun _=>?_))<;>(conv=>whnf)))
     (all_goals (refine Ret.int ?_;((repeat' split)<;>first|rfl|omega)))
    ·rw[if_pos g] at i2
     have hc:checkF l=1:=by unfold checkF;rw[if_neg h60,if_pos (by rw[i2];decide),i2]
     rw[hc]
     ((conv=>whnf);repeat' ((first|(with_reducible first|apply a_|apply b_|apply c_)|((with_reducible first|apply d_|apply e_|apply f_|apply g_);focus first|omega|(simp only[q_]<;>omega))|((with_reducible first|apply i_|apply h_);focus first|omega|(simp only[q_]<;>omega))|((with_reducible apply h_);focus first|decide|kernel_rfl)|refine s_ (by decide) ?_|refine t_ (by decide) ?_|with_reducible first|apply l_|apply m_|apply n_|apply o_|refine p_ (fun _=>?_) (fun _=>?_))<;>(conv=>whnf)))
     all_goals exact Ret.int rfl
end
section
open Go.RowKit K
set_option maxRecDepth 100000
theorem look_sc (cols:List (List UInt8)) (row:List ValueD):vget (scM cols row)=lookC cols row:=funext fun s=>vget_scM cols row s
theorem lookC_mem:∀(cols:List (List UInt8)) (row:List ValueD) {s:List UInt8} {v:ValueD},lookC cols row s=some v→v∈row
 | [],row,s,v,h=>by cases row<;>cases h
 | _::_,[],s,v,h=>by cases h
 | c::cs,x::xs,s,v,h=>by
  unfold lookC at h
  split at h
  ·cases h;exact List.mem_cons_self ..
  ·exact List.mem_cons_of_mem _ (lookC_mem cs xs h)
theorem look_ok {cols:List (List UInt8)} {row:List ValueD} (h:∀v∈row,RV v):LookOk (lookC cols row):=fun s v hv=>h v (lookC_mem cols row hv)
def NIn (l:List NodeD):Prop:=∀n∈l,alF n=0∧WholeP.In64 n.V.N
theorem p_raw (l:List NodeD) (hl:l.length≤1000) (hn:NIn l) (cols:List (List UInt8)) (row:List ValueD) (hc:cols.length=row.length) (hcl:cols.length≤1000000) (hr:∀v∈row,RV v) :
  Pure Tryz.prog 77 [slV 6 NodeD.c l,slV 1 eText cols,slV 3 ValueD.c row] (eVal (walkR (nodF (lookC cols row)) l)):=by
 have ps:=s_scoped cols row hc hcl
 have pw:=s_walkv (scM cols row) (by rw[look_sc];exact look_ok hr) l hl hn
 rw[look_sc] at pw
 refine pure_of Tryz.func77 (by rfl) rfl (by kernel_rfl) (by rfl) ?_
 cases hw:walkR (nodF (lookC cols row)) l with
 | ok v=>
  rw[hw] at pw
  ((conv=>whnf);repeat' ((first|(with_reducible first|apply a_|apply b_|apply c_)|((with_reducible first|apply d_|apply e_|apply f_|apply g_);focus first|omega|(simp only[q_]<;>omega))|((with_reducible first|apply i_|apply h_);focus first|omega|(simp only[q_]<;>omega))|((with_reducible apply h_);focus first|decide|kernel_rfl)|refine s_ (by decide) ?_|refine t_ (by decide) ?_|(refine CallP.ret [(NK,11)] _ _ _ _ _ _ _ ps rfl rfl rfl rfl trivial ?_)|(refine CallP.ret [(FK,11)] _ _ _ _ _ _ _ pw rfl rfl rfl rfl ⟨rfl,trivial⟩ ?_)|with_reducible first|apply l_|apply m_|apply n_|apply o_|refine p_ (fun _=>?_) (fun _=>?_))<;>(conv=>whnf)))
  exact Ret.eq rfl
 | error x=>
  rw[hw] at pw
  ((conv=>whnf);repeat' ((first|(with_reducible first|apply a_|apply b_|apply c_)|((with_reducible first|apply d_|apply e_|apply f_|apply g_);focus first|omega|(simp only[q_]<;>omega))|((with_reducible first|apply i_|apply h_);focus first|omega|(simp only[q_]<;>omega))|((with_reducible apply h_);focus first|decide|kernel_rfl)|refine s_ (by decide) ?_|refine t_ (by decide) ?_|(refine CallP.ret [(NK,11)] _ _ _ _ _ _ _ ps rfl rfl rfl rfl trivial ?_)|(refine CallP.ret [(FK,11)] _ _ _ _ _ _ _ pw rfl rfl rfl rfl ⟨rfl,trivial⟩ ?_)|with_reducible first|apply l_|apply m_|apply n_|apply o_|refine p_ (fun _=>?_) (fun _=>?_))<;>(conv=>whnf)))
  exact Ret.eq rfl
def truR (r:Except Int ValueD):Int×Int:=match r with
 | .ok v=>meaV v
 | .error x=>(0,x)
theorem p_rawtruth_of {l:List NodeD} {cols:List (List UInt8)} {row:List ValueD} {r:Except Int ValueD} (hr:∀x,r=.error x→x≠0) (p:Pure Tryz.prog 77 [slV 6 NodeD.c l,slV 1 eText cols,slV 3 ValueD.c row] (eVal r)) :
  Pure Tryz.prog 60 [slV 6 NodeD.c l,slV 1 eText cols,slV 3 ValueD.c row] (.tup [pInt .i64 (truR r).1,pInt .i64 (truR r).2]):=by
 refine pure_of Tryz.func60 (by rfl) rfl (by kernel_rfl) (by rfl) ?_
 cases r with
 | ok v=>
  have pm:=p_meant v
  have p:Pure _ _ _ (.tup [vV v,pInt .i64 0]):=p
  ((conv=>whnf);repeat' ((first|(with_reducible first|apply a_|apply b_|apply c_)|((with_reducible first|apply d_|apply e_|apply f_|apply g_);focus first|omega|(simp only[q_]<;>omega))|((with_reducible first|apply i_|apply h_);focus first|omega|(simp only[q_]<;>omega))|((with_reducible apply h_);focus first|decide|kernel_rfl)|refine s_ (by decide) ?_|refine t_ (by decide) ?_|refine r_ p rfl ?_|refine r_ pm rfl ?_|with_reducible first|apply l_|apply m_|apply n_|apply o_|refine p_ (fun _=>?_) (fun _=>?_))<;>(conv=>whnf)))
  exact Ret.eq rfl
 | error x=>
  have p:Pure _ _ _ (.tup [vV noV,pInt .i64 x]):=p
  have h0:=hr x rfl
  ((conv=>whnf);repeat' ((first|(with_reducible first|apply a_|apply b_|apply c_)|((with_reducible first|apply d_|apply e_|apply f_|apply g_);focus first|omega|(simp only[q_]<;>omega))|((with_reducible first|apply i_|apply h_);focus first|omega|(simp only[q_]<;>omega))|((with_reducible apply h_);focus first|decide|kernel_rfl)|refine s_ (by decide) ?_|refine t_ (by decide) ?_|refine r_ p rfl ?_|with_reducible first|apply l_|apply m_|apply n_|apply o_|refine p_ (fun _=>?_) (fun _=>?_))<;>(conv=>whnf)))
  all_goals first|exact Ret.eq rfl | (exfalso;omega)
def scopeE (e:List NodeD) (cols:List (List UInt8)) (row:List ValueD):Int:=if checkF e≠0 then checkF e else if 8<cols.length then 2 else if cols.length≠row.length then 1 else vChkAll row
noncomputable def evalF (e:List NodeD) (cols:List (List UInt8)) (row:List ValueD):Except Int ValueD:=if scopeE e cols row≠0 then .error (scopeE e cols row) else walkR (nodF (lookC cols row)) e
theorem p_evcheck (e:List NodeD) (hn:∀n∈e,okText n.Name) (cols:List (List UInt8)) (row:List ValueD) (hr:row.length≤140737488355328):Pure Tryz.prog 59 [slV 6 NodeD.c e,slV 1 eText cols,slV 3 ValueD.c row] (pInt .i64 (scopeE e cols row)):=by
 have pe:=p_echeck e hn
 have pc:=p_checkall row hr
 refine pure_of Tryz.func59 (by rfl) rfl (by kernel_rfl) (by rfl) ?_
 unfold scopeE
 by_cases h1:checkF e=0
 ·rw[if_neg (by rw[h1];decide)]
  rw[h1] at pe
  by_cases h2:8<cols.length
  ·rw[if_pos h2]
   ((conv=>whnf);repeat' ((first|(with_reducible first|apply a_|apply b_|apply c_)|((with_reducible first|apply d_|apply e_|apply f_|apply g_);focus first|omega|(simp only[q_]<;>omega))|((with_reducible first|apply i_|apply h_);focus first|omega|(simp only[q_]<;>omega))|((with_reducible apply h_);focus first|decide|kernel_rfl)|refine s_ (by decide) ?_|refine t_ (by decide) ?_|refine r_ pe rfl ?_|with_reducible first|apply l_|apply m_|apply n_|apply o_|refine p_ (fun _=>?_) (fun _=>?_))<;>(conv=>whnf)))
   all_goals first|exact Ret.int rfl | (exfalso;omega)
  ·rw[if_neg h2]
   by_cases h3:cols.length=row.length
   ·rw[if_neg (by omega)]
    ((conv=>whnf);repeat' ((first|(with_reducible first|apply a_|apply b_|apply c_)|((with_reducible first|apply d_|apply e_|apply f_|apply g_);focus first|omega|(simp only[q_]<;>omega))|((with_reducible first|apply i_|apply h_);focus first|omega|(simp only[q_]<;>omega))|((with_reducible apply h_);focus first|decide|kernel_rfl)|refine s_ (by decide) ?_|refine t_ (by decide) ?_|refine r_ pe rfl ?_|refine r_ pc rfl ?_|with_reducible first|apply l_|apply m_|apply n_|apply o_|refine p_ (fun _=>?_) (fun _=>?_))<;>(conv=>whnf)))
    all_goals first|exact Ret.int rfl | (exfalso;omega)
   ·rw[if_pos h3]
    ((conv=>whnf);repeat' ((first|(with_reducible first|apply a_|apply b_|apply c_)|((with_reducible first|apply d_|apply e_|apply f_|apply g_);focus first|omega|(simp only[q_]<;>omega))|((with_reducible first|apply i_|apply h_);focus first|omega|(simp only[q_]<;>omega))|((with_reducible apply h_);focus first|decide|kernel_rfl)|refine s_ (by decide) ?_|refine t_ (by decide) ?_|refine r_ pe rfl ?_|with_reducible first|apply l_|apply m_|apply n_|apply o_|refine p_ (fun _=>?_) (fun _=>?_))<;>(conv=>whnf)))
    all_goals first|exact Ret.int rfl | (exfalso;omega)
 ·rw[if_pos h1]
  ((conv=>whnf);repeat' ((first|(with_reducible first|apply a_|apply b_|apply c_)|((with_reducible first|apply d_|apply e_|apply f_|apply g_);focus first|omega|(simp only[q_]<;>omega))|((with_reducible first|apply i_|apply h_);focus first|omega|(simp only[q_]<;>omega))|((with_reducible apply h_);focus first|decide|kernel_rfl)|refine s_ (by decide) ?_|refine t_ (by decide) ?_|refine r_ pe rfl ?_|with_reducible first|apply l_|apply m_|apply n_|apply o_|refine p_ (fun _=>?_) (fun _=>?_))<;>(conv=>whnf)))
  all_goals first|exact Ret.int rfl | (exfalso;omega)
theorem scope_ok {e:List NodeD} {cols:List (List UInt8)} {row:List ValueD} (h:scopeE e cols row=0):checkF e=0∧cols.length≤8∧cols.length=row.length∧∀v∈row,OkV v:=by
 unfold scopeE at h
 split at h
 ·rename_i q;exact absurd h q
 ·rename_i q
  split at h
  ·cases h
  ·split at h
   ·cases h
   ·exact⟨Decidable.of_not_not q,by omega,by omega,fun v hv=>vChkAll_ok.1 h v hv⟩
theorem check_all {e:List NodeD} (h:checkF e=0):e.length≤60∧∀n∈e,alF n=0:=by
 unfold checkF at h
 split at h
 ·cases h
 ·split at h
  ·rename_i q;exact absurd h q
  ·rename_i q
   exact⟨by omega,chk_all e 0 (Decidable.of_not_not q)⟩
abbrev hNode (n:NodeD):Prop:=okText n.Name∧WholeP.In64 n.V.N
theorem nodF_err {look:Look} {n:NodeD} {k:List ValueD} {x:Int} (h:nodF look n k=.error x):x≠0:=by
 unfold nodF at h
 split at h
 ·cases h
 ·rename_i q;cases h;exact q
theorem walkG_err {α:Type} {f:NodeD→List α→Except Int α} (hf:∀n k x,f n k=.error x→x≠0):∀(l:List NodeD) (st:List α) {x:Int},walkG f st l=.error x→x≠0
 | [],st,x,h=>by cases h
 | n::l,st,x,h=>by
  rw[walkG_cons] at h
  split at h
  ·cases h;decide
  ·split at h
   ·rename_i y hy;cases h;exact hf _ _ _ hy
   ·exact walkG_err hf l _ h
theorem walkR_err {α:Type} {f:NodeD→List α→Except Int α} (hf:∀n k x,f n k=.error x→x≠0) {l:List NodeD} {x:Int} (h:walkR f l=.error x):x≠0:=by
 unfold walkR at h
 split at h
 ·rename_i y hy;cases h;exact walkG_err hf _ _ hy
 ·cases h
 ·cases h;decide
theorem p_eval (e:List NodeD) (hn:∀n∈e,hNode n) (cols:List (List UInt8)) (row:List ValueD) (hr:row.length≤140737488355328) (hv:∀v∈row,WholeP.In64 v.N):Pure Tryz.prog 52 [slV 6 NodeD.c e,slV 1 eText cols,slV 3 ValueD.c row] (eVal (evalF e cols row)):=by
 have pc:=p_evcheck e (fun n h=>(hn n h).1) cols row hr
 refine pure_of Tryz.func52 (by rfl) rfl (by kernel_rfl) (by rfl) ?_
 unfold evalF
 by_cases h:scopeE e cols row=0
 ·rw[if_neg (by rw[h];decide)]
  rw[h] at pc
  obtain⟨h1,h2,h3,h4⟩:=scope_ok h
  obtain⟨h5,h6⟩:=check_all h1
  have pr:=p_raw e (by omega) (fun n hm=>⟨h6 n hm,(hn n hm).2⟩) cols row h3 (by omega) (fun v hm=>⟨h4 v hm,hv v hm⟩)
  cases hw:walkR (nodF (lookC cols row)) e with
  | ok v=>
   rw[hw] at pr
   have pr:Pure _ _ _ (.tup [vV v,pInt .i64 0]):=pr
   ((conv=>whnf);repeat' ((first|(with_reducible first|apply a_|apply b_|apply c_)|((with_reducible first|apply d_|apply e_|apply f_|apply g_);focus first|omega|(simp only[q_]<;>omega))|((with_reducible first|apply i_|apply h_);focus first|omega|(simp only[q_]<;>omega))|((with_reducible apply h_);focus first|decide|kernel_rfl)|refine s_ (by decide) ?_|refine t_ (by decide) ?_|refine r_ pc rfl ?_|refine r_ pr rfl ?_|with_reducible first|apply l_|apply m_|apply n_|apply o_|refine p_ (fun _=>?_) (fun _=>?_))<;>(conv=>whnf)))
   exact Ret.eq rfl
  | error x=>
   rw[hw] at pr
   have pr:Pure _ _ _ (.tup [vV noV,pInt .i64 x]):=pr
   ((conv=>whnf);repeat' ((first|(with_reducible first|apply a_|apply b_|apply c_)|((with_reducible first|apply d_|apply e_|apply f_|apply g_);focus first|omega|(simp only[q_]<;>omega))|((with_reducible first|apply i_|apply h_);focus first|omega|(simp only[q_]<;>omega))|((with_reducible apply h_);focus first|decide|kernel_rfl)|refine s_ (by decide) ?_|refine t_ (by decide) ?_|refine r_ pc rfl ?_|refine r_ pr rfl ?_|with_reducible first|apply l_|apply m_|apply n_|apply o_|refine p_ (fun _=>?_) (fun _=>?_))<;>(conv=>whnf)))
   exact Ret.eq rfl
 ·rw[if_pos h]
  ((conv=>whnf);repeat' ((first|(with_reducible first|apply a_|apply b_|apply c_)|((with_reducible first|apply d_|apply e_|apply f_|apply g_);focus first|omega|(simp only[q_]<;>omega))|((with_reducible first|apply i_|apply h_);focus first|omega|(simp only[q_]<;>omega))|((with_reducible apply h_);focus first|decide|kernel_rfl)|refine s_ (by decide) ?_|refine t_ (by decide) ?_|refine r_ pc rfl ?_|with_reducible first|apply l_|apply m_|apply n_|apply o_|refine p_ (fun _=>?_) (fun _=>?_))<;>(conv=>whnf)))
  all_goals first|exact Ret.eq rfl | (exfalso;omega)
theorem p_truthE (e:List NodeD) (hn:∀n∈e,hNode n) (cols:List (List UInt8)) (row:List ValueD) (hr:row.length≤140737488355328) (hv:∀v∈row,WholeP.In64 v.N):Pure Tryz.prog 39 [slV 6 NodeD.c e,slV 1 eText cols,slV 3 ValueD.c row] (.tup [pInt .i64 (truR (evalF e cols row)).1,pInt .i64 (truR (evalF e cols row)).2]):=by
 have pc:=p_evcheck e (fun n h=>(hn n h).1) cols row hr
 refine pure_of Tryz.func39 (by rfl) rfl (by kernel_rfl) (by rfl) ?_
 unfold evalF
 by_cases h:scopeE e cols row=0
 ·rw[if_neg (by rw[h];decide)]
  rw[h] at pc
  obtain⟨h1,h2,h3,h4⟩:=scope_ok h
  obtain⟨h5,h6⟩:=check_all h1
  have pr:=p_rawtruth_of (r:=walkR (nodF (lookC cols row)) e) (fun x hx=>walkR_err (fun n k x=>nodF_err) hx) (p_raw e (by omega) (fun n hm=>⟨h6 n hm,(hn n hm).2⟩) cols row h3 (by omega) (fun v hm=>⟨h4 v hm,hv v hm⟩))
  ((conv=>whnf);repeat' ((first|(with_reducible first|apply a_|apply b_|apply c_)|((with_reducible first|apply d_|apply e_|apply f_|apply g_);focus first|omega|(simp only[q_]<;>omega))|((with_reducible first|apply i_|apply h_);focus first|omega|(simp only[q_]<;>omega))|((with_reducible apply h_);focus first|decide|kernel_rfl)|refine s_ (by decide) ?_|refine t_ (by decide) ?_|refine r_ pc rfl ?_|refine r_ pr rfl ?_|with_reducible first|apply l_|apply m_|apply n_|apply o_|refine p_ (fun _=>?_) (fun _=>?_))<;>(conv=>whnf)))
  exact Ret.eq rfl
 ·rw[if_pos h]
  ((conv=>whnf);repeat' ((first|(with_reducible first|apply a_|apply b_|apply c_)|((with_reducible first|apply d_|apply e_|apply f_|apply g_);focus first|omega|(simp only[q_]<;>omega))|((with_reducible first|apply i_|apply h_);focus first|omega|(simp only[q_]<;>omega))|((with_reducible apply h_);focus first|decide|kernel_rfl)|refine s_ (by decide) ?_|refine t_ (by decide) ?_|refine r_ pc rfl ?_|with_reducible first|apply l_|apply m_|apply n_|apply o_|refine p_ (fun _=>?_) (fun _=>?_))<;>(conv=>whnf)))
  all_goals first|exact Ret.eq rfl | (exfalso;omega)
end
section
open Go.RowKit K
set_option maxRecDepth 100000
set_option maxRecDepth 100000
def keepF (f:RowT→Bool×Int):List RowT→List RowT×Int
 | []=>([],0)
 | r::l=>if (f r).2≠0 then ([],(f r).2) else if (keepF f l).2≠0 then ([],(keepF f l).2) else (if (f r).1 then r::(keepF f l).1 else (keepF f l).1,0)
theorem keepF_ok {f:RowT→Bool×Int}:∀{l:List RowT},(∀r∈l,(f r).2=0)→keepF f l=(l.filter (fun r=>(f r).1),0)
 | [],_=>rfl
 | r::l,h=>by
  have ih:=keepF_ok (l:=l) fun x hx=>h x (List.mem_cons_of_mem _ hx)
  have h0:=h r List.mem_cons_self
  rw[keepF,if_neg (not_not_intro h0),ih,if_neg (show ¬(0:Int)≠0 by decide),List.filter_cons]
theorem keepF_err {f:RowT→Bool×Int}:∀{l:List RowT} {k:Nat} (hk:k<l.length),(∀r∈l.take k,(f r).2=0)→(f l[k]).2≠0→keepF f l=([],(f l[k]).2)
 | r::l,0,hk,_,h=>by rw[keepF];exact if_pos h
 | r::l,k+1,hk,hp,h=>by
  have hk':k<l.length:=by simpa using hk
  have h':(f l[k]).2≠0:=h
  have ih:=keepF_err (l:=l) (k:=k) hk' (fun x hx=>hp x (by rw[List.take_succ_cons];exact List.mem_cons_of_mem _ hx)) h'
  rw[keepF,if_neg (not_not_intro (hp r (by rw[List.take_succ_cons];exact List.mem_cons_self))),ih]
  exact if_pos h'
theorem filter_snoc {f:RowT→Bool} {l:List RowT} {k:Nat} (h:k<l.length):(l.take (k+1)).filter f=if f l[k] then (l.take k).filter f++[l[k]] else (l.take k).filter f:=by
 rw[take_snoc h,List.filter_append,List.filter_cons,List.filter_nil]
 cases f l[k]<;>simp
noncomputable def truF (e:List NodeD) (cols:List (List UInt8)) (r:RowT):Bool×Int:=(decide ((truR (evalF e cols r)).1=2),(truR (evalF e cols r)).2)
abbrev eBx (e:List NodeD):HB:=.box 33 [.c (.sl 6 (e.map NodeD.c))]
abbrev cBx (cols:List (List UInt8)):HB:=.box 32 [.c (.sl 1 (cols.map eText))]
theorem s_filter1 (e:List NodeD) (hn:∀n∈e,hNode n) (cols:List (List UInt8)) (row:RowT) (hr:row.length≤140737488355328) (hv:∀v∈row,WholeP.In64 v.N):CallS Tryz.prog 38 [slV 3 ValueD.c row,.d (.ptr FK 0),.d (.ptr FK1 0)] [(FK,eBx e),(FK1,cBx cols)] [] (.tup [pBool (truF e cols row).1,pInt .i64 (truF e cols row).2]) []:=by
 have pt:=p_truthE e hn cols row hr hv
 refine callS_of Tryz.func38 (by rfl) rfl (by kernel_rfl) (by rfl) [FK,FK1] rfl ?_
 ((conv=>whnf);repeat' ((first|(with_reducible first|apply a_|apply b_|apply c_)|((with_reducible first|apply d_|apply e_|apply f_|apply g_);focus first|omega|(simp only[q_]<;>omega))|((with_reducible first|apply i_|apply h_);focus first|omega|(simp only[q_]<;>omega))|((with_reducible apply h_);focus first|decide|kernel_rfl)|refine s_ (by decide) ?_|refine t_ (by decide) ?_|refine r_ pt rfl ?_|with_reducible first|apply l_|apply m_|apply n_|apply o_|refine p_ (fun _=>?_) (fun _=>?_))<;>(conv=>whnf)))
 refine RetS.mk [(FK,FK),(FK1,FK1)] [FK,FK1] rfl rfl ?_ ?_<;>(repeat' (first|exact rfl|exact trivial|exact Or.inl rfl|refine And.intro ?_ ?_))
theorem s_kept_filter (l:List RowT) (hl:l.length≤1000) (hr:∀r∈l,r.length≤1000∧∀v∈r,WholeP.In64 v.N) (e:List NodeD) (hn:∀n∈e,hNode n) (cols:List (List UInt8)):CallS Tryz.prog 37 [rwsV l,.d (.clo 38 [] [.ptr FK 0,.ptr FK1 0])] [(FK,eBx e),(FK1,cBx cols)] [] (.tup [rwsV (keepF (truF e cols) l).1,pInt .i64 (keepF (truF e cols) l).2]) []:=by
 refine callS_of Tryz.func37 (by rfl) rfl (by kernel_rfl) (by rfl) [FK,FK1] rfl ?_
 ((conv=>whnf);repeat' ((first|(with_reducible first|apply a_|apply b_|apply c_)|((with_reducible first|apply d_|apply e_|apply f_|apply g_);focus first|omega|(simp only[q_]<;>omega))|((with_reducible first|apply i_|apply h_);focus first|omega|(simp only[q_]<;>omega))|((with_reducible apply h_);focus first|decide|kernel_rfl)|refine s_ (by decide) ?_|refine t_ (by decide) ?_|with_reducible first|apply l_|apply m_|apply n_|apply o_|refine p_ (fun _=>?_) (fun _=>?_))<;>(conv=>whnf)))
 refine LoopC.mk Nat (fun k=>[(1,.d (.clo 38 [] [.ptr FK 0,.ptr FK1 0])),(6,.d (.app 60 31 1 (((l.take k).filter fun r=>(truF e cols r).1).map rowC))),(11,rwsV l),(12,pInt .i64 l.length),(13,pInt .i64 (k:Int))]) (fun _=>[(FK,eBx e),(FK1,cBx cols),(60,.tail 31 1)]) [FK,FK1,60] (fun k=>k≤l.length∧∀r∈l.take k,(truF e cols r).2=0) (fun k=>l.length - k) 0 ⟨Nat.zero_le _,by simp⟩ ?start ?round
 case start=>
  refine⟨[(FK,FK),(FK1,FK1)],rfl,rfl,?_,?_⟩<;>repeat' (first|exact rfl|exact trivial|exact Or.inl rfl|exact Nat.zero_lt_succ _|refine And.intro ?_ ?_)
  all_goals exact PLe.int (by simp)
 case round=>
  rintro k ⟨hk,hz⟩
  have hk:k≤l.length:=hk
  have hz:∀r∈l.take k,(truF e cols r).2=0:=hz
  have hfl:((l.take k).filter fun r=>(truF e cols r).1).length≤k:=by
   have:=List.length_filter_le (fun r=>(truF e cols r).1) (l.take k)
   rw[List.length_take] at this
   omega
  by_cases q:k<l.length
  ·have hm:=List.getElem_mem q
   have pf:=s_filter1 e hn cols l[k] (by have:=(hr _ hm).1;omega) (hr _ hm).2
   have pc:=p_cloneV l[k] (by have:=(hr _ hm).1;omega)
   by_cases hx:(truF e cols l[k]).2=0
   ·have hz2:∀r∈l.take (k+1),(truF e cols r).2=0:=fun r hr=>by
     rw[take_snoc q,List.mem_append,List.mem_singleton] at hr
     rcases hr with hr | rfl
     ·exact hz r hr
     ·exact hx
    have hsn:=filter_snoc (f:=fun r=>(truF e cols r).1) q
    cases hb:(truF e cols l[k]).1 with
    | true=>
     rw[hb,hx] at pf
     rw[hb,if_pos rfl] at hsn
     ((conv=>whnf);repeat' ((first|(with_reducible first|apply a_|apply b_|apply c_)|((with_reducible first|apply d_|apply e_|apply f_|apply g_);focus first|omega|(simp only[q_]<;>omega))|((with_reducible first|apply i_|apply h_);focus first|omega|(simp only[q_]<;>omega))|((with_reducible apply h_);focus first|decide|kernel_rfl)|refine s_ (by decide) ?_|refine t_ (by decide) ?_|(refine Idx.mapI (f:=rowC) k rfl q ?_)|(refine CallP.ret [(FK,FK),(FK1,FK1)] _ _ _ _ _ _ _ pf rfl rfl rfl rfl ⟨rfl,rfl,trivial⟩ ?_)|refine r_ pc rfl ?_|(refine Need.by 24 rfl (by simp only[List.length_map,List.length_singleton];omega) ?_)|with_reducible first|apply l_|apply m_|apply n_|apply o_|refine p_ (fun _=>?_) (fun _=>?_))<;>(conv=>whnf)))
     all_goals first
      | (exfalso;omega)
      | skip
     refine⟨k+1,⟨by show k+1≤_;omega,hz2⟩,by show l.length - (k+1)<l.length - k;omega,[(FK,FK),(FK1,FK1),(60,31)],rfl,rfl,?_,?_⟩<;>repeat' (first|exact rfl|exact trivial|exact Or.inl rfl|exact (show _=(List.filter _ (l.take (k+1))).map rowC by rw[hsn,List.map_append];rfl) | refine And.intro ?_ ?_)
     all_goals first|exact PLe.int (by simp) | exact PLe.int (by omega)
    | false=>
     rw[hb,hx] at pf
     rw[hb,if_neg (by decide)] at hsn
     ((conv=>whnf);repeat' ((first|(with_reducible first|apply a_|apply b_|apply c_)|((with_reducible first|apply d_|apply e_|apply f_|apply g_);focus first|omega|(simp only[q_]<;>omega))|((with_reducible first|apply i_|apply h_);focus first|omega|(simp only[q_]<;>omega))|((with_reducible apply h_);focus first|decide|kernel_rfl)|refine s_ (by decide) ?_|refine t_ (by decide) ?_|(refine Idx.mapI (f:=rowC) k rfl q ?_)|(refine CallP.ret [(FK,FK),(FK1,FK1)] _ _ _ _ _ _ _ pf rfl rfl rfl rfl ⟨rfl,rfl,trivial⟩ ?_)|refine r_ pc rfl ?_|(refine Need.by 24 rfl (by simp only[List.length_map,List.length_singleton];omega) ?_)|with_reducible first|apply l_|apply m_|apply n_|apply o_|refine p_ (fun _=>?_) (fun _=>?_))<;>(conv=>whnf)))
     all_goals first
      | (exfalso;omega)
      | skip
     refine⟨k+1,⟨by show k+1≤_;omega,hz2⟩,by show l.length - (k+1)<l.length - k;omega,[(FK,FK),(FK1,FK1),(60,60)],rfl,rfl,?_,?_⟩<;>repeat' (first|exact rfl|exact trivial|exact Or.inl rfl|exact (show _=(List.filter _ (l.take (k+1))).map rowC by rw[hsn]) | refine And.intro ?_ ?_)
     all_goals first|exact PLe.int (by simp) | exact PLe.int (by omega)
   ·rw[keepF_err q hz hx]
    ((conv=>whnf);repeat' ((first|(with_reducible first|apply a_|apply b_|apply c_)|((with_reducible first|apply d_|apply e_|apply f_|apply g_);focus first|omega|(simp only[q_]<;>omega))|((with_reducible first|apply i_|apply h_);focus first|omega|(simp only[q_]<;>omega))|((with_reducible apply h_);focus first|decide|kernel_rfl)|refine s_ (by decide) ?_|refine t_ (by decide) ?_|(refine Idx.mapI (f:=rowC) k rfl q ?_)|(refine CallP.ret [(FK,FK),(FK1,FK1)] _ _ _ _ _ _ _ pf rfl rfl rfl rfl ⟨rfl,rfl,trivial⟩ ?_)|refine r_ pc rfl ?_|(refine Need.by 24 rfl (by simp only[List.length_map,List.length_singleton];omega) ?_)|with_reducible first|apply l_|apply m_|apply n_|apply o_|refine p_ (fun _=>?_) (fun _=>?_))<;>(conv=>whnf)))
    all_goals first
     | (exfalso;omega)
     | (refine RetS.mk [(FK,FK),(FK1,FK1)] [FK,FK1] rfl rfl ?_ ?_<;>repeat' (first|exact rfl|exact trivial|exact Or.inl rfl|exact Or.inr ⟨⟨1,rfl⟩,.inl rfl⟩ | refine And.intro ?_ ?_))
  ·have e1:l.take k=l:=List.take_of_length_le (by omega)
   rw[e1] at hz ⊢
   rw[keepF_ok hz]
   ((conv=>whnf);repeat' ((first|(with_reducible first|apply a_|apply b_|apply c_)|((with_reducible first|apply d_|apply e_|apply f_|apply g_);focus first|omega|(simp only[q_]<;>omega))|((with_reducible first|apply i_|apply h_);focus first|omega|(simp only[q_]<;>omega))|((with_reducible apply h_);focus first|decide|kernel_rfl)|refine s_ (by decide) ?_|refine t_ (by decide) ?_|with_reducible first|apply l_|apply m_|apply n_|apply o_|refine p_ (fun _=>?_) (fun _=>?_))<;>(conv=>whnf)))
   all_goals first
    | (exfalso;omega)
    | (refine RetS.mk [(FK,FK),(FK1,FK1)] [FK,FK1] rfl rfl ?_ ?_<;>repeat' (first|exact rfl|exact trivial|exact Or.inl rfl|exact Or.inr ⟨⟨1,rfl⟩,.inl rfl⟩ | refine And.intro ?_ ?_))
noncomputable def filtF (l:List RowT) (cols:List (List UInt8)) (e:List NodeD):List RowT×Int:=
 if rowsChk l≠0 then ([],rowsChk l) else if checkF e≠0 then ([],checkF e) else keepF (truF e cols) l
theorem p_Filter (l:List RowT) (hv:∀r∈l,∀v∈r,WholeP.In64 v.N) (cols:List (List UInt8)) (e:List NodeD) (hn:∀n∈e,hNode n):Pure Tryz.prog 13 [rwsV l,slV 1 eText cols,slV 6 NodeD.c e] (.tup [rwsV (filtF l cols e).1,pInt .i64 (filtF l cols e).2]):=by
 have pc:=p_bagcheck l
 have pe:=p_echeck e fun n h=>(hn n h).1
 refine pure_of Tryz.func13 (by rfl) rfl (by kernel_rfl) (by rfl) ?_
 unfold filtF
 by_cases h1:rowsChk l=0
 ·rw[if_neg (not_not_intro h1)]
  rw[h1] at pc
  obtain⟨h40,h8⟩:=rowsChk_ok.1 h1
  by_cases h2:checkF e=0
  ·rw[if_neg (not_not_intro h2)]
   rw[h2] at pe
   have pk:=s_kept_filter l (by omega) (fun r hr=>⟨by have:=(h8 r hr).1;omega,hv r hr⟩) e hn cols
   ((conv=>whnf);repeat' ((first|(with_reducible first|apply a_|apply b_|apply c_)|((with_reducible first|apply d_|apply e_|apply f_|apply g_);focus first|omega|(simp only[q_]<;>omega))|((with_reducible first|apply i_|apply h_);focus first|omega|(simp only[q_]<;>omega))|((with_reducible apply h_);focus first|decide|kernel_rfl)|refine s_ (by decide) ?_|refine t_ (by decide) ?_|refine r_ pc rfl ?_|refine r_ pe rfl ?_|(refine CallP.ret [(FK,5),(FK1,4)] _ _ _ _ _ _ _ pk rfl rfl rfl rfl ⟨rfl,rfl,trivial⟩ ?_)|with_reducible first|apply l_|apply m_|apply n_|apply o_|refine p_ (fun _=>?_) (fun _=>?_))<;>(conv=>whnf)))
   all_goals first|exact Ret.eq rfl | (exfalso;omega)
  ·rw[if_pos h2]
   ((conv=>whnf);repeat' ((first|(with_reducible first|apply a_|apply b_|apply c_)|((with_reducible first|apply d_|apply e_|apply f_|apply g_);focus first|omega|(simp only[q_]<;>omega))|((with_reducible first|apply i_|apply h_);focus first|omega|(simp only[q_]<;>omega))|((with_reducible apply h_);focus first|decide|kernel_rfl)|refine s_ (by decide) ?_|refine t_ (by decide) ?_|refine r_ pc rfl ?_|refine r_ pe rfl ?_|with_reducible first|apply l_|apply m_|apply n_|apply o_|refine p_ (fun _=>?_) (fun _=>?_))<;>(conv=>whnf)))
   all_goals first|exact Ret.le ⟨.inr ⟨⟨1,rfl⟩,.inl rfl⟩,.inl rfl,rfl⟩ | (exfalso;omega)
 ·rw[if_pos h1]
  ((conv=>whnf);repeat' ((first|(with_reducible first|apply a_|apply b_|apply c_)|((with_reducible first|apply d_|apply e_|apply f_|apply g_);focus first|omega|(simp only[q_]<;>omega))|((with_reducible first|apply i_|apply h_);focus first|omega|(simp only[q_]<;>omega))|((with_reducible apply h_);focus first|decide|kernel_rfl)|refine s_ (by decide) ?_|refine t_ (by decide) ?_|refine r_ pc rfl ?_|with_reducible first|apply l_|apply m_|apply n_|apply o_|refine p_ (fun _=>?_) (fun _=>?_))<;>(conv=>whnf)))
  all_goals first|exact Ret.le ⟨.inr ⟨⟨1,rfl⟩,.inl rfl⟩,.inl rfl,rfl⟩ | (exfalso;omega)
end
section
open Go.RowKit K
set_option maxRecDepth 100000
def nmap (seen:List (List UInt8)):List (ByteArray×Value):=seen.map fun s=>(tx s,.agg #[])
theorem mpGet_nmap:∀(seen:List (List UInt8)) (s:List UInt8),mpGet (nmap seen) (tx s)=if s∈seen then some (.agg #[]) else none
 | [],s=>rfl
 | a::l,s=>by
  show (bif decide (tx s=tx a) then _ else _)=_
  by_cases h:s=a
  ·subst h;simp
  ·have:¬tx s=tx a:=fun e=>h (tx_inj e)
   rw[decide_eq_false this,cond_false]
   show mpGet (nmap l) (tx s)=_
   rw[mpGet_nmap l s]
   simp[h]
theorem mpPut_nmap:∀(seen:List (List UInt8)) (s:List UInt8),mpPut (nmap seen) (tx s) (.agg #[])=if s∈seen then nmap seen else nmap (seen++[s])
 | [],s=>rfl
 | a::l,s=>by
  show (bif decide (tx s=tx a) then _ else _)=_
  by_cases h:s=a
  ·subst h;simp[nmap]
  ·have:¬tx s=tx a:=fun e=>h (tx_inj e)
   rw[decide_eq_false this,cond_false]
   show _::mpPut (nmap l) (tx s) _=_
   rw[mpPut_nmap l s]
   by_cases h2:s∈l
   ·simp[h2,nmap]
   ·simp[h,h2,nmap]
theorem nmap_plain (seen:List (List UInt8)):∀p∈nmap seen,plainV p.2=true:=by
 intro p hp
 obtain⟨s,_,rfl⟩:=List.mem_map.1 hp
 rfl
end
section
open Go.RowKit K NumP NumW NumRd NumZ NumL
set_option maxRecDepth 100000
end
section
open Go.RowKit K NumP NumW NumRd NumZ NumL
set_option maxRecDepth 100000
abbrev tVal:Nat:=49
end
section
open Go.RowKit K NumP NumW NumRd NumZ NumL
set_option maxRecDepth 100000
end
section
open Go.RowKit K NumP NumW NumRd NumZ NumL
set_option maxRecDepth 100000
end
section
open Go.RowKit
set_option maxRecDepth 100000
abbrev tByte:Nat:=5
end
section
open Go.RowKit K NumP NumW NumRd NumZ NumL
set_option maxRecDepth 100000
def rowChk (l:List ValueD):Int:=if 8<l.length then 2 else vChkAll l
theorem rowChk_ok {l:List ValueD} (h:rowChk l=0):l.length≤8∧∀v∈l,vChk v=0:=by
 unfold rowChk at h
 split at h
 ·cases h
 ·exact⟨by omega,vChkAll_ok.1 h⟩
theorem p_rowchk (l:List ValueD) (hl:l.length≤140737488355328):Pure Tryz.prog 69 [slV 3 ValueD.c l] (pInt .i64 (rowChk l)):=by
 refine pure_of Tryz.func69 (by rfl) rfl (by kernel_rfl) (by rfl) ?_
 unfold rowChk
 by_cases h:8<l.length
 ·rw[if_pos h]
  ((conv=>whnf);repeat' ((first|(with_reducible first|apply a_|apply b_|apply c_)|((with_reducible first|apply d_|apply e_|apply f_|apply g_);focus first|omega|(simp only[q_]<;>omega))|((with_reducible first|apply i_|apply h_);focus first|omega|(simp only[q_]<;>omega))|((with_reducible apply h_);focus first|decide|kernel_rfl)|refine s_ (by decide) ?_|refine t_ (by decide) ?_|with_reducible first|apply l_|apply m_|apply n_|apply o_|refine p_ (fun _=>?_) (fun _=>?_))<;>(conv=>whnf)))
  exact Ret.mk rfl
 ·rw[if_neg h]
  ((conv=>whnf);repeat' ((first|(with_reducible first|apply a_|apply b_|apply c_)|((with_reducible first|apply d_|apply e_|apply f_|apply g_);focus first|omega|(simp only[q_]<;>omega))|((with_reducible first|apply i_|apply h_);focus first|omega|(simp only[q_]<;>omega))|((with_reducible apply h_);focus first|decide|kernel_rfl)|refine s_ (by decide) ?_|refine t_ (by decide) ?_|refine r_ (p_checkall l hl) rfl ?_|with_reducible first|apply l_|apply m_|apply n_|apply o_|refine p_ (fun _=>?_) (fun _=>?_))<;>(conv=>whnf)))
  exact Ret.mk rfl
theorem vChk_inv {v:ValueD} (h:vChk v=0):(0≤v.Kind∧v.Kind≤3)∧(v.Kind≠1→v.N=0)∧(v.Kind<2→v.S=[])∧v.S.length≤16:=by
 unfold vChk at h
 split at h
 ·cases h
 ·split at h
  ·cases h
  ·split at h
   ·cases h
   ·rename_i h1 h2 h3
    refine⟨by omega,fun q=>by omega,fun q=>?_,by omega⟩
    exact List.eq_nil_of_length_eq_zero (by omega)
theorem byteRows_append (a b:List UInt8):byteRows (a++b)=byteRows a++byteRows b:=by unfold byteRows;rw[List.map_append]
end
section
open Go.RowKit K NumP NumW NumRd NumZ NumL
set_option maxRecDepth 100000
end
end Go.Proofs.YthfpmnojahoelaaGreatDoor.Pm
