/- Parts of the proof, one behind the other: PxTruth PxTruth2 PxNode PxNode2 PmTry PmLike PxNode3 PxWhole PxNode4 PxNode5 PxNode6 PxAsk PxScope PxNodeP PxWalkV PxWalkV2 PxDeep PxChk PxRaw PbFilter PdSet PrNum PrRead PrRow PrReads PmBuild PrWrite PrOrd PrKey. Conditions: none beyond what each theorem says. -/
import Derived.Test.YtdgmbijjhifbeaaGreatDoorYLikePure
import Derived.Test.YtdgmbijjhifbeaaGreatDoorYLikeTop
import Derived.Test.YtdgmbijjhifbeaaGreatDoorYLikeRef2
import Derived.Test.YtdgmbijjhifbeaaGreatDoorYLikeRows
import Derived.Test.YtdgmbijjhifbeaaGreatDoorYWholeWalk
import Derived.Test.YtdgmbijjhifbeaaGreatDoorYWholeRef
import Derived.Test.YtdgmbijjhifbeaaGreatDoorYNumBegun
import Derived.Test.YtdgmbijjhifbeaaGreatDoorYNumBack
import Derived.Lib.Hide
import Derived.Test.YtdgmbijjhifbeaaGreatDoorZ5
set_option linter.unusedVariables false
set_option linter.unusedSimpArgs false
namespace Go.Proofs.YtdgmbijjhifbeaaGreatDoor.Pm
section
open Go.RowKit K
set_option maxRecDepth 100000
theorem p_lplain (a:Int):Pure Tryz.prog 155 [pInt .i64 a] (pInt .i64 (tP a)):=by
 refine pure_of Tryz.func155 (by rfl) rfl (by kernel_rfl) (by rfl) ?_
 unfold tP
 ((conv=>whnf);repeat' ((first|(with_reducible first|apply a_|apply b_|apply c_)|((with_reducible first|apply d_|apply e_|apply f_|apply g_);focus first|omega|(simp only[q_]<;>omega))|((with_reducible first|apply i_|apply h_);focus first|omega|(simp only[q_]<;>omega))|((with_reducible apply h_);focus first|decide|kernel_rfl)|refine s_ (by decide) ?_|refine t_ (by decide) ?_|with_reducible first|apply l_|apply m_|apply n_|apply o_|refine p_ (fun _=>?_) (fun _=>?_))<;>(conv=>whnf)))
 (all_goals (refine Ret.int ?_;((repeat' split)<;>first|rfl|omega)))
theorem p_lnot (a:Int):Pure Tryz.prog 123 [pInt .i64 a] (pInt .i64 (tNot a)):=by
 have h:=isT_p a
 refine pure_of Tryz.func123 (by rfl) rfl (by kernel_rfl) (by rfl) ?_
 unfold tNot
 ((conv=>whnf);repeat' ((first|(with_reducible first|apply a_|apply b_|apply c_)|((with_reducible first|apply d_|apply e_|apply f_|apply g_);focus first|omega|(simp only[q_]<;>omega))|((with_reducible first|apply i_|apply h_);focus first|omega|(simp only[q_]<;>omega))|((with_reducible apply h_);focus first|decide|kernel_rfl)|refine s_ (by decide) ?_|refine t_ (by decide) ?_|refine r_ (p_lplain a) rfl ?_|with_reducible first|apply l_|apply m_|apply n_|apply o_|refine p_ (fun _=>?_) (fun _=>?_))<;>(conv=>whnf)))
 (all_goals (refine Ret.int ?_;((repeat' split)<;>first|rfl|omega)))
theorem p_land (a b:Int):Pure Tryz.prog 182 [pInt .i64 a,pInt .i64 b] (pInt .i64 (tAnd a b)):=by
 refine pure_of Tryz.func182 (by rfl) rfl (by kernel_rfl) (by rfl) ?_
 unfold tAnd
 ((conv=>whnf);repeat' ((first|(with_reducible first|apply a_|apply b_|apply c_)|((with_reducible first|apply d_|apply e_|apply f_|apply g_);focus first|omega|(simp only[q_]<;>omega))|((with_reducible first|apply i_|apply h_);focus first|omega|(simp only[q_]<;>omega))|((with_reducible apply h_);focus first|decide|kernel_rfl)|refine s_ (by decide) ?_|refine t_ (by decide) ?_|refine r_ (p_lplain a) rfl ?_|refine r_ (p_lplain b) rfl ?_|with_reducible first|apply l_|apply m_|apply n_|apply o_|refine p_ (fun _=>?_) (fun _=>?_))<;>(conv=>whnf)))
 (all_goals (refine Ret.int ?_;((repeat' split)<;>first|rfl|omega)))
theorem p_lor (a b:Int):Pure Tryz.prog 181 [pInt .i64 a,pInt .i64 b] (pInt .i64 (tOr a b)):=by
 refine pure_of Tryz.func181 (by rfl) rfl (by kernel_rfl) (by rfl) ?_
 unfold tOr
 ((conv=>whnf);repeat' ((first|(with_reducible first|apply a_|apply b_|apply c_)|((with_reducible first|apply d_|apply e_|apply f_|apply g_);focus first|omega|(simp only[q_]<;>omega))|((with_reducible first|apply i_|apply h_);focus first|omega|(simp only[q_]<;>omega))|((with_reducible apply h_);focus first|decide|kernel_rfl)|refine s_ (by decide) ?_|refine t_ (by decide) ?_|refine r_ (p_lplain a) rfl ?_|refine r_ (p_lplain b) rfl ?_|with_reducible first|apply l_|apply m_|apply n_|apply o_|refine p_ (fun _=>?_) (fun _=>?_))<;>(conv=>whnf)))
 (all_goals (refine Ret.int ?_;((repeat' split)<;>first|rfl|omega)))
theorem p_lof (b:Bool):Pure Tryz.prog 108 [pBool b] (pInt .i64 (tOf b)):=by
 refine pure_of Tryz.func108 (by rfl) rfl (by kernel_rfl) (by rfl) ?_
 unfold tOf
 cases b
 ·((conv=>whnf);repeat' ((first|(with_reducible first|apply a_|apply b_|apply c_)|((with_reducible first|apply d_|apply e_|apply f_|apply g_);focus first|omega|(simp only[q_]<;>omega))|((with_reducible first|apply i_|apply h_);focus first|omega|(simp only[q_]<;>omega))|((with_reducible apply h_);focus first|decide|kernel_rfl)|refine s_ (by decide) ?_|refine t_ (by decide) ?_|with_reducible first|apply l_|apply m_|apply n_|apply o_|refine p_ (fun _=>?_) (fun _=>?_))<;>(conv=>whnf)))
  exact Ret.int rfl
 ·((conv=>whnf);repeat' ((first|(with_reducible first|apply a_|apply b_|apply c_)|((with_reducible first|apply d_|apply e_|apply f_|apply g_);focus first|omega|(simp only[q_]<;>omega))|((with_reducible first|apply i_|apply h_);focus first|omega|(simp only[q_]<;>omega))|((with_reducible apply h_);focus first|decide|kernel_rfl)|refine s_ (by decide) ?_|refine t_ (by decide) ?_|with_reducible first|apply l_|apply m_|apply n_|apply o_|refine p_ (fun _=>?_) (fun _=>?_))<;>(conv=>whnf)))
  exact Ret.int rfl
theorem p_truth (b:Bool):Pure Tryz.prog 89 [pBool b] (pInt .i64 (tOf b)):=by
 refine pure_of Tryz.func89 (by rfl) rfl (by kernel_rfl) (by rfl) ?_
 unfold tOf
 cases b
 ·((conv=>whnf);repeat' ((first|(with_reducible first|apply a_|apply b_|apply c_)|((with_reducible first|apply d_|apply e_|apply f_|apply g_);focus first|omega|(simp only[q_]<;>omega))|((with_reducible first|apply i_|apply h_);focus first|omega|(simp only[q_]<;>omega))|((with_reducible apply h_);focus first|decide|kernel_rfl)|refine s_ (by decide) ?_|refine t_ (by decide) ?_|with_reducible first|apply l_|apply m_|apply n_|apply o_|refine p_ (fun _=>?_) (fun _=>?_))<;>(conv=>whnf)))
  exact Ret.int rfl
 ·((conv=>whnf);repeat' ((first|(with_reducible first|apply a_|apply b_|apply c_)|((with_reducible first|apply d_|apply e_|apply f_|apply g_);focus first|omega|(simp only[q_]<;>omega))|((with_reducible first|apply i_|apply h_);focus first|omega|(simp only[q_]<;>omega))|((with_reducible apply h_);focus first|decide|kernel_rfl)|refine s_ (by decide) ?_|refine t_ (by decide) ?_|with_reducible first|apply l_|apply m_|apply n_|apply o_|refine p_ (fun _=>?_) (fun _=>?_))<;>(conv=>whnf)))
  exact Ret.int rfl
theorem p_truthnot (a:Int):Pure Tryz.prog 130 [pInt .i64 a] (pInt .i64 (tNot a)):=by
 refine pure_of Tryz.func130 (by rfl) rfl (by kernel_rfl) (by rfl) ?_
 unfold tNot tP
 ((conv=>whnf);repeat' ((first|(with_reducible first|apply a_|apply b_|apply c_)|((with_reducible first|apply d_|apply e_|apply f_|apply g_);focus first|omega|(simp only[q_]<;>omega))|((with_reducible first|apply i_|apply h_);focus first|omega|(simp only[q_]<;>omega))|((with_reducible apply h_);focus first|decide|kernel_rfl)|refine s_ (by decide) ?_|refine t_ (by decide) ?_|with_reducible first|apply l_|apply m_|apply n_|apply o_|refine p_ (fun _=>?_) (fun _=>?_))<;>(conv=>whnf)))
 (all_goals (refine Ret.int ?_;((repeat' split)<;>first|rfl|omega)))
theorem p_rless1 (n:Int):Pure Tryz.prog 180 [pInt .i64 n] (pBool (decide (n<0))):=by
 refine pure_of Tryz.func180 (by rfl) rfl (by kernel_rfl) (by rfl) ?_
 ((conv=>whnf);repeat' ((first|(with_reducible first|apply a_|apply b_|apply c_)|((with_reducible first|apply d_|apply e_|apply f_|apply g_);focus first|omega|(simp only[q_]<;>omega))|((with_reducible first|apply i_|apply h_);focus first|omega|(simp only[q_]<;>omega))|((with_reducible apply h_);focus first|decide|kernel_rfl)|refine s_ (by decide) ?_|refine t_ (by decide) ?_|with_reducible first|apply l_|apply m_|apply n_|apply o_|refine p_ (fun _=>?_) (fun _=>?_))<;>(conv=>whnf)))
 all_goals exact Ret.bool rfl
theorem p_rsame1 (n:Int):Pure Tryz.prog 179 [pInt .i64 n] (pBool (decide (n=0))):=by
 refine pure_of Tryz.func179 (by rfl) rfl (by kernel_rfl) (by rfl) ?_
 ((conv=>whnf);repeat' ((first|(with_reducible first|apply a_|apply b_|apply c_)|((with_reducible first|apply d_|apply e_|apply f_|apply g_);focus first|omega|(simp only[q_]<;>omega))|((with_reducible first|apply i_|apply h_);focus first|omega|(simp only[q_]<;>omega))|((with_reducible apply h_);focus first|decide|kernel_rfl)|refine s_ (by decide) ?_|refine t_ (by decide) ?_|with_reducible first|apply l_|apply m_|apply n_|apply o_|refine p_ (fun _=>?_) (fun _=>?_))<;>(conv=>whnf)))
 all_goals exact Ret.bool rfl
theorem p_known (f:FuncId) (p:Int→Bool) (hp:∀n:Int,Pure Tryz.prog f [pInt .i64 n] (pBool (p n))) (a b:ValueD):Pure Tryz.prog 178 [vV a,vV b,fnV f] (pInt .i64 (if a.Kind=0∨b.Kind=0 then 1 else tOf (p (vOrd a b)))):=by
 have po:=p_vorder a b
 have p1:=hp (vOrd a b)
 have p2:=p_lof (p (vOrd a b))
 refine pure_of Tryz.func178 (by rfl) rfl (by kernel_rfl) (by rfl) ?_
 by_cases h:a.Kind=0∨b.Kind=0
 ·rw[if_pos h]
  ((conv=>whnf);repeat' ((first|(with_reducible first|apply a_|apply b_|apply c_)|((with_reducible first|apply d_|apply e_|apply f_|apply g_);focus first|omega|(simp only[q_]<;>omega))|((with_reducible first|apply i_|apply h_);focus first|omega|(simp only[q_]<;>omega))|((with_reducible apply h_);focus first|decide|kernel_rfl)|refine s_ (by decide) ?_|refine t_ (by decide) ?_|refine r_ po rfl ?_|refine r_ p1 rfl ?_|refine r_ p2 rfl ?_|with_reducible first|apply l_|apply m_|apply n_|apply o_|refine p_ (fun _=>?_) (fun _=>?_))<;>(conv=>whnf)))
  all_goals first|exact Ret.int rfl | (exfalso;omega)
 ·rw[if_neg h]
  ((conv=>whnf);repeat' ((first|(with_reducible first|apply a_|apply b_|apply c_)|((with_reducible first|apply d_|apply e_|apply f_|apply g_);focus first|omega|(simp only[q_]<;>omega))|((with_reducible first|apply i_|apply h_);focus first|omega|(simp only[q_]<;>omega))|((with_reducible apply h_);focus first|decide|kernel_rfl)|refine s_ (by decide) ?_|refine t_ (by decide) ?_|refine r_ po rfl ?_|refine r_ p1 rfl ?_|refine r_ p2 rfl ?_|with_reducible first|apply l_|apply m_|apply n_|apply o_|refine p_ (fun _=>?_) (fun _=>?_))<;>(conv=>whnf)))
  all_goals first|exact Ret.int rfl | (exfalso;omega)
theorem p_rawless (a b:ValueD):Pure Tryz.prog 150 [vV a,vV b] (pInt .i64 (rLess a b)):=by
 have pk:=p_known _ _ p_rless1 a b
 refine pure_of Tryz.func150 (by rfl) rfl (by kernel_rfl) (by rfl) ?_
 ((conv=>whnf);repeat' ((first|(with_reducible first|apply a_|apply b_|apply c_)|((with_reducible first|apply d_|apply e_|apply f_|apply g_);focus first|omega|(simp only[q_]<;>omega))|((with_reducible first|apply i_|apply h_);focus first|omega|(simp only[q_]<;>omega))|((with_reducible apply h_);focus first|decide|kernel_rfl)|refine s_ (by decide) ?_|refine t_ (by decide) ?_|refine r_ pk rfl ?_|with_reducible first|apply l_|apply m_|apply n_|apply o_|refine p_ (fun _=>?_) (fun _=>?_))<;>(conv=>whnf)))
 exact Ret.int rfl
theorem p_rawsame (a b:ValueD):Pure Tryz.prog 149 [vV a,vV b] (pInt .i64 (rSame a b)):=by
 have pk:=p_known _ _ p_rsame1 a b
 refine pure_of Tryz.func149 (by rfl) rfl (by kernel_rfl) (by rfl) ?_
 ((conv=>whnf);repeat' ((first|(with_reducible first|apply a_|apply b_|apply c_)|((with_reducible first|apply d_|apply e_|apply f_|apply g_);focus first|omega|(simp only[q_]<;>omega))|((with_reducible first|apply i_|apply h_);focus first|omega|(simp only[q_]<;>omega))|((with_reducible apply h_);focus first|decide|kernel_rfl)|refine s_ (by decide) ?_|refine t_ (by decide) ?_|refine r_ pk rfl ?_|with_reducible first|apply l_|apply m_|apply n_|apply o_|refine p_ (fun _=>?_) (fun _=>?_))<;>(conv=>whnf)))
 exact Ret.int rfl
theorem p_rawbetween (v lo hi:ValueD):Pure Tryz.prog 152 [vV v,vV lo,vV hi] (pInt .i64 (rBetween v lo hi)):=by
 have p1:=p_rawless v lo
 have p2:=p_rawless hi v
 have p3:=p_lnot (rLess v lo)
 have p4:=p_lnot (rLess hi v)
 have p5:=p_land (tNot (rLess v lo)) (tNot (rLess hi v))
 refine pure_of Tryz.func152 (by rfl) rfl (by kernel_rfl) (by rfl) ?_
 ((conv=>whnf);repeat' ((first|(with_reducible first|apply a_|apply b_|apply c_)|((with_reducible first|apply d_|apply e_|apply f_|apply g_);focus first|omega|(simp only[q_]<;>omega))|((with_reducible first|apply i_|apply h_);focus first|omega|(simp only[q_]<;>omega))|((with_reducible apply h_);focus first|decide|kernel_rfl)|refine s_ (by decide) ?_|refine t_ (by decide) ?_|refine r_ p1 rfl ?_|refine r_ p2 rfl ?_|refine r_ p3 rfl ?_|refine r_ p4 rfl ?_|refine r_ p5 rfl ?_|with_reducible first|apply l_|apply m_|apply n_|apply o_|refine p_ (fun _=>?_) (fun _=>?_))<;>(conv=>whnf)))
 exact Ret.int rfl
end
section
open Go.RowKit K
set_option maxRecDepth 100000
theorem p_lfold (f:FuncId) (two:Int→Int→Int) (hp:∀a b:Int,Pure Tryz.prog f [pInt .i64 a,pInt .i64 b] (pInt .i64 (two a b))) (z:Int) (l:List Int) (hl:l.length≤140737488355328):Pure Tryz.prog 194 [pInt .i64 z,fnV f,slV 1 eInt l] (pInt .i64 (l.foldl two z)):=by
 refine pure_of Tryz.func194 (by rfl) rfl (by kernel_rfl) (by rfl) ?_
 ((conv=>whnf);repeat' ((first|(with_reducible first|apply a_|apply b_|apply c_)|((with_reducible first|apply d_|apply e_|apply f_|apply g_);focus first|omega|(simp only[q_]<;>omega))|((with_reducible first|apply i_|apply h_);focus first|omega|(simp only[q_]<;>omega))|((with_reducible apply h_);focus first|decide|kernel_rfl)|refine s_ (by decide) ?_|refine t_ (by decide) ?_|with_reducible first|apply l_|apply m_|apply n_|apply o_|refine p_ (fun _=>?_) (fun _=>?_))<;>(conv=>whnf)))
 refine LoopC.mk Nat (fun k=>[(0,pInt .i64 ((l.take k).foldl two z)),(1,fnV f),(9,slV 1 eInt l),(10,pInt .i64 l.length),(11,pInt .i64 k)]) (fun _=>[]) [] (fun k=>k≤l.length) (fun k=>l.length - k) 0 (Nat.zero_le _) ?start ?round
 case start=>exact⟨[],rfl,rfl,⟨.inl rfl,.inl rfl,.inl rfl,PLe.int (by simp),.inl rfl,trivial⟩,trivial⟩
 case round=>
  intro k hk
  by_cases h1:k<l.length
  ·have pf:=hp ((l.take k).foldl two z) l[k]
   ((conv=>whnf);repeat' ((first|(with_reducible first|apply a_|apply b_|apply c_)|((with_reducible first|apply d_|apply e_|apply f_|apply g_);focus first|omega|(simp only[q_]<;>omega))|((with_reducible first|apply i_|apply h_);focus first|omega|(simp only[q_]<;>omega))|((with_reducible apply h_);focus first|decide|kernel_rfl)|refine s_ (by decide) ?_|refine t_ (by decide) ?_|(refine Idx.mapI k rfl h1 ?_)|refine r_ pf rfl ?_|with_reducible first|apply l_|apply m_|apply n_|apply o_|refine p_ (fun _=>?_) (fun _=>?_))<;>(conv=>whnf)))
   exact⟨k+1,by omega,by omega,[],rfl,rfl,⟨PLe.int (by rw[take_snoc h1,List.foldl_append];rfl),.inl rfl,.inl rfl,.inl rfl,PLe.int rfl,trivial⟩,trivial⟩
  ·((conv=>whnf);repeat' ((first|(with_reducible first|apply a_|apply b_|apply c_)|((with_reducible first|apply d_|apply e_|apply f_|apply g_);focus first|omega|(simp only[q_]<;>omega))|((with_reducible first|apply i_|apply h_);focus first|omega|(simp only[q_]<;>omega))|((with_reducible apply h_);focus first|decide|kernel_rfl)|refine s_ (by decide) ?_|refine t_ (by decide) ?_|with_reducible first|apply l_|apply m_|apply n_|apply o_|refine p_ (fun _=>?_) (fun _=>?_))<;>(conv=>whnf)))
   refine Ret.int ?_
   rw[List.take_of_length_le (by omega)]
theorem p_lall (l:List Int) (hl:l.length≤140737488355328):Pure Tryz.prog 184 [slV 1 eInt l] (pInt .i64 (tAll l)):=by
 have pf:=p_lfold _ tAnd p_land 2 l hl
 refine pure_of Tryz.func184 (by rfl) rfl (by kernel_rfl) (by rfl) ?_
 ((conv=>whnf);repeat' ((first|(with_reducible first|apply a_|apply b_|apply c_)|((with_reducible first|apply d_|apply e_|apply f_|apply g_);focus first|omega|(simp only[q_]<;>omega))|((with_reducible first|apply i_|apply h_);focus first|omega|(simp only[q_]<;>omega))|((with_reducible apply h_);focus first|decide|kernel_rfl)|refine s_ (by decide) ?_|refine t_ (by decide) ?_|refine r_ pf rfl ?_|with_reducible first|apply l_|apply m_|apply n_|apply o_|refine p_ (fun _=>?_) (fun _=>?_))<;>(conv=>whnf)))
 exact Ret.int rfl
theorem p_lany (l:List Int) (hl:l.length≤140737488355328):Pure Tryz.prog 185 [slV 1 eInt l] (pInt .i64 (tAny l)):=by
 have pf:=p_lfold _ tOr p_lor 0 l hl
 refine pure_of Tryz.func185 (by rfl) rfl (by kernel_rfl) (by rfl) ?_
 ((conv=>whnf);repeat' ((first|(with_reducible first|apply a_|apply b_|apply c_)|((with_reducible first|apply d_|apply e_|apply f_|apply g_);focus first|omega|(simp only[q_]<;>omega))|((with_reducible first|apply i_|apply h_);focus first|omega|(simp only[q_]<;>omega))|((with_reducible apply h_);focus first|decide|kernel_rfl)|refine s_ (by decide) ?_|refine t_ (by decide) ?_|refine r_ pf rfl ?_|with_reducible first|apply l_|apply m_|apply n_|apply o_|refine p_ (fun _=>?_) (fun _=>?_))<;>(conv=>whnf)))
 exact Ret.int rfl
theorem tAnd_zero (l:List Int):l.foldl tAnd 0=0:=by
 induction l with
 | nil=>rfl
 | cons x l ih=>
  rw[List.foldl_cons,show tAnd 0 x=0 by unfold tAnd;rcases isT_p x with h | h | h<;>rw[h]<;>rfl];exact ih
theorem tOr_two (l:List Int):l.foldl tOr 2=2:=by
 induction l with
 | nil=>rfl
 | cons x l ih=>
  rw[List.foldl_cons,show tOr 2 x=2 by unfold tOr;rcases isT_p x with h | h | h<;>rw[h]<;>rfl];exact ih
theorem p_truthall (l:List Int) (hl:l.length≤140737488355328):Pure Tryz.prog 131 [slV 1 eInt l] (pInt .i64 (tAll l)):=by
 refine pure_of Tryz.func131 (by rfl) rfl (by kernel_rfl) (by rfl) ?_
 ((conv=>whnf);repeat' ((first|(with_reducible first|apply a_|apply b_|apply c_)|((with_reducible first|apply d_|apply e_|apply f_|apply g_);focus first|omega|(simp only[q_]<;>omega))|((with_reducible first|apply i_|apply h_);focus first|omega|(simp only[q_]<;>omega))|((with_reducible apply h_);focus first|decide|kernel_rfl)|refine s_ (by decide) ?_|refine t_ (by decide) ?_|with_reducible first|apply l_|apply m_|apply n_|apply o_|refine p_ (fun _=>?_) (fun _=>?_))<;>(conv=>whnf)))
 refine LoopC.mk (Nat×Int) (fun s=>[(0,slV 1 eInt l),(3,pInt .i64 s.2),(4,pInt .i64 s.1)]) (fun _=>[]) [] (fun s=>s.1≤l.length∧(s.2=1∨s.2=2)∧tAll l=(l.drop s.1).foldl tAnd s.2) (fun s=>l.length - s.1) (0,2) ⟨Nat.zero_le _,.inr rfl,rfl⟩ ?start ?round
 case start=>exact⟨[],rfl,rfl,⟨.inl rfl,.inl rfl,.inl rfl,trivial⟩,trivial⟩
 case round=>
  rintro⟨k,o⟩ ⟨hk,ho,hz⟩
  have hk:k≤l.length:=hk
  have ho:o=1∨o=2:=ho
  have hz:tAll l=(l.drop k).foldl tAnd o:=hz
  by_cases h1:k<l.length
  ·rw[List.drop_eq_getElem_cons h1,List.foldl_cons] at hz
   by_cases h0:l[k]=0
   ·have:tAnd o l[k]=0:=by rw[h0];rcases ho with rfl | rfl<;>rfl
    rw[this,tAnd_zero] at hz
    rw[hz]
    ((conv=>whnf);repeat' ((first|(with_reducible first|apply a_|apply b_|apply c_)|((with_reducible first|apply d_|apply e_|apply f_|apply g_);focus first|omega|(simp only[q_]<;>omega))|((with_reducible first|apply i_|apply h_);focus first|omega|(simp only[q_]<;>omega))|((with_reducible apply h_);focus first|decide|kernel_rfl)|refine s_ (by decide) ?_|refine t_ (by decide) ?_|(refine Idx.mapI k rfl h1 ?_)|with_reducible first|apply l_|apply m_|apply n_|apply o_|refine p_ (fun _=>?_) (fun _=>?_))<;>(conv=>whnf)))
    exact Ret.int rfl
   ·by_cases h2:l[k]=2
    ·have:tAnd o l[k]=o:=by rw[h2];rcases ho with rfl | rfl<;>rfl
     rw[this] at hz
     ((conv=>whnf);repeat' ((first|(with_reducible first|apply a_|apply b_|apply c_)|((with_reducible first|apply d_|apply e_|apply f_|apply g_);focus first|omega|(simp only[q_]<;>omega))|((with_reducible first|apply i_|apply h_);focus first|omega|(simp only[q_]<;>omega))|((with_reducible apply h_);focus first|decide|kernel_rfl)|refine s_ (by decide) ?_|refine t_ (by decide) ?_|(refine Idx.mapI k rfl h1 ?_)|with_reducible first|apply l_|apply m_|apply n_|apply o_|refine p_ (fun _=>?_) (fun _=>?_))<;>(conv=>whnf)))
     exact⟨(k+1,o),⟨by show k+1≤_;omega,ho,hz⟩,by show l.length - (k+1)<l.length - k;omega,[],rfl,rfl,⟨.inl rfl,.inl rfl,PLe.int rfl,trivial⟩,trivial⟩
    ·have:tAnd o l[k]=1:=by unfold tAnd;rw[show tP l[k]=1 by unfold tP;rw[if_neg h0,if_neg h2]];rcases ho with rfl | rfl<;>rfl
     rw[this] at hz
     ((conv=>whnf);repeat' ((first|(with_reducible first|apply a_|apply b_|apply c_)|((with_reducible first|apply d_|apply e_|apply f_|apply g_);focus first|omega|(simp only[q_]<;>omega))|((with_reducible first|apply i_|apply h_);focus first|omega|(simp only[q_]<;>omega))|((with_reducible apply h_);focus first|decide|kernel_rfl)|refine s_ (by decide) ?_|refine t_ (by decide) ?_|(refine Idx.mapI k rfl h1 ?_)|with_reducible first|apply l_|apply m_|apply n_|apply o_|refine p_ (fun _=>?_) (fun _=>?_))<;>(conv=>whnf)))
     exact⟨(k+1,1),⟨by show k+1≤_;omega,.inl rfl,hz⟩,by show l.length - (k+1)<l.length - k;omega,[],rfl,rfl,⟨.inl rfl,.inl rfl,PLe.int rfl,trivial⟩,trivial⟩
  ·rw[List.drop_of_length_le (by omega)] at hz
   ((conv=>whnf);repeat' ((first|(with_reducible first|apply a_|apply b_|apply c_)|((with_reducible first|apply d_|apply e_|apply f_|apply g_);focus first|omega|(simp only[q_]<;>omega))|((with_reducible first|apply i_|apply h_);focus first|omega|(simp only[q_]<;>omega))|((with_reducible apply h_);focus first|decide|kernel_rfl)|refine s_ (by decide) ?_|refine t_ (by decide) ?_|with_reducible first|apply l_|apply m_|apply n_|apply o_|refine p_ (fun _=>?_) (fun _=>?_))<;>(conv=>whnf)))
   exact Ret.int hz.symm
theorem p_truthany (l:List Int) (hl:l.length≤140737488355328):Pure Tryz.prog 132 [slV 1 eInt l] (pInt .i64 (tAny l)):=by
 refine pure_of Tryz.func132 (by rfl) rfl (by kernel_rfl) (by rfl) ?_
 ((conv=>whnf);repeat' ((first|(with_reducible first|apply a_|apply b_|apply c_)|((with_reducible first|apply d_|apply e_|apply f_|apply g_);focus first|omega|(simp only[q_]<;>omega))|((with_reducible first|apply i_|apply h_);focus first|omega|(simp only[q_]<;>omega))|((with_reducible apply h_);focus first|decide|kernel_rfl)|refine s_ (by decide) ?_|refine t_ (by decide) ?_|with_reducible first|apply l_|apply m_|apply n_|apply o_|refine p_ (fun _=>?_) (fun _=>?_))<;>(conv=>whnf)))
 refine LoopC.mk (Nat×Int) (fun s=>[(0,slV 1 eInt l),(3,pInt .i64 s.2),(4,pInt .i64 s.1)]) (fun _=>[]) [] (fun s=>s.1≤l.length∧(s.2=0∨s.2=1)∧tAny l=(l.drop s.1).foldl tOr s.2) (fun s=>l.length - s.1) (0,0) ⟨Nat.zero_le _,.inl rfl,rfl⟩ ?start ?round
 case start=>exact⟨[],rfl,rfl,⟨.inl rfl,.inl rfl,.inl rfl,trivial⟩,trivial⟩
 case round=>
  rintro⟨k,o⟩ ⟨hk,ho,hz⟩
  have hk:k≤l.length:=hk
  have ho:o=0∨o=1:=ho
  have hz:tAny l=(l.drop k).foldl tOr o:=hz
  by_cases h1:k<l.length
  ·rw[List.drop_eq_getElem_cons h1,List.foldl_cons] at hz
   by_cases h0:l[k]=2
   ·have:tOr o l[k]=2:=by rw[h0];rcases ho with rfl | rfl<;>rfl
    rw[this,tOr_two] at hz
    rw[hz]
    ((conv=>whnf);repeat' ((first|(with_reducible first|apply a_|apply b_|apply c_)|((with_reducible first|apply d_|apply e_|apply f_|apply g_);focus first|omega|(simp only[q_]<;>omega))|((with_reducible first|apply i_|apply h_);focus first|omega|(simp only[q_]<;>omega))|((with_reducible apply h_);focus first|decide|kernel_rfl)|refine s_ (by decide) ?_|refine t_ (by decide) ?_|(refine Idx.mapI k rfl h1 ?_)|with_reducible first|apply l_|apply m_|apply n_|apply o_|refine p_ (fun _=>?_) (fun _=>?_))<;>(conv=>whnf)))
    exact Ret.int rfl
   ·by_cases h2:l[k]=0
    ·have:tOr o l[k]=o:=by rw[h2];rcases ho with rfl | rfl<;>rfl
     rw[this] at hz
     ((conv=>whnf);repeat' ((first|(with_reducible first|apply a_|apply b_|apply c_)|((with_reducible first|apply d_|apply e_|apply f_|apply g_);focus first|omega|(simp only[q_]<;>omega))|((with_reducible first|apply i_|apply h_);focus first|omega|(simp only[q_]<;>omega))|((with_reducible apply h_);focus first|decide|kernel_rfl)|refine s_ (by decide) ?_|refine t_ (by decide) ?_|(refine Idx.mapI k rfl h1 ?_)|with_reducible first|apply l_|apply m_|apply n_|apply o_|refine p_ (fun _=>?_) (fun _=>?_))<;>(conv=>whnf)))
     exact⟨(k+1,o),⟨by show k+1≤_;omega,ho,hz⟩,by show l.length - (k+1)<l.length - k;omega,[],rfl,rfl,⟨.inl rfl,.inl rfl,PLe.int rfl,trivial⟩,trivial⟩
    ·have:tOr o l[k]=1:=by unfold tOr;rw[show tP l[k]=1 by unfold tP;rw[if_neg h2,if_neg h0]];rcases ho with rfl | rfl<;>rfl
     rw[this] at hz
     ((conv=>whnf);repeat' ((first|(with_reducible first|apply a_|apply b_|apply c_)|((with_reducible first|apply d_|apply e_|apply f_|apply g_);focus first|omega|(simp only[q_]<;>omega))|((with_reducible first|apply i_|apply h_);focus first|omega|(simp only[q_]<;>omega))|((with_reducible apply h_);focus first|decide|kernel_rfl)|refine s_ (by decide) ?_|refine t_ (by decide) ?_|(refine Idx.mapI k rfl h1 ?_)|with_reducible first|apply l_|apply m_|apply n_|apply o_|refine p_ (fun _=>?_) (fun _=>?_))<;>(conv=>whnf)))
     exact⟨(k+1,1),⟨by show k+1≤_;omega,.inr rfl,hz⟩,by show l.length - (k+1)<l.length - k;omega,[],rfl,rfl,⟨.inl rfl,.inl rfl,PLe.int rfl,trivial⟩,trivial⟩
  ·rw[List.drop_of_length_le (by omega)] at hz
   ((conv=>whnf);repeat' ((first|(with_reducible first|apply a_|apply b_|apply c_)|((with_reducible first|apply d_|apply e_|apply f_|apply g_);focus first|omega|(simp only[q_]<;>omega))|((with_reducible first|apply i_|apply h_);focus first|omega|(simp only[q_]<;>omega))|((with_reducible apply h_);focus first|decide|kernel_rfl)|refine s_ (by decide) ?_|refine t_ (by decide) ?_|with_reducible first|apply l_|apply m_|apply n_|apply o_|refine p_ (fun _=>?_) (fun _=>?_))<;>(conv=>whnf)))
   exact Ret.int hz.symm
theorem p_rawin (v:ValueD) (l:List ValueD) (hl:l.length≤140737488355328):Pure Tryz.prog 151 [vV v,slV 3 ValueD.c l] (pInt .i64 (rIn v l)):=by
 refine pure_of Tryz.func151 (by rfl) rfl (by kernel_rfl) (by rfl) ?_
 ((conv=>whnf);repeat' ((first|(with_reducible first|apply a_|apply b_|apply c_)|((with_reducible first|apply d_|apply e_|apply f_|apply g_);focus first|omega|(simp only[q_]<;>omega))|((with_reducible first|apply i_|apply h_);focus first|omega|(simp only[q_]<;>omega))|((with_reducible apply h_);focus first|decide|kernel_rfl)|refine s_ (by decide) ?_|refine t_ (by decide) ?_|with_reducible first|apply l_|apply m_|apply n_|apply o_|refine p_ (fun _=>?_) (fun _=>?_))<;>(conv=>whnf)))
 refine LoopC.mk Nat (fun k=>[(2,.d (.ptr 60 0)),(5,pInt .i64 (rIn v (l.take k))),(8,slV 3 ValueD.c l),(9,pInt .i64 l.length),(10,pInt .i64 k)]) (fun _=>[(60,.box 33 (v.c.map D.c))]) [60] (fun k=>k≤l.length) (fun k=>l.length - k) 0 (Nat.zero_le _) ?start ?round
 case start=>exact⟨[(60,2)],rfl,rfl,⟨⟨rfl,rfl,rfl⟩,.inl rfl,.inl rfl,PLe.int (by simp),.inl rfl,trivial⟩,⟨rfl,rfl,.inl rfl,.inl rfl,.inl rfl,rfl⟩,trivial⟩
 case round=>
  intro k hk
  by_cases h1:k<l.length
  ·have p1:=p_rawsame v l[k]
   have p2:=p_lor (rIn v (l.take k)) (rSame v l[k])
   ((conv=>whnf);repeat' ((first|(with_reducible first|apply a_|apply b_|apply c_)|((with_reducible first|apply d_|apply e_|apply f_|apply g_);focus first|omega|(simp only[q_]<;>omega))|((with_reducible first|apply i_|apply h_);focus first|omega|(simp only[q_]<;>omega))|((with_reducible apply h_);focus first|decide|kernel_rfl)|refine s_ (by decide) ?_|refine t_ (by decide) ?_|(refine Idx.mapI k rfl h1 ?_)|refine r_ p1 rfl ?_|refine r_ p2 rfl ?_|with_reducible first|apply l_|apply m_|apply n_|apply o_|refine p_ (fun _=>?_) (fun _=>?_))<;>(conv=>whnf)))
   refine⟨k+1,by omega,by omega,[(60,60)],rfl,rfl,⟨⟨rfl,rfl,rfl⟩,PLe.int ?_,.inl rfl,.inl rfl,PLe.int rfl,trivial⟩,⟨rfl,rfl,.inl rfl,.inl rfl,.inl rfl,rfl⟩,trivial⟩
   unfold rIn tAny
   rw[take_snoc h1,List.map_append,List.foldl_append];rfl
  ·((conv=>whnf);repeat' ((first|(with_reducible first|apply a_|apply b_|apply c_)|((with_reducible first|apply d_|apply e_|apply f_|apply g_);focus first|omega|(simp only[q_]<;>omega))|((with_reducible first|apply i_|apply h_);focus first|omega|(simp only[q_]<;>omega))|((with_reducible apply h_);focus first|decide|kernel_rfl)|refine s_ (by decide) ?_|refine t_ (by decide) ?_|with_reducible first|apply l_|apply m_|apply n_|apply o_|refine p_ (fun _=>?_) (fun _=>?_))<;>(conv=>whnf)))
   refine Ret.int ?_
   rw[List.take_of_length_le (by omega)]
theorem p_lessof (a b:ValueD) (ha:okText a.S) (hb:okText b.S):Pure Tryz.prog 164 [vV a,vV b] (pInt .i64 (rLess a b)):=by
 have po:=p_vless a b ha hb
 have p2:=p_truth (decide (vOrd a b<0))
 refine pure_of Tryz.func164 (by rfl) rfl (by kernel_rfl) (by rfl) ?_
 unfold rLess
 by_cases h:a.Kind=0∨b.Kind=0
 ·rw[if_pos h]
  ((conv=>whnf);repeat' ((first|(with_reducible first|apply a_|apply b_|apply c_)|((with_reducible first|apply d_|apply e_|apply f_|apply g_);focus first|omega|(simp only[q_]<;>omega))|((with_reducible first|apply i_|apply h_);focus first|omega|(simp only[q_]<;>omega))|((with_reducible apply h_);focus first|decide|kernel_rfl)|refine s_ (by decide) ?_|refine t_ (by decide) ?_|refine r_ po rfl ?_|refine r_ p2 rfl ?_|with_reducible first|apply l_|apply m_|apply n_|apply o_|refine p_ (fun _=>?_) (fun _=>?_))<;>(conv=>whnf)))
  all_goals first|exact Ret.int rfl | (exfalso;omega)
 ·rw[if_neg h]
  ((conv=>whnf);repeat' ((first|(with_reducible first|apply a_|apply b_|apply c_)|((with_reducible first|apply d_|apply e_|apply f_|apply g_);focus first|omega|(simp only[q_]<;>omega))|((with_reducible first|apply i_|apply h_);focus first|omega|(simp only[q_]<;>omega))|((with_reducible apply h_);focus first|decide|kernel_rfl)|refine s_ (by decide) ?_|refine t_ (by decide) ?_|refine r_ po rfl ?_|refine r_ p2 rfl ?_|with_reducible first|apply l_|apply m_|apply n_|apply o_|refine p_ (fun _=>?_) (fun _=>?_))<;>(conv=>whnf)))
  all_goals first|exact Ret.int rfl | (exfalso;omega)
theorem vEq_ord (a b:ValueD):ValueD.eqB a b=decide (vOrd a b=0):=by
 by_cases h:a=b
 ·rw[(ValueD.eqB_iff a b).2 h,decide_eq_true ((vOrd_zero a b).2 h)]
 ·rw[decide_eq_false fun e=>h ((vOrd_zero a b).1 e)]
  cases q:ValueD.eqB a b
  ·rfl
  ·exact absurd ((ValueD.eqB_iff a b).1 q) h
theorem p_sameof (a b:ValueD):Pure Tryz.prog 163 [vV a,vV b] (pInt .i64 (rSame a b)):=by
 have p2:=p_truth (ValueD.eqB a b)
 refine pure_of Tryz.func163 (by rfl) rfl (by kernel_rfl) (by rfl) ?_
 unfold rSame
 rw[← vEq_ord]
 by_cases h:a.Kind=0∨b.Kind=0
 ·rw[if_pos h]
  ((conv=>whnf);repeat' ((first|(with_reducible first|apply a_|apply b_|apply c_)|((with_reducible first|apply d_|apply e_|apply f_|apply g_);focus first|omega|(simp only[q_]<;>omega))|((with_reducible first|apply i_|apply h_);focus first|omega|(simp only[q_]<;>omega))|((with_reducible apply h_);focus first|decide|kernel_rfl)|refine s_ (by decide) ?_|refine t_ (by decide) ?_|refine r_ p2 rfl ?_|with_reducible first|apply l_|apply m_|apply n_|apply o_|refine p_ (fun _=>?_) (fun _=>?_))<;>(conv=>whnf)))
  all_goals first|exact Ret.int rfl | (exfalso;omega)
 ·rw[if_neg h]
  ((conv=>whnf);repeat' ((first|(with_reducible first|apply a_|apply b_|apply c_)|((with_reducible first|apply d_|apply e_|apply f_|apply g_);focus first|omega|(simp only[q_]<;>omega))|((with_reducible first|apply i_|apply h_);focus first|omega|(simp only[q_]<;>omega))|((with_reducible apply h_);focus first|decide|kernel_rfl)|refine s_ (by decide) ?_|refine t_ (by decide) ?_|refine r_ p2 rfl ?_|with_reducible first|apply l_|apply m_|apply n_|apply o_|refine p_ (fun _=>?_) (fun _=>?_))<;>(conv=>whnf)))
  all_goals first|exact Ret.int rfl | (exfalso;omega)
theorem p_inof (v:ValueD) (l:List ValueD) (hl:l.length≤1000000):Pure Tryz.prog 165 [vV v,slV 3 ValueD.c l] (pInt .i64 (rIn v l)):=by
 have pa:=p_truthany (l.map (rSame v)) (by rw[List.length_map];omega)
 refine pure_of Tryz.func165 (by rfl) rfl (by kernel_rfl) (by rfl) ?_
 ((conv=>whnf);repeat' ((first|(with_reducible first|apply a_|apply b_|apply c_)|((with_reducible first|apply d_|apply e_|apply f_|apply g_);focus first|omega|(simp only[q_]<;>omega))|((with_reducible first|apply i_|apply h_);focus first|omega|(simp only[q_]<;>omega))|((with_reducible apply h_);focus first|decide|kernel_rfl)|refine s_ (by decide) ?_|refine t_ (by decide) ?_|with_reducible first|apply l_|apply m_|apply n_|apply o_|refine p_ (fun _=>?_) (fun _=>?_))<;>(conv=>whnf)))
 refine LoopC.mk Nat (fun k=>[(1,slV 3 ValueD.c l),(2,.d (.ptr 60 0)),(5,.d (.app 61 3 1 (((l.take k).map (rSame v)).map eInt))),(6,pInt .i64 k)]) (fun _=>[(60,.box 33 (v.c.map D.c)),(61,.tail 3 1)]) [60,61] (fun k=>k≤l.length) (fun k=>l.length - k) 0 (Nat.zero_le _) ?start ?round
 case start=>exact⟨[(60,2)],rfl,rfl,⟨.inl rfl,⟨rfl,rfl,rfl⟩,⟨rfl,rfl,Nat.zero_lt_succ _,rfl,rfl⟩,.inl rfl,trivial⟩,⟨rfl,rfl,.inl rfl,.inl rfl,.inl rfl,rfl⟩,⟨rfl,Nat.zero_lt_succ _⟩,trivial⟩
 case round=>
  intro k hk
  by_cases h1:k<l.length
  ·have p1:=p_sameof v l[k]
   ((conv=>whnf);repeat' ((first|(with_reducible first|apply a_|apply b_|apply c_)|((with_reducible first|apply d_|apply e_|apply f_|apply g_);focus first|omega|(simp only[q_]<;>omega))|((with_reducible first|apply i_|apply h_);focus first|omega|(simp only[q_]<;>omega))|((with_reducible apply h_);focus first|decide|kernel_rfl)|refine s_ (by decide) ?_|refine t_ (by decide) ?_|(refine Idx.mapI k rfl h1 ?_)|refine r_ p1 rfl ?_|(refine Need.by 8 rfl (by simp only[List.length_map,List.length_take,List.length_singleton];omega) ?_)|with_reducible first|apply l_|apply m_|apply n_|apply o_|refine p_ (fun _=>?_) (fun _=>?_))<;>(conv=>whnf)))
   exact⟨k+1,by omega,by omega,[(60,60),(61,21)],rfl,rfl,⟨.inl rfl,⟨rfl,rfl,rfl⟩,⟨rfl,rfl,rfl,rfl,by rw[take_snoc h1,List.map_append,List.map_append];rfl⟩,PLe.int rfl,trivial⟩,⟨rfl,rfl,.inl rfl,.inl rfl,.inl rfl,rfl⟩,⟨rfl,rfl,rfl⟩,trivial⟩
  ·rw[List.take_of_length_le (by omega)]
   ((conv=>whnf);repeat' ((first|(with_reducible first|apply a_|apply b_|apply c_)|((with_reducible first|apply d_|apply e_|apply f_|apply g_);focus first|omega|(simp only[q_]<;>omega))|((with_reducible first|apply i_|apply h_);focus first|omega|(simp only[q_]<;>omega))|((with_reducible apply h_);focus first|decide|kernel_rfl)|refine s_ (by decide) ?_|refine t_ (by decide) ?_|refine r_ pa rfl ?_|with_reducible first|apply l_|apply m_|apply n_|apply o_|refine p_ (fun _=>?_) (fun _=>?_))<;>(conv=>whnf)))
   exact Ret.int rfl
end
section
open Go.RowKit K
set_option maxRecDepth 100000
theorem p_told (t:Int):Pure Tryz.prog 124 [pInt .i64 t] (vV (tolV t)):=by
 refine pure_of Tryz.func124 (by rfl) rfl (by kernel_rfl) (by rfl) ?_
 unfold tolV
 by_cases h2:t=2
 ·subst h2
  ((conv=>whnf);repeat' ((first|(with_reducible first|apply a_|apply b_|apply c_)|((with_reducible first|apply d_|apply e_|apply f_|apply g_);focus first|omega|(simp only[q_]<;>omega))|((with_reducible first|apply i_|apply h_);focus first|omega|(simp only[q_]<;>omega))|((with_reducible apply h_);focus first|decide|kernel_rfl)|refine s_ (by decide) ?_|refine t_ (by decide) ?_|with_reducible first|apply l_|apply m_|apply n_|apply o_|refine p_ (fun _=>?_) (fun _=>?_))<;>(conv=>whnf)))
  exact Ret.eq rfl
 ·rw[if_neg h2]
  by_cases h0:t=0
  ·subst h0
   ((conv=>whnf);repeat' ((first|(with_reducible first|apply a_|apply b_|apply c_)|((with_reducible first|apply d_|apply e_|apply f_|apply g_);focus first|omega|(simp only[q_]<;>omega))|((with_reducible first|apply i_|apply h_);focus first|omega|(simp only[q_]<;>omega))|((with_reducible apply h_);focus first|decide|kernel_rfl)|refine s_ (by decide) ?_|refine t_ (by decide) ?_|with_reducible first|apply l_|apply m_|apply n_|apply o_|refine p_ (fun _=>?_) (fun _=>?_))<;>(conv=>whnf)))
   exact Ret.eq rfl
  ·rw[if_neg h0]
   ((conv=>whnf);repeat' ((first|(with_reducible first|apply a_|apply b_|apply c_)|((with_reducible first|apply d_|apply e_|apply f_|apply g_);focus first|omega|(simp only[q_]<;>omega))|((with_reducible first|apply i_|apply h_);focus first|omega|(simp only[q_]<;>omega))|((with_reducible apply h_);focus first|decide|kernel_rfl)|refine s_ (by decide) ?_|refine t_ (by decide) ?_|with_reducible first|apply l_|apply m_|apply n_|apply o_|refine p_ (fun _=>?_) (fun _=>?_))<;>(conv=>whnf)))
   exact Ret.eq rfl
theorem p_truthvalue (t:Int) (ht:IsT t):Pure Tryz.prog 128 [pInt .i64 t] (vV (tolV t)):=by
 refine pure_of Tryz.func128 (by rfl) rfl (by kernel_rfl) (by rfl) ?_
 rcases ht with rfl | rfl | rfl
 ·((conv=>whnf);repeat' ((first|(with_reducible first|apply a_|apply b_|apply c_)|((with_reducible first|apply d_|apply e_|apply f_|apply g_);focus first|omega|(simp only[q_]<;>omega))|((with_reducible first|apply i_|apply h_);focus first|omega|(simp only[q_]<;>omega))|((with_reducible apply h_);focus first|decide|kernel_rfl)|refine s_ (by decide) ?_|refine t_ (by decide) ?_|with_reducible first|apply l_|apply m_|apply n_|apply o_|refine p_ (fun _=>?_) (fun _=>?_))<;>(conv=>whnf)))
  refine Wr.i64 (by decide) (by decide) ?_
  ((conv=>whnf);repeat' ((first|(with_reducible first|apply a_|apply b_|apply c_)|((with_reducible first|apply d_|apply e_|apply f_|apply g_);focus first|omega|(simp only[q_]<;>omega))|((with_reducible first|apply i_|apply h_);focus first|omega|(simp only[q_]<;>omega))|((with_reducible apply h_);focus first|decide|kernel_rfl)|refine s_ (by decide) ?_|refine t_ (by decide) ?_|with_reducible first|apply l_|apply m_|apply n_|apply o_|refine p_ (fun _=>?_) (fun _=>?_))<;>(conv=>whnf)))
  exact Ret.eq rfl
 ·((conv=>whnf);repeat' ((first|(with_reducible first|apply a_|apply b_|apply c_)|((with_reducible first|apply d_|apply e_|apply f_|apply g_);focus first|omega|(simp only[q_]<;>omega))|((with_reducible first|apply i_|apply h_);focus first|omega|(simp only[q_]<;>omega))|((with_reducible apply h_);focus first|decide|kernel_rfl)|refine s_ (by decide) ?_|refine t_ (by decide) ?_|with_reducible first|apply l_|apply m_|apply n_|apply o_|refine p_ (fun _=>?_) (fun _=>?_))<;>(conv=>whnf)))
  exact Ret.eq rfl
 ·((conv=>whnf);repeat' ((first|(with_reducible first|apply a_|apply b_|apply c_)|((with_reducible first|apply d_|apply e_|apply f_|apply g_);focus first|omega|(simp only[q_]<;>omega))|((with_reducible first|apply i_|apply h_);focus first|omega|(simp only[q_]<;>omega))|((with_reducible apply h_);focus first|decide|kernel_rfl)|refine s_ (by decide) ?_|refine t_ (by decide) ?_|with_reducible first|apply l_|apply m_|apply n_|apply o_|refine p_ (fun _=>?_) (fun _=>?_))<;>(conv=>whnf)))
  refine Wr.i64 (by decide) (by decide) ?_
  ((conv=>whnf);repeat' ((first|(with_reducible first|apply a_|apply b_|apply c_)|((with_reducible first|apply d_|apply e_|apply f_|apply g_);focus first|omega|(simp only[q_]<;>omega))|((with_reducible first|apply i_|apply h_);focus first|omega|(simp only[q_]<;>omega))|((with_reducible apply h_);focus first|decide|kernel_rfl)|refine s_ (by decide) ?_|refine t_ (by decide) ?_|with_reducible first|apply l_|apply m_|apply n_|apply o_|refine p_ (fun _=>?_) (fun _=>?_))<;>(conv=>whnf)))
  exact Ret.eq rfl
theorem p_meant (v:ValueD):Pure Tryz.prog 88 [vV v] (.tup [pInt .i64 (meaV v).1,pInt .i64 (meaV v).2]):=by
 have p1:=p_lof (decide (v.N≠0))
 refine pure_of Tryz.func88 (by rfl) rfl (by kernel_rfl) (by rfl) ?_
 unfold meaV
 by_cases h0:v.Kind=0
 ·rw[if_pos h0]
  ((conv=>whnf);repeat' ((first|(with_reducible first|apply a_|apply b_|apply c_)|((with_reducible first|apply d_|apply e_|apply f_|apply g_);focus first|omega|(simp only[q_]<;>omega))|((with_reducible first|apply i_|apply h_);focus first|omega|(simp only[q_]<;>omega))|((with_reducible apply h_);focus first|decide|kernel_rfl)|refine s_ (by decide) ?_|refine t_ (by decide) ?_|refine r_ p1 rfl ?_|with_reducible first|apply l_|apply m_|apply n_|apply o_|refine p_ (fun _=>?_) (fun _=>?_))<;>(conv=>whnf)))
  all_goals first|exact Ret.eq rfl | (exfalso;omega)
 ·rw[if_neg h0]
  by_cases h1:v.Kind=1
  ·rw[if_pos h1]
   ((conv=>whnf);repeat' ((first|(with_reducible first|apply a_|apply b_|apply c_)|((with_reducible first|apply d_|apply e_|apply f_|apply g_);focus first|omega|(simp only[q_]<;>omega))|((with_reducible first|apply i_|apply h_);focus first|omega|(simp only[q_]<;>omega))|((with_reducible apply h_);focus first|decide|kernel_rfl)|refine s_ (by decide) ?_|refine t_ (by decide) ?_|refine r_ p1 rfl ?_|with_reducible first|apply l_|apply m_|apply n_|apply o_|refine p_ (fun _=>?_) (fun _=>?_))<;>(conv=>whnf)))
   all_goals first|exact Ret.eq rfl | (exfalso;omega)
  ·rw[if_neg h1]
   ((conv=>whnf);repeat' ((first|(with_reducible first|apply a_|apply b_|apply c_)|((with_reducible first|apply d_|apply e_|apply f_|apply g_);focus first|omega|(simp only[q_]<;>omega))|((with_reducible first|apply i_|apply h_);focus first|omega|(simp only[q_]<;>omega))|((with_reducible apply h_);focus first|decide|kernel_rfl)|refine s_ (by decide) ?_|refine t_ (by decide) ?_|refine r_ p1 rfl ?_|with_reducible first|apply l_|apply m_|apply n_|apply o_|refine p_ (fun _=>?_) (fun _=>?_))<;>(conv=>whnf)))
   all_goals first|exact Ret.eq rfl | (exfalso;omega)
theorem p_truthof (v:ValueD) (hv:0≤v.Kind):Pure Tryz.prog 68 [vV v] (.tup [pInt .i64 (meaV v).1,pInt .i64 (meaV v).2]):=by
 have p1:=p_truth (decide (v.N≠0))
 refine pure_of Tryz.func68 (by rfl) rfl (by kernel_rfl) (by rfl) ?_
 unfold meaV
 by_cases h0:v.Kind=0
 ·rw[if_pos h0]
  ((conv=>whnf);repeat' ((first|(with_reducible first|apply a_|apply b_|apply c_)|((with_reducible first|apply d_|apply e_|apply f_|apply g_);focus first|omega|(simp only[q_]<;>omega))|((with_reducible first|apply i_|apply h_);focus first|omega|(simp only[q_]<;>omega))|((with_reducible apply h_);focus first|decide|kernel_rfl)|refine s_ (by decide) ?_|refine t_ (by decide) ?_|refine r_ p1 rfl ?_|with_reducible first|apply l_|apply m_|apply n_|apply o_|refine p_ (fun _=>?_) (fun _=>?_))<;>(conv=>whnf)))
  all_goals first|exact Ret.eq rfl | (exfalso;omega)
 ·rw[if_neg h0]
  by_cases h1:v.Kind=1
  ·rw[if_pos h1]
   ((conv=>whnf);repeat' ((first|(with_reducible first|apply a_|apply b_|apply c_)|((with_reducible first|apply d_|apply e_|apply f_|apply g_);focus first|omega|(simp only[q_]<;>omega))|((with_reducible first|apply i_|apply h_);focus first|omega|(simp only[q_]<;>omega))|((with_reducible apply h_);focus first|decide|kernel_rfl)|refine s_ (by decide) ?_|refine t_ (by decide) ?_|refine r_ p1 rfl ?_|with_reducible first|apply l_|apply m_|apply n_|apply o_|refine p_ (fun _=>?_) (fun _=>?_))<;>(conv=>whnf)))
   all_goals first|exact Ret.eq rfl | (exfalso;omega)
  ·rw[if_neg h1]
   ((conv=>whnf);repeat' ((first|(with_reducible first|apply a_|apply b_|apply c_)|((with_reducible first|apply d_|apply e_|apply f_|apply g_);focus first|omega|(simp only[q_]<;>omega))|((with_reducible first|apply i_|apply h_);focus first|omega|(simp only[q_]<;>omega))|((with_reducible apply h_);focus first|decide|kernel_rfl)|refine s_ (by decide) ?_|refine t_ (by decide) ?_|refine r_ p1 rfl ?_|with_reducible first|apply l_|apply m_|apply n_|apply o_|refine p_ (fun _=>?_) (fun _=>?_))<;>(conv=>whnf)))
   all_goals first|exact Ret.eq rfl | (exfalso;omega)
theorem p_negated (op:Int):Pure Tryz.prog 120 [pInt .i64 op] (pBool (negB op)):=by
 refine pure_of Tryz.func120 (by rfl) rfl (by kernel_rfl) (by rfl) ?_
 unfold negB
 by_cases h:op=11∨op=13∨op=15∨op=19∨op=21∨op=23∨op=25
 ·rw[decide_eq_true h]
  rcases h with rfl | rfl | rfl | rfl | rfl | rfl | rfl
  all_goals
   ((conv=>whnf);repeat' ((first|(with_reducible first|apply a_|apply b_|apply c_)|((with_reducible first|apply d_|apply e_|apply f_|apply g_);focus first|omega|(simp only[q_]<;>omega))|((with_reducible first|apply i_|apply h_);focus first|omega|(simp only[q_]<;>omega))|((with_reducible apply h_);focus first|decide|kernel_rfl)|refine s_ (by decide) ?_|refine t_ (by decide) ?_|with_reducible first|apply l_|apply m_|apply n_|apply o_|refine p_ (fun _=>?_) (fun _=>?_))<;>(conv=>whnf)))
   exact Ret.bool rfl
 ·rw[decide_eq_false h]
  ((conv=>whnf);repeat' ((first|(with_reducible first|apply a_|apply b_|apply c_)|((with_reducible first|apply d_|apply e_|apply f_|apply g_);focus first|omega|(simp only[q_]<;>omega))|((with_reducible first|apply i_|apply h_);focus first|omega|(simp only[q_]<;>omega))|((with_reducible apply h_);focus first|decide|kernel_rfl)|refine s_ (by decide) ?_|refine t_ (by decide) ?_|with_reducible first|apply l_|apply m_|apply n_|apply o_|refine p_ (fun _=>?_) (fun _=>?_))<;>(conv=>whnf)))
  all_goals first|exact Ret.bool rfl | (exfalso;omega)
theorem p_counter (op:Int):Pure Tryz.prog 121 [pInt .i64 op] (pInt .i64 (couF op)):=by
 refine pure_of Tryz.func121 (by rfl) rfl (by kernel_rfl) (by rfl) ?_
 unfold couF
 by_cases h:10≤op∧op≤25
 ·have hc:op=10∨op=11∨op=12∨op=13∨op=14∨op=15∨op=16∨op=17∨op=18∨op=19∨op=20∨op=21∨op=22∨op=23∨op=24∨op=25:=by omega
  clear h
  rcases hc with rfl | rfl | rfl | rfl | rfl | rfl | rfl | rfl | rfl | rfl | rfl | rfl | rfl | rfl | rfl | rfl
  all_goals
   ((conv=>whnf);repeat' ((first|(with_reducible first|apply a_|apply b_|apply c_)|((with_reducible first|apply d_|apply e_|apply f_|apply g_);focus first|omega|(simp only[q_]<;>omega))|((with_reducible first|apply i_|apply h_);focus first|omega|(simp only[q_]<;>omega))|((with_reducible apply h_);focus first|decide|kernel_rfl)|refine s_ (by decide) ?_|refine t_ (by decide) ?_|with_reducible first|apply l_|apply m_|apply n_|apply o_|refine p_ (fun _=>?_) (fun _=>?_))<;>(conv=>whnf)))
   exact Ret.int rfl
 ·rw[if_neg (by omega),if_neg (by omega),if_neg (by omega)]
  ((conv=>whnf);repeat' ((first|(with_reducible first|apply a_|apply b_|apply c_)|((with_reducible first|apply d_|apply e_|apply f_|apply g_);focus first|omega|(simp only[q_]<;>omega))|((with_reducible first|apply i_|apply h_);focus first|omega|(simp only[q_]<;>omega))|((with_reducible apply h_);focus first|decide|kernel_rfl)|refine s_ (by decide) ?_|refine t_ (by decide) ?_|with_reducible first|apply l_|apply m_|apply n_|apply o_|refine p_ (fun _=>?_) (fun _=>?_))<;>(conv=>whnf)))
  all_goals first|exact Ret.int rfl | (exfalso;omega)
end
section
open Go.RowKit K
set_option maxRecDepth 100000
theorem p_betweenof (v lo hi:ValueD) (h1:okText v.S) (h2:okText lo.S) (h3:okText hi.S):Pure Tryz.prog 166 [vV v,vV lo,vV hi] (pInt .i64 (rBetween v lo hi)):=by
 have p1:=p_lessof v lo h1 h2
 have p2:=p_lessof hi v h3 h1
 have p3:=p_truthnot (rLess v lo)
 have p4:=p_truthnot (rLess hi v)
 have p5:=p_truthall [tNot (rLess v lo),tNot (rLess hi v)] (by simp)
 refine pure_of Tryz.func166 (by rfl) rfl (by kernel_rfl) (by rfl) ?_
 ((conv=>whnf);repeat' ((first|(with_reducible first|apply a_|apply b_|apply c_)|((with_reducible first|apply d_|apply e_|apply f_|apply g_);focus first|omega|(simp only[q_]<;>omega))|((with_reducible first|apply i_|apply h_);focus first|omega|(simp only[q_]<;>omega))|((with_reducible apply h_);focus first|decide|kernel_rfl)|refine s_ (by decide) ?_|refine t_ (by decide) ?_|refine r_ p1 rfl ?_|refine r_ p2 rfl ?_|refine r_ p3 rfl ?_|refine r_ p4 rfl ?_|refine r_ p5 rfl ?_|with_reducible first|apply l_|apply m_|apply n_|apply o_|refine p_ (fun _=>?_) (fun _=>?_))<;>(conv=>whnf)))
 refine Ret.int ?_
 unfold rBetween tAll
 have q1:=isT_not (rLess v lo)
 have q2:=isT_not (rLess hi v)
 show tAnd (tAnd 2 _) _=_
 rcases q1 with q | q | q<;>rcases q2 with r | r | r<;>rw[q,r]<;>rfl
theorem p_numbers (k:List ValueD) (hl:k.length≤140737488355328):Pure Tryz.prog 147 [slV 3 ValueD.c k] (.tup [pBool (numV k).1,pInt .i64 (numV k).2]):=by
 refine pure_of Tryz.func147 (by rfl) rfl (by kernel_rfl) (by rfl) ?_
 ((conv=>whnf);repeat' ((first|(with_reducible first|apply a_|apply b_|apply c_)|((with_reducible first|apply d_|apply e_|apply f_|apply g_);focus first|omega|(simp only[q_]<;>omega))|((with_reducible first|apply i_|apply h_);focus first|omega|(simp only[q_]<;>omega))|((with_reducible apply h_);focus first|decide|kernel_rfl)|refine s_ (by decide) ?_|refine t_ (by decide) ?_|with_reducible first|apply l_|apply m_|apply n_|apply o_|refine p_ (fun _=>?_) (fun _=>?_))<;>(conv=>whnf)))
 refine LoopC.mk Nat (fun j=>[(2,pBool (numV (k.take j)).1),(3,pInt .i64 (numV (k.take j)).2),(6,slV 3 ValueD.c k),(7,pInt .i64 k.length),(8,pInt .i64 j)]) (fun _=>[]) [] (fun j=>j≤k.length) (fun j=>k.length - j) 0 (Nat.zero_le _) ?start ?round
 case start=>exact⟨[],rfl,rfl,⟨.inl rfl,.inl rfl,.inl rfl,PLe.int (by simp),.inl rfl,trivial⟩,trivial⟩
 case round=>
  intro j hj
  by_cases h1:j<k.length
  ·have e1:(numV (k.take (j+1))).1=((numV (k.take j)).1||isN k[j]):=by
    show (k.take (j+1)).any isN=_
    rw[take_snoc h1,List.any_append];simp[numV]
   have e2:(numV (k.take (j+1))).2=if isTB k[j] then 7 else (numV (k.take j)).2:=by
    show (if (k.take (j+1)).any isTB then (7:Int) else 0)=if _ then 7 else (if (k.take j).any isTB then 7 else 0)
    rw[take_snoc h1,List.any_append]
    cases (k.take j).any isTB<;>cases q:isTB k[j]<;>simp[q]
   by_cases c0:k[j].Kind=0
   ·have a1:isN k[j]=true:=decide_eq_true c0
    have a2:isTB k[j]=false:=decide_eq_false (by omega)
    rw[a1,Bool.or_true] at e1
    rw[a2] at e2
    ((conv=>whnf);repeat' ((first|(with_reducible first|apply a_|apply b_|apply c_)|((with_reducible first|apply d_|apply e_|apply f_|apply g_);focus first|omega|(simp only[q_]<;>omega))|((with_reducible first|apply i_|apply h_);focus first|omega|(simp only[q_]<;>omega))|((with_reducible apply h_);focus first|decide|kernel_rfl)|refine s_ (by decide) ?_|refine t_ (by decide) ?_|(refine Idx.mapI j rfl h1 ?_)|with_reducible first|apply l_|apply m_|apply n_|apply o_|refine p_ (fun _=>?_) (fun _=>?_))<;>(conv=>whnf)))
    exact⟨j+1,by omega,by omega,[],rfl,rfl,⟨PLe.bool e1.symm,PLe.int e2.symm,.inl rfl,.inl rfl,PLe.int rfl,trivial⟩,trivial⟩
   ·have a1:isN k[j]=false:=decide_eq_false c0
    rw[a1,Bool.or_false] at e1
    by_cases c2:k[j].Kind=2∨k[j].Kind=3
    ·have a2:isTB k[j]=true:=decide_eq_true c2
     rw[a2] at e2
     ((conv=>whnf);repeat' ((first|(with_reducible first|apply a_|apply b_|apply c_)|((with_reducible first|apply d_|apply e_|apply f_|apply g_);focus first|omega|(simp only[q_]<;>omega))|((with_reducible first|apply i_|apply h_);focus first|omega|(simp only[q_]<;>omega))|((with_reducible apply h_);focus first|decide|kernel_rfl)|refine s_ (by decide) ?_|refine t_ (by decide) ?_|(refine Idx.mapI j rfl h1 ?_)|with_reducible first|apply l_|apply m_|apply n_|apply o_|refine p_ (fun _=>?_) (fun _=>?_))<;>(conv=>whnf)))
     all_goals first|exact⟨j+1,by omega,by omega,[],rfl,rfl,⟨PLe.bool e1.symm,PLe.int e2.symm,.inl rfl,.inl rfl,PLe.int rfl,trivial⟩,trivial⟩ | (exfalso;omega)
    ·have a2:isTB k[j]=false:=decide_eq_false c2
     rw[a2] at e2
     ((conv=>whnf);repeat' ((first|(with_reducible first|apply a_|apply b_|apply c_)|((with_reducible first|apply d_|apply e_|apply f_|apply g_);focus first|omega|(simp only[q_]<;>omega))|((with_reducible first|apply i_|apply h_);focus first|omega|(simp only[q_]<;>omega))|((with_reducible apply h_);focus first|decide|kernel_rfl)|refine s_ (by decide) ?_|refine t_ (by decide) ?_|(refine Idx.mapI j rfl h1 ?_)|with_reducible first|apply l_|apply m_|apply n_|apply o_|refine p_ (fun _=>?_) (fun _=>?_))<;>(conv=>whnf)))
     all_goals first|exact⟨j+1,by omega,by omega,[],rfl,rfl,⟨PLe.bool e1.symm,PLe.int e2.symm,.inl rfl,.inl rfl,PLe.int rfl,trivial⟩,trivial⟩ | (exfalso;omega)
  ·rw[List.take_of_length_le (by omega)]
   ((conv=>whnf);repeat' ((first|(with_reducible first|apply a_|apply b_|apply c_)|((with_reducible first|apply d_|apply e_|apply f_|apply g_);focus first|omega|(simp only[q_]<;>omega))|((with_reducible first|apply i_|apply h_);focus first|omega|(simp only[q_]<;>omega))|((with_reducible apply h_);focus first|decide|kernel_rfl)|refine s_ (by decide) ?_|refine t_ (by decide) ?_|with_reducible first|apply l_|apply m_|apply n_|apply o_|refine p_ (fun _=>?_) (fun _=>?_))<;>(conv=>whnf)))
   exact Ret.eq rfl
end
section
open Go.RowKit LikeP
end
section
open Go.RowKit LikeP
abbrev texts (l:List ByteArray):PV:=.d (.c (.sl 1 (l.map encS)))
theorem p_match (p s:ByteArray):Pure Tryz.prog 183 [pStr p,pStr s] (.tup [pBool (matB p s),pInt .i64 (matE p s)]):=by
 refine pure_hand (vs:=[.string p,.string s]) ⟨_,Tryz.func183,by rfl,by rfl⟩ fun w hG=>?_
 refine (match_any p s w hG).mono ?_
 rintro e w' ⟨rfl,hb⟩
 refine⟨_,rfl,hb,fun F _=>?_⟩
 unfold PRep
 exact⟨[_,_],rfl,by unfold PsRep;exact⟨rep_bool _,by unfold PsRep;exact⟨rep_int _ _,by unfold PsRep;trivial⟩⟩⟩
theorem p_check (s:ByteArray):Pure Tryz.prog 127 [pStr s] (pInt .i64 (patE s)):=by
 refine pure_hand (vs:=[.string s]) ⟨_,Tryz.func127,by rfl,by rfl⟩ fun w hG=>?_
 refine (patterncheck_any s w).mono ?_
 rintro e w' ⟨rfl,hb⟩
 exact⟨_,rfl,hb,fun F _=>rep_int _ _⟩
theorem rep_row {F:Fzn} {w:World} {B:Nat} {v:Value} {l:List ByteArray} (h:w.ownsRow B 9 1 v l.length (l.map Value.string)) (hF:∀b o,B≤b→b<w.heap.size→F b o):PRep (fun _=>none) F w (texts l) v:=by
 unfold PRep DRep
 exact sl_of_row h (by rw[List.length_map]) (fun r hr=>by obtain⟨x,_,rfl⟩:=List.mem_map.1 hr;rfl) (rep_texts l) hF
theorem p_piecesof (s:ByteArray) (hz:s.size*16≤140737488355328):Pure Tryz.prog 162 [pStr s] (texts (pcs s)):=by
 refine pure_hand (vs:=[.string s]) ⟨_,Tryz.func162,by rfl,by rfl⟩ fun w hG=>?_
 refine (piecesof_any s w hz).mono ?_
 rintro e w' ⟨v,rfl,hr,hb⟩
 exact⟨_,rfl,hb,fun F hF=>rep_row hr hF⟩
end
section
open Go.RowKit K
set_option maxRecDepth 100000
theorem p_liken (k:List ValueD) (hl:k.length=2):Pure Tryz.prog 153 [slV 3 ValueD.c k] (.tup [pInt .i64 (likV k).1,pInt .i64 (likV k).2]):=by
 have l0:0<k.length:=by omega
 have l1:1<k.length:=by omega
 have pm:=p_match (tx k[1].S) (tx k[0].S)
 have po:=p_lof (LikeP.matB (tx k[1].S) (tx k[0].S))
 have g0:k.getD 0 noV=k[0]:=by rw[List.getD_eq_getElem?_getD,List.getElem?_eq_getElem l0];rfl
 have g1:k.getD 1 noV=k[1]:=by rw[List.getD_eq_getElem?_getD,List.getElem?_eq_getElem l1];rfl
 refine pure_of Tryz.func153 (by rfl) rfl (by kernel_rfl) (by rfl) ?_
 ((conv=>whnf);repeat' ((first|(with_reducible first|apply a_|apply b_|apply c_)|((with_reducible first|apply d_|apply e_|apply f_|apply g_);focus first|omega|(simp only[q_]<;>omega))|((with_reducible first|apply i_|apply h_);focus first|omega|(simp only[q_]<;>omega))|((with_reducible apply h_);focus first|decide|kernel_rfl)|refine s_ (by decide) ?_|refine t_ (by decide) ?_|with_reducible first|apply l_|apply m_|apply n_|apply o_|refine p_ (fun _=>?_) (fun _=>?_))<;>(conv=>whnf)))
 refine LoopC.mk Nat (fun j=>[(0,slV 3 ValueD.c k),(4,pInt .i64 (if (k.take j).any isN then 1 else 2)),(9,slV 3 ValueD.c k),(10,pInt .i64 k.length),(11,pInt .i64 j)]) (fun _=>[]) [] (fun j=>j≤k.length∧(k.take j).any isIB=false) (fun j=>k.length - j) 0 ⟨Nat.zero_le _,rfl⟩ ?start ?round
 case start=>exact⟨[],rfl,rfl,⟨.inl rfl,.inl rfl,.inl rfl,PLe.int (by simp),.inl rfl,trivial⟩,trivial⟩
 case round=>
  rintro j ⟨hj,hb⟩
  have hj:j≤k.length:=hj
  by_cases h1:j<k.length
  ·have e1:(k.take (j+1)).any isN=((k.take j).any isN||isN k[j]):=by rw[take_snoc h1,List.any_append];simp
   have e2:(k.take (j+1)).any isIB=isIB k[j]:=by rw[take_snoc h1,List.any_append,hb];simp
   by_cases c1:k[j].Kind=1∨k[j].Kind=3
   ·have hk:likV k=(0,7):=by
     unfold likV
     rw[if_pos (List.any_eq_true.2 ⟨k[j],List.getElem_mem h1,decide_eq_true c1⟩)]
    rw[hk]
    ((conv=>whnf);repeat' ((first|(with_reducible first|apply a_|apply b_|apply c_)|((with_reducible first|apply d_|apply e_|apply f_|apply g_);focus first|omega|(simp only[q_]<;>omega))|((with_reducible first|apply i_|apply h_);focus first|omega|(simp only[q_]<;>omega))|((with_reducible apply h_);focus first|decide|kernel_rfl)|refine s_ (by decide) ?_|refine t_ (by decide) ?_|(refine Idx.mapI j rfl h1 ?_)|with_reducible first|apply l_|apply m_|apply n_|apply o_|refine p_ (fun _=>?_) (fun _=>?_))<;>(conv=>whnf)))
    all_goals first|exact Ret.eq rfl | (exfalso;omega)
   ·have a2:isIB k[j]=false:=decide_eq_false c1
    rw[a2] at e2
    by_cases c0:k[j].Kind=0
    ·have a1:isN k[j]=true:=decide_eq_true c0
     rw[a1,Bool.or_true] at e1
     ((conv=>whnf);repeat' ((first|(with_reducible first|apply a_|apply b_|apply c_)|((with_reducible first|apply d_|apply e_|apply f_|apply g_);focus first|omega|(simp only[q_]<;>omega))|((with_reducible first|apply i_|apply h_);focus first|omega|(simp only[q_]<;>omega))|((with_reducible apply h_);focus first|decide|kernel_rfl)|refine s_ (by decide) ?_|refine t_ (by decide) ?_|(refine Idx.mapI j rfl h1 ?_)|with_reducible first|apply l_|apply m_|apply n_|apply o_|refine p_ (fun _=>?_) (fun _=>?_))<;>(conv=>whnf)))
     all_goals first|exact⟨j+1,⟨by omega,e2⟩,by omega,[],rfl,rfl,⟨.inl rfl,PLe.int (by rw[e1];rfl),.inl rfl,.inl rfl,PLe.int rfl,trivial⟩,trivial⟩ | (exfalso;omega)
    ·have a1:isN k[j]=false:=decide_eq_false c0
     rw[a1,Bool.or_false] at e1
     ((conv=>whnf);repeat' ((first|(with_reducible first|apply a_|apply b_|apply c_)|((with_reducible first|apply d_|apply e_|apply f_|apply g_);focus first|omega|(simp only[q_]<;>omega))|((with_reducible first|apply i_|apply h_);focus first|omega|(simp only[q_]<;>omega))|((with_reducible apply h_);focus first|decide|kernel_rfl)|refine s_ (by decide) ?_|refine t_ (by decide) ?_|(refine Idx.mapI j rfl h1 ?_)|with_reducible first|apply l_|apply m_|apply n_|apply o_|refine p_ (fun _=>?_) (fun _=>?_))<;>(conv=>whnf)))
     all_goals first|exact⟨j+1,⟨by omega,e2⟩,by omega,[],rfl,rfl,⟨.inl rfl,PLe.int (by rw[e1]),.inl rfl,.inl rfl,PLe.int rfl,trivial⟩,trivial⟩ | (exfalso;omega)
  ·rw[List.take_of_length_le (by omega)] at hb
   rw[List.take_of_length_le (by omega)]
   cases hN:k.any isN with
   | true=>
    have hk:likV k=(1,0):=by unfold likV;rw[hb,hN];rfl
    rw[hk]
    ((conv=>whnf);repeat' ((first|(with_reducible first|apply a_|apply b_|apply c_)|((with_reducible first|apply d_|apply e_|apply f_|apply g_);focus first|omega|(simp only[q_]<;>omega))|((with_reducible first|apply i_|apply h_);focus first|omega|(simp only[q_]<;>omega))|((with_reducible apply h_);focus first|decide|kernel_rfl)|refine s_ (by decide) ?_|refine t_ (by decide) ?_|with_reducible first|apply l_|apply m_|apply n_|apply o_|refine p_ (fun _=>?_) (fun _=>?_))<;>(conv=>whnf)))
    all_goals exact Ret.eq rfl
   | false=>
    have hk:likV k=(tOf (LikeP.matB (tx k[1].S) (tx k[0].S)),LikeP.matE (tx k[1].S) (tx k[0].S)):=by unfold likV;rw[hb,hN,g0,g1];rfl
    rw[hk]
    ((conv=>whnf);repeat' ((first|(with_reducible first|apply a_|apply b_|apply c_)|((with_reducible first|apply d_|apply e_|apply f_|apply g_);focus first|omega|(simp only[q_]<;>omega))|((with_reducible first|apply i_|apply h_);focus first|omega|(simp only[q_]<;>omega))|((with_reducible apply h_);focus first|decide|kernel_rfl)|refine s_ (by decide) ?_|refine t_ (by decide) ?_|(refine Idx.mapI 1 rfl l1 ?_)|(refine Idx.mapI 0 rfl l0 ?_)|refine r_ pm rfl ?_|refine r_ po rfl ?_|with_reducible first|apply l_|apply m_|apply n_|apply o_|refine p_ (fun _=>?_) (fun _=>?_))<;>(conv=>whnf)))
    all_goals exact Ret.eq rfl
end
section
open Go.RowKit K WholeP
set_option maxRecDepth 100000
def pFit (r:Int×Int):PV:=.tup [pInt .i64 r.1,pInt .i64 r.2]
theorem rep_pair {σ:Sg} {F:Fzn} {w:World} (r:Int×Int):PRep σ F w (pFit r) (pair r):=by
 unfold pFit PRep
 exact⟨[_,_],rfl,by unfold PsRep;exact⟨rep_int _ _,by unfold PsRep;exact⟨rep_int _ _,by unfold PsRep;trivial⟩⟩⟩
theorem pure_fit {f:FuncId} {a b:Int} {r:Int×Int} (hf:fnOk Tryz.prog f) (h:∀w:World,Calls Tryz.prog f #[.int .i64 a,.int .i64 b] w fun e w'=>e=.returned (pair r)∧w=w'):Pure Tryz.prog f [pInt .i64 a,pInt .i64 b] (pFit r):=by
 refine pure_hand (vs:=[.int .i64 a,.int .i64 b]) hf fun w hG=>?_
 refine (h w).mono ?_
 rintro e w' ⟨rfl,rfl⟩
 refine⟨_,rfl,Below.refl _ _,fun F hF=>?_⟩
 exact rep_pair _
theorem p_wadd (a b:Int) (ha:In64 a) (hb:In64 b):Pure Tryz.prog 171 [pInt .i64 a,pInt .i64 b] (pFit (fit (a+b))):=pure_fit ⟨_,Tryz.func171,by rfl,by rfl⟩ (add_any a b ha hb)
theorem p_wsub (a b:Int) (ha:In64 a) (hb:In64 b):Pure Tryz.prog 172 [pInt .i64 a,pInt .i64 b] (pFit (fit (a - b))):=pure_fit ⟨_,Tryz.func172,by rfl,by rfl⟩ (sub_any a b ha hb)
theorem p_wmul (a b:Int) (ha:In64 a) (hb:In64 b):Pure Tryz.prog 173 [pInt .i64 a,pInt .i64 b] (pFit (fit (a*b))):=pure_fit ⟨_,Tryz.func173,by rfl,by rfl⟩ (mul_any a b ha hb)
theorem p_wdiv (a b:Int) (ha:In64 a) (hb:In64 b):Pure Tryz.prog 174 [pInt .i64 a,pInt .i64 b] (pFit (quo a b)):=pure_fit ⟨_,Tryz.func174,by rfl,by rfl⟩ (div_any a b ha hb)
theorem p_wmod (a b:Int) (ha:In64 a) (hb:In64 b):Pure Tryz.prog 175 [pInt .i64 a,pInt .i64 b] (pFit (rem a b)):=pure_fit ⟨_,Tryz.func175,by rfl,by rfl⟩ (mod_any a b ha hb)
theorem p_wneg (a:Int) (ha:In64 a):Pure Tryz.prog 177 [pInt .i64 a] (pFit (fit (-a))):=by
 refine pure_hand (vs:=[.int .i64 a]) ⟨_,Tryz.func177,by rfl,by rfl⟩ fun w hG=>?_
 refine (neg_any a ha w).mono ?_
 rintro e w' ⟨rfl,rfl⟩
 exact⟨_,rfl,Below.refl _ _,fun F hF=>rep_pair _⟩
theorem p_plusof (a b:Int) (ha:In64 a) (hb:In64 b):Pure Tryz.prog 157 [pInt .i64 a,pInt .i64 b] (pFit (fit (a+b))):=pure_fit ⟨_,Tryz.func157,by rfl,by rfl⟩ (plusof_any a b ha hb)
theorem p_minusof (a b:Int) (ha:In64 a) (hb:In64 b):Pure Tryz.prog 156 [pInt .i64 a,pInt .i64 b] (pFit (fit (a - b))):=pure_fit ⟨_,Tryz.func156,by rfl,by rfl⟩ (minusof_any a b ha hb)
theorem p_timesof (a b:Int) (ha:In64 a) (hb:In64 b):Pure Tryz.prog 158 [pInt .i64 a,pInt .i64 b] (pFit (fit (a*b))):=pure_fit ⟨_,Tryz.func158,by rfl,by rfl⟩ (timesof_any a b ha hb)
theorem p_overof (a b:Int) (ha:In64 a) (hb:In64 b):Pure Tryz.prog 159 [pInt .i64 a,pInt .i64 b] (pFit (quo a b)):=pure_fit ⟨_,Tryz.func159,by rfl,by rfl⟩ (overof_any a b ha hb)
theorem p_leftof (a b:Int) (ha:In64 a) (hb:In64 b):Pure Tryz.prog 160 [pInt .i64 a,pInt .i64 b] (pFit (rem a b)):=pure_fit ⟨_,Tryz.func160,by rfl,by rfl⟩ (leftof_any a b ha hb)
end
section
open Go.RowKit K
set_option maxRecDepth 100000
theorem p_reck5:Pure Tryz.prog 148 [pInt .i64 5] (fnV 171):=by
 refine pure_of Tryz.func148 (by rfl) rfl (by kernel_rfl) (by rfl) ?_
 ((conv=>whnf);repeat' ((first|(with_reducible first|apply a_|apply b_|apply c_)|((with_reducible first|apply d_|apply e_|apply f_|apply g_);focus first|omega|(simp only[q_]<;>omega))|((with_reducible first|apply i_|apply h_);focus first|omega|(simp only[q_]<;>omega))|((with_reducible apply h_);focus first|decide|kernel_rfl)|refine s_ (by decide) ?_|refine t_ (by decide) ?_|with_reducible first|apply l_|apply m_|apply n_|apply o_|refine p_ (fun _=>?_) (fun _=>?_))<;>(conv=>whnf)))
 exact Ret.eq rfl
theorem p_reck6:Pure Tryz.prog 148 [pInt .i64 6] (fnV 172):=by
 refine pure_of Tryz.func148 (by rfl) rfl (by kernel_rfl) (by rfl) ?_
 ((conv=>whnf);repeat' ((first|(with_reducible first|apply a_|apply b_|apply c_)|((with_reducible first|apply d_|apply e_|apply f_|apply g_);focus first|omega|(simp only[q_]<;>omega))|((with_reducible first|apply i_|apply h_);focus first|omega|(simp only[q_]<;>omega))|((with_reducible apply h_);focus first|decide|kernel_rfl)|refine s_ (by decide) ?_|refine t_ (by decide) ?_|with_reducible first|apply l_|apply m_|apply n_|apply o_|refine p_ (fun _=>?_) (fun _=>?_))<;>(conv=>whnf)))
 exact Ret.eq rfl
theorem p_reck7:Pure Tryz.prog 148 [pInt .i64 7] (fnV 173):=by
 refine pure_of Tryz.func148 (by rfl) rfl (by kernel_rfl) (by rfl) ?_
 ((conv=>whnf);repeat' ((first|(with_reducible first|apply a_|apply b_|apply c_)|((with_reducible first|apply d_|apply e_|apply f_|apply g_);focus first|omega|(simp only[q_]<;>omega))|((with_reducible first|apply i_|apply h_);focus first|omega|(simp only[q_]<;>omega))|((with_reducible apply h_);focus first|decide|kernel_rfl)|refine s_ (by decide) ?_|refine t_ (by decide) ?_|with_reducible first|apply l_|apply m_|apply n_|apply o_|refine p_ (fun _=>?_) (fun _=>?_))<;>(conv=>whnf)))
 exact Ret.eq rfl
theorem p_reck8:Pure Tryz.prog 148 [pInt .i64 8] (fnV 174):=by
 refine pure_of Tryz.func148 (by rfl) rfl (by kernel_rfl) (by rfl) ?_
 ((conv=>whnf);repeat' ((first|(with_reducible first|apply a_|apply b_|apply c_)|((with_reducible first|apply d_|apply e_|apply f_|apply g_);focus first|omega|(simp only[q_]<;>omega))|((with_reducible first|apply i_|apply h_);focus first|omega|(simp only[q_]<;>omega))|((with_reducible apply h_);focus first|decide|kernel_rfl)|refine s_ (by decide) ?_|refine t_ (by decide) ?_|with_reducible first|apply l_|apply m_|apply n_|apply o_|refine p_ (fun _=>?_) (fun _=>?_))<;>(conv=>whnf)))
 exact Ret.eq rfl
theorem p_reck9:Pure Tryz.prog 148 [pInt .i64 9] (fnV 175):=by
 refine pure_of Tryz.func148 (by rfl) rfl (by kernel_rfl) (by rfl) ?_
 ((conv=>whnf);repeat' ((first|(with_reducible first|apply a_|apply b_|apply c_)|((with_reducible first|apply d_|apply e_|apply f_|apply g_);focus first|omega|(simp only[q_]<;>omega))|((with_reducible first|apply i_|apply h_);focus first|omega|(simp only[q_]<;>omega))|((with_reducible apply h_);focus first|decide|kernel_rfl)|refine s_ (by decide) ?_|refine t_ (by decide) ?_|with_reducible first|apply l_|apply m_|apply n_|apply o_|refine p_ (fun _=>?_) (fun _=>?_))<;>(conv=>whnf)))
 exact Ret.eq rfl
theorem p_reck3:Pure Tryz.prog 148 [pInt .i64 3] (fnV 176):=by
 refine pure_of Tryz.func148 (by rfl) rfl (by kernel_rfl) (by rfl) ?_
 ((conv=>whnf);repeat' ((first|(with_reducible first|apply a_|apply b_|apply c_)|((with_reducible first|apply d_|apply e_|apply f_|apply g_);focus first|omega|(simp only[q_]<;>omega))|((with_reducible first|apply i_|apply h_);focus first|omega|(simp only[q_]<;>omega))|((with_reducible apply h_);focus first|decide|kernel_rfl)|refine s_ (by decide) ?_|refine t_ (by decide) ?_|with_reducible first|apply l_|apply m_|apply n_|apply o_|refine p_ (fun _=>?_) (fun _=>?_))<;>(conv=>whnf)))
 exact Ret.eq rfl
theorem p_reckneg (a b:Int) (ha:WholeP.In64 a):Pure Tryz.prog 176 [pInt .i64 a,pInt .i64 b] (pFit (WholeP.fit (-a))):=by
 have pn:=p_wneg a ha
 refine pure_of Tryz.func176 (by rfl) rfl (by kernel_rfl) (by rfl) ?_
 ((conv=>whnf);repeat' ((first|(with_reducible first|apply a_|apply b_|apply c_)|((with_reducible first|apply d_|apply e_|apply f_|apply g_);focus first|omega|(simp only[q_]<;>omega))|((with_reducible first|apply i_|apply h_);focus first|omega|(simp only[q_]<;>omega))|((with_reducible apply h_);focus first|decide|kernel_rfl)|refine s_ (by decide) ?_|refine t_ (by decide) ?_|refine r_ pn rfl ?_|with_reducible first|apply l_|apply m_|apply n_|apply o_|refine p_ (fun _=>?_) (fun _=>?_))<;>(conv=>whnf)))
 all_goals exact Ret.eq rfl
end
section
open Go.RowKit K
set_option maxRecDepth 100000
theorem p_reckon_of (op:Int) (f:FuncId) (pr:Pure Tryz.prog 148 [pInt .i64 op] (fnV f)) (pf:∀a b:Int,WholeP.In64 a→WholeP.In64 b→Pure Tryz.prog f [pInt .i64 a,pInt .i64 b] (pFit (whoF op a b))) (k:List ValueD) (h0:0<k.length) (hl:k.length≤1000) (hin:∀v∈k,WholeP.In64 v.N) :
  Pure Tryz.prog 119 [pInt .i64 op,slV 3 ValueD.c k] (.tup [vV (recV op k).1,pInt .i64 (recV op k).2]):=by
 have pn:=p_numbers k (by omega)
 have l1:k.length - 1<k.length:=by omega
 have e0:k.headD noV=k[0]:=by cases k with
  | nil=>simp at h0
  | cons x k=>rfl
 have e1:k.getLastD noV=k[k.length - 1]:=by
  rw[List.getLastD_eq_getLast?,List.getLast?_eq_getElem?,List.getElem?_eq_getElem l1];rfl
 have ei:(((k.map ValueD.c).length:Nat):Int) - 1=((k.length - 1:Nat):Int):=by rw[List.length_map];omega
 have pw:=pf k[0].N k[k.length - 1].N (hin _ (List.getElem_mem _)) (hin _ (List.getElem_mem _))
 refine pure_of Tryz.func119 (by rfl) rfl (by kernel_rfl) (by rfl) ?_
 unfold recV
 rw[e0,e1]
 unfold numV at pn
 cases hT:k.any isTB with
 | true=>
  rw[hT] at pn
  cases hN:k.any isN<;>rw[hN] at pn
  ·((conv=>whnf);repeat' ((first|(with_reducible first|apply a_|apply b_|apply c_)|((with_reducible first|apply d_|apply e_|apply f_|apply g_);focus first|omega|(simp only[q_]<;>omega))|((with_reducible first|apply i_|apply h_);focus first|omega|(simp only[q_]<;>omega))|((with_reducible apply h_);focus first|decide|kernel_rfl)|refine s_ (by decide) ?_|refine t_ (by decide) ?_|refine r_ pn rfl ?_|with_reducible first|apply l_|apply m_|apply n_|apply o_|refine p_ (fun _=>?_) (fun _=>?_))<;>(conv=>whnf)))
   all_goals exact Ret.eq rfl
  ·((conv=>whnf);repeat' ((first|(with_reducible first|apply a_|apply b_|apply c_)|((with_reducible first|apply d_|apply e_|apply f_|apply g_);focus first|omega|(simp only[q_]<;>omega))|((with_reducible first|apply i_|apply h_);focus first|omega|(simp only[q_]<;>omega))|((with_reducible apply h_);focus first|decide|kernel_rfl)|refine s_ (by decide) ?_|refine t_ (by decide) ?_|refine r_ pn rfl ?_|with_reducible first|apply l_|apply m_|apply n_|apply o_|refine p_ (fun _=>?_) (fun _=>?_))<;>(conv=>whnf)))
   all_goals exact Ret.eq rfl
 | false=>
  rw[hT] at pn
  cases hN:k.any isN<;>rw[hN] at pn
  ·by_cases he:(whoF op k[0].N k[k.length - 1].N).2=0
   ·rw[if_neg (by simp),if_neg (by simp),if_neg (by simp[he])]
    ((conv=>whnf);repeat' ((first|(with_reducible first|apply a_|apply b_|apply c_)|((with_reducible first|apply d_|apply e_|apply f_|apply g_);focus first|omega|(simp only[q_]<;>omega))|((with_reducible first|apply i_|apply h_);focus first|omega|(simp only[q_]<;>omega))|((with_reducible apply h_);focus first|decide|kernel_rfl)|refine s_ (by decide) ?_|refine t_ (by decide) ?_|refine r_ pn rfl ?_|refine r_ pr rfl ?_|(refine Idx.mapI 0 rfl h0 ?_)|(refine Idx.mapI (k.length - 1) ei l1 ?_)|refine r_ pw rfl ?_|with_reducible first|apply l_|apply m_|apply n_|apply o_|refine p_ (fun _=>?_) (fun _=>?_))<;>(conv=>whnf)))
    all_goals first|exact Ret.eq rfl | (exfalso;omega)
   ·rw[if_neg (by simp),if_neg (by simp),if_pos he]
    ((conv=>whnf);repeat' ((first|(with_reducible first|apply a_|apply b_|apply c_)|((with_reducible first|apply d_|apply e_|apply f_|apply g_);focus first|omega|(simp only[q_]<;>omega))|((with_reducible first|apply i_|apply h_);focus first|omega|(simp only[q_]<;>omega))|((with_reducible apply h_);focus first|decide|kernel_rfl)|refine s_ (by decide) ?_|refine t_ (by decide) ?_|refine r_ pn rfl ?_|refine r_ pr rfl ?_|(refine Idx.mapI 0 rfl h0 ?_)|(refine Idx.mapI (k.length - 1) ei l1 ?_)|refine r_ pw rfl ?_|with_reducible first|apply l_|apply m_|apply n_|apply o_|refine p_ (fun _=>?_) (fun _=>?_))<;>(conv=>whnf)))
    all_goals first|exact Ret.eq rfl | (exfalso;omega)
  ·((conv=>whnf);repeat' ((first|(with_reducible first|apply a_|apply b_|apply c_)|((with_reducible first|apply d_|apply e_|apply f_|apply g_);focus first|omega|(simp only[q_]<;>omega))|((with_reducible first|apply i_|apply h_);focus first|omega|(simp only[q_]<;>omega))|((with_reducible apply h_);focus first|decide|kernel_rfl)|refine s_ (by decide) ?_|refine t_ (by decide) ?_|refine r_ pn rfl ?_|with_reducible first|apply l_|apply m_|apply n_|apply o_|refine p_ (fun _=>?_) (fun _=>?_))<;>(conv=>whnf)))
   all_goals exact Ret.eq rfl
end
section
open Go.RowKit K
set_option maxRecDepth 100000
theorem mea_err {v:ValueD} (h:(meaV v).2≠0):(meaV v).2=7:=by
 unfold meaV at h ⊢
 split
 ·rename_i q;rw[if_pos q] at h;exact absurd rfl h
 ·rename_i q
  rw[if_neg q] at h
  split
  ·rename_i r;rw[if_pos r] at h;exact absurd rfl h
  ·rfl
theorem p_join (op:Int) (k:List ValueD) (h0:0<k.length) (hl:k.length≤1000):Pure Tryz.prog 154 [pInt .i64 op,slV 3 ValueD.c k] (.tup [pInt .i64 (joiV op k).1,pInt .i64 (joiV op k).2]):=by
 have hlm:0<(k.map fun v=>(meaV v).1).length:=by rw[List.length_map];exact h0
 have eh:(k.map fun v=>(meaV v).1).headD 0=(k.map fun v=>(meaV v).1)[0]:=by cases k with
  | nil=>simp at h0
  | cons x k=>rfl
 have pa:=p_lall (k.map fun v=>(meaV v).1) (by rw[List.length_map];omega)
 have py:=p_lany (k.map fun v=>(meaV v).1) (by rw[List.length_map];omega)
 have pn:=p_lnot (k.map fun v=>(meaV v).1)[0]
 refine pure_of Tryz.func154 (by rfl) rfl (by kernel_rfl) (by rfl) ?_
 ((conv=>whnf);repeat' ((first|(with_reducible first|apply a_|apply b_|apply c_)|((with_reducible first|apply d_|apply e_|apply f_|apply g_);focus first|omega|(simp only[q_]<;>omega))|((with_reducible first|apply i_|apply h_);focus first|omega|(simp only[q_]<;>omega))|((with_reducible apply h_);focus first|decide|kernel_rfl)|refine s_ (by decide) ?_|refine t_ (by decide) ?_|with_reducible first|apply l_|apply m_|apply n_|apply o_|refine p_ (fun _=>?_) (fun _=>?_))<;>(conv=>whnf)))
 refine LoopC.mk Nat (fun j=>[(0,pInt .i64 op),(6,.d (.app 60 3 1 (((k.take j).map fun v=>(meaV v).1).map eInt))),(11,slV 3 ValueD.c k),(12,pInt .i64 k.length),(13,pInt .i64 j)]) (fun _=>[(60,.tail 3 1)]) [60] (fun j=>j≤k.length∧(k.take j).any (fun v=>decide ((meaV v).2≠0))=false) (fun j=>k.length - j) 0 ⟨Nat.zero_le _,rfl⟩ ?start ?round
 case start=>exact⟨[],rfl,rfl,⟨.inl rfl,⟨rfl,rfl,Nat.zero_lt_succ _,rfl,rfl⟩,.inl rfl,PLe.int (by simp),.inl rfl,trivial⟩,⟨rfl,Nat.zero_lt_succ _⟩,trivial⟩
 case round=>
  rintro j ⟨hj,hb⟩
  have hj:j≤k.length:=hj
  by_cases h1:j<k.length
  ·have pm:=p_meant k[j]
   by_cases he:(meaV k[j]).2=0
   ·rw[he] at pm
    ((conv=>whnf);repeat' ((first|(with_reducible first|apply a_|apply b_|apply c_)|((with_reducible first|apply d_|apply e_|apply f_|apply g_);focus first|omega|(simp only[q_]<;>omega))|((with_reducible first|apply i_|apply h_);focus first|omega|(simp only[q_]<;>omega))|((with_reducible apply h_);focus first|decide|kernel_rfl)|refine s_ (by decide) ?_|refine t_ (by decide) ?_|(refine Idx.mapI j rfl h1 ?_)|refine r_ pm rfl ?_|(refine Need.by 8 rfl (by simp only[List.length_map,List.length_take,List.length_singleton];omega) ?_)|with_reducible first|apply l_|apply m_|apply n_|apply o_|refine p_ (fun _=>?_) (fun _=>?_))<;>(conv=>whnf)))
    refine⟨j+1,⟨by omega,?_⟩,by omega,[(60,28)],rfl,rfl,⟨.inl rfl,⟨rfl,rfl,rfl,rfl,by rw[take_snoc h1,List.map_append,List.map_append];rfl⟩,.inl rfl,.inl rfl,PLe.int rfl,trivial⟩,⟨rfl,rfl,rfl⟩,trivial⟩
    rw[take_snoc h1,List.any_append,hb];simp[he]
   ·have hk:joiV op k=(0,7):=by
     unfold joiV
     rw[if_pos (List.any_eq_true.2 ⟨k[j],List.getElem_mem h1,decide_eq_true he⟩)]
    rw[hk]
    rw[mea_err he] at pm
    ((conv=>whnf);repeat' ((first|(with_reducible first|apply a_|apply b_|apply c_)|((with_reducible first|apply d_|apply e_|apply f_|apply g_);focus first|omega|(simp only[q_]<;>omega))|((with_reducible first|apply i_|apply h_);focus first|omega|(simp only[q_]<;>omega))|((with_reducible apply h_);focus first|decide|kernel_rfl)|refine s_ (by decide) ?_|refine t_ (by decide) ?_|(refine Idx.mapI j rfl h1 ?_)|refine r_ pm rfl ?_|with_reducible first|apply l_|apply m_|apply n_|apply o_|refine p_ (fun _=>?_) (fun _=>?_))<;>(conv=>whnf)))
    all_goals exact Ret.eq rfl
  ·rw[List.take_of_length_le (by omega)] at hb
   rw[List.take_of_length_le (by omega)]
   unfold joiV
   rw[hb,if_neg (by simp),eh]
   by_cases h16:op=16
   ·rw[if_pos h16]
    ((conv=>whnf);repeat' ((first|(with_reducible first|apply a_|apply b_|apply c_)|((with_reducible first|apply d_|apply e_|apply f_|apply g_);focus first|omega|(simp only[q_]<;>omega))|((with_reducible first|apply i_|apply h_);focus first|omega|(simp only[q_]<;>omega))|((with_reducible apply h_);focus first|decide|kernel_rfl)|refine s_ (by decide) ?_|refine t_ (by decide) ?_|refine r_ pa rfl ?_|with_reducible first|apply l_|apply m_|apply n_|apply o_|refine p_ (fun _=>?_) (fun _=>?_))<;>(conv=>whnf)))
    all_goals first|exact Ret.eq rfl | (exfalso;omega)
   ·rw[if_neg h16]
    by_cases h17:op=17
    ·rw[if_pos h17]
     ((conv=>whnf);repeat' ((first|(with_reducible first|apply a_|apply b_|apply c_)|((with_reducible first|apply d_|apply e_|apply f_|apply g_);focus first|omega|(simp only[q_]<;>omega))|((with_reducible first|apply i_|apply h_);focus first|omega|(simp only[q_]<;>omega))|((with_reducible apply h_);focus first|decide|kernel_rfl)|refine s_ (by decide) ?_|refine t_ (by decide) ?_|refine r_ py rfl ?_|with_reducible first|apply l_|apply m_|apply n_|apply o_|refine p_ (fun _=>?_) (fun _=>?_))<;>(conv=>whnf)))
     all_goals first|exact Ret.eq rfl | (exfalso;omega)
    ·rw[if_neg h17]
     ((conv=>whnf);repeat' ((first|(with_reducible first|apply a_|apply b_|apply c_)|((with_reducible first|apply d_|apply e_|apply f_|apply g_);focus first|omega|(simp only[q_]<;>omega))|((with_reducible first|apply i_|apply h_);focus first|omega|(simp only[q_]<;>omega))|((with_reducible apply h_);focus first|decide|kernel_rfl)|refine s_ (by decide) ?_|refine t_ (by decide) ?_|(refine Idx.mapI 0 rfl hlm ?_)|refine r_ pn rfl ?_|with_reducible first|apply l_|apply m_|apply n_|apply o_|refine p_ (fun _=>?_) (fun _=>?_))<;>(conv=>whnf)))
     all_goals exact Ret.eq rfl
end
section
open Go.RowKit K
set_option maxRecDepth 100000
theorem p_reckon (op:Int) (ho:op=3∨(5≤op∧op≤9)) (k:List ValueD) (h0:0<k.length) (hl:k.length≤1000) (hin:∀v∈k,WholeP.In64 v.N) :
  Pure Tryz.prog 119 [pInt .i64 op,slV 3 ValueD.c k] (.tup [vV (recV op k).1,pInt .i64 (recV op k).2]):=by
 have hc:op=3∨op=5∨op=6∨op=7∨op=8∨op=9:=by omega
 rcases hc with rfl | rfl | rfl | rfl | rfl | rfl
 ·exact p_reckon_of 3 _ p_reck3 (fun a b ha hb=>p_reckneg a b ha) k h0 hl hin
 ·exact p_reckon_of 5 _ p_reck5 p_wadd k h0 hl hin
 ·exact p_reckon_of 6 _ p_reck6 p_wsub k h0 hl hin
 ·exact p_reckon_of 7 _ p_reck7 p_wmul k h0 hl hin
 ·exact p_reckon_of 8 _ p_reck8 p_wdiv k h0 hl hin
 ·exact p_reckon_of 9 _ p_reck9 p_wmod k h0 hl hin
theorem getD_at {k:List ValueD} {i:Nat} (h:i<k.length):k.getD i noV=k[i]:=by rw[List.getD_eq_getElem?_getD,List.getElem?_eq_getElem h];rfl
theorem p_ask (op:Int) (k:List ValueD) (h1:leastK op≤k.length) (h2:(k.length:Int)≤mostK op) (ho:op=4∨op=10∨op=12∨op=14∨op=16∨op=17∨op=18∨op=20∨op=22∨op=24) :
  Pure Tryz.prog 122 [pInt .i64 op,slV 3 ValueD.c k] (.tup [pInt .i64 (askV op k).1,pInt .i64 (askV op k).2]):=by
 have hm:=mostK_le op
 have hp:1≤leastK op:=by rcases ho with rfl | rfl | rfl | rfl | rfl | rfl | rfl | rfl | rfl | rfl<;>decide
 have l0:0<k.length:=by omega
 refine pure_of Tryz.func122 (by rfl) rfl (by kernel_rfl) (by rfl) ?_
 unfold askV
 by_cases a10:op=10
 ·subst a10
  have l1:1<k.length:=by have:leastK 10=2:=rfl;omega
  have pa:=p_rawsame k[0] k[1]
  rw[getD_at l0,getD_at l1]
  ((conv=>whnf);repeat' ((first|(with_reducible first|apply a_|apply b_|apply c_)|((with_reducible first|apply d_|apply e_|apply f_|apply g_);focus first|omega|(simp only[q_]<;>omega))|((with_reducible first|apply i_|apply h_);focus first|omega|(simp only[q_]<;>omega))|((with_reducible apply h_);focus first|decide|kernel_rfl)|refine s_ (by decide) ?_|refine t_ (by decide) ?_|(refine Idx.mapI 0 rfl l0 ?_)|(refine Idx.mapI 1 rfl l1 ?_)|refine r_ pa rfl ?_|with_reducible first|apply l_|apply m_|apply n_|apply o_|refine p_ (fun _=>?_) (fun _=>?_))<;>(conv=>whnf)))
  all_goals exact Ret.eq rfl
 rw[if_neg a10]
 by_cases a12:op=12
 ·subst a12
  have l1:1<k.length:=by have:leastK 12=2:=rfl;omega
  have pa:=p_rawless k[0] k[1]
  rw[getD_at l0,getD_at l1]
  ((conv=>whnf);repeat' ((first|(with_reducible first|apply a_|apply b_|apply c_)|((with_reducible first|apply d_|apply e_|apply f_|apply g_);focus first|omega|(simp only[q_]<;>omega))|((with_reducible first|apply i_|apply h_);focus first|omega|(simp only[q_]<;>omega))|((with_reducible apply h_);focus first|decide|kernel_rfl)|refine s_ (by decide) ?_|refine t_ (by decide) ?_|(refine Idx.mapI 0 rfl l0 ?_)|(refine Idx.mapI 1 rfl l1 ?_)|refine r_ pa rfl ?_|with_reducible first|apply l_|apply m_|apply n_|apply o_|refine p_ (fun _=>?_) (fun _=>?_))<;>(conv=>whnf)))
  all_goals exact Ret.eq rfl
 rw[if_neg a12]
 by_cases a14:op=14
 ·subst a14
  have l1:1<k.length:=by have:leastK 14=2:=rfl;omega
  have pa:=p_rawless k[1] k[0]
  rw[getD_at l0,getD_at l1]
  ((conv=>whnf);repeat' ((first|(with_reducible first|apply a_|apply b_|apply c_)|((with_reducible first|apply d_|apply e_|apply f_|apply g_);focus first|omega|(simp only[q_]<;>omega))|((with_reducible first|apply i_|apply h_);focus first|omega|(simp only[q_]<;>omega))|((with_reducible apply h_);focus first|decide|kernel_rfl)|refine s_ (by decide) ?_|refine t_ (by decide) ?_|(refine Idx.mapI 0 rfl l0 ?_)|(refine Idx.mapI 1 rfl l1 ?_)|refine r_ pa rfl ?_|with_reducible first|apply l_|apply m_|apply n_|apply o_|refine p_ (fun _=>?_) (fun _=>?_))<;>(conv=>whnf)))
  all_goals exact Ret.eq rfl
 rw[if_neg a14]
 by_cases a18:op=18
 ·subst a18
  have pa:=p_lof (isN k[0])
  rw[getD_at l0]
  ((conv=>whnf);repeat' ((first|(with_reducible first|apply a_|apply b_|apply c_)|((with_reducible first|apply d_|apply e_|apply f_|apply g_);focus first|omega|(simp only[q_]<;>omega))|((with_reducible first|apply i_|apply h_);focus first|omega|(simp only[q_]<;>omega))|((with_reducible apply h_);focus first|decide|kernel_rfl)|refine s_ (by decide) ?_|refine t_ (by decide) ?_|(refine Idx.mapI 0 rfl l0 ?_)|refine r_ pa rfl ?_|with_reducible first|apply l_|apply m_|apply n_|apply o_|refine p_ (fun _=>?_) (fun _=>?_))<;>(conv=>whnf)))
  all_goals exact Ret.eq rfl
 rw[if_neg a18]
 by_cases a22:op=22
 ·subst a22
  have pa:=p_rawin k[0] (k.drop 1) (by rw[List.length_drop];omega)
  rw[getD_at l0]
  have e1:∀n,n=(((k.map ValueD.c).length:Nat):Int).toNat - (1:Int).toNat→slV 3 ValueD.c (k.drop 1)=.d (.c (.sl 3 (((k.map ValueD.c).drop (1:Int).toNat).take n))):=by
   rintro n rfl
   rw[List.take_of_length_le (by rw[List.length_drop];omega),← List.map_drop];rfl
  rw[e1 _ rfl] at pa
  ((conv=>whnf);repeat' ((first|(with_reducible first|apply a_|apply b_|apply c_)|((with_reducible first|apply d_|apply e_|apply f_|apply g_);focus first|omega|(simp only[q_]<;>omega))|((with_reducible first|apply i_|apply h_);focus first|omega|(simp only[q_]<;>omega))|((with_reducible apply h_);focus first|decide|kernel_rfl)|refine s_ (by decide) ?_|refine t_ (by decide) ?_|(refine Idx.mapI 0 rfl l0 ?_)|refine r_ pa rfl ?_|with_reducible first|apply l_|apply m_|apply n_|apply o_|refine p_ (fun _=>?_) (fun _=>?_))<;>(conv=>whnf)))
  all_goals exact Ret.eq rfl
 rw[if_neg a22]
 by_cases a24:op=24
 ·subst a24
  have l1:1<k.length:=by have:leastK 24=3:=rfl;omega
  have l2:2<k.length:=by have:leastK 24=3:=rfl;omega
  have pa:=p_rawbetween k[0] k[1] k[2]
  rw[getD_at l0,getD_at l1,getD_at l2]
  ((conv=>whnf);repeat' ((first|(with_reducible first|apply a_|apply b_|apply c_)|((with_reducible first|apply d_|apply e_|apply f_|apply g_);focus first|omega|(simp only[q_]<;>omega))|((with_reducible first|apply i_|apply h_);focus first|omega|(simp only[q_]<;>omega))|((with_reducible apply h_);focus first|decide|kernel_rfl)|refine s_ (by decide) ?_|refine t_ (by decide) ?_|(refine Idx.mapI 0 rfl l0 ?_)|(refine Idx.mapI 1 rfl l1 ?_)|(refine Idx.mapI 2 rfl l2 ?_)|refine r_ pa rfl ?_|with_reducible first|apply l_|apply m_|apply n_|apply o_|refine p_ (fun _=>?_) (fun _=>?_))<;>(conv=>whnf)))
  all_goals exact Ret.eq rfl
 rw[if_neg a24]
 by_cases a20:op=20
 ·subst a20
  have pa:=p_liken k (by have:leastK 20=2:=rfl;have:mostK 20=2:=rfl;omega)
  rw[if_pos rfl]
  ((conv=>whnf);repeat' ((first|(with_reducible first|apply a_|apply b_|apply c_)|((with_reducible first|apply d_|apply e_|apply f_|apply g_);focus first|omega|(simp only[q_]<;>omega))|((with_reducible first|apply i_|apply h_);focus first|omega|(simp only[q_]<;>omega))|((with_reducible apply h_);focus first|decide|kernel_rfl)|refine s_ (by decide) ?_|refine t_ (by decide) ?_|refine r_ pa rfl ?_|with_reducible first|apply l_|apply m_|apply n_|apply o_|refine p_ (fun _=>?_) (fun _=>?_))<;>(conv=>whnf)))
  all_goals exact Ret.eq rfl
 rw[if_neg a20]
 have pa:=p_join op k l0 (by omega)
 ((conv=>whnf);repeat' ((first|(with_reducible first|apply a_|apply b_|apply c_)|((with_reducible first|apply d_|apply e_|apply f_|apply g_);focus first|omega|(simp only[q_]<;>omega))|((with_reducible first|apply i_|apply h_);focus first|omega|(simp only[q_]<;>omega))|((with_reducible apply h_);focus first|decide|kernel_rfl)|refine s_ (by decide) ?_|refine t_ (by decide) ?_|refine r_ pa rfl ?_|with_reducible first|apply l_|apply m_|apply n_|apply o_|refine p_ (fun _=>?_) (fun _=>?_))<;>(conv=>whnf)))
 all_goals first|exact Ret.eq rfl | (exfalso;omega)
end
section
open Go.RowKit K
set_option maxRecDepth 100000
abbrev Cols:=List (List UInt8×ValueD)
def vAgg (v:ValueD):Value:=.agg #[.int .i64 v.Kind,.int .i64 v.N,.string (tx v.S)]
def vmap (l:Cols):List (ByteArray×Value):=l.map fun p=>(tx p.1,vAgg p.2)
def vget:Cols→List UInt8→Option ValueD
 | [],_=>none
 | (k,v)::l,s=>if s=k then some v else vget l s
def vput:Cols→List UInt8→ValueD→Cols
 | [],s,x=>[(s,x)]
 | (k,v)::l,s,x=>if s=k then (s,x)::l else (k,v)::vput l s x
theorem mpGet_vmap:∀(l:Cols) (s:List UInt8),mpGet (vmap l) (tx s)=(vget l s).map vAgg
 | [],s=>rfl
 | (a,v)::l,s=>by
  show (bif decide (tx s=tx a) then _ else _)=_
  unfold vget
  by_cases h:s=a
  ·subst h;simp
  ·have:¬tx s=tx a:=fun e=>h (tx_inj e)
   rw[decide_eq_false this,cond_false,if_neg h]
   exact mpGet_vmap l s
theorem mpPut_vmap:∀(l:Cols) (s:List UInt8) (x:ValueD),mpPut (vmap l) (tx s) (vAgg x)=vmap (vput l s x)
 | [],s,x=>rfl
 | (a,v)::l,s,x=>by
  show (bif decide (tx s=tx a) then _ else _)=_
  unfold vput
  by_cases h:s=a
  ·subst h;simp[vmap]
  ·have:¬tx s=tx a:=fun e=>h (tx_inj e)
   rw[decide_eq_false this,cond_false,if_neg h]
   show _::mpPut (vmap l) (tx s) _=_
   rw[mpPut_vmap l s];rfl
theorem vmap_plain (l:Cols):∀p∈vmap l,plainV p.2=true:=by
 intro p hp
 obtain⟨s,_,rfl⟩:=List.mem_map.1 hp
 rfl
theorem vget_put:∀(l:Cols) (s:List UInt8) (x:ValueD) (t:List UInt8),vget (vput l s x) t=if t=s then some x else vget l t
 | [],s,x,t=>rfl
 | (k,v)::l,s,x,t=>by
  unfold vput
  by_cases h:s=k
  ·subst h
   rw[if_pos rfl]
   unfold vget
   by_cases h2:t=s
   ·rw[if_pos h2,if_pos h2]
   ·rw[if_neg h2,if_neg h2]
    by_cases h3:t=s
    ·exact absurd h3 h2
    ·rw[if_neg h3]
  ·rw[if_neg h]
   by_cases h2:t=k
   ·subst h2
    rw[vget,if_pos rfl,vget,if_pos rfl,if_neg (fun e=>h e.symm)]
   ·rw[vget,if_neg h2,vget_put l s x t,vget,if_neg h2]
def scM:List (List UInt8)→List ValueD→Cols
 | c::cs,v::vs=>vput (scM cs vs) c v
 | _,_=>[]
def lookC:List (List UInt8)→List ValueD→Look
 | c::cs,v::vs,s=>if s=c then some v else lookC cs vs s
 | _,_,_=>none
theorem vget_scM:∀(cols:List (List UInt8)) (row:List ValueD) (s:List UInt8),vget (scM cols row) s=lookC cols row s
 | [],_,_=>by cases ‹List ValueD›<;>rfl
 | _::_,[],_=>rfl
 | c::cs,v::vs,s=>by
  unfold scM lookC
  rw[vget_put,vget_scM cs vs s]
theorem s_scoped (cols:List (List UInt8)) (row:List ValueD) (h:cols.length=row.length) (hl:cols.length≤1000000):CallS Tryz.prog 102 [slV 1 eText cols,slV 3 ValueD.c row] [] [] (.agg [.mp NK]) [(NK,.mp (vmap (scM cols row)))]:=by
 refine callS_of Tryz.func102 (by rfl) rfl (by kernel_rfl) (by rfl) [] rfl ?_
 ((conv=>whnf);repeat' ((first|(with_reducible first|apply a_|apply b_|apply c_)|((with_reducible first|apply d_|apply e_|apply f_|apply g_);focus first|omega|(simp only[q_]<;>omega))|((with_reducible first|apply i_|apply h_);focus first|omega|(simp only[q_]<;>omega))|((with_reducible apply h_);focus first|decide|kernel_rfl)|refine s_ (by decide) ?_|refine t_ (by decide) ?_|with_reducible first|apply l_|apply m_|apply n_|apply o_|refine p_ (fun _=>?_) (fun _=>?_))<;>(conv=>whnf)))
 refine LoopC.mk Nat (fun j=>[(0,slV 1 eText cols),(1,slV 3 ValueD.c row),(4,.d (.ptr 4 0)),(5,.d (.ptr 5 0)),(6,pInt .i64 ((cols.length:Int) - 1 - j))]) (fun j=>[(4,.box 135 [.c (.v (.map none))]),(5,.box 135 [.mp 7]),(7,.mp (vmap (scM (cols.drop (cols.length - j)) (row.drop (cols.length - j)))))]) [4,5,7] (fun j=>j≤cols.length) (fun j=>cols.length - j) 0 (Nat.zero_le _) ?start ?round
 case start=>
  refine⟨[(4,4),(5,5),(7,7)],rfl,rfl,⟨.inl rfl,.inl rfl,⟨rfl,rfl,rfl⟩,⟨rfl,rfl,rfl⟩,PLe.int (by simp),trivial⟩,⟨rfl,rfl,⟨.inl rfl,rfl⟩⟩,⟨rfl,rfl,⟨⟨rfl,rfl⟩,rfl⟩⟩,⟨rfl,?_⟩,trivial⟩
  show []=vmap _
  rw[Nat.sub_zero,List.drop_length];rfl
 case round=>
  intro j hj
  have hj:j≤cols.length:=hj
  by_cases q:j<cols.length
  ·have hi:cols.length - (j+1)<cols.length:=by omega
   have hr:cols.length - (j+1)<row.length:=by omega
   have e1:scM (cols.drop (cols.length - (j+1))) (row.drop (cols.length - (j+1)))=vput (scM (cols.drop (cols.length - j)) (row.drop (cols.length - j))) cols[cols.length - (j+1)] row[cols.length - (j+1)]:=by
    rw[List.drop_eq_getElem_cons hi,List.drop_eq_getElem_cons hr,show cols.length - (j+1)+1=cols.length - j by omega];rfl
   ((conv=>whnf);repeat' ((first|(with_reducible first|apply a_|apply b_|apply c_)|((with_reducible first|apply d_|apply e_|apply f_|apply g_);focus first|omega|(simp only[q_]<;>omega))|((with_reducible first|apply i_|apply h_);focus first|omega|(simp only[q_]<;>omega))|((with_reducible apply h_);focus first|decide|kernel_rfl)|refine s_ (by decide) ?_|refine t_ (by decide) ?_|(refine Idx.mapI (l:=cols) (cols.length - (j+1)) (by omega) hi ?_)|(refine Idx.mapI (l:=row) (cols.length - (j+1)) (by omega) hr ?_)|with_reducible first|apply l_|apply m_|apply n_|apply o_|refine p_ (fun _=>?_) (fun _=>?_))<;>(conv=>whnf)))
   refine⟨j+1,by show j+1≤_;omega,by omega,[(4,4),(5,5),(7,7)],rfl,rfl,⟨.inl rfl,.inl rfl,⟨rfl,rfl,rfl⟩,⟨rfl,rfl,rfl⟩,PLe.int (by omega),trivial⟩,⟨rfl,rfl,⟨.inl rfl,rfl⟩⟩,⟨rfl,rfl,⟨⟨rfl,rfl⟩,rfl⟩⟩,⟨rfl,?_⟩,trivial⟩
   show mpPut (vmap _) (tx _) (vAgg _)=vmap _
   rw[mpPut_vmap,e1]
  ·have e0:cols.length - j=0:=by omega
   ((conv=>whnf);repeat' ((first|(with_reducible first|apply a_|apply b_|apply c_)|((with_reducible first|apply d_|apply e_|apply f_|apply g_);focus first|omega|(simp only[q_]<;>omega))|((with_reducible first|apply i_|apply h_);focus first|omega|(simp only[q_]<;>omega))|((with_reducible apply h_);focus first|decide|kernel_rfl)|refine s_ (by decide) ?_|refine t_ (by decide) ?_|with_reducible first|apply l_|apply m_|apply n_|apply o_|refine p_ (fun _=>?_) (fun _=>?_))<;>(conv=>whnf)))
   refine RetS.mk [(NK,7)] [NK] rfl rfl ?_ ?_
   ·exact⟨⟨rfl,rfl⟩,rfl⟩
   ·refine⟨⟨rfl,?_⟩,trivial⟩
    show vmap _=vmap _
    rw[e0,List.drop_zero,List.drop_zero]
end
section
open Go.RowKit K
set_option maxRecDepth 100000
theorem ple_ve {f:Nat→Option Nat} {n:List Nat} {a b:ValueD} {x y:Int} (h1:b=a) (h2:y=x):PLe f n (.tup [vV a,pInt .i64 x]) (.tup [vV b,pInt .i64 y]):=by
 subst h1 h2
 exact⟨⟨.inl rfl,.inl rfl,.inl rfl,rfl⟩,.inl rfl,rfl⟩
theorem s_node (cols:Cols) (n:NodeD) (k:List ValueD) (hn:alF n=0) (hl:(k.length:Int)=n.Kids) (hk:∀v∈k,WholeP.In64 v.N) :
  CallS Tryz.prog 103 [.agg [.mp FK],nV n,slV 3 ValueD.c k] [(FK,.mp (vmap cols))] [] (.tup [vV (nodV (vget cols) n k).1,pInt .i64 (nodV (vget cols) n k).2]) []:=by
 obtain⟨h1,h2,h3,h4,h5,h6⟩:=alF_kids hn
 refine callS_of Tryz.func103 (by rfl) rfl (by kernel_rfl) (by rfl) [FK] rfl ?_
 unfold nodV
 by_cases g1:n.Op=1
 ·rw[if_pos g1]
  ((conv=>whnf);repeat' ((first|(with_reducible first|apply a_|apply b_|apply c_)|((with_reducible first|apply d_|apply e_|apply f_|apply g_);focus first|omega|(simp only[q_]<;>omega))|((with_reducible first|apply i_|apply h_);focus first|omega|(simp only[q_]<;>omega))|((with_reducible apply h_);focus first|decide|kernel_rfl)|refine s_ (by decide) ?_|refine t_ (by decide) ?_|with_reducible first|apply l_|apply m_|apply n_|apply o_|refine p_ (fun _=>?_) (fun _=>?_))<;>(conv=>whnf)))
  refine RetS.mk [(FK,FK)] [FK] rfl rfl (ple_ve rfl rfl) ⟨⟨rfl,rfl⟩,trivial⟩
 rw[if_neg g1]
 by_cases g2:n.Op=2
 ·rw[if_pos g2]
  ((conv=>whnf);repeat' ((first|(with_reducible first|apply a_|apply b_|apply c_)|((with_reducible first|apply d_|apply e_|apply f_|apply g_);focus first|omega|(simp only[q_]<;>omega))|((with_reducible first|apply i_|apply h_);focus first|omega|(simp only[q_]<;>omega))|((with_reducible apply h_);focus first|decide|kernel_rfl)|refine s_ (by decide) ?_|refine t_ (by decide) ?_|with_reducible first|apply l_|apply m_|apply n_|apply o_|refine p_ (fun _=>?_) (fun _=>?_))<;>(conv=>whnf)))
  refine Need.mk ⟨rfl,vmap_plain cols⟩ ?_
  ((conv=>whnf);repeat' ((first|(with_reducible first|apply a_|apply b_|apply c_)|((with_reducible first|apply d_|apply e_|apply f_|apply g_);focus first|omega|(simp only[q_]<;>omega))|((with_reducible first|apply i_|apply h_);focus first|omega|(simp only[q_]<;>omega))|((with_reducible apply h_);focus first|decide|kernel_rfl)|refine s_ (by decide) ?_|refine t_ (by decide) ?_|with_reducible first|apply l_|apply m_|apply n_|apply o_|refine p_ (fun _=>?_) (fun _=>?_))<;>(conv=>whnf)))
  refine⟨fun v hv=>?_,fun hv=>?_⟩
  ·rw[mpGet_vmap] at hv
   cases hg:vget cols n.Name with
   | none=>rw[hg] at hv;cases hv
   | some x=>
    rw[hg] at hv
    obtain rfl:v=vAgg x:=(Option.some.inj hv).symm
    ((conv=>whnf);repeat' ((first|(with_reducible first|apply a_|apply b_|apply c_)|((with_reducible first|apply d_|apply e_|apply f_|apply g_);focus first|omega|(simp only[q_]<;>omega))|((with_reducible first|apply i_|apply h_);focus first|omega|(simp only[q_]<;>omega))|((with_reducible apply h_);focus first|decide|kernel_rfl)|refine s_ (by decide) ?_|refine t_ (by decide) ?_|with_reducible first|apply l_|apply m_|apply n_|apply o_|refine p_ (fun _=>?_) (fun _=>?_))<;>(conv=>whnf)))
    refine RetS.mk [(FK,FK)] [FK] rfl rfl (ple_ve (b:=x) rfl rfl) ⟨⟨rfl,rfl⟩,trivial⟩
  ·rw[mpGet_vmap] at hv
   cases hg:vget cols n.Name with
   | some x=>rw[hg] at hv;cases hv
   | none=>
    ((conv=>whnf);repeat' ((first|(with_reducible first|apply a_|apply b_|apply c_)|((with_reducible first|apply d_|apply e_|apply f_|apply g_);focus first|omega|(simp only[q_]<;>omega))|((with_reducible first|apply i_|apply h_);focus first|omega|(simp only[q_]<;>omega))|((with_reducible apply h_);focus first|decide|kernel_rfl)|refine s_ (by decide) ?_|refine t_ (by decide) ?_|with_reducible first|apply l_|apply m_|apply n_|apply o_|refine p_ (fun _=>?_) (fun _=>?_))<;>(conv=>whnf)))
    refine RetS.mk [(FK,FK)] [FK] rfl rfl (ple_ve (b:=noV) rfl rfl) ⟨⟨rfl,rfl⟩,trivial⟩
 rw[if_neg g2]
 by_cases g3:n.Op=3∨(5≤n.Op∧n.Op≤9)
 ·rw[if_pos g3]
  have l0:0<k.length:=by
   have:leastK n.Op=1∨leastK n.Op=2:=by unfold leastK;(repeat' split)<;>omega
   omega
  have pr:=p_reckon n.Op g3 k l0 (by omega) hk
  ((conv=>whnf);repeat' ((first|(with_reducible first|apply a_|apply b_|apply c_)|((with_reducible first|apply d_|apply e_|apply f_|apply g_);focus first|omega|(simp only[q_]<;>omega))|((with_reducible first|apply i_|apply h_);focus first|omega|(simp only[q_]<;>omega))|((with_reducible apply h_);focus first|decide|kernel_rfl)|refine s_ (by decide) ?_|refine t_ (by decide) ?_|refine r_ pr rfl ?_|with_reducible first|apply l_|apply m_|apply n_|apply o_|refine p_ (fun _=>?_) (fun _=>?_))<;>(conv=>whnf)))
  all_goals exact RetS.mk [(FK,FK)] [FK] rfl rfl (ple_ve rfl rfl) ⟨⟨rfl,rfl⟩,trivial⟩
 rw[if_neg g3]
 have pn:=p_negated n.Op
 have pc:=p_counter n.Op
 have cases_:n.Op=4∨n.Op=10∨n.Op=11∨n.Op=12∨n.Op=13∨n.Op=14∨n.Op=15∨n.Op=16∨n.Op=17∨n.Op=18∨n.Op=19∨n.Op=20∨n.Op=21∨n.Op=22∨n.Op=23∨n.Op=24∨n.Op=25:=by omega
 obtain⟨op,hop⟩:∃op,op=if negB n.Op then couF n.Op else n.Op:=⟨_,rfl⟩
 have hask:leastK op=leastK n.Op∧mostK op=mostK n.Op∧(op=4∨op=10∨op=12∨op=14∨op=16∨op=17∨op=18∨op=20∨op=22∨op=24):=by
  rw[hop]
  rcases cases_ with e | e | e | e | e | e | e | e | e | e | e | e | e | e | e | e | e<;>rw[e]<;>decide
 have pa:=p_ask op k (by rw[hask.1];omega) (by rw[hask.2.1];omega) hask.2.2
 rw[← hop]
 have pt:=p_lnot (askV op k).1
 cases hb:negB n.Op with
 | true=>
  rw[hb,if_pos rfl] at hop
  rw[← hop] at pc
  rw[hb] at pn
  have pv:=p_told (tNot (askV op k).1)
  by_cases he:(askV op k).2=0
  ·rw[if_neg (by rw[he];decide)]
   ((conv=>whnf);repeat' ((first|(with_reducible first|apply a_|apply b_|apply c_)|((with_reducible first|apply d_|apply e_|apply f_|apply g_);focus first|omega|(simp only[q_]<;>omega))|((with_reducible first|apply i_|apply h_);focus first|omega|(simp only[q_]<;>omega))|((with_reducible apply h_);focus first|decide|kernel_rfl)|refine s_ (by decide) ?_|refine t_ (by decide) ?_|refine r_ pn rfl ?_|refine r_ pc rfl ?_|refine r_ pa rfl ?_|refine r_ pt rfl ?_|refine r_ pv rfl ?_|with_reducible first|apply l_|apply m_|apply n_|apply o_|refine p_ (fun _=>?_) (fun _=>?_))<;>(conv=>whnf)))
   all_goals first|exact RetS.mk [(FK,FK)] [FK] rfl rfl (ple_ve rfl rfl) ⟨⟨rfl,rfl⟩,trivial⟩ | (exfalso;omega)
  ·rw[if_pos he]
   ((conv=>whnf);repeat' ((first|(with_reducible first|apply a_|apply b_|apply c_)|((with_reducible first|apply d_|apply e_|apply f_|apply g_);focus first|omega|(simp only[q_]<;>omega))|((with_reducible first|apply i_|apply h_);focus first|omega|(simp only[q_]<;>omega))|((with_reducible apply h_);focus first|decide|kernel_rfl)|refine s_ (by decide) ?_|refine t_ (by decide) ?_|refine r_ pn rfl ?_|refine r_ pc rfl ?_|refine r_ pa rfl ?_|refine r_ pt rfl ?_|refine r_ pv rfl ?_|with_reducible first|apply l_|apply m_|apply n_|apply o_|refine p_ (fun _=>?_) (fun _=>?_))<;>(conv=>whnf)))
   all_goals first|exact RetS.mk [(FK,FK)] [FK] rfl rfl (ple_ve (b:=noV) rfl rfl) ⟨⟨rfl,rfl⟩,trivial⟩ | (exfalso;omega)
 | false=>
  rw[hb,if_neg (by simp)] at hop
  subst hop
  rw[hb] at pn
  have pv:=p_told (askV n.Op k).1
  by_cases he:(askV n.Op k).2=0
  ·rw[if_neg (by rw[he];decide)]
   ((conv=>whnf);repeat' ((first|(with_reducible first|apply a_|apply b_|apply c_)|((with_reducible first|apply d_|apply e_|apply f_|apply g_);focus first|omega|(simp only[q_]<;>omega))|((with_reducible first|apply i_|apply h_);focus first|omega|(simp only[q_]<;>omega))|((with_reducible apply h_);focus first|decide|kernel_rfl)|refine s_ (by decide) ?_|refine t_ (by decide) ?_|refine r_ pn rfl ?_|refine r_ pa rfl ?_|refine r_ pt rfl ?_|refine r_ pv rfl ?_|with_reducible first|apply l_|apply m_|apply n_|apply o_|refine p_ (fun _=>?_) (fun _=>?_))<;>(conv=>whnf)))
   all_goals first|exact RetS.mk [(FK,FK)] [FK] rfl rfl (ple_ve rfl rfl) ⟨⟨rfl,rfl⟩,trivial⟩ | (exfalso;omega)
  ·rw[if_pos he]
   ((conv=>whnf);repeat' ((first|(with_reducible first|apply a_|apply b_|apply c_)|((with_reducible first|apply d_|apply e_|apply f_|apply g_);focus first|omega|(simp only[q_]<;>omega))|((with_reducible first|apply i_|apply h_);focus first|omega|(simp only[q_]<;>omega))|((with_reducible apply h_);focus first|decide|kernel_rfl)|refine s_ (by decide) ?_|refine t_ (by decide) ?_|refine r_ pn rfl ?_|refine r_ pa rfl ?_|refine r_ pt rfl ?_|refine r_ pv rfl ?_|with_reducible first|apply l_|apply m_|apply n_|apply o_|refine p_ (fun _=>?_) (fun _=>?_))<;>(conv=>whnf)))
   all_goals first|exact RetS.mk [(FK,FK)] [FK] rfl rfl (ple_ve (b:=noV) rfl rfl) ⟨⟨rfl,rfl⟩,trivial⟩ | (exfalso;omega)
end
section
open Go.RowKit K
set_option maxRecDepth 100000
def RV (v:ValueD):Prop:=OkV v∧WholeP.In64 v.N
theorem rv_no:RV noV:=⟨noV_ok,by decide⟩
theorem rv_tol (t:Int):RV (tolV t):=⟨tolV_ok t,by unfold tolV;(repeat' split)<;>decide⟩
theorem fit_in {n:Int} (h:(WholeP.fit n).2=0):WholeP.In64 (WholeP.fit n).1:=by
 unfold WholeP.fit at h ⊢
 split
 ·rename_i q;exact q
 ·decide
theorem tmod_in {a b:Int} (ha:WholeP.In64 a):WholeP.In64 (a.tmod b):=by
 obtain⟨a1,a2⟩:=ha
 have hn:(a.tmod b).natAbs≤a.natAbs:=by rw[Int.natAbs_tmod];exact Nat.mod_le _ _
 by_cases h:0≤a
 ·have:=Int.tmod_nonneg b h
  constructor<;>omega
 ·have e:a.tmod b=-((-a).tmod b):=by rw[Int.neg_tmod];simp
  have:=Int.tmod_nonneg (a:=-a) b (by omega)
  constructor<;>omega
theorem who_in {op a b:Int} (ha:WholeP.In64 a) (h:(whoF op a b).2=0):WholeP.In64 (whoF op a b).1:=by
 unfold whoF at h ⊢
 split
 ·rename_i q;rw[if_pos q] at h;exact fit_in h
 ·rename_i q;rw[if_neg q] at h
  split
  ·rename_i q;rw[if_pos q] at h;exact fit_in h
  ·rename_i q;rw[if_neg q] at h
   split
   ·rename_i q;rw[if_pos q] at h;exact fit_in h
   ·rename_i q;rw[if_neg q] at h
    split
    ·rename_i q;rw[if_pos q] at h
     unfold WholeP.quo at h ⊢
     split
     ·decide
     ·rename_i q;rw[if_neg q] at h;exact fit_in h
    ·rename_i q;rw[if_neg q] at h
     split
     ·unfold WholeP.rem
      split
      ·decide
      ·exact tmod_in ha
     ·rename_i q;rw[if_neg q] at h;exact fit_in h
theorem rec_rv {op:Int} {k:List ValueD} (hk:∀v∈k,WholeP.In64 v.N):RV (recV op k).1:=by
 unfold recV
 split
 ·exact rv_no
 ·split
  ·exact rv_no
  ·split
   ·exact rv_no
   ·rename_i h
    have h:(whoF op (k.headD noV).N (k.getLastD noV).N).2=0:=Decidable.of_not_not h
    have ha:WholeP.In64 (k.headD noV).N:=by
     cases k with
     | nil=>decide
     | cons v k=>exact hk v (List.mem_cons_self ..)
    have:=who_in ha h
    refine⟨?_,this⟩
    show vChk _=0
    unfold vChk
    rw[if_neg (by show ¬((1:Int)<0∨(3:Int)<1);omega),if_neg (by show ¬(((1:Int)≠1∧_)∨((1:Int)<2∧([]:List UInt8).length≠0));simp),if_neg (by show ¬16<([]:List UInt8).length;simp)]
theorem alF_lit {n:NodeD} (h:alF n=0) (h1:n.Op=1):OkV n.V∧0≤n.V.N:=by
 unfold alF at h
 split at h
 ·cases h
 ·split at h
  ·cases h
  ·split at h
   ·rename_i q;exact absurd h q
   ·rename_i q
    have q:vChk n.V=0:=Decidable.of_not_not q
    split at h
    ·cases h
    ·exact⟨q,by omega⟩
def LookOk (look:Look):Prop:=∀s v,look s=some v→RV v
theorem nod_rv {look:Look} (hL:LookOk look) {n:NodeD} {k:List ValueD} (hn:alF n=0) (hv:WholeP.In64 n.V.N) (hk:∀v∈k,WholeP.In64 v.N):RV (nodV look n k).1:=by
 unfold nodV
 by_cases g1:n.Op=1
 ·rw[if_pos g1];exact⟨(alF_lit hn g1).1,hv⟩
 rw[if_neg g1]
 by_cases g2:n.Op=2
 ·rw[if_pos g2]
  cases hq:look n.Name with
  | none=>exact rv_no
  | some v=>exact hL _ _ hq
 rw[if_neg g2]
 by_cases g3:n.Op=3∨(5≤n.Op∧n.Op≤9)
 ·rw[if_pos g3];exact rec_rv hk
 rw[if_neg g3]
 by_cases g4:(askV (if negB n.Op then couF n.Op else n.Op) k).2≠0
 ·rw[if_pos g4];exact rv_no
 ·rw[if_neg g4];exact rv_tol _
noncomputable def nodF (look:Look) (n:NodeD) (k:List ValueD):Except Int ValueD:=if (nodV look n k).2=0 then .ok (nodV look n k).1 else .error (nodV look n k).2
def eVal (r:Except Int ValueD):PV:=match r with
 | .ok v=>.tup [vV v,pInt .i64 0]
 | .error x=>.tup [vV noV,pInt .i64 x]
end
section
open Go.RowKit K
set_option maxRecDepth 100000
theorem p_clonev (l:List ValueD) (h:l.length≤1000000):Pure Tryz.prog 65 [slV 3 ValueD.c l] (slV 3 ValueD.c l):=by
 cases l with
 | nil=>
  refine pure_sl0 ?_ fun a cap=>?_
  ·refine pure_of Tryz.func65 (by rfl) rfl (by kernel_rfl) (by rfl) ?_
   ((conv=>whnf);repeat' ((first|(with_reducible first|apply a_|apply b_|apply c_)|((with_reducible first|apply d_|apply e_|apply f_|apply g_);focus first|omega|(simp only[q_]<;>omega))|((with_reducible first|apply i_|apply h_);focus first|omega|(simp only[q_]<;>omega))|((with_reducible apply h_);focus first|decide|kernel_rfl)|refine s_ (by decide) ?_|refine t_ (by decide) ?_|with_reducible first|apply l_|apply m_|apply n_|apply o_|refine p_ (fun _=>?_) (fun _=>?_))<;>(conv=>whnf)))
   exact Ret.le (.inr ⟨⟨3,rfl⟩,.inl rfl⟩)
  ·refine pure_of Tryz.func65 (by rfl) rfl (by kernel_rfl) (by rfl) ?_
   ((conv=>whnf);repeat' ((first|(with_reducible first|apply a_|apply b_|apply c_)|((with_reducible first|apply d_|apply e_|apply f_|apply g_);focus first|omega|(simp only[q_]<;>omega))|((with_reducible first|apply i_|apply h_);focus first|omega|(simp only[q_]<;>omega))|((with_reducible apply h_);focus first|decide|kernel_rfl)|refine s_ (by decide) ?_|refine t_ (by decide) ?_|with_reducible first|apply l_|apply m_|apply n_|apply o_|refine p_ (fun _=>?_) (fun _=>?_))<;>(conv=>whnf)))
   exact Ret.mk rfl
 | cons x l=>
  refine pure_of Tryz.func65 (by rfl) rfl (by kernel_rfl) (by rfl) ?_
  ((conv=>whnf);repeat' ((first|(with_reducible first|apply a_|apply b_|apply c_)|((with_reducible first|apply d_|apply e_|apply f_|apply g_);focus first|omega|(simp only[q_]<;>omega))|((with_reducible first|apply i_|apply h_);focus first|omega|(simp only[q_]<;>omega))|((with_reducible apply h_);focus first|decide|kernel_rfl)|refine s_ (by decide) ?_|refine t_ (by decide) ?_|(refine Need.mk (List.cons_ne_nil _ _) ?_)|(refine Need.by 32 rfl (by simp only[List.length_map,List.length_nil,Nat.zero_add];omega) ?_)|with_reducible first|apply l_|apply m_|apply n_|apply o_|refine p_ (fun _=>?_) (fun _=>?_))<;>(conv=>whnf)))
  exact Ret.mk rfl
theorem s_clonev (l:List ValueD) (lo n:Nat) (h:lo+n≤l.length) (hn:n≠0) (hz:l.length≤1000000):CallS Tryz.prog 65 [.d (.arr FK 33 3 lo n)] [(FK,.arr 33 3 (l.map ValueD.c))] [] (slV 3 ValueD.c ((l.drop lo).take n)) []:=by
 refine callS_of Tryz.func65 (by rfl) rfl (by kernel_rfl) (by rfl) [FK] rfl ?_
 ((conv=>whnf);repeat' ((first|(with_reducible first|apply a_|apply b_|apply c_)|((with_reducible first|apply d_|apply e_|apply f_|apply g_);focus first|omega|(simp only[q_]<;>omega))|((with_reducible first|apply i_|apply h_);focus first|omega|(simp only[q_]<;>omega))|((with_reducible apply h_);focus first|decide|kernel_rfl)|refine s_ (by decide) ?_|refine t_ (by decide) ?_|(refine Need.mk hn ?_)|(refine Need.mk (by rw[List.length_map];exact h) ?_)|(refine Need.by 32 rfl (by simp only[List.length_nil,Nat.zero_add];omega) ?_)|with_reducible first|apply l_|apply m_|apply n_|apply o_|refine p_ (fun _=>?_) (fun _=>?_))<;>(conv=>whnf)))
 refine RetS.mk [(FK,FK)] [FK] rfl rfl ?_ ?_
 ·show C.sl 3 _=C.sl 3 _
  rw[List.map_take,List.map_drop];rfl
 ·exact⟨⟨rfl,rfl,rfl,rfl⟩,trivial⟩
theorem s_lastv (st:List ValueD) (K:Int) (h0:0≤K) (h1:K≤st.length) (hz:st.length≤1000000):CallS Tryz.prog 65 [.d (.arr FK 33 3 (0+((st.length:Int) - K).toNat) (((st.length:Nat):Int).toNat - ((st.length:Int) - K).toNat))] [(FK,.arr 33 3 (st.map ValueD.c))] [] (slV 3 ValueD.c (st.drop (st.length - K.toNat))) []:=by
 have e1:0+((st.length:Int) - K).toNat=st.length - K.toNat:=by omega
 have e2:((st.length:Nat):Int).toNat - ((st.length:Int) - K).toNat=K.toNat:=by omega
 rw[e1,e2]
 by_cases k0:K=0
 ·subst k0
  rw[show st.drop (st.length - (0:Int).toNat)=[] from List.drop_of_length_le (by simp)]
  exact (p_clonev [] (by simp)).empty1
 ·have:=s_clonev st (st.length - K.toNat) K.toNat (by omega) (by omega) hz
  rwa [List.take_of_length_le (by rw[List.length_drop];omega)] at this
abbrev vZ:List D:=[.c (.v (.int .i64 0)),.c (.v (.int .i64 0)),.c (.v (.string .empty))]
def wvE (l:List NodeD) (j:Nat) (st:List ValueD):List (Nat×PV):=[(1,.d (.mclo 103 [.mp FK])),(4,.d (.ptr 4 0)),(6,.d (.ptr 6 0)),(7,.d (.arr 60 33 3 0 st.length)),(13,slV 6 NodeD.c l),(14,pInt .i64 l.length),(15,pInt .i64 j)]
theorem s_walkv (cols:Cols) (hL:LookOk (vget cols)) (l:List NodeD) (hl:l.length≤1000) (hn:∀n∈l,alF n=0∧WholeP.In64 n.V.N):CallS Tryz.prog 101 [slV 6 NodeD.c l,.d (.mclo 103 [.mp FK])] [(FK,.mp (vmap cols))] [] (eVal (walkR (nodF (vget cols)) l)) []:=by
 refine callS_of Tryz.func101 (by rfl) rfl (by kernel_rfl) (by rfl) [FK] rfl ?_
 ((conv=>whnf);repeat' ((first|(with_reducible first|apply a_|apply b_|apply c_)|((with_reducible first|apply d_|apply e_|apply f_|apply g_);focus first|omega|(simp only[q_]<;>omega))|((with_reducible first|apply i_|apply h_);focus first|omega|(simp only[q_]<;>omega))|((with_reducible apply h_);focus first|decide|kernel_rfl)|refine s_ (by decide) ?_|refine t_ (by decide) ?_|with_reducible first|apply l_|apply m_|apply n_|apply o_|refine p_ (fun _=>?_) (fun _=>?_))<;>(conv=>whnf)))
 refine LoopC.mk (Nat×List ValueD) (fun s=>wvE l s.1 s.2) (fun s=>[(FK,.mp (vmap cols)),(4,.box 33 vZ),(6,.box 33 vZ),(60,.arr 33 3 (s.2.map ValueD.c))]) [FK,4,6,60] (fun s=>s.1≤l.length∧s.2.length≤s.1∧(∀x∈s.2,WholeP.In64 x.N)∧walkG (nodF (vget cols)) [] l=walkG (nodF (vget cols)) s.2 (l.drop s.1)) (fun s=>l.length - s.1) (0,[]) ⟨Nat.zero_le _,Nat.zero_le _,by simp,rfl⟩ ?start ?round
 case start=>exact⟨[(FK,FK),(4,4),(6,6)],rfl,rfl,⟨⟨rfl,⟨rfl,rfl⟩,rfl⟩,⟨rfl,rfl,rfl⟩,⟨rfl,rfl,rfl⟩,⟨rfl,rfl,Nat.zero_lt_succ _,rfl,rfl⟩,.inl rfl,PLe.int (by simp),.inl rfl,trivial⟩,⟨rfl,rfl⟩,⟨rfl,rfl,⟨.inl rfl,.inl rfl,.inl rfl,rfl⟩⟩,⟨rfl,rfl,⟨.inl rfl,.inl rfl,.inl rfl,rfl⟩⟩,⟨rfl,Nat.zero_lt_succ _,rfl⟩,trivial⟩
 case round=>
  rintro⟨j,st⟩ ⟨hj,i1,i2,i3⟩
  have hj:j≤l.length:=hj
  have i1:st.length≤j:=i1
  have i2:∀x∈st,WholeP.In64 x.N:=i2
  have i3:walkG (nodF (vget cols)) [] l=walkG (nodF (vget cols)) st (l.drop j):=i3
  by_cases q:j<l.length
  ·rw[List.drop_eq_getElem_cons q,walkG_cons] at i3
   have hm:=hn _ (List.getElem_mem q)
   have hkk:=alF_kids hm.1
   by_cases g:l[j].Kids<0∨(st.length:Int)<l[j].Kids
   ·rw[if_pos g] at i3
    have hw:walkR (nodF (vget cols)) l=.error 1:=by unfold walkR;rw[i3]
    rw[hw]
    ((conv=>whnf);repeat' ((first|(with_reducible first|apply a_|apply b_|apply c_)|((with_reducible first|apply d_|apply e_|apply f_|apply g_);focus first|omega|(simp only[q_]<;>omega))|((with_reducible first|apply i_|apply h_);focus first|omega|(simp only[q_]<;>omega))|((with_reducible apply h_);focus first|decide|kernel_rfl)|refine s_ (by decide) ?_|refine t_ (by decide) ?_|(refine Idx.mapI j rfl q ?_)|with_reducible first|apply l_|apply m_|apply n_|apply o_|refine p_ (fun _=>?_) (fun _=>?_))<;>(conv=>whnf)))
    all_goals exact RetS.mk [(FK,FK)] [FK] rfl rfl (ple_ve (b:=noV) rfl rfl) ⟨⟨rfl,rfl⟩,trivial⟩
   ·rw[if_neg g] at i3
    have g1:¬l[j].Kids<0:=fun q=>g (.inl q)
    have g2:¬(st.length:Int)<l[j].Kids:=fun q=>g (.inr q)
    have pc:=s_lastv st l[j].Kids (by omega) (by omega) (by omega)
    obtain⟨ks,hks⟩:∃ks,ks=st.drop (st.length - l[j].Kids.toNat):=⟨_,rfl⟩
    have hkl:(ks.length:Int)=l[j].Kids:=by rw[hks,List.length_drop];omega
    have hin:∀x∈ks,WholeP.In64 x.N:=fun x hx=>i2 x (List.mem_of_mem_drop (by rw[hks] at hx;exact hx))
    rw[← hks] at pc i3
    have pd:=s_node cols l[j] ks hm.1 hkl hin
    have hrv:=nod_rv hL hm.1 hm.2 hin
    by_cases he:(nodV (vget cols) l[j] ks).2=0
    ·rw[show nodF (vget cols) l[j] ks=.ok (nodV (vget cols) l[j] ks).1 from if_pos he] at i3
     rw[he] at pd
     ((conv=>whnf);repeat' ((first|(with_reducible first|apply a_|apply b_|apply c_)|((with_reducible first|apply d_|apply e_|apply f_|apply g_);focus first|omega|(simp only[q_]<;>omega))|((with_reducible first|apply i_|apply h_);focus first|omega|(simp only[q_]<;>omega))|((with_reducible apply h_);focus first|decide|kernel_rfl)|refine s_ (by decide) ?_|refine t_ (by decide) ?_|(refine Idx.mapI j rfl q ?_)|(refine CallP.ret [(FK,60)] _ _ _ _ _ _ _ pc rfl rfl rfl rfl ⟨rfl,trivial⟩ ?_)|(refine CallP.ret [(FK,FK)] _ _ _ _ _ _ _ pd rfl rfl rfl rfl ⟨rfl,trivial⟩ ?_)|(refine Need.by 32 rfl (by simp only[List.length_singleton];omega) ?_)|with_reducible first|apply l_|apply m_|apply n_|apply o_|refine p_ (fun _=>?_) (fun _=>?_))<;>(conv=>whnf)))
     refine⟨(j+1,st.take (st.length - l[j].Kids.toNat)++[(nodV (vget cols) l[j] ks).1]),⟨by show j+1≤_;omega,?_,?_,i3⟩,by show l.length - (j+1)<l.length - j;omega,[(FK,FK),(4,4),(6,6),(60,54)],rfl,rfl,⟨⟨rfl,⟨rfl,rfl⟩,rfl⟩,⟨rfl,rfl,rfl⟩,⟨rfl,rfl,rfl⟩,⟨rfl,rfl,rfl,rfl,rfl,?_⟩,.inl rfl,.inl rfl,PLe.int rfl,trivial⟩,⟨rfl,rfl⟩,⟨rfl,rfl,⟨.inl rfl,.inl rfl,.inl rfl,rfl⟩⟩,⟨rfl,rfl,⟨.inl rfl,.inl rfl,.inl rfl,rfl⟩⟩,⟨rfl,rfl,rfl,?_⟩,trivial⟩
     ·show (st.take _++[_]).length≤j+1
      rw[List.length_append,List.length_take,List.length_singleton];omega
     ·intro x hx
      rcases List.mem_append.1 hx with hx | hx
      ·exact i2 x (List.mem_of_mem_take hx)
      ·rw[List.mem_singleton.1 hx];exact hrv.2
     ·show _=(st.take _++[_]).length
      rw[List.length_append,List.length_take,List.length_singleton];simp only[List.length_singleton];omega
     ·show _=(st.take _++[_]).map ValueD.c
      rw[List.map_append,List.map_take]
      have e1:((st.length:Int) - l[j].Kids).toNat=st.length - l[j].Kids.toNat:=by omega
      show (st.map ValueD.c).take ((st.length:Int) - l[j].Kids).toNat++_=_
      rw[e1];rfl
    ·rw[show nodF (vget cols) l[j] ks=.error (nodV (vget cols) l[j] ks).2 from if_neg he] at i3
     have hw:walkR (nodF (vget cols)) l=.error (nodV (vget cols) l[j] ks).2:=by unfold walkR;rw[i3]
     rw[hw]
     ((conv=>whnf);repeat' ((first|(with_reducible first|apply a_|apply b_|apply c_)|((with_reducible first|apply d_|apply e_|apply f_|apply g_);focus first|omega|(simp only[q_]<;>omega))|((with_reducible first|apply i_|apply h_);focus first|omega|(simp only[q_]<;>omega))|((with_reducible apply h_);focus first|decide|kernel_rfl)|refine s_ (by decide) ?_|refine t_ (by decide) ?_|(refine Idx.mapI j rfl q ?_)|(refine CallP.ret [(FK,60)] _ _ _ _ _ _ _ pc rfl rfl rfl rfl ⟨rfl,trivial⟩ ?_)|(refine CallP.ret [(FK,FK)] _ _ _ _ _ _ _ pd rfl rfl rfl rfl ⟨rfl,trivial⟩ ?_)|with_reducible first|apply l_|apply m_|apply n_|apply o_|refine p_ (fun _=>?_) (fun _=>?_))<;>(conv=>whnf)))
     all_goals exact RetS.mk [(FK,FK)] [FK] rfl rfl (ple_ve (b:=noV) rfl rfl) ⟨⟨rfl,rfl⟩,trivial⟩
  ·rw[List.drop_of_length_le (by omega)] at i3
   have i3:walkG (nodF (vget cols)) [] l=.ok st:=i3
   rcases st with _ | ⟨x,_ | ⟨y,r⟩⟩
   ·have hw:walkR (nodF (vget cols)) l=.error 1:=by unfold walkR;rw[i3]
    rw[hw]
    ((conv=>whnf);repeat' ((first|(with_reducible first|apply a_|apply b_|apply c_)|((with_reducible first|apply d_|apply e_|apply f_|apply g_);focus first|omega|(simp only[q_]<;>omega))|((with_reducible first|apply i_|apply h_);focus first|omega|(simp only[q_]<;>omega))|((with_reducible apply h_);focus first|decide|kernel_rfl)|refine s_ (by decide) ?_|refine t_ (by decide) ?_|with_reducible first|apply l_|apply m_|apply n_|apply o_|refine p_ (fun _=>?_) (fun _=>?_))<;>(conv=>whnf)))
    all_goals exact RetS.mk [(FK,FK)] [FK] rfl rfl (ple_ve (b:=noV) rfl rfl) ⟨⟨rfl,rfl⟩,trivial⟩
   ·have hw:walkR (nodF (vget cols)) l=.ok x:=by unfold walkR;rw[i3]
    rw[hw]
    ((conv=>whnf);repeat' ((first|(with_reducible first|apply a_|apply b_|apply c_)|((with_reducible first|apply d_|apply e_|apply f_|apply g_);focus first|omega|(simp only[q_]<;>omega))|((with_reducible first|apply i_|apply h_);focus first|omega|(simp only[q_]<;>omega))|((with_reducible apply h_);focus first|decide|kernel_rfl)|refine s_ (by decide) ?_|refine t_ (by decide) ?_|with_reducible first|apply l_|apply m_|apply n_|apply o_|refine p_ (fun _=>?_) (fun _=>?_))<;>(conv=>whnf)))
    refine Row.mk _ rfl ?_
    ((conv=>whnf);repeat' ((first|(with_reducible first|apply a_|apply b_|apply c_)|((with_reducible first|apply d_|apply e_|apply f_|apply g_);focus first|omega|(simp only[q_]<;>omega))|((with_reducible first|apply i_|apply h_);focus first|omega|(simp only[q_]<;>omega))|((with_reducible apply h_);focus first|decide|kernel_rfl)|refine s_ (by decide) ?_|refine t_ (by decide) ?_|with_reducible first|apply l_|apply m_|apply n_|apply o_|refine p_ (fun _=>?_) (fun _=>?_))<;>(conv=>whnf)))
    all_goals exact RetS.mk [(FK,FK)] [FK] rfl rfl (ple_ve (b:=x) rfl rfl) ⟨⟨rfl,rfl⟩,trivial⟩
   ·have hw:walkR (nodF (vget cols)) l=.error 1:=by unfold walkR;rw[i3]
    rw[hw]
    ((conv=>whnf);repeat' ((first|(with_reducible first|apply a_|apply b_|apply c_)|((with_reducible first|apply d_|apply e_|apply f_|apply g_);focus first|omega|(simp only[q_]<;>omega))|((with_reducible first|apply i_|apply h_);focus first|omega|(simp only[q_]<;>omega))|((with_reducible apply h_);focus first|decide|kernel_rfl)|refine s_ (by decide) ?_|refine t_ (by decide) ?_|with_reducible first|apply l_|apply m_|apply n_|apply o_|refine p_ (fun _=>?_) (fun _=>?_))<;>(conv=>whnf)))
    all_goals exact RetS.mk [(FK,FK)] [FK] rfl rfl (ple_ve (b:=noV) rfl rfl) ⟨⟨rfl,rfl⟩,trivial⟩
end
section
open Go.RowKit K
set_option maxRecDepth 100000
def dC (x:Nat):List C:=[.v (.int .i64 x)]
theorem maxL_snoc (l:List Nat) (x:Nat):maxL (l++[x])=max (maxL l) x:=by
 induction l with
 | nil=>simp[maxL]
 | cons y l ih=>rw[List.cons_append,maxL,maxL,ih];omega
theorem maxL_le:∀(l:List Nat) (b:Nat),(∀x∈l,x≤b)→maxL l≤b
 | [],_,_=>Nat.zero_le _
 | x::l,b,h=>by
  rw[maxL]
  have:=h x (List.mem_cons_self ..)
  have:=maxL_le l b fun y hy=>h y (List.mem_cons_of_mem _ hy)
  omega
theorem p_deeper (n:NodeD) (l:List Nat) (hl:l.length≤1000) (hx:∀x∈l,x≤1000000):Pure Tryz.prog 64 [nV n,slV 1 dC l] (.tup [pInt .i64 ((maxL l+1:Nat):Int),pInt .i64 0]):=by
 refine pure_of Tryz.func64 (by rfl) rfl (by kernel_rfl) (by rfl) ?_
 ((conv=>whnf);repeat' ((first|(with_reducible first|apply a_|apply b_|apply c_)|((with_reducible first|apply d_|apply e_|apply f_|apply g_);focus first|omega|(simp only[q_]<;>omega))|((with_reducible first|apply i_|apply h_);focus first|omega|(simp only[q_]<;>omega))|((with_reducible apply h_);focus first|decide|kernel_rfl)|refine s_ (by decide) ?_|refine t_ (by decide) ?_|with_reducible first|apply l_|apply m_|apply n_|apply o_|refine p_ (fun _=>?_) (fun _=>?_))<;>(conv=>whnf)))
 refine LoopC.mk Nat (fun k=>[(6,pInt .i64 (maxL (l.take k))),(9,slV 1 dC l),(10,pInt .i64 l.length),(11,pInt .i64 k)]) (fun _=>[]) [] (fun k=>k≤l.length) (fun k=>l.length - k) 0 (Nat.zero_le _) ?start ?round
 case start=>exact⟨[],rfl,rfl,⟨PLe.int rfl,.inl rfl,PLe.int (by simp),.inl rfl,trivial⟩,trivial⟩
 case round=>
  intro k hk
  by_cases h1:k<l.length
  ·have hs:=maxL_snoc (l.take k) l[k]
   rw[← take_snoc h1] at hs
   ((conv=>whnf);repeat' ((first|(with_reducible first|apply a_|apply b_|apply c_)|((with_reducible first|apply d_|apply e_|apply f_|apply g_);focus first|omega|(simp only[q_]<;>omega))|((with_reducible first|apply i_|apply h_);focus first|omega|(simp only[q_]<;>omega))|((with_reducible apply h_);focus first|decide|kernel_rfl)|refine s_ (by decide) ?_|refine t_ (by decide) ?_|(refine Idx.mapI k rfl h1 ?_)|with_reducible first|apply l_|apply m_|apply n_|apply o_|refine p_ (fun _=>?_) (fun _=>?_))<;>(conv=>whnf)))
   all_goals
    refine⟨k+1,by omega,by omega,[],rfl,rfl,⟨PLe.int (by rw[hs];(repeat' split)<;>omega),.inl rfl,.inl rfl,PLe.int (by omega),trivial⟩,trivial⟩
  ·have hm:∀l:List Nat,(∀x∈l,x≤1000000)→maxL l≤1000000:=by
    intro l
    induction l with
    | nil=>intro _;decide
    | cons x l ih=>intro h;rw[maxL];have:=h x (List.mem_cons_self ..);have:=ih fun y hy=>h y (List.mem_cons_of_mem _ hy);omega
   have:=hm l hx
   rw[List.take_of_length_le (by omega)]
   ((conv=>whnf);repeat' ((first|(with_reducible first|apply a_|apply b_|apply c_)|((with_reducible first|apply d_|apply e_|apply f_|apply g_);focus first|omega|(simp only[q_]<;>omega))|((with_reducible first|apply i_|apply h_);focus first|omega|(simp only[q_]<;>omega))|((with_reducible apply h_);focus first|decide|kernel_rfl)|refine s_ (by decide) ?_|refine t_ (by decide) ?_|with_reducible first|apply l_|apply m_|apply n_|apply o_|refine p_ (fun _=>?_) (fun _=>?_))<;>(conv=>whnf)))
   refine Ret.eq ?_
   simp
theorem p_clonei (l:List Nat) (h:l.length≤1000000):Pure Tryz.prog 87 [slV 1 dC l] (slV 1 dC l):=by
 cases l with
 | nil=>
  refine pure_sl0 ?_ fun a cap=>?_
  ·refine pure_of Tryz.func87 (by rfl) rfl (by kernel_rfl) (by rfl) ?_
   ((conv=>whnf);repeat' ((first|(with_reducible first|apply a_|apply b_|apply c_)|((with_reducible first|apply d_|apply e_|apply f_|apply g_);focus first|omega|(simp only[q_]<;>omega))|((with_reducible first|apply i_|apply h_);focus first|omega|(simp only[q_]<;>omega))|((with_reducible apply h_);focus first|decide|kernel_rfl)|refine s_ (by decide) ?_|refine t_ (by decide) ?_|with_reducible first|apply l_|apply m_|apply n_|apply o_|refine p_ (fun _=>?_) (fun _=>?_))<;>(conv=>whnf)))
   exact Ret.le (.inr ⟨⟨1,rfl⟩,.inl rfl⟩)
  ·refine pure_of Tryz.func87 (by rfl) rfl (by kernel_rfl) (by rfl) ?_
   ((conv=>whnf);repeat' ((first|(with_reducible first|apply a_|apply b_|apply c_)|((with_reducible first|apply d_|apply e_|apply f_|apply g_);focus first|omega|(simp only[q_]<;>omega))|((with_reducible first|apply i_|apply h_);focus first|omega|(simp only[q_]<;>omega))|((with_reducible apply h_);focus first|decide|kernel_rfl)|refine s_ (by decide) ?_|refine t_ (by decide) ?_|with_reducible first|apply l_|apply m_|apply n_|apply o_|refine p_ (fun _=>?_) (fun _=>?_))<;>(conv=>whnf)))
   exact Ret.mk rfl
 | cons x l=>
  refine pure_of Tryz.func87 (by rfl) rfl (by kernel_rfl) (by rfl) ?_
  ((conv=>whnf);repeat' ((first|(with_reducible first|apply a_|apply b_|apply c_)|((with_reducible first|apply d_|apply e_|apply f_|apply g_);focus first|omega|(simp only[q_]<;>omega))|((with_reducible first|apply i_|apply h_);focus first|omega|(simp only[q_]<;>omega))|((with_reducible apply h_);focus first|decide|kernel_rfl)|refine s_ (by decide) ?_|refine t_ (by decide) ?_|(refine Need.mk (List.cons_ne_nil _ _) ?_)|(refine Need.by 8 rfl (by simp only[List.length_map,List.length_nil,Nat.zero_add];omega) ?_)|with_reducible first|apply l_|apply m_|apply n_|apply o_|refine p_ (fun _=>?_) (fun _=>?_))<;>(conv=>whnf)))
  exact Ret.mk rfl
theorem s_clonei (l:List Nat) (lo n:Nat) (h:lo+n≤l.length) (hn:n≠0) (hz:l.length≤1000000):CallS Tryz.prog 87 [.d (.arr FK 3 1 lo n)] [(FK,.arr 3 1 (l.map dC))] [] (slV 1 dC ((l.drop lo).take n)) []:=by
 refine callS_of Tryz.func87 (by rfl) rfl (by kernel_rfl) (by rfl) [FK] rfl ?_
 ((conv=>whnf);repeat' ((first|(with_reducible first|apply a_|apply b_|apply c_)|((with_reducible first|apply d_|apply e_|apply f_|apply g_);focus first|omega|(simp only[q_]<;>omega))|((with_reducible first|apply i_|apply h_);focus first|omega|(simp only[q_]<;>omega))|((with_reducible apply h_);focus first|decide|kernel_rfl)|refine s_ (by decide) ?_|refine t_ (by decide) ?_|(refine Need.mk hn ?_)|(refine Need.mk (by rw[List.length_map];exact h) ?_)|(refine Need.by 8 rfl (by simp only[List.length_nil,Nat.zero_add];omega) ?_)|with_reducible first|apply l_|apply m_|apply n_|apply o_|refine p_ (fun _=>?_) (fun _=>?_))<;>(conv=>whnf)))
 refine RetS.mk [(FK,FK)] [FK] rfl rfl ?_ ?_
 ·show C.sl 1 _=C.sl 1 _
  rw[List.map_take,List.map_drop];rfl
 ·exact⟨⟨rfl,rfl,rfl,rfl⟩,trivial⟩
theorem s_lasti (st:List Nat) (K:Int) (h0:0≤K) (h1:K≤st.length) (hz:st.length≤1000000):CallS Tryz.prog 87 [.d (.arr FK 3 1 (0+((st.length:Int) - K).toNat) (((st.length:Nat):Int).toNat - ((st.length:Int) - K).toNat))] [(FK,.arr 3 1 (st.map dC))] [] (slV 1 dC (st.drop (st.length - K.toNat))) []:=by
 have e1:0+((st.length:Int) - K).toNat=st.length - K.toNat:=by omega
 have e2:((st.length:Nat):Int).toNat - ((st.length:Int) - K).toNat=K.toNat:=by omega
 rw[e1,e2]
 by_cases k0:K=0
 ·subst k0
  rw[show st.drop (st.length - (0:Int).toNat)=[] from List.drop_of_length_le (by simp)]
  exact (p_clonei [] (by simp)).empty1
 ·have:=s_clonei st (st.length - K.toNat) K.toNat (by omega) (by omega) hz
  rwa [List.take_of_length_le (by rw[List.length_drop];omega)] at this
def wiE (l:List NodeD) (j:Nat) (st:List Nat):List (Nat×PV):=[(1,fnV 64),(6,pInt .i64 0),(7,.d (.arr 60 3 1 0 st.length)),(13,slV 6 NodeD.c l),(14,pInt .i64 l.length),(15,pInt .i64 j)]
def eInt2 (r:Except Int Nat):PV:=match r with
 | .ok d=>.tup [pInt .i64 d,pInt .i64 0]
 | .error x=>.tup [pInt .i64 0,pInt .i64 x]
theorem p_walki (l:List NodeD) (hl:l.length≤1000):Pure Tryz.prog 63 [slV 6 NodeD.c l,fnV 64] (eInt2 (walkR deepF l)):=by
 refine pure_of Tryz.func63 (by rfl) rfl (by kernel_rfl) (by rfl) ?_
 ((conv=>whnf);repeat' ((first|(with_reducible first|apply a_|apply b_|apply c_)|((with_reducible first|apply d_|apply e_|apply f_|apply g_);focus first|omega|(simp only[q_]<;>omega))|((with_reducible first|apply i_|apply h_);focus first|omega|(simp only[q_]<;>omega))|((with_reducible apply h_);focus first|decide|kernel_rfl)|refine s_ (by decide) ?_|refine t_ (by decide) ?_|with_reducible first|apply l_|apply m_|apply n_|apply o_|refine p_ (fun _=>?_) (fun _=>?_))<;>(conv=>whnf)))
 refine LoopC.mk (Nat×List Nat) (fun s=>wiE l s.1 s.2) (fun s=>[(60,.arr 3 1 (s.2.map dC))]) [60] (fun s=>s.1≤l.length∧s.2.length≤s.1∧(∀x∈s.2,x≤s.1)∧walkG deepF [] l=walkG deepF s.2 (l.drop s.1)) (fun s=>l.length - s.1) (0,[]) ⟨Nat.zero_le _,Nat.zero_le _,by simp,rfl⟩ ?start ?round
 case start=>exact⟨[],rfl,rfl,⟨.inl rfl,.inl rfl,⟨rfl,rfl,Nat.zero_lt_succ _,rfl,rfl⟩,.inl rfl,PLe.int (by simp),.inl rfl,trivial⟩,⟨rfl,Nat.zero_lt_succ _,rfl⟩,trivial⟩
 case round=>
  rintro⟨j,st⟩ ⟨hj,i1,i2,i3⟩
  have hj:j≤l.length:=hj
  have i1:st.length≤j:=i1
  have i2:∀x∈st,x≤j:=i2
  have i3:walkG deepF [] l=walkG deepF st (l.drop j):=i3
  by_cases q:j<l.length
  ·rw[List.drop_eq_getElem_cons q,walkG_cons] at i3
   by_cases g:l[j].Kids<0∨(st.length:Int)<l[j].Kids
   ·rw[if_pos g] at i3
    have hw:walkR deepF l=.error 1:=by unfold walkR;rw[i3]
    rw[hw]
    ((conv=>whnf);repeat' ((first|(with_reducible first|apply a_|apply b_|apply c_)|((with_reducible first|apply d_|apply e_|apply f_|apply g_);focus first|omega|(simp only[q_]<;>omega))|((with_reducible first|apply i_|apply h_);focus first|omega|(simp only[q_]<;>omega))|((with_reducible apply h_);focus first|decide|kernel_rfl)|refine s_ (by decide) ?_|refine t_ (by decide) ?_|(refine Idx.mapI j rfl q ?_)|with_reducible first|apply l_|apply m_|apply n_|apply o_|refine p_ (fun _=>?_) (fun _=>?_))<;>(conv=>whnf)))
    all_goals exact Ret.eq rfl
   ·rw[if_neg g] at i3
    have g1:¬l[j].Kids<0:=fun q=>g (.inl q)
    have g2:¬(st.length:Int)<l[j].Kids:=fun q=>g (.inr q)
    have pc:=s_lasti st l[j].Kids (by omega) (by omega) (by omega)
    have pd:=p_deeper l[j] (st.drop (st.length - l[j].Kids.toNat)) (by rw[List.length_drop];omega) (fun x hx=>by have:=i2 x (List.mem_of_mem_drop hx);omega)
    ((conv=>whnf);repeat' ((first|(with_reducible first|apply a_|apply b_|apply c_)|((with_reducible first|apply d_|apply e_|apply f_|apply g_);focus first|omega|(simp only[q_]<;>omega))|((with_reducible first|apply i_|apply h_);focus first|omega|(simp only[q_]<;>omega))|((with_reducible apply h_);focus first|decide|kernel_rfl)|refine s_ (by decide) ?_|refine t_ (by decide) ?_|(refine Idx.mapI j rfl q ?_)|(refine CallP.ret [(FK,60)] _ _ _ _ _ _ _ pc rfl rfl rfl rfl ⟨rfl,trivial⟩ ?_)|refine r_ pd rfl ?_|(refine Need.by 8 rfl (by simp only[List.length_singleton];omega) ?_)|with_reducible first|apply l_|apply m_|apply n_|apply o_|refine p_ (fun _=>?_) (fun _=>?_))<;>(conv=>whnf)))
    have hx1:∀x∈st.drop (st.length - l[j].Kids.toNat),x≤j:=fun x hx=>i2 x (List.mem_of_mem_drop hx)
    have hx2:=maxL_le _ _ hx1
    refine⟨(j+1,st.take (st.length - l[j].Kids.toNat)++[maxL (st.drop (st.length - l[j].Kids.toNat))+1]),⟨by show j+1≤_;omega,?_,?_,i3⟩,by show l.length - (j+1)<l.length - j;omega,[(60,54)],rfl,rfl,⟨.inl rfl,.inl rfl,⟨rfl,rfl,rfl,rfl,rfl,?_⟩,.inl rfl,.inl rfl,PLe.int rfl,trivial⟩,⟨rfl,rfl,rfl,?_⟩,trivial⟩
    ·show (st.take _++[_]).length≤j+1
     rw[List.length_append,List.length_take,List.length_singleton];omega
    ·intro x hx
     show x≤j+1
     rcases List.mem_append.1 hx with hx | hx
     ·have:=i2 x (List.mem_of_mem_take hx);omega
     ·rw[List.mem_singleton.1 hx];omega
    ·show _=(st.take _++[_]).length
     rw[List.length_append,List.length_take,List.length_singleton];simp only[List.length_singleton];omega
    ·show _=(st.take _++[_]).map dC
     rw[List.map_append,List.map_take]
     have e1:((st.length:Int) - l[j].Kids).toNat=st.length - l[j].Kids.toNat:=by omega
     show (st.map dC).take ((st.length:Int) - l[j].Kids).toNat++_=_
     rw[e1];rfl
  ·rw[List.drop_of_length_le (by omega)] at i3
   have i3:walkG deepF [] l=.ok st:=i3
   rcases st with _ | ⟨x,_ | ⟨y,r⟩⟩
   ·have hw:walkR deepF l=.error 1:=by unfold walkR;rw[i3]
    rw[hw]
    ((conv=>whnf);repeat' ((first|(with_reducible first|apply a_|apply b_|apply c_)|((with_reducible first|apply d_|apply e_|apply f_|apply g_);focus first|omega|(simp only[q_]<;>omega))|((with_reducible first|apply i_|apply h_);focus first|omega|(simp only[q_]<;>omega))|((with_reducible apply h_);focus first|decide|kernel_rfl)|refine s_ (by decide) ?_|refine t_ (by decide) ?_|with_reducible first|apply l_|apply m_|apply n_|apply o_|refine p_ (fun _=>?_) (fun _=>?_))<;>(conv=>whnf)))
    all_goals exact Ret.eq rfl
   ·have hw:walkR deepF l=.ok x:=by unfold walkR;rw[i3]
    rw[hw]
    ((conv=>whnf);repeat' ((first|(with_reducible first|apply a_|apply b_|apply c_)|((with_reducible first|apply d_|apply e_|apply f_|apply g_);focus first|omega|(simp only[q_]<;>omega))|((with_reducible first|apply i_|apply h_);focus first|omega|(simp only[q_]<;>omega))|((with_reducible apply h_);focus first|decide|kernel_rfl)|refine s_ (by decide) ?_|refine t_ (by decide) ?_|with_reducible first|apply l_|apply m_|apply n_|apply o_|refine p_ (fun _=>?_) (fun _=>?_))<;>(conv=>whnf)))
    refine Row.mk _ rfl ?_
    ((conv=>whnf);repeat' ((first|(with_reducible first|apply a_|apply b_|apply c_)|((with_reducible first|apply d_|apply e_|apply f_|apply g_);focus first|omega|(simp only[q_]<;>omega))|((with_reducible first|apply i_|apply h_);focus first|omega|(simp only[q_]<;>omega))|((with_reducible apply h_);focus first|decide|kernel_rfl)|refine s_ (by decide) ?_|refine t_ (by decide) ?_|with_reducible first|apply l_|apply m_|apply n_|apply o_|refine p_ (fun _=>?_) (fun _=>?_))<;>(conv=>whnf)))
    all_goals exact Ret.eq rfl
   ·have hw:walkR deepF l=.error 1:=by unfold walkR;rw[i3]
    rw[hw]
    ((conv=>whnf);repeat' ((first|(with_reducible first|apply a_|apply b_|apply c_)|((with_reducible first|apply d_|apply e_|apply f_|apply g_);focus first|omega|(simp only[q_]<;>omega))|((with_reducible first|apply i_|apply h_);focus first|omega|(simp only[q_]<;>omega))|((with_reducible apply h_);focus first|decide|kernel_rfl)|refine s_ (by decide) ?_|refine t_ (by decide) ?_|with_reducible first|apply l_|apply m_|apply n_|apply o_|refine p_ (fun _=>?_) (fun _=>?_))<;>(conv=>whnf)))
    all_goals exact Ret.eq rfl
end
section
open Go.RowKit K
set_option maxRecDepth 100000
theorem chk_ok {l:List NodeD} (h:chkO 0 l=0):walkR deepF l=.ok (depthE l):=by
 obtain⟨x,hx⟩:=chk_walk (fun _ ks=>maxL ks+1) l [] h
 have hx:walkR deepF l=.ok x:=by
  unfold walkR
  rw[show walkG deepF [] l=.ok [x] from hx]
 rw[hx]
 unfold depthE
 rw[hx]
theorem p_echeck (l:List NodeD) (hn:∀n∈l,okText n.Name):Pure Tryz.prog 36 [slV 6 NodeD.c l] (pInt .i64 (checkF l)):=by
 refine pure_of Tryz.func36 (by rfl) rfl (by kernel_rfl) (by rfl) ?_
 by_cases h60:60<l.length
 ·rw[show checkF l=2 from if_pos h60]
  ((conv=>whnf);repeat' ((first|(with_reducible first|apply a_|apply b_|apply c_)|((with_reducible first|apply d_|apply e_|apply f_|apply g_);focus first|omega|(simp only[q_]<;>omega))|((with_reducible first|apply i_|apply h_);focus first|omega|(simp only[q_]<;>omega))|((with_reducible apply h_);focus first|decide|kernel_rfl)|refine s_ (by decide) ?_|refine t_ (by decide) ?_|with_reducible first|apply l_|apply m_|apply n_|apply o_|refine p_ (fun _=>?_) (fun _=>?_))<;>(conv=>whnf)))
  exact Ret.int rfl
 ·((conv=>whnf);repeat' ((first|(with_reducible first|apply a_|apply b_|apply c_)|((with_reducible first|apply d_|apply e_|apply f_|apply g_);focus first|omega|(simp only[q_]<;>omega))|((with_reducible first|apply i_|apply h_);focus first|omega|(simp only[q_]<;>omega))|((with_reducible apply h_);focus first|decide|kernel_rfl)|refine s_ (by decide) ?_|refine t_ (by decide) ?_|with_reducible first|apply l_|apply m_|apply n_|apply o_|refine p_ (fun _=>?_) (fun _=>?_))<;>(conv=>whnf)))
  refine LoopC.mk (Nat×Nat) (fun s=>[(0,slV 6 NodeD.c l),(3,pInt .i64 s.2),(12,slV 6 NodeD.c l),(13,pInt .i64 l.length),(14,pInt .i64 s.1)]) (fun _=>[]) [] (fun s=>s.1≤l.length∧s.2≤s.1∧chkO 0 l=chkO s.2 (l.drop s.1)) (fun s=>l.length - s.1) (0,0) ⟨Nat.zero_le _,Nat.zero_le _,rfl⟩ ?start ?round
  case start=>exact⟨[],rfl,rfl,⟨.inl rfl,.inl rfl,.inl rfl,PLe.int (by simp),.inl rfl,trivial⟩,trivial⟩
  case round=>
   rintro⟨j,o⟩ ⟨hj,i1,i2⟩
   have hj:j≤l.length:=hj
   have i1:o≤j:=i1
   have i2:chkO 0 l=chkO o (l.drop j):=i2
   by_cases q:j<l.length
   ·have hm:=List.getElem_mem q
    have pa:=p_alone l[j] (hn _ hm)
    rw[List.drop_eq_getElem_cons q,chkO_cons] at i2
    by_cases g:alF l[j]=0
    ·have hk:=alF_kids g
     rw[if_neg (by rw[g];decide)] at i2
     rw[g] at pa
     by_cases g2:(o:Int)<l[j].Kids
     ·rw[if_pos g2] at i2
      have hc:checkF l=1:=by unfold checkF;rw[if_neg h60,if_pos (by rw[i2];decide),i2]
      rw[hc]
      ((conv=>whnf);repeat' ((first|(with_reducible first|apply a_|apply b_|apply c_)|((with_reducible first|apply d_|apply e_|apply f_|apply g_);focus first|omega|(simp only[q_]<;>omega))|((with_reducible first|apply i_|apply h_);focus first|omega|(simp only[q_]<;>omega))|((with_reducible apply h_);focus first|decide|kernel_rfl)|refine s_ (by decide) ?_|refine t_ (by decide) ?_|(refine Idx.mapI j rfl q ?_)|refine r_ pa rfl ?_|with_reducible first|apply l_|apply m_|apply n_|apply o_|refine p_ (fun _=>?_) (fun _=>?_))<;>(conv=>whnf)))
      all_goals exact Ret.int rfl
     ·rw[if_neg g2] at i2
      ((conv=>whnf);repeat' ((first|(with_reducible first|apply a_|apply b_|apply c_)|((with_reducible first|apply d_|apply e_|apply f_|apply g_);focus first|omega|(simp only[q_]<;>omega))|((with_reducible first|apply i_|apply h_);focus first|omega|(simp only[q_]<;>omega))|((with_reducible apply h_);focus first|decide|kernel_rfl)|refine s_ (by decide) ?_|refine t_ (by decide) ?_|(refine Idx.mapI j rfl q ?_)|refine r_ pa rfl ?_|with_reducible first|apply l_|apply m_|apply n_|apply o_|refine p_ (fun _=>?_) (fun _=>?_))<;>(conv=>whnf)))
      refine⟨(j+1,o+1 - l[j].Kids.toNat),⟨by show j+1≤_;omega,by show o+1 - _≤j+1;omega,i2⟩,by show l.length - (j+1)<l.length - j;omega,[],rfl,rfl,⟨.inl rfl,PLe.int ?_,.inl rfl,.inl rfl,PLe.int rfl,trivial⟩,trivial⟩
      show _=((o+1 - l[j].Kids.toNat:Nat):Int)
      omega
    ·rw[if_pos g] at i2
     have hc:checkF l=alF l[j]:=by unfold checkF;rw[if_neg h60,if_pos (by rw[i2];exact g),i2]
     rw[hc]
     ((conv=>whnf);repeat' ((first|(with_reducible first|apply a_|apply b_|apply c_)|((with_reducible first|apply d_|apply e_|apply f_|apply g_);focus first|omega|(simp only[q_]<;>omega))|((with_reducible first|apply i_|apply h_);focus first|omega|(simp only[q_]<;>omega))|((with_reducible apply h_);focus first|decide|kernel_rfl)|refine s_ (by decide) ?_|refine t_ (by decide) ?_|(refine Idx.mapI j rfl q ?_)|refine r_ pa rfl ?_|with_reducible first|apply l_|apply m_|apply n_|apply o_|refine p_ (fun _=>?_) (fun _=>?_))<;>(conv=>whnf)))
     all_goals exact Ret.int rfl
   ·rw[List.drop_of_length_le (by omega)] at i2
    have i2:chkO 0 l=if o≠1 then 1 else 0:=i2
    by_cases g:o=1
    ·rw[if_neg (by omega)] at i2
     have pw:=p_walki l (by omega)
     rw[chk_ok i2] at pw
     have pw:Pure _ _ _ (.tup [pInt .i64 (depthE l),pInt .i64 0]):=pw
     have hc:checkF l=if 12<depthE l then 10 else 0:=by unfold checkF;rw[if_neg h60,if_neg (by rw[i2];decide)]
     rw[hc]
     ((conv=>whnf);repeat' ((first|(with_reducible first|apply a_|apply b_|apply c_)|((with_reducible first|apply d_|apply e_|apply f_|apply g_);focus first|omega|(simp only[q_]<;>omega))|((with_reducible first|apply i_|apply h_);focus first|omega|(simp only[q_]<;>omega))|((with_reducible apply h_);focus first|decide|kernel_rfl)|refine s_ (by decide) ?_|refine t_ (by decide) ?_|refine r_ pw rfl ?_|with_reducible first|apply l_|apply m_|apply n_|apply o_|refine p_ (fun _=>?_) (fun _=>?_))<;>(conv=>whnf)))
     (all_goals (refine Ret.int ?_;((repeat' split)<;>first|rfl|omega)))
    ·rw[if_pos g] at i2
     have hc:checkF l=1:=by unfold checkF;rw[if_neg h60,if_pos (by rw[i2];decide),i2]
     rw[hc]
     ((conv=>whnf);repeat' ((first|(with_reducible first|apply a_|apply b_|apply c_)|((with_reducible first|apply d_|apply e_|apply f_|apply g_);focus first|omega|(simp only[q_]<;>omega))|((with_reducible first|apply i_|apply h_);focus first|omega|(simp only[q_]<;>omega))|((with_reducible apply h_);focus first|decide|kernel_rfl)|refine s_ (by decide) ?_|refine t_ (by decide) ?_|with_reducible first|apply l_|apply m_|apply n_|apply o_|refine p_ (fun _=>?_) (fun _=>?_))<;>(conv=>whnf)))
     all_goals exact Ret.int rfl
theorem drop_back {α:Type} (st:List α) (k:Nat) (h:k<st.length):st.drop (st.length - (k+1))=st[st.length - (k+1)]::st.drop (st.length - k):=by
 rw[List.drop_eq_getElem_cons (by omega),show st.length - (k+1)+1=st.length - k by omega]
theorem p_exprcheck (l:List NodeD) (hn:∀n∈l,okText n.Name):Pure Tryz.prog 23 [slV 6 NodeD.c l] (pInt .i64 (checkF l)):=by
 refine pure_of Tryz.func23 (by rfl) rfl (by kernel_rfl) (by rfl) ?_
 rw[← checkR_eq]
 by_cases h60:60<l.length
 ·rw[if_pos h60]
  ((conv=>whnf);repeat' ((first|(with_reducible first|apply a_|apply b_|apply c_)|((with_reducible first|apply d_|apply e_|apply f_|apply g_);focus first|omega|(simp only[q_]<;>omega))|((with_reducible first|apply i_|apply h_);focus first|omega|(simp only[q_]<;>omega))|((with_reducible apply h_);focus first|decide|kernel_rfl)|refine s_ (by decide) ?_|refine t_ (by decide) ?_|with_reducible first|apply l_|apply m_|apply n_|apply o_|refine p_ (fun _=>?_) (fun _=>?_))<;>(conv=>whnf)))
  exact Ret.int rfl
 rw[if_neg h60]
 by_cases h00:l.length=0
 ·rw[if_pos h00]
  ((conv=>whnf);repeat' ((first|(with_reducible first|apply a_|apply b_|apply c_)|((with_reducible first|apply d_|apply e_|apply f_|apply g_);focus first|omega|(simp only[q_]<;>omega))|((with_reducible first|apply i_|apply h_);focus first|omega|(simp only[q_]<;>omega))|((with_reducible apply h_);focus first|decide|kernel_rfl)|refine s_ (by decide) ?_|refine t_ (by decide) ?_|with_reducible first|apply l_|apply m_|apply n_|apply o_|refine p_ (fun _=>?_) (fun _=>?_))<;>(conv=>whnf)))
  all_goals exact Ret.int rfl
 rw[if_neg h00]
 ((conv=>whnf);repeat' ((first|(with_reducible first|apply a_|apply b_|apply c_)|((with_reducible first|apply d_|apply e_|apply f_|apply g_);focus first|omega|(simp only[q_]<;>omega))|((with_reducible first|apply i_|apply h_);focus first|omega|(simp only[q_]<;>omega))|((with_reducible apply h_);focus first|decide|kernel_rfl)|refine s_ (by decide) ?_|refine t_ (by decide) ?_|with_reducible first|apply l_|apply m_|apply n_|apply o_|refine p_ (fun _=>?_) (fun _=>?_))<;>(conv=>whnf)))
 refine LoopC.mk (Nat×List Nat) (fun s=>[(0,slV 6 NodeD.c l),(3,.d (.arr 60 3 1 0 s.2.length)),(4,pInt .i64 s.1)]) (fun s=>[(60,.arr 3 1 (s.2.map dC))]) [60] (fun s=>s.1≤l.length∧s.2.length≤s.1∧(∀x∈s.2,x≤s.1)∧chkR [] l=chkR s.2 (l.drop s.1)) (fun s=>l.length - s.1) (0,[]) ⟨Nat.zero_le _,Nat.zero_le _,by simp,rfl⟩ ?start ?round
 case start=>exact⟨[],rfl,rfl,⟨.inl rfl,⟨rfl,rfl,Nat.zero_lt_succ _,rfl,rfl⟩,.inl rfl,trivial⟩,⟨rfl,Nat.zero_lt_succ _,rfl⟩,trivial⟩
 case round=>
  rintro⟨j,st⟩ ⟨hj,i1,i2,i3⟩
  have hj:j≤l.length:=hj
  have i1:st.length≤j:=i1
  have i2:∀x∈st,x≤j:=i2
  have i3:chkR [] l=chkR st (l.drop j):=i3
  by_cases q:j<l.length
  ·have hm:=List.getElem_mem q
   have pa:=p_nodecheck l[j] (hn _ hm)
   rw[List.drop_eq_getElem_cons q,chkR_cons] at i3
   by_cases g:alF l[j]=0
   ·have hk:=alF_kids g
    rw[if_neg (by rw[g];decide)] at i3
    rw[g] at pa
    by_cases g2:(st.length:Int)<l[j].Kids
    ·rw[if_pos g2] at i3
     rw[i3]
     ((conv=>whnf);repeat' ((first|(with_reducible first|apply a_|apply b_|apply c_)|((with_reducible first|apply d_|apply e_|apply f_|apply g_);focus first|omega|(simp only[q_]<;>omega))|((with_reducible first|apply i_|apply h_);focus first|omega|(simp only[q_]<;>omega))|((with_reducible apply h_);focus first|decide|kernel_rfl)|refine s_ (by decide) ?_|refine t_ (by decide) ?_|(refine Idx.mapI j rfl q ?_)|refine r_ pa rfl ?_|with_reducible first|apply l_|apply m_|apply n_|apply o_|refine p_ (fun _=>?_) (fun _=>?_))<;>(conv=>whnf)))
     all_goals exact Ret.int rfl
    ·rw[if_neg g2] at i3
     ((conv=>whnf);repeat' ((first|(with_reducible first|apply a_|apply b_|apply c_)|((with_reducible first|apply d_|apply e_|apply f_|apply g_);focus first|omega|(simp only[q_]<;>omega))|((with_reducible first|apply i_|apply h_);focus first|omega|(simp only[q_]<;>omega))|((with_reducible apply h_);focus first|decide|kernel_rfl)|refine s_ (by decide) ?_|refine t_ (by decide) ?_|(refine Idx.mapI j rfl q ?_)|refine r_ pa rfl ?_|with_reducible first|apply l_|apply m_|apply n_|apply o_|refine p_ (fun _=>?_) (fun _=>?_))<;>(conv=>whnf)))
     refine LoopC.mk Nat (fun k=>[(0,slV 6 NodeD.c l),(3,.d (.arr 60 3 1 0 (st.length - k))),(4,pInt .i64 j),(6,pInt .i64 (maxL (st.drop (st.length - k)))),(7,pInt .i64 k)]) (fun _=>[(60,.arr 3 1 (st.map dC))]) [60] (fun k=>(k:Int)≤l[j].Kids) (fun k=>l[j].Kids.toNat - k) 0 (by omega) ?s2 ?r2
     case s2=>exact⟨[(60,60)],rfl,rfl,⟨.inl rfl,⟨rfl,rfl,rfl,rfl,rfl,rfl⟩,.inl rfl,PLe.int (by rw[List.drop_of_length_le (by omega)];rfl),.inl rfl,trivial⟩,⟨rfl,rfl,rfl,rfl⟩,trivial⟩
     case r2=>
      intro k hk2
      have hk2:(k:Int)≤l[j].Kids:=hk2
      have hx1:∀x∈st.drop (st.length - k),x≤j:=fun x hx=>i2 x (List.mem_of_mem_drop hx)
      have hx2:=maxL_le _ _ hx1
      by_cases k1:(k:Int)<l[j].Kids
      ·have hkl:k<st.length:=by omega
       have lR:∀n,n=st.length - (k+1)→(st.map dC)[n]? = some (dC st[st.length - (k+1)]):=by
        rintro n rfl
        rw[List.getElem?_map,List.getElem?_eq_getElem (by omega)];rfl
       have hb:=drop_back st k hkl
       ((conv=>whnf);repeat' ((first|(with_reducible first|apply a_|apply b_|apply c_)|((with_reducible first|apply d_|apply e_|apply f_|apply g_);focus first|omega|(simp only[q_]<;>omega))|((with_reducible first|apply i_|apply h_);focus first|omega|(simp only[q_]<;>omega))|((with_reducible apply h_);focus first|decide|kernel_rfl)|refine s_ (by decide) ?_|refine t_ (by decide) ?_|(refine Idx.mapI j rfl q ?_)|(refine Row.mk _ (lR _ (by omega)) ?_)|with_reducible first|apply l_|apply m_|apply n_|apply o_|refine p_ (fun _=>?_) (fun _=>?_))<;>(conv=>whnf)))
       all_goals
        refine⟨k+1,by omega,by omega,[(60,60)],rfl,rfl,⟨.inl rfl,⟨rfl,rfl,rfl,rfl,rfl,?_⟩,.inl rfl,PLe.int (by rw[hb,maxL];omega),.inl rfl,trivial⟩,⟨rfl,rfl,rfl,rfl⟩,trivial⟩
        omega
      ·have ek:l[j].Kids=(k:Int):=by omega
       have ek2:l[j].Kids.toNat=k:=by omega
       rw[ek2] at i3
       ((conv=>whnf);repeat' ((first|(with_reducible first|apply a_|apply b_|apply c_)|((with_reducible first|apply d_|apply e_|apply f_|apply g_);focus first|omega|(simp only[q_]<;>omega))|((with_reducible first|apply i_|apply h_);focus first|omega|(simp only[q_]<;>omega))|((with_reducible apply h_);focus first|decide|kernel_rfl)|refine s_ (by decide) ?_|refine t_ (by decide) ?_|(refine Idx.mapI j rfl q ?_)|(refine Need.by 8 rfl (by simp only[List.length_singleton];omega) ?_)|with_reducible first|apply l_|apply m_|apply n_|apply o_|refine p_ (fun _=>?_) (fun _=>?_))<;>(conv=>whnf)))
       refine⟨(j+1,st.take (st.length - k)++[maxL (st.drop (st.length - k))+1]),⟨by show j+1≤_;omega,?_,?_,i3⟩,by show l.length - (j+1)<l.length - j;omega,[(60,65)],rfl,rfl,⟨.inl rfl,⟨rfl,rfl,rfl,rfl,rfl,?_⟩,PLe.int rfl,trivial⟩,⟨rfl,rfl,rfl,?_⟩,trivial⟩
       ·show (st.take _++[_]).length≤j+1
        rw[List.length_append,List.length_take,List.length_singleton];omega
       ·intro x hx
        show x≤j+1
        rcases List.mem_append.1 hx with hx | hx
        ·have:=i2 x (List.mem_of_mem_take hx);omega
        ·rw[List.mem_singleton.1 hx];omega
       ·show _=(st.take _++[_]).length
        rw[List.length_append,List.length_take,List.length_singleton];simp only[List.length_singleton];omega
       ·show _=(st.take _++[_]).map dC
        rw[List.map_append,List.map_take]
        rfl
   ·rw[if_pos g] at i3
    rw[i3]
    ((conv=>whnf);repeat' ((first|(with_reducible first|apply a_|apply b_|apply c_)|((with_reducible first|apply d_|apply e_|apply f_|apply g_);focus first|omega|(simp only[q_]<;>omega))|((with_reducible first|apply i_|apply h_);focus first|omega|(simp only[q_]<;>omega))|((with_reducible apply h_);focus first|decide|kernel_rfl)|refine s_ (by decide) ?_|refine t_ (by decide) ?_|(refine Idx.mapI j rfl q ?_)|refine r_ pa rfl ?_|with_reducible first|apply l_|apply m_|apply n_|apply o_|refine p_ (fun _=>?_) (fun _=>?_))<;>(conv=>whnf)))
    all_goals exact Ret.int rfl
  ·rw[List.drop_of_length_le (by omega)] at i3
   have i3:chkR [] l=if st.length≠1 then 1 else if 12<st.headD 0 then 10 else 0:=i3
   rw[i3]
   rcases st with _ | ⟨x,_ | ⟨y,r⟩⟩
   ·((conv=>whnf);repeat' ((first|(with_reducible first|apply a_|apply b_|apply c_)|((with_reducible first|apply d_|apply e_|apply f_|apply g_);focus first|omega|(simp only[q_]<;>omega))|((with_reducible first|apply i_|apply h_);focus first|omega|(simp only[q_]<;>omega))|((with_reducible apply h_);focus first|decide|kernel_rfl)|refine s_ (by decide) ?_|refine t_ (by decide) ?_|with_reducible first|apply l_|apply m_|apply n_|apply o_|refine p_ (fun _=>?_) (fun _=>?_))<;>(conv=>whnf)))
    all_goals exact Ret.int rfl
   ·((conv=>whnf);repeat' ((first|(with_reducible first|apply a_|apply b_|apply c_)|((with_reducible first|apply d_|apply e_|apply f_|apply g_);focus first|omega|(simp only[q_]<;>omega))|((with_reducible first|apply i_|apply h_);focus first|omega|(simp only[q_]<;>omega))|((with_reducible apply h_);focus first|decide|kernel_rfl)|refine s_ (by decide) ?_|refine t_ (by decide) ?_|with_reducible first|apply l_|apply m_|apply n_|apply o_|refine p_ (fun _=>?_) (fun _=>?_))<;>(conv=>whnf)))
    refine Row.mk _ rfl ?_
    rw[show (if [x].length≠1 then (1:Int) else if 12 < [x].headD 0 then 10 else 0)=if 12<x then 10 else 0 from rfl]
    ((conv=>whnf);repeat' ((first|(with_reducible first|apply a_|apply b_|apply c_)|((with_reducible first|apply d_|apply e_|apply f_|apply g_);focus first|omega|(simp only[q_]<;>omega))|((with_reducible first|apply i_|apply h_);focus first|omega|(simp only[q_]<;>omega))|((with_reducible apply h_);focus first|decide|kernel_rfl)|refine s_ (by decide) ?_|refine t_ (by decide) ?_|with_reducible first|apply l_|apply m_|apply n_|apply o_|refine p_ (fun _=>?_) (fun _=>?_))<;>(conv=>whnf)))
    (all_goals (refine Ret.int ?_;((repeat' split)<;>first|rfl|omega)))
   ·rw[if_pos (by simp)]
    ((conv=>whnf);repeat' ((first|(with_reducible first|apply a_|apply b_|apply c_)|((with_reducible first|apply d_|apply e_|apply f_|apply g_);focus first|omega|(simp only[q_]<;>omega))|((with_reducible first|apply i_|apply h_);focus first|omega|(simp only[q_]<;>omega))|((with_reducible apply h_);focus first|decide|kernel_rfl)|refine s_ (by decide) ?_|refine t_ (by decide) ?_|with_reducible first|apply l_|apply m_|apply n_|apply o_|refine p_ (fun _=>?_) (fun _=>?_))<;>(conv=>whnf)))
    all_goals exact Ret.int rfl
end
section
open Go.RowKit K
set_option maxRecDepth 100000
theorem look_sc (cols:List (List UInt8)) (row:List ValueD):vget (scM cols row)=lookC cols row:=funext fun s=>vget_scM cols row s
theorem lookC_mem:∀(cols:List (List UInt8)) (row:List ValueD) {s:List UInt8} {v:ValueD},lookC cols row s=some v→v∈row
 | [],row,s,v,h=>by cases row<;>cases h
 | _::_,[],s,v,h=>by cases h
 | c::cs,x::xs,s,v,h=>by
  unfold lookC at h
  split at h
  ·cases h;exact List.mem_cons_self ..
  ·exact List.mem_cons_of_mem _ (lookC_mem cs xs h)
theorem look_ok {cols:List (List UInt8)} {row:List ValueD} (h:∀v∈row,RV v):LookOk (lookC cols row):=fun s v hv=>h v (lookC_mem cols row hv)
def NIn (l:List NodeD):Prop:=∀n∈l,alF n=0∧WholeP.In64 n.V.N
theorem p_raw (l:List NodeD) (hl:l.length≤1000) (hn:NIn l) (cols:List (List UInt8)) (row:List ValueD) (hc:cols.length=row.length) (hcl:cols.length≤1000000) (hr:∀v∈row,RV v) :
  Pure Tryz.prog 79 [slV 6 NodeD.c l,slV 1 eText cols,slV 3 ValueD.c row] (eVal (walkR (nodF (lookC cols row)) l)):=by
 have ps:=s_scoped cols row hc hcl
 have pw:=s_walkv (scM cols row) (by rw[look_sc];exact look_ok hr) l hl hn
 rw[look_sc] at pw
 refine pure_of Tryz.func79 (by rfl) rfl (by kernel_rfl) (by rfl) ?_
 cases hw:walkR (nodF (lookC cols row)) l with
 | ok v=>
  rw[hw] at pw
  ((conv=>whnf);repeat' ((first|(with_reducible first|apply a_|apply b_|apply c_)|((with_reducible first|apply d_|apply e_|apply f_|apply g_);focus first|omega|(simp only[q_]<;>omega))|((with_reducible first|apply i_|apply h_);focus first|omega|(simp only[q_]<;>omega))|((with_reducible apply h_);focus first|decide|kernel_rfl)|refine s_ (by decide) ?_|refine t_ (by decide) ?_|(refine CallP.ret [(NK,11)] _ _ _ _ _ _ _ ps rfl rfl rfl rfl trivial ?_)|(refine CallP.ret [(FK,11)] _ _ _ _ _ _ _ pw rfl rfl rfl rfl ⟨rfl,trivial⟩ ?_)|with_reducible first|apply l_|apply m_|apply n_|apply o_|refine p_ (fun _=>?_) (fun _=>?_))<;>(conv=>whnf)))
  exact Ret.eq rfl
 | error x=>
  rw[hw] at pw
  ((conv=>whnf);repeat' ((first|(with_reducible first|apply a_|apply b_|apply c_)|((with_reducible first|apply d_|apply e_|apply f_|apply g_);focus first|omega|(simp only[q_]<;>omega))|((with_reducible first|apply i_|apply h_);focus first|omega|(simp only[q_]<;>omega))|((with_reducible apply h_);focus first|decide|kernel_rfl)|refine s_ (by decide) ?_|refine t_ (by decide) ?_|(refine CallP.ret [(NK,11)] _ _ _ _ _ _ _ ps rfl rfl rfl rfl trivial ?_)|(refine CallP.ret [(FK,11)] _ _ _ _ _ _ _ pw rfl rfl rfl rfl ⟨rfl,trivial⟩ ?_)|with_reducible first|apply l_|apply m_|apply n_|apply o_|refine p_ (fun _=>?_) (fun _=>?_))<;>(conv=>whnf)))
  exact Ret.eq rfl
def truR (r:Except Int ValueD):Int×Int:=match r with
 | .ok v=>meaV v
 | .error x=>(0,x)
theorem p_rawtruth_of {l:List NodeD} {cols:List (List UInt8)} {row:List ValueD} {r:Except Int ValueD} (hr:∀x,r=.error x→x≠0) (p:Pure Tryz.prog 79 [slV 6 NodeD.c l,slV 1 eText cols,slV 3 ValueD.c row] (eVal r)) :
  Pure Tryz.prog 67 [slV 6 NodeD.c l,slV 1 eText cols,slV 3 ValueD.c row] (.tup [pInt .i64 (truR r).1,pInt .i64 (truR r).2]):=by
 refine pure_of Tryz.func67 (by rfl) rfl (by kernel_rfl) (by rfl) ?_
 cases r with
 | ok v=>
  have pm:=p_meant v
  have p:Pure _ _ _ (.tup [vV v,pInt .i64 0]):=p
  ((conv=>whnf);repeat' ((first|(with_reducible first|apply a_|apply b_|apply c_)|((with_reducible first|apply d_|apply e_|apply f_|apply g_);focus first|omega|(simp only[q_]<;>omega))|((with_reducible first|apply i_|apply h_);focus first|omega|(simp only[q_]<;>omega))|((with_reducible apply h_);focus first|decide|kernel_rfl)|refine s_ (by decide) ?_|refine t_ (by decide) ?_|refine r_ p rfl ?_|refine r_ pm rfl ?_|with_reducible first|apply l_|apply m_|apply n_|apply o_|refine p_ (fun _=>?_) (fun _=>?_))<;>(conv=>whnf)))
  exact Ret.eq rfl
 | error x=>
  have p:Pure _ _ _ (.tup [vV noV,pInt .i64 x]):=p
  have h0:=hr x rfl
  ((conv=>whnf);repeat' ((first|(with_reducible first|apply a_|apply b_|apply c_)|((with_reducible first|apply d_|apply e_|apply f_|apply g_);focus first|omega|(simp only[q_]<;>omega))|((with_reducible first|apply i_|apply h_);focus first|omega|(simp only[q_]<;>omega))|((with_reducible apply h_);focus first|decide|kernel_rfl)|refine s_ (by decide) ?_|refine t_ (by decide) ?_|refine r_ p rfl ?_|with_reducible first|apply l_|apply m_|apply n_|apply o_|refine p_ (fun _=>?_) (fun _=>?_))<;>(conv=>whnf)))
  all_goals first|exact Ret.eq rfl | (exfalso;omega)
def scopeE (e:List NodeD) (cols:List (List UInt8)) (row:List ValueD):Int:=if checkF e≠0 then checkF e else if 8<cols.length then 2 else if cols.length≠row.length then 1 else vChkAll row
noncomputable def evalF (e:List NodeD) (cols:List (List UInt8)) (row:List ValueD):Except Int ValueD:=if scopeE e cols row≠0 then .error (scopeE e cols row) else walkR (nodF (lookC cols row)) e
theorem p_evcheck (e:List NodeD) (hn:∀n∈e,okText n.Name) (cols:List (List UInt8)) (row:List ValueD) (hr:row.length≤140737488355328):Pure Tryz.prog 66 [slV 6 NodeD.c e,slV 1 eText cols,slV 3 ValueD.c row] (pInt .i64 (scopeE e cols row)):=by
 have pe:=p_echeck e hn
 have pc:=p_checkall row hr
 refine pure_of Tryz.func66 (by rfl) rfl (by kernel_rfl) (by rfl) ?_
 unfold scopeE
 by_cases h1:checkF e=0
 ·rw[if_neg (by rw[h1];decide)]
  rw[h1] at pe
  by_cases h2:8<cols.length
  ·rw[if_pos h2]
   ((conv=>whnf);repeat' ((first|(with_reducible first|apply a_|apply b_|apply c_)|((with_reducible first|apply d_|apply e_|apply f_|apply g_);focus first|omega|(simp only[q_]<;>omega))|((with_reducible first|apply i_|apply h_);focus first|omega|(simp only[q_]<;>omega))|((with_reducible apply h_);focus first|decide|kernel_rfl)|refine s_ (by decide) ?_|refine t_ (by decide) ?_|refine r_ pe rfl ?_|with_reducible first|apply l_|apply m_|apply n_|apply o_|refine p_ (fun _=>?_) (fun _=>?_))<;>(conv=>whnf)))
   all_goals first|exact Ret.int rfl | (exfalso;omega)
  ·rw[if_neg h2]
   by_cases h3:cols.length=row.length
   ·rw[if_neg (by omega)]
    ((conv=>whnf);repeat' ((first|(with_reducible first|apply a_|apply b_|apply c_)|((with_reducible first|apply d_|apply e_|apply f_|apply g_);focus first|omega|(simp only[q_]<;>omega))|((with_reducible first|apply i_|apply h_);focus first|omega|(simp only[q_]<;>omega))|((with_reducible apply h_);focus first|decide|kernel_rfl)|refine s_ (by decide) ?_|refine t_ (by decide) ?_|refine r_ pe rfl ?_|refine r_ pc rfl ?_|with_reducible first|apply l_|apply m_|apply n_|apply o_|refine p_ (fun _=>?_) (fun _=>?_))<;>(conv=>whnf)))
    all_goals first|exact Ret.int rfl | (exfalso;omega)
   ·rw[if_pos h3]
    ((conv=>whnf);repeat' ((first|(with_reducible first|apply a_|apply b_|apply c_)|((with_reducible first|apply d_|apply e_|apply f_|apply g_);focus first|omega|(simp only[q_]<;>omega))|((with_reducible first|apply i_|apply h_);focus first|omega|(simp only[q_]<;>omega))|((with_reducible apply h_);focus first|decide|kernel_rfl)|refine s_ (by decide) ?_|refine t_ (by decide) ?_|refine r_ pe rfl ?_|with_reducible first|apply l_|apply m_|apply n_|apply o_|refine p_ (fun _=>?_) (fun _=>?_))<;>(conv=>whnf)))
    all_goals first|exact Ret.int rfl | (exfalso;omega)
 ·rw[if_pos h1]
  ((conv=>whnf);repeat' ((first|(with_reducible first|apply a_|apply b_|apply c_)|((with_reducible first|apply d_|apply e_|apply f_|apply g_);focus first|omega|(simp only[q_]<;>omega))|((with_reducible first|apply i_|apply h_);focus first|omega|(simp only[q_]<;>omega))|((with_reducible apply h_);focus first|decide|kernel_rfl)|refine s_ (by decide) ?_|refine t_ (by decide) ?_|refine r_ pe rfl ?_|with_reducible first|apply l_|apply m_|apply n_|apply o_|refine p_ (fun _=>?_) (fun _=>?_))<;>(conv=>whnf)))
  all_goals first|exact Ret.int rfl | (exfalso;omega)
theorem scope_ok {e:List NodeD} {cols:List (List UInt8)} {row:List ValueD} (h:scopeE e cols row=0):checkF e=0∧cols.length≤8∧cols.length=row.length∧∀v∈row,OkV v:=by
 unfold scopeE at h
 split at h
 ·rename_i q;exact absurd h q
 ·rename_i q
  split at h
  ·cases h
  ·split at h
   ·cases h
   ·exact⟨Decidable.of_not_not q,by omega,by omega,fun v hv=>vChkAll_ok.1 h v hv⟩
theorem check_all {e:List NodeD} (h:checkF e=0):e.length≤60∧∀n∈e,alF n=0:=by
 unfold checkF at h
 split at h
 ·cases h
 ·split at h
  ·rename_i q;exact absurd h q
  ·rename_i q
   exact⟨by omega,chk_all e 0 (Decidable.of_not_not q)⟩
abbrev hNode (n:NodeD):Prop:=okText n.Name∧WholeP.In64 n.V.N
theorem nodF_err {look:Look} {n:NodeD} {k:List ValueD} {x:Int} (h:nodF look n k=.error x):x≠0:=by
 unfold nodF at h
 split at h
 ·cases h
 ·rename_i q;cases h;exact q
theorem walkG_err {α:Type} {f:NodeD→List α→Except Int α} (hf:∀n k x,f n k=.error x→x≠0):∀(l:List NodeD) (st:List α) {x:Int},walkG f st l=.error x→x≠0
 | [],st,x,h=>by cases h
 | n::l,st,x,h=>by
  rw[walkG_cons] at h
  split at h
  ·cases h;decide
  ·split at h
   ·rename_i y hy;cases h;exact hf _ _ _ hy
   ·exact walkG_err hf l _ h
theorem walkR_err {α:Type} {f:NodeD→List α→Except Int α} (hf:∀n k x,f n k=.error x→x≠0) {l:List NodeD} {x:Int} (h:walkR f l=.error x):x≠0:=by
 unfold walkR at h
 split at h
 ·rename_i y hy;cases h;exact walkG_err hf _ _ hy
 ·cases h
 ·cases h;decide
theorem evalF_err {e:List NodeD} {cols:List (List UInt8)} {row:List ValueD} {x:Int} (h:evalF e cols row=.error x):x≠0:=by
 unfold evalF at h
 split at h
 ·rename_i q;cases h;exact q
 ·exact walkR_err (fun n k x=>nodF_err) h
theorem p_eval (e:List NodeD) (hn:∀n∈e,hNode n) (cols:List (List UInt8)) (row:List ValueD) (hr:row.length≤140737488355328) (hv:∀v∈row,WholeP.In64 v.N):Pure Tryz.prog 54 [slV 6 NodeD.c e,slV 1 eText cols,slV 3 ValueD.c row] (eVal (evalF e cols row)):=by
 have pc:=p_evcheck e (fun n h=>(hn n h).1) cols row hr
 refine pure_of Tryz.func54 (by rfl) rfl (by kernel_rfl) (by rfl) ?_
 unfold evalF
 by_cases h:scopeE e cols row=0
 ·rw[if_neg (by rw[h];decide)]
  rw[h] at pc
  obtain⟨h1,h2,h3,h4⟩:=scope_ok h
  obtain⟨h5,h6⟩:=check_all h1
  have pr:=p_raw e (by omega) (fun n hm=>⟨h6 n hm,(hn n hm).2⟩) cols row h3 (by omega) (fun v hm=>⟨h4 v hm,hv v hm⟩)
  cases hw:walkR (nodF (lookC cols row)) e with
  | ok v=>
   rw[hw] at pr
   have pr:Pure _ _ _ (.tup [vV v,pInt .i64 0]):=pr
   ((conv=>whnf);repeat' ((first|(with_reducible first|apply a_|apply b_|apply c_)|((with_reducible first|apply d_|apply e_|apply f_|apply g_);focus first|omega|(simp only[q_]<;>omega))|((with_reducible first|apply i_|apply h_);focus first|omega|(simp only[q_]<;>omega))|((with_reducible apply h_);focus first|decide|kernel_rfl)|refine s_ (by decide) ?_|refine t_ (by decide) ?_|refine r_ pc rfl ?_|refine r_ pr rfl ?_|with_reducible first|apply l_|apply m_|apply n_|apply o_|refine p_ (fun _=>?_) (fun _=>?_))<;>(conv=>whnf)))
   exact Ret.eq rfl
  | error x=>
   rw[hw] at pr
   have pr:Pure _ _ _ (.tup [vV noV,pInt .i64 x]):=pr
   ((conv=>whnf);repeat' ((first|(with_reducible first|apply a_|apply b_|apply c_)|((with_reducible first|apply d_|apply e_|apply f_|apply g_);focus first|omega|(simp only[q_]<;>omega))|((with_reducible first|apply i_|apply h_);focus first|omega|(simp only[q_]<;>omega))|((with_reducible apply h_);focus first|decide|kernel_rfl)|refine s_ (by decide) ?_|refine t_ (by decide) ?_|refine r_ pc rfl ?_|refine r_ pr rfl ?_|with_reducible first|apply l_|apply m_|apply n_|apply o_|refine p_ (fun _=>?_) (fun _=>?_))<;>(conv=>whnf)))
   exact Ret.eq rfl
 ·rw[if_pos h]
  ((conv=>whnf);repeat' ((first|(with_reducible first|apply a_|apply b_|apply c_)|((with_reducible first|apply d_|apply e_|apply f_|apply g_);focus first|omega|(simp only[q_]<;>omega))|((with_reducible first|apply i_|apply h_);focus first|omega|(simp only[q_]<;>omega))|((with_reducible apply h_);focus first|decide|kernel_rfl)|refine s_ (by decide) ?_|refine t_ (by decide) ?_|refine r_ pc rfl ?_|with_reducible first|apply l_|apply m_|apply n_|apply o_|refine p_ (fun _=>?_) (fun _=>?_))<;>(conv=>whnf)))
  all_goals first|exact Ret.eq rfl | (exfalso;omega)
theorem p_truthE (e:List NodeD) (hn:∀n∈e,hNode n) (cols:List (List UInt8)) (row:List ValueD) (hr:row.length≤140737488355328) (hv:∀v∈row,WholeP.In64 v.N):Pure Tryz.prog 39 [slV 6 NodeD.c e,slV 1 eText cols,slV 3 ValueD.c row] (.tup [pInt .i64 (truR (evalF e cols row)).1,pInt .i64 (truR (evalF e cols row)).2]):=by
 have pc:=p_evcheck e (fun n h=>(hn n h).1) cols row hr
 refine pure_of Tryz.func39 (by rfl) rfl (by kernel_rfl) (by rfl) ?_
 unfold evalF
 by_cases h:scopeE e cols row=0
 ·rw[if_neg (by rw[h];decide)]
  rw[h] at pc
  obtain⟨h1,h2,h3,h4⟩:=scope_ok h
  obtain⟨h5,h6⟩:=check_all h1
  have pr:=p_rawtruth_of (r:=walkR (nodF (lookC cols row)) e) (fun x hx=>walkR_err (fun n k x=>nodF_err) hx) (p_raw e (by omega) (fun n hm=>⟨h6 n hm,(hn n hm).2⟩) cols row h3 (by omega) (fun v hm=>⟨h4 v hm,hv v hm⟩))
  ((conv=>whnf);repeat' ((first|(with_reducible first|apply a_|apply b_|apply c_)|((with_reducible first|apply d_|apply e_|apply f_|apply g_);focus first|omega|(simp only[q_]<;>omega))|((with_reducible first|apply i_|apply h_);focus first|omega|(simp only[q_]<;>omega))|((with_reducible apply h_);focus first|decide|kernel_rfl)|refine s_ (by decide) ?_|refine t_ (by decide) ?_|refine r_ pc rfl ?_|refine r_ pr rfl ?_|with_reducible first|apply l_|apply m_|apply n_|apply o_|refine p_ (fun _=>?_) (fun _=>?_))<;>(conv=>whnf)))
  exact Ret.eq rfl
 ·rw[if_pos h]
  ((conv=>whnf);repeat' ((first|(with_reducible first|apply a_|apply b_|apply c_)|((with_reducible first|apply d_|apply e_|apply f_|apply g_);focus first|omega|(simp only[q_]<;>omega))|((with_reducible first|apply i_|apply h_);focus first|omega|(simp only[q_]<;>omega))|((with_reducible apply h_);focus first|decide|kernel_rfl)|refine s_ (by decide) ?_|refine t_ (by decide) ?_|refine r_ pc rfl ?_|with_reducible first|apply l_|apply m_|apply n_|apply o_|refine p_ (fun _=>?_) (fun _=>?_))<;>(conv=>whnf)))
  all_goals first|exact Ret.eq rfl | (exfalso;omega)
end
section
open Go.RowKit K
set_option maxRecDepth 100000
set_option maxRecDepth 100000
def keepF (f:RowT→Bool×Int):List RowT→List RowT×Int
 | []=>([],0)
 | r::l=>if (f r).2≠0 then ([],(f r).2) else if (keepF f l).2≠0 then ([],(keepF f l).2) else (if (f r).1 then r::(keepF f l).1 else (keepF f l).1,0)
theorem keepF_ok {f:RowT→Bool×Int}:∀{l:List RowT},(∀r∈l,(f r).2=0)→keepF f l=(l.filter (fun r=>(f r).1),0)
 | [],_=>rfl
 | r::l,h=>by
  have ih:=keepF_ok (l:=l) fun x hx=>h x (List.mem_cons_of_mem _ hx)
  have h0:=h r List.mem_cons_self
  rw[keepF,if_neg (not_not_intro h0),ih,if_neg (show ¬(0:Int)≠0 by decide),List.filter_cons]
theorem keepF_err {f:RowT→Bool×Int}:∀{l:List RowT} {k:Nat} (hk:k<l.length),(∀r∈l.take k,(f r).2=0)→(f l[k]).2≠0→keepF f l=([],(f l[k]).2)
 | r::l,0,hk,_,h=>by rw[keepF];exact if_pos h
 | r::l,k+1,hk,hp,h=>by
  have hk':k<l.length:=by simpa using hk
  have h':(f l[k]).2≠0:=h
  have ih:=keepF_err (l:=l) (k:=k) hk' (fun x hx=>hp x (by rw[List.take_succ_cons];exact List.mem_cons_of_mem _ hx)) h'
  rw[keepF,if_neg (not_not_intro (hp r (by rw[List.take_succ_cons];exact List.mem_cons_self))),ih]
  exact if_pos h'
theorem filter_snoc {f:RowT→Bool} {l:List RowT} {k:Nat} (h:k<l.length):(l.take (k+1)).filter f=if f l[k] then (l.take k).filter f++[l[k]] else (l.take k).filter f:=by
 rw[take_snoc h,List.filter_append,List.filter_cons,List.filter_nil]
 cases f l[k]<;>simp
noncomputable def truF (e:List NodeD) (cols:List (List UInt8)) (r:RowT):Bool×Int:=(decide ((truR (evalF e cols r)).1=2),(truR (evalF e cols r)).2)
abbrev eBx (e:List NodeD):HB:=.box 24 [.c (.sl 6 (e.map NodeD.c))]
abbrev cBx (cols:List (List UInt8)):HB:=.box 23 [.c (.sl 1 (cols.map eText))]
theorem s_filter1 (e:List NodeD) (hn:∀n∈e,hNode n) (cols:List (List UInt8)) (row:RowT) (hr:row.length≤140737488355328) (hv:∀v∈row,WholeP.In64 v.N):CallS Tryz.prog 38 [slV 3 ValueD.c row,.d (.ptr FK 0),.d (.ptr FK1 0)] [(FK,eBx e),(FK1,cBx cols)] [] (.tup [pBool (truF e cols row).1,pInt .i64 (truF e cols row).2]) []:=by
 have pt:=p_truthE e hn cols row hr hv
 refine callS_of Tryz.func38 (by rfl) rfl (by kernel_rfl) (by rfl) [FK,FK1] rfl ?_
 ((conv=>whnf);repeat' ((first|(with_reducible first|apply a_|apply b_|apply c_)|((with_reducible first|apply d_|apply e_|apply f_|apply g_);focus first|omega|(simp only[q_]<;>omega))|((with_reducible first|apply i_|apply h_);focus first|omega|(simp only[q_]<;>omega))|((with_reducible apply h_);focus first|decide|kernel_rfl)|refine s_ (by decide) ?_|refine t_ (by decide) ?_|refine r_ pt rfl ?_|with_reducible first|apply l_|apply m_|apply n_|apply o_|refine p_ (fun _=>?_) (fun _=>?_))<;>(conv=>whnf)))
 refine RetS.mk [(FK,FK),(FK1,FK1)] [FK,FK1] rfl rfl ?_ ?_<;>(repeat' (first|exact rfl|exact trivial|exact Or.inl rfl|refine And.intro ?_ ?_))
theorem s_kept_filter (l:List RowT) (hl:l.length≤1000) (hr:∀r∈l,r.length≤1000∧∀v∈r,WholeP.In64 v.N) (e:List NodeD) (hn:∀n∈e,hNode n) (cols:List (List UInt8)):CallS Tryz.prog 37 [rwsV l,.d (.clo 38 [] [.ptr FK 0,.ptr FK1 0])] [(FK,eBx e),(FK1,cBx cols)] [] (.tup [rwsV (keepF (truF e cols) l).1,pInt .i64 (keepF (truF e cols) l).2]) []:=by
 refine callS_of Tryz.func37 (by rfl) rfl (by kernel_rfl) (by rfl) [FK,FK1] rfl ?_
 ((conv=>whnf);repeat' ((first|(with_reducible first|apply a_|apply b_|apply c_)|((with_reducible first|apply d_|apply e_|apply f_|apply g_);focus first|omega|(simp only[q_]<;>omega))|((with_reducible first|apply i_|apply h_);focus first|omega|(simp only[q_]<;>omega))|((with_reducible apply h_);focus first|decide|kernel_rfl)|refine s_ (by decide) ?_|refine t_ (by decide) ?_|with_reducible first|apply l_|apply m_|apply n_|apply o_|refine p_ (fun _=>?_) (fun _=>?_))<;>(conv=>whnf)))
 refine LoopC.mk Nat (fun k=>[(1,.d (.clo 38 [] [.ptr FK 0,.ptr FK1 0])),(6,.d (.app 60 49 1 (((l.take k).filter fun r=>(truF e cols r).1).map rowC))),(11,rwsV l),(12,pInt .i64 l.length),(13,pInt .i64 (k:Int))]) (fun _=>[(FK,eBx e),(FK1,cBx cols),(60,.tail 49 1)]) [FK,FK1,60] (fun k=>k≤l.length∧∀r∈l.take k,(truF e cols r).2=0) (fun k=>l.length - k) 0 ⟨Nat.zero_le _,by simp⟩ ?start ?round
 case start=>
  refine⟨[(FK,FK),(FK1,FK1)],rfl,rfl,?_,?_⟩<;>repeat' (first|exact rfl|exact trivial|exact Or.inl rfl|exact Nat.zero_lt_succ _|refine And.intro ?_ ?_)
  all_goals exact PLe.int (by simp)
 case round=>
  rintro k ⟨hk,hz⟩
  have hk:k≤l.length:=hk
  have hz:∀r∈l.take k,(truF e cols r).2=0:=hz
  have hfl:((l.take k).filter fun r=>(truF e cols r).1).length≤k:=by
   have:=List.length_filter_le (fun r=>(truF e cols r).1) (l.take k)
   rw[List.length_take] at this
   omega
  by_cases q:k<l.length
  ·have hm:=List.getElem_mem q
   have pf:=s_filter1 e hn cols l[k] (by have:=(hr _ hm).1;omega) (hr _ hm).2
   have pc:=p_cloneV l[k] (by have:=(hr _ hm).1;omega)
   by_cases hx:(truF e cols l[k]).2=0
   ·have hz2:∀r∈l.take (k+1),(truF e cols r).2=0:=fun r hr=>by
     rw[take_snoc q,List.mem_append,List.mem_singleton] at hr
     rcases hr with hr | rfl
     ·exact hz r hr
     ·exact hx
    have hsn:=filter_snoc (f:=fun r=>(truF e cols r).1) q
    cases hb:(truF e cols l[k]).1 with
    | true=>
     rw[hb,hx] at pf
     rw[hb,if_pos rfl] at hsn
     ((conv=>whnf);repeat' ((first|(with_reducible first|apply a_|apply b_|apply c_)|((with_reducible first|apply d_|apply e_|apply f_|apply g_);focus first|omega|(simp only[q_]<;>omega))|((with_reducible first|apply i_|apply h_);focus first|omega|(simp only[q_]<;>omega))|((with_reducible apply h_);focus first|decide|kernel_rfl)|refine s_ (by decide) ?_|refine t_ (by decide) ?_|(refine Idx.mapI (f:=rowC) k rfl q ?_)|(refine CallP.ret [(FK,FK),(FK1,FK1)] _ _ _ _ _ _ _ pf rfl rfl rfl rfl ⟨rfl,rfl,trivial⟩ ?_)|refine r_ pc rfl ?_|(refine Need.by 24 rfl (by simp only[List.length_map,List.length_singleton];omega) ?_)|with_reducible first|apply l_|apply m_|apply n_|apply o_|refine p_ (fun _=>?_) (fun _=>?_))<;>(conv=>whnf)))
     all_goals first
      | (exfalso;omega)
      | skip
     refine⟨k+1,⟨by show k+1≤_;omega,hz2⟩,by show l.length - (k+1)<l.length - k;omega,[(FK,FK),(FK1,FK1),(60,31)],rfl,rfl,?_,?_⟩<;>repeat' (first|exact rfl|exact trivial|exact Or.inl rfl|exact (show _=(List.filter _ (l.take (k+1))).map rowC by rw[hsn,List.map_append];rfl) | refine And.intro ?_ ?_)
     all_goals first|exact PLe.int (by simp) | exact PLe.int (by omega)
    | false=>
     rw[hb,hx] at pf
     rw[hb,if_neg (by decide)] at hsn
     ((conv=>whnf);repeat' ((first|(with_reducible first|apply a_|apply b_|apply c_)|((with_reducible first|apply d_|apply e_|apply f_|apply g_);focus first|omega|(simp only[q_]<;>omega))|((with_reducible first|apply i_|apply h_);focus first|omega|(simp only[q_]<;>omega))|((with_reducible apply h_);focus first|decide|kernel_rfl)|refine s_ (by decide) ?_|refine t_ (by decide) ?_|(refine Idx.mapI (f:=rowC) k rfl q ?_)|(refine CallP.ret [(FK,FK),(FK1,FK1)] _ _ _ _ _ _ _ pf rfl rfl rfl rfl ⟨rfl,rfl,trivial⟩ ?_)|refine r_ pc rfl ?_|(refine Need.by 24 rfl (by simp only[List.length_map,List.length_singleton];omega) ?_)|with_reducible first|apply l_|apply m_|apply n_|apply o_|refine p_ (fun _=>?_) (fun _=>?_))<;>(conv=>whnf)))
     all_goals first
      | (exfalso;omega)
      | skip
     refine⟨k+1,⟨by show k+1≤_;omega,hz2⟩,by show l.length - (k+1)<l.length - k;omega,[(FK,FK),(FK1,FK1),(60,60)],rfl,rfl,?_,?_⟩<;>repeat' (first|exact rfl|exact trivial|exact Or.inl rfl|exact (show _=(List.filter _ (l.take (k+1))).map rowC by rw[hsn]) | refine And.intro ?_ ?_)
     all_goals first|exact PLe.int (by simp) | exact PLe.int (by omega)
   ·rw[keepF_err q hz hx]
    ((conv=>whnf);repeat' ((first|(with_reducible first|apply a_|apply b_|apply c_)|((with_reducible first|apply d_|apply e_|apply f_|apply g_);focus first|omega|(simp only[q_]<;>omega))|((with_reducible first|apply i_|apply h_);focus first|omega|(simp only[q_]<;>omega))|((with_reducible apply h_);focus first|decide|kernel_rfl)|refine s_ (by decide) ?_|refine t_ (by decide) ?_|(refine Idx.mapI (f:=rowC) k rfl q ?_)|(refine CallP.ret [(FK,FK),(FK1,FK1)] _ _ _ _ _ _ _ pf rfl rfl rfl rfl ⟨rfl,rfl,trivial⟩ ?_)|refine r_ pc rfl ?_|(refine Need.by 24 rfl (by simp only[List.length_map,List.length_singleton];omega) ?_)|with_reducible first|apply l_|apply m_|apply n_|apply o_|refine p_ (fun _=>?_) (fun _=>?_))<;>(conv=>whnf)))
    all_goals first
     | (exfalso;omega)
     | (refine RetS.mk [(FK,FK),(FK1,FK1)] [FK,FK1] rfl rfl ?_ ?_<;>repeat' (first|exact rfl|exact trivial|exact Or.inl rfl|exact Or.inr ⟨⟨1,rfl⟩,.inl rfl⟩ | refine And.intro ?_ ?_))
  ·have e1:l.take k=l:=List.take_of_length_le (by omega)
   rw[e1] at hz ⊢
   rw[keepF_ok hz]
   ((conv=>whnf);repeat' ((first|(with_reducible first|apply a_|apply b_|apply c_)|((with_reducible first|apply d_|apply e_|apply f_|apply g_);focus first|omega|(simp only[q_]<;>omega))|((with_reducible first|apply i_|apply h_);focus first|omega|(simp only[q_]<;>omega))|((with_reducible apply h_);focus first|decide|kernel_rfl)|refine s_ (by decide) ?_|refine t_ (by decide) ?_|with_reducible first|apply l_|apply m_|apply n_|apply o_|refine p_ (fun _=>?_) (fun _=>?_))<;>(conv=>whnf)))
   all_goals first
    | (exfalso;omega)
    | (refine RetS.mk [(FK,FK),(FK1,FK1)] [FK,FK1] rfl rfl ?_ ?_<;>repeat' (first|exact rfl|exact trivial|exact Or.inl rfl|exact Or.inr ⟨⟨1,rfl⟩,.inl rfl⟩ | refine And.intro ?_ ?_))
noncomputable def filtF (l:List RowT) (cols:List (List UInt8)) (e:List NodeD):List RowT×Int:=
 if rowsChk l≠0 then ([],rowsChk l) else if checkF e≠0 then ([],checkF e) else keepF (truF e cols) l
theorem p_Filter (l:List RowT) (hv:∀r∈l,∀v∈r,WholeP.In64 v.N) (cols:List (List UInt8)) (e:List NodeD) (hn:∀n∈e,hNode n):Pure Tryz.prog 16 [rwsV l,slV 1 eText cols,slV 6 NodeD.c e] (.tup [rwsV (filtF l cols e).1,pInt .i64 (filtF l cols e).2]):=by
 have pc:=p_bagcheck l
 have pe:=p_echeck e fun n h=>(hn n h).1
 refine pure_of Tryz.func16 (by rfl) rfl (by kernel_rfl) (by rfl) ?_
 unfold filtF
 by_cases h1:rowsChk l=0
 ·rw[if_neg (not_not_intro h1)]
  rw[h1] at pc
  obtain⟨h40,h8⟩:=rowsChk_ok.1 h1
  by_cases h2:checkF e=0
  ·rw[if_neg (not_not_intro h2)]
   rw[h2] at pe
   have pk:=s_kept_filter l (by omega) (fun r hr=>⟨by have:=(h8 r hr).1;omega,hv r hr⟩) e hn cols
   ((conv=>whnf);repeat' ((first|(with_reducible first|apply a_|apply b_|apply c_)|((with_reducible first|apply d_|apply e_|apply f_|apply g_);focus first|omega|(simp only[q_]<;>omega))|((with_reducible first|apply i_|apply h_);focus first|omega|(simp only[q_]<;>omega))|((with_reducible apply h_);focus first|decide|kernel_rfl)|refine s_ (by decide) ?_|refine t_ (by decide) ?_|refine r_ pc rfl ?_|refine r_ pe rfl ?_|(refine CallP.ret [(FK,5),(FK1,4)] _ _ _ _ _ _ _ pk rfl rfl rfl rfl ⟨rfl,rfl,trivial⟩ ?_)|with_reducible first|apply l_|apply m_|apply n_|apply o_|refine p_ (fun _=>?_) (fun _=>?_))<;>(conv=>whnf)))
   all_goals first|exact Ret.eq rfl | (exfalso;omega)
  ·rw[if_pos h2]
   ((conv=>whnf);repeat' ((first|(with_reducible first|apply a_|apply b_|apply c_)|((with_reducible first|apply d_|apply e_|apply f_|apply g_);focus first|omega|(simp only[q_]<;>omega))|((with_reducible first|apply i_|apply h_);focus first|omega|(simp only[q_]<;>omega))|((with_reducible apply h_);focus first|decide|kernel_rfl)|refine s_ (by decide) ?_|refine t_ (by decide) ?_|refine r_ pc rfl ?_|refine r_ pe rfl ?_|with_reducible first|apply l_|apply m_|apply n_|apply o_|refine p_ (fun _=>?_) (fun _=>?_))<;>(conv=>whnf)))
   all_goals first|exact Ret.le ⟨.inr ⟨⟨1,rfl⟩,.inl rfl⟩,.inl rfl,rfl⟩ | (exfalso;omega)
 ·rw[if_pos h1]
  ((conv=>whnf);repeat' ((first|(with_reducible first|apply a_|apply b_|apply c_)|((with_reducible first|apply d_|apply e_|apply f_|apply g_);focus first|omega|(simp only[q_]<;>omega))|((with_reducible first|apply i_|apply h_);focus first|omega|(simp only[q_]<;>omega))|((with_reducible apply h_);focus first|decide|kernel_rfl)|refine s_ (by decide) ?_|refine t_ (by decide) ?_|refine r_ pc rfl ?_|with_reducible first|apply l_|apply m_|apply n_|apply o_|refine p_ (fun _=>?_) (fun _=>?_))<;>(conv=>whnf)))
  all_goals first|exact Ret.le ⟨.inr ⟨⟨1,rfl⟩,.inl rfl⟩,.inl rfl,rfl⟩ | (exfalso;omega)
end
section
open Go.RowKit K
set_option maxRecDepth 100000
def nmap (seen:List (List UInt8)):List (ByteArray×Value):=seen.map fun s=>(tx s,.agg #[])
theorem mpGet_nmap:∀(seen:List (List UInt8)) (s:List UInt8),mpGet (nmap seen) (tx s)=if s∈seen then some (.agg #[]) else none
 | [],s=>rfl
 | a::l,s=>by
  show (bif decide (tx s=tx a) then _ else _)=_
  by_cases h:s=a
  ·subst h;simp
  ·have:¬tx s=tx a:=fun e=>h (tx_inj e)
   rw[decide_eq_false this,cond_false]
   show mpGet (nmap l) (tx s)=_
   rw[mpGet_nmap l s]
   simp[h]
theorem mpPut_nmap:∀(seen:List (List UInt8)) (s:List UInt8),mpPut (nmap seen) (tx s) (.agg #[])=if s∈seen then nmap seen else nmap (seen++[s])
 | [],s=>rfl
 | a::l,s=>by
  show (bif decide (tx s=tx a) then _ else _)=_
  by_cases h:s=a
  ·subst h;simp[nmap]
  ·have:¬tx s=tx a:=fun e=>h (tx_inj e)
   rw[decide_eq_false this,cond_false]
   show _::mpPut (nmap l) (tx s) _=_
   rw[mpPut_nmap l s]
   by_cases h2:s∈l
   ·simp[h2,nmap]
   ·simp[h,h2,nmap]
theorem nmap_plain (seen:List (List UInt8)):∀p∈nmap seen,plainV p.2=true:=by
 intro p hp
 obtain⟨s,_,rfl⟩:=List.mem_map.1 hp
 rfl
end
section
open Go.RowKit K NumP NumW NumRd NumZ NumL
set_option maxRecDepth 100000
end
section
open Go.RowKit K NumP NumW NumRd NumZ NumL
set_option maxRecDepth 100000
abbrev tVal:Nat:=33
end
section
open Go.RowKit K NumP NumW NumRd NumZ NumL
set_option maxRecDepth 100000
end
section
open Go.RowKit K NumP NumW NumRd NumZ NumL
set_option maxRecDepth 100000
end
section
open Go.RowKit
set_option maxRecDepth 100000
abbrev tByte:Nat:=5
end
section
open Go.RowKit K NumP NumW NumRd NumZ NumL
set_option maxRecDepth 100000
def rowChk (l:List ValueD):Int:=if 8<l.length then 2 else vChkAll l
theorem rowChk_ok {l:List ValueD} (h:rowChk l=0):l.length≤8∧∀v∈l,vChk v=0:=by
 unfold rowChk at h
 split at h
 ·cases h
 ·exact⟨by omega,vChkAll_ok.1 h⟩
theorem p_rowchk (l:List ValueD) (hl:l.length≤140737488355328):Pure Tryz.prog 82 [slV 3 ValueD.c l] (pInt .i64 (rowChk l)):=by
 refine pure_of Tryz.func82 (by rfl) rfl (by kernel_rfl) (by rfl) ?_
 unfold rowChk
 by_cases h:8<l.length
 ·rw[if_pos h]
  ((conv=>whnf);repeat' ((first|(with_reducible first|apply a_|apply b_|apply c_)|((with_reducible first|apply d_|apply e_|apply f_|apply g_);focus first|omega|(simp only[q_]<;>omega))|((with_reducible first|apply i_|apply h_);focus first|omega|(simp only[q_]<;>omega))|((with_reducible apply h_);focus first|decide|kernel_rfl)|refine s_ (by decide) ?_|refine t_ (by decide) ?_|with_reducible first|apply l_|apply m_|apply n_|apply o_|refine p_ (fun _=>?_) (fun _=>?_))<;>(conv=>whnf)))
  exact Ret.mk rfl
 ·rw[if_neg h]
  ((conv=>whnf);repeat' ((first|(with_reducible first|apply a_|apply b_|apply c_)|((with_reducible first|apply d_|apply e_|apply f_|apply g_);focus first|omega|(simp only[q_]<;>omega))|((with_reducible first|apply i_|apply h_);focus first|omega|(simp only[q_]<;>omega))|((with_reducible apply h_);focus first|decide|kernel_rfl)|refine s_ (by decide) ?_|refine t_ (by decide) ?_|refine r_ (p_checkall l hl) rfl ?_|with_reducible first|apply l_|apply m_|apply n_|apply o_|refine p_ (fun _=>?_) (fun _=>?_))<;>(conv=>whnf)))
  exact Ret.mk rfl
theorem vChk_inv {v:ValueD} (h:vChk v=0):(0≤v.Kind∧v.Kind≤3)∧(v.Kind≠1→v.N=0)∧(v.Kind<2→v.S=[])∧v.S.length≤16:=by
 unfold vChk at h
 split at h
 ·cases h
 ·split at h
  ·cases h
  ·split at h
   ·cases h
   ·rename_i h1 h2 h3
    refine⟨by omega,fun q=>by omega,fun q=>?_,by omega⟩
    exact List.eq_nil_of_length_eq_zero (by omega)
theorem byteRows_append (a b:List UInt8):byteRows (a++b)=byteRows a++byteRows b:=by unfold byteRows;rw[List.map_append]
end
section
open Go.RowKit K NumP NumW NumRd NumZ NumL
set_option maxRecDepth 100000
end
section
open Go.RowKit K NumP NumW NumRd NumZ NumL
set_option maxRecDepth 100000
theorem Wr.u64w {x:Int} {K:Int→Prop} (h:K (x%18446744073709551616)):Wr .u64 x K:=⟨_,by rw[IntKind.wrap_u64],h⟩
theorem xor_top (u:Nat) (h:u<18446744073709551616):u ^^^ 9223372036854775808=(u+9223372036854775808)%18446744073709551616:=by
 have low:∀y:Nat,y<9223372036854775808→y ^^^ 9223372036854775808=9223372036854775808+y:=by
  intro y hy
  apply Nat.eq_of_testBit_eq
  intro i
  rw[Nat.testBit_xor]
  have e:(9223372036854775808:Nat)=2^63:=by decide
  rw[e,Nat.testBit_two_pow]
  rcases Nat.lt_trichotomy i 63 with hi | rfl | hi
  ·rw[Nat.testBit_two_pow_add_gt hi,decide_eq_false (by omega)];simp
  ·rw[Nat.testBit_two_pow_add_eq];simp
  ·rw[decide_eq_false (by omega)]
   have h1:y.testBit i=false:=Nat.testBit_lt_two_pow (Nat.lt_of_lt_of_le (by omega:y<2^64) (Nat.pow_le_pow_right (by decide) (by omega)))
   have h2:(2^63+y).testBit i=false:=Nat.testBit_lt_two_pow (Nat.lt_of_lt_of_le (by omega:2^63+y<2^64) (Nat.pow_le_pow_right (by decide) (by omega)))
   rw[h1,h2];rfl
 by_cases hu:u<9223372036854775808
 ·rw[low u hu,Nat.mod_eq_of_lt (by omega),Nat.add_comm]
 ·have e:=low (u - 9223372036854775808) (by omega)
  rw[show 9223372036854775808+(u - 9223372036854775808)=u by omega] at e
  conv=>lhs;rw[← e]
  rw[Nat.xor_assoc,Nat.xor_self,Nat.xor_zero]
  omega
theorem xor_turn {n:Int} (h:okInt n):((BitVec.ofInt 64 (n%18446744073709551616) ^^^ BitVec.ofInt 64 9223372036854775808).toNat:Int)=n+9223372036854775808:=by
 obtain⟨h1,h2⟩:=h
 obtain⟨u,hu⟩:∃u:Nat,n%18446744073709551616=u:=⟨(n%18446744073709551616).toNat,by omega⟩
 have hlt:u<18446744073709551616:=by omega
 rw[hu]
 have e1:BitVec.ofInt 64 (u:Int)=BitVec.ofNat 64 u:=BitVec.ofInt_natCast ..
 have e2:BitVec.ofInt 64 (9223372036854775808:Int)=BitVec.ofNat 64 9223372036854775808:=by rw[← BitVec.ofInt_natCast];rfl
 rw[e1,e2,BitVec.toNat_xor,BitVec.toNat_ofNat,BitVec.toNat_ofNat,Nat.mod_eq_of_lt (by omega),Nat.mod_eq_of_lt (by omega),xor_top u hlt]
 omega
theorem Wr.turn {n:Int} {K:Int→Prop} (h:okInt n) (hk:K (n+9223372036854775808)):Wr .u64 ((BitVec.ofInt 64 (n%18446744073709551616) ^^^ BitVec.ofInt 64 9223372036854775808).toNat:Int) K:=by
 rw[xor_turn h]
 exact Wr.u64 (by have:=h.1;omega) (by have:=h.2;omega) hk
def escK:List UInt8→List UInt8
 | []=>[]
 | b::l=>if b=0 then 0::255::escK l else b::escK l
theorem escK_append:∀a b:List UInt8,escK (a++b)=escK a++escK b
 | [],b=>rfl
 | x::a,b=>by
  rw[List.cons_append]
  show (if x=0 then 0::255::escK (a++b) else x::escK (a++b))=(if x=0 then 0::255::escK a else x::escK a)++escK b
  rw[escK_append a b]
  split<;>rfl
theorem escK_len:∀l:List UInt8,(escK l).length≤2*l.length
 | []=>by simp[escK]
 | b::l=>by
  have:=escK_len l
  unfold escK
  split<;>simp only[List.length_cons]<;>omega
def b8 (n:Int):List UInt8:=[by1 (n / 2^56),by1 (n / 2^48),by1 (n / 2^40),by1 (n / 2^32),by1 (n / 2^24),by1 (n / 2^16),by1 (n / 2^8),by1 n]
theorem b8_take (n:Int) {j:Nat} (h:j<8):(b8 n).take (j+1)=(b8 n).take j++[by1 (n / 2^(56 - 8*j))]:=by
 have:j=0∨j=1∨j=2∨j=3∨j=4∨j=5∨j=6∨j=7:=by omega
 rcases this with rfl | rfl | rfl | rfl | rfl | rfl | rfl | rfl
 all_goals first|rfl | (show _=_++[by1 (n / 2^0)];rw[show n / 2^0=n by simp];rfl)
def tagK (k:Int):UInt8:=if k=0 then 5 else if k=1 then 16 else if k=2 then 32 else 48
def kW (v:ValueD):List UInt8:=tagK v.Kind::(if v.Kind=0 then [] else if v.Kind=1 then b8 (v.N+9223372036854775808) else escK v.S++[0,1])
def keyW (l:List ValueD):List UInt8:=l.flatMap kW
theorem kW_len {v:ValueD} (h:vChk v=0):(kW v).length≤35:=by
 obtain⟨_,_,_,h4⟩:=vChk_inv h
 have:=escK_len v.S
 unfold kW
 rw[List.length_cons]
 (repeat' split)
 ·simp
 ·show 8+1≤35;omega
 ·rw[List.length_append];show _+2+1≤_;omega
theorem keyW_len:∀{l:List ValueD},(∀v∈l,vChk v=0)→(keyW l).length≤35*l.length
 | [],_=>by simp[keyW]
 | v::l,h=>by
  unfold keyW
  rw[List.flatMap_cons,List.length_append,List.length_cons]
  have h1:=kW_len (h v (List.mem_cons_self ..))
  have h2:=keyW_len (l:=l) fun x hx=>h x (List.mem_cons_of_mem _ hx)
  unfold keyW at h2
  omega
theorem key_snoc {l:List ValueD} {k:Nat} (h:k<l.length):keyW (l.take (k+1))=keyW (l.take k)++kW l[k]:=by
 unfold keyW
 rw[take_snoc h,List.flatMap_append];simp
def keyR (l:List ValueD):List UInt8:=if rowChk l=0 then keyW l else []
theorem p_key (l:List ValueD) (hl:l.length≤140737488355328) (hN:∀v∈l,okInt v.N):Pure Tryz.prog 57 [slV 3 ValueD.c l] (.tup [pStr (tx (keyR l)),pInt .i64 (rowChk l)]):=by
 have pc:=p_rowchk l hl
 refine pure_of Tryz.func57 (by rfl) rfl (by kernel_rfl) (by rfl) ?_
 unfold keyR
 by_cases h:rowChk l=0
 ·obtain⟨h8,hv⟩:=rowChk_ok h
  rw[if_pos h]
  rw[h] at pc ⊢
  ((conv=>whnf);repeat' ((first|(with_reducible first|apply a_|apply b_|apply c_)|((with_reducible first|apply d_|apply e_|apply f_|apply g_);focus first|omega|(simp only[q_]<;>omega))|((with_reducible first|apply i_|apply h_);focus first|omega|(simp only[q_]<;>omega))|((with_reducible apply h_);focus first|decide|kernel_rfl)|refine s_ (by decide) ?_|refine t_ (by decide) ?_|refine r_ pc rfl ?_|with_reducible first|apply l_|apply m_|apply n_|apply o_|refine p_ (fun _=>?_) (fun _=>?_))<;>(conv=>whnf)))
  refine LoopC.mk Nat (fun j=>[(5,.d (.app 60 tByte 1 (byteRows (keyW (l.take j))))),(16,slV 3 ValueD.c l),(17,pInt .i64 l.length),(18,pInt .i64 j)]) (fun j=>[(60,.tail tByte 1)]) [60] (fun j=>j≤l.length) (fun j=>l.length - j) 0 (Nat.zero_le _) ?start ?round
  case start=>exact⟨[],rfl,rfl,⟨⟨rfl,rfl,Nat.zero_lt_one,rfl,rfl⟩,.inl rfl,PLe.int (by simp),.inl rfl,trivial⟩,⟨rfl,Nat.zero_lt_one⟩,trivial⟩
  case round=>
   intro j hj
   by_cases h1:j<l.length
   ·have hm:=List.getElem_mem h1
    obtain⟨k1,k2,k3,k4⟩:=vChk_inv (hv _ hm)
    have hN1:=hN _ hm
    have hf:=keyW_len (l:=l.take j) fun v hx=>hv v (List.mem_of_mem_take hx)
    rw[List.length_take] at hf
    have hs:=key_snoc h1
    have hb:=bRows_length (keyW (l.take j))
    have hend:∀t:List UInt8,kW l[j]=t→byteRows (keyW (l.take (j+1)))=byteRows (keyW (l.take j))++byteRows t:=by
     rintro t rfl
     rw[hs,byteRows_append]
    generalize hx:l[j]=x at *
    obtain⟨kd,n,s⟩:=x
    simp only at k1 k2 k3 k4 hN1
    have kk:kd=0∨kd=1∨2≤kd:=by omega
    rcases kk with rfl | rfl | kk
    ·((conv=>whnf);repeat' ((first|(with_reducible first|apply a_|apply b_|apply c_)|((with_reducible first|apply d_|apply e_|apply f_|apply g_);focus first|omega|(simp only[q_]<;>omega))|((with_reducible first|apply i_|apply h_);focus first|omega|(simp only[q_]<;>omega))|((with_reducible apply h_);focus first|decide|kernel_rfl)|refine s_ (by decide) ?_|refine t_ (by decide) ?_|(refine Idx.mapE j rfl h1 hx ?_)|(refine DIdx.mk _ (by dsimp only;decide) rfl ?_)|(refine Need.by 1 rfl (by simp only[List.length_append,List.length_singleton,hb];omega) ?_)|with_reducible first|apply l_|apply m_|apply n_|apply o_|refine p_ (fun _=>?_) (fun _=>?_))<;>(conv=>whnf)))
     exact⟨j+1,by omega,by omega,[(60,28)],rfl,rfl,⟨⟨rfl,rfl,rfl,rfl,by rw[hend [5] rfl];rfl⟩,.inl rfl,.inl rfl,PLe.int (by omega),trivial⟩,⟨rfl,rfl,rfl⟩,trivial⟩
    ·have kw:kW ⟨1,n,s⟩=[16]++b8 (n+9223372036854775808):=rfl
     have hlo:=hN1.1
     have hhi:=hN1.2
     ((conv=>whnf);repeat' ((first|(with_reducible first|apply a_|apply b_|apply c_)|((with_reducible first|apply d_|apply e_|apply f_|apply g_);focus first|omega|(simp only[q_]<;>omega))|((with_reducible first|apply i_|apply h_);focus first|omega|(simp only[q_]<;>omega))|((with_reducible apply h_);focus first|decide|kernel_rfl)|refine s_ (by decide) ?_|refine t_ (by decide) ?_|(refine Idx.mapE j rfl h1 hx ?_)|(refine DIdx.mk _ (by dsimp only;decide) rfl ?_)|(refine Need.by 1 rfl (by simp only[List.length_append,List.length_singleton,hb];omega) ?_)|(refine Wr.turn hN1 ?_)|(refine Wr.u64w ?_)|with_reducible first|apply l_|apply m_|apply n_|apply o_|refine p_ (fun _=>?_) (fun _=>?_))<;>(conv=>whnf)))
     refine LoopC.mk Nat (fun i=>[(5,.d (.app 61 tByte 1 (byteRows (keyW (l.take j)++[16]++(b8 (n+9223372036854775808)).take i)))),(8,pInt .i64 (56 - 8*(i:Int))),(9,pInt .u64 (n+9223372036854775808)),(16,slV 3 ValueD.c l),(17,pInt .i64 l.length),(18,pInt .i64 j)]) (fun i=>[(61,.tail tByte 1)]) [61] (fun i=>i≤8) (fun i=>8 - i) 0 (Nat.zero_le _) ?_ ?_
     ·exact⟨[(61,28)],rfl,rfl,⟨⟨rfl,rfl,rfl,rfl,by show _=byteRows (_++[]);rw[List.append_nil,byteRows_append];rfl⟩,.inl rfl,.inl rfl,.inl rfl,PLe.int (by simp),.inl rfl,trivial⟩,⟨rfl,rfl,rfl⟩,trivial⟩
     ·intro i hi
      have hb2:=bRows_length (keyW (l.take j)++[16]++(b8 (n+9223372036854775808)).take i)
      simp only[List.length_append,List.length_singleton,List.length_take] at hb2
      have hb8:(b8 (n+9223372036854775808)).length=8:=rfl
      by_cases h2:i<8
      ·have hes:=b8_take (n+9223372036854775808) h2
       have hsh:(n+9223372036854775808).fdiv (2^min (56 - 8*(i:Int)).toNat 64)=(n+9223372036854775808) / 2^(56 - 8*i):=by
        rw[Int.fdiv_eq_ediv_of_nonneg _ (Int.pow_nonneg (by decide))]
        congr 2
        omega
       ((conv=>whnf);repeat' ((first|(with_reducible first|apply a_|apply b_|apply c_)|((with_reducible first|apply d_|apply e_|apply f_|apply g_);focus first|omega|(simp only[q_]<;>omega))|((with_reducible first|apply i_|apply h_);focus first|omega|(simp only[q_]<;>omega))|((with_reducible apply h_);focus first|decide|kernel_rfl)|refine s_ (by decide) ?_|refine t_ (by decide) ?_|(refine Need.by 1 rfl (by simp only[List.length_append,List.length_singleton,hb2];omega) ?_)|with_reducible first|apply l_|apply m_|apply n_|apply o_|refine p_ (fun _=>?_) (fun _=>?_))<;>(conv=>whnf)))
       refine⟨i+1,by omega,by omega,[(61,49)],rfl,rfl,⟨⟨rfl,rfl,rfl,rfl,?_⟩,PLe.int (by omega),.inl rfl,.inl rfl,.inl rfl,.inl rfl,trivial⟩,⟨rfl,rfl,rfl⟩,trivial⟩
       rw[hes,← hsh]
       simp only[byteRows_append,List.append_assoc];rfl
      ·((conv=>whnf);repeat' ((first|(with_reducible first|apply a_|apply b_|apply c_)|((with_reducible first|apply d_|apply e_|apply f_|apply g_);focus first|omega|(simp only[q_]<;>omega))|((with_reducible first|apply i_|apply h_);focus first|omega|(simp only[q_]<;>omega))|((with_reducible apply h_);focus first|decide|kernel_rfl)|refine s_ (by decide) ?_|refine t_ (by decide) ?_|with_reducible first|apply l_|apply m_|apply n_|apply o_|refine p_ (fun _=>?_) (fun _=>?_))<;>(conv=>whnf)))
       refine⟨j+1,by omega,by omega,[(60,61)],rfl,rfl,⟨⟨rfl,rfl,rfl,rfl,?_⟩,.inl rfl,.inl rfl,PLe.int (by omega),trivial⟩,⟨rfl,rfl,rfl⟩,trivial⟩
       rw[hend _ kw,List.take_of_length_le (l:=b8 _) (by rw[hb8];omega)]
       simp only[byteRows_append,List.append_assoc]
    ·have kt:kd=2∨kd=3:=by omega
     have htag:∃tg:UInt8,tagK kd=tg∧((kd=2∧tg=32)∨(kd=3∧tg=48)):=⟨_,rfl,by rcases kt with rfl | rfl<;>simp[tagK]⟩
     obtain⟨tg,ht1,ht2⟩:=htag
     have kw:kW ⟨kd,n,s⟩=[tg]++(escK s++[0,1]):=by
      unfold kW
      rw[if_neg (show ¬kd=0 by omega),if_neg (show ¬kd=1 by omega),ht1];rfl
     have di:∀{K:D→Prop},K (.c (.v (.int .u8 (tg.toNat:Int))))→DIdx [D.c (C.v (.int .u8 5)),D.c (C.v (.int .u8 16)),D.c (C.v (.int .u8 32)),D.c (C.v (.int .u8 48))] kd K:=fun h=>by
      rcases ht2 with ⟨rfl,rfl⟩ | ⟨rfl,rfl⟩
      ·exact⟨_,by decide,rfl,h⟩
      ·exact⟨_,by decide,rfl,h⟩
     have tz:=tx_size s
     ((conv=>whnf);repeat' ((first|(with_reducible first|apply a_|apply b_|apply c_)|((with_reducible first|apply d_|apply e_|apply f_|apply g_);focus first|omega|(simp only[q_]<;>omega))|((with_reducible first|apply i_|apply h_);focus first|omega|(simp only[q_]<;>omega))|((with_reducible apply h_);focus first|decide|kernel_rfl)|refine s_ (by decide) ?_|refine t_ (by decide) ?_|(refine Idx.mapE j rfl h1 hx ?_)|(refine di ?_)|(refine Need.by 1 rfl (by simp only[List.length_append,List.length_singleton,hb];omega) ?_)|with_reducible first|apply l_|apply m_|apply n_|apply o_|refine p_ (fun _=>?_) (fun _=>?_))<;>(conv=>whnf)))
     all_goals
      refine LoopC.mk Nat (fun i=>[(5,.d (.app 61 tByte 1 (byteRows (keyW (l.take j)++[tg]++escK (s.take i))))),(7,.d (.ptr 7 0)),(10,pInt .i64 i),(16,slV 3 ValueD.c l),(17,pInt .i64 l.length),(18,pInt .i64 j)]) (fun i=>[(61,.tail tByte 1),(7,.box tVal ((ValueD.mk kd n s).c.map D.c))]) [61,7] (fun i=>i≤s.length) (fun i=>s.length - i) 0 (Nat.zero_le _) ?_ ?_
      ·exact⟨[(61,28),(7,7)],rfl,rfl,⟨⟨rfl,rfl,rfl,rfl,by show _=byteRows (_++[]);rw[List.append_nil,byteRows_append];rfl⟩,⟨rfl,rfl,rfl⟩,.inl rfl,.inl rfl,PLe.int (by simp),.inl rfl,trivial⟩,⟨rfl,rfl,rfl⟩,⟨rfl,rfl,.inl rfl,.inl rfl,.inl rfl,rfl⟩,trivial⟩
      ·intro i hi
       have he:=escK_len (s.take i)
       rw[List.length_take] at he
       have hb2:=bRows_length (keyW (l.take j)++[tg]++escK (s.take i))
       simp only[List.length_append,List.length_singleton] at hb2
       by_cases h2:i<s.length
       ·have hes:escK (s.take (i+1))=escK (s.take i)++(if s.getD i 0=0 then [0,255] else [s.getD i 0]):=by
         rw[take_snoc h2,escK_append,List.getD_eq_getElem?_getD,List.getElem?_eq_getElem h2]
         show _++(if s[i]=0 then 0::255::[] else s[i]::[])=_
         rfl
        by_cases hz:s.getD i 0=0
        ·rw[if_pos hz] at hes
         have hz':((s.getD i 0).toNat:Int)=0:=by rw[hz];rfl
         ((conv=>whnf);repeat' ((first|(with_reducible first|apply a_|apply b_|apply c_)|((with_reducible first|apply d_|apply e_|apply f_|apply g_);focus first|omega|(simp only[q_]<;>omega))|((with_reducible first|apply i_|apply h_);focus first|omega|(simp only[q_]<;>omega))|((with_reducible apply h_);focus first|decide|kernel_rfl)|refine s_ (by decide) ?_|refine t_ (by decide) ?_|(refine SIdx.tx i rfl h2 ?_)|(refine BCase.dt hz' ?_)|(refine Need.by 1 rfl (by simp only[List.length_append,List.length_singleton,hb2];omega) ?_)|with_reducible first|apply l_|apply m_|apply n_|apply o_|refine p_ (fun _=>?_) (fun _=>?_))<;>(conv=>whnf)))
         refine⟨i+1,by omega,by omega,[(61,71),(7,7)],rfl,rfl,⟨⟨rfl,rfl,rfl,rfl,?_⟩,⟨rfl,rfl,rfl⟩,PLe.int (by omega),.inl rfl,.inl rfl,.inl rfl,trivial⟩,⟨rfl,rfl,rfl⟩,⟨rfl,rfl,.inl rfl,.inl rfl,.inl rfl,rfl⟩,trivial⟩
         rw[hes,hz']
         simp only[byteRows_append,List.append_assoc];rfl
        ·rw[if_neg hz] at hes
         have hz':¬((s.getD i 0).toNat:Int)=0:=fun e=>hz (u8_eq.1 e)
         ((conv=>whnf);repeat' ((first|(with_reducible first|apply a_|apply b_|apply c_)|((with_reducible first|apply d_|apply e_|apply f_|apply g_);focus first|omega|(simp only[q_]<;>omega))|((with_reducible first|apply i_|apply h_);focus first|omega|(simp only[q_]<;>omega))|((with_reducible apply h_);focus first|decide|kernel_rfl)|refine s_ (by decide) ?_|refine t_ (by decide) ?_|(refine SIdx.tx i rfl h2 ?_)|(refine BCase.df hz' ?_)|(refine Need.by 1 rfl (by simp only[List.length_append,List.length_singleton,hb2];omega) ?_)|with_reducible first|apply l_|apply m_|apply n_|apply o_|refine p_ (fun _=>?_) (fun _=>?_))<;>(conv=>whnf)))
         refine⟨i+1,by omega,by omega,[(61,63),(7,7)],rfl,rfl,⟨⟨rfl,rfl,rfl,rfl,?_⟩,⟨rfl,rfl,rfl⟩,PLe.int (by omega),.inl rfl,.inl rfl,.inl rfl,trivial⟩,⟨rfl,rfl,rfl⟩,⟨rfl,rfl,.inl rfl,.inl rfl,.inl rfl,rfl⟩,trivial⟩
         rw[hes]
         simp only[byteRows_append,List.append_assoc];rfl
       ·((conv=>whnf);repeat' ((first|(with_reducible first|apply a_|apply b_|apply c_)|((with_reducible first|apply d_|apply e_|apply f_|apply g_);focus first|omega|(simp only[q_]<;>omega))|((with_reducible first|apply i_|apply h_);focus first|omega|(simp only[q_]<;>omega))|((with_reducible apply h_);focus first|decide|kernel_rfl)|refine s_ (by decide) ?_|refine t_ (by decide) ?_|(refine Need.by 1 rfl (by simp only[List.length_append,List.length_singleton,List.length_cons,List.length_nil,hb2];omega) ?_)|with_reducible first|apply l_|apply m_|apply n_|apply o_|refine p_ (fun _=>?_) (fun _=>?_))<;>(conv=>whnf)))
        refine⟨j+1,by omega,by omega,[(60,74)],rfl,rfl,⟨⟨rfl,rfl,rfl,rfl,?_⟩,.inl rfl,.inl rfl,PLe.int (by omega),trivial⟩,⟨rfl,rfl,rfl⟩,trivial⟩
        rw[hend _ kw,List.take_of_length_le (l:=s) (by omega)]
        simp only[byteRows_append,List.append_assoc];rfl
   ·((conv=>whnf);repeat' ((first|(with_reducible first|apply a_|apply b_|apply c_)|((with_reducible first|apply d_|apply e_|apply f_|apply g_);focus first|omega|(simp only[q_]<;>omega))|((with_reducible first|apply i_|apply h_);focus first|omega|(simp only[q_]<;>omega))|((with_reducible apply h_);focus first|decide|kernel_rfl)|refine s_ (by decide) ?_|refine t_ (by decide) ?_|with_reducible first|apply l_|apply m_|apply n_|apply o_|refine p_ (fun _=>?_) (fun _=>?_))<;>(conv=>whnf)))
    refine Bytes.mk' ?_
    ((conv=>whnf);repeat' ((first|(with_reducible first|apply a_|apply b_|apply c_)|((with_reducible first|apply d_|apply e_|apply f_|apply g_);focus first|omega|(simp only[q_]<;>omega))|((with_reducible first|apply i_|apply h_);focus first|omega|(simp only[q_]<;>omega))|((with_reducible apply h_);focus first|decide|kernel_rfl)|refine s_ (by decide) ?_|refine t_ (by decide) ?_|with_reducible first|apply l_|apply m_|apply n_|apply o_|refine p_ (fun _=>?_) (fun _=>?_))<;>(conv=>whnf)))
    refine Ret.mk ?_
    rw[List.take_of_length_le (by omega)];rfl
 ·rw[if_neg h]
  ((conv=>whnf);repeat' ((first|(with_reducible first|apply a_|apply b_|apply c_)|((with_reducible first|apply d_|apply e_|apply f_|apply g_);focus first|omega|(simp only[q_]<;>omega))|((with_reducible first|apply i_|apply h_);focus first|omega|(simp only[q_]<;>omega))|((with_reducible apply h_);focus first|decide|kernel_rfl)|refine s_ (by decide) ?_|refine t_ (by decide) ?_|refine r_ pc rfl ?_|with_reducible first|apply l_|apply m_|apply n_|apply o_|refine p_ (fun _=>?_) (fun _=>?_))<;>(conv=>whnf)))
  exact Ret.mk rfl
end
end Go.Proofs.YtdgmbijjhifbeaaGreatDoor.Pm
