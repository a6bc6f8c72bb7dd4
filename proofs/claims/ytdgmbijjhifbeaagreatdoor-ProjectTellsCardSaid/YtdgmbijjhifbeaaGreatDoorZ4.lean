/- Parts of the proof, one behind the other: PmFun PmHand PmLaid PmRange PbPair PmBytes PmOpen PdList PdValue PmClone PvClone PdName PxData PxTree PxKids PxCheck PxAlone. Conditions: none beyond what each theorem says. -/
import Derived.Deep.LoopGhost
import Derived.Scope
import Derived.IntWalk
import Derived.Test.YtdgmbijjhifbeaaGreatDoorYFrame
import Derived.Lib.LaidIn
import Derived.Lib.LaidU8
import Derived.Test.YtdgmbijjhifbeaaGreatDoorYShelf
import Derived.Test.YtdgmbijjhifbeaaGreatDoorRows
import Derived.RangeFuncNested
import Derived.RangeFuncBound
import Derived.RangeFuncCalls
import Derived.RangeFuncLeaves
import Derived.RangeFuncRecord
import Derived.RangeFuncBox
import Derived.OwnWalkIn
import Derived.TacticsInMore
import Derived.LoopNIn
import Derived.LoopIn
import Derived.Test.YtdgmbijjhifbeaaGreatDoorYSlice
import Derived.Test.YtdgmbijjhifbeaaGreatDoorYReads
import Derived.Test.YtdgmbijjhifbeaaGreatDoorZ3
set_option linter.unusedVariables false
set_option linter.unusedSimpArgs false
section
namespace Go.Proofs.YtdgmbijjhifbeaaGreatDoor.Pm
open Go.RowKit
def kin (k:Nat):List Nat→Bool
 | []=>false
 | x::xs=>bif Nat.beq k x then true else kin k xs
def CLe (x y:C):Prop:=y=x∨(∃sz,x=.sl sz [])∧(y=.v (.slice none 0 0)∨∃sz',y=.sl sz' [])
mutual
def DLe (f:Nat→Option Nat) (n:List Nat):D→D→Prop
 | .c x,y=>match y with
  | .c y=>CLe x y
  | .app _ _ sz l=>x=.sl sz l
  | .emp=>∃sz,x=.sl sz []
  | _=>False
 | .app k e sz l,y=>match y with
  | .app k' e' sz' l'=>kin k n=true∧f k=some k'∧e'=e∧sz'=sz∧l'=l
  | .c y=>kin k n=true∧f k=none∧0<sz∧l=[]∧y=.v (.slice none 0 0)
  | _=>False
 | .ptr k o,y=>match y with
  | .ptr k' o'=>kin k n=true∧f k=some k'∧o'=o
  | _=>False
 | .arr k e sz lo m,y=>match y with
  | .arr k' e' sz' lo' m'=>kin k n=true∧f k=some k'∧e'=e∧sz'=sz∧lo'=lo∧m'=m
  | .c y=>kin k n=true∧f k=none∧0<sz∧m=0∧y=.v (.slice none 0 0)
  | .emp=>kin k n=true∧f k=none∧0<sz∧m=0
  | _=>False
 | .elt k sz i o,y=>match y with
  | .elt k' sz' i' o'=>kin k n=true∧f k=some k'∧sz'=sz∧i'=i∧o'=o
  | _=>False
 | .clo g a l,y=>match y with
  | .clo g' a' l'=>g'=g∧DLes f n a a'∧DLes f n l l'
  | _=>False
 | .mclo g l,y=>match y with
  | .mclo g' l'=>g'=g∧DLes f n l l'
  | _=>False
 | .optp k o,y=>match y with
  | .optp k' o'=>kin k n=true∧f k=some k'∧o'=o
  | .ptr k' o'=>kin k n=true∧f k=some k'∧o'=o
  | .c y=>y=.v (.pointer none)
  | _=>False
 | .data k e l,y=>match y with
  | .data k' e' l'=>kin k n=true∧f k=some k'∧e'=e∧l'=l
  | _=>False
 | .mp k,y=>match y with
  | .mp k'=>kin k n=true∧f k=some k'
  | _=>False
 | .emp,y=>match y with
  | .emp=>True
  | _=>False
def DLes (f:Nat→Option Nat) (n:List Nat):List D→List D→Prop
 | [],y=>y=[]
 | x::xs,y=>match y with
  | []=>False
  | y::ys=>DLe f n x y∧DLes f n xs ys
end
def DLess (f:Nat→Option Nat) (n:List Nat):List (List D)→List (List D)→Prop
 | [],y=>y=[]
 | x::xs,y=>match y with
  | []=>False
  | y::ys=>DLes f n x y∧DLess f n xs ys
mutual
def PLe (f:Nat→Option Nat) (n:List Nat):PV→PV→Prop
 | .any,_=>True
 | .d x,y=>match y with
  | .d y=>DLe f n x y
  | _=>False
 | .agg l,y=>match y with
  | .agg m=>DLes f n l m
  | _=>False
 | .tup l,y=>match y with
  | .tup m=>PLeT f n l m
  | _=>False
def PLeT (f:Nat→Option Nat) (n:List Nat):List PV→List PV→Prop
 | [],y=>y=[]
 | x::xs,y=>match y with
  | []=>False
  | y::ys=>PLe f n x y∧PLeT f n xs ys
end
def ofL:List (Nat×PV)→Env
 | [],_=>.any
 | (t,v)::l,j=>bif Nat.beq j t then v else ofL l j
def PLes (f:Nat→Option Nat) (n:List Nat) (e:Env):List (Nat×PV)→Prop
 | []=>True
 | (t,v)::l=>PLe f n v (e t)∧PLes f n e l
def HLe (f:Nat→Option Nat) (n:List Nat):HB→HB→Prop
 | .box t l,.box t' m=>t'=t∧DLes f n l m
 | .tail e sz,.tail e' sz'=>e'=e∧sz'=sz
 | .arr e sz rows,.arr e' sz' rows'=>e'=e∧sz'=sz∧rows'=rows
 | .mp l,.mp l'=>l'=l
 | .darr e sz rows,.darr e' sz' rows'=>e'=e∧sz'=sz∧DLess f n rows rows'
 | .darr e sz rows,.arr e' sz' rows'=>e'=e∧sz'=sz∧rows=rows'.map (List.map D.c)
 | _,_=>False
def KLe (f:Nat→Option Nat) (n:List Nat) (h:Hp) (k:Nat) (b:HB):Prop:=match f k with
 | some k'=>match h k' with
  | some b'=>HLe f n b b'
  | none=>False
 | none=>match b with
  | .tail _ sz=>0<sz
  | .arr _ sz rows=>0<sz∧rows=[]
  | .darr _ sz rows=>0<sz∧rows=[]
  | .mp _=>False
  | .box _ _=>False
def HLes (f:Nat→Option Nat) (n:List Nat) (h:Hp):List (Nat×HB)→Prop
 | []=>True
 | (k,b)::l=>(kin k n=true∧KLe f n h k b)∧HLes f n h l
def injOn (f:Nat→Option Nat):List (Nat×HB)→Bool
 | []=>true
 | (k,_)::l=>(l.all fun p=>Nat.beq p.1 k||match f k,f p.1 with | some a,some b=>!Nat.beq a b | _,_=>true)&&injOn f l
def fkOk (f:Nat→Option Nat) (n:List Nat):List Nat→Bool
 | []=>true
 | k::r=>(match f k with | some k'=>Nat.beq k' k | none=>false)&&(kin k n&&fkOk f n r)
inductive Wk (fk:List Nat) (e:Env) (h:Hp) (le:List (Nat×PV)) (lh:List (Nat×HB)) (n:List Nat):Prop
 | mk (f:List (Nat×Nat)) (hi:injOn (fnL f) lh=true) (hf:fkOk (fnL f) n fk=true) (he:PLes (fnL f) n e le) (hh:HLes (fnL f) n h lh)
section
variable {c:Ctx} {nt:Nat} {n:List Nat} {σ:Sg} {e:Env} {h:Hp} {a:Act} {w:World} {f:Nat→Option Nat} {le:List (Nat×PV)} {lh:List (Nat×HB)}
def newSg (σ:Sg) (f:Nat→Option Nat) (n:List Nat):Sg:=fun k=>if kin k n=true then (match f k with | some k'=>σ k' | none=>some (none,0)) else none
theorem newSg_some {k k':Nat} (h1:kin k n=true) (h2:f k=some k'):newSg σ f n k=σ k':=by unfold newSg;rw[if_pos h1,h2]
theorem ple_of {t:Nat}:∀{le:List (Nat×PV)},PLes f n e le→PLe f n (ofL le t) (e t)
 | [],_=>by unfold ofL PLe;trivial
 | (t',v)::l,hl=>by
  unfold ofL
  cases hb:Nat.beq t t' with
  | true=>rw[cond_true,Nat.eq_of_beq_eq_true hb];exact hl.1
  | false=>rw[cond_false];exact ple_of hl.2
theorem hle_of {k:Nat} {b:HB}:∀{lh:List (Nat×HB)},HLes f n h lh→hpL lh k=some b→kin k n=true∧KLe f n h k b
 | [],_,hb=>by cases hb
 | (k',b')::l,hl,hb=>by
  unfold hpL at hb
  cases hq:Nat.beq k k' with
  | true=>
   rw[hq,cond_true] at hb
   cases hb
   rw[Nat.eq_of_beq_eq_true hq];exact hl.1
  | false=>rw[hq,cond_false] at hb;exact hle_of hl.2 hb
theorem injOn_out:∀{lh:List (Nat×HB)},injOn f lh=true→∀k1 k2 b1 b2 x,(k1,b1)∈lh→(k2,b2)∈lh→f k1=some x→f k2=some x→k1=k2
 | [],_,k1,k2,b1,b2,x,h1,_,_,_=>by cases h1
 | (k,b)::l,hi,k1,k2,b1,b2,x,h1,h2,e1,e2=>by
  unfold injOn at hi
  simp only[Bool.and_eq_true] at hi
  obtain⟨hi1,hi2⟩:=hi
  have one:∀q bq,(q,bq)∈l→f k=some x→f q=some x→q=k:=by
   intro q bq hq ek eq
   have:=List.all_eq_true.1 hi1 (q,bq) hq
   rw[ek,eq] at this
   simp only[Bool.or_eq_true,Bool.not_eq_true'] at this
   rcases this with this | this
   ·exact Nat.eq_of_beq_eq_true this
   ·have:=Nat.beq_refl x;simp_all
  rcases List.mem_cons.1 h1 with h1 | h1
  ·cases h1
   rcases List.mem_cons.1 h2 with h2 | h2
   ·cases h2;rfl
   ·exact (one k2 b2 h2 e1 e2).symm
  ·rcases List.mem_cons.1 h2 with h2 | h2
   ·cases h2;exact one k1 b1 h1 e2 e1
   ·exact injOn_out hi2 k1 k2 b1 b2 x h1 h2 e1 e2
mutual
theorem drep_wk {F F':Fzn} (hk:Keeps F F' w w):∀(x y:D) (u:Value),DLe f n x y→DRep σ F w y u→DRep (newSg σ f n) F' w x u
 | .c x,y,u,hl,hr=>by
  unfold DLe at hl
  split at hl
  ·rename_i y
   unfold DRep at hr ⊢
   rcases hl with rfl | ⟨⟨sz,rfl⟩,rfl | ⟨sz',rfl⟩⟩
   ·exact CRep.keeps hk _ _ hr
   ·unfold CRep at hr ⊢
    obtain⟨rfl,_⟩:=hr
    exact⟨none,0,rfl,Nat.le_refl _,Nat.zero_le _,fun _=>rfl,.inl rfl⟩
   ·unfold CRep at hr ⊢
    obtain⟨a,cap,h1,h2,h3,h4,_⟩:=hr
    exact⟨a,cap,h1,h2,h3,h4,.inl rfl⟩
  ·rename_i k e sz l
   subst hl
   have:=rows_val (σ:=σ) (F:=F) (w:=w) (x:=.d (.app k e sz l)) (.inr ⟨k,e,rfl⟩) (u:=u) (by unfold PRep;exact hr)
   unfold DRep
   refine CRep.keeps hk _ _ ?_
   unfold CRep
   exact this
  ·obtain⟨sz,rfl⟩:=hl
   unfold DRep at hr ⊢
   obtain⟨a,rfl⟩:=hr
   unfold CRep
   exact⟨a,0,rfl,Nat.le_refl _,Nat.zero_le _,fun _=>rfl,.inl rfl⟩
  ·exact hl.elim
 | .app k e sz l,y,u,hl,hr=>by
  unfold DLe at hl
  split at hl
  ·obtain⟨h1,h2,rfl,rfl,rfl⟩:=hl
   unfold DRep at hr ⊢
   obtain⟨g0,g⟩:=hr
   have hs:=newSg_some (σ:=σ) h1 h2
   refine⟨g0,?_⟩
   rcases g with ⟨g1,g2,g3⟩ | ⟨g,cap,cur,fr,g1,g3,g4,g5,g6,g7,g8⟩
   ·exact .inl ⟨hs.trans g1,g2,g3⟩
   ·exact .inr ⟨g,cap,cur,fr,hs.trans g1,g3,g4,g5,g6,g7,RowsAt.keeps hk _ _ _ _ g8⟩
  ·obtain⟨h1,h2,h3,rfl,rfl⟩:=hl
   unfold DRep CRep at hr
   unfold DRep
   have hs:newSg σ f n k=some (none,0):=by unfold newSg;rw[if_pos h1,h2]
   exact⟨h3,.inl ⟨hs,rfl,hr.1⟩⟩
  ·exact hl.elim
 | .ptr k o,y,u,hl,hr=>by
  unfold DLe at hl
  split at hl
  ·obtain⟨h1,h2,rfl⟩:=hl
   unfold DRep at hr ⊢
   obtain⟨g,m,g1,g2⟩:=hr
   exact⟨g,m,by unfold newSg;rw[if_pos h1,h2];exact g1,g2⟩
  ·exact hl.elim
 | .arr k e sz lo m,y,u,hl,hr=>by
  unfold DLe at hl
  split at hl
  ·obtain⟨h1,h2,rfl,rfl,rfl,rfl⟩:=hl
   unfold DRep at hr ⊢
   obtain⟨g0,g⟩:=hr
   have hs:=newSg_some (σ:=σ) h1 h2
   refine⟨g0,?_⟩
   rcases g with ⟨q,g1,g2,g3⟩ | ⟨g,q,off,cap,cur,fr,g1,g2⟩
   ·exact .inl ⟨q,hs.trans g1,g2,g3⟩
   ·exact .inr ⟨g,q,off,cap,cur,fr,hs.trans g1,g2⟩
  ·obtain⟨h1,h2,h3,rfl,rfl⟩:=hl
   unfold DRep CRep at hr
   unfold DRep
   have hs:newSg σ f n k=some (none,0):=by unfold newSg;rw[if_pos h1,h2]
   exact⟨h3,.inl ⟨0,hs,rfl,none,hr.1⟩⟩
  ·obtain⟨h1,h2,h3,rfl⟩:=hl
   unfold DRep at hr ⊢
   obtain⟨a,hr⟩:=hr
   have hs:newSg σ f n k=some (none,0):=by unfold newSg;rw[if_pos h1,h2]
   exact⟨h3,.inl ⟨0,hs,rfl,a,hr⟩⟩
  ·exact hl.elim
 | .elt k sz i o,y,u,hl,hr=>by
  unfold DLe at hl
  split at hl
  ·obtain⟨h1,h2,rfl,rfl,rfl⟩:=hl
   unfold DRep at hr ⊢
   obtain⟨g,m,g1,g2⟩:=hr
   exact⟨g,m,by unfold newSg;rw[if_pos h1,h2];exact g1,g2⟩
  ·exact hl.elim
 | .clo g a l,y,u,hl,hr=>by
  unfold DLe at hl
  split at hl
  ·obtain⟨rfl,h1,h2⟩:=hl
   unfold DRep at hr ⊢
   obtain⟨us,vs,rfl,g1,g2⟩:=hr
   exact⟨us,vs,rfl,dsrep_wk hk a _ us h1 g1,dsrep_wk hk l _ vs h2 g2⟩
  ·exact hl.elim
 | .mclo g l,y,u,hl,hr=>by
  unfold DLe at hl
  split at hl
  ·obtain⟨rfl,h1⟩:=hl
   unfold DRep at hr ⊢
   obtain⟨us,rfl,g1⟩:=hr
   exact⟨us,rfl,dsrep_wk hk l _ us h1 g1⟩
  ·exact hl.elim
 | .optp k o,y,u,hl,hr=>by
  unfold DLe at hl
  split at hl
  ·obtain⟨h1,h2,rfl⟩:=hl
   unfold DRep at hr ⊢
   exact hr.imp id fun ⟨g,m,g1,g2⟩=>⟨g,m,(newSg_some h1 h2).trans g1,g2⟩
  ·obtain⟨h1,h2,rfl⟩:=hl
   unfold DRep at hr ⊢
   obtain⟨g,m,g1,g2⟩:=hr
   exact .inr ⟨g,m,(newSg_some h1 h2).trans g1,g2⟩
  ·subst hl
   unfold DRep CRep at hr
   unfold DRep
   exact .inl hr.1
  ·exact hl.elim
 | .data k e l,y,u,hl,hr=>by
  unfold DLe at hl
  split at hl
  ·obtain⟨h1,h2,rfl,rfl⟩:=hl
   unfold DRep at hr ⊢
   rcases hr with hr | ⟨h0,g,cur,fr,g1,g2,g3,g4,g5,g6⟩
   ·exact .inl hr
   ·exact .inr ⟨h0,g,cur,fr,(newSg_some h1 h2).trans g1,g2,g3,g4,g5,RowsAt.keeps hk _ _ _ _ g6⟩
  ·exact hl.elim
 | .mp k,y,u,hl,hr=>by
  unfold DLe at hl
  split at hl
  ·obtain⟨h1,h2⟩:=hl
   unfold DRep at hr ⊢
   obtain⟨g,m,g1,g2⟩:=hr
   exact⟨g,m,(newSg_some h1 h2).trans g1,g2⟩
  ·exact hl.elim
 | .emp,y,u,hl,hr=>by
  unfold DLe at hl
  split at hl
  ·unfold DRep at hr ⊢;exact hr
  ·exact hl.elim
theorem dsrep_wk {F F':Fzn} (hk:Keeps F F' w w):∀(xs ys:List D) (us:List Value),DLes f n xs ys→DsRep σ F w ys us→DsRep (newSg σ f n) F' w xs us
 | [],ys,us,hl,hr=>by
  unfold DLes at hl
  subst hl
  rw[dsRep_nil_inv hr];exact dsRep_nil
 | x::xs,ys,us,hl,hr=>by
  unfold DLes at hl
  split at hl
  ·exact hl.elim
  ·obtain⟨u,vs,rfl,h1,h2⟩:=dsRep_inv hr
   exact dsRep_cons (drep_wk hk x _ u hl.1 h1) (dsrep_wk hk xs _ vs hl.2 h2)
end
mutual
theorem prep_wk {F F':Fzn} (hk:Keeps F F' w w):∀(x y:PV) (u:Value),PLe f n x y→PRep σ F w y u→PRep (newSg σ f n) F' w x u
 | .any,y,u,hl,hr=>by unfold PRep;trivial
 | .d x,y,u,hl,hr=>by
  unfold PLe at hl
  split at hl
  ·unfold PRep at hr ⊢;exact drep_wk hk _ _ _ hl hr
  ·exact hl.elim
 | .agg l,y,u,hl,hr=>by
  unfold PLe at hl
  split at hl
  ·unfold PRep at hr ⊢
   obtain⟨xs,h1,h2⟩:=hr
   exact⟨xs,h1,dsrep_wk hk _ _ _ hl h2⟩
  ·exact hl.elim
 | .tup l,y,u,hl,hr=>by
  unfold PLe at hl
  split at hl
  ·unfold PRep at hr ⊢
   obtain⟨xs,h1,h2⟩:=hr
   exact⟨xs,h1,psrep_wk hk _ _ _ hl h2⟩
  ·exact hl.elim
theorem psrep_wk {F F':Fzn} (hk:Keeps F F' w w):∀(xs ys:List PV) (us:List Value),PLeT f n xs ys→PsRep σ F w ys us→PsRep (newSg σ f n) F' w xs us
 | [],ys,us,hl,hr=>by
  unfold PLeT at hl
  subst hl
  cases us with
  | nil=>unfold PsRep;trivial
  | cons _ _=>unfold PsRep at hr;exact hr.elim
 | x::xs,ys,us,hl,hr=>by
  unfold PLeT at hl
  split at hl
  ·exact hl.elim
  ·cases us with
   | nil=>unfold PsRep at hr;exact hr.elim
   | cons u us=>
    unfold PsRep at hr ⊢
    exact⟨prep_wk hk x _ u hl.1 hr.1,psrep_wk hk xs _ us hl.2 hr.2⟩
end
theorem kin_mem:∀{n:List Nat} {k:Nat},kin k n=true→k∈n
 | x::xs,k,h=>by
  unfold kin at h
  cases hq:Nat.beq k x with
  | true=>rw[Nat.eq_of_beq_eq_true hq];exact List.mem_cons_self ..
  | false=>rw[hq,cond_false] at h;exact List.mem_cons_of_mem _ (kin_mem h)
theorem hb_old (hh:HLes f n h lh):∀k hb,hpL lh k=some hb→kin k n=true∧((∃k' b',f k=some k'∧h k'=some b'∧HLe f n hb b')∨(f k=none∧((∃e sz,hb=.tail e sz∧0<sz)∨(∃e sz,hb=.arr e sz []∧0<sz)∨∃e sz,hb=.darr e sz []∧0<sz))):=by
 intro k hb hk
 obtain⟨h1,h2⟩:=hle_of hh hk
 refine⟨h1,?_⟩
 unfold KLe at h2
 split at h2
 ·rename_i k' hf
  split at h2
  ·rename_i b' hb';exact .inl ⟨k',b',hf,hb',h2⟩
  ·exact h2.elim
 ·rename_i hf
  split at h2
  ·exact .inr ⟨hf,.inl ⟨_,_,rfl,h2⟩⟩
  ·obtain⟨h3,rfl⟩:=h2;exact .inr ⟨hf,.inr (.inl ⟨_,_,rfl,h3⟩)⟩
  ·obtain⟨h3,rfl⟩:=h2;exact .inr ⟨hf,.inr (.inr ⟨_,_,rfl,h3⟩)⟩
  ·exact h2.elim
  ·exact h2.elim
theorem dless_len:∀{l m:List (List D)},DLess f n l m→m.length=l.length
 | [],m,h=>by unfold DLess at h;subst h;rfl
 | x::xs,m,h=>by
  unfold DLess at h
  split at h
  ·exact h.elim
  ·rw[List.length_cons,List.length_cons,dless_len h.2]
theorem dles_len:∀{l m:List D},DLes f n l m→m.length=l.length
 | [],m,h=>by unfold DLes at h;subst h;rfl
 | x::xs,m,h=>by
  unfold DLes at h
  split at h
  ·exact h.elim
  ·rw[List.length_cons,List.length_cons,dles_len h.2]
theorem dless_row {s:Nat}:∀{l m:List (List D)},DLess f n l m→(∀r∈m,r.length=s)→∀r∈l,r.length=s
 | [],m,h,_,r,hr=>by cases hr
 | x::xs,m,h,hm,r,hr=>by
  unfold DLess at h
  split at h
  ·exact h.elim
  ·rcases List.mem_cons.1 hr with rfl | hr
   ·rw[← dles_len h.1];exact hm _ (List.mem_cons_self ..)
   ·exact dless_row h.2 (fun q hq=>hm q (List.mem_cons_of_mem _ hq)) r hr
theorem dles_app:∀{a b c d:List D},DLes f n a c→DLes f n b d→DLes f n (a++b) (c++d)
 | [],b,c,d,h1,h2=>by unfold DLes at h1;subst h1;exact h2
 | x::xs,b,c,d,h1,h2=>by
  unfold DLes at h1
  split at h1
  ·exact h1.elim
  ·rw[List.cons_append,List.cons_append];unfold DLes;exact⟨h1.1,dles_app h1.2 h2⟩
theorem dless_flat:∀{l m:List (List D)},DLess f n l m→DLes f n l.flatten m.flatten
 | [],m,h=>by unfold DLess at h;subst h;unfold DLes;rfl
 | x::xs,m,h=>by
  unfold DLess at h
  split at h
  ·exact h.elim
  ·rw[List.flatten_cons,List.flatten_cons];exact dles_app h.1 (dless_flat h.2)
theorem hle_shut {hb b':HB} (hl:HLe f n hb b') {m o:Nat} (hs:b'.shut m o):hb.shut m o:=by
 cases b' with
 | box _ _=>exact hs.elim
 | arr _ _ _=>exact hs.elim
 | mp _=>exact hs.elim
 | darr _ _ _=>exact hs.elim
 | tail e' sz'=>
  cases hb with
  | tail e sz=>obtain⟨_,rfl⟩:=hl;exact hs
  | box _ _=>exact hl.elim
  | arr _ _ _=>exact hl.elim
  | mp _=>exact hl.elim
  | darr _ _ _=>exact hl.elim
theorem hb_wk {F F':Fzn} {own own':Nat→Prop} (hk:Keeps F F' w w) (hown:∀g,own g→own' g) {k k':Nat} {hb b':HB} (hin:kin k n=true) (hf:f k=some k') (hl:HLe f n hb b') (ho:HbOk σ F w own k' b'):HbOk (newSg σ f n) F' w own' k hb:=by
 have hsg:newSg σ f n k=σ k':=by unfold newSg;rw[if_pos hin,hf]
 unfold HLe at hl
 split at hl
 ·obtain⟨g,m',cs,r1,r2,r3,r4⟩:=ho
  obtain⟨rfl,hl⟩:=hl
  exact⟨g,m',cs,hsg.trans r1,hown _ r2,r3,dsrep_wk hk _ _ _ hl r4⟩
 ·obtain⟨rfl,rfl⟩:=hl
  obtain⟨r0,ob,m',r1,r2⟩:=ho
  refine⟨r0,ob,m',hsg.trans r1,?_⟩
  cases ob with
  | none=>exact r2
  | some g=>exact⟨hown _ r2.1,r2.2⟩
 ·obtain⟨rfl,rfl,rfl⟩:=hl
  obtain⟨r0,r00,ob,m',r1,r2⟩:=ho
  refine⟨r0,r00,ob,m',hsg.trans r1,?_⟩
  cases ob with
  | none=>exact r2
  | some g=>
   obtain⟨q1,cur,q2,q3,q4⟩:=r2
   exact⟨hown _ q1,cur,q2,q3,CsRep.keeps hk _ _ q4⟩
 ·obtain rfl:=hl
  obtain⟨g,m',es,cl,r1,r2,r3⟩:=ho
  exact⟨g,m',es,cl,hsg.trans r1,hown _ r2,r3⟩
 ·obtain⟨rfl,rfl,hl⟩:=hl
  obtain⟨r0,r00,ob,m',r1,r2⟩:=ho
  have hlen:=dless_len hl
  refine⟨r0,dless_row hl r00,ob,m',hsg.trans r1,?_⟩
  cases ob with
  | none=>subst r2;exact List.eq_nil_of_length_eq_zero hlen.symm
  | some g=>
   obtain⟨q1,cur,q2,q3,q4⟩:=r2
   rw[hlen] at q3 q4
   exact⟨hown _ q1,cur,q2,q3,dsrep_wk hk _ _ _ (dless_flat hl) q4⟩
 ·rename_i e sz rows e' sz' rows'
  obtain⟨rfl,rfl,rfl⟩:=hl
  obtain⟨r0,r00,ob,m',r1,r2⟩:=ho
  refine⟨r0,fun r hr=>?_,ob,m',hsg.trans r1,?_⟩
  ·obtain⟨r',hr',rfl⟩:=List.mem_map.1 hr
   rw[List.length_map];exact r00 r' hr'
  ·cases ob with
   | none=>subst r2;rfl
   | some g=>
    obtain⟨q1,cur,q2,q3,q4⟩:=r2
    refine⟨hown _ q1,cur,q2,by rw[List.length_map];exact q3,?_⟩
    rw[List.length_map,show (rows'.map (List.map D.c)).flatten=rows'.flatten.map D.c by rw[List.map_flatten]]
    exact dsRep_of_cs (CsRep.keeps hk _ _ q4)
 ·exact hl.elim
theorem fkOk_out {fk:List Nat} (h:fkOk f n fk=true):∀k∈fk,f k=some k∧kin k n=true:=by
 induction fk with
 | nil=>intro k hk;cases hk
 | cons q r ih=>
  intro k hk
  unfold fkOk at h
  simp only[Bool.and_eq_true] at h
  obtain⟨h1,h2,h3⟩:=h
  rcases List.mem_cons.1 hk with rfl | hk
  ·refine⟨?_,h2⟩
   split at h1
   ·rename_i k' hq;rw[hq,Nat.eq_of_beq_eq_true h1]
   ·cases h1
  ·exact ih h3 k hk
theorem sw_wk {fk:List Nat} (hfk:∀k,c.σ0 k≠none→k∈fk) (hs:SW c σ h w) (hi:injOn f lh=true) (hff:fkOk f n fk=true) (hh:HLes f n h lh) :
  Keeps (fz c σ h w) (fz c (newSg σ f n) (hpL lh) w) w w∧SW c (newSg σ f n) (hpL lh) w:=by
 have old:=hb_old hh
 have hkeep:Keeps (fz c σ h w) (fz c (newSg σ f n) (hpL lh) w) w w:=by
  refine⟨fun b o hf=>hf.imp id fun ⟨f1,f2,f3⟩=>⟨f1,f2,fun k m hb hk hσ=>?_⟩,fun _ _ _=>rfl⟩
  obtain⟨g1,g2⟩:=old k hb hk
  unfold newSg at hσ
  rw[if_pos g1] at hσ
  rcases g2 with ⟨k',b',q1,q2,q3⟩ | ⟨q1,_⟩
  ·rw[q1] at hσ
   exact hle_shut q3 (f3 k' m b' q2 hσ)
  ·rw[q1] at hσ;cases hσ
 refine⟨hkeep,hs.os,hs.tape,hs.output,hs.size,hs.block,fun k hb hk=>?_,fun k1 k2 g n1 n2 a1 a2 a3 a4=>?_,hs.kept.trans hkeep,hs.shape,fun k x hk=>?_⟩
 ·obtain⟨g1,g2⟩:=old k hb hk
  rcases g2 with ⟨k',b',q1,q2,q3⟩ | ⟨q1,⟨e,sz,rfl,q2⟩ | ⟨e,sz,rfl,q2⟩ | ⟨e,sz,rfl,q2⟩⟩
  ·exact hb_wk hkeep (fun _ h=>h) g1 q1 q3 (hs.hp k' b' q2)
  ·exact⟨q2,none,0,by unfold newSg;rw[if_pos g1,q1],rfl⟩
  ·exact⟨q2,by simp,none,0,by unfold newSg;rw[if_pos g1,q1],rfl⟩
  ·exact⟨q2,by simp,none,0,by unfold newSg;rw[if_pos g1,q1],rfl⟩
 ·cases hb1:hpL lh k1 with
  | none=>exact absurd hb1 a1
  | some b1=>
   cases hb2:hpL lh k2 with
   | none=>exact absurd hb2 a2
   | some b2=>
    obtain⟨g1,g2⟩:=old k1 b1 hb1
    obtain⟨g3,g4⟩:=old k2 b2 hb2
    unfold newSg at a3 a4
    rw[if_pos g1] at a3
    rw[if_pos g3] at a4
    rcases g2 with ⟨k1',b1',q1,q2,_⟩ | ⟨q1,_⟩
    ·rcases g4 with ⟨k2',b2',r1,r2,_⟩ | ⟨r1,_⟩
     ·rw[q1] at a3
      rw[r1] at a4
      have:=hs.inj k1' k2' g n1 n2 (by rw[q2];simp) (by rw[r2];simp) a3 a4
      subst this
      exact injOn_out hi k1 k2 b1 b2 k1' (hpL_mem hb1) (hpL_mem hb2) q1 r1
     ·rw[r1] at a4;cases a4
    ·rw[q1] at a3;cases a3
 ·obtain⟨q1,q2⟩:=fkOk_out hff k (hfk k (by rw[hk];simp))
  rw[newSg_some q2 q1]
  exact hs.sg0 k x hk
theorem st_wk {fk:List Nat} (hfk:∀k,c.σ0 k≠none→k∈fk) (hs:St c nt σ e h a w) (hw:Wk fk e h le lh n):∃σ',St c nt σ' (ofL le) (hpL lh) a w∧∀k,k∉n→σ' k=none:=by
 obtain⟨f,hi,hff,he,hh⟩:=hw
 obtain⟨hkeep,hsw⟩:=sw_wk hfk hs.toSW hi hff hh
 exact⟨newSg σ (fnL f) n,⟨hsw,fun t=>prep_wk hkeep _ _ _ (ple_of he) (hs.env t),hs.defers,hs.nt⟩,fun k hk=>by unfold newSg;rw[if_neg fun e=>hk (kin_mem e)]⟩
end
end Go.Proofs.YtdgmbijjhifbeaaGreatDoor.Pm
namespace Go.Proofs.YtdgmbijjhifbeaaGreatDoor.Pm
open Go.RowKit
abbrev Cont:=Exit→Env→Hp→List Nat→Prop
def seqK (next:Env→Hp→List Nat→Prop) (Q:Cont):Cont:=fun x e h n=>match x with
 | .normal=>next e h n
 | x=>Q x e h n
def blockK (id:Nat) (Q:Cont):Cont:=fun x e h n=>match x with
 | .exit id'=>match Nat.beq id' id with
  | true=>Q .normal e h n
  | false=>Q (.exit id') e h n
 | x=>Q x e h n
def scopeK (Q:Cont):Cont:=fun x e h n=>match x with
 | .goto _=>False
 | x=>Q x e h n
inductive Round (fk:List Nat) (S:Type) (E:S→List (Nat×PV)) (H:S→List (Nat×HB)) (n:List Nat) (inv:S→Prop) (μ:S→Nat) (s:S) (e:Env) (h:Hp):Prop
 | mk (s':S) (hi:inv s') (hμ:μ s'<μ s) (hw:Wk fk e h (E s') (H s') n)
def roundK (fk:List Nat) (S:Type) (E:S→List (Nat×PV)) (H:S→List (Nat×HB)) (n:List Nat) (inv:S→Prop) (μ:S→Nat) (s:S) (Q:Cont):Cont:=fun x e h m=>match x with
 | .normal=>Round fk S E H n inv μ s e h
 | x=>Q x e h m
inductive LoopC (fk:List Nat) (body:Env→Hp→List Nat→Cont→Prop) (e:Env) (h:Hp) (Q:Cont):Prop
 | mk (S:Type) (E:S→List (Nat×PV)) (H:S→List (Nat×HB)) (n:List Nat) (inv:S→Prop) (μ:S→Nat) (s0:S) (h0:inv s0) (hm:Wk fk e h (E s0) (H s0) n)
   (round:∀s,inv s→body (ofL (E s)) (hpL (H s)) n (roundK fk S E H n inv μ s Q))
abbrev VT:=Env→Hp→List Nat→Cont→Prop
noncomputable def vc (P:Program) (nt:Nat) (fk:List Nat) (X:XT) (cd:Code):VT:=
 Code.rec (motive:=fun _=>VT)
  (fun e h n Q=>Q .normal e h n)
  (fun _ ops draw e h n Q=>regionP P nt ops draw e h n X fun e' h' n'=>Q .normal e' h' n')
  (fun _ _ ix iy e h n Q=>ix e h n (seqK (fun e' h' n'=>iy e' h' n' Q) Q))
  (fun c _ _ ix iy e h n Q=>match ev e c with
   | .d (.c (.v (.bool b)))=>BCase b (ix e h n Q) (iy e h n Q)
   | _=>False)
  (fun id _ i e h n Q=>i e h n (blockK id Q))
  (fun _ i e h n Q=>LoopC fk i e h Q)
  (fun _ _ _ _ _ _ _ _ _ _=>False)
  (fun id e h n Q=>Q (.exit id) e h n)
  (fun _ i e h n Q=>i e h n (scopeK Q))
  (fun _ _ _ _ _=>False)
  (fun _ _ _ _ _=>False)
  (fun e h n Q=>Q .ret e h n)
  (fun _ _ _ _ _=>False) cd
theorem vc_cond {P:Program} {nt:Nat} {fk:List Nat} {X:XT} {c:Operand} {x y:Code} {e:Env} {h:Hp} {n:List Nat} {Q:Cont} :
  vc P nt fk X (.cond c x y) e h n Q=match ev e c with
   | .d (.c (.v (.bool b)))=>BCase b (vc P nt fk X x e h n Q) (vc P nt fk X y e h n Q)
   | _=>False:=rfl
def After (c:Ctx) (nt:Nat) (X:XT) (Q:Cont):Exit→Act→World→Prop:=fun x a w=>match x with
 | .panic ch=>∃v,ch=[{ v:=v,recovered:=false }]∧∃e h n σ,X v e h n∧St c nt σ e h a w∧∀k,k∉n→σ k=none
 | x=>∃e h n σ,Q x e h n∧St c nt σ e h a w∧∀k,k∉n→σ k=none
theorem vc_out {P:Program} {nt:Nat} {fk:List Nat} {X:XT} {c:Ctx} (hfk:∀k,c.σ0 k≠none→k∈fk) (hc:c.Ok) (hm:P.follows .mixedOrders=true):∀(cd:Code) (e:Env) (h:Hp) (n:List Nat) (Q:Cont) (σ:Sg) (a:Act) (w:World),vc P nt fk X cd e h n Q→St c nt σ e h a w→(∀k,k∉n→σ k=none)→
  cd.wp P (After c nt X Q) a w
 | .skip,e,h,n,Q,σ,a,w,hv,hs,hf=>wp_skip ⟨e,h,n,σ,hv,hs,hf⟩
 | .region id ops draw,e,h,n,Q,σ,a,w,hv,hs,hf=>
  region_out hc hm hv (fun x e h n σ a w hx hs hf=>⟨x,rfl,e,h,n,σ,hx,hs,hf⟩) hs hf fun e' h' n' σ' a' w' hk hs' hf'=>⟨e',h',n',σ',hk,hs',hf'⟩
 | .seq x y,e,h,n,Q,σ,a,w,hv,hs,hf=>by
  refine wp_seq (wp_mono (vc_out hfk hc hm x e h n _ σ a w hv hs hf) ?_)
  intro ex a' w' hq
  cases ex with
  | normal=>
   obtain⟨e',h',n',σ',hq,hs',hf'⟩:=hq
   exact vc_out hfk hc hm y e' h' n' Q σ' a' w' hq hs' hf'
  | exit id=>exact hq
  | goto l=>exact hq
  | ret=>exact hq
  | panic ch=>exact hq
  | outgrown=>exact hq
 | .cond o x y,e,h,n,Q,σ,a,w,hv,hs,hf=>by
  rw[vc_cond] at hv
  split at hv
  ·rename_i b hb
   have h1:=rep_ev hs o
   rw[hb] at h1
   have h2:=rep_v h1
   obtain⟨ht,hff⟩:=hv
   refine wp_cond_split h2 (fun hb'=>vc_out hfk hc hm x e h n Q σ a w (ht hb') hs hf) (fun hb'=>vc_out hfk hc hm y e h n Q σ a w (hff hb') hs hf)
  ·exact hv.elim
 | .block id cd,e,h,n,Q,σ,a,w,hv,hs,hf=>by
  refine wp_block (wp_mono (vc_out hfk hc hm cd e h n _ σ a w hv hs hf) ?_)
  intro ex a' w' hq
  cases ex with
  | exit id'=>
   obtain⟨e',h',n',σ',hq,hs',hf'⟩:=hq
   simp only[Exit.inBlock]
   simp only[blockK] at hq
   split at hq
   ·rename_i hb
    rw[if_pos (Nat.eq_of_beq_eq_true hb)]
    exact⟨e',h',n',σ',hq,hs',hf'⟩
   ·rename_i hb
    rw[if_neg (fun e=>by subst e;rw[Nat.beq_refl] at hb;cases hb)]
    exact⟨e',h',n',σ',hq,hs',hf'⟩
  | normal=>exact hq
  | goto l=>exact hq
  | ret=>exact hq
  | panic ch=>exact hq
  | outgrown=>exact hq
 | .loop cd,e,h,n,Q,σ,a,w,hv,hs,hf=>by
  obtain⟨S,E,H,m,inv,μ,s0,h0,hw,round⟩:=hv
  obtain⟨σ0,hs0,hf0⟩:=st_wk hfk hs hw
  refine wp_loop_ghost (fun k a' w'=>∃s σ,μ s=k∧inv s∧St c nt σ (ofL (E s)) (hpL (H s)) a' w'∧∀q,q∉m→σ q=none) (μ s0) ⟨s0,σ0,rfl,h0,hs0,hf0⟩ ?_
  rintro k a1 w1 ⟨s1,σ1,rfl,h1,h2,h3⟩
  refine wp_mono (vc_out hfk hc hm cd _ _ _ _ σ1 a1 w1 (round s1 h1) h2 h3) ?_
  intro ex a' w' hq
  cases ex with
  | normal=>
   obtain⟨e',h',n',σ',hq,hs',hf'⟩:=hq
   obtain⟨s2,i2,lt,hw2⟩:=hq
   obtain⟨σ2,hs2,hf2⟩:=st_wk hfk hs' hw2
   exact⟨μ s2,lt,s2,σ2,rfl,i2,hs2,hf2⟩
  | exit id=>exact hq
  | goto l=>exact hq
  | ret=>exact hq
  | panic ch=>exact hq
  | outgrown=>exact hq
 | .exit id,e,h,n,Q,σ,a,w,hv,hs,hf=>wp_exit ⟨e,h,n,σ,hv,hs,hf⟩
 | .scope cd,e,h,n,Q,σ,a,w,hv,hs,hf=>by
  refine wp_scope_straight (wp_mono (vc_out hfk hc hm cd e h n _ σ a w hv hs hf) ?_)
  intro ex a' w' hq
  cases ex with
  | goto l=>obtain⟨e',h',n',σ',hq,hs',hf'⟩:=hq;exact hq
  | normal=>exact hq
  | exit id=>exact hq
  | ret=>exact hq
  | panic ch=>exact hq
  | outgrown=>exact hq
 | .ret,e,h,n,Q,σ,a,w,hv,hs,hf=>wp_ret ⟨e,h,n,σ,hv,hs,hf⟩
 | .rangeFunc _ _ _ _,e,h,n,Q,σ,a,w,hv,hs,hf=>False.elim hv
 | .label _,e,h,n,Q,σ,a,w,hv,hs,hf=>False.elim hv
 | .goto _,e,h,n,Q,σ,a,w,hv,hs,hf=>False.elim hv
 | .refuse _,e,h,n,Q,σ,a,w,hv,hs,hf=>False.elim hv
def resP (P:Program) (h:Hp) (e:Env):List ResultVar→(List PV→Prop)→Prop
 | [],K=>K []
 | .tmp t::rs,K=>PV.force (e t) fun v=>resP P h e rs fun vs=>K (v::vs)
 | .cell t ty::rs,K=>loadP P h ty (e t) fun v _=>resP P h e rs fun vs=>K (v::vs)
def D.closeA (h:Hp) (x:D) (K:C→Prop):Prop:=match x with
 | .c y=>K y
 | .app _ _ sz l=>K (.sl sz l)
 | .arr k _ sz lo n=>match h k with
  | some (.arr _ s rows)=>match Nat.beq s sz with
   | true=>Need (lo+n≤rows.length) (K (.sl sz ((rows.drop lo).take n)))
   | false=>False
  | _=>False
 | .clo f [] []=>K (.v (.func (.func f) #[] #[]))
 | _=>False
def ClL (h:Hp):List D→List C→Prop
 | [],ys=>ys=[]
 | x::xs,ys=>match ys with
  | []=>False
  | y::ys=>D.closeA h x (fun z=>z=y)∧ClL h xs ys
def ClR (h:Hp):List (List D)→List (List C)→Prop
 | [],ys=>ys=[]
 | x::xs,ys=>match ys with
  | []=>False
  | y::ys=>ClL h x y∧ClR h xs ys
inductive RowsC (h:Hp) (rows:List (List D)) (K:List (List C)→Prop):Prop
 | mk (rs:List (List C)) (hr:ClR h rows rs) (hk:K rs)
def D.closeH (h:Hp) (x:D) (K:C→Prop):Prop:=match x with
 | .c y=>K y
 | .app _ _ sz l=>K (.sl sz l)
 | .arr k _ sz lo n=>match h k with
  | some (.arr _ s rows)=>match Nat.beq s sz with
   | true=>Need (lo+n≤rows.length) (K (.sl sz ((rows.drop lo).take n)))
   | false=>False
  | some (.darr _ s rows)=>match Nat.beq s sz with
   | true=>RowsC h rows fun rs=>Need (lo+n≤rs.length) (K (.sl sz ((rs.drop lo).take n)))
   | false=>False
  | _=>False
 | .clo f [] []=>K (.v (.func (.func f) #[] #[]))
 | _=>False
def closeHL (h:Hp):List D→(List C→Prop)→Prop
 | [],K=>K []
 | x::xs,K=>D.closeH h x fun y=>closeHL h xs fun ys=>K (y::ys)
mutual
def PV.closeH (h:Hp):PV→(PV→Prop)→Prop
 | .d x,K=>D.closeH h x fun y=>K (.d (.c y))
 | .agg l,K=>closeHL h l fun ys=>K (.agg (ys.map D.c))
 | .tup l,K=>closeHPs h l fun ys=>K (.tup ys)
 | .any,_=>False
def closeHPs (h:Hp):List PV→(List PV→Prop)→Prop
 | [],K=>K []
 | x::xs,K=>PV.closeH h x fun y=>closeHPs h xs fun ys=>K (y::ys)
end
inductive Ret (v r:PV):Prop
 | mk (h:v=r)
 | le (h:PLe (fun _=>none) [] r v)
def tupOf (vs:List PV) (K:PV→Prop):Prop:=match vs with
 | [v]=>K v
 | vs=>K (.tup vs)
def retQ (P:Program) (fn:Func) (res:PV):Cont:=fun x e h _=>match x with
 | .normal=>resP P h e fn.results.toList fun vs=>closeHPs h vs fun vs=>tupOf vs fun v=>Ret v res
 | .ret=>resP P h e fn.results.toList fun vs=>closeHPs h vs fun vs=>tupOf vs fun v=>Ret v res
 | _=>False
inductive RetS (fk:List Nat) (h:Hp) (res:PV) (fin:Rf) (v:PV):Prop
 | mk (f:List (Nat×Nat)) (n:List Nat) (hi:injOn (fnL f) fin=true) (hf:fkOk (fnL f) n fk=true) (hr:PLe (fnL f) n res v) (hh:HLes (fnL f) n h fin)
def retS (P:Program) (fn:Func) (fk:List Nat) (res:PV) (fin:Rf):Cont:=fun x e h _=>match x with
 | .normal=>resP P h e fn.results.toList fun vs=>tupOf vs fun v=>RetS fk h res fin v
 | .ret=>resP P h e fn.results.toList fun vs=>tupOf vs fun v=>RetS fk h res fin v
 | _=>False
def argsE (l:List PV):Env:=fun t=>match l[t]? with
 | some v=>v
 | none=>.tup []
theorem loadP_run {P:Program} {c:Ctx} {σ:Sg} {h:Hp} {w:World} {t:TypeId} {x:PV} {K:PV→Rf→Prop} (hv:loadP P h t x K) (hs:SW c σ h w) {u:Value} (hu:PRep σ (fz c σ h w) w x u) :
  ∃v z rf,K v rf∧(Instr.loadAt t u).run P w=.ok z w∧(∃ad,u=.pointer (some ad))∧PRep σ (fz c σ h w) w v z:=by
 unfold loadP at hv
 split at hv
 ·rename_i l
  obtain⟨v,h1,h2⟩:=readP_out hv
  unfold PRep DRep CRep at hu
  obtain⟨b,off,rfl,e3⟩:=hu
  obtain⟨us,e4,e5,_⟩:=csAt_values e3
  obtain⟨z,h3,h4⟩:=h2 σ _ w b off us (dsRep_of_cs e4) e5
  exact⟨v,z,_,h1,by simp only[Instr.loadAt,Instr.sureAddr,Sem.run_bind,Sem.run_pure,Result.andThen_ok,h3],⟨_,rfl⟩,h4⟩
 ·rename_i k off
  split at hv
  ·rename_i bt l hk
   obtain⟨v,h1,h2⟩:=readP_out hv
   unfold PRep DRep at hu
   obtain⟨g,n,e2,rfl⟩:=hu
   obtain⟨g',n',cur,e4,e5,e6,e7⟩:=hs.hp k _ hk
   rw[e2] at e4;cases e4
   obtain⟨z,h3,h4⟩:=h2 σ _ w g off (cur.toList.drop off) (e7.drop off) (fun j v hv=>by
    rw[cell_of_row _ _ _ _ _ _ e6]
    rw[List.getElem?_drop] at hv
    simpa using hv)
   exact⟨v,z,_,h1,by simp only[Instr.loadAt,Instr.sureAddr,Sem.run_bind,Sem.run_pure,Result.andThen_ok,h3],⟨_,rfl⟩,h4⟩
  ·exact hv.elim
 ·rename_i k sz j off
  split at hv
  ·rename_i e0 s rows hk
   split at hv
   ·rename_i es
    obtain rfl:=Nat.eq_of_beq_eq_true es
    obtain⟨r,hr,hv⟩:=hv
    obtain⟨v,h1,h2⟩:=readP_out hv
    unfold PRep DRep at hu
    obtain⟨g,n,e2,rfl⟩:=hu
    obtain⟨hz,hrl,ob,n',e4,e5⟩:=hs.hp k _ hk
    rw[e2] at e4;cases e4
    obtain⟨e5,cur,e6,e7,e8⟩:=e5
    have hrep:=row_rep hrl hr e8
    obtain⟨z,h3,h4⟩:=h2 σ _ w g (j*s+off) ((((cur.toList.take (rows.length*s)).drop (j*s)).take s).drop off) (dsRep_of_cs (hrep.drop off)) (fun q v hv=>by
     rw[cell_of_row _ _ _ _ _ _ e6]
     rw[List.getElem?_drop,List.getElem?_take] at hv
     split at hv
     ·rw[List.getElem?_drop,List.getElem?_take] at hv
      split at hv
      ·rw[← Array.getElem?_toList,← hv];congr 1;omega
      ·cases hv
     ·cases hv)
    exact⟨v,z,_,h1,by simp only[Instr.loadAt,Instr.sureAddr,Sem.run_bind,Sem.run_pure,Result.andThen_ok,h3],⟨_,rfl⟩,h4⟩
   ·exact hv.elim
  ·rename_i e0 s rows hk
   split at hv
   ·rename_i es
    obtain rfl:=Nat.eq_of_beq_eq_true es
    obtain⟨r,hr,hv⟩:=hv
    obtain⟨v,h1,h2⟩:=readP_out hv
    unfold PRep DRep at hu
    obtain⟨g,n,e2,rfl⟩:=hu
    obtain⟨hz,hrl,ob,n',e4,e5⟩:=hs.hp k _ hk
    rw[e2] at e4;cases e4
    obtain⟨e5,cur,e6,e7,e8⟩:=e5
    have hrep:=drow_rep hrl hr e8
    obtain⟨z,h3,h4⟩:=h2 σ _ w g (j*s+off) ((((cur.toList.take (rows.length*s)).drop (j*s)).take s).drop off) (hrep.drop off) (fun q v hv=>by
     rw[cell_of_row _ _ _ _ _ _ e6]
     rw[List.getElem?_drop,List.getElem?_take] at hv
     split at hv
     ·rw[List.getElem?_drop,List.getElem?_take] at hv
      split at hv
      ·rw[← Array.getElem?_toList,← hv];congr 1;omega
      ·cases hv
     ·cases hv)
    exact⟨v,z,_,h1,by simp only[Instr.loadAt,Instr.sureAddr,Sem.run_bind,Sem.run_pure,Result.andThen_ok,h3],⟨_,rfl⟩,h4⟩
   ·exact hv.elim
  ·exact hv.elim
 ·exact hv.elim
def resF (tmps:Array Value):ResultVar→Sem Value
 | .tmp t=>pure (tmps.getD t undef)
 | .cell a t=>do loadVar t (← asAddr (tmps.getD a undef))
theorem resP_out {P:Program} {c:Ctx} {nt:Nat} {σ:Sg} {e:Env} {h:Hp} {a:Act} {w:World} (hs:St c nt σ e h a w):∀{rs:List ResultVar} {K:List PV→Prop},resP P h e rs K→
  ∃vs us,K vs∧(rs.mapM (resF a.tmps)).run P w=.ok us w∧PsRep σ (fz c σ h w) w vs us
 | [],K,hv=>⟨[],[],hv,by simp,by unfold PsRep;trivial⟩
 | .tmp t::rs,K,hv=>by
  unfold resP at hv
  obtain⟨vs,us,h3,h4,h5⟩:=resP_out hs (force_out hv)
  refine⟨e t::vs,a.tmps.getD t undef::us,h3,?_,by unfold PsRep;exact⟨hs.env t,h5⟩⟩
  simp only[List.mapM_cons,resF,Sem.run_bind,Sem.run_pure,Result.andThen_ok,h4]
 | .cell t ty::rs,K,hv=>by
  unfold resP at hv
  obtain⟨v,z,_,g1,g2,⟨ad,g3⟩,g4⟩:=loadP_run hv hs.toSW (hs.env t)
  obtain⟨vs,us,h3,h4,h5⟩:=resP_out hs g1
  refine⟨v::vs,z::us,h3,?_,by unfold PsRep;exact⟨g4,h5⟩⟩
  rw[g3] at g2
  have g5:(loadVar ty ad).run P w=.ok z w:=by simpa [Instr.loadAt,Instr.sureAddr] using g2
  simp only[List.mapM_cons,resF,Sem.run_bind,Sem.run_pure,Result.andThen_ok,h4,g3,asAddr,g5]
theorem psRep_len {σ:Sg} {F:Fzn} {w:World}:∀{l:List PV} {us:List Value},PsRep σ F w l us→us.length=l.length
 | [],[],_=>rfl
 | _::_,_::us,h=>by unfold PsRep at h;rw[List.length_cons,List.length_cons,psRep_len h.2]
 | [],_::_,h=>by unfold PsRep at h;exact h.elim
 | _::_,[],h=>by unfold PsRep at h;exact h.elim
theorem psRep_get {σ:Sg} {F:Fzn} {w:World}:∀{l:List PV} {us:List Value} (t:Nat),PsRep σ F w l us→PRep σ F w (argsE l t) ((us[t]?).getD undef)
 | [],[],t,_=>by unfold argsE;simp;exact rep_undef
 | x::xs,u::us,0,h=>by unfold PsRep at h;unfold argsE;simpa using h.1
 | x::xs,u::us,t+1,h=>by
  unfold PsRep at h
  have:=psRep_get t h.2
  unfold argsE at this ⊢
  simpa using this
 | [],_::_,_,h=>by unfold PsRep at h;exact h.elim
 | _::_,[],_,h=>by unfold PsRep at h;exact h.elim
theorem tup_out {σ:Sg} {F:Fzn} {w:World} {vs:List PV} {us:List Value} {K:PV→Prop} (h:tupOf vs K) (hr:PsRep σ F w vs us):∃v,K v∧PRep σ F w v (if h:us.toArray.size=1 then us.toArray[0] else .tuple us.toArray):=by
 have hlen:=psRep_len hr
 unfold tupOf at h
 split at h
 ·rename_i v
  simp only[List.length_singleton] at hlen
  refine⟨v,h,?_⟩
  match us,hlen,hr with
  | [u],_,hr=>unfold PsRep at hr;simpa using hr.1
 ·rename_i hne
  refine⟨_,h,?_⟩
  have:¬us.toArray.size=1:=by
   intro hq
   rw[List.size_toArray] at hq
   rw[hq] at hlen
   match vs,hlen,hne with
   | [v],_,hne=>exact hne v rfl
  rw[dif_neg this]
  unfold PRep
  exact⟨us,rfl,hr⟩
theorem results_run {P:Program} {c:Ctx} {nt:Nat} {σ:Sg} {e:Env} {h:Hp} {a:Act} {w:World} {fn:Func} {K:List PV→Prop} (hs:St c nt σ e h a w) (hr:resP P h e fn.results.toList K) :
  ∃vs us,K vs∧(results fn a.tmps).run P w=.ok (if hx:us.toArray.size=1 then us.toArray[0] else .tuple us.toArray) w∧PsRep σ (fz c σ h w) w vs us:=by
 obtain⟨vs,us,h1,h2,h3⟩:=resP_out hs hr
 refine⟨vs,us,h1,?_,h3⟩
 have he:results fn a.tmps=(do let vs ← fn.results.mapM (resF a.tmps);pure (if h:vs.size=1 then vs[0] else .tuple vs)):=by
  unfold results
  congr 1
 rw[he,Array.mapM_eq_mapM_toList]
 simp only[Sem.run_bind,map_eq_pure_bind,bind_assoc,pure_bind,h2,Result.andThen_ok,Sem.run_pure]
section
variable {c:Ctx} {σ:Sg} {h:Hp} {w:World} {F':Fzn}
theorem arr_close (hall:∀b o,c.own b→b<w.heap.size→F' b o) {k e e2 s lo n:Nat} {rows:List (List C)} {u:Value} (hu:DRep σ (fz c σ h w) w (.arr k e s lo n) u) (hrl:∀r∈rows,r.length=s) (hle:lo+n≤rows.length)
  (hh:∃ob q,σ k=some (ob,q)∧match ob with
   | none=>True
   | some g=>c.own g∧∃cur:Array Value,w.heap[g]? = some (Obj.cells cur e2 (0,0))∧CsRep F' w rows.flatten (cur.toList.take (rows.length*s))):CRep F' w (.sl s ((rows.drop lo).take n)) u:=by
 obtain⟨ob,q,h1,h2⟩:=hh
 unfold DRep at hu
 have hlen:((rows.drop lo).take n).length=n:=by rw[List.length_take,List.length_drop];omega
 unfold CRep
 rw[hlen]
 obtain⟨_,⟨m,g1,rfl,b0,rfl⟩ | ⟨g,m,off,cap,cur,fr,g1,rfl,g3,g4,g5,g6,g7⟩⟩:=hu
 ·exact⟨b0,0,rfl,Nat.le_refl _,Nat.zero_le _,fun _=>rfl,.inl (by simp)⟩
 ·refine⟨_,cap,rfl,g3,g4,(fun e=>by cases e),?_⟩
  by_cases hn:n=0
  ·subst hn;exact .inl (by simp)
  ·right
   rw[g1] at h1
   cases h1
   obtain⟨hown,cur2,p1,p3⟩:=h2
   obtain rfl:=g7 (by omega)
   refine⟨g,lo*s,rfl,?_⟩
   have hlt:g<w.heap.size:=(Array.getElem?_eq_some_iff.1 p1).1
   have hr:RowsAt F' w s g 0 rows:=by
    rw[rowsAt_iff]
    refine⟨hrl,csAt_of_values p3 (fun j u hu=>?_) (fun j hj=>hall _ _ hown hlt)⟩
    rw[Nat.zero_add,cell_of_row _ _ _ _ _ _ p1]
    rw[List.getElem?_take] at hu
    split at hu
    ·simpa using hu
    ·cases hu
   have:=rowsAt_take n (rowsAt_drop lo (by omega) hr)
   rwa [Nat.zero_add] at this
theorem closeA_out (hs:SW c σ h w) (hk:Keeps (fz c σ h w) F' w w) (hall:∀b o,c.own b→b<w.heap.size→F' b o) {x:D} {K:C→Prop} (hx:D.closeA h x K):∃y,K y∧∀u,DRep σ (fz c σ h w) w x u→CRep F' w y u:=by
 unfold D.closeA at hx
 split at hx
 ·exact⟨_,hx,fun u hu=>by unfold DRep at hu;exact CRep.keeps hk _ _ hu⟩
 ·rename_i k e sz l
  refine⟨_,hx,fun u hu=>?_⟩
  have:=rows_val (σ:=σ) (F:=fz c σ h w) (w:=w) (x:=.d (.app k e sz l)) (.inr ⟨k,e,rfl⟩) (u:=u) (by unfold PRep;exact hu)
  refine CRep.keeps hk _ _ ?_
  unfold CRep
  exact this
 ·rename_i k e sz lo n
  split at hx
  ·rename_i e2 s rows hh
   split at hx
   ·rename_i es
    obtain rfl:=Nat.eq_of_beq_eq_true es
    obtain⟨hle,hx⟩:=hx
    refine⟨_,hx,fun u hu=>?_⟩
    obtain⟨hz,hrl,ob,q,h1,h2⟩:=hs.hp k _ hh
    refine arr_close (e2:=e2) hall hu hrl hle ⟨ob,q,h1,?_⟩
    cases ob with
    | none=>trivial
    | some g=>exact⟨h2.1,h2.2.choose,h2.2.choose_spec.1,CsRep.keeps hk _ _ h2.2.choose_spec.2.2⟩
   ·exact hx.elim
  ·exact hx.elim
 ·rename_i f
  refine⟨_,hx,fun u hu=>?_⟩
  unfold DRep at hu
  obtain⟨us,vs,rfl,h1,h2⟩:=hu
  rw[dsRep_nil_inv h1,dsRep_nil_inv h2]
  unfold CRep
  exact⟨rfl,rfl⟩
 ·exact hx.elim
theorem dsRep_split {F:Fzn}:∀{a b:List D} {us:List Value},DsRep σ F w (a++b) us→∃u1 u2,us=u1++u2∧DsRep σ F w a u1∧DsRep σ F w b u2
 | [],b,us,h=>⟨[],us,rfl,dsRep_nil,h⟩
 | x::xs,b,us,h=>by
  rw[List.cons_append] at h
  obtain⟨u,vs,rfl,h1,h2⟩:=dsRep_inv h
  obtain⟨u1,u2,rfl,h3,h4⟩:=dsRep_split h2
  exact⟨u::u1,u2,rfl,dsRep_cons h1 h3,h4⟩
theorem clL_out (hs:SW c σ h w) (hk:Keeps (fz c σ h w) F' w w) (hall:∀b o,c.own b→b<w.heap.size→F' b o):∀{l:List D} {ys:List C},ClL h l ys→ys.length=l.length∧∀us,DsRep σ (fz c σ h w) w l us→CsRep F' w ys us
 | [],ys,h=>by unfold ClL at h;subst h;exact⟨rfl,fun us hu=>by rw[dsRep_nil_inv hu];exact csRep_nil⟩
 | x::xs,ys,h=>by
  unfold ClL at h
  split at h
  ·exact h.elim
  ·obtain⟨y,rfl,h2⟩:=closeA_out hs hk hall h.1
   obtain⟨h3,h4⟩:=clL_out hs hk hall h.2
   refine⟨by rw[List.length_cons,List.length_cons,h3],fun us hu=>?_⟩
   obtain⟨u,vs,rfl,g1,g2⟩:=dsRep_inv hu
   exact csRep_cons (h2 u g1) (h4 vs g2)
theorem clR_out {s:Nat} (hs:SW c σ h w) (hk:Keeps (fz c σ h w) F' w w) (hall:∀b o,c.own b→b<w.heap.size→F' b o):∀{l:List (List D)} {rs:List (List C)},(∀r∈l,r.length=s)→ClR h l rs→
  rs.length=l.length∧(∀r∈rs,r.length=s)∧∀us,DsRep σ (fz c σ h w) w l.flatten us→CsRep F' w rs.flatten us
 | [],rs,_,hr=>by
  unfold ClR at hr
  subst hr
  exact⟨rfl,by simp,fun us hu=>by rw[List.flatten_nil] at hu;rw[dsRep_nil_inv hu];exact csRep_nil⟩
 | x::xs,rs,hl,hr=>by
  unfold ClR at hr
  split at hr
  ·exact hr.elim
  ·obtain⟨g1,g2⟩:=clL_out hs hk hall hr.1
   obtain⟨i1,i2,i3⟩:=clR_out hs hk hall (fun r hr=>hl r (List.mem_cons_of_mem _ hr)) hr.2
   refine⟨by rw[List.length_cons,List.length_cons,i1],fun r hr=>?_,fun us hu=>?_⟩
   ·rcases List.mem_cons.1 hr with rfl | hr
    ·rw[g1];exact hl _ (List.mem_cons_self ..)
    ·exact i2 r hr
   ·rw[List.flatten_cons] at hu ⊢
    obtain⟨u1,u2,rfl,f1,f2⟩:=dsRep_split hu
    exact CsRep.append (g2 u1 f1) (i3 u2 f2)
theorem closeH_out (hs:SW c σ h w) (hk:Keeps (fz c σ h w) F' w w) (hall:∀b o,c.own b→b<w.heap.size→F' b o) {x:D} {K:C→Prop} (hx:D.closeH h x K):∃y,K y∧∀u,DRep σ (fz c σ h w) w x u→CRep F' w y u:=by
 unfold D.closeH at hx
 split at hx
 ·exact⟨_,hx,fun u hu=>by unfold DRep at hu;exact CRep.keeps hk _ _ hu⟩
 ·rename_i k e sz l
  refine⟨_,hx,fun u hu=>?_⟩
  have:=rows_val (σ:=σ) (F:=fz c σ h w) (w:=w) (x:=.d (.app k e sz l)) (.inr ⟨k,e,rfl⟩) (u:=u) (by unfold PRep;exact hu)
  refine CRep.keeps hk _ _ ?_
  unfold CRep
  exact this
 ·rename_i k e sz lo n
  split at hx
  ·rename_i e2 s rows hh
   split at hx
   ·rename_i es
    obtain rfl:=Nat.eq_of_beq_eq_true es
    obtain⟨hle,hx⟩:=hx
    refine⟨_,hx,fun u hu=>?_⟩
    obtain⟨hz,hrl,ob,q,h1,h2⟩:=hs.hp k _ hh
    refine arr_close (e2:=e2) hall hu hrl hle ⟨ob,q,h1,?_⟩
    cases ob with
    | none=>trivial
    | some g=>exact⟨h2.1,h2.2.choose,h2.2.choose_spec.1,CsRep.keeps hk _ _ h2.2.choose_spec.2.2⟩
   ·exact hx.elim
  ·rename_i e2 s rows hh
   split at hx
   ·rename_i es
    obtain rfl:=Nat.eq_of_beq_eq_true es
    obtain⟨rs,hr,hle,hx⟩:=hx
    refine⟨_,hx,fun u hu=>?_⟩
    obtain⟨hz,hrl,ob,q,h1,h2⟩:=hs.hp k _ hh
    obtain⟨i1,i2,i3⟩:=clR_out hs hk hall hrl hr
    refine arr_close (e2:=e2) hall hu i2 hle ⟨ob,q,h1,?_⟩
    cases ob with
    | none=>trivial
    | some g=>
     obtain⟨q1,cur,q2,q3,q4⟩:=h2
     exact⟨q1,cur,q2,by rw[i1];exact i3 _ q4⟩
   ·exact hx.elim
  ·exact hx.elim
 ·rename_i f
  refine⟨_,hx,fun u hu=>?_⟩
  unfold DRep at hu
  obtain⟨us,vs,rfl,h1,h2⟩:=hu
  rw[dsRep_nil_inv h1,dsRep_nil_inv h2]
  unfold CRep
  exact⟨rfl,rfl⟩
 ·exact hx.elim
theorem closeHL_out (hs:SW c σ h w) (hk:Keeps (fz c σ h w) F' w w) (hall:∀b o,c.own b→b<w.heap.size→F' b o):∀{l:List D} {K:List C→Prop},closeHL h l K→∃ys,K ys∧∀us,DsRep σ (fz c σ h w) w l us→CsRep F' w ys us
 | [],K,h=>⟨[],h,fun us hu=>by rw[dsRep_nil_inv hu];exact csRep_nil⟩
 | x::xs,K,h=>by
  unfold closeHL at h
  obtain⟨y,h1,h2⟩:=closeH_out hs hk hall h
  obtain⟨ys,h3,h4⟩:=closeHL_out hs hk hall h1
  refine⟨y::ys,h3,fun us hu=>?_⟩
  obtain⟨u,vs,rfl,g1,g2⟩:=dsRep_inv hu
  exact csRep_cons (h2 u g1) (h4 vs g2)
mutual
theorem pcloseH_out (hs:SW c σ h w) (hk:Keeps (fz c σ h w) F' w w) (hall:∀b o,c.own b→b<w.heap.size→F' b o):∀{x:PV} {K:PV→Prop},PV.closeH h x K→∃y,K y∧∀u,PRep σ (fz c σ h w) w x u→PRep (fun _=>none) F' w y u
 | .d x,K,h=>by
  unfold PV.closeH at h
  obtain⟨y,h1,h2⟩:=closeH_out hs hk hall h
  refine⟨_,h1,fun u hu=>?_⟩
  unfold PRep at hu ⊢
  unfold DRep
  exact h2 u hu
 | .agg l,K,h=>by
  unfold PV.closeH at h
  obtain⟨ys,h1,h2⟩:=closeHL_out hs hk hall h
  refine⟨_,h1,fun u hu=>?_⟩
  unfold PRep at hu ⊢
  obtain⟨xs,rfl,hx⟩:=hu
  exact⟨xs,rfl,dsRep_of_cs (h2 xs hx)⟩
 | .tup l,K,h=>by
  unfold PV.closeH at h
  obtain⟨ys,h1,h2⟩:=closeHPs_out hs hk hall h
  refine⟨_,h1,fun u hu=>?_⟩
  unfold PRep at hu ⊢
  obtain⟨xs,rfl,hx⟩:=hu
  exact⟨xs,rfl,h2 xs hx⟩
 | .any,K,h=>by unfold PV.closeH at h;exact h.elim
theorem closeHPs_out (hs:SW c σ h w) (hk:Keeps (fz c σ h w) F' w w) (hall:∀b o,c.own b→b<w.heap.size→F' b o):∀{l:List PV} {K:List PV→Prop},closeHPs h l K→∃ys,K ys∧∀us,PsRep σ (fz c σ h w) w l us→PsRep (fun _=>none) F' w ys us
 | [],K,h=>by
  unfold closeHPs at h
  refine⟨[],h,fun us hu=>?_⟩
  cases us with
  | nil=>unfold PsRep;trivial
  | cons _ _=>unfold PsRep at hu;exact hu.elim
 | x::xs,K,h=>by
  unfold closeHPs at h
  obtain⟨y,h1,h2⟩:=pcloseH_out hs hk hall h
  obtain⟨ys,h3,h4⟩:=closeHPs_out hs hk hall h1
  refine⟨y::ys,h3,fun us hu=>?_⟩
  cases us with
  | nil=>unfold PsRep at hu;exact hu.elim
  | cons u us=>unfold PsRep at hu ⊢;exact⟨h2 u hu.1,h4 us hu.2⟩
end
end
theorem getD_args {vs:List Value} {nt t:Nat}:(vs.toArray++Array.replicate (nt - vs.toArray.size) undef).getD t undef=(vs[t]?).getD undef:=by
 rw[Array.getD_eq_getD_getElem?,Array.getElem?_append]
 split
 ·simp
 ·rename_i hlt
  have:vs[t]? = none:=List.getElem?_eq_none (by simpa using hlt)
  rw[this,Array.getElem?_replicate]
  split<;>rfl
theorem pure_of {P:Program} {f:FuncId} {fn:Func} {cd:Code} {args:List PV} {res:PV} (hf:P.funcs[f]? = some fn) (hn:(fn.name== "runtime.NumGoroutine")=false) (hb:fn.body=some cd) (hm:P.follows .mixedOrders=true)
  (ha:Nat.ble args.length fn.ntmps=true) (hv:vc P fn.ntmps [] (fun _ _ _ _=>False) cd (argsE args) (fun _=>none) [] (retQ P fn res)):Pure P f args res:=by
 refine⟨⟨fn,hf,hn,by rw[hb];rfl⟩,fun F w vs hG hF hargs=>?_⟩
 have hal:=Nat.le_of_ble_eq_true ha
 have hvl:=psRep_len hargs
 obtain⟨c,hcdef⟩:∃c:Ctx,c=⟨w,F,fun _=>False,fun _ _=>False,fun _=>none,[]⟩:=⟨_,rfl⟩
 have hn0:c.n0=w.heap.size:=by rw[hcdef]
 have hF0:c.F0=F:=by rw[hcdef]
 have hF1:c.F1=fun _ _=>False:=by rw[hcdef]
 have hσ0:c.σ0=fun _=>none:=by rw[hcdef]
 have hw0:c.w0=w:=by rw[hcdef]
 have hdf:c.df=[]:=by rw[hcdef]
 have hext:∀b,¬c.ext b:=by intro b;rw[hcdef];exact id
 have hc:c.Ok:=⟨fun b o h=>⟨by rw[hn0];exact hF b o (by rw[← hF0];exact h),hext b⟩,by rw[hw0];exact hG,fun b _=>hext b⟩
 have hfz:∀b o,F b o→fz c (fun _=>none) (fun _=>none) w b o:=fun b o h=>.inl ⟨by rw[hn0];exact hF b o h,by rw[hF0];exact h⟩
 have hst:St c fn.ntmps (fun _=>none) (argsE args) (fun _=>none) { tmps:=vs.toArray++Array.replicate (fn.ntmps - vs.toArray.size) undef,defers:=[] } w:=by
  refine⟨⟨by rw[hw0],by rw[hw0],by rw[hw0],by rw[hn0];exact Nat.le_refl _,fun b _ _=>by rw[hw0],(fun k hb hk=>by cases hk),fun k k' g n n' hk=>absurd rfl hk,?_,by rw[hw0];exact Shape.refl _,fun k x hk=>by rw[hσ0] at hk;cases hk⟩,fun t=>?_,hdf.symm,?_⟩
  ·rw[hF1,hw0];exact⟨fun _ _ h=>h.elim,fun _ _ h=>h.elim⟩
  ·have h1:=psRep_get t (PsRep.of_none (σ:=fun _=>none) ⟨hfz,fun _ _ _=>rfl⟩ _ _ hargs)
   show PRep _ _ _ _ ((vs.toArray++Array.replicate (fn.ntmps - vs.toArray.size) undef).getD t undef)
   rw[getD_args];exact h1
  ·simp;omega
 refine calls_of_wp hf hb (wp_mono (vc_out (fun k hk=>absurd (by rw[hσ0]) hk) hc hm cd _ _ _ _ _ _ w hv hst (fun _ _=>rfl)) ?_)
 intro x a' w' hq
 have fin:∀e' h' σ',St c fn.ntmps σ' e' h' a' w'→resP P h' e' fn.results.toList (fun vs=>closeHPs h' vs fun vs=>tupOf vs fun v=>Ret v res)→
   a'.defers=[]∧∃v,(results fn a'.tmps).run P w'=.ok v w'∧∃v',Ending.returned v=.returned v'∧Below w.heap.size w w'∧PRep (fun _=>none) (fun b o=>F b o∨(w.heap.size≤b∧b<w'.heap.size)) w' res v':=by
  intro e' h' σ' hs' hr
  obtain⟨ps,us,h1,h2,h3⟩:=results_run hs' hr
  have hbel:Below w.heap.size w w':=⟨by rw[hs'.os,hw0],by rw[hs'.tape,hw0],by rw[hs'.output,hw0],by have:=hs'.size;rw[hn0] at this;exact this,fun k hk=>by
   rw[hs'.block k (by rw[hn0];exact hk) (hext k),hw0]⟩
  have hkeep:Keeps (fz c σ' h' w') (fun b o=>F b o∨(w.heap.size≤b∧b<w'.heap.size)) w' w':=by
   refine⟨fun b o hq=>?_,fun _ _ _=>rfl⟩
   rcases hq with ⟨q1,q2⟩ | ⟨q1,q2,_⟩
   ·rw[hF0] at q2;exact .inl q2
   ·rcases q1 with q1 | q1
    ·rw[hn0] at q1;exact .inr ⟨q1,q2⟩
    ·exact absurd q1 (hext b)
  obtain⟨ps',h1,h4⟩:=closeHPs_out hs'.toSW hkeep (fun b o hown hlt=>by
   rcases hown with q | q
   ·rw[hn0] at q;exact .inr ⟨q,hlt⟩
   ·exact absurd q (hext b)) h1
  obtain⟨v,h5,h6⟩:=tup_out h1 (h4 us h3)
  refine⟨hs'.defers.trans hdf,_,h2,_,rfl,hbel,?_⟩
  rcases h5 with rfl | h5
  ·exact h6
  ·have:=prep_wk (σ:=fun _=>none) (f:=fun _=>none) (n:=[]) (F':=fun b o=>F b o∨(w.heap.size≤b∧b<w'.heap.size)) (w:=w') ⟨fun _ _ h=>h,fun _ _ _=>rfl⟩ _ _ _ h5 h6
   have e1:newSg (fun _=>none) (fun _=>none) ([]:List Nat)=fun _=>none:=by funext k;unfold newSg;rw[if_neg (by simp[kin])]
   rw[e1] at this
   exact this
 cases x with
 | normal=>obtain⟨e',h',n',σ',hq,hs',_⟩:=hq;exact fin _ _ _ hs' hq
 | ret=>obtain⟨e',h',n',σ',hq,hs',_⟩:=hq;exact fin _ _ _ hs' hq
 | exit id=>obtain⟨e',h',n',σ',hq,hs',_⟩:=hq;exact hq
 | goto l=>obtain⟨e',h',n',σ',hq,hs',_⟩:=hq;exact hq
 | panic ch=>obtain⟨v,_,e',h',n',σ',hq,_⟩:=hq;exact hq.elim
 | outgrown=>obtain⟨e',h',n',σ',hq,hs',_⟩:=hq;exact hq.elim
theorem st_begin {c:Ctx} {nt:Nat} {h:Hp} {args:List PV} {vs:List Value} (hs:SW c c.σ0 h c.w0) (hargs:PsRep c.σ0 (fz c c.σ0 h c.w0) c.w0 args vs) (ha:args.length≤nt) (hdf:c.df=[]) :
  St c nt c.σ0 (argsE args) h { tmps:=vs.toArray++Array.replicate (nt - vs.toArray.size) undef,defers:=[] } c.w0:=by
 have hvl:=psRep_len hargs
 refine⟨hs,fun t=>?_,hdf.symm,by simp;omega⟩
 have h1:=psRep_get t hargs
 show PRep _ _ _ _ ((vs.toArray++Array.replicate (nt - vs.toArray.size) undef).getD t undef)
 rw[getD_args];exact h1
theorem callS_of {P:Program} {f:FuncId} {fn:Func} {cd:Code} {args:List PV} {res:PV} {rd rf out:Rf} (hf:P.funcs[f]? = some fn) (hn:(fn.name== "runtime.NumGoroutine")=false) (hb:fn.body=some cd) (hm:P.follows .mixedOrders=true)
  (ha:Nat.ble args.length fn.ntmps=true) (fk:List Nat) (hfk:fk=(rd++rf).map Prod.fst)
  (hv:vc P fn.ntmps fk (fun _ _ _ _=>False) cd (argsE args) (hpL (rd++rf)) fk (retS P fn fk res (rd++out))):CallS P f args rd rf res out:=by
 refine⟨⟨fn,hf,hn,by rw[hb];rfl⟩,fun c vs hc hdf hfr hs hargs=>?_⟩
 have hst:=st_begin hs hargs (Nat.le_of_ble_eq_true ha) hdf
 have hfr':∀k,k∉fk→c.σ0 k=none:=fun k hk=>hfr k (by rw[← hfk];exact hk)
 have hfk':∀k,c.σ0 k≠none→k∈fk:=fun k hk=>Classical.byContradiction fun h=>hk (hfr' k h)
 refine calls_of_wp hf hb (wp_mono (vc_out hfk' hc hm cd _ _ _ _ _ _ _ hv hst hfr') ?_)
 intro x a' w' hq
 have fin:∀e' h' σ',St c fn.ntmps σ' e' h' a' w'→resP P h' e' fn.results.toList (fun vs=>tupOf vs fun v=>RetS fk h' res (rd++out) v)→
   a'.defers=[]∧∃v,(results fn a'.tmps).run P w'=.ok v w'∧∃v' σ1,Ending.returned v=.returned v'∧SW c σ1 (hpL (rd++out)) w'∧PRep σ1 (fz c σ1 (hpL (rd++out)) w') w' res v':=by
  intro e' h' σ' hs' hr
  obtain⟨ps,us,h1,h2,h3⟩:=results_run hs' hr
  obtain⟨v,h5,h6⟩:=tup_out h1 h3
  obtain⟨g,n,q1,q2,q3,q4⟩:=h5
  obtain⟨hk,hsw⟩:=sw_wk hfk' hs'.toSW q1 q2 q4
  exact⟨hs'.defers.trans hdf,_,h2,_,_,rfl,hsw,prep_wk hk _ _ _ q3 h6⟩
 cases x with
 | normal=>obtain⟨e',h',n',σ',hq,hs',_⟩:=hq;exact fin _ _ _ hs' hq
 | ret=>obtain⟨e',h',n',σ',hq,hs',_⟩:=hq;exact fin _ _ _ hs' hq
 | exit id=>obtain⟨e',h',n',σ',hq,hs',_⟩:=hq;exact hq
 | goto l=>obtain⟨e',h',n',σ',hq,hs',_⟩:=hq;exact hq
 | panic ch=>obtain⟨v,_,e',h',n',σ',hq,_⟩:=hq;exact hq.elim
 | outgrown=>obtain⟨e',h',n',σ',hq,hs',_⟩:=hq;exact hq.elim
theorem kin_of {k:Nat}:∀{n:List Nat},k∈n→kin k n=true
 | x::xs,h=>by
  unfold kin
  cases hq:Nat.beq k x with
  | true=>rfl
  | false=>
   rw[cond_false]
   rcases List.mem_cons.1 h with rfl | h
   ·have:=Nat.beq_refl k;rw[show Nat.beq k k=false from hq] at this;cases this
   ·exact kin_of h
end Go.Proofs.YtdgmbijjhifbeaaGreatDoor.Pm
end
section
namespace Go.Proofs.YtdgmbijjhifbeaaGreatDoor.Pm
open Go.RowKit
theorem BCase.t {b:Bool} {A B:Prop} (hb:b=true) (h:A):BCase b A B:=⟨fun _=>h,fun e=>by rw[hb] at e;cases e⟩
theorem BCase.f {b:Bool} {A B:Prop} (hb:b=false) (h:B):BCase b A B:=⟨(fun e=>by rw[hb] at e;cases e),fun _=>h⟩
theorem BCase.dt {p:Prop} [Decidable p] {A B:Prop} (hp:p) (h:A):BCase (decide p) A B:=BCase.t (decide_eq_true hp) h
theorem BCase.df {p:Prop} [Decidable p] {A B:Prop} (hp:¬p) (h:B):BCase (decide p) A B:=BCase.f (decide_eq_false hp) h
theorem BCase.d {p:Prop} [Decidable p] {A B:Prop} (h1:p→A) (h2:¬p→B):BCase (decide p) A B:=⟨fun e=>h1 (of_decide_eq_true e),fun e=>h2 (of_decide_eq_false e)⟩
theorem BCase.tt {A B:Prop} (h:A):BCase true A B:=BCase.t rfl h
theorem BCase.ff {A B:Prop} (h:B):BCase false A B:=BCase.f rfl h
theorem Wr.i64 {x:Int} {K:Int→Prop} (h1:-9223372036854775808≤x) (h2:x≤9223372036854775807) (h:K x):Wr .i64 x K:=⟨x,IntWalk.i64_in x ⟨h1,h2⟩,h⟩
theorem Idx.map {α:Type} {f:α→List C} {l:List α} {n:Nat} {K:List C→Prop} (hn:n<l.length) (h:K (f l[n])):Idx (l.map f) (n:Int) K:=
 ⟨f l[n],by omega,by simp[hn],h⟩
theorem Idx.mapI {α:Type} {f:α→List C} {l:List α} {n:Int} {K:List C→Prop} (k:Nat) (hk:n=(k:Int)) (hn:k<l.length) (h:K (f l[k])):Idx (l.map f) n K:=by
 subst hk;exact Idx.map hn h
theorem PLe.int {f:Nat→Option Nat} {n:List Nat} {k:IntKind} {a b:Int} (h:b=a):PLe f n (pInt k a) (pInt k b):=by rw[h];exact .inl rfl
theorem PLe.c {f:Nat→Option Nat} {n:List Nat} {x y:C} (h:y=x):PLe f n (.d (.c x)) (.d (.c y)):=.inl h
end Go.Proofs.YtdgmbijjhifbeaaGreatDoor.Pm
namespace Go.Proofs.YtdgmbijjhifbeaaGreatDoor.Pm
open Go.RowKit
abbrev FK:Nat:=1000000
abbrev FK1:Nat:=1000001
abbrev NK:Nat:=2000000
abbrev FK2:Nat:=1000002
abbrev FK3:Nat:=1000003
abbrev NK1:Nat:=2000001
abbrev NK2:Nat:=2000002
theorem sl_of_row {F:Fzn} {w:World} {B e sz n:Nat} {v:Value} {xs:List Value} (h:w.ownsRow B e sz v n xs) {l:List (List C)} (hl:l.length=n) (hsz:∀r∈l,r.length=sz)
  (hx:CsRep F w l.flatten xs) (hF:∀b o,B≤b→b<w.heap.size→F b o):CRep F w (.sl sz l) v:=by
 obtain⟨h1,h2⟩:=h
 unfold CRep
 rcases h2 with ⟨rfl,rfl⟩ | ⟨g,cap,cur,rfl,h3,h4,h5,h6,h7,h8⟩
 ·have:l=[]:=List.length_eq_zero_iff.1 hl
  subst this
  exact⟨none,0,rfl,Nat.le_refl _,Nat.zero_le _,fun _=>rfl,.inl rfl⟩
 ·refine⟨some ⟨g,0,none⟩,cap,by rw[hl],by rw[hl];exact h5,h6,(fun e=>by cases e),.inr ⟨g,0,rfl,?_⟩⟩
  have hlt:g<w.heap.size:=(Array.getElem?_eq_some_iff.1 h4).1
  rw[rowsAt_iff]
  refine⟨hsz,csAt_of_values hx (fun j u hu=>?_) fun j hj=>hF _ _ h3 hlt⟩
  rw[Nat.zero_add,cell_of_row _ _ _ _ _ _ h4,← Array.getElem?_toList]
  rw[← h8] at hu
  rw[List.getElem?_take] at hu
  split at hu
  ·exact hu
  ·cases hu
def pv (x:Value):PV:=.d (.c (.v x))
theorem psRep_vals {σ:Sg} {F:Fzn} {w:World}:∀{vs us:List Value},PsRep σ F w (vs.map pv) us→us=vs
 | [],[],_=>rfl
 | [],_::_,h=>by unfold List.map PsRep at h;exact h.elim
 | _::_,[],h=>by unfold List.map PsRep at h;exact h.elim
 | v::vs,u::us,h=>by
  rw[List.map_cons] at h
  unfold PsRep at h
  rw[psRep_vals h.2]
  have:=rep_v h.1
  rw[this]
theorem pure_hand {P:Program} {f:FuncId} {vs:List Value} {res:PV} (hf:fnOk P f)
  (h:∀w:World,GL w→Calls P f vs.toArray w fun e w'=>∃v,e=.returned v∧Below w.heap.size w w'∧∀F:Fzn,(∀b o,w.heap.size≤b→b<w'.heap.size→F b o)→PRep (fun _=>none) F w' res v) :
  Pure P f (vs.map pv) res:=by
 refine⟨hf,fun F w us hG hF hus=>?_⟩
 rw[psRep_vals hus]
 intro cs
 obtain⟨e,w0,fr,⟨v,h1,h2,h3⟩,h4⟩:=h w hG cs
 exact⟨e,w0,fr,⟨v,h1,h2,h3 _ fun b o h5 h6=>.inr ⟨h5,h6⟩⟩,h4⟩
def encS (s:ByteArray):List C:=[.v (.string s)]
theorem rep_texts {F:Fzn} {w:World}:∀l:List ByteArray,CsRep F w (l.map encS).flatten (l.map Value.string)
 | []=>by unfold CsRep;trivial
 | s::l=>by
  rw[List.map_cons,List.flatten_cons,List.map_cons]
  show CsRep F w (.v (.string s)::(l.map encS).flatten) _
  unfold CsRep
  exact⟨by unfold CRep;exact⟨rfl,rfl⟩,rep_texts l⟩
end Go.Proofs.YtdgmbijjhifbeaaGreatDoor.Pm
end
namespace Go.Proofs.YtdgmbijjhifbeaaGreatDoor.Pm
section
open Go.ChangeShapes Go.WideShapes Go.RowKit Go.Lib
def litCells:Nat→DataW Unit→List Value
 | _+1,.lit l=>[l.value]
 | n+1,.agg l=>l.flatMap (litCells n)
 | _,_=>[]
noncomputable def laidWorld (os:Os):World:=
 let w0:=World.holding Tryz.prog os ⟨#[],#[],[]⟩
 let put (h:Array Obj) (g:Nat) (cs:Array Value):Array Obj:=h.modify g fun
  | .cells _ t frozen=>.cells cs t frozen
  | o=>o
 let h1:=put w0.heap 2 (litCells 4 Rows.laid_unicode_utf8_acceptRanges).toArray
 let h2:=put h1 1 (litCells 4 Rows.laid_unicode_utf8_first).toArray
 { w0 with heap:=h2 }
abbrev laidList:List (String×DataW Unit):=[("unicode/utf8.acceptRanges",Rows.laid_unicode_utf8_acceptRanges),("unicode/utf8.first",Rows.laid_unicode_utf8_first)]
theorem laid_met (os:Os) (args:Array Value):laidMet Tryz.prog laidList ((laidWorld os).forCall (fun _ _=>0) ⟨#[],args,[]⟩).memory:=
 (LaidIn.of_run [2,1] 8 (by kernel_rfl) (by kernel_rfl) (by kernel_rfl) (by kernel_rfl)).met
theorem tab_utf8 {W:World} (hL:laidMet Tryz.prog laidList W):Lib.Utf8Tabs 1 2 W:=by
 have h1:=Lib.laidMet.reads hL (.tail _ (.head _))
 have h2:=Lib.laidMet.reads hL (.head _)
 rw[show (Rows.laid_unicode_utf8_first:DataW Unit)=firstData by kernel_rfl] at h1
 rw[show (Rows.laid_unicode_utf8_acceptRanges:DataW Unit)=acceptData by kernel_rfl] at h2
 exact utf8Tabs_of_reads Tryz.lays260 ⟨by kernel_rfl,by kernel_rfl,by kernel_rfl,by kernel_rfl,by kernel_rfl,by kernel_rfl,by kernel_rfl⟩ h1 h2
theorem tabs_of_laid {W:World} (hL:laidMet Tryz.prog laidList W):GL W:=tab_utf8 hL
end
section
open Go.RowKit
def noDef (ops:Array Oper):Bool:=ops.toList.all fun o=>match o.op with | .defer _=>false | _=>true
def okIn:Code→Bool
 | .skip=>true
 | .region _ ops _=>noDef ops
 | .seq x y=>okIn x&&okIn y
 | .cond _ x y=>okIn x&&okIn y
 | .block _ x=>okIn x
 | .exit _=>true
 | _=>false
section
variable {P:Program} {l m:Nat}
theorem opIn_of_wp {o:Oper} {a:Act} {w:World} {K:Act→World→Prop} {Q:Exit→Act→World→Prop} (hd:∀c,o.op≠.defer c) (h:o.wp P a w K Q):o.wpIn (Fence.wide.inRound l) m P a w K Q:=by
 refine⟨fun _ _=>trivial,?_⟩
 rw[Oper.semAt_eq _ _ _ hd]
 unfold Oper.wp at h
 generalize (execOp a.eval o).run P w=r at *
 cases r with
 | ok x w'=>
  cases x with
  | enter f args=>exact⟨(fun h=>by cases h),CallsIn.inRound l (callsIn_wide.2 h)⟩
  | row r args=>exact⟨(fun h=>by cases h),fun c cs _=>by
    obtain⟨v,w'',hR,hs⟩:=h c cs
    exact⟨v,w'',hR,stepsIn_wide.2 hs⟩⟩
  | _=>first|exact h|exact False.elim h
 | halt x w'=>cases x<;>exact h
theorem anyIn_of_any {md:Region.Mode} {ops:Array Oper} {Q:Exit→Act→World→Prop} (hd:∀(i:Nat) (o:Oper),ops[i]? = some o→∀c,o.op≠.defer c) (hl:¬LetsOut Q) :
  ∀(fuel:Nat) (listed:Array Bool) (a:Act) (w:World),wpAny P md ops Q fuel listed a w→wpAnyIn (Fence.wide.inRound l) m P md ops Q fuel listed a w
 | 0,_,_,_,h=>h
 | fuel+1,listed,a,w,h=>by
  refine⟨h.1,fun i hi=>?_⟩
  have h1:=h.2 i hi
  unfold wpOp at h1
  unfold wpOpIn
  cases ho:ops[i]? with
  | none=>rw[ho] at h1;exact anyIn_of_any hd hl fuel _ a w h1
  | some o=>
   rw[ho] at h1
   simp only at h1 ⊢
   split
   ·rename_i hw
    rw[if_pos hw] at h1
    rcases h1 with h1 | ⟨_,h1⟩
    ·exact Oper.wpIn_mono (fun a w=>anyIn_of_any hd hl fuel _ a w) (opIn_of_wp (hd i o ho) h1)
    ·exact absurd h1 hl
   ·rename_i hw
    rw[if_neg hw] at h1
    exact⟨fun _ _=>trivial,anyIn_of_any hd hl fuel _ _ w h1⟩
theorem listIn_of_list {ops:Array Oper} {Q:Exit→Act→World→Prop} (hl:¬LetsOut Q) :
  ∀(rest:List Oper) (a:Act) (w:World),(∀o∈rest,∀c,o.op≠.defer c)→wpList P ops Q rest a w→wpListIn (Fence.wide.inRound l) m P ops Q rest a w
 | [],_,_,_,h=>h
 | o::rest,a,w,hd,h=>by
  unfold wpList at h
  unfold wpListIn
  split
  ·rename_i hw
   rw[if_pos hw] at h
   rcases h with h | ⟨_,h⟩
   ·exact Oper.wpIn_mono (fun a w=>listIn_of_list hl rest a w fun o ho=>hd o (List.mem_cons_of_mem _ ho)) (opIn_of_wp (hd o (List.mem_cons_self ..)) h)
   ·exact absurd h hl
  ·rename_i hw
   rw[if_neg hw] at h
   exact⟨fun _ _=>trivial,listIn_of_list hl rest _ w (fun o ho=>hd o (List.mem_cons_of_mem _ ho)) h⟩
theorem noDef_out {ops:Array Oper} (h:noDef ops=true):∀(i:Nat) (o:Oper),ops[i]? = some o→∀c,o.op≠.defer c:=fun i o ho c e=>by
 have hm:o∈ops.toList:=by rw[← (Array.getElem?_eq_some_iff.1 ho).2];simp
 have:=List.all_eq_true.1 h o hm
 rw[e] at this
 cases this
theorem vcIn_out {nt:Nat} {fk:List Nat} {X:XT} {c:Ctx} (hfk:∀k,c.σ0 k≠none→k∈fk) (hc:c.Ok) (hm:P.follows .mixedOrders=true):∀(cd:Code) (e:Env) (h:Hp) (n:List Nat) (Q:Cont) (σ:Sg) (a:Act) (w:World),okIn cd=true→(∀e h n,¬Q .outgrown e h n)→
  vc P nt fk X cd e h n Q→St c nt σ e h a w→(∀k,k∉n→σ k=none)→cd.wpIn (Fence.wide.inRound l) m P (After c nt X Q) a w
 | .skip,e,h,n,Q,σ,a,w,_,ho,hv,hs,hf=>wpIn_skip ⟨e,h,n,σ,hv,hs,hf⟩
 | .region id ops draw,e,h,n,Q,σ,a,w,hk,ho,hv,hs,hf=>by
  have hl:¬LetsOut (After c nt X Q):=by rintro⟨a,w,e,h,n,σ,hq,_⟩;exact ho _ _ _ hq
  have hk:noDef ops=true:=hk
  rcases region_mid (id:=id) (Q:=After c nt X Q) hc hv (fun x e h n σ a w hx hs hf=>⟨x,rfl,e,h,n,σ,hx,hs,hf⟩) hs hf (fun e' h' n' σ' a' w' hk hs' hf'=>⟨e',h',n',σ',hk,hs',hf'⟩) with ⟨rfl,q⟩ | ⟨rfl,q⟩
  ·refine wpIn_region_list (listIn_of_list hl _ _ _ (fun o ho c=>?_) q)
   obtain⟨i,hi,he⟩:=List.getElem_of_mem ho
   refine noDef_out hk i o ?_ c
   rw[← Array.getElem?_toList,List.getElem?_eq_getElem hi,he]
  ·exact wpIn_region_any hm (anyIn_of_any (noDef_out hk) hl _ _ _ _ q)
 | .seq x y,e,h,n,Q,σ,a,w,hk,ho,hv,hs,hf=>by
  have hk:(okIn x&&okIn y)=true:=hk
  rw[Bool.and_eq_true] at hk
  refine wpIn_seq (wpIn_mono (vcIn_out (X:=X) hfk hc hm x e h n (seqK (fun e' h' n'=>vc P nt fk X y e' h' n' Q) Q) σ a w hk.1 (fun e h n=>ho e h n) hv hs hf) ?_)
  intro ex a' w' hq
  cases ex with
  | normal=>
   obtain⟨e',h',n',σ',hq,hs',hf'⟩:=hq
   exact vcIn_out hfk hc hm y e' h' n' Q σ' a' w' hk.2 ho hq hs' hf'
  | exit id=>exact hq
  | goto l=>exact hq
  | ret=>exact hq
  | panic ch=>exact hq
  | outgrown=>exact hq
 | .cond o x y,e,h,n,Q,σ,a,w,hk,ho,hv,hs,hf=>by
  have hk:(okIn x&&okIn y)=true:=hk
  rw[Bool.and_eq_true] at hk
  rw[vc_cond] at hv
  split at hv
  ·rename_i b hb
   have h1:=rep_ev hs o
   rw[hb] at h1
   have h2:=rep_v h1
   obtain⟨ht,hff⟩:=hv
   refine wpIn_cond_split h2 (fun hb'=>vcIn_out hfk hc hm x e h n Q σ a w hk.1 ho (ht hb') hs hf) (fun hb'=>vcIn_out hfk hc hm y e h n Q σ a w hk.2 ho (hff hb') hs hf)
  ·exact hv.elim
 | .block id cd,e,h,n,Q,σ,a,w,hk,ho,hv,hs,hf=>by
  refine wpIn_block (wpIn_mono (vcIn_out (X:=X) hfk hc hm cd e h n (blockK id Q) σ a w hk (fun e h n=>ho e h n) hv hs hf) ?_)
  intro ex a' w' hq
  cases ex with
  | exit id'=>
   obtain⟨e',h',n',σ',hq,hs',hf'⟩:=hq
   simp only[Exit.inBlock]
   simp only[blockK] at hq
   split at hq
   ·rename_i hb
    rw[if_pos (Nat.eq_of_beq_eq_true hb)]
    exact⟨e',h',n',σ',hq,hs',hf'⟩
   ·rename_i hb
    rw[if_neg (fun e=>by subst e;rw[Nat.beq_refl] at hb;cases hb)]
    exact⟨e',h',n',σ',hq,hs',hf'⟩
  | normal=>exact hq
  | goto l=>exact hq
  | ret=>exact hq
  | panic ch=>exact hq
  | outgrown=>exact hq
 | .exit id,e,h,n,Q,σ,a,w,_,ho,hv,hs,hf=>wpIn_exit ⟨e,h,n,σ,hv,hs,hf⟩
 | .scope _,_,_,_,_,_,_,_,hk,_,_,_,_=>by cases hk
 | .loop _,_,_,_,_,_,_,_,hk,_,_,_,_=>by cases hk
 | .ret,_,_,_,_,_,_,_,hk,_,_,_,_=>by cases hk
 | .rangeFunc _ _ _ _,_,_,_,_,_,_,_,hk,_,_,_,_=>by cases hk
 | .label _,_,_,_,_,_,_,_,hk,_,_,_,_=>by cases hk
 | .goto _,_,_,_,_,_,_,_,hk,_,_,_,_=>by cases hk
 | .refuse _,_,_,_,_,_,_,_,hk,_,_,_,_=>by cases hk
end
def SeqP {α:Type} (F:Fence) (n:Nat) (P:Program) (g:Nat) (lb:Array Value) (encs:α→Array Value) (xs:List α) (T:World→Prop):Prop:=
 ∀(l:Nat) (J Jx:List α→World→Prop) (W:World),(∀s A,J s A→T A)→(∀s A,J s A→J s A.drew)→
  (∀pre x W1,J pre W1→xs[pre.length]? = some x→YieldAt F (n - 1) P l (encs x) W1 fun e W'=>
   (e=.returned (.bool true)∧J (pre++[x]) W')∨(e=.returned (.bool false)∧Jx (pre++[x]) W'))→
  J [] W→
  CallsIn F n P g (#[.func (.yield l) #[] #[]]++lb) W fun e W'=>(∃v,e=.returned v)∧(J xs W'∨∃pre,pre <+: xs∧Jx pre W')
structure Lets (B:Nat) (A A':World):Prop where
 size:A.heap.size≤A'.heap.size
 same:∀(k:Nat) (o:Obj),A.heap[k]? = some o→B≤k→o.isCells=false→A'.heap[k]? = some o
section
variable {F:Fence} {n:Nat} {P:Program}
theorem range_plain {α:Type} {g:Operand} {ps:Array Tmp} {assign body:Code} {Q:Exit→Act→World→Prop} {a:Act} {w:World}
  (hro:F.round=none) (h1:1≤n) {gf:Nat} {lb:Array Value} (hg:a.eval g=.func (.func gf) #[] lb) (hFg:F.fn gf) (eg:∀args w,(callFunc gf args).run P w=.ok (.enter gf args) w)
  {encs:α→Array Value} {xs:List α} {T:World→Prop} (hseq:SeqP F (n - 1) P gf lb encs xs T) (hps:∀x,(encs x).size=ps.size)
  (I:List α→World→Prop) (hT:∀s A,I s A→T A) (hIp:∀s A l r r',I s A→w.heap.size≤l→A.heap[l]? = some (.loop r)→I s (A.putObj l (.loop r'))) (hIa:∀s A o,I s A→I s (A.alloc o)) (hId:∀s A,I s A→I s A.drew) (h0:I [] w) (a₁:α→Act)
  (hassign:∀(l:Nat) (x:α) (W:World) (K:Act→World→Prop),K (a₁ x) W→
   assign.wpIn (F.inRound l) (n - 1 - 1) P (Exit.then K (fun _ _ _=>False)) { tmps:=(ps.zip (encs x)).foldl (fun t (p,v)=>t.setIfInBounds p v) a.tmps,defers:=[] } W)
  (hbody:∀(l:Nat) (pre:List α) (x:α) (W:World),I pre W→xs[pre.length]? = some x→w.heap.size≤W.heap.size→body.wpIn (F.inRound l) (n - 1 - 1) P (fun e _ W'=>e=.normal∧Lets w.heap.size W W'∧I (pre++[x]) W') (a₁ x) W)
  (hdone:∀(D:Nat) (W:World),w.heap.size≤D→I xs W→W.heap[D]? = some (.deferred (some []))→Q .normal { a with defers:={ target:=.collected D,args:=#[] }::a.defers } W) :
  (Code.rangeFunc g ps assign body).wpIn F n P Q a w:=by
 refine wpIn_rangeFunc ?_
 intro fn hfn
 rw[hro]
 obtain⟨rec,hrec⟩:∃rec:LoopState→Option Code→Loop,rec=fun st pe=>{ state:=st,pending:=pe,fn,tmps:=a.tmps,params:=ps,assign,body,defers:=w.heap.size }:=⟨_,rfl⟩
 obtain⟨W1,hW1⟩:∃W1,(w.alloc (.deferred (some []))).alloc (.loop (rec .ready none))=W1:=⟨_,rfl⟩
 obtain⟨L,hL⟩:∃L,w.heap.size+1=L:=⟨_,rfl⟩
 have hL1:W1.heap[L]? = some (.loop (rec .ready none)):=by
  rw[← hW1,← hL];have:=World.alloc_heap_new (w.alloc (.deferred (some []))) (.loop (rec .ready none));rwa [World.size_alloc] at this
 have hK1:W1.heap[w.heap.size]? = some (.deferred (some [])):=by
  rw[← hW1];exact (Below.heap_alloc _ _ _ (by simp)).trans (World.alloc_heap_new w _)
 have he:=run_enterLoop_outer (P:=P) (w:=w) fn a.tmps ps assign body
 rw[show ((w.alloc (.deferred (some []))).alloc (.loop { state:=.ready,pending:=none,fn,tmps:=a.tmps,params:=ps,assign,body,defers:=w.heap.size }))=W1 by rw[← hW1,hrec],hL] at he
 refine⟨L,[{ target:=.collected w.heap.size,args:=#[] }],W1,{ target:=.fn (.func gf) lb,args:=#[.func (.yield L) #[] #[]] },W1,gf,
  #[.func (.yield L) #[] #[]]++lb,W1,he,?_,?_,?_,fun _=>h1,?_⟩
 ·simp only[resolve,hg]
  simp[go_sem]
 ·intro f' hf';simp[Target.leads] at hf';subst hf';exact hFg
 ·simp[invoke,go_sem,eg]
 let Books:Loop→World→Prop:=fun r W=>W.heap[L]? = some (.loop r)∧W.heap[w.heap.size]? = some (.deferred (some []))∧w.heap.size≤W.heap.size
 have books_put:∀{r A} (r':Loop),Books r A→Books r' (A.putObj L (.loop r')):=fun r' h=>
  ⟨World.putObj_heap_same (Array.getElem?_eq_some_iff.1 h.1).1,(World.putObj_heap_other (by omega)).trans h.2.1,by simpa using h.2.2⟩
 have hsz1:w.heap.size≤W1.heap.size:=by rw[← hW1];simp;omega
 refine (hseq L (fun pre W=>I pre W∧Books (rec .ready none) W) (fun _ _=>False) W1
  (fun s A h=>hT s A h.1) (fun s A h=>⟨hId s A h.1,h.2.1,h.2.2⟩) ?_ ⟨by rw[← hW1];exact hIa _ _ _ (hIa _ _ _ h0),hL1,hK1,hsz1⟩).mono ?_
 ·rintro pre x W ⟨hi,hb⟩ hx
  have hy:=run_yield (P:=P) (args:=encs x) hb.1 (by rw[hrec];exact hps x)
  rw[hrec] at hy
  refine⟨fn,_,assign,body,hy,roundIn_of_wpIn hfn (hassign _ x W _ ⟨_,run_beginRound hb.1 (by rw[hrec]),?_⟩)⟩
  have hb2:=books_put { rec .ready none with state:=.busy } hb
  have hi2:=hIp _ _ L _ { rec .ready none with state:=.busy } hi (by omega) hb.1
  rw[hrec] at hb2 hi2 ⊢
  refine wpIn_mono (hbody _ pre x _ hi2 hx hb2.2.2) ?_
  rintro e a3 W3 ⟨rfl,hk,hi3⟩
  have h3:=hk.same _ _ hb2.1 (by omega) rfl
  have h3k:=hk.same _ _ hb2.2.1 (Nat.le_refl _) rfl
  have hr:=run_endRound (P:=P) none h3
  refine⟨_,_,hr,.inl ⟨rfl,hIp _ _ L _ _ hi3 (by omega) h3,?_,?_,?_⟩⟩
  ·exact World.putObj_heap_same (Array.getElem?_eq_some_iff.1 h3).1
  ·exact (World.putObj_heap_other (by omega)).trans h3k
  ·have:=hk.size;have:=hb2.2.2;simp at *;omega
 ·rintro e W2 ⟨⟨v,rfl⟩,(⟨hi,hb⟩ | ⟨pre,hpre,h⟩)⟩
  ·refine⟨none,_,by have:=run_endLoop (P:=P) hb.1 (by rw[hrec];simp);rw[hrec] at this;exact this,hdone _ _ (Nat.le_refl _) (hIp _ _ L _ _ hi (by omega) hb.1) ?_⟩
   exact (World.putObj_heap_other (by omega)).trans hb.2.1
  ·exact h.elim
end
end
section
open Go.RowKit K
attribute [local go_sem] Oper.semAt_some
def prs {α β:Type} (xa:List α) (xb:List β):List (α×β):=xa.flatMap fun x=>xb.map fun y=>(x,y)
theorem prs_snoc {α β:Type} (xa:List α) (xb:List β) {k:Nat} (hk:k<xa.length):prs (xa.take (k+1)) xb=prs (xa.take k) xb++xb.map fun y=>(xa[k],y):=by
 unfold prs;rw[List.take_succ_eq_append_getElem hk,List.flatMap_append];simp
theorem prs_cut {α β:Type} (xa:List α) (xb:List β) {k:Nat} (hk:k<xa.length):prs xa xb=prs (xa.take k) xb++((xb.map fun y=>(xa[k],y))++prs (xa.drop (k+1)) xb):=by
 unfold prs
 conv=>lhs;rw[← List.take_append_drop k xa,List.drop_eq_getElem_cons hk]
 rw[List.flatMap_append,List.flatMap_cons]
theorem prs_at {α β:Type} (xa:List α) (xb:List β) {k j:Nat} (hk:k<xa.length) (hj:j<xb.length) :
  (prs xa xb)[(prs (xa.take k) xb++(xb.take j).map fun y=>(xa[k],y)).length]? = some (xa[k],xb[j]):=by
 rw[prs_cut xa xb hk,List.length_append,List.getElem?_append_right (by omega),List.length_map,List.length_take,Nat.min_eq_left (by omega),Nat.add_sub_cancel_left,List.getElem?_append_left (by simpa using hj)]
 simp[hj]
theorem map_snoc {α β:Type} (f:α→β) (l:List α) {j:Nat} (hj:j<l.length):(l.take (j+1)).map f=(l.take j).map f++[f l[j]]:=by
 rw[List.take_succ_eq_append_getElem hj,List.map_append];rfl
set_option maxRecDepth 100000 in
set_option maxHeartbeats 1000000 in
theorem pairs_any (n:Nat) (k1 k2 la lb ca cb:Nat) (a b:Option Addr) (xa xb:List Value) :
  SeqP Fence.wide n Tryz.prog 83 #[.pointer (some ⟨k1,0,none⟩),.pointer (some ⟨k2,0,none⟩)] (fun x:Value×Value=>#[x.1,x.2]) (prs xa xb)
   (fun W=>Seen W (.slice a la ca) la 1 xa∧Seen W (.slice b lb cb) lb 1 xb∧W.cell? ⟨k1,0,none⟩=some (.slice a la ca)∧W.cell? ⟨k2,0,none⟩=some (.slice b lb cb)):=by
 intro l J Jx W hT hD hY h0
 refine callsIn_of_wp Tryz.func83 rfl trivial ?_ rfl
 simp only[Tryz.ntmps83,List.size_toArray,List.length_cons,List.length_nil,Nat.reduceAdd,Nat.reduceSub,Array.replicate_succ,Array.replicate_zero,List.push_toArray,List.append_toArray,List.nil_append,List.cons_append]
 obtain⟨hA,hB,hc1,hc2⟩:=hT _ _ h0
 obtain⟨ha0,a',ca',ha1,ha2,ha3,_,ha4⟩:=hA
 obtain⟨hb0,b',cb',hb1,hb2,hb3,_,hb4⟩:=hB
 unfold maxLen at ha3 hb3
 simp only[Value.slice.injEq,true_and] at ha1 hb1
 obtain⟨rfl,rfl⟩:=ha1
 obtain⟨rfl,rfl⟩:=hb1
 have hal:xa.length=la:=by omega
 have hbl:xb.length=lb:=by omega
 clear hb4 ha4
 gi_wp2
 gi_loopw [10] (fun i wr=>∃k:Nat,k≤la∧i=.int .i64 (k:Int)∧J (prs (xa.take k) xb) wr) (fun i _=>la - (intOf i).toNat)
 case atStart=>exact⟨0,by omega,rfl,h0⟩
 case round=>
  obtain⟨k,hk,rfl,hj⟩:=hrel
  obtain⟨hA,hB,hc1,hc2⟩:=hT _ _ hj
  by_cases h:k<la
  ·obtain⟨_,a',ca',ha1,_,_,_,ha4⟩:=hA
   simp only[Value.slice.injEq,true_and] at ha1
   obtain⟨rfl,rfl⟩:=ha1
   obtain⟨ba,oa,rfl,hba,hcl⟩:=ha4.resolve_left (by omega)
   have hx:=hcl k xa[k] (by simp[hal,h])
   gi_wp2
   gi_loopw [16] (fun i wr=>∃j:Nat,j≤lb∧i=.int .i64 (j:Int)∧J (prs (xa.take k) xb++(xb.take j).map fun y=>(xa[k],y)) wr) (fun i _=>lb - (intOf i).toNat)
   case atStart=>exact⟨0,by omega,rfl,by simpa using hj⟩
   case round=>
    obtain⟨j,hjl,rfl,hj2⟩:=hrel
    obtain⟨hA,hB,hc1,hc2⟩:=hT _ _ hj2
    by_cases h2:j<lb
    ·obtain⟨_,b',cb',hb1,_,_,_,hb4⟩:=hB
     simp only[Value.slice.injEq,true_and] at hb1
     obtain⟨rfl,rfl⟩:=hb1
     obtain⟨bb,ob,rfl,hbb,hcl2⟩:=hb4.resolve_left (by omega)
     have hy:=hcl2 j xb[j] (by simp[hbl,h2])
     obtain⟨fn,tmps,assign,body,hyl,hR⟩:=hY _ _ _ hj2 (prs_at xa xb (by omega) (by omega))
     dsimp only at hyl
     gi_wp2
     refine⟨(fun h=>by cases h),hR.mono ?_⟩
     rintro e W3 (⟨rfl,hJ3⟩ | ⟨rfl,hJx3⟩)
     ·gi_wp2
      go_roundw
      case rel=>exact⟨j+1,by omega,by go_num,by rw[map_snoc _ _ (by omega),← List.append_assoc];exact hJ3⟩
      case measure=>simp[intOf];omega
     ·gi_wp2
      refine bodyPost_ret (results_none rfl _ _ _) rfl ?_
      refine⟨⟨_,rfl⟩,.inr ⟨_,?_,hJx3⟩⟩
      rw[List.append_assoc,← map_snoc (fun y=>(xa[k],y)) xb (by omega),prs_cut xa xb (k:=k) (by omega)]
      refine List.prefix_append_right_inj _ |>.2 ?_
      refine List.IsPrefix.trans ?_ (List.prefix_append _ _)
      exact List.IsPrefix.map _ (List.take_prefix _ _)
    ·obtain rfl:j=lb:=by omega
     gi_wp2
     go_roundw
     case rel=>exact⟨k+1,by omega,by go_num,by rw[prs_snoc xa xb (by omega)];rw[List.take_of_length_le (l:=xb) (by omega)] at hj2;exact hj2⟩
     case measure=>simp[intOf];omega
  ·obtain rfl:k=la:=by omega
   gi_wp2
   go_end0
   rw[List.take_of_length_le (by omega)] at hj
   exact⟨⟨_,rfl⟩,.inl hj⟩
end
section
open Go.RowKit
def tx (l:List UInt8):ByteArray:=⟨l.toArray⟩
theorem list_tx (l:List UInt8):(tx l).data.toList=l:=rfl
theorem tx_list (s:ByteArray):tx s.data.toList=s:=by cases s;simp[tx]
theorem tx_inj {a b:List UInt8} (h:tx a=tx b):a=b:=by rw[← list_tx a,h,list_tx]
theorem tx_eq {a b:List UInt8}:tx a=tx b↔a=b:=⟨tx_inj,fun h=>by rw[h]⟩
theorem tx_size (l:List UInt8):(tx l).size=l.length:=rfl
theorem tx_append (a b:List UInt8):tx a++tx b=tx (a++b):=by
 have h:(tx a++tx b).data.toList=a++b:=by simp[ByteArray.data_append,tx]
 rw[← tx_list (tx a++tx b),h]
theorem extract_tx (l:List UInt8) (a b:Nat):(tx l).extract a b=tx ((l.drop a).take (b - a)):=by
 have h:((tx l).extract a b).data.toList=(l.drop a).take (b - a):=by
  simp[ByteArray.data_extract,tx]
 rw[← tx_list ((tx l).extract a b),h]
def by1 (n:Int):UInt8:=UInt8.ofNat (n%256).toNat
theorem by1_int (n:Int):((by1 n).toNat:Int)=n%256:=by
 have h1:0≤n%256:=by omega
 have h2:n%256<256:=by omega
 unfold by1
 rw[UInt8.toNat_ofNat']
 omega
theorem u8_lt (b:UInt8):(b.toNat:Int)<256∧0≤(b.toNat:Int):=by have:=UInt8.toNat_lt b;omega
theorem u8_eq {a b:UInt8}:((a.toNat:Int)=(b.toNat:Int))↔a=b:=⟨fun h=>UInt8.toNat_inj.1 (by omega),fun h=>by rw[h]⟩
theorem bRows_length (l:List UInt8):(byteRows l).length=l.length:=List.length_map _
theorem Wr.u8 {x:Int} {K:Int→Prop} (h:K ((by1 x).toNat:Int)):Wr .u8 x K:=⟨_,by rw[by1_int];exact IntKind.wrap_u8' x,h⟩
theorem Wr.u32 {x:Int} {K:Int→Prop} (h1:0≤x) (h2:x≤4294967295) (h:K x):Wr .u32 x K:=⟨x,IntWalk.u32_in x ⟨h1,h2⟩,h⟩
theorem Wr.u64 {x:Int} {K:Int→Prop} (h1:0≤x) (h2:x≤18446744073709551615) (h:K x):Wr .u64 x K:=⟨x,IntWalk.u64_in x ⟨h1,h2⟩,h⟩
theorem lens:(∀{α β:Type} {f:α→β} {l:List α},(l.map f).length=l.length)∧(∀{α:Type} {a b:List α},(a++b).length=a.length+b.length)∧(∀{α:Type} {l:List α} {i:Nat} {x:α},(l.set i x).length=l.length)∧
  (∀{α:Type} {l:List α} {i:Nat},(l.take i).length=min i l.length)∧(∀{α:Type} {l:List α} {i:Nat},(l.drop i).length=l.length - i)∧(∀{α:Type} {n:Nat} {x:α},(List.replicate n x).length=n)∧
  (∀{α:Type} {x:α} {l:List α},(x::l).length=l.length+1)∧(∀{α:Type},([]:List α).length=0)∧(∀{l:List UInt8},(tx l).size=l.length)∧(∀{l:List UInt8},(⟨l.toArray⟩:ByteArray).size=l.length)∧
  (∀{a b:ByteArray},(a++b).size=a.size+b.size):=
 ⟨List.length_map _,List.length_append,List.length_set,List.length_take,List.length_drop,List.length_replicate,List.length_cons,List.length_nil,rfl,rfl,ByteArray.size_append⟩
theorem Wr.ci {x:Int} {K:Int→Prop} (h:-9223372036854775808≤x∧x≤9223372036854775807) (k:K x):Wr .i64 x K:=Wr.i64 h.1 h.2 k
theorem Wr.c3 {x:Int} {K:Int→Prop} (h:0≤x∧x≤4294967295) (k:K x):Wr .u32 x K:=Wr.u32 h.1 h.2 k
theorem Wr.c6 {x:Int} {K:Int→Prop} (h:0≤x∧x≤18446744073709551615) (k:K x):Wr .u64 x K:=Wr.u64 h.1 h.2 k
theorem SIdx.tx {l:List UInt8} {n:Int} {K:Int→Prop} (k:Nat) (hk:n=k) (h:k<l.length) (hK:K ((l.getD k 0).toNat:Int)):SIdx (tx l) n K:=by
 subst hk
 have h1:l[k]? = some l[k]:=List.getElem?_eq_getElem h
 have h2:l.getD k 0=l[k]:=by rw[List.getD_eq_getElem?_getD,h1];rfl
 exact⟨l.getD k 0,by omega,by show l[(k:Int).toNat]? = _;rw[Int.toNat_natCast,h1,h2],hK⟩
theorem Row.bytes {l:List UInt8} {k:Nat} {K:List C→Prop} (h:k<l.length) (hK:K [C.v (.int .u8 ((l.getD k 0).toNat:Int))]):Row (byteRows l) k K:=by
 have h1:l[k]? = some l[k]:=List.getElem?_eq_getElem h
 have h2:l.getD k 0=l[k]:=by rw[List.getD_eq_getElem?_getD,h1];rfl
 exact⟨_,by unfold byteRows;rw[List.getElem?_map,h1,← h2];rfl,hK⟩
theorem Idx.bytes {l:List UInt8} {n:Int} {K:List C→Prop} (k:Nat) (hk:n=k) (h:k<l.length) (hK:K [C.v (.int .u8 ((l.getD k 0).toNat:Int))]):Idx (byteRows l) n K:=by
 subst hk
 have h1:l[k]? = some l[k]:=List.getElem?_eq_getElem h
 have h2:l.getD k 0=l[k]:=by rw[List.getD_eq_getElem?_getD,h1];rfl
 exact⟨_,by omega,by rw[Int.toNat_natCast];unfold byteRows;rw[List.getElem?_map,h1,← h2];rfl,hK⟩
theorem Bytes.mk' {l:List UInt8} {K:List UInt8→Prop} (h:K l):Bytes (byteRows l) K:=⟨l,rfl,h⟩
theorem Bytes.of {r:List (List C)} {l:List UInt8} {K:List UInt8→Prop} (e:r=byteRows l) (h:K l):Bytes r K:=⟨l,e,h⟩
theorem BCase.not {b:Bool} {A B:Prop} (h:BCase b B A):BCase (!b) A B:=by
 obtain⟨h1,h2⟩:=h
 exact⟨fun e=>h2 (by simpa using e),fun e=>h1 (by simpa using e)⟩
theorem BCase.and {a b:Bool} {A B:Prop} (h:BCase a (BCase b A B) B):BCase (a&&b) A B:=by
 obtain⟨h1,h2⟩:=h
 cases a
 ·exact⟨(fun e=>by cases e),fun _=>h2 rfl⟩
 ·exact h1 rfl
theorem BCase.or {a b:Bool} {A B:Prop} (h:BCase a A (BCase b A B)):BCase (a||b) A B:=by
 obtain⟨h1,h2⟩:=h
 cases a
 ·exact h2 rfl
 ·exact⟨fun _=>h1 rfl,(fun e=>by cases e)⟩
theorem PLe.text {f:Nat→Option Nat} {n:List Nat} {a b:ByteArray} (h:b=a):PLe f n (pStr a) (pStr b):=by rw[h];exact .inl rfl
theorem PLe.bool {f:Nat→Option Nat} {n:List Nat} {a b:Bool} (h:b=a):PLe f n (pBool a) (pBool b):=by rw[h];exact .inl rfl
theorem Ret.int {k:IntKind} {a b:Int} (h:a=b):Ret (pInt k a) (pInt k b):=Ret.mk (by rw[h])
theorem Ret.bool {a b:Bool} (h:a=b):Ret (pBool a) (pBool b):=Ret.mk (by rw[h])
theorem Ret.text {a b:List UInt8} (h:a=b):Ret (pStr (tx a)) (pStr (tx b)):=Ret.mk (by rw[h])
theorem Ret.eq {v r:PV} (h:v=r):Ret v r:=Ret.mk h
theorem a_ {A B:Prop} (h:A):BCase true A B:=BCase.tt h
theorem b_ {A B:Prop} (h:B):BCase false A B:=BCase.ff h
theorem c_ {x:Int} {K:Int→Prop} (h:K ((by1 x).toNat:Int)):Wr .u8 x K:=Wr.u8 h
theorem d_ {x:Int} {K:Int→Prop} (h:-9223372036854775808≤x∧x≤9223372036854775807) (k:K x):Wr .i64 x K:=Wr.ci h k
theorem e_ {x:Int} {K:Int→Prop} (h:0≤x∧x≤4294967295) (k:K x):Wr .u32 x K:=Wr.c3 h k
theorem f_ {x:Int} {K:Int→Prop} (h:0≤x∧x≤18446744073709551615) (k:K x):Wr .u64 x K:=Wr.c6 h k
theorem g_ {p:Prop} [Decidable p] {A B:Prop} (hp:p) (h:A):BCase (decide p) A B:=BCase.dt hp h
theorem h_ {p K:Prop} (hp:p) (h:K):Need p K:=Need.mk hp h
theorem i_ {p:Prop} [Decidable p] {A B:Prop} (hp:¬p) (h:B):BCase (decide p) A B:=BCase.df hp h
theorem l_ {k:Nat} {A B:Prop} (h:A):EmpOr k A B:=EmpOr.app h
theorem m_ {b:Bool} {A B:Prop} (h:BCase b B A):BCase (!b) A B:=BCase.not h
theorem n_ {a b:Bool} {A B:Prop} (h:BCase a (BCase b A B) B):BCase (a&&b) A B:=BCase.and h
theorem o_ {a b:Bool} {A B:Prop} (h:BCase a A (BCase b A B)):BCase (a||b) A B:=BCase.or h
theorem p_ {p:Prop} [Decidable p] {A B:Prop} (h1:p→A) (h2:¬p→B):BCase (decide p) A B:=BCase.d h1 h2
theorem r_ {P:Program} {f:FuncId} {args ys:List PV} {h:Hp} {K:OpK} {X:Value→Hp→Prop} {r:PV} (hc:Pure P f ys r) (hy:closesTo args ys) (hk:K r [] []):CallP P f args h K X:=CallP.pure ys hy r hc hk
theorem s_ {b:Bool} {A B:Prop} (hb:b=true) (h:A):BCase b A B:=BCase.t hb h
theorem t_ {b:Bool} {A B:Prop} (hb:b=false) (h:B):BCase b A B:=BCase.f hb h
theorem q_:(∀{α β:Type} {f:α→β} {l:List α},(l.map f).length=l.length)∧(∀{α:Type} {a b:List α},(a++b).length=a.length+b.length)∧(∀{α:Type} {l:List α} {i:Nat} {x:α},(l.set i x).length=l.length)∧
  (∀{α:Type} {l:List α} {i:Nat},(l.take i).length=min i l.length)∧(∀{α:Type} {l:List α} {i:Nat},(l.drop i).length=l.length - i)∧(∀{α:Type} {n:Nat} {x:α},(List.replicate n x).length=n)∧
  (∀{α:Type} {x:α} {l:List α},(x::l).length=l.length+1)∧(∀{α:Type},([]:List α).length=0)∧(∀{l:List UInt8},(tx l).size=l.length)∧(∀{l:List UInt8},(⟨l.toArray⟩:ByteArray).size=l.length)∧
  (∀{a b:ByteArray},(a++b).size=a.size+b.size)∧(∀{p:Prop},(True∧p)=p)∧(∀{p:Prop},(p∧True)=p):=by
 obtain⟨h1,h2,h3,h4,h5,h6,h7,h8,h9,h10,h11⟩:=lens
 exact⟨h1,h2,h3,h4,h5,h6,h7,h8,h9,h10,h11,true_and _,and_true _⟩
end
section
open Go.RowKit K
abbrev FW (w:World):Fzn:=fun b _=>b<w.heap.size
def OpensC (P:Program) (t:TypeId) (sz:Nat) {α:Type} (enc:α→List C) (ok:α→Prop):Prop:=
 Opens P t sz (fun w cs a=>CsRep (FW w) w (enc a) cs) ok
def eInt (x:Int):List C:=[.v (.int .i64 x)]
def eText (l:List UInt8):List C:=[.v (.string (tx l))]
def eSl {α:Type} (sz:Nat) (enc:α→List C) (l:List α):List C:=[.sl sz (l.map enc)]
def okInt (x:Int):Prop:=-9223372036854775808≤x∧x≤9223372036854775807
def okText (l:List UInt8):Prop:=l.length≤140737488351232
def okAny {α:Type} (_:α):Prop:=True
def okSl {α:Type} (b:Nat) (ok:α→Prop) (l:List α):Prop:=l.length*b≤140737488351232∧∀x∈l,ok x
section
variable {P:Program}
theorem openC_int {t:TypeId} (hu:P.underlying t=some (.int .i64)) (hc:P.cellsOf t=1):OpensC P t 1 eInt okInt:=by
 obtain⟨h1,h2,h3⟩:=opens_i64 hu hc
 refine⟨h1,h2,fun h l=>?_⟩
 obtain⟨h4,a,rfl,h6⟩:=h3 h l
 exact⟨h4,a,csRep_cons (by unfold CRep;exact⟨rfl,rfl⟩) csRep_nil,h6⟩
theorem openC_text {t:TypeId} (hu:P.underlying t=some .string) (hc:P.cellsOf t=1):OpensC P t 1 eText okText:=by
 obtain⟨h1,h2,h3⟩:=opens_string hu hc
 refine⟨h1,h2,fun h l=>?_⟩
 obtain⟨h4,a,rfl,h6⟩:=h3 h l
 exact⟨h4,a.data.toList,csRep_cons (by unfold CRep;rw[tx_list];exact⟨rfl,rfl⟩) csRep_nil,h6⟩
theorem csRep_rows {α:Type} {F:Fzn} {w:World} {enc:α→List C}:∀{l:List α} {css:List (List Value)},css.length=l.length→(∀(i:Nat) c x,css[i]? = some c→l[i]? = some x→CsRep F w (enc x) c)→CsRep F w (l.map enc).flatten css.flatten
 | [],[],_,_=>csRep_nil
 | [],_::_,h,_=>by simp at h
 | _::_,[],h,_=>by simp at h
 | x::l,c::css,h,k=>by
  rw[List.map_cons,List.flatten_cons,List.flatten_cons]
  exact (k 0 c x rfl rfl).append (csRep_rows (by simpa using h) fun i d y hd hy=>k (i+1) d y (by simpa using hd) (by simpa using hy))
theorem openC_slice {t e:TypeId} {sz:Nat} {α:Type} {enc:α→List C} {ok:α→Prop} (hu:P.underlying t=some (.slice e)) (hc:P.cellsOf t=1) (hl:∀x,(enc x).length=sz) (he:OpensC P e sz enc ok) :
  OpensC P t 1 (eSl sz enc) (okSl (P.bytesOf e) ok):=by
 obtain⟨h1,h2,h3⟩:=opens_slice hu hc he
 refine⟨h1,h2,fun h l=>?_⟩
 obtain⟨h4,a,⟨v,rfl,css,hs,hcl,hcs⟩,h6⟩:=h3 h l
 refine⟨h4,a,csRep_cons ?_ csRep_nil,h6⟩
 obtain⟨g0,ad,cap,rfl,g1,g2,g3,g4⟩:=hs
 unfold CRep
 refine⟨ad,cap,by rw[List.length_map],by rw[List.length_map];exact g1,g2,g3,?_⟩
 rcases g4 with g4 | ⟨b,off,rfl,g5,g6⟩
 ·left
  rw[List.eq_nil_of_length_eq_zero g4];rfl
 ·right
  refine⟨b,off,rfl,?_⟩
  rw[rowsAt_iff]
  refine⟨fun r hr=>?_,csAt_of_values (csRep_rows hcl fun i c x hc hx=>(hcs i c x hc hx).2) (fun j u hu=>g6 j u hu) fun j hj=>g5⟩
  obtain⟨x,_,rfl⟩:=List.mem_map.1 hr
  exact hl x
theorem cs_field {F:Fzn} {w:World} {cs:List Value} {l m:List C} {off sz:Nat} (h1:CsRep F w l ((cs.drop off).take sz)) (h2:CsRep F w m (cs.drop (off+sz))):CsRep F w (l++m) (cs.drop off):=by
 have:=h1.append h2
 rwa [← List.drop_drop,List.take_append_drop] at this
theorem cs_end {F:Fzn} {w:World} {cs:List Value} {n:Nat} (h:cs.length=n):CsRep F w [] (cs.drop n):=by
 rw[List.drop_of_length_le (by omega)];exact csRep_nil
theorem prep_one {w:World} {c:C} {v:Value} (hv:v.cells.toList=[v]) (h:CsRep (FW w) w [c] v.cells.toList):PRep (fun _=>none) (FW w) w (.d (.c c)) v:=by
 rw[hv] at h
 obtain⟨u,us,e,h1,_⟩:=csRep_inv h
 cases e
 unfold PRep DRep
 exact h1
theorem psF_nil {w:World}:PsRep (fun _=>none) (FW w) w [] []:=by unfold PsRep;trivial
theorem psF_cons {w:World} {x:PV} {xs:List PV} {u:Value} {us:List Value} (h:PRep (fun _=>none) (FW w) w x u) (hs:PsRep (fun _=>none) (FW w) w xs us):PsRep (fun _=>none) (FW w) w (x::xs) (u::us):=by unfold PsRep;exact⟨h,hs⟩
theorem Pure.walkF {f:FuncId} {args:List PV} (h:Pure P f args (pBool true)) {w:World} (hG:GL w) (vs:List Value) (hargs:PsRep (fun _=>none) (FW w) w args vs) :
  Calls P f vs.toArray w fun e w'=>e=.returned (.bool true)∧Below w.heap.size w w':=by
 refine (h.2 (FW w) w vs hG (fun _ _ e=>e) hargs).mono ?_
 rintro e w' ⟨v,rfl,hb,hr⟩
 rw[rep_v hr]
 exact⟨rfl,hb⟩
end
end
section
open Go.RowKit K
set_option maxRecDepth 100000
def listEqB {α:Type} (eq:α→α→Bool):List α→List α→Bool
 | [],[]=>true
 | x::a,y::b=>eq x y&&listEqB eq a b
 | _,_=>false
theorem listEqB_iff {α:Type} {eq:α→α→Bool} (h:∀x y,eq x y=true↔x=y):∀a b:List α,listEqB eq a b=true↔a=b
 | [],[]=>by simp[listEqB]
 | [],_::_=>by simp[listEqB]
 | _::_,[]=>by simp[listEqB]
 | x::a,y::b=>by
  unfold listEqB
  rw[Bool.and_eq_true,h,listEqB_iff h a b,List.cons.injEq]
theorem listEqB_len {α:Type} {eq:α→α→Bool}:∀{a b:List α},a.length≠b.length→listEqB eq a b=false
 | [],[],h=>absurd rfl h
 | [],_::_,_=>rfl
 | _::_,[],_=>rfl
 | x::a,y::b,h=>by
  unfold listEqB
  rw[listEqB_len (a:=a) (b:=b) (by simpa using h),Bool.and_false]
theorem listEqB_step {α:Type} {eq:α→α→Bool}:∀{a b:List α} {k:Nat},listEqB eq (a.take k) (b.take k)=true→(h1:k<a.length)→(h2:k<b.length)→listEqB eq (a.take (k+1)) (b.take (k+1))=eq a[k] b[k]
 | x::a,y::b,0,_,_,_=>by simp[listEqB]
 | x::a,y::b,k+1,h,h1,h2=>by
  simp only[List.take_succ_cons,listEqB,Bool.and_eq_true] at h
  have:=listEqB_step (k:=k) h.2 (by simpa using h1) (by simpa using h2)
  simp only[List.take_succ_cons,List.getElem_cons_succ]
  unfold listEqB
  rw[h.1,Bool.true_and]
  simpa using this
theorem listEqB_stop {α:Type} {eq:α→α→Bool}:∀{a b:List α} {k:Nat} (h1:k<a.length) (h2:k<b.length),eq a[k] b[k]=false→listEqB eq a b=false
 | x::a,y::b,0,_,_,h=>by
  simp only[List.getElem_cons_zero] at h
  unfold listEqB;rw[h,Bool.false_and]
 | x::a,y::b,k+1,h1,h2,h=>by
  simp only[List.getElem_cons_succ] at h
  unfold listEqB
  rw[listEqB_stop (k:=k) (by simpa using h1) (by simpa using h2) h,Bool.and_false]
theorem listEqB_all {α:Type} {eq:α→α→Bool} {a b:List α} {k:Nat} (h:listEqB eq (a.take k) (b.take k)=true) (h1:a.length≤k) (h2:b.length≤k):listEqB eq a b=true:=by
 rwa [List.take_of_length_le h1,List.take_of_length_le h2] at h
theorem tx_empty {l:List UInt8}:tx l=⟨#[]⟩↔l=[]:=by
 rw[show (⟨#[]⟩:ByteArray)=tx [] from rfl,tx_eq]
theorem tx_empty_len {l:List UInt8}:tx l=⟨#[]⟩↔l.length=0:=by rw[tx_empty,List.length_eq_zero_iff]
abbrev slV {α:Type} (sz:Nat) (enc:α→List C) (l:List α):PV:=.d (.c (.sl sz (l.map enc)))
theorem take_snoc {α:Type} {l:List α} {k:Nat} (h:k<l.length):l.take (k+1)=l.take k++[l[k]]:=List.take_succ_eq_append_getElem h
theorem CLe.int {k:IntKind} {a b:Int} (h:b=a):CLe (.v (.int k a)) (.v (.int k b)):=by rw[h];exact .inl rfl
theorem CLe.text {a b:ByteArray} (h:b=a):CLe (.v (.string a)) (.v (.string b)):=by rw[h];exact .inl rfl
theorem CLe.bool {a b:Bool} (h:b=a):CLe (.v (.bool a)) (.v (.bool b)):=by rw[h];exact .inl rfl
theorem PLe.sl {f:Nat→Option Nat} {n:List Nat} {sz:Nat} {a b:List (List C)} (h:b=a):PLe f n (.d (.c (.sl sz a))) (.d (.c (.sl sz b))):=by rw[h];exact .inl rfl
theorem Pure.le {P:Program} {f:FuncId} {args args':List PV} {res:PV} (h:Pure P f args res) (hl:PLeT (fun _=>none) [] args args'):Pure P f args' res:=by
 refine⟨h.1,fun F w vs hG hF hus=>h.2 F w vs hG hF ?_⟩
 have:=psrep_wk (σ:=fun _=>none) (f:=fun _=>none) (n:=[]) (F':=F) (w:=w) ⟨fun _ _ h=>h,fun _ _ _=>rfl⟩ _ _ _ hl hus
 have e1:newSg (fun _=>none) (fun _=>none) ([]:List Nat)=fun _=>none:=by funext k;unfold newSg;rw[if_neg (by simp[kin])]
 rwa [e1] at this
section
variable {σ σ':Sg} {F F':Fzn} {w w':World}
end
theorem Need.by {n b lim:Nat} {K:Prop} (B:Nat) (hb:b=B) (h:n*B≤lim) (k:K):Need (n*b≤lim) K:=by subst hb;exact⟨h,k⟩
theorem Idx.mapE {α:Type} {f:α→List C} {l:List α} {x:α} {n:Int} {K:List C→Prop} (k:Nat) (hk:n=(k:Int)) (hn:k<l.length) (hx:l[k]=x) (h:K (f x)):Idx (l.map f) n K:=by
 subst hx;exact Idx.mapI k hk hn h
end
section
open Go.RowKit K
set_option maxRecDepth 100000
structure ValueD where
 Kind:Int
 N:Int
 S:List UInt8
def ValueD.c (x:ValueD):List C:=[.v (.int .i64 x.Kind),.v (.int .i64 x.N),.v (.string (tx x.S))]
def ValueD.ok (x:ValueD):Prop:=okInt x.Kind∧okInt x.N∧okText x.S
theorem openC_Value:OpensC Tryz.prog 33 3 ValueD.c ValueD.ok:=by
 refine⟨by kernel_rfl,by decide,?_⟩
 intro H enc w spare held fuel cs x h hl
 have ht:Tryz.prog.underlying 33=some (.struct (Tryz.prog.fieldsOf 33)):=by kernel_rfl
 have hlen:=struct_len ht h
 rw[show Tryz.prog.cellsOf 33=3 by kernel_rfl] at hlen
 obtain⟨a0,e0,k0⟩:=field_of ht h hl 0 3 0 1 (by kernel_rfl) (openC_int Tryz.underlying3 (by kernel_rfl))
 obtain⟨a1,e1,k1⟩:=field_of ht h hl 1 2 1 1 (by kernel_rfl) (openC_int Tryz.underlying2 (by kernel_rfl))
 obtain⟨a2,e2,k2⟩:=field_of ht h hl 2 9 2 1 (by kernel_rfl) (openC_text Tryz.underlying9 (by kernel_rfl))
 have hall:CsRep (FW w) w (eInt a0++(eInt a1++(eText a2++[]))) (cs.drop 0):=(cs_field e0 (cs_field e1 (cs_field e2 (cs_end hlen))))
 rw[List.drop_zero] at hall
 exact⟨hlen,⟨a0,a1,a2⟩,hall,⟨k0,k1,k2⟩⟩
def ValueD.eqB (x y:ValueD):Bool:=(decide (x.Kind=y.Kind)&&(decide (x.N=y.N)&&(decide (tx x.S=tx y.S)&&true)))
theorem ValueD.eqB_iff (x y:ValueD):ValueD.eqB x y=true↔x=y:=by
 cases x;cases y
 simp[ValueD.eqB,tx_eq]
abbrev vV (x:ValueD):PV:=.agg (x.c.map D.c)
def vChk (x:ValueD):Int:=if x.Kind<0∨3<x.Kind then 7 else if (x.Kind≠1∧x.N≠0)∨(x.Kind<2∧x.S.length≠0) then 1 else if 16<x.S.length then 2 else 0
def vChkAll:List ValueD→Int
 | []=>0
 | x::l=>if vChk x=0 then vChkAll l else vChk x
theorem vChkAll_skip:∀(l:List ValueD) (k:Nat),(∀x∈l.take k,vChk x=0)→vChkAll l=vChkAll (l.drop k)
 | l,0,_=>by rw[List.drop_zero]
 | [],k+1,_=>rfl
 | x::l,k+1,h=>by
  show (if vChk x=0 then vChkAll l else vChk x)=_
  rw[if_pos (h x (by simp)),List.drop_succ_cons]
  exact vChkAll_skip l k fun y hy=>h y (by simp[hy])
theorem vChkAll_ok:∀{l:List ValueD},vChkAll l=0↔∀x∈l,vChk x=0
 | []=>by simp[vChkAll]
 | x::l=>by
  unfold vChkAll
  split
  ·rename_i h;rw[vChkAll_ok (l:=l)];simp[h]
  ·rename_i h;simp[h]
theorem vChkAll_at {l:List ValueD} {k:Nat} (hk:k<l.length) (h:∀x∈l.take k,vChk x=0) (hx:vChk l[k]≠0):vChkAll l=vChk l[k]:=by
 rw[vChkAll_skip l k h,List.drop_eq_getElem_cons hk]
 unfold vChkAll
 rw[if_neg hx]
theorem all_snoc {l:List ValueD} {k:Nat} (hk:k<l.length) (h:∀x∈l.take k,vChk x=0) (hx:vChk l[k]=0):∀x∈l.take (k+1),vChk x=0:=by
 rw[take_snoc hk]
 intro x hm
 rcases List.mem_append.1 hm with hm | hm
 ·exact h x hm
 ·rw[List.mem_singleton.1 hm];exact hx
theorem p_vcheck (x:ValueD):Pure Tryz.prog 75 [vV x] (pInt .i64 (vChk x)):=by
 have tz:=tx_size x.S
 refine pure_of Tryz.func75 (by rfl) rfl (by kernel_rfl) (by rfl) ?_
 unfold vChk
 by_cases h:x.S.length=0
 ·have h1:=tx_empty_len.2 h
  ((conv=>whnf);repeat' ((first|(with_reducible first|apply a_|apply b_|apply c_)|((with_reducible first|apply d_|apply e_|apply f_|apply g_);focus first|omega|(simp only[q_]<;>omega))|((with_reducible first|apply i_|apply h_);focus first|omega|(simp only[q_]<;>omega))|((with_reducible apply h_);focus first|decide|kernel_rfl)|refine s_ (by decide) ?_|refine t_ (by decide) ?_|(refine BCase.df (not_not_intro h1) ?_)|(refine BCase.dt h1 ?_)|with_reducible first|apply l_|apply m_|apply n_|apply o_|refine p_ (fun _=>?_) (fun _=>?_))<;>(conv=>whnf)))
  (all_goals (refine Ret.int ?_;((repeat' split)<;>first|rfl|omega)))
 ·have h1:¬tx x.S=⟨#[]⟩:=fun e=>h (tx_empty_len.1 e)
  ((conv=>whnf);repeat' ((first|(with_reducible first|apply a_|apply b_|apply c_)|((with_reducible first|apply d_|apply e_|apply f_|apply g_);focus first|omega|(simp only[q_]<;>omega))|((with_reducible first|apply i_|apply h_);focus first|omega|(simp only[q_]<;>omega))|((with_reducible apply h_);focus first|decide|kernel_rfl)|refine s_ (by decide) ?_|refine t_ (by decide) ?_|(refine BCase.dt h1 ?_)|(refine BCase.df h1 ?_)|with_reducible first|apply l_|apply m_|apply n_|apply o_|refine p_ (fun _=>?_) (fun _=>?_))<;>(conv=>whnf)))
  (all_goals (refine Ret.int ?_;((repeat' split)<;>first|rfl|omega)))
theorem p_vcheckref (x:ValueD):Pure Tryz.prog 76 [vV x] (pInt .i64 (vChk x)):=by
 have tz:=tx_size x.S
 refine pure_of Tryz.func76 (by rfl) rfl (by kernel_rfl) (by rfl) ?_
 unfold vChk
 ((conv=>whnf);repeat' ((first|(with_reducible first|apply a_|apply b_|apply c_)|((with_reducible first|apply d_|apply e_|apply f_|apply g_);focus first|omega|(simp only[q_]<;>omega))|((with_reducible first|apply i_|apply h_);focus first|omega|(simp only[q_]<;>omega))|((with_reducible apply h_);focus first|decide|kernel_rfl)|refine s_ (by decide) ?_|refine t_ (by decide) ?_|with_reducible first|apply l_|apply m_|apply n_|apply o_|refine p_ (fun _=>?_) (fun _=>?_))<;>(conv=>whnf)))
 (all_goals (refine Ret.int ?_;((repeat' split)<;>first|rfl|omega)))
theorem p_checkall (l:List ValueD) (hl:l.length≤140737488355328):Pure Tryz.prog 50 [slV 3 ValueD.c l] (pInt .i64 (vChkAll l)):=by
 refine pure_of Tryz.func50 (by rfl) rfl (by kernel_rfl) (by rfl) ?_
 (((conv=>whnf);repeat ((with_reducible first|refine BCase.tt ?_|refine BCase.ff ?_);(conv=>whnf)));repeat ((first|with_reducible refine Wr.u8 ?_|((with_reducible first|refine Wr.ci ?wxs ?_|refine Wr.c3 ?wxs ?_|refine Wr.c6 ?wxs ?_|refine BCase.dt ?wxs ?_);case wxs=>(first|omega|(simp only[lens,true_and,and_true];(try omega);done)))|((with_reducible refine BCase.df ?wxs ?_);case wxs=>(first|omega|(simp only[lens,true_and,and_true];(try omega);done)))|((with_reducible refine Need.mk ?wxs ?_);case wxs=>first|(first|omega|(simp only[lens,true_and,and_true];(try omega);done))|decide|kernel_rfl)|refine BCase.t (by decide) ?_|refine BCase.f (by decide) ?_|with_reducible (first|refine BCase.not ?_|refine BCase.and ?_|refine BCase.or ?_));((conv=>whnf);repeat ((with_reducible first|refine BCase.tt ?_|refine BCase.ff ?_);(conv=>whnf)))))
 refine LoopC.mk Nat (fun k=>[(6,slV 3 ValueD.c l),(7,pInt .i64 l.length),(8,pInt .i64 k)]) (fun _=>[]) [] (fun k=>k≤l.length∧∀x∈l.take k,vChk x=0) (fun k=>l.length - k) 0 ⟨Nat.zero_le _,by simp⟩ ?start ?round
 case start=>exact⟨[],rfl,rfl,⟨.inl rfl,PLe.int (by simp),.inl rfl,trivial⟩,trivial⟩
 case round=>
  rintro k ⟨hk,hz⟩
  by_cases h1:k<l.length
  ·by_cases hx:vChk l[k]=0
   ·((conv=>whnf);repeat' ((first|(with_reducible first|apply a_|apply b_|apply c_)|((with_reducible first|apply d_|apply e_|apply f_|apply g_);focus first|omega|(simp only[q_]<;>omega))|((with_reducible first|apply i_|apply h_);focus first|omega|(simp only[q_]<;>omega))|((with_reducible apply h_);focus first|decide|kernel_rfl)|refine s_ (by decide) ?_|refine t_ (by decide) ?_|(refine Idx.mapI k rfl h1 ?_)|refine r_ (p_vcheck l[k]) rfl ?_|with_reducible first|apply l_|apply m_|apply n_|apply o_|refine p_ (fun _=>?_) (fun _=>?_))<;>(conv=>whnf)))
    exact⟨k+1,⟨by omega,all_snoc h1 hz hx⟩,by omega,[],rfl,rfl,⟨.inl rfl,.inl rfl,PLe.int (by omega),trivial⟩,trivial⟩
   ·((conv=>whnf);repeat' ((first|(with_reducible first|apply a_|apply b_|apply c_)|((with_reducible first|apply d_|apply e_|apply f_|apply g_);focus first|omega|(simp only[q_]<;>omega))|((with_reducible first|apply i_|apply h_);focus first|omega|(simp only[q_]<;>omega))|((with_reducible apply h_);focus first|decide|kernel_rfl)|refine s_ (by decide) ?_|refine t_ (by decide) ?_|(refine Idx.mapI k rfl h1 ?_)|refine r_ (p_vcheck l[k]) rfl ?_|with_reducible first|apply l_|apply m_|apply n_|apply o_|refine p_ (fun _=>?_) (fun _=>?_))<;>(conv=>whnf)))
    exact Ret.int (vChkAll_at h1 hz hx).symm
  ·((conv=>whnf);repeat' ((first|(with_reducible first|apply a_|apply b_|apply c_)|((with_reducible first|apply d_|apply e_|apply f_|apply g_);focus first|omega|(simp only[q_]<;>omega))|((with_reducible first|apply i_|apply h_);focus first|omega|(simp only[q_]<;>omega))|((with_reducible apply h_);focus first|decide|kernel_rfl)|refine s_ (by decide) ?_|refine t_ (by decide) ?_|with_reducible first|apply l_|apply m_|apply n_|apply o_|refine p_ (fun _=>?_) (fun _=>?_))<;>(conv=>whnf)))
   refine Ret.int ?_
   rw[vChkAll_ok.2 fun x hx=>hz x (by rw[List.take_of_length_le (by omega)];exact hx)]
theorem p_checkvalues (l:List ValueD) (hl:l.length≤140737488355328):Pure Tryz.prog 51 [slV 3 ValueD.c l] (pInt .i64 (vChkAll l)):=by
 refine pure_of Tryz.func51 (by rfl) rfl (by kernel_rfl) (by rfl) ?_
 (((conv=>whnf);repeat ((with_reducible first|refine BCase.tt ?_|refine BCase.ff ?_);(conv=>whnf)));repeat ((first|with_reducible refine Wr.u8 ?_|((with_reducible first|refine Wr.ci ?wxs ?_|refine Wr.c3 ?wxs ?_|refine Wr.c6 ?wxs ?_|refine BCase.dt ?wxs ?_);case wxs=>(first|omega|(simp only[lens,true_and,and_true];(try omega);done)))|((with_reducible refine BCase.df ?wxs ?_);case wxs=>(first|omega|(simp only[lens,true_and,and_true];(try omega);done)))|((with_reducible refine Need.mk ?wxs ?_);case wxs=>first|(first|omega|(simp only[lens,true_and,and_true];(try omega);done))|decide|kernel_rfl)|refine BCase.t (by decide) ?_|refine BCase.f (by decide) ?_|with_reducible (first|refine BCase.not ?_|refine BCase.and ?_|refine BCase.or ?_));((conv=>whnf);repeat ((with_reducible first|refine BCase.tt ?_|refine BCase.ff ?_);(conv=>whnf)))))
 refine LoopC.mk Nat (fun k=>[(0,slV 3 ValueD.c l),(3,pInt .i64 k)]) (fun _=>[]) [] (fun k=>k≤l.length∧∀x∈l.take k,vChk x=0) (fun k=>l.length - k) 0 ⟨Nat.zero_le _,by simp⟩ ?start ?round
 case start=>exact⟨[],rfl,rfl,⟨.inl rfl,.inl rfl,trivial⟩,trivial⟩
 case round=>
  rintro k ⟨hk,hz⟩
  by_cases h1:k<l.length
  ·by_cases hx:vChk l[k]=0
   ·((conv=>whnf);repeat' ((first|(with_reducible first|apply a_|apply b_|apply c_)|((with_reducible first|apply d_|apply e_|apply f_|apply g_);focus first|omega|(simp only[q_]<;>omega))|((with_reducible first|apply i_|apply h_);focus first|omega|(simp only[q_]<;>omega))|((with_reducible apply h_);focus first|decide|kernel_rfl)|refine s_ (by decide) ?_|refine t_ (by decide) ?_|(refine Idx.mapI k rfl h1 ?_)|refine r_ (p_vcheckref l[k]) rfl ?_|with_reducible first|apply l_|apply m_|apply n_|apply o_|refine p_ (fun _=>?_) (fun _=>?_))<;>(conv=>whnf)))
    exact⟨k+1,⟨by omega,all_snoc h1 hz hx⟩,by omega,[],rfl,rfl,⟨.inl rfl,PLe.int (by omega),trivial⟩,trivial⟩
   ·((conv=>whnf);repeat' ((first|(with_reducible first|apply a_|apply b_|apply c_)|((with_reducible first|apply d_|apply e_|apply f_|apply g_);focus first|omega|(simp only[q_]<;>omega))|((with_reducible first|apply i_|apply h_);focus first|omega|(simp only[q_]<;>omega))|((with_reducible apply h_);focus first|decide|kernel_rfl)|refine s_ (by decide) ?_|refine t_ (by decide) ?_|(refine Idx.mapI k rfl h1 ?_)|refine r_ (p_vcheckref l[k]) rfl ?_|with_reducible first|apply l_|apply m_|apply n_|apply o_|refine p_ (fun _=>?_) (fun _=>?_))<;>(conv=>whnf)))
    exact Ret.int (vChkAll_at h1 hz hx).symm
  ·((conv=>whnf);repeat' ((first|(with_reducible first|apply a_|apply b_|apply c_)|((with_reducible first|apply d_|apply e_|apply f_|apply g_);focus first|omega|(simp only[q_]<;>omega))|((with_reducible first|apply i_|apply h_);focus first|omega|(simp only[q_]<;>omega))|((with_reducible apply h_);focus first|decide|kernel_rfl)|refine s_ (by decide) ?_|refine t_ (by decide) ?_|with_reducible first|apply l_|apply m_|apply n_|apply o_|refine p_ (fun _=>?_) (fun _=>?_))<;>(conv=>whnf)))
   refine Ret.int ?_
   rw[vChkAll_ok.2 fun x hx=>hz x (by rw[List.take_of_length_le (by omega)];exact hx)]
theorem p_samerow (a b:List ValueD) (ha:a.length≤140737488355328):Pure Tryz.prog 52 [slV 3 ValueD.c a,slV 3 ValueD.c b] (pBool (listEqB ValueD.eqB a b)):=by
 refine pure_of Tryz.func52 (by rfl) rfl (by kernel_rfl) (by rfl) ?_
 by_cases hl:a.length=b.length
 ·(((conv=>whnf);repeat ((with_reducible first|refine BCase.tt ?_|refine BCase.ff ?_);(conv=>whnf)));repeat ((first|with_reducible refine Wr.u8 ?_|((with_reducible first|refine Wr.ci ?wxs ?_|refine Wr.c3 ?wxs ?_|refine Wr.c6 ?wxs ?_|refine BCase.dt ?wxs ?_);case wxs=>(first|omega|(simp only[lens,true_and,and_true];(try omega);done)))|((with_reducible refine BCase.df ?wxs ?_);case wxs=>(first|omega|(simp only[lens,true_and,and_true];(try omega);done)))|((with_reducible refine Need.mk ?wxs ?_);case wxs=>first|(first|omega|(simp only[lens,true_and,and_true];(try omega);done))|decide|kernel_rfl)|refine BCase.t (by decide) ?_|refine BCase.f (by decide) ?_|with_reducible (first|refine BCase.not ?_|refine BCase.and ?_|refine BCase.or ?_));((conv=>whnf);repeat ((with_reducible first|refine BCase.tt ?_|refine BCase.ff ?_);(conv=>whnf)))))
  refine LoopC.mk Nat (fun k=>[(0,slV 3 ValueD.c a),(1,slV 3 ValueD.c b),(5,pInt .i64 k)]) (fun _=>[]) [] (fun k=>k≤a.length∧listEqB ValueD.eqB (a.take k) (b.take k)=true) (fun k=>a.length - k) 0 ⟨Nat.zero_le _,by simp[listEqB]⟩ ?start ?round
  case start=>exact⟨[],rfl,rfl,⟨.inl rfl,.inl rfl,.inl rfl,trivial⟩,trivial⟩
  case round=>
   rintro k ⟨hk,hz⟩
   by_cases h1:k<a.length
   ·have h2:k<b.length:=by omega
    cases hx:ValueD.eqB a[k] b[k] with
    | true=>
     ((conv=>whnf);repeat' ((first|(with_reducible first|apply a_|apply b_|apply c_)|((with_reducible first|apply d_|apply e_|apply f_|apply g_);focus first|omega|(simp only[q_]<;>omega))|((with_reducible first|apply i_|apply h_);focus first|omega|(simp only[q_]<;>omega))|((with_reducible apply h_);focus first|decide|kernel_rfl)|refine s_ (by decide) ?_|refine t_ (by decide) ?_|(first|refine Idx.mapI (l:=a) k rfl h1 ?_|refine Idx.mapI (l:=b) k rfl h2 ?_)|(refine BCase.f (congrArg not hx) ?_)|with_reducible first|apply l_|apply m_|apply n_|apply o_|refine p_ (fun _=>?_) (fun _=>?_))<;>(conv=>whnf)))
     exact⟨k+1,⟨by omega,(listEqB_step hz h1 h2).trans hx⟩,by omega,[],rfl,rfl,⟨.inl rfl,.inl rfl,PLe.int (by omega),trivial⟩,trivial⟩
    | false=>
     ((conv=>whnf);repeat' ((first|(with_reducible first|apply a_|apply b_|apply c_)|((with_reducible first|apply d_|apply e_|apply f_|apply g_);focus first|omega|(simp only[q_]<;>omega))|((with_reducible first|apply i_|apply h_);focus first|omega|(simp only[q_]<;>omega))|((with_reducible apply h_);focus first|decide|kernel_rfl)|refine s_ (by decide) ?_|refine t_ (by decide) ?_|(first|refine Idx.mapI (l:=a) k rfl h1 ?_|refine Idx.mapI (l:=b) k rfl h2 ?_)|(refine BCase.t (congrArg not hx) ?_)|with_reducible first|apply l_|apply m_|apply n_|apply o_|refine p_ (fun _=>?_) (fun _=>?_))<;>(conv=>whnf)))
     exact Ret.bool (listEqB_stop h1 h2 hx).symm
   ·((conv=>whnf);repeat' ((first|(with_reducible first|apply a_|apply b_|apply c_)|((with_reducible first|apply d_|apply e_|apply f_|apply g_);focus first|omega|(simp only[q_]<;>omega))|((with_reducible first|apply i_|apply h_);focus first|omega|(simp only[q_]<;>omega))|((with_reducible apply h_);focus first|decide|kernel_rfl)|refine s_ (by decide) ?_|refine t_ (by decide) ?_|with_reducible first|apply l_|apply m_|apply n_|apply o_|refine p_ (fun _=>?_) (fun _=>?_))<;>(conv=>whnf)))
    exact Ret.bool (listEqB_all hz (by omega) (by omega)).symm
 ·((conv=>whnf);repeat' ((first|(with_reducible first|apply a_|apply b_|apply c_)|((with_reducible first|apply d_|apply e_|apply f_|apply g_);focus first|omega|(simp only[q_]<;>omega))|((with_reducible first|apply i_|apply h_);focus first|omega|(simp only[q_]<;>omega))|((with_reducible apply h_);focus first|decide|kernel_rfl)|refine s_ (by decide) ?_|refine t_ (by decide) ?_|with_reducible first|apply l_|apply m_|apply n_|apply o_|refine p_ (fun _=>?_) (fun _=>?_))<;>(conv=>whnf)))
  exact Ret.bool (listEqB_len hl).symm
end
section
open Go.RowKit
theorem pure_sl0 {P:Program} {f:FuncId} {sz:Nat} {post:List PV} {r:PV} (h1:Pure P f (.d (.c (.v (.slice none 0 0)))::post) r) (h2:∀a cap,Pure P f (.d (.c (.v (.slice (some a) 0 cap)))::post) r):Pure P f (.d (.c (.sl sz []))::post) r:=by
 refine⟨h1.1,fun F w vs hG hF hp=>?_⟩
 cases vs with
 | nil=>unfold PsRep at hp;exact hp.elim
 | cons u us=>
  unfold PsRep at hp
  obtain⟨q1,q2⟩:=hp
  unfold PRep DRep CRep at q1
  obtain⟨a,cap,rfl,_,_,g3,_⟩:=q1
  have mk:∀x,Pure P f (.d (.c (.v x))::post) r→x.oneCell'=true→.slice a ([]:List (List C)).length cap=x→Calls P f (.slice a ([]:List (List C)).length cap::us).toArray w fun e w'=>∃v,e=.returned v∧Below w.heap.size w w'∧PRep (fun _=>none) (fun b o=>F b o∨(w.heap.size≤b∧b<w'.heap.size)) w' r v:=by
   rintro x hx h1 rfl
   refine hx.2 F w _ hG hF ?_
   unfold PsRep
   exact⟨by unfold PRep DRep CRep;exact⟨rfl,h1⟩,q2⟩
  cases a with
  | none=>obtain rfl:=g3 rfl;exact mk _ h1 rfl rfl
  | some a=>exact mk _ (h2 a cap) rfl rfl
theorem Pure.empty1 {P:Program} {f:FuncId} {k e sz lo:Nat} {r:PV} {rd:Rf} (hp:Pure P f [.d (.c (.sl sz []))] r):CallS P f [.d (.arr k e sz lo 0)] rd [] r []:=by
 refine⟨hp.1,fun c vs hc hdf hfr hs hx=>?_⟩
 rw[List.append_nil] at hs hx ⊢
 have hx':PsRep (fun _=>none) (fz c c.σ0 (hpL rd) c.w0) c.w0 [.d (.c (.sl sz []))] vs:=by
  match vs,hx with
  | [u],hx=>
   unfold PsRep at hx ⊢
   refine⟨?_,by unfold PsRep;trivial⟩
   have h1:=hx.1
   unfold PRep DRep at h1
   have mk:∀(a:Option Addr) (cap:Nat),(a=none→cap=0)→cap≤maxLen→u=.slice a 0 cap→PRep (fun _=>none) (fz c c.σ0 (hpL rd) c.w0) c.w0 (.d (.c (.sl sz []))) u:=by
    rintro a cap h2 h3 rfl
    unfold PRep DRep CRep
    exact⟨a,cap,rfl,Nat.zero_le _,h3,h2,.inl rfl⟩
   obtain⟨_,⟨m,d1,_,b0,rfl⟩ | ⟨g,m,off,cap,cur,fr,d1,rfl,d3,d4,d5,d6,d7⟩⟩:=h1
   ·exact mk b0 0 (fun _=>rfl) (Nat.zero_le _) rfl
   ·exact mk _ cap (fun e=>by cases e) d4 rfl
  | [],hx=>unfold PsRep at hx;exact hx.elim
  | _::_::_,hx=>unfold PsRep PsRep at hx;exact hx.2.elim
 refine (hp.2 (fz c c.σ0 (hpL rd) c.w0) c.w0 vs (sw_gl hc hs) (fun b o h=>fz_lt hs h) hx').mono ?_
 rintro en w' ⟨v,rfl,hb,hr⟩
 have ev:=evo_below hs hb
 refine⟨v,c.σ0,rfl,sw_below hs hb,PRep.of_none ⟨fun b o' hf=>?_,fun _ _ _=>rfl⟩ _ _ hr⟩
 rcases hf with hf | ⟨f1,f2⟩
 ·exact ev.keeps.le _ _ hf
 ·refine .inr ⟨.inl (Nat.le_trans hs.size f1),f2,fun k n hb' hk' hσ=>?_⟩
  have:=(hb_block (hs.hp k hb' hk') hσ).1
  omega
end
section
open Go.RowKit K
set_option maxRecDepth 100000
theorem p_cloneV (l:List ValueD) (h:l.length*32≤140737488355328):Pure Tryz.prog 65 [slV 3 ValueD.c l] (slV 3 ValueD.c l):=by
 cases l with
 | nil=>
  refine pure_sl0 ?_ fun a cap=>?_
  ·refine pure_of Tryz.func65 (by rfl) rfl (by kernel_rfl) (by rfl) ?_
   ((conv=>whnf);repeat' ((first|(with_reducible first|apply a_|apply b_|apply c_)|((with_reducible first|apply d_|apply e_|apply f_|apply g_);focus first|omega|(simp only[q_]<;>omega))|((with_reducible first|apply i_|apply h_);focus first|omega|(simp only[q_]<;>omega))|((with_reducible apply h_);focus first|decide|kernel_rfl)|refine s_ (by decide) ?_|refine t_ (by decide) ?_|with_reducible first|apply l_|apply m_|apply n_|apply o_|refine p_ (fun _=>?_) (fun _=>?_))<;>(conv=>whnf)))
   exact Ret.le (.inr ⟨⟨3,rfl⟩,.inl rfl⟩)
  ·refine pure_of Tryz.func65 (by rfl) rfl (by kernel_rfl) (by rfl) ?_
   ((conv=>whnf);repeat' ((first|(with_reducible first|apply a_|apply b_|apply c_)|((with_reducible first|apply d_|apply e_|apply f_|apply g_);focus first|omega|(simp only[q_]<;>omega))|((with_reducible first|apply i_|apply h_);focus first|omega|(simp only[q_]<;>omega))|((with_reducible apply h_);focus first|decide|kernel_rfl)|refine s_ (by decide) ?_|refine t_ (by decide) ?_|with_reducible first|apply l_|apply m_|apply n_|apply o_|refine p_ (fun _=>?_) (fun _=>?_))<;>(conv=>whnf)))
   exact Ret.mk rfl
 | cons x l=>
  refine pure_of Tryz.func65 (by rfl) rfl (by kernel_rfl) (by rfl) ?_
  ((conv=>whnf);repeat' ((first|(with_reducible first|apply a_|apply b_|apply c_)|((with_reducible first|apply d_|apply e_|apply f_|apply g_);focus first|omega|(simp only[q_]<;>omega))|((with_reducible first|apply i_|apply h_);focus first|omega|(simp only[q_]<;>omega))|((with_reducible apply h_);focus first|decide|kernel_rfl)|refine s_ (by decide) ?_|refine t_ (by decide) ?_|(refine Need.mk (List.cons_ne_nil _ _) ?_)|(refine Need.by 32 rfl (by simp only[List.length_map,List.length_nil,Nat.zero_add];exact h) ?_)|with_reducible first|apply l_|apply m_|apply n_|apply o_|refine p_ (fun _=>?_) (fun _=>?_))<;>(conv=>whnf)))
  exact Ret.mk rfl
end
section
open Go.RowKit K
set_option maxRecDepth 100000
def upB (b:UInt8):Bool:=decide (65≤b.toNat∧b.toNat≤90)
def smB (b:UInt8):UInt8:=if upB b then b+32 else b
def letB (b:UInt8):Bool:=decide (97≤b.toNat∧b.toNat≤122∨65≤b.toNat∧b.toNat≤90∨b.toNat=95)
def digB (b:UInt8):Bool:=decide (48≤b.toNat∧b.toNat≤57)
def wB (b:UInt8):Bool:=(letB b||digB b)&&decide (smB b=b)
def wordB (l:List UInt8):Bool:=match l with
 | []=>false
 | b::_=>letB b&&l.all wB
theorem smB_up {b:UInt8} (h:upB b=true):(smB b).toNat=b.toNat+32:=by
 unfold smB;rw[if_pos h]
 have:=of_decide_eq_true h
 rw[UInt8.toNat_add];show (b.toNat+32)%256=_
 omega
theorem smB_no {b:UInt8} (h:upB b=false):smB b=b:=by unfold smB;rw[if_neg (by rw[h];decide)]
theorem smB_map (l:List UInt8):l.map smB=l↔∀b∈l,smB b=b:=by
 induction l with
 | nil=>simp
 | cons b l ih=>simp[ih]
theorem p_small (b:UInt8):Pure Tryz.prog 138 [pInt .u8 (b.toNat:Int)] (pInt .u8 ((smB b).toNat:Int)):=by
 have hb:=u8_lt b
 refine pure_of Tryz.func138 (by rfl) rfl (by kernel_rfl) (by rfl) ?_
 cases h:upB b with
 | true=>
  have h1:=of_decide_eq_true h
  have h2:=smB_up h
  ((conv=>whnf);repeat' ((first|(with_reducible first|apply a_|apply b_|apply c_)|((with_reducible first|apply d_|apply e_|apply f_|apply g_);focus first|omega|(simp only[q_]<;>omega))|((with_reducible first|apply i_|apply h_);focus first|omega|(simp only[q_]<;>omega))|((with_reducible apply h_);focus first|decide|kernel_rfl)|refine s_ (by decide) ?_|refine t_ (by decide) ?_|with_reducible first|apply l_|apply m_|apply n_|apply o_|refine p_ (fun _=>?_) (fun _=>?_))<;>(conv=>whnf)))
  refine Ret.int ?_
  have e1:=by1_int ((b.toNat:Int)+97)
  rw[by1_int]
  omega
 | false=>
  have h1:=of_decide_eq_false h
  rw[smB_no h]
  ((conv=>whnf);repeat' ((first|(with_reducible first|apply a_|apply b_|apply c_)|((with_reducible first|apply d_|apply e_|apply f_|apply g_);focus first|omega|(simp only[q_]<;>omega))|((with_reducible first|apply i_|apply h_);focus first|omega|(simp only[q_]<;>omega))|((with_reducible apply h_);focus first|decide|kernel_rfl)|refine s_ (by decide) ?_|refine t_ (by decide) ?_|with_reducible first|apply l_|apply m_|apply n_|apply o_|refine p_ (fun _=>?_) (fun _=>?_))<;>(conv=>whnf)))
  all_goals exact Ret.int rfl
theorem p_first (b:UInt8):Pure Tryz.prog 134 [pInt .u8 (b.toNat:Int)] (pBool (letB b)):=by
 have hb:=u8_lt b
 refine pure_of Tryz.func134 (by rfl) rfl (by kernel_rfl) (by rfl) ?_
 unfold letB
 have h2:(upB b=true∧(smB b).toNat=b.toNat+32∧65≤b.toNat∧b.toNat≤90)∨(smB b).toNat=b.toNat∧¬(65≤b.toNat∧b.toNat≤90):=by
  cases h:upB b with
  | true=>exact .inl ⟨rfl,smB_up h,of_decide_eq_true h⟩
  | false=>exact .inr ⟨by rw[smB_no h],of_decide_eq_false h⟩
 ((conv=>whnf);repeat' ((first|(with_reducible first|apply a_|apply b_|apply c_)|((with_reducible first|apply d_|apply e_|apply f_|apply g_);focus first|omega|(simp only[q_]<;>omega))|((with_reducible first|apply i_|apply h_);focus first|omega|(simp only[q_]<;>omega))|((with_reducible apply h_);focus first|decide|kernel_rfl)|refine s_ (by decide) ?_|refine t_ (by decide) ?_|refine r_ (p_small b) rfl ?_|with_reducible first|apply l_|apply m_|apply n_|apply o_|refine p_ (fun _=>?_) (fun _=>?_))<;>(conv=>whnf)))
 all_goals
  refine Ret.bool ?_
  first
   | exact (decide_eq_true (by omega)).symm
   | exact (decide_eq_false (by omega)).symm
   | exact decide_eq_decide.2 (by omega)
theorem p_digit (b:UInt8):Pure Tryz.prog 167 [pInt .u8 (b.toNat:Int)] (pBool (digB b)):=by
 have hb:=u8_lt b
 refine pure_of Tryz.func167 (by rfl) rfl (by kernel_rfl) (by rfl) ?_
 unfold digB
 ((conv=>whnf);repeat' ((first|(with_reducible first|apply a_|apply b_|apply c_)|((with_reducible first|apply d_|apply e_|apply f_|apply g_);focus first|omega|(simp only[q_]<;>omega))|((with_reducible first|apply i_|apply h_);focus first|omega|(simp only[q_]<;>omega))|((with_reducible apply h_);focus first|decide|kernel_rfl)|refine s_ (by decide) ?_|refine t_ (by decide) ?_|with_reducible first|apply l_|apply m_|apply n_|apply o_|refine p_ (fun _=>?_) (fun _=>?_))<;>(conv=>whnf)))
 all_goals
  refine Ret.bool ?_
  first
   | exact (decide_eq_true (by omega)).symm
   | exact (decide_eq_false (by omega)).symm
   | exact decide_eq_decide.2 (by omega)
theorem p_inner (b:UInt8):Pure Tryz.prog 137 [pInt .u8 (b.toNat:Int)] (pBool (letB b||digB b)):=by
 refine pure_of Tryz.func137 (by rfl) rfl (by kernel_rfl) (by rfl) ?_
 have pf:=p_first b
 cases h:letB b<;>rw[h] at pf
 ·((conv=>whnf);repeat' ((first|(with_reducible first|apply a_|apply b_|apply c_)|((with_reducible first|apply d_|apply e_|apply f_|apply g_);focus first|omega|(simp only[q_]<;>omega))|((with_reducible first|apply i_|apply h_);focus first|omega|(simp only[q_]<;>omega))|((with_reducible apply h_);focus first|decide|kernel_rfl)|refine s_ (by decide) ?_|refine t_ (by decide) ?_|refine r_ pf rfl ?_|refine r_ (p_digit b) rfl ?_|with_reducible first|apply l_|apply m_|apply n_|apply o_|refine p_ (fun _=>?_) (fun _=>?_))<;>(conv=>whnf)))
  exact Ret.bool rfl
 ·((conv=>whnf);repeat' ((first|(with_reducible first|apply a_|apply b_|apply c_)|((with_reducible first|apply d_|apply e_|apply f_|apply g_);focus first|omega|(simp only[q_]<;>omega))|((with_reducible first|apply i_|apply h_);focus first|omega|(simp only[q_]<;>omega))|((with_reducible apply h_);focus first|decide|kernel_rfl)|refine s_ (by decide) ?_|refine t_ (by decide) ?_|refine r_ pf rfl ?_|refine r_ (p_digit b) rfl ?_|with_reducible first|apply l_|apply m_|apply n_|apply o_|refine p_ (fun _=>?_) (fun _=>?_))<;>(conv=>whnf)))
  exact Ret.bool rfl
theorem p_isword1 (b:UInt8):Pure Tryz.prog 136 [pInt .u8 (b.toNat:Int)] (pBool (wB b)):=by
 refine pure_of Tryz.func136 (by rfl) rfl (by kernel_rfl) (by rfl) ?_
 unfold wB
 have pf:=p_inner b
 cases h:(letB b||digB b)<;>rw[h] at pf
 ·((conv=>whnf);repeat' ((first|(with_reducible first|apply a_|apply b_|apply c_)|((with_reducible first|apply d_|apply e_|apply f_|apply g_);focus first|omega|(simp only[q_]<;>omega))|((with_reducible first|apply i_|apply h_);focus first|omega|(simp only[q_]<;>omega))|((with_reducible apply h_);focus first|decide|kernel_rfl)|refine s_ (by decide) ?_|refine t_ (by decide) ?_|refine r_ pf rfl ?_|with_reducible first|apply l_|apply m_|apply n_|apply o_|refine p_ (fun _=>?_) (fun _=>?_))<;>(conv=>whnf)))
  exact Ret.bool rfl
 ·((conv=>whnf);repeat' ((first|(with_reducible first|apply a_|apply b_|apply c_)|((with_reducible first|apply d_|apply e_|apply f_|apply g_);focus first|omega|(simp only[q_]<;>omega))|((with_reducible first|apply i_|apply h_);focus first|omega|(simp only[q_]<;>omega))|((with_reducible apply h_);focus first|decide|kernel_rfl)|refine s_ (by decide) ?_|refine t_ (by decide) ?_|refine r_ pf rfl ?_|refine r_ (p_small b) rfl ?_|with_reducible first|apply l_|apply m_|apply n_|apply o_|refine p_ (fun _=>?_) (fun _=>?_))<;>(conv=>whnf)))
  exact Ret.bool (by rw[Bool.true_and];exact decide_eq_decide.2 u8_eq)
def runTo (p:UInt8→Bool) (l:List UInt8) (k:Nat):Nat:=k+((l.drop k).takeWhile p).length
theorem runTo_end {p:UInt8→Bool} {l:List UInt8} {k:Nat} (h:l.length≤k):runTo p l k=k:=by unfold runTo;rw[List.drop_of_length_le h];rfl
theorem runTo_step {p:UInt8→Bool} {l:List UInt8} {k:Nat} (h:k<l.length) (hp:p (l.getD k 0)=true):runTo p l k=runTo p l (k+1):=by
 have e:l.getD k 0=l[k]:=by rw[List.getD_eq_getElem?_getD,List.getElem?_eq_getElem h];rfl
 rw[e] at hp
 unfold runTo
 rw[List.drop_eq_getElem_cons h,List.takeWhile_cons,if_pos hp,List.length_cons];omega
theorem runTo_stop {p:UInt8→Bool} {l:List UInt8} {k:Nat} (h:k<l.length) (hp:p (l.getD k 0)=false):runTo p l k=k:=by
 have e:l.getD k 0=l[k]:=by rw[List.getD_eq_getElem?_getD,List.getElem?_eq_getElem h];rfl
 rw[e] at hp
 unfold runTo
 rw[List.drop_eq_getElem_cons h,List.takeWhile_cons,if_neg (by rw[hp];decide)];rfl
theorem takeWhile_all {p:UInt8→Bool}:∀l:List UInt8,(l.takeWhile p).length=l.length↔l.all p=true
 | []=>by simp
 | b::l=>by
  rw[List.takeWhile_cons,List.all_cons]
  cases h:p b with
  | true=>simp[takeWhile_all l]
  | false=>simp
abbrev fnV (f:FuncId):PV:=.d (.c (.v (.func (.func f) #[] #[])))
theorem p_run (f:FuncId) (p:UInt8→Bool) (hp:∀b:UInt8,Pure Tryz.prog f [pInt .u8 (b.toNat:Int)] (pBool (p b))) (l:List UInt8) (hl:okText l) (at_:Nat) (ha:at_≤l.length) :
  Pure Tryz.prog 135 [pStr (tx l),pInt .i64 at_,fnV f] (pInt .i64 (runTo p l at_)):=by
 have tz:=tx_size l
 unfold okText at hl
 refine pure_of Tryz.func135 (by rfl) rfl (by kernel_rfl) (by rfl) ?_
 (((conv=>whnf);repeat ((with_reducible first|refine BCase.tt ?_|refine BCase.ff ?_);(conv=>whnf)));repeat ((first|with_reducible refine Wr.u8 ?_|((with_reducible first|refine Wr.ci ?wxs ?_|refine Wr.c3 ?wxs ?_|refine Wr.c6 ?wxs ?_|refine BCase.dt ?wxs ?_);case wxs=>(first|omega|(simp only[lens,true_and,and_true];(try omega);done)))|((with_reducible refine BCase.df ?wxs ?_);case wxs=>(first|omega|(simp only[lens,true_and,and_true];(try omega);done)))|((with_reducible refine Need.mk ?wxs ?_);case wxs=>first|(first|omega|(simp only[lens,true_and,and_true];(try omega);done))|decide|kernel_rfl)|refine BCase.t (by decide) ?_|refine BCase.f (by decide) ?_|with_reducible (first|refine BCase.not ?_|refine BCase.and ?_|refine BCase.or ?_));((conv=>whnf);repeat ((with_reducible first|refine BCase.tt ?_|refine BCase.ff ?_);(conv=>whnf)))))
 refine LoopC.mk Nat (fun k=>[(0,pStr (tx l)),(1,pInt .i64 k),(2,fnV f)]) (fun _=>[]) [] (fun k=>k≤l.length∧runTo p l at_=runTo p l k) (fun k=>l.length - k) at_ ⟨ha,rfl⟩ ?start ?round
 case start=>exact⟨[],rfl,rfl,⟨.inl rfl,.inl rfl,.inl rfl,trivial⟩,trivial⟩
 case round=>
  rintro k ⟨hk,hz⟩
  by_cases h1:k<l.length
  ·have pk:=hp (l.getD k 0)
   cases hx:p (l.getD k 0) with
   | true=>
    rw[hx] at pk
    ((conv=>whnf);repeat' ((first|(with_reducible first|apply a_|apply b_|apply c_)|((with_reducible first|apply d_|apply e_|apply f_|apply g_);focus first|omega|(simp only[q_]<;>omega))|((with_reducible first|apply i_|apply h_);focus first|omega|(simp only[q_]<;>omega))|((with_reducible apply h_);focus first|decide|kernel_rfl)|refine s_ (by decide) ?_|refine t_ (by decide) ?_|(refine SIdx.tx k rfl h1 ?_)|refine r_ pk rfl ?_|with_reducible first|apply l_|apply m_|apply n_|apply o_|refine p_ (fun _=>?_) (fun _=>?_))<;>(conv=>whnf)))
    exact⟨k+1,⟨by omega,hz.trans (runTo_step h1 hx)⟩,by omega,[],rfl,rfl,⟨.inl rfl,PLe.int (by omega),.inl rfl,trivial⟩,trivial⟩
   | false=>
    rw[hx] at pk
    ((conv=>whnf);repeat' ((first|(with_reducible first|apply a_|apply b_|apply c_)|((with_reducible first|apply d_|apply e_|apply f_|apply g_);focus first|omega|(simp only[q_]<;>omega))|((with_reducible first|apply i_|apply h_);focus first|omega|(simp only[q_]<;>omega))|((with_reducible apply h_);focus first|decide|kernel_rfl)|refine s_ (by decide) ?_|refine t_ (by decide) ?_|(refine SIdx.tx k rfl h1 ?_)|refine r_ pk rfl ?_|with_reducible first|apply l_|apply m_|apply n_|apply o_|refine p_ (fun _=>?_) (fun _=>?_))<;>(conv=>whnf)))
    exact Ret.int (by rw[hz,runTo_stop h1 hx])
  ·((conv=>whnf);repeat' ((first|(with_reducible first|apply a_|apply b_|apply c_)|((with_reducible first|apply d_|apply e_|apply f_|apply g_);focus first|omega|(simp only[q_]<;>omega))|((with_reducible first|apply i_|apply h_);focus first|omega|(simp only[q_]<;>omega))|((with_reducible apply h_);focus first|decide|kernel_rfl)|refine s_ (by decide) ?_|refine t_ (by decide) ?_|with_reducible first|apply l_|apply m_|apply n_|apply o_|refine p_ (fun _=>?_) (fun _=>?_))<;>(conv=>whnf)))
   exact Ret.int (by rw[hz,runTo_end (by omega)])
theorem p_isword (l:List UInt8) (hl:okText l):Pure Tryz.prog 106 [pStr (tx l)] (pBool (wordB l)):=by
 refine pure_of Tryz.func106 (by rfl) rfl (by kernel_rfl) (by rfl) ?_
 cases l with
 | nil=>
  ((conv=>whnf);repeat' ((first|(with_reducible first|apply a_|apply b_|apply c_)|((with_reducible first|apply d_|apply e_|apply f_|apply g_);focus first|omega|(simp only[q_]<;>omega))|((with_reducible first|apply i_|apply h_);focus first|omega|(simp only[q_]<;>omega))|((with_reducible apply h_);focus first|decide|kernel_rfl)|refine s_ (by decide) ?_|refine t_ (by decide) ?_|with_reducible first|apply l_|apply m_|apply n_|apply o_|refine p_ (fun _=>?_) (fun _=>?_))<;>(conv=>whnf)))
  exact Ret.bool rfl
 | cons b l=>
  have h1:tx (b::l)≠⟨#[]⟩:=fun e=>by have:=tx_empty.1 e;cases this
  have pf:=p_first b
  have tz:=tx_size (b::l)
  cases hf:letB b with
  | false=>
   rw[hf] at pf
   ((conv=>whnf);repeat' ((first|(with_reducible first|apply a_|apply b_|apply c_)|((with_reducible first|apply d_|apply e_|apply f_|apply g_);focus first|omega|(simp only[q_]<;>omega))|((with_reducible first|apply i_|apply h_);focus first|omega|(simp only[q_]<;>omega))|((with_reducible apply h_);focus first|decide|kernel_rfl)|refine s_ (by decide) ?_|refine t_ (by decide) ?_|(refine BCase.dt h1 ?_)|(refine SIdx.tx (l:=b::l) 0 rfl (by simp) ?_)|refine r_ pf rfl ?_|with_reducible first|apply l_|apply m_|apply n_|apply o_|refine p_ (fun _=>?_) (fun _=>?_))<;>(conv=>whnf)))
   exact Ret.bool (by show false=(letB b&&(b::l).all wB);rw[hf];rfl)
  | true=>
   rw[hf] at pf
   ((conv=>whnf);repeat' ((first|(with_reducible first|apply a_|apply b_|apply c_)|((with_reducible first|apply d_|apply e_|apply f_|apply g_);focus first|omega|(simp only[q_]<;>omega))|((with_reducible first|apply i_|apply h_);focus first|omega|(simp only[q_]<;>omega))|((with_reducible apply h_);focus first|decide|kernel_rfl)|refine s_ (by decide) ?_|refine t_ (by decide) ?_|(refine BCase.dt h1 ?_)|(refine SIdx.tx (l:=b::l) 0 rfl (by simp) ?_)|refine r_ pf rfl ?_|refine r_ (p_run _ wB p_isword1 (b::l) hl 0 (Nat.zero_le _)) rfl ?_|with_reducible first|apply l_|apply m_|apply n_|apply o_|refine p_ (fun _=>?_) (fun _=>?_))<;>(conv=>whnf)))
   refine Ret.bool ?_
   show decide _=(letB b&&(b::l).all wB)
   rw[hf,Bool.true_and,Bool.eq_iff_iff,decide_eq_true_eq,← takeWhile_all]
   unfold runTo
   rw[List.drop_zero,tz]
   omega
def resWords:List (List UInt8):=[[97,110,100],[97,110,121],[97,115],[97,115,99],[98,101,103,105,110],[98,101,116,119,101,101,110],[98,108,111,98],[98,121],[99,111,109,109,105,116],[99,111,117,110,116],[99,114,101,97,116,101],[100,101,108,101,116,101],[100,101,115,99],[100,105,115,116,105,110,99,116],[100,114,111,112],[102,114,111,109],[103,114,111,117,112],[105,110],[105,110,115,101,114,116],[105,110,116,101,103,101,114],[105,110,116,111],[105,115],[108,105,107,101],[108,105,109,105,116],[109,97,120],[109,105,110],[110,111,116],[110,117,108,108],[111,102,102,115,101,116],[111,114],[111,114,100,101,114],[114,111,108,108,98,97,99,107],[115,101,108,101,99,116],[115,101,116],[115,117,109],[116,97,98,108,101],[116,101,120,116],[117,110,105,113,117,101],[117,112,100,97,116,101],[118,97,108,117,101,115],[119,104,101,114,101]]
def allWords:List UInt8:=[32,97,110,100,32,97,110,121,32,97,115,32,97,115,99,32,98,101,103,105,110,32,98,101,116,119,101,101,110,32,98,108,111,98,32,98,121,32,99,111,109,109,105,116,32,99,111,117,110,116,32,99,114,101,97,116,101,32,100,101,108,101,116,101,32,100,101,115,99,32,100,105,115,116,105,110,99,116,32,100,114,111,112,32,102,114,111,109,32,103,114,111,117,112,32,105,110,32,105,110,115,101,114,116,32,105,110,116,101,103,101,114,32,105,110,116,111,32,105,115,32,108,105,107,101,32,108,105,109,105,116,32,109,97,120,32,109,105,110,32,110,111,116,32,110,117,108,108,32,111,102,102,115,101,116,32,111,114,32,111,114,100,101,114,32,114,111,108,108,98,97,99,107,32,115,101,108,101,99,116,32,115,101,116,32,115,117,109,32,116,97,98,108,101,32,116,101,120,116,32,117,110,105,113,117,101,32,117,112,100,97,116,101,32,118,97,108,117,101,115,32,119,104,101,114,101,32]
def resB (l:List UInt8):Bool:=resWords.any fun w=>decide (l=w)
def nameB (l:List UInt8):Bool:=wordB l&&(decide (l.length≤12)&&!resB l)
def spanW (i:Nat):List UInt8:=(allWords.drop (i+1)).takeWhile fun b=>decide (b≠32)
theorem allWords_len:allWords.length=227:=by decide +kernel
theorem spans_ok:((List.range 227).all fun i=>decide (spanW i=[])||!decide (allWords.getD i 0=32)||resB (spanW i))=true:=by decide +kernel
theorem words_there:(resWords.all fun w=>(List.range 227).any fun i=>decide (i+w.length+2≤227)&&decide ((allWords.drop i).take (w.length+2)=32::(w++[32])))=true:=by decide +kernel
theorem words_words:(resWords.all fun w=>wordB w)=true:=by decide +kernel
theorem wordB_space {l:List UInt8} (h:wordB l=true):l≠[]∧∀b∈l,b≠32:=by
 cases l with
 | nil=>cases h
 | cons b l=>
  refine⟨by simp,?_⟩
  have h1:(letB b&&(b::l).all wB)=true:=h
  rw[Bool.and_eq_true,List.all_eq_true] at h1
  intro x hx e
  have:=h1.2 x hx
  subst e
  revert this
  decide
theorem takeWhile_stop {p:UInt8→Bool}:∀{l:List UInt8} {r:List UInt8} {c:UInt8},(∀b∈l,p b=true)→p c=false→(l++c::r).takeWhile p=l
 | [],r,c,_,h=>by rw[List.nil_append,List.takeWhile_cons,if_neg (by rw[h];decide)]
 | b::l,r,c,h,hc=>by
  rw[List.cons_append,List.takeWhile_cons,if_pos (h b (List.mem_cons_self ..)),takeWhile_stop (fun x hx=>h x (List.mem_cons_of_mem _ hx)) hc]
theorem seg_res {l:List UInt8} {i:Nat} (hw:wordB l=true) (h:(allWords.drop i).take (l.length+2)=32::(l++[32])) (hi:i+l.length+2≤227):resB l=true:=by
 obtain⟨h1,h2⟩:=wordB_space hw
 have hd:allWords.drop i=32::(l++32::(allWords.drop i).drop (l.length+2)):=by
  have e:allWords.drop i=(allWords.drop i).take (l.length+2)++(allWords.drop i).drop (l.length+2):=(List.take_append_drop _ _).symm
  rw[h] at e
  conv=>lhs;rw[e]
  simp
 have hsp:spanW i=l:=by
  unfold spanW
  rw[← List.drop_drop,hd,List.drop_succ_cons,List.drop_zero]
  exact takeWhile_stop (fun b hb=>decide_eq_true (h2 b hb)) (by decide)
 have hg:allWords.getD i 0=32:=by
  have e:(allWords.drop i)[0]? = some 32:=by rw[hd];rfl
  rw[List.getElem?_drop,Nat.add_zero] at e
  rw[List.getD_eq_getElem?_getD,e];rfl
 have:=List.all_eq_true.1 spans_ok i (List.mem_range.2 (by omega))
 rw[hsp,hg] at this
 simpa [h1] using this
theorem res_seg {l:List UInt8} (h:resB l=true):wordB l=true∧∃i,i+l.length+2≤227∧(allWords.drop i).take (l.length+2)=32::(l++[32]):=by
 obtain⟨w,hw,he⟩:=List.any_eq_true.1 h
 obtain rfl:=of_decide_eq_true he
 refine⟨List.all_eq_true.1 words_words l hw,?_⟩
 have:=List.all_eq_true.1 words_there l hw
 obtain⟨i,_,hi⟩:=List.any_eq_true.1 this
 rw[Bool.and_eq_true] at hi
 exact⟨i,of_decide_eq_true hi.1,of_decide_eq_true hi.2⟩
theorem tx_mk {l m:List UInt8}:tx l=⟨List.toArray m⟩↔l=m:=⟨fun h=>tx_inj h,fun h=>by rw[h];rfl⟩
theorem p_reserved (l:List UInt8):Pure Tryz.prog 107 [pStr (tx l)] (pBool (resB l)):=by
 refine pure_of Tryz.func107 (by rfl) rfl (by kernel_rfl) (by rfl) ?_
 ((conv=>whnf);repeat' ((first|(with_reducible first|apply a_|apply b_|apply c_)|((with_reducible first|apply d_|apply e_|apply f_|apply g_);focus first|omega|(simp only[q_]<;>omega))|((with_reducible first|apply i_|apply h_);focus first|omega|(simp only[q_]<;>omega))|((with_reducible apply h_);focus first|decide|kernel_rfl)|refine s_ (by decide) ?_|refine t_ (by decide) ?_|with_reducible first|apply l_|apply m_|apply n_|apply o_|refine p_ (fun _=>?_) (fun _=>?_))<;>(conv=>whnf)))
 all_goals
  refine Ret.bool ?_
  simp only[tx_mk] at *
  simp[resB,resWords, *]
theorem p_isname (l:List UInt8) (hl:okText l):Pure Tryz.prog 86 [pStr (tx l)] (pBool (nameB l)):=by
 have tz:=tx_size l
 have pw:=p_isword l hl
 have pr:=p_reserved l
 refine pure_of Tryz.func86 (by rfl) rfl (by kernel_rfl) (by rfl) ?_
 unfold nameB
 cases hw:wordB l with
 | false=>
  rw[hw] at pw
  ((conv=>whnf);repeat' ((first|(with_reducible first|apply a_|apply b_|apply c_)|((with_reducible first|apply d_|apply e_|apply f_|apply g_);focus first|omega|(simp only[q_]<;>omega))|((with_reducible first|apply i_|apply h_);focus first|omega|(simp only[q_]<;>omega))|((with_reducible apply h_);focus first|decide|kernel_rfl)|refine s_ (by decide) ?_|refine t_ (by decide) ?_|refine r_ pw rfl ?_|with_reducible first|apply l_|apply m_|apply n_|apply o_|refine p_ (fun _=>?_) (fun _=>?_))<;>(conv=>whnf)))
  exact Ret.bool rfl
 | true=>
  rw[hw] at pw
  by_cases h:l.length≤12
  ·((conv=>whnf);repeat' ((first|(with_reducible first|apply a_|apply b_|apply c_)|((with_reducible first|apply d_|apply e_|apply f_|apply g_);focus first|omega|(simp only[q_]<;>omega))|((with_reducible first|apply i_|apply h_);focus first|omega|(simp only[q_]<;>omega))|((with_reducible apply h_);focus first|decide|kernel_rfl)|refine s_ (by decide) ?_|refine t_ (by decide) ?_|refine r_ pw rfl ?_|refine r_ pr rfl ?_|with_reducible first|apply l_|apply m_|apply n_|apply o_|refine p_ (fun _=>?_) (fun _=>?_))<;>(conv=>whnf)))
   exact Ret.bool (by simp[h])
  ·((conv=>whnf);repeat' ((first|(with_reducible first|apply a_|apply b_|apply c_)|((with_reducible first|apply d_|apply e_|apply f_|apply g_);focus first|omega|(simp only[q_]<;>omega))|((with_reducible first|apply i_|apply h_);focus first|omega|(simp only[q_]<;>omega))|((with_reducible apply h_);focus first|decide|kernel_rfl)|refine s_ (by decide) ?_|refine t_ (by decide) ?_|refine r_ pw rfl ?_|refine r_ pr rfl ?_|with_reducible first|apply l_|apply m_|apply n_|apply o_|refine p_ (fun _=>?_) (fun _=>?_))<;>(conv=>whnf)))
   exact Ret.bool (by simp[h])
theorem p_in (l:List UInt8) (hl:okText l) (k:Nat) (lo hi:Int):Pure Tryz.prog 145 [pStr (tx l),pInt .i64 k,pInt .i64 lo,pInt .i64 hi] (pBool (decide (k<l.length∧lo≤(l.getD k 0).toNat∧((l.getD k 0).toNat:Int)≤hi))):=by
 have tz:=tx_size l
 have hb:=u8_lt (l.getD k 0)
 unfold okText at hl
 refine pure_of Tryz.func145 (by rfl) rfl (by kernel_rfl) (by rfl) ?_
 by_cases h:k<l.length
 ·((conv=>whnf);repeat' ((first|(with_reducible first|apply a_|apply b_|apply c_)|((with_reducible first|apply d_|apply e_|apply f_|apply g_);focus first|omega|(simp only[q_]<;>omega))|((with_reducible first|apply i_|apply h_);focus first|omega|(simp only[q_]<;>omega))|((with_reducible apply h_);focus first|decide|kernel_rfl)|refine s_ (by decide) ?_|refine t_ (by decide) ?_|(refine SIdx.tx k rfl h ?_)|with_reducible first|apply l_|apply m_|apply n_|apply o_|refine p_ (fun _=>?_) (fun _=>?_))<;>(conv=>whnf)))
  all_goals
   refine Ret.bool ?_
   first
    | exact (decide_eq_true (by omega)).symm
    | exact (decide_eq_false (by omega)).symm
    | exact decide_eq_decide.2 (by omega)
 ·((conv=>whnf);repeat' ((first|(with_reducible first|apply a_|apply b_|apply c_)|((with_reducible first|apply d_|apply e_|apply f_|apply g_);focus first|omega|(simp only[q_]<;>omega))|((with_reducible first|apply i_|apply h_);focus first|omega|(simp only[q_]<;>omega))|((with_reducible apply h_);focus first|decide|kernel_rfl)|refine s_ (by decide) ?_|refine t_ (by decide) ?_|with_reducible first|apply l_|apply m_|apply n_|apply o_|refine p_ (fun _=>?_) (fun _=>?_))<;>(conv=>whnf)))
  exact Ret.bool (decide_eq_false (by omega)).symm
def inB (l:List UInt8) (k:Nat) (p:UInt8→Bool):Bool:=decide (k<l.length)&&p (l.getD k 0)
theorem p_isletter (l:List UInt8) (hl:okText l) (k:Nat):Pure Tryz.prog 116 [pStr (tx l),pInt .i64 k] (pBool (inB l k letB)):=by
 refine pure_of Tryz.func116 (by rfl) rfl (by kernel_rfl) (by rfl) ?_
 unfold inB letB
 ((conv=>whnf);repeat' ((first|(with_reducible first|apply a_|apply b_|apply c_)|((with_reducible first|apply d_|apply e_|apply f_|apply g_);focus first|omega|(simp only[q_]<;>omega))|((with_reducible first|apply i_|apply h_);focus first|omega|(simp only[q_]<;>omega))|((with_reducible apply h_);focus first|decide|kernel_rfl)|refine s_ (by decide) ?_|refine t_ (by decide) ?_|refine r_ (p_in l hl k 97 122) rfl ?_|refine r_ (p_in l hl k 65 90) rfl ?_|refine r_ (p_in l hl k 95 95) rfl ?_|with_reducible first|apply l_|apply m_|apply n_|apply o_|refine p_ (fun _=>?_) (fun _=>?_))<;>(conv=>whnf)))
 all_goals
  refine Ret.bool ?_
  rw[← Bool.decide_and]
  first
   | exact (decide_eq_true (by omega)).symm
   | exact (decide_eq_false (by omega)).symm
   | exact decide_eq_decide.2 (by omega)
theorem p_isdigit (l:List UInt8) (hl:okText l) (k:Nat):Pure Tryz.prog 117 [pStr (tx l),pInt .i64 k] (pBool (inB l k digB)):=by
 refine pure_of Tryz.func117 (by rfl) rfl (by kernel_rfl) (by rfl) ?_
 unfold inB digB
 ((conv=>whnf);repeat' ((first|(with_reducible first|apply a_|apply b_|apply c_)|((with_reducible first|apply d_|apply e_|apply f_|apply g_);focus first|omega|(simp only[q_]<;>omega))|((with_reducible first|apply i_|apply h_);focus first|omega|(simp only[q_]<;>omega))|((with_reducible apply h_);focus first|decide|kernel_rfl)|refine s_ (by decide) ?_|refine t_ (by decide) ?_|refine r_ (p_in l hl k 48 57) rfl ?_|with_reducible first|apply l_|apply m_|apply n_|apply o_|refine p_ (fun _=>?_) (fun _=>?_))<;>(conv=>whnf)))
 all_goals
  refine Ret.bool ?_
  rw[← Bool.decide_and]
  first
   | exact (decide_eq_true (by omega)).symm
   | exact (decide_eq_false (by omega)).symm
   | exact decide_eq_decide.2 (by omega)
theorem p_onebyteN (n:Int):Pure Tryz.prog 146 [pInt .i64 n] (pStr (tx [by1 n])):=by
 refine pure_of Tryz.func146 (by rfl) rfl (by kernel_rfl) (by rfl) ?_
 ((conv=>whnf);repeat' ((first|(with_reducible first|apply a_|apply b_|apply c_)|((with_reducible first|apply d_|apply e_|apply f_|apply g_);focus first|omega|(simp only[q_]<;>omega))|((with_reducible first|apply i_|apply h_);focus first|omega|(simp only[q_]<;>omega))|((with_reducible apply h_);focus first|decide|kernel_rfl)|refine s_ (by decide) ?_|refine t_ (by decide) ?_|with_reducible first|apply l_|apply m_|apply n_|apply o_|refine p_ (fun _=>?_) (fun _=>?_))<;>(conv=>whnf)))
 refine Bytes.of (l:=[by1 n]) rfl ?_
 ((conv=>whnf);repeat' ((first|(with_reducible first|apply a_|apply b_|apply c_)|((with_reducible first|apply d_|apply e_|apply f_|apply g_);focus first|omega|(simp only[q_]<;>omega))|((with_reducible first|apply i_|apply h_);focus first|omega|(simp only[q_]<;>omega))|((with_reducible apply h_);focus first|decide|kernel_rfl)|refine s_ (by decide) ?_|refine t_ (by decide) ?_|with_reducible first|apply l_|apply m_|apply n_|apply o_|refine p_ (fun _=>?_) (fun _=>?_))<;>(conv=>whnf)))
 exact Ret.mk rfl
theorem p_smallof (l:List UInt8) (hl:okText l):Pure Tryz.prog 118 [pStr (tx l)] (pStr (tx (l.map smB))):=by
 have tz:=tx_size l
 have hl':=hl
 unfold okText at hl'
 refine pure_of Tryz.func118 (by rfl) rfl (by kernel_rfl) (by rfl) ?_
 (((conv=>whnf);repeat ((with_reducible first|refine BCase.tt ?_|refine BCase.ff ?_);(conv=>whnf)));repeat ((first|with_reducible refine Wr.u8 ?_|((with_reducible first|refine Wr.ci ?wxs ?_|refine Wr.c3 ?wxs ?_|refine Wr.c6 ?wxs ?_|refine BCase.dt ?wxs ?_);case wxs=>(first|omega|(simp only[lens,true_and,and_true];(try omega);done)))|((with_reducible refine BCase.df ?wxs ?_);case wxs=>(first|omega|(simp only[lens,true_and,and_true];(try omega);done)))|((with_reducible refine Need.mk ?wxs ?_);case wxs=>first|(first|omega|(simp only[lens,true_and,and_true];(try omega);done))|decide|kernel_rfl)|refine BCase.t (by decide) ?_|refine BCase.f (by decide) ?_|with_reducible (first|refine BCase.not ?_|refine BCase.and ?_|refine BCase.or ?_));((conv=>whnf);repeat ((with_reducible first|refine BCase.tt ?_|refine BCase.ff ?_);(conv=>whnf)))))
 refine LoopC.mk Nat (fun k=>[(0,pStr (tx l)),(3,pStr (tx ((l.take k).map smB))),(4,pInt .i64 k)]) (fun _=>[]) [] (fun k=>k≤l.length) (fun k=>l.length - k) 0 (Nat.zero_le _) ?start ?round
 case start=>exact⟨[],rfl,rfl,⟨.inl rfl,.inl rfl,.inl rfl,trivial⟩,trivial⟩
 case round=>
  intro k hk
  have tk:(tx ((l.take k).map smB)).size=k:=by rw[tx_size,List.length_map,List.length_take];omega
  by_cases h1:k<l.length
  ·have hb:=u8_lt (l.getD k 0)
   have e:l.getD k 0=l[k]:=by rw[List.getD_eq_getElem?_getD,List.getElem?_eq_getElem h1];rfl
   have hx:(tx l).extract (k:Int).toNat ((k:Int)+1).toNat=tx [l.getD k 0]:=by
    rw[extract_tx,show ((k:Int)+1).toNat - (k:Int).toNat=1 by omega,Int.toNat_natCast,List.drop_eq_getElem_cons h1,e];rfl
   have hxs:((tx l).extract (k:Int).toNat ((k:Int)+1).toNat).size=1:=by rw[hx];rfl
   have hst:(l.take (k+1)).map smB=(l.take k).map smB++[smB (l.getD k 0)]:=by rw[take_snoc h1,List.map_append,e];rfl
   cases hu:upB (l.getD k 0) with
   | true=>
    have hv:=of_decide_eq_true hu
    have h2:=smB_up hu
    ((conv=>whnf);repeat' ((first|(with_reducible first|apply a_|apply b_|apply c_)|((with_reducible first|apply d_|apply e_|apply f_|apply g_);focus first|omega|(simp only[q_]<;>omega))|((with_reducible first|apply i_|apply h_);focus first|omega|(simp only[q_]<;>omega))|((with_reducible apply h_);focus first|decide|kernel_rfl)|refine s_ (by decide) ?_|refine t_ (by decide) ?_|refine r_ (p_in l hl k 65 90) rfl ?_|(refine SIdx.tx k rfl h1 ?_)|refine r_ (p_onebyteN _) rfl ?_|with_reducible first|apply l_|apply m_|apply n_|apply o_|refine p_ (fun _=>?_) (fun _=>?_))<;>(conv=>whnf)))
    refine⟨k+1,by omega,by omega,[],rfl,rfl,⟨.inl rfl,PLe.text ?_,PLe.int (by omega),trivial⟩,trivial⟩
    rw[tx_append,hst,show by1 (((l.getD k 0).toNat:Int)+32)=smB (l.getD k 0) from u8_eq.1 (by rw[by1_int];omega)]
   | false=>
    have hv:=of_decide_eq_false hu
    ((conv=>whnf);repeat' ((first|(with_reducible first|apply a_|apply b_|apply c_)|((with_reducible first|apply d_|apply e_|apply f_|apply g_);focus first|omega|(simp only[q_]<;>omega))|((with_reducible first|apply i_|apply h_);focus first|omega|(simp only[q_]<;>omega))|((with_reducible apply h_);focus first|decide|kernel_rfl)|refine s_ (by decide) ?_|refine t_ (by decide) ?_|refine r_ (p_in l hl k 65 90) rfl ?_|with_reducible first|apply l_|apply m_|apply n_|apply o_|refine p_ (fun _=>?_) (fun _=>?_))<;>(conv=>whnf)))
    refine⟨k+1,by omega,by omega,[],rfl,rfl,⟨.inl rfl,PLe.text ?_,PLe.int (by omega),trivial⟩,trivial⟩
    rw[hx,tx_append,hst,smB_no hu]
  ·obtain rfl:k=l.length:=by omega
   ((conv=>whnf);repeat' ((first|(with_reducible first|apply a_|apply b_|apply c_)|((with_reducible first|apply d_|apply e_|apply f_|apply g_);focus first|omega|(simp only[q_]<;>omega))|((with_reducible first|apply i_|apply h_);focus first|omega|(simp only[q_]<;>omega))|((with_reducible apply h_);focus first|decide|kernel_rfl)|refine s_ (by decide) ?_|refine t_ (by decide) ?_|with_reducible first|apply l_|apply m_|apply n_|apply o_|refine p_ (fun _=>?_) (fun _=>?_))<;>(conv=>whnf)))
   exact Ret.text (by rw[List.take_length])
theorem p_iswordref (l:List UInt8) (hl:okText l):Pure Tryz.prog 99 [pStr (tx l)] (pBool (wordB l)):=by
 have tz:=tx_size l
 have hl':=hl
 unfold okText at hl'
 refine pure_of Tryz.func99 (by rfl) rfl (by kernel_rfl) (by rfl) ?_
 (((conv=>whnf);repeat ((with_reducible first|refine BCase.tt ?_|refine BCase.ff ?_);(conv=>whnf)));repeat ((first|with_reducible refine Wr.u8 ?_|((with_reducible first|refine Wr.ci ?wxs ?_|refine Wr.c3 ?wxs ?_|refine Wr.c6 ?wxs ?_|refine BCase.dt ?wxs ?_);case wxs=>(first|omega|(simp only[lens,true_and,and_true];(try omega);done)))|((with_reducible refine BCase.df ?wxs ?_);case wxs=>(first|omega|(simp only[lens,true_and,and_true];(try omega);done)))|((with_reducible refine Need.mk ?wxs ?_);case wxs=>first|(first|omega|(simp only[lens,true_and,and_true];(try omega);done))|decide|kernel_rfl)|refine BCase.t (by decide) ?_|refine BCase.f (by decide) ?_|with_reducible (first|refine BCase.not ?_|refine BCase.and ?_|refine BCase.or ?_));((conv=>whnf);repeat ((with_reducible first|refine BCase.tt ?_|refine BCase.ff ?_);(conv=>whnf)))))
 refine LoopC.mk Nat (fun k=>[(0,pStr (tx l)),(3,pInt .i64 k)]) (fun _=>[]) [] (fun k=>k≤l.length∧∀j,j<k→(letB (l.getD j 0)||digB (l.getD j 0))=true) (fun k=>l.length - k) 0 ⟨Nat.zero_le _,fun j hj=>absurd hj (Nat.not_lt_zero _)⟩ ?start ?round
 case start=>exact⟨[],rfl,rfl,⟨.inl rfl,.inl rfl,trivial⟩,trivial⟩
 case round=>
  rintro k ⟨hk,hz⟩
  by_cases h1:k<l.length
  ·have pl:=p_isletter l hl k
   have pd:=p_isdigit l hl k
   rw[show inB l k letB=letB (l.getD k 0) by unfold inB;rw[decide_eq_true h1];rfl] at pl
   rw[show inB l k digB=digB (l.getD k 0) by unfold inB;rw[decide_eq_true h1];rfl] at pd
   have next:(letB (l.getD k 0)||digB (l.getD k 0))=true→∀j,j<k+1→(letB (l.getD j 0)||digB (l.getD j 0))=true:=by
    intro h j hj
    by_cases hjk:j=k
    ·rw[hjk];exact h
    ·exact hz j (by omega)
   cases ha:letB (l.getD k 0) with
   | true=>
    rw[ha] at pl
    ((conv=>whnf);repeat' ((first|(with_reducible first|apply a_|apply b_|apply c_)|((with_reducible first|apply d_|apply e_|apply f_|apply g_);focus first|omega|(simp only[q_]<;>omega))|((with_reducible first|apply i_|apply h_);focus first|omega|(simp only[q_]<;>omega))|((with_reducible apply h_);focus first|decide|kernel_rfl)|refine s_ (by decide) ?_|refine t_ (by decide) ?_|refine r_ pl rfl ?_|with_reducible first|apply l_|apply m_|apply n_|apply o_|refine p_ (fun _=>?_) (fun _=>?_))<;>(conv=>whnf)))
    exact⟨k+1,⟨by omega,next (by rw[ha];rfl)⟩,by omega,[],rfl,rfl,⟨.inl rfl,PLe.int (by omega),trivial⟩,trivial⟩
   | false=>
    rw[ha] at pl
    cases hd:digB (l.getD k 0) with
    | true=>
     rw[hd] at pd
     ((conv=>whnf);repeat' ((first|(with_reducible first|apply a_|apply b_|apply c_)|((with_reducible first|apply d_|apply e_|apply f_|apply g_);focus first|omega|(simp only[q_]<;>omega))|((with_reducible first|apply i_|apply h_);focus first|omega|(simp only[q_]<;>omega))|((with_reducible apply h_);focus first|decide|kernel_rfl)|refine s_ (by decide) ?_|refine t_ (by decide) ?_|refine r_ pl rfl ?_|refine r_ pd rfl ?_|with_reducible first|apply l_|apply m_|apply n_|apply o_|refine p_ (fun _=>?_) (fun _=>?_))<;>(conv=>whnf)))
     exact⟨k+1,⟨by omega,next (by rw[ha,hd];rfl)⟩,by omega,[],rfl,rfl,⟨.inl rfl,PLe.int (by omega),trivial⟩,trivial⟩
    | false=>
     rw[hd] at pd
     ((conv=>whnf);repeat' ((first|(with_reducible first|apply a_|apply b_|apply c_)|((with_reducible first|apply d_|apply e_|apply f_|apply g_);focus first|omega|(simp only[q_]<;>omega))|((with_reducible first|apply i_|apply h_);focus first|omega|(simp only[q_]<;>omega))|((with_reducible apply h_);focus first|decide|kernel_rfl)|refine s_ (by decide) ?_|refine t_ (by decide) ?_|refine r_ pl rfl ?_|refine r_ pd rfl ?_|with_reducible first|apply l_|apply m_|apply n_|apply o_|refine p_ (fun _=>?_) (fun _=>?_))<;>(conv=>whnf)))
     refine Ret.bool ?_
     symm
     rw[Bool.eq_false_iff]
     intro hw
     cases l with
     | nil=>exact absurd h1 (Nat.not_lt_zero _)
     | cons b r=>
      have hw':(letB b&&(b::r).all wB)=true:=hw
      rw[Bool.and_eq_true,List.all_eq_true] at hw'
      have hm:=hw'.2 ((b::r).getD k 0) (by rw[List.getD_eq_getElem?_getD,List.getElem?_eq_getElem h1];exact List.getElem_mem _)
      unfold wB at hm
      rw[ha,hd] at hm
      cases hm
  ·have hall:∀b∈l,(letB b||digB b)=true:=by
    intro b hb
    obtain⟨j,hj,rfl⟩:=List.mem_iff_getElem.1 hb
    have:=hz j (by omega)
    rwa [List.getD_eq_getElem?_getD,List.getElem?_eq_getElem hj] at this
   cases l with
   | nil=>
    have pl:=p_isletter [] hl 0
    ((conv=>whnf);repeat' ((first|(with_reducible first|apply a_|apply b_|apply c_)|((with_reducible first|apply d_|apply e_|apply f_|apply g_);focus first|omega|(simp only[q_]<;>omega))|((with_reducible first|apply i_|apply h_);focus first|omega|(simp only[q_]<;>omega))|((with_reducible apply h_);focus first|decide|kernel_rfl)|refine s_ (by decide) ?_|refine t_ (by decide) ?_|refine r_ pl rfl ?_|with_reducible first|apply l_|apply m_|apply n_|apply o_|refine p_ (fun _=>?_) (fun _=>?_))<;>(conv=>whnf)))
    exact Ret.bool rfl
   | cons b r=>
    have pl:=p_isletter (b::r) hl 0
    rw[show inB (b::r) 0 letB=letB b from rfl] at pl
    cases ha:letB b with
    | false=>
     rw[ha] at pl
     ((conv=>whnf);repeat' ((first|(with_reducible first|apply a_|apply b_|apply c_)|((with_reducible first|apply d_|apply e_|apply f_|apply g_);focus first|omega|(simp only[q_]<;>omega))|((with_reducible first|apply i_|apply h_);focus first|omega|(simp only[q_]<;>omega))|((with_reducible apply h_);focus first|decide|kernel_rfl)|refine s_ (by decide) ?_|refine t_ (by decide) ?_|refine r_ pl rfl ?_|with_reducible first|apply l_|apply m_|apply n_|apply o_|refine p_ (fun _=>?_) (fun _=>?_))<;>(conv=>whnf)))
     refine Ret.bool ?_
     show false=(letB b&&(b::r).all wB)
     rw[ha];rfl
    | true=>
     rw[ha] at pl
     ((conv=>whnf);repeat' ((first|(with_reducible first|apply a_|apply b_|apply c_)|((with_reducible first|apply d_|apply e_|apply f_|apply g_);focus first|omega|(simp only[q_]<;>omega))|((with_reducible first|apply i_|apply h_);focus first|omega|(simp only[q_]<;>omega))|((with_reducible apply h_);focus first|decide|kernel_rfl)|refine s_ (by decide) ?_|refine t_ (by decide) ?_|refine r_ pl rfl ?_|refine r_ (p_smallof (b::r) hl) rfl ?_|with_reducible first|apply l_|apply m_|apply n_|apply o_|refine p_ (fun _=>?_) (fun _=>?_))<;>(conv=>whnf)))
     refine Ret.bool ?_
     show _=(letB b&&(b::r).all wB)
     rw[ha,Bool.true_and,Bool.eq_iff_iff,decide_eq_true_eq,tx_eq,smB_map,List.all_eq_true]
     refine⟨fun h x hx=>?_,fun h x hx=>?_⟩
     ·unfold wB;rw[hall x hx,decide_eq_true (h x hx)];rfl
     ·have:=h x hx
      unfold wB at this
      rw[Bool.and_eq_true] at this
      exact of_decide_eq_true this.2
theorem p_resref (l:List UInt8) (hl:okText l):Pure Tryz.prog 100 [pStr (tx l)] (pBool (resB l)):=by
 have tz:=tx_size l
 have hl':=hl
 unfold okText at hl'
 have hA:(tx allWords).size=227:=allWords_len
 have hT:(⟨#[32]⟩:ByteArray)++tx l++⟨#[32]⟩=tx (32::(l++[32])):=by
  rw[show (⟨#[32]⟩:ByteArray)=tx [32] from rfl,tx_append,tx_append];rfl
 have hS0:(⟨#[32]⟩:ByteArray).size=1:=rfl
 have hS1:((⟨#[32]⟩:ByteArray)++tx l).size=l.length+1:=by rw[ByteArray.size_append];show 1+l.length=_;omega
 refine pure_of Tryz.func100 (by rfl) rfl (by kernel_rfl) (by rfl) ?_
 (((conv=>whnf);repeat ((with_reducible first|refine BCase.tt ?_|refine BCase.ff ?_);(conv=>whnf)));repeat ((first|with_reducible refine Wr.u8 ?_|((with_reducible first|refine Wr.ci ?wxs ?_|refine Wr.c3 ?wxs ?_|refine Wr.c6 ?wxs ?_|refine BCase.dt ?wxs ?_);case wxs=>(first|omega|(simp only[lens,true_and,and_true];(try omega);done)))|((with_reducible refine BCase.df ?wxs ?_);case wxs=>(first|omega|(simp only[lens,true_and,and_true];(try omega);done)))|((with_reducible refine Need.mk ?wxs ?_);case wxs=>first|(first|omega|(simp only[lens,true_and,and_true];(try omega);done))|decide|kernel_rfl)|refine BCase.t (by decide) ?_|refine BCase.f (by decide) ?_|with_reducible (first|refine BCase.not ?_|refine BCase.and ?_|refine BCase.or ?_));((conv=>whnf);repeat ((with_reducible first|refine BCase.tt ?_|refine BCase.ff ?_);(conv=>whnf)))))
 refine LoopC.mk Nat (fun k=>[(0,pStr (tx l)),(3,pStr (tx allWords)),(4,pInt .i64 l.length),(5,pInt .i64 k)]) (fun _=>[]) [] (fun k=>k≤227∧∀j,j<k→j+l.length+2≤227→¬((allWords.drop j).take (l.length+2)=32::(l++[32])∧wordB l=true)) (fun k=>227 - k) 0 ⟨Nat.zero_le _,fun j hj=>absurd hj (Nat.not_lt_zero _)⟩ ?start ?round
 case start=>exact⟨[],rfl,rfl,⟨.inl rfl,.inl rfl,PLe.int rfl,.inl rfl,trivial⟩,trivial⟩
 case round=>
  rintro k ⟨hk,hz⟩
  by_cases h1:k+l.length+2≤227
  ·have hx:(tx allWords).extract (k:Int).toNat ((k:Int)+(l.length:Int)+2).toNat=tx ((allWords.drop k).take (l.length+2)):=by
    rw[extract_tx,show ((k:Int)+(l.length:Int)+2).toNat - (k:Int).toNat=l.length+2 by omega,Int.toNat_natCast]
   by_cases hm:(allWords.drop k).take (l.length+2)=32::(l++[32])
   ·have hq:(tx allWords).extract (k:Int).toNat ((k:Int)+(l.length:Int)+2).toNat=(⟨#[32]⟩:ByteArray)++tx l++⟨#[32]⟩:=by rw[hx,hm,hT]
    have pw:=p_iswordref l hl
    cases hw:wordB l with
    | true=>
     rw[hw] at pw
     ((conv=>whnf);repeat' ((first|(with_reducible first|apply a_|apply b_|apply c_)|((with_reducible first|apply d_|apply e_|apply f_|apply g_);focus first|omega|(simp only[q_]<;>omega))|((with_reducible first|apply i_|apply h_);focus first|omega|(simp only[q_]<;>omega))|((with_reducible apply h_);focus first|decide|kernel_rfl)|refine s_ (by decide) ?_|refine t_ (by decide) ?_|(refine BCase.dt hq ?_)|refine r_ pw rfl ?_|with_reducible first|apply l_|apply m_|apply n_|apply o_|refine p_ (fun _=>?_) (fun _=>?_))<;>(conv=>whnf)))
     exact Ret.bool (seg_res hw hm h1).symm
    | false=>
     rw[hw] at pw
     ((conv=>whnf);repeat' ((first|(with_reducible first|apply a_|apply b_|apply c_)|((with_reducible first|apply d_|apply e_|apply f_|apply g_);focus first|omega|(simp only[q_]<;>omega))|((with_reducible first|apply i_|apply h_);focus first|omega|(simp only[q_]<;>omega))|((with_reducible apply h_);focus first|decide|kernel_rfl)|refine s_ (by decide) ?_|refine t_ (by decide) ?_|(refine BCase.dt hq ?_)|refine r_ pw rfl ?_|with_reducible first|apply l_|apply m_|apply n_|apply o_|refine p_ (fun _=>?_) (fun _=>?_))<;>(conv=>whnf)))
     refine⟨k+1,⟨by omega,fun j hj hn=>?_⟩,by omega,[],rfl,rfl,⟨.inl rfl,.inl rfl,.inl rfl,PLe.int (by omega),trivial⟩,trivial⟩
     by_cases hjk:j=k
     ·rintro⟨_,q⟩;first|cases q | (rw[hw] at q;cases q)
     ·first|exact hz j (by omega) hn | (rw[← hw];exact hz j (by omega) hn)
   ·have hq:¬(tx allWords).extract (k:Int).toNat ((k:Int)+(l.length:Int)+2).toNat=(⟨#[32]⟩:ByteArray)++tx l++⟨#[32]⟩:=by
     rw[hx,hT];exact fun e=>hm (tx_inj e)
    ((conv=>whnf);repeat' ((first|(with_reducible first|apply a_|apply b_|apply c_)|((with_reducible first|apply d_|apply e_|apply f_|apply g_);focus first|omega|(simp only[q_]<;>omega))|((with_reducible first|apply i_|apply h_);focus first|omega|(simp only[q_]<;>omega))|((with_reducible apply h_);focus first|decide|kernel_rfl)|refine s_ (by decide) ?_|refine t_ (by decide) ?_|(refine BCase.df hq ?_)|with_reducible first|apply l_|apply m_|apply n_|apply o_|refine p_ (fun _=>?_) (fun _=>?_))<;>(conv=>whnf)))
    refine⟨k+1,⟨by omega,fun j hj hn=>?_⟩,by omega,[],rfl,rfl,⟨.inl rfl,.inl rfl,.inl rfl,PLe.int (by omega),trivial⟩,trivial⟩
    by_cases hjk:j=k
    ·subst hjk;exact fun q=>hm q.1
    ·exact hz j (by omega) hn
  ·((conv=>whnf);repeat' ((first|(with_reducible first|apply a_|apply b_|apply c_)|((with_reducible first|apply d_|apply e_|apply f_|apply g_);focus first|omega|(simp only[q_]<;>omega))|((with_reducible first|apply i_|apply h_);focus first|omega|(simp only[q_]<;>omega))|((with_reducible apply h_);focus first|decide|kernel_rfl)|refine s_ (by decide) ?_|refine t_ (by decide) ?_|with_reducible first|apply l_|apply m_|apply n_|apply o_|refine p_ (fun _=>?_) (fun _=>?_))<;>(conv=>whnf)))
   refine Ret.bool ?_
   symm
   rw[Bool.eq_false_iff]
   intro hr
   obtain⟨hw,i,hi,hs⟩:=res_seg hr
   exact hz i (by omega) hi ⟨hs,hw⟩
theorem p_namecheck (l:List UInt8) (hl:okText l):Pure Tryz.prog 78 [pStr (tx l)] (pBool (nameB l)):=by
 have tz:=tx_size l
 have pw:=p_iswordref l hl
 have pr:=p_resref l hl
 refine pure_of Tryz.func78 (by rfl) rfl (by kernel_rfl) (by rfl) ?_
 unfold nameB
 cases hw:wordB l with
 | false=>
  rw[hw] at pw
  ((conv=>whnf);repeat' ((first|(with_reducible first|apply a_|apply b_|apply c_)|((with_reducible first|apply d_|apply e_|apply f_|apply g_);focus first|omega|(simp only[q_]<;>omega))|((with_reducible first|apply i_|apply h_);focus first|omega|(simp only[q_]<;>omega))|((with_reducible apply h_);focus first|decide|kernel_rfl)|refine s_ (by decide) ?_|refine t_ (by decide) ?_|refine r_ pw rfl ?_|with_reducible first|apply l_|apply m_|apply n_|apply o_|refine p_ (fun _=>?_) (fun _=>?_))<;>(conv=>whnf)))
  exact Ret.bool rfl
 | true=>
  rw[hw] at pw
  by_cases h:l.length≤12
  ·((conv=>whnf);repeat' ((first|(with_reducible first|apply a_|apply b_|apply c_)|((with_reducible first|apply d_|apply e_|apply f_|apply g_);focus first|omega|(simp only[q_]<;>omega))|((with_reducible first|apply i_|apply h_);focus first|omega|(simp only[q_]<;>omega))|((with_reducible apply h_);focus first|decide|kernel_rfl)|refine s_ (by decide) ?_|refine t_ (by decide) ?_|refine r_ pw rfl ?_|refine r_ pr rfl ?_|with_reducible first|apply l_|apply m_|apply n_|apply o_|refine p_ (fun _=>?_) (fun _=>?_))<;>(conv=>whnf)))
   exact Ret.bool (by simp[h])
  ·((conv=>whnf);repeat' ((first|(with_reducible first|apply a_|apply b_|apply c_)|((with_reducible first|apply d_|apply e_|apply f_|apply g_);focus first|omega|(simp only[q_]<;>omega))|((with_reducible first|apply i_|apply h_);focus first|omega|(simp only[q_]<;>omega))|((with_reducible apply h_);focus first|decide|kernel_rfl)|refine s_ (by decide) ?_|refine t_ (by decide) ?_|refine r_ pw rfl ?_|refine r_ pr rfl ?_|with_reducible first|apply l_|apply m_|apply n_|apply o_|refine p_ (fun _=>?_) (fun _=>?_))<;>(conv=>whnf)))
   exact Ret.bool (by simp[h])
end
section
open Go.RowKit K
set_option maxRecDepth 100000
structure NodeD where
 Op:Int
 Kids:Int
 V:ValueD
 Name:List UInt8
def NodeD.c (x:NodeD):List C:=[.v (.int .i64 x.Op),.v (.int .i64 x.Kids)]++ValueD.c x.V++[.v (.string (tx x.Name))]
def NodeD.ok (x:NodeD):Prop:=okInt x.Op∧okInt x.Kids∧ValueD.ok x.V∧okText x.Name
theorem openC_Node:OpensC Tryz.prog 35 6 NodeD.c NodeD.ok:=by
 refine⟨by kernel_rfl,by decide,?_⟩
 intro H enc w spare held fuel cs x h hl
 have ht:Tryz.prog.underlying 35=some (.struct (Tryz.prog.fieldsOf 35)):=by kernel_rfl
 have hlen:=struct_len ht h
 rw[show Tryz.prog.cellsOf 35=6 by kernel_rfl] at hlen
 obtain⟨a0,e0,k0⟩:=field_of ht h hl 0 3 0 1 (by kernel_rfl) (openC_int Tryz.underlying3 (by kernel_rfl))
 obtain⟨a1,e1,k1⟩:=field_of ht h hl 1 3 1 1 (by kernel_rfl) (openC_int Tryz.underlying3 (by kernel_rfl))
 obtain⟨a2,e2,k2⟩:=field_of ht h hl 2 33 2 3 (by kernel_rfl) openC_Value
 obtain⟨a3,e3,k3⟩:=field_of ht h hl 3 9 5 1 (by kernel_rfl) (openC_text Tryz.underlying9 (by kernel_rfl))
 have hall:CsRep (FW w) w (eInt a0++(eInt a1++(ValueD.c a2++(eText a3++[])))) (cs.drop 0):=(cs_field e0 (cs_field e1 (cs_field e2 (cs_field e3 (cs_end hlen)))))
 rw[List.drop_zero] at hall
 exact⟨hlen,⟨a0,a1,a2,a3⟩,hall,⟨k0,k1,k2,k3⟩⟩
def NodeD.eqB (x y:NodeD):Bool:=(decide (x.Op=y.Op)&&(decide (x.Kids=y.Kids)&&(decide (x.V.Kind=y.V.Kind)&&(decide (x.V.N=y.V.N)&&(decide (tx x.V.S=tx y.V.S)&&(decide (tx x.Name=tx y.Name)&&true))))))
theorem NodeD.eqB_iff (x y:NodeD):NodeD.eqB x y=true↔x=y:=by
 rcases x with ⟨x0,x1,⟨x20,x21,x22⟩,x3⟩;rcases y with ⟨y0,y1,⟨y20,y21,y22⟩,y3⟩
 simp[NodeD.eqB,tx_eq,ValueD.mk.injEq,and_assoc]
abbrev nV (x:NodeD):PV:=.agg (x.c.map D.c)
end
section
set_option maxRecDepth 100000
inductive Ex where
 | mk (n:NodeD) (ks:List Ex)
mutual
def Ex.flat:Ex→List NodeD
 | .mk n ks=>Ex.flats ks++[n]
def Ex.flats:List Ex→List NodeD
 | []=>[]
 | t::ts=>t.flat++Ex.flats ts
end
mutual
def Ex.good:Ex→Prop
 | .mk n ks=>n.Kids=(ks.length:Int)∧Ex.goods ks
def Ex.goods:List Ex→Prop
 | []=>True
 | t::ts=>t.good∧Ex.goods ts
end
mutual
def Ex.depth:Ex→Nat
 | .mk _ ks=>Ex.depths ks+1
def Ex.depths:List Ex→Nat
 | []=>0
 | t::ts=>max t.depth (Ex.depths ts)
end
theorem Ex.flats_append:∀(a b:List Ex),Ex.flats (a++b)=Ex.flats a++Ex.flats b
 | [],b=>by simp[Ex.flats]
 | t::a,b=>by rw[List.cons_append,Ex.flats,Ex.flats,Ex.flats_append a b,List.append_assoc]
theorem Ex.goods_append:∀{a b:List Ex},Ex.goods (a++b)↔Ex.goods a∧Ex.goods b
 | [],b=>by simp[Ex.goods]
 | t::a,b=>by rw[List.cons_append,Ex.goods,Ex.goods,Ex.goods_append (a:=a),and_assoc]
theorem Ex.flats_one (t:Ex):Ex.flats [t]=t.flat:=by simp[Ex.flats]
theorem Ex.flat_pos:∀t:Ex,0<t.flat.length
 | .mk n ks=>by rw[Ex.flat,List.length_append,List.length_singleton];omega
theorem Ex.goods_mem:∀{l:List Ex},Ex.goods l→∀t∈l,t.good
 | [],_,t,h=>by cases h
 | x::l,hg,t,h=>by
  rw[Ex.goods] at hg
  rcases List.mem_cons.1 h with rfl | h
  ·exact hg.1
  ·exact Ex.goods_mem hg.2 t h
def walkG {α:Type} (f:NodeD→List α→Except Int α):List α→List NodeD→Except Int (List α)
 | st,[]=>.ok st
 | st,n::r=>if n.Kids<0∨(st.length:Int)<n.Kids then .error 1 else
  match f n (st.drop (st.length - n.Kids.toNat)) with
  | .error e=>.error e
  | .ok x=>walkG f (st.take (st.length - n.Kids.toNat)++[x]) r
theorem walkG_cons {α:Type} (f:NodeD→List α→Except Int α) (st:List α) (n:NodeD) (r:List NodeD):walkG f st (n::r)=if n.Kids<0∨(st.length:Int)<n.Kids then .error 1 else
  match f n (st.drop (st.length - n.Kids.toNat)) with
  | .error e=>.error e
  | .ok x=>walkG f (st.take (st.length - n.Kids.toNat)++[x]) r:=rfl
def walkR {α:Type} (f:NodeD→List α→Except Int α) (e:List NodeD):Except Int α:=
 match walkG f [] e with
 | .error x=>.error x
 | .ok [x]=>.ok x
 | .ok _=>.error 1
mutual
def foldX {α:Type} (f:NodeD→List α→Except Int α):Ex→Except Int α
 | .mk n ks=>match foldXs f ks with
  | .error e=>.error e
  | .ok vs=>f n vs
def foldXs {α:Type} (f:NodeD→List α→Except Int α):List Ex→Except Int (List α)
 | []=>.ok []
 | t::ts=>match foldX f t with
  | .error e=>.error e
  | .ok v=>match foldXs f ts with
   | .error e=>.error e
   | .ok vs=>.ok (v::vs)
end
theorem foldXs_len {α:Type} {f:NodeD→List α→Except Int α}:∀{l:List Ex} {vs:List α},foldXs f l=.ok vs→vs.length=l.length
 | [],vs,h=>by rw[foldXs] at h;cases h;rfl
 | t::l,vs,h=>by
  rw[foldXs] at h
  split at h
  ·cases h
  ·split at h
   ·cases h
   ·rename_i us hu
    cases h
    rw[List.length_cons,List.length_cons,foldXs_len hu]
mutual
theorem walk_fold {α:Type} (f:NodeD→List α→Except Int α):∀(t:Ex),t.good→∀(st:List α) (r:List NodeD),walkG f st (t.flat++r)=match foldX f t with
  | .error e=>.error e
  | .ok v=>walkG f (st++[v]) r
 | .mk n ks,hg,st,r=>by
  rw[Ex.good] at hg
  rw[Ex.flat,List.append_assoc,walk_folds f ks hg.2 st ([n]++r),foldX]
  cases hk:foldXs f ks with
  | error e=>rfl
  | ok vs=>
   have hl:=foldXs_len hk
   show walkG f (st++vs) (n::r)=match f n vs with
    | .error e=>.error e
    | .ok v=>walkG f (st++[v]) r
   have e1:(st++vs).length - n.Kids.toNat=st.length:=by rw[List.length_append,hg.1,hl];simp
   rw[walkG_cons,if_neg (by rw[List.length_append,hg.1,hl];omega),e1,List.drop_left' rfl,List.take_left' rfl]
theorem walk_folds {α:Type} (f:NodeD→List α→Except Int α):∀(l:List Ex),Ex.goods l→∀(st:List α) (r:List NodeD),walkG f st (Ex.flats l++r)=match foldXs f l with
  | .error e=>.error e
  | .ok vs=>walkG f (st++vs) r
 | [],_,st,r=>by rw[Ex.flats,foldXs,List.nil_append];simp
 | t::l,hg,st,r=>by
  rw[Ex.goods] at hg
  rw[Ex.flats,List.append_assoc,walk_fold f t hg.1 st,foldXs]
  cases h1:foldX f t with
  | error e=>rfl
  | ok v=>
   show walkG f (st++[v]) (Ex.flats l++r)=_
   rw[walk_folds f l hg.2]
   cases h2:foldXs f l with
   | error e=>rfl
   | ok vs=>simp
end
theorem walkR_fold {α:Type} (f:NodeD→List α→Except Int α) (t:Ex) (hg:t.good):walkR f t.flat=foldX f t:=by
 unfold walkR
 have:=walk_fold f t hg [] []
 rw[List.append_nil] at this
 rw[this]
 cases foldX f t<;>rfl
def treeF (n:NodeD) (ks:List Ex):Except Int Ex:=.ok (.mk n ks)
theorem walk_trees:∀(e:List NodeD) (st ts:List Ex),Ex.goods st→walkG treeF st e=.ok ts→Ex.goods ts∧Ex.flats ts=Ex.flats st++e
 | [],st,ts,hg,h=>by cases h;exact⟨hg,by simp⟩
 | n::r,st,ts,hg,h=>by
  rw[walkG_cons] at h
  split at h
  ·cases h
  ·rename_i hk
   have hk1:¬n.Kids<0:=fun q=>hk (.inl q)
   have hk2:¬(st.length:Int)<n.Kids:=fun q=>hk (.inr q)
   have hsplit:=List.take_append_drop (st.length - n.Kids.toNat) st
   have hg2:=hg
   rw[← hsplit,Ex.goods_append] at hg2
   have hnew:Ex.goods (st.take (st.length - n.Kids.toNat)++[.mk n (st.drop (st.length - n.Kids.toNat))]):=by
    rw[Ex.goods_append]
    refine⟨hg2.1,?_⟩
    rw[Ex.goods,Ex.good,Ex.goods]
    refine⟨⟨?_,hg2.2⟩,trivial⟩
    rw[List.length_drop];omega
   obtain⟨h1,h2⟩:=walk_trees r _ ts hnew h
   refine⟨h1,?_⟩
   rw[h2,Ex.flats_append,Ex.flats_one,Ex.flat]
   conv=>rhs;rw[← hsplit,Ex.flats_append]
   simp only[List.append_assoc,List.singleton_append]
theorem walkG_trees {α:Type} (f:NodeD→List α→Except Int α):∀(e:List NodeD) (st:List α) (ts:List Ex) (us:List α),st.length=ts.length→walkG f st e=.ok us→∃vs,walkG treeF ts e=.ok vs∧vs.length=us.length
 | [],st,ts,us,hl,h=>by cases h;exact⟨ts,rfl,hl.symm⟩
 | n::r,st,ts,us,hl,h=>by
  rw[walkG_cons] at h ⊢
  split at h
  ·cases h
  ·rename_i hk
   rw[if_neg (by rw[← hl];exact hk)]
   split at h
   ·cases h
   ·rename_i x hx
    exact walkG_trees f r _ _ us (by rw[List.length_append,List.length_append,List.length_take,List.length_take,hl];simp) h
theorem tree_of_walk {α:Type} {f:NodeD→List α→Except Int α} {e:List NodeD} {x:α} (h:walkR f e=.ok x):∃t:Ex,t.good∧t.flat=e:=by
 unfold walkR at h
 split at h
 ·cases h
 ·rename_i y hy
  obtain⟨vs,h1,h2⟩:=walkG_trees f e [] [] _ rfl hy
  obtain⟨h3,h4⟩:=walk_trees e [] vs (by rw[Ex.goods];trivial) h1
  match vs,h2 with
  | [t],_=>
   rw[Ex.goods] at h3
   refine⟨t,h3.1,?_⟩
   rw[Ex.flats_one] at h4
   rw[h4];simp[Ex.flats]
 ·cases h
end
section
set_option maxRecDepth 100000
end
section
set_option maxRecDepth 100000
def noV:ValueD:=⟨0,0,[]⟩
def leastK (op:Int):Int:=if op=1∨op=2 then 0 else if op=3∨op=4∨op=18∨op=19 then 1 else if op=24∨op=25 then 3 else 2
def mostK (op:Int):Int:=if op=22∨op=23 then 7 else leastK op
def alF (n:NodeD):Int:=
 if n.Op<1∨25<n.Op then 7
 else if n.Kids<leastK n.Op∨mostK n.Op<n.Kids∨(n.Op≠1∧ValueD.eqB n.V noV=false)∨(n.Op≠2∧n.Name≠[]) then 1
 else if n.Op=1 then (if vChk n.V≠0 then vChk n.V else if n.V.N<0 then 3 else 0)
 else if n.Op=2∧nameB n.Name=false then 1 else 0
theorem leastK_pos (op:Int):0≤leastK op∧leastK op≤3:=by unfold leastK;(repeat' split)<;>omega
theorem mostK_le (op:Int):mostK op≤7:=by have:=leastK_pos op;unfold mostK;split<;>omega
theorem alF_kids {n:NodeD} (h:alF n=0):0≤n.Kids∧n.Kids≤7∧leastK n.Op≤n.Kids∧n.Kids≤mostK n.Op∧1≤n.Op∧n.Op≤25:=by
 have h1:=leastK_pos n.Op
 have h2:=mostK_le n.Op
 unfold alF at h
 split at h
 ·omega
 ·split at h
  ·omega
  ·rename_i h4 h3
   have a1:¬n.Kids<leastK n.Op:=fun q=>h3 (.inl q)
   have a2:¬mostK n.Op<n.Kids:=fun q=>h3 (.inr (.inl q))
   omega
def chkO:Nat→List NodeD→Int
 | o,[]=>if o≠1 then 1 else 0
 | o,n::r=>if alF n≠0 then alF n else if (o:Int)<n.Kids then 1 else chkO (o+1 - n.Kids.toNat) r
theorem chkO_cons (o:Nat) (n:NodeD) (r:List NodeD):chkO o (n::r)=if alF n≠0 then alF n else if (o:Int)<n.Kids then 1 else chkO (o+1 - n.Kids.toNat) r:=rfl
def maxL:List Nat→Nat
 | []=>0
 | x::r=>max x (maxL r)
def deepF (n:NodeD) (ks:List Nat):Except Int Nat:=.ok (maxL ks+1)
def depthE (e:List NodeD):Nat:=match walkR deepF e with
 | .ok d=>d
 | .error _=>0
def checkF (e:List NodeD):Int:=if 60<e.length then 2 else if chkO 0 e≠0 then chkO 0 e else if 12<depthE e then 10 else 0
def chkR:List Nat→List NodeD→Int
 | st,[]=>if st.length≠1 then 1 else if 12<st.headD 0 then 10 else 0
 | st,n::r=>if alF n≠0 then alF n else if (st.length:Int)<n.Kids then 1 else chkR (st.take (st.length - n.Kids.toNat)++[maxL (st.drop (st.length - n.Kids.toNat))+1]) r
theorem chkR_cons (st:List Nat) (n:NodeD) (r:List NodeD):chkR st (n::r)=if alF n≠0 then alF n else if (st.length:Int)<n.Kids then 1 else chkR (st.take (st.length - n.Kids.toNat)++[maxL (st.drop (st.length - n.Kids.toNat))+1]) r:=rfl
theorem take_len {α:Type} (st:List α) (k:Nat) (x:α) (h:k≤st.length):(st.take (st.length - k)++[x]).length=st.length+1 - k:=by
 rw[List.length_append,List.length_take,List.length_singleton];omega
theorem chk_walk {α:Type} (f:NodeD→List α→α):∀(e:List NodeD) (st:List α),chkO st.length e=0→∃x,walkG (fun n ks=>.ok (f n ks)) st e=.ok [x]
 | [],st,h=>by
  unfold chkO at h
  split at h
  ·cases h
  ·rename_i q
   match st,Decidable.of_not_not q with
   | [x],_=>exact⟨x,rfl⟩
 | n::r,st,h=>by
  rw[chkO_cons] at h
  split at h
  ·rename_i q;exact absurd h q
  ·rename_i q
   have hk:=alF_kids (Decidable.of_not_not q)
   split at h
   ·cases h
   ·rename_i g
    rw[walkG_cons,if_neg (by omega)]
    exact chk_walk f r _ (by rw[take_len _ _ _ (by omega)];exact h)
theorem chkR_chkO:∀(e:List NodeD) (st:List Nat),chkR st e=if chkO st.length e≠0 then chkO st.length e else match walkG deepF st e with
  | .ok [d]=>if 12<d then 10 else 0
  | _=>0
 | [],st=>by
  unfold chkR chkO
  by_cases h:st.length=1
  ·match st,h with
   | [d],_=>rfl
  ·rw[if_pos h,if_pos h];rfl
 | n::r,st=>by
  rw[chkR_cons,chkO_cons]
  by_cases q:alF n≠0
  ·rw[if_pos q,if_pos q,if_pos q]
  ·have hk:=alF_kids (Decidable.of_not_not q)
   rw[if_neg q,if_neg q]
   by_cases g:(st.length:Int)<n.Kids
   ·rw[if_pos g,if_pos g];rfl
   ·have g2:¬(n.Kids<0∨(st.length:Int)<n.Kids):=by omega
    have ih:=chkR_chkO r (st.take (st.length - n.Kids.toNat)++[maxL (st.drop (st.length - n.Kids.toNat))+1])
    rw[take_len _ _ _ (by omega)] at ih
    rw[if_neg g,if_neg g,ih]
    have hw:walkG deepF st (n::r)=walkG deepF (st.take (st.length - n.Kids.toNat)++[maxL (st.drop (st.length - n.Kids.toNat))+1]) r:=by
     rw[walkG_cons,if_neg g2];rfl
    rw[hw]
theorem checkR_eq (e:List NodeD):(if 60<e.length then 2 else if e.length=0 then 1 else chkR [] e)=checkF e:=by
 unfold checkF
 by_cases h:60<e.length
 ·rw[if_pos h,if_pos h]
 ·rw[if_neg h,if_neg h]
  by_cases h0:e.length=0
  ·rw[if_pos h0]
   obtain rfl:=List.eq_nil_of_length_eq_zero h0
   rfl
  ·rw[if_neg h0,chkR_chkO]
   have e0:chkO ([]:List Nat).length e=chkO 0 e:=rfl
   rw[e0]
   by_cases q:chkO 0 e≠0
   ·rw[if_pos q,if_pos q]
   ·rw[if_neg q,if_neg q]
    obtain⟨x,hx⟩:=chk_walk (fun _ ks=>maxL ks+1) e [] (Decidable.of_not_not q)
    have hx:walkG deepF [] e=.ok [x]:=hx
    unfold depthE walkR
    rw[hx]
theorem chk_all:∀(e:List NodeD) (o:Nat),chkO o e=0→∀n∈e,alF n=0
 | [],_,_,n,h=>by cases h
 | m::r,o,h,n,hn=>by
  rw[chkO_cons] at h
  split at h
  ·rename_i q;exact absurd h q
  ·rename_i q
   rcases List.mem_cons.1 hn with rfl | hn
   ·exact Decidable.of_not_not q
   ·split at h
    ·cases h
    ·exact chk_all r _ h n hn
theorem fold_deep (t:Ex):foldX deepF t=.ok t.depth:=by
 refine Ex.rec (motive_1:=fun t=>foldX deepF t=.ok t.depth) (motive_2:=fun l=>∃vs,foldXs deepF l=.ok vs∧maxL vs=Ex.depths l) (fun n ks ih=>?_) ⟨[],by rw[foldXs],by rw[Ex.depths];rfl⟩ (fun t ts h1 h2=>?_) t
 ·obtain⟨vs,h1,h2⟩:=ih
  rw[foldX,h1,Ex.depth,← h2];rfl
 ·obtain⟨vs,h3,h4⟩:=h2
  refine⟨t.depth::vs,by rw[foldXs,h1,h3],?_⟩
  rw[Ex.depths,← h4];rfl
theorem depthE_flat {t:Ex} (h:t.good):depthE t.flat=t.depth:=by
 unfold depthE
 rw[walkR_fold _ t h,fold_deep]
structure RightT (t:Ex):Prop where
 good:t.good
 all:∀n∈t.flat,alF n=0
 deep:t.depth≤12
 len:t.flat.length≤60
theorem right_of {e:List NodeD} (h:checkF e=0):∃t:Ex,RightT t∧t.flat=e:=by
 unfold checkF at h
 split at h
 ·cases h
 ·rename_i h60
  split at h
  ·rename_i q;exact absurd h q
  ·rename_i q
   have q:=Decidable.of_not_not q
   split at h
   ·cases h
   ·rename_i h12
    obtain⟨x,hx⟩:=chk_walk (fun _ ks=>maxL ks+1) e [] q
    have hx:walkR deepF e=.ok x:=by
     unfold walkR
     rw[show walkG deepF [] e=.ok [x] from hx]
    obtain⟨t,h1,rfl⟩:=tree_of_walk hx
    rw[depthE_flat h1] at h12
    exact⟨t,⟨h1,chk_all _ _ q,by omega,by omega⟩,rfl⟩
end
section
open Go.RowKit K
set_option maxRecDepth 100000
theorem Idx.lit {l:List (List C)} {n:Int} {r:List C} {K:List C→Prop} (h0:decide (0≤n)=true) (h:l[n.toNat]? = some r) (hk:K r):Idx l n K:=⟨r,of_decide_eq_true h0,h,hk⟩
theorem p_span (op:Int):Pure Tryz.prog 85 [pInt .i64 op] (.tup [pInt .i64 (leastK op),pInt .i64 (mostK op),pBool (decide (1≤op∧op≤25))]):=by
 refine pure_of Tryz.func85 (by rfl) rfl (by kernel_rfl) (by rfl) ?_
 by_cases h:1≤op∧op≤25
 ·have hc:op=1∨op=2∨op=3∨op=4∨op=5∨op=6∨op=7∨op=8∨op=9∨op=10∨op=11∨op=12∨op=13∨op=14∨op=15∨op=16∨op=17∨op=18∨op=19∨op=20∨op=21∨op=22∨op=23∨op=24∨op=25:=by omega
  clear h
  rcases hc with rfl | rfl | rfl | rfl | rfl | rfl | rfl | rfl | rfl | rfl | rfl | rfl | rfl | rfl | rfl | rfl | rfl | rfl | rfl | rfl | rfl | rfl | rfl | rfl | rfl
  all_goals
   ((conv=>whnf);repeat' ((first|(with_reducible first|apply a_|apply b_|apply c_)|((with_reducible first|apply d_|apply e_|apply f_|apply g_);focus first|omega|(simp only[q_]<;>omega))|((with_reducible first|apply i_|apply h_);focus first|omega|(simp only[q_]<;>omega))|((with_reducible apply h_);focus first|decide|kernel_rfl)|refine s_ (by decide) ?_|refine t_ (by decide) ?_|with_reducible first|apply l_|apply m_|apply n_|apply o_|refine p_ (fun _=>?_) (fun _=>?_))<;>(conv=>whnf)))
   exact Ret.eq rfl
 ·have e1:leastK op=2:=by unfold leastK;rw[if_neg (by omega),if_neg (by omega),if_neg (by omega)]
  have e2:mostK op=2:=by unfold mostK;rw[if_neg (by omega),e1]
  rw[e1,e2,decide_eq_false h]
  have h17:5≤op→decide (op≤17)=false:=fun g=>decide_eq_false (by omega)
  ((conv=>whnf);repeat' ((first|(with_reducible first|apply a_|apply b_|apply c_)|((with_reducible first|apply d_|apply e_|apply f_|apply g_);focus first|omega|(simp only[q_]<;>omega))|((with_reducible first|apply i_|apply h_);focus first|omega|(simp only[q_]<;>omega))|((with_reducible apply h_);focus first|decide|kernel_rfl)|refine s_ (by decide) ?_|refine t_ (by decide) ?_|with_reducible first|apply l_|apply m_|apply n_|apply o_|refine p_ (fun _=>?_) (fun _=>?_))<;>(conv=>whnf)))
  all_goals first
   | exact Ret.eq rfl
   | (rename_i g;exact Ret.eq (by rw[h17 g]))
theorem p_kidsof (op:Int):Pure Tryz.prog 77 [pInt .i64 op] (.tup [pInt .i64 (if 1≤op∧op≤25 then leastK op else -1),pInt .i64 (if 1≤op∧op≤25 then mostK op else -1)]):=by
 refine pure_of Tryz.func77 (by rfl) rfl (by kernel_rfl) (by rfl) ?_
 by_cases h:1≤op∧op≤25
 ·have hc:op=1∨op=2∨op=3∨op=4∨op=5∨op=6∨op=7∨op=8∨op=9∨op=10∨op=11∨op=12∨op=13∨op=14∨op=15∨op=16∨op=17∨op=18∨op=19∨op=20∨op=21∨op=22∨op=23∨op=24∨op=25:=by omega
  clear h
  rcases hc with rfl | rfl | rfl | rfl | rfl | rfl | rfl | rfl | rfl | rfl | rfl | rfl | rfl | rfl | rfl | rfl | rfl | rfl | rfl | rfl | rfl | rfl | rfl | rfl | rfl
  all_goals
   ((conv=>whnf);repeat' ((first|(with_reducible first|apply a_|apply b_|apply c_)|((with_reducible first|apply d_|apply e_|apply f_|apply g_);focus first|omega|(simp only[q_]<;>omega))|((with_reducible first|apply i_|apply h_);focus first|omega|(simp only[q_]<;>omega))|((with_reducible apply h_);focus first|decide|kernel_rfl)|refine s_ (by decide) ?_|refine t_ (by decide) ?_|(refine Idx.lit rfl rfl ?_)|with_reducible first|apply l_|apply m_|apply n_|apply o_|refine p_ (fun _=>?_) (fun _=>?_))<;>(conv=>whnf)))
   exact Ret.eq rfl
 ·rw[if_neg h,if_neg h]
  ((conv=>whnf);repeat' ((first|(with_reducible first|apply a_|apply b_|apply c_)|((with_reducible first|apply d_|apply e_|apply f_|apply g_);focus first|omega|(simp only[q_]<;>omega))|((with_reducible first|apply i_|apply h_);focus first|omega|(simp only[q_]<;>omega))|((with_reducible apply h_);focus first|decide|kernel_rfl)|refine s_ (by decide) ?_|refine t_ (by decide) ?_|with_reducible first|apply l_|apply m_|apply n_|apply o_|refine p_ (fun _=>?_) (fun _=>?_))<;>(conv=>whnf)))
  all_goals exact Ret.eq rfl
theorem alF_cases (n:NodeD) :
  (¬(1≤n.Op∧n.Op≤25)∧alF n=7)
  ∨((1≤n.Op∧n.Op≤25)∧(n.Kids<leastK n.Op∨mostK n.Op<n.Kids)∧alF n=1)
  ∨((1≤n.Op∧n.Op≤25)∧leastK n.Op≤n.Kids∧n.Kids≤mostK n.Op∧
   ((n.Op=1∧n.Name≠[]∧alF n=1)∨(n.Op=1∧n.Name=[]∧vChk n.V≠0∧alF n=vChk n.V)∨(n.Op=1∧n.Name=[]∧vChk n.V=0∧n.V.N<0∧alF n=3)∨(n.Op=1∧n.Name=[]∧vChk n.V=0∧¬n.V.N<0∧alF n=0)
    ∨(n.Op≠1∧ValueD.eqB n.V noV=false∧alF n=1)
    ∨(n.Op=2∧ValueD.eqB n.V noV=true∧nameB n.Name=false∧alF n=1)∨(n.Op=2∧ValueD.eqB n.V noV=true∧nameB n.Name=true∧alF n=0)
    ∨(n.Op≠1∧n.Op≠2∧ValueD.eqB n.V noV=true∧n.Name≠[]∧alF n=1)∨(n.Op≠1∧n.Op≠2∧ValueD.eqB n.V noV=true∧n.Name=[]∧alF n=0))):=by
 unfold alF
 by_cases h:1≤n.Op∧n.Op≤25
 ·rw[if_neg (by omega)]
  by_cases hk:n.Kids<leastK n.Op∨mostK n.Op<n.Kids
  ·exact .inr (.inl ⟨h,hk,by rw[if_pos (by rcases hk with q | q;exact .inl q;exact .inr (.inl q))]⟩)
  ·refine .inr (.inr ⟨h,by omega,by omega,?_⟩)
   have k1:¬n.Kids<leastK n.Op:=fun q=>hk (.inl q)
   have k2:¬mostK n.Op<n.Kids:=fun q=>hk (.inr q)
   by_cases h1:n.Op=1
   ·by_cases hN:n.Name=[]
    ·by_cases hv:vChk n.V=0
     ·by_cases hn:n.V.N<0
      ·refine .inr (.inr (.inl ⟨h1,hN,hv,hn,?_⟩));simp[k1,k2,h1,hN,hv,hn]
       rw[h1] at k1 k2;omega
      ·refine .inr (.inr (.inr (.inl ⟨h1,hN,hv,hn,?_⟩)));simp[k1,k2,h1,hN,hv,hn]
       rw[h1] at k1 k2;omega
     ·refine .inr (.inl ⟨h1,hN,hv,?_⟩);simp[k1,k2,h1,hN,hv]
      rw[h1] at k1 k2;intro q;exfalso;omega
    ·refine .inl ⟨h1,hN,?_⟩;simp[h1,hN]
   ·cases hV:ValueD.eqB n.V noV with
    | false=>refine .inr (.inr (.inr (.inr (.inl ⟨h1,rfl,?_⟩))));simp[h1]
    | true=>
     by_cases h2:n.Op=2
     ·cases hB:nameB n.Name with
      | false=>refine .inr (.inr (.inr (.inr (.inr (.inl ⟨h2,rfl,rfl,?_⟩)))));simp[h2]
      | true=>
       refine .inr (.inr (.inr (.inr (.inr (.inr (.inl ⟨h2,rfl,rfl,?_⟩))))));simp[h2]
       rw[h2] at k1 k2;omega
     ·by_cases hN:n.Name=[]
      ·refine .inr (.inr (.inr (.inr (.inr (.inr (.inr (.inr ⟨h1,h2,rfl,hN,?_⟩)))))));simp[h1,h2,hN,k1,k2]
      ·refine .inr (.inr (.inr (.inr (.inr (.inr (.inr (.inl ⟨h1,h2,rfl,hN,?_⟩)))))));simp[h1,h2,hN]
 ·exact .inl ⟨h,by rw[if_pos (by omega)]⟩
theorem p_alone (n:NodeD) (hn:okText n.Name):Pure Tryz.prog 62 [nV n] (pInt .i64 (alF n)):=by
 have pn:=p_isname n.Name hn
 have pv:=p_vcheck n.V
 have kk:=leastK_pos n.Op
 have tn:n.Name=[]→tx n.Name=⟨#[]⟩:=fun e=>by rw[e];rfl
 have tn2:n.Name≠[]→¬tx n.Name=⟨#[]⟩:=fun e q=>e (tx_mk.1 q)
 refine pure_of Tryz.func62 (by rfl) rfl (by kernel_rfl) (by rfl) ?_
 rcases alF_cases n with ⟨h,e⟩ | ⟨h,hk,e⟩ | ⟨h,k1,k2,⟨h1,hN,e⟩ | ⟨h1,hN,hv,e⟩ | ⟨h1,hN,hv,hn,e⟩ | ⟨h1,hN,hv,hn,e⟩ | ⟨h1,hV,e⟩ | ⟨h2,hV,hB,e⟩ | ⟨h2,hV,hB,e⟩ | ⟨h1,h2,hV,hN,e⟩ | ⟨h1,h2,hV,hN,e⟩⟩<;>rw[e]
 ·((conv=>whnf);repeat' ((first|(with_reducible first|apply a_|apply b_|apply c_)|((with_reducible first|apply d_|apply e_|apply f_|apply g_);focus first|omega|(simp only[q_]<;>omega))|((with_reducible first|apply i_|apply h_);focus first|omega|(simp only[q_]<;>omega))|((with_reducible apply h_);focus first|decide|kernel_rfl)|refine s_ (by decide) ?_|refine t_ (by decide) ?_|refine r_ (p_span n.Op) rfl ?_|refine r_ pv rfl ?_|refine r_ pn rfl ?_|with_reducible first|apply l_|apply m_|apply n_|apply o_|refine p_ (fun _=>?_) (fun _=>?_))<;>(conv=>whnf)))
  all_goals exact Ret.int rfl
 ·((conv=>whnf);repeat' ((first|(with_reducible first|apply a_|apply b_|apply c_)|((with_reducible first|apply d_|apply e_|apply f_|apply g_);focus first|omega|(simp only[q_]<;>omega))|((with_reducible first|apply i_|apply h_);focus first|omega|(simp only[q_]<;>omega))|((with_reducible apply h_);focus first|decide|kernel_rfl)|refine s_ (by decide) ?_|refine t_ (by decide) ?_|refine r_ (p_span n.Op) rfl ?_|refine r_ pv rfl ?_|refine r_ pn rfl ?_|with_reducible first|apply l_|apply m_|apply n_|apply o_|refine p_ (fun _=>?_) (fun _=>?_))<;>(conv=>whnf)))
  all_goals first|exact Ret.int rfl | (exfalso;omega)
 ·((conv=>whnf);repeat' ((first|(with_reducible first|apply a_|apply b_|apply c_)|((with_reducible first|apply d_|apply e_|apply f_|apply g_);focus first|omega|(simp only[q_]<;>omega))|((with_reducible first|apply i_|apply h_);focus first|omega|(simp only[q_]<;>omega))|((with_reducible apply h_);focus first|decide|kernel_rfl)|refine s_ (by decide) ?_|refine t_ (by decide) ?_|refine r_ (p_span n.Op) rfl ?_|refine r_ pv rfl ?_|refine r_ pn rfl ?_|(refine BCase.dt (tn2 hN) ?_)|with_reducible first|apply l_|apply m_|apply n_|apply o_|refine p_ (fun _=>?_) (fun _=>?_))<;>(conv=>whnf)))
  all_goals exact Ret.int rfl
 ·((conv=>whnf);repeat' ((first|(with_reducible first|apply a_|apply b_|apply c_)|((with_reducible first|apply d_|apply e_|apply f_|apply g_);focus first|omega|(simp only[q_]<;>omega))|((with_reducible first|apply i_|apply h_);focus first|omega|(simp only[q_]<;>omega))|((with_reducible apply h_);focus first|decide|kernel_rfl)|refine s_ (by decide) ?_|refine t_ (by decide) ?_|refine r_ (p_span n.Op) rfl ?_|refine r_ pv rfl ?_|refine r_ pn rfl ?_|(refine BCase.df (not_not_intro (tn hN)) ?_)|(refine BCase.dt hv ?_)|with_reducible first|apply l_|apply m_|apply n_|apply o_|refine p_ (fun _=>?_) (fun _=>?_))<;>(conv=>whnf)))
  all_goals exact Ret.int rfl
 ·rw[hv] at pv
  ((conv=>whnf);repeat' ((first|(with_reducible first|apply a_|apply b_|apply c_)|((with_reducible first|apply d_|apply e_|apply f_|apply g_);focus first|omega|(simp only[q_]<;>omega))|((with_reducible first|apply i_|apply h_);focus first|omega|(simp only[q_]<;>omega))|((with_reducible apply h_);focus first|decide|kernel_rfl)|refine s_ (by decide) ?_|refine t_ (by decide) ?_|refine r_ (p_span n.Op) rfl ?_|refine r_ pv rfl ?_|refine r_ pn rfl ?_|(refine BCase.df (not_not_intro (tn hN)) ?_)|with_reducible first|apply l_|apply m_|apply n_|apply o_|refine p_ (fun _=>?_) (fun _=>?_))<;>(conv=>whnf)))
  all_goals exact Ret.int rfl
 ·rw[hv] at pv
  ((conv=>whnf);repeat' ((first|(with_reducible first|apply a_|apply b_|apply c_)|((with_reducible first|apply d_|apply e_|apply f_|apply g_);focus first|omega|(simp only[q_]<;>omega))|((with_reducible first|apply i_|apply h_);focus first|omega|(simp only[q_]<;>omega))|((with_reducible apply h_);focus first|decide|kernel_rfl)|refine s_ (by decide) ?_|refine t_ (by decide) ?_|refine r_ (p_span n.Op) rfl ?_|refine r_ pv rfl ?_|refine r_ pn rfl ?_|(refine BCase.df (not_not_intro (tn hN)) ?_)|with_reducible first|apply l_|apply m_|apply n_|apply o_|refine p_ (fun _=>?_) (fun _=>?_))<;>(conv=>whnf)))
  all_goals exact Ret.int rfl
 ·((conv=>whnf);repeat' ((first|(with_reducible first|apply a_|apply b_|apply c_)|((with_reducible first|apply d_|apply e_|apply f_|apply g_);focus first|omega|(simp only[q_]<;>omega))|((with_reducible first|apply i_|apply h_);focus first|omega|(simp only[q_]<;>omega))|((with_reducible apply h_);focus first|decide|kernel_rfl)|refine s_ (by decide) ?_|refine t_ (by decide) ?_|refine r_ (p_span n.Op) rfl ?_|refine r_ pv rfl ?_|refine r_ pn rfl ?_|(refine BCase.t (congrArg not hV) ?_)|with_reducible first|apply l_|apply m_|apply n_|apply o_|refine p_ (fun _=>?_) (fun _=>?_))<;>(conv=>whnf)))
  all_goals exact Ret.int rfl
 ·rw[hB] at pn
  ((conv=>whnf);repeat' ((first|(with_reducible first|apply a_|apply b_|apply c_)|((with_reducible first|apply d_|apply e_|apply f_|apply g_);focus first|omega|(simp only[q_]<;>omega))|((with_reducible first|apply i_|apply h_);focus first|omega|(simp only[q_]<;>omega))|((with_reducible apply h_);focus first|decide|kernel_rfl)|refine s_ (by decide) ?_|refine t_ (by decide) ?_|refine r_ (p_span n.Op) rfl ?_|refine r_ pv rfl ?_|refine r_ pn rfl ?_|(refine BCase.f (congrArg not hV) ?_)|with_reducible first|apply l_|apply m_|apply n_|apply o_|refine p_ (fun _=>?_) (fun _=>?_))<;>(conv=>whnf)))
  all_goals exact Ret.int rfl
 ·rw[hB] at pn
  ((conv=>whnf);repeat' ((first|(with_reducible first|apply a_|apply b_|apply c_)|((with_reducible first|apply d_|apply e_|apply f_|apply g_);focus first|omega|(simp only[q_]<;>omega))|((with_reducible first|apply i_|apply h_);focus first|omega|(simp only[q_]<;>omega))|((with_reducible apply h_);focus first|decide|kernel_rfl)|refine s_ (by decide) ?_|refine t_ (by decide) ?_|refine r_ (p_span n.Op) rfl ?_|refine r_ pv rfl ?_|refine r_ pn rfl ?_|(refine BCase.f (congrArg not hV) ?_)|with_reducible first|apply l_|apply m_|apply n_|apply o_|refine p_ (fun _=>?_) (fun _=>?_))<;>(conv=>whnf)))
  all_goals exact Ret.int rfl
 ·((conv=>whnf);repeat' ((first|(with_reducible first|apply a_|apply b_|apply c_)|((with_reducible first|apply d_|apply e_|apply f_|apply g_);focus first|omega|(simp only[q_]<;>omega))|((with_reducible first|apply i_|apply h_);focus first|omega|(simp only[q_]<;>omega))|((with_reducible apply h_);focus first|decide|kernel_rfl)|refine s_ (by decide) ?_|refine t_ (by decide) ?_|refine r_ (p_span n.Op) rfl ?_|refine r_ pv rfl ?_|refine r_ pn rfl ?_|(refine BCase.f (congrArg not hV) ?_)|(refine BCase.dt (tn2 hN) ?_)|with_reducible first|apply l_|apply m_|apply n_|apply o_|refine p_ (fun _=>?_) (fun _=>?_))<;>(conv=>whnf)))
  all_goals exact Ret.int rfl
 ·((conv=>whnf);repeat' ((first|(with_reducible first|apply a_|apply b_|apply c_)|((with_reducible first|apply d_|apply e_|apply f_|apply g_);focus first|omega|(simp only[q_]<;>omega))|((with_reducible first|apply i_|apply h_);focus first|omega|(simp only[q_]<;>omega))|((with_reducible apply h_);focus first|decide|kernel_rfl)|refine s_ (by decide) ?_|refine t_ (by decide) ?_|refine r_ (p_span n.Op) rfl ?_|refine r_ pv rfl ?_|refine r_ pn rfl ?_|(refine BCase.f (congrArg not hV) ?_)|(refine BCase.df (not_not_intro (tn hN)) ?_)|with_reducible first|apply l_|apply m_|apply n_|apply o_|refine p_ (fun _=>?_) (fun _=>?_))<;>(conv=>whnf)))
  all_goals exact Ret.int rfl
theorem p_nodecheck (n:NodeD) (hn:okText n.Name):Pure Tryz.prog 53 [nV n] (pInt .i64 (alF n)):=by
 have pn:=p_namecheck n.Name hn
 have pv:=p_vcheckref n.V
 have kk:=leastK_pos n.Op
 have tn:n.Name=[]→tx n.Name=⟨#[]⟩:=fun e=>by rw[e];rfl
 have tn2:n.Name≠[]→¬tx n.Name=⟨#[]⟩:=fun e q=>e (tx_mk.1 q)
 refine pure_of Tryz.func53 (by rfl) rfl (by kernel_rfl) (by rfl) ?_
 rcases alF_cases n with ⟨h,e⟩ | ⟨h,hk,e⟩ | ⟨h,k1,k2,⟨h1,hN,e⟩ | ⟨h1,hN,hv,e⟩ | ⟨h1,hN,hv,hn,e⟩ | ⟨h1,hN,hv,hn,e⟩ | ⟨h1,hV,e⟩ | ⟨h2,hV,hB,e⟩ | ⟨h2,hV,hB,e⟩ | ⟨h1,h2,hV,hN,e⟩ | ⟨h1,h2,hV,hN,e⟩⟩<;>rw[e]
 ·((conv=>whnf);repeat' ((first|(with_reducible first|apply a_|apply b_|apply c_)|((with_reducible first|apply d_|apply e_|apply f_|apply g_);focus first|omega|(simp only[q_]<;>omega))|((with_reducible first|apply i_|apply h_);focus first|omega|(simp only[q_]<;>omega))|((with_reducible apply h_);focus first|decide|kernel_rfl)|refine s_ (by decide) ?_|refine t_ (by decide) ?_|refine r_ (p_kidsof n.Op) rfl ?_|refine r_ pv rfl ?_|refine r_ pn rfl ?_|with_reducible first|apply l_|apply m_|apply n_|apply o_|refine p_ (fun _=>?_) (fun _=>?_))<;>(conv=>whnf)))
  all_goals exact Ret.int rfl
 ·((conv=>whnf);repeat' ((first|(with_reducible first|apply a_|apply b_|apply c_)|((with_reducible first|apply d_|apply e_|apply f_|apply g_);focus first|omega|(simp only[q_]<;>omega))|((with_reducible first|apply i_|apply h_);focus first|omega|(simp only[q_]<;>omega))|((with_reducible apply h_);focus first|decide|kernel_rfl)|refine s_ (by decide) ?_|refine t_ (by decide) ?_|refine r_ (p_kidsof n.Op) rfl ?_|refine r_ pv rfl ?_|refine r_ pn rfl ?_|with_reducible first|apply l_|apply m_|apply n_|apply o_|refine p_ (fun _=>?_) (fun _=>?_))<;>(conv=>whnf)))
  all_goals first|exact Ret.int rfl | (exfalso;omega)
 ·((conv=>whnf);repeat' ((first|(with_reducible first|apply a_|apply b_|apply c_)|((with_reducible first|apply d_|apply e_|apply f_|apply g_);focus first|omega|(simp only[q_]<;>omega))|((with_reducible first|apply i_|apply h_);focus first|omega|(simp only[q_]<;>omega))|((with_reducible apply h_);focus first|decide|kernel_rfl)|refine s_ (by decide) ?_|refine t_ (by decide) ?_|refine r_ (p_kidsof n.Op) rfl ?_|refine r_ pv rfl ?_|refine r_ pn rfl ?_|(refine BCase.dt (tn2 hN) ?_)|with_reducible first|apply l_|apply m_|apply n_|apply o_|refine p_ (fun _=>?_) (fun _=>?_))<;>(conv=>whnf)))
  all_goals exact Ret.int rfl
 ·((conv=>whnf);repeat' ((first|(with_reducible first|apply a_|apply b_|apply c_)|((with_reducible first|apply d_|apply e_|apply f_|apply g_);focus first|omega|(simp only[q_]<;>omega))|((with_reducible first|apply i_|apply h_);focus first|omega|(simp only[q_]<;>omega))|((with_reducible apply h_);focus first|decide|kernel_rfl)|refine s_ (by decide) ?_|refine t_ (by decide) ?_|refine r_ (p_kidsof n.Op) rfl ?_|refine r_ pv rfl ?_|refine r_ pn rfl ?_|(refine BCase.df (not_not_intro (tn hN)) ?_)|(refine BCase.dt hv ?_)|with_reducible first|apply l_|apply m_|apply n_|apply o_|refine p_ (fun _=>?_) (fun _=>?_))<;>(conv=>whnf)))
  all_goals exact Ret.int rfl
 ·rw[hv] at pv
  ((conv=>whnf);repeat' ((first|(with_reducible first|apply a_|apply b_|apply c_)|((with_reducible first|apply d_|apply e_|apply f_|apply g_);focus first|omega|(simp only[q_]<;>omega))|((with_reducible first|apply i_|apply h_);focus first|omega|(simp only[q_]<;>omega))|((with_reducible apply h_);focus first|decide|kernel_rfl)|refine s_ (by decide) ?_|refine t_ (by decide) ?_|refine r_ (p_kidsof n.Op) rfl ?_|refine r_ pv rfl ?_|refine r_ pn rfl ?_|(refine BCase.df (not_not_intro (tn hN)) ?_)|with_reducible first|apply l_|apply m_|apply n_|apply o_|refine p_ (fun _=>?_) (fun _=>?_))<;>(conv=>whnf)))
  all_goals exact Ret.int rfl
 ·rw[hv] at pv
  ((conv=>whnf);repeat' ((first|(with_reducible first|apply a_|apply b_|apply c_)|((with_reducible first|apply d_|apply e_|apply f_|apply g_);focus first|omega|(simp only[q_]<;>omega))|((with_reducible first|apply i_|apply h_);focus first|omega|(simp only[q_]<;>omega))|((with_reducible apply h_);focus first|decide|kernel_rfl)|refine s_ (by decide) ?_|refine t_ (by decide) ?_|refine r_ (p_kidsof n.Op) rfl ?_|refine r_ pv rfl ?_|refine r_ pn rfl ?_|(refine BCase.df (not_not_intro (tn hN)) ?_)|with_reducible first|apply l_|apply m_|apply n_|apply o_|refine p_ (fun _=>?_) (fun _=>?_))<;>(conv=>whnf)))
  all_goals exact Ret.int rfl
 ·((conv=>whnf);repeat' ((first|(with_reducible first|apply a_|apply b_|apply c_)|((with_reducible first|apply d_|apply e_|apply f_|apply g_);focus first|omega|(simp only[q_]<;>omega))|((with_reducible first|apply i_|apply h_);focus first|omega|(simp only[q_]<;>omega))|((with_reducible apply h_);focus first|decide|kernel_rfl)|refine s_ (by decide) ?_|refine t_ (by decide) ?_|refine r_ (p_kidsof n.Op) rfl ?_|refine r_ pv rfl ?_|refine r_ pn rfl ?_|(refine BCase.t (congrArg not hV) ?_)|with_reducible first|apply l_|apply m_|apply n_|apply o_|refine p_ (fun _=>?_) (fun _=>?_))<;>(conv=>whnf)))
  all_goals exact Ret.int rfl
 ·rw[hB] at pn
  ((conv=>whnf);repeat' ((first|(with_reducible first|apply a_|apply b_|apply c_)|((with_reducible first|apply d_|apply e_|apply f_|apply g_);focus first|omega|(simp only[q_]<;>omega))|((with_reducible first|apply i_|apply h_);focus first|omega|(simp only[q_]<;>omega))|((with_reducible apply h_);focus first|decide|kernel_rfl)|refine s_ (by decide) ?_|refine t_ (by decide) ?_|refine r_ (p_kidsof n.Op) rfl ?_|refine r_ pv rfl ?_|refine r_ pn rfl ?_|(refine BCase.f (congrArg not hV) ?_)|with_reducible first|apply l_|apply m_|apply n_|apply o_|refine p_ (fun _=>?_) (fun _=>?_))<;>(conv=>whnf)))
  all_goals exact Ret.int rfl
 ·rw[hB] at pn
  ((conv=>whnf);repeat' ((first|(with_reducible first|apply a_|apply b_|apply c_)|((with_reducible first|apply d_|apply e_|apply f_|apply g_);focus first|omega|(simp only[q_]<;>omega))|((with_reducible first|apply i_|apply h_);focus first|omega|(simp only[q_]<;>omega))|((with_reducible apply h_);focus first|decide|kernel_rfl)|refine s_ (by decide) ?_|refine t_ (by decide) ?_|refine r_ (p_kidsof n.Op) rfl ?_|refine r_ pv rfl ?_|refine r_ pn rfl ?_|(refine BCase.f (congrArg not hV) ?_)|with_reducible first|apply l_|apply m_|apply n_|apply o_|refine p_ (fun _=>?_) (fun _=>?_))<;>(conv=>whnf)))
  all_goals exact Ret.int rfl
 ·((conv=>whnf);repeat' ((first|(with_reducible first|apply a_|apply b_|apply c_)|((with_reducible first|apply d_|apply e_|apply f_|apply g_);focus first|omega|(simp only[q_]<;>omega))|((with_reducible first|apply i_|apply h_);focus first|omega|(simp only[q_]<;>omega))|((with_reducible apply h_);focus first|decide|kernel_rfl)|refine s_ (by decide) ?_|refine t_ (by decide) ?_|refine r_ (p_kidsof n.Op) rfl ?_|refine r_ pv rfl ?_|refine r_ pn rfl ?_|(refine BCase.f (congrArg not hV) ?_)|(refine BCase.dt (tn2 hN) ?_)|with_reducible first|apply l_|apply m_|apply n_|apply o_|refine p_ (fun _=>?_) (fun _=>?_))<;>(conv=>whnf)))
  all_goals exact Ret.int rfl
 ·((conv=>whnf);repeat' ((first|(with_reducible first|apply a_|apply b_|apply c_)|((with_reducible first|apply d_|apply e_|apply f_|apply g_);focus first|omega|(simp only[q_]<;>omega))|((with_reducible first|apply i_|apply h_);focus first|omega|(simp only[q_]<;>omega))|((with_reducible apply h_);focus first|decide|kernel_rfl)|refine s_ (by decide) ?_|refine t_ (by decide) ?_|refine r_ (p_kidsof n.Op) rfl ?_|refine r_ pv rfl ?_|refine r_ pn rfl ?_|(refine BCase.f (congrArg not hV) ?_)|(refine BCase.df (not_not_intro (tn hN)) ?_)|with_reducible first|apply l_|apply m_|apply n_|apply o_|refine p_ (fun _=>?_) (fun _=>?_))<;>(conv=>whnf)))
  all_goals exact Ret.int rfl
end
end Go.Proofs.YtdgmbijjhifbeaaGreatDoor.Pm
