/- Parts of the proof, one behind the other: PmFun PmHand PmLaid PmFam PmBytes PmOpen PdList PdValue PmClone PvClone PdName PxData PxTree PxKids PxCheck PxAlone PbRows PbRef PbLimit PdOrd PbOrder PbGrp. Conditions: none beyond what each theorem says. -/
import Derived.Deep.LoopGhost
import Derived.Scope
import Derived.IntWalk
import Derived.Test.YtegpnpdnanfhbaaGreatDoorYFrame
import Derived.Lib.LaidIn
import Derived.Lib.LaidU8
import Derived.Test.YtegpnpdnanfhbaaGreatDoorYShelf
import Derived.Test.YtegpnpdnanfhbaaGreatDoorRows
import Derived.Test.YtegpnpdnanfhbaaGreatDoorYReads
import Derived.Test.YtegpnpdnanfhbaaGreatDoorYValOrd
import Derived.Test.YtegpnpdnanfhbaaGreatDoorZ3
set_option linter.unusedVariables false
set_option linter.unusedSimpArgs false
section
namespace Go.Proofs.YtegpnpdnanfhbaaGreatDoor.Pm
open Go.RowKit
def kin (k:Nat):List Nat→Bool
 | []=>false
 | x::xs=>bif Nat.beq k x then true else kin k xs
def CLe (x y:C):Prop:=y=x∨(∃sz,x=.sl sz [])∧(y=.v (.slice none 0 0)∨∃sz',y=.sl sz' [])
mutual
def DLe (f:Nat→Option Nat) (n:List Nat):D→D→Prop
 | .c x,y=>match y with
  | .c y=>CLe x y
  | .app _ _ sz l=>x=.sl sz l
  | .emp=>∃sz,x=.sl sz []
  | _=>False
 | .app k e sz l,y=>match y with
  | .app k' e' sz' l'=>kin k n=true∧f k=some k'∧e'=e∧sz'=sz∧l'=l
  | .c y=>kin k n=true∧f k=none∧0<sz∧l=[]∧y=.v (.slice none 0 0)
  | _=>False
 | .ptr k o,y=>match y with
  | .ptr k' o'=>kin k n=true∧f k=some k'∧o'=o
  | _=>False
 | .arr k e sz lo m,y=>match y with
  | .arr k' e' sz' lo' m'=>kin k n=true∧f k=some k'∧e'=e∧sz'=sz∧lo'=lo∧m'=m
  | .c y=>kin k n=true∧f k=none∧0<sz∧m=0∧y=.v (.slice none 0 0)
  | .emp=>kin k n=true∧f k=none∧0<sz∧m=0
  | _=>False
 | .elt k sz i o,y=>match y with
  | .elt k' sz' i' o'=>kin k n=true∧f k=some k'∧sz'=sz∧i'=i∧o'=o
  | _=>False
 | .clo g a l,y=>match y with
  | .clo g' a' l'=>g'=g∧DLes f n a a'∧DLes f n l l'
  | _=>False
 | .mclo g l,y=>match y with
  | .mclo g' l'=>g'=g∧DLes f n l l'
  | _=>False
 | .optp k o,y=>match y with
  | .optp k' o'=>kin k n=true∧f k=some k'∧o'=o
  | .ptr k' o'=>kin k n=true∧f k=some k'∧o'=o
  | .c y=>y=.v (.pointer none)
  | _=>False
 | .data k e l,y=>match y with
  | .data k' e' l'=>kin k n=true∧f k=some k'∧e'=e∧l'=l
  | _=>False
 | .mp k,y=>match y with
  | .mp k'=>kin k n=true∧f k=some k'
  | _=>False
 | .emp,y=>match y with
  | .emp=>True
  | _=>False
def DLes (f:Nat→Option Nat) (n:List Nat):List D→List D→Prop
 | [],y=>y=[]
 | x::xs,y=>match y with
  | []=>False
  | y::ys=>DLe f n x y∧DLes f n xs ys
end
def DLess (f:Nat→Option Nat) (n:List Nat):List (List D)→List (List D)→Prop
 | [],y=>y=[]
 | x::xs,y=>match y with
  | []=>False
  | y::ys=>DLes f n x y∧DLess f n xs ys
mutual
def PLe (f:Nat→Option Nat) (n:List Nat):PV→PV→Prop
 | .any,_=>True
 | .d x,y=>match y with
  | .d y=>DLe f n x y
  | _=>False
 | .agg l,y=>match y with
  | .agg m=>DLes f n l m
  | _=>False
 | .tup l,y=>match y with
  | .tup m=>PLeT f n l m
  | _=>False
def PLeT (f:Nat→Option Nat) (n:List Nat):List PV→List PV→Prop
 | [],y=>y=[]
 | x::xs,y=>match y with
  | []=>False
  | y::ys=>PLe f n x y∧PLeT f n xs ys
end
def ofL:List (Nat×PV)→Env
 | [],_=>.any
 | (t,v)::l,j=>bif Nat.beq j t then v else ofL l j
def PLes (f:Nat→Option Nat) (n:List Nat) (e:Env):List (Nat×PV)→Prop
 | []=>True
 | (t,v)::l=>PLe f n v (e t)∧PLes f n e l
def HLe (f:Nat→Option Nat) (n:List Nat):HB→HB→Prop
 | .box t l,.box t' m=>t'=t∧DLes f n l m
 | .tail e sz,.tail e' sz'=>e'=e∧sz'=sz
 | .arr e sz rows,.arr e' sz' rows'=>e'=e∧sz'=sz∧rows'=rows
 | .mp l,.mp l'=>l'=l
 | .darr e sz rows,.darr e' sz' rows'=>e'=e∧sz'=sz∧DLess f n rows rows'
 | .darr e sz rows,.arr e' sz' rows'=>e'=e∧sz'=sz∧rows=rows'.map (List.map D.c)
 | _,_=>False
def KLe (f:Nat→Option Nat) (n:List Nat) (h:Hp) (k:Nat) (b:HB):Prop:=match f k with
 | some k'=>match h k' with
  | some b'=>HLe f n b b'
  | none=>False
 | none=>match b with
  | .tail _ sz=>0<sz
  | .arr _ sz rows=>0<sz∧rows=[]
  | .darr _ sz rows=>0<sz∧rows=[]
  | .mp _=>False
  | .box _ _=>False
def HLes (f:Nat→Option Nat) (n:List Nat) (h:Hp):List (Nat×HB)→Prop
 | []=>True
 | (k,b)::l=>(kin k n=true∧KLe f n h k b)∧HLes f n h l
def injOn (f:Nat→Option Nat):List (Nat×HB)→Bool
 | []=>true
 | (k,_)::l=>(l.all fun p=>Nat.beq p.1 k||match f k,f p.1 with | some a,some b=>!Nat.beq a b | _,_=>true)&&injOn f l
def fkOk (f:Nat→Option Nat) (n:List Nat):List Nat→Bool
 | []=>true
 | k::r=>(match f k with | some k'=>Nat.beq k' k | none=>false)&&(kin k n&&fkOk f n r)
inductive Wk (fk:List Nat) (e:Env) (h:Hp) (le:List (Nat×PV)) (lh:List (Nat×HB)) (n:List Nat):Prop
 | mk (f:List (Nat×Nat)) (hi:injOn (fnL f) lh=true) (hf:fkOk (fnL f) n fk=true) (he:PLes (fnL f) n e le) (hh:HLes (fnL f) n h lh)
section
variable {c:Ctx} {nt:Nat} {n:List Nat} {σ:Sg} {e:Env} {h:Hp} {a:Act} {w:World} {f:Nat→Option Nat} {le:List (Nat×PV)} {lh:List (Nat×HB)}
def newSg (σ:Sg) (f:Nat→Option Nat) (n:List Nat):Sg:=fun k=>if kin k n=true then (match f k with | some k'=>σ k' | none=>some (none,0)) else none
theorem newSg_some {k k':Nat} (h1:kin k n=true) (h2:f k=some k'):newSg σ f n k=σ k':=by unfold newSg;rw[if_pos h1,h2]
theorem ple_of {t:Nat}:∀{le:List (Nat×PV)},PLes f n e le→PLe f n (ofL le t) (e t)
 | [],_=>by unfold ofL PLe;trivial
 | (t',v)::l,hl=>by
  unfold ofL
  cases hb:Nat.beq t t' with
  | true=>rw[cond_true,Nat.eq_of_beq_eq_true hb];exact hl.1
  | false=>rw[cond_false];exact ple_of hl.2
theorem hle_of {k:Nat} {b:HB}:∀{lh:List (Nat×HB)},HLes f n h lh→hpL lh k=some b→kin k n=true∧KLe f n h k b
 | [],_,hb=>by cases hb
 | (k',b')::l,hl,hb=>by
  unfold hpL at hb
  cases hq:Nat.beq k k' with
  | true=>
   rw[hq,cond_true] at hb
   cases hb
   rw[Nat.eq_of_beq_eq_true hq];exact hl.1
  | false=>rw[hq,cond_false] at hb;exact hle_of hl.2 hb
theorem injOn_out:∀{lh:List (Nat×HB)},injOn f lh=true→∀k1 k2 b1 b2 x,(k1,b1)∈lh→(k2,b2)∈lh→f k1=some x→f k2=some x→k1=k2
 | [],_,k1,k2,b1,b2,x,h1,_,_,_=>by cases h1
 | (k,b)::l,hi,k1,k2,b1,b2,x,h1,h2,e1,e2=>by
  unfold injOn at hi
  simp only[Bool.and_eq_true] at hi
  obtain⟨hi1,hi2⟩:=hi
  have one:∀q bq,(q,bq)∈l→f k=some x→f q=some x→q=k:=by
   intro q bq hq ek eq
   have:=List.all_eq_true.1 hi1 (q,bq) hq
   rw[ek,eq] at this
   simp only[Bool.or_eq_true,Bool.not_eq_true'] at this
   rcases this with this | this
   ·exact Nat.eq_of_beq_eq_true this
   ·have:=Nat.beq_refl x;simp_all
  rcases List.mem_cons.1 h1 with h1 | h1
  ·cases h1
   rcases List.mem_cons.1 h2 with h2 | h2
   ·cases h2;rfl
   ·exact (one k2 b2 h2 e1 e2).symm
  ·rcases List.mem_cons.1 h2 with h2 | h2
   ·cases h2;exact one k1 b1 h1 e2 e1
   ·exact injOn_out hi2 k1 k2 b1 b2 x h1 h2 e1 e2
mutual
theorem drep_wk {F F':Fzn} (hk:Keeps F F' w w):∀(x y:D) (u:Value),DLe f n x y→DRep σ F w y u→DRep (newSg σ f n) F' w x u
 | .c x,y,u,hl,hr=>by
  unfold DLe at hl
  split at hl
  ·rename_i y
   unfold DRep at hr ⊢
   rcases hl with rfl | ⟨⟨sz,rfl⟩,rfl | ⟨sz',rfl⟩⟩
   ·exact CRep.keeps hk _ _ hr
   ·unfold CRep at hr ⊢
    obtain⟨rfl,_⟩:=hr
    exact⟨none,0,rfl,Nat.le_refl _,Nat.zero_le _,fun _=>rfl,.inl rfl⟩
   ·unfold CRep at hr ⊢
    obtain⟨a,cap,h1,h2,h3,h4,_⟩:=hr
    exact⟨a,cap,h1,h2,h3,h4,.inl rfl⟩
  ·rename_i k e sz l
   subst hl
   have:=rows_val (σ:=σ) (F:=F) (w:=w) (x:=.d (.app k e sz l)) (.inr ⟨k,e,rfl⟩) (u:=u) (by unfold PRep;exact hr)
   unfold DRep
   refine CRep.keeps hk _ _ ?_
   unfold CRep
   exact this
  ·obtain⟨sz,rfl⟩:=hl
   unfold DRep at hr ⊢
   obtain⟨a,rfl⟩:=hr
   unfold CRep
   exact⟨a,0,rfl,Nat.le_refl _,Nat.zero_le _,fun _=>rfl,.inl rfl⟩
  ·exact hl.elim
 | .app k e sz l,y,u,hl,hr=>by
  unfold DLe at hl
  split at hl
  ·obtain⟨h1,h2,rfl,rfl,rfl⟩:=hl
   unfold DRep at hr ⊢
   obtain⟨g0,g⟩:=hr
   have hs:=newSg_some (σ:=σ) h1 h2
   refine⟨g0,?_⟩
   rcases g with ⟨g1,g2,g3⟩ | ⟨g,cap,cur,fr,g1,g3,g4,g5,g6,g7,g8⟩
   ·exact .inl ⟨hs.trans g1,g2,g3⟩
   ·exact .inr ⟨g,cap,cur,fr,hs.trans g1,g3,g4,g5,g6,g7,RowsAt.keeps hk _ _ _ _ g8⟩
  ·obtain⟨h1,h2,h3,rfl,rfl⟩:=hl
   unfold DRep CRep at hr
   unfold DRep
   have hs:newSg σ f n k=some (none,0):=by unfold newSg;rw[if_pos h1,h2]
   exact⟨h3,.inl ⟨hs,rfl,hr.1⟩⟩
  ·exact hl.elim
 | .ptr k o,y,u,hl,hr=>by
  unfold DLe at hl
  split at hl
  ·obtain⟨h1,h2,rfl⟩:=hl
   unfold DRep at hr ⊢
   obtain⟨g,m,g1,g2⟩:=hr
   exact⟨g,m,by unfold newSg;rw[if_pos h1,h2];exact g1,g2⟩
  ·exact hl.elim
 | .arr k e sz lo m,y,u,hl,hr=>by
  unfold DLe at hl
  split at hl
  ·obtain⟨h1,h2,rfl,rfl,rfl,rfl⟩:=hl
   unfold DRep at hr ⊢
   obtain⟨g0,g⟩:=hr
   have hs:=newSg_some (σ:=σ) h1 h2
   refine⟨g0,?_⟩
   rcases g with ⟨q,g1,g2,g3⟩ | ⟨g,q,off,cap,cur,fr,g1,g2⟩
   ·exact .inl ⟨q,hs.trans g1,g2,g3⟩
   ·exact .inr ⟨g,q,off,cap,cur,fr,hs.trans g1,g2⟩
  ·obtain⟨h1,h2,h3,rfl,rfl⟩:=hl
   unfold DRep CRep at hr
   unfold DRep
   have hs:newSg σ f n k=some (none,0):=by unfold newSg;rw[if_pos h1,h2]
   exact⟨h3,.inl ⟨0,hs,rfl,none,hr.1⟩⟩
  ·obtain⟨h1,h2,h3,rfl⟩:=hl
   unfold DRep at hr ⊢
   obtain⟨a,hr⟩:=hr
   have hs:newSg σ f n k=some (none,0):=by unfold newSg;rw[if_pos h1,h2]
   exact⟨h3,.inl ⟨0,hs,rfl,a,hr⟩⟩
  ·exact hl.elim
 | .elt k sz i o,y,u,hl,hr=>by
  unfold DLe at hl
  split at hl
  ·obtain⟨h1,h2,rfl,rfl,rfl⟩:=hl
   unfold DRep at hr ⊢
   obtain⟨g,m,g1,g2⟩:=hr
   exact⟨g,m,by unfold newSg;rw[if_pos h1,h2];exact g1,g2⟩
  ·exact hl.elim
 | .clo g a l,y,u,hl,hr=>by
  unfold DLe at hl
  split at hl
  ·obtain⟨rfl,h1,h2⟩:=hl
   unfold DRep at hr ⊢
   obtain⟨us,vs,rfl,g1,g2⟩:=hr
   exact⟨us,vs,rfl,dsrep_wk hk a _ us h1 g1,dsrep_wk hk l _ vs h2 g2⟩
  ·exact hl.elim
 | .mclo g l,y,u,hl,hr=>by
  unfold DLe at hl
  split at hl
  ·obtain⟨rfl,h1⟩:=hl
   unfold DRep at hr ⊢
   obtain⟨us,rfl,g1⟩:=hr
   exact⟨us,rfl,dsrep_wk hk l _ us h1 g1⟩
  ·exact hl.elim
 | .optp k o,y,u,hl,hr=>by
  unfold DLe at hl
  split at hl
  ·obtain⟨h1,h2,rfl⟩:=hl
   unfold DRep at hr ⊢
   exact hr.imp id fun ⟨g,m,g1,g2⟩=>⟨g,m,(newSg_some h1 h2).trans g1,g2⟩
  ·obtain⟨h1,h2,rfl⟩:=hl
   unfold DRep at hr ⊢
   obtain⟨g,m,g1,g2⟩:=hr
   exact .inr ⟨g,m,(newSg_some h1 h2).trans g1,g2⟩
  ·subst hl
   unfold DRep CRep at hr
   unfold DRep
   exact .inl hr.1
  ·exact hl.elim
 | .data k e l,y,u,hl,hr=>by
  unfold DLe at hl
  split at hl
  ·obtain⟨h1,h2,rfl,rfl⟩:=hl
   unfold DRep at hr ⊢
   rcases hr with hr | ⟨h0,g,cur,fr,g1,g2,g3,g4,g5,g6⟩
   ·exact .inl hr
   ·exact .inr ⟨h0,g,cur,fr,(newSg_some h1 h2).trans g1,g2,g3,g4,g5,RowsAt.keeps hk _ _ _ _ g6⟩
  ·exact hl.elim
 | .mp k,y,u,hl,hr=>by
  unfold DLe at hl
  split at hl
  ·obtain⟨h1,h2⟩:=hl
   unfold DRep at hr ⊢
   obtain⟨g,m,g1,g2⟩:=hr
   exact⟨g,m,(newSg_some h1 h2).trans g1,g2⟩
  ·exact hl.elim
 | .emp,y,u,hl,hr=>by
  unfold DLe at hl
  split at hl
  ·unfold DRep at hr ⊢;exact hr
  ·exact hl.elim
theorem dsrep_wk {F F':Fzn} (hk:Keeps F F' w w):∀(xs ys:List D) (us:List Value),DLes f n xs ys→DsRep σ F w ys us→DsRep (newSg σ f n) F' w xs us
 | [],ys,us,hl,hr=>by
  unfold DLes at hl
  subst hl
  rw[dsRep_nil_inv hr];exact dsRep_nil
 | x::xs,ys,us,hl,hr=>by
  unfold DLes at hl
  split at hl
  ·exact hl.elim
  ·obtain⟨u,vs,rfl,h1,h2⟩:=dsRep_inv hr
   exact dsRep_cons (drep_wk hk x _ u hl.1 h1) (dsrep_wk hk xs _ vs hl.2 h2)
end
mutual
theorem prep_wk {F F':Fzn} (hk:Keeps F F' w w):∀(x y:PV) (u:Value),PLe f n x y→PRep σ F w y u→PRep (newSg σ f n) F' w x u
 | .any,y,u,hl,hr=>by unfold PRep;trivial
 | .d x,y,u,hl,hr=>by
  unfold PLe at hl
  split at hl
  ·unfold PRep at hr ⊢;exact drep_wk hk _ _ _ hl hr
  ·exact hl.elim
 | .agg l,y,u,hl,hr=>by
  unfold PLe at hl
  split at hl
  ·unfold PRep at hr ⊢
   obtain⟨xs,h1,h2⟩:=hr
   exact⟨xs,h1,dsrep_wk hk _ _ _ hl h2⟩
  ·exact hl.elim
 | .tup l,y,u,hl,hr=>by
  unfold PLe at hl
  split at hl
  ·unfold PRep at hr ⊢
   obtain⟨xs,h1,h2⟩:=hr
   exact⟨xs,h1,psrep_wk hk _ _ _ hl h2⟩
  ·exact hl.elim
theorem psrep_wk {F F':Fzn} (hk:Keeps F F' w w):∀(xs ys:List PV) (us:List Value),PLeT f n xs ys→PsRep σ F w ys us→PsRep (newSg σ f n) F' w xs us
 | [],ys,us,hl,hr=>by
  unfold PLeT at hl
  subst hl
  cases us with
  | nil=>unfold PsRep;trivial
  | cons _ _=>unfold PsRep at hr;exact hr.elim
 | x::xs,ys,us,hl,hr=>by
  unfold PLeT at hl
  split at hl
  ·exact hl.elim
  ·cases us with
   | nil=>unfold PsRep at hr;exact hr.elim
   | cons u us=>
    unfold PsRep at hr ⊢
    exact⟨prep_wk hk x _ u hl.1 hr.1,psrep_wk hk xs _ us hl.2 hr.2⟩
end
theorem kin_mem:∀{n:List Nat} {k:Nat},kin k n=true→k∈n
 | x::xs,k,h=>by
  unfold kin at h
  cases hq:Nat.beq k x with
  | true=>rw[Nat.eq_of_beq_eq_true hq];exact List.mem_cons_self ..
  | false=>rw[hq,cond_false] at h;exact List.mem_cons_of_mem _ (kin_mem h)
theorem hb_old (hh:HLes f n h lh):∀k hb,hpL lh k=some hb→kin k n=true∧((∃k' b',f k=some k'∧h k'=some b'∧HLe f n hb b')∨(f k=none∧((∃e sz,hb=.tail e sz∧0<sz)∨(∃e sz,hb=.arr e sz []∧0<sz)∨∃e sz,hb=.darr e sz []∧0<sz))):=by
 intro k hb hk
 obtain⟨h1,h2⟩:=hle_of hh hk
 refine⟨h1,?_⟩
 unfold KLe at h2
 split at h2
 ·rename_i k' hf
  split at h2
  ·rename_i b' hb';exact .inl ⟨k',b',hf,hb',h2⟩
  ·exact h2.elim
 ·rename_i hf
  split at h2
  ·exact .inr ⟨hf,.inl ⟨_,_,rfl,h2⟩⟩
  ·obtain⟨h3,rfl⟩:=h2;exact .inr ⟨hf,.inr (.inl ⟨_,_,rfl,h3⟩)⟩
  ·obtain⟨h3,rfl⟩:=h2;exact .inr ⟨hf,.inr (.inr ⟨_,_,rfl,h3⟩)⟩
  ·exact h2.elim
  ·exact h2.elim
theorem dless_len:∀{l m:List (List D)},DLess f n l m→m.length=l.length
 | [],m,h=>by unfold DLess at h;subst h;rfl
 | x::xs,m,h=>by
  unfold DLess at h
  split at h
  ·exact h.elim
  ·rw[List.length_cons,List.length_cons,dless_len h.2]
theorem dles_len:∀{l m:List D},DLes f n l m→m.length=l.length
 | [],m,h=>by unfold DLes at h;subst h;rfl
 | x::xs,m,h=>by
  unfold DLes at h
  split at h
  ·exact h.elim
  ·rw[List.length_cons,List.length_cons,dles_len h.2]
theorem dless_row {s:Nat}:∀{l m:List (List D)},DLess f n l m→(∀r∈m,r.length=s)→∀r∈l,r.length=s
 | [],m,h,_,r,hr=>by cases hr
 | x::xs,m,h,hm,r,hr=>by
  unfold DLess at h
  split at h
  ·exact h.elim
  ·rcases List.mem_cons.1 hr with rfl | hr
   ·rw[← dles_len h.1];exact hm _ (List.mem_cons_self ..)
   ·exact dless_row h.2 (fun q hq=>hm q (List.mem_cons_of_mem _ hq)) r hr
theorem dles_app:∀{a b c d:List D},DLes f n a c→DLes f n b d→DLes f n (a++b) (c++d)
 | [],b,c,d,h1,h2=>by unfold DLes at h1;subst h1;exact h2
 | x::xs,b,c,d,h1,h2=>by
  unfold DLes at h1
  split at h1
  ·exact h1.elim
  ·rw[List.cons_append,List.cons_append];unfold DLes;exact⟨h1.1,dles_app h1.2 h2⟩
theorem dless_flat:∀{l m:List (List D)},DLess f n l m→DLes f n l.flatten m.flatten
 | [],m,h=>by unfold DLess at h;subst h;unfold DLes;rfl
 | x::xs,m,h=>by
  unfold DLess at h
  split at h
  ·exact h.elim
  ·rw[List.flatten_cons,List.flatten_cons];exact dles_app h.1 (dless_flat h.2)
theorem hle_shut {hb b':HB} (hl:HLe f n hb b') {m o:Nat} (hs:b'.shut m o):hb.shut m o:=by
 cases b' with
 | box _ _=>exact hs.elim
 | arr _ _ _=>exact hs.elim
 | mp _=>exact hs.elim
 | darr _ _ _=>exact hs.elim
 | tail e' sz'=>
  cases hb with
  | tail e sz=>obtain⟨_,rfl⟩:=hl;exact hs
  | box _ _=>exact hl.elim
  | arr _ _ _=>exact hl.elim
  | mp _=>exact hl.elim
  | darr _ _ _=>exact hl.elim
theorem hb_wk {F F':Fzn} {own own':Nat→Prop} (hk:Keeps F F' w w) (hown:∀g,own g→own' g) {k k':Nat} {hb b':HB} (hin:kin k n=true) (hf:f k=some k') (hl:HLe f n hb b') (ho:HbOk σ F w own k' b'):HbOk (newSg σ f n) F' w own' k hb:=by
 have hsg:newSg σ f n k=σ k':=by unfold newSg;rw[if_pos hin,hf]
 unfold HLe at hl
 split at hl
 ·obtain⟨g,m',cs,r1,r2,r3,r4⟩:=ho
  obtain⟨rfl,hl⟩:=hl
  exact⟨g,m',cs,hsg.trans r1,hown _ r2,r3,dsrep_wk hk _ _ _ hl r4⟩
 ·obtain⟨rfl,rfl⟩:=hl
  obtain⟨r0,ob,m',r1,r2⟩:=ho
  refine⟨r0,ob,m',hsg.trans r1,?_⟩
  cases ob with
  | none=>exact r2
  | some g=>exact⟨hown _ r2.1,r2.2⟩
 ·obtain⟨rfl,rfl,rfl⟩:=hl
  obtain⟨r0,r00,ob,m',r1,r2⟩:=ho
  refine⟨r0,r00,ob,m',hsg.trans r1,?_⟩
  cases ob with
  | none=>exact r2
  | some g=>
   obtain⟨q1,cur,q2,q3,q4⟩:=r2
   exact⟨hown _ q1,cur,q2,q3,CsRep.keeps hk _ _ q4⟩
 ·obtain rfl:=hl
  obtain⟨g,m',es,cl,r1,r2,r3⟩:=ho
  exact⟨g,m',es,cl,hsg.trans r1,hown _ r2,r3⟩
 ·obtain⟨rfl,rfl,hl⟩:=hl
  obtain⟨r0,r00,ob,m',r1,r2⟩:=ho
  have hlen:=dless_len hl
  refine⟨r0,dless_row hl r00,ob,m',hsg.trans r1,?_⟩
  cases ob with
  | none=>subst r2;exact List.eq_nil_of_length_eq_zero hlen.symm
  | some g=>
   obtain⟨q1,cur,q2,q3,q4⟩:=r2
   rw[hlen] at q3 q4
   exact⟨hown _ q1,cur,q2,q3,dsrep_wk hk _ _ _ (dless_flat hl) q4⟩
 ·rename_i e sz rows e' sz' rows'
  obtain⟨rfl,rfl,rfl⟩:=hl
  obtain⟨r0,r00,ob,m',r1,r2⟩:=ho
  refine⟨r0,fun r hr=>?_,ob,m',hsg.trans r1,?_⟩
  ·obtain⟨r',hr',rfl⟩:=List.mem_map.1 hr
   rw[List.length_map];exact r00 r' hr'
  ·cases ob with
   | none=>subst r2;rfl
   | some g=>
    obtain⟨q1,cur,q2,q3,q4⟩:=r2
    refine⟨hown _ q1,cur,q2,by rw[List.length_map];exact q3,?_⟩
    rw[List.length_map,show (rows'.map (List.map D.c)).flatten=rows'.flatten.map D.c by rw[List.map_flatten]]
    exact dsRep_of_cs (CsRep.keeps hk _ _ q4)
 ·exact hl.elim
theorem fkOk_out {fk:List Nat} (h:fkOk f n fk=true):∀k∈fk,f k=some k∧kin k n=true:=by
 induction fk with
 | nil=>intro k hk;cases hk
 | cons q r ih=>
  intro k hk
  unfold fkOk at h
  simp only[Bool.and_eq_true] at h
  obtain⟨h1,h2,h3⟩:=h
  rcases List.mem_cons.1 hk with rfl | hk
  ·refine⟨?_,h2⟩
   split at h1
   ·rename_i k' hq;rw[hq,Nat.eq_of_beq_eq_true h1]
   ·cases h1
  ·exact ih h3 k hk
theorem sw_wk {fk:List Nat} (hfk:∀k,c.σ0 k≠none→k∈fk) (hs:SW c σ h w) (hi:injOn f lh=true) (hff:fkOk f n fk=true) (hh:HLes f n h lh) :
  Keeps (fz c σ h w) (fz c (newSg σ f n) (hpL lh) w) w w∧SW c (newSg σ f n) (hpL lh) w:=by
 have old:=hb_old hh
 have hkeep:Keeps (fz c σ h w) (fz c (newSg σ f n) (hpL lh) w) w w:=by
  refine⟨fun b o hf=>hf.imp id fun ⟨f1,f2,f3⟩=>⟨f1,f2,fun k m hb hk hσ=>?_⟩,fun _ _ _=>rfl⟩
  obtain⟨g1,g2⟩:=old k hb hk
  unfold newSg at hσ
  rw[if_pos g1] at hσ
  rcases g2 with ⟨k',b',q1,q2,q3⟩ | ⟨q1,_⟩
  ·rw[q1] at hσ
   exact hle_shut q3 (f3 k' m b' q2 hσ)
  ·rw[q1] at hσ;cases hσ
 refine⟨hkeep,hs.os,hs.tape,hs.output,hs.size,hs.block,fun k hb hk=>?_,fun k1 k2 g n1 n2 a1 a2 a3 a4=>?_,hs.kept.trans hkeep,hs.shape,fun k x hk=>?_⟩
 ·obtain⟨g1,g2⟩:=old k hb hk
  rcases g2 with ⟨k',b',q1,q2,q3⟩ | ⟨q1,⟨e,sz,rfl,q2⟩ | ⟨e,sz,rfl,q2⟩ | ⟨e,sz,rfl,q2⟩⟩
  ·exact hb_wk hkeep (fun _ h=>h) g1 q1 q3 (hs.hp k' b' q2)
  ·exact⟨q2,none,0,by unfold newSg;rw[if_pos g1,q1],rfl⟩
  ·exact⟨q2,by simp,none,0,by unfold newSg;rw[if_pos g1,q1],rfl⟩
  ·exact⟨q2,by simp,none,0,by unfold newSg;rw[if_pos g1,q1],rfl⟩
 ·cases hb1:hpL lh k1 with
  | none=>exact absurd hb1 a1
  | some b1=>
   cases hb2:hpL lh k2 with
   | none=>exact absurd hb2 a2
   | some b2=>
    obtain⟨g1,g2⟩:=old k1 b1 hb1
    obtain⟨g3,g4⟩:=old k2 b2 hb2
    unfold newSg at a3 a4
    rw[if_pos g1] at a3
    rw[if_pos g3] at a4
    rcases g2 with ⟨k1',b1',q1,q2,_⟩ | ⟨q1,_⟩
    ·rcases g4 with ⟨k2',b2',r1,r2,_⟩ | ⟨r1,_⟩
     ·rw[q1] at a3
      rw[r1] at a4
      have:=hs.inj k1' k2' g n1 n2 (by rw[q2];simp) (by rw[r2];simp) a3 a4
      subst this
      exact injOn_out hi k1 k2 b1 b2 k1' (hpL_mem hb1) (hpL_mem hb2) q1 r1
     ·rw[r1] at a4;cases a4
    ·rw[q1] at a3;cases a3
 ·obtain⟨q1,q2⟩:=fkOk_out hff k (hfk k (by rw[hk];simp))
  rw[newSg_some q2 q1]
  exact hs.sg0 k x hk
theorem st_wk {fk:List Nat} (hfk:∀k,c.σ0 k≠none→k∈fk) (hs:St c nt σ e h a w) (hw:Wk fk e h le lh n):∃σ',St c nt σ' (ofL le) (hpL lh) a w∧∀k,k∉n→σ' k=none:=by
 obtain⟨f,hi,hff,he,hh⟩:=hw
 obtain⟨hkeep,hsw⟩:=sw_wk hfk hs.toSW hi hff hh
 exact⟨newSg σ (fnL f) n,⟨hsw,fun t=>prep_wk hkeep _ _ _ (ple_of he) (hs.env t),hs.defers,hs.nt⟩,fun k hk=>by unfold newSg;rw[if_neg fun e=>hk (kin_mem e)]⟩
end
end Go.Proofs.YtegpnpdnanfhbaaGreatDoor.Pm
namespace Go.Proofs.YtegpnpdnanfhbaaGreatDoor.Pm
open Go.RowKit
abbrev Cont:=Exit→Env→Hp→List Nat→Prop
def seqK (next:Env→Hp→List Nat→Prop) (Q:Cont):Cont:=fun x e h n=>match x with
 | .normal=>next e h n
 | x=>Q x e h n
def blockK (id:Nat) (Q:Cont):Cont:=fun x e h n=>match x with
 | .exit id'=>match Nat.beq id' id with
  | true=>Q .normal e h n
  | false=>Q (.exit id') e h n
 | x=>Q x e h n
def scopeK (Q:Cont):Cont:=fun x e h n=>match x with
 | .goto _=>False
 | x=>Q x e h n
inductive Round (fk:List Nat) (S:Type) (E:S→List (Nat×PV)) (H:S→List (Nat×HB)) (n:List Nat) (inv:S→Prop) (μ:S→Nat) (s:S) (e:Env) (h:Hp):Prop
 | mk (s':S) (hi:inv s') (hμ:μ s'<μ s) (hw:Wk fk e h (E s') (H s') n)
def roundK (fk:List Nat) (S:Type) (E:S→List (Nat×PV)) (H:S→List (Nat×HB)) (n:List Nat) (inv:S→Prop) (μ:S→Nat) (s:S) (Q:Cont):Cont:=fun x e h m=>match x with
 | .normal=>Round fk S E H n inv μ s e h
 | x=>Q x e h m
inductive LoopC (fk:List Nat) (body:Env→Hp→List Nat→Cont→Prop) (e:Env) (h:Hp) (Q:Cont):Prop
 | mk (S:Type) (E:S→List (Nat×PV)) (H:S→List (Nat×HB)) (n:List Nat) (inv:S→Prop) (μ:S→Nat) (s0:S) (h0:inv s0) (hm:Wk fk e h (E s0) (H s0) n)
   (round:∀s,inv s→body (ofL (E s)) (hpL (H s)) n (roundK fk S E H n inv μ s Q))
abbrev VT:=Env→Hp→List Nat→Cont→Prop
noncomputable def vc (P:Program) (nt:Nat) (fk:List Nat) (X:XT) (cd:Code):VT:=
 Code.rec (motive:=fun _=>VT)
  (fun e h n Q=>Q .normal e h n)
  (fun _ ops draw e h n Q=>regionP P nt ops draw e h n X fun e' h' n'=>Q .normal e' h' n')
  (fun _ _ ix iy e h n Q=>ix e h n (seqK (fun e' h' n'=>iy e' h' n' Q) Q))
  (fun c _ _ ix iy e h n Q=>match ev e c with
   | .d (.c (.v (.bool b)))=>BCase b (ix e h n Q) (iy e h n Q)
   | _=>False)
  (fun id _ i e h n Q=>i e h n (blockK id Q))
  (fun _ i e h n Q=>LoopC fk i e h Q)
  (fun _ _ _ _ _ _ _ _ _ _=>False)
  (fun id e h n Q=>Q (.exit id) e h n)
  (fun _ i e h n Q=>i e h n (scopeK Q))
  (fun _ _ _ _ _=>False)
  (fun _ _ _ _ _=>False)
  (fun e h n Q=>Q .ret e h n)
  (fun _ _ _ _ _=>False) cd
theorem vc_cond {P:Program} {nt:Nat} {fk:List Nat} {X:XT} {c:Operand} {x y:Code} {e:Env} {h:Hp} {n:List Nat} {Q:Cont} :
  vc P nt fk X (.cond c x y) e h n Q=match ev e c with
   | .d (.c (.v (.bool b)))=>BCase b (vc P nt fk X x e h n Q) (vc P nt fk X y e h n Q)
   | _=>False:=rfl
def After (c:Ctx) (nt:Nat) (X:XT) (Q:Cont):Exit→Act→World→Prop:=fun x a w=>match x with
 | .panic ch=>∃v,ch=[{ v:=v,recovered:=false }]∧∃e h n σ,X v e h n∧St c nt σ e h a w∧∀k,k∉n→σ k=none
 | x=>∃e h n σ,Q x e h n∧St c nt σ e h a w∧∀k,k∉n→σ k=none
theorem vc_out {P:Program} {nt:Nat} {fk:List Nat} {X:XT} {c:Ctx} (hfk:∀k,c.σ0 k≠none→k∈fk) (hc:c.Ok) (hm:P.follows .mixedOrders=true):∀(cd:Code) (e:Env) (h:Hp) (n:List Nat) (Q:Cont) (σ:Sg) (a:Act) (w:World),vc P nt fk X cd e h n Q→St c nt σ e h a w→(∀k,k∉n→σ k=none)→
  cd.wp P (After c nt X Q) a w
 | .skip,e,h,n,Q,σ,a,w,hv,hs,hf=>wp_skip ⟨e,h,n,σ,hv,hs,hf⟩
 | .region id ops draw,e,h,n,Q,σ,a,w,hv,hs,hf=>
  region_out hc hm hv (fun x e h n σ a w hx hs hf=>⟨x,rfl,e,h,n,σ,hx,hs,hf⟩) hs hf fun e' h' n' σ' a' w' hk hs' hf'=>⟨e',h',n',σ',hk,hs',hf'⟩
 | .seq x y,e,h,n,Q,σ,a,w,hv,hs,hf=>by
  refine wp_seq (wp_mono (vc_out hfk hc hm x e h n _ σ a w hv hs hf) ?_)
  intro ex a' w' hq
  cases ex with
  | normal=>
   obtain⟨e',h',n',σ',hq,hs',hf'⟩:=hq
   exact vc_out hfk hc hm y e' h' n' Q σ' a' w' hq hs' hf'
  | exit id=>exact hq
  | goto l=>exact hq
  | ret=>exact hq
  | panic ch=>exact hq
  | outgrown=>exact hq
 | .cond o x y,e,h,n,Q,σ,a,w,hv,hs,hf=>by
  rw[vc_cond] at hv
  split at hv
  ·rename_i b hb
   have h1:=rep_ev hs o
   rw[hb] at h1
   have h2:=rep_v h1
   obtain⟨ht,hff⟩:=hv
   refine wp_cond_split h2 (fun hb'=>vc_out hfk hc hm x e h n Q σ a w (ht hb') hs hf) (fun hb'=>vc_out hfk hc hm y e h n Q σ a w (hff hb') hs hf)
  ·exact hv.elim
 | .block id cd,e,h,n,Q,σ,a,w,hv,hs,hf=>by
  refine wp_block (wp_mono (vc_out hfk hc hm cd e h n _ σ a w hv hs hf) ?_)
  intro ex a' w' hq
  cases ex with
  | exit id'=>
   obtain⟨e',h',n',σ',hq,hs',hf'⟩:=hq
   simp only[Exit.inBlock]
   simp only[blockK] at hq
   split at hq
   ·rename_i hb
    rw[if_pos (Nat.eq_of_beq_eq_true hb)]
    exact⟨e',h',n',σ',hq,hs',hf'⟩
   ·rename_i hb
    rw[if_neg (fun e=>by subst e;rw[Nat.beq_refl] at hb;cases hb)]
    exact⟨e',h',n',σ',hq,hs',hf'⟩
  | normal=>exact hq
  | goto l=>exact hq
  | ret=>exact hq
  | panic ch=>exact hq
  | outgrown=>exact hq
 | .loop cd,e,h,n,Q,σ,a,w,hv,hs,hf=>by
  obtain⟨S,E,H,m,inv,μ,s0,h0,hw,round⟩:=hv
  obtain⟨σ0,hs0,hf0⟩:=st_wk hfk hs hw
  refine wp_loop_ghost (fun k a' w'=>∃s σ,μ s=k∧inv s∧St c nt σ (ofL (E s)) (hpL (H s)) a' w'∧∀q,q∉m→σ q=none) (μ s0) ⟨s0,σ0,rfl,h0,hs0,hf0⟩ ?_
  rintro k a1 w1 ⟨s1,σ1,rfl,h1,h2,h3⟩
  refine wp_mono (vc_out hfk hc hm cd _ _ _ _ σ1 a1 w1 (round s1 h1) h2 h3) ?_
  intro ex a' w' hq
  cases ex with
  | normal=>
   obtain⟨e',h',n',σ',hq,hs',hf'⟩:=hq
   obtain⟨s2,i2,lt,hw2⟩:=hq
   obtain⟨σ2,hs2,hf2⟩:=st_wk hfk hs' hw2
   exact⟨μ s2,lt,s2,σ2,rfl,i2,hs2,hf2⟩
  | exit id=>exact hq
  | goto l=>exact hq
  | ret=>exact hq
  | panic ch=>exact hq
  | outgrown=>exact hq
 | .exit id,e,h,n,Q,σ,a,w,hv,hs,hf=>wp_exit ⟨e,h,n,σ,hv,hs,hf⟩
 | .scope cd,e,h,n,Q,σ,a,w,hv,hs,hf=>by
  refine wp_scope_straight (wp_mono (vc_out hfk hc hm cd e h n _ σ a w hv hs hf) ?_)
  intro ex a' w' hq
  cases ex with
  | goto l=>obtain⟨e',h',n',σ',hq,hs',hf'⟩:=hq;exact hq
  | normal=>exact hq
  | exit id=>exact hq
  | ret=>exact hq
  | panic ch=>exact hq
  | outgrown=>exact hq
 | .ret,e,h,n,Q,σ,a,w,hv,hs,hf=>wp_ret ⟨e,h,n,σ,hv,hs,hf⟩
 | .rangeFunc _ _ _ _,e,h,n,Q,σ,a,w,hv,hs,hf=>False.elim hv
 | .label _,e,h,n,Q,σ,a,w,hv,hs,hf=>False.elim hv
 | .goto _,e,h,n,Q,σ,a,w,hv,hs,hf=>False.elim hv
 | .refuse _,e,h,n,Q,σ,a,w,hv,hs,hf=>False.elim hv
def resP (P:Program) (h:Hp) (e:Env):List ResultVar→(List PV→Prop)→Prop
 | [],K=>K []
 | .tmp t::rs,K=>PV.force (e t) fun v=>resP P h e rs fun vs=>K (v::vs)
 | .cell t ty::rs,K=>loadP P h ty (e t) fun v _=>resP P h e rs fun vs=>K (v::vs)
def D.closeA (h:Hp) (x:D) (K:C→Prop):Prop:=match x with
 | .c y=>K y
 | .app _ _ sz l=>K (.sl sz l)
 | .arr k _ sz lo n=>match h k with
  | some (.arr _ s rows)=>match Nat.beq s sz with
   | true=>Need (lo+n≤rows.length) (K (.sl sz ((rows.drop lo).take n)))
   | false=>False
  | _=>False
 | .clo f [] []=>K (.v (.func (.func f) #[] #[]))
 | _=>False
def ClL (h:Hp):List D→List C→Prop
 | [],ys=>ys=[]
 | x::xs,ys=>match ys with
  | []=>False
  | y::ys=>D.closeA h x (fun z=>z=y)∧ClL h xs ys
def ClR (h:Hp):List (List D)→List (List C)→Prop
 | [],ys=>ys=[]
 | x::xs,ys=>match ys with
  | []=>False
  | y::ys=>ClL h x y∧ClR h xs ys
inductive RowsC (h:Hp) (rows:List (List D)) (K:List (List C)→Prop):Prop
 | mk (rs:List (List C)) (hr:ClR h rows rs) (hk:K rs)
def D.closeH (h:Hp) (x:D) (K:C→Prop):Prop:=match x with
 | .c y=>K y
 | .app _ _ sz l=>K (.sl sz l)
 | .arr k _ sz lo n=>match h k with
  | some (.arr _ s rows)=>match Nat.beq s sz with
   | true=>Need (lo+n≤rows.length) (K (.sl sz ((rows.drop lo).take n)))
   | false=>False
  | some (.darr _ s rows)=>match Nat.beq s sz with
   | true=>RowsC h rows fun rs=>Need (lo+n≤rs.length) (K (.sl sz ((rs.drop lo).take n)))
   | false=>False
  | _=>False
 | .clo f [] []=>K (.v (.func (.func f) #[] #[]))
 | _=>False
def closeHL (h:Hp):List D→(List C→Prop)→Prop
 | [],K=>K []
 | x::xs,K=>D.closeH h x fun y=>closeHL h xs fun ys=>K (y::ys)
mutual
def PV.closeH (h:Hp):PV→(PV→Prop)→Prop
 | .d x,K=>D.closeH h x fun y=>K (.d (.c y))
 | .agg l,K=>closeHL h l fun ys=>K (.agg (ys.map D.c))
 | .tup l,K=>closeHPs h l fun ys=>K (.tup ys)
 | .any,_=>False
def closeHPs (h:Hp):List PV→(List PV→Prop)→Prop
 | [],K=>K []
 | x::xs,K=>PV.closeH h x fun y=>closeHPs h xs fun ys=>K (y::ys)
end
inductive Ret (v r:PV):Prop
 | mk (h:v=r)
 | le (h:PLe (fun _=>none) [] r v)
def tupOf (vs:List PV) (K:PV→Prop):Prop:=match vs with
 | [v]=>K v
 | vs=>K (.tup vs)
def retQ (P:Program) (fn:Func) (res:PV):Cont:=fun x e h _=>match x with
 | .normal=>resP P h e fn.results.toList fun vs=>closeHPs h vs fun vs=>tupOf vs fun v=>Ret v res
 | .ret=>resP P h e fn.results.toList fun vs=>closeHPs h vs fun vs=>tupOf vs fun v=>Ret v res
 | _=>False
inductive RetS (fk:List Nat) (h:Hp) (res:PV) (fin:Rf) (v:PV):Prop
 | mk (f:List (Nat×Nat)) (n:List Nat) (hi:injOn (fnL f) fin=true) (hf:fkOk (fnL f) n fk=true) (hr:PLe (fnL f) n res v) (hh:HLes (fnL f) n h fin)
def retS (P:Program) (fn:Func) (fk:List Nat) (res:PV) (fin:Rf):Cont:=fun x e h _=>match x with
 | .normal=>resP P h e fn.results.toList fun vs=>tupOf vs fun v=>RetS fk h res fin v
 | .ret=>resP P h e fn.results.toList fun vs=>tupOf vs fun v=>RetS fk h res fin v
 | _=>False
def argsE (l:List PV):Env:=fun t=>match l[t]? with
 | some v=>v
 | none=>.tup []
theorem loadP_run {P:Program} {c:Ctx} {σ:Sg} {h:Hp} {w:World} {t:TypeId} {x:PV} {K:PV→Rf→Prop} (hv:loadP P h t x K) (hs:SW c σ h w) {u:Value} (hu:PRep σ (fz c σ h w) w x u) :
  ∃v z rf,K v rf∧(Instr.loadAt t u).run P w=.ok z w∧(∃ad,u=.pointer (some ad))∧PRep σ (fz c σ h w) w v z:=by
 unfold loadP at hv
 split at hv
 ·rename_i l
  obtain⟨v,h1,h2⟩:=readP_out hv
  unfold PRep DRep CRep at hu
  obtain⟨b,off,rfl,e3⟩:=hu
  obtain⟨us,e4,e5,_⟩:=csAt_values e3
  obtain⟨z,h3,h4⟩:=h2 σ _ w b off us (dsRep_of_cs e4) e5
  exact⟨v,z,_,h1,by simp only[Instr.loadAt,Instr.sureAddr,Sem.run_bind,Sem.run_pure,Result.andThen_ok,h3],⟨_,rfl⟩,h4⟩
 ·rename_i k off
  split at hv
  ·rename_i bt l hk
   obtain⟨v,h1,h2⟩:=readP_out hv
   unfold PRep DRep at hu
   obtain⟨g,n,e2,rfl⟩:=hu
   obtain⟨g',n',cur,e4,e5,e6,e7⟩:=hs.hp k _ hk
   rw[e2] at e4;cases e4
   obtain⟨z,h3,h4⟩:=h2 σ _ w g off (cur.toList.drop off) (e7.drop off) (fun j v hv=>by
    rw[cell_of_row _ _ _ _ _ _ e6]
    rw[List.getElem?_drop] at hv
    simpa using hv)
   exact⟨v,z,_,h1,by simp only[Instr.loadAt,Instr.sureAddr,Sem.run_bind,Sem.run_pure,Result.andThen_ok,h3],⟨_,rfl⟩,h4⟩
  ·exact hv.elim
 ·rename_i k sz j off
  split at hv
  ·rename_i e0 s rows hk
   split at hv
   ·rename_i es
    obtain rfl:=Nat.eq_of_beq_eq_true es
    obtain⟨r,hr,hv⟩:=hv
    obtain⟨v,h1,h2⟩:=readP_out hv
    unfold PRep DRep at hu
    obtain⟨g,n,e2,rfl⟩:=hu
    obtain⟨hz,hrl,ob,n',e4,e5⟩:=hs.hp k _ hk
    rw[e2] at e4;cases e4
    obtain⟨e5,cur,e6,e7,e8⟩:=e5
    have hrep:=row_rep hrl hr e8
    obtain⟨z,h3,h4⟩:=h2 σ _ w g (j*s+off) ((((cur.toList.take (rows.length*s)).drop (j*s)).take s).drop off) (dsRep_of_cs (hrep.drop off)) (fun q v hv=>by
     rw[cell_of_row _ _ _ _ _ _ e6]
     rw[List.getElem?_drop,List.getElem?_take] at hv
     split at hv
     ·rw[List.getElem?_drop,List.getElem?_take] at hv
      split at hv
      ·rw[← Array.getElem?_toList,← hv];congr 1;omega
      ·cases hv
     ·cases hv)
    exact⟨v,z,_,h1,by simp only[Instr.loadAt,Instr.sureAddr,Sem.run_bind,Sem.run_pure,Result.andThen_ok,h3],⟨_,rfl⟩,h4⟩
   ·exact hv.elim
  ·rename_i e0 s rows hk
   split at hv
   ·rename_i es
    obtain rfl:=Nat.eq_of_beq_eq_true es
    obtain⟨r,hr,hv⟩:=hv
    obtain⟨v,h1,h2⟩:=readP_out hv
    unfold PRep DRep at hu
    obtain⟨g,n,e2,rfl⟩:=hu
    obtain⟨hz,hrl,ob,n',e4,e5⟩:=hs.hp k _ hk
    rw[e2] at e4;cases e4
    obtain⟨e5,cur,e6,e7,e8⟩:=e5
    have hrep:=drow_rep hrl hr e8
    obtain⟨z,h3,h4⟩:=h2 σ _ w g (j*s+off) ((((cur.toList.take (rows.length*s)).drop (j*s)).take s).drop off) (hrep.drop off) (fun q v hv=>by
     rw[cell_of_row _ _ _ _ _ _ e6]
     rw[List.getElem?_drop,List.getElem?_take] at hv
     split at hv
     ·rw[List.getElem?_drop,List.getElem?_take] at hv
      split at hv
      ·rw[← Array.getElem?_toList,← hv];congr 1;omega
      ·cases hv
     ·cases hv)
    exact⟨v,z,_,h1,by simp only[Instr.loadAt,Instr.sureAddr,Sem.run_bind,Sem.run_pure,Result.andThen_ok,h3],⟨_,rfl⟩,h4⟩
   ·exact hv.elim
  ·exact hv.elim
 ·exact hv.elim
def resF (tmps:Array Value):ResultVar→Sem Value
 | .tmp t=>pure (tmps.getD t undef)
 | .cell a t=>do loadVar t (← asAddr (tmps.getD a undef))
theorem resP_out {P:Program} {c:Ctx} {nt:Nat} {σ:Sg} {e:Env} {h:Hp} {a:Act} {w:World} (hs:St c nt σ e h a w):∀{rs:List ResultVar} {K:List PV→Prop},resP P h e rs K→
  ∃vs us,K vs∧(rs.mapM (resF a.tmps)).run P w=.ok us w∧PsRep σ (fz c σ h w) w vs us
 | [],K,hv=>⟨[],[],hv,by simp,by unfold PsRep;trivial⟩
 | .tmp t::rs,K,hv=>by
  unfold resP at hv
  obtain⟨vs,us,h3,h4,h5⟩:=resP_out hs (force_out hv)
  refine⟨e t::vs,a.tmps.getD t undef::us,h3,?_,by unfold PsRep;exact⟨hs.env t,h5⟩⟩
  simp only[List.mapM_cons,resF,Sem.run_bind,Sem.run_pure,Result.andThen_ok,h4]
 | .cell t ty::rs,K,hv=>by
  unfold resP at hv
  obtain⟨v,z,_,g1,g2,⟨ad,g3⟩,g4⟩:=loadP_run hv hs.toSW (hs.env t)
  obtain⟨vs,us,h3,h4,h5⟩:=resP_out hs g1
  refine⟨v::vs,z::us,h3,?_,by unfold PsRep;exact⟨g4,h5⟩⟩
  rw[g3] at g2
  have g5:(loadVar ty ad).run P w=.ok z w:=by simpa [Instr.loadAt,Instr.sureAddr] using g2
  simp only[List.mapM_cons,resF,Sem.run_bind,Sem.run_pure,Result.andThen_ok,h4,g3,asAddr,g5]
theorem psRep_len {σ:Sg} {F:Fzn} {w:World}:∀{l:List PV} {us:List Value},PsRep σ F w l us→us.length=l.length
 | [],[],_=>rfl
 | _::_,_::us,h=>by unfold PsRep at h;rw[List.length_cons,List.length_cons,psRep_len h.2]
 | [],_::_,h=>by unfold PsRep at h;exact h.elim
 | _::_,[],h=>by unfold PsRep at h;exact h.elim
theorem psRep_get {σ:Sg} {F:Fzn} {w:World}:∀{l:List PV} {us:List Value} (t:Nat),PsRep σ F w l us→PRep σ F w (argsE l t) ((us[t]?).getD undef)
 | [],[],t,_=>by unfold argsE;simp;exact rep_undef
 | x::xs,u::us,0,h=>by unfold PsRep at h;unfold argsE;simpa using h.1
 | x::xs,u::us,t+1,h=>by
  unfold PsRep at h
  have:=psRep_get t h.2
  unfold argsE at this ⊢
  simpa using this
 | [],_::_,_,h=>by unfold PsRep at h;exact h.elim
 | _::_,[],_,h=>by unfold PsRep at h;exact h.elim
theorem tup_out {σ:Sg} {F:Fzn} {w:World} {vs:List PV} {us:List Value} {K:PV→Prop} (h:tupOf vs K) (hr:PsRep σ F w vs us):∃v,K v∧PRep σ F w v (if h:us.toArray.size=1 then us.toArray[0] else .tuple us.toArray):=by
 have hlen:=psRep_len hr
 unfold tupOf at h
 split at h
 ·rename_i v
  simp only[List.length_singleton] at hlen
  refine⟨v,h,?_⟩
  match us,hlen,hr with
  | [u],_,hr=>unfold PsRep at hr;simpa using hr.1
 ·rename_i hne
  refine⟨_,h,?_⟩
  have:¬us.toArray.size=1:=by
   intro hq
   rw[List.size_toArray] at hq
   rw[hq] at hlen
   match vs,hlen,hne with
   | [v],_,hne=>exact hne v rfl
  rw[dif_neg this]
  unfold PRep
  exact⟨us,rfl,hr⟩
theorem results_run {P:Program} {c:Ctx} {nt:Nat} {σ:Sg} {e:Env} {h:Hp} {a:Act} {w:World} {fn:Func} {K:List PV→Prop} (hs:St c nt σ e h a w) (hr:resP P h e fn.results.toList K) :
  ∃vs us,K vs∧(results fn a.tmps).run P w=.ok (if hx:us.toArray.size=1 then us.toArray[0] else .tuple us.toArray) w∧PsRep σ (fz c σ h w) w vs us:=by
 obtain⟨vs,us,h1,h2,h3⟩:=resP_out hs hr
 refine⟨vs,us,h1,?_,h3⟩
 have he:results fn a.tmps=(do let vs ← fn.results.mapM (resF a.tmps);pure (if h:vs.size=1 then vs[0] else .tuple vs)):=by
  unfold results
  congr 1
 rw[he,Array.mapM_eq_mapM_toList]
 simp only[Sem.run_bind,map_eq_pure_bind,bind_assoc,pure_bind,h2,Result.andThen_ok,Sem.run_pure]
section
variable {c:Ctx} {σ:Sg} {h:Hp} {w:World} {F':Fzn}
theorem arr_close (hall:∀b o,c.own b→b<w.heap.size→F' b o) {k e e2 s lo n:Nat} {rows:List (List C)} {u:Value} (hu:DRep σ (fz c σ h w) w (.arr k e s lo n) u) (hrl:∀r∈rows,r.length=s) (hle:lo+n≤rows.length)
  (hh:∃ob q,σ k=some (ob,q)∧match ob with
   | none=>True
   | some g=>c.own g∧∃cur:Array Value,w.heap[g]? = some (Obj.cells cur e2 (0,0))∧CsRep F' w rows.flatten (cur.toList.take (rows.length*s))):CRep F' w (.sl s ((rows.drop lo).take n)) u:=by
 obtain⟨ob,q,h1,h2⟩:=hh
 unfold DRep at hu
 have hlen:((rows.drop lo).take n).length=n:=by rw[List.length_take,List.length_drop];omega
 unfold CRep
 rw[hlen]
 obtain⟨_,⟨m,g1,rfl,b0,rfl⟩ | ⟨g,m,off,cap,cur,fr,g1,rfl,g3,g4,g5,g6,g7⟩⟩:=hu
 ·exact⟨b0,0,rfl,Nat.le_refl _,Nat.zero_le _,fun _=>rfl,.inl (by simp)⟩
 ·refine⟨_,cap,rfl,g3,g4,(fun e=>by cases e),?_⟩
  by_cases hn:n=0
  ·subst hn;exact .inl (by simp)
  ·right
   rw[g1] at h1
   cases h1
   obtain⟨hown,cur2,p1,p3⟩:=h2
   obtain rfl:=g7 (by omega)
   refine⟨g,lo*s,rfl,?_⟩
   have hlt:g<w.heap.size:=(Array.getElem?_eq_some_iff.1 p1).1
   have hr:RowsAt F' w s g 0 rows:=by
    rw[rowsAt_iff]
    refine⟨hrl,csAt_of_values p3 (fun j u hu=>?_) (fun j hj=>hall _ _ hown hlt)⟩
    rw[Nat.zero_add,cell_of_row _ _ _ _ _ _ p1]
    rw[List.getElem?_take] at hu
    split at hu
    ·simpa using hu
    ·cases hu
   have:=rowsAt_take n (rowsAt_drop lo (by omega) hr)
   rwa [Nat.zero_add] at this
theorem closeA_out (hs:SW c σ h w) (hk:Keeps (fz c σ h w) F' w w) (hall:∀b o,c.own b→b<w.heap.size→F' b o) {x:D} {K:C→Prop} (hx:D.closeA h x K):∃y,K y∧∀u,DRep σ (fz c σ h w) w x u→CRep F' w y u:=by
 unfold D.closeA at hx
 split at hx
 ·exact⟨_,hx,fun u hu=>by unfold DRep at hu;exact CRep.keeps hk _ _ hu⟩
 ·rename_i k e sz l
  refine⟨_,hx,fun u hu=>?_⟩
  have:=rows_val (σ:=σ) (F:=fz c σ h w) (w:=w) (x:=.d (.app k e sz l)) (.inr ⟨k,e,rfl⟩) (u:=u) (by unfold PRep;exact hu)
  refine CRep.keeps hk _ _ ?_
  unfold CRep
  exact this
 ·rename_i k e sz lo n
  split at hx
  ·rename_i e2 s rows hh
   split at hx
   ·rename_i es
    obtain rfl:=Nat.eq_of_beq_eq_true es
    obtain⟨hle,hx⟩:=hx
    refine⟨_,hx,fun u hu=>?_⟩
    obtain⟨hz,hrl,ob,q,h1,h2⟩:=hs.hp k _ hh
    refine arr_close (e2:=e2) hall hu hrl hle ⟨ob,q,h1,?_⟩
    cases ob with
    | none=>trivial
    | some g=>exact⟨h2.1,h2.2.choose,h2.2.choose_spec.1,CsRep.keeps hk _ _ h2.2.choose_spec.2.2⟩
   ·exact hx.elim
  ·exact hx.elim
 ·rename_i f
  refine⟨_,hx,fun u hu=>?_⟩
  unfold DRep at hu
  obtain⟨us,vs,rfl,h1,h2⟩:=hu
  rw[dsRep_nil_inv h1,dsRep_nil_inv h2]
  unfold CRep
  exact⟨rfl,rfl⟩
 ·exact hx.elim
theorem dsRep_split {F:Fzn}:∀{a b:List D} {us:List Value},DsRep σ F w (a++b) us→∃u1 u2,us=u1++u2∧DsRep σ F w a u1∧DsRep σ F w b u2
 | [],b,us,h=>⟨[],us,rfl,dsRep_nil,h⟩
 | x::xs,b,us,h=>by
  rw[List.cons_append] at h
  obtain⟨u,vs,rfl,h1,h2⟩:=dsRep_inv h
  obtain⟨u1,u2,rfl,h3,h4⟩:=dsRep_split h2
  exact⟨u::u1,u2,rfl,dsRep_cons h1 h3,h4⟩
theorem clL_out (hs:SW c σ h w) (hk:Keeps (fz c σ h w) F' w w) (hall:∀b o,c.own b→b<w.heap.size→F' b o):∀{l:List D} {ys:List C},ClL h l ys→ys.length=l.length∧∀us,DsRep σ (fz c σ h w) w l us→CsRep F' w ys us
 | [],ys,h=>by unfold ClL at h;subst h;exact⟨rfl,fun us hu=>by rw[dsRep_nil_inv hu];exact csRep_nil⟩
 | x::xs,ys,h=>by
  unfold ClL at h
  split at h
  ·exact h.elim
  ·obtain⟨y,rfl,h2⟩:=closeA_out hs hk hall h.1
   obtain⟨h3,h4⟩:=clL_out hs hk hall h.2
   refine⟨by rw[List.length_cons,List.length_cons,h3],fun us hu=>?_⟩
   obtain⟨u,vs,rfl,g1,g2⟩:=dsRep_inv hu
   exact csRep_cons (h2 u g1) (h4 vs g2)
theorem clR_out {s:Nat} (hs:SW c σ h w) (hk:Keeps (fz c σ h w) F' w w) (hall:∀b o,c.own b→b<w.heap.size→F' b o):∀{l:List (List D)} {rs:List (List C)},(∀r∈l,r.length=s)→ClR h l rs→
  rs.length=l.length∧(∀r∈rs,r.length=s)∧∀us,DsRep σ (fz c σ h w) w l.flatten us→CsRep F' w rs.flatten us
 | [],rs,_,hr=>by
  unfold ClR at hr
  subst hr
  exact⟨rfl,by simp,fun us hu=>by rw[List.flatten_nil] at hu;rw[dsRep_nil_inv hu];exact csRep_nil⟩
 | x::xs,rs,hl,hr=>by
  unfold ClR at hr
  split at hr
  ·exact hr.elim
  ·obtain⟨g1,g2⟩:=clL_out hs hk hall hr.1
   obtain⟨i1,i2,i3⟩:=clR_out hs hk hall (fun r hr=>hl r (List.mem_cons_of_mem _ hr)) hr.2
   refine⟨by rw[List.length_cons,List.length_cons,i1],fun r hr=>?_,fun us hu=>?_⟩
   ·rcases List.mem_cons.1 hr with rfl | hr
    ·rw[g1];exact hl _ (List.mem_cons_self ..)
    ·exact i2 r hr
   ·rw[List.flatten_cons] at hu ⊢
    obtain⟨u1,u2,rfl,f1,f2⟩:=dsRep_split hu
    exact CsRep.append (g2 u1 f1) (i3 u2 f2)
theorem closeH_out (hs:SW c σ h w) (hk:Keeps (fz c σ h w) F' w w) (hall:∀b o,c.own b→b<w.heap.size→F' b o) {x:D} {K:C→Prop} (hx:D.closeH h x K):∃y,K y∧∀u,DRep σ (fz c σ h w) w x u→CRep F' w y u:=by
 unfold D.closeH at hx
 split at hx
 ·exact⟨_,hx,fun u hu=>by unfold DRep at hu;exact CRep.keeps hk _ _ hu⟩
 ·rename_i k e sz l
  refine⟨_,hx,fun u hu=>?_⟩
  have:=rows_val (σ:=σ) (F:=fz c σ h w) (w:=w) (x:=.d (.app k e sz l)) (.inr ⟨k,e,rfl⟩) (u:=u) (by unfold PRep;exact hu)
  refine CRep.keeps hk _ _ ?_
  unfold CRep
  exact this
 ·rename_i k e sz lo n
  split at hx
  ·rename_i e2 s rows hh
   split at hx
   ·rename_i es
    obtain rfl:=Nat.eq_of_beq_eq_true es
    obtain⟨hle,hx⟩:=hx
    refine⟨_,hx,fun u hu=>?_⟩
    obtain⟨hz,hrl,ob,q,h1,h2⟩:=hs.hp k _ hh
    refine arr_close (e2:=e2) hall hu hrl hle ⟨ob,q,h1,?_⟩
    cases ob with
    | none=>trivial
    | some g=>exact⟨h2.1,h2.2.choose,h2.2.choose_spec.1,CsRep.keeps hk _ _ h2.2.choose_spec.2.2⟩
   ·exact hx.elim
  ·rename_i e2 s rows hh
   split at hx
   ·rename_i es
    obtain rfl:=Nat.eq_of_beq_eq_true es
    obtain⟨rs,hr,hle,hx⟩:=hx
    refine⟨_,hx,fun u hu=>?_⟩
    obtain⟨hz,hrl,ob,q,h1,h2⟩:=hs.hp k _ hh
    obtain⟨i1,i2,i3⟩:=clR_out hs hk hall hrl hr
    refine arr_close (e2:=e2) hall hu i2 hle ⟨ob,q,h1,?_⟩
    cases ob with
    | none=>trivial
    | some g=>
     obtain⟨q1,cur,q2,q3,q4⟩:=h2
     exact⟨q1,cur,q2,by rw[i1];exact i3 _ q4⟩
   ·exact hx.elim
  ·exact hx.elim
 ·rename_i f
  refine⟨_,hx,fun u hu=>?_⟩
  unfold DRep at hu
  obtain⟨us,vs,rfl,h1,h2⟩:=hu
  rw[dsRep_nil_inv h1,dsRep_nil_inv h2]
  unfold CRep
  exact⟨rfl,rfl⟩
 ·exact hx.elim
theorem closeHL_out (hs:SW c σ h w) (hk:Keeps (fz c σ h w) F' w w) (hall:∀b o,c.own b→b<w.heap.size→F' b o):∀{l:List D} {K:List C→Prop},closeHL h l K→∃ys,K ys∧∀us,DsRep σ (fz c σ h w) w l us→CsRep F' w ys us
 | [],K,h=>⟨[],h,fun us hu=>by rw[dsRep_nil_inv hu];exact csRep_nil⟩
 | x::xs,K,h=>by
  unfold closeHL at h
  obtain⟨y,h1,h2⟩:=closeH_out hs hk hall h
  obtain⟨ys,h3,h4⟩:=closeHL_out hs hk hall h1
  refine⟨y::ys,h3,fun us hu=>?_⟩
  obtain⟨u,vs,rfl,g1,g2⟩:=dsRep_inv hu
  exact csRep_cons (h2 u g1) (h4 vs g2)
mutual
theorem pcloseH_out (hs:SW c σ h w) (hk:Keeps (fz c σ h w) F' w w) (hall:∀b o,c.own b→b<w.heap.size→F' b o):∀{x:PV} {K:PV→Prop},PV.closeH h x K→∃y,K y∧∀u,PRep σ (fz c σ h w) w x u→PRep (fun _=>none) F' w y u
 | .d x,K,h=>by
  unfold PV.closeH at h
  obtain⟨y,h1,h2⟩:=closeH_out hs hk hall h
  refine⟨_,h1,fun u hu=>?_⟩
  unfold PRep at hu ⊢
  unfold DRep
  exact h2 u hu
 | .agg l,K,h=>by
  unfold PV.closeH at h
  obtain⟨ys,h1,h2⟩:=closeHL_out hs hk hall h
  refine⟨_,h1,fun u hu=>?_⟩
  unfold PRep at hu ⊢
  obtain⟨xs,rfl,hx⟩:=hu
  exact⟨xs,rfl,dsRep_of_cs (h2 xs hx)⟩
 | .tup l,K,h=>by
  unfold PV.closeH at h
  obtain⟨ys,h1,h2⟩:=closeHPs_out hs hk hall h
  refine⟨_,h1,fun u hu=>?_⟩
  unfold PRep at hu ⊢
  obtain⟨xs,rfl,hx⟩:=hu
  exact⟨xs,rfl,h2 xs hx⟩
 | .any,K,h=>by unfold PV.closeH at h;exact h.elim
theorem closeHPs_out (hs:SW c σ h w) (hk:Keeps (fz c σ h w) F' w w) (hall:∀b o,c.own b→b<w.heap.size→F' b o):∀{l:List PV} {K:List PV→Prop},closeHPs h l K→∃ys,K ys∧∀us,PsRep σ (fz c σ h w) w l us→PsRep (fun _=>none) F' w ys us
 | [],K,h=>by
  unfold closeHPs at h
  refine⟨[],h,fun us hu=>?_⟩
  cases us with
  | nil=>unfold PsRep;trivial
  | cons _ _=>unfold PsRep at hu;exact hu.elim
 | x::xs,K,h=>by
  unfold closeHPs at h
  obtain⟨y,h1,h2⟩:=pcloseH_out hs hk hall h
  obtain⟨ys,h3,h4⟩:=closeHPs_out hs hk hall h1
  refine⟨y::ys,h3,fun us hu=>?_⟩
  cases us with
  | nil=>unfold PsRep at hu;exact hu.elim
  | cons u us=>unfold PsRep at hu ⊢;exact⟨h2 u hu.1,h4 us hu.2⟩
end
end
theorem getD_args {vs:List Value} {nt t:Nat}:(vs.toArray++Array.replicate (nt - vs.toArray.size) undef).getD t undef=(vs[t]?).getD undef:=by
 rw[Array.getD_eq_getD_getElem?,Array.getElem?_append]
 split
 ·simp
 ·rename_i hlt
  have:vs[t]? = none:=List.getElem?_eq_none (by simpa using hlt)
  rw[this,Array.getElem?_replicate]
  split<;>rfl
theorem pure_of {P:Program} {f:FuncId} {fn:Func} {cd:Code} {args:List PV} {res:PV} (hf:P.funcs[f]? = some fn) (hn:(fn.name== "runtime.NumGoroutine")=false) (hb:fn.body=some cd) (hm:P.follows .mixedOrders=true)
  (ha:Nat.ble args.length fn.ntmps=true) (hv:vc P fn.ntmps [] (fun _ _ _ _=>False) cd (argsE args) (fun _=>none) [] (retQ P fn res)):Pure P f args res:=by
 refine⟨⟨fn,hf,hn,by rw[hb];rfl⟩,fun F w vs hG hF hargs=>?_⟩
 have hal:=Nat.le_of_ble_eq_true ha
 have hvl:=psRep_len hargs
 obtain⟨c,hcdef⟩:∃c:Ctx,c=⟨w,F,fun _=>False,fun _ _=>False,fun _=>none,[]⟩:=⟨_,rfl⟩
 have hn0:c.n0=w.heap.size:=by rw[hcdef]
 have hF0:c.F0=F:=by rw[hcdef]
 have hF1:c.F1=fun _ _=>False:=by rw[hcdef]
 have hσ0:c.σ0=fun _=>none:=by rw[hcdef]
 have hw0:c.w0=w:=by rw[hcdef]
 have hdf:c.df=[]:=by rw[hcdef]
 have hext:∀b,¬c.ext b:=by intro b;rw[hcdef];exact id
 have hc:c.Ok:=⟨fun b o h=>⟨by rw[hn0];exact hF b o (by rw[← hF0];exact h),hext b⟩,by rw[hw0];exact hG,fun b _=>hext b⟩
 have hfz:∀b o,F b o→fz c (fun _=>none) (fun _=>none) w b o:=fun b o h=>.inl ⟨by rw[hn0];exact hF b o h,by rw[hF0];exact h⟩
 have hst:St c fn.ntmps (fun _=>none) (argsE args) (fun _=>none) { tmps:=vs.toArray++Array.replicate (fn.ntmps - vs.toArray.size) undef,defers:=[] } w:=by
  refine⟨⟨by rw[hw0],by rw[hw0],by rw[hw0],by rw[hn0];exact Nat.le_refl _,fun b _ _=>by rw[hw0],(fun k hb hk=>by cases hk),fun k k' g n n' hk=>absurd rfl hk,?_,by rw[hw0];exact Shape.refl _,fun k x hk=>by rw[hσ0] at hk;cases hk⟩,fun t=>?_,hdf.symm,?_⟩
  ·rw[hF1,hw0];exact⟨fun _ _ h=>h.elim,fun _ _ h=>h.elim⟩
  ·have h1:=psRep_get t (PsRep.of_none (σ:=fun _=>none) ⟨hfz,fun _ _ _=>rfl⟩ _ _ hargs)
   show PRep _ _ _ _ ((vs.toArray++Array.replicate (fn.ntmps - vs.toArray.size) undef).getD t undef)
   rw[getD_args];exact h1
  ·simp;omega
 refine calls_of_wp hf hb (wp_mono (vc_out (fun k hk=>absurd (by rw[hσ0]) hk) hc hm cd _ _ _ _ _ _ w hv hst (fun _ _=>rfl)) ?_)
 intro x a' w' hq
 have fin:∀e' h' σ',St c fn.ntmps σ' e' h' a' w'→resP P h' e' fn.results.toList (fun vs=>closeHPs h' vs fun vs=>tupOf vs fun v=>Ret v res)→
   a'.defers=[]∧∃v,(results fn a'.tmps).run P w'=.ok v w'∧∃v',Ending.returned v=.returned v'∧Below w.heap.size w w'∧PRep (fun _=>none) (fun b o=>F b o∨(w.heap.size≤b∧b<w'.heap.size)) w' res v':=by
  intro e' h' σ' hs' hr
  obtain⟨ps,us,h1,h2,h3⟩:=results_run hs' hr
  have hbel:Below w.heap.size w w':=⟨by rw[hs'.os,hw0],by rw[hs'.tape,hw0],by rw[hs'.output,hw0],by have:=hs'.size;rw[hn0] at this;exact this,fun k hk=>by
   rw[hs'.block k (by rw[hn0];exact hk) (hext k),hw0]⟩
  have hkeep:Keeps (fz c σ' h' w') (fun b o=>F b o∨(w.heap.size≤b∧b<w'.heap.size)) w' w':=by
   refine⟨fun b o hq=>?_,fun _ _ _=>rfl⟩
   rcases hq with ⟨q1,q2⟩ | ⟨q1,q2,_⟩
   ·rw[hF0] at q2;exact .inl q2
   ·rcases q1 with q1 | q1
    ·rw[hn0] at q1;exact .inr ⟨q1,q2⟩
    ·exact absurd q1 (hext b)
  obtain⟨ps',h1,h4⟩:=closeHPs_out hs'.toSW hkeep (fun b o hown hlt=>by
   rcases hown with q | q
   ·rw[hn0] at q;exact .inr ⟨q,hlt⟩
   ·exact absurd q (hext b)) h1
  obtain⟨v,h5,h6⟩:=tup_out h1 (h4 us h3)
  refine⟨hs'.defers.trans hdf,_,h2,_,rfl,hbel,?_⟩
  rcases h5 with rfl | h5
  ·exact h6
  ·have:=prep_wk (σ:=fun _=>none) (f:=fun _=>none) (n:=[]) (F':=fun b o=>F b o∨(w.heap.size≤b∧b<w'.heap.size)) (w:=w') ⟨fun _ _ h=>h,fun _ _ _=>rfl⟩ _ _ _ h5 h6
   have e1:newSg (fun _=>none) (fun _=>none) ([]:List Nat)=fun _=>none:=by funext k;unfold newSg;rw[if_neg (by simp[kin])]
   rw[e1] at this
   exact this
 cases x with
 | normal=>obtain⟨e',h',n',σ',hq,hs',_⟩:=hq;exact fin _ _ _ hs' hq
 | ret=>obtain⟨e',h',n',σ',hq,hs',_⟩:=hq;exact fin _ _ _ hs' hq
 | exit id=>obtain⟨e',h',n',σ',hq,hs',_⟩:=hq;exact hq
 | goto l=>obtain⟨e',h',n',σ',hq,hs',_⟩:=hq;exact hq
 | panic ch=>obtain⟨v,_,e',h',n',σ',hq,_⟩:=hq;exact hq.elim
 | outgrown=>obtain⟨e',h',n',σ',hq,hs',_⟩:=hq;exact hq.elim
theorem st_begin {c:Ctx} {nt:Nat} {h:Hp} {args:List PV} {vs:List Value} (hs:SW c c.σ0 h c.w0) (hargs:PsRep c.σ0 (fz c c.σ0 h c.w0) c.w0 args vs) (ha:args.length≤nt) (hdf:c.df=[]) :
  St c nt c.σ0 (argsE args) h { tmps:=vs.toArray++Array.replicate (nt - vs.toArray.size) undef,defers:=[] } c.w0:=by
 have hvl:=psRep_len hargs
 refine⟨hs,fun t=>?_,hdf.symm,by simp;omega⟩
 have h1:=psRep_get t hargs
 show PRep _ _ _ _ ((vs.toArray++Array.replicate (nt - vs.toArray.size) undef).getD t undef)
 rw[getD_args];exact h1
theorem callS_of {P:Program} {f:FuncId} {fn:Func} {cd:Code} {args:List PV} {res:PV} {rd rf out:Rf} (hf:P.funcs[f]? = some fn) (hn:(fn.name== "runtime.NumGoroutine")=false) (hb:fn.body=some cd) (hm:P.follows .mixedOrders=true)
  (ha:Nat.ble args.length fn.ntmps=true) (fk:List Nat) (hfk:fk=(rd++rf).map Prod.fst)
  (hv:vc P fn.ntmps fk (fun _ _ _ _=>False) cd (argsE args) (hpL (rd++rf)) fk (retS P fn fk res (rd++out))):CallS P f args rd rf res out:=by
 refine⟨⟨fn,hf,hn,by rw[hb];rfl⟩,fun c vs hc hdf hfr hs hargs=>?_⟩
 have hst:=st_begin hs hargs (Nat.le_of_ble_eq_true ha) hdf
 have hfr':∀k,k∉fk→c.σ0 k=none:=fun k hk=>hfr k (by rw[← hfk];exact hk)
 have hfk':∀k,c.σ0 k≠none→k∈fk:=fun k hk=>Classical.byContradiction fun h=>hk (hfr' k h)
 refine calls_of_wp hf hb (wp_mono (vc_out hfk' hc hm cd _ _ _ _ _ _ _ hv hst hfr') ?_)
 intro x a' w' hq
 have fin:∀e' h' σ',St c fn.ntmps σ' e' h' a' w'→resP P h' e' fn.results.toList (fun vs=>tupOf vs fun v=>RetS fk h' res (rd++out) v)→
   a'.defers=[]∧∃v,(results fn a'.tmps).run P w'=.ok v w'∧∃v' σ1,Ending.returned v=.returned v'∧SW c σ1 (hpL (rd++out)) w'∧PRep σ1 (fz c σ1 (hpL (rd++out)) w') w' res v':=by
  intro e' h' σ' hs' hr
  obtain⟨ps,us,h1,h2,h3⟩:=results_run hs' hr
  obtain⟨v,h5,h6⟩:=tup_out h1 h3
  obtain⟨g,n,q1,q2,q3,q4⟩:=h5
  obtain⟨hk,hsw⟩:=sw_wk hfk' hs'.toSW q1 q2 q4
  exact⟨hs'.defers.trans hdf,_,h2,_,_,rfl,hsw,prep_wk hk _ _ _ q3 h6⟩
 cases x with
 | normal=>obtain⟨e',h',n',σ',hq,hs',_⟩:=hq;exact fin _ _ _ hs' hq
 | ret=>obtain⟨e',h',n',σ',hq,hs',_⟩:=hq;exact fin _ _ _ hs' hq
 | exit id=>obtain⟨e',h',n',σ',hq,hs',_⟩:=hq;exact hq
 | goto l=>obtain⟨e',h',n',σ',hq,hs',_⟩:=hq;exact hq
 | panic ch=>obtain⟨v,_,e',h',n',σ',hq,_⟩:=hq;exact hq.elim
 | outgrown=>obtain⟨e',h',n',σ',hq,hs',_⟩:=hq;exact hq.elim
theorem kin_of {k:Nat}:∀{n:List Nat},k∈n→kin k n=true
 | x::xs,h=>by
  unfold kin
  cases hq:Nat.beq k x with
  | true=>rfl
  | false=>
   rw[cond_false]
   rcases List.mem_cons.1 h with rfl | h
   ·have:=Nat.beq_refl k;rw[show Nat.beq k k=false from hq] at this;cases this
   ·exact kin_of h
theorem fnL_id {k:Nat}:∀{n:List Nat},k∈n→fnL (n.map fun k=>(k,k)) k=some k
 | x::xs,h=>by
  show (bif Nat.beq k x then some x else _)=_
  cases hq:Nat.beq k x with
  | true=>rw[cond_true,Nat.eq_of_beq_eq_true hq]
  | false=>
   rw[cond_false]
   rcases List.mem_cons.1 h with rfl | h
   ·have:=Nat.beq_refl k;rw[show Nat.beq k k=false from hq] at this;cases this
   ·exact fnL_id h
theorem fkOk_id (fk:List Nat):fkOk (fnL (fk.map fun k=>(k,k))) fk fk=true:=by
 have main:∀l:List Nat,(∀k∈l,k∈fk)→fkOk (fnL (fk.map fun k=>(k,k))) fk l=true:=by
  intro l
  induction l with
  | nil=>intro _;rfl
  | cons k l ih=>
   intro hl
   unfold fkOk
   rw[fnL_id (hl k (List.mem_cons_self ..)),kin_of (hl k (List.mem_cons_self ..)),ih fun q hq=>hl q (List.mem_cons_of_mem _ hq)]
   simp
 exact main fk fun _ h=>h
end Go.Proofs.YtegpnpdnanfhbaaGreatDoor.Pm
end
section
namespace Go.Proofs.YtegpnpdnanfhbaaGreatDoor.Pm
open Go.RowKit
theorem BCase.t {b:Bool} {A B:Prop} (hb:b=true) (h:A):BCase b A B:=⟨fun _=>h,fun e=>by rw[hb] at e;cases e⟩
theorem BCase.f {b:Bool} {A B:Prop} (hb:b=false) (h:B):BCase b A B:=⟨(fun e=>by rw[hb] at e;cases e),fun _=>h⟩
theorem BCase.dt {p:Prop} [Decidable p] {A B:Prop} (hp:p) (h:A):BCase (decide p) A B:=BCase.t (decide_eq_true hp) h
theorem BCase.df {p:Prop} [Decidable p] {A B:Prop} (hp:¬p) (h:B):BCase (decide p) A B:=BCase.f (decide_eq_false hp) h
theorem BCase.d {p:Prop} [Decidable p] {A B:Prop} (h1:p→A) (h2:¬p→B):BCase (decide p) A B:=⟨fun e=>h1 (of_decide_eq_true e),fun e=>h2 (of_decide_eq_false e)⟩
theorem BCase.tt {A B:Prop} (h:A):BCase true A B:=BCase.t rfl h
theorem BCase.ff {A B:Prop} (h:B):BCase false A B:=BCase.f rfl h
theorem Wr.i64 {x:Int} {K:Int→Prop} (h1:-9223372036854775808≤x) (h2:x≤9223372036854775807) (h:K x):Wr .i64 x K:=⟨x,IntWalk.i64_in x ⟨h1,h2⟩,h⟩
theorem Idx.map {α:Type} {f:α→List C} {l:List α} {n:Nat} {K:List C→Prop} (hn:n<l.length) (h:K (f l[n])):Idx (l.map f) (n:Int) K:=
 ⟨f l[n],by omega,by simp[hn],h⟩
theorem Idx.mapI {α:Type} {f:α→List C} {l:List α} {n:Int} {K:List C→Prop} (k:Nat) (hk:n=(k:Int)) (hn:k<l.length) (h:K (f l[k])):Idx (l.map f) n K:=by
 subst hk;exact Idx.map hn h
theorem PLe.int {f:Nat→Option Nat} {n:List Nat} {k:IntKind} {a b:Int} (h:b=a):PLe f n (pInt k a) (pInt k b):=by rw[h];exact .inl rfl
theorem PLe.c {f:Nat→Option Nat} {n:List Nat} {x y:C} (h:y=x):PLe f n (.d (.c x)) (.d (.c y)):=.inl h
end Go.Proofs.YtegpnpdnanfhbaaGreatDoor.Pm
namespace Go.Proofs.YtegpnpdnanfhbaaGreatDoor.Pm
open Go.RowKit
abbrev FK:Nat:=1000000
abbrev FK1:Nat:=1000001
abbrev NK:Nat:=2000000
abbrev FK2:Nat:=1000002
abbrev FK3:Nat:=1000003
abbrev NK1:Nat:=2000001
abbrev NK2:Nat:=2000002
def pv (x:Value):PV:=.d (.c (.v x))
theorem psRep_vals {σ:Sg} {F:Fzn} {w:World}:∀{vs us:List Value},PsRep σ F w (vs.map pv) us→us=vs
 | [],[],_=>rfl
 | [],_::_,h=>by unfold List.map PsRep at h;exact h.elim
 | _::_,[],h=>by unfold List.map PsRep at h;exact h.elim
 | v::vs,u::us,h=>by
  rw[List.map_cons] at h
  unfold PsRep at h
  rw[psRep_vals h.2]
  have:=rep_v h.1
  rw[this]
theorem pure_hand {P:Program} {f:FuncId} {vs:List Value} {res:PV} (hf:fnOk P f)
  (h:∀w:World,GL w→Calls P f vs.toArray w fun e w'=>∃v,e=.returned v∧Below w.heap.size w w'∧∀F:Fzn,(∀b o,w.heap.size≤b→b<w'.heap.size→F b o)→PRep (fun _=>none) F w' res v) :
  Pure P f (vs.map pv) res:=by
 refine⟨hf,fun F w us hG hF hus=>?_⟩
 rw[psRep_vals hus]
 intro cs
 obtain⟨e,w0,fr,⟨v,h1,h2,h3⟩,h4⟩:=h w hG cs
 exact⟨e,w0,fr,⟨v,h1,h2,h3 _ fun b o h5 h6=>.inr ⟨h5,h6⟩⟩,h4⟩
end Go.Proofs.YtegpnpdnanfhbaaGreatDoor.Pm
end
namespace Go.Proofs.YtegpnpdnanfhbaaGreatDoor.Pm
section
open Go.ChangeShapes Go.WideShapes Go.RowKit Go.Lib
def litCells:Nat→DataW Unit→List Value
 | _+1,.lit l=>[l.value]
 | n+1,.agg l=>l.flatMap (litCells n)
 | _,_=>[]
noncomputable def laidWorld (os:Os):World:=
 let w0:=World.holding Tryz.prog os ⟨#[],#[],[]⟩
 let put (h:Array Obj) (g:Nat) (cs:Array Value):Array Obj:=h.modify g fun
  | .cells _ t frozen=>.cells cs t frozen
  | o=>o
 let h1:=put w0.heap 2 (litCells 4 Rows.laid_unicode_utf8_acceptRanges).toArray
 let h2:=put h1 1 (litCells 4 Rows.laid_unicode_utf8_first).toArray
 { w0 with heap:=h2 }
abbrev laidList:List (String×DataW Unit):=[("unicode/utf8.acceptRanges",Rows.laid_unicode_utf8_acceptRanges),("unicode/utf8.first",Rows.laid_unicode_utf8_first)]
theorem laid_met (os:Os) (args:Array Value):laidMet Tryz.prog laidList ((laidWorld os).forCall (fun _ _=>0) ⟨#[],args,[]⟩).memory:=
 (LaidIn.of_run [2,1] 8 (by kernel_rfl) (by kernel_rfl) (by kernel_rfl) (by kernel_rfl)).met
theorem tab_utf8 {W:World} (hL:laidMet Tryz.prog laidList W):Lib.Utf8Tabs 1 2 W:=by
 have h1:=Lib.laidMet.reads hL (.tail _ (.head _))
 have h2:=Lib.laidMet.reads hL (.head _)
 rw[show (Rows.laid_unicode_utf8_first:DataW Unit)=firstData by kernel_rfl] at h1
 rw[show (Rows.laid_unicode_utf8_acceptRanges:DataW Unit)=acceptData by kernel_rfl] at h2
 exact utf8Tabs_of_reads Tryz.lays260 ⟨by kernel_rfl,by kernel_rfl,by kernel_rfl,by kernel_rfl,by kernel_rfl,by kernel_rfl,by kernel_rfl⟩ h1 h2
theorem tabs_of_laid {W:World} (hL:laidMet Tryz.prog laidList W):GL W:=tab_utf8 hL
end
section
open Go.RowKit K
theorem hpL_in {l:Rf} {k:Nat} {b:HB} (hm:(k,b)∈l) (hu:∀b',(k,b')∈l→b'=b):hpL l k=some b:=by
 induction l with
 | nil=>cases hm
 | cons p l ih=>
  obtain⟨q,c⟩:=p
  unfold hpL
  by_cases h:k=q
  ·subst h
   rw[show Nat.beq k k=true from Nat.beq_refl k]
   exact congrArg some (hu c List.mem_cons_self)
  ·have:Nat.beq k q=false:=by rw[Bool.eq_false_iff];intro e;exact h (Nat.eq_of_beq_eq_true e)
   rw[this]
   rcases List.mem_cons.1 hm with e | hm
   ·cases e;exact absurd rfl h
   ·exact ih hm fun b' hb=>hu b' (List.mem_cons_of_mem _ hb)
theorem hpL_out {l:Rf} {k:Nat} (h:∀b,(k,b)∉l):hpL l k=none:=by
 induction l with
 | nil=>rfl
 | cons p l ih=>
  obtain⟨q,c⟩:=p
  unfold hpL
  have:Nat.beq k q=false:=by
   rw[Bool.eq_false_iff];intro e
   have e:=Nat.eq_of_beq_eq_true e
   subst e
   exact h c List.mem_cons_self
  rw[this]
  exact ih fun b hb=>h b (List.mem_cons_of_mem _ hb)
theorem hpL_right {a b:Rf} {k:Nat} (h:hpL a k=none):hpL (a++b) k=hpL b k:=by
 induction a with
 | nil=>rfl
 | cons p l ih=>
  obtain⟨q,c⟩:=p
  rw[List.cons_append]
  unfold hpL at h
  cases hb:Nat.beq k q with
  | true=>rw[hb] at h;cases h
  | false=>
   rw[hb] at h
   conv=>lhs;unfold hpL
   rw[hb]
   exact ih h
theorem hles_of {f:Nat→Option Nat} {n:List Nat} {h:Hp}:∀{lh:Rf},(∀p∈lh,kin p.1 n=true∧KLe f n h p.1 p.2)→HLes f n h lh
 | [],_=>by unfold HLes;trivial
 | (k,b)::l,hp=>by
  unfold HLes
  exact⟨hp (k,b) List.mem_cons_self,hles_of fun p hm=>hp p (List.mem_cons_of_mem _ hm)⟩
theorem injOn_of {f:Nat→Option Nat}:∀{lh:Rf},(∀p∈lh,∀q∈lh,q.1≠p.1→∀a,f p.1=some a→f q.1≠some a)→injOn f lh=true
 | [],_=>rfl
 | (k,b)::l,hp=>by
  unfold injOn
  rw[Bool.and_eq_true]
  refine⟨?_,injOn_of fun p h1 q h2=>hp p (List.mem_cons_of_mem _ h1) q (List.mem_cons_of_mem _ h2)⟩
  rw[List.all_eq_true]
  intro q hq
  by_cases e:q.1=k
  ·rw[e,show Nat.beq k k=true from Nat.beq_refl k];rfl
  ·have h1:=hp (k,b) List.mem_cons_self q (List.mem_cons_of_mem _ hq) e
   rw[Bool.or_eq_true]
   right
   cases hk:f k with
   | none=>rfl
   | some a=>
    cases hq2:f q.1 with
    | none=>rfl
    | some c=>
     have:a≠c:=fun e=>h1 a hk (by rw[hq2,e])
     simp only[Bool.not_eq_true']
     rw[Bool.eq_false_iff]
     intro e
     exact this (Nat.eq_of_beq_eq_true e)
theorem kin_iff {k:Nat}:∀{n:List Nat},kin k n=true↔k∈n
 | []=>by simp[kin]
 | x::xs=>by
  unfold kin
  by_cases h:k=x
  ·subst h;rw[show Nat.beq k k=true from Nat.beq_refl k];simp
  ·have:Nat.beq k x=false:=by rw[Bool.eq_false_iff];intro e;exact h (Nat.eq_of_beq_eq_true e)
   rw[this]
   show kin k xs=true↔_
   rw[kin_iff,List.mem_cons]
   exact⟨.inr,fun q=>q.elim (fun e=>absurd e h) id⟩
theorem fnL_in {l:List (Nat×Nat)} {k b:Nat} (hm:(k,b)∈l) (hu:∀b',(k,b')∈l→b'=b):fnL l k=some b:=by
 induction l with
 | nil=>cases hm
 | cons p l ih=>
  obtain⟨q,c⟩:=p
  unfold fnL
  by_cases h:k=q
  ·subst h
   rw[show Nat.beq k k=true from Nat.beq_refl k]
   exact congrArg some (hu c List.mem_cons_self)
  ·have:Nat.beq k q=false:=by rw[Bool.eq_false_iff];intro e;exact h (Nat.eq_of_beq_eq_true e)
   rw[this]
   rcases List.mem_cons.1 hm with e | hm
   ·cases e;exact absurd rfl h
   ·exact ih hm fun b' hb=>hu b' (List.mem_cons_of_mem _ hb)
theorem fnL_left {a b:List (Nat×Nat)} {k x:Nat} (h:fnL a k=some x):fnL (a++b) k=some x:=by
 induction a with
 | nil=>cases h
 | cons p l ih=>
  obtain⟨q,c⟩:=p
  rw[List.cons_append]
  unfold fnL at h ⊢
  cases hb:Nat.beq k q with
  | true=>rw[hb] at h;exact h
  | false=>rw[hb] at h;exact ih h
theorem fnL_right {a b:List (Nat×Nat)} {k:Nat} (h:fnL a k=none):fnL (a++b) k=fnL b k:=by
 induction a with
 | nil=>rfl
 | cons p l ih=>
  obtain⟨q,c⟩:=p
  rw[List.cons_append]
  unfold fnL at h
  cases hb:Nat.beq k q with
  | true=>rw[hb] at h;cases h
  | false=>
   rw[hb] at h
   conv=>lhs;unfold fnL
   rw[hb]
   exact ih h
end
section
open Go.RowKit
def tx (l:List UInt8):ByteArray:=⟨l.toArray⟩
theorem list_tx (l:List UInt8):(tx l).data.toList=l:=rfl
theorem tx_list (s:ByteArray):tx s.data.toList=s:=by cases s;simp[tx]
theorem tx_inj {a b:List UInt8} (h:tx a=tx b):a=b:=by rw[← list_tx a,h,list_tx]
theorem tx_eq {a b:List UInt8}:tx a=tx b↔a=b:=⟨tx_inj,fun h=>by rw[h]⟩
theorem tx_size (l:List UInt8):(tx l).size=l.length:=rfl
def by1 (n:Int):UInt8:=UInt8.ofNat (n%256).toNat
theorem by1_int (n:Int):((by1 n).toNat:Int)=n%256:=by
 have h1:0≤n%256:=by omega
 have h2:n%256<256:=by omega
 unfold by1
 rw[UInt8.toNat_ofNat']
 omega
theorem u8_lt (b:UInt8):(b.toNat:Int)<256∧0≤(b.toNat:Int):=by have:=UInt8.toNat_lt b;omega
theorem u8_eq {a b:UInt8}:((a.toNat:Int)=(b.toNat:Int))↔a=b:=⟨fun h=>UInt8.toNat_inj.1 (by omega),fun h=>by rw[h]⟩
theorem bRows_length (l:List UInt8):(byteRows l).length=l.length:=List.length_map _
theorem Wr.u8 {x:Int} {K:Int→Prop} (h:K ((by1 x).toNat:Int)):Wr .u8 x K:=⟨_,by rw[by1_int];exact IntKind.wrap_u8' x,h⟩
theorem Wr.u32 {x:Int} {K:Int→Prop} (h1:0≤x) (h2:x≤4294967295) (h:K x):Wr .u32 x K:=⟨x,IntWalk.u32_in x ⟨h1,h2⟩,h⟩
theorem Wr.u64 {x:Int} {K:Int→Prop} (h1:0≤x) (h2:x≤18446744073709551615) (h:K x):Wr .u64 x K:=⟨x,IntWalk.u64_in x ⟨h1,h2⟩,h⟩
theorem lens:(∀{α β:Type} {f:α→β} {l:List α},(l.map f).length=l.length)∧(∀{α:Type} {a b:List α},(a++b).length=a.length+b.length)∧(∀{α:Type} {l:List α} {i:Nat} {x:α},(l.set i x).length=l.length)∧
  (∀{α:Type} {l:List α} {i:Nat},(l.take i).length=min i l.length)∧(∀{α:Type} {l:List α} {i:Nat},(l.drop i).length=l.length - i)∧(∀{α:Type} {n:Nat} {x:α},(List.replicate n x).length=n)∧
  (∀{α:Type} {x:α} {l:List α},(x::l).length=l.length+1)∧(∀{α:Type},([]:List α).length=0)∧(∀{l:List UInt8},(tx l).size=l.length)∧(∀{l:List UInt8},(⟨l.toArray⟩:ByteArray).size=l.length)∧
  (∀{a b:ByteArray},(a++b).size=a.size+b.size):=
 ⟨List.length_map _,List.length_append,List.length_set,List.length_take,List.length_drop,List.length_replicate,List.length_cons,List.length_nil,rfl,rfl,ByteArray.size_append⟩
theorem Wr.ci {x:Int} {K:Int→Prop} (h:-9223372036854775808≤x∧x≤9223372036854775807) (k:K x):Wr .i64 x K:=Wr.i64 h.1 h.2 k
theorem Wr.c3 {x:Int} {K:Int→Prop} (h:0≤x∧x≤4294967295) (k:K x):Wr .u32 x K:=Wr.u32 h.1 h.2 k
theorem Wr.c6 {x:Int} {K:Int→Prop} (h:0≤x∧x≤18446744073709551615) (k:K x):Wr .u64 x K:=Wr.u64 h.1 h.2 k
theorem SIdx.tx {l:List UInt8} {n:Int} {K:Int→Prop} (k:Nat) (hk:n=k) (h:k<l.length) (hK:K ((l.getD k 0).toNat:Int)):SIdx (tx l) n K:=by
 subst hk
 have h1:l[k]? = some l[k]:=List.getElem?_eq_getElem h
 have h2:l.getD k 0=l[k]:=by rw[List.getD_eq_getElem?_getD,h1];rfl
 exact⟨l.getD k 0,by omega,by show l[(k:Int).toNat]? = _;rw[Int.toNat_natCast,h1,h2],hK⟩
theorem Row.bytes {l:List UInt8} {k:Nat} {K:List C→Prop} (h:k<l.length) (hK:K [C.v (.int .u8 ((l.getD k 0).toNat:Int))]):Row (byteRows l) k K:=by
 have h1:l[k]? = some l[k]:=List.getElem?_eq_getElem h
 have h2:l.getD k 0=l[k]:=by rw[List.getD_eq_getElem?_getD,h1];rfl
 exact⟨_,by unfold byteRows;rw[List.getElem?_map,h1,← h2];rfl,hK⟩
theorem Idx.bytes {l:List UInt8} {n:Int} {K:List C→Prop} (k:Nat) (hk:n=k) (h:k<l.length) (hK:K [C.v (.int .u8 ((l.getD k 0).toNat:Int))]):Idx (byteRows l) n K:=by
 subst hk
 have h1:l[k]? = some l[k]:=List.getElem?_eq_getElem h
 have h2:l.getD k 0=l[k]:=by rw[List.getD_eq_getElem?_getD,h1];rfl
 exact⟨_,by omega,by rw[Int.toNat_natCast];unfold byteRows;rw[List.getElem?_map,h1,← h2];rfl,hK⟩
theorem Bytes.mk' {l:List UInt8} {K:List UInt8→Prop} (h:K l):Bytes (byteRows l) K:=⟨l,rfl,h⟩
theorem BCase.not {b:Bool} {A B:Prop} (h:BCase b B A):BCase (!b) A B:=by
 obtain⟨h1,h2⟩:=h
 exact⟨fun e=>h2 (by simpa using e),fun e=>h1 (by simpa using e)⟩
theorem BCase.and {a b:Bool} {A B:Prop} (h:BCase a (BCase b A B) B):BCase (a&&b) A B:=by
 obtain⟨h1,h2⟩:=h
 cases a
 ·exact⟨(fun e=>by cases e),fun _=>h2 rfl⟩
 ·exact h1 rfl
theorem BCase.or {a b:Bool} {A B:Prop} (h:BCase a A (BCase b A B)):BCase (a||b) A B:=by
 obtain⟨h1,h2⟩:=h
 cases a
 ·exact h2 rfl
 ·exact⟨fun _=>h1 rfl,(fun e=>by cases e)⟩
theorem PLe.bool {f:Nat→Option Nat} {n:List Nat} {a b:Bool} (h:b=a):PLe f n (pBool a) (pBool b):=by rw[h];exact .inl rfl
theorem Ret.int {k:IntKind} {a b:Int} (h:a=b):Ret (pInt k a) (pInt k b):=Ret.mk (by rw[h])
theorem Ret.bool {a b:Bool} (h:a=b):Ret (pBool a) (pBool b):=Ret.mk (by rw[h])
theorem Ret.eq {v r:PV} (h:v=r):Ret v r:=Ret.mk h
theorem a_ {A B:Prop} (h:A):BCase true A B:=BCase.tt h
theorem b_ {A B:Prop} (h:B):BCase false A B:=BCase.ff h
theorem c_ {x:Int} {K:Int→Prop} (h:K ((by1 x).toNat:Int)):Wr .u8 x K:=Wr.u8 h
theorem d_ {x:Int} {K:Int→Prop} (h:-9223372036854775808≤x∧x≤9223372036854775807) (k:K x):Wr .i64 x K:=Wr.ci h k
theorem e_ {x:Int} {K:Int→Prop} (h:0≤x∧x≤4294967295) (k:K x):Wr .u32 x K:=Wr.c3 h k
theorem f_ {x:Int} {K:Int→Prop} (h:0≤x∧x≤18446744073709551615) (k:K x):Wr .u64 x K:=Wr.c6 h k
theorem g_ {p:Prop} [Decidable p] {A B:Prop} (hp:p) (h:A):BCase (decide p) A B:=BCase.dt hp h
theorem h_ {p K:Prop} (hp:p) (h:K):Need p K:=Need.mk hp h
theorem i_ {p:Prop} [Decidable p] {A B:Prop} (hp:¬p) (h:B):BCase (decide p) A B:=BCase.df hp h
theorem l_ {k:Nat} {A B:Prop} (h:A):EmpOr k A B:=EmpOr.app h
theorem m_ {b:Bool} {A B:Prop} (h:BCase b B A):BCase (!b) A B:=BCase.not h
theorem n_ {a b:Bool} {A B:Prop} (h:BCase a (BCase b A B) B):BCase (a&&b) A B:=BCase.and h
theorem o_ {a b:Bool} {A B:Prop} (h:BCase a A (BCase b A B)):BCase (a||b) A B:=BCase.or h
theorem p_ {p:Prop} [Decidable p] {A B:Prop} (h1:p→A) (h2:¬p→B):BCase (decide p) A B:=BCase.d h1 h2
theorem r_ {P:Program} {f:FuncId} {args ys:List PV} {h:Hp} {K:OpK} {X:Value→Hp→Prop} {r:PV} (hc:Pure P f ys r) (hy:closesTo args ys) (hk:K r [] []):CallP P f args h K X:=CallP.pure ys hy r hc hk
theorem s_ {b:Bool} {A B:Prop} (hb:b=true) (h:A):BCase b A B:=BCase.t hb h
theorem t_ {b:Bool} {A B:Prop} (hb:b=false) (h:B):BCase b A B:=BCase.f hb h
theorem q_:(∀{α β:Type} {f:α→β} {l:List α},(l.map f).length=l.length)∧(∀{α:Type} {a b:List α},(a++b).length=a.length+b.length)∧(∀{α:Type} {l:List α} {i:Nat} {x:α},(l.set i x).length=l.length)∧
  (∀{α:Type} {l:List α} {i:Nat},(l.take i).length=min i l.length)∧(∀{α:Type} {l:List α} {i:Nat},(l.drop i).length=l.length - i)∧(∀{α:Type} {n:Nat} {x:α},(List.replicate n x).length=n)∧
  (∀{α:Type} {x:α} {l:List α},(x::l).length=l.length+1)∧(∀{α:Type},([]:List α).length=0)∧(∀{l:List UInt8},(tx l).size=l.length)∧(∀{l:List UInt8},(⟨l.toArray⟩:ByteArray).size=l.length)∧
  (∀{a b:ByteArray},(a++b).size=a.size+b.size)∧(∀{p:Prop},(True∧p)=p)∧(∀{p:Prop},(p∧True)=p):=by
 obtain⟨h1,h2,h3,h4,h5,h6,h7,h8,h9,h10,h11⟩:=lens
 exact⟨h1,h2,h3,h4,h5,h6,h7,h8,h9,h10,h11,true_and _,and_true _⟩
end
section
open Go.RowKit K
abbrev FW (w:World):Fzn:=fun b _=>b<w.heap.size
def OpensC (P:Program) (t:TypeId) (sz:Nat) {α:Type} (enc:α→List C) (ok:α→Prop):Prop:=
 Opens P t sz (fun w cs a=>CsRep (FW w) w (enc a) cs) ok
def eInt (x:Int):List C:=[.v (.int .i64 x)]
def eText (l:List UInt8):List C:=[.v (.string (tx l))]
def eSl {α:Type} (sz:Nat) (enc:α→List C) (l:List α):List C:=[.sl sz (l.map enc)]
def okInt (x:Int):Prop:=-9223372036854775808≤x∧x≤9223372036854775807
def okText (l:List UInt8):Prop:=l.length≤140737488351232
def okAny {α:Type} (_:α):Prop:=True
def okSl {α:Type} (b:Nat) (ok:α→Prop) (l:List α):Prop:=l.length*b≤140737488351232∧∀x∈l,ok x
section
variable {P:Program}
theorem openC_int {t:TypeId} (hu:P.underlying t=some (.int .i64)) (hc:P.cellsOf t=1):OpensC P t 1 eInt okInt:=by
 obtain⟨h1,h2,h3⟩:=opens_i64 hu hc
 refine⟨h1,h2,fun h l=>?_⟩
 obtain⟨h4,a,rfl,h6⟩:=h3 h l
 exact⟨h4,a,csRep_cons (by unfold CRep;exact⟨rfl,rfl⟩) csRep_nil,h6⟩
theorem openC_text {t:TypeId} (hu:P.underlying t=some .string) (hc:P.cellsOf t=1):OpensC P t 1 eText okText:=by
 obtain⟨h1,h2,h3⟩:=opens_string hu hc
 refine⟨h1,h2,fun h l=>?_⟩
 obtain⟨h4,a,rfl,h6⟩:=h3 h l
 exact⟨h4,a.data.toList,csRep_cons (by unfold CRep;rw[tx_list];exact⟨rfl,rfl⟩) csRep_nil,h6⟩
theorem csRep_rows {α:Type} {F:Fzn} {w:World} {enc:α→List C}:∀{l:List α} {css:List (List Value)},css.length=l.length→(∀(i:Nat) c x,css[i]? = some c→l[i]? = some x→CsRep F w (enc x) c)→CsRep F w (l.map enc).flatten css.flatten
 | [],[],_,_=>csRep_nil
 | [],_::_,h,_=>by simp at h
 | _::_,[],h,_=>by simp at h
 | x::l,c::css,h,k=>by
  rw[List.map_cons,List.flatten_cons,List.flatten_cons]
  exact (k 0 c x rfl rfl).append (csRep_rows (by simpa using h) fun i d y hd hy=>k (i+1) d y (by simpa using hd) (by simpa using hy))
theorem openC_slice {t e:TypeId} {sz:Nat} {α:Type} {enc:α→List C} {ok:α→Prop} (hu:P.underlying t=some (.slice e)) (hc:P.cellsOf t=1) (hl:∀x,(enc x).length=sz) (he:OpensC P e sz enc ok) :
  OpensC P t 1 (eSl sz enc) (okSl (P.bytesOf e) ok):=by
 obtain⟨h1,h2,h3⟩:=opens_slice hu hc he
 refine⟨h1,h2,fun h l=>?_⟩
 obtain⟨h4,a,⟨v,rfl,css,hs,hcl,hcs⟩,h6⟩:=h3 h l
 refine⟨h4,a,csRep_cons ?_ csRep_nil,h6⟩
 obtain⟨g0,ad,cap,rfl,g1,g2,g3,g4⟩:=hs
 unfold CRep
 refine⟨ad,cap,by rw[List.length_map],by rw[List.length_map];exact g1,g2,g3,?_⟩
 rcases g4 with g4 | ⟨b,off,rfl,g5,g6⟩
 ·left
  rw[List.eq_nil_of_length_eq_zero g4];rfl
 ·right
  refine⟨b,off,rfl,?_⟩
  rw[rowsAt_iff]
  refine⟨fun r hr=>?_,csAt_of_values (csRep_rows hcl fun i c x hc hx=>(hcs i c x hc hx).2) (fun j u hu=>g6 j u hu) fun j hj=>g5⟩
  obtain⟨x,_,rfl⟩:=List.mem_map.1 hr
  exact hl x
theorem cs_field {F:Fzn} {w:World} {cs:List Value} {l m:List C} {off sz:Nat} (h1:CsRep F w l ((cs.drop off).take sz)) (h2:CsRep F w m (cs.drop (off+sz))):CsRep F w (l++m) (cs.drop off):=by
 have:=h1.append h2
 rwa [← List.drop_drop,List.take_append_drop] at this
theorem cs_end {F:Fzn} {w:World} {cs:List Value} {n:Nat} (h:cs.length=n):CsRep F w [] (cs.drop n):=by
 rw[List.drop_of_length_le (by omega)];exact csRep_nil
theorem prep_one {w:World} {c:C} {v:Value} (hv:v.cells.toList=[v]) (h:CsRep (FW w) w [c] v.cells.toList):PRep (fun _=>none) (FW w) w (.d (.c c)) v:=by
 rw[hv] at h
 obtain⟨u,us,e,h1,_⟩:=csRep_inv h
 cases e
 unfold PRep DRep
 exact h1
theorem psF_nil {w:World}:PsRep (fun _=>none) (FW w) w [] []:=by unfold PsRep;trivial
theorem psF_cons {w:World} {x:PV} {xs:List PV} {u:Value} {us:List Value} (h:PRep (fun _=>none) (FW w) w x u) (hs:PsRep (fun _=>none) (FW w) w xs us):PsRep (fun _=>none) (FW w) w (x::xs) (u::us):=by unfold PsRep;exact⟨h,hs⟩
theorem Pure.walkF {f:FuncId} {args:List PV} (h:Pure P f args (pBool true)) {w:World} (hG:GL w) (vs:List Value) (hargs:PsRep (fun _=>none) (FW w) w args vs) :
  Calls P f vs.toArray w fun e w'=>e=.returned (.bool true)∧Below w.heap.size w w':=by
 refine (h.2 (FW w) w vs hG (fun _ _ e=>e) hargs).mono ?_
 rintro e w' ⟨v,rfl,hb,hr⟩
 rw[rep_v hr]
 exact⟨rfl,hb⟩
end
end
section
open Go.RowKit K
set_option maxRecDepth 100000
def listEqB {α:Type} (eq:α→α→Bool):List α→List α→Bool
 | [],[]=>true
 | x::a,y::b=>eq x y&&listEqB eq a b
 | _,_=>false
theorem listEqB_iff {α:Type} {eq:α→α→Bool} (h:∀x y,eq x y=true↔x=y):∀a b:List α,listEqB eq a b=true↔a=b
 | [],[]=>by simp[listEqB]
 | [],_::_=>by simp[listEqB]
 | _::_,[]=>by simp[listEqB]
 | x::a,y::b=>by
  unfold listEqB
  rw[Bool.and_eq_true,h,listEqB_iff h a b,List.cons.injEq]
theorem listEqB_len {α:Type} {eq:α→α→Bool}:∀{a b:List α},a.length≠b.length→listEqB eq a b=false
 | [],[],h=>absurd rfl h
 | [],_::_,_=>rfl
 | _::_,[],_=>rfl
 | x::a,y::b,h=>by
  unfold listEqB
  rw[listEqB_len (a:=a) (b:=b) (by simpa using h),Bool.and_false]
theorem listEqB_step {α:Type} {eq:α→α→Bool}:∀{a b:List α} {k:Nat},listEqB eq (a.take k) (b.take k)=true→(h1:k<a.length)→(h2:k<b.length)→listEqB eq (a.take (k+1)) (b.take (k+1))=eq a[k] b[k]
 | x::a,y::b,0,_,_,_=>by simp[listEqB]
 | x::a,y::b,k+1,h,h1,h2=>by
  simp only[List.take_succ_cons,listEqB,Bool.and_eq_true] at h
  have:=listEqB_step (k:=k) h.2 (by simpa using h1) (by simpa using h2)
  simp only[List.take_succ_cons,List.getElem_cons_succ]
  unfold listEqB
  rw[h.1,Bool.true_and]
  simpa using this
theorem listEqB_stop {α:Type} {eq:α→α→Bool}:∀{a b:List α} {k:Nat} (h1:k<a.length) (h2:k<b.length),eq a[k] b[k]=false→listEqB eq a b=false
 | x::a,y::b,0,_,_,h=>by
  simp only[List.getElem_cons_zero] at h
  unfold listEqB;rw[h,Bool.false_and]
 | x::a,y::b,k+1,h1,h2,h=>by
  simp only[List.getElem_cons_succ] at h
  unfold listEqB
  rw[listEqB_stop (k:=k) (by simpa using h1) (by simpa using h2) h,Bool.and_false]
theorem listEqB_all {α:Type} {eq:α→α→Bool} {a b:List α} {k:Nat} (h:listEqB eq (a.take k) (b.take k)=true) (h1:a.length≤k) (h2:b.length≤k):listEqB eq a b=true:=by
 rwa [List.take_of_length_le h1,List.take_of_length_le h2] at h
theorem tx_empty {l:List UInt8}:tx l=⟨#[]⟩↔l=[]:=by
 rw[show (⟨#[]⟩:ByteArray)=tx [] from rfl,tx_eq]
theorem tx_empty_len {l:List UInt8}:tx l=⟨#[]⟩↔l.length=0:=by rw[tx_empty,List.length_eq_zero_iff]
abbrev slV {α:Type} (sz:Nat) (enc:α→List C) (l:List α):PV:=.d (.c (.sl sz (l.map enc)))
theorem take_snoc {α:Type} {l:List α} {k:Nat} (h:k<l.length):l.take (k+1)=l.take k++[l[k]]:=List.take_succ_eq_append_getElem h
theorem CLe.int {k:IntKind} {a b:Int} (h:b=a):CLe (.v (.int k a)) (.v (.int k b)):=by rw[h];exact .inl rfl
theorem CLe.bool {a b:Bool} (h:b=a):CLe (.v (.bool a)) (.v (.bool b)):=by rw[h];exact .inl rfl
theorem PLe.sl {f:Nat→Option Nat} {n:List Nat} {sz:Nat} {a b:List (List C)} (h:b=a):PLe f n (.d (.c (.sl sz a))) (.d (.c (.sl sz b))):=by rw[h];exact .inl rfl
theorem Pure.le {P:Program} {f:FuncId} {args args':List PV} {res:PV} (h:Pure P f args res) (hl:PLeT (fun _=>none) [] args args'):Pure P f args' res:=by
 refine⟨h.1,fun F w vs hG hF hus=>h.2 F w vs hG hF ?_⟩
 have:=psrep_wk (σ:=fun _=>none) (f:=fun _=>none) (n:=[]) (F':=F) (w:=w) ⟨fun _ _ h=>h,fun _ _ _=>rfl⟩ _ _ _ hl hus
 have e1:newSg (fun _=>none) (fun _=>none) ([]:List Nat)=fun _=>none:=by funext k;unfold newSg;rw[if_neg (by simp[kin])]
 rwa [e1] at this
section
variable {σ σ':Sg} {F F':Fzn} {w w':World}
end
theorem Need.by {n b lim:Nat} {K:Prop} (B:Nat) (hb:b=B) (h:n*B≤lim) (k:K):Need (n*b≤lim) K:=by subst hb;exact⟨h,k⟩
theorem Idx.mapE {α:Type} {f:α→List C} {l:List α} {x:α} {n:Int} {K:List C→Prop} (k:Nat) (hk:n=(k:Int)) (hn:k<l.length) (hx:l[k]=x) (h:K (f x)):Idx (l.map f) n K:=by
 subst hx;exact Idx.mapI k hk hn h
end
section
open Go.RowKit K
set_option maxRecDepth 100000
structure ValueD where
 Kind:Int
 N:Int
 S:List UInt8
def ValueD.c (x:ValueD):List C:=[.v (.int .i64 x.Kind),.v (.int .i64 x.N),.v (.string (tx x.S))]
def ValueD.ok (x:ValueD):Prop:=okInt x.Kind∧okInt x.N∧okText x.S
theorem openC_Value:OpensC Tryz.prog 36 3 ValueD.c ValueD.ok:=by
 refine⟨by kernel_rfl,by decide,?_⟩
 intro H enc w spare held fuel cs x h hl
 have ht:Tryz.prog.underlying 36=some (.struct (Tryz.prog.fieldsOf 36)):=by kernel_rfl
 have hlen:=struct_len ht h
 rw[show Tryz.prog.cellsOf 36=3 by kernel_rfl] at hlen
 obtain⟨a0,e0,k0⟩:=field_of ht h hl 0 3 0 1 (by kernel_rfl) (openC_int Tryz.underlying3 (by kernel_rfl))
 obtain⟨a1,e1,k1⟩:=field_of ht h hl 1 2 1 1 (by kernel_rfl) (openC_int Tryz.underlying2 (by kernel_rfl))
 obtain⟨a2,e2,k2⟩:=field_of ht h hl 2 9 2 1 (by kernel_rfl) (openC_text Tryz.underlying9 (by kernel_rfl))
 have hall:CsRep (FW w) w (eInt a0++(eInt a1++(eText a2++[]))) (cs.drop 0):=(cs_field e0 (cs_field e1 (cs_field e2 (cs_end hlen))))
 rw[List.drop_zero] at hall
 exact⟨hlen,⟨a0,a1,a2⟩,hall,⟨k0,k1,k2⟩⟩
def ValueD.eqB (x y:ValueD):Bool:=(decide (x.Kind=y.Kind)&&(decide (x.N=y.N)&&(decide (tx x.S=tx y.S)&&true)))
theorem ValueD.eqB_iff (x y:ValueD):ValueD.eqB x y=true↔x=y:=by
 cases x;cases y
 simp[ValueD.eqB,tx_eq]
abbrev vV (x:ValueD):PV:=.agg (x.c.map D.c)
def vChk (x:ValueD):Int:=if x.Kind<0∨3<x.Kind then 7 else if (x.Kind≠1∧x.N≠0)∨(x.Kind<2∧x.S.length≠0) then 1 else if 16<x.S.length then 2 else 0
def vChkAll:List ValueD→Int
 | []=>0
 | x::l=>if vChk x=0 then vChkAll l else vChk x
theorem vChkAll_skip:∀(l:List ValueD) (k:Nat),(∀x∈l.take k,vChk x=0)→vChkAll l=vChkAll (l.drop k)
 | l,0,_=>by rw[List.drop_zero]
 | [],k+1,_=>rfl
 | x::l,k+1,h=>by
  show (if vChk x=0 then vChkAll l else vChk x)=_
  rw[if_pos (h x (by simp)),List.drop_succ_cons]
  exact vChkAll_skip l k fun y hy=>h y (by simp[hy])
theorem vChkAll_ok:∀{l:List ValueD},vChkAll l=0↔∀x∈l,vChk x=0
 | []=>by simp[vChkAll]
 | x::l=>by
  unfold vChkAll
  split
  ·rename_i h;rw[vChkAll_ok (l:=l)];simp[h]
  ·rename_i h;simp[h]
theorem vChkAll_at {l:List ValueD} {k:Nat} (hk:k<l.length) (h:∀x∈l.take k,vChk x=0) (hx:vChk l[k]≠0):vChkAll l=vChk l[k]:=by
 rw[vChkAll_skip l k h,List.drop_eq_getElem_cons hk]
 unfold vChkAll
 rw[if_neg hx]
theorem all_snoc {l:List ValueD} {k:Nat} (hk:k<l.length) (h:∀x∈l.take k,vChk x=0) (hx:vChk l[k]=0):∀x∈l.take (k+1),vChk x=0:=by
 rw[take_snoc hk]
 intro x hm
 rcases List.mem_append.1 hm with hm | hm
 ·exact h x hm
 ·rw[List.mem_singleton.1 hm];exact hx
theorem p_vcheck (x:ValueD):Pure Tryz.prog 60 [vV x] (pInt .i64 (vChk x)):=by
 have tz:=tx_size x.S
 refine pure_of Tryz.func60 (by rfl) rfl (by kernel_rfl) (by rfl) ?_
 unfold vChk
 by_cases h:x.S.length=0
 ·have h1:=tx_empty_len.2 h
  ((conv=>whnf);repeat' ((first|(with_reducible first|apply a_|apply b_|apply c_)|((with_reducible first|apply d_|apply e_|apply f_|apply g_);focus first|omega|(simp only[q_]<;>omega))|((with_reducible first|apply i_|apply h_);focus first|omega|(simp only[q_]<;>omega))|((with_reducible apply h_);focus first|decide|kernel_rfl)|refine s_ (by decide) ?_|refine t_ (by decide) ?_|(refine BCase.df (not_not_intro h1) ?_)|(refine BCase.dt h1 ?_)|with_reducible first|apply l_|apply m_|apply n_|apply o_|refine p_ (fun _=>?_) (fun _=>?_))<;>(conv=>whnf)))
  (all_goals (refine Ret.int ?_;((repeat' split)<;>first|rfl|omega)))
 ·have h1:¬tx x.S=⟨#[]⟩:=fun e=>h (tx_empty_len.1 e)
  ((conv=>whnf);repeat' ((first|(with_reducible first|apply a_|apply b_|apply c_)|((with_reducible first|apply d_|apply e_|apply f_|apply g_);focus first|omega|(simp only[q_]<;>omega))|((with_reducible first|apply i_|apply h_);focus first|omega|(simp only[q_]<;>omega))|((with_reducible apply h_);focus first|decide|kernel_rfl)|refine s_ (by decide) ?_|refine t_ (by decide) ?_|(refine BCase.dt h1 ?_)|(refine BCase.df h1 ?_)|with_reducible first|apply l_|apply m_|apply n_|apply o_|refine p_ (fun _=>?_) (fun _=>?_))<;>(conv=>whnf)))
  (all_goals (refine Ret.int ?_;((repeat' split)<;>first|rfl|omega)))
theorem p_vcheckref (x:ValueD):Pure Tryz.prog 84 [vV x] (pInt .i64 (vChk x)):=by
 have tz:=tx_size x.S
 refine pure_of Tryz.func84 (by rfl) rfl (by kernel_rfl) (by rfl) ?_
 unfold vChk
 ((conv=>whnf);repeat' ((first|(with_reducible first|apply a_|apply b_|apply c_)|((with_reducible first|apply d_|apply e_|apply f_|apply g_);focus first|omega|(simp only[q_]<;>omega))|((with_reducible first|apply i_|apply h_);focus first|omega|(simp only[q_]<;>omega))|((with_reducible apply h_);focus first|decide|kernel_rfl)|refine s_ (by decide) ?_|refine t_ (by decide) ?_|with_reducible first|apply l_|apply m_|apply n_|apply o_|refine p_ (fun _=>?_) (fun _=>?_))<;>(conv=>whnf)))
 (all_goals (refine Ret.int ?_;((repeat' split)<;>first|rfl|omega)))
theorem p_checkall (l:List ValueD) (hl:l.length≤140737488355328):Pure Tryz.prog 34 [slV 3 ValueD.c l] (pInt .i64 (vChkAll l)):=by
 refine pure_of Tryz.func34 (by rfl) rfl (by kernel_rfl) (by rfl) ?_
 (((conv=>whnf);repeat ((with_reducible first|refine BCase.tt ?_|refine BCase.ff ?_);(conv=>whnf)));repeat ((first|with_reducible refine Wr.u8 ?_|((with_reducible first|refine Wr.ci ?wxs ?_|refine Wr.c3 ?wxs ?_|refine Wr.c6 ?wxs ?_|refine BCase.dt ?wxs ?_);case wxs=>(first|omega|(simp only[lens,true_and,and_true];(try omega);done)))|((with_reducible refine BCase.df ?wxs ?_);case wxs=>(first|omega|(simp only[lens,true_and,and_true];(try omega);done)))|((with_reducible refine Need.mk ?wxs ?_);case wxs=>first|(first|omega|(simp only[lens,true_and,and_true];(try omega);done))|decide|kernel_rfl)|refine BCase.t (by decide) ?_|refine BCase.f (by decide) ?_|with_reducible (first|refine BCase.not ?_|refine BCase.and ?_|refine BCase.or ?_));((conv=>whnf);repeat ((with_reducible first|refine BCase.tt ?_|refine BCase.ff ?_);(conv=>whnf)))))
 refine LoopC.mk Nat (fun k=>[(6,slV 3 ValueD.c l),(7,pInt .i64 l.length),(8,pInt .i64 k)]) (fun _=>[]) [] (fun k=>k≤l.length∧∀x∈l.take k,vChk x=0) (fun k=>l.length - k) 0 ⟨Nat.zero_le _,by simp⟩ ?start ?round
 case start=>exact⟨[],rfl,rfl,⟨.inl rfl,PLe.int (by simp),.inl rfl,trivial⟩,trivial⟩
 case round=>
  rintro k ⟨hk,hz⟩
  by_cases h1:k<l.length
  ·by_cases hx:vChk l[k]=0
   ·((conv=>whnf);repeat' ((first|(with_reducible first|apply a_|apply b_|apply c_)|((with_reducible first|apply d_|apply e_|apply f_|apply g_);focus first|omega|(simp only[q_]<;>omega))|((with_reducible first|apply i_|apply h_);focus first|omega|(simp only[q_]<;>omega))|((with_reducible apply h_);focus first|decide|kernel_rfl)|refine s_ (by decide) ?_|refine t_ (by decide) ?_|(refine Idx.mapI k rfl h1 ?_)|refine r_ (p_vcheck l[k]) rfl ?_|with_reducible first|apply l_|apply m_|apply n_|apply o_|refine p_ (fun _=>?_) (fun _=>?_))<;>(conv=>whnf)))
    exact⟨k+1,⟨by omega,all_snoc h1 hz hx⟩,by omega,[],rfl,rfl,⟨.inl rfl,.inl rfl,PLe.int (by omega),trivial⟩,trivial⟩
   ·((conv=>whnf);repeat' ((first|(with_reducible first|apply a_|apply b_|apply c_)|((with_reducible first|apply d_|apply e_|apply f_|apply g_);focus first|omega|(simp only[q_]<;>omega))|((with_reducible first|apply i_|apply h_);focus first|omega|(simp only[q_]<;>omega))|((with_reducible apply h_);focus first|decide|kernel_rfl)|refine s_ (by decide) ?_|refine t_ (by decide) ?_|(refine Idx.mapI k rfl h1 ?_)|refine r_ (p_vcheck l[k]) rfl ?_|with_reducible first|apply l_|apply m_|apply n_|apply o_|refine p_ (fun _=>?_) (fun _=>?_))<;>(conv=>whnf)))
    exact Ret.int (vChkAll_at h1 hz hx).symm
  ·((conv=>whnf);repeat' ((first|(with_reducible first|apply a_|apply b_|apply c_)|((with_reducible first|apply d_|apply e_|apply f_|apply g_);focus first|omega|(simp only[q_]<;>omega))|((with_reducible first|apply i_|apply h_);focus first|omega|(simp only[q_]<;>omega))|((with_reducible apply h_);focus first|decide|kernel_rfl)|refine s_ (by decide) ?_|refine t_ (by decide) ?_|with_reducible first|apply l_|apply m_|apply n_|apply o_|refine p_ (fun _=>?_) (fun _=>?_))<;>(conv=>whnf)))
   refine Ret.int ?_
   rw[vChkAll_ok.2 fun x hx=>hz x (by rw[List.take_of_length_le (by omega)];exact hx)]
theorem p_checkvalues (l:List ValueD) (hl:l.length≤140737488355328):Pure Tryz.prog 68 [slV 3 ValueD.c l] (pInt .i64 (vChkAll l)):=by
 refine pure_of Tryz.func68 (by rfl) rfl (by kernel_rfl) (by rfl) ?_
 (((conv=>whnf);repeat ((with_reducible first|refine BCase.tt ?_|refine BCase.ff ?_);(conv=>whnf)));repeat ((first|with_reducible refine Wr.u8 ?_|((with_reducible first|refine Wr.ci ?wxs ?_|refine Wr.c3 ?wxs ?_|refine Wr.c6 ?wxs ?_|refine BCase.dt ?wxs ?_);case wxs=>(first|omega|(simp only[lens,true_and,and_true];(try omega);done)))|((with_reducible refine BCase.df ?wxs ?_);case wxs=>(first|omega|(simp only[lens,true_and,and_true];(try omega);done)))|((with_reducible refine Need.mk ?wxs ?_);case wxs=>first|(first|omega|(simp only[lens,true_and,and_true];(try omega);done))|decide|kernel_rfl)|refine BCase.t (by decide) ?_|refine BCase.f (by decide) ?_|with_reducible (first|refine BCase.not ?_|refine BCase.and ?_|refine BCase.or ?_));((conv=>whnf);repeat ((with_reducible first|refine BCase.tt ?_|refine BCase.ff ?_);(conv=>whnf)))))
 refine LoopC.mk Nat (fun k=>[(0,slV 3 ValueD.c l),(3,pInt .i64 k)]) (fun _=>[]) [] (fun k=>k≤l.length∧∀x∈l.take k,vChk x=0) (fun k=>l.length - k) 0 ⟨Nat.zero_le _,by simp⟩ ?start ?round
 case start=>exact⟨[],rfl,rfl,⟨.inl rfl,.inl rfl,trivial⟩,trivial⟩
 case round=>
  rintro k ⟨hk,hz⟩
  by_cases h1:k<l.length
  ·by_cases hx:vChk l[k]=0
   ·((conv=>whnf);repeat' ((first|(with_reducible first|apply a_|apply b_|apply c_)|((with_reducible first|apply d_|apply e_|apply f_|apply g_);focus first|omega|(simp only[q_]<;>omega))|((with_reducible first|apply i_|apply h_);focus first|omega|(simp only[q_]<;>omega))|((with_reducible apply h_);focus first|decide|kernel_rfl)|refine s_ (by decide) ?_|refine t_ (by decide) ?_|(refine Idx.mapI k rfl h1 ?_)|refine r_ (p_vcheckref l[k]) rfl ?_|with_reducible first|apply l_|apply m_|apply n_|apply o_|refine p_ (fun _=>?_) (fun _=>?_))<;>(conv=>whnf)))
    exact⟨k+1,⟨by omega,all_snoc h1 hz hx⟩,by omega,[],rfl,rfl,⟨.inl rfl,PLe.int (by omega),trivial⟩,trivial⟩
   ·((conv=>whnf);repeat' ((first|(with_reducible first|apply a_|apply b_|apply c_)|((with_reducible first|apply d_|apply e_|apply f_|apply g_);focus first|omega|(simp only[q_]<;>omega))|((with_reducible first|apply i_|apply h_);focus first|omega|(simp only[q_]<;>omega))|((with_reducible apply h_);focus first|decide|kernel_rfl)|refine s_ (by decide) ?_|refine t_ (by decide) ?_|(refine Idx.mapI k rfl h1 ?_)|refine r_ (p_vcheckref l[k]) rfl ?_|with_reducible first|apply l_|apply m_|apply n_|apply o_|refine p_ (fun _=>?_) (fun _=>?_))<;>(conv=>whnf)))
    exact Ret.int (vChkAll_at h1 hz hx).symm
  ·((conv=>whnf);repeat' ((first|(with_reducible first|apply a_|apply b_|apply c_)|((with_reducible first|apply d_|apply e_|apply f_|apply g_);focus first|omega|(simp only[q_]<;>omega))|((with_reducible first|apply i_|apply h_);focus first|omega|(simp only[q_]<;>omega))|((with_reducible apply h_);focus first|decide|kernel_rfl)|refine s_ (by decide) ?_|refine t_ (by decide) ?_|with_reducible first|apply l_|apply m_|apply n_|apply o_|refine p_ (fun _=>?_) (fun _=>?_))<;>(conv=>whnf)))
   refine Ret.int ?_
   rw[vChkAll_ok.2 fun x hx=>hz x (by rw[List.take_of_length_le (by omega)];exact hx)]
theorem p_samerow (a b:List ValueD) (ha:a.length≤140737488355328):Pure Tryz.prog 11 [slV 3 ValueD.c a,slV 3 ValueD.c b] (pBool (listEqB ValueD.eqB a b)):=by
 refine pure_of Tryz.func11 (by rfl) rfl (by kernel_rfl) (by rfl) ?_
 by_cases hl:a.length=b.length
 ·(((conv=>whnf);repeat ((with_reducible first|refine BCase.tt ?_|refine BCase.ff ?_);(conv=>whnf)));repeat ((first|with_reducible refine Wr.u8 ?_|((with_reducible first|refine Wr.ci ?wxs ?_|refine Wr.c3 ?wxs ?_|refine Wr.c6 ?wxs ?_|refine BCase.dt ?wxs ?_);case wxs=>(first|omega|(simp only[lens,true_and,and_true];(try omega);done)))|((with_reducible refine BCase.df ?wxs ?_);case wxs=>(first|omega|(simp only[lens,true_and,and_true];(try omega);done)))|((with_reducible refine Need.mk ?wxs ?_);case wxs=>first|(first|omega|(simp only[lens,true_and,and_true];(try omega);done))|decide|kernel_rfl)|refine BCase.t (by decide) ?_|refine BCase.f (by decide) ?_|with_reducible (first|refine BCase.not ?_|refine BCase.and ?_|refine BCase.or ?_));((conv=>whnf);repeat ((with_reducible first|refine BCase.tt ?_|refine BCase.ff ?_);(conv=>whnf)))))
  refine LoopC.mk Nat (fun k=>[(0,slV 3 ValueD.c a),(1,slV 3 ValueD.c b),(5,pInt .i64 k)]) (fun _=>[]) [] (fun k=>k≤a.length∧listEqB ValueD.eqB (a.take k) (b.take k)=true) (fun k=>a.length - k) 0 ⟨Nat.zero_le _,by simp[listEqB]⟩ ?start ?round
  case start=>exact⟨[],rfl,rfl,⟨.inl rfl,.inl rfl,.inl rfl,trivial⟩,trivial⟩
  case round=>
   rintro k ⟨hk,hz⟩
   by_cases h1:k<a.length
   ·have h2:k<b.length:=by omega
    cases hx:ValueD.eqB a[k] b[k] with
    | true=>
     ((conv=>whnf);repeat' ((first|(with_reducible first|apply a_|apply b_|apply c_)|((with_reducible first|apply d_|apply e_|apply f_|apply g_);focus first|omega|(simp only[q_]<;>omega))|((with_reducible first|apply i_|apply h_);focus first|omega|(simp only[q_]<;>omega))|((with_reducible apply h_);focus first|decide|kernel_rfl)|refine s_ (by decide) ?_|refine t_ (by decide) ?_|(first|refine Idx.mapI (l:=a) k rfl h1 ?_|refine Idx.mapI (l:=b) k rfl h2 ?_)|(refine BCase.f (congrArg not hx) ?_)|with_reducible first|apply l_|apply m_|apply n_|apply o_|refine p_ (fun _=>?_) (fun _=>?_))<;>(conv=>whnf)))
     exact⟨k+1,⟨by omega,(listEqB_step hz h1 h2).trans hx⟩,by omega,[],rfl,rfl,⟨.inl rfl,.inl rfl,PLe.int (by omega),trivial⟩,trivial⟩
    | false=>
     ((conv=>whnf);repeat' ((first|(with_reducible first|apply a_|apply b_|apply c_)|((with_reducible first|apply d_|apply e_|apply f_|apply g_);focus first|omega|(simp only[q_]<;>omega))|((with_reducible first|apply i_|apply h_);focus first|omega|(simp only[q_]<;>omega))|((with_reducible apply h_);focus first|decide|kernel_rfl)|refine s_ (by decide) ?_|refine t_ (by decide) ?_|(first|refine Idx.mapI (l:=a) k rfl h1 ?_|refine Idx.mapI (l:=b) k rfl h2 ?_)|(refine BCase.t (congrArg not hx) ?_)|with_reducible first|apply l_|apply m_|apply n_|apply o_|refine p_ (fun _=>?_) (fun _=>?_))<;>(conv=>whnf)))
     exact Ret.bool (listEqB_stop h1 h2 hx).symm
   ·((conv=>whnf);repeat' ((first|(with_reducible first|apply a_|apply b_|apply c_)|((with_reducible first|apply d_|apply e_|apply f_|apply g_);focus first|omega|(simp only[q_]<;>omega))|((with_reducible first|apply i_|apply h_);focus first|omega|(simp only[q_]<;>omega))|((with_reducible apply h_);focus first|decide|kernel_rfl)|refine s_ (by decide) ?_|refine t_ (by decide) ?_|with_reducible first|apply l_|apply m_|apply n_|apply o_|refine p_ (fun _=>?_) (fun _=>?_))<;>(conv=>whnf)))
    exact Ret.bool (listEqB_all hz (by omega) (by omega)).symm
 ·((conv=>whnf);repeat' ((first|(with_reducible first|apply a_|apply b_|apply c_)|((with_reducible first|apply d_|apply e_|apply f_|apply g_);focus first|omega|(simp only[q_]<;>omega))|((with_reducible first|apply i_|apply h_);focus first|omega|(simp only[q_]<;>omega))|((with_reducible apply h_);focus first|decide|kernel_rfl)|refine s_ (by decide) ?_|refine t_ (by decide) ?_|with_reducible first|apply l_|apply m_|apply n_|apply o_|refine p_ (fun _=>?_) (fun _=>?_))<;>(conv=>whnf)))
  exact Ret.bool (listEqB_len hl).symm
end
section
open Go.RowKit
theorem pure_sl0 {P:Program} {f:FuncId} {sz:Nat} {post:List PV} {r:PV} (h1:Pure P f (.d (.c (.v (.slice none 0 0)))::post) r) (h2:∀a cap,Pure P f (.d (.c (.v (.slice (some a) 0 cap)))::post) r):Pure P f (.d (.c (.sl sz []))::post) r:=by
 refine⟨h1.1,fun F w vs hG hF hp=>?_⟩
 cases vs with
 | nil=>unfold PsRep at hp;exact hp.elim
 | cons u us=>
  unfold PsRep at hp
  obtain⟨q1,q2⟩:=hp
  unfold PRep DRep CRep at q1
  obtain⟨a,cap,rfl,_,_,g3,_⟩:=q1
  have mk:∀x,Pure P f (.d (.c (.v x))::post) r→x.oneCell'=true→.slice a ([]:List (List C)).length cap=x→Calls P f (.slice a ([]:List (List C)).length cap::us).toArray w fun e w'=>∃v,e=.returned v∧Below w.heap.size w w'∧PRep (fun _=>none) (fun b o=>F b o∨(w.heap.size≤b∧b<w'.heap.size)) w' r v:=by
   rintro x hx h1 rfl
   refine hx.2 F w _ hG hF ?_
   unfold PsRep
   exact⟨by unfold PRep DRep CRep;exact⟨rfl,h1⟩,q2⟩
  cases a with
  | none=>obtain rfl:=g3 rfl;exact mk _ h1 rfl rfl
  | some a=>exact mk _ (h2 a cap) rfl rfl
theorem Pure.empty1 {P:Program} {f:FuncId} {k e sz lo:Nat} {r:PV} {rd:Rf} (hp:Pure P f [.d (.c (.sl sz []))] r):CallS P f [.d (.arr k e sz lo 0)] rd [] r []:=by
 refine⟨hp.1,fun c vs hc hdf hfr hs hx=>?_⟩
 rw[List.append_nil] at hs hx ⊢
 have hx':PsRep (fun _=>none) (fz c c.σ0 (hpL rd) c.w0) c.w0 [.d (.c (.sl sz []))] vs:=by
  match vs,hx with
  | [u],hx=>
   unfold PsRep at hx ⊢
   refine⟨?_,by unfold PsRep;trivial⟩
   have h1:=hx.1
   unfold PRep DRep at h1
   have mk:∀(a:Option Addr) (cap:Nat),(a=none→cap=0)→cap≤maxLen→u=.slice a 0 cap→PRep (fun _=>none) (fz c c.σ0 (hpL rd) c.w0) c.w0 (.d (.c (.sl sz []))) u:=by
    rintro a cap h2 h3 rfl
    unfold PRep DRep CRep
    exact⟨a,cap,rfl,Nat.zero_le _,h3,h2,.inl rfl⟩
   obtain⟨_,⟨m,d1,_,b0,rfl⟩ | ⟨g,m,off,cap,cur,fr,d1,rfl,d3,d4,d5,d6,d7⟩⟩:=h1
   ·exact mk b0 0 (fun _=>rfl) (Nat.zero_le _) rfl
   ·exact mk _ cap (fun e=>by cases e) d4 rfl
  | [],hx=>unfold PsRep at hx;exact hx.elim
  | _::_::_,hx=>unfold PsRep PsRep at hx;exact hx.2.elim
 refine (hp.2 (fz c c.σ0 (hpL rd) c.w0) c.w0 vs (sw_gl hc hs) (fun b o h=>fz_lt hs h) hx').mono ?_
 rintro en w' ⟨v,rfl,hb,hr⟩
 have ev:=evo_below hs hb
 refine⟨v,c.σ0,rfl,sw_below hs hb,PRep.of_none ⟨fun b o' hf=>?_,fun _ _ _=>rfl⟩ _ _ hr⟩
 rcases hf with hf | ⟨f1,f2⟩
 ·exact ev.keeps.le _ _ hf
 ·refine .inr ⟨.inl (Nat.le_trans hs.size f1),f2,fun k n hb' hk' hσ=>?_⟩
  have:=(hb_block (hs.hp k hb' hk') hσ).1
  omega
end
section
open Go.RowKit K
set_option maxRecDepth 100000
theorem p_cloneV (l:List ValueD) (h:l.length*32≤140737488355328):Pure Tryz.prog 61 [slV 3 ValueD.c l] (slV 3 ValueD.c l):=by
 cases l with
 | nil=>
  refine pure_sl0 ?_ fun a cap=>?_
  ·refine pure_of Tryz.func61 (by rfl) rfl (by kernel_rfl) (by rfl) ?_
   ((conv=>whnf);repeat' ((first|(with_reducible first|apply a_|apply b_|apply c_)|((with_reducible first|apply d_|apply e_|apply f_|apply g_);focus first|omega|(simp only[q_]<;>omega))|((with_reducible first|apply i_|apply h_);focus first|omega|(simp only[q_]<;>omega))|((with_reducible apply h_);focus first|decide|kernel_rfl)|refine s_ (by decide) ?_|refine t_ (by decide) ?_|with_reducible first|apply l_|apply m_|apply n_|apply o_|refine p_ (fun _=>?_) (fun _=>?_))<;>(conv=>whnf)))
   exact Ret.le (.inr ⟨⟨3,rfl⟩,.inl rfl⟩)
  ·refine pure_of Tryz.func61 (by rfl) rfl (by kernel_rfl) (by rfl) ?_
   ((conv=>whnf);repeat' ((first|(with_reducible first|apply a_|apply b_|apply c_)|((with_reducible first|apply d_|apply e_|apply f_|apply g_);focus first|omega|(simp only[q_]<;>omega))|((with_reducible first|apply i_|apply h_);focus first|omega|(simp only[q_]<;>omega))|((with_reducible apply h_);focus first|decide|kernel_rfl)|refine s_ (by decide) ?_|refine t_ (by decide) ?_|with_reducible first|apply l_|apply m_|apply n_|apply o_|refine p_ (fun _=>?_) (fun _=>?_))<;>(conv=>whnf)))
   exact Ret.mk rfl
 | cons x l=>
  refine pure_of Tryz.func61 (by rfl) rfl (by kernel_rfl) (by rfl) ?_
  ((conv=>whnf);repeat' ((first|(with_reducible first|apply a_|apply b_|apply c_)|((with_reducible first|apply d_|apply e_|apply f_|apply g_);focus first|omega|(simp only[q_]<;>omega))|((with_reducible first|apply i_|apply h_);focus first|omega|(simp only[q_]<;>omega))|((with_reducible apply h_);focus first|decide|kernel_rfl)|refine s_ (by decide) ?_|refine t_ (by decide) ?_|(refine Need.mk (List.cons_ne_nil _ _) ?_)|(refine Need.by 32 rfl (by simp only[List.length_map,List.length_nil,Nat.zero_add];exact h) ?_)|with_reducible first|apply l_|apply m_|apply n_|apply o_|refine p_ (fun _=>?_) (fun _=>?_))<;>(conv=>whnf)))
  exact Ret.mk rfl
end
section
open Go.RowKit K
set_option maxRecDepth 100000
def upB (b:UInt8):Bool:=decide (65≤b.toNat∧b.toNat≤90)
def smB (b:UInt8):UInt8:=if upB b then b+32 else b
def letB (b:UInt8):Bool:=decide (97≤b.toNat∧b.toNat≤122∨65≤b.toNat∧b.toNat≤90∨b.toNat=95)
def digB (b:UInt8):Bool:=decide (48≤b.toNat∧b.toNat≤57)
def wB (b:UInt8):Bool:=(letB b||digB b)&&decide (smB b=b)
def wordB (l:List UInt8):Bool:=match l with
 | []=>false
 | b::_=>letB b&&l.all wB
theorem smB_up {b:UInt8} (h:upB b=true):(smB b).toNat=b.toNat+32:=by
 unfold smB;rw[if_pos h]
 have:=of_decide_eq_true h
 rw[UInt8.toNat_add];show (b.toNat+32)%256=_
 omega
theorem smB_no {b:UInt8} (h:upB b=false):smB b=b:=by unfold smB;rw[if_neg (by rw[h];decide)]
theorem p_small (b:UInt8):Pure Tryz.prog 110 [pInt .u8 (b.toNat:Int)] (pInt .u8 ((smB b).toNat:Int)):=by
 have hb:=u8_lt b
 refine pure_of Tryz.func110 (by rfl) rfl (by kernel_rfl) (by rfl) ?_
 cases h:upB b with
 | true=>
  have h1:=of_decide_eq_true h
  have h2:=smB_up h
  ((conv=>whnf);repeat' ((first|(with_reducible first|apply a_|apply b_|apply c_)|((with_reducible first|apply d_|apply e_|apply f_|apply g_);focus first|omega|(simp only[q_]<;>omega))|((with_reducible first|apply i_|apply h_);focus first|omega|(simp only[q_]<;>omega))|((with_reducible apply h_);focus first|decide|kernel_rfl)|refine s_ (by decide) ?_|refine t_ (by decide) ?_|with_reducible first|apply l_|apply m_|apply n_|apply o_|refine p_ (fun _=>?_) (fun _=>?_))<;>(conv=>whnf)))
  refine Ret.int ?_
  have e1:=by1_int ((b.toNat:Int)+97)
  rw[by1_int]
  omega
 | false=>
  have h1:=of_decide_eq_false h
  rw[smB_no h]
  ((conv=>whnf);repeat' ((first|(with_reducible first|apply a_|apply b_|apply c_)|((with_reducible first|apply d_|apply e_|apply f_|apply g_);focus first|omega|(simp only[q_]<;>omega))|((with_reducible first|apply i_|apply h_);focus first|omega|(simp only[q_]<;>omega))|((with_reducible apply h_);focus first|decide|kernel_rfl)|refine s_ (by decide) ?_|refine t_ (by decide) ?_|with_reducible first|apply l_|apply m_|apply n_|apply o_|refine p_ (fun _=>?_) (fun _=>?_))<;>(conv=>whnf)))
  all_goals exact Ret.int rfl
theorem p_first (b:UInt8):Pure Tryz.prog 106 [pInt .u8 (b.toNat:Int)] (pBool (letB b)):=by
 have hb:=u8_lt b
 refine pure_of Tryz.func106 (by rfl) rfl (by kernel_rfl) (by rfl) ?_
 unfold letB
 have h2:(upB b=true∧(smB b).toNat=b.toNat+32∧65≤b.toNat∧b.toNat≤90)∨(smB b).toNat=b.toNat∧¬(65≤b.toNat∧b.toNat≤90):=by
  cases h:upB b with
  | true=>exact .inl ⟨rfl,smB_up h,of_decide_eq_true h⟩
  | false=>exact .inr ⟨by rw[smB_no h],of_decide_eq_false h⟩
 ((conv=>whnf);repeat' ((first|(with_reducible first|apply a_|apply b_|apply c_)|((with_reducible first|apply d_|apply e_|apply f_|apply g_);focus first|omega|(simp only[q_]<;>omega))|((with_reducible first|apply i_|apply h_);focus first|omega|(simp only[q_]<;>omega))|((with_reducible apply h_);focus first|decide|kernel_rfl)|refine s_ (by decide) ?_|refine t_ (by decide) ?_|refine r_ (p_small b) rfl ?_|with_reducible first|apply l_|apply m_|apply n_|apply o_|refine p_ (fun _=>?_) (fun _=>?_))<;>(conv=>whnf)))
 all_goals
  refine Ret.bool ?_
  first
   | exact (decide_eq_true (by omega)).symm
   | exact (decide_eq_false (by omega)).symm
   | exact decide_eq_decide.2 (by omega)
theorem p_digit (b:UInt8):Pure Tryz.prog 121 [pInt .u8 (b.toNat:Int)] (pBool (digB b)):=by
 have hb:=u8_lt b
 refine pure_of Tryz.func121 (by rfl) rfl (by kernel_rfl) (by rfl) ?_
 unfold digB
 ((conv=>whnf);repeat' ((first|(with_reducible first|apply a_|apply b_|apply c_)|((with_reducible first|apply d_|apply e_|apply f_|apply g_);focus first|omega|(simp only[q_]<;>omega))|((with_reducible first|apply i_|apply h_);focus first|omega|(simp only[q_]<;>omega))|((with_reducible apply h_);focus first|decide|kernel_rfl)|refine s_ (by decide) ?_|refine t_ (by decide) ?_|with_reducible first|apply l_|apply m_|apply n_|apply o_|refine p_ (fun _=>?_) (fun _=>?_))<;>(conv=>whnf)))
 all_goals
  refine Ret.bool ?_
  first
   | exact (decide_eq_true (by omega)).symm
   | exact (decide_eq_false (by omega)).symm
   | exact decide_eq_decide.2 (by omega)
theorem p_inner (b:UInt8):Pure Tryz.prog 109 [pInt .u8 (b.toNat:Int)] (pBool (letB b||digB b)):=by
 refine pure_of Tryz.func109 (by rfl) rfl (by kernel_rfl) (by rfl) ?_
 have pf:=p_first b
 cases h:letB b<;>rw[h] at pf
 ·((conv=>whnf);repeat' ((first|(with_reducible first|apply a_|apply b_|apply c_)|((with_reducible first|apply d_|apply e_|apply f_|apply g_);focus first|omega|(simp only[q_]<;>omega))|((with_reducible first|apply i_|apply h_);focus first|omega|(simp only[q_]<;>omega))|((with_reducible apply h_);focus first|decide|kernel_rfl)|refine s_ (by decide) ?_|refine t_ (by decide) ?_|refine r_ pf rfl ?_|refine r_ (p_digit b) rfl ?_|with_reducible first|apply l_|apply m_|apply n_|apply o_|refine p_ (fun _=>?_) (fun _=>?_))<;>(conv=>whnf)))
  exact Ret.bool rfl
 ·((conv=>whnf);repeat' ((first|(with_reducible first|apply a_|apply b_|apply c_)|((with_reducible first|apply d_|apply e_|apply f_|apply g_);focus first|omega|(simp only[q_]<;>omega))|((with_reducible first|apply i_|apply h_);focus first|omega|(simp only[q_]<;>omega))|((with_reducible apply h_);focus first|decide|kernel_rfl)|refine s_ (by decide) ?_|refine t_ (by decide) ?_|refine r_ pf rfl ?_|refine r_ (p_digit b) rfl ?_|with_reducible first|apply l_|apply m_|apply n_|apply o_|refine p_ (fun _=>?_) (fun _=>?_))<;>(conv=>whnf)))
  exact Ret.bool rfl
theorem p_isword1 (b:UInt8):Pure Tryz.prog 108 [pInt .u8 (b.toNat:Int)] (pBool (wB b)):=by
 refine pure_of Tryz.func108 (by rfl) rfl (by kernel_rfl) (by rfl) ?_
 unfold wB
 have pf:=p_inner b
 cases h:(letB b||digB b)<;>rw[h] at pf
 ·((conv=>whnf);repeat' ((first|(with_reducible first|apply a_|apply b_|apply c_)|((with_reducible first|apply d_|apply e_|apply f_|apply g_);focus first|omega|(simp only[q_]<;>omega))|((with_reducible first|apply i_|apply h_);focus first|omega|(simp only[q_]<;>omega))|((with_reducible apply h_);focus first|decide|kernel_rfl)|refine s_ (by decide) ?_|refine t_ (by decide) ?_|refine r_ pf rfl ?_|with_reducible first|apply l_|apply m_|apply n_|apply o_|refine p_ (fun _=>?_) (fun _=>?_))<;>(conv=>whnf)))
  exact Ret.bool rfl
 ·((conv=>whnf);repeat' ((first|(with_reducible first|apply a_|apply b_|apply c_)|((with_reducible first|apply d_|apply e_|apply f_|apply g_);focus first|omega|(simp only[q_]<;>omega))|((with_reducible first|apply i_|apply h_);focus first|omega|(simp only[q_]<;>omega))|((with_reducible apply h_);focus first|decide|kernel_rfl)|refine s_ (by decide) ?_|refine t_ (by decide) ?_|refine r_ pf rfl ?_|refine r_ (p_small b) rfl ?_|with_reducible first|apply l_|apply m_|apply n_|apply o_|refine p_ (fun _=>?_) (fun _=>?_))<;>(conv=>whnf)))
  exact Ret.bool (by rw[Bool.true_and];exact decide_eq_decide.2 u8_eq)
def runTo (p:UInt8→Bool) (l:List UInt8) (k:Nat):Nat:=k+((l.drop k).takeWhile p).length
theorem runTo_end {p:UInt8→Bool} {l:List UInt8} {k:Nat} (h:l.length≤k):runTo p l k=k:=by unfold runTo;rw[List.drop_of_length_le h];rfl
theorem runTo_step {p:UInt8→Bool} {l:List UInt8} {k:Nat} (h:k<l.length) (hp:p (l.getD k 0)=true):runTo p l k=runTo p l (k+1):=by
 have e:l.getD k 0=l[k]:=by rw[List.getD_eq_getElem?_getD,List.getElem?_eq_getElem h];rfl
 rw[e] at hp
 unfold runTo
 rw[List.drop_eq_getElem_cons h,List.takeWhile_cons,if_pos hp,List.length_cons];omega
theorem runTo_stop {p:UInt8→Bool} {l:List UInt8} {k:Nat} (h:k<l.length) (hp:p (l.getD k 0)=false):runTo p l k=k:=by
 have e:l.getD k 0=l[k]:=by rw[List.getD_eq_getElem?_getD,List.getElem?_eq_getElem h];rfl
 rw[e] at hp
 unfold runTo
 rw[List.drop_eq_getElem_cons h,List.takeWhile_cons,if_neg (by rw[hp];decide)];rfl
theorem takeWhile_all {p:UInt8→Bool}:∀l:List UInt8,(l.takeWhile p).length=l.length↔l.all p=true
 | []=>by simp
 | b::l=>by
  rw[List.takeWhile_cons,List.all_cons]
  cases h:p b with
  | true=>simp[takeWhile_all l]
  | false=>simp
abbrev fnV (f:FuncId):PV:=.d (.c (.v (.func (.func f) #[] #[])))
theorem p_run (f:FuncId) (p:UInt8→Bool) (hp:∀b:UInt8,Pure Tryz.prog f [pInt .u8 (b.toNat:Int)] (pBool (p b))) (l:List UInt8) (hl:okText l) (at_:Nat) (ha:at_≤l.length) :
  Pure Tryz.prog 107 [pStr (tx l),pInt .i64 at_,fnV f] (pInt .i64 (runTo p l at_)):=by
 have tz:=tx_size l
 unfold okText at hl
 refine pure_of Tryz.func107 (by rfl) rfl (by kernel_rfl) (by rfl) ?_
 (((conv=>whnf);repeat ((with_reducible first|refine BCase.tt ?_|refine BCase.ff ?_);(conv=>whnf)));repeat ((first|with_reducible refine Wr.u8 ?_|((with_reducible first|refine Wr.ci ?wxs ?_|refine Wr.c3 ?wxs ?_|refine Wr.c6 ?wxs ?_|refine BCase.dt ?wxs ?_);case wxs=>(first|omega|(simp only[lens,true_and,and_true];(try omega);done)))|((with_reducible refine BCase.df ?wxs ?_);case wxs=>(first|omega|(simp only[lens,true_and,and_true];(try omega);done)))|((with_reducible refine Need.mk ?wxs ?_);case wxs=>first|(first|omega|(simp only[lens,true_and,and_true];(try omega);done))|decide|kernel_rfl)|refine BCase.t (by decide) ?_|refine BCase.f (by decide) ?_|with_reducible (first|refine BCase.not ?_|refine BCase.and ?_|refine BCase.or ?_));((conv=>whnf);repeat ((with_reducible first|refine BCase.tt ?_|refine BCase.ff ?_);(conv=>whnf)))))
 refine LoopC.mk Nat (fun k=>[(0,pStr (tx l)),(1,pInt .i64 k),(2,fnV f)]) (fun _=>[]) [] (fun k=>k≤l.length∧runTo p l at_=runTo p l k) (fun k=>l.length - k) at_ ⟨ha,rfl⟩ ?start ?round
 case start=>exact⟨[],rfl,rfl,⟨.inl rfl,.inl rfl,.inl rfl,trivial⟩,trivial⟩
 case round=>
  rintro k ⟨hk,hz⟩
  by_cases h1:k<l.length
  ·have pk:=hp (l.getD k 0)
   cases hx:p (l.getD k 0) with
   | true=>
    rw[hx] at pk
    ((conv=>whnf);repeat' ((first|(with_reducible first|apply a_|apply b_|apply c_)|((with_reducible first|apply d_|apply e_|apply f_|apply g_);focus first|omega|(simp only[q_]<;>omega))|((with_reducible first|apply i_|apply h_);focus first|omega|(simp only[q_]<;>omega))|((with_reducible apply h_);focus first|decide|kernel_rfl)|refine s_ (by decide) ?_|refine t_ (by decide) ?_|(refine SIdx.tx k rfl h1 ?_)|refine r_ pk rfl ?_|with_reducible first|apply l_|apply m_|apply n_|apply o_|refine p_ (fun _=>?_) (fun _=>?_))<;>(conv=>whnf)))
    exact⟨k+1,⟨by omega,hz.trans (runTo_step h1 hx)⟩,by omega,[],rfl,rfl,⟨.inl rfl,PLe.int (by omega),.inl rfl,trivial⟩,trivial⟩
   | false=>
    rw[hx] at pk
    ((conv=>whnf);repeat' ((first|(with_reducible first|apply a_|apply b_|apply c_)|((with_reducible first|apply d_|apply e_|apply f_|apply g_);focus first|omega|(simp only[q_]<;>omega))|((with_reducible first|apply i_|apply h_);focus first|omega|(simp only[q_]<;>omega))|((with_reducible apply h_);focus first|decide|kernel_rfl)|refine s_ (by decide) ?_|refine t_ (by decide) ?_|(refine SIdx.tx k rfl h1 ?_)|refine r_ pk rfl ?_|with_reducible first|apply l_|apply m_|apply n_|apply o_|refine p_ (fun _=>?_) (fun _=>?_))<;>(conv=>whnf)))
    exact Ret.int (by rw[hz,runTo_stop h1 hx])
  ·((conv=>whnf);repeat' ((first|(with_reducible first|apply a_|apply b_|apply c_)|((with_reducible first|apply d_|apply e_|apply f_|apply g_);focus first|omega|(simp only[q_]<;>omega))|((with_reducible first|apply i_|apply h_);focus first|omega|(simp only[q_]<;>omega))|((with_reducible apply h_);focus first|decide|kernel_rfl)|refine s_ (by decide) ?_|refine t_ (by decide) ?_|with_reducible first|apply l_|apply m_|apply n_|apply o_|refine p_ (fun _=>?_) (fun _=>?_))<;>(conv=>whnf)))
   exact Ret.int (by rw[hz,runTo_end (by omega)])
theorem p_isword (l:List UInt8) (hl:okText l):Pure Tryz.prog 96 [pStr (tx l)] (pBool (wordB l)):=by
 refine pure_of Tryz.func96 (by rfl) rfl (by kernel_rfl) (by rfl) ?_
 cases l with
 | nil=>
  ((conv=>whnf);repeat' ((first|(with_reducible first|apply a_|apply b_|apply c_)|((with_reducible first|apply d_|apply e_|apply f_|apply g_);focus first|omega|(simp only[q_]<;>omega))|((with_reducible first|apply i_|apply h_);focus first|omega|(simp only[q_]<;>omega))|((with_reducible apply h_);focus first|decide|kernel_rfl)|refine s_ (by decide) ?_|refine t_ (by decide) ?_|with_reducible first|apply l_|apply m_|apply n_|apply o_|refine p_ (fun _=>?_) (fun _=>?_))<;>(conv=>whnf)))
  exact Ret.bool rfl
 | cons b l=>
  have h1:tx (b::l)≠⟨#[]⟩:=fun e=>by have:=tx_empty.1 e;cases this
  have pf:=p_first b
  have tz:=tx_size (b::l)
  cases hf:letB b with
  | false=>
   rw[hf] at pf
   ((conv=>whnf);repeat' ((first|(with_reducible first|apply a_|apply b_|apply c_)|((with_reducible first|apply d_|apply e_|apply f_|apply g_);focus first|omega|(simp only[q_]<;>omega))|((with_reducible first|apply i_|apply h_);focus first|omega|(simp only[q_]<;>omega))|((with_reducible apply h_);focus first|decide|kernel_rfl)|refine s_ (by decide) ?_|refine t_ (by decide) ?_|(refine BCase.dt h1 ?_)|(refine SIdx.tx (l:=b::l) 0 rfl (by simp) ?_)|refine r_ pf rfl ?_|with_reducible first|apply l_|apply m_|apply n_|apply o_|refine p_ (fun _=>?_) (fun _=>?_))<;>(conv=>whnf)))
   exact Ret.bool (by show false=(letB b&&(b::l).all wB);rw[hf];rfl)
  | true=>
   rw[hf] at pf
   ((conv=>whnf);repeat' ((first|(with_reducible first|apply a_|apply b_|apply c_)|((with_reducible first|apply d_|apply e_|apply f_|apply g_);focus first|omega|(simp only[q_]<;>omega))|((with_reducible first|apply i_|apply h_);focus first|omega|(simp only[q_]<;>omega))|((with_reducible apply h_);focus first|decide|kernel_rfl)|refine s_ (by decide) ?_|refine t_ (by decide) ?_|(refine BCase.dt h1 ?_)|(refine SIdx.tx (l:=b::l) 0 rfl (by simp) ?_)|refine r_ pf rfl ?_|refine r_ (p_run _ wB p_isword1 (b::l) hl 0 (Nat.zero_le _)) rfl ?_|with_reducible first|apply l_|apply m_|apply n_|apply o_|refine p_ (fun _=>?_) (fun _=>?_))<;>(conv=>whnf)))
   refine Ret.bool ?_
   show decide _=(letB b&&(b::l).all wB)
   rw[hf,Bool.true_and,Bool.eq_iff_iff,decide_eq_true_eq,← takeWhile_all]
   unfold runTo
   rw[List.drop_zero,tz]
   omega
def resWords:List (List UInt8):=[[97,110,100],[97,110,121],[97,115],[97,115,99],[98,101,103,105,110],[98,101,116,119,101,101,110],[98,108,111,98],[98,121],[99,111,109,109,105,116],[99,111,117,110,116],[99,114,101,97,116,101],[100,101,108,101,116,101],[100,101,115,99],[100,105,115,116,105,110,99,116],[100,114,111,112],[102,114,111,109],[103,114,111,117,112],[105,110],[105,110,115,101,114,116],[105,110,116,101,103,101,114],[105,110,116,111],[105,115],[108,105,107,101],[108,105,109,105,116],[109,97,120],[109,105,110],[110,111,116],[110,117,108,108],[111,102,102,115,101,116],[111,114],[111,114,100,101,114],[114,111,108,108,98,97,99,107],[115,101,108,101,99,116],[115,101,116],[115,117,109],[116,97,98,108,101],[116,101,120,116],[117,110,105,113,117,101],[117,112,100,97,116,101],[118,97,108,117,101,115],[119,104,101,114,101]]
def resB (l:List UInt8):Bool:=resWords.any fun w=>decide (l=w)
def nameB (l:List UInt8):Bool:=wordB l&&(decide (l.length≤12)&&!resB l)
theorem tx_mk {l m:List UInt8}:tx l=⟨List.toArray m⟩↔l=m:=⟨fun h=>tx_inj h,fun h=>by rw[h];rfl⟩
theorem p_reserved (l:List UInt8):Pure Tryz.prog 97 [pStr (tx l)] (pBool (resB l)):=by
 refine pure_of Tryz.func97 (by rfl) rfl (by kernel_rfl) (by rfl) ?_
 ((conv=>whnf);repeat' ((first|(with_reducible first|apply a_|apply b_|apply c_)|((with_reducible first|apply d_|apply e_|apply f_|apply g_);focus first|omega|(simp only[q_]<;>omega))|((with_reducible first|apply i_|apply h_);focus first|omega|(simp only[q_]<;>omega))|((with_reducible apply h_);focus first|decide|kernel_rfl)|refine s_ (by decide) ?_|refine t_ (by decide) ?_|with_reducible first|apply l_|apply m_|apply n_|apply o_|refine p_ (fun _=>?_) (fun _=>?_))<;>(conv=>whnf)))
 all_goals
  refine Ret.bool ?_
  simp only[tx_mk] at *
  simp[resB,resWords, *]
theorem p_isname (l:List UInt8) (hl:okText l):Pure Tryz.prog 86 [pStr (tx l)] (pBool (nameB l)):=by
 have tz:=tx_size l
 have pw:=p_isword l hl
 have pr:=p_reserved l
 refine pure_of Tryz.func86 (by rfl) rfl (by kernel_rfl) (by rfl) ?_
 unfold nameB
 cases hw:wordB l with
 | false=>
  rw[hw] at pw
  ((conv=>whnf);repeat' ((first|(with_reducible first|apply a_|apply b_|apply c_)|((with_reducible first|apply d_|apply e_|apply f_|apply g_);focus first|omega|(simp only[q_]<;>omega))|((with_reducible first|apply i_|apply h_);focus first|omega|(simp only[q_]<;>omega))|((with_reducible apply h_);focus first|decide|kernel_rfl)|refine s_ (by decide) ?_|refine t_ (by decide) ?_|refine r_ pw rfl ?_|with_reducible first|apply l_|apply m_|apply n_|apply o_|refine p_ (fun _=>?_) (fun _=>?_))<;>(conv=>whnf)))
  exact Ret.bool rfl
 | true=>
  rw[hw] at pw
  by_cases h:l.length≤12
  ·((conv=>whnf);repeat' ((first|(with_reducible first|apply a_|apply b_|apply c_)|((with_reducible first|apply d_|apply e_|apply f_|apply g_);focus first|omega|(simp only[q_]<;>omega))|((with_reducible first|apply i_|apply h_);focus first|omega|(simp only[q_]<;>omega))|((with_reducible apply h_);focus first|decide|kernel_rfl)|refine s_ (by decide) ?_|refine t_ (by decide) ?_|refine r_ pw rfl ?_|refine r_ pr rfl ?_|with_reducible first|apply l_|apply m_|apply n_|apply o_|refine p_ (fun _=>?_) (fun _=>?_))<;>(conv=>whnf)))
   exact Ret.bool (by simp[h])
  ·((conv=>whnf);repeat' ((first|(with_reducible first|apply a_|apply b_|apply c_)|((with_reducible first|apply d_|apply e_|apply f_|apply g_);focus first|omega|(simp only[q_]<;>omega))|((with_reducible first|apply i_|apply h_);focus first|omega|(simp only[q_]<;>omega))|((with_reducible apply h_);focus first|decide|kernel_rfl)|refine s_ (by decide) ?_|refine t_ (by decide) ?_|refine r_ pw rfl ?_|refine r_ pr rfl ?_|with_reducible first|apply l_|apply m_|apply n_|apply o_|refine p_ (fun _=>?_) (fun _=>?_))<;>(conv=>whnf)))
   exact Ret.bool (by simp[h])
end
section
open Go.RowKit K
set_option maxRecDepth 100000
structure NodeD where
 Op:Int
 Kids:Int
 V:ValueD
 Name:List UInt8
def NodeD.c (x:NodeD):List C:=[.v (.int .i64 x.Op),.v (.int .i64 x.Kids)]++ValueD.c x.V++[.v (.string (tx x.Name))]
def NodeD.ok (x:NodeD):Prop:=okInt x.Op∧okInt x.Kids∧ValueD.ok x.V∧okText x.Name
def NodeD.eqB (x y:NodeD):Bool:=(decide (x.Op=y.Op)&&(decide (x.Kids=y.Kids)&&(decide (x.V.Kind=y.V.Kind)&&(decide (x.V.N=y.V.N)&&(decide (tx x.V.S=tx y.V.S)&&(decide (tx x.Name=tx y.Name)&&true))))))
theorem NodeD.eqB_iff (x y:NodeD):NodeD.eqB x y=true↔x=y:=by
 rcases x with ⟨x0,x1,⟨x20,x21,x22⟩,x3⟩;rcases y with ⟨y0,y1,⟨y20,y21,y22⟩,y3⟩
 simp[NodeD.eqB,tx_eq,ValueD.mk.injEq,and_assoc]
abbrev nV (x:NodeD):PV:=.agg (x.c.map D.c)
end
section
set_option maxRecDepth 100000
def walkG {α:Type} (f:NodeD→List α→Except Int α):List α→List NodeD→Except Int (List α)
 | st,[]=>.ok st
 | st,n::r=>if n.Kids<0∨(st.length:Int)<n.Kids then .error 1 else
  match f n (st.drop (st.length - n.Kids.toNat)) with
  | .error e=>.error e
  | .ok x=>walkG f (st.take (st.length - n.Kids.toNat)++[x]) r
theorem walkG_cons {α:Type} (f:NodeD→List α→Except Int α) (st:List α) (n:NodeD) (r:List NodeD):walkG f st (n::r)=if n.Kids<0∨(st.length:Int)<n.Kids then .error 1 else
  match f n (st.drop (st.length - n.Kids.toNat)) with
  | .error e=>.error e
  | .ok x=>walkG f (st.take (st.length - n.Kids.toNat)++[x]) r:=rfl
def walkR {α:Type} (f:NodeD→List α→Except Int α) (e:List NodeD):Except Int α:=
 match walkG f [] e with
 | .error x=>.error x
 | .ok [x]=>.ok x
 | .ok _=>.error 1
end
section
set_option maxRecDepth 100000
end
section
set_option maxRecDepth 100000
def noV:ValueD:=⟨0,0,[]⟩
def leastK (op:Int):Int:=if op=1∨op=2 then 0 else if op=3∨op=4∨op=18∨op=19 then 1 else if op=24∨op=25 then 3 else 2
def mostK (op:Int):Int:=if op=22∨op=23 then 7 else leastK op
def alF (n:NodeD):Int:=
 if n.Op<1∨25<n.Op then 7
 else if n.Kids<leastK n.Op∨mostK n.Op<n.Kids∨(n.Op≠1∧ValueD.eqB n.V noV=false)∨(n.Op≠2∧n.Name≠[]) then 1
 else if n.Op=1 then (if vChk n.V≠0 then vChk n.V else if n.V.N<0 then 3 else 0)
 else if n.Op=2∧nameB n.Name=false then 1 else 0
theorem leastK_pos (op:Int):0≤leastK op∧leastK op≤3:=by unfold leastK;(repeat' split)<;>omega
theorem mostK_le (op:Int):mostK op≤7:=by have:=leastK_pos op;unfold mostK;split<;>omega
theorem alF_kids {n:NodeD} (h:alF n=0):0≤n.Kids∧n.Kids≤7∧leastK n.Op≤n.Kids∧n.Kids≤mostK n.Op∧1≤n.Op∧n.Op≤25:=by
 have h1:=leastK_pos n.Op
 have h2:=mostK_le n.Op
 unfold alF at h
 split at h
 ·omega
 ·split at h
  ·omega
  ·rename_i h4 h3
   have a1:¬n.Kids<leastK n.Op:=fun q=>h3 (.inl q)
   have a2:¬mostK n.Op<n.Kids:=fun q=>h3 (.inr (.inl q))
   omega
def chkO:Nat→List NodeD→Int
 | o,[]=>if o≠1 then 1 else 0
 | o,n::r=>if alF n≠0 then alF n else if (o:Int)<n.Kids then 1 else chkO (o+1 - n.Kids.toNat) r
theorem chkO_cons (o:Nat) (n:NodeD) (r:List NodeD):chkO o (n::r)=if alF n≠0 then alF n else if (o:Int)<n.Kids then 1 else chkO (o+1 - n.Kids.toNat) r:=rfl
def maxL:List Nat→Nat
 | []=>0
 | x::r=>max x (maxL r)
def deepF (n:NodeD) (ks:List Nat):Except Int Nat:=.ok (maxL ks+1)
def depthE (e:List NodeD):Nat:=match walkR deepF e with
 | .ok d=>d
 | .error _=>0
def checkF (e:List NodeD):Int:=if 60<e.length then 2 else if chkO 0 e≠0 then chkO 0 e else if 12<depthE e then 10 else 0
theorem take_len {α:Type} (st:List α) (k:Nat) (x:α) (h:k≤st.length):(st.take (st.length - k)++[x]).length=st.length+1 - k:=by
 rw[List.length_append,List.length_take,List.length_singleton];omega
theorem chk_walk {α:Type} (f:NodeD→List α→α):∀(e:List NodeD) (st:List α),chkO st.length e=0→∃x,walkG (fun n ks=>.ok (f n ks)) st e=.ok [x]
 | [],st,h=>by
  unfold chkO at h
  split at h
  ·cases h
  ·rename_i q
   match st,Decidable.of_not_not q with
   | [x],_=>exact⟨x,rfl⟩
 | n::r,st,h=>by
  rw[chkO_cons] at h
  split at h
  ·rename_i q;exact absurd h q
  ·rename_i q
   have hk:=alF_kids (Decidable.of_not_not q)
   split at h
   ·cases h
   ·rename_i g
    rw[walkG_cons,if_neg (by omega)]
    exact chk_walk f r _ (by rw[take_len _ _ _ (by omega)];exact h)
theorem chk_all:∀(e:List NodeD) (o:Nat),chkO o e=0→∀n∈e,alF n=0
 | [],_,_,n,h=>by cases h
 | m::r,o,h,n,hn=>by
  rw[chkO_cons] at h
  split at h
  ·rename_i q;exact absurd h q
  ·rename_i q
   rcases List.mem_cons.1 hn with rfl | hn
   ·exact Decidable.of_not_not q
   ·split at h
    ·cases h
    ·exact chk_all r _ h n hn
end
section
open Go.RowKit K
set_option maxRecDepth 100000
theorem p_span (op:Int):Pure Tryz.prog 85 [pInt .i64 op] (.tup [pInt .i64 (leastK op),pInt .i64 (mostK op),pBool (decide (1≤op∧op≤25))]):=by
 refine pure_of Tryz.func85 (by rfl) rfl (by kernel_rfl) (by rfl) ?_
 by_cases h:1≤op∧op≤25
 ·have hc:op=1∨op=2∨op=3∨op=4∨op=5∨op=6∨op=7∨op=8∨op=9∨op=10∨op=11∨op=12∨op=13∨op=14∨op=15∨op=16∨op=17∨op=18∨op=19∨op=20∨op=21∨op=22∨op=23∨op=24∨op=25:=by omega
  clear h
  rcases hc with rfl | rfl | rfl | rfl | rfl | rfl | rfl | rfl | rfl | rfl | rfl | rfl | rfl | rfl | rfl | rfl | rfl | rfl | rfl | rfl | rfl | rfl | rfl | rfl | rfl
  all_goals
   ((conv=>whnf);repeat' ((first|(with_reducible first|apply a_|apply b_|apply c_)|((with_reducible first|apply d_|apply e_|apply f_|apply g_);focus first|omega|(simp only[q_]<;>omega))|((with_reducible first|apply i_|apply h_);focus first|omega|(simp only[q_]<;>omega))|((with_reducible apply h_);focus first|decide|kernel_rfl)|refine s_ (by decide) ?_|refine t_ (by decide) ?_|with_reducible first|apply l_|apply m_|apply n_|apply o_|refine p_ (fun _=>?_) (fun _=>?_))<;>(conv=>whnf)))
   exact Ret.eq rfl
 ·have e1:leastK op=2:=by unfold leastK;rw[if_neg (by omega),if_neg (by omega),if_neg (by omega)]
  have e2:mostK op=2:=by unfold mostK;rw[if_neg (by omega),e1]
  rw[e1,e2,decide_eq_false h]
  have h17:5≤op→decide (op≤17)=false:=fun g=>decide_eq_false (by omega)
  ((conv=>whnf);repeat' ((first|(with_reducible first|apply a_|apply b_|apply c_)|((with_reducible first|apply d_|apply e_|apply f_|apply g_);focus first|omega|(simp only[q_]<;>omega))|((with_reducible first|apply i_|apply h_);focus first|omega|(simp only[q_]<;>omega))|((with_reducible apply h_);focus first|decide|kernel_rfl)|refine s_ (by decide) ?_|refine t_ (by decide) ?_|with_reducible first|apply l_|apply m_|apply n_|apply o_|refine p_ (fun _=>?_) (fun _=>?_))<;>(conv=>whnf)))
  all_goals first
   | exact Ret.eq rfl
   | (rename_i g;exact Ret.eq (by rw[h17 g]))
theorem alF_cases (n:NodeD) :
  (¬(1≤n.Op∧n.Op≤25)∧alF n=7)
  ∨((1≤n.Op∧n.Op≤25)∧(n.Kids<leastK n.Op∨mostK n.Op<n.Kids)∧alF n=1)
  ∨((1≤n.Op∧n.Op≤25)∧leastK n.Op≤n.Kids∧n.Kids≤mostK n.Op∧
   ((n.Op=1∧n.Name≠[]∧alF n=1)∨(n.Op=1∧n.Name=[]∧vChk n.V≠0∧alF n=vChk n.V)∨(n.Op=1∧n.Name=[]∧vChk n.V=0∧n.V.N<0∧alF n=3)∨(n.Op=1∧n.Name=[]∧vChk n.V=0∧¬n.V.N<0∧alF n=0)
    ∨(n.Op≠1∧ValueD.eqB n.V noV=false∧alF n=1)
    ∨(n.Op=2∧ValueD.eqB n.V noV=true∧nameB n.Name=false∧alF n=1)∨(n.Op=2∧ValueD.eqB n.V noV=true∧nameB n.Name=true∧alF n=0)
    ∨(n.Op≠1∧n.Op≠2∧ValueD.eqB n.V noV=true∧n.Name≠[]∧alF n=1)∨(n.Op≠1∧n.Op≠2∧ValueD.eqB n.V noV=true∧n.Name=[]∧alF n=0))):=by
 unfold alF
 by_cases h:1≤n.Op∧n.Op≤25
 ·rw[if_neg (by omega)]
  by_cases hk:n.Kids<leastK n.Op∨mostK n.Op<n.Kids
  ·exact .inr (.inl ⟨h,hk,by rw[if_pos (by rcases hk with q | q;exact .inl q;exact .inr (.inl q))]⟩)
  ·refine .inr (.inr ⟨h,by omega,by omega,?_⟩)
   have k1:¬n.Kids<leastK n.Op:=fun q=>hk (.inl q)
   have k2:¬mostK n.Op<n.Kids:=fun q=>hk (.inr q)
   by_cases h1:n.Op=1
   ·by_cases hN:n.Name=[]
    ·by_cases hv:vChk n.V=0
     ·by_cases hn:n.V.N<0
      ·refine .inr (.inr (.inl ⟨h1,hN,hv,hn,?_⟩));simp[k1,k2,h1,hN,hv,hn]
       rw[h1] at k1 k2;omega
      ·refine .inr (.inr (.inr (.inl ⟨h1,hN,hv,hn,?_⟩)));simp[k1,k2,h1,hN,hv,hn]
       rw[h1] at k1 k2;omega
     ·refine .inr (.inl ⟨h1,hN,hv,?_⟩);simp[k1,k2,h1,hN,hv]
      rw[h1] at k1 k2;intro q;exfalso;omega
    ·refine .inl ⟨h1,hN,?_⟩;simp[h1,hN]
   ·cases hV:ValueD.eqB n.V noV with
    | false=>refine .inr (.inr (.inr (.inr (.inl ⟨h1,rfl,?_⟩))));simp[h1]
    | true=>
     by_cases h2:n.Op=2
     ·cases hB:nameB n.Name with
      | false=>refine .inr (.inr (.inr (.inr (.inr (.inl ⟨h2,rfl,rfl,?_⟩)))));simp[h2]
      | true=>
       refine .inr (.inr (.inr (.inr (.inr (.inr (.inl ⟨h2,rfl,rfl,?_⟩))))));simp[h2]
       rw[h2] at k1 k2;omega
     ·by_cases hN:n.Name=[]
      ·refine .inr (.inr (.inr (.inr (.inr (.inr (.inr (.inr ⟨h1,h2,rfl,hN,?_⟩)))))));simp[h1,h2,hN,k1,k2]
      ·refine .inr (.inr (.inr (.inr (.inr (.inr (.inr (.inl ⟨h1,h2,rfl,hN,?_⟩)))))));simp[h1,h2,hN]
 ·exact .inl ⟨h,by rw[if_pos (by omega)]⟩
theorem p_alone (n:NodeD) (hn:okText n.Name):Pure Tryz.prog 70 [nV n] (pInt .i64 (alF n)):=by
 have pn:=p_isname n.Name hn
 have pv:=p_vcheck n.V
 have kk:=leastK_pos n.Op
 have tn:n.Name=[]→tx n.Name=⟨#[]⟩:=fun e=>by rw[e];rfl
 have tn2:n.Name≠[]→¬tx n.Name=⟨#[]⟩:=fun e q=>e (tx_mk.1 q)
 refine pure_of Tryz.func70 (by rfl) rfl (by kernel_rfl) (by rfl) ?_
 rcases alF_cases n with ⟨h,e⟩ | ⟨h,hk,e⟩ | ⟨h,k1,k2,⟨h1,hN,e⟩ | ⟨h1,hN,hv,e⟩ | ⟨h1,hN,hv,hn,e⟩ | ⟨h1,hN,hv,hn,e⟩ | ⟨h1,hV,e⟩ | ⟨h2,hV,hB,e⟩ | ⟨h2,hV,hB,e⟩ | ⟨h1,h2,hV,hN,e⟩ | ⟨h1,h2,hV,hN,e⟩⟩<;>rw[e]
 ·((conv=>whnf);repeat' ((first|(with_reducible first|apply a_|apply b_|apply c_)|((with_reducible first|apply d_|apply e_|apply f_|apply g_);focus first|omega|(simp only[q_]<;>omega))|((with_reducible first|apply i_|apply h_);focus first|omega|(simp only[q_]<;>omega))|((with_reducible apply h_);focus first|decide|kernel_rfl)|refine s_ (by decide) ?_|refine t_ (by decide) ?_|refine r_ (p_span n.Op) rfl ?_|refine r_ pv rfl ?_|refine r_ pn rfl ?_|with_reducible first|apply l_|apply m_|apply n_|apply o_|refine p_ (fun _=>?_) (fun _=>?_))<;>(conv=>whnf)))
  all_goals exact Ret.int rfl
 ·((conv=>whnf);repeat' ((first|(with_reducible first|apply a_|apply b_|apply c_)|((with_reducible first|apply d_|apply e_|apply f_|apply g_);focus first|omega|(simp only[q_]<;>omega))|((with_reducible first|apply i_|apply h_);focus first|omega|(simp only[q_]<;>omega))|((with_reducible apply h_);focus first|decide|kernel_rfl)|refine s_ (by decide) ?_|refine t_ (by decide) ?_|refine r_ (p_span n.Op) rfl ?_|refine r_ pv rfl ?_|refine r_ pn rfl ?_|with_reducible first|apply l_|apply m_|apply n_|apply o_|refine p_ (fun _=>?_) (fun _=>?_))<;>(conv=>whnf)))
  all_goals first|exact Ret.int rfl | (exfalso;omega)
 ·((conv=>whnf);repeat' ((first|(with_reducible first|apply a_|apply b_|apply c_)|((with_reducible first|apply d_|apply e_|apply f_|apply g_);focus first|omega|(simp only[q_]<;>omega))|((with_reducible first|apply i_|apply h_);focus first|omega|(simp only[q_]<;>omega))|((with_reducible apply h_);focus first|decide|kernel_rfl)|refine s_ (by decide) ?_|refine t_ (by decide) ?_|refine r_ (p_span n.Op) rfl ?_|refine r_ pv rfl ?_|refine r_ pn rfl ?_|(refine BCase.dt (tn2 hN) ?_)|with_reducible first|apply l_|apply m_|apply n_|apply o_|refine p_ (fun _=>?_) (fun _=>?_))<;>(conv=>whnf)))
  all_goals exact Ret.int rfl
 ·((conv=>whnf);repeat' ((first|(with_reducible first|apply a_|apply b_|apply c_)|((with_reducible first|apply d_|apply e_|apply f_|apply g_);focus first|omega|(simp only[q_]<;>omega))|((with_reducible first|apply i_|apply h_);focus first|omega|(simp only[q_]<;>omega))|((with_reducible apply h_);focus first|decide|kernel_rfl)|refine s_ (by decide) ?_|refine t_ (by decide) ?_|refine r_ (p_span n.Op) rfl ?_|refine r_ pv rfl ?_|refine r_ pn rfl ?_|(refine BCase.df (not_not_intro (tn hN)) ?_)|(refine BCase.dt hv ?_)|with_reducible first|apply l_|apply m_|apply n_|apply o_|refine p_ (fun _=>?_) (fun _=>?_))<;>(conv=>whnf)))
  all_goals exact Ret.int rfl
 ·rw[hv] at pv
  ((conv=>whnf);repeat' ((first|(with_reducible first|apply a_|apply b_|apply c_)|((with_reducible first|apply d_|apply e_|apply f_|apply g_);focus first|omega|(simp only[q_]<;>omega))|((with_reducible first|apply i_|apply h_);focus first|omega|(simp only[q_]<;>omega))|((with_reducible apply h_);focus first|decide|kernel_rfl)|refine s_ (by decide) ?_|refine t_ (by decide) ?_|refine r_ (p_span n.Op) rfl ?_|refine r_ pv rfl ?_|refine r_ pn rfl ?_|(refine BCase.df (not_not_intro (tn hN)) ?_)|with_reducible first|apply l_|apply m_|apply n_|apply o_|refine p_ (fun _=>?_) (fun _=>?_))<;>(conv=>whnf)))
  all_goals exact Ret.int rfl
 ·rw[hv] at pv
  ((conv=>whnf);repeat' ((first|(with_reducible first|apply a_|apply b_|apply c_)|((with_reducible first|apply d_|apply e_|apply f_|apply g_);focus first|omega|(simp only[q_]<;>omega))|((with_reducible first|apply i_|apply h_);focus first|omega|(simp only[q_]<;>omega))|((with_reducible apply h_);focus first|decide|kernel_rfl)|refine s_ (by decide) ?_|refine t_ (by decide) ?_|refine r_ (p_span n.Op) rfl ?_|refine r_ pv rfl ?_|refine r_ pn rfl ?_|(refine BCase.df (not_not_intro (tn hN)) ?_)|with_reducible first|apply l_|apply m_|apply n_|apply o_|refine p_ (fun _=>?_) (fun _=>?_))<;>(conv=>whnf)))
  all_goals exact Ret.int rfl
 ·((conv=>whnf);repeat' ((first|(with_reducible first|apply a_|apply b_|apply c_)|((with_reducible first|apply d_|apply e_|apply f_|apply g_);focus first|omega|(simp only[q_]<;>omega))|((with_reducible first|apply i_|apply h_);focus first|omega|(simp only[q_]<;>omega))|((with_reducible apply h_);focus first|decide|kernel_rfl)|refine s_ (by decide) ?_|refine t_ (by decide) ?_|refine r_ (p_span n.Op) rfl ?_|refine r_ pv rfl ?_|refine r_ pn rfl ?_|(refine BCase.t (congrArg not hV) ?_)|with_reducible first|apply l_|apply m_|apply n_|apply o_|refine p_ (fun _=>?_) (fun _=>?_))<;>(conv=>whnf)))
  all_goals exact Ret.int rfl
 ·rw[hB] at pn
  ((conv=>whnf);repeat' ((first|(with_reducible first|apply a_|apply b_|apply c_)|((with_reducible first|apply d_|apply e_|apply f_|apply g_);focus first|omega|(simp only[q_]<;>omega))|((with_reducible first|apply i_|apply h_);focus first|omega|(simp only[q_]<;>omega))|((with_reducible apply h_);focus first|decide|kernel_rfl)|refine s_ (by decide) ?_|refine t_ (by decide) ?_|refine r_ (p_span n.Op) rfl ?_|refine r_ pv rfl ?_|refine r_ pn rfl ?_|(refine BCase.f (congrArg not hV) ?_)|with_reducible first|apply l_|apply m_|apply n_|apply o_|refine p_ (fun _=>?_) (fun _=>?_))<;>(conv=>whnf)))
  all_goals exact Ret.int rfl
 ·rw[hB] at pn
  ((conv=>whnf);repeat' ((first|(with_reducible first|apply a_|apply b_|apply c_)|((with_reducible first|apply d_|apply e_|apply f_|apply g_);focus first|omega|(simp only[q_]<;>omega))|((with_reducible first|apply i_|apply h_);focus first|omega|(simp only[q_]<;>omega))|((with_reducible apply h_);focus first|decide|kernel_rfl)|refine s_ (by decide) ?_|refine t_ (by decide) ?_|refine r_ (p_span n.Op) rfl ?_|refine r_ pv rfl ?_|refine r_ pn rfl ?_|(refine BCase.f (congrArg not hV) ?_)|with_reducible first|apply l_|apply m_|apply n_|apply o_|refine p_ (fun _=>?_) (fun _=>?_))<;>(conv=>whnf)))
  all_goals exact Ret.int rfl
 ·((conv=>whnf);repeat' ((first|(with_reducible first|apply a_|apply b_|apply c_)|((with_reducible first|apply d_|apply e_|apply f_|apply g_);focus first|omega|(simp only[q_]<;>omega))|((with_reducible first|apply i_|apply h_);focus first|omega|(simp only[q_]<;>omega))|((with_reducible apply h_);focus first|decide|kernel_rfl)|refine s_ (by decide) ?_|refine t_ (by decide) ?_|refine r_ (p_span n.Op) rfl ?_|refine r_ pv rfl ?_|refine r_ pn rfl ?_|(refine BCase.f (congrArg not hV) ?_)|(refine BCase.dt (tn2 hN) ?_)|with_reducible first|apply l_|apply m_|apply n_|apply o_|refine p_ (fun _=>?_) (fun _=>?_))<;>(conv=>whnf)))
  all_goals exact Ret.int rfl
 ·((conv=>whnf);repeat' ((first|(with_reducible first|apply a_|apply b_|apply c_)|((with_reducible first|apply d_|apply e_|apply f_|apply g_);focus first|omega|(simp only[q_]<;>omega))|((with_reducible first|apply i_|apply h_);focus first|omega|(simp only[q_]<;>omega))|((with_reducible apply h_);focus first|decide|kernel_rfl)|refine s_ (by decide) ?_|refine t_ (by decide) ?_|refine r_ (p_span n.Op) rfl ?_|refine r_ pv rfl ?_|refine r_ pn rfl ?_|(refine BCase.f (congrArg not hV) ?_)|(refine BCase.df (not_not_intro (tn hN)) ?_)|with_reducible first|apply l_|apply m_|apply n_|apply o_|refine p_ (fun _=>?_) (fun _=>?_))<;>(conv=>whnf)))
  all_goals exact Ret.int rfl
end
section
open Go.RowKit K
set_option maxRecDepth 100000
set_option maxRecDepth 100000
abbrev RowT:=List ValueD
def rowC (r:RowT):List C:=[.sl 3 (r.map ValueD.c)]
abbrev rwsV (l:List RowT):PV:=.d (.c (.sl 1 (l.map rowC)))
def rChkW (w:Nat):List RowT→Int
 | []=>0
 | r::l=>if 8<r.length then 2 else if r.length≠w then 1 else if vChkAll r≠0 then vChkAll r else rChkW w l
def widthF (l:List RowT):Nat:=(l.headD []).length
def rowsChk (l:List RowT):Int:=if 40<l.length then 2 else rChkW (widthF l) l
theorem rChkW_skip {w:Nat}:∀(l:List RowT) (k:Nat),(∀r∈l.take k,r.length≤8∧r.length=w∧vChkAll r=0)→rChkW w l=rChkW w (l.drop k)
 | l,0,_=>by rw[List.drop_zero]
 | [],k+1,_=>rfl
 | r::l,k+1,h=>by
  obtain⟨h1,h2,h3⟩:=h r (by rw[List.take_succ_cons];exact List.mem_cons_self)
  rw[rChkW,if_neg (by omega),if_neg (not_not_intro h2),if_neg (not_not_intro h3),List.drop_succ_cons]
  exact rChkW_skip l k fun x hx=>h x (by rw[List.take_succ_cons];exact List.mem_cons_of_mem _ hx)
theorem rChkW_at {w:Nat} {l:List RowT} {k:Nat} (hk:k<l.length) (h:∀r∈l.take k,r.length≤8∧r.length=w∧vChkAll r=0):rChkW w l=if 8<l[k].length then 2 else if l[k].length≠w then 1 else if vChkAll l[k]≠0 then vChkAll l[k] else rChkW w (l.drop (k+1)):=by
 rw[rChkW_skip l k h,List.drop_eq_getElem_cons hk,rChkW]
theorem rChkW_ok {w:Nat}:∀{l:List RowT},rChkW w l=0↔∀r∈l,r.length≤8∧r.length=w∧vChkAll r=0
 | []=>⟨fun _ r h=>absurd h List.not_mem_nil,fun _=>rfl⟩
 | r::l=>by
  rw[rChkW]
  constructor
  ·intro h
   split at h
   ·cases h
   rename_i h8
   split at h
   ·cases h
   rename_i hw
   split at h
   ·rename_i hv;exact absurd h hv
   rename_i hv
   intro x hx
   rcases List.mem_cons.1 hx with rfl | hx
   ·exact⟨by omega,Decidable.of_not_not hw,Decidable.of_not_not hv⟩
   ·exact rChkW_ok.1 h x hx
  ·intro h
   obtain⟨h1,h2,h3⟩:=h r List.mem_cons_self
   rw[if_neg (by omega),if_neg (not_not_intro h2),if_neg (not_not_intro h3)]
   exact rChkW_ok.2 fun x hx=>h x (List.mem_cons_of_mem _ hx)
theorem width_get {l:List RowT} (h:0<l.length):l[0].length=widthF l:=by
 cases l with
 | nil=>cases h
 | cons r l=>rfl
theorem rowsChk_ok {l:List RowT}:rowsChk l=0↔l.length≤40∧∀r∈l,r.length≤8∧r.length=widthF l∧vChkAll r=0:=by
 unfold rowsChk
 by_cases h:40<l.length
 ·rw[if_pos h]
  exact⟨fun x=>(by cases x),fun x=>(by omega)⟩
 ·rw[if_neg h,rChkW_ok]
  exact⟨fun x=>⟨by omega,x⟩,fun x=>x.2⟩
theorem p_width (l:List RowT) (hr:∀r∈l,r.length≤140737488355328):Pure Tryz.prog 57 [rwsV l] (pInt .i64 (widthF l:Int)):=by
 have hml:(l.map rowC).length=l.length:=List.length_map _
 refine pure_of Tryz.func57 (by rfl) rfl (by kernel_rfl) (by rfl) ?_
 by_cases h:0<l.length
 ·have hw:=width_get h
  have hm:(l[0].map ValueD.c).length=l[0].length:=List.length_map _
  ((conv=>whnf);repeat' ((first|(with_reducible first|apply a_|apply b_|apply c_)|((with_reducible first|apply d_|apply e_|apply f_|apply g_);focus first|omega|(simp only[q_]<;>omega))|((with_reducible first|apply i_|apply h_);focus first|omega|(simp only[q_]<;>omega))|((with_reducible apply h_);focus first|decide|kernel_rfl)|refine s_ (by decide) ?_|refine t_ (by decide) ?_|(refine Idx.mapI (f:=rowC) 0 rfl h ?_)|with_reducible first|apply l_|apply m_|apply n_|apply o_|refine p_ (fun _=>?_) (fun _=>?_))<;>(conv=>whnf)))
  all_goals first|exact Ret.int (by omega) | (exfalso;omega)
 ·have e:l=[]:=List.eq_nil_of_length_eq_zero (by omega)
  subst e
  ((conv=>whnf);repeat' ((first|(with_reducible first|apply a_|apply b_|apply c_)|((with_reducible first|apply d_|apply e_|apply f_|apply g_);focus first|omega|(simp only[q_]<;>omega))|((with_reducible first|apply i_|apply h_);focus first|omega|(simp only[q_]<;>omega))|((with_reducible apply h_);focus first|decide|kernel_rfl)|refine s_ (by decide) ?_|refine t_ (by decide) ?_|with_reducible first|apply l_|apply m_|apply n_|apply o_|refine p_ (fun _=>?_) (fun _=>?_))<;>(conv=>whnf)))
  all_goals first|exact Ret.mk rfl | (exfalso;omega)
theorem p_bagcheck (l:List RowT):Pure Tryz.prog 12 [rwsV l] (pInt .i64 (rowsChk l)):=by
 have hml:(l.map rowC).length=l.length:=List.length_map _
 refine pure_of Tryz.func12 (by rfl) rfl (by kernel_rfl) (by rfl) ?_
 unfold rowsChk
 by_cases h40:40<l.length
 ·rw[if_pos h40]
  ((conv=>whnf);repeat' ((first|(with_reducible first|apply a_|apply b_|apply c_)|((with_reducible first|apply d_|apply e_|apply f_|apply g_);focus first|omega|(simp only[q_]<;>omega))|((with_reducible first|apply i_|apply h_);focus first|omega|(simp only[q_]<;>omega))|((with_reducible apply h_);focus first|decide|kernel_rfl)|refine s_ (by decide) ?_|refine t_ (by decide) ?_|with_reducible first|apply l_|apply m_|apply n_|apply o_|refine p_ (fun _=>?_) (fun _=>?_))<;>(conv=>whnf)))
  all_goals first|exact Ret.int rfl | (exfalso;omega)
 ·rw[if_neg h40]
  ((conv=>whnf);repeat' ((first|(with_reducible first|apply a_|apply b_|apply c_)|((with_reducible first|apply d_|apply e_|apply f_|apply g_);focus first|omega|(simp only[q_]<;>omega))|((with_reducible first|apply i_|apply h_);focus first|omega|(simp only[q_]<;>omega))|((with_reducible apply h_);focus first|decide|kernel_rfl)|refine s_ (by decide) ?_|refine t_ (by decide) ?_|with_reducible first|apply l_|apply m_|apply n_|apply o_|refine p_ (fun _=>?_) (fun _=>?_))<;>(conv=>whnf)))
  refine LoopC.mk Nat (fun k=>[(0,rwsV l),(9,rwsV l),(10,pInt .i64 l.length),(11,pInt .i64 (k:Int))]) (fun _=>[]) [] (fun k=>k≤l.length∧∀r∈l.take k,r.length≤8∧r.length=widthF l∧vChkAll r=0) (fun k=>l.length - k) 0 ⟨Nat.zero_le _,by simp⟩ ?start ?round
  case start=>exact⟨[],rfl,rfl,⟨.inl rfl,.inl rfl,PLe.int (by simp),.inl rfl,trivial⟩,trivial⟩
  case round=>
   rintro k ⟨hk,hz⟩
   have hk:k≤l.length:=hk
   have hz:∀r∈l.take k,r.length≤8∧r.length=widthF l∧vChkAll r=0:=hz
   by_cases q:k<l.length
   ·have q0:0<l.length:=by omega
    have hw:=width_get q0
    have hm:(l[k].map ValueD.c).length=l[k].length:=List.length_map _
    have hm0:(l[0].map ValueD.c).length=l[0].length:=List.length_map _
    rw[rChkW_at q hz]
    by_cases h8:8<l[k].length
    ·rw[if_pos h8]
     ((conv=>whnf);repeat' ((first|(with_reducible first|apply a_|apply b_|apply c_)|((with_reducible first|apply d_|apply e_|apply f_|apply g_);focus first|omega|(simp only[q_]<;>omega))|((with_reducible first|apply i_|apply h_);focus first|omega|(simp only[q_]<;>omega))|((with_reducible apply h_);focus first|decide|kernel_rfl)|refine s_ (by decide) ?_|refine t_ (by decide) ?_|(first|refine Idx.mapI (f:=rowC) k rfl q ?_|refine Idx.mapI (f:=rowC) 0 rfl q0 ?_)|with_reducible first|apply l_|apply m_|apply n_|apply o_|refine p_ (fun _=>?_) (fun _=>?_))<;>(conv=>whnf)))
     all_goals first|exact Ret.int rfl | (exfalso;omega)
    ·rw[if_neg h8]
     by_cases hwk:l[k].length≠widthF l
     ·rw[if_pos hwk]
      ((conv=>whnf);repeat' ((first|(with_reducible first|apply a_|apply b_|apply c_)|((with_reducible first|apply d_|apply e_|apply f_|apply g_);focus first|omega|(simp only[q_]<;>omega))|((with_reducible first|apply i_|apply h_);focus first|omega|(simp only[q_]<;>omega))|((with_reducible apply h_);focus first|decide|kernel_rfl)|refine s_ (by decide) ?_|refine t_ (by decide) ?_|(first|refine Idx.mapI (f:=rowC) k rfl q ?_|refine Idx.mapI (f:=rowC) 0 rfl q0 ?_)|with_reducible first|apply l_|apply m_|apply n_|apply o_|refine p_ (fun _=>?_) (fun _=>?_))<;>(conv=>whnf)))
      all_goals first|exact Ret.int rfl | (exfalso;omega)
     ·rw[if_neg hwk]
      have hwk:l[k].length=widthF l:=Decidable.of_not_not hwk
      have pc:=p_checkall l[k] (by omega)
      by_cases hv:vChkAll l[k]≠0
      ·rw[if_pos hv]
       ((conv=>whnf);repeat' ((first|(with_reducible first|apply a_|apply b_|apply c_)|((with_reducible first|apply d_|apply e_|apply f_|apply g_);focus first|omega|(simp only[q_]<;>omega))|((with_reducible first|apply i_|apply h_);focus first|omega|(simp only[q_]<;>omega))|((with_reducible apply h_);focus first|decide|kernel_rfl)|refine s_ (by decide) ?_|refine t_ (by decide) ?_|(first|refine Idx.mapI (f:=rowC) k rfl q ?_|refine Idx.mapI (f:=rowC) 0 rfl q0 ?_)|refine r_ pc rfl ?_|with_reducible first|apply l_|apply m_|apply n_|apply o_|refine p_ (fun _=>?_) (fun _=>?_))<;>(conv=>whnf)))
       all_goals first|exact Ret.int rfl | (exfalso;omega)
      ·have hv:vChkAll l[k]=0:=Decidable.of_not_not hv
       rw[hv,if_neg (by decide),← rChkW_skip l (k+1) (fun r hr=>by
        rw[take_snoc q,List.mem_append,List.mem_singleton] at hr
        rcases hr with hr | rfl
        ·exact hz r hr
        ·exact⟨by omega,hwk,hv⟩)]
       rw[hv] at pc
       ((conv=>whnf);repeat' ((first|(with_reducible first|apply a_|apply b_|apply c_)|((with_reducible first|apply d_|apply e_|apply f_|apply g_);focus first|omega|(simp only[q_]<;>omega))|((with_reducible first|apply i_|apply h_);focus first|omega|(simp only[q_]<;>omega))|((with_reducible apply h_);focus first|decide|kernel_rfl)|refine s_ (by decide) ?_|refine t_ (by decide) ?_|(first|refine Idx.mapI (f:=rowC) k rfl q ?_|refine Idx.mapI (f:=rowC) 0 rfl q0 ?_)|refine r_ pc rfl ?_|with_reducible first|apply l_|apply m_|apply n_|apply o_|refine p_ (fun _=>?_) (fun _=>?_))<;>(conv=>whnf)))
       all_goals first
        | (exfalso;omega)
        | skip
       refine⟨k+1,⟨by show k+1≤_;omega,fun r hr=>?_⟩,by show l.length - (k+1)<l.length - k;omega,[],rfl,rfl,⟨.inl rfl,.inl rfl,PLe.int (by simp),PLe.int (by omega),trivial⟩,trivial⟩
       rw[take_snoc q,List.mem_append,List.mem_singleton] at hr
       rcases hr with hr | rfl
       ·exact hz r hr
       ·exact⟨by omega,hwk,hv⟩
   ·have e:l.take k=l:=List.take_of_length_le (by omega)
    rw[e] at hz
    rw[rChkW_ok.2 hz]
    ((conv=>whnf);repeat' ((first|(with_reducible first|apply a_|apply b_|apply c_)|((with_reducible first|apply d_|apply e_|apply f_|apply g_);focus first|omega|(simp only[q_]<;>omega))|((with_reducible first|apply i_|apply h_);focus first|omega|(simp only[q_]<;>omega))|((with_reducible apply h_);focus first|decide|kernel_rfl)|refine s_ (by decide) ?_|refine t_ (by decide) ?_|with_reducible first|apply l_|apply m_|apply n_|apply o_|refine p_ (fun _=>?_) (fun _=>?_))<;>(conv=>whnf)))
    all_goals first|exact Ret.int rfl | (exfalso;omega)
theorem p_own_rows (l:List RowT) (hl:l.length≤1000) (hr:∀r∈l,r.length≤1000):Pure Tryz.prog 53 [rwsV l] (rwsV l):=by
 refine pure_of Tryz.func53 (by rfl) rfl (by kernel_rfl) (by rfl) ?_
 ((conv=>whnf);repeat' ((first|(with_reducible first|apply a_|apply b_|apply c_)|((with_reducible first|apply d_|apply e_|apply f_|apply g_);focus first|omega|(simp only[q_]<;>omega))|((with_reducible first|apply i_|apply h_);focus first|omega|(simp only[q_]<;>omega))|((with_reducible apply h_);focus first|decide|kernel_rfl)|refine s_ (by decide) ?_|refine t_ (by decide) ?_|with_reducible first|apply l_|apply m_|apply n_|apply o_|refine p_ (fun _=>?_) (fun _=>?_))<;>(conv=>whnf)))
 refine LoopC.mk Nat (fun k=>[(3,.d (.app 60 33 1 ((l.take k).map rowC))),(6,rwsV l),(7,pInt .i64 l.length),(8,pInt .i64 (k:Int))]) (fun _=>[(60,.tail 33 1)]) [60] (fun k=>k≤l.length) (fun k=>l.length - k) 0 (Nat.zero_le _) ?start ?round
 case start=>exact⟨[],rfl,rfl,⟨⟨rfl,rfl,Nat.zero_lt_succ _,rfl,rfl⟩,.inl rfl,PLe.int (by simp),.inl rfl,trivial⟩,⟨rfl,Nat.zero_lt_succ _⟩,trivial⟩
 case round=>
  intro k hk
  have hk:k≤l.length:=hk
  by_cases q:k<l.length
  ·have pc:=p_cloneV l[k] (by have:=hr _ (List.getElem_mem q);omega)
   ((conv=>whnf);repeat' ((first|(with_reducible first|apply a_|apply b_|apply c_)|((with_reducible first|apply d_|apply e_|apply f_|apply g_);focus first|omega|(simp only[q_]<;>omega))|((with_reducible first|apply i_|apply h_);focus first|omega|(simp only[q_]<;>omega))|((with_reducible apply h_);focus first|decide|kernel_rfl)|refine s_ (by decide) ?_|refine t_ (by decide) ?_|(refine Idx.mapI (f:=rowC) k rfl q ?_)|refine r_ pc rfl ?_|(refine Need.by 24 rfl (by simp only[List.length_map,List.length_take,List.length_singleton];omega) ?_)|with_reducible first|apply l_|apply m_|apply n_|apply o_|refine p_ (fun _=>?_) (fun _=>?_))<;>(conv=>whnf)))
   all_goals first
    | exact⟨k+1,by show k+1≤_;omega,by show l.length - (k+1)<l.length - k;omega,[(60,16)],rfl,rfl,⟨⟨rfl,rfl,rfl,rfl,by rw[take_snoc q,List.map_append];rfl⟩,.inl rfl,PLe.int (by simp),PLe.int (by omega),trivial⟩,⟨rfl,rfl,rfl⟩,trivial⟩
    | (exfalso;omega)
  ·have e:l.take k=l:=List.take_of_length_le (by omega)
   rw[e]
   ((conv=>whnf);repeat' ((first|(with_reducible first|apply a_|apply b_|apply c_)|((with_reducible first|apply d_|apply e_|apply f_|apply g_);focus first|omega|(simp only[q_]<;>omega))|((with_reducible first|apply i_|apply h_);focus first|omega|(simp only[q_]<;>omega))|((with_reducible apply h_);focus first|decide|kernel_rfl)|refine s_ (by decide) ?_|refine t_ (by decide) ?_|with_reducible first|apply l_|apply m_|apply n_|apply o_|refine p_ (fun _=>?_) (fun _=>?_))<;>(conv=>whnf)))
   all_goals first|exact Ret.mk rfl | (exfalso;omega)
end
section
open Go.RowKit K
set_option maxRecDepth 100000
set_option maxRecDepth 100000
theorem p_rowscheck (l:List RowT) (hb:∀r∈l,r.length≤140737488355328):Pure Tryz.prog 47 [rwsV l] (pInt .i64 (rowsChk l)):=by
 have hml:(l.map rowC).length=l.length:=List.length_map _
 refine pure_of Tryz.func47 (by rfl) rfl (by kernel_rfl) (by rfl) ?_
 unfold rowsChk
 by_cases h40:40<l.length
 ·rw[if_pos h40]
  ((conv=>whnf);repeat' ((first|(with_reducible first|apply a_|apply b_|apply c_)|((with_reducible first|apply d_|apply e_|apply f_|apply g_);focus first|omega|(simp only[q_]<;>omega))|((with_reducible first|apply i_|apply h_);focus first|omega|(simp only[q_]<;>omega))|((with_reducible apply h_);focus first|decide|kernel_rfl)|refine s_ (by decide) ?_|refine t_ (by decide) ?_|with_reducible first|apply l_|apply m_|apply n_|apply o_|refine p_ (fun _=>?_) (fun _=>?_))<;>(conv=>whnf)))
  all_goals first|exact Ret.int rfl | (exfalso;omega)
 ·rw[if_neg h40]
  ((conv=>whnf);repeat' ((first|(with_reducible first|apply a_|apply b_|apply c_)|((with_reducible first|apply d_|apply e_|apply f_|apply g_);focus first|omega|(simp only[q_]<;>omega))|((with_reducible first|apply i_|apply h_);focus first|omega|(simp only[q_]<;>omega))|((with_reducible apply h_);focus first|decide|kernel_rfl)|refine s_ (by decide) ?_|refine t_ (by decide) ?_|with_reducible first|apply l_|apply m_|apply n_|apply o_|refine p_ (fun _=>?_) (fun _=>?_))<;>(conv=>whnf)))
  refine LoopC.mk Nat (fun k=>[(0,rwsV l),(3,pInt .i64 (k:Int))]) (fun _=>[]) [] (fun k=>k≤l.length∧∀r∈l.take k,r.length≤8∧r.length=widthF l∧vChkAll r=0) (fun k=>l.length - k) 0 ⟨Nat.zero_le _,by simp⟩ ?start ?round
  case start=>exact⟨[],rfl,rfl,⟨.inl rfl,PLe.int (by simp),trivial⟩,trivial⟩
  case round=>
   rintro k ⟨hk,hz⟩
   have hk:k≤l.length:=hk
   have hz:∀r∈l.take k,r.length≤8∧r.length=widthF l∧vChkAll r=0:=hz
   by_cases q:k<l.length
   ·have q0:0<l.length:=by omega
    have hw:=width_get q0
    have hm:(l[k].map ValueD.c).length=l[k].length:=List.length_map _
    have hm0:(l[0].map ValueD.c).length=l[0].length:=List.length_map _
    rw[rChkW_at q hz]
    by_cases h8:8<l[k].length
    ·rw[if_pos h8]
     ((conv=>whnf);repeat' ((first|(with_reducible first|apply a_|apply b_|apply c_)|((with_reducible first|apply d_|apply e_|apply f_|apply g_);focus first|omega|(simp only[q_]<;>omega))|((with_reducible first|apply i_|apply h_);focus first|omega|(simp only[q_]<;>omega))|((with_reducible apply h_);focus first|decide|kernel_rfl)|refine s_ (by decide) ?_|refine t_ (by decide) ?_|(first|refine Idx.mapI (f:=rowC) k rfl q ?_|refine Idx.mapI (f:=rowC) 0 rfl q0 ?_)|with_reducible first|apply l_|apply m_|apply n_|apply o_|refine p_ (fun _=>?_) (fun _=>?_))<;>(conv=>whnf)))
     all_goals first|exact Ret.int rfl | (exfalso;omega)
    ·rw[if_neg h8]
     by_cases hwk:l[k].length≠widthF l
     ·rw[if_pos hwk]
      ((conv=>whnf);repeat' ((first|(with_reducible first|apply a_|apply b_|apply c_)|((with_reducible first|apply d_|apply e_|apply f_|apply g_);focus first|omega|(simp only[q_]<;>omega))|((with_reducible first|apply i_|apply h_);focus first|omega|(simp only[q_]<;>omega))|((with_reducible apply h_);focus first|decide|kernel_rfl)|refine s_ (by decide) ?_|refine t_ (by decide) ?_|(first|refine Idx.mapI (f:=rowC) k rfl q ?_|refine Idx.mapI (f:=rowC) 0 rfl q0 ?_)|with_reducible first|apply l_|apply m_|apply n_|apply o_|refine p_ (fun _=>?_) (fun _=>?_))<;>(conv=>whnf)))
      all_goals first|exact Ret.int rfl | (exfalso;omega)
     ·rw[if_neg hwk]
      have hwk:l[k].length=widthF l:=Decidable.of_not_not hwk
      have pc:=p_checkvalues l[k] (by omega)
      by_cases hv:vChkAll l[k]≠0
      ·rw[if_pos hv]
       ((conv=>whnf);repeat' ((first|(with_reducible first|apply a_|apply b_|apply c_)|((with_reducible first|apply d_|apply e_|apply f_|apply g_);focus first|omega|(simp only[q_]<;>omega))|((with_reducible first|apply i_|apply h_);focus first|omega|(simp only[q_]<;>omega))|((with_reducible apply h_);focus first|decide|kernel_rfl)|refine s_ (by decide) ?_|refine t_ (by decide) ?_|(first|refine Idx.mapI (f:=rowC) k rfl q ?_|refine Idx.mapI (f:=rowC) 0 rfl q0 ?_)|refine r_ pc rfl ?_|with_reducible first|apply l_|apply m_|apply n_|apply o_|refine p_ (fun _=>?_) (fun _=>?_))<;>(conv=>whnf)))
       all_goals first|exact Ret.int rfl | (exfalso;omega)
      ·have hv:vChkAll l[k]=0:=Decidable.of_not_not hv
       rw[hv,if_neg (by decide),← rChkW_skip l (k+1) (fun r hr=>by
        rw[take_snoc q,List.mem_append,List.mem_singleton] at hr
        rcases hr with hr | rfl
        ·exact hz r hr
        ·exact⟨by omega,hwk,hv⟩)]
       rw[hv] at pc
       ((conv=>whnf);repeat' ((first|(with_reducible first|apply a_|apply b_|apply c_)|((with_reducible first|apply d_|apply e_|apply f_|apply g_);focus first|omega|(simp only[q_]<;>omega))|((with_reducible first|apply i_|apply h_);focus first|omega|(simp only[q_]<;>omega))|((with_reducible apply h_);focus first|decide|kernel_rfl)|refine s_ (by decide) ?_|refine t_ (by decide) ?_|(first|refine Idx.mapI (f:=rowC) k rfl q ?_|refine Idx.mapI (f:=rowC) 0 rfl q0 ?_)|refine r_ pc rfl ?_|with_reducible first|apply l_|apply m_|apply n_|apply o_|refine p_ (fun _=>?_) (fun _=>?_))<;>(conv=>whnf)))
       refine⟨k+1,⟨by omega,fun r hr=>?_⟩,by omega,[],rfl,rfl,⟨.inl rfl,PLe.int (by omega),trivial⟩,trivial⟩
       rw[take_snoc q,List.mem_append,List.mem_singleton] at hr
       rcases hr with hr | rfl
       ·exact hz r hr
       ·exact⟨by omega,hwk,hv⟩
   ·((conv=>whnf);repeat' ((first|(with_reducible first|apply a_|apply b_|apply c_)|((with_reducible first|apply d_|apply e_|apply f_|apply g_);focus first|omega|(simp only[q_]<;>omega))|((with_reducible first|apply i_|apply h_);focus first|omega|(simp only[q_]<;>omega))|((with_reducible apply h_);focus first|decide|kernel_rfl)|refine s_ (by decide) ?_|refine t_ (by decide) ?_|with_reducible first|apply l_|apply m_|apply n_|apply o_|refine p_ (fun _=>?_) (fun _=>?_))<;>(conv=>whnf)))
    refine Ret.int ?_
    rw[rChkW_ok.2 fun x hx=>hz x (by rw[List.take_of_length_le (by omega)];exact hx)]
def rowEqB (a b:RowT):Bool:=listEqB ValueD.eqB a b
def rowsEqB (a b:List RowT):Bool:=listEqB rowEqB a b
theorem p_samerows (a b:List RowT) (hla:a.length≤140737488355328) (ha:∀r∈a,r.length≤140737488355328):Pure Tryz.prog 10 [rwsV a,rwsV b] (pBool (rowsEqB a b)):=by
 have hma:(a.map rowC).length=a.length:=List.length_map _
 have hmb:(b.map rowC).length=b.length:=List.length_map _
 refine pure_of Tryz.func10 (by rfl) rfl (by kernel_rfl) (by rfl) ?_
 by_cases hl:a.length=b.length
 ·((conv=>whnf);repeat' ((first|(with_reducible first|apply a_|apply b_|apply c_)|((with_reducible first|apply d_|apply e_|apply f_|apply g_);focus first|omega|(simp only[q_]<;>omega))|((with_reducible first|apply i_|apply h_);focus first|omega|(simp only[q_]<;>omega))|((with_reducible apply h_);focus first|decide|kernel_rfl)|refine s_ (by decide) ?_|refine t_ (by decide) ?_|with_reducible first|apply l_|apply m_|apply n_|apply o_|refine p_ (fun _=>?_) (fun _=>?_))<;>(conv=>whnf)))
  refine LoopC.mk Nat (fun k=>[(0,rwsV a),(1,rwsV b),(5,pInt .i64 k)]) (fun _=>[]) [] (fun k=>k≤a.length∧listEqB rowEqB (a.take k) (b.take k)=true) (fun k=>a.length - k) 0 ⟨Nat.zero_le _,by simp[listEqB]⟩ ?start ?round
  case start=>exact⟨[],rfl,rfl,⟨.inl rfl,.inl rfl,.inl rfl,trivial⟩,trivial⟩
  case round=>
   rintro k ⟨hk,hz⟩
   have hk:k≤a.length:=hk
   by_cases h1:k<a.length
   ·have h2:k<b.length:=by omega
    have ps:=p_samerow a[k] b[k] (ha _ (List.getElem_mem h1))
    cases hx:listEqB ValueD.eqB a[k] b[k] with
    | true=>
     rw[hx] at ps
     ((conv=>whnf);repeat' ((first|(with_reducible first|apply a_|apply b_|apply c_)|((with_reducible first|apply d_|apply e_|apply f_|apply g_);focus first|omega|(simp only[q_]<;>omega))|((with_reducible first|apply i_|apply h_);focus first|omega|(simp only[q_]<;>omega))|((with_reducible apply h_);focus first|decide|kernel_rfl)|refine s_ (by decide) ?_|refine t_ (by decide) ?_|(first|refine Idx.mapI (f:=rowC) (l:=a) k rfl h1 ?_|refine Idx.mapI (f:=rowC) (l:=b) k rfl h2 ?_)|refine r_ ps rfl ?_|with_reducible first|apply l_|apply m_|apply n_|apply o_|refine p_ (fun _=>?_) (fun _=>?_))<;>(conv=>whnf)))
     exact⟨k+1,⟨by omega,(listEqB_step hz h1 h2).trans hx⟩,by omega,[],rfl,rfl,⟨.inl rfl,.inl rfl,PLe.int (by omega),trivial⟩,trivial⟩
    | false=>
     rw[hx] at ps
     ((conv=>whnf);repeat' ((first|(with_reducible first|apply a_|apply b_|apply c_)|((with_reducible first|apply d_|apply e_|apply f_|apply g_);focus first|omega|(simp only[q_]<;>omega))|((with_reducible first|apply i_|apply h_);focus first|omega|(simp only[q_]<;>omega))|((with_reducible apply h_);focus first|decide|kernel_rfl)|refine s_ (by decide) ?_|refine t_ (by decide) ?_|(first|refine Idx.mapI (f:=rowC) (l:=a) k rfl h1 ?_|refine Idx.mapI (f:=rowC) (l:=b) k rfl h2 ?_)|refine r_ ps rfl ?_|with_reducible first|apply l_|apply m_|apply n_|apply o_|refine p_ (fun _=>?_) (fun _=>?_))<;>(conv=>whnf)))
     exact Ret.bool (listEqB_stop h1 h2 hx).symm
   ·((conv=>whnf);repeat' ((first|(with_reducible first|apply a_|apply b_|apply c_)|((with_reducible first|apply d_|apply e_|apply f_|apply g_);focus first|omega|(simp only[q_]<;>omega))|((with_reducible first|apply i_|apply h_);focus first|omega|(simp only[q_]<;>omega))|((with_reducible apply h_);focus first|decide|kernel_rfl)|refine s_ (by decide) ?_|refine t_ (by decide) ?_|with_reducible first|apply l_|apply m_|apply n_|apply o_|refine p_ (fun _=>?_) (fun _=>?_))<;>(conv=>whnf)))
    exact Ret.bool (listEqB_all hz (by omega) (by omega)).symm
 ·((conv=>whnf);repeat' ((first|(with_reducible first|apply a_|apply b_|apply c_)|((with_reducible first|apply d_|apply e_|apply f_|apply g_);focus first|omega|(simp only[q_]<;>omega))|((with_reducible first|apply i_|apply h_);focus first|omega|(simp only[q_]<;>omega))|((with_reducible apply h_);focus first|decide|kernel_rfl)|refine s_ (by decide) ?_|refine t_ (by decide) ?_|with_reducible first|apply l_|apply m_|apply n_|apply o_|refine p_ (fun _=>?_) (fun _=>?_))<;>(conv=>whnf)))
  exact Ret.bool (listEqB_len hl).symm
def howF (l:List RowT) (row:RowT):Nat:=l.countP (rowEqB · row)
theorem p_widthR (l:List RowT) (hr:∀r∈l,r.length≤140737488355328):Pure Tryz.prog 13 [rwsV l] (pInt .i64 (widthF l:Int)):=by
 have hml:(l.map rowC).length=l.length:=List.length_map _
 refine pure_of Tryz.func13 (by rfl) rfl (by kernel_rfl) (by rfl) ?_
 by_cases h:0<l.length
 ·have hw:=width_get h
  have hm:(l[0].map ValueD.c).length=l[0].length:=List.length_map _
  ((conv=>whnf);repeat' ((first|(with_reducible first|apply a_|apply b_|apply c_)|((with_reducible first|apply d_|apply e_|apply f_|apply g_);focus first|omega|(simp only[q_]<;>omega))|((with_reducible first|apply i_|apply h_);focus first|omega|(simp only[q_]<;>omega))|((with_reducible apply h_);focus first|decide|kernel_rfl)|refine s_ (by decide) ?_|refine t_ (by decide) ?_|(refine Idx.mapI (f:=rowC) 0 rfl h ?_)|with_reducible first|apply l_|apply m_|apply n_|apply o_|refine p_ (fun _=>?_) (fun _=>?_))<;>(conv=>whnf)))
  all_goals first|exact Ret.int (by omega) | (exfalso;omega)
 ·have e:l=[]:=List.eq_nil_of_length_eq_zero (by omega)
  subst e
  ((conv=>whnf);repeat' ((first|(with_reducible first|apply a_|apply b_|apply c_)|((with_reducible first|apply d_|apply e_|apply f_|apply g_);focus first|omega|(simp only[q_]<;>omega))|((with_reducible first|apply i_|apply h_);focus first|omega|(simp only[q_]<;>omega))|((with_reducible apply h_);focus first|decide|kernel_rfl)|refine s_ (by decide) ?_|refine t_ (by decide) ?_|with_reducible first|apply l_|apply m_|apply n_|apply o_|refine p_ (fun _=>?_) (fun _=>?_))<;>(conv=>whnf)))
  all_goals first|exact Ret.int rfl | (exfalso;omega)
end
section
open Go.RowKit K
set_option maxRecDepth 100000
set_option maxRecDepth 100000
def limF (l:List RowT) (skip most:Int):List RowT×Int:=
 if rowsChk l≠0 then ([],rowsChk l) else if skip<0∨most<0 then ([],3) else ((l.drop skip.toNat).take most.toNat,0)
theorem lim_rows (M:List (List C)) (skip most:Int) (hs:0≤skip) (hm:0≤most):List.take ((if ((List.take ((M.length:Int).toNat - (if (M.length:Int)<skip then (M.length:Int) else skip).toNat) (List.drop (if (M.length:Int)<skip then (M.length:Int) else skip).toNat M)).length:Int)<most then ((List.take ((M.length:Int).toNat - (if (M.length:Int)<skip then (M.length:Int) else skip).toNat) (List.drop (if (M.length:Int)<skip then (M.length:Int) else skip).toNat M)).length:Int) else most).toNat - (0:Int).toNat) (List.drop (0:Int).toNat (List.take ((M.length:Int).toNat - (if (M.length:Int)<skip then (M.length:Int) else skip).toNat) (List.drop (if (M.length:Int)<skip then (M.length:Int) else skip).toNat M)))=(M.drop skip.toNat).take most.toNat:=by
 have e1:List.take ((M.length:Int).toNat - (if (M.length:Int)<skip then (M.length:Int) else skip).toNat) (List.drop (if (M.length:Int)<skip then (M.length:Int) else skip).toNat M)=M.drop skip.toNat:=by
  split
  ·rw[List.drop_of_length_le (by omega),List.drop_of_length_le (by omega)];simp
  ·exact List.take_of_length_le (by rw[List.length_drop];omega)
 rw[e1,show (0:Int).toNat=0 from rfl,List.drop_zero,Nat.sub_zero]
 split
 ·rw[List.take_of_length_le (by omega),List.take_of_length_le (by omega)]
 ·rfl
theorem p_Limit (l:List RowT) (skip most:Int):Pure Tryz.prog 33 [rwsV l,pInt .i64 skip,pInt .i64 most] (.tup [rwsV (limF l skip most).1,pInt .i64 (limF l skip most).2]):=by
 have pc:=p_bagcheck l
 have hml:(l.map rowC).length=l.length:=List.length_map _
 refine pure_of Tryz.func33 (by rfl) rfl (by kernel_rfl) (by rfl) ?_
 unfold limF
 by_cases h1:rowsChk l=0
 ·rw[if_neg (not_not_intro h1)]
  rw[h1] at pc
  obtain⟨h40,h8⟩:=rowsChk_ok.1 h1
  by_cases h2:skip<0∨most<0
  ·rw[if_pos h2]
   ((conv=>whnf);repeat' ((first|(with_reducible first|apply a_|apply b_|apply c_)|((with_reducible first|apply d_|apply e_|apply f_|apply g_);focus first|omega|(simp only[q_]<;>omega))|((with_reducible first|apply i_|apply h_);focus first|omega|(simp only[q_]<;>omega))|((with_reducible apply h_);focus first|decide|kernel_rfl)|refine s_ (by decide) ?_|refine t_ (by decide) ?_|refine r_ pc rfl ?_|with_reducible first|apply l_|apply m_|apply n_|apply o_|refine p_ (fun _=>?_) (fun _=>?_))<;>(conv=>whnf)))
   all_goals first|exact Ret.le ⟨.inr ⟨⟨1,rfl⟩,.inl rfl⟩,.inl rfl,rfl⟩ | (exfalso;omega)
  ·rw[if_neg h2]
   have hs:0≤skip:=by omega
   have hm:0≤most:=by omega
   have po:=p_own_rows ((l.drop skip.toNat).take most.toNat) (by rw[List.length_take,List.length_drop];omega) (fun r hr=>by have:=(h8 r (List.mem_of_mem_drop (List.mem_of_mem_take hr))).1;omega)
   have po:=(show Pure Tryz.prog 53 [.d (.c (.sl 1 (((l.drop skip.toNat).take most.toNat).map rowC)))] _ from po)
   rw[List.map_take,List.map_drop,← lim_rows (l.map rowC) skip most hs hm] at po
   ((conv=>whnf);repeat' ((first|(with_reducible first|apply a_|apply b_|apply c_)|((with_reducible first|apply d_|apply e_|apply f_|apply g_);focus first|omega|(simp only[q_]<;>omega))|((with_reducible first|apply i_|apply h_);focus first|omega|(simp only[q_]<;>omega))|((with_reducible apply h_);focus first|decide|kernel_rfl)|refine s_ (by decide) ?_|refine t_ (by decide) ?_|refine r_ pc rfl ?_|refine r_ po rfl ?_|with_reducible first|apply l_|apply m_|apply n_|apply o_|refine p_ (fun _=>?_) (fun _=>?_))<;>(conv=>whnf)))
   all_goals first|exact Ret.eq rfl | (exfalso;omega) | skip
 ·rw[if_pos h1]
  ((conv=>whnf);repeat' ((first|(with_reducible first|apply a_|apply b_|apply c_)|((with_reducible first|apply d_|apply e_|apply f_|apply g_);focus first|omega|(simp only[q_]<;>omega))|((with_reducible first|apply i_|apply h_);focus first|omega|(simp only[q_]<;>omega))|((with_reducible apply h_);focus first|decide|kernel_rfl)|refine s_ (by decide) ?_|refine t_ (by decide) ?_|refine r_ pc rfl ?_|with_reducible first|apply l_|apply m_|apply n_|apply o_|refine p_ (fun _=>?_) (fun _=>?_))<;>(conv=>whnf)))
  all_goals first|exact Ret.le ⟨.inr ⟨⟨1,rfl⟩,.inl rfl⟩,.inl rfl,rfl⟩ | (exfalso;omega)
end
section
open Go.RowKit K
set_option maxRecDepth 100000
abbrev vO (x:ValueD):ValP.ValD:=(x.Kind,x.N,tx x.S)
def vOrd (x y:ValueD):Int:=ValP.order (vO x) (vO y)
theorem vVv (x:ValueD) {F:Fzn} {w:World} {u:Value} (h:PRep (fun _=>none) F w (vV x) u):u=.agg #[.int .i64 x.Kind,.int .i64 x.N,.string (tx x.S)]:=by
 unfold PRep at h
 obtain⟨xs,rfl,h⟩:=h
 obtain⟨u1,r1,rfl,h1,h⟩:=dsRep_inv (show DsRep _ _ _ [D.c (C.v (.int .i64 x.Kind)),D.c (C.v (.int .i64 x.N)),D.c (C.v (.string (tx x.S)))] xs from h)
 obtain⟨u2,r2,rfl,h2,h⟩:=dsRep_inv h
 obtain⟨u3,r3,rfl,h3,h⟩:=dsRep_inv h
 rw[dsRep_nil_inv h]
 unfold DRep CRep at h1 h2 h3
 rw[h1.1,h2.1,h3.1]
theorem pure_two {P:Program} {f:FuncId} {x y:ValueD} {res:PV} (hf:fnOk P f)
  (h:∀w:World,GL w→Calls P f #[.agg #[.int .i64 x.Kind,.int .i64 x.N,.string (tx x.S)],.agg #[.int .i64 y.Kind,.int .i64 y.N,.string (tx y.S)]] w fun e w'=>∃v,e=.returned v∧Below w.heap.size w w'∧∀F:Fzn,PRep (fun _=>none) F w' res v) :
  Pure P f [vV x,vV y] res:=by
 refine⟨hf,fun F w us hG hF hus=>?_⟩
 match us,hus with
 | [u,v],hus=>
  unfold PsRep at hus
  obtain⟨h1,hus⟩:=hus
  unfold PsRep at hus
  rw[vVv x h1,vVv y hus.1]
  refine (h w hG).mono ?_
  rintro e w' ⟨z,rfl,hb,hr⟩
  exact⟨z,rfl,hb,hr _⟩
 | [],hus=>unfold PsRep at hus;exact hus.elim
 | [_],hus=>unfold PsRep PsRep at hus;exact hus.2.elim
 | _::_::_::_,hus=>unfold PsRep PsRep PsRep at hus;exact hus.2.2.elim
theorem p_vorder (x y:ValueD):Pure Tryz.prog 45 [vV x,vV y] (pInt .i64 (vOrd x y)):=by
 refine pure_two ⟨_,Tryz.func45,by rfl,by rfl⟩ fun w hG=>?_
 refine (ValP.order_any x.Kind x.N (tx x.S) y.Kind y.N (tx y.S) w).mono ?_
 rintro e w' ⟨rfl,hb⟩
 exact⟨_,rfl,hb,fun F=>rep_int _ _⟩
theorem p_vless (x y:ValueD) (hx:okText x.S) (hy:okText y.S):Pure Tryz.prog 48 [vV x,vV y] (pBool (decide (vOrd x y<0))):=by
 refine pure_two ⟨_,Tryz.func48,by rfl,by rfl⟩ fun w hG=>?_
 refine (ValP.valueless_any x.Kind x.N (tx x.S) y.Kind y.N (tx y.S) w hx hy).mono ?_
 rintro e w' ⟨rfl,hb⟩
 exact⟨_,rfl,hb,fun F=>rep_bool _⟩
theorem vOrd_zero (x y:ValueD):vOrd x y=0↔x=y:=by
 unfold vOrd
 rw[ValP.order_zero]
 cases x;cases y
 simp[tx_eq]
theorem vOrd_swap (x y:ValueD):vOrd y x=- vOrd x y:=ValP.order_swap _ _
theorem vOrd_cases (x y:ValueD):vOrd x y=-1∨vOrd x y=0∨vOrd x y=1:=by
 have h1:=ValP.cmpI_cases x.Kind y.Kind
 have h2:=ValP.cmpI_cases x.N y.N
 have h3:=ValP.compareBytes_cases x.S y.S
 unfold vOrd
 rw[ValP.order_eq]
 have e3:ValP.cmpS (tx x.S) (tx y.S)=Lib.compareBytes x.S y.S:=rfl
 simp only[e3]
 (repeat' split)<;>simp_all
end
section
open Go.RowKit K
set_option maxRecDepth 100000
set_option maxRecDepth 100000
structure KeyD where
 Col:Int
 Desc:Bool
def KeyD.c (x:KeyD):List C:=[.v (.int .i64 x.Col),.v (.bool x.Desc)]
def KeyD.ok (x:KeyD):Prop:=okInt x.Col∧okAny x.Desc
def KeyD.eqB (x y:KeyD):Bool:=(decide (x.Col=y.Col)&&((x.Desc==y.Desc)&&true))
theorem KeyD.eqB_iff (x y:KeyD):KeyD.eqB x y=true↔x=y:=by
 cases x;cases y
 simp[KeyD.eqB,tx_eq]
def ordK:List KeyD→RowT→RowT→Int
 | [],_,_=>0
 | k::ks,a,b=>if vOrd (a.getD k.Col.toNat noV) (b.getD k.Col.toNat noV)≠0 then (if k.Desc then -(vOrd (a.getD k.Col.toNat noV) (b.getD k.Col.toNat noV)) else vOrd (a.getD k.Col.toNat noV) (b.getD k.Col.toNat noV)) else ordK ks a b
theorem vOrd_in (a b:ValueD):-1≤vOrd a b∧vOrd a b≤1:=by
 rcases vOrd_cases a b with h | h | h<;>rw[h]<;>decide
theorem p_order (keys:List KeyD) (hk:keys.length≤1000) (a b:RowT) (hc:∀k∈keys,0≤k.Col∧k.Col<a.length∧k.Col<b.length):Pure Tryz.prog 55 [slV 2 KeyD.c keys,slV 3 ValueD.c a,slV 3 ValueD.c b] (pInt .i64 (ordK keys a b)):=by
 refine pure_of Tryz.func55 (by rfl) rfl (by kernel_rfl) (by rfl) ?_
 ((conv=>whnf);repeat' ((first|(with_reducible first|apply a_|apply b_|apply c_)|((with_reducible first|apply d_|apply e_|apply f_|apply g_);focus first|omega|(simp only[q_]<;>omega))|((with_reducible first|apply i_|apply h_);focus first|omega|(simp only[q_]<;>omega))|((with_reducible apply h_);focus first|decide|kernel_rfl)|refine s_ (by decide) ?_|refine t_ (by decide) ?_|with_reducible first|apply l_|apply m_|apply n_|apply o_|refine p_ (fun _=>?_) (fun _=>?_))<;>(conv=>whnf)))
 refine LoopC.mk Nat (fun k=>[(1,slV 3 ValueD.c a),(2,slV 3 ValueD.c b),(10,slV 2 KeyD.c keys),(11,pInt .i64 keys.length),(12,pInt .i64 (k:Int))]) (fun _=>[]) [] (fun k=>k≤keys.length∧ordK keys a b=ordK (keys.drop k) a b) (fun k=>keys.length - k) 0 ⟨Nat.zero_le _,by rw[List.drop_zero]⟩ ?start ?round
 case start=>exact⟨[],rfl,rfl,⟨.inl rfl,.inl rfl,.inl rfl,PLe.int (by simp),.inl rfl,trivial⟩,trivial⟩
 case round=>
  rintro k ⟨hk,hz⟩
  have hk:k≤keys.length:=hk
  have hz:ordK keys a b=ordK (keys.drop k) a b:=hz
  by_cases q:k<keys.length
  ·rw[List.drop_eq_getElem_cons q,ordK] at hz
   obtain⟨c1,c2,c3⟩:=hc _ (List.getElem_mem q)
   have ca:keys[k].Col.toNat<a.length:=by omega
   have cb:keys[k].Col.toNat<b.length:=by omega
   have cc:keys[k].Col=(keys[k].Col.toNat:Int):=by omega
   rw[List.getD_eq_getElem?_getD,List.getD_eq_getElem?_getD,List.getElem?_eq_getElem ca,List.getElem?_eq_getElem cb,Option.getD_some,Option.getD_some] at hz
   have pv:=p_vorder a[keys[k].Col.toNat] b[keys[k].Col.toNat]
   have hv:=vOrd_in a[keys[k].Col.toNat] b[keys[k].Col.toNat]
   generalize hn:vOrd a[keys[k].Col.toNat] b[keys[k].Col.toNat]=n at *
   cases hd:keys[k].Desc with
   | true=>
    rw[hd] at hz
    have hz:ordK keys a b=if n≠0 then -n else ordK (keys.drop (k+1)) a b:=hz
    by_cases h0:n=0
    ·subst h0
     rw[if_neg (not_not_intro rfl)] at hz
     ((conv=>whnf);repeat' ((first|(with_reducible first|apply a_|apply b_|apply c_)|((with_reducible first|apply d_|apply e_|apply f_|apply g_);focus first|omega|(simp only[q_]<;>omega))|((with_reducible first|apply i_|apply h_);focus first|omega|(simp only[q_]<;>omega))|((with_reducible apply h_);focus first|decide|kernel_rfl)|refine s_ (by decide) ?_|refine t_ (by decide) ?_|(first|refine Idx.mapI (f:=KeyD.c) k rfl q ?_|refine Idx.mapI (f:=ValueD.c) keys[k].Col.toNat cc ca ?_|refine Idx.mapI (f:=ValueD.c) keys[k].Col.toNat cc cb ?_)|refine r_ pv rfl ?_|(refine BCase.t hd ?_)|with_reducible first|apply l_|apply m_|apply n_|apply o_|refine p_ (fun _=>?_) (fun _=>?_))<;>(conv=>whnf)))
     all_goals first
      | (exfalso;omega)
      | exact⟨k+1,⟨by show k+1≤_;omega,hz⟩,by show keys.length - (k+1)<keys.length - k;omega,[],rfl,rfl,⟨.inl rfl,.inl rfl,.inl rfl,PLe.int (by simp),PLe.int (by omega),trivial⟩,trivial⟩
    ·rw[hz,if_pos h0]
     ((conv=>whnf);repeat' ((first|(with_reducible first|apply a_|apply b_|apply c_)|((with_reducible first|apply d_|apply e_|apply f_|apply g_);focus first|omega|(simp only[q_]<;>omega))|((with_reducible first|apply i_|apply h_);focus first|omega|(simp only[q_]<;>omega))|((with_reducible apply h_);focus first|decide|kernel_rfl)|refine s_ (by decide) ?_|refine t_ (by decide) ?_|(first|refine Idx.mapI (f:=KeyD.c) k rfl q ?_|refine Idx.mapI (f:=ValueD.c) keys[k].Col.toNat cc ca ?_|refine Idx.mapI (f:=ValueD.c) keys[k].Col.toNat cc cb ?_)|refine r_ pv rfl ?_|(refine BCase.t hd ?_)|with_reducible first|apply l_|apply m_|apply n_|apply o_|refine p_ (fun _=>?_) (fun _=>?_))<;>(conv=>whnf)))
     all_goals first|exact Ret.int rfl|exact Ret.int (by simp) | (exfalso;omega)
   | false=>
    rw[hd] at hz
    have hz:ordK keys a b=if n≠0 then n else ordK (keys.drop (k+1)) a b:=hz
    by_cases h0:n=0
    ·subst h0
     rw[if_neg (not_not_intro rfl)] at hz
     ((conv=>whnf);repeat' ((first|(with_reducible first|apply a_|apply b_|apply c_)|((with_reducible first|apply d_|apply e_|apply f_|apply g_);focus first|omega|(simp only[q_]<;>omega))|((with_reducible first|apply i_|apply h_);focus first|omega|(simp only[q_]<;>omega))|((with_reducible apply h_);focus first|decide|kernel_rfl)|refine s_ (by decide) ?_|refine t_ (by decide) ?_|(first|refine Idx.mapI (f:=KeyD.c) k rfl q ?_|refine Idx.mapI (f:=ValueD.c) keys[k].Col.toNat cc ca ?_|refine Idx.mapI (f:=ValueD.c) keys[k].Col.toNat cc cb ?_)|refine r_ pv rfl ?_|(refine BCase.f hd ?_)|with_reducible first|apply l_|apply m_|apply n_|apply o_|refine p_ (fun _=>?_) (fun _=>?_))<;>(conv=>whnf)))
     all_goals first
      | (exfalso;omega)
      | exact⟨k+1,⟨by show k+1≤_;omega,hz⟩,by show keys.length - (k+1)<keys.length - k;omega,[],rfl,rfl,⟨.inl rfl,.inl rfl,.inl rfl,PLe.int (by simp),PLe.int (by omega),trivial⟩,trivial⟩
    ·rw[hz,if_pos h0]
     ((conv=>whnf);repeat' ((first|(with_reducible first|apply a_|apply b_|apply c_)|((with_reducible first|apply d_|apply e_|apply f_|apply g_);focus first|omega|(simp only[q_]<;>omega))|((with_reducible first|apply i_|apply h_);focus first|omega|(simp only[q_]<;>omega))|((with_reducible apply h_);focus first|decide|kernel_rfl)|refine s_ (by decide) ?_|refine t_ (by decide) ?_|(first|refine Idx.mapI (f:=KeyD.c) k rfl q ?_|refine Idx.mapI (f:=ValueD.c) keys[k].Col.toNat cc ca ?_|refine Idx.mapI (f:=ValueD.c) keys[k].Col.toNat cc cb ?_)|refine r_ pv rfl ?_|(refine BCase.f hd ?_)|with_reducible first|apply l_|apply m_|apply n_|apply o_|refine p_ (fun _=>?_) (fun _=>?_))<;>(conv=>whnf)))
     all_goals first|exact Ret.int rfl|exact Ret.int (by simp) | (exfalso;omega)
  ·have e:keys.drop k=[]:=List.drop_of_length_le (by omega)
   rw[e] at hz
   rw[hz]
   ((conv=>whnf);repeat' ((first|(with_reducible first|apply a_|apply b_|apply c_)|((with_reducible first|apply d_|apply e_|apply f_|apply g_);focus first|omega|(simp only[q_]<;>omega))|((with_reducible first|apply i_|apply h_);focus first|omega|(simp only[q_]<;>omega))|((with_reducible apply h_);focus first|decide|kernel_rfl)|refine s_ (by decide) ?_|refine t_ (by decide) ?_|with_reducible first|apply l_|apply m_|apply n_|apply o_|refine p_ (fun _=>?_) (fun _=>?_))<;>(conv=>whnf)))
   all_goals first|exact Ret.mk rfl | (exfalso;omega)
def placesF (l:List RowT):List Int→Int
 | []=>0
 | c::cs=>if 0<l.length∧(c<0∨(widthF l:Int)≤c) then 3 else placesF l cs
def iC (c:Int):List C:=[.v (.int .i64 c)]
theorem p_places (l:List RowT) (hr:∀r∈l,r.length≤140737488355328) (at_:List Int) (ha:at_.length≤1000):Pure Tryz.prog 38 [rwsV l,slV 1 iC at_] (pInt .i64 (placesF l at_)):=by
 have pw:=p_width l hr
 have hml:(l.map rowC).length=l.length:=List.length_map _
 refine pure_of Tryz.func38 (by rfl) rfl (by kernel_rfl) (by rfl) ?_
 ((conv=>whnf);repeat' ((first|(with_reducible first|apply a_|apply b_|apply c_)|((with_reducible first|apply d_|apply e_|apply f_|apply g_);focus first|omega|(simp only[q_]<;>omega))|((with_reducible first|apply i_|apply h_);focus first|omega|(simp only[q_]<;>omega))|((with_reducible apply h_);focus first|decide|kernel_rfl)|refine s_ (by decide) ?_|refine t_ (by decide) ?_|with_reducible first|apply l_|apply m_|apply n_|apply o_|refine p_ (fun _=>?_) (fun _=>?_))<;>(conv=>whnf)))
 refine LoopC.mk Nat (fun k=>[(0,rwsV l),(7,slV 1 iC at_),(8,pInt .i64 at_.length),(9,pInt .i64 (k:Int))]) (fun _=>[]) [] (fun k=>k≤at_.length∧placesF l at_=placesF l (at_.drop k)) (fun k=>at_.length - k) 0 ⟨Nat.zero_le _,by rw[List.drop_zero]⟩ ?start ?round
 case start=>exact⟨[],rfl,rfl,⟨.inl rfl,.inl rfl,PLe.int (by simp),.inl rfl,trivial⟩,trivial⟩
 case round=>
  rintro k ⟨hk,hz⟩
  have hk:k≤at_.length:=hk
  have hz:placesF l at_=placesF l (at_.drop k):=hz
  by_cases q:k<at_.length
  ·rw[List.drop_eq_getElem_cons q,placesF] at hz
   by_cases h:0<l.length∧(at_[k]<0∨(widthF l:Int)≤at_[k])
   ·rw[if_pos h] at hz
    rw[hz]
    ((conv=>whnf);repeat' ((first|(with_reducible first|apply a_|apply b_|apply c_)|((with_reducible first|apply d_|apply e_|apply f_|apply g_);focus first|omega|(simp only[q_]<;>omega))|((with_reducible first|apply i_|apply h_);focus first|omega|(simp only[q_]<;>omega))|((with_reducible apply h_);focus first|decide|kernel_rfl)|refine s_ (by decide) ?_|refine t_ (by decide) ?_|(refine Idx.mapI (f:=iC) k rfl q ?_)|refine r_ pw rfl ?_|with_reducible first|apply l_|apply m_|apply n_|apply o_|refine p_ (fun _=>?_) (fun _=>?_))<;>(conv=>whnf)))
    all_goals first|exact Ret.int rfl | (exfalso;omega)
   ·rw[if_neg h] at hz
    ((conv=>whnf);repeat' ((first|(with_reducible first|apply a_|apply b_|apply c_)|((with_reducible first|apply d_|apply e_|apply f_|apply g_);focus first|omega|(simp only[q_]<;>omega))|((with_reducible first|apply i_|apply h_);focus first|omega|(simp only[q_]<;>omega))|((with_reducible apply h_);focus first|decide|kernel_rfl)|refine s_ (by decide) ?_|refine t_ (by decide) ?_|(refine Idx.mapI (f:=iC) k rfl q ?_)|refine r_ pw rfl ?_|with_reducible first|apply l_|apply m_|apply n_|apply o_|refine p_ (fun _=>?_) (fun _=>?_))<;>(conv=>whnf)))
    all_goals first
     | (exfalso;omega)
     | exact⟨k+1,⟨by show k+1≤_;omega,hz⟩,by show at_.length - (k+1)<at_.length - k;omega,[],rfl,rfl,⟨.inl rfl,.inl rfl,PLe.int (by simp),PLe.int (by omega),trivial⟩,trivial⟩
  ·rw[List.drop_of_length_le (by omega)] at hz
   rw[hz]
   ((conv=>whnf);repeat' ((first|(with_reducible first|apply a_|apply b_|apply c_)|((with_reducible first|apply d_|apply e_|apply f_|apply g_);focus first|omega|(simp only[q_]<;>omega))|((with_reducible first|apply i_|apply h_);focus first|omega|(simp only[q_]<;>omega))|((with_reducible apply h_);focus first|decide|kernel_rfl)|refine s_ (by decide) ?_|refine t_ (by decide) ?_|with_reducible first|apply l_|apply m_|apply n_|apply o_|refine p_ (fun _=>?_) (fun _=>?_))<;>(conv=>whnf)))
   all_goals first|exact Ret.mk rfl | (exfalso;omega)
end
section
open Go.RowKit K
set_option maxRecDepth 100000
set_option maxRecDepth 100000
abbrev TPA:Nat:=47
abbrev TP:Nat:=49
abbrev TV:Nat:=36
abbrev TES:Nat:=33
theorem p_equal (a b:List ValueD) (ha:a.length≤140737488355328):Pure Tryz.prog 41 [slV 3 ValueD.c a,slV 3 ValueD.c b] (pBool (rowEqB a b)):=by
 unfold rowEqB
 refine pure_of Tryz.func41 (by rfl) rfl (by kernel_rfl) (by rfl) ?_
 by_cases hl:a.length=b.length
 ·((conv=>whnf);repeat' ((first|(with_reducible first|apply a_|apply b_|apply c_)|((with_reducible first|apply d_|apply e_|apply f_|apply g_);focus first|omega|(simp only[q_]<;>omega))|((with_reducible first|apply i_|apply h_);focus first|omega|(simp only[q_]<;>omega))|((with_reducible apply h_);focus first|decide|kernel_rfl)|refine s_ (by decide) ?_|refine t_ (by decide) ?_|with_reducible first|apply l_|apply m_|apply n_|apply o_|refine p_ (fun _=>?_) (fun _=>?_))<;>(conv=>whnf)))
  refine LoopC.mk Nat (fun k=>[(0,slV 3 ValueD.c a),(1,slV 3 ValueD.c b),(12,pInt .i64 a.length),(13,pInt .i64 k)]) (fun _=>[]) [] (fun k=>k≤a.length∧listEqB ValueD.eqB (a.take k) (b.take k)=true) (fun k=>a.length - k) 0 ⟨Nat.zero_le _,by simp[listEqB]⟩ ?start ?round
  case start=>exact⟨[],rfl,rfl,⟨.inl rfl,.inl rfl,PLe.int (by simp),.inl rfl,trivial⟩,trivial⟩
  case round=>
   rintro k ⟨hk,hz⟩
   have hk:k≤a.length:=hk
   by_cases h1:k<a.length
   ·have h2:k<b.length:=by omega
    cases hx:ValueD.eqB a[k] b[k] with
    | true=>
     ((conv=>whnf);repeat' ((first|(with_reducible first|apply a_|apply b_|apply c_)|((with_reducible first|apply d_|apply e_|apply f_|apply g_);focus first|omega|(simp only[q_]<;>omega))|((with_reducible first|apply i_|apply h_);focus first|omega|(simp only[q_]<;>omega))|((with_reducible apply h_);focus first|decide|kernel_rfl)|refine s_ (by decide) ?_|refine t_ (by decide) ?_|(first|refine Idx.mapI (l:=a) k rfl h1 ?_|refine Idx.mapI (l:=b) k rfl h2 ?_)|(refine BCase.f (congrArg not hx) ?_)|with_reducible first|apply l_|apply m_|apply n_|apply o_|refine p_ (fun _=>?_) (fun _=>?_))<;>(conv=>whnf)))
     exact⟨k+1,⟨by omega,(listEqB_step hz h1 h2).trans hx⟩,by omega,[],rfl,rfl,⟨.inl rfl,.inl rfl,.inl rfl,PLe.int (by omega),trivial⟩,trivial⟩
    | false=>
     ((conv=>whnf);repeat' ((first|(with_reducible first|apply a_|apply b_|apply c_)|((with_reducible first|apply d_|apply e_|apply f_|apply g_);focus first|omega|(simp only[q_]<;>omega))|((with_reducible first|apply i_|apply h_);focus first|omega|(simp only[q_]<;>omega))|((with_reducible apply h_);focus first|decide|kernel_rfl)|refine s_ (by decide) ?_|refine t_ (by decide) ?_|(first|refine Idx.mapI (l:=a) k rfl h1 ?_|refine Idx.mapI (l:=b) k rfl h2 ?_)|(refine BCase.t (congrArg not hx) ?_)|with_reducible first|apply l_|apply m_|apply n_|apply o_|refine p_ (fun _=>?_) (fun _=>?_))<;>(conv=>whnf)))
     exact Ret.bool (listEqB_stop h1 h2 hx).symm
   ·((conv=>whnf);repeat' ((first|(with_reducible first|apply a_|apply b_|apply c_)|((with_reducible first|apply d_|apply e_|apply f_|apply g_);focus first|omega|(simp only[q_]<;>omega))|((with_reducible first|apply i_|apply h_);focus first|omega|(simp only[q_]<;>omega))|((with_reducible apply h_);focus first|decide|kernel_rfl)|refine s_ (by decide) ?_|refine t_ (by decide) ?_|with_reducible first|apply l_|apply m_|apply n_|apply o_|refine p_ (fun _=>?_) (fun _=>?_))<;>(conv=>whnf)))
    exact Ret.bool (listEqB_all hz (by omega) (by omega)).symm
 ·((conv=>whnf);repeat' ((first|(with_reducible first|apply a_|apply b_|apply c_)|((with_reducible first|apply d_|apply e_|apply f_|apply g_);focus first|omega|(simp only[q_]<;>omega))|((with_reducible first|apply i_|apply h_);focus first|omega|(simp only[q_]<;>omega))|((with_reducible apply h_);focus first|decide|kernel_rfl)|refine s_ (by decide) ?_|refine t_ (by decide) ?_|with_reducible first|apply l_|apply m_|apply n_|apply o_|refine p_ (fun _=>?_) (fun _=>?_))<;>(conv=>whnf)))
  exact Ret.bool (listEqB_len hl).symm
theorem rowEqB_refl (a:RowT):rowEqB a a=true:=(listEqB_iff ValueD.eqB_iff a a).2 rfl
theorem s_same (a b:List ValueD) (rows:List (List C)) (ha:a.length≤140737488355328):CallS Tryz.prog 40 [.d (.ptr FK 0),.d (.ptr FK1 0)]
  [(FK,.box TP [.app FK2 TV 3 (a.map ValueD.c),.app FK3 TES 1 rows]),(FK1,.box TES [.app NK1 TV 3 (b.map ValueD.c)]),(FK2,.tail TV 3),(FK3,.tail TES 1),(NK1,.tail TV 3)] [] (pBool (rowEqB a b)) []:=by
 have pe:=p_equal a b ha
 refine callS_of Tryz.func40 (by rfl) rfl (by kernel_rfl) (by rfl) [FK,FK1,FK2,FK3,NK1] rfl ?_
 ((conv=>whnf);repeat' ((first|(with_reducible first|apply a_|apply b_|apply c_)|((with_reducible first|apply d_|apply e_|apply f_|apply g_);focus first|omega|(simp only[q_]<;>omega))|((with_reducible first|apply i_|apply h_);focus first|omega|(simp only[q_]<;>omega))|((with_reducible apply h_);focus first|decide|kernel_rfl)|refine s_ (by decide) ?_|refine t_ (by decide) ?_|refine r_ pe rfl ?_|with_reducible first|apply l_|apply m_|apply n_|apply o_|refine p_ (fun _=>?_) (fun _=>?_))<;>(conv=>whnf)))
 all_goals first
  | (refine RetS.mk [(FK,FK),(FK1,FK1),(FK2,FK2),(FK3,FK3),(NK1,NK1)] [FK,FK1,FK2,FK3,NK1] rfl rfl ?_ ?_<;>repeat' (first|exact rfl|exact trivial|exact Or.inl rfl|refine And.intro ?_ ?_))
  | skip
theorem s_index0 (b:List ValueD):CallS Tryz.prog 39 [.d (.c (.v (.slice none 0 0))),.d (.clo 40 [] [.ptr FK1 0])]
  [(FK1,.box TES [.app NK1 TV 3 (b.map ValueD.c)]),(NK1,.tail TV 3)] [] (pInt .i64 (-1)) []:=by
 refine callS_of Tryz.func39 (by rfl) rfl (by kernel_rfl) (by rfl) [FK1,NK1] rfl ?_
 ((conv=>whnf);repeat' ((first|(with_reducible first|apply a_|apply b_|apply c_)|((with_reducible first|apply d_|apply e_|apply f_|apply g_);focus first|omega|(simp only[q_]<;>omega))|((with_reducible first|apply i_|apply h_);focus first|omega|(simp only[q_]<;>omega))|((with_reducible apply h_);focus first|decide|kernel_rfl)|refine s_ (by decide) ?_|refine t_ (by decide) ?_|with_reducible first|apply l_|apply m_|apply n_|apply o_|refine p_ (fun _=>?_) (fun _=>?_))<;>(conv=>whnf)))
 refine LoopC.mk Unit (fun _=>[(7,pInt .i64 0),(8,pInt .i64 0)]) (fun _=>[(FK1,.box TES [.app NK1 TV 3 (b.map ValueD.c)]),(NK1,.tail TV 3)]) [FK1,NK1] (fun _=>True) (fun _=>0) () trivial ?start ?round
 case start=>refine⟨[(FK1,FK1),(NK1,NK1)],?_,?_,?_,?_⟩<;>repeat' (first|exact rfl|exact trivial|exact Or.inl rfl|refine And.intro ?_ ?_)
 case round=>
  rintro _ _
  ((conv=>whnf);repeat' ((first|(with_reducible first|apply a_|apply b_|apply c_)|((with_reducible first|apply d_|apply e_|apply f_|apply g_);focus first|omega|(simp only[q_]<;>omega))|((with_reducible first|apply i_|apply h_);focus first|omega|(simp only[q_]<;>omega))|((with_reducible apply h_);focus first|decide|kernel_rfl)|refine s_ (by decide) ?_|refine t_ (by decide) ?_|with_reducible first|apply l_|apply m_|apply n_|apply o_|refine p_ (fun _=>?_) (fun _=>?_))<;>(conv=>whnf)))
  all_goals first
   | (refine RetS.mk [(FK1,FK1),(NK1,NK1)] [FK1,NK1] rfl rfl ?_ ?_<;>repeat' (first|exact rfl|exact trivial|exact Or.inl rfl|refine And.intro ?_ ?_))
   | skip
theorem s_index1 (a b:List ValueD) (rows:List (List C)) (ha:a.length≤140737488355328):CallS Tryz.prog 39 [.d (.arr NK2 TPA 1 0 1),.d (.clo 40 [] [.ptr FK1 0])]
  [(NK2,.darr TPA 1 [[.ptr FK 0]]),(FK,.box TP [.app FK2 TV 3 (a.map ValueD.c),.app FK3 TES 1 rows]),(FK1,.box TES [.app NK1 TV 3 (b.map ValueD.c)]),(FK2,.tail TV 3),(FK3,.tail TES 1),(NK1,.tail TV 3)] [] (pInt .i64 (if rowEqB a b then 0 else -1)) []:=by
 have ps:=s_same a b rows ha
 refine callS_of Tryz.func39 (by rfl) rfl (by kernel_rfl) (by rfl) [NK2,FK,FK1,FK2,FK3,NK1] rfl ?_
 ((conv=>whnf);repeat' ((first|(with_reducible first|apply a_|apply b_|apply c_)|((with_reducible first|apply d_|apply e_|apply f_|apply g_);focus first|omega|(simp only[q_]<;>omega))|((with_reducible first|apply i_|apply h_);focus first|omega|(simp only[q_]<;>omega))|((with_reducible apply h_);focus first|decide|kernel_rfl)|refine s_ (by decide) ?_|refine t_ (by decide) ?_|with_reducible first|apply l_|apply m_|apply n_|apply o_|refine p_ (fun _=>?_) (fun _=>?_))<;>(conv=>whnf)))
 refine LoopC.mk Nat (fun k=>[(0,.d (.arr NK2 TPA 1 0 1)),(1,.d (.clo 40 [] [.ptr FK1 0])),(7,pInt .i64 1),(8,pInt .i64 (k:Int))])
  (fun _=>[(NK2,.darr TPA 1 [[.ptr FK 0]]),(FK,.box TP [.app FK2 TV 3 (a.map ValueD.c),.app FK3 TES 1 rows]),(FK1,.box TES [.app NK1 TV 3 (b.map ValueD.c)]),(FK2,.tail TV 3),(FK3,.tail TES 1),(NK1,.tail TV 3)]) [NK2,FK,FK1,FK2,FK3,NK1]
  (fun k=>k=0∨(k=1∧rowEqB a b=false)) (fun k=>1 - k) 0 (.inl rfl) ?start ?round
 case start=>refine⟨[(NK2,NK2),(FK,FK),(FK1,FK1),(FK2,FK2),(FK3,FK3),(NK1,NK1)],?_,?_,?_,?_⟩<;>repeat' (first|exact rfl|exact trivial|exact Or.inl rfl|refine And.intro ?_ ?_)
 case round=>
  rintro k (rfl | ⟨rfl,hk⟩)
  ·cases hx:rowEqB a b with
   | true=>
    rw[hx] at ps
    ((conv=>whnf);repeat' ((first|(with_reducible first|apply a_|apply b_|apply c_)|((with_reducible first|apply d_|apply e_|apply f_|apply g_);focus first|omega|(simp only[q_]<;>omega))|((with_reducible first|apply i_|apply h_);focus first|omega|(simp only[q_]<;>omega))|((with_reducible apply h_);focus first|decide|kernel_rfl)|refine s_ (by decide) ?_|refine t_ (by decide) ?_|(refine CallP.ret [(FK,FK),(FK1,FK1),(FK2,FK2),(FK3,FK3),(NK1,NK1)] _ _ _ _ _ _ _ ps rfl rfl rfl rfl ⟨rfl,rfl,rfl,rfl,rfl,trivial⟩ ?_)|(refine Row.mk [.ptr FK 0] rfl ?_)|with_reducible first|apply l_|apply m_|apply n_|apply o_|refine p_ (fun _=>?_) (fun _=>?_))<;>(conv=>whnf)))
    all_goals first
     | (refine RetS.mk [(NK2,NK2),(FK,FK),(FK1,FK1),(FK2,FK2),(FK3,FK3),(NK1,NK1)] [NK2,FK,FK1,FK2,FK3,NK1] rfl rfl ?_ ?_<;>repeat' (first|exact rfl|exact trivial|exact Or.inl rfl|refine And.intro ?_ ?_))
     | skip
   | false=>
    rw[hx] at ps
    ((conv=>whnf);repeat' ((first|(with_reducible first|apply a_|apply b_|apply c_)|((with_reducible first|apply d_|apply e_|apply f_|apply g_);focus first|omega|(simp only[q_]<;>omega))|((with_reducible first|apply i_|apply h_);focus first|omega|(simp only[q_]<;>omega))|((with_reducible apply h_);focus first|decide|kernel_rfl)|refine s_ (by decide) ?_|refine t_ (by decide) ?_|(refine CallP.ret [(FK,FK),(FK1,FK1),(FK2,FK2),(FK3,FK3),(NK1,NK1)] _ _ _ _ _ _ _ ps rfl rfl rfl rfl ⟨rfl,rfl,rfl,rfl,rfl,trivial⟩ ?_)|(refine Row.mk [.ptr FK 0] rfl ?_)|with_reducible first|apply l_|apply m_|apply n_|apply o_|refine p_ (fun _=>?_) (fun _=>?_))<;>(conv=>whnf)))
    all_goals first
     | (refine⟨1,.inr ⟨rfl,rfl⟩,by decide,[(NK2,NK2),(FK,FK),(FK1,FK1),(FK2,FK2),(FK3,FK3),(NK1,NK1)],?_,?_,?_,?_⟩<;>repeat' (first|exact rfl|exact trivial|exact Or.inl rfl|exact PLe.int (by decide) | refine And.intro ?_ ?_))
     | skip
  ·rw[hk]
   ((conv=>whnf);repeat' ((first|(with_reducible first|apply a_|apply b_|apply c_)|((with_reducible first|apply d_|apply e_|apply f_|apply g_);focus first|omega|(simp only[q_]<;>omega))|((with_reducible first|apply i_|apply h_);focus first|omega|(simp only[q_]<;>omega))|((with_reducible apply h_);focus first|decide|kernel_rfl)|refine s_ (by decide) ?_|refine t_ (by decide) ?_|with_reducible first|apply l_|apply m_|apply n_|apply o_|refine p_ (fun _=>?_) (fun _=>?_))<;>(conv=>whnf)))
   all_goals first
    | (refine RetS.mk [(NK2,NK2),(FK,FK),(FK1,FK1),(FK2,FK2),(FK3,FK3),(NK1,NK1)] [NK2,FK,FK1,FK2,FK3,NK1] rfl rfl ?_ ?_<;>repeat' (first|exact rfl|exact trivial|exact Or.inl rfl|refine And.intro ?_ ?_))
    | skip
abbrev grpsE (l:List RowT) (c:Nat) (out:D) (k:Nat):List (Nat×PV):=[(1,slV 1 iC [(c:Int)]),(5,.d out),(18,rwsV l),(19,pInt .i64 l.length),(20,pInt .i64 (k:Int))]
abbrev partsH (y:ValueD) (rows:List (List C)):Rf:=[(50,.darr TPA 1 [[.ptr 48 0]]),(48,.box TP [.app 162 TV 3 [y.c],.app 163 TES 1 rows]),(162,.tail TV 3),(163,.tail TES 1)]
abbrev innerE (l:List RowT) (c:Nat) (out:D) (k:Nat) (r:RowT) (j:Nat):List (Nat×PV):=[(7,slV 3 ValueD.c r),(8,.d (.ptr 8 0)),(24,slV 1 iC [(c:Int)]),(25,pInt .i64 1),(26,pInt .i64 (j:Int))]++grpsE l c out k
abbrev innerH (y:ValueD) (j:Nat):Rf:=[(8,.box TES [.app 161 TV 3 (([y].take j).map ValueD.c)]),(161,.tail TV 3)]
def outK:Nat→D
 | 0=>.c (.v (.slice none 0 0))
 | _+1=>.arr 50 TPA 1 0 1
def partsHk (y:ValueD) (l:List RowT):Nat→Rf
 | 0=>[]
 | k+1=>partsH y ((l.take (k+1)).map rowC)
set_option maxHeartbeats 1000000 in
theorem s_parts (l:List RowT) (c:Nat) (y:ValueD) (hl:0<l.length) (h40:l.length≤40) (hy:∀r∈l,r.length≤8∧(r.map ValueD.c)[((c:Nat):Int).toNat]? = some y.c) :
  CallS Tryz.prog 16 [rwsV l,slV 1 iC [(c:Int)]] [] [] (.d (.arr NK TPA 1 0 1)) [(NK,.darr TPA 1 [[.ptr NK1 0]]),(NK1,.box TP [.app NK2 TV 3 [y.c],.app FK2 TES 1 (l.map rowC)]),(NK2,.tail TV 3),(FK2,.tail TES 1)]:=by
 have hml:(l.map rowC).length=l.length:=List.length_map _
 have s0:=s_index0 [y]
 refine callS_of Tryz.func16 (by rfl) rfl (by kernel_rfl) (by rfl) [] rfl ?_
 ((conv=>whnf);repeat' ((first|(with_reducible first|apply a_|apply b_|apply c_)|((with_reducible first|apply d_|apply e_|apply f_|apply g_);focus first|omega|(simp only[q_]<;>omega))|((with_reducible first|apply i_|apply h_);focus first|omega|(simp only[q_]<;>omega))|((with_reducible apply h_);focus first|decide|kernel_rfl)|refine s_ (by decide) ?_|refine t_ (by decide) ?_|with_reducible first|apply l_|apply m_|apply n_|apply o_|refine p_ (fun _=>?_) (fun _=>?_))<;>(conv=>whnf)))
 refine LoopC.mk Nat (fun k=>grpsE l c (outK k) k) (fun k=>partsHk y l k) [50,48,162,163] (fun k=>k≤l.length) (fun k=>l.length - k) 0 (Nat.zero_le _) ?start ?round
 case start=>exact⟨[],rfl,rfl,⟨.inl rfl,.inl rfl,.inl rfl,PLe.int (by simp),.inl rfl,trivial⟩,trivial⟩
 case round=>
  intro k hk
  have hk:k≤l.length:=hk
  cases k with
  | zero=>
   obtain⟨h8,hix⟩:=hy l[0] (List.getElem_mem hl)
   have hm0:(l[0].map ValueD.c).length=l[0].length:=List.length_map _
   ((conv=>whnf);repeat' ((first|(with_reducible first|apply a_|apply b_|apply c_)|((with_reducible first|apply d_|apply e_|apply f_|apply g_);focus first|omega|(simp only[q_]<;>omega))|((with_reducible first|apply i_|apply h_);focus first|omega|(simp only[q_]<;>omega))|((with_reducible apply h_);focus first|decide|kernel_rfl)|refine s_ (by decide) ?_|refine t_ (by decide) ?_|(refine Idx.mapI (f:=rowC) 0 rfl hl ?_)|with_reducible first|apply l_|apply m_|apply n_|apply o_|refine p_ (fun _=>?_) (fun _=>?_))<;>(conv=>whnf)))
   refine LoopC.mk Nat (fun j=>innerE l c (.c (.v (.slice none 0 0))) 0 l[0] j) (fun j=>innerH y j) [8,161] (fun j=>j≤1) (fun j=>1 - j) 0 (Nat.zero_le _) ?start0 ?round0
   case start0=>refine⟨[(8,8)],?_,?_,?_,?_⟩<;>repeat' (first|exact rfl|exact trivial|exact Or.inl rfl|exact PLe.int (by simp) | exact Nat.zero_lt_succ _|refine And.intro ?_ ?_)
   case round0=>
    intro j hj
    have hj:j≤1:=hj
    obtain rfl | rfl:j=0∨j=1:=by omega
    ·((conv=>whnf);repeat' ((first|(with_reducible first|apply a_|apply b_|apply c_)|((with_reducible first|apply d_|apply e_|apply f_|apply g_);focus first|omega|(simp only[q_]<;>omega))|((with_reducible first|apply i_|apply h_);focus first|omega|(simp only[q_]<;>omega))|((with_reducible apply h_);focus first|decide|kernel_rfl)|refine s_ (by decide) ?_|refine t_ (by decide) ?_|(first|refine Idx.mk (iC c) (by decide) rfl ?_|refine Idx.mk y.c (by omega) hix ?_)|(refine Need.by 32 rfl (by simp) ?_)|with_reducible first|apply l_|apply m_|apply n_|apply o_|refine p_ (fun _=>?_) (fun _=>?_))<;>(conv=>whnf)))
     all_goals first
      | (refine⟨1,by decide,by decide,[(8,8),(161,36)],?_,?_,?_,?_⟩<;>repeat' (first|exact rfl|exact trivial|exact Or.inl rfl|exact PLe.int (by decide) | refine And.intro ?_ ?_))
      | skip
    ·((conv=>whnf);repeat' ((first|(with_reducible first|apply a_|apply b_|apply c_)|((with_reducible first|apply d_|apply e_|apply f_|apply g_);focus first|omega|(simp only[q_]<;>omega))|((with_reducible first|apply i_|apply h_);focus first|omega|(simp only[q_]<;>omega))|((with_reducible apply h_);focus first|decide|kernel_rfl)|refine s_ (by decide) ?_|refine t_ (by decide) ?_|(refine CallP.ret [(FK1,8),(NK1,161)] _ _ _ _ _ _ _ s0 rfl rfl rfl rfl ⟨rfl,rfl,trivial⟩ ?_)|(refine Row.mk [.ptr 48 0] rfl ?_)|(refine Need.by 24 rfl (by simp) ?_)|with_reducible first|apply l_|apply m_|apply n_|apply o_|refine p_ (fun _=>?_) (fun _=>?_))<;>(conv=>whnf)))
     all_goals first
      | (refine⟨0+1,hl,by omega,[(50,50),(48,48),(162,161),(163,64)],?_,?_,?_,?_⟩<;>repeat' (first|exact rfl|exact trivial|exact Or.inl rfl|exact PLe.int (by simp) | exact (by rw[take_snoc hl];rfl) | refine And.intro ?_ ?_))
      | skip
  | succ k=>
   by_cases q:k+1<l.length
   ·obtain⟨h8,hix⟩:=hy l[k+1] (List.getElem_mem q)
    have hm0:(l[k+1].map ValueD.c).length=l[k+1].length:=List.length_map _
    have s1:=s_index1 [y] [y] ((l.take (k+1)).map rowC) (by simp)
    rw[show rowEqB [y] [y]=true from (rowEqB_refl _),if_pos rfl] at s1
    have hrl:((l.take (k+1)).map rowC).length≤40:=by rw[List.length_map,List.length_take];omega
    ((conv=>whnf);repeat' ((first|(with_reducible first|apply a_|apply b_|apply c_)|((with_reducible first|apply d_|apply e_|apply f_|apply g_);focus first|omega|(simp only[q_]<;>omega))|((with_reducible first|apply i_|apply h_);focus first|omega|(simp only[q_]<;>omega))|((with_reducible apply h_);focus first|decide|kernel_rfl)|refine s_ (by decide) ?_|refine t_ (by decide) ?_|(refine Idx.mapI (f:=rowC) (k+1) rfl q ?_)|with_reducible first|apply l_|apply m_|apply n_|apply o_|refine p_ (fun _=>?_) (fun _=>?_))<;>(conv=>whnf)))
    refine LoopC.mk Nat (fun j=>innerE l c (.arr 50 TPA 1 0 1) (k+1) l[k+1] j) (fun j=>innerH y j++partsH y ((l.take (k+1)).map rowC)) [8,161,50,48,162,163] (fun j=>j≤1) (fun j=>1 - j) 0 (Nat.zero_le _) ?start1 ?round1
    case start1=>refine⟨[(8,8),(50,50),(48,48),(162,162),(163,163)],?_,?_,?_,?_⟩<;>repeat' (first|exact rfl|exact trivial|exact Or.inl rfl|exact PLe.int (by simp) | exact Nat.zero_lt_succ _|refine And.intro ?_ ?_)
    case round1=>
     intro j hj
     have hj:j≤1:=hj
     obtain rfl | rfl:j=0∨j=1:=by omega
     ·((conv=>whnf);repeat' ((first|(with_reducible first|apply a_|apply b_|apply c_)|((with_reducible first|apply d_|apply e_|apply f_|apply g_);focus first|omega|(simp only[q_]<;>omega))|((with_reducible first|apply i_|apply h_);focus first|omega|(simp only[q_]<;>omega))|((with_reducible apply h_);focus first|decide|kernel_rfl)|refine s_ (by decide) ?_|refine t_ (by decide) ?_|(first|refine Idx.mk (iC c) (by decide) rfl ?_|refine Idx.mk y.c (by omega) hix ?_)|(refine Need.by 32 rfl (by simp) ?_)|with_reducible first|apply l_|apply m_|apply n_|apply o_|refine p_ (fun _=>?_) (fun _=>?_))<;>(conv=>whnf)))
      all_goals first
       | (refine⟨1,by decide,by decide,[(8,8),(161,36),(50,50),(48,48),(162,162),(163,163)],?_,?_,?_,?_⟩<;>repeat' (first|exact rfl|exact trivial|exact Or.inl rfl|exact PLe.int (by decide) | refine And.intro ?_ ?_))
       | skip
     ·((conv=>whnf);repeat' ((first|(with_reducible first|apply a_|apply b_|apply c_)|((with_reducible first|apply d_|apply e_|apply f_|apply g_);focus first|omega|(simp only[q_]<;>omega))|((with_reducible first|apply i_|apply h_);focus first|omega|(simp only[q_]<;>omega))|((with_reducible apply h_);focus first|decide|kernel_rfl)|refine s_ (by decide) ?_|refine t_ (by decide) ?_|(refine CallP.ret [(NK2,50),(FK,48),(FK1,8),(FK2,162),(FK3,163),(NK1,161)] _ _ _ _ _ _ _ s1 rfl rfl rfl rfl ⟨rfl,rfl,rfl,rfl,rfl,rfl,trivial⟩ ?_)|(refine Row.mk [.ptr 48 0] rfl ?_)|(refine Need.by 24 rfl (by simp only[List.length_singleton];omega) ?_)|with_reducible first|apply l_|apply m_|apply n_|apply o_|refine p_ (fun _=>?_) (fun _=>?_))<;>(conv=>whnf)))
      all_goals first
       | (refine⟨k+1+1,q,by omega,[(50,50),(48,48),(162,162),(163,64)],?_,?_,?_,?_⟩<;>repeat' (first|exact rfl|exact trivial|exact Or.inl rfl|exact PLe.int (by simp) | exact PLe.int (by omega) | exact (by rw[take_snoc q,List.map_append];rfl) | refine And.intro ?_ ?_))
       | skip
   ·have e:l.take (k+1)=l:=List.take_of_length_le (by omega)
    ((conv=>whnf);repeat' ((first|(with_reducible first|apply a_|apply b_|apply c_)|((with_reducible first|apply d_|apply e_|apply f_|apply g_);focus first|omega|(simp only[q_]<;>omega))|((with_reducible first|apply i_|apply h_);focus first|omega|(simp only[q_]<;>omega))|((with_reducible apply h_);focus first|decide|kernel_rfl)|refine s_ (by decide) ?_|refine t_ (by decide) ?_|with_reducible first|apply l_|apply m_|apply n_|apply o_|refine p_ (fun _=>?_) (fun _=>?_))<;>(conv=>whnf)))
    all_goals first
     | (refine RetS.mk [(NK,50),(NK1,48),(NK2,162),(FK2,163)] [NK,NK1,NK2,FK2] rfl rfl ?_ ?_<;>repeat' (first|exact rfl|exact trivial|exact Or.inl rfl|refine And.intro ?_ ?_ | (rw[e];done)))
     | skip
end
end Go.Proofs.YtegpnpdnanfhbaaGreatDoor.Pm
