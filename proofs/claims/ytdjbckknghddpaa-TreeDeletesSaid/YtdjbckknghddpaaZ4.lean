/- Parts of the proof, one behind the other: PmFun PmHand PmBytes PmOpen PmRange PmDefer PmRng PtIter PmFam PtFam PtLend PtNest PtPath PtRead PtOrd. Conditions: none beyond what each theorem says. -/
import Derived.Deep.LoopGhost
import Derived.Scope
import Derived.IntWalk
import Derived.Test.YtdjbckknghddpaaYReads
import Derived.RangeFuncNested
import Derived.RangeFuncBound
import Derived.RangeFuncCalls
import Derived.RangeFuncLeaves
import Derived.RangeFuncRecord
import Derived.RangeFuncBox
import Derived.OwnWalkIn
import Derived.TacticsInMore
import Derived.LoopNIn
import Derived.LoopIn
import Derived.Recover
import Derived.Test.YtdjbckknghddpaaYSlice
import Derived.Sort.Walk0
import Derived.Lib.Bytealg
import Derived.Laws.Externs
import Derived.Test.YtdjbckknghddpaaZ3
open List (all_cons all_eq_true append_assoc append_toArray cons_append cons_lt_cons_iff drop_drop drop_of_length_le drop_zero eq_nil_of_length_eq_zero flatMap_append flatMap_cons flatten_cons flatten_nil length_append length_cons length_drop length_map length_nil length_pos_iff length_replicate length_set length_singleton length_take mapM_cons map_append map_congr_left map_cons map_flatten map_id map_map map_nil map_take mem_append mem_append_left mem_append_right mem_cons mem_cons_of_mem mem_cons_self mem_filter mem_flatMap mem_map mem_of_mem_drop mem_of_mem_take nil_append nodup_append nodup_cons pairwise_cons set_append_right size_toArray sum_append sum_cons sum_singleton take_append_drop take_of_length_le take_succ_cons take_zero)
open Nat (add_assoc add_zero beq_refl eq_of_beq_eq_true le_of_ble_eq_true le_of_eq le_trans lt_or_ge min_eq_left not_lt_zero sub_self zero_add zero_le)
open Int (toNat_natCast)
open Option (getD_some)
set_option linter.unusedVariables false
set_option linter.unusedSimpArgs false
set_option maxRecDepth 100000
section
namespace Go.Proofs.Ytdjbckknghddpaa.Pm
open Go.RowKit
def kin (k:Nat):List Nat->Bool
 | []=>false|x::xs=>bif Nat.beq k x then true else kin k xs
def CLe (x y:C):Prop:=y=x\/(∃sz,x=.sl sz [])/\(y=.v (.slice none 0 0)\/∃sz',y=.sl sz' [])
mutual
def DLe (f:Nat->Option Nat) (n:List Nat):D->D->Prop
 | .c x,y=>match y with
  | .c y=>CLe x y|.app _ _ sz l=>x=.sl sz l|.emp=>∃sz,x=.sl sz []|_=>False
 | .app k e sz l,y=>match y with
  | .app k' e' sz' l'=>kin k n=true/\f k=some k'/\e'=e/\sz'=sz/\l'=l|.c y=>kin k n=true/\f k=none/\0<sz/\l=[]/\y=.v (.slice none 0 0)|_=>False
 | .ptr k o,y=>match y with
  | .ptr k' o'=>kin k n=true/\f k=some k'/\o'=o|_=>False
 | .arr k e sz lo m,y=>match y with
  | .arr k' e' sz' lo' m'=>kin k n=true/\f k=some k'/\e'=e/\sz'=sz/\lo'=lo/\m'=m|.c y=>kin k n=true/\f k=none/\0<sz/\m=0/\y=.v (.slice none 0 0)|.emp=>kin k n=true/\f k=none/\0<sz/\m=0|.cut k' e' sz' lo' m' _=>kin k n=true/\f k=some k'/\e'=e/\sz'=sz/\lo'=lo/\m'=m|_=>False
 | .elt k sz i o,y=>match y with
  | .elt k' sz' i' o'=>kin k n=true/\f k=some k'/\sz'=sz/\i'=i/\o'=o|_=>False
 | .clo g a l,y=>match y with
  | .clo g' a' l'=>g'=g/\DLes f n a a'/\DLes f n l l'|_=>False
 | .mclo g l,y=>match y with
  | .mclo g' l'=>g'=g/\DLes f n l l'|_=>False
 | .optp k o,y=>match y with
  | .optp k' o'=>kin k n=true/\f k=some k'/\o'=o|.ptr k' o'=>kin k n=true/\f k=some k'/\o'=o|.c y=>y=.v (.pointer none)|_=>False
 | .data k e l,y=>match y with
  | .data k' e' l'=>kin k n=true/\f k=some k'/\e'=e/\l'=l|_=>False
 | .mp k,y=>match y with
  | .mp k'=>kin k n=true/\f k=some k'|_=>False
 | .emp,y=>match y with
  | .emp=>True|_=>False
 | .cut k e sz lo m cc,y=>match y with
  | .cut k' e' sz' lo' m' c'=>kin k n=true/\f k=some k'/\e'=e/\sz'=sz/\lo'=lo/\m'=m/\c'=cc|_=>False
def DLes (f:Nat->Option Nat) (n:List Nat):List D->List D->Prop
 | [],y=>y=[]|x::xs,y=>match y with
  | []=>False|y::ys=>DLe f n x y/\DLes f n xs ys
end
def DLess (f:Nat->Option Nat) (n:List Nat):List (List D)->List (List D)->Prop
 | [],y=>y=[]|x::xs,y=>match y with
  | []=>False|y::ys=>DLes f n x y/\DLess f n xs ys
mutual
def PLe (f:Nat->Option Nat) (n:List Nat):PV->PV->Prop
 | .any,_=>True|.d x,y=>match y with
  | .d y=>DLe f n x y|_=>False
 | .agg l,y=>match y with
  | .agg m=>DLes f n l m|_=>False
 | .tup l,y=>match y with
  | .tup m=>PLeT f n l m|_=>False
def PLeT (f:Nat->Option Nat) (n:List Nat):List PV->List PV->Prop
 | [],y=>y=[]|x::xs,y=>match y with
  | []=>False|y::ys=>PLe f n x y/\PLeT f n xs ys
end
def ofL:List (Nat×PV)->Env
 | [],_=>.any|(t,v)::l,j=>bif Nat.beq j t then v else ofL l j
def PLes (f:Nat->Option Nat) (n:List Nat) (e:Env):List (Nat×PV)->Prop
 | []=>True|(t,v)::l=>PLe f n v (e t)/\PLes f n e l
def HLe (f:Nat->Option Nat) (n:List Nat):HB->HB->Prop
 | .box t l,.box t' m=>t'=t/\DLes f n l m|.tail e sz,.tail e' sz'=>e'=e/\sz'=sz|.arr e sz rows,.arr e' sz' rows'=>e'=e/\sz'=sz/\rows'=rows|.mp l,.mp l'=>l'=l|.darr e sz rows,.darr e' sz' rows'=>e'=e/\sz'=sz/\DLess f n rows rows'|.darr e sz rows,.arr e' sz' rows'=>e'=e/\sz'=sz/\rows=rows'.map (List.map D.c)|_,_=>False
def KLe (f:Nat->Option Nat) (n:List Nat) (h:Hp) (k:Nat) (b:HB):Prop:=match f k with
 | some k'=>match h k' with
  | some b'=>HLe f n b b'|none=>False
 | none=>match b with
  | .tail _ sz=>0<sz|.arr _ sz rows=>0<sz/\rows=[]|.darr _ sz rows=>0<sz/\rows=[]|.mp _=>False|.box _ _=>False
def HLes (f:Nat->Option Nat) (n:List Nat) (h:Hp):List (Nat×HB)->Prop
 | []=>True|(k,b)::l=>(kin k n=true/\KLe f n h k b)/\HLes f n h l
def injOn (f:Nat->Option Nat):List (Nat×HB)->Bool
 | []=>true|(k,_)::l=>(l.all fun p=>Nat.beq p.1 k||match f k,f p.1 with | some a,some b=>!Nat.beq a b | _,_=>true)&&injOn f l
def fkOk (f:Nat->Option Nat) (n:List Nat):List Nat->Bool
 | []=>true|k::r=>(match f k with | some k'=>Nat.beq k' k | none=>false)&&(kin k n&&fkOk f n r)
inductive Wk (fk:List Nat) (e:Env) (h:Hp) (le:List (Nat×PV)) (lh:List (Nat×HB)) (n:List Nat):Prop
 | mk (f:List (Nat×Nat)) (hi:injOn (fnL f) lh=true) (hf:fkOk (fnL f) n fk=true) (he:PLes (fnL f) n e le) (hh:HLes (fnL f) n h lh)
section
variable {c:Ctx} {nt:Nat} {n:List Nat} {σ:Sg} {e:Env} {h:Hp} {a:Act} {w:World} {f:Nat->Option Nat} {le:List (Nat×PV)} {lh:List (Nat×HB)}
def newSg (σ:Sg) (f:Nat->Option Nat) (n:List Nat):Sg:=fun k=>if kin k n=true then (match f k with | some k'=>σ k' | none=>some (none,0)) else none
theorem newSg_some {k k':Nat} (h1:kin k n=true) (h2:f k=some k'):newSg σ f n k=σ k':=by unfold newSg;rw[if_pos h1,h2]
theorem ple_of {t:Nat}:∀{le:List (Nat×PV)},PLes f n e le->PLe f n (ofL le t) (e t)
 | [],_=>by unfold ofL PLe;trivial
 | (t',v)::l,hl=>by
  unfold ofL;cases hb:Nat.beq t t' with
  | true=>rw[cond_true,eq_of_beq_eq_true hb];exact hl.1|false=>rw[cond_false];exact ple_of hl.2
theorem hle_of {k:Nat} {b:HB}:∀{lh:List (Nat×HB)},HLes f n h lh->hpL lh k=some b->kin k n=true/\KLe f n h k b
 | [],_,hb=>by cases hb
 | (k',b')::l,hl,hb=>by
  unfold hpL at hb;cases hq:Nat.beq k k' with
  | true=>
   rw[hq,cond_true] at hb;cases hb;rw[eq_of_beq_eq_true hq];exact hl.1
  | false=>rw[hq,cond_false] at hb;exact hle_of hl.2 hb
theorem injOn_out:∀{lh:List (Nat×HB)},injOn f lh=true->∀k1 k2 b1 b2 x,(k1,b1)∈lh->(k2,b2)∈lh->f k1=some x->f k2=some x->k1=k2
 | [],_,k1,k2,b1,b2,x,h1,_,_,_=>by cases h1
 | (k,b)::l,hi,k1,k2,b1,b2,x,h1,h2,e1,e2=>by
  unfold injOn at hi;simp only[Bool.and_eq_true] at hi;obtain⟨hi1,hi2⟩:=hi;have one:∀q bq,(q,bq)∈l->f k=some x->f q=some x->q=k:=by
   intro q bq hq ek eq;have:=all_eq_true.1 hi1 (q,bq) hq;rw[ek,eq] at this;simp only[Bool.or_eq_true,Bool.not_eq_true'] at this;rcases this with this | this
   ·exact eq_of_beq_eq_true this
   ·have:=beq_refl x;simp_all
  rcases mem_cons.1 h1 with h1 | h1
  ·cases h1;rcases mem_cons.1 h2 with h2 | h2
   ·cases h2;rfl
   ·exact (one k2 b2 h2 e1 e2).symm
  ·rcases mem_cons.1 h2 with h2 | h2
   ·cases h2;exact one k1 b1 h1 e2 e1
   ·exact injOn_out hi2 k1 k2 b1 b2 x h1 h2 e1 e2
mutual
theorem drep_wk {F F':Fzn} (hk:Keeps F F' w w):∀(x y:D) (u:Value),DLe f n x y->DRep σ F w y u->DRep (newSg σ f n) F' w x u
 | .c x,y,u,hl,hr=>by
  unfold DLe at hl;split at hl
  ·rename_i y;unfold DRep at hr ⊢;rcases hl with rfl | ⟨⟨sz,rfl⟩,rfl | ⟨sz',rfl⟩⟩
   ·exact CRep.keeps hk _ _ hr
   ·unfold CRep at hr ⊢;obtain⟨rfl,_⟩:=hr;exact⟨none,0,rfl,Nat.le_refl _,zero_le _,fun _=>rfl,.inl rfl⟩
   ·unfold CRep at hr ⊢;obtain⟨a,cap,h1,h2,h3,h4,_⟩:=hr;exact⟨a,cap,h1,h2,h3,h4,.inl rfl⟩
  ·rename_i k e sz l;subst hl;have:=rows_val (σ:=σ) (F:=F) (w:=w) (x:=.d (.app k e sz l)) (.inr ⟨k,e,rfl⟩) (u:=u) (by unfold PRep;exact hr);unfold DRep;refine CRep.keeps hk _ _ ?_;unfold CRep;exact this
  ·obtain⟨sz,rfl⟩:=hl;unfold DRep at hr ⊢;obtain⟨a,rfl⟩:=hr;unfold CRep;exact⟨a,0,rfl,Nat.le_refl _,zero_le _,fun _=>rfl,.inl rfl⟩
  ·exact hl.elim
 | .app k e sz l,y,u,hl,hr=>by
  unfold DLe at hl;split at hl
  ·obtain⟨h1,h2,rfl,rfl,rfl⟩:=hl;unfold DRep at hr ⊢;obtain⟨g0,g⟩:=hr;have hs:=newSg_some (σ:=σ) h1 h2;refine⟨g0,?_⟩;rcases g with ⟨g1,g2,g3⟩ | ⟨g,cap,cur,fr,g1,g3,g4,g5,g6,g7,g8⟩
   ·exact .inl ⟨hs.trans g1,g2,g3⟩
   ·exact .inr ⟨g,cap,cur,fr,hs.trans g1,g3,g4,g5,g6,g7,RowsAt.keeps hk _ _ _ _ g8⟩
  ·obtain⟨h1,h2,h3,rfl,rfl⟩:=hl;unfold DRep CRep at hr;unfold DRep;have hs:newSg σ f n k=some (none,0):=by unfold newSg;rw[if_pos h1,h2]
   exact⟨h3,.inl ⟨hs,rfl,hr.1⟩⟩
  ·exact hl.elim
 | .ptr k o,y,u,hl,hr=>by
  unfold DLe at hl;split at hl
  ·obtain⟨h1,h2,rfl⟩:=hl;unfold DRep at hr ⊢;obtain⟨g,m,g1,g2⟩:=hr;exact⟨g,m,by unfold newSg;rw[if_pos h1,h2];exact g1,g2⟩
  ·exact hl.elim
 | .arr k e sz lo m,y,u,hl,hr=>by
  unfold DLe at hl;split at hl
  ·obtain⟨h1,h2,rfl,rfl,rfl,rfl⟩:=hl;unfold DRep at hr ⊢;obtain⟨g0,g⟩:=hr;have hs:=newSg_some (σ:=σ) h1 h2;refine⟨g0,?_⟩;rcases g with ⟨q,g1,g2,g3⟩ | ⟨g,q,off,cap,cur,fr,g1,g2⟩
   ·exact .inl ⟨q,hs.trans g1,g2,g3⟩
   ·exact .inr ⟨g,q,off,cap,cur,fr,hs.trans g1,g2⟩
  ·obtain⟨h1,h2,h3,rfl,rfl⟩:=hl;unfold DRep CRep at hr;unfold DRep;have hs:newSg σ f n k=some (none,0):=by unfold newSg;rw[if_pos h1,h2]
   exact⟨h3,.inl ⟨0,hs,rfl,none,hr.1⟩⟩
  ·obtain⟨h1,h2,h3,rfl⟩:=hl;unfold DRep at hr ⊢;obtain⟨a,hr⟩:=hr;have hs:newSg σ f n k=some (none,0):=by unfold newSg;rw[if_pos h1,h2]
   exact⟨h3,.inl ⟨0,hs,rfl,a,hr⟩⟩
  ·obtain⟨h1,h2,rfl,rfl,rfl,rfl⟩:=hl;unfold DRep at hr ⊢;obtain⟨g0,g,q,off,cur,fr,g1,g2⟩:=hr;exact⟨g0,.inr ⟨g,q,off,_,cur,fr,(newSg_some h1 h2).trans g1,g2⟩⟩
  ·exact hl.elim
 | .cut k e sz lo m cc,y,u,hl,hr=>by
  unfold DLe at hl;split at hl
  ·obtain⟨h1,h2,rfl,rfl,rfl,rfl,rfl⟩:=hl;unfold DRep at hr ⊢;obtain⟨g0,g,q,off,cur,fr,g1,g2⟩:=hr;exact⟨g0,g,q,off,cur,fr,(newSg_some h1 h2).trans g1,g2⟩
  ·exact hl.elim
 | .elt k sz i o,y,u,hl,hr=>by
  unfold DLe at hl;split at hl
  ·obtain⟨h1,h2,rfl,rfl,rfl⟩:=hl;unfold DRep at hr ⊢;obtain⟨g,m,g1,g2⟩:=hr;exact⟨g,m,by unfold newSg;rw[if_pos h1,h2];exact g1,g2⟩
  ·exact hl.elim
 | .clo g a l,y,u,hl,hr=>by
  unfold DLe at hl;split at hl
  ·obtain⟨rfl,h1,h2⟩:=hl;unfold DRep at hr ⊢;obtain⟨us,vs,rfl,g1,g2⟩:=hr;exact⟨us,vs,rfl,dsrep_wk hk a _ us h1 g1,dsrep_wk hk l _ vs h2 g2⟩
  ·exact hl.elim
 | .mclo g l,y,u,hl,hr=>by
  unfold DLe at hl;split at hl
  ·obtain⟨rfl,h1⟩:=hl;unfold DRep at hr ⊢;obtain⟨us,rfl,g1⟩:=hr;exact⟨us,rfl,dsrep_wk hk l _ us h1 g1⟩
  ·exact hl.elim
 | .optp k o,y,u,hl,hr=>by
  unfold DLe at hl;split at hl
  ·obtain⟨h1,h2,rfl⟩:=hl;unfold DRep at hr ⊢;exact hr.imp id fun ⟨g,m,g1,g2⟩=>⟨g,m,(newSg_some h1 h2).trans g1,g2⟩
  ·obtain⟨h1,h2,rfl⟩:=hl;unfold DRep at hr ⊢;obtain⟨g,m,g1,g2⟩:=hr;exact .inr ⟨g,m,(newSg_some h1 h2).trans g1,g2⟩
  ·subst hl;unfold DRep CRep at hr;unfold DRep;exact .inl hr.1
  ·exact hl.elim
 | .data k e l,y,u,hl,hr=>by
  unfold DLe at hl;split at hl
  ·obtain⟨h1,h2,rfl,rfl⟩:=hl;unfold DRep at hr ⊢;rcases hr with hr | ⟨h0,g,cur,fr,g1,g2,g3,g4,g5,g6⟩
   ·exact .inl hr
   ·exact .inr ⟨h0,g,cur,fr,(newSg_some h1 h2).trans g1,g2,g3,g4,g5,RowsAt.keeps hk _ _ _ _ g6⟩
  ·exact hl.elim
 | .mp k,y,u,hl,hr=>by
  unfold DLe at hl;split at hl
  ·obtain⟨h1,h2⟩:=hl;unfold DRep at hr ⊢;obtain⟨g,m,g1,g2⟩:=hr;exact⟨g,m,(newSg_some h1 h2).trans g1,g2⟩
  ·exact hl.elim
 | .emp,y,u,hl,hr=>by
  unfold DLe at hl;split at hl
  ·unfold DRep at hr ⊢;exact hr
  ·exact hl.elim
theorem dsrep_wk {F F':Fzn} (hk:Keeps F F' w w):∀(xs ys:List D) (us:List Value),DLes f n xs ys->DsRep σ F w ys us->DsRep (newSg σ f n) F' w xs us
 | [],ys,us,hl,hr=>by
  unfold DLes at hl;subst hl;rw[dsRep_nil_inv hr];exact dsRep_nil
 | x::xs,ys,us,hl,hr=>by
  unfold DLes at hl;split at hl
  ·exact hl.elim
  ·obtain⟨u,vs,rfl,h1,h2⟩:=dsRep_inv hr;exact dsRep_cons (drep_wk hk x _ u hl.1 h1) (dsrep_wk hk xs _ vs hl.2 h2)
end
mutual
theorem prep_wk {F F':Fzn} (hk:Keeps F F' w w):∀(x y:PV) (u:Value),PLe f n x y->PRep σ F w y u->PRep (newSg σ f n) F' w x u
 | .any,y,u,hl,hr=>by unfold PRep;trivial
 | .d x,y,u,hl,hr=>by
  unfold PLe at hl;split at hl
  ·unfold PRep at hr ⊢;exact drep_wk hk _ _ _ hl hr
  ·exact hl.elim
 | .agg l,y,u,hl,hr=>by
  unfold PLe at hl;split at hl
  ·unfold PRep at hr ⊢;obtain⟨xs,h1,h2⟩:=hr;exact⟨xs,h1,dsrep_wk hk _ _ _ hl h2⟩
  ·exact hl.elim
 | .tup l,y,u,hl,hr=>by
  unfold PLe at hl;split at hl
  ·unfold PRep at hr ⊢;obtain⟨xs,h1,h2⟩:=hr;exact⟨xs,h1,psrep_wk hk _ _ _ hl h2⟩
  ·exact hl.elim
theorem psrep_wk {F F':Fzn} (hk:Keeps F F' w w):∀(xs ys:List PV) (us:List Value),PLeT f n xs ys->PsRep σ F w ys us->PsRep (newSg σ f n) F' w xs us
 | [],ys,us,hl,hr=>by
  unfold PLeT at hl;subst hl;cases us with
  | nil=>unfold PsRep;trivial|cons _ _=>unfold PsRep at hr;exact hr.elim
 | x::xs,ys,us,hl,hr=>by
  unfold PLeT at hl;split at hl
  ·exact hl.elim
  ·cases us with
   | nil=>unfold PsRep at hr;exact hr.elim|cons u us=>
    unfold PsRep at hr ⊢;exact⟨prep_wk hk x _ u hl.1 hr.1,psrep_wk hk xs _ us hl.2 hr.2⟩
end
theorem kin_mem:∀{n:List Nat} {k:Nat},kin k n=true->k∈n
 | x::xs,k,h=>by
  unfold kin at h;cases hq:Nat.beq k x with
  | true=>rw[eq_of_beq_eq_true hq];exact mem_cons_self ..|false=>rw[hq,cond_false] at h;exact mem_cons_of_mem _ (kin_mem h)
theorem hb_old (hh:HLes f n h lh):∀k hb,hpL lh k=some hb->kin k n=true/\((∃k' b',f k=some k'/\h k'=some b'/\HLe f n hb b')\/(f k=none/\((∃e sz,hb=.tail e sz/\0<sz)\/(∃e sz,hb=.arr e sz []/\0<sz)\/∃e sz,hb=.darr e sz []/\0<sz))):=by
 intro k hb hk;obtain⟨h1,h2⟩:=hle_of hh hk;refine⟨h1,?_⟩;unfold KLe at h2;split at h2
 ·rename_i k' hf;split at h2
  ·rename_i b' hb';exact .inl ⟨k',b',hf,hb',h2⟩
  ·exact h2.elim
 ·rename_i hf;split at h2
  ·exact .inr ⟨hf,.inl ⟨_,_,rfl,h2⟩⟩
  ·obtain⟨h3,rfl⟩:=h2;exact .inr ⟨hf,.inr (.inl ⟨_,_,rfl,h3⟩)⟩
  ·obtain⟨h3,rfl⟩:=h2;exact .inr ⟨hf,.inr (.inr ⟨_,_,rfl,h3⟩)⟩
  ·exact h2.elim
  ·exact h2.elim
theorem dless_len:∀{l m:List (List D)},DLess f n l m->m.length=l.length
 | [],m,h=>by unfold DLess at h;subst h;rfl
 | x::xs,m,h=>by
  unfold DLess at h;split at h
  ·exact h.elim
  ·rw[length_cons,length_cons,dless_len h.2]
theorem dles_len:∀{l m:List D},DLes f n l m->m.length=l.length
 | [],m,h=>by unfold DLes at h;subst h;rfl
 | x::xs,m,h=>by
  unfold DLes at h;split at h
  ·exact h.elim
  ·rw[length_cons,length_cons,dles_len h.2]
theorem dless_row {s:Nat}:∀{l m:List (List D)},DLess f n l m->(∀r∈m,r.length=s)->∀r∈l,r.length=s
 | [],m,h,_,r,hr=>by cases hr
 | x::xs,m,h,hm,r,hr=>by
  unfold DLess at h;split at h
  ·exact h.elim
  ·rcases mem_cons.1 hr with rfl | hr
   ·rw[<- dles_len h.1];exact hm _ (mem_cons_self ..)
   ·exact dless_row h.2 (fun q hq=>hm q (mem_cons_of_mem _ hq)) r hr
theorem dles_app:∀{a b c d:List D},DLes f n a c->DLes f n b d->DLes f n (a++b) (c++d)
 | [],b,c,d,h1,h2=>by unfold DLes at h1;subst h1;exact h2
 | x::xs,b,c,d,h1,h2=>by
  unfold DLes at h1;split at h1
  ·exact h1.elim
  ·rw[cons_append,cons_append];unfold DLes;exact⟨h1.1,dles_app h1.2 h2⟩
theorem dless_flat:∀{l m:List (List D)},DLess f n l m->DLes f n l.flatten m.flatten
 | [],m,h=>by unfold DLess at h;subst h;unfold DLes;rfl
 | x::xs,m,h=>by
  unfold DLess at h;split at h
  ·exact h.elim
  ·rw[flatten_cons,flatten_cons];exact dles_app h.1 (dless_flat h.2)
theorem dles_cs:∀(l:List C),DLes f n (l.map D.c) (l.map D.c)
 | []=>by unfold DLes;rfl
 | x::xs=>by rw[map_cons];unfold DLes;exact⟨by unfold DLe;exact .inl rfl,dles_cs xs⟩
theorem dless_cs:∀(l:List (List C)),DLess f n (l.map (List.map D.c)) (l.map (List.map D.c))
 | []=>by unfold DLess;rfl
 | x::xs=>by rw[map_cons];unfold DLess;exact⟨dles_cs x,dless_cs xs⟩
theorem hle_shut {hb b':HB} (hl:HLe f n hb b') {m o:Nat} (hs:b'.shut m o):hb.shut m o:=by
 cases b' with
 | box _ _=>exact hs.elim|arr _ _ _=>exact hs.elim|mp _=>exact hs.elim|darr _ _ _=>exact hs.elim|tail e' sz'=>
  cases hb with
  | tail e sz=>obtain⟨_,rfl⟩:=hl;exact hs
  | box _ _=>exact hl.elim|arr _ _ _=>exact hl.elim|mp _=>exact hl.elim|darr _ _ _=>exact hl.elim
theorem hb_wk {F F':Fzn} {own own':Nat->Prop} (hk:Keeps F F' w w) (hown:∀g,own g->own' g) {k k':Nat} {hb b':HB} (hin:kin k n=true) (hf:f k=some k') (hl:HLe f n hb b') (ho:HbOk σ F w own k' b'):HbOk (newSg σ f n) F' w own' k hb:=by
 have hsg:newSg σ f n k=σ k':=by unfold newSg;rw[if_pos hin,hf]
 unfold HLe at hl;split at hl
 ·obtain⟨g,m',cs,r1,r2,r3,r4⟩:=ho;obtain⟨rfl,hl⟩:=hl;exact⟨g,m',cs,hsg.trans r1,hown _ r2,r3,dsrep_wk hk _ _ _ hl r4⟩
 ·obtain⟨rfl,rfl⟩:=hl;obtain⟨r0,ob,m',r1,r2⟩:=ho;refine⟨r0,ob,m',hsg.trans r1,?_⟩;cases ob with
  | none=>exact r2|some g=>exact⟨hown _ r2.1,r2.2⟩
 ·obtain⟨rfl,rfl,rfl⟩:=hl;obtain⟨r0,r00,ob,m',r1,r2⟩:=ho;refine⟨r0,r00,ob,m',hsg.trans r1,?_⟩;cases ob with
  | none=>exact r2|some g=>
   obtain⟨q1,cur,q2,q3,q4⟩:=r2;exact⟨hown _ q1,cur,q2,q3,CsRep.keeps hk _ _ q4⟩
 ·obtain rfl:=hl;obtain⟨g,m',es,cl,r1,r2,r3⟩:=ho;exact⟨g,m',es,cl,hsg.trans r1,hown _ r2,r3⟩
 ·obtain⟨rfl,rfl,hl⟩:=hl;obtain⟨r0,r00,ob,m',r1,r2⟩:=ho;have hlen:=dless_len hl;refine⟨r0,dless_row hl r00,ob,m',hsg.trans r1,?_⟩;cases ob with
  | none=>subst r2;exact eq_nil_of_length_eq_zero hlen.symm|some g=>
   obtain⟨q1,cur,q2,q3,q4⟩:=r2;rw[hlen] at q3 q4;exact⟨hown _ q1,cur,q2,q3,dsrep_wk hk _ _ _ (dless_flat hl) q4⟩
 ·rename_i e sz rows e' sz' rows';obtain⟨rfl,rfl,rfl⟩:=hl;obtain⟨r0,r00,ob,m',r1,r2⟩:=ho;refine⟨r0,fun r hr=>?_,ob,m',hsg.trans r1,?_⟩
  ·obtain⟨r',hr',rfl⟩:=mem_map.1 hr;rw[length_map];exact r00 r' hr'
  ·cases ob with
   | none=>subst r2;rfl|some g=>
    obtain⟨q1,cur,q2,q3,q4⟩:=r2;refine⟨hown _ q1,cur,q2,by rw[length_map];exact q3,?_⟩;rw[length_map,show (rows'.map (List.map D.c)).flatten=rows'.flatten.map D.c by rw[map_flatten]];exact dsRep_of_cs (CsRep.keeps hk _ _ q4)
 ·exact hl.elim
theorem fkOk_out {fk:List Nat} (h:fkOk f n fk=true):∀k∈fk,f k=some k/\kin k n=true:=by
 induction fk with
 | nil=>intro k hk;cases hk
 | cons q r ih=>
  intro k hk;unfold fkOk at h;simp only[Bool.and_eq_true] at h;obtain⟨h1,h2,h3⟩:=h;rcases mem_cons.1 hk with rfl | hk
  ·refine⟨?_,h2⟩;split at h1
   ·rename_i k' hq;rw[hq,eq_of_beq_eq_true h1]
   ·cases h1
  ·exact ih h3 k hk
theorem sw_wk {fk:List Nat} (hfk:∀k,c.σ0 k≠none->k∈fk) (hs:SW c σ h w) (hi:injOn f lh=true) (hff:fkOk f n fk=true) (hh:HLes f n h lh) :
  Keeps (fz c σ h w) (fz c (newSg σ f n) (hpL lh) w) w w/\SW c (newSg σ f n) (hpL lh) w:=by
 have old:=hb_old hh;have hkeep:Keeps (fz c σ h w) (fz c (newSg σ f n) (hpL lh) w) w w:=by
  refine⟨fun b o hf=>hf.imp id fun ⟨f1,f2,f3⟩=>⟨f1,f2,fun k m hb hk hσ=>?_⟩,fun _ _ _=>rfl⟩;obtain⟨g1,g2⟩:=old k hb hk;unfold newSg at hσ;rw[if_pos g1] at hσ;rcases g2 with ⟨k',b',q1,q2,q3⟩ | ⟨q1,_⟩
  ·rw[q1] at hσ;exact hle_shut q3 (f3 k' m b' q2 hσ)
  ·rw[q1] at hσ;cases hσ
 refine⟨hkeep,hs.os,hs.tape,hs.output,hs.size,hs.block,fun k hb hk=>?_,fun k1 k2 g n1 n2 a1 a2 a3 a4=>?_,hs.kept.trans hkeep,hs.shape,fun k x hk=>?_⟩
 ·obtain⟨g1,g2⟩:=old k hb hk;rcases g2 with ⟨k',b',q1,q2,q3⟩ | ⟨q1,⟨e,sz,rfl,q2⟩ | ⟨e,sz,rfl,q2⟩ | ⟨e,sz,rfl,q2⟩⟩
  ·exact hb_wk hkeep (fun _ h=>h) g1 q1 q3 (hs.hp k' b' q2)
  ·exact⟨q2,none,0,by unfold newSg;rw[if_pos g1,q1],rfl⟩
  ·exact⟨q2,by simp,none,0,by unfold newSg;rw[if_pos g1,q1],rfl⟩
  ·exact⟨q2,by simp,none,0,by unfold newSg;rw[if_pos g1,q1],rfl⟩
 ·cases hb1:hpL lh k1 with
  | none=>exact absurd hb1 a1|some b1=>
   cases hb2:hpL lh k2 with
   | none=>exact absurd hb2 a2|some b2=>
    obtain⟨g1,g2⟩:=old k1 b1 hb1;obtain⟨g3,g4⟩:=old k2 b2 hb2;unfold newSg at a3 a4;rw[if_pos g1] at a3;rw[if_pos g3] at a4;rcases g2 with ⟨k1',b1',q1,q2,_⟩ | ⟨q1,_⟩
    ·rcases g4 with ⟨k2',b2',r1,r2,_⟩ | ⟨r1,_⟩
     ·rw[q1] at a3;rw[r1] at a4;have:=hs.inj k1' k2' g n1 n2 (by rw[q2];simp) (by rw[r2];simp) a3 a4;subst this;exact injOn_out hi k1 k2 b1 b2 k1' (hpL_mem hb1) (hpL_mem hb2) q1 r1
     ·rw[r1] at a4;cases a4
    ·rw[q1] at a3;cases a3
 ·obtain⟨q1,q2⟩:=fkOk_out hff k (hfk k (by rw[hk];simp));rw[newSg_some q2 q1];exact hs.sg0 k x hk
theorem st_wk {fk:List Nat} (hfk:∀k,c.σ0 k≠none->k∈fk) (hs:St c nt σ e h a w) (hw:Wk fk e h le lh n):∃σ',St c nt σ' (ofL le) (hpL lh) a w/\∀k,k∉n->σ' k=none:=by
 obtain⟨f,hi,hff,he,hh⟩:=hw;obtain⟨hkeep,hsw⟩:=sw_wk hfk hs.toSW hi hff hh;exact⟨newSg σ (fnL f) n,⟨hsw,fun t=>prep_wk hkeep _ _ _ (ple_of he) (hs.env t),hs.defers,hs.nt⟩,fun k hk=>by unfold newSg;rw[if_neg fun e=>hk (kin_mem e)]⟩
end
end Go.Proofs.Ytdjbckknghddpaa.Pm
namespace Go.Proofs.Ytdjbckknghddpaa.Pm
open Go.RowKit
abbrev Cont:=Exit->Env->Hp->List Nat->Prop
def seqK (next:Env->Hp->List Nat->Prop) (Q:Cont):Cont:=fun x e h n=>match x with
 | .normal=>next e h n
 | x=>Q x e h n
def blockK (id:Nat) (Q:Cont):Cont:=fun x e h n=>match x with
 | .exit id'=>match Nat.beq id' id with
  | true=>Q .normal e h n|false=>Q (.exit id') e h n
 | x=>Q x e h n
def scopeK (Q:Cont):Cont:=fun x e h n=>match x with
 | .goto _=>False|x=>Q x e h n
inductive Round (fk:List Nat) (S:Type) (E:S->List (Nat×PV)) (H:S->List (Nat×HB)) (n:List Nat) (inv:S->Prop) (μ:S->Nat) (s:S) (e:Env) (h:Hp):Prop
 | mk (s':S) (hi:inv s') (hμ:μ s'<μ s) (hw:Wk fk e h (E s') (H s') n)
def roundK (fk:List Nat) (S:Type) (E:S->List (Nat×PV)) (H:S->List (Nat×HB)) (n:List Nat) (inv:S->Prop) (μ:S->Nat) (s:S) (Q:Cont):Cont:=fun x e h m=>match x with
 | .normal=>Round fk S E H n inv μ s e h|x=>Q x e h m
inductive LoopC (fk:List Nat) (body:Env->Hp->List Nat->Cont->Prop) (e:Env) (h:Hp) (Q:Cont):Prop
 | mk (S:Type) (E:S->List (Nat×PV)) (H:S->List (Nat×HB)) (n:List Nat) (inv:S->Prop) (μ:S->Nat) (s0:S) (h0:inv s0) (hm:Wk fk e h (E s0) (H s0) n)
   (round:∀s,inv s->body (ofL (E s)) (hpL (H s)) n (roundK fk S E H n inv μ s Q))
abbrev VT:=Env->Hp->List Nat->Cont->Prop
noncomputable def vc (P:Program) (nt:Nat) (fk:List Nat) (X:XT) (cd:Code):VT:=
 Code.rec (motive:=fun _=>VT)
  (fun e h n Q=>Q .normal e h n)
  (fun _ ops draw e h n Q=>regionP P nt ops draw e h n X fun e' h' n'=>Q .normal e' h' n')
  (fun _ _ ix iy e h n Q=>ix e h n (seqK (fun e' h' n'=>iy e' h' n' Q) Q))
  (fun c _ _ ix iy e h n Q=>match ev e c with
   | .d (.c (.v (.bool b)))=>BCase b (ix e h n Q) (iy e h n Q)|_=>False)
  (fun id _ i e h n Q=>i e h n (blockK id Q))
  (fun _ i e h n Q=>LoopC fk i e h Q)
  (fun _ _ _ _ _ _ _ _ _ _=>False)
  (fun id e h n Q=>Q (.exit id) e h n)
  (fun _ i e h n Q=>i e h n (scopeK Q))
  (fun _ _ _ _ _=>False)
  (fun _ _ _ _ _=>False)
  (fun e h n Q=>Q .ret e h n)
  (fun _ _ _ _ _=>False) cd
theorem vc_cond {P:Program} {nt:Nat} {fk:List Nat} {X:XT} {c:Operand} {x y:Code} {e:Env} {h:Hp} {n:List Nat} {Q:Cont} :
  vc P nt fk X (.cond c x y) e h n Q=match ev e c with
   | .d (.c (.v (.bool b)))=>BCase b (vc P nt fk X x e h n Q) (vc P nt fk X y e h n Q)|_=>False:=rfl
def After (c:Ctx) (nt:Nat) (X:XT) (Q:Cont):Exit->Act->World->Prop:=fun x a w=>match x with
 | .panic ch=>∃v,ch=[{ v:=v,recovered:=false }]/\∃e h n σ,X v e h n/\St c nt σ e h a w/\∀k,k∉n->σ k=none|x=>∃e h n σ,Q x e h n/\St c nt σ e h a w/\∀k,k∉n->σ k=none
theorem vc_out {P:Program} {nt:Nat} {fk:List Nat} {X:XT} {c:Ctx} (hfk:∀k,c.σ0 k≠none->k∈fk) (hc:c.Ok) (hm:P.follows .mixedOrders=true):∀(cd:Code) (e:Env) (h:Hp) (n:List Nat) (Q:Cont) (σ:Sg) (a:Act) (w:World),vc P nt fk X cd e h n Q->St c nt σ e h a w->(∀k,k∉n->σ k=none)->
  cd.wp P (After c nt X Q) a w
 | .skip,e,h,n,Q,σ,a,w,hv,hs,hf=>wp_skip ⟨e,h,n,σ,hv,hs,hf⟩|.region id ops draw,e,h,n,Q,σ,a,w,hv,hs,hf=>
  region_out hc hm hv (fun x e h n σ a w hx hs hf=>⟨x,rfl,e,h,n,σ,hx,hs,hf⟩) hs hf fun e' h' n' σ' a' w' hk hs' hf'=>⟨e',h',n',σ',hk,hs',hf'⟩
 | .seq x y,e,h,n,Q,σ,a,w,hv,hs,hf=>by
  refine wp_seq (wp_mono (vc_out hfk hc hm x e h n _ σ a w hv hs hf) ?_);intro ex a' w' hq;cases ex with
  | normal=>
   obtain⟨e',h',n',σ',hq,hs',hf'⟩:=hq;exact vc_out hfk hc hm y e' h' n' Q σ' a' w' hq hs' hf'
  | exit id=>exact hq|goto l=>exact hq|ret=>exact hq|panic ch=>exact hq|outgrown=>exact hq
 | .cond o x y,e,h,n,Q,σ,a,w,hv,hs,hf=>by
  rw[vc_cond] at hv;split at hv
  ·rename_i b hb;have h1:=rep_ev hs o;rw[hb] at h1;have h2:=rep_v h1;obtain⟨ht,hff⟩:=hv;refine wp_cond_split h2 (fun hb'=>vc_out hfk hc hm x e h n Q σ a w (ht hb') hs hf) (fun hb'=>vc_out hfk hc hm y e h n Q σ a w (hff hb') hs hf)
  ·exact hv.elim
 | .block id cd,e,h,n,Q,σ,a,w,hv,hs,hf=>by
  refine wp_block (wp_mono (vc_out hfk hc hm cd e h n _ σ a w hv hs hf) ?_);intro ex a' w' hq;cases ex with
  | exit id'=>
   obtain⟨e',h',n',σ',hq,hs',hf'⟩:=hq;simp only[Exit.inBlock];simp only[blockK] at hq;split at hq
   ·rename_i hb;rw[if_pos (eq_of_beq_eq_true hb)];exact⟨e',h',n',σ',hq,hs',hf'⟩
   ·rename_i hb;rw[if_neg (fun e=>by subst e;rw[beq_refl] at hb;cases hb)];exact⟨e',h',n',σ',hq,hs',hf'⟩
  | normal=>exact hq|goto l=>exact hq|ret=>exact hq|panic ch=>exact hq|outgrown=>exact hq
 | .loop cd,e,h,n,Q,σ,a,w,hv,hs,hf=>by
  obtain⟨S,E,H,m,inv,μ,s0,h0,hw,round⟩:=hv;obtain⟨σ0,hs0,hf0⟩:=st_wk hfk hs hw;refine wp_loop_ghost (fun k a' w'=>∃s σ,μ s=k/\inv s/\St c nt σ (ofL (E s)) (hpL (H s)) a' w'/\∀q,q∉m->σ q=none) (μ s0) ⟨s0,σ0,rfl,h0,hs0,hf0⟩ ?_;rintro k a1 w1 ⟨s1,σ1,rfl,h1,h2,h3⟩;refine wp_mono (vc_out hfk hc hm cd _ _ _ _ σ1 a1 w1 (round s1 h1) h2 h3) ?_;intro ex a' w' hq;cases ex with
  | normal=>
   obtain⟨e',h',n',σ',hq,hs',hf'⟩:=hq;obtain⟨s2,i2,lt,hw2⟩:=hq;obtain⟨σ2,hs2,hf2⟩:=st_wk hfk hs' hw2;exact⟨μ s2,lt,s2,σ2,rfl,i2,hs2,hf2⟩
  | exit id=>exact hq|goto l=>exact hq|ret=>exact hq|panic ch=>exact hq|outgrown=>exact hq
 | .exit id,e,h,n,Q,σ,a,w,hv,hs,hf=>wp_exit ⟨e,h,n,σ,hv,hs,hf⟩|.scope cd,e,h,n,Q,σ,a,w,hv,hs,hf=>by
  refine wp_scope_straight (wp_mono (vc_out hfk hc hm cd e h n _ σ a w hv hs hf) ?_);intro ex a' w' hq;cases ex with
  | goto l=>obtain⟨e',h',n',σ',hq,hs',hf'⟩:=hq;exact hq
  | normal=>exact hq|exit id=>exact hq|ret=>exact hq|panic ch=>exact hq|outgrown=>exact hq
 | .ret,e,h,n,Q,σ,a,w,hv,hs,hf=>wp_ret ⟨e,h,n,σ,hv,hs,hf⟩|.rangeFunc _ _ _ _,e,h,n,Q,σ,a,w,hv,hs,hf=>False.elim hv|.label _,e,h,n,Q,σ,a,w,hv,hs,hf=>False.elim hv|.goto _,e,h,n,Q,σ,a,w,hv,hs,hf=>False.elim hv|.refuse _,e,h,n,Q,σ,a,w,hv,hs,hf=>False.elim hv
inductive Smc (P:Program) (nt:Nat) (fk:List Nat) (X:XT) (cd:Code) (e:Env) (h:Hp) (n:List Nat) (Q:Cont):Prop
 | mk (out:∀c:Ctx,(∀k,c.σ0 k≠none->k∈fk)->c.Ok->∀(σ:Sg) (a:Act) (w:World),St c nt σ e h a w->(∀k,k∉n->σ k=none)->cd.wp P (After c nt X Q) a w)
section
variable {P:Program} {nt:Nat} {fk:List Nat} {X:XT} {cd x y z:Code} {e:Env} {h:Hp} {n:List Nat} {Q:Cont}
theorem Smc.out' (H:Smc P nt fk X cd e h n Q) {c:Ctx} (hfk:∀k,c.σ0 k≠none->k∈fk) (hc:c.Ok) {σ:Sg} {a:Act} {w:World} (hs:St c nt σ e h a w) (hf:∀k,k∉n->σ k=none):cd.wp P (After c nt X Q) a w:=H.rec fun o=>o c hfk hc σ a w hs hf
theorem Smc.of (hm:P.follows .mixedOrders=true) (hv:vc P nt fk X cd e h n Q):Smc P nt fk X cd e h n Q:=⟨fun c hfk hc σ a w hs hf=>vc_out hfk hc hm cd e h n Q σ a w hv hs hf⟩
theorem Smc.cut {le:List (Nat×PV)} {lh:List (Nat×HB)} {m:List Nat} (hw:Wk fk e h le lh m) (H:Smc P nt fk X cd (ofL le) (hpL lh) m Q):Smc P nt fk X cd e h n Q:=⟨fun c hfk hc σ a w hs hf=>by
 obtain⟨σ',hs',hf'⟩:=st_wk hfk hs hw;exact H.out' hfk hc hs' hf'⟩
theorem Smc.seqs (H:Smc P nt fk X x e h n (seqK (fun e h n=>Smc P nt fk X y e h n Q) Q)):Smc P nt fk X (.seq x y) e h n Q:=⟨fun c hfk hc σ a w hs hf=>by
 refine wp_seq (wp_mono (H.out' hfk hc hs hf) ?_);intro ex a' w' hq;cases ex with
 | normal=>
  obtain⟨e',h',n',σ',hq,hs',hf'⟩:=hq;exact hq.out' hfk hc hs' hf'
 | exit id=>exact hq|goto l=>exact hq|ret=>exact hq|panic ch=>exact hq|outgrown=>exact hq⟩
theorem Smc.seq (hm:P.follows .mixedOrders=true) (hv:vc P nt fk X x e h n (seqK (fun e h n=>Smc P nt fk X y e h n Q) Q)):Smc P nt fk X (.seq x y) e h n Q:=Smc.seqs (Smc.of hm hv)
end
def resP (P:Program) (h:Hp) (e:Env):List ResultVar->(List PV->Prop)->Prop
 | [],K=>K []|.tmp t::rs,K=>PV.force (e t) fun v=>resP P h e rs fun vs=>K (v::vs)
 | .cell t ty::rs,K=>loadP P h ty (e t) fun v _=>resP P h e rs fun vs=>K (v::vs)
def D.closeA (h:Hp) (x:D) (K:C->Prop):Prop:=match x with
 | .c y=>K y|.app _ _ sz l=>K (.sl sz l)|.arr k _ sz lo n=>match h k with
  | some (.arr _ s rows)=>match Nat.beq s sz with
   | true=>Need (lo+n<=rows.length) (K (.sl sz ((rows.drop lo).take n)))|false=>False
  | some (.darr _ s rows)=>match Nat.beq s sz with
   | true=>∃rs:List (List C),rows=rs.map (List.map D.c)/\lo+n<=rs.length/\K (.sl sz ((rs.drop lo).take n))|false=>False
  | _=>False
 | .clo f [] []=>K (.v (.func (.func f) #[] #[]))|_=>False
def ClL (h:Hp):List D->List C->Prop
 | [],ys=>ys=[]|x::xs,ys=>match ys with
  | []=>False|y::ys=>D.closeA h x (fun z=>z=y)/\ClL h xs ys
def ClR (h:Hp):List (List D)->List (List C)->Prop
 | [],ys=>ys=[]|x::xs,ys=>match ys with
  | []=>False|y::ys=>ClL h x y/\ClR h xs ys
inductive RowsC (h:Hp) (rows:List (List D)) (K:List (List C)->Prop):Prop
 | mk (rs:List (List C)) (hr:ClR h rows rs) (hk:K rs)
theorem clL_cs {h:Hp}:∀l:List C,ClL h (l.map D.c) l
 | []=>by unfold ClL;rfl
 | x::xs=>by rw[map_cons];unfold ClL;exact⟨rfl,clL_cs xs⟩
theorem clR_cs {h:Hp}:∀l:List (List C),ClR h (l.map (List.map D.c)) l
 | []=>by unfold ClR;rfl
 | x::xs=>by rw[map_cons];unfold ClR;exact⟨clL_cs x,clR_cs xs⟩
def D.closeH (h:Hp) (x:D) (K:C->Prop):Prop:=match x with
 | .c y=>K y|.app _ _ sz l=>K (.sl sz l)|.arr k _ sz lo n=>match h k with
  | some (.arr _ s rows)=>match Nat.beq s sz with
   | true=>Need (lo+n<=rows.length) (K (.sl sz ((rows.drop lo).take n)))|false=>False
  | some (.darr _ s rows)=>match Nat.beq s sz with
   | true=>RowsC h rows fun rs=>Need (lo+n<=rs.length) (K (.sl sz ((rs.drop lo).take n)))
   | false=>False
  | _=>False
 | .clo f [] []=>K (.v (.func (.func f) #[] #[]))|_=>False
def closeHL (h:Hp):List D->(List C->Prop)->Prop
 | [],K=>K []|x::xs,K=>D.closeH h x fun y=>closeHL h xs fun ys=>K (y::ys)
mutual
def PV.closeH (h:Hp):PV->(PV->Prop)->Prop
 | .d x,K=>D.closeH h x fun y=>K (.d (.c y))
 | .agg l,K=>closeHL h l fun ys=>K (.agg (ys.map D.c))
 | .tup l,K=>closeHPs h l fun ys=>K (.tup ys)
 | .any,_=>False
def closeHPs (h:Hp):List PV->(List PV->Prop)->Prop
 | [],K=>K []|x::xs,K=>PV.closeH h x fun y=>closeHPs h xs fun ys=>K (y::ys)
end
inductive Ret (v r:PV):Prop
 | mk (h:v=r)
 | le (h:PLe (fun _=>none) [] r v)
def tupOf (vs:List PV) (K:PV->Prop):Prop:=match vs with
 | [v]=>K v|vs=>K (.tup vs)
def retQ (P:Program) (fn:Func) (res:PV):Cont:=fun x e h _=>match x with
 | .normal=>resP P h e fn.results.toList fun vs=>closeHPs h vs fun vs=>tupOf vs fun v=>Ret v res
 | .ret=>resP P h e fn.results.toList fun vs=>closeHPs h vs fun vs=>tupOf vs fun v=>Ret v res
 | _=>False
inductive RetS (fk:List Nat) (h:Hp) (res:PV) (fin:Rf) (v:PV):Prop
 | mk (f:List (Nat×Nat)) (n:List Nat) (hi:injOn (fnL f) fin=true) (hf:fkOk (fnL f) n fk=true) (hr:PLe (fnL f) n res v) (hh:HLes (fnL f) n h fin)
def retS (P:Program) (fn:Func) (fk:List Nat) (res:PV) (fin:Rf):Cont:=fun x e h _=>match x with
 | .normal=>resP P h e fn.results.toList fun vs=>tupOf vs fun v=>RetS fk h res fin v
 | .ret=>resP P h e fn.results.toList fun vs=>tupOf vs fun v=>RetS fk h res fin v
 | _=>False
def argsE (l:List PV):Env:=fun t=>match l[t]? with
 | some v=>v|none=>.tup []
theorem loadP_run {P:Program} {c:Ctx} {σ:Sg} {h:Hp} {w:World} {t:TypeId} {x:PV} {K:PV->Rf->Prop} (hv:loadP P h t x K) (hs:SW c σ h w) {u:Value} (hu:PRep σ (fz c σ h w) w x u) :
  ∃v z rf,K v rf/\(Instr.loadAt t u).run P w=.ok z w/\(∃ad,u=.pointer (some ad))/\PRep σ (fz c σ h w) w v z:=by
 unfold loadP at hv;split at hv
 ·rename_i l;obtain⟨v,h1,h2⟩:=readP_out hv;unfold PRep DRep CRep at hu;obtain⟨b,off,rfl,e3⟩:=hu;obtain⟨us,e4,e5,_⟩:=csAt_values e3;obtain⟨z,h3,h4⟩:=h2 σ _ w b off us (dsRep_of_cs e4) e5;exact⟨v,z,_,h1,by simp only[Instr.loadAt,Instr.sureAddr,Sem.run_bind,Sem.run_pure,Result.andThen_ok,h3],⟨_,rfl⟩,h4⟩
 ·rename_i k off;split at hv
  ·rename_i bt l hk;obtain⟨v,h1,h2⟩:=readP_out hv;unfold PRep DRep at hu;obtain⟨g,n,e2,rfl⟩:=hu;obtain⟨g',n',cur,e4,e5,e6,e7⟩:=hs.hp k _ hk;rw[e2] at e4;cases e4;obtain⟨z,h3,h4⟩:=h2 σ _ w g off (cur.toList.drop off) (e7.drop off) (fun j v hv=>by
    rw[cell_of_row _ _ _ _ _ _ e6];rw[List.getElem?_drop] at hv;simpa using hv)
   exact⟨v,z,_,h1,by simp only[Instr.loadAt,Instr.sureAddr,Sem.run_bind,Sem.run_pure,Result.andThen_ok,h3],⟨_,rfl⟩,h4⟩
  ·exact hv.elim
 ·rename_i k sz j off;split at hv
  ·rename_i e0 s rows hk;split at hv
   ·rename_i es;obtain rfl:=eq_of_beq_eq_true es;obtain⟨r,hr,hv⟩:=hv;obtain⟨v,h1,h2⟩:=readP_out hv;unfold PRep DRep at hu;obtain⟨g,n,e2,rfl⟩:=hu;obtain⟨hz,hrl,ob,n',e4,e5⟩:=hs.hp k _ hk;rw[e2] at e4;cases e4;obtain⟨e5,cur,e6,e7,e8⟩:=e5;have hrep:=row_rep hrl hr e8;obtain⟨z,h3,h4⟩:=h2 σ _ w g (j*s+off) ((((cur.toList.take (rows.length*s)).drop (j*s)).take s).drop off) (dsRep_of_cs (hrep.drop off)) (fun q v hv=>by
     rw[cell_of_row _ _ _ _ _ _ e6];rw[List.getElem?_drop,List.getElem?_take] at hv;split at hv
     ·rw[List.getElem?_drop,List.getElem?_take] at hv;split at hv
      ·rw[<- Array.getElem?_toList,<- hv];congr 1;omega
      ·cases hv
     ·cases hv)
    exact⟨v,z,_,h1,by simp only[Instr.loadAt,Instr.sureAddr,Sem.run_bind,Sem.run_pure,Result.andThen_ok,h3],⟨_,rfl⟩,h4⟩
   ·exact hv.elim
  ·rename_i e0 s rows hk;split at hv
   ·rename_i es;obtain rfl:=eq_of_beq_eq_true es;obtain⟨r,hr,hv⟩:=hv;obtain⟨v,h1,h2⟩:=readP_out hv;unfold PRep DRep at hu;obtain⟨g,n,e2,rfl⟩:=hu;obtain⟨hz,hrl,ob,n',e4,e5⟩:=hs.hp k _ hk;rw[e2] at e4;cases e4;obtain⟨e5,cur,e6,e7,e8⟩:=e5;have hrep:=drow_rep hrl hr e8;obtain⟨z,h3,h4⟩:=h2 σ _ w g (j*s+off) ((((cur.toList.take (rows.length*s)).drop (j*s)).take s).drop off) (hrep.drop off) (fun q v hv=>by
     rw[cell_of_row _ _ _ _ _ _ e6];rw[List.getElem?_drop,List.getElem?_take] at hv;split at hv
     ·rw[List.getElem?_drop,List.getElem?_take] at hv;split at hv
      ·rw[<- Array.getElem?_toList,<- hv];congr 1;omega
      ·cases hv
     ·cases hv)
    exact⟨v,z,_,h1,by simp only[Instr.loadAt,Instr.sureAddr,Sem.run_bind,Sem.run_pure,Result.andThen_ok,h3],⟨_,rfl⟩,h4⟩
   ·exact hv.elim
  ·exact hv.elim
 ·exact hv.elim
def resF (tmps:Array Value):ResultVar->Sem Value
 | .tmp t=>pure (tmps.getD t undef)|.cell a t=>do loadVar t (<- asAddr (tmps.getD a undef))
theorem resP_out {P:Program} {c:Ctx} {nt:Nat} {σ:Sg} {e:Env} {h:Hp} {a:Act} {w:World} (hs:St c nt σ e h a w):∀{rs:List ResultVar} {K:List PV->Prop},resP P h e rs K->
  ∃vs us,K vs/\(rs.mapM (resF a.tmps)).run P w=.ok us w/\PsRep σ (fz c σ h w) w vs us
 | [],K,hv=>⟨[],[],hv,by simp,by unfold PsRep;trivial⟩|.tmp t::rs,K,hv=>by
  unfold resP at hv;obtain⟨vs,us,h3,h4,h5⟩:=resP_out hs (force_out hv);refine⟨e t::vs,a.tmps.getD t undef::us,h3,?_,by unfold PsRep;exact⟨hs.env t,h5⟩⟩;simp only[mapM_cons,resF,Sem.run_bind,Sem.run_pure,Result.andThen_ok,h4]
 | .cell t ty::rs,K,hv=>by
  unfold resP at hv;obtain⟨v,z,_,g1,g2,⟨ad,g3⟩,g4⟩:=loadP_run hv hs.toSW (hs.env t);obtain⟨vs,us,h3,h4,h5⟩:=resP_out hs g1;refine⟨v::vs,z::us,h3,?_,by unfold PsRep;exact⟨g4,h5⟩⟩;rw[g3] at g2;have g5:(loadVar ty ad).run P w=.ok z w:=by simpa [Instr.loadAt,Instr.sureAddr] using g2
  simp only[mapM_cons,resF,Sem.run_bind,Sem.run_pure,Result.andThen_ok,h4,g3,asAddr,g5]
theorem psRep_len {σ:Sg} {F:Fzn} {w:World}:∀{l:List PV} {us:List Value},PsRep σ F w l us->us.length=l.length
 | [],[],_=>rfl|_::_,_::us,h=>by unfold PsRep at h;rw[length_cons,length_cons,psRep_len h.2]
 | [],_::_,h=>by unfold PsRep at h;exact h.elim
 | _::_,[],h=>by unfold PsRep at h;exact h.elim
theorem psRep_get {σ:Sg} {F:Fzn} {w:World}:∀{l:List PV} {us:List Value} (t:Nat),PsRep σ F w l us->PRep σ F w (argsE l t) ((us[t]?).getD undef)
 | [],[],t,_=>by unfold argsE;simp;exact rep_undef
 | x::xs,u::us,0,h=>by unfold PsRep at h;unfold argsE;simpa using h.1
 | x::xs,u::us,t+1,h=>by
  unfold PsRep at h;have:=psRep_get t h.2;unfold argsE at this ⊢;simpa using this
 | [],_::_,_,h=>by unfold PsRep at h;exact h.elim
 | _::_,[],_,h=>by unfold PsRep at h;exact h.elim
theorem tup_out {σ:Sg} {F:Fzn} {w:World} {vs:List PV} {us:List Value} {K:PV->Prop} (h:tupOf vs K) (hr:PsRep σ F w vs us):∃v,K v/\PRep σ F w v (if h:us.toArray.size=1 then us.toArray[0] else .tuple us.toArray):=by
 have hlen:=psRep_len hr;unfold tupOf at h;split at h
 ·rename_i v;simp only[length_singleton] at hlen;refine⟨v,h,?_⟩;match us,hlen,hr with
  | [u],_,hr=>unfold PsRep at hr;simpa using hr.1
 ·rename_i hne;refine⟨_,h,?_⟩;have:¬us.toArray.size=1:=by
   intro hq;rw[size_toArray] at hq;rw[hq] at hlen;match vs,hlen,hne with
   | [v],_,hne=>exact hne v rfl
  rw[dif_neg this];unfold PRep;exact⟨us,rfl,hr⟩
theorem results_run {P:Program} {c:Ctx} {nt:Nat} {σ:Sg} {e:Env} {h:Hp} {a:Act} {w:World} {fn:Func} {K:List PV->Prop} (hs:St c nt σ e h a w) (hr:resP P h e fn.results.toList K) :
  ∃vs us,K vs/\(results fn a.tmps).run P w=.ok (if hx:us.toArray.size=1 then us.toArray[0] else .tuple us.toArray) w/\PsRep σ (fz c σ h w) w vs us:=by
 obtain⟨vs,us,h1,h2,h3⟩:=resP_out hs hr;refine⟨vs,us,h1,?_,h3⟩;have he:results fn a.tmps=(do let vs <- fn.results.mapM (resF a.tmps);pure (if h:vs.size=1 then vs[0] else .tuple vs)):=by
  unfold results
  congr 1
 rw[he,Array.mapM_eq_mapM_toList];simp only[Sem.run_bind,map_eq_pure_bind,bind_assoc,pure_bind,h2,Result.andThen_ok,Sem.run_pure]
section
variable {c:Ctx} {σ:Sg} {h:Hp} {w:World} {F':Fzn}
theorem arr_close (hall:∀b o,c.own b->b<w.heap.size->F' b o) {k e e2 s lo n:Nat} {rows:List (List C)} {u:Value} (hu:DRep σ (fz c σ h w) w (.arr k e s lo n) u) (hrl:∀r∈rows,r.length=s) (hle:lo+n<=rows.length)
  (hh:∃ob q,σ k=some (ob,q)/\match ob with
   | none=>True|some g=>c.own g/\∃cur:Array Value,w.heap[g]? = some (Obj.cells cur e2 (0,0))/\CsRep F' w rows.flatten (cur.toList.take (rows.length*s))):CRep F' w (.sl s ((rows.drop lo).take n)) u:=by
 obtain⟨ob,q,h1,h2⟩:=hh;unfold DRep at hu;have hlen:((rows.drop lo).take n).length=n:=by rw[length_take,length_drop];omega
 unfold CRep;rw[hlen];obtain⟨_,⟨m,g1,rfl,b0,rfl⟩ | ⟨g,m,off,cap,cur,fr,g1,rfl,g3,g4,g5,g6,g7⟩⟩:=hu
 ·exact⟨b0,0,rfl,Nat.le_refl _,zero_le _,fun _=>rfl,.inl (by simp)⟩
 ·refine⟨_,cap,rfl,g3,g4,(fun e=>by cases e),?_⟩;by_cases hn:n=0
  ·subst hn;exact .inl (by simp)
  ·right;rw[g1] at h1;cases h1;obtain⟨hown,cur2,p1,p3⟩:=h2;obtain rfl:=g7 (by omega);refine⟨g,lo*s,rfl,?_⟩;have hlt:g<w.heap.size:=(Array.getElem?_eq_some_iff.1 p1).1;have hr:RowsAt F' w s g 0 rows:=by
    rw[rowsAt_iff];refine⟨hrl,csAt_of_values p3 (fun j u hu=>?_) (fun j hj=>hall _ _ hown hlt)⟩;rw[zero_add,cell_of_row _ _ _ _ _ _ p1];rw[List.getElem?_take] at hu;split at hu
    ·simpa using hu
    ·cases hu
   have:=rowsAt_take n (rowsAt_drop lo (by omega) hr)
   rwa [zero_add] at this
theorem dsRep_csr {F:Fzn}:∀{l:List C} {us:List Value},DsRep σ F w (l.map D.c) us->CsRep F w l us
 | [],us,h=>by
  rw[map_nil] at h;rw[dsRep_nil_inv h];exact csRep_nil
 | x::xs,us,h=>by
  rw[map_cons] at h;obtain⟨u,vs,rfl,h1,h2⟩:=dsRep_inv h;unfold DRep at h1;exact csRep_cons h1 (dsRep_csr h2)
theorem closeA_out (hs:SW c σ h w) (hk:Keeps (fz c σ h w) F' w w) (hall:∀b o,c.own b->b<w.heap.size->F' b o) {x:D} {K:C->Prop} (hx:D.closeA h x K):∃y,K y/\∀u,DRep σ (fz c σ h w) w x u->CRep F' w y u:=by
 unfold D.closeA at hx;split at hx
 ·exact⟨_,hx,fun u hu=>by unfold DRep at hu;exact CRep.keeps hk _ _ hu⟩
 ·rename_i k e sz l;refine⟨_,hx,fun u hu=>?_⟩;have:=rows_val (σ:=σ) (F:=fz c σ h w) (w:=w) (x:=.d (.app k e sz l)) (.inr ⟨k,e,rfl⟩) (u:=u) (by unfold PRep;exact hu);refine CRep.keeps hk _ _ ?_;unfold CRep;exact this
 ·rename_i k e sz lo n;split at hx
  ·rename_i e2 s rows hh;split at hx
   ·rename_i es;obtain rfl:=eq_of_beq_eq_true es;obtain⟨hle,hx⟩:=hx;refine⟨_,hx,fun u hu=>?_⟩;obtain⟨hz,hrl,ob,q,h1,h2⟩:=hs.hp k _ hh;refine arr_close (e2:=e2) hall hu hrl hle ⟨ob,q,h1,?_⟩;cases ob with
    | none=>trivial|some g=>exact⟨h2.1,h2.2.choose,h2.2.choose_spec.1,CsRep.keeps hk _ _ h2.2.choose_spec.2.2⟩
   ·exact hx.elim
  ·rename_i e2 s rows hh;split at hx
   ·rename_i es;obtain rfl:=eq_of_beq_eq_true es;obtain⟨rs,rfl,hle,hx⟩:=hx;refine⟨_,hx,fun u hu=>?_⟩;obtain⟨hz,hrl,ob,q,h1,h2⟩:=hs.hp k _ hh;refine arr_close (e2:=e2) hall hu (fun r hr=>?_) hle ⟨ob,q,h1,?_⟩
    ·have:=hrl _ (mem_map.2 ⟨r,hr,rfl⟩)
     rwa [length_map] at this
    cases ob with
    | none=>trivial|some g=>
     obtain⟨q1,cur,q2,q3,q4⟩:=h2;rw[<- map_flatten] at q4;exact⟨q1,cur,q2,by have:=CsRep.keeps hk _ _ (dsRep_csr q4);simpa using this⟩
   ·exact hx.elim
  ·exact hx.elim
 ·rename_i f;refine⟨_,hx,fun u hu=>?_⟩;unfold DRep at hu;obtain⟨us,vs,rfl,h1,h2⟩:=hu;rw[dsRep_nil_inv h1,dsRep_nil_inv h2];unfold CRep;exact⟨rfl,rfl⟩
 ·exact hx.elim
theorem dsRep_split {F:Fzn}:∀{a b:List D} {us:List Value},DsRep σ F w (a++b) us->∃u1 u2,us=u1++u2/\DsRep σ F w a u1/\DsRep σ F w b u2
 | [],b,us,h=>⟨[],us,rfl,dsRep_nil,h⟩|x::xs,b,us,h=>by
  rw[cons_append] at h;obtain⟨u,vs,rfl,h1,h2⟩:=dsRep_inv h;obtain⟨u1,u2,rfl,h3,h4⟩:=dsRep_split h2;exact⟨u::u1,u2,rfl,dsRep_cons h1 h3,h4⟩
theorem clL_out (hs:SW c σ h w) (hk:Keeps (fz c σ h w) F' w w) (hall:∀b o,c.own b->b<w.heap.size->F' b o):∀{l:List D} {ys:List C},ClL h l ys->ys.length=l.length/\∀us,DsRep σ (fz c σ h w) w l us->CsRep F' w ys us
 | [],ys,h=>by unfold ClL at h;subst h;exact⟨rfl,fun us hu=>by rw[dsRep_nil_inv hu];exact csRep_nil⟩
 | x::xs,ys,h=>by
  unfold ClL at h;split at h
  ·exact h.elim
  ·obtain⟨y,rfl,h2⟩:=closeA_out hs hk hall h.1;obtain⟨h3,h4⟩:=clL_out hs hk hall h.2;refine⟨by rw[length_cons,length_cons,h3],fun us hu=>?_⟩;obtain⟨u,vs,rfl,g1,g2⟩:=dsRep_inv hu;exact csRep_cons (h2 u g1) (h4 vs g2)
theorem clR_out {s:Nat} (hs:SW c σ h w) (hk:Keeps (fz c σ h w) F' w w) (hall:∀b o,c.own b->b<w.heap.size->F' b o):∀{l:List (List D)} {rs:List (List C)},(∀r∈l,r.length=s)->ClR h l rs->
  rs.length=l.length/\(∀r∈rs,r.length=s)/\∀us,DsRep σ (fz c σ h w) w l.flatten us->CsRep F' w rs.flatten us
 | [],rs,_,hr=>by
  unfold ClR at hr;subst hr;exact⟨rfl,by simp,fun us hu=>by rw[flatten_nil] at hu;rw[dsRep_nil_inv hu];exact csRep_nil⟩
 | x::xs,rs,hl,hr=>by
  unfold ClR at hr;split at hr
  ·exact hr.elim
  ·obtain⟨g1,g2⟩:=clL_out hs hk hall hr.1;obtain⟨i1,i2,i3⟩:=clR_out hs hk hall (fun r hr=>hl r (mem_cons_of_mem _ hr)) hr.2;refine⟨by rw[length_cons,length_cons,i1],fun r hr=>?_,fun us hu=>?_⟩
   ·rcases mem_cons.1 hr with rfl | hr
    ·rw[g1];exact hl _ (mem_cons_self ..)
    ·exact i2 r hr
   ·rw[flatten_cons] at hu ⊢;obtain⟨u1,u2,rfl,f1,f2⟩:=dsRep_split hu;exact CsRep.append (g2 u1 f1) (i3 u2 f2)
theorem closeH_out (hs:SW c σ h w) (hk:Keeps (fz c σ h w) F' w w) (hall:∀b o,c.own b->b<w.heap.size->F' b o) {x:D} {K:C->Prop} (hx:D.closeH h x K):∃y,K y/\∀u,DRep σ (fz c σ h w) w x u->CRep F' w y u:=by
 unfold D.closeH at hx;split at hx
 ·exact⟨_,hx,fun u hu=>by unfold DRep at hu;exact CRep.keeps hk _ _ hu⟩
 ·rename_i k e sz l;refine⟨_,hx,fun u hu=>?_⟩;have:=rows_val (σ:=σ) (F:=fz c σ h w) (w:=w) (x:=.d (.app k e sz l)) (.inr ⟨k,e,rfl⟩) (u:=u) (by unfold PRep;exact hu);refine CRep.keeps hk _ _ ?_;unfold CRep;exact this
 ·rename_i k e sz lo n;split at hx
  ·rename_i e2 s rows hh;split at hx
   ·rename_i es;obtain rfl:=eq_of_beq_eq_true es;obtain⟨hle,hx⟩:=hx;refine⟨_,hx,fun u hu=>?_⟩;obtain⟨hz,hrl,ob,q,h1,h2⟩:=hs.hp k _ hh;refine arr_close (e2:=e2) hall hu hrl hle ⟨ob,q,h1,?_⟩;cases ob with
    | none=>trivial|some g=>exact⟨h2.1,h2.2.choose,h2.2.choose_spec.1,CsRep.keeps hk _ _ h2.2.choose_spec.2.2⟩
   ·exact hx.elim
  ·rename_i e2 s rows hh;split at hx
   ·rename_i es;obtain rfl:=eq_of_beq_eq_true es;obtain⟨rs,hr,hle,hx⟩:=hx;refine⟨_,hx,fun u hu=>?_⟩;obtain⟨hz,hrl,ob,q,h1,h2⟩:=hs.hp k _ hh;obtain⟨i1,i2,i3⟩:=clR_out hs hk hall hrl hr;refine arr_close (e2:=e2) hall hu i2 hle ⟨ob,q,h1,?_⟩;cases ob with
    | none=>trivial|some g=>
     obtain⟨q1,cur,q2,q3,q4⟩:=h2;exact⟨q1,cur,q2,by rw[i1];exact i3 _ q4⟩
   ·exact hx.elim
  ·exact hx.elim
 ·rename_i f;refine⟨_,hx,fun u hu=>?_⟩;unfold DRep at hu;obtain⟨us,vs,rfl,h1,h2⟩:=hu;rw[dsRep_nil_inv h1,dsRep_nil_inv h2];unfold CRep;exact⟨rfl,rfl⟩
 ·exact hx.elim
theorem closeHL_out (hs:SW c σ h w) (hk:Keeps (fz c σ h w) F' w w) (hall:∀b o,c.own b->b<w.heap.size->F' b o):∀{l:List D} {K:List C->Prop},closeHL h l K->∃ys,K ys/\∀us,DsRep σ (fz c σ h w) w l us->CsRep F' w ys us
 | [],K,h=>⟨[],h,fun us hu=>by rw[dsRep_nil_inv hu];exact csRep_nil⟩|x::xs,K,h=>by
  unfold closeHL at h;obtain⟨y,h1,h2⟩:=closeH_out hs hk hall h;obtain⟨ys,h3,h4⟩:=closeHL_out hs hk hall h1;refine⟨y::ys,h3,fun us hu=>?_⟩;obtain⟨u,vs,rfl,g1,g2⟩:=dsRep_inv hu;exact csRep_cons (h2 u g1) (h4 vs g2)
mutual
theorem pcloseH_out (hs:SW c σ h w) (hk:Keeps (fz c σ h w) F' w w) (hall:∀b o,c.own b->b<w.heap.size->F' b o):∀{x:PV} {K:PV->Prop},PV.closeH h x K->∃y,K y/\∀u,PRep σ (fz c σ h w) w x u->PRep (fun _=>none) F' w y u
 | .d x,K,h=>by
  unfold PV.closeH at h;obtain⟨y,h1,h2⟩:=closeH_out hs hk hall h;refine⟨_,h1,fun u hu=>?_⟩;unfold PRep at hu ⊢;unfold DRep;exact h2 u hu
 | .agg l,K,h=>by
  unfold PV.closeH at h;obtain⟨ys,h1,h2⟩:=closeHL_out hs hk hall h;refine⟨_,h1,fun u hu=>?_⟩;unfold PRep at hu ⊢;obtain⟨xs,rfl,hx⟩:=hu;exact⟨xs,rfl,dsRep_of_cs (h2 xs hx)⟩
 | .tup l,K,h=>by
  unfold PV.closeH at h;obtain⟨ys,h1,h2⟩:=closeHPs_out hs hk hall h;refine⟨_,h1,fun u hu=>?_⟩;unfold PRep at hu ⊢;obtain⟨xs,rfl,hx⟩:=hu;exact⟨xs,rfl,h2 xs hx⟩
 | .any,K,h=>by unfold PV.closeH at h;exact h.elim
theorem closeHPs_out (hs:SW c σ h w) (hk:Keeps (fz c σ h w) F' w w) (hall:∀b o,c.own b->b<w.heap.size->F' b o):∀{l:List PV} {K:List PV->Prop},closeHPs h l K->∃ys,K ys/\∀us,PsRep σ (fz c σ h w) w l us->PsRep (fun _=>none) F' w ys us
 | [],K,h=>by
  unfold closeHPs at h;refine⟨[],h,fun us hu=>?_⟩;cases us with
  | nil=>unfold PsRep;trivial|cons _ _=>unfold PsRep at hu;exact hu.elim
 | x::xs,K,h=>by
  unfold closeHPs at h;obtain⟨y,h1,h2⟩:=pcloseH_out hs hk hall h;obtain⟨ys,h3,h4⟩:=closeHPs_out hs hk hall h1;refine⟨y::ys,h3,fun us hu=>?_⟩;cases us with
  | nil=>unfold PsRep at hu;exact hu.elim|cons u us=>unfold PsRep at hu ⊢;exact⟨h2 u hu.1,h4 us hu.2⟩
end
end
theorem getD_args {vs:List Value} {nt t:Nat}:(vs.toArray++Array.replicate (nt - vs.toArray.size) undef).getD t undef=(vs[t]?).getD undef:=by
 rw[Array.getD_eq_getD_getElem?,Array.getElem?_append];split
 ·simp
 ·rename_i hlt;have:vs[t]? = none:=List.getElem?_eq_none (by simpa using hlt);rw[this,Array.getElem?_replicate];split<;>rfl
theorem pure_sem {P:Program} {f:FuncId} {fn:Func} {cd:Code} {args:List PV} {res:PV} (hf:P.funcs[f]? = some fn) (hn:(fn.name== "runtime.NumGoroutine")=false) (hb:fn.body=some cd) (hm:P.follows .mixedOrders=true)
  (ha:Nat.ble args.length fn.ntmps=true) (hv:Smc P fn.ntmps [] (fun _ _ _ _=>False) cd (argsE args) (fun _=>none) [] (retQ P fn res)):Pure P f args res:=by
 refine⟨⟨fn,hf,hn,by rw[hb];rfl⟩,fun F w vs hG hF hargs=>?_⟩;have hal:=le_of_ble_eq_true ha;have hvl:=psRep_len hargs;obtain⟨c,hcdef⟩:∃c:Ctx,c=⟨w,F,fun _=>False,fun _ _=>False,fun _=>none,[]⟩:=⟨_,rfl⟩;have hn0:c.n0=w.heap.size:=by rw[hcdef]
 have hF0:c.F0=F:=by rw[hcdef]
 have hF1:c.F1=fun _ _=>False:=by rw[hcdef]
 have hσ0:c.σ0=fun _=>none:=by rw[hcdef]
 have hw0:c.w0=w:=by rw[hcdef]
 have hdf:c.df=[]:=by rw[hcdef]
 have hext:∀b,¬c.ext b:=by intro b;rw[hcdef];exact id
 have hc:c.Ok:=⟨fun b o h=>⟨by rw[hn0];exact hF b o (by rw[<- hF0];exact h),hext b⟩,by rw[hw0];exact hG,fun b _=>hext b⟩;have hfz:∀b o,F b o->fz c (fun _=>none) (fun _=>none) w b o:=fun b o h=>.inl ⟨by rw[hn0];exact hF b o h,by rw[hF0];exact h⟩;have hst:St c fn.ntmps (fun _=>none) (argsE args) (fun _=>none) { tmps:=vs.toArray++Array.replicate (fn.ntmps - vs.toArray.size) undef,defers:=[] } w:=by
  refine⟨⟨by rw[hw0],by rw[hw0],by rw[hw0],by rw[hn0];exact Nat.le_refl _,fun b _ _=>by rw[hw0],(fun k hb hk=>by cases hk),fun k k' g n n' hk=>absurd rfl hk,?_,by rw[hw0];exact Shape.refl _,fun k x hk=>by rw[hσ0] at hk;cases hk⟩,fun t=>?_,hdf.symm,?_⟩
  ·rw[hF1,hw0];exact⟨fun _ _ h=>h.elim,fun _ _ h=>h.elim⟩
  ·have h1:=psRep_get t (PsRep.of_none (σ:=fun _=>none) ⟨hfz,fun _ _ _=>rfl⟩ _ _ hargs);show PRep _ _ _ _ ((vs.toArray++Array.replicate (fn.ntmps - vs.toArray.size) undef).getD t undef);rw[getD_args];exact h1
  ·simp;omega
 refine calls_of_wp hf hb (wp_mono (hv.out' (fun k hk=>absurd (by rw[hσ0]) hk) hc hst (fun _ _=>rfl)) ?_);intro x a' w' hq;have fin:∀e' h' σ',St c fn.ntmps σ' e' h' a' w'->resP P h' e' fn.results.toList (fun vs=>closeHPs h' vs fun vs=>tupOf vs fun v=>Ret v res)->
   a'.defers=[]/\∃v,(results fn a'.tmps).run P w'=.ok v w'/\∃v',Ending.returned v=.returned v'/\Below w.heap.size w w'/\PRep (fun _=>none) (fun b o=>F b o\/(w.heap.size<=b/\b<w'.heap.size)) w' res v':=by
  intro e' h' σ' hs' hr;obtain⟨ps,us,h1,h2,h3⟩:=results_run hs' hr;have hbel:Below w.heap.size w w':=⟨by rw[hs'.os,hw0],by rw[hs'.tape,hw0],by rw[hs'.output,hw0],by have:=hs'.size;rw[hn0] at this;exact this,fun k hk=>by
   rw[hs'.block k (by rw[hn0];exact hk) (hext k),hw0]⟩
  have hkeep:Keeps (fz c σ' h' w') (fun b o=>F b o\/(w.heap.size<=b/\b<w'.heap.size)) w' w':=by
   refine⟨fun b o hq=>?_,fun _ _ _=>rfl⟩;rcases hq with ⟨q1,q2⟩ | ⟨q1,q2,_⟩
   ·rw[hF0] at q2;exact .inl q2
   ·rcases q1 with q1 | q1
    ·rw[hn0] at q1;exact .inr ⟨q1,q2⟩
    ·exact absurd q1 (hext b)
  obtain⟨ps',h1,h4⟩:=closeHPs_out hs'.toSW hkeep (fun b o hown hlt=>by
   rcases hown with q | q
   ·rw[hn0] at q;exact .inr ⟨q,hlt⟩
   ·exact absurd q (hext b)) h1
  obtain⟨v,h5,h6⟩:=tup_out h1 (h4 us h3);refine⟨hs'.defers.trans hdf,_,h2,_,rfl,hbel,?_⟩;rcases h5 with rfl | h5
  ·exact h6
  ·have:=prep_wk (σ:=fun _=>none) (f:=fun _=>none) (n:=[]) (F':=fun b o=>F b o\/(w.heap.size<=b/\b<w'.heap.size)) (w:=w') ⟨fun _ _ h=>h,fun _ _ _=>rfl⟩ _ _ _ h5 h6;have e1:newSg (fun _=>none) (fun _=>none) ([]:List Nat)=fun _=>none:=by funext k;unfold newSg;rw[if_neg (by simp[kin])]
   rw[e1] at this;exact this
 cases x with
 | normal=>obtain⟨e',h',n',σ',hq,hs',_⟩:=hq;exact fin _ _ _ hs' hq
 | ret=>obtain⟨e',h',n',σ',hq,hs',_⟩:=hq;exact fin _ _ _ hs' hq
 | exit id=>obtain⟨e',h',n',σ',hq,hs',_⟩:=hq;exact hq
 | goto l=>obtain⟨e',h',n',σ',hq,hs',_⟩:=hq;exact hq
 | panic ch=>obtain⟨v,_,e',h',n',σ',hq,_⟩:=hq;exact hq.elim
 | outgrown=>obtain⟨e',h',n',σ',hq,hs',_⟩:=hq;exact hq.elim
theorem pure_of {P:Program} {f:FuncId} {fn:Func} {cd:Code} {args:List PV} {res:PV} (hf:P.funcs[f]? = some fn) (hn:(fn.name== "runtime.NumGoroutine")=false) (hb:fn.body=some cd) (hm:P.follows .mixedOrders=true)
  (ha:Nat.ble args.length fn.ntmps=true) (hv:vc P fn.ntmps [] (fun _ _ _ _=>False) cd (argsE args) (fun _=>none) [] (retQ P fn res)):Pure P f args res:=pure_sem hf hn hb hm ha (Smc.of hm hv)
theorem st_begin {c:Ctx} {nt:Nat} {h:Hp} {args:List PV} {vs:List Value} (hs:SW c c.σ0 h c.w0) (hargs:PsRep c.σ0 (fz c c.σ0 h c.w0) c.w0 args vs) (ha:args.length<=nt) (hdf:c.df=[]) :
  St c nt c.σ0 (argsE args) h { tmps:=vs.toArray++Array.replicate (nt - vs.toArray.size) undef,defers:=[] } c.w0:=by
 have hvl:=psRep_len hargs;refine⟨hs,fun t=>?_,hdf.symm,by simp;omega⟩;have h1:=psRep_get t hargs;show PRep _ _ _ _ ((vs.toArray++Array.replicate (nt - vs.toArray.size) undef).getD t undef);rw[getD_args];exact h1
theorem callS_sem {P:Program} {f:FuncId} {fn:Func} {cd:Code} {args:List PV} {res:PV} {rd rf out:Rf} (hf:P.funcs[f]? = some fn) (hn:(fn.name== "runtime.NumGoroutine")=false) (hb:fn.body=some cd) (hm:P.follows .mixedOrders=true)
  (ha:Nat.ble args.length fn.ntmps=true) (fk:List Nat) (hfk:∀k∈(rd++rf).map Prod.fst,k∈fk)
  (hv:Smc P fn.ntmps fk (fun _ _ _ _=>False) cd (argsE args) (hpL (rd++rf)) fk (retS P fn fk res (rd++out))):CallS P f args rd rf res out:=by
 refine⟨⟨fn,hf,hn,by rw[hb];rfl⟩,fun c vs hc hdf hfr hs hargs=>?_⟩;have hst:=st_begin hs hargs (le_of_ble_eq_true ha) hdf;have hfr':∀k,k∉fk->c.σ0 k=none:=fun k hk=>hfr k fun hm=>hk (hfk k hm);have hfk':∀k,c.σ0 k≠none->k∈fk:=fun k hk=>Classical.byContradiction fun h=>hk (hfr' k h);refine calls_of_wp hf hb (wp_mono (hv.out' hfk' hc hst hfr') ?_);intro x a' w' hq;have fin:∀e' h' σ',St c fn.ntmps σ' e' h' a' w'->resP P h' e' fn.results.toList (fun vs=>tupOf vs fun v=>RetS fk h' res (rd++out) v)->
   a'.defers=[]/\∃v,(results fn a'.tmps).run P w'=.ok v w'/\∃v' σ1,Ending.returned v=.returned v'/\SW c σ1 (hpL (rd++out)) w'/\PRep σ1 (fz c σ1 (hpL (rd++out)) w') w' res v':=by
  intro e' h' σ' hs' hr;obtain⟨ps,us,h1,h2,h3⟩:=results_run hs' hr;obtain⟨v,h5,h6⟩:=tup_out h1 h3;obtain⟨g,n,q1,q2,q3,q4⟩:=h5;obtain⟨hk,hsw⟩:=sw_wk hfk' hs'.toSW q1 q2 q4;exact⟨hs'.defers.trans hdf,_,h2,_,_,rfl,hsw,prep_wk hk _ _ _ q3 h6⟩
 cases x with
 | normal=>obtain⟨e',h',n',σ',hq,hs',_⟩:=hq;exact fin _ _ _ hs' hq
 | ret=>obtain⟨e',h',n',σ',hq,hs',_⟩:=hq;exact fin _ _ _ hs' hq
 | exit id=>obtain⟨e',h',n',σ',hq,hs',_⟩:=hq;exact hq
 | goto l=>obtain⟨e',h',n',σ',hq,hs',_⟩:=hq;exact hq
 | panic ch=>obtain⟨v,_,e',h',n',σ',hq,_⟩:=hq;exact hq.elim
 | outgrown=>obtain⟨e',h',n',σ',hq,hs',_⟩:=hq;exact hq.elim
theorem callS_of' {P:Program} {f:FuncId} {fn:Func} {cd:Code} {args:List PV} {res:PV} {rd rf out:Rf} (hf:P.funcs[f]? = some fn) (hn:(fn.name== "runtime.NumGoroutine")=false) (hb:fn.body=some cd) (hm:P.follows .mixedOrders=true)
  (ha:Nat.ble args.length fn.ntmps=true) (fk:List Nat) (hfk:∀k∈(rd++rf).map Prod.fst,k∈fk)
  (hv:vc P fn.ntmps fk (fun _ _ _ _=>False) cd (argsE args) (hpL (rd++rf)) fk (retS P fn fk res (rd++out))):CallS P f args rd rf res out:=callS_sem hf hn hb hm ha fk hfk (Smc.of hm hv)
theorem callS_of {P:Program} {f:FuncId} {fn:Func} {cd:Code} {args:List PV} {res:PV} {rd rf out:Rf} (hf:P.funcs[f]? = some fn) (hn:(fn.name== "runtime.NumGoroutine")=false) (hb:fn.body=some cd) (hm:P.follows .mixedOrders=true)
  (ha:Nat.ble args.length fn.ntmps=true) (fk:List Nat) (hfk:fk=(rd++rf).map Prod.fst)
  (hv:vc P fn.ntmps fk (fun _ _ _ _=>False) cd (argsE args) (hpL (rd++rf)) fk (retS P fn fk res (rd++out))):CallS P f args rd rf res out:=callS_of' hf hn hb hm ha fk (fun k hk=>by rw[hfk];exact hk) hv
theorem kin_of {k:Nat}:∀{n:List Nat},k∈n->kin k n=true
 | x::xs,h=>by
  unfold kin;cases hq:Nat.beq k x with
  | true=>rfl|false=>
   rw[cond_false];rcases mem_cons.1 h with rfl | h
   ·have:=beq_refl k;rw[show Nat.beq k k=false from hq] at this;cases this
   ·exact kin_of h
end Go.Proofs.Ytdjbckknghddpaa.Pm
end
section
namespace Go.Proofs.Ytdjbckknghddpaa.Pm
open Go.RowKit
theorem BCase.t {b:Bool} {A B:Prop} (hb:b=true) (h:A):BCase b A B:=⟨fun _=>h,fun e=>by rw[hb] at e;cases e⟩
theorem BCase.f {b:Bool} {A B:Prop} (hb:b=false) (h:B):BCase b A B:=⟨(fun e=>by rw[hb] at e;cases e),fun _=>h⟩
theorem BCase.dt {p:Prop} [Decidable p] {A B:Prop} (hp:p) (h:A):BCase (decide p) A B:=BCase.t (decide_eq_true hp) h
theorem BCase.df {p:Prop} [Decidable p] {A B:Prop} (hp:¬p) (h:B):BCase (decide p) A B:=BCase.f (decide_eq_false hp) h
theorem BCase.d {p:Prop} [Decidable p] {A B:Prop} (h1:p->A) (h2:¬p->B):BCase (decide p) A B:=⟨fun e=>h1 (of_decide_eq_true e),fun e=>h2 (of_decide_eq_false e)⟩
theorem BCase.tt {A B:Prop} (h:A):BCase true A B:=BCase.t rfl h
theorem BCase.ff {A B:Prop} (h:B):BCase false A B:=BCase.f rfl h
theorem Wr.i64 {x:Int} {K:Int->Prop} (h1:-9223372036854775808<=x) (h2:x<=9223372036854775807) (h:K x):Wr .i64 x K:=⟨x,IntWalk.i64_in x ⟨h1,h2⟩,h⟩
theorem Idx.map {α:Type} {f:α->List C} {l:List α} {n:Nat} {K:List C->Prop} (hn:n<l.length) (h:K (f l[n])):Idx (l.map f) (n:Int) K:=
 ⟨f l[n],by omega,by simp[hn],h⟩
theorem Idx.mapI {α:Type} {f:α->List C} {l:List α} {n:Int} {K:List C->Prop} (k:Nat) (hk:n=(k:Int)) (hn:k<l.length) (h:K (f l[k])):Idx (l.map f) n K:=by
 subst hk;exact Idx.map hn h
theorem PLe.int {f:Nat->Option Nat} {n:List Nat} {k:IntKind} {a b:Int} (h:b=a):PLe f n (pInt k a) (pInt k b):=by rw[h];exact .inl rfl
theorem PLe.c {f:Nat->Option Nat} {n:List Nat} {x y:C} (h:y=x):PLe f n (.d (.c x)) (.d (.c y)):=.inl h
end Go.Proofs.Ytdjbckknghddpaa.Pm
namespace Go.Proofs.Ytdjbckknghddpaa.Pm
open Go.RowKit
abbrev FK:Nat:=1000000
abbrev FK1:Nat:=1000001
abbrev NK:Nat:=2000000
abbrev FK2:Nat:=1000002
abbrev NK1:Nat:=2000001
abbrev NK2:Nat:=2000002
def pv (x:Value):PV:=.d (.c (.v x))
theorem psRep_vals {σ:Sg} {F:Fzn} {w:World}:∀{vs us:List Value},PsRep σ F w (vs.map pv) us->us=vs
 | [],[],_=>rfl|[],_::_,h=>by unfold List.map PsRep at h;exact h.elim
 | _::_,[],h=>by unfold List.map PsRep at h;exact h.elim
 | v::vs,u::us,h=>by
  rw[map_cons] at h;unfold PsRep at h;rw[psRep_vals h.2];have:=rep_v h.1;rw[this]
theorem pure_hand {P:Program} {f:FuncId} {vs:List Value} {res:PV} (hf:fnOk P f)
  (h:∀w:World,GL w->Calls P f vs.toArray w fun e w'=>∃v,e=.returned v/\Below w.heap.size w w'/\∀F:Fzn,(∀b o,w.heap.size<=b->b<w'.heap.size->F b o)->PRep (fun _=>none) F w' res v) :
  Pure P f (vs.map pv) res:=by
 refine⟨hf,fun F w us hG hF hus=>?_⟩;rw[psRep_vals hus];intro cs;obtain⟨e,w0,fr,⟨v,h1,h2,h3⟩,h4⟩:=h w hG cs;exact⟨e,w0,fr,⟨v,h1,h2,h3 _ fun b o h5 h6=>.inr ⟨h5,h6⟩⟩,h4⟩
end Go.Proofs.Ytdjbckknghddpaa.Pm
end
namespace Go.Proofs.Ytdjbckknghddpaa.Pm
section
open Go.RowKit
def tx (l:List UInt8):ByteArray:=⟨l.toArray⟩
theorem list_tx (l:List UInt8):(tx l).data.toList=l:=rfl
theorem tx_list (s:ByteArray):tx s.data.toList=s:=by cases s;simp[tx]
theorem tx_inj {a b:List UInt8} (h:tx a=tx b):a=b:=by rw[<- list_tx a,h,list_tx]
theorem tx_eq {a b:List UInt8}:tx a=tx b↔a=b:=⟨tx_inj,fun h=>by rw[h]⟩
def by1 (n:Int):UInt8:=UInt8.ofNat (n%256).toNat
theorem Wr.u32 {x:Int} {K:Int->Prop} (h1:0<=x) (h2:x<=4294967295) (h:K x):Wr .u32 x K:=⟨x,IntWalk.u32_in x ⟨h1,h2⟩,h⟩
theorem Wr.u64 {x:Int} {K:Int->Prop} (h1:0<=x) (h2:x<=18446744073709551615) (h:K x):Wr .u64 x K:=⟨x,IntWalk.u64_in x ⟨h1,h2⟩,h⟩
theorem lens:(∀{α β:Type} {f:α->β} {l:List α},(l.map f).length=l.length)/\(∀{α:Type} {a b:List α},(a++b).length=a.length+b.length)/\(∀{α:Type} {l:List α} {i:Nat} {x:α},(l.set i x).length=l.length)/\
  (∀{α:Type} {l:List α} {i:Nat},(l.take i).length=min i l.length)/\(∀{α:Type} {l:List α} {i:Nat},(l.drop i).length=l.length - i)/\(∀{α:Type} {n:Nat} {x:α},(List.replicate n x).length=n)/\
  (∀{α:Type} {x:α} {l:List α},(x::l).length=l.length+1)/\(∀{α:Type},([]:List α).length=0)/\(∀{l:List UInt8},(tx l).size=l.length)/\(∀{l:List UInt8},(⟨l.toArray⟩:ByteArray).size=l.length)/\
  (∀{a b:ByteArray},(a++b).size=a.size+b.size):=
 ⟨length_map _,length_append,length_set,length_take,length_drop,length_replicate,length_cons,length_nil,rfl,rfl,ByteArray.size_append⟩
theorem Wr.ci {x:Int} {K:Int->Prop} (h:-9223372036854775808<=x/\x<=9223372036854775807) (k:K x):Wr .i64 x K:=Wr.i64 h.1 h.2 k
theorem Wr.c3 {x:Int} {K:Int->Prop} (h:0<=x/\x<=4294967295) (k:K x):Wr .u32 x K:=Wr.u32 h.1 h.2 k
theorem Wr.c6 {x:Int} {K:Int->Prop} (h:0<=x/\x<=18446744073709551615) (k:K x):Wr .u64 x K:=Wr.u64 h.1 h.2 k
theorem SIdx.tx {l:List UInt8} {n:Int} {K:Int->Prop} (k:Nat) (hk:n=k) (h:k<l.length) (hK:K ((l.getD k 0).toNat:Int)):SIdx (tx l) n K:=by
 subst hk;have h1:l[k]? = some l[k]:=List.getElem?_eq_getElem h;have h2:l.getD k 0=l[k]:=by rw[List.getD_eq_getElem?_getD,h1];rfl
 exact⟨l.getD k 0,by omega,by show l[(k:Int).toNat]? = _;rw[toNat_natCast,h1,h2],hK⟩
theorem BCase.not {b:Bool} {A B:Prop} (h:BCase b B A):BCase (!b) A B:=by
 obtain⟨h1,h2⟩:=h;exact⟨fun e=>h2 (by simpa using e),fun e=>h1 (by simpa using e)⟩
theorem BCase.and {a b:Bool} {A B:Prop} (h:BCase a (BCase b A B) B):BCase (a&&b) A B:=by
 obtain⟨h1,h2⟩:=h;cases a
 ·exact⟨(fun e=>by cases e),fun _=>h2 rfl⟩
 ·exact h1 rfl
theorem BCase.or {a b:Bool} {A B:Prop} (h:BCase a A (BCase b A B)):BCase (a||b) A B:=by
 obtain⟨h1,h2⟩:=h;cases a
 ·exact h2 rfl
 ·exact⟨fun _=>h1 rfl,(fun e=>by cases e)⟩
theorem PLe.text {f:Nat->Option Nat} {n:List Nat} {a b:ByteArray} (h:b=a):PLe f n (pStr a) (pStr b):=by rw[h];exact .inl rfl
theorem PLe.bool {f:Nat->Option Nat} {n:List Nat} {a b:Bool} (h:b=a):PLe f n (pBool a) (pBool b):=by rw[h];exact .inl rfl
theorem Ret.int {k:IntKind} {a b:Int} (h:a=b):Ret (pInt k a) (pInt k b):=Ret.mk (by rw[h])
theorem Ret.bool {a b:Bool} (h:a=b):Ret (pBool a) (pBool b):=Ret.mk (by rw[h])
theorem a_ {A B:Prop} (h:A):BCase true A B:=BCase.tt h
theorem b_ {A B:Prop} (h:B):BCase false A B:=BCase.ff h
theorem d_ {x:Int} {K:Int->Prop} (h:-9223372036854775808<=x/\x<=9223372036854775807) (k:K x):Wr .i64 x K:=Wr.ci h k
theorem f_ {x:Int} {K:Int->Prop} (h:0<=x/\x<=18446744073709551615) (k:K x):Wr .u64 x K:=Wr.c6 h k
theorem g_ {p:Prop} [Decidable p] {A B:Prop} (hp:p) (h:A):BCase (decide p) A B:=BCase.dt hp h
theorem h_ {p K:Prop} (hp:p) (h:K):Need p K:=Need.mk hp h
theorem i_ {p:Prop} [Decidable p] {A B:Prop} (hp:¬p) (h:B):BCase (decide p) A B:=BCase.df hp h
theorem l_ {k:Nat} {A B:Prop} (h:A):EmpOr k A B:=EmpOr.app h
theorem m_ {b:Bool} {A B:Prop} (h:BCase b B A):BCase (!b) A B:=BCase.not h
theorem n_ {a b:Bool} {A B:Prop} (h:BCase a (BCase b A B) B):BCase (a&&b) A B:=BCase.and h
theorem o_ {a b:Bool} {A B:Prop} (h:BCase a A (BCase b A B)):BCase (a||b) A B:=BCase.or h
theorem p_ {p:Prop} [Decidable p] {A B:Prop} (h1:p->A) (h2:¬p->B):BCase (decide p) A B:=BCase.d h1 h2
theorem r_ {P:Program} {f:FuncId} {args ys:List PV} {h:Hp} {K:OpK} {X:Value->Hp->Prop} {r:PV} (hc:Pure P f ys r) (hy:closesTo args ys) (hk:K r [] []):CallP P f args h K X:=CallP.pure ys hy r hc hk
theorem s_ {b:Bool} {A B:Prop} (hb:b=true) (h:A):BCase b A B:=BCase.t hb h
theorem t_ {b:Bool} {A B:Prop} (hb:b=false) (h:B):BCase b A B:=BCase.f hb h
theorem q_:(∀{α β:Type} {f:α->β} {l:List α},(l.map f).length=l.length)/\(∀{α:Type} {a b:List α},(a++b).length=a.length+b.length)/\(∀{α:Type} {l:List α} {i:Nat} {x:α},(l.set i x).length=l.length)/\
  (∀{α:Type} {l:List α} {i:Nat},(l.take i).length=min i l.length)/\(∀{α:Type} {l:List α} {i:Nat},(l.drop i).length=l.length - i)/\(∀{α:Type} {n:Nat} {x:α},(List.replicate n x).length=n)/\
  (∀{α:Type} {x:α} {l:List α},(x::l).length=l.length+1)/\(∀{α:Type},([]:List α).length=0)/\(∀{l:List UInt8},(tx l).size=l.length)/\(∀{l:List UInt8},(⟨l.toArray⟩:ByteArray).size=l.length)/\
  (∀{a b:ByteArray},(a++b).size=a.size+b.size)/\(∀{p:Prop},(True/\p)=p)/\(∀{p:Prop},(p/\True)=p):=by
 obtain⟨h1,h2,h3,h4,h5,h6,h7,h8,h9,h10,h11⟩:=lens;exact⟨h1,h2,h3,h4,h5,h6,h7,h8,h9,h10,h11,true_and _,and_true _⟩
end
section
open Go.RowKit K
abbrev FW (w:World):Fzn:=fun b _=>b<w.heap.size
def OpensC (P:Program) (t:TypeId) (sz:Nat) {α:Type} (enc:α->List C) (ok:α->Prop):Prop:=
 Opens P t sz (fun w cs a=>CsRep (FW w) w (enc a) cs) ok
def eInt (x:Int):List C:=[.v (.int .i64 x)]
def eText (l:List UInt8):List C:=[.v (.string (tx l))]
def eSl {α:Type} (sz:Nat) (enc:α->List C) (l:List α):List C:=[.sl sz (l.map enc)]
def okInt (x:Int):Prop:=-9223372036854775808<=x/\x<=9223372036854775807
def okText (l:List UInt8):Prop:=l.length<=140737488351232
def okSl {α:Type} (b:Nat) (ok:α->Prop) (l:List α):Prop:=l.length*b<=140737488351232/\∀x∈l,ok x
section
variable {P:Program}
theorem openC_int {t:TypeId} (hu:P.underlying t=some (.int .i64)) (hc:P.cellsOf t=1):OpensC P t 1 eInt okInt:=by
 obtain⟨h1,h2,h3⟩:=opens_i64 hu hc;refine⟨h1,h2,fun h l=>?_⟩;obtain⟨h4,a,rfl,h6⟩:=h3 h l;exact⟨h4,a,csRep_cons (by unfold CRep;exact⟨rfl,rfl⟩) csRep_nil,h6⟩
theorem openC_text {t:TypeId} (hu:P.underlying t=some .string) (hc:P.cellsOf t=1):OpensC P t 1 eText okText:=by
 obtain⟨h1,h2,h3⟩:=opens_string hu hc;refine⟨h1,h2,fun h l=>?_⟩;obtain⟨h4,a,rfl,h6⟩:=h3 h l;exact⟨h4,a.data.toList,csRep_cons (by unfold CRep;rw[tx_list];exact⟨rfl,rfl⟩) csRep_nil,h6⟩
theorem csRep_rows {α:Type} {F:Fzn} {w:World} {enc:α->List C}:∀{l:List α} {css:List (List Value)},css.length=l.length->(∀(i:Nat) c x,css[i]? = some c->l[i]? = some x->CsRep F w (enc x) c)->CsRep F w (l.map enc).flatten css.flatten
 | [],[],_,_=>csRep_nil|[],_::_,h,_=>by simp at h
 | _::_,[],h,_=>by simp at h
 | x::l,c::css,h,k=>by
  rw[map_cons,flatten_cons,flatten_cons];exact (k 0 c x rfl rfl).append (csRep_rows (by simpa using h) fun i d y hd hy=>k (i+1) d y (by simpa using hd) (by simpa using hy))
theorem openC_slice {t e:TypeId} {sz:Nat} {α:Type} {enc:α->List C} {ok:α->Prop} (hu:P.underlying t=some (.slice e)) (hc:P.cellsOf t=1) (hl:∀x,(enc x).length=sz) (he:OpensC P e sz enc ok) :
  OpensC P t 1 (eSl sz enc) (okSl (P.bytesOf e) ok):=by
 obtain⟨h1,h2,h3⟩:=opens_slice hu hc he;refine⟨h1,h2,fun h l=>?_⟩;obtain⟨h4,a,⟨v,rfl,css,hs,hcl,hcs⟩,h6⟩:=h3 h l;refine⟨h4,a,csRep_cons ?_ csRep_nil,h6⟩;obtain⟨g0,ad,cap,rfl,g1,g2,g3,g4⟩:=hs;unfold CRep;refine⟨ad,cap,by rw[length_map],by rw[length_map];exact g1,g2,g3,?_⟩;rcases g4 with g4 | ⟨b,off,rfl,g5,g6⟩
 ·left;rw[eq_nil_of_length_eq_zero g4];rfl
 ·right;refine⟨b,off,rfl,?_⟩;rw[rowsAt_iff];refine⟨fun r hr=>?_,csAt_of_values (csRep_rows hcl fun i c x hc hx=>(hcs i c x hc hx).2) (fun j u hu=>g6 j u hu) fun j hj=>g5⟩;obtain⟨x,_,rfl⟩:=mem_map.1 hr;exact hl x
theorem cs_field {F:Fzn} {w:World} {cs:List Value} {l m:List C} {off sz:Nat} (h1:CsRep F w l ((cs.drop off).take sz)) (h2:CsRep F w m (cs.drop (off+sz))):CsRep F w (l++m) (cs.drop off):=by
 have:=h1.append h2
 rwa [<- drop_drop,take_append_drop] at this
theorem cs_end {F:Fzn} {w:World} {cs:List Value} {n:Nat} (h:cs.length=n):CsRep F w [] (cs.drop n):=by
 rw[drop_of_length_le (by omega)];exact csRep_nil
theorem prep_agg {w:World} {cs:List C} {v:Value} (hv:v=.agg v.cells.toList.toArray) (h:CsRep (FW w) w cs v.cells.toList):PRep (fun _=>none) (FW w) w (.agg (cs.map D.c)) v:=by
 unfold PRep;exact⟨_,hv,dsRep_of_cs h⟩
theorem prep_text {w:World} (a:ByteArray):PRep (fun _=>none) (FW w) w (pStr (tx a.data.toList)) (.string a):=by
 rw[tx_list];exact rep_str _
theorem psF_nil {w:World}:PsRep (fun _=>none) (FW w) w [] []:=by unfold PsRep;trivial
theorem psF_cons {w:World} {x:PV} {xs:List PV} {u:Value} {us:List Value} (h:PRep (fun _=>none) (FW w) w x u) (hs:PsRep (fun _=>none) (FW w) w xs us):PsRep (fun _=>none) (FW w) w (x::xs) (u::us):=by unfold PsRep;exact⟨h,hs⟩
theorem Pure.walkF {f:FuncId} {args:List PV} (h:Pure P f args (pBool true)) {w:World} (hG:GL w) (vs:List Value) (hargs:PsRep (fun _=>none) (FW w) w args vs) :
  Calls P f vs.toArray w fun e w'=>e=.returned (.bool true)/\Below w.heap.size w w':=by
 refine (h.2 (FW w) w vs hG (fun _ _ e=>e) hargs).mono ?_;rintro e w' ⟨v,rfl,hb,hr⟩;rw[rep_v hr];exact⟨rfl,hb⟩
end
end
section
open Go.RowKit
def noDef (ops:Array Oper):Bool:=ops.toList.all fun o=>match o.op with | .defer _=>false | _=>true
def okIn:Code->Bool
 | .skip=>true|.region _ ops _=>noDef ops|.seq x y=>okIn x&&okIn y|.cond _ x y=>okIn x&&okIn y|.block _ x=>okIn x|.exit _=>true|_=>false
section
variable {P:Program} {l m:Nat}
theorem opIn_of_wp {o:Oper} {a:Act} {w:World} {K:Act->World->Prop} {Q:Exit->Act->World->Prop} (hd:∀c,o.op≠.defer c) (h:o.wp P a w K Q):o.wpIn (Fence.wide.inRound l) m P a w K Q:=by
 refine⟨fun _ _=>trivial,?_⟩;rw[Oper.semAt_eq _ _ _ hd];unfold Oper.wp at h;generalize (execOp a.eval o).run P w=r at *
 cases r with
 | ok x w'=>
  cases x with
  | enter f args=>exact⟨(fun h=>by cases h),CallsIn.inRound l (callsIn_wide.2 h)⟩|row r args=>exact⟨(fun h=>by cases h),fun c cs _=>by
    obtain⟨v,w'',hR,hs⟩:=h c cs;exact⟨v,w'',hR,stepsIn_wide.2 hs⟩⟩
  | _=>first|exact h|exact False.elim h
 | halt x w'=>cases x<;>exact h
theorem anyIn_of_any {md:Region.Mode} {ops:Array Oper} {Q:Exit->Act->World->Prop} (hd:∀(i:Nat) (o:Oper),ops[i]? = some o->∀c,o.op≠.defer c) (hl:¬LetsOut Q) :
  ∀(fuel:Nat) (listed:Array Bool) (a:Act) (w:World),wpAny P md ops Q fuel listed a w->wpAnyIn (Fence.wide.inRound l) m P md ops Q fuel listed a w
 | 0,_,_,_,h=>h|fuel+1,listed,a,w,h=>by
  refine⟨h.1,fun i hi=>?_⟩;have h1:=h.2 i hi;unfold wpOp at h1;unfold wpOpIn;cases ho:ops[i]? with
  | none=>rw[ho] at h1;exact anyIn_of_any hd hl fuel _ a w h1|some o=>
   rw[ho] at h1;simp only at h1 ⊢;split
   ·rename_i hw;rw[if_pos hw] at h1;rcases h1 with h1 | ⟨_,h1⟩
    ·exact Oper.wpIn_mono (fun a w=>anyIn_of_any hd hl fuel _ a w) (opIn_of_wp (hd i o ho) h1)
    ·exact absurd h1 hl
   ·rename_i hw;rw[if_neg hw] at h1;exact⟨fun _ _=>trivial,anyIn_of_any hd hl fuel _ _ w h1⟩
theorem listIn_of_list {ops:Array Oper} {Q:Exit->Act->World->Prop} (hl:¬LetsOut Q) :
  ∀(rest:List Oper) (a:Act) (w:World),(∀o∈rest,∀c,o.op≠.defer c)->wpList P ops Q rest a w->wpListIn (Fence.wide.inRound l) m P ops Q rest a w
 | [],_,_,_,h=>h|o::rest,a,w,hd,h=>by
  unfold wpList at h;unfold wpListIn;split
  ·rename_i hw;rw[if_pos hw] at h;rcases h with h | ⟨_,h⟩
   ·exact Oper.wpIn_mono (fun a w=>listIn_of_list hl rest a w fun o ho=>hd o (mem_cons_of_mem _ ho)) (opIn_of_wp (hd o (mem_cons_self ..)) h)
   ·exact absurd h hl
  ·rename_i hw;rw[if_neg hw] at h;exact⟨fun _ _=>trivial,listIn_of_list hl rest _ w (fun o ho=>hd o (mem_cons_of_mem _ ho)) h⟩
theorem noDef_out {ops:Array Oper} (h:noDef ops=true):∀(i:Nat) (o:Oper),ops[i]? = some o->∀c,o.op≠.defer c:=fun i o ho c e=>by
 have hm:o∈ops.toList:=by rw[<- (Array.getElem?_eq_some_iff.1 ho).2];simp
 have:=all_eq_true.1 h o hm;rw[e] at this;cases this
theorem vcIn_out {nt:Nat} {fk:List Nat} {X:XT} {c:Ctx} (hfk:∀k,c.σ0 k≠none->k∈fk) (hc:c.Ok) (hm:P.follows .mixedOrders=true):∀(cd:Code) (e:Env) (h:Hp) (n:List Nat) (Q:Cont) (σ:Sg) (a:Act) (w:World),okIn cd=true->(∀e h n,¬Q .outgrown e h n)->
  vc P nt fk X cd e h n Q->St c nt σ e h a w->(∀k,k∉n->σ k=none)->cd.wpIn (Fence.wide.inRound l) m P (After c nt X Q) a w
 | .skip,e,h,n,Q,σ,a,w,_,ho,hv,hs,hf=>wpIn_skip ⟨e,h,n,σ,hv,hs,hf⟩|.region id ops draw,e,h,n,Q,σ,a,w,hk,ho,hv,hs,hf=>by
  have hl:¬LetsOut (After c nt X Q):=by rintro⟨a,w,e,h,n,σ,hq,_⟩;exact ho _ _ _ hq
  have hk:noDef ops=true:=hk;rcases region_mid (id:=id) (Q:=After c nt X Q) hc hv (fun x e h n σ a w hx hs hf=>⟨x,rfl,e,h,n,σ,hx,hs,hf⟩) hs hf (fun e' h' n' σ' a' w' hk hs' hf'=>⟨e',h',n',σ',hk,hs',hf'⟩) with ⟨rfl,q⟩ | ⟨rfl,q⟩
  ·refine wpIn_region_list (listIn_of_list hl _ _ _ (fun o ho c=>?_) q);obtain⟨i,hi,he⟩:=List.getElem_of_mem ho;refine noDef_out hk i o ?_ c;rw[<- Array.getElem?_toList,List.getElem?_eq_getElem hi,he]
  ·exact wpIn_region_any hm (anyIn_of_any (noDef_out hk) hl _ _ _ _ q)
 | .seq x y,e,h,n,Q,σ,a,w,hk,ho,hv,hs,hf=>by
  have hk:(okIn x&&okIn y)=true:=hk;rw[Bool.and_eq_true] at hk;refine wpIn_seq (wpIn_mono (vcIn_out (X:=X) hfk hc hm x e h n (seqK (fun e' h' n'=>vc P nt fk X y e' h' n' Q) Q) σ a w hk.1 (fun e h n=>ho e h n) hv hs hf) ?_);intro ex a' w' hq;cases ex with
  | normal=>
   obtain⟨e',h',n',σ',hq,hs',hf'⟩:=hq;exact vcIn_out hfk hc hm y e' h' n' Q σ' a' w' hk.2 ho hq hs' hf'
  | exit id=>exact hq|goto l=>exact hq|ret=>exact hq|panic ch=>exact hq|outgrown=>exact hq
 | .cond o x y,e,h,n,Q,σ,a,w,hk,ho,hv,hs,hf=>by
  have hk:(okIn x&&okIn y)=true:=hk;rw[Bool.and_eq_true] at hk;rw[vc_cond] at hv;split at hv
  ·rename_i b hb;have h1:=rep_ev hs o;rw[hb] at h1;have h2:=rep_v h1;obtain⟨ht,hff⟩:=hv;refine wpIn_cond_split h2 (fun hb'=>vcIn_out hfk hc hm x e h n Q σ a w hk.1 ho (ht hb') hs hf) (fun hb'=>vcIn_out hfk hc hm y e h n Q σ a w hk.2 ho (hff hb') hs hf)
  ·exact hv.elim
 | .block id cd,e,h,n,Q,σ,a,w,hk,ho,hv,hs,hf=>by
  refine wpIn_block (wpIn_mono (vcIn_out (X:=X) hfk hc hm cd e h n (blockK id Q) σ a w hk (fun e h n=>ho e h n) hv hs hf) ?_);intro ex a' w' hq;cases ex with
  | exit id'=>
   obtain⟨e',h',n',σ',hq,hs',hf'⟩:=hq;simp only[Exit.inBlock];simp only[blockK] at hq;split at hq
   ·rename_i hb;rw[if_pos (eq_of_beq_eq_true hb)];exact⟨e',h',n',σ',hq,hs',hf'⟩
   ·rename_i hb;rw[if_neg (fun e=>by subst e;rw[beq_refl] at hb;cases hb)];exact⟨e',h',n',σ',hq,hs',hf'⟩
  | normal=>exact hq|goto l=>exact hq|ret=>exact hq|panic ch=>exact hq|outgrown=>exact hq
 | .exit id,e,h,n,Q,σ,a,w,_,ho,hv,hs,hf=>wpIn_exit ⟨e,h,n,σ,hv,hs,hf⟩|.scope _,_,_,_,_,_,_,_,hk,_,_,_,_=>by cases hk
 | .loop _,_,_,_,_,_,_,_,hk,_,_,_,_=>by cases hk
 | .ret,_,_,_,_,_,_,_,hk,_,_,_,_=>by cases hk
 | .rangeFunc _ _ _ _,_,_,_,_,_,_,_,hk,_,_,_,_=>by cases hk
 | .label _,_,_,_,_,_,_,_,hk,_,_,_,_=>by cases hk
 | .goto _,_,_,_,_,_,_,_,hk,_,_,_,_=>by cases hk
 | .refuse _,_,_,_,_,_,_,_,hk,_,_,_,_=>by cases hk
end
def SeqP {α:Type} (F:Fence) (n:Nat) (P:Program) (g:Nat) (lb:Array Value) (encs:α->Array Value) (xs:List α) (T:World->Prop):Prop:=
 ∀(l:Nat) (J Jx:List α->World->Prop) (W:World),(∀s A,J s A->T A)->(∀s A,J s A->J s A.drew)->
  (∀pre x W1,J pre W1->xs[pre.length]? = some x->YieldAt F (n - 1) P l (encs x) W1 fun e W'=>
   (e=.returned (.bool true)/\J (pre++[x]) W')\/(e=.returned (.bool false)/\Jx (pre++[x]) W'))->
  J [] W->
  CallsIn F n P g (#[.func (.yield l) #[] #[]]++lb) W fun e W'=>(∃v,e=.returned v)/\(J xs W'\/∃pre,pre <+: xs/\Jx pre W')
structure Lets (B:Nat) (A A':World):Prop where
 size:A.heap.size<=A'.heap.size
 same:∀(k:Nat) (o:Obj),A.heap[k]? = some o->B<=k->o.isCells=false->A'.heap[k]? = some o
section
variable {F:Fence} {n:Nat} {P:Program}
end
end
section
open Go.RowKit
def seqs:List Code->Code->Code
 | [],t=>t|c::l,t=>.seq c (seqs l t)
noncomputable def vcPre (P:Program) (nt:Nat) (fk:List Nat) (X:XT):List Code->(Env->Hp->List Nat->Prop)->Cont->Env->Hp->List Nat->Prop
 | [],N,_,e,h,n=>N e h n|c::l,N,Q,e,h,n=>vc P nt fk X c e h n (seqK (fun e h n=>vcPre P nt fk X l N Q e h n) Q)
section
variable {P:Program}
theorem sw_df {c:Ctx} {σ:Sg} {h:Hp} {w:World} (hs:SW c σ h w) (d:List Deferred) (s:Sg) (hsg:∀k x,s k=some x->σ k=some x):SW { c with df:=d,σ0:=s } σ h w:=
 ⟨hs.os,hs.tape,hs.output,hs.size,hs.block,hs.hp,hs.inj,hs.kept,hs.shape,hsg⟩
theorem ctx_df {c:Ctx} (hc:c.Ok) (d:List Deferred) (s:Sg):Ctx.Ok { c with df:=d,σ0:=s }:=⟨hc.fz,hc.gl,hc.gb⟩
end
end
section
open Go.RowKit
section
variable {F:Fence} {n:Nat} {P:Program}
def SeqB {α:Type} (F:Fence) (n:Nat) (P:Program) (g:Nat) (lb:Array Value) (encs:α->Array Value) (xs:List α) (T:World->Prop):Prop:=
 ∀(l:Nat) (J Jx:List α->World->Prop) (W:World),(∀s A,J s A->T A)->(∀s A A',J s A->Below A.heap.size A A'->J s A')->
  (∀pre x W1,J pre W1->xs[pre.length]? = some x->YieldAt F (n - 1) P l (encs x) W1 fun e W'=>
   (e=.returned (.bool true)/\J (pre++[x]) W')\/(e=.returned (.bool false)/\Jx (pre++[x]) W'))->
  J [] W->
  CallsIn F n P g (#[.func (.yield l) #[] #[]]++lb) W fun e W'=>(∃v,e=.returned v)/\(J xs W'\/∃pre,pre <+: xs/\Jx pre W')
theorem SeqP.b {α:Type} {g:Nat} {lb:Array Value} {encs:α->Array Value} {xs:List α} {T:World->Prop} (h:SeqP F n P g lb encs xs T):SeqB F n P g lb encs xs T:=
 fun l J Jx W hT hB=>h l J Jx W hT fun s A hA=>hB s A _ hA (Below.refl _ A).drew
theorem range_jump {α:Type} {g:Operand} {ps:Array Tmp} {assign body:Code} {Q:Exit->Act->World->Prop} {a:Act} {w:World}
  (hro:F.round=none) (h1:1<=n) {gf:Nat} {lb:Array Value} (hg:a.eval g=.func (.func gf) #[] lb) (hFg:F.fn gf) (eg:∀args w,(callFunc gf args).run P w=.ok (.enter gf args) w)
  {encs:α->Array Value} {xs:List α} {T:World->Prop} (hseq:SeqB F (n - 1) P gf lb encs xs T) (hps:∀x,(encs x).size=ps.size)
  (I:List α->World->Prop) (Ix:List α->Nat->World->Prop) (hT:∀s A,I s A->T A) (hIp:∀s A l r r',I s A->w.heap.size<=l->A.heap[l]? = some (.loop r)->I s (A.putObj l (.loop r')))
  (hIxp:∀s c A l r r',Ix s c A->w.heap.size<=l->A.heap[l]? = some (.loop r)->Ix s c (A.putObj l (.loop r'))) (hB:∀s A A',I s A->Below A.heap.size A A'->I s A') (h0:I [] w)
  (hround:∀(l:Nat) (pre:List α) (x:α) (W:World) (r:Loop),I pre W->xs[pre.length]? = some x->w.heap.size<=l->W.heap[l]? = some (.loop r)->
   assign.wpIn (F.inRound l) (n - 1 - 1) P (Exit.then (fun a₁ W₁=>Lets 0 W W₁/\∀r',body.wpIn (F.inRound l) (n - 1 - 1) P (fun e _ W'=>Lets 0 (W₁.putObj l (.loop r')) W'/\
    ((e=.normal/\I (pre++[x]) W')\/∃id,e=.exit id/\Ix (pre++[x]) id W')) a₁ (W₁.putObj l (.loop r'))) (fun _ _ _=>False))
    { tmps:=(ps.zip (encs x)).foldl (fun t (p,v)=>t.setIfInBounds p v) a.tmps,defers:=[] } W)
  (hdone:∀(D:Nat) (W:World),w.heap.size<=D->I xs W->W.heap[D]? = some (.deferred (some []))->Q .normal { a with defers:={ target:=.collected D,args:=#[] }::a.defers } W)
  (hjump:∀(D:Nat) (pre:List α) (id:Nat) (W:World),w.heap.size<=D->Ix pre id W->W.heap[D]? = some (.deferred (some []))->Q (.exit id) { a with defers:={ target:=.collected D,args:=#[] }::a.defers } W) :
  (Code.rangeFunc g ps assign body).wpIn F n P Q a w:=by
 refine wpIn_rangeFunc ?_;intro fn hfn;rw[hro];obtain⟨rec,hrec⟩:∃rec:LoopState->Option Code->Loop,rec=fun st pe=>{ state:=st,pending:=pe,fn,tmps:=a.tmps,params:=ps,assign,body,defers:=w.heap.size }:=⟨_,rfl⟩;obtain⟨W1,hW1⟩:∃W1,(w.alloc (.deferred (some []))).alloc (.loop (rec .ready none))=W1:=⟨_,rfl⟩;obtain⟨L,hL⟩:∃L,w.heap.size+1=L:=⟨_,rfl⟩;have hL1:W1.heap[L]? = some (.loop (rec .ready none)):=by
  rw[<- hW1,<- hL];have:=World.alloc_heap_new (w.alloc (.deferred (some []))) (.loop (rec .ready none));rwa [World.size_alloc] at this
 have hK1:W1.heap[w.heap.size]? = some (.deferred (some [])):=by
  rw[<- hW1];exact (Below.heap_alloc _ _ _ (by simp)).trans (World.alloc_heap_new w _)
 have he:=run_enterLoop_outer (P:=P) (w:=w) fn a.tmps ps assign body;rw[show ((w.alloc (.deferred (some []))).alloc (.loop { state:=.ready,pending:=none,fn,tmps:=a.tmps,params:=ps,assign,body,defers:=w.heap.size }))=W1 by rw[<- hW1,hrec],hL] at he;refine⟨L,[{ target:=.collected w.heap.size,args:=#[] }],W1,{ target:=.fn (.func gf) lb,args:=#[.func (.yield L) #[] #[]] },W1,gf,
  #[.func (.yield L) #[] #[]]++lb,W1,he,?_,?_,?_,fun _=>h1,?_⟩
 ·simp only[resolve,hg];simp[go_sem]
 ·intro f' hf';simp[Target.leads] at hf';subst hf';exact hFg
 ·simp[invoke,go_sem,eg]
 let Books:Loop->World->Prop:=fun r W=>W.heap[L]? = some (.loop r)/\W.heap[w.heap.size]? = some (.deferred (some []))/\w.heap.size<=W.heap.size
 have books_put:∀{r A} (r':Loop),Books r A->Books r' (A.putObj L (.loop r')):=fun r' h=>
  ⟨World.putObj_heap_same (Array.getElem?_eq_some_iff.1 h.1).1,(World.putObj_heap_other (by omega)).trans h.2.1,by simpa using h.2.2⟩
 have hsz1:w.heap.size<=W1.heap.size:=by rw[<- hW1];simp;omega
 refine (hseq L (fun pre W=>I pre W/\Books (rec .ready none) W) (fun pre W=>∃id,Ix pre id W/\Books (rec .done (some (.exit id))) W) W1
  (fun s A h=>hT s A h.1) (fun s A A' h hb=>⟨hB s A A' h.1 hb,(hb.block L (Array.getElem?_eq_some_iff.1 h.2.1).1).trans h.2.1,(hb.block _ (Array.getElem?_eq_some_iff.1 h.2.2.1).1).trans h.2.2.1,le_trans h.2.2.2 hb.size⟩) ?_ ⟨by rw[<- hW1];exact hB _ _ _ (hB _ _ _ h0 ((Below.refl _ w).alloc (Nat.le_refl _) _)) ((Below.refl _ _).alloc (Nat.le_refl _) _),hL1,hK1,hsz1⟩).mono ?_
 ·rintro pre x W ⟨hi,hb⟩ hx;have hy:=run_yield (P:=P) (args:=encs x) hb.1 (by rw[hrec];exact hps x);rw[hrec] at hy;refine⟨fn,_,assign,body,hy,roundIn_of_wpIn hfn (wpIn_mono (hround L pre x W _ hi hx (by omega) hb.1) ?_)⟩;intro e1 a1 W1' hq1;cases e1 with
  | normal=>
   obtain⟨hk1,hq1⟩:=hq1;have hL1':W1'.heap[L]? = some (.loop (rec .ready none)):=hk1.same _ _ hb.1 (zero_le _) rfl;have hD1':W1'.heap[w.heap.size]? = some (.deferred (some [])):=hk1.same _ _ hb.2.1 (zero_le _) rfl;refine⟨_,run_beginRound hL1' (by rw[hrec]),?_⟩;have hlt:L<W1'.heap.size:=(Array.getElem?_eq_some_iff.1 hL1').1;refine wpIn_mono (hq1 _) ?_;rintro e a3 W3 ⟨hk,hcase⟩;have h3:=hk.same L _ (World.putObj_heap_same hlt) (zero_le _) rfl;have h3k:=hk.same w.heap.size _ ((World.putObj_heap_other (by omega)).trans hD1') (zero_le _) rfl;have hs3:w.heap.size<=W3.heap.size:=by have:=hk.size;simp at this;omega
   rcases hcase with ⟨rfl,hi3⟩ | ⟨id,rfl,hi3⟩
   ·have hr:=run_endRound (P:=P) none h3;refine⟨_,_,hr,.inl ⟨rfl,hIp _ _ L _ _ hi3 (by omega) h3,?_,?_,?_⟩⟩
    ·rw[hrec];exact World.putObj_heap_same (Array.getElem?_eq_some_iff.1 h3).1
    ·exact (World.putObj_heap_other (by omega)).trans h3k
    ·simpa using hs3
   ·have hr:=run_endRound (P:=P) (some (.exit id)) h3;refine⟨_,_,hr,.inr ⟨rfl,id,hIxp _ _ _ L _ _ hi3 (by omega) h3,?_,?_,?_⟩⟩
    ·rw[hrec];exact World.putObj_heap_same (Array.getElem?_eq_some_iff.1 h3).1
    ·exact (World.putObj_heap_other (by omega)).trans h3k
    ·simpa using hs3
  | exit id=>exact hq1.elim|goto l=>exact hq1.elim|ret=>exact hq1.elim|panic ch=>exact hq1.elim|outgrown=>exact hq1.elim
 ·rintro e W2 ⟨⟨v,rfl⟩,(⟨hi,hb⟩ | ⟨pre,hpre,id,hi,hb⟩)⟩
  ·refine⟨none,_,by have:=run_endLoop (P:=P) hb.1 (by rw[hrec];simp);rw[hrec] at this;exact this,hdone _ _ (Nat.le_refl _) (hIp _ _ L _ _ hi (by omega) hb.1) ?_⟩;exact (World.putObj_heap_other (by omega)).trans hb.2.1
  ·refine⟨some (.exit id),_,by have:=run_endLoop (P:=P) hb.1 (by rw[hrec];simp);rw[hrec] at this;exact this,?_⟩;refine wpIn_exit (hjump _ _ _ _ (Nat.le_refl _) (hIxp _ _ _ L _ _ hi (by omega) hb.1) ?_);exact (World.putObj_heap_other (by omega)).trans hb.2.1
end
theorem rg_any {σ:Sg} {F:Fzn} {w:World} {u:Value}:PRep σ F w .any u:=by unfold PRep;trivial
theorem rg_delta {rf out:Rf} (hn:ndK out=true):Dl.app (hpL rf) (deltaOf rf out)=hpL out:=by
 funext k
 unfold deltaOf;rw[app_append];by_cases hk:∃b,(k,b)∈out
 ·obtain⟨b,hb⟩:=hk;rw[app_somes_in (b:=b) (fun b' hb'=>by have e1:=mem_hpL hn hb;have e2:=mem_hpL hn hb';rw[e1] at e2;cases e2;rfl) hb,mem_hpL hn hb]
 ·rw[app_somes_out hk];have hno:hpL out k=none:=by
   cases q:hpL out k with
   | none=>rfl|some b=>exact absurd ⟨b,hpL_mem q⟩ hk
  rw[hno];refine app_nones_in ?_;by_cases hr:∃b,(k,b)∈rf
  ·exact .inr hr
  ·refine .inl ?_;cases q:hpL rf k with
   | none=>rfl|some b=>exact absurd ⟨b,hpL_mem q⟩ hr
theorem rg_env {σ:Sg} {F:Fzn} {w:World} {T:Nat->Value}:∀{le:List (Nat×PV)},PsRep σ F w (le.map Prod.snd) (le.map fun q=>T q.1)->∀t,PRep σ F w (ofL le t) (T t)
 | [],_,t=>rg_any|(q,v)::le,h,t=>by
  rw[map_cons,map_cons] at h;unfold PsRep at h;show PRep σ F w (bif Nat.beq t q then v else ofL le t) (T t);cases hb:Nat.beq t q with
  | true=>have:=eq_of_beq_eq_true hb;subst this;exact h.1
  | false=>exact rg_env h.2 t
theorem rg_les {f:Nat->Option Nat} {n:List Nat} {σ:Sg} {F F':Fzn} {w:World} {e:Env} {T:Nat->Value} (hk:Keeps F F' w w) (he:∀t,PRep σ F w (e t) (T t)):∀{le:List (Nat×PV)},PLes f n e le->PsRep (newSg σ f n) F' w (le.map Prod.snd) (le.map fun q=>T q.1)
 | [],_=>by rw[map_nil,map_nil];unfold PsRep;trivial
 | (q,v)::le,h=>by
  rw[map_cons,map_cons];unfold PsRep;exact⟨prep_wk hk _ _ _ h.1 (he q),rg_les hk he h.2⟩
abbrev idR (ks:List Nat):Ren:=ks.map fun k=>(k,k)
theorem rg_id:∀{ks:List Nat} {k:Nat},fnL (idR ks) k=if k∈ks then some k else none
 | [],k=>rfl|q::ks,k=>by
  show (bif Nat.beq k q then some q else fnL (idR ks) k)=_;cases hb:Nat.beq k q with
  | true=>have:=eq_of_beq_eq_true hb;subst this;rw[if_pos mem_cons_self];rfl
  | false=>
   have hne:k≠q:=fun e=>by subst e;rw[beq_refl] at hb;cases hb
   show fnL (idR ks) k=_;rw[rg_id];by_cases hm:k∈ks
   ·rw[if_pos hm,if_pos (mem_cons_of_mem _ hm)]
   ·rw[if_neg hm,if_neg fun h=>by rcases mem_cons.1 h with h | h;exact hne h;exact hm h]
theorem rg_sg {ks kn:List Nat} {σ:Sg} (hs:∀k∈kn,k∈ks) (hσ:∀k,k∉kn->σ k=none):sg0 (idR ks) σ=σ:=by
 funext k
 unfold sg0;rw[rg_id];by_cases hk:k∈ks
 ·rw[if_pos hk];rfl
 ·rw[if_neg hk,hσ k fun h=>hk (hs k h)];rfl
def notMp:HB->Bool
 | .mp _=>false|_=>true
theorem rg_cells {σ:Sg} {F:Fzn} {w:World} {own:Nat->Prop} {k b m:Nat} {hb:HB} (h:HbOk σ F w own k hb) (hm:notMp hb=true) (hσ:σ k=some (some b,m)):∃cs e fr,w.heap[b]? = some (.cells cs e fr):=by
 cases hb with
 | box bt l=>obtain⟨g',n',cs,h1,h2,h3,h4⟩:=h;rw[hσ] at h1;cases h1;exact⟨_,_,_,h3⟩
 | tail e sz=>
  obtain⟨_,ob,n',h1,h2⟩:=h;rw[hσ] at h1;cases h1;obtain⟨_,cur,h3⟩:=h2;exact⟨_,_,_,h3⟩
 | arr e sz rows=>
  obtain⟨_,_,ob,n',h1,h2⟩:=h;rw[hσ] at h1;cases h1;obtain⟨_,cur,h3,_⟩:=h2;exact⟨_,_,_,h3⟩
 | mp l=>cases hm
 | darr e sz rows=>
  obtain⟨_,_,ob,n',h1,h2⟩:=h;rw[hσ] at h1;cases h1;obtain⟨_,cur,h3,_⟩:=h2;exact⟨_,_,_,h3⟩
section
variable {c:Ctx} {σ:Sg} {h:Hp} {w:World}
theorem rg_other (hs:SW c σ h w) {l:Nat} {o o':Obj} (hl:c.n0<=l) (ho:w.heap[l]? = some o) (hn:o.isCells=false) (hm:∀es cl,o≠.map es cl) (hn':o'.isCells=false) :
  Evo σ σ (fz c σ h w) (fz c σ h (w.putObj l o')) w (w.putObj l o')/\SW c σ h (w.putObj l o'):=by
 have hlt:l<w.heap.size:=(Array.getElem?_eq_some_iff.1 ho).1;have hsz:(w.putObj l o').heap.size=w.heap.size:=by simp
 have hcellN:∀(W:World) (q:Obj) (off:Nat),W.heap[l]? = some q->q.isCells=false->W.cell? ⟨l,off,none⟩=none:=by
  intro W q off hq hc;unfold World.cell?;rw[hq];cases q<;>simp_all [Obj.isCells]
 have hnew:(w.putObj l o').heap[l]? = some o':=World.putObj_heap_same hlt;have ev:Evo σ σ (fz c σ h w) (fz c σ h (w.putObj l o')) w (w.putObj l o'):=by
  refine⟨fun _ _ h=>h,⟨fun b o hf=>?_,fun b off hf=>?_⟩,fun g cur e fr hg=>⟨cur,fr,?_,rfl⟩⟩
  ·unfold fz;rw[hsz];exact hf
  ·by_cases q:b=l
   ·subst q;rw[hcellN _ _ _ hnew hn',hcellN _ _ _ ho hn]
   ·unfold World.cell?;rw[World.putObj_heap_other q]
  ·have:g≠l:=by rintro rfl;rw[ho] at hg;cases hg;cases hn
   rw[World.putObj_heap_other this];exact hg
 refine⟨ev,hs.os,hs.tape,hs.output,by rw[hsz];exact hs.size,fun b h1 h2=>?_,fun k hb hk=>(hs.hp k hb hk).evo ev fun g n hg=>?_,hs.inj,hs.kept.trans ev.keeps,hs.shape.trans ev.shape,hs.sg0⟩
 ·rw[World.putObj_heap_other (by omega)];exact hs.block b h1 h2
 ·refine World.putObj_heap_other ?_;rintro rfl;have:=hs.hp k hb hk;cases hb with
  | mp l=>obtain⟨g',n',es,cl,h1,h2,h3,h4⟩:=this;rw[hg] at h1;cases h1;rw[ho] at h3;cases h3;exact hm _ _ rfl
  | box bt l=>obtain⟨cs,e,fr,h3⟩:=rg_cells this rfl hg;rw[ho] at h3;cases h3;cases hn
  | tail e sz=>obtain⟨cs,e,fr,h3⟩:=rg_cells this rfl hg;rw[ho] at h3;cases h3;cases hn
  | arr e sz rows=>obtain⟨cs,e,fr,h3⟩:=rg_cells this rfl hg;rw[ho] at h3;cases h3;cases hn
  | darr e sz rows=>obtain⟨cs,e,fr,h3⟩:=rg_cells this rfl hg;rw[ho] at h3;cases h3;cases hn
theorem rg_st {nt:Nat} {e:Env} {a:Act} (hs:St c nt σ e h a w) {σ':Sg} {h':Hp} {w':World} (ev:Evo σ σ' (fz c σ h w) (fz c σ' h' w') w w') (hw:SW c σ' h' w'):St c nt σ' e h' a w':=
 ⟨hw,fun t=>PRep.evo ev _ _ (hs.env t),hs.defers,hs.nt⟩
end
section
variable {P:Program} {nt:Nat}
theorem rg_core {C:Ctx} {σ:Sg} {e:Env} {a:Act} {W:World} {H0:Rf} {ks kn:List Nat}
  (hCo:C.Ok) (st:St C nt σ e (hpL H0) a W) (hσ:∀k,k∉kn->σ k=none) (hkn:H0.map Prod.fst=kn) (hnd:ndK H0=true) (hsub:∀k∈kn,k∈ks)
  (hro:renOk (idR ks)=true) (hr0:RR (idR ks) H0 H0) (hmp:(H0.all fun q=>notMp q.2)=true) :
  ∃D:Ctx,D.Ok/\(∀k,D.σ0 k≠none->k∈kn)/\(∀k,k∉kn->D.σ0 k=none)/\St D nt D.σ0 e (hpL H0) a W/\
   ∀(out:Rf) (le1:List (Nat×PV)) (n1:List Nat) (e':Env) (h':Hp) (σ2:Sg) (a2:Act) (W2:World),Wk kn e' h' le1 out n1->namesOk (idR ks) [] H0 out=true->RR (idR ks) out out->renP (idR ks) (.tup (le1.map Prod.snd)) (fun z=>z=.tup (le1.map Prod.snd))->
    St D nt σ2 e' h' a2 W2->Lets 0 W W2/\∃σ4,St C nt σ4 (ofL le1) (hpL out) a2 W2/\∀k,k∉kn->k∉out.map Prod.fst->σ4 k=none:=by
 have hin:∀p∈H0,hpL H0 p.1=some p.2:=fun p hp=>mem_hpL hnd hp;obtain⟨E,hE⟩:∃E,E=calleeC C (idR ks) σ (hpL H0) W H0:=⟨_,rfl⟩;have hsg:=rg_sg hsub hσ;have hEk:=callee_keeps hr0 hCo st.toSW hin;have hEs:=callee_sw hro hr0 hCo st.toSW hin;have hEo:=callee_ok (ρ:=idR ks) hr0 hCo st.toSW hin;rw[hsg] at hEk hEs;have hE0:E.σ0=σ:=by rw[hE];exact hsg
 rw[<- hE] at hEk hEs hEo;have hEw:E.w0=W:=by rw[hE];rfl
 have hEe:∀b,E.ext b->∃cs e fr,W.heap[b]? = some (.cells cs e fr):=by
  intro b hb;rw[hE] at hb;obtain⟨_,_,k',hb',m,g1,g2⟩:=ext_own hr0 st.toSW hin hb;exact rg_cells (st.hp k' hb' (hin _ g1)) (all_eq_true.1 hmp _ g1) g2
 have stE:St { E with df:=C.df,σ0:=σ } nt σ e (hpL H0) a W:=by
  refine⟨sw_df hEs C.df σ (fun _ _ h=>h),fun t=>?_,st.defers,st.nt⟩;exact PRep.evo ⟨fun _ _ h=>h,hEk,Shape.refl _⟩ _ _ (st.env t)
 refine⟨{ E with df:=C.df,σ0:=σ },ctx_df hEo _ _,fun k hk=>Classical.byContradiction fun q=>hk (hσ k q),hσ,stE,?_⟩;intro out le1 n1 e' h' σ2 a2 W2 hwk hnm hro2 hrp st2;have hs2:SW E σ2 h' W2:=by
  have:=sw_df st2.toSW E.df E.σ0 (fun k x hk=>st2.sg0 k x (by rw[hE0] at hk;exact hk));exact this
 refine⟨⟨by have:=hs2.size;rw[show E.n0=W.heap.size by show E.w0.heap.size=_;rw[hEw]] at this;exact this,fun k o hk _ ho=>?_⟩,?_⟩
 ·have hlt:k<W.heap.size:=(Array.getElem?_eq_some_iff.1 hk).1;have:=hs2.block k (by show k<E.w0.heap.size;rw[hEw];exact hlt) (fun he=>by obtain⟨cs,e,fr,q⟩:=hEe k he;rw[hk] at q;cases q;cases ho);rw[this,hEw];exact hk
 ·obtain⟨f,hi,hff,hle,hhl⟩:=hwk;have hEfk:∀k,E.σ0 k≠none->k∈kn:=fun k hk=>Classical.byContradiction fun q=>hk (by rw[hE0];exact hσ k q);obtain⟨hk3,sw3⟩:=sw_wk hEfk hs2 hi hff hhl;have hps:PsRep (newSg σ2 (fnL f) n1) (fz E (newSg σ2 (fnL f) n1) (hpL out) W2) W2 (le1.map Prod.snd) (le1.map fun q=>a2.tmps.getD q.1 undef):=rg_les (T:=fun t=>a2.tmps.getD t undef) hk3 (fun t=>st2.env t) hle;have hfr:Fresh σ (deltaOf H0 out) ([]++H0):=by
   intro k hk hno;refine hσ k fun hm=>?_;rw[<- hkn] at hm;obtain⟨q,hq,rfl⟩:=mem_map.1 hm;exact hno q hq rfl
  obtain⟨_,_,_,_,fin⟩:=frame_world (rd:=[]) (rf:=H0) (out:=out) hnm (rfl:RR (idR ks) [] []) hr0 hro2 hrp hCo st.toSW (fun p hp=>hin p hp) hfr;rw[nil_append,<- hE] at fin;obtain⟨σ4,ev,sw4,hp4,fr4⟩:=fin _ W2 (.tuple (le1.map fun q=>a2.tmps.getD q.1 undef).toArray) sw3 (by unfold PRep;exact⟨_,rfl,hps⟩);have hndo:ndK out=true:=by
   unfold namesOk at hnm;simp only[Bool.and_eq_true] at hnm;exact hnm.2.2.1
  rw[rg_delta hndo] at ev sw4 hp4;unfold PRep at hp4;obtain⟨us,e1,hp4⟩:=hp4;have e2:us=le1.map fun q=>a2.tmps.getD q.1 undef:=by
   have:=congrArg (fun v:Value=>match v with | .tuple x=>x.toList | _=>[]) e1;simpa using this.symm
  subst e2;refine⟨σ4,⟨sw4,rg_env (T:=fun t=>a2.tmps.getD t undef) hp4,st2.defers,st2.nt⟩,fun k h1 h2=>fr4 k (fun hm=>?_) (hσ k h1)⟩;unfold Dl.keys deltaOf at hm;rw[map_append,map_map,map_map] at hm;rcases mem_append.1 hm with hm | hm
  ·exact h1 (by rw[<- hkn];exact hm)
  ·exact h2 hm
end
def XF:XT:=fun _ _ _ _=>False
def wkK (fk:List Nat) (le:List (Nat×PV)) (lh:Rf):Cont:=fun x e h _=>match x with
 | .normal=>∃n',Wk fk e h le lh n'|_=>False
def RgOut (kn0 kn kn1 ks2:List Nat) (H1 Rn:Rf) (e:Env) (h:Hp):Prop:=
 ∃(out:Rf) (n':List Nat) (f:List (Nat×Nat)),Wk kn1 e h [] out n'/\namesOk (idR ks2) [] H1 out=true/\RR (idR ks2) out out/\injOn (fnL f) Rn=true/\fkOk (fnL f) kn kn0=true/\HLes (fnL f) kn (hpL out) Rn
def bodyK (kn0 kn kn1 ks2:List Nat) (bid:Nat) (H1 Rn RF:Rf):Cont:=fun x e h _=>match x with
 | .normal=>RgOut kn0 kn kn1 ks2 H1 Rn e h|.exit id=>id=bid/\RgOut kn0 kn kn1 ks2 H1 RF e h|_=>False
structure RgOk (kn kn1 ks2:List Nat) (kb:Nat) (rd r0 Rb:Rf) (lA:PV->List (Nat×PV)) (bA:PV->HB) (xs:List PV):Prop where
 keys:(rd++Rb).map Prod.fst=kn
 nd:ndK (rd++Rb)=true
 nm:namesOk (idR kn) rd r0 Rb=true
 rr:RR (idR kn) Rb Rb
 rr1:RR (idR kn1) (rd++Rb) (rd++Rb)
 mp:((rd++Rb).all fun q=>notMp q.2)=true
 keys1:∀x∈xs,(rd++Rb++[(kb,bA x)]).map Prod.fst=kn1
 nd1:∀x∈xs,ndK (rd++Rb++[(kb,bA x)])=true
 nm1:∀x∈xs,namesOk (idR kn1) [] (rd++Rb) (rd++Rb++[(kb,bA x)])=true
 rr2:∀x∈xs,RR (idR kn1) (rd++Rb++[(kb,bA x)]) (rd++Rb++[(kb,bA x)])
 rr3:∀x∈xs,RR (idR ks2) (rd++Rb++[(kb,bA x)]) (rd++Rb++[(kb,bA x)])
 mp1:∀x∈xs,((rd++Rb++[(kb,bA x)]).all fun q=>notMp q.2)=true
 ren:∀x∈xs,renP (idR kn1) (.tup ((lA x).map Prod.snd)) (fun z=>z=.tup ((lA x).map Prod.snd))
structure RgNames (kn0 kn kn1 ks2:List Nat) (rd r0:Rf) (le:List (Nat×PV)) (xs:List PV):Prop where
 keys0:(rd++r0).map Prod.fst=kn0
 sub0:∀k∈kn0,k∈kn
 sub1:∀k∈kn,k∈kn1
 sub2:∀k∈kn1,k∈ks2
 ro1:renOk (idR kn1)=true
 ro2:renOk (idR ks2)=true
 rrd:RR (idR kn) rd rd
 rr0:RR (idR kn) r0 r0
 ren:renP (idR kn) (.tup (le.map Prod.snd)) (fun z=>z=.tup (le.map Prod.snd))
 plain:∀x∈xs,renP [] x (fun z=>z=x)
theorem rg_plain {x:PV} (hx:renP [] x (fun z=>z=x)) {σ τ:Sg} {F:Fzn} {w:World} {u:Value} (h:PRep σ F w x u):PRep τ F w x u:=
 rep_renP (ρ:=[]) (fun k k' hk=>by cases hk) ⟨fun _ _ h=>h,fun _ _ _=>rfl⟩ hx h
theorem rg_env_le {σ:Sg} {F:Fzn} {w:World} {T:Nat->Value} {e:Env} (h:∀t,PRep σ F w (e t) (T t)):∀{le:List (Nat×PV)},(∀q∈le,e q.1=q.2)->PsRep σ F w (le.map Prod.snd) (le.map fun q=>T q.1)
 | [],_=>by rw[map_nil,map_nil];unfold PsRep;trivial
 | (q,v)::le,hl=>by
  rw[map_cons,map_cons];unfold PsRep;refine⟨?_,rg_env_le h fun x hx=>hl x (mem_cons_of_mem _ hx)⟩;have:=h q;rw[hl (q,v) mem_cons_self] at this;exact this
section
variable {P:Program} {nt:Nat} {c:Ctx} {σ:Sg} {e:Env} {h:Hp} {a:Act} {w:World}
set_option maxHeartbeats 1000000 in
theorem range_gen (hc:c.Ok) (hm:P.follows .mixedOrders=true) (hs:St c nt σ e h a w) {gt p kb gf bid:Nat} {lb:Array Value} {assign body:Code} {Q:Exit->Act->World->Prop}
  (hg:a.eval (.tmp gt)=.func (.func gf) #[] lb) (eg:∀args w,(callFunc gf args).run P w=.ok (.enter gf args) w) (hp:p<nt)
  {rd r0 RF:Rf} {R:Nat->Rf} {le:List (Nat×PV)} {kn0 kn kn1 ks2:List Nat} {lA:PV->List (Nat×PV)} {bA:PV->HB} {xs:List PV} {us:List Value} {T0:World->Prop}
  (hin:∀q∈rd++r0,h q.1=some q.2) (hfr:∀k∈kn,k∉kn0->σ k=none) (hle:∀q∈le,e q.1=q.2) (N:RgNames kn0 kn kn1 ks2 rd r0 le xs) (hok:∀i,i<=xs.length->RgOk kn kn1 ks2 kb rd r0 (R i) lA bA xs) (hRF:R xs.length=RF)
  (hx:us.length=xs.length) (hxr:∀(i:Nat) (u:Value) (x:PV),us[i]? = some u->xs[i]? = some x->PRep σ (fz c σ h w) w x u)
  (hseq:SeqB Fence.wide 5 P gf lb (fun u:Value=>#[u]) us T0)
  (hT0:∀W:World,w.heap.size<=W.heap.size->(∀b,b<w.heap.size->(∀k∈kn0,∀n,σ k≠some (some b,n))->W.heap[b]? = w.heap[b]?)->T0 W)
  {f0:List (Nat×Nat)} (hi0:injOn (fnL f0) (rd++R 0)=true) (hf0:fkOk (fnL f0) kn kn0=true) (hh0:HLes (fnL f0) kn (hpL (rd++r0)) (rd++R 0))
  (oka:okIn assign=true) (okb:okIn body=true)
  (hasg:∀(i:Nat) (x:PV),xs[i]? = some x->vc P nt kn XF assign (ofL ((p,x)::le)) (hpL (rd++R i)) kn (wkK kn (lA x) (rd++R i++[(kb,bA x)])))
  (hbody:∀(i:Nat) (x:PV),xs[i]? = some x->vc P nt kn1 XF body (ofL (lA x)) (hpL (rd++R i++[(kb,bA x)])) kn1 (bodyK kn0 kn kn1 ks2 bid (rd++R i++[(kb,bA x)]) (rd++R (i+1)) (rd++RF)))
  (hdone:∀(D:Nat) (W:World) (σ':Sg),w.heap.size<=D->W.heap[D]? = some (.deferred (some []))->
   Evo σ σ' (fz c σ h w) (fz c σ' (Dl.app h (deltaOf r0 RF)) W) w W->SW c σ' (Dl.app h (deltaOf r0 RF)) W->(∀k,k∉kn->σ k=none->σ' k=none)->
   Q .normal { a with defers:={ target:=.collected D,args:=#[] }::a.defers } W) :
  (Code.block bid (.rangeFunc (.tmp gt) #[p] assign body)).wpIn Fence.wide 6 P Q a w:=by
 obtain⟨hkeys0,hsub0,hsub1,hsub2,hro1,hro2,hrrd,hrr0,hren,hpl⟩:=N;have hokF:=hok xs.length (Nat.le_refl _);rw[hRF] at hokF;have hfresh:∀Rb:Rf,(rd++Rb).map Prod.fst=kn->Fresh σ (deltaOf r0 Rb) (rd++r0):=by
  intro Rb hkb k hk hno;unfold Dl.keys deltaOf at hk;rw[map_append,map_map,map_map] at hk;have hnot:k∉kn0:=fun hm=>by
   rw[<- hkeys0] at hm;obtain⟨q,hq,rfl⟩:=mem_map.1 hm;exact hno q hq rfl
  rcases mem_append.1 hk with hk | hk
  ·exact absurd (by rw[<- hkeys0,map_append];exact mem_append_right _ hk) hnot
  ·exact hfr k (by rw[<- hkb,map_append];exact mem_append_right _ hk) hnot
 obtain⟨hCo,hCfr,hCk,hCs,fin⟩:=frame_world (res0:=.any) (res:=.any) hokF.nm hrrd hrr0 hokF.rr (by unfold renP;rfl) hc hs.toSW hin (hfresh RF hokF.keys);obtain⟨C,hC⟩:∃C,C=calleeC c (idR kn) σ h w (rd++r0):=⟨_,rfl⟩;have hCw:C.w0=w:=by rw[hC];rfl
 have hCF:C.F1=fz c σ h w:=by rw[hC];rfl
 have hCσ:C.σ0=sg0 (idR kn) σ:=by rw[hC];rfl
 have hCdf:C.df=[]:=by rw[hC];rfl
 rw[<- hC] at hCo hCk hCs fin;rw[<- hCσ] at hCk hCs hCfr;have hCn0:C.n0=w.heap.size:=by show C.w0.heap.size=_;rw[hCw]
 have hCfk:∀k,C.σ0 k≠none->k∈kn0:=fun k hk=>Classical.byContradiction fun q=>hk (hCfr k (by rw[hkeys0];exact q));have hCe:∀b,C.ext b->∃k∈kn0,∃n,σ k=some (some b,n):=by
  rintro b hb;rw[hC] at hb;obtain⟨_,_,k',hb',m,g1,g2⟩:=ext_own (rr_append hrrd hrr0) hs.toSW hin hb;exact⟨k',by rw[<- hkeys0];exact mem_map.2 ⟨_,g1,rfl⟩,m,g2⟩
 have hleC:PsRep (sg0 (idR kn) σ) (fz c σ h w) w (le.map Prod.snd) (le.map fun q=>a.tmps.getD q.1 undef):=by
  have h1:PRep σ (fz c σ h w) w (.tup (le.map Prod.snd)) (.tuple (le.map fun q=>a.tmps.getD q.1 undef).toArray):=by
   unfold PRep;exact⟨_,rfl,rg_env_le (T:=fun t=>a.tmps.getD t undef) hs.env hle⟩
  have h2:=rep_renP (τ:=sg0 (idR kn) σ) sg0_eq ⟨fun _ _ h=>h,fun _ _ _=>rfl⟩ hren h1;unfold PRep at h2;obtain⟨us',e1,h2⟩:=h2;have e2:us'=le.map fun q=>a.tmps.getD q.1 undef:=by
   have:=congrArg (fun v:Value=>match v with | .tuple x=>x.toList | _=>[]) e1;simpa using this.symm
  rw[e2] at h2;exact h2
 have toC:∀(σ':Sg) (H:Rf) (W:World) (v:PV) (u:Value),SW C σ' (hpL H) W->PRep (sg0 (idR kn) σ) (fz c σ h w) w v u->PRep σ' (fz C σ' (hpL H) W) W v u:=by
  intro σ' H W v u q1 hv;have hk:=q1.kept;rw[hCF] at hk;refine PRep.evo ⟨fun k x hk=>q1.sg0 k x (by rw[hCσ];exact hk),?_,?_⟩ _ _ hv
  ·rw[hCw] at hk;exact hk
  ·have:=q1.shape;rw[hCw] at this;exact this
 have toCs:∀(σ':Sg) (H:Rf) (W:World),SW C σ' (hpL H) W->∀t,PRep σ' (fz C σ' (hpL H) W) W (ofL le t) (a.tmps.getD t undef):=by
  intro σ' H W q1 t;refine rg_env (T:=fun t=>a.tmps.getD t undef) ?_ t;have h1:PRep (sg0 (idR kn) σ) (fz c σ h w) w (.tup (le.map Prod.snd)) (.tuple (le.map fun q=>a.tmps.getD q.1 undef).toArray):=by
   unfold PRep;exact⟨_,rfl,hleC⟩
  have h2:=toC σ' H W _ _ q1 h1;unfold PRep at h2;obtain⟨us',e1,h2⟩:=h2;have e2:us'=le.map fun q=>a.tmps.getD q.1 undef:=by
   have:=congrArg (fun v:Value=>match v with | .tuple x=>x.toList | _=>[]) e1;simpa using this.symm
  rw[e2] at h2;exact h2
 have hdk:∀k,k∈Dl.keys (deltaOf r0 RF)->k∈kn:=by
  intro k hk;unfold Dl.keys deltaOf at hk;rw[map_append,map_map,map_map] at hk;rcases mem_append.1 hk with hk | hk
  ·exact hsub0 k (by rw[<- hkeys0,map_append];exact mem_append_right _ hk)
  ·rw[<- hokF.keys,map_append];exact mem_append_right _ hk
 refine wpIn_block ?_;refine range_jump (α:=Value) rfl (by decide) hg trivial eg hseq (fun _=>rfl)
  (fun pre W=>pre.length<=xs.length/\∃σ',SW C σ' (hpL (rd++R pre.length)) W/\∀k,k∉kn->σ' k=none)
  (fun pre id W=>id=bid/\∃σ',SW C σ' (hpL (rd++RF)) W/\∀k,k∉kn->σ' k=none) ?hT ?hIp ?hIxp ?hB ?h0 ?round ?done ?jump
 case hT=>
  rintro s W ⟨_,σ',q1,_⟩;refine hT0 W (by have:=q1.size;omega) fun b hb hne=>?_;have:=q1.block b (by omega) (fun he=>by obtain⟨k,hk,n,q⟩:=hCe b he;exact hne k hk n q);rw[hCw] at this;exact this
 case hIp=>
  rintro s W l r r' ⟨q0,σ',q1,q2⟩ hl hr;exact⟨q0,σ',(rg_other q1 (by omega) hr rfl (fun _ _ e=>by cases e) rfl).2,q2⟩
 case hIxp=>
  rintro s id W l r r' ⟨q0,σ',q1,q2⟩ hl hr;exact⟨q0,σ',(rg_other q1 (by omega) hr rfl (fun _ _ e=>by cases e) rfl).2,q2⟩
 case hB=>
  rintro s W W' ⟨q0,σ',q1,q2⟩ hb;exact⟨q0,σ',sw_below q1 hb,q2⟩
 case h0=>
  obtain⟨_,q⟩:=sw_wk (fk:=kn0) hCfk hCs hi0 hf0 hh0;exact⟨zero_le _,_,q,fun k hk=>by unfold newSg;rw[if_neg fun e=>hk (kin_mem e)]⟩
 case round=>
  rintro l pre u W r ⟨hpre,σ',q1,q2⟩ hu hl hlr;obtain⟨i,hi⟩:∃i,i=pre.length:=⟨_,rfl⟩;rw[<- hi] at q1 hu hpre;have hil:i<xs.length:=by have:=(List.getElem?_eq_some_iff.1 hu).1;omega
  obtain⟨x,hxi⟩:∃x,xs[i]? = some x:=⟨_,List.getElem?_eq_getElem hil⟩;have hxm:x∈xs:=List.mem_of_getElem? hxi;have ok:=hok i hpre;have hxv:PRep σ' (fz C σ' (hpL (rd++R i)) W) W x u:=toC σ' _ W _ _ q1 (rg_plain (hpl x hxm) (hxr i u x hu hxi));have st0:St C nt σ' (ofL le) (hpL (rd++R i)) { tmps:=a.tmps,defers:=[] } W:=⟨q1,toCs σ' _ W q1,hCdf.symm,hs.nt⟩;have st1:=st_put (d:=some p) (v:=x) (u:=u) st0 Evo.refl st0.toSW hxv (fun t ht=>by cases ht;exact hp);have hact:({ tmps:=((#[p]:Array Tmp).zip #[u]).foldl (fun t (p,v)=>t.setIfInBounds p v) a.tmps,defers:=[] }:Act)=({ tmps:=a.tmps,defers:=[] }:Act).put (some p) u:=by simp[Act.put]
  rw[hact];have henv:updO (ofL le) (some p) x=ofL ((p,x)::le):=by funext t;rfl
  rw[henv] at st1;obtain⟨D1,d1,d2,d3,d4,d5⟩:=rg_core (ks:=kn1) hCo st1 q2 ok.keys ok.nd hsub1 hro1 ok.rr1 ok.mp;refine wpIn_mono (vcIn_out (X:=XF) (fk:=kn) d2 d1 hm assign _ _ kn _ D1.σ0 _ W oka (fun _ _ _ q=>q) (hasg i x hxi) d4 d3) ?_;intro ex a1 W1 hq;cases ex with
  | normal=>
   obtain⟨e1,h1,n1,σ1,⟨n2,wk1⟩,hs1,_⟩:=hq;obtain⟨lets1,σ3,st3,hσ3⟩:=d5 _ _ _ _ _ _ _ _ wk1 (ok.nm1 x hxm) (ok.rr2 x hxm) (ok.ren x hxm) hs1;refine⟨lets1,fun r'=>?_⟩;have hl1:W1.heap[l]? = some (.loop r):=lets1.same l _ hlr (zero_le _) rfl;obtain⟨ev4,sw4⟩:=rg_other (o':=.loop r') st3.toSW (by omega) hl1 rfl (fun _ _ e=>by cases e) rfl;have st4:=rg_st st3 ev4 sw4;have hσ4:∀k,k∉kn1->σ3 k=none:=fun k hk=>hσ3 k (fun h=>hk (hsub1 k h)) (by rw[ok.keys1 x hxm];exact hk);obtain⟨D2,g1,g2,g3,g4,g5⟩:=rg_core (ks:=ks2) hCo st4 hσ4 (ok.keys1 x hxm) (ok.nd1 x hxm) hsub2 hro2 (ok.rr3 x hxm) (ok.mp1 x hxm);refine wpIn_mono (vcIn_out (X:=XF) (fk:=kn1) g2 g1 hm body _ _ kn1 _ D2.σ0 _ _ okb (fun _ _ _ q=>q) (hbody i x hxi) g4 g3) ?_;intro ex2 a2 W2 hq2;have fin2:∀(Rn:Rf) (e2:Env) (h2:Hp) (σ5:Sg),RgOut kn0 kn kn1 ks2 (rd++R i++[(kb,bA x)]) (rd++Rn) e2 h2->St D2 nt σ5 e2 h2 a2 W2->Lets 0 (W1.putObj l (.loop r')) W2/\∃σ',SW C σ' (hpL (rd++Rn)) W2/\∀k,k∉kn->σ' k=none:=by
    rintro Rn e2 h2 σ5 ⟨out,n',f,w1,w2,w3,w4,w5,w6⟩ hs5;obtain⟨lets2,σ6,st6,_⟩:=g5 _ _ _ _ _ _ _ _ w1 w2 w3 rfl hs5;obtain⟨_,sw7⟩:=sw_wk (fk:=kn0) hCfk st6.toSW w4 w5 w6;exact⟨lets2,_,sw7,fun k hk=>by unfold newSg;rw[if_neg fun e=>hk (kin_mem e)]⟩
   cases ex2 with
   | normal=>
    obtain⟨e2,h2,n2,σ5,hout,hs5,_⟩:=hq2;obtain⟨y1,y2⟩:=fin2 _ _ _ _ hout hs5;refine⟨y1,.inl ⟨rfl,by rw[length_append,<- hi];exact hil,?_⟩⟩;rw[length_append,<- hi];exact y2
   | exit id=>
    obtain⟨e2,h2,n2,σ5,⟨rfl,hout⟩,hs5,_⟩:=hq2;obtain⟨y1,y2⟩:=fin2 _ _ _ _ hout hs5;exact⟨y1,.inr ⟨_,rfl,rfl,y2⟩⟩
   | goto l=>obtain⟨e',h',n',σ2,hx,_⟩:=hq2;exact hx.elim
   | ret=>obtain⟨e',h',n',σ2,hx,_⟩:=hq2;exact hx.elim
   | panic ch=>obtain⟨v,_,e',h',n',σ2,hx,_⟩:=hq2;exact hx.elim
   | outgrown=>obtain⟨e',h',n',σ2,hx,_⟩:=hq2;exact hx.elim
  | exit id=>obtain⟨e',h',n',σ2,hx,_⟩:=hq;exact hx.elim
  | goto l=>obtain⟨e',h',n',σ2,hx,_⟩:=hq;exact hx.elim
  | ret=>obtain⟨e',h',n',σ2,hx,_⟩:=hq;exact hx.elim
  | panic ch=>obtain⟨v,_,e',h',n',σ2,hx,_⟩:=hq;exact hx.elim
  | outgrown=>obtain⟨e',h',n',σ2,hx,_⟩:=hq;exact hx.elim
 case done=>
  rintro D W hD ⟨_,σ',q1,q2⟩ hK;rw[hx,hRF] at q1;obtain⟨σ4,ev,sw,_,fr⟩:=fin σ' W undef q1 rg_any;exact hdone D W σ4 hD hK ev sw fun k hk hσ=>fr k (fun hm=>hk (hdk k hm)) hσ
 case jump=>
  rintro D pre id W hD ⟨rfl,σ',q1,q2⟩ hK;obtain⟨σ4,ev,sw,_,fr⟩:=fin σ' W undef q1 rg_any;have:=hdone D W σ4 hD hK ev sw fun k hk hσ=>fr k (fun hm=>hk (hdk k hm)) hσ;simp only[Exit.inBlock];rw[if_pos trivial];exact this
end
section
variable {P:Program}
theorem rg_pre {m:Nat} {fn:Func} {fk:List Nat} {c:Ctx} {R:Ending->World->Prop} {tail:Code} {N:Env->Hp->List Nat->Prop} {Fin:Hp->List PV->Prop} (hc:c.Ok) (hm:P.follows .mixedOrders=true) (hdf:c.df=[]) (hfk:∀k,c.σ0 k≠none->k∈fk)
  (hfin:∀σ h w vs us,Fin h vs->SW c σ h w->PsRep σ (fz c σ h w) w vs us->R (.returned (if hx:us.toArray.size=1 then us.toArray[0] else .tuple us.toArray)) w)
  (htail:∀(e:Env) (h:Hp) (n:List Nat) (σ:Sg) (a:Act) (w:World),N e h n->St c fn.ntmps σ e h a w->(∀k,k∉n->σ k=none)->tail.wpIn Fence.wide m P (bodyPostM Fence.wide m P fn R) a w) :
  ∀(pre:List Code) (e:Env) (h:Hp) (n:List Nat) (σ:Sg) (a:Act) (w:World),vcPre P fn.ntmps fk XF pre N (fun x e h _=>match x with | .ret=>resP P h e fn.results.toList fun vs=>Fin h vs | _=>False) e h n->
   St c fn.ntmps σ e h a w->(∀k,k∉n->σ k=none)->(seqs pre tail).wpIn Fence.wide m P (bodyPostM Fence.wide m P fn R) a w
 | [],e,h,n,σ,a,w,hv,hs,hf=>htail e h n σ a w hv hs hf|cd::pre,e,h,n,σ,a,w,hv,hs,hf=>by
  refine wpIn_seq (wpIn_mono (wpIn_wide.2 (vc_out hfk hc hm cd e h n _ σ a w hv hs hf)) ?_);intro x a' w' hq;cases x with
  | normal=>
   obtain⟨e',h',n',σ',hq,hs',hf'⟩:=hq;exact rg_pre hc hm hdf hfk hfin htail pre e' h' n' σ' a' w' hq hs' hf'
  | ret=>
   obtain⟨e',h',n',σ',hq,hs',hf'⟩:=hq;obtain⟨vs,us,g1,g2,g3⟩:=results_run hs' hq;show LeavesInM Fence.wide m P fn a'.tmps R a'.defers .returning w';rw[hs'.defers,hdf];exact⟨_,g2,hfin σ' h' w' vs us g1 hs'.toSW g3⟩
  | exit id=>obtain⟨e',h',n',σ',hq,hs',_⟩:=hq;exact hq.elim
  | goto l=>obtain⟨e',h',n',σ',hq,hs',_⟩:=hq;exact hq.elim
  | panic ch=>obtain⟨v,_,e',h',n',σ',hq,_⟩:=hq;exact hq.elim
  | outgrown=>obtain⟨e',h',n',σ',hq,hs',_⟩:=hq;exact hq.elim
def nK (N:Env->Hp->List Nat->Prop):Cont:=fun x e h n=>match x with
 | .normal=>N e h n|_=>False
def IterAt (P:Program) (N:Env->Hp->List Nat->Prop) (nt gt gf:Nat) (kn0:List Nat) (xs:List PV):Prop:=
 ∀(c:Ctx) (σ:Sg) (e:Env) (h:Hp) (n:List Nat) (a:Act) (w:World),c.Ok->N e h n->St c nt σ e h a w->
  ∃(lb:Array Value) (us:List Value) (T0:World->Prop),a.eval (.tmp gt)=.func (.func gf) #[] lb/\us.length=xs.length/\(∀(i:Nat) (u:Value) (x:PV),us[i]? = some u->xs[i]? = some x->PRep σ (fz c σ h w) w x u)/\
   SeqB Fence.wide 5 P gf lb (fun u:Value=>#[u]) us T0/\∀W:World,w.heap.size<=W.heap.size->(∀b,b<w.heap.size->(∀k∈kn0,∀n,σ k≠some (some b,n))->W.heap[b]? = w.heap[b]?)->T0 W
structure RgPost (P:Program) (fn:Func) (fk:List Nat) (r15:Code) (res:PV) (fin:Rf) (knP ksP:List Nat) (leP leR:List (Nat×PV)) (HP outR:Rf):Prop where
 post:vc P fn.ntmps knP XF r15 (ofL leP) (hpL HP) knP (wkK knP leR outR)
 keys:HP.map Prod.fst=knP
 nd:ndK HP=true
 sub:∀k∈knP,k∈ksP
 ro:renOk (idR ksP)=true
 rr:RR (idR ksP) HP HP
 mp:(HP.all fun q=>notMp q.2)=true
 nm:namesOk (idR ksP) [] HP outR=true
 rr2:RR (idR ksP) outR outR
 ren:renP (idR ksP) (.tup (leR.map Prod.snd)) (fun z=>z=.tup (leR.map Prod.snd))
 res:resP P (hpL outR) (ofL leR) fn.results.toList fun vs=>tupOf vs fun v=>RetS fk (hpL outR) res fin v
set_option maxHeartbeats 1000000 in
theorem callS_range {fid:FuncId} {fn:Func} {pre:List Code} {r11 r15 assign body:Code} {bid gt p kb gf:Nat} {args:List PV} {res:PV} {rd0 rf0 out0:Rf} (hf:P.funcs[fid]? = some fn) (hn:(fn.name== "runtime.NumGoroutine")=false)
  (hbody:fn.body=some (seqs pre (.seq (.seq r11 (.block bid (.rangeFunc (.tmp gt) #[p] assign body))) (.seq r15 .ret)))) (hm:P.follows .mixedOrders=true) (ha:Nat.ble args.length fn.ntmps=true) (hp:Nat.blt p fn.ntmps=true)
  (fk:List Nat) (hfk:∀k,k∈(rd0++rf0).map Prod.fst->k∈fk) (N:Env->Hp->List Nat->Prop) {xs:List PV} {kn0 kn kn1 ks2:List Nat} (eg:∀args w,(callFunc gf args).run P w=.ok (.enter gf args) w) (hit:IterAt P N fn.ntmps gt gf kn0 xs)
  {rd r0 RF:Rf} {R:Nat->Rf} {le:List (Nat×PV)} {lA:PV->List (Nat×PV)} {bA:PV->HB}
  (hN:∀e h n,N e h n->(∀q∈rd++r0,h q.1=some q.2)/\(∀k∈kn,k∉kn0->kin k n=false)/\(∀q∈le,e q.1=q.2)) (hnm:RgNames kn0 kn kn1 ks2 rd r0 le xs) (hok:∀i,i<=xs.length->RgOk kn kn1 ks2 kb rd r0 (R i) lA bA xs) (hRF:R xs.length=RF)
  {f0:List (Nat×Nat)} (hi0:injOn (fnL f0) (rd++R 0)=true) (hf0:fkOk (fnL f0) kn kn0=true) (hh0:HLes (fnL f0) kn (hpL (rd++r0)) (rd++R 0)) (oka:okIn assign=true) (okb:okIn body=true)
  (hasg:∀(i:Nat) (x:PV),xs[i]? = some x->vc P fn.ntmps kn XF assign (ofL ((p,x)::le)) (hpL (rd++R i)) kn (wkK kn (lA x) (rd++R i++[(kb,bA x)])))
  (hrb:∀(i:Nat) (x:PV),xs[i]? = some x->vc P fn.ntmps kn1 XF body (ofL (lA x)) (hpL (rd++R i++[(kb,bA x)])) kn1 (bodyK kn0 kn kn1 ks2 bid (rd++R i++[(kb,bA x)]) (rd++R (i+1)) (rd++RF)))
  {knP ksP:List Nat} {leP leR:List (Nat×PV)} {HP outR:Rf} (hwP:∀e h n,N e h n->Wk fk e (Dl.app h (deltaOf r0 RF)) leP HP knP) (hP:RgPost P fn fk r15 res (rd0++out0) knP ksP leP leR HP outR)
  (hv:vcPre P fn.ntmps fk XF pre (fun e h n=>vc P fn.ntmps fk XF r11 e h n (nK N)) (fun x e h _=>match x with | .ret=>resP P h e fn.results.toList fun vs=>tupOf vs fun v=>RetS fk h res (rd0++out0) v | _=>False) (argsE args) (hpL (rd0++rf0)) fk) :
  CallS P fid args rd0 rf0 res out0:=by
 refine⟨⟨fn,hf,hn,by rw[hbody];rfl⟩,fun c vs hc hdf hfr hs hargs=>?_⟩;have hst:=st_begin hs hargs (le_of_ble_eq_true ha) hdf;have hcf:∀k,c.σ0 k≠none->k∈fk:=fun k hk=>hfk k (Classical.byContradiction fun q=>hk (hfr k q));have hp':p<fn.ntmps:=by simpa using hp
 refine callsIn_wide.1 (callsIn_of_wp_marks (F:=Fence.wide) (n:=6) hf hbody trivial ?_ rfl);refine rg_pre (fk:=fk) (Fin:=fun h vs=>tupOf vs fun v=>RetS fk h res (rd0++out0) v) hc hm hdf hcf ?fin ?tail pre _ _ fk _ _ _ hv hst (fun k hk=>Classical.byContradiction fun q=>hk (hcf k q))
 case fin=>
  intro σ' h' w' ps us h1 hs' h3;obtain⟨v,h5,h6⟩:=tup_out h1 h3;obtain⟨g,n,q1,q2,q3,q4⟩:=h5;obtain⟨hk,hsw⟩:=sw_wk hcf hs' q1 q2 q4;exact⟨_,_,rfl,hsw,prep_wk hk _ _ _ q3 h6⟩
 case tail=>
  intro e h n σ a w hNN hs hf;refine wpIn_seq (wpIn_seq (wpIn_mono (wpIn_wide.2 (vc_out hcf hc hm r11 e h n _ σ a w hNN hs hf)) ?_));intro x a' w' hq;cases x with
  | normal=>
   obtain⟨e',h',n',σ',hNe,hs',hf'⟩:=hq;have hNe:N e' h' n':=hNe;obtain⟨lb,us,T0,i1,i2,i3,i4,i5⟩:=hit c σ' e' h' n' a' w' hc hNe hs';obtain⟨n1,n2,n3⟩:=hN e' h' n' hNe;refine range_gen hc hm hs' i1 eg hp' n1 (fun k hk hk0=>hf' k fun hm=>by have:=kin_of hm;rw[n2 k hk hk0] at this;cases this) n3 hnm hok hRF i2 i3 i4 i5 hi0 hf0 hh0 oka okb hasg hrb ?done;intro D W σ4 hD hK ev sw fr;obtain⟨d,hd⟩:∃d:Deferred,d={ target:=.collected D,args:=#[] }:=⟨_,rfl⟩;rw[<- hd];have hadf:a'.defers=[]:=hs'.defers.trans hdf;obtain⟨c',hc'⟩:∃c':Ctx,c'={ c with df:=[d],σ0:=c.σ0 }:=⟨_,rfl⟩;have hc'o:c'.Ok:=by rw[hc'];exact ctx_df hc [d] c.σ0
   have hc'f:∀k,c'.σ0 k≠none->k∈fk:=by rw[hc'];exact hcf
   have st0:St c' fn.ntmps σ4 e' (Dl.app h' (deltaOf r0 RF)) { a' with defers:=d::a'.defers } W:=by
    refine⟨by rw[hc'];exact sw_df sw [d] c.σ0 (fun k x hk=>sw.sg0 k x hk),fun t=>?_,by rw[hc',hadf],hs'.nt⟩;rw[hc'];exact PRep.evo ev _ _ (hs'.env t)
   obtain⟨σ5,st5,hσ5⟩:=st_wk hc'f st0 (hwP e' h' n' hNe);obtain⟨E,g1,g2,g3,g4,g5⟩:=rg_core (ks:=ksP) hc'o st5 hσ5 hP.keys hP.nd hP.sub hP.ro hP.rr hP.mp;show (Code.seq r15 .ret).wpIn Fence.wide 6 P _ _ _;refine wpIn_seq (wpIn_mono (wpIn_wide.2 (vc_out g2 g1 hm r15 _ _ knP _ E.σ0 _ W hP.post g4 g3)) ?_);intro x a5 w5 hq;cases x with
   | normal=>
    obtain⟨e5,h5,n5,σ6,⟨n7,wk7⟩,hs5,_⟩:=hq;obtain⟨lets,σ7,st7,_⟩:=g5 _ _ _ _ _ _ _ _ wk7 hP.nm hP.rr2 hP.ren hs5;refine wpIn_ret ?_;show LeavesInM Fence.wide 6 P fn a5.tmps _ a5.defers .returning w5;rw[st7.defers,show c'.df=[d] by rw[hc'],hd];have hK5:w5.heap[D]? = some (.deferred (some [])):=lets.same D _ hK (zero_le _) rfl;have hDn:c'.n0<=D:=by
     have:c.n0<=D:=le_trans hs'.size hD;rw[hc'];exact this
    obtain⟨ev8,sw8⟩:=rg_other (o':=.deferred none) st7.toSW hDn hK5 rfl (fun _ _ e=>by cases e) rfl;have st8:=rg_st st7 ev8 sw8;obtain⟨ps,us8,r1,r2,r3⟩:=results_run st8 hP.res;obtain⟨v,q5,q6⟩:=tup_out r1 r3;obtain⟨gr,nr,t1,t2,t3,t4⟩:=q5;obtain⟨hk9,sw9⟩:=sw_wk hc'f st8.toSW t1 t2 t4;refine⟨by simp,.inl ⟨_,_,rfl,run_takeDeferred hK5,?_⟩⟩;refine⟨_,r2,?_⟩;have sw10:SW c (newSg σ7 (fnL gr) nr) (hpL (rd0++out0)) (w5.putObj D (.deferred none)):=by
     have:=sw_df sw9 c.df c.σ0 (fun k x hk=>sw9.sg0 k x (by rw[hc'];exact hk));rw[hc'] at this;exact this
    have q7:=prep_wk hk9 _ _ _ t3 q6;rw[hc'] at q7;exact⟨_,_,rfl,sw10,q7⟩
   | exit id=>obtain⟨e',h',n',σ',hq,_⟩:=hq;exact hq.elim
   | goto l=>obtain⟨e',h',n',σ',hq,_⟩:=hq;exact hq.elim
   | ret=>obtain⟨e',h',n',σ',hq,_⟩:=hq;exact hq.elim
   | panic ch=>obtain⟨v,_,e',h',n',σ',hq,_⟩:=hq;exact hq.elim
   | outgrown=>obtain⟨e',h',n',σ',hq,_⟩:=hq;exact hq.elim
  | exit id=>obtain⟨e',h',n',σ',hq,_⟩:=hq;exact hq.elim
  | goto l=>obtain⟨e',h',n',σ',hq,_⟩:=hq;exact hq.elim
  | ret=>obtain⟨e',h',n',σ',hq,_⟩:=hq;exact hq.elim
  | panic ch=>obtain⟨v,_,e',h',n',σ',hq,_⟩:=hq;exact hq.elim
  | outgrown=>obtain⟨e',h',n',σ',hq,_⟩:=hq;exact hq.elim
end
theorem CallS.plain {P:Program} {f:FuncId} {args:List PV} {res r:PV} {out:Rf} (h:CallS P f args [] [] res out) (hcl:PV.closeH (hpL out) res fun y=>y=r):Pure P f args r:=by
 refine⟨h.1,fun F w vs hG hF hargs=>?_⟩;obtain⟨c,hcdef⟩:∃c:Ctx,c=⟨w,F,fun _=>False,fun _ _=>False,fun _=>none,[]⟩:=⟨_,rfl⟩;have hn0:c.n0=w.heap.size:=by rw[hcdef]
 have hF0:c.F0=F:=by rw[hcdef]
 have hF1:c.F1=fun _ _=>False:=by rw[hcdef]
 have hσ0:c.σ0=fun _=>none:=by rw[hcdef]
 have hw0:c.w0=w:=by rw[hcdef]
 have hdf:c.df=[]:=by rw[hcdef]
 have hext:∀b,¬c.ext b:=by intro b;rw[hcdef];exact id
 have hc:c.Ok:=⟨fun b o h=>⟨by rw[hn0];exact hF b o (by rw[<- hF0];exact h),hext b⟩,by rw[hw0];exact hG,fun b _=>hext b⟩;have hfz:∀b o,F b o->fz c (fun _=>none) (hpL ([]++[])) w b o:=fun b o h=>.inl ⟨by rw[hn0];exact hF b o h,by rw[hF0];exact h⟩;have hsw:SW c c.σ0 (hpL ([]++[])) c.w0:=by
  refine⟨rfl,rfl,rfl,Nat.le_refl _,fun b _ _=>rfl,(fun k hb hk=>by cases hk),fun k k' g n n' hk=>absurd rfl hk,?_,Shape.refl _,fun k x hk=>hk⟩;rw[hF1];exact⟨fun _ _ h=>h.elim,fun _ _ h=>h.elim⟩
 have:=h.2 c vs hc hdf (fun k _=>by rw[hσ0]) hsw (by rw[hσ0,hw0];exact PsRep.of_none ⟨hfz,fun _ _ _=>rfl⟩ _ _ hargs);rw[hw0] at this;refine this.mono ?_;rintro e w' ⟨v,σ',rfl,hs',hp⟩;rw[nil_append] at hs' hp;have hbel:Below w.heap.size w w':=⟨by rw[hs'.os,hw0],by rw[hs'.tape,hw0],by rw[hs'.output,hw0],by have:=hs'.size;rw[hn0] at this;exact this,fun k hk=>by
  rw[hs'.block k (by rw[hn0];exact hk) (hext k),hw0]⟩
 have hkeep:Keeps (fz c σ' (hpL out) w') (fun b o=>F b o\/(w.heap.size<=b/\b<w'.heap.size)) w' w':=by
  refine⟨fun b o hq=>?_,fun _ _ _=>rfl⟩;rcases hq with ⟨q1,q2⟩ | ⟨q1,q2,_⟩
  ·rw[hF0] at q2;exact .inl q2
  ·rcases q1 with q1 | q1
   ·rw[hn0] at q1;exact .inr ⟨q1,q2⟩
   ·exact absurd q1 (hext b)
 obtain⟨y,rfl,h4⟩:=pcloseH_out hs' hkeep (fun b o hown hlt=>by
  rcases hown with q | q
  ·rw[hn0] at q;exact .inr ⟨q,hlt⟩
  ·exact absurd q (hext b)) hcl
 exact⟨v,rfl,hbel,h4 v hp⟩
end
section
open Go.RowKit K
attribute [local go_sem] Oper.semAt_some
abbrev AL:=Value×List (Value×Value)
def aFlat (ps:List (Value×Value)):List Value:=ps.flatMap fun p=>[p.1,p.2]
def aVal (p:Value×Value):Value:=.agg #[p.1,p.2]
def aAll (ls:List AL):List Value:=ls.flatMap fun l=>l.2.map aVal
theorem aFlat_at (ps:List (Value×Value)) {j:Nat} (hj:j<ps.length):(aFlat ps)[j*2]? = some ps[j].1/\(aFlat ps)[j*2+1]? = some ps[j].2:=by
 induction ps generalizing j with
 | nil=>exact absurd hj (not_lt_zero _)|cons p ps ih=>
  cases j with
  | zero=>exact⟨rfl,rfl⟩|succ j=>
   have hj':j<ps.length:=by simpa using hj
   obtain⟨h1,h2⟩:=ih hj';have e1:(j+1)*2=j*2+2:=by omega
   refine⟨?_,?_⟩
   ·rw[e1];exact h1
   ·rw[e1,show j*2+2+1=(j*2+1)+2 by omega];exact h2
theorem aAll_snoc (ls:List AL) {k:Nat} (hk:k<ls.length):aAll (ls.take (k+1))=aAll (ls.take k)++ls[k].2.map aVal:=by
 unfold aAll;rw[List.take_succ_eq_append_getElem hk,flatMap_append];simp
theorem aAll_cut (ls:List AL) {k:Nat} (hk:k<ls.length):aAll ls=aAll (ls.take k)++(ls[k].2.map aVal++aAll (ls.drop (k+1))):=by
 unfold aAll;conv=>lhs;rw[<- take_append_drop k ls,List.drop_eq_getElem_cons hk]
 rw[flatMap_append,flatMap_cons]
theorem aAll_at (ls:List AL) {k j:Nat} (hk:k<ls.length) (hj:j<ls[k].2.length):(aAll ls)[(aAll (ls.take k)++(ls[k].2.take j).map aVal).length]? = some (aVal ls[k].2[j]):=by
 rw[aAll_cut ls hk,length_append,List.getElem?_append_right (by omega),length_map,length_take,min_eq_left (by omega),Nat.add_sub_cancel_left,List.getElem?_append_left (by simpa using hj)];simp[hj]
theorem aMap_snoc (l:List (Value×Value)) {j:Nat} (hj:j<l.length):(l.take (j+1)).map aVal=(l.take j).map aVal++[aVal l[j]]:=by
 rw[List.take_succ_eq_append_getElem hj,map_append];rfl
def TAll (k1 la ca:Nat) (a:Option Addr) (ls:List AL) (W:World):Prop:=
 Seen W (.slice a la ca) la 1 (ls.map Prod.fst)/\W.cell? ⟨k1,0,none⟩=some (.slice a la ca)/\∀l∈ls,Seen W l.1 l.2.length 2 (aFlat l.2)
set_option maxRecDepth 100000 in
set_option maxHeartbeats 1000000 in
theorem all_any (n:Nat) (k1 la ca:Nat) (a:Option Addr) (ls:List AL) (hone:∀l∈ls,∀p∈l.2,p.1.oneCell'=true/\p.2.oneCell'=true) :
  SeqB Fence.wide n Try.prog 69 #[.pointer (some ⟨k1,0,none⟩)] (fun u:Value=>#[u]) (aAll ls) (TAll k1 la ca a ls):=by
 intro l J Jx W hT hB hY h0;refine callsIn_of_wp Try.func69 rfl trivial ?_ rfl;simp only[Try.ntmps69,size_toArray,length_cons,length_nil,Nat.reduceAdd,Nat.reduceSub,Array.replicate_succ,Array.replicate_zero,List.push_toArray,append_toArray,nil_append,cons_append];obtain⟨hA,hc1,hI⟩:=hT _ _ h0;obtain⟨ha0,a',ca',ha1,ha2,ha3,_,ha4⟩:=hA;unfold maxLen at ha3;simp only[Value.slice.injEq,true_and] at ha1;obtain⟨rfl,rfl⟩:=ha1;have hal:ls.length=la:=by rw[length_map] at ha0;omega
 clear ha4
 gi_wp2
 gi_loopw [6,10] (fun _ i wr=>∃k:Nat,k<=la/\i=.int .i64 (k:Int)/\J (aAll (ls.take k)) wr) (fun _ i _=>la - (intOf i).toNat)
 case atStart=>exact⟨0,by omega,rfl,h0⟩
 case round=>
  obtain⟨k,hk,rfl,hj⟩:=hrel;obtain⟨hA,hc1,hI⟩:=hT _ _ hj;by_cases h:k<la
  ·obtain⟨_,a',ca',ha1,_,_,_,ha4⟩:=hA;simp only[Value.slice.injEq,true_and] at ha1;obtain⟨rfl,rfl⟩:=ha1;obtain⟨ba,oa,rfl,hba,hcl⟩:=ha4.resolve_left (by omega);have hx:=hcl k ls[k].1 (by simp[hal,h]);have hin:=hI ls[k] (List.getElem_mem _);obtain⟨_,ai,ci,hi1,hi2,hi3,_,_⟩:=hin;unfold maxLen at hi3;rw[hi1] at hx
   gi_wp2
   gi_loopw [6,16] (fun _ i wr=>∃j:Nat,j<=ls[k].2.length/\i=.int .i64 (j:Int)/\J (aAll (ls.take k)++(ls[k].2.take j).map aVal) wr) (fun _ i _=>ls[k].2.length - (intOf i).toNat)
   case atStart=>exact⟨0,by omega,rfl,by simpa using hj⟩
   case round=>
    obtain⟨j,hjl,rfl,hj2⟩:=hrel;obtain⟨hA,hc1,hI⟩:=hT _ _ hj2;have hin:=hI ls[k] (List.getElem_mem _);by_cases h2:j<ls[k].2.length
    ·obtain⟨_,ai',ci',hi1',_,_,_,hi4⟩:=hin;rw[hi1] at hi1';simp only[Value.slice.injEq,true_and] at hi1';obtain⟨rfl,rfl⟩:=hi1';obtain⟨bb,ob,rfl,hbb,hcl2⟩:=hi4.resolve_left (by omega);obtain⟨e1,e2⟩:=aFlat_at ls[k].2 (j:=j) (by omega);have hy1:=hcl2 _ _ e1;have hy2:=hcl2 _ _ e2;rw[<- add_assoc] at hy2;obtain⟨o1,o2⟩:=hone ls[k] (List.getElem_mem _) (ls[k].2[j]'(by omega)) (List.getElem_mem _);have s1:∀(W:World) (a:Addr),Sem.run Try.prog (store a (ls[k].2[j]'(by omega)).1) W=_:=fun W a=>run_store Try.prog W a _ _ o1;have s2:∀(W:World) (a:Addr),Sem.run Try.prog (store a (ls[k].2[j]'(by omega)).2) W=_:=fun W a=>run_store Try.prog W a _ _ o2;have j3:=hB _ _ _ hj2 ((Below.refl _ wr).alloc (Nat.le_refl _) (.cells #[(ls[k].2[j]'(by omega)).1,(ls[k].2[j]'(by omega)).2] 41));obtain⟨fn,tmps,assign,body,hyl,hR⟩:=hY _ _ _ j3 (aAll_at ls (by omega) (by omega));unfold aVal at hyl
     gi_wp2
     refine⟨(fun h=>by cases h),hR.mono ?_⟩;rintro e W3 (⟨rfl,hJ3⟩ | ⟨rfl,hJx3⟩)
     ·gi_wp2
      go_roundw
      case rel=>exact⟨j+1,by omega,by go_num,by rw[aMap_snoc _ (by omega),<- append_assoc];exact hJ3⟩
      case measure=>simp[intOf];omega
     ·gi_wp2
      refine bodyPost_ret (results_none rfl _ _ _) rfl ?_;refine⟨⟨_,rfl⟩,.inr ⟨_,?_,hJx3⟩⟩;have e3:(ls[k].2.take j).map aVal++[aVal (ls[k].2[j]'(by omega))]=(ls[k].2.take (j+1)).map aVal:=(aMap_snoc _ (by omega)).symm;rw[append_assoc,e3,aAll_cut ls (k:=k) (by omega)];refine List.prefix_append_right_inj _ |>.2 ?_;refine List.IsPrefix.trans ?_ (List.prefix_append _ _);exact List.IsPrefix.map _ (List.take_prefix _ _)
    ·have hjm:j=ls[k].2.length:=by omega
     gi_wp2
     go_roundw
     case rel=>exact⟨k+1,by omega,by go_num,by rw[aAll_snoc ls (by omega)];rw[take_of_length_le (le_of_eq hjm.symm)] at hj2;exact hj2⟩
     case measure=>simp[intOf];omega
  ·obtain rfl:k=la:=by omega
   gi_wp2
   go_end0
   rw[take_of_length_le (by omega)] at hj;exact⟨⟨_,rfl⟩,.inl hj⟩
end
section
open Go.RowKit K
theorem hpL_out {l:Rf} {k:Nat} (h:∀b,(k,b)∉l):hpL l k=none:=by
 induction l with
 | nil=>rfl|cons p l ih=>
  obtain⟨q,c⟩:=p;unfold hpL;have:Nat.beq k q=false:=by
   rw[Bool.eq_false_iff];intro e;have e:=eq_of_beq_eq_true e;subst e;exact h c mem_cons_self
  rw[this];exact ih fun b hb=>h b (mem_cons_of_mem _ hb)
theorem hpL_left {a b:Rf} {k:Nat} {x:HB} (h:hpL a k=some x):hpL (a++b) k=some x:=by
 induction a with
 | nil=>cases h
 | cons p l ih=>
  obtain⟨q,c⟩:=p;rw[cons_append];unfold hpL at h ⊢;cases hb:Nat.beq k q with
  | true=>rw[hb] at h;exact h|false=>rw[hb] at h;exact ih h
theorem hpL_right {a b:Rf} {k:Nat} (h:hpL a k=none):hpL (a++b) k=hpL b k:=by
 induction a with
 | nil=>rfl|cons p l ih=>
  obtain⟨q,c⟩:=p;rw[cons_append];unfold hpL at h;cases hb:Nat.beq k q with
  | true=>rw[hb] at h;cases h
  | false=>
   rw[hb] at h;conv=>lhs;unfold hpL
   rw[hb];exact ih h
theorem hles_of {f:Nat->Option Nat} {n:List Nat} {h:Hp}:∀{lh:Rf},(∀p∈lh,kin p.1 n=true/\KLe f n h p.1 p.2)->HLes f n h lh
 | [],_=>by unfold HLes;trivial
 | (k,b)::l,hp=>by
  unfold HLes;exact⟨hp (k,b) mem_cons_self,hles_of fun p hm=>hp p (mem_cons_of_mem _ hm)⟩
theorem injOn_of {f:Nat->Option Nat}:∀{lh:Rf},(∀p∈lh,∀q∈lh,q.1≠p.1->∀a,f p.1=some a->f q.1≠some a)->injOn f lh=true
 | [],_=>rfl|(k,b)::l,hp=>by
  unfold injOn;rw[Bool.and_eq_true];refine⟨?_,injOn_of fun p h1 q h2=>hp p (mem_cons_of_mem _ h1) q (mem_cons_of_mem _ h2)⟩;rw[all_eq_true];intro q hq;by_cases e:q.1=k
  ·rw[e,show Nat.beq k k=true from beq_refl k];rfl
  ·have h1:=hp (k,b) mem_cons_self q (mem_cons_of_mem _ hq) e;rw[Bool.or_eq_true];right;cases hk:f k with
   | none=>rfl|some a=>
    cases hq2:f q.1 with
    | none=>rfl|some c=>
     have:a≠c:=fun e=>h1 a hk (by rw[hq2,e]);simp only[Bool.not_eq_true'];rw[Bool.eq_false_iff];intro e;exact this (eq_of_beq_eq_true e)
theorem kin_iff {k:Nat}:∀{n:List Nat},kin k n=true↔k∈n
 | []=>by simp[kin]
 | x::xs=>by
  unfold kin;by_cases h:k=x
  ·subst h;rw[show Nat.beq k k=true from beq_refl k];simp
  ·have:Nat.beq k x=false:=by rw[Bool.eq_false_iff];intro e;exact h (eq_of_beq_eq_true e)
   rw[this];show kin k xs=true↔_;rw[kin_iff,mem_cons];exact⟨.inr,fun q=>q.elim (fun e=>absurd e h) id⟩
theorem fnL_in {l:List (Nat×Nat)} {k b:Nat} (hm:(k,b)∈l) (hu:∀b',(k,b')∈l->b'=b):fnL l k=some b:=by
 induction l with
 | nil=>cases hm
 | cons p l ih=>
  obtain⟨q,c⟩:=p;unfold fnL;by_cases h:k=q
  ·subst h;rw[show Nat.beq k k=true from beq_refl k];exact congrArg some (hu c mem_cons_self)
  ·have:Nat.beq k q=false:=by rw[Bool.eq_false_iff];intro e;exact h (eq_of_beq_eq_true e)
   rw[this];rcases mem_cons.1 hm with e | hm
   ·cases e;exact absurd rfl h
   ·exact ih hm fun b' hb=>hu b' (mem_cons_of_mem _ hb)
end
section
open Go.RowKit K
namespace Tr
theorem nbeq {a b:Nat} (h:a≠b):Nat.beq a b=false:=by rw[Bool.eq_false_iff];intro e;exact h (eq_of_beq_eq_true e)
abbrev mR (F:Nat->Nat) (ks:List Nat):List (Nat×Nat):=ks.map fun k=>(k,F k)
theorem mR_in {F:Nat->Nat} {ks:List Nat} {k:Nat} (h:k∈ks):fnL (mR F ks) k=some (F k):=
 fnL_in (mem_map.2 ⟨k,h,rfl⟩) fun b' hb=>by
  obtain⟨x,_,e⟩:=mem_map.1 hb;cases e;rfl
theorem mR_some {F:Nat->Nat} {ks:List Nat} {k a:Nat} (h:fnL (mR F ks) k=some a):k∈ks/\a=F k:=by
 induction ks with
 | nil=>cases h
 | cons x xs ih=>
  change (bif Nat.beq k x then some (F x) else fnL (mR F xs) k)=some a at h;by_cases e:k=x
  ·subst e;rw[show Nat.beq k k=true from beq_refl k] at h;exact⟨mem_cons_self,(Option.some.inj h).symm⟩
  ·rw[nbeq e] at h;obtain⟨h1,h2⟩:=ih h;exact⟨mem_cons_of_mem _ h1,h2⟩
theorem rfIn_of {h:Hp}:∀{r:Rf},(∀q∈r,h q.1=some q.2)->rfIn h r
 | [],_=>by unfold rfIn;trivial
 | (k,b)::r,hq=>by
  unfold rfIn;exact⟨hq (k,b) mem_cons_self,rfIn_of fun q hm=>hq q (mem_cons_of_mem _ hm)⟩
theorem renOk_of:∀{ρ:Ren},ρ.Pairwise (fun a p=>p.1≠a.1/\p.2≠a.2)->renOk ρ=true
 | [],_=>rfl|(a,b)::r,h=>by
  obtain⟨h1,h2⟩:=pairwise_cons.1 h;unfold renOk;rw[Bool.and_eq_true,all_eq_true];refine⟨fun p hp=>?_,renOk_of h2⟩;obtain⟨g1,g2⟩:=h1 p hp;rw[nbeq g1,nbeq g2];rfl
theorem ndK_of:∀{r:Rf},(r.map Prod.fst).Nodup->ndK r=true
 | [],_=>rfl|(k,b)::r,h=>by
  rw[map_cons] at h;obtain⟨h1,h2⟩:=nodup_cons.1 h;unfold ndK;rw[Bool.and_eq_true,all_eq_true];refine⟨fun p hp=>?_,ndK_of h2⟩;rw[nbeq fun e=>h1 (by rw[<- e];exact mem_map.2 ⟨p,hp,rfl⟩)];rfl
theorem rfHas_of {k:Nat}:∀{r:Rf},k∈r.map Prod.fst->rfHas k r=true
 | (q,b)::r,h=>by
  unfold rfHas;by_cases e:q=k
  ·subst e;rw[show Nat.beq q q=true from beq_refl q];rfl
  ·rw[nbeq e];rcases mem_cons.1 h with h | h
   ·exact absurd h.symm e
   ·exact rfHas_of h
theorem nodup_pair {g:Nat->Nat}:∀{l:List Nat},l.Nodup->(∀a∈l,∀b∈l,g a=g b->a=b)->(l.map fun k=>(k,g k)).Pairwise (fun a p=>p.1≠a.1/\p.2≠a.2)
 | [],_,_=>List.Pairwise.nil|x::l,h,hg=>by
  obtain⟨h1,h2⟩:=nodup_cons.1 h;rw[map_cons];refine pairwise_cons.2 ⟨fun p hp=>?_,nodup_pair h2 fun a ha b hb=>hg a (mem_cons_of_mem _ ha) b (mem_cons_of_mem _ hb)⟩;obtain⟨k,hk,rfl⟩:=mem_map.1 hp;refine⟨fun e=>h1 (by rw[<- show k=x from e];exact hk),fun e=>?_⟩;have:=hg k (mem_cons_of_mem _ hk) x mem_cons_self e;exact h1 (by rw[<- this];exact hk)
theorem kle_of {f:Nat->Option Nat} {n:List Nat} {h:Hp} {k k':Nat} {b b':HB} (h1:f k=some k') (h2:h k'=some b') (h3:HLe f n b b'):KLe f n h k b:=by
 unfold KLe;rw[h1];show (match h k' with | some b'=>HLe f n b b' | none=>False);rw[h2];exact h3
theorem app_at {h:Hp} {δ:Dl} {k:Nat} (hk:k∉Dl.keys δ):Dl.app h δ k=h k:=by
 induction δ generalizing h with
 | nil=>rfl|cons p δ ih=>
  obtain⟨q,c⟩:=p;show Dl.app (upd h q c) δ k=h k;have h1:k≠q:=fun e=>hk (by rw[e];exact mem_cons_self);rw[ih fun hm=>hk (mem_cons_of_mem _ hm),upd_ne _ _ h1]
theorem newP_of {rf:Rf} {ks:List Nat} {A:Prop}:∀{δ:Dl},(∀p∈δ,rfHas p.1 rf=true\/ksHas p.1 ks=false)->A->newP rf ks δ A
 | [],_,h=>h|(k,b)::δ,hk,h=>by
  have ih:=newP_of (rf:=rf) (fun p hp=>hk p (mem_cons_of_mem _ hp)) h;unfold newP;cases hr:rfHas k rf with
  | true=>exact ih|false=>
   rcases hk (k,b) mem_cons_self with h1 | h1
   ·have h1:rfHas k rf=true:=h1;rw[hr] at h1;cases h1
   ·show (match ksHas k ks with | true=>False | false=>newP rf ks δ A);have h1:ksHas k ks=false:=h1;rw[h1];exact ih
theorem addKs_of {K:List Nat->Prop} (hK:∀ks,K ks):∀{δ:Dl} {ks:List Nat},addKs δ ks K
 | [],ks=>hK ks|(k,b)::δ,ks=>addKs_of hK (δ:=δ)
def on (p:Nat->Prop):D->Prop
 | .c _=>True|.emp=>True|.app k _ _ _=>p k|.ptr k _=>p k|.arr k _ _ _ _=>p k|.elt k _ _ _=>p k|.cut k _ _ _ _ _=>p k|_=>False
def mp (F:Nat->Nat):D->D
 | .app k e s l=>.app (F k) e s l|.ptr k o=>.ptr (F k) o|.arr k e s lo n=>.arr (F k) e s lo n|.elt k s i o=>.elt (F k) s i o|.cut k e s lo n c=>.cut (F k) e s lo n c|x=>x
def hon (p:Nat->Prop):HB->Prop
 | .box _ l=>∀x∈l,on p x|.darr _ _ rows=>∀r∈rows,∀x∈r,on p x|_=>True
def hmp (F:Nat->Nat):HB->HB
 | .box t l=>.box t (l.map (mp F))|.darr e s rows=>.darr e s (rows.map (List.map (mp F)))|x=>x
def pon (p:Nat->Prop):PV->Prop
 | .d x=>on p x|.agg l=>∀x∈l,on p x|.tup []=>True|_=>False
def pmp (F:Nat->Nat):PV->PV
 | .d x=>.d (mp F x)|.agg l=>.agg (l.map (mp F))|x=>x
abbrev qmp (F:Nat->Nat) (q:Nat×HB):Nat×HB:=(F q.1,hmp F q.2)
theorem on_imp {p q:Nat->Prop} (h:∀k,p k->q k):∀{x:D},on p x->on q x
 | .c _,_=>trivial|.emp,_=>trivial|.app _ _ _ _,hx=>h _ hx|.ptr _ _,hx=>h _ hx|.arr _ _ _ _ _,hx=>h _ hx|.elt _ _ _ _,hx=>h _ hx|.cut _ _ _ _ _ _,hx=>h _ hx|.clo _ _ _,hx=>hx.elim|.mclo _ _,hx=>hx.elim|.optp _ _,hx=>hx.elim|.data _ _ _,hx=>hx.elim|.mp _,hx=>hx.elim
theorem hon_imp {p q:Nat->Prop} (h:∀k,p k->q k):∀{b:HB},hon p b->hon q b
 | .box _ _,hb=>fun x hx=>on_imp h (hb x hx)
 | .darr _ _ _,hb=>fun r hr x hx=>on_imp h (hb r hr x hx)
 | .tail _ _,_=>trivial|.arr _ _ _,_=>trivial|.mp _,_=>trivial
theorem mp_same {p:Nat->Prop} {F:Nat->Nat} (h:∀k,p k->F k=k):∀{x:D},on p x->mp F x=x
 | .c _,_=>rfl|.emp,_=>rfl|.app k e s l,hx=>congrArg (fun a=>D.app a e s l) (h k hx)|.ptr k o,hx=>congrArg (fun a=>D.ptr a o) (h k hx)|.arr k e s lo n,hx=>congrArg (fun a=>D.arr a e s lo n) (h k hx)|.elt k s i o,hx=>congrArg (fun a=>D.elt a s i o) (h k hx)|.cut k e s lo n c,hx=>congrArg (fun a=>D.cut a e s lo n c) (h k hx)|.clo _ _ _,hx=>hx.elim|.mclo _ _,hx=>hx.elim|.optp _ _,hx=>hx.elim|.data _ _ _,hx=>hx.elim|.mp _,hx=>hx.elim
theorem hmp_same {p:Nat->Prop} {F:Nat->Nat} (h:∀k,p k->F k=k):∀{b:HB},hon p b->hmp F b=b
 | .box t l,hb=>by
  have e:l.map (mp F)=l.map id:=map_congr_left fun x hx=>mp_same h (hb x hx);show HB.box t (l.map (mp F))=_;rw[e,map_id]
 | .darr e s rows,hb=>by
  have e1:rows.map (List.map (mp F))=rows.map id:=map_congr_left fun r hr=>by
   have e:r.map (mp F)=r.map id:=map_congr_left fun x hx=>mp_same h (hb r hr x hx);rw[e,map_id];rfl
  show HB.darr e s (rows.map (List.map (mp F)))=_;rw[e1,map_id]
 | .tail _ _,_=>rfl|.arr _ _ _,_=>rfl|.mp _,_=>rfl
section
variable {ρ:Ren} {F:Nat->Nat}
theorem renD_mp:∀{x:D} {K:D->Prop},on (fun k=>fnL ρ k=some (F k)) x->K (mp F x)->renD ρ x K
 | .c _,_,_,hK=>hK|.emp,_,_,hK=>hK|.app k _ _ _,_,h,hK=>by
  unfold renD;have h:fnL ρ k=some (F k):=h;rw[h];exact hK
 | .ptr k _,_,h,hK=>by
  unfold renD;have h:fnL ρ k=some (F k):=h;rw[h];exact hK
 | .arr k _ _ _ _,_,h,hK=>by
  unfold renD;have h:fnL ρ k=some (F k):=h;rw[h];exact hK
 | .elt k _ _ _,_,h,hK=>by
  unfold renD;have h:fnL ρ k=some (F k):=h;rw[h];exact hK
 | .cut k _ _ _ _ _,_,h,hK=>by
  unfold renD;have h:fnL ρ k=some (F k):=h;rw[h];exact hK
 | .clo _ _ _,_,h,_=>h.elim|.mclo _ _,_,h,_=>h.elim|.optp _ _,_,h,_=>h.elim|.data _ _ _,_,h,_=>h.elim|.mp _,_,h,_=>h.elim
theorem renDs_mp:∀{l:List D} {K:List D->Prop},(∀x∈l,on (fun k=>fnL ρ k=some (F k)) x)->K (l.map (mp F))->renDs ρ l K
 | [],_,_,hK=>hK|x::l,K,h,hK=>by
  unfold renDs;exact renD_mp (h x mem_cons_self) (renDs_mp (fun y hy=>h y (mem_cons_of_mem _ hy)) hK)
theorem renRows_mp:∀{l:List (List D)} {K:List (List D)->Prop},(∀r∈l,∀x∈r,on (fun k=>fnL ρ k=some (F k)) x)->K (l.map (List.map (mp F)))->renRows ρ l K
 | [],_,_,hK=>hK|r::l,K,h,hK=>by
  unfold renRows;exact renDs_mp (h r mem_cons_self) (renRows_mp (fun y hy=>h y (mem_cons_of_mem _ hy)) hK)
theorem renHB_mp:∀{b:HB} {K:HB->Prop},hon (fun k=>fnL ρ k=some (F k)) b->K (hmp F b)->renHB ρ b K
 | .box _ _,_,h,hK=>by unfold renHB;exact renDs_mp h hK
 | .darr _ _ _,_,h,hK=>by unfold renHB;exact renRows_mp h hK
 | .tail _ _,_,_,hK=>hK|.arr _ _ _,_,_,hK=>hK|.mp _,_,_,hK=>hK
theorem renRf_mp:∀{r:Rf} {K:Rf->Prop},(∀q∈r,fnL ρ q.1=some (F q.1)/\hon (fun k=>fnL ρ k=some (F k)) q.2)->K (r.map (qmp F))->renRf ρ r K
 | [],_,_,hK=>hK|(k,b)::r,K,h,hK=>by
  have h0:=h (k,b) mem_cons_self;have h1:fnL ρ k=some (F k):=h0.1;unfold renRf;rw[h1];exact renHB_mp h0.2 (renRf_mp (fun y hy=>h y (mem_cons_of_mem _ hy)) hK)
theorem renP_mp:∀{x:PV} {K:PV->Prop},pon (fun k=>fnL ρ k=some (F k)) x->K (pmp F x)->renP ρ x K
 | .d _,_,h,hK=>by unfold renP;exact renD_mp h hK
 | .agg _,_,h,hK=>by unfold renP;exact renDs_mp h hK
 | .tup [],_,_,hK=>by unfold renP renPs;exact hK
 | .tup (_::_),_,h,_=>h.elim|.any,_,h,_=>h.elim
theorem renPs_mp:∀{l:List PV} {K:List PV->Prop},(∀x∈l,pon (fun k=>fnL ρ k=some (F k)) x)->K (l.map (pmp F))->renPs ρ l K
 | [],_,_,hK=>by unfold renPs;exact hK
 | x::l,K,h,hK=>by
  unfold renPs;exact renP_mp (h x mem_cons_self) (renPs_mp (fun y hy=>h y (mem_cons_of_mem _ hy)) hK)
end
theorem pon_imp {p q:Nat->Prop} (h:∀k,p k->q k):∀{x:PV},pon p x->pon q x
 | .d _,hx=>on_imp h hx|.agg _,hx=>fun y hy=>on_imp h (hx y hy)
 | .tup [],_=>trivial|.tup (_::_),hx=>hx.elim|.any,hx=>hx.elim
theorem call_mp {P:Program} {f:FuncId} {args args0:List PV} {h:Hp} {K:OpK} {X:Value->Hp->Prop} {rd rf out:Rf} {res:PV} (F:Nat->Nat) (hs:CallS P f args0 rd rf res out)
  (hd1:((rd++rf).map Prod.fst).Nodup) (hd2:((rd++out).map Prod.fst).Nodup) (ks:List Nat) (hks:∀k,k∈ks↔k∈(rd++(rf++out)).map Prod.fst)
  (hinj:∀a∈ks,∀b∈ks,F a=F b->a=b)
  (hon:∀q∈rd++(rf++out),hon (·∈ks) q.2) (hao:∀x∈args0,pon (·∈ks) x) (hro:pon (·∈ks) res)
  (ha:args0.map (pmp F)=args) (hh:∀q∈rd++rf,h (F q.1)=some (hmp F q.2))
  (hk:K (pmp F res) (deltaOf (rf.map (qmp F)) (out.map (qmp F))) (rd.map (qmp F)++rf.map (qmp F))):CallP P f args h K X:=by
 obtain⟨xs,hxs⟩:∃xs,xs=(rd++rf).map Prod.fst++(out.map Prod.fst).filter (fun k=>decide (k∉(rd++rf).map Prod.fst)):=⟨_,rfl⟩;have hmem:∀k,k∈xs↔k∈ks:=by
  intro k;rw[hks,hxs,mem_append,mem_filter,<- append_assoc,map_append (l₁:=rd++rf),mem_append];constructor
  ·rintro (h | h)
   ·exact .inl h
   ·exact .inr h.1
  ·rintro (h | h)
   ·exact .inl h
   ·by_cases q:k∈(rd++rf).map Prod.fst
    ·exact .inl q
    ·exact .inr ⟨h,decide_eq_true q⟩
 have hnd:xs.Nodup:=by
  rw[hxs];refine nodup_append.2 ⟨hd1,List.Pairwise.filter _ ?_,fun a h1 b h2 e=>?_⟩
  ·rw[map_append] at hd2;exact (nodup_append.1 hd2).2.1
  ·subst e;have:=(mem_filter.1 h2).2;exact absurd h1 (of_decide_eq_true this)
 have hfn:∀k,k∈ks->fnL (mR F xs) k=some (F k):=fun k hk=>mR_in ((hmem k).2 hk);have hkr:∀q∈rd++(rf++out),q.1∈ks:=fun q hq=>(hks _).2 (mem_map.2 ⟨q,hq,rfl⟩);have hr:∀r:Rf,(∀q∈r,q∈rd++(rf++out))->∀q∈r,fnL (mR F xs) q.1=some (F q.1)/\Tr.hon (fun k=>fnL (mR F xs) k=some (F k)) q.2:=fun r hr q hq=>⟨hfn _ (hkr q (hr q hq)),hon_imp hfn (hon q (hr q hq))⟩;refine CallP.ret (mR F xs) args0 rd rf res out (rd.map (qmp F)) (rf.map (qmp F)) hs ?_ ?_ ?_ ?_ ?_ ?_
 ·unfold namesOk;rw[renOk_of (nodup_pair hnd fun a ha b hb=>hinj a ((hmem a).1 ha) b ((hmem b).1 hb)),ndK_of hd1,ndK_of hd2,Bool.true_and,Bool.true_and,Bool.true_and,all_eq_true];intro p hp;obtain⟨k,hk,rfl⟩:=mem_map.1 hp;exact rfHas_of ((hks k).1 ((hmem k).1 hk))
 ·exact renPs_mp (fun x hx=>pon_imp hfn (hao x hx)) ha
 ·exact renRf_mp (hr rd fun q hq=>mem_append_left _ hq) rfl
 ·exact renRf_mp (hr rf fun q hq=>mem_append_right _ (mem_append_left _ hq)) rfl
 ·refine rfIn_of fun q hq=>?_;rw[<- map_append] at hq;obtain⟨p,hp,rfl⟩:=mem_map.1 hq;exact hh p hp
 ·exact renRf_mp (hr out fun q hq=>mem_append_right _ (mem_append_right _ hq)) (renP_mp (pon_imp hfn hro) hk)
section
variable {f:Nat->Option Nat} {n:List Nat} {F:Nat->Nat}
theorem dle_mp:∀{x:D},on (fun k=>kin k n=true/\f k=some (F k)) x->DLe f n x (mp F x)
 | .c _,_=>.inl rfl|.emp,_=>trivial|.app _ _ _ _,h=>⟨h.1,h.2,rfl,rfl,rfl⟩|.ptr _ _,h=>⟨h.1,h.2,rfl⟩|.arr _ _ _ _ _,h=>⟨h.1,h.2,rfl,rfl,rfl,rfl⟩|.elt _ _ _ _,h=>⟨h.1,h.2,rfl,rfl,rfl⟩|.cut _ _ _ _ _ _,h=>⟨h.1,h.2,rfl,rfl,rfl,rfl,rfl⟩|.clo _ _ _,h=>h.elim|.mclo _ _,h=>h.elim|.optp _ _,h=>h.elim|.data _ _ _,h=>h.elim|.mp _,h=>h.elim
theorem dles_mp:∀{l:List D},(∀x∈l,on (fun k=>kin k n=true/\f k=some (F k)) x)->DLes f n l (l.map (mp F))
 | [],_=>by unfold DLes;rfl
 | x::l,h=>by
  rw[map_cons];unfold DLes;exact⟨dle_mp (h x mem_cons_self),dles_mp fun y hy=>h y (mem_cons_of_mem _ hy)⟩
theorem dless_mp:∀{l:List (List D)},(∀r∈l,∀x∈r,on (fun k=>kin k n=true/\f k=some (F k)) x)->DLess f n l (l.map (List.map (mp F)))
 | [],_=>by unfold DLess;rfl
 | x::l,h=>by
  rw[map_cons];unfold DLess;exact⟨dles_mp (h x mem_cons_self),dless_mp fun y hy=>h y (mem_cons_of_mem _ hy)⟩
theorem hle_mp:∀{b:HB},hon (fun k=>kin k n=true/\f k=some (F k)) b->HLe f n b (hmp F b)
 | .box _ _,h=>⟨rfl,dles_mp h⟩|.darr _ _ _,h=>⟨rfl,rfl,dless_mp h⟩|.tail _ _,_=>⟨rfl,rfl⟩|.arr _ _ _,_=>⟨rfl,rfl,rfl⟩|.mp _,_=>rfl
end
theorem hles_mp {fk ks:List Nat} {F:Nat->Nat} {h:Hp} {lh:Rf} (hq:∀q∈lh,q.1∈ks/\∃b',h (F q.1)=some b'/\HLe (fnL (mR F ks)) ks q.2 b'):HLes (fnL (mR F ks)) ks h lh:=hles_of fun q hm=>by
 obtain⟨h1,b',h2,h3⟩:=hq q hm;exact⟨kin_iff.2 h1,kle_of (mR_in h1) h2 h3⟩
theorem fkOk_mp {fk ks:List Nat} {F:Nat->Nat} (h:∀k∈fk,k∈ks/\F k=k):fkOk (fnL (mR F ks)) ks fk=true:=by
 induction fk with
 | nil=>rfl|cons k fk ih=>
  obtain⟨h1,h2⟩:=h k mem_cons_self;unfold fkOk;rw[mR_in h1,kin_iff.2 h1,ih fun x hx=>h x (mem_cons_of_mem _ hx),h2];show (Nat.beq k k&&_)=true;rw[beq_refl];rfl
theorem inj_mp {ks:List Nat} {F:Nat->Nat} {lh:Rf} (hinj:∀a∈lh.map Prod.fst,∀b∈lh.map Prod.fst,F a=F b->a=b):injOn (fnL (mR F ks)) lh=true:=
 injOn_of fun p hp q hq hne a e1 e2=>hne (hinj _ (mem_map.2 ⟨q,hq,rfl⟩) _ (mem_map.2 ⟨p,hp,rfl⟩) (by rw[<- (mR_some e1).2,<- (mR_some e2).2]))
theorem hle_on {ks:List Nat} {F:Nat->Nat} {b:HB} (h:hon (·∈ks) b):HLe (fnL (mR F ks)) ks b (hmp F b):=hle_mp (hon_imp (fun k hk=>⟨kin_iff.2 hk,mR_in hk⟩) h)
theorem wk_mp {fk ks:List Nat} (F:Nat->Nat) {e:Env} {h:Hp} {le:List (Nat×PV)} {lh:Rf} (hfk:∀k∈fk,k∈ks/\F k=k) (hinj:∀a∈lh.map Prod.fst,∀b∈lh.map Prod.fst,F a=F b->a=b)
  (hh:∀q∈lh,q.1∈ks/\∃b',h (F q.1)=some b'/\HLe (fnL (mR F ks)) ks q.2 b') (he:PLes (fnL (mR F ks)) ks e le):Wk fk e h le lh ks:=
 Wk.mk _ (inj_mp hinj) (fkOk_mp hfk) he (hles_mp (fk:=fk) hh)
theorem ret_mp {fk:List Nat} (ks:List Nat) (F:Nat->Nat) {h:Hp} {res v:PV} {fin:Rf} (hfk:∀k∈fk,k∈ks/\F k=k) (hinj:∀a∈fin.map Prod.fst,∀b∈fin.map Prod.fst,F a=F b->a=b)
  (hh:∀q∈fin,q.1∈ks/\∃b',h (F q.1)=some b'/\HLe (fnL (mR F ks)) ks q.2 b') (hr:PLe (fnL (mR F ks)) ks res v):RetS fk h res fin v:=
 RetS.mk _ ks (inj_mp hinj) (fkOk_mp hfk) hr (hles_mp (fk:=fk) hh)
theorem hpL_none {l:Rf} {k:Nat} (h:k∉l.map Prod.fst):hpL l k=none:=hpL_out fun b hb=>h (mem_map.2 ⟨_,hb,rfl⟩)
theorem hpL_key {l:Rf} {k:Nat} {b:HB} (h:hpL l k=some b):k∈l.map Prod.fst:=Classical.byContradiction fun hn=>by
 rw[hpL_none hn] at h;cases h
theorem hpL_swap {a b:Rf} (h:∀k,k∈a.map Prod.fst->k∉b.map Prod.fst):hpL (a++b)=hpL (b++a):=by
 funext k
 cases ha:hpL a k with
 | some x=>rw[hpL_left ha,hpL_right (hpL_none (h k (hpL_key ha))),ha]|none=>
  rw[hpL_right ha];cases hb:hpL b k with
  | some x=>rw[hpL_left hb]|none=>rw[hpL_right hb,ha]
abbrev nT:List Nat:=(List.range 70).map (· + 1000)++((List.range 12).map (· + 2000)++((List.range 12).map (· + 3000)++((List.range 12).map (· + 4000)++[5000,5001,6000,6001])))
theorem nT_big:∀k∈nT,1000<=k/\k<7000:=by decide
structure Fam (R:Rf):Prop where
 keys:∀q∈R,q.1∈nT/\hon (·∈nT) q.2
 look:∀q∈R,hpL R q.1=some q.2
theorem Fam.key {R:Rf} (h:Fam R):∀k∈R.map Prod.fst,k∈nT:=fun k hk=>by
 obtain⟨q,hq,rfl⟩:=mem_map.1 hk;exact (h.keys q hq).1
def far (a:Rf):Bool:=a.all fun p=>Nat.blt p.1 1000||Nat.ble 7000 p.1
theorem far_out {a:Rf} (h:far a=true):∀k∈a.map Prod.fst,k<1000\/7000<=k:=fun k hk=>by
 obtain⟨q,hq,rfl⟩:=mem_map.1 hk;have:=all_eq_true.1 h q hq;rcases (Bool.or_eq_true _ _).mp this with h | h
 ·exact .inl (le_of_ble_eq_true h)
 ·exact .inr (le_of_ble_eq_true h)
theorem Fam.past {R a:Rf} (h:Fam R) (hf:far a=true) {q:Nat×HB} (hq:q∈R):hpL (a++R) q.1=some q.2:=by
 rw[hpL_right (hpL_none fun hm=>?_)]
 ·exact h.look q hq
 ·have h1:=far_out hf _ hm;have h2:=nT_big _ (h.keys q hq).1;omega
theorem Fam.swap {R a:Rf} (h:Fam R) (hf:far a=true):hpL (R++a)=hpL (a++R):=hpL_swap fun k hk hm=>by
 have h1:=far_out hf _ hm;have h2:=nT_big _ (h.key k hk);omega
theorem Fam.nil:Fam []:=⟨fun q hq=>(by cases hq),fun q hq=>(by cases hq)⟩
def Fl (ls:List (Nat×Nat)) (k:Nat):Nat:=(fnL ls k).getD k
def farK (k:Nat):Bool:=Nat.blt k 1000||Nat.ble 7000 k
theorem farK_out {k:Nat} (h:farK k=true):k∉nT:=fun hm=>by
 have h2:=nT_big _ hm;rcases (Bool.or_eq_true _ _).mp h with h | h
 ·have:=le_of_ble_eq_true h;omega
 ·have:=le_of_ble_eq_true h;omega
theorem Fl_out {ls:List (Nat×Nat)} (h:(ls.all fun p=>farK p.1)=true) {k:Nat} (hk:k∈nT):Fl ls k=k:=by
 have:fnL ls k=none:=by
  induction ls with
  | nil=>rfl|cons p ls ih=>
   obtain⟨q,c⟩:=p;simp only[all_cons,Bool.and_eq_true] at h;have hne:k≠q:=fun e=>farK_out h.1 (e ▸ hk);change (bif Nat.beq k q then some c else fnL ls k)=none;rw[nbeq hne];exact ih h.2
 unfold Fl;rw[this];rfl
def apart:List Nat->Bool
 | []=>true|k::l=>farK k&&((l.all fun x=>!Nat.beq x k)&&apart l)
theorem apart_far:∀{l:List Nat},apart l=true->∀k∈l,farK k=true
 | x::l,h,k,hk=>by
  unfold apart at h;simp only[Bool.and_eq_true] at h;rcases mem_cons.1 hk with rfl | hk
  ·exact h.1
  ·exact apart_far h.2.2 k hk
theorem apart_inj {F:Nat->Nat}:∀{l:List Nat},apart (l.map F)=true->∀a∈l,∀b∈l,F a=F b->a=b
 | x::l,h,a,ha,b,hb,e=>by
  rw[map_cons] at h;unfold apart at h;simp only[Bool.and_eq_true,all_eq_true] at h;have hx:∀y∈l,F y≠F x:=fun y hy he=>by
   have:=h.2.1 (F y) (mem_map.2 ⟨y,hy,rfl⟩);rw[he,beq_refl] at this;cases this
  rcases mem_cons.1 ha with ha' | ha'<;>rcases mem_cons.1 hb with hb' | hb'
  ·rw[ha',hb']
  ·exact absurd (by rw[<- ha'];exact e.symm) (hx b hb')
  ·exact absurd (by rw[<- hb'];exact e) (hx a ha')
  ·exact apart_inj h.2.2 a ha' b hb' e
abbrev ksL (a:List Nat) (ls:List (Nat×Nat)):List Nat:=a++(ls.map Prod.fst++nT)
def hlL (a:List Nat) (ls:List (Nat×Nat)) (h:Hp):Rf->Prop
 | []=>True|q::r=>(∃b',h (Fl ls q.1)=some b'/\HLe (fnL (mR (Fl ls) (ksL a ls))) (ksL a ls) q.2 b')/\hlL a ls h r
theorem hlL_out {a:List Nat} {ls:List (Nat×Nat)} {h:Hp}:∀{r:Rf},hlL a ls h r->∀q∈r,∃b',h (Fl ls q.1)=some b'/\HLe (fnL (mR (Fl ls) (ksL a ls))) (ksL a ls) q.2 b'
 | p::r,hl,q,hq=>by
  rcases mem_cons.1 hq with rfl | hq
  ·exact hl.1
  ·exact hlL_out hl.2 q hq
def famOk (a:List Nat) (ls:List (Nat×Nat)) (out:Rf):Bool:=
 (a.all fun k=>Nat.beq (Fl ls k) k)&&((ls.all fun p=>farK p.1)&&((out.all fun q=>kin q.1 a||kin q.1 (ls.map Prod.fst))&&apart (out.map fun q=>Fl ls q.1)))
theorem fam_main {R:Rf} (hR:Fam R) {a:List Nat} {ls:List (Nat×Nat)} {out:Rf} {h:Hp} (hok:famOk a ls out=true) (hX:∀q∈R,h q.1=some q.2) (hL:hlL a ls h out) :
  (∀k∈a++nT,k∈ksL a ls/\Fl ls k=k)/\(∀x∈(R++out).map Prod.fst,∀y∈(R++out).map Prod.fst,Fl ls x=Fl ls y->x=y)/\
   ∀q∈R++out,q.1∈ksL a ls/\∃b',h (Fl ls q.1)=some b'/\HLe (fnL (mR (Fl ls) (ksL a ls))) (ksL a ls) q.2 b':=by
 unfold famOk at hok;simp only[Bool.and_eq_true] at hok;obtain⟨h1,h2,h3,h4⟩:=hok;have hN:∀k∈nT,k∈ksL a ls:=fun k hk=>mem_append_right _ (mem_append_right _ hk);have hF:∀k∈nT,Fl ls k=k:=fun k hk=>Fl_out h2 hk;have hO:∀q∈out,farK (Fl ls q.1)=true:=fun q hq=>apart_far h4 _ (mem_map.2 ⟨q,hq,rfl⟩);refine⟨fun k hk=>?_,fun x hx y hy e=>?_,fun q hq=>?_⟩
 ·rcases mem_append.1 hk with hk | hk
  ·exact⟨mem_append_left _ hk,eq_of_beq_eq_true (all_eq_true.1 h1 k hk)⟩
  ·exact⟨hN k hk,hF k hk⟩
 ·rw[map_append] at hx hy;rcases mem_append.1 hx with hx | hx<;>rcases mem_append.1 hy with hy | hy
  ·rwa [hF x (hR.key x hx),hF y (hR.key y hy)] at e
  ·obtain⟨q,hq,rfl⟩:=mem_map.1 hy;rw[hF x (hR.key x hx)] at e;exact absurd (e ▸ hR.key x hx) (farK_out (hO q hq))
  ·obtain⟨q,hq,rfl⟩:=mem_map.1 hx;rw[hF y (hR.key y hy)] at e;exact absurd (e ▸ hR.key y hy) (farK_out (hO q hq))
  ·exact apart_inj (F:=Fl ls) (l:=out.map Prod.fst) (by rw[map_map];exact h4) x hx y hy e
 ·rcases mem_append.1 hq with hq | hq
  ·obtain⟨g1,g2⟩:=hR.keys q hq;refine⟨hN _ g1,q.2,by rw[hF _ g1];exact hX q hq,?_⟩;have:=hle_on (F:=Fl ls) (hon_imp hN g2)
   rwa [hmp_same hF g2] at this
  ·refine⟨?_,hlL_out hL q hq⟩;have:=all_eq_true.1 h3 q hq;rcases (Bool.or_eq_true _ _).mp this with h | h
   ·exact mem_append_left _ (kin_iff.1 h)
   ·exact mem_append_right _ (mem_append_left _ (kin_iff.1 h))
theorem ret_fam {R:Rf} (hR:Fam R) (a:List Nat) (ls:List (Nat×Nat)) {out:Rf} {h:Hp} {res v:PV} (hok:famOk a ls out=true) (hX:∀q∈R,h q.1=some q.2) (hL:hlL a ls h out)
  (hr:PLe (fnL (mR (Fl ls) (ksL a ls))) (ksL a ls) res v):RetS (a++nT) h res (R++out) v:=
 ret_mp _ (Fl ls) (fam_main hR hok hX hL).1 (fam_main hR hok hX hL).2.1 (fam_main hR hok hX hL).2.2 hr
theorem Need.by3 {a b:Prop} {n x lim:Nat} {K:Prop} (B:Nat) (hb:x=B) (h:a/\b/\n*B<=lim) (k:K):Need (a/\b/\n*x<=lim) K:=by subst hb;exact⟨h,k⟩
theorem Need.by4 {a b c:Prop} {n x lim:Nat} {K:Prop} (B:Nat) (hb:x=B) (h:a/\b/\c/\n*B<=lim) (k:K):Need (a/\b/\c/\n*x<=lim) K:=by subst hb;exact⟨h,k⟩
theorem app_fam {h:Hp} {δ:Dl} {k:Nat} {b:Option HB} (h1:(δ.all fun p=>farK p.1)=true) (hk:k∈nT) (e:h k=b):Dl.app h δ k=b:=by
 rw[app_at fun hm=>?_]
 ·exact e
 ·obtain⟨p,hp,rfl⟩:=mem_map.1 hm;exact farK_out (all_eq_true.1 h1 p hp) hk
theorem hle_rows {a:List Nat} {ls:List (Nat×Nat)} {e sz:Nat} {rows rows':List (List D)} (hls:(ls.all fun p=>farK p.1)=true) (he:rows'=rows) (ho:hon (·∈nT) (.darr e sz rows)):HLe (fnL (mR (Fl ls) (ksL a ls))) (ksL a ls) (.darr e sz rows) (.darr e sz rows'):=by
 subst he;have:=hle_on (F:=Fl ls) (hon_imp (fun k hk=>(mem_append_right a (mem_append_right (ls.map Prod.fst) hk):k∈ksL a ls)) ho)
 rwa [hmp_same (fun k hk=>Fl_out hls hk) ho] at this
end Tr
theorem callS_in {P:Program} {f:FuncId} {fn:Func} {cd:Code} {args:List PV} {res:PV} {rd rf out:Rf} (hf:P.funcs[f]? = some fn) (hn:(fn.name== "runtime.NumGoroutine")=false) (hb:fn.body=some cd) (hm:P.follows .mixedOrders=true)
  (ha:Nat.ble args.length fn.ntmps=true) (fk:List Nat) (hfk:∀k∈(rd++rf).map Prod.fst,k∈fk)
  (hv:vc P fn.ntmps fk (fun _ _ _ _=>False) cd (argsE args) (hpL (rd++rf)) fk (retS P fn fk res (rd++out))):CallS P f args rd rf res out:=callS_of' hf hn hb hm ha fk hfk hv
theorem CallS.full {P:Program} {f:FuncId} {x:Nat} {e sz n:Nat} {args:List PV} {rd rf out:Rf} {res:PV} (hn:0<n) (h:∀c,n<=c->CallS P f (.d (.cut x e sz 0 n c)::args) rd rf res out):CallS P f (.d (.arr x e sz 0 n)::args) rd rf res out:=by
 refine⟨(h n (Nat.le_refl _)).1,fun c vs hc hdf hfr hs ha=>?_⟩;cases vs with
 | nil=>unfold PsRep at ha;exact ha.elim|cons u us=>
  unfold PsRep at ha;obtain⟨h1,h2⟩:=ha;unfold PRep DRep at h1;rcases h1 with ⟨hz,⟨m,h3,h4,h5⟩ | ⟨g,q,off,cap,cur,fr,g1,g2,g3,g4,g5,g6,g7⟩⟩
  ·omega
  ·refine (h cap g3).2 c (u::us) hc hdf hfr hs ?_;unfold PsRep;refine⟨?_,h2⟩;unfold PRep DRep;exact⟨hz,g,q,off,cur,fr,g1,g2,g3,g4,g5,g6,g7⟩
end
section
open Go.RowKit K
namespace Tr
def plainR (r:PV):Prop:=∀(σ σ':Sg) (F F':Fzn) (w w':World) (u:Value),PRep σ F w r u->PRep σ' F' w' r u
theorem plainR_int (k:IntKind) (n:Int):plainR (.d (.c (.v (.int k n)))):=fun σ σ' F F' w w' u h=>by
 rw[rep_v h];exact rep_int _ _
theorem plainR_tup2 {a b:PV} (ha:plainR a) (hb:plainR b):plainR (.tup [a,b]):=fun σ σ' F F' w w' u h=>by
 unfold PRep at h ⊢;obtain⟨xs,h1,h2⟩:=h;refine⟨xs,h1,?_⟩;cases xs with
 | nil=>unfold PsRep at h2;exact h2.elim|cons x xs=>
  unfold PsRep at h2 ⊢;obtain⟨g1,g2⟩:=h2;refine⟨ha _ _ _ _ _ _ _ g1,?_⟩;cases xs with
  | nil=>unfold PsRep at g2;exact g2.elim|cons y ys=>
   unfold PsRep at g2 ⊢;obtain⟨g3,g4⟩:=g2;refine⟨hb _ _ _ _ _ _ _ g3,?_⟩;cases ys with
   | nil=>unfold PsRep;trivial|cons _ _=>unfold PsRep at g4;exact g4.elim
theorem plainR_bool (b:Bool):plainR (.d (.c (.v (.bool b)))):=fun σ σ' F F' w w' u h=>by
 rw[rep_v h];exact rep_bool _
def lendV (h:Hp) (x y:PV):Prop:=PV.closeH h x (fun z=>z=y)\/∃k t l cs,x=.d (.ptr k 0)/\h k=some (.box t l)/\closeHL h l (fun ys=>ys=cs)/\y=.d (.c (.ro cs))
def lendPs (h:Hp):List PV->List PV->Prop
 | [],[]=>True|x::xs,y::ys=>lendV h x y/\lendPs h xs ys|_,_=>False
section
variable {c:Ctx} {σ:Sg} {h:Hp} {w:World} {F':Fzn}
theorem lendV_out (hs:SW c σ h w) (hk:Keeps (fz c σ h w) F' w w) (hall:∀b o,c.own b->b<w.heap.size->F' b o) {x y:PV} (hl:lendV h x y):∀u,PRep σ (fz c σ h w) w x u->PRep (fun _=>none) F' w y u:=by
 rcases hl with hl | ⟨k,t,l,cs,rfl,hk2,hl,rfl⟩
 ·obtain⟨z,rfl,hz⟩:=pcloseH_out hs hk hall hl;exact hz
 ·obtain⟨ys,rfl,hy⟩:=closeHL_out hs hk hall hl;intro u hu;unfold PRep DRep at hu;obtain⟨g,n,e1,rfl⟩:=hu;obtain⟨g',n',cur,e4,e5,e6,e7⟩:=hs.hp k _ hk2;rw[e1] at e4;cases e4;unfold PRep DRep CRep;have hlt:g<w.heap.size:=(Array.getElem?_eq_some_iff.1 e6).1;refine⟨g,0,rfl,csAt_of_values (hy _ e7) (fun j v hv=>?_) fun j hj=>hall _ _ e5 hlt⟩;rw[zero_add,cell_of_row _ _ _ _ _ _ e6,<- Array.getElem?_toList];exact hv
theorem lendPs_out (hs:SW c σ h w) (hk:Keeps (fz c σ h w) F' w w) (hall:∀b o,c.own b->b<w.heap.size->F' b o):∀{xs ys:List PV},lendPs h xs ys->∀us,PsRep σ (fz c σ h w) w xs us->PsRep (fun _=>none) F' w ys us
 | [],[],_,[],_=>by unfold PsRep;trivial
 | [],[],_,_::_,hu=>by unfold PsRep at hu;exact hu.elim
 | x::xs,y::ys,hl,[],hu=>by unfold PsRep at hu;exact hu.elim
 | x::xs,y::ys,hl,u::us,hu=>by
  unfold PsRep at hu ⊢;exact⟨lendV_out hs hk hall hl.1 u hu.1,lendPs_out hs hk hall hl.2 us hu.2⟩
 | [],_::_,hl,_,_=>hl.elim|_::_,[],hl,_,_=>hl.elim
end
theorem lend {P:Program} {f:FuncId} {ys args:List PV} {r:PV} {rd:Rf} (hp:Pure P f ys r) (hr:plainR r) (hy:lendPs (hpL rd) args ys):CallS P f args rd [] r []:=by
 refine⟨hp.1,fun c vs hc hdf hfr hs hx=>?_⟩;rw[List.append_nil] at hs hx ⊢;have hk:Keeps (fz c c.σ0 (hpL rd) c.w0) (fun b o=>fz c c.σ0 (hpL rd) c.w0 b o\/(c.own b/\b<c.w0.heap.size)) c.w0 c.w0:=⟨fun _ _ h=>.inl h,fun _ _ _=>rfl⟩;have hz:=lendPs_out hs hk (fun b o h1 h2=>.inr ⟨h1,h2⟩) hy;refine (hp.2 (fun b o=>fz c c.σ0 (hpL rd) c.w0 b o\/(c.own b/\b<c.w0.heap.size)) c.w0 vs (sw_gl hc hs) (fun b o h=>?_) (hz vs hx)).mono ?_
 ·rcases h with h | h
  ·exact fz_lt hs h
  ·exact h.2
 ·rintro en w' ⟨v,rfl,hb,hr'⟩;exact⟨v,c.σ0,rfl,sw_below hs hb,hr _ _ _ _ _ _ _ hr'⟩
end Tr
end
section
open Go.RowKit K
structure PairD where
 Key:List UInt8
 Id:Int
def PairD.c (x:PairD):List C:=[.v (.string (tx x.Key)),.v (.int .i64 x.Id)]
def PairD.ok (x:PairD):Prop:=okText x.Key/\okInt x.Id
theorem openC_Pair:OpensC Try.prog 41 2 PairD.c PairD.ok:=by
 refine⟨by kernel_rfl,by decide,?_⟩;intro H enc w spare held fuel cs x h hl;have ht:Try.prog.underlying 41=some (.struct (Try.prog.fieldsOf 41)):=by kernel_rfl
 have hlen:=struct_len ht h;rw[show Try.prog.cellsOf 41=2 by kernel_rfl] at hlen;obtain⟨a0,e0,k0⟩:=field_of ht h hl 0 9 0 1 (by kernel_rfl) (openC_text Try.underlying9 (by kernel_rfl));obtain⟨a1,e1,k1⟩:=field_of ht h hl 1 2 1 1 (by kernel_rfl) (openC_int Try.underlying2 (by kernel_rfl));have hall:CsRep (FW w) w (eText a0++(eInt a1++[])) (cs.drop 0):=(cs_field e0 (cs_field e1 (cs_end hlen)));rw[drop_zero] at hall;exact⟨hlen,⟨a0,a1⟩,hall,⟨k0,k1⟩⟩
inductive Nest
 | leaf (ps:List PairD)
 | node (ks:List Nest)
def Nest.size:Nest->Nat
 | .leaf ps=>ps.length|.node ks=>ks.length
def Nest.kids:Nest->List Nest
 | .leaf _=>[]|.node ks=>ks
def Nest.pairs:Nest->List PairD
 | .leaf ps=>ps|.node _=>[]
def tall:Nat->Nest->Prop
 | 0,.leaf _=>True|h+1,.node ks=>∀k∈ks,tall h k|_,_=>False
def lvs:Nat->List Nest->List (List PairD)
 | 0,F=>F.map Nest.pairs|h+1,F=>lvs h (F.flatMap Nest.kids)
def ups:Nat->List Nest->List (List Nat)
 | 0,_=>[]|h+1,F=>ups h (F.flatMap Nest.kids)++[F.map Nest.size]
theorem lvs_app:∀(h:Nat) (F G:List Nest),lvs h (F++G)=lvs h F++lvs h G
 | 0,F,G=>map_append|h+1,F,G=>by rw[lvs,flatMap_append,lvs_app h];rfl
theorem ups_len:∀(h:Nat) (F:List Nest),(ups h F).length=h
 | 0,_=>rfl|h+1,F=>by rw[ups,length_append,ups_len h];rfl
def halves (n:Nest):List Nest:=if n.size<=4 then [n] else match n with
 | .leaf ps=>[.leaf (ps.take 2),.leaf (ps.drop 2)]|.node ks=>[.node (ks.take 2),.node (ks.drop 2)]
theorem halves_one {n:Nest} (h:n.size<=4):halves n=[n]:=if_pos h
abbrev Frs:=List (List Nest×List Nest)
def lF:Frs->List Nest
 | []=>[]|(l,_)::fs=>(lF fs).flatMap Nest.kids++l
def rF:Frs->List Nest
 | []=>[]|(_,r)::fs=>r++(rF fs).flatMap Nest.kids
def abv:Frs->Nat->List (List Nat)
 | [],_=>[]|(l,r)::fs,m=>((lF fs).map Nest.size++[l.length+m+r.length]++(rF fs).map Nest.size)::abv fs 1
def prop:Frs->List Nest->List Nest
 | [],Xs=>Xs|(l,r)::fs,Xs=>prop fs (halves (.node (l++Xs++r)))
def fin:List Nest->Nest
 | [M]=>M|Ms=>.node Ms
def plug:Frs->Nest->Nest
 | [],X=>X|(l,r)::fs,X=>plug fs (.node (l++[X]++r))
def nodeF:List Nat->Nat->Nat
 | [],_=>0|n::ns,kid=>if kid<n then 0 else nodeF ns (kid - n)+1
theorem nodeF_at (B:List Nat) {s j:Nat} (h:j<s):∀A:List Nat,nodeF (A++s::B) (A.sum+j)=A.length
 | []=>by rw[nil_append,nodeF,if_pos (by simp;omega)];rfl
 | a::A=>by
  rw[cons_append,nodeF,sum_cons,if_neg (by omega),show a+A.sum+j - a=A.sum+j by omega,nodeF_at B h A];rfl
def riseF:List (List Nat)->Nat->List (List Nat)
 | [],_=>[[2]]|u::us,at_=>if 4<u.getD (nodeF u at_) 0+1 then (u.take (nodeF u at_)++[2,u.getD (nodeF u at_) 0+1 - 2]++u.drop (nodeF u at_+1))::riseF us (nodeF u at_) else u.set (nodeF u at_) (u.getD (nodeF u at_) 0+1)::us
theorem kids_len (F:List Nest):(F.flatMap Nest.kids).length=(F.map fun n=>n.kids.length).sum:=by
 induction F with
 | nil=>rfl|cons x F ih=>rw[flatMap_cons,length_append,ih,map_cons,sum_cons]
def inner (F:List Nest):Prop:=∀n∈F,n.kids.length=n.size
theorem sizes_sum {F:List Nest} (h:inner F):(F.flatMap Nest.kids).length=(F.map Nest.size).sum:=by
 rw[kids_len]
 congr 1
 exact map_congr_left h
def okFr:Frs->Prop
 | []=>True|_::fs=>inner (lF fs)/\inner (rF fs)/\okFr fs
theorem getD_mid {A B:List Nat} {s:Nat}:(A++[s]++B).getD A.length 0=s:=by
 rw[List.getD_eq_getElem?_getD,append_assoc,List.getElem?_append_right (Nat.le_refl _),sub_self];rfl
theorem set_mid {α:Type} {A B:List α} {s t:α}:(A++[s]++B).set A.length t=A++[t]++B:=by
 rw[append_assoc,set_append_right _ _ (Nat.le_refl _),sub_self,append_assoc];rfl
theorem node_mid (fs:Frs) (l r:List Nest) (m:Nat) (hi:inner (lF fs)) (hm:0<m):nodeF ((lF fs).map Nest.size++[l.length+m+r.length]++(rF fs).map Nest.size) (lF ((l,r)::fs)).length=((lF fs).map Nest.size).length:=by
 rw[append_assoc,lF,length_append,sizes_sum hi];exact nodeF_at _ (by omega) _
theorem rise_one:∀(fs:Frs) (h:Nat) (X:Nest),okFr fs->(∀p∈fs,p.1.length+1+p.2.length<=4)->
  ∃M,prop fs [X]=[M]/\M=plug fs X/\lvs (h+fs.length) [M]=lvs h (lF fs++[X]++rF fs)/\ups (h+fs.length) [M]=ups h (lF fs++[X]++rF fs)++abv fs 1
 | [],h,X,_,_=>⟨X,rfl,rfl,by simp[lF,rF],by simp[lF,rF,abv]⟩|(l,r)::fs,h,X,⟨h1,h2,h3⟩,h4=>by
  have hs:=h4 (l,r) mem_cons_self;have hh:halves (.node (l++[X]++r))=[.node (l++[X]++r)]:=halves_one (by show (l++[X]++r).length<=4;simp only[length_append,length_singleton];exact hs);obtain⟨M,e1,e2,e3,e4⟩:=rise_one fs (h+1) (.node (l++[X]++r)) h3 fun p hp=>h4 p (mem_cons_of_mem _ hp);refine⟨M,by rw[prop,hh];exact e1,e2,?_,?_⟩
  ·rw[show h+((l,r)::fs).length=h+1+fs.length by rw[length_cons];omega,e3,lvs]
   congr 1
   simp[lF,rF,Nest.kids]
  ·rw[show h+((l,r)::fs).length=h+1+fs.length by rw[length_cons];omega,e4,ups,abv,append_assoc]
   congr 1
   ·congr 1
    simp[lF,rF,Nest.kids]
   ·simp[Nest.size];omega
end
section
open Go.RowKit K
abbrev ltT (a b:List UInt8):Prop:=a<b
def firstN:Nat->Nest->List UInt8
 | 0,n=>(n.pairs.headD ⟨[],0⟩).Key|h+1,n=>match n.kids with
  | []=>[]|k::_=>firstN h k
def kidA (key:List UInt8):List (List UInt8)->Nat->Nat->Nat
 | [],_,at_=>at_|x::xs,i,at_=>kidA key xs (i+1) (if 1<=i/\¬ltT key x then i else at_)
def kidF (h:Nat) (ks:List Nest) (key:List UInt8):Nat:=kidA key (ks.map (firstN h)) 0 0
theorem kidA_lt (key:List UInt8):∀(xs:List (List UInt8)) (i at_ n:Nat),at_<n->i+xs.length<=n->kidA key xs i at_<n
 | [],_,_,_,h,_=>h|x::xs,i,at_,n,h,hl=>by
  rw[length_cons] at hl;rw[kidA];refine kidA_lt key xs (i+1) _ n ?_ (by omega);split
  ·omega
  ·exact h
theorem kidF_lt {h:Nat} {ks:List Nest} {key:List UInt8} (hk:ks≠[]):kidF h ks key<ks.length:=
 kidA_lt key _ 0 0 _ (length_pos_iff.2 hk) (by rw[length_map];omega)
abbrev noN:Nest:=.leaf []
def pathF:Nat->Nest->List UInt8->Frs
 | 0,_,_=>[]|h+1,n,key=>pathF h (n.kids.getD (kidF h n.kids key) noN) key++[(n.kids.take (kidF h n.kids key),n.kids.drop (kidF h n.kids key+1))]
def pathX:Nat->Nest->List UInt8->Nest
 | 0,n,_=>n|h+1,n,key=>pathX h (n.kids.getD (kidF h n.kids key) noN) key
def putL (ps:List PairD) (p:PairD):List PairD:=(ps.filter fun q=>decide (ltT q.Key p.Key))++[p]++ps.drop (ps.filter fun q=>decide (ltT q.Key p.Key)).length
theorem plug_snoc (l r:List Nest):∀(fs:Frs) (X:Nest),plug (fs++[(l,r)]) X=.node (l++[plug fs X]++r)
 | [],X=>rfl|(a,b)::fs,X=>by rw[cons_append,plug,plug_snoc l r fs,plug]
def sized:Nat->Nest->Prop
 | 0,_=>True|h+1,n=>2<=n.kids.length/\n.kids.length<=4/\∀k∈n.kids,sized h k
theorem tall_node {h:Nat} {n:Nest} (ht:tall (h+1) n):n=.node n.kids/\n.kids.length=n.size/\∀k∈n.kids,tall h k:=by
 cases n with
 | leaf ps=>exact ht.elim|node ks=>exact⟨rfl,rfl,ht⟩
theorem mid_kid {α:Type} {l:List α} {i:Nat} (h:i<l.length) (d:α):l.take i++[l.getD i d]++l.drop (i+1)=l:=by
 rw[List.getD_eq_getElem?_getD,List.getElem?_eq_getElem h,getD_some,<- List.take_succ_eq_append_getElem h,take_append_drop]
theorem kid_mem {n:Nest} {i:Nat} (h:i<n.kids.length):n.kids.getD i noN∈n.kids:=by
 rw[List.getD_eq_getElem?_getD,List.getElem?_eq_getElem h,getD_some];exact List.getElem_mem h
theorem kid_at {h:Nat} {n:Nest} {key:List UInt8} (hs:sized (h+1) n):kidF h n.kids key<n.kids.length:=kidF_lt fun e=>by
 have:=hs.1;rw[e] at this;exact absurd this (by decide)
theorem plug_path:∀(h:Nat) (n:Nest) (key:List UInt8),tall h n->sized h n->plug (pathF h n key) (pathX h n key)=n
 | 0,_,_,_,_=>rfl|h+1,n,key,ht,hs=>by
  obtain⟨e,_,hk⟩:=tall_node ht;have hi:=kid_at (key:=key) hs;rw[pathF,plug_snoc,pathX,plug_path h _ key (hk _ (kid_mem hi)) (hs.2.2 _ (kid_mem hi)),mid_kid hi];exact e.symm
theorem path_len:∀(h:Nat) (n:Nest) (key:List UInt8),(pathF h n key).length=h
 | 0,_,_=>rfl|h+1,n,key=>by rw[pathF,length_append,path_len h];rfl
theorem pathX_tall:∀(h:Nat) (n:Nest) (key:List UInt8),tall h n->sized h n->tall 0 (pathX h n key)
 | 0,_,_,ht,_=>ht|h+1,n,key,ht,hs=>by
  obtain⟨_,_,hk⟩:=tall_node ht;have hi:=kid_at (key:=key) hs;exact pathX_tall h _ key (hk _ (kid_mem hi)) (hs.2.2 _ (kid_mem hi))
def wfF:Nat->Frs->Prop
 | _,[]=>True|j,(l,r)::fs=>(∀n∈l,tall j n/\sized j n)/\(∀n∈r,tall j n/\sized j n)/\2<=l.length+1+r.length/\l.length+1+r.length<=4/\wfF (j+1) fs
theorem wfF_snoc {l r:List Nest}:∀(fs:Frs) (j:Nat),wfF j fs->(∀n∈l,tall (j+fs.length) n/\sized (j+fs.length) n)->(∀n∈r,tall (j+fs.length) n/\sized (j+fs.length) n)->2<=l.length+1+r.length->l.length+1+r.length<=4->wfF j (fs++[(l,r)])
 | [],j,_,h1,h2,h3,h4=>⟨h1,h2,h3,h4,trivial⟩|(a,b)::fs,j,⟨k1,k2,k3,k4,k5⟩,h1,h2,h3,h4=>by
  rw[length_cons,show j+(fs.length+1)=j+1+fs.length by omega] at h1 h2;exact⟨k1,k2,k3,k4,wfF_snoc fs (j+1) k5 h1 h2 h3 h4⟩
theorem wf_path:∀(h:Nat) (n:Nest) (key:List UInt8),tall h n->sized h n->wfF 0 (pathF h n key)
 | 0,_,_,_,_=>trivial|h+1,n,key,ht,hs=>by
  obtain⟨_,_,hk⟩:=tall_node ht;have hi:=kid_at (key:=key) hs;have hp:=wf_path h _ key (hk _ (kid_mem hi)) (hs.2.2 _ (kid_mem hi));have hl:=path_len h (n.kids.getD (kidF h n.kids key) noN) key;refine wfF_snoc _ 0 hp ?_ ?_ ?_ ?_
  ·rw[hl,zero_add];exact fun m hm=>⟨hk _ (mem_of_mem_take hm),hs.2.2 _ (mem_of_mem_take hm)⟩
  ·rw[hl,zero_add];exact fun m hm=>⟨hk _ (mem_of_mem_drop hm),hs.2.2 _ (mem_of_mem_drop hm)⟩
  ·rw[length_take,length_drop];have:=hs.1;omega
  ·rw[length_take,length_drop];have:=hs.2.1;omega
theorem lF_tall:∀(fs:Frs) (j:Nat),wfF j fs->(∀n∈lF fs,tall j n/\sized j n)/\∀n∈rF fs,tall j n/\sized j n
 | [],_,_=>⟨fun n h=>(by cases h),fun n h=>(by cases h)⟩|(l,r)::fs,j,⟨h1,h2,_,_,h5⟩=>by
  obtain⟨g1,g2⟩:=lF_tall fs (j+1) h5;have up:∀m:Nest,tall (j+1) m/\sized (j+1) m->∀n∈m.kids,tall j n/\sized j n:=fun m hm n hn=>⟨(tall_node hm.1).2.2 n hn,hm.2.2.2 n hn⟩;refine⟨fun n hn=>?_,fun n hn=>?_⟩
  ·rcases mem_append.1 hn with hn | hn
   ·obtain⟨m,hm,hn⟩:=mem_flatMap.1 hn;exact up m (g1 m hm) n hn
   ·exact h1 n hn
  ·rcases mem_append.1 hn with hn | hn
   ·exact h2 n hn
   ·obtain⟨m,hm,hn⟩:=mem_flatMap.1 hn;exact up m (g2 m hm) n hn
theorem okFr_of:∀(fs:Frs) (j:Nat),wfF j fs->okFr fs/\∀p∈fs,p.1.length+1+p.2.length<=4
 | [],_,_=>⟨trivial,fun p h=>(by cases h)⟩|(l,r)::fs,j,⟨h1,h2,h3,h4,h5⟩=>by
  obtain⟨g1,g2⟩:=lF_tall fs (j+1) h5;obtain⟨k1,k2⟩:=okFr_of fs (j+1) h5;refine⟨⟨fun n hn=>(tall_node (g1 n hn).1).2.1,fun n hn=>(tall_node (g2 n hn).1).2.1,k1⟩,fun p hp=>?_⟩;rcases mem_cons.1 hp with rfl | hp
  ·exact h4
  ·exact k2 p hp
def insF (lv:List (List PairD)) (un:List (List Nat)) (at_:Nat) (p:PairD):List (List PairD)×List (List Nat):=
 if (putL (lv.getD at_ []) p).length<=4 then (lv.set at_ (putL (lv.getD at_ []) p),un)
 else (lv.take at_++[(putL (lv.getD at_ []) p).take 2,(putL (lv.getD at_ []) p).drop 2]++lv.drop (at_+1),riseF un at_)
abbrev leafI (h:Nat) (n:Nest) (key:List UInt8):Nat:=(lF (pathF h n key)).length
theorem getD_midL {A B:List (List PairD)} {s:List PairD}:(A++[s]++B).getD A.length []=s:=by
 rw[List.getD_eq_getElem?_getD,append_assoc,List.getElem?_append_right (Nat.le_refl _),sub_self];rfl
end
section
open Go.RowKit K
theorem Idx.at {l:List (List C)} {k:Nat} {r:List C} {K:List C->Prop} (h:l[k]? = some r) (hk:K r):Idx l (k:Int) K:=⟨r,by omega,by rw[toNat_natCast];exact h,hk⟩
theorem Idx.at' {l:List (List C)} {k:Nat} {n:Int} {r:List C} {K:List C->Prop} (h:l[k]? = some r) (e:n=(k:Int)) (hk:K r):Idx l n K:=by subst e;exact Idx.at h hk
def natC (n:Nat):List C:=[.v (.int .i64 (n:Int))]
def upC (U:List (List Nat)):List (List C):=U.map fun l=>[.sl 1 (l.map natC)]
def lvC (L:List (List PairD)):List (List C):=L.map fun l=>[.sl 2 (l.map PairD.c)]
abbrev roV (L:List (List PairD)) (U:List (List Nat)):PV:=.d (.c (.ro [.sl 1 (lvC L),.sl 1 (upC U)]))
theorem p_node (L:List (List PairD)) (U:List (List Nat)) (j:Nat) (hj:j<U.length) (kid:Nat) (hk:kid<U[j].sum) (hk2:kid<=100000) (hu:U[j].length<=100000):Pure Try.prog 37 [roV L U,pInt .i64 j,pInt .i64 kid] (pInt .i64 (nodeF U[j] kid)):=by
 obtain⟨u,hu0⟩:∃u,u=U[j]:=⟨_,rfl⟩;rw[<- hu0] at hk hu ⊢;have hrow:(upC U)[j]? = some [.sl 1 (u.map natC)]:=by unfold upC;rw[List.getElem?_map,List.getElem?_eq_getElem hj,hu0];rfl
 refine pure_of Try.func37 (by rfl) rfl (by kernel_rfl) (by rfl) ?_;((conv=>whnf);repeat' ((first|(with_reducible first|apply a_|apply b_|apply c_)|((with_reducible first|apply d_|apply e_|apply f_|apply g_|apply h_);first|omega|simp only[q_]<;>omega)|((with_reducible apply i_);first|omega|simp only[q_]<;>omega)|((with_reducible apply h_);first|decide|kernel_rfl)|refine s_ (by decide) ?_|refine t_ (by decide) ?_|(refine Idx.at hrow ?_)|with_reducible first|apply l_|apply m_|apply n_|apply o_|refine p_ (fun _=>?_) (fun _=>?_))<;>conv=>whnf));refine LoopC.mk (Nat×Nat) (fun s=>[(2,pInt .i64 s.2),(16,.d (.c (.sl 1 (u.map natC)))),(17,pInt .i64 u.length),(18,pInt .i64 s.1)]) (fun _=>[]) [] (fun s=>s.1<=u.length/\s.2<=100000/\s.2<(u.drop s.1).sum/\nodeF u kid=s.1+nodeF (u.drop s.1) s.2) (fun s=>u.length - s.1) (0,kid) ⟨zero_le _,hk2,hk,by rw[drop_zero,zero_add]⟩ ?start ?round
 case start=>exact⟨[],rfl,rfl,⟨.inl rfl,.inl rfl,PLe.int (by simp),.inl rfl,trivial⟩,trivial⟩
 case round=>
  rintro⟨i,q⟩ ⟨h1,h2,h3,h4⟩;have h1:i<=u.length:=h1;have h2:q<=100000:=h2;have h3:q<(u.drop i).sum:=h3;have h4:nodeF u kid=i+nodeF (u.drop i) q:=h4;have hi:i<u.length:=by
   rcases lt_or_ge i u.length with h | h
   ·exact h
   ·rw[drop_of_length_le h] at h3;simp at h3
  rw[List.drop_eq_getElem_cons hi,sum_cons] at h3;rw[List.drop_eq_getElem_cons hi,nodeF] at h4;by_cases hq:q<u[i]
  ·rw[if_pos hq,add_zero] at h4;rw[h4];((conv=>whnf);repeat' ((first|(with_reducible first|apply a_|apply b_|apply c_)|((with_reducible first|apply d_|apply e_|apply f_|apply g_|apply h_);first|omega|simp only[q_]<;>omega)|((with_reducible apply i_);first|omega|simp only[q_]<;>omega)|((with_reducible apply h_);first|decide|kernel_rfl)|refine s_ (by decide) ?_|refine t_ (by decide) ?_|(refine Idx.mapI (f:=natC) i rfl hi ?_)|with_reducible first|apply l_|apply m_|apply n_|apply o_|refine p_ (fun _=>?_) (fun _=>?_))<;>conv=>whnf));all_goals first|exact Ret.int rfl | (exfalso;omega)
  ·rw[if_neg hq] at h4;((conv=>whnf);repeat' ((first|(with_reducible first|apply a_|apply b_|apply c_)|((with_reducible first|apply d_|apply e_|apply f_|apply g_|apply h_);first|omega|simp only[q_]<;>omega)|((with_reducible apply i_);first|omega|simp only[q_]<;>omega)|((with_reducible apply h_);first|decide|kernel_rfl)|refine s_ (by decide) ?_|refine t_ (by decide) ?_|(refine Idx.mapI (f:=natC) i rfl hi ?_)|with_reducible first|apply l_|apply m_|apply n_|apply o_|refine p_ (fun _=>?_) (fun _=>?_))<;>conv=>whnf));all_goals first|(exfalso;omega)|skip
   exact⟨(i+1,q - u[i]),⟨hi,by show q - u[i]<=100000;omega,by show q - u[i]<(u.drop (i+1)).sum;omega,by show _=i+1+nodeF (u.drop (i+1)) (q - u[i]);omega⟩,by show u.length - (i+1)<u.length - i;omega,[],rfl,rfl,⟨PLe.int (by show _=((q - u[i]:Nat):Int);omega),.inl rfl,.inl rfl,PLe.int (by show _=((i+1:Nat):Int);omega),trivial⟩,trivial⟩
def lenAt (L:List (List PairD)) (U:List (List Nat)):Nat->Nat
 | 0=>L.length|l+1=>(U.getD l []).length
structure OkT (L:List (List PairD)) (U:List (List Nat)):Prop where
 pos:∀u∈U,∀n∈u,2<=n/\n<=4
 sums:∀l (h:l<U.length),U[l].sum=lenAt L U l
 small:∀l,l<=U.length->lenAt L U l<=64
 deep:U.length<=8
 leaf:∀l∈L,0<l.length/\l.length<=4
def firstF (U:List (List Nat)):Nat->Nat->Nat
 | 0,kid=>kid|l+1,kid=>firstF U l (((U.getD l []).take kid).sum)
theorem sum_take_le:∀(u:List Nat) (k:Nat),(u.take k).sum<=u.sum
 | [],k=>by simp
 | x::u,0=>by simp
 | x::u,k+1=>by
  rw[take_succ_cons,sum_cons,sum_cons];have:=sum_take_le u k;omega
theorem sum_take_lt:∀(u:List Nat) (k:Nat),(∀n∈u,0<n)->k<u.length->(u.take k).sum<u.sum
 | [],k,_,h=>absurd h (not_lt_zero _)|x::u,0,h,_=>by
  have:=h x mem_cons_self;rw[take_zero,sum_cons];simp;omega
 | x::u,k+1,h,hk=>by
  rw[take_succ_cons,sum_cons,sum_cons];have:=sum_take_lt u k (fun n hn=>h n (mem_cons_of_mem _ hn)) (by rw[length_cons] at hk;omega);omega
theorem OkT.step {L:List (List PairD)} {U:List (List Nat)} (h:OkT L U) {l kid:Nat} (hl:l<U.length):((U.getD l []).take kid).sum<=lenAt L U l/\(kid<(U.getD l []).length->((U.getD l []).take kid).sum<lenAt L U l):=by
 have e:U.getD l []=U[l]:=by rw[List.getD_eq_getElem?_getD,List.getElem?_eq_getElem hl];rfl
 rw[e,<- h.sums l hl];exact⟨sum_take_le _ _,fun hk=>sum_take_lt _ _ (fun n hn=>by have:=h.pos _ (List.getElem_mem hl) n hn;omega) hk⟩
theorem first_lt {L:List (List PairD)} {U:List (List Nat)} (h:OkT L U):∀{l kid:Nat},l<=U.length->kid<lenAt L U l->firstF U l kid<L.length
 | 0,kid,_,hk=>hk|l+1,kid,hl,hk=>first_lt h (l:=l) (by omega) ((h.step hl).2 hk)
theorem p_first (L:List (List PairD)) (U:List (List Nat)) (hv:OkT L U) (lv:Nat) (hl:lv<=U.length) (kid:Nat) (hk:kid<=lenAt L U lv):Pure Try.prog 38 [roV L U,pInt .i64 lv,pInt .i64 kid] (pInt .i64 (firstF U lv kid)):=by
 have hd:=hv.deep;refine pure_of Try.func38 (by rfl) rfl (by kernel_rfl) (by rfl) ?_;((conv=>whnf);repeat' ((first|(with_reducible first|apply a_|apply b_|apply c_)|((with_reducible first|apply d_|apply e_|apply f_|apply g_|apply h_);first|omega|simp only[q_]<;>omega)|((with_reducible apply i_);first|omega|simp only[q_]<;>omega)|((with_reducible apply h_);first|decide|kernel_rfl)|refine s_ (by decide) ?_|refine t_ (by decide) ?_|with_reducible first|apply l_|apply m_|apply n_|apply o_|refine p_ (fun _=>?_) (fun _=>?_))<;>conv=>whnf));refine LoopC.mk (Nat×Nat) (fun s=>[(0,roV L U),(1,pInt .i64 ((s.1:Int) - 1)),(2,pInt .i64 s.2)]) (fun _=>[]) [] (fun s=>s.1<=U.length/\s.2<=lenAt L U s.1/\firstF U lv kid=firstF U s.1 s.2) (fun s=>s.1) (lv,kid) ⟨hl,hk,rfl⟩ ?start ?round
 case start=>exact⟨[],rfl,rfl,⟨.inl rfl,PLe.int (by omega),.inl rfl,trivial⟩,trivial⟩
 case round=>
  rintro⟨l,q⟩ ⟨h1,h2,h3⟩;have h1:l<=U.length:=h1;have h2:q<=lenAt L U l:=h2;have h3:firstF U lv kid=firstF U l q:=h3;have hsm:=hv.small l h1;cases l with
  | zero=>
   rw[h3,firstF];((conv=>whnf);repeat' ((first|(with_reducible first|apply a_|apply b_|apply c_)|((with_reducible first|apply d_|apply e_|apply f_|apply g_|apply h_);first|omega|simp only[q_]<;>omega)|((with_reducible apply i_);first|omega|simp only[q_]<;>omega)|((with_reducible apply h_);first|decide|kernel_rfl)|refine s_ (by decide) ?_|refine t_ (by decide) ?_|with_reducible first|apply l_|apply m_|apply n_|apply o_|refine p_ (fun _=>?_) (fun _=>?_))<;>conv=>whnf));all_goals first|exact Ret.int rfl | (exfalso;omega)
  | succ l=>
   have hlU:l<U.length:=h1;obtain⟨u,hu⟩:∃u,u=U.getD l []:=⟨_,rfl⟩;have hrow:(upC U)[l]? = some [.sl 1 (u.map natC)]:=by
    unfold upC;rw[List.getElem?_map,List.getElem?_eq_getElem hlU,hu,List.getD_eq_getElem?_getD,List.getElem?_eq_getElem hlU];rfl
   have hq:q<=u.length:=by rw[hu];exact h2
   have hst:=hv.step (kid:=q) hlU;have hsm2:=hv.small l (by omega);rw[<- hu] at hst;rw[firstF,<- hu] at h3;have hul:(u.map natC).length=u.length:=length_map _;((conv=>whnf);repeat' ((first|(with_reducible first|apply a_|apply b_|apply c_)|((with_reducible first|apply d_|apply e_|apply f_|apply g_|apply h_);first|omega|simp only[q_]<;>omega)|((with_reducible apply i_);first|omega|simp only[q_]<;>omega)|((with_reducible apply h_);first|decide|kernel_rfl)|refine s_ (by decide) ?_|refine t_ (by decide) ?_|(refine Idx.at' hrow (by omega) ?_)|with_reducible first|apply l_|apply m_|apply n_|apply o_|refine p_ (fun _=>?_) (fun _=>?_))<;>conv=>whnf));refine LoopC.mk Nat (fun i=>[(0,roV L U),(1,pInt .i64 (((l+1:Nat):Int) - 1)),(7,pInt .i64 ((u.take q).take i).sum),(25,.d (.c (.sl 1 ((u.take q).map natC)))),(26,pInt .i64 q),(27,pInt .i64 i)]) (fun _=>[]) [] (fun i=>i<=q) (fun i=>q - i) 0 (zero_le _) ?start2 ?round2
   case start2=>exact⟨[],rfl,rfl,⟨.inl rfl,.inl rfl,PLe.int (by simp),PLe.c (by simp[map_take]),PLe.int (by simp;omega),.inl rfl,trivial⟩,trivial⟩
   case round2=>
    intro i hi;have hi:i<=q:=hi;have htl:(u.take q).length=q:=by rw[length_take];omega
    have hs1:=sum_take_le (u.take q) i;by_cases hiq:i<q
    ·have hit:i<(u.take q).length:=by omega
     have hs2:((u.take q).take (i+1)).sum=((u.take q).take i).sum+(u.take q)[i]:=by
      rw[List.take_succ_eq_append_getElem hit,sum_append,sum_singleton]
     have hs3:=sum_take_le (u.take q) (i+1);((conv=>whnf);repeat' ((first|(with_reducible first|apply a_|apply b_|apply c_)|((with_reducible first|apply d_|apply e_|apply f_|apply g_|apply h_);first|omega|simp only[q_]<;>omega)|((with_reducible apply i_);first|omega|simp only[q_]<;>omega)|((with_reducible apply h_);first|decide|kernel_rfl)|refine s_ (by decide) ?_|refine t_ (by decide) ?_|(refine Idx.mapI (f:=natC) i rfl hit ?_)|with_reducible first|apply l_|apply m_|apply n_|apply o_|refine p_ (fun _=>?_) (fun _=>?_))<;>conv=>whnf));all_goals first|(exfalso;omega)|skip
     exact⟨i+1,hiq,by show q - (i+1)<q - i;omega,[],rfl,rfl,⟨.inl rfl,.inl rfl,PLe.int (by show _=(((u.take q).take (i+1)).sum:Int);rw[hs2];simp),.inl rfl,.inl rfl,PLe.int (by show _=((i+1:Nat):Int);omega),trivial⟩,trivial⟩
    ·have e:(u.take q).take i=u.take q:=take_of_length_le (by omega);rw[e];((conv=>whnf);repeat' ((first|(with_reducible first|apply a_|apply b_|apply c_)|((with_reducible first|apply d_|apply e_|apply f_|apply g_|apply h_);first|omega|simp only[q_]<;>omega)|((with_reducible apply i_);first|omega|simp only[q_]<;>omega)|((with_reducible apply h_);first|decide|kernel_rfl)|refine s_ (by decide) ?_|refine t_ (by decide) ?_|with_reducible first|apply l_|apply m_|apply n_|apply o_|refine p_ (fun _=>?_) (fun _=>?_))<;>conv=>whnf));all_goals first|(exfalso;omega)|skip
     exact⟨(l,(u.take q).sum),⟨by show l<=U.length;omega,hst.1,h3⟩,by show l<l+1;omega,[],rfl,rfl,⟨.inl rfl,PLe.int (by omega),.inl rfl,trivial⟩,trivial⟩
end
section
open Go.RowKit K
namespace Tr
theorem lt_tri (a b:List UInt8):a<b\/a=b\/b<a:=by
 by_cases h:a<b
 ·exact .inl h
 ·have h:b<=a:=h;rcases List.le_iff_lt_or_eq.1 h with h | h
  ·exact .inr (.inr h)
  ·exact .inr (.inl h.symm)
theorem lt_irr (a:List UInt8):¬a<a:=List.lt_irrefl a
theorem lt_tr {a b c:List UInt8} (h:a<b) (g:b<c):a<c:=List.lt_trans h g
theorem lt_asym {a b:List UInt8} (h:a<b):¬b<a:=fun g=>lt_irr a (lt_tr h g)
theorem tx_bytes (a:List UInt8):(tx a).toList=a:=by rw[Lib.toList_data];rfl
theorem less_tx (a b:List UInt8):Op.bytesLess (tx a).toList (tx b).toList=decide (a<b):=by
 rw[Proofs.bytesLess_eq,tx_bytes,tx_bytes]
theorem cmp_iff:∀a b:List UInt8,(Lib.compareBytes a b<0↔a<b)/\(Lib.compareBytes a b=0↔a=b)
 | [],[]=>by simp[Lib.compareBytes]
 | [],y::ys=>by simp[Lib.compareBytes]
 | x::xs,[]=>by simp[Lib.compareBytes]
 | x::xs,y::ys=>by
  obtain⟨h1,h2⟩:=cmp_iff xs ys;rw[Lib.compareBytes,cons_lt_cons_iff];by_cases hxy:x<y
  ·rw[if_pos hxy];refine⟨⟨fun _=>.inl hxy,fun _=>(by decide)⟩,⟨fun h=>(by cases h),fun h=>?_⟩⟩;cases h;exact absurd hxy (UInt8.lt_irrefl x)
  ·rw[if_neg hxy];by_cases hyx:y<x
   ·rw[if_pos hyx];refine⟨⟨fun h=>(by cases h),fun h=>?_⟩,⟨fun h=>(by cases h),fun h=>?_⟩⟩
    ·rcases h with h | ⟨h,_⟩
     ·exact absurd h hxy
     ·subst h;exact absurd hyx (UInt8.lt_irrefl x)
    ·cases h;exact absurd hyx (UInt8.lt_irrefl x)
   ·rw[if_neg hyx];have e:x=y:=UInt8.le_antisymm (UInt8.not_lt.1 hyx) (UInt8.not_lt.1 hxy);subst e;rw[h1,h2];refine⟨⟨fun h=>.inr ⟨rfl,h⟩,fun h=>h.elim (fun h=>absurd h hxy) (·.2)⟩,⟨fun h=>(by rw[h]),fun h=>by cases h;rfl⟩⟩
end Tr
end
end Go.Proofs.Ytdjbckknghddpaa.Pm
