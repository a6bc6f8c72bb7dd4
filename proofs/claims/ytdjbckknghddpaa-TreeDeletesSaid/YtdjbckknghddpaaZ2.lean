/- Parts of the proof, one behind the other: PmCall PmCut PmCut2. Conditions: none beyond what each theorem says. -/
import Derived.Lib.AppendZerosOnto
import Derived.Laws.CopyRow
import Derived.Test.YtdjbckknghddpaaZ1
open List (all_eq_true append_assoc append_toArray cons_append drop_left' drop_of_length_le drop_take eq_nil_of_length_eq_zero flatten_append flatten_cons length_append length_cons length_drop length_map length_nil length_take map_append map_flatten map_map map_nil mem_append mem_append_left mem_append_right mem_cons mem_cons_of_mem mem_cons_self mem_map mem_of_mem_drop mem_of_mem_take mem_singleton nil_append size_toArray take_append_drop take_left take_left' take_of_length_le take_take take_zero)
open Nat (add_mul add_zero beq_refl eq_of_beq_eq_true eq_zero_or_pos le_mul_of_pos_right le_of_ble_eq_true le_of_eq le_trans lt_of_lt_of_le min_eq_left mul_le_mul_right zero_add zero_le zero_mul)
open Int (toNat_natCast)
set_option linter.unusedVariables false
set_option linter.unusedSimpArgs false
section
namespace Go.Proofs.Ytdjbckknghddpaa.Pm
open Go.RowKit
theorem rfHas_out {k:Nat}:∀{rf:Rf},rfHas k rf=false->∀p∈rf,p.1≠k
 | [],_,p,hp=>by cases hp
 | (q,b)::r,h,p,hp=>by
  unfold rfHas at h;cases hq:Nat.beq q k with
  | true=>rw[hq] at h;cases h
  | false=>
   rw[hq,cond_false] at h;rcases mem_cons.1 hp with rfl | hp
   ·intro e;have:=beq_refl k;simp only at e;rw[e] at hq;rw[show Nat.beq k k=false from hq] at this;cases this
   ·exact rfHas_out h p hp
theorem rfHas_in {k:Nat}:∀{rf:Rf},rfHas k rf=true->∃p∈rf,p.1=k
 | [],h=>by cases h
 | (q,b)::r,h=>by
  unfold rfHas at h;cases hq:Nat.beq q k with
  | true=>exact⟨(q,b),mem_cons_self ..,eq_of_beq_eq_true hq⟩|false=>
   rw[hq,cond_false] at h;obtain⟨p,h1,h2⟩:=rfHas_in h;exact⟨p,mem_cons_of_mem _ h1,h2⟩
theorem rfIn_out {h:Hp}:∀{rf:Rf},rfIn h rf->∀p∈rf,h p.1=some p.2
 | [],_,p,hp=>by cases hp
 | (k,b)::r,hr,p,hp=>by
  rcases mem_cons.1 hp with rfl | hp
  ·exact hr.1
  ·exact rfIn_out hr.2 p hp
theorem fnL_mem {k k':Nat}:∀{ρ:Ren},fnL ρ k=some k'->(k,k')∈ρ
 | [],h=>by cases h
 | (a,b)::l,h=>by
  unfold fnL at h;cases hq:Nat.beq k a with
  | true=>
   rw[hq,cond_true] at h;cases h;rw[eq_of_beq_eq_true hq];exact mem_cons_self ..
  | false=>rw[hq,cond_false] at h;exact mem_cons_of_mem _ (fnL_mem h)
theorem beq_false_ne {a b:Nat} (h:Nat.beq a b=false):a≠b:=by
 rintro rfl;have:=beq_refl a;rw[show Nat.beq a a=false from h] at this;cases this
theorem mem_fnL {k k':Nat}:∀{ρ:Ren},renOk ρ=true->(k,k')∈ρ->fnL ρ k=some k'
 | [],_,h=>by cases h
 | (a,b)::l,ho,h=>by
  unfold renOk at ho;simp only[Bool.and_eq_true] at ho;unfold fnL;rcases mem_cons.1 h with h | h
  ·cases h;rw[show Nat.beq k k=true from beq_refl k,cond_true]
  ·have:=all_eq_true.1 ho.1 _ h;simp only[Bool.and_eq_true,Bool.not_eq_true'] at this;rw[this.1,cond_false];exact mem_fnL ho.2 h
abbrev swapR (ρ:Ren):Ren:=ρ.map fun p=>(p.2,p.1)
theorem inv_mem {k k':Nat} {ρ:Ren} (h:fnL (swapR ρ) k'=some k):(k,k')∈ρ:=by
 have:=fnL_mem h;obtain⟨⟨a,b⟩,h1,h2⟩:=mem_map.1 this;cases h2;exact h1
theorem mem_inv {k k':Nat}:∀{ρ:Ren},renOk ρ=true->(k,k')∈ρ->fnL (swapR ρ) k'=some k
 | [],_,h=>by cases h
 | (a,b)::l,ho,h=>by
  unfold renOk at ho;simp only[Bool.and_eq_true] at ho;show fnL ((b,a)::swapR l) k'=some k;unfold fnL;rcases mem_cons.1 h with h | h
  ·cases h;rw[show Nat.beq k' k'=true from beq_refl k',cond_true]
  ·have:=all_eq_true.1 ho.1 _ h;simp only[Bool.and_eq_true,Bool.not_eq_true'] at this;rw[this.2,cond_false];exact mem_inv ho.2 h
theorem ren_inj {a b c:Nat} {ρ:Ren} (ho:renOk ρ=true) (h1:fnL ρ a=some c) (h2:fnL ρ b=some c):a=b:=by
 have g1:=mem_inv ho (fnL_mem h1);have g2:=mem_inv ho (fnL_mem h2);rw[g1] at g2;exact Option.some.inj g2
mutual
theorem renD_out {ρ:Ren}:∀{x:D} {K:D->Prop},renD ρ x K->∃y,K y/\renD ρ x (fun z=>z=y)
 | .c x,K,h=>⟨_,h,rfl⟩|.app k e sz l,K,h=>by
  unfold renD at h ⊢;split at h
  ·exact⟨_,h,rfl⟩
  ·exact h.elim
 | .ptr k o,K,h=>by
  unfold renD at h ⊢;split at h
  ·exact⟨_,h,rfl⟩
  ·exact h.elim
 | .arr k e sz lo n,K,h=>by
  unfold renD at h ⊢;split at h
  ·exact⟨_,h,rfl⟩
  ·exact h.elim
 | .elt k sz i o,K,h=>by
  unfold renD at h ⊢;split at h
  ·exact⟨_,h,rfl⟩
  ·exact h.elim
 | .optp k o,K,h=>by
  unfold renD at h ⊢;split at h
  ·exact⟨_,h,rfl⟩
  ·exact h.elim
 | .data k e l,K,h=>by
  unfold renD at h ⊢;split at h
  ·exact⟨_,h,rfl⟩
  ·exact h.elim
 | .mp k,K,h=>by
  unfold renD at h ⊢;split at h
  ·exact⟨_,h,rfl⟩
  ·exact h.elim
 | .emp,K,h=>by unfold renD at h ⊢;exact⟨_,h,rfl⟩
 | .cut k e sz lo n cc,K,h=>by
  unfold renD at h ⊢;split at h
  ·exact⟨_,h,rfl⟩
  ·exact h.elim
 | .clo f a l,K,h=>by
  unfold renD at h ⊢;obtain⟨a',h,h1⟩:=renDs_out h;obtain⟨l',h,h2⟩:=renDs_out h;refine⟨_,h,?_⟩;exact renDs_back h1 (renDs_back h2 rfl)
 | .mclo f l,K,h=>by
  unfold renD at h ⊢;obtain⟨l',h,h2⟩:=renDs_out h;refine⟨_,h,?_⟩;exact renDs_back h2 rfl
theorem renDs_out {ρ:Ren}:∀{l:List D} {K:List D->Prop},renDs ρ l K->∃m,K m/\renDs ρ l (fun z=>z=m)
 | [],K,h=>⟨_,h,rfl⟩|x::xs,K,h=>by
  unfold renDs at h ⊢;obtain⟨y,h,h1⟩:=renD_out h;obtain⟨ys,h,h2⟩:=renDs_out h;exact⟨_,h,renD_back h1 (renDs_back h2 rfl)⟩
theorem renD_back {ρ:Ren}:∀{x y:D} {K:D->Prop},renD ρ x (fun z=>z=y)->K y->renD ρ x K
 | .c x,y,K,h,hk=>by
  unfold renD at h ⊢;subst h;exact hk
 | .app k e sz l,y,K,h,hk=>by
  unfold renD at h ⊢;split at h
  ·subst h;exact hk
  ·exact h.elim
 | .ptr k o,y,K,h,hk=>by
  unfold renD at h ⊢;split at h
  ·subst h;exact hk
  ·exact h.elim
 | .arr k e sz lo n,y,K,h,hk=>by
  unfold renD at h ⊢;split at h
  ·subst h;exact hk
  ·exact h.elim
 | .elt k sz i o,y,K,h,hk=>by
  unfold renD at h ⊢;split at h
  ·subst h;exact hk
  ·exact h.elim
 | .optp k o,y,K,h,hk=>by
  unfold renD at h ⊢;split at h
  ·subst h;exact hk
  ·exact h.elim
 | .data k e l,y,K,h,hk=>by
  unfold renD at h ⊢;split at h
  ·subst h;exact hk
  ·exact h.elim
 | .mp k,y,K,h,hk=>by
  unfold renD at h ⊢;split at h
  ·subst h;exact hk
  ·exact h.elim
 | .emp,y,K,h,hk=>by unfold renD at h ⊢;subst h;exact hk
 | .cut k e sz lo n cc,y,K,h,hk=>by
  unfold renD at h ⊢;split at h
  ·subst h;exact hk
  ·exact h.elim
 | .clo f a l,y,K,h,hk=>by
  unfold renD at h ⊢;obtain⟨a',h,h1⟩:=renDs_out h;obtain⟨l',h,h2⟩:=renDs_out h;subst h;exact renDs_back h1 (renDs_back h2 hk)
 | .mclo f l,y,K,h,hk=>by
  unfold renD at h ⊢;obtain⟨l',h,h2⟩:=renDs_out h;subst h;exact renDs_back h2 hk
theorem renDs_back {ρ:Ren}:∀{l m:List D} {K:List D->Prop},renDs ρ l (fun z=>z=m)->K m->renDs ρ l K
 | [],m,K,h,hk=>by
  unfold renDs at h ⊢;subst h;exact hk
 | x::xs,m,K,h,hk=>by
  unfold renDs at h ⊢;obtain⟨y,h,h1⟩:=renD_out h;obtain⟨ys,h,h2⟩:=renDs_out h;subst h;exact renD_back h1 (renDs_back h2 hk)
end
mutual
theorem renP_out {ρ:Ren}:∀{x:PV} {K:PV->Prop},renP ρ x K->∃y,K y/\renP ρ x (fun z=>z=y)
 | .d x,K,h=>by
  unfold renP at h ⊢;obtain⟨y,h,h1⟩:=renD_out h;exact⟨_,h,renD_back h1 rfl⟩
 | .agg l,K,h=>by
  unfold renP at h ⊢;obtain⟨y,h,h1⟩:=renDs_out h;exact⟨_,h,renDs_back h1 rfl⟩
 | .tup l,K,h=>by
  unfold renP at h ⊢;obtain⟨y,h,h1⟩:=renPs_out h;exact⟨_,h,renPs_back h1 rfl⟩
 | .any,K,h=>by unfold renP at h ⊢;exact⟨_,h,rfl⟩
theorem renPs_out {ρ:Ren}:∀{l:List PV} {K:List PV->Prop},renPs ρ l K->∃m,K m/\renPs ρ l (fun z=>z=m)
 | [],K,h=>⟨_,h,rfl⟩|x::xs,K,h=>by
  unfold renPs at h ⊢;obtain⟨y,h,h1⟩:=renP_out h;obtain⟨ys,h,h2⟩:=renPs_out h;exact⟨_,h,renP_back h1 (renPs_back h2 rfl)⟩
theorem renP_back {ρ:Ren}:∀{x y:PV} {K:PV->Prop},renP ρ x (fun z=>z=y)->K y->renP ρ x K
 | .d x,y,K,h,hk=>by
  unfold renP at h ⊢;obtain⟨y,h,h1⟩:=renD_out h;subst h;exact renD_back h1 hk
 | .agg l,y,K,h,hk=>by
  unfold renP at h ⊢;obtain⟨y,h,h1⟩:=renDs_out h;subst h;exact renDs_back h1 hk
 | .tup l,y,K,h,hk=>by
  unfold renP at h ⊢;obtain⟨y,h,h1⟩:=renPs_out h;subst h;exact renPs_back h1 hk
 | .any,y,K,h,hk=>by unfold renP at h ⊢;subst h;exact hk
theorem renPs_back {ρ:Ren}:∀{l m:List PV} {K:List PV->Prop},renPs ρ l (fun z=>z=m)->K m->renPs ρ l K
 | [],m,K,h,hk=>by unfold renPs at h ⊢;subst h;exact hk
 | x::xs,m,K,h,hk=>by
  unfold renPs at h ⊢;obtain⟨y,h,h1⟩:=renP_out h;obtain⟨ys,h,h2⟩:=renPs_out h;subst h;exact renP_back h1 (renPs_back h2 hk)
end
mutual
theorem renRows_back {ρ:Ren}:∀{l m:List (List D)} {K:List (List D)->Prop},renRows ρ l (fun z=>z=m)->K m->renRows ρ l K
 | [],m,K,h,k=>by unfold renRows at h ⊢;subst h;exact k
 | x::xs,m,K,h,k=>by
  unfold renRows at h ⊢;obtain⟨y,h,h1⟩:=renDs_out h;obtain⟨ys,h,h2⟩:=renRows_out h;subst h;exact renDs_back h1 (renRows_back h2 k)
theorem renRows_out {ρ:Ren}:∀{l:List (List D)} {K:List (List D)->Prop},renRows ρ l K->∃m,K m/\renRows ρ l (fun z=>z=m)
 | [],K,h=>⟨[],h,rfl⟩|x::xs,K,h=>by
  unfold renRows at h ⊢;obtain⟨y,h,h1⟩:=renDs_out h;obtain⟨m,h,h2⟩:=renRows_out h;exact⟨_,h,renDs_back h1 (renRows_back h2 rfl)⟩
end
theorem renHB_out {ρ:Ren} {b:HB} {K:HB->Prop} (h:renHB ρ b K):∃b',K b'/\renHB ρ b (fun z=>z=b'):=by
 cases b with
 | box bt l=>
  unfold renHB at h ⊢;obtain⟨y,h,h1⟩:=renDs_out h;exact⟨_,h,renDs_back h1 rfl⟩
 | tail e sz=>exact⟨_,h,rfl⟩|arr e sz rows=>exact⟨_,h,rfl⟩|mp l=>exact⟨_,h,rfl⟩|darr e sz rows=>
  unfold renHB at h ⊢;obtain⟨y,h,h1⟩:=renRows_out h;exact⟨_,h,renRows_back h1 rfl⟩
def RR (ρ:Ren):Rf->Rf->Prop
 | [],m=>m=[]|(k,b)::r,m=>∃k' b' r',m=(k',b')::r'/\fnL ρ k=some k'/\renHB ρ b (fun z=>z=b')/\RR ρ r r'
theorem renRf_out {ρ:Ren}:∀{r:Rf} {K:Rf->Prop},renRf ρ r K->∃r',K r'/\RR ρ r r'
 | [],K,h=>⟨[],h,rfl⟩|(k,b)::r,K,h=>by
  unfold renRf at h;split at h
  ·rename_i k' hk;obtain⟨b',h,h1⟩:=renHB_out h;obtain⟨r',h,h2⟩:=renRf_out h;exact⟨_,h,k',b',r',rfl,hk,h1,h2⟩
  ·exact h.elim
mutual
theorem ren_fun {ρ:Ren}:∀{x y z:D},renD ρ x (fun u=>u=y)->renD ρ x (fun u=>u=z)->y=z
 | .c x,y,z,h1,h2=>by unfold renD at h1 h2;rw[<- h1,<- h2]
 | .app k e sz l,y,z,h1,h2=>by
  unfold renD at h1 h2;split at h1
  ·rename_i k' hq;rw[hq] at h2;rw[<- h1,<- h2]
  ·exact h1.elim
 | .ptr k o,y,z,h1,h2=>by
  unfold renD at h1 h2;split at h1
  ·rename_i k' hq;rw[hq] at h2;rw[<- h1,<- h2]
  ·exact h1.elim
 | .arr k e sz lo n,y,z,h1,h2=>by
  unfold renD at h1 h2;split at h1
  ·rename_i k' hq;rw[hq] at h2;rw[<- h1,<- h2]
  ·exact h1.elim
 | .elt k sz i o,y,z,h1,h2=>by
  unfold renD at h1 h2;split at h1
  ·rename_i k' hq;rw[hq] at h2;rw[<- h1,<- h2]
  ·exact h1.elim
 | .optp k o,y,z,h1,h2=>by
  unfold renD at h1 h2;split at h1
  ·rename_i k' hq;rw[hq] at h2;rw[<- h1,<- h2]
  ·exact h1.elim
 | .data k e l,y,z,h1,h2=>by
  unfold renD at h1 h2;split at h1
  ·rename_i k' hq;rw[hq] at h2;rw[<- h1,<- h2]
  ·exact h1.elim
 | .mp k,y,z,h1,h2=>by
  unfold renD at h1 h2;split at h1
  ·rename_i k' hq;rw[hq] at h2;rw[<- h1,<- h2]
  ·exact h1.elim
 | .emp,y,z,h1,h2=>by unfold renD at h1 h2;rw[<- h1,<- h2]
 | .cut k e sz lo n cc,y,z,h1,h2=>by
  unfold renD at h1 h2;split at h1
  ·rename_i k' hq;rw[hq] at h2;rw[<- h1,<- h2]
  ·exact h1.elim
 | .clo f a l,y,z,h1,h2=>by
  unfold renD at h1 h2;obtain⟨a1,h1,g1⟩:=renDs_out h1;obtain⟨l1,h1,g2⟩:=renDs_out h1;obtain⟨a2,h2,g3⟩:=renDs_out h2;obtain⟨l2,h2,g4⟩:=renDs_out h2;rw[<- h1,<- h2,rens_fun g1 g3,rens_fun g2 g4]
 | .mclo f l,y,z,h1,h2=>by
  unfold renD at h1 h2;obtain⟨l1,h1,g2⟩:=renDs_out h1;obtain⟨l2,h2,g4⟩:=renDs_out h2;rw[<- h1,<- h2,rens_fun g2 g4]
theorem rens_fun {ρ:Ren}:∀{l m n:List D},renDs ρ l (fun u=>u=m)->renDs ρ l (fun u=>u=n)->m=n
 | [],m,n,h1,h2=>by unfold renDs at h1 h2;rw[<- h1,<- h2]
 | x::xs,m,n,h1,h2=>by
  unfold renDs at h1 h2;obtain⟨a1,h1,g1⟩:=renD_out h1;obtain⟨l1,h1,g2⟩:=renDs_out h1;obtain⟨a2,h2,g3⟩:=renD_out h2;obtain⟨l2,h2,g4⟩:=renDs_out h2;rw[<- h1,<- h2,ren_fun g1 g3,rens_fun g2 g4]
end
section
variable {ρ:Ren} {τ τ':Sg} {F F':Fzn} {w:World}
def SgEq (ρ:Ren) (τ τ':Sg):Prop:=∀k k',fnL ρ k=some k'->τ' k'=τ k
mutual
theorem ren_rep (hs:SgEq ρ τ τ') (hk:Keeps F F' w w):∀{x y:D} {u:Value},renD ρ x (fun z=>z=y)->DRep τ F w x u->DRep τ' F' w y u
 | .c x,y,u,h,hr=>by
  unfold renD at h;subst h;unfold DRep at hr ⊢;exact CRep.keeps hk _ _ hr
 | .app k e sz l,y,u,h,hr=>by
  unfold renD at h;split at h
  ·rename_i k' hq;subst h;unfold DRep at hr ⊢;rw[hs k k' hq];obtain⟨h0,h1 | ⟨g,cap,cur,fr,h1,h3,h4,h5,h6,h7,h8⟩⟩:=hr
   ·exact⟨h0,.inl h1⟩
   ·exact⟨h0,.inr ⟨g,cap,cur,fr,h1,h3,h4,h5,h6,h7,RowsAt.keeps hk _ _ _ _ h8⟩⟩
  ·exact h.elim
 | .ptr k o,y,u,h,hr=>by
  unfold renD at h;split at h
  ·rename_i k' hq;subst h;unfold DRep at hr ⊢;rw[hs k k' hq];exact hr
  ·exact h.elim
 | .arr k e sz lo n,y,u,h,hr=>by
  unfold renD at h;split at h
  ·rename_i k' hq;subst h;unfold DRep at hr ⊢;rw[hs k k' hq];exact hr
  ·exact h.elim
 | .elt k sz i o,y,u,h,hr=>by
  unfold renD at h;split at h
  ·rename_i k' hq;subst h;unfold DRep at hr ⊢;rw[hs k k' hq];exact hr
  ·exact h.elim
 | .optp k o,y,u,h,hr=>by
  unfold renD at h;split at h
  ·rename_i k' hq;subst h;unfold DRep at hr ⊢;rw[hs k k' hq];exact hr
  ·exact h.elim
 | .data k e l,y,u,h,hr=>by
  unfold renD at h;split at h
  ·rename_i k' hq;subst h;unfold DRep at hr ⊢;rw[hs k k' hq];rcases hr with hr | ⟨h0,g,cur,fr,h1,h2,h3,h4,h5,h6⟩
   ·exact .inl hr
   ·exact .inr ⟨h0,g,cur,fr,h1,h2,h3,h4,h5,RowsAt.keeps hk _ _ _ _ h6⟩
  ·exact h.elim
 | .mp k,y,u,h,hr=>by
  unfold renD at h;split at h
  ·rename_i k' hq;subst h;unfold DRep at hr ⊢;rw[hs k k' hq];exact hr
  ·exact h.elim
 | .emp,y,u,h,hr=>by unfold renD at h;subst h;unfold DRep at hr ⊢;exact hr
 | .cut k e sz lo n cc,y,u,h,hr=>by
  unfold renD at h;split at h
  ·rename_i k' hq;subst h;unfold DRep at hr ⊢;rw[hs k k' hq];exact hr
  ·exact h.elim
 | .clo f a l,y,u,h,hr=>by
  unfold renD at h;obtain⟨a',h,h1⟩:=renDs_out h;obtain⟨l',h,h2⟩:=renDs_out h;subst h;unfold DRep at hr ⊢;obtain⟨us,vs,rfl,g1,g2⟩:=hr;exact⟨us,vs,rfl,rens_rep hs hk h1 g1,rens_rep hs hk h2 g2⟩
 | .mclo f l,y,u,h,hr=>by
  unfold renD at h;obtain⟨l',h,h2⟩:=renDs_out h;subst h;unfold DRep at hr ⊢;obtain⟨us,rfl,g1⟩:=hr;exact⟨us,rfl,rens_rep hs hk h2 g1⟩
theorem rens_rep (hs:SgEq ρ τ τ') (hk:Keeps F F' w w):∀{l m:List D} {us:List Value},renDs ρ l (fun z=>z=m)->DsRep τ F w l us->DsRep τ' F' w m us
 | [],m,us,h,hr=>by
  unfold renDs at h;subst h;rw[dsRep_nil_inv hr];exact dsRep_nil
 | x::xs,m,us,h,hr=>by
  unfold renDs at h;obtain⟨y,h,h1⟩:=renD_out h;obtain⟨ys,h,h2⟩:=renDs_out h;subst h;obtain⟨u,vs,rfl,g1,g2⟩:=dsRep_inv hr;exact dsRep_cons (ren_rep hs hk h1 g1) (rens_rep hs hk h2 g2)
end
mutual
theorem rep_ren (hs:SgEq ρ τ τ') (hk:Keeps F' F w w):∀{x y:D} {u:Value},renD ρ x (fun z=>z=y)->DRep τ' F' w y u->DRep τ F w x u
 | .c x,y,u,h,hr=>by
  unfold renD at h;subst h;unfold DRep at hr ⊢;exact CRep.keeps hk _ _ hr
 | .app k e sz l,y,u,h,hr=>by
  unfold renD at h;split at h
  ·rename_i k' hq;subst h;unfold DRep at hr ⊢;rw[hs k k' hq] at hr;obtain⟨h0,h1 | ⟨g,cap,cur,fr,h1,h3,h4,h5,h6,h7,h8⟩⟩:=hr
   ·exact⟨h0,.inl h1⟩
   ·exact⟨h0,.inr ⟨g,cap,cur,fr,h1,h3,h4,h5,h6,h7,RowsAt.keeps hk _ _ _ _ h8⟩⟩
  ·exact h.elim
 | .ptr k o,y,u,h,hr=>by
  unfold renD at h;split at h
  ·rename_i k' hq;subst h;unfold DRep at hr ⊢;rw[hs k k' hq] at hr;exact hr
  ·exact h.elim
 | .arr k e sz lo n,y,u,h,hr=>by
  unfold renD at h;split at h
  ·rename_i k' hq;subst h;unfold DRep at hr ⊢;rw[hs k k' hq] at hr;exact hr
  ·exact h.elim
 | .elt k sz i o,y,u,h,hr=>by
  unfold renD at h;split at h
  ·rename_i k' hq;subst h;unfold DRep at hr ⊢;rw[hs k k' hq] at hr;exact hr
  ·exact h.elim
 | .optp k o,y,u,h,hr=>by
  unfold renD at h;split at h
  ·rename_i k' hq;subst h;unfold DRep at hr ⊢;rw[hs k k' hq] at hr;exact hr
  ·exact h.elim
 | .data k e l,y,u,h,hr=>by
  unfold renD at h;split at h
  ·rename_i k' hq;subst h;unfold DRep at hr ⊢;rw[hs k k' hq] at hr;rcases hr with hr | ⟨h0,g,cur,fr,h1,h2,h3,h4,h5,h6⟩
   ·exact .inl hr
   ·exact .inr ⟨h0,g,cur,fr,h1,h2,h3,h4,h5,RowsAt.keeps hk _ _ _ _ h6⟩
  ·exact h.elim
 | .mp k,y,u,h,hr=>by
  unfold renD at h;split at h
  ·rename_i k' hq;subst h;unfold DRep at hr ⊢;rw[hs k k' hq] at hr;exact hr
  ·exact h.elim
 | .emp,y,u,h,hr=>by unfold renD at h;subst h;unfold DRep at hr ⊢;exact hr
 | .cut k e sz lo n cc,y,u,h,hr=>by
  unfold renD at h;split at h
  ·rename_i k' hq;subst h;unfold DRep at hr ⊢;rw[hs k k' hq] at hr;exact hr
  ·exact h.elim
 | .clo f a l,y,u,h,hr=>by
  unfold renD at h;obtain⟨a',h,h1⟩:=renDs_out h;obtain⟨l',h,h2⟩:=renDs_out h;subst h;unfold DRep at hr ⊢;obtain⟨us,vs,rfl,g1,g2⟩:=hr;exact⟨us,vs,rfl,rep_rens hs hk h1 g1,rep_rens hs hk h2 g2⟩
 | .mclo f l,y,u,h,hr=>by
  unfold renD at h;obtain⟨l',h,h2⟩:=renDs_out h;subst h;unfold DRep at hr ⊢;obtain⟨us,rfl,g1⟩:=hr;exact⟨us,rfl,rep_rens hs hk h2 g1⟩
theorem rep_rens (hs:SgEq ρ τ τ') (hk:Keeps F' F w w):∀{l m:List D} {us:List Value},renDs ρ l (fun z=>z=m)->DsRep τ' F' w m us->DsRep τ F w l us
 | [],m,us,h,hr=>by
  unfold renDs at h;subst h;rw[dsRep_nil_inv hr];exact dsRep_nil
 | x::xs,m,us,h,hr=>by
  unfold renDs at h;obtain⟨y,h,h1⟩:=renD_out h;obtain⟨ys,h,h2⟩:=renDs_out h;subst h;obtain⟨u,vs,rfl,g1,g2⟩:=dsRep_inv hr;exact dsRep_cons (rep_ren hs hk h1 g1) (rep_rens hs hk h2 g2)
end
mutual
theorem renP_rep (hs:SgEq ρ τ τ') (hk:Keeps F F' w w):∀{x y:PV} {u:Value},renP ρ x (fun z=>z=y)->PRep τ F w x u->PRep τ' F' w y u
 | .d x,y,u,h,hr=>by
  unfold renP at h;obtain⟨z,h,h1⟩:=renD_out h;subst h;unfold PRep at hr ⊢;exact ren_rep hs hk h1 hr
 | .agg l,y,u,h,hr=>by
  unfold renP at h;obtain⟨z,h,h1⟩:=renDs_out h;subst h;unfold PRep at hr ⊢;obtain⟨xs,g1,g2⟩:=hr;exact⟨xs,g1,rens_rep hs hk h1 g2⟩
 | .tup l,y,u,h,hr=>by
  unfold renP at h;obtain⟨z,h,h1⟩:=renPs_out h;subst h;unfold PRep at hr ⊢;obtain⟨xs,g1,g2⟩:=hr;exact⟨xs,g1,renPs_rep hs hk h1 g2⟩
 | .any,y,u,h,hr=>by
  unfold renP at h;subst h;unfold PRep;trivial
theorem renPs_rep (hs:SgEq ρ τ τ') (hk:Keeps F F' w w):∀{l m:List PV} {us:List Value},renPs ρ l (fun z=>z=m)->PsRep τ F w l us->PsRep τ' F' w m us
 | [],m,us,h,hr=>by
  unfold renPs at h;subst h;cases us with
  | nil=>unfold PsRep;trivial|cons _ _=>unfold PsRep at hr;exact hr.elim
 | x::xs,m,us,h,hr=>by
  unfold renPs at h;obtain⟨y,h,h1⟩:=renP_out h;obtain⟨ys,h,h2⟩:=renPs_out h;subst h;cases us with
  | nil=>unfold PsRep at hr;exact hr.elim|cons u us=>
   unfold PsRep at hr ⊢;exact⟨renP_rep hs hk h1 hr.1,renPs_rep hs hk h2 hr.2⟩
end
mutual
theorem rep_renP (hs:SgEq ρ τ τ') (hk:Keeps F' F w w):∀{x y:PV} {u:Value},renP ρ x (fun z=>z=y)->PRep τ' F' w y u->PRep τ F w x u
 | .d x,y,u,h,hr=>by
  unfold renP at h;obtain⟨z,h,h1⟩:=renD_out h;subst h;unfold PRep at hr ⊢;exact rep_ren hs hk h1 hr
 | .agg l,y,u,h,hr=>by
  unfold renP at h;obtain⟨z,h,h1⟩:=renDs_out h;subst h;unfold PRep at hr ⊢;obtain⟨xs,g1,g2⟩:=hr;exact⟨xs,g1,rep_rens hs hk h1 g2⟩
 | .tup l,y,u,h,hr=>by
  unfold renP at h;obtain⟨z,h,h1⟩:=renPs_out h;subst h;unfold PRep at hr ⊢;obtain⟨xs,g1,g2⟩:=hr;exact⟨xs,g1,rep_renPs hs hk h1 g2⟩
 | .any,y,u,h,hr=>by unfold PRep;trivial
theorem rep_renPs (hs:SgEq ρ τ τ') (hk:Keeps F' F w w):∀{l m:List PV} {us:List Value},renPs ρ l (fun z=>z=m)->PsRep τ' F' w m us->PsRep τ F w l us
 | [],m,us,h,hr=>by
  unfold renPs at h;subst h;cases us with
  | nil=>unfold PsRep;trivial|cons _ _=>unfold PsRep at hr;exact hr.elim
 | x::xs,m,us,h,hr=>by
  unfold renPs at h;obtain⟨y,h,h1⟩:=renP_out h;obtain⟨ys,h,h2⟩:=renPs_out h;subst h;cases us with
  | nil=>unfold PsRep at hr;exact hr.elim|cons u us=>
   unfold PsRep at hr ⊢;exact⟨rep_renP hs hk h1 hr.1,rep_renPs hs hk h2 hr.2⟩
end
theorem hb_shut {b b':HB} {m o:Nat} (h:renHB ρ b (fun z=>z=b')):b.shut m o↔b'.shut m o:=by
 cases b with
 | box bt l=>
  unfold renHB at h;obtain⟨z,h,h1⟩:=renDs_out h;subst h;exact Iff.rfl
 | tail e sz=>unfold renHB at h;subst h;exact Iff.rfl|arr e sz rows=>unfold renHB at h;subst h;exact Iff.rfl|mp l=>unfold renHB at h;subst h;exact Iff.rfl|darr e sz rows=>
  unfold renHB at h;obtain⟨z,h,h1⟩:=renRows_out h;subst h;exact Iff.rfl
theorem rrows_len {ρ:Ren} {l m:List (List D)} (h:renRows ρ l (fun z=>z=m)):m.length=l.length:=by
 induction l generalizing m with
 | nil=>unfold renRows at h;subst h;rfl|cons x xs ih=>
  unfold renRows at h;obtain⟨y,h,h1⟩:=renDs_out h;obtain⟨ys,h,h2⟩:=renRows_out h;subst h;rw[length_cons,length_cons,ih h2]
theorem rens_len {ρ:Ren} {l m:List D} (h:renDs ρ l (fun z=>z=m)):m.length=l.length:=by
 induction l generalizing m with
 | nil=>unfold renDs at h;subst h;rfl|cons x xs ih=>
  unfold renDs at h;obtain⟨y,h,h1⟩:=renD_out h;obtain⟨ys,h,h2⟩:=renDs_out h;subst h;rw[length_cons,length_cons,ih h2]
theorem rrows_row {ρ:Ren} {s:Nat} {l m:List (List D)} (h:renRows ρ l (fun z=>z=m)):(∀r∈l,r.length=s)↔∀r∈m,r.length=s:=by
 induction l generalizing m with
 | nil=>unfold renRows at h;subst h;exact Iff.rfl|cons x xs ih=>
  unfold renRows at h;obtain⟨y,h,h1⟩:=renDs_out h;obtain⟨ys,h,h2⟩:=renRows_out h;subst h;rw[List.forall_mem_cons,List.forall_mem_cons,ih h2,rens_len h1]
theorem rrows_flat {ρ:Ren} {l m:List (List D)} (h:renRows ρ l (fun z=>z=m)):renDs ρ l.flatten (fun z=>z=m.flatten):=by
 induction l generalizing m with
 | nil=>unfold renRows at h;subst h;rfl|cons x xs ih=>
  unfold renRows at h;obtain⟨y,h,h1⟩:=renDs_out h;obtain⟨ys,h,h2⟩:=renRows_out h;subst h;rw[flatten_cons,flatten_cons];have ap:∀{a b c d:List D},renDs ρ a (fun z=>z=c)->renDs ρ b (fun z=>z=d)->renDs ρ (a++b) (fun z=>z=c++d):=by
   intro a;induction a with
   | nil=>intro b c d h1 h2;unfold renDs at h1;subst h1;exact h2
   | cons x xs ih=>
    intro b c d h1 h2;unfold renDs at h1;obtain⟨y,h1,g1⟩:=renD_out h1;obtain⟨ys,h1,g2⟩:=renDs_out h1;subst h1;rw[cons_append];unfold renDs;exact renD_back g1 (renDs_back (ih g2 h2) rfl)
  exact ap h1 (ih h2)
theorem rrows_fun {ρ:Ren} {l m n:List (List D)} (h1:renRows ρ l (fun z=>z=m)) (h2:renRows ρ l (fun z=>z=n)):m=n:=by
 induction l generalizing m n with
 | nil=>unfold renRows at h1 h2;rw[<- h1,<- h2]|cons x xs ih=>
  unfold renRows at h1 h2;obtain⟨y,h1,g1⟩:=renDs_out h1;obtain⟨ys,h1,g2⟩:=renRows_out h1;obtain⟨y',h2,g3⟩:=renDs_out h2;obtain⟨ys',h2,g4⟩:=renRows_out h2;rw[<- h1,<- h2,rens_fun g1 g3,ih g2 g4]
theorem hb_ren {own own':Nat->Prop} {k k':Nat} {b b':HB} (hs:SgEq ρ τ τ') (hk:Keeps F F' w w) (hq:fnL ρ k=some k') (hown:∀g m,τ k=some (some g,m)->own g->own' g) (h:renHB ρ b (fun z=>z=b')) (ho:HbOk τ F w own k b):HbOk τ' F' w own' k' b':=by
 have e:=hs k k' hq;cases b with
 | box bt l=>
  unfold renHB at h;obtain⟨z,h,h1⟩:=renDs_out h;subst h;obtain⟨g,n,cs,r1,r2,r3,r4⟩:=ho;exact⟨g,n,cs,e.trans r1,hown g n r1 r2,r3,rens_rep hs hk h1 r4⟩
 | tail e' sz=>
  unfold renHB at h;subst h;obtain⟨r0,ob,n,r1,r2⟩:=ho;refine⟨r0,ob,n,e.trans r1,?_⟩;cases ob with
  | none=>exact r2|some g=>exact⟨hown g n r1 r2.1,r2.2⟩
 | arr e' sz rows=>
  unfold renHB at h;subst h;obtain⟨r0,r00,ob,n,r1,r2⟩:=ho;refine⟨r0,r00,ob,n,e.trans r1,?_⟩;cases ob with
  | none=>exact r2|some g=>
   obtain⟨q1,cur,q2,q3,q4⟩:=r2;exact⟨hown g n r1 q1,cur,q2,q3,CsRep.keeps hk _ _ q4⟩
 | mp l=>
  unfold renHB at h;subst h;obtain⟨g,n,es,cl,r1,r2,r3⟩:=ho;exact⟨g,n,es,cl,e.trans r1,hown g n r1 r2,r3⟩
 | darr e' sz rows=>
  unfold renHB at h;obtain⟨z,h,h1⟩:=renRows_out h;subst h;obtain⟨r0,r00,ob,n,r1,r2⟩:=ho;refine⟨r0,(rrows_row h1).1 r00,ob,n,e.trans r1,?_⟩;have hl:=rrows_len h1;cases ob with
  | none=>subst r2;exact eq_nil_of_length_eq_zero hl|some g=>
   obtain⟨q1,cur,q2,q3,q4⟩:=r2;refine⟨hown g n r1 q1,cur,q2,by rw[hl];exact q3,?_⟩;rw[hl];exact rens_rep hs hk (rrows_flat h1) q4
theorem ren_hb {own own':Nat->Prop} {k k':Nat} {b b':HB} (hs:SgEq ρ τ τ') (hk:Keeps F' F w w) (hq:fnL ρ k=some k') (hown:∀g m,τ k=some (some g,m)->own' g->own g) (h:renHB ρ b (fun z=>z=b')) (ho:HbOk τ' F' w own' k' b'):HbOk τ F w own k b:=by
 have e:=hs k k' hq;cases b with
 | box bt l=>
  unfold renHB at h;obtain⟨z,h,h1⟩:=renDs_out h;subst h;obtain⟨g,n,cs,r1,r2,r3,r4⟩:=ho;exact⟨g,n,cs,e.symm.trans r1,hown g n (e.symm.trans r1) r2,r3,rep_rens hs hk h1 r4⟩
 | tail e' sz=>
  unfold renHB at h;subst h;obtain⟨r0,ob,n,r1,r2⟩:=ho;refine⟨r0,ob,n,e.symm.trans r1,?_⟩;cases ob with
  | none=>exact r2|some g=>exact⟨hown g n (e.symm.trans r1) r2.1,r2.2⟩
 | arr e' sz rows=>
  unfold renHB at h;subst h;obtain⟨r0,r00,ob,n,r1,r2⟩:=ho;refine⟨r0,r00,ob,n,e.symm.trans r1,?_⟩;cases ob with
  | none=>exact r2|some g=>
   obtain⟨q1,cur,q2,q3,q4⟩:=r2;exact⟨hown g n (e.symm.trans r1) q1,cur,q2,q3,CsRep.keeps hk _ _ q4⟩
 | mp l=>
  unfold renHB at h;subst h;obtain⟨g,n,es,cl,r1,r2,r3⟩:=ho;exact⟨g,n,es,cl,e.symm.trans r1,hown g n (e.symm.trans r1) r2,r3⟩
 | darr e' sz rows=>
  unfold renHB at h;obtain⟨z,h,h1⟩:=renRows_out h;subst h;obtain⟨r0,r00,ob,n,r1,r2⟩:=ho;refine⟨r0,(rrows_row h1).2 r00,ob,n,e.symm.trans r1,?_⟩;have hl:=rrows_len h1;cases ob with
  | none=>subst r2;exact eq_nil_of_length_eq_zero hl.symm|some g=>
   obtain⟨q1,cur,q2,q3,q4⟩:=r2;rw[hl] at q3 q4;exact⟨hown g n (e.symm.trans r1) q1,cur,q2,q3,rep_rens hs hk (rrows_flat h1) q4⟩
end
theorem rr_mem {ρ:Ren}:∀{r r':Rf},RR ρ r r'->∀k b,(k,b)∈r->∃k' b',(k',b')∈r'/\fnL ρ k=some k'/\renHB ρ b (fun z=>z=b')
 | [],r',h,k,b,hm=>by cases hm
 | (q,c)::r,r',h,k,b,hm=>by
  obtain⟨k',b',r',rfl,h1,h2,h3⟩:=h;rcases mem_cons.1 hm with hm | hm
  ·cases hm;exact⟨k',b',mem_cons_self ..,h1,h2⟩
  ·obtain⟨k1,b1,g1,g2,g3⟩:=rr_mem h3 k b hm;exact⟨k1,b1,mem_cons_of_mem _ g1,g2,g3⟩
theorem rr_back {ρ:Ren}:∀{r r':Rf},RR ρ r r'->∀k' b',(k',b')∈r'->∃k b,(k,b)∈r/\fnL ρ k=some k'/\renHB ρ b (fun z=>z=b')
 | [],r',h,k',b',hm=>by cases h;cases hm
 | (q,c)::r,r',h,k',b',hm=>by
  obtain⟨k1,b1,r',rfl,h1,h2,h3⟩:=h;rcases mem_cons.1 hm with hm | hm
  ·cases hm;exact⟨q,c,mem_cons_self ..,h1,h2⟩
  ·obtain⟨k2,b2,g1,g2,g3⟩:=rr_back h3 k' b' hm;exact⟨k2,b2,mem_cons_of_mem _ g1,g2,g3⟩
theorem rr_append {ρ:Ren}:∀{a a' b b':Rf},RR ρ a a'->RR ρ b b'->RR ρ (a++b) (a'++b')
 | [],a',b,b',h,k=>by cases h;exact k
 | (q,c)::a,a',b,b',h,k=>by
  obtain⟨k1,b1,r',rfl,h1,h2,h3⟩:=h;exact⟨k1,b1,r'++b',rfl,h1,h2,rr_append h3 k⟩
theorem hpL_mem {k:Nat} {b:HB}:∀{lh:Rf},hpL lh k=some b->(k,b)∈lh
 | [],hb=>by cases hb
 | (k',b')::l,hb=>by
  unfold hpL at hb;cases hq:Nat.beq k k' with
  | true=>
   rw[hq,cond_true] at hb;cases hb;rw[eq_of_beq_eq_true hq];exact mem_cons_self ..
  | false=>rw[hq,cond_false] at hb;exact mem_cons_of_mem _ (hpL_mem hb)
theorem mem_hpL {k:Nat} {b:HB}:∀{lh:Rf},ndK lh=true->(k,b)∈lh->hpL lh k=some b
 | [],_,h=>by cases h
 | (q,c)::l,hn,h=>by
  unfold ndK at hn;simp only[Bool.and_eq_true] at hn;unfold hpL;rcases mem_cons.1 h with h | h
  ·cases h;rw[show Nat.beq k k=true from beq_refl k,cond_true]
  ·have:=all_eq_true.1 hn.1 _ h;simp only[Bool.not_eq_true'] at this;rw[this,cond_false];exact mem_hpL hn.2 h
theorem app_nones_out {k:Nat}:∀{rf:Rf} {h:Hp},(¬∃b,(k,b)∈rf)->Dl.app h (rf.map fun p=>(p.1,none)) k=h k
 | [],h,_=>rfl|(q,c)::r,h,hn=>by
  show Dl.app (upd h q none) (r.map fun p=>(p.1,none)) k=_;rw[app_nones_out fun ⟨b,hb⟩=>hn ⟨b,mem_cons_of_mem _ hb⟩,upd_ne _ _ fun e=>hn ⟨c,by rw[e];exact mem_cons_self ..⟩]
theorem app_nones_in {k:Nat}:∀{rf:Rf} {h:Hp},(h k=none\/∃b,(k,b)∈rf)->Dl.app h (rf.map fun p=>(p.1,none)) k=none
 | [],h,hm=>by
  rcases hm with hm | ⟨b,hm⟩
  ·exact hm
  ·cases hm
 | (q,c)::r,h,hm=>by
  show Dl.app (upd h q none) (r.map fun p=>(p.1,none)) k=_;refine app_nones_in ?_;by_cases hq:k=q
  ·subst hq;exact .inl (upd_same ..)
  ·rw[upd_ne _ _ hq];rcases hm with hm | ⟨b,hm⟩
   ·exact .inl hm
   ·rcases mem_cons.1 hm with hm | hm
    ·cases hm;exact absurd rfl hq
    ·exact .inr ⟨b,hm⟩
theorem app_somes_out {k:Nat}:∀{out:Rf} {h:Hp},(¬∃b,(k,b)∈out)->Dl.app h (out.map fun p=>(p.1,some p.2)) k=h k
 | [],h,_=>rfl|(q,c)::r,h,hn=>by
  show Dl.app (upd h q (some c)) (r.map fun p=>(p.1,some p.2)) k=_;rw[app_somes_out fun ⟨b,hb⟩=>hn ⟨b,mem_cons_of_mem _ hb⟩,upd_ne _ _ fun e=>hn ⟨c,by rw[e];exact mem_cons_self ..⟩]
theorem app_somes_in {k:Nat} {b:HB}:∀{out:Rf} {h:Hp},(∀b',(k,b')∈out->b'=b)->(k,b)∈out->Dl.app h (out.map fun p=>(p.1,some p.2)) k=some b
 | [],h,_,hm=>by cases hm
 | (q,c)::r,h,hu,hm=>by
  show Dl.app (upd h q (some c)) (r.map fun p=>(p.1,some p.2)) k=_;by_cases h1:∃b',(k,b')∈r
  ·obtain⟨b',hb'⟩:=h1;have:=hu b' (mem_cons_of_mem _ hb');subst this;exact app_somes_in (fun b2 h2=>hu b2 (mem_cons_of_mem _ h2)) hb'
  ·rcases mem_cons.1 hm with hm | hm
   ·cases hm;rw[app_somes_out h1,upd_same]
   ·exact absurd ⟨b,hm⟩ h1
theorem nd_apart {k:Nat} {b b':HB}:∀{r s:Rf},ndK (r++s)=true->(k,b)∈r->(k,b')∈s->False
 | [],s,_,h,_=>by cases h
 | (q,c)::r,s,hn,h1,h2=>by
  rw[cons_append] at hn;unfold ndK at hn;simp only[Bool.and_eq_true] at hn;rcases mem_cons.1 h1 with h1 | h1
  ·cases h1;have:=all_eq_true.1 hn.1 _ (mem_append_right _ h2);simp only[Bool.not_eq_true'] at this;exact beq_false_ne this rfl
  ·exact nd_apart hn.2 h1 h2
theorem app_append {δ1 δ2:Dl}:∀{h:Hp},Dl.app h (δ1++δ2)=Dl.app (Dl.app h δ1) δ2:=by
 induction δ1 with
 | nil=>intro h;rfl
 | cons p r ih=>intro h;obtain⟨k,b⟩:=p;exact ih
theorem hasK_mem {k:Nat} {r:Rf} (h:rfHas k r=true):∃b,(k,b)∈r:=by
 obtain⟨⟨q,b⟩,h1,h2⟩:=rfHas_in h;simp only at h2;subst h2;exact⟨b,h1⟩
section
variable {ρ:Ren} {rd rf rd' rf':Rf} {c:Ctx} {σ:Sg} {h:Hp} {w:World}
def sg0 (ρ:Ren) (σ:Sg):Sg:=fun k=>(fnL ρ k).bind σ
def extOf (τ:Sg) (r:Rf):Nat->Prop:=fun b=>∃k hb m,hpL r k=some hb/\τ k=some (some b,m)
def calleeC (c:Ctx) (ρ:Ren) (σ:Sg) (h:Hp) (w:World) (r:Rf):Ctx:=⟨w,fun b o=>fz c σ h w b o/\¬extOf (sg0 ρ σ) r b,extOf (sg0 ρ σ) r,fz c σ h w,sg0 ρ σ,[]⟩
theorem sg0_eq:SgEq ρ (sg0 ρ σ) σ:=fun k k' hq=>by unfold sg0;rw[hq];rfl
theorem ext_own {r r':Rf} (hr:RR ρ r r') (hs:SW c σ h w) (hin:∀p∈r',h p.1=some p.2) {b:Nat} (he:extOf (sg0 ρ σ) r b):c.own b/\b<w.heap.size/\∃k' hb m,(k',hb)∈r'/\σ k'=some (some b,m):=by
 obtain⟨k,hb,m,h1,h2⟩:=he;obtain⟨k',hb',g1,g2,g3⟩:=rr_mem hr k hb (hpL_mem h1);have h3:σ k'=some (some b,m):=(sg0_eq k k' g2).trans h2;have h4:=hb_block (hs.hp k' hb' (hin _ g1)) h3;exact⟨h4.2,h4.1,k',hb',m,g1,h3⟩
theorem callee_keeps {r r':Rf} (hr:RR ρ r r') (hc:c.Ok) (hs:SW c σ h w) (hin:∀p∈r',h p.1=some p.2):Keeps (fz c σ h w) (fz (calleeC c ρ σ h w r) (sg0 ρ σ) (hpL r) w) w w:=by
 refine⟨fun b o hf=>?_,fun _ _ _=>rfl⟩;have hlt:=fz_lt hs hf;by_cases he:extOf (sg0 ρ σ) r b
 ·refine .inr ⟨.inr he,hlt,fun k m hb hk hσ=>?_⟩;obtain⟨k',hb',g1,g2,g3⟩:=rr_mem hr k hb (hpL_mem hk);have h3:σ k'=some (some b,m):=(sg0_eq k k' g2).trans hσ;rw[hb_shut g3];rcases hf with ⟨f1,f2⟩ | ⟨f1,f2,f3⟩
  ·have:=(ext_own hr hs hin he).1;rcases this with q | q
   ·omega
   ·exact absurd q (hc.fz _ _ f2).2
  ·exact f3 k' m hb' (hin _ g1) h3
 ·exact .inl ⟨hlt,hf,he⟩
theorem sw_gl (hc:c.Ok) (hs:SW c σ h w):GL w:=GL_keep hc.gl fun b hb=>hs.block b (GL_lt hc.gl hb) (hc.gb b hb)
theorem callee_ok {r r':Rf} (hr:RR ρ r r') (hc:c.Ok) (hs:SW c σ h w) (hin:∀p∈r',h p.1=some p.2):(calleeC c ρ σ h w r).Ok:=⟨fun b o hf=>⟨fz_lt hs hf.1,hf.2⟩,sw_gl hc hs,fun b hb he=>by
 rcases (ext_own hr hs hin he).1 with q | q
 ·exact absurd (GL_lt hc.gl hb) (Nat.not_lt.2 q)
 ·exact hc.gb b hb q⟩
theorem callee_sw {r r':Rf} (ho:renOk ρ=true) (hr:RR ρ r r') (hc:c.Ok) (hs:SW c σ h w) (hin:∀p∈r',h p.1=some p.2):SW (calleeC c ρ σ h w r) (sg0 ρ σ) (hpL r) w where
 os:=rfl
 tape:=rfl
 output:=rfl
 size:=Nat.le_refl _
 block:=fun _ _ _=>rfl
 hp:=fun k hb hk=>by
  obtain⟨k',hb',g1,g2,g3⟩:=rr_mem hr k hb (hpL_mem hk);exact ren_hb sg0_eq (callee_keeps hr hc hs hin) g2 (fun g m hg _=>.inr ⟨k,hb,m,hk,hg⟩) g3 (hs.hp k' hb' (hin _ g1))
 inj:=fun k k2 g n n' h1 h2 h3 h4=>by
  cases hb:hpL r k with
  | none=>exact absurd hb h1|some b=>
   cases hb2:hpL r k2 with
   | none=>exact absurd hb2 h2|some b2=>
    obtain⟨q1,c1,g1,g2,_⟩:=rr_mem hr k b (hpL_mem hb);obtain⟨q2,c2,g3,g4,_⟩:=rr_mem hr k2 b2 (hpL_mem hb2);have e1:σ q1=some (some g,n):=(sg0_eq k q1 g2).trans h3;have e2:σ q2=some (some g,n'):=(sg0_eq k2 q2 g4).trans h4;have e3:h q1=some c1:=hin _ g1;have e4:h q2=some c2:=hin _ g3;have:=hs.inj q1 q2 g n n' (by rw[e3];simp) (by rw[e4];simp) e1 e2;subst this;exact ren_inj ho g2 g4
 kept:=callee_keeps hr hc hs hin
 shape:=Shape.refl _
 sg0:=fun _ _ h=>h
end
section
variable {P:Program} {f:FuncId} {c:Ctx} {σ:Sg} {h:Hp} {w:World}
theorem frame_world {ρ:Ren} {rd rf out rd' rf' out':Rf} {res0 res:PV}
  (hn:namesOk ρ rd rf out=true) (h1:RR ρ rd rd') (h2:RR ρ rf rf') (h3:RR ρ out out') (h4:renP ρ res0 (fun z=>z=res)) (hc:c.Ok) (hs:SW c σ h w)
  (hin:∀p∈rd'++rf',h p.1=some p.2) (hfr:Fresh σ (deltaOf rf' out') (rd'++rf')) :
  (calleeC c ρ σ h w (rd++rf)).Ok/\(∀k,k∉(rd++rf).map Prod.fst->sg0 ρ σ k=none)/\Keeps (fz c σ h w) (fz (calleeC c ρ σ h w (rd++rf)) (sg0 ρ σ) (hpL (rd++rf)) w) w w/\SW (calleeC c ρ σ h w (rd++rf)) (sg0 ρ σ) (hpL (rd++rf)) w/\
   ∀(τ:Sg) (w':World) (v:Value),SW (calleeC c ρ σ h w (rd++rf)) τ (hpL (rd++out)) w'->PRep τ (fz (calleeC c ρ σ h w (rd++rf)) τ (hpL (rd++out)) w') w' res0 v->
    ∃σ',Evo σ σ' (fz c σ h w) (fz c σ' (Dl.app h (deltaOf rf' out')) w') w w'/\SW c σ' (Dl.app h (deltaOf rf' out')) w'/\
     PRep σ' (fz c σ' (Dl.app h (deltaOf rf' out')) w') w' res v/\∀k,k∉Dl.keys (deltaOf rf' out')->σ k=none->σ' k=none:=by
 unfold namesOk at hn;simp only[Bool.and_eq_true] at hn;obtain⟨ho,hn1,hn2,hn3⟩:=hn;have hr:=rr_append h1 h2;have hro:=rr_append h1 h3;obtain⟨C,hC⟩:∃C,C=calleeC c ρ σ h w (rd++rf):=⟨_,rfl⟩;have hCw:C.w0=w:=by rw[hC];rfl
 have hCσ:C.σ0=sg0 ρ σ:=by rw[hC];rfl
 have hCF:C.F1=fz c σ h w:=by rw[hC];rfl
 have hCF0:∀b o,C.F0 b o↔fz c σ h w b o/\¬C.ext b:=by rw[hC];exact fun _ _=>Iff.rfl
 have hCe:∀b,C.ext b->c.own b/\b<w.heap.size/\∃k' hb m,(k',hb)∈rd'++rf'/\σ k'=some (some b,m):=by
  intro b hb;rw[hC] at hb;exact ext_own hr hs hin hb
 have hCn:C.n0=w.heap.size:=by show C.w0.heap.size=_;rw[hCw]
 have hCk:=callee_keeps hr hc hs hin;have hCs:=callee_sw ho hr hc hs hin;have hCo:C.Ok:=by rw[hC];exact callee_ok hr hc hs hin
 rw[<- hC] at hCk hCs;have hCfr:∀k,k∉(rd++rf).map Prod.fst->C.σ0 k=none:=by
  intro k hk;rw[hCσ];unfold sg0;cases hq:fnL ρ k with
  | none=>rfl|some k'=>
   have hmem:=fnL_mem hq;obtain⟨bb,hbb⟩:=hasK_mem (all_eq_true.1 hn3 _ hmem);have hno:∀b,(k,b)∉rd++rf:=fun b hb=>hk (mem_map.2 ⟨(k,b),hb,rfl⟩);have hbo:(k,bb)∈out:=by
    rcases mem_append.1 hbb with q | q
    ·exact absurd (mem_append_left _ q) (hno bb)
    ·rcases mem_append.1 q with q | q
     ·exact absurd (mem_append_right _ q) (hno bb)
     ·exact q
   obtain⟨k2,b2,g1,g2,_⟩:=rr_mem h3 k bb hbo;rw[hq] at g2;cases g2;refine hfr k' ?_ ?_
   ·unfold Dl.keys deltaOf;rw[map_append,mem_append];exact .inr (mem_map.2 ⟨(k',some b2),mem_map.2 ⟨(k',b2),g1,rfl⟩,rfl⟩)
   ·rintro⟨q,b⟩ hp' he;simp only at he;subst he;obtain⟨q2,c2,p1,p2,_⟩:=rr_back hr q b hp';have:=ren_inj ho hq p2;subst this;exact hno c2 p1
 rw[<- hC];refine⟨hCo,fun k hk=>by rw[<- hCσ];exact hCfr k hk,hCk,hCs,?_⟩;intro τ w' v hs' hp';obtain⟨h',hh'⟩:∃h',h'=Dl.app h (deltaOf rf' out'):=⟨_,rfl⟩;rw[<- hh'];have hout:∀k b,(k,b)∈rd'++out'->h' k=some b:=by
  intro k b hm;rw[hh'];unfold deltaOf;rw[app_append];have uniq:∀b',(k,b')∈rd'++out'->b'=b:=by
   intro b' hm';obtain⟨q1,c1,p1,p2,p3⟩:=rr_back hro k b hm;obtain⟨q2,c2,p4,p5,p6⟩:=rr_back hro k b' hm';obtain rfl:=ren_inj ho p2 p5;have e1:=mem_hpL hn2 p1;have e2:=mem_hpL hn2 p4;rw[e1] at e2;cases e2;obtain⟨z,z1,z2⟩:=renHB_out p3;have:∀(x y:HB),renHB ρ c1 (fun z=>z=x)->renHB ρ c1 (fun z=>z=y)->x=y:=by
    intro x y hx hy;cases c1 with
    | box bt l=>
     unfold renHB at hx hy;obtain⟨m1,rfl,g1⟩:=renDs_out hx;obtain⟨m2,rfl,g2⟩:=renDs_out hy;have:=rens_fun g1 g2;rw[this]
    | tail e sz=>unfold renHB at hx hy;rw[<- hx,<- hy]|arr e sz rows=>unfold renHB at hx hy;rw[<- hx,<- hy]|mp l=>unfold renHB at hx hy;rw[<- hx,<- hy]|darr e sz rows=>
     unfold renHB at hx hy;obtain⟨m1,rfl,g1⟩:=renRows_out hx;obtain⟨m2,rfl,g2⟩:=renRows_out hy;have:=rrows_fun g1 g2;rw[this]
   exact this _ _ p6 p3
  by_cases hm2:(k,b)∈out'
  ·exact app_somes_in (fun b' h=>uniq b' (mem_append_right _ h)) hm2
  ·have hmd:(k,b)∈rd':=by
    rcases mem_append.1 hm with h | h
    ·exact h
    ·exact absurd h hm2
   rw[app_somes_out,app_nones_out]
   ·exact hin _ (mem_append_left _ hmd)
   ·rintro⟨b',hb'⟩;obtain⟨q1,c1,p1,p2,_⟩:=rr_back h1 k b hmd;obtain⟨q2,c2,p3,p4,_⟩:=rr_back h2 k b' hb';obtain rfl:=ren_inj ho p2 p4;exact nd_apart hn1 p1 p3
   ·rintro⟨b',hb'⟩;obtain rfl:=uniq b' (mem_append_right _ hb');exact hm2 hb'
 have hgone:∀k,(∃b,(k,b)∈rf')->(¬∃b,(k,b)∈out')->h' k=none:=by
  intro k hk hno;rw[hh'];unfold deltaOf;rw[app_append,app_somes_out hno];exact app_nones_in (.inr hk)
 have helse:∀k,(¬∃b,(k,b)∈rf')->(¬∃b,(k,b)∈out')->h' k=h k:=by
  intro k hk hno;rw[hh'];unfold deltaOf;rw[app_append,app_somes_out hno,app_nones_out hk]
 obtain⟨σ1,hσ1⟩:∃σ1:Sg,σ1=fun k=>match fnL (swapR ρ) k with | some j=>τ j | none=>σ k:=⟨_,rfl⟩
 have heq:SgEq ρ τ σ1:=by
  intro j k hq;rw[hσ1];simp only[mem_inv ho (fnL_mem hq)]
 have hsg:∀k x,σ k=some x->σ1 k=some x:=by
  intro k x hk;rw[hσ1];simp only;cases hq:fnL (swapR ρ) k with
  | none=>exact hk|some j=>
   refine hs'.sg0 j x ?_;rw[hCσ,<- sg0_eq j k (mem_fnL ho (inv_mem hq))];exact hk
 have hother:∀k,(fnL (swapR ρ) k=none)->σ1 k=σ k:=by intro k hk;rw[hσ1];simp only[hk]
 have hcase:∀k b,h' k=some b->(∃j b0,(j,b0)∈rd++out/\fnL ρ j=some k/\renHB ρ b0 (fun z=>z=b))\/((¬∃b,(k,b)∈rd'++rf')/\h k=some b/\σ1 k=σ k):=by
  intro k b hk;by_cases hm:∃b',(k,b')∈rd'++out'
  ·obtain⟨b',hm⟩:=hm;have:=hout k b' hm;rw[hk] at this;cases this;exact .inl (rr_back hro k b hm)
  ·have hno:¬∃b,(k,b)∈out':=fun ⟨b',q⟩=>hm ⟨b',mem_append_right _ q⟩;have hnd:¬∃b,(k,b)∈rd':=fun ⟨b',q⟩=>hm ⟨b',mem_append_left _ q⟩;by_cases hf:∃b',(k,b')∈rf'
   ·rw[hgone k hf hno] at hk;cases hk
   ·rw[helse k hf hno] at hk;refine .inr ⟨?_,hk,hother k ?_⟩
    ·rintro⟨b',q⟩;rcases mem_append.1 q with q | q
     ·exact hnd ⟨b',q⟩
     ·exact hf ⟨b',q⟩
    ·cases hq:fnL (swapR ρ) k with
     | none=>rfl|some j=>
      exfalso;have hmem:=inv_mem hq;have hall:=all_eq_true.1 hn3 _ hmem;obtain⟨bb,hbb⟩:=hasK_mem hall;have hjk:=mem_fnL ho hmem;rcases mem_append.1 hbb with q | q
      ·obtain⟨k2,b2,g1,g2,_⟩:=rr_mem h1 j bb q;rw[hjk] at g2;cases g2;exact hnd ⟨b2,g1⟩
      ·rcases mem_append.1 q with q | q
       ·obtain⟨k2,b2,g1,g2,_⟩:=rr_mem h2 j bb q;rw[hjk] at g2;cases g2;exact hf ⟨b2,g1⟩
       ·obtain⟨k2,b2,g1,g2,_⟩:=rr_mem h3 j bb q;rw[hjk] at g2;cases g2;exact hno ⟨b2,g1⟩
 have hapart:∀k b g m,(¬∃b,(k,b)∈rd'++rf')->h k=some b->σ k=some (some g,m)->g<w.heap.size/\¬C.ext g:=by
  intro k b g m hno hk hσ;refine⟨(hb_block (hs.hp k b hk) hσ).1,fun he=>?_⟩;obtain⟨_,_,k2,b2,m2,p1,p2⟩:=hCe g he;have:=hs.inj k k2 g m m2 (by rw[hk];simp) (by rw[hin _ p1];simp) hσ p2;subst this;exact hno ⟨b2,p1⟩
 have hkept:Keeps (fz c σ h w) (fz C τ (hpL (rd++out)) w') w w':=by
  have:=hs'.kept;rw[hCF,hCw] at this;exact this
 have hshape:Shape w w':=by have:=hs'.shape;rw[hCw] at this;exact this
 have hsize:w.heap.size<=w'.heap.size:=by have:=hs'.size;rw[hCn] at this;exact this
 have hkeys:∀b o,fz C τ (hpL (rd++out)) w' b o->C.own b->∀k m hb,h' k=some hb->σ1 k=some (some b,m)->hb.shut m o:=by
  intro b o hf hown k m hb hk hσ;rcases hcase k hb hk with ⟨j,b0,p1,p2,p3⟩ | ⟨p1,p2,p3⟩
  ·rw[<- hb_shut p3];rcases hf with ⟨f1,f2⟩ | ⟨f1,f2,f3⟩
   ·rcases hown with q | q
    ·rw[hCn] at f1 q;omega
    ·exact absurd q (hCo.fz _ _ f2).2
   ·exact f3 j m b0 (mem_hpL hn2 p1) ((heq j k p2).symm.trans hσ)
  ·rw[p3] at hσ;obtain⟨q1,q2⟩:=hapart k hb b m p1 p2 hσ;rcases hown with q | q
   ·rw[hCn] at q;omega
   ·exact absurd q q2
 have hle:∀b o,fz C τ (hpL (rd++out)) w' b o->(C.own b\/fz c σ h w b o)->fz c σ1 h' w' b o:=by
  intro b o hf hor;by_cases hown:C.own b
  ·have hcown:c.own b:=by
    rcases hown with q | q
    ·rw[hCn] at q;exact .inl (le_trans hs.size q)
    ·exact (hCe b q).1
   have hlt:b<w'.heap.size:=fz_lt hs' hf;exact .inr ⟨hcown,hlt,hkeys b o hf hown⟩
  ·rcases hor with q | q
   ·exact absurd q hown
   ·rcases q with q | ⟨f1,f2,f3⟩
    ·exact .inl q
    ·refine .inr ⟨f1,lt_of_lt_of_le f2 hsize,fun k m hb hk hσ=>?_⟩;rcases hcase k hb hk with ⟨j,b0,p1,p2,p3⟩ | ⟨p1,p2,p3⟩
     ·exfalso;have e1:τ j=some (some b,m):=(heq j k p2).symm.trans hσ;exact hown (hb_block (hs'.hp j b0 (mem_hpL hn2 p1)) e1).2
     ·rw[p3] at hσ;exact f3 k m hb p2 hσ
 have ev:Evo σ σ1 (fz c σ h w) (fz c σ1 h' w') w w':=⟨hsg,⟨fun b o hf=>hle b o (hkept.le _ _ hf) (.inr hf),hkept.cell⟩,hshape⟩;have hk2:Keeps (fz C τ (hpL (rd++out)) w') (fz c σ1 h' w') w' w':=by
  refine⟨fun b o hf=>hle b o hf ?_,fun _ _ _=>rfl⟩;rcases hf with ⟨f1,f2⟩ | ⟨f1,_⟩
  ·exact .inr ((hCF0 b o).1 f2).1
  ·exact .inl f1
 have hblk:∀g,g<w.heap.size->¬C.ext g->w'.heap[g]? = w.heap[g]?:=by
  intro g g1 g2;have:=hs'.block g (by rw[hCn];exact g1) g2;rw[hCw] at this;exact this
 refine⟨σ1,ev,?_,renP_rep heq hk2 h4 hp',?_⟩
 ·refine⟨by rw[hs'.os,hCw,hs.os],by rw[hs'.tape,hCw,hs.tape],by rw[hs'.output,hCw,hs.output],le_trans hs.size hsize,fun b b1 b2=>?_,fun k hb hk=>?_,fun k1 k2 g n1 n2 a1 a2 a3 a4=>?_,hs.kept.trans ev.keeps,hs.shape.trans ev.shape,fun k x hk=>hsg _ _ (hs.sg0 k x hk)⟩
  ·rw[hblk b (lt_of_lt_of_le b1 hs.size) fun he=>?_]
   ·exact hs.block b b1 b2
   ·rcases (hCe b he).1 with q | q
    ·omega
    ·exact b2 q
  ·rcases hcase k hb hk with ⟨j,b0,p1,p2,p3⟩ | ⟨p1,p2,p3⟩
   ·refine hb_ren heq hk2 p2 (fun g m _ hown=>?_) p3 (hs'.hp j b0 (mem_hpL hn2 p1));rcases hown with q | q
    ·rw[hCn] at q;exact .inl (le_trans hs.size q)
    ·exact (hCe g q).1
   ·exact (hs.hp k hb p2).evo ev fun g m hg=>by
     obtain⟨q1,q2⟩:=hapart k hb g m p1 p2 hg;exact hblk g q1 q2
  ·cases hb1:h' k1 with
   | none=>exact absurd hb1 a1|some b1=>
    cases hb2:h' k2 with
    | none=>exact absurd hb2 a2|some b2=>
     have mix:∀{ka kb:Nat} {ba bb:HB} {na nb:Nat},(∃j b0,(j,b0)∈rd++out/\fnL ρ j=some ka/\renHB ρ b0 (fun z=>z=ba))->((¬∃b,(kb,b)∈rd'++rf')/\h kb=some bb/\σ1 kb=σ kb)->σ1 ka=some (some g,na)->σ1 kb=some (some g,nb)->False:=by
      rintro ka kb ba bb na nb ⟨j,b0,p1,p2,p3⟩ ⟨p4,p5,p6⟩ e1 e2;rw[p6] at e2;obtain⟨q1,q2⟩:=hapart kb bb g nb p4 p5 e2;have e3:τ j=some (some g,na):=(heq j ka p2).symm.trans e1;rcases (hb_block (hs'.hp j b0 (mem_hpL hn2 p1)) e3).2 with q | q
      ·rw[hCn] at q;omega
      ·exact q2 q
     rcases hcase k1 b1 hb1 with c1 | c1
     ·rcases hcase k2 b2 hb2 with c2 | c2
      ·obtain⟨j1,d1,p1,p2,_⟩:=c1;obtain⟨j2,d2,p4,p5,_⟩:=c2;have e1:τ j1=some (some g,n1):=(heq j1 k1 p2).symm.trans a3;have e2:τ j2=some (some g,n2):=(heq j2 k2 p5).symm.trans a4;have:=hs'.inj j1 j2 g n1 n2 (by rw[mem_hpL hn2 p1];simp) (by rw[mem_hpL hn2 p4];simp) e1 e2;subst this;rw[p2] at p5;exact Option.some.inj p5
      ·exact (mix c1 c2 a3 a4).elim
     ·rcases hcase k2 b2 hb2 with c2 | c2
      ·exact (mix c2 c1 a4 a3).elim
      ·rw[c1.2.2] at a3;rw[c2.2.2] at a4;exact hs.inj k1 k2 g n1 n2 (by rw[c1.2.1];simp) (by rw[c2.2.1];simp) a3 a4
 ·intro k hk hσ;cases hq:fnL (swapR ρ) k with
  | none=>rw[hother k hq];exact hσ|some j=>
   exfalso;have hmem:=inv_mem hq;have hjk:=mem_fnL ho hmem;obtain⟨bb,hbb⟩:=hasK_mem (all_eq_true.1 hn3 _ hmem);have there:∀b',(k,b')∈rd'++rf'->False:=fun b' q=>hb_sg (hs.hp k b' (hin _ q)) hσ;rcases mem_append.1 hbb with q | q
   ·obtain⟨k2,b2,g1,g2,_⟩:=rr_mem h1 j bb q;rw[hjk] at g2;cases g2;exact there b2 (mem_append_left _ g1)
   ·rcases mem_append.1 q with q | q
    ·obtain⟨k2,b2,g1,g2,_⟩:=rr_mem h2 j bb q;rw[hjk] at g2;cases g2;exact there b2 (mem_append_right _ g1)
    ·obtain⟨k2,b2,g1,g2,_⟩:=rr_mem h3 j bb q;rw[hjk] at g2;cases g2;refine hk ?_;unfold Dl.keys deltaOf;rw[map_append,mem_append];refine .inr (mem_map.2 ⟨(k,some b2),mem_map.2 ⟨(k,b2),g1,rfl⟩,rfl⟩)
theorem frame_gen {E:Ending->Value->Prop} {ρ:Ren} {args0 args:List PV} {rd rf out rd' rf' out':Rf} {res0 res:PV} {vs:List Value}
  (hcs:∀(c:Ctx) (vs:List Value),c.Ok->c.df=[]->(∀k,k∉(rd++rf).map Prod.fst->c.σ0 k=none)->SW c c.σ0 (hpL (rd++rf)) c.w0->PsRep c.σ0 (fz c c.σ0 (hpL (rd++rf)) c.w0) c.w0 args0 vs->
   Calls P f vs.toArray c.w0 fun e w'=>∃v σ',E e v/\SW c σ' (hpL (rd++out)) w'/\PRep σ' (fz c σ' (hpL (rd++out)) w') w' res0 v)
  (hn:namesOk ρ rd rf out=true) (ha:renPs ρ args0 (fun z=>z=args))
  (h1:RR ρ rd rd') (h2:RR ρ rf rf') (h3:RR ρ out out') (h4:renP ρ res0 (fun z=>z=res)) (hc:c.Ok) (hs:SW c σ h w) (hx:PsRep σ (fz c σ h w) w args vs)
  (hin:∀p∈rd'++rf',h p.1=some p.2) (hfr:Fresh σ (deltaOf rf' out') (rd'++rf')) :
  Calls P f vs.toArray w fun e w'=>∃v σ',E e v/\Evo σ σ' (fz c σ h w) (fz c σ' (Dl.app h (deltaOf rf' out')) w') w w'/\SW c σ' (Dl.app h (deltaOf rf' out')) w'/\
   PRep σ' (fz c σ' (Dl.app h (deltaOf rf' out')) w') w' res v/\∀k,k∉Dl.keys (deltaOf rf' out')->σ k=none->σ' k=none:=by
 obtain⟨hCo,hCfr,hCk,hCs,fin⟩:=frame_world hn h1 h2 h3 h4 hc hs hin hfr;refine (hcs _ vs hCo rfl hCfr hCs (rep_renPs sg0_eq hCk ha hx)).mono ?_;rintro en w' ⟨v,τ,hE,hs',hp'⟩;obtain⟨σ',q1,q2,q3,q4⟩:=fin τ w' v hs' hp';exact⟨v,σ',hE,q1,q2,q3,q4⟩
theorem callS_frame {ρ:Ren} {args0 args:List PV} {rd rf out rd' rf' out':Rf} {res0 res:PV} {vs:List Value} (hcs:CallS P f args0 rd rf res0 out) (hn:namesOk ρ rd rf out=true) (ha:renPs ρ args0 (fun z=>z=args))
  (h1:RR ρ rd rd') (h2:RR ρ rf rf') (h3:RR ρ out out') (h4:renP ρ res0 (fun z=>z=res)) (hc:c.Ok) (hs:SW c σ h w) (hx:PsRep σ (fz c σ h w) w args vs)
  (hin:∀p∈rd'++rf',h p.1=some p.2) (hfr:Fresh σ (deltaOf rf' out') (rd'++rf')) :
  Calls P f vs.toArray w fun e w'=>∃v σ',e=.returned v/\Evo σ σ' (fz c σ h w) (fz c σ' (Dl.app h (deltaOf rf' out')) w') w w'/\SW c σ' (Dl.app h (deltaOf rf' out')) w'/\
   PRep σ' (fz c σ' (Dl.app h (deltaOf rf' out')) w') w' res v/\∀k,k∉Dl.keys (deltaOf rf' out')->σ k=none->σ' k=none:=by
 exact frame_gen (E:=fun e v=>e=.returned v) hcs.2 hn ha h1 h2 h3 h4 hc hs hx hin hfr
theorem app_drop {h:Hp}:∀{r:Rf},Dl.app h (deltaOf r [])=dropK h r:=by
 intro r
 funext k
 unfold dropK;have e1:deltaOf r []=r.map fun p=>(p.1,none):=by unfold deltaOf;simp
 rw[e1];split
 ·rename_i hk;obtain⟨p,h1,h2⟩:=rfHas_in hk;exact app_nones_in (.inr ⟨p.2,by rw[<- h2];exact h1⟩)
 ·rename_i hk;exact app_nones_out fun ⟨b,hb⟩=>rfHas_out hk (k,b) hb rfl
theorem callX_frame {ρ:Ren} {args0 args:List PV} {rd rd':Rf} {x:Value} {vs:List Value} (hcx:CallX P f args0 rd x) (hn:namesOk ρ rd [] []=true) (ha:renPs ρ args0 (fun z=>z=args)) (h1:RR ρ rd rd') (hc:c.Ok) (hs:SW c σ h w)
  (hx:PsRep σ (fz c σ h w) w args vs) (hin:∀p∈rd',h p.1=some p.2):Calls P f vs.toArray w fun e w'=>e=.panicked [{ v:=x,recovered:=false }]/\
   ∃σ',Evo σ σ' (fz c σ h w) (fz c σ' (dropK h rd') w') w w'/\SW c σ' (dropK h rd') w'/\∀k,σ k=none->σ' k=none:=by
 have hn':namesOk ρ [] rd []=true:=by
  unfold namesOk at hn ⊢;simpa [ndK] using hn
 have:=frame_gen (E:=fun e _=>e=.panicked [{ v:=x,recovered:=false }]) (ρ:=ρ) (rd:=[]) (rf:=rd) (out:=[]) (rd':=[]) (rf':=rd') (out':=[]) (res0:=.any) (res:=.any) (P:=P) (f:=f)
  (fun c vs hc hdf hfr hs hargs=>by
   rw[nil_append] at hfr hs hargs;refine (hcx.2 c vs hc hdf hfr hs hargs).mono ?_;rintro e w' ⟨rfl,σ',hs'⟩;exact⟨undef,σ',rfl,hs',by unfold PRep;trivial⟩) hn' ha (by unfold RR;trivial) h1 (by unfold RR;trivial) (by show _=_;rfl) hc hs hx (by simpa using hin) (fun k hk hp=>by
    exfalso;unfold Dl.keys deltaOf at hk;simp only[map_nil,List.append_nil,map_map] at hk;obtain⟨p,q1,q2⟩:=mem_map.1 hk;exact hp p (by simpa using q1) q2)
 refine this.mono ?_;rintro e w' ⟨v,σ',he,ev,hsw,_,hfr⟩;rw[app_drop] at ev hsw;refine⟨he,σ',ev,hsw,fun k hk=>?_⟩;by_cases hin2:k∈Dl.keys (deltaOf rd' [])
 ·exfalso;unfold Dl.keys deltaOf at hin2;simp only[map_nil,List.append_nil,map_map] at hin2;obtain⟨p,q1,q2⟩:=mem_map.1 hin2;exact hb_sg (hs.hp k p.2 (by rw[<- q2];exact hin p q1)) hk
 ·exact hfr k hin2 hk
end
end Go.Proofs.Ytdjbckknghddpaa.Pm
namespace Go.Proofs.Ytdjbckknghddpaa.Pm
open Go.RowKit
theorem rowsSz_out {x:PV} {sz:Nat} {K:List (List C)->Prop} (h:PV.rowsOf x sz K):∃l,K l/\((x=.d (.c (.v (.slice none 0 0)))\/∃a c,x=.d (.c (.v (.slice (some a) 0 c))))/\l=[]\/x=.d (.c (.sl sz l))\/∃k e,x=.d (.app k e sz l)):=by
 unfold PV.rowsOf at h;split at h
 ·split at h
  ·rename_i e;obtain rfl:=eq_of_beq_eq_true e;exact⟨_,h,.inr (.inl rfl)⟩
  ·exact h.elim
 ·split at h
  ·rename_i e;obtain rfl:=eq_of_beq_eq_true e;exact⟨_,h,.inr (.inr ⟨_,_,rfl⟩)⟩
  ·exact h.elim
 ·exact⟨_,h,.inl ⟨.inl rfl,rfl⟩⟩
 ·exact⟨_,h,.inl ⟨.inr ⟨_,_,rfl⟩,rfl⟩⟩
 ·exact h.elim
def Src (F:Fzn) (w:World) (sz:Nat) (m:List (List C)) (u:Value):Prop:=
 (u=.slice none 0 0/\m=[])\/∃ad cap vs,u=.slice (some ad) m.length cap/\CsRep F w m.flatten vs/\(∀r∈m,r.length=sz)/\vs.length=m.length*sz/\∀j v,vs[j]? = some v->w.cell? (ad.add j)=some v
theorem src_val {σ:Sg} {F:Fzn} {w:World} {x:PV} {m:List (List C)} {sz:Nat} (hx:(x=.d (.c (.v (.slice none 0 0)))\/∃a c,x=.d (.c (.v (.slice (some a) 0 c))))/\m=[]\/x=.d (.c (.sl sz m))\/∃k e,x=.d (.app k e sz m))
  {u:Value} (h:PRep σ F w x u):Src F w sz m u:=by
 rcases hx with ⟨rfl | ⟨a,c,rfl⟩,rfl⟩ | hx
 ·exact .inl ⟨rep_v h,rfl⟩
 ·exact .inr ⟨a,c,[],rep_v h,csRep_nil,by simp,by simp,by simp⟩
 ·obtain⟨a,cap,rfl,h1,h2,h3,h4⟩:=rows_val hx h;cases a with
  | none=>
   have:=h3 rfl;subst this;have:m=[]:=eq_nil_of_length_eq_zero (by omega);subst this;exact .inl ⟨rfl,rfl⟩
  | some ad=>
   refine .inr ⟨ad,cap,?_⟩;rcases h4 with rfl | ⟨b,off,hab,h5⟩
   ·exact⟨[],rfl,csRep_nil,by simp,by simp,by simp⟩
   ·obtain rfl:=Option.some.inj hab;have h6:=rowsAt_iff.1 h5;obtain⟨vs,g1,g2,g3⟩:=csAt_values h6.2;exact⟨vs,rfl,g1,h6.1,by rw[g1.len,flatten_len h6.1],fun j v hv=>by rw[Addr.add_mid];exact g2 j v hv⟩
theorem Src.keeps {F F':Fzn} {w:World} {sz:Nat} {m:List (List C)} {u:Value} (hk:Keeps F F' w w) (h:Src F w sz m u):Src F' w sz m u:=by
 rcases h with h | ⟨ad,cap,vs,h1,h2,h3⟩
 ·exact .inl h
 ·exact .inr ⟨ad,cap,vs,h1,CsRep.keeps hk _ _ h2,h3⟩
theorem grown_size {z:Value} {sz:Nat} (hz:z.cells.size=sz) (xs:List Value) (n cap:Nat) (hx:xs.length=n*sz) (hc:n<=cap):(xs.toArray++Builtin.zeroCells z.cells (cap - n)).size=cap*sz:=by
 rw[Array.size_append,size_zeroCells,size_toArray,hx,hz,<- add_mul]
 congr 1;omega
section
variable {P:Program} {c:Ctx} {σ:Sg} {h:Hp} {w:World}
theorem nil_tail (hs:SW c σ h w) {key:Nat} (h0:σ key=none) {e sz:Nat} (hsz:0<sz) :
  Evo σ (upd σ key (some (none,0))) (fz c σ h w) (fz c (upd σ key (some (none,0))) (upd h key (some (.tail e sz))) w) w w/\SW c (upd σ key (some (none,0))) (upd h key (some (.tail e sz))) w/\
  PRep (upd σ key (some (none,0))) (fz c (upd σ key (some (none,0))) (upd h key (some (.tail e sz))) w) w (.d (.app key e sz [])) (.slice none 0 0):=by
 have ev:Evo σ (upd σ key (some (none,0))) (fz c σ h w) (fz c (upd σ key (some (none,0))) (upd h key (some (.tail e sz))) w) w w:=by
  refine⟨fun k' x' hx'=>?_,⟨fun b o' hf=>?_,fun _ _ _=>rfl⟩,fun g cur e fr hg=>⟨cur,fr,hg,rfl⟩⟩
  ·rw[upd_ne _ _ (fun e=>by rw[e,h0] at hx';cases hx')];exact hx'
  ·refine hf.imp id fun ⟨f1,f2,f3⟩=>⟨f1,f2,fun k2 n2 hb2 hk2 hσ2=>?_⟩;by_cases q:k2=key
   ·subst q;rw[upd_same] at hσ2;cases hσ2
   ·rw[upd_ne _ _ q] at hk2 hσ2;exact f3 k2 n2 hb2 hk2 hσ2
 refine⟨ev,⟨hs.os,hs.tape,hs.output,hs.size,hs.block,fun k2 hb2 hk2=>?_,fun k1 k2 g2 n1 n2 a1 a2 a3 a4=>?_,hs.kept.trans ev.keeps,hs.shape,fun k x hk=>ev.sg _ _ (hs.sg0 k x hk)⟩,?_⟩
 ·by_cases q:k2=key
  ·subst q;rw[upd_same] at hk2;cases hk2;exact⟨hsz,none,0,upd_same ..,rfl⟩
  ·rw[upd_ne _ _ q] at hk2;exact (hs.hp k2 hb2 hk2).evo ev fun _ _ _=>rfl
 ·by_cases q:k1=key
  ·subst q;rw[upd_same] at a3;cases a3
  ·by_cases q2:k2=key
   ·subst q2;rw[upd_same] at a4;cases a4
   ·rw[upd_ne _ _ q] at a1 a3;rw[upd_ne _ _ q2] at a2 a4;exact hs.inj k1 k2 g2 n1 n2 a1 a2 a3 a4
 ·unfold PRep DRep;exact⟨hsz,.inl ⟨upd_same ..,rfl,rfl⟩⟩
def Grown (c:Ctx) (σ:Sg) (h h':Hp) (w:World) (key e sz:Nat) (l:List (List C)) (u:Value) (w':World):Prop:=
 ∃σ',Evo σ σ' (fz c σ h w) (fz c σ' h' w') w w'/\SW c σ' h' w'/\PRep σ' (fz c σ' h' w') w' (.d (.app key e sz l)) u/\∀k,k≠key->σ k=none->σ' k=none
theorem fresh_upd {key:Nat} (x:Option (Option Nat×Nat)):∀k,k≠key->σ k=none->(upd σ key x) k=none:=by
 intro k hk hn;rw[upd_ne _ _ hk];exact hn
theorem grown_new (hs:SW c σ h w) {key:Nat} (h0:σ key=none) {e sz cap:Nat} {z:Value} (hz:z.cells.size=sz) (hsz:0<sz) {l:List (List C)} {us:List Value} (hl:∀r∈l,r.length=sz)
  (hus:CsRep (fz c σ h w) w l.flatten us) (hul:us.length=l.length*sz) (hc1:l.length<=cap) (hc2:cap<=maxLen) :
  Grown c σ h (upd h key (some (.tail e sz))) w key e sz l (.slice (some ⟨w.heap.size,0,none⟩) l.length cap) (w.drew.alloc (.cells (us.toArray++Builtin.zeroCells z.cells (cap - l.length)) e)):=by
 have hb:Below w.heap.size w w.drew:=(Below.refl _ _).drew;have hs2:=sw_below hs hb;have he2:=evo_below hs hb;obtain⟨b1,b2,b3⟩:=new_tail (e:=e) (cap:=cap) (cs:=us.toArray++Builtin.zeroCells z.cells (cap - l.length)) hs2 h0 hsz hl (CsRep.keeps he2.keeps _ _ hus) hc1 hc2 (grown_size hz us _ cap hul hc1) (by rw[Array.toList_append,<- hul];exact take_left);exact⟨_,he2.trans b1,b2,b3,fresh_upd _⟩
theorem append_room0 {P:Program} {w:World} {t t2 ty el:TypeId} {i:TypeInfo} {d:TypeDesc} (hu:P.underlying t=some (.slice el)) (hu2:P.underlying t2=some d) (hd:d=.slice el\/d=.string) (hi:P.info? el=some i) (a:Addr) {u:Value} {n:Nat} (hn:0<n)
  (hl:(Builtin.lenOf u).run P w=.ok n w) (hroom:n*i.bytes<=140737488355328) (hby:0<i.bytes) :
  (Builtin.append_ #[t,t2] ty #[.slice (some a) 0 0,u]).run P w=(Builtin.append_ #[t,t2] ty #[.slice none 0 0,u]).run P w:=by
 have h1:Builtin.nextslicecap n 0=n:=by unfold Builtin.nextslicecap;rw[if_pos (by omega)]
 have h2:¬281474976710656<n*i.bytes:=by omega
 have h3:¬n=0:=by omega
 have h5:¬i.bytes=0:=by omega
 rcases hd with rfl | rfl
 ·simp[Builtin.append_,run_underlying hu,run_underlying hu2,sizeOf,typeInfo,hi,hl,h1,h2,h3,h5,Builtin.firstCells,loadCells,loadCellsFrom]
 ·simp[Builtin.append_,run_underlying hu,run_underlying hu2,sizeOf,typeInfo,hi,hl,h1,h2,h3,h5,Builtin.firstCells,loadCells,loadCellsFrom]
theorem append_nil (hs:SW c σ h w) {key:Nat} (h0:σ key=none) {t ty el:TypeId} {i:TypeInfo} {z:Value} (hu:P.underlying t=some (.slice el)) (hi:P.info? el=some i) (hz:i.zero=some z) (hzs:z.cells.size=i.size)
  (hsz:0<i.size) (hby:0<i.bytes) {m:List (List C)} {u:Value} (hx:Src (fz c σ h w) w i.size m u) (hroom:m.length*i.bytes<=140737488355328) :
  ∃v w',(Builtin.append_ #[t,t] ty #[.slice none 0 0,u]).run P w=.ok v w'/\Grown c σ h (upd h key (some (.tail el i.size))) w key el i.size m v w':=by
 have hmax:m.length<=maxLen:=by
  rw[maxLen_val];have:m.length<=m.length*i.bytes:=le_mul_of_pos_right _ hby;omega
 rcases hx with ⟨rfl,rfl⟩ | ⟨ad,cap,vs,rfl,hvs,hm,hvl,hcell⟩
 ·obtain⟨a1,a2,a3⟩:=nil_tail (e:=el) hs h0 hsz;exact⟨_,_,by simp[Builtin.append_,run_underlying hu,sizeOf,typeInfo,hi,Builtin.lenOf,Builtin.firstCells],_,a1,a2,a3,fresh_upd _⟩
 ·by_cases hm0:m.length=0
  ·have hmn:m=[]:=eq_nil_of_length_eq_zero hm0;subst hmn;obtain⟨a1,a2,a3⟩:=nil_tail (e:=el) hs h0 hsz;exact⟨_,_,by simp[Builtin.append_,run_underlying hu,sizeOf,typeInfo,hi,Builtin.lenOf,Builtin.firstCells,loadCells,loadCellsFrom],_,a1,a2,a3,fresh_upd _⟩
  ·have hr:=run_append_nil (P:=P) w t ty el i z hu hi hz ad m.length cap vs hvl hcell (by omega) (by rw[maxLen_val] at hmax;omega) (by omega);exact⟨_,_,hr,grown_new hs h0 hzs hsz hm hvs hvl (grownCap_ge w m.length 0 el) (grownCap_le_maxLen w m.length 0 el hmax)⟩
def GrownA (c:Ctx) (σ:Sg) (h h':Hp) (w:World) (key e sz n:Nat) (u:Value) (w':World):Prop:=
 ∃σ',Evo σ σ' (fz c σ h w) (fz c σ' h' w') w w'/\SW c σ' h' w'/\PRep σ' (fz c σ' h' w') w' (.d (.arr key e sz 0 n)) u/\∀k,k≠key->σ k=none->σ' k=none
theorem nil_arr (hs:SW c σ h w) {key:Nat} (h0:σ key=none) {e sz:Nat} (hsz:0<sz) (b0:Option Addr) :
  GrownA c σ h (upd h key (some (.arr e sz []))) w key e sz 0 (.slice b0 0 0) w:=by
 have ev:Evo σ (upd σ key (some (none,0))) (fz c σ h w) (fz c (upd σ key (some (none,0))) (upd h key (some (.arr e sz []))) w) w w:=by
  refine⟨fun k' x' hx'=>?_,⟨fun b o' hf=>?_,fun _ _ _=>rfl⟩,fun g cur e fr hg=>⟨cur,fr,hg,rfl⟩⟩
  ·rw[upd_ne _ _ (fun e=>by rw[e,h0] at hx';cases hx')];exact hx'
  ·refine hf.imp id fun ⟨f1,f2,f3⟩=>⟨f1,f2,fun k2 n2 hb2 hk2 hσ2=>?_⟩;by_cases q:k2=key
   ·subst q;rw[upd_same] at hσ2;cases hσ2
   ·rw[upd_ne _ _ q] at hk2 hσ2;exact f3 k2 n2 hb2 hk2 hσ2
 refine⟨_,ev,⟨hs.os,hs.tape,hs.output,hs.size,hs.block,fun k2 hb2 hk2=>?_,fun k1 k2 g2 n1 n2 a1 a2 a3 a4=>?_,hs.kept.trans ev.keeps,hs.shape,fun k x hk=>ev.sg _ _ (hs.sg0 k x hk)⟩,?_,fresh_upd _⟩
 ·by_cases q:k2=key
  ·subst q;rw[upd_same] at hk2;cases hk2;exact⟨hsz,by simp,none,0,upd_same ..,rfl⟩
  ·rw[upd_ne _ _ q] at hk2;exact (hs.hp k2 hb2 hk2).evo ev fun _ _ _=>rfl
 ·by_cases q:k1=key
  ·subst q;rw[upd_same] at a3;cases a3
  ·by_cases q2:k2=key
   ·subst q2;rw[upd_same] at a4;cases a4
   ·rw[upd_ne _ _ q] at a1 a3;rw[upd_ne _ _ q2] at a2 a4;exact hs.inj k1 k2 g2 n1 n2 a1 a2 a3 a4
 ·unfold PRep DRep;exact⟨hsz,.inl ⟨0,upd_same ..,rfl,b0,rfl⟩⟩
theorem grown_arr (hs:SW c σ h w) {key:Nat} (h0:σ key=none) {e sz cap:Nat} {z:Value} (hz:z.cells.size=sz) (hsz:0<sz) {l:List (List C)} {us:List Value} (hl:∀r∈l,r.length=sz)
  (hus:CsRep (fz c σ h w) w l.flatten us) (hul:us.length=l.length*sz) (hc1:l.length<=cap) (hc2:cap<=maxLen) :
  GrownA c σ h (upd h key (some (.arr e sz l))) w key e sz l.length (.slice (some ⟨w.heap.size,0,none⟩) l.length cap) (w.drew.alloc (.cells (us.toArray++Builtin.zeroCells z.cells (cap - l.length)) e)):=by
 have hb:Below w.heap.size w w.drew:=(Below.refl _ _).drew;have hs2:=sw_below hs hb;have he2:=evo_below hs hb;have hgs:=grown_size hz us l.length cap hul hc1;have ev:=evo_new hs2 h0 (.cells (us.toArray++Builtin.zeroCells z.cells (cap - l.length)) e) 0 (.arr e sz l);have hnew:(w.drew.alloc (.cells (us.toArray++Builtin.zeroCells z.cells (cap - l.length)) e)).heap[w.drew.heap.size]? = some (.cells (us.toArray++Builtin.zeroCells z.cells (cap - l.length)) e (0,0)):=heap_alloc_new w.drew _;refine⟨_,he2.trans ev,sw_new hs2 h0 _ 0 _ ⟨hsz,hl,some w.drew.heap.size,0,upd_same ..,.inl hs2.size,_,hnew,?_,?_⟩,?_,fresh_upd _⟩
 ·rw[hgs];exact mul_le_mul_right _ hc1
 ·rw[Array.toList_append,<- hul,take_left];exact CsRep.keeps ev.keeps _ _ (CsRep.keeps he2.keeps _ _ hus)
 ·unfold PRep DRep;exact⟨hsz,.inr ⟨w.heap.size,0,0,cap,_,_,upd_same ..,rfl,hc1,hc2,hnew,by rw[hgs];omega,fun _=>by rw[zero_mul]⟩⟩
theorem append_emp (hs:SW c σ h w) {key:Nat} (h0:σ key=none) {t ty el:TypeId} {i:TypeInfo} {z:Value} (hu:P.underlying t=some (.slice el)) (hi:P.info? el=some i) (hz:i.zero=some z) (hzs:z.cells.size=i.size)
  (hsz:0<i.size) (hby:0<i.bytes) (b0:Option Addr) {m:List (List C)} {u:Value} (hx:Src (fz c σ h w) w i.size m u) (hroom:m.length*i.bytes<=140737488355328) :
  ∃v w',(Builtin.append_ #[t,t] ty #[.slice b0 0 0,u]).run P w=.ok v w'/\GrownA c σ h (upd h key (some (.arr el i.size m))) w key el i.size m.length v w':=by
 have hmax:m.length<=maxLen:=by
  rw[maxLen_val];have:m.length<=m.length*i.bytes:=le_mul_of_pos_right _ hby;omega
 rcases hx with ⟨rfl,rfl⟩ | ⟨ad,cap,vs,rfl,hvs,hm,hvl,hcell⟩
 ·exact⟨_,_,by cases b0<;>simp[Builtin.append_,run_underlying hu,sizeOf,typeInfo,hi,Builtin.lenOf,Builtin.firstCells,storeCells],nil_arr hs h0 hsz b0⟩
 ·by_cases hm0:m.length=0
  ·have hmn:m=[]:=eq_nil_of_length_eq_zero hm0;subst hmn;exact⟨_,_,by cases b0<;>simp[storeCells,Builtin.append_,run_underlying hu,sizeOf,typeInfo,hi,Builtin.lenOf,Builtin.firstCells,loadCells,loadCellsFrom],nil_arr hs h0 hsz b0⟩
  ·have hr:=run_append_nil (P:=P) w t ty el i z hu hi hz ad m.length cap vs hvl hcell (by omega) (by rw[maxLen_val] at hmax;omega) (by omega);refine⟨_,_,?_,grown_arr hs h0 hzs hsz hm hvs hvl (grownCap_ge w m.length 0 el) (grownCap_le_maxLen w m.length 0 el hmax)⟩;cases b0 with
   | none=>exact hr|some a=>exact (append_room0 (ty:=ty) hu hu (.inl rfl) hi a (n:=m.length) (by omega) rfl hroom hby).trans hr
theorem append_own (hs:SW c σ h w) (hc:c.Ok) {k key:Nat} (h0:σ key=none) {t ty el e2:TypeId} {i:TypeInfo} {z:Value} (hu:P.underlying t=some (.slice el)) (hi:P.info? el=some i) (hz:i.zero=some z) (hzs:z.cells.size=i.size)
  (hsz:0<i.size) (hby:0<i.bytes) {l m:List (List C)} {d u:Value} (hk:h k=some (.tail e2 i.size)) (hd:PRep σ (fz c σ h w) w (.d (.app k el i.size l)) d) (hx:Src (fz c σ h w) w i.size m u)
  (hroom:(l.length+m.length)*i.bytes<=140737488355328) :
  ∃v w',(Builtin.append_ #[t,t] ty #[d,u]).run P w=.ok v w'/\Grown c σ h (upd (upd h k none) key (some (.tail el i.size))) w key el i.size (l++m) v w':=by
 have hmax:l.length+m.length<=maxLen:=by
  rw[maxLen_val];have:l.length+m.length<=(l.length+m.length)*i.bytes:=le_mul_of_pos_right _ hby;omega
 have he1:=evo_erase hs k;have hs1:=sw_erase hs k;have lift:∀{v w' ll},Grown c σ (upd h k none) (upd (upd h k none) key (some (.tail el i.size))) w key el i.size ll v w'->Grown c σ h (upd (upd h k none) key (some (.tail el i.size))) w key el i.size ll v w':=by
  rintro v w' ll ⟨σ',a1,a2,a3,a4⟩;exact⟨σ',he1.trans a1,a2,a3,a4⟩
 unfold PRep DRep at hd;obtain⟨_,⟨hσ,rfl,rfl⟩ | ⟨g,cap,cur,fr,hσ,rfl,hlc,hcm,hg,hcs,hrw⟩⟩:=hd
 ·obtain⟨v,w',a1,a2⟩:=append_nil (ty:=ty) (el:=el) hs1 h0 hu hi hz hzs hsz hby (hx.keeps he1.keeps) (by simpa using hroom);exact⟨v,w',a1,lift a2⟩
 ·have hn0:c.own g:=(hb_block (hs.hp k _ hk) hσ).2;have hfr:fr=(0,0):=by
   obtain⟨_,ob,n2,q1,q2⟩:=hs.hp k _ hk;rw[hσ] at q1;cases q1;obtain⟨_,cur2,q3⟩:=q2;rw[hg] at q3;cases q3;rfl
  subst hfr;obtain⟨us,hus,hucell,huf⟩:=csAt_values (rowsAt_iff.1 hrw).2;have hlr:=(rowsAt_iff.1 hrw).1;have hul:us.length=l.length*i.size:=by rw[hus.len,flatten_len hlr]
  have htake:cur.toList.take (l.length*i.size)=us:=by
   apply List.ext_getElem?;intro j;rw[List.getElem?_take];split
   ·rename_i hj;have hju:us[j]? = some us[j]:=List.getElem?_eq_getElem (by omega);have:=hucell j _ hju;rw[zero_add,cell_of_row _ _ _ _ _ _ hg] at this;rw[hju];simpa using this
   ·rw[List.getElem?_eq_none (by omega)]
  rcases hx with ⟨rfl,rfl⟩ | ⟨ad,cap2,vs,rfl,hvs,hm,hvl,hcell⟩
  ·have hown:w.ownsRow 0 el i.size (.slice (some ⟨g,0,none⟩) l.length cap) l.length us:=⟨hul,.inr ⟨g,cap,cur,rfl,zero_le _,hg,hlc,hcm,hcs,htake⟩⟩;have hself:w.setRow g cur=w:=setRow_self w g cur el (0,0) hg;obtain⟨a1,a2,a3⟩:=grow_tail (key:=key) (cur':=cur) (m:=[]) (vs:=[]) hs h0 hc hk hσ hg hn0 hsz rfl (by simpa using hlr) hus csRep_nil (by simpa using hlc) hcm hcs htake
    (by rw[<- htake,List.append_nil,length_nil,add_zero,take_append_drop])
   rw[hself] at a1 a2 a3;refine⟨_,_,run_append_owned_none (P:=P) (w:=w) 0 t ty el i i.size hu hi _ _ us hown,_,a1,a2,?_,fresh_upd _⟩;simpa using a3
  ·have hlm:∀r∈l++m,r.length=i.size:=by
    intro r hr;rcases mem_append.1 hr with hr | hr
    ·exact hlr r hr
    ·exact hm r hr
   by_cases hroom2:l.length+m.length<=cap
   ·have hfit:l.length*i.size+vs.length<=cur.size:=by
     rw[hvl,hcs,<- add_mul];exact mul_le_mul_right _ hroom2
    have hr:=run_append_room (P:=P) w t ty el i hu hi g l.length cap cur hg ad m.length cap2 vs hvl hcell hvs.one hroom2 hfit;obtain⟨a1,a2,a3⟩:=grow_tail (key:=key) (cur':=(cur.toList.take (l.length*i.size)++vs++cur.toList.drop (l.length*i.size+vs.length)).toArray) (m:=m) (vs:=vs) hs h0 hc hk hσ hg hn0 hsz rfl hlm hus hvs hroom2 hcm hcs htake
     (by rw[htake])
    refine⟨_,_,hr,_,a1,a2,?_,fresh_upd _⟩;rw[<- length_append];exact a3
   ·have holds:∀j v,us[j]? = some v->w.cell? ((⟨g,0,none⟩:Addr).add j)=some v:=fun j v hv=>by rw[Addr.add_mid];exact hucell j v hv
    have hr:=run_append_grow (P:=P) w t ty el i z hu hi hz ⟨g,0,none⟩ l.length cap us hul holds ad m.length cap2 vs hvl hcell (by omega) (by rw[maxLen_val] at hmax;omega) (growslice_fits (by omega) hroom);have hge:=grownCap_ge w (l.length+m.length) cap el;have hle:=grownCap_le_maxLen w (l.length+m.length) cap el hmax;have gn:=grown_new (e:=el) (us:=us++vs) hs1 h0 hzs hsz hlm (by rw[flatten_append];exact (hus.append hvs).keeps he1.keeps) (by rw[length_append,length_append,add_mul];omega) (by rw[length_append];exact hge) hle;rw[length_append,<- append_toArray] at gn;exact⟨_,_,hr,lift gn⟩
theorem upd_upd {α:Type} (f:Nat->α) (k:Nat) (x y:α):upd (upd f k x) k y=upd f k y:=by
 funext j
 by_cases e:j=k
 ·subst e;rw[upd_same,upd_same]
 ·rw[upd_ne _ _ e,upd_ne _ _ e,upd_ne _ _ e]
theorem sw_ren (hs:SW c σ h w) {k key:Nat} (h0:σ key=none) {hb:HB} (hk:h k=some hb) :
  Evo σ (upd σ key (σ k)) (fz c σ h w) (fz c (upd σ key (σ k)) (upd (upd h k none) key (some hb)) w) w w/\SW c (upd σ key (σ k)) (upd (upd h k none) key (some hb)) w:=by
 have hkk:k≠key:=fun e=>hb_sg (hs.hp k hb hk) (by rw[e];exact h0);have ev:Evo σ (upd σ key (σ k)) (fz c σ h w) (fz c (upd σ key (σ k)) (upd (upd h k none) key (some hb)) w) w w:=by
  refine⟨fun k' x' hx'=>?_,⟨fun b o' hf=>?_,fun _ _ _=>rfl⟩,fun g cur e fr hg=>⟨cur,fr,hg,rfl⟩⟩
  ·rw[upd_ne _ _ (fun e=>by rw[e,h0] at hx';cases hx')];exact hx'
  ·refine hf.imp id fun ⟨f1,f2,f3⟩=>⟨f1,f2,fun k2 n2 hb2 hk2 hσ2=>?_⟩;by_cases q:k2=key
   ·subst q;rw[upd_same] at hk2 hσ2;cases hk2;exact f3 k n2 hb hk hσ2
   ·rw[upd_ne _ _ q] at hk2 hσ2;by_cases q2:k2=k
    ·subst q2;rw[upd_same] at hk2;cases hk2
    ·rw[upd_ne _ _ q2] at hk2;exact f3 k2 n2 hb2 hk2 hσ2
 have old:∀k2,upd (upd h k none) key (some hb) k2≠none->∃k3,h k3≠none/\upd σ key (σ k) k2=σ k3/\(k3=k2/\k2≠k/\k2≠key\/k3=k/\k2=key):=by
  intro k2 a1;by_cases q:k2=key
  ·subst q;exact⟨k,by rw[hk];simp,upd_same ..,.inr ⟨rfl,rfl⟩⟩
  ·rw[upd_ne _ _ q] at a1;by_cases q2:k2=k
   ·subst q2;rw[upd_same] at a1;exact absurd rfl a1
   ·rw[upd_ne _ _ q2] at a1;exact⟨k2,a1,upd_ne _ _ q,.inl ⟨rfl,q2,q⟩⟩
 refine⟨ev,hs.os,hs.tape,hs.output,hs.size,hs.block,fun k2 hb2 hk2=>?_,fun k1 k2 g2 n1 n2 a1 a2 a3 a4=>?_,hs.kept.trans ev.keeps,hs.shape,fun k x hk=>ev.sg _ _ (hs.sg0 k x hk)⟩
 ·by_cases q:k2=key
  ·subst q;rw[upd_same] at hk2;cases hk2;exact ((hs.hp k hb hk).evo ev fun _ _ _=>rfl).key (by rw[upd_same,upd_ne _ _ hkk])
  ·rw[upd_ne _ _ q] at hk2;by_cases q2:k2=k
   ·subst q2;rw[upd_same] at hk2;cases hk2
   ·rw[upd_ne _ _ q2] at hk2;exact (hs.hp k2 hb2 hk2).evo ev fun _ _ _=>rfl
 ·obtain⟨k3,b1,b2,b3⟩:=old k1 a1;obtain⟨k4,b4,b5,b6⟩:=old k2 a2;rw[b2] at a3;rw[b5] at a4;have:=hs.inj k3 k4 g2 n1 n2 b1 b4 a3 a4;subst this;rcases b3 with ⟨c1,c2,c3⟩ | ⟨c1,c2⟩
  ·rcases b6 with ⟨c4,c5,c6⟩ | ⟨c4,c5⟩
   ·rw[<- c1,<- c4]
   ·exact absurd (c1.symm.trans c4) c2
  ·rcases b6 with ⟨c4,c5,c6⟩ | ⟨c4,c5⟩
   ·exact absurd (c4.symm.trans c1) c5
   ·rw[c2,c5]
theorem nil_key (hs:SW c σ h w) {key:Nat} (h0:σ key=none) {hb:HB} (hok:∀σ' F',Evo σ σ' (fz c σ h w) F' w w->σ' key=some (none,0)->HbOk σ' F' w c.own key hb) :
  Evo σ (upd σ key (some (none,0))) (fz c σ h w) (fz c (upd σ key (some (none,0))) (upd h key (some hb)) w) w w/\SW c (upd σ key (some (none,0))) (upd h key (some hb)) w:=by
 have ev:Evo σ (upd σ key (some (none,0))) (fz c σ h w) (fz c (upd σ key (some (none,0))) (upd h key (some hb)) w) w w:=by
  refine⟨fun k' x' hx'=>?_,⟨fun b o' hf=>?_,fun _ _ _=>rfl⟩,fun g cur e fr hg=>⟨cur,fr,hg,rfl⟩⟩
  ·rw[upd_ne _ _ (fun e=>by rw[e,h0] at hx';cases hx')];exact hx'
  ·refine hf.imp id fun ⟨f1,f2,f3⟩=>⟨f1,f2,fun k2 n2 hb2 hk2 hσ2=>?_⟩;by_cases q:k2=key
   ·subst q;rw[upd_same] at hσ2;cases hσ2
   ·rw[upd_ne _ _ q] at hk2 hσ2;exact f3 k2 n2 hb2 hk2 hσ2
 refine⟨ev,⟨hs.os,hs.tape,hs.output,hs.size,hs.block,fun k2 hb2 hk2=>?_,fun k1 k2 g2 n1 n2 a1 a2 a3 a4=>?_,hs.kept.trans ev.keeps,hs.shape,fun k x hk=>ev.sg _ _ (hs.sg0 k x hk)⟩⟩
 ·by_cases q:k2=key
  ·subst q;rw[upd_same] at hk2;cases hk2;exact hok _ _ ev (upd_same ..)
  ·rw[upd_ne _ _ q] at hk2;exact (hs.hp k2 hb2 hk2).evo ev fun _ _ _=>rfl
 ·by_cases q:k1=key
  ·subst q;rw[upd_same] at a3;cases a3
  ·by_cases q2:k2=key
   ·subst q2;rw[upd_same] at a4;cases a4
   ·rw[upd_ne _ _ q] at a1 a3;rw[upd_ne _ _ q2] at a2 a4;exact hs.inj k1 k2 g2 n1 n2 a1 a2 a3 a4
theorem take_flat {α:Type} {s n:Nat} {rows:List (List α)} (hrl:∀r∈rows,r.length=s) (hn:n<=rows.length):rows.flatten.take (n*s)=(rows.take n).flatten:=by
 have htl:(rows.take n).flatten.length=n*s:=by rw[flatten_len fun r hr=>hrl r (mem_of_mem_take hr),length_take,min_eq_left hn]
 conv=>lhs;rw[<- take_append_drop n rows,flatten_append]
 exact take_left' htl
theorem append_arr (hs:SW c σ h w) (hc:c.Ok) {k key:Nat} (h0:σ key=none) {t ty el e2:TypeId} {i:TypeInfo} {z:Value} (hu:P.underlying t=some (.slice el)) (hi:P.info? el=some i) (hz:i.zero=some z) (hzs:z.cells.size=i.size)
  (hsz:0<i.size) (hby:0<i.bytes) {n:Nat} {m:List (List C)} {d u:Value} {hb hb':HB} {Good:List Value->Prop} (hk:h k=some hb) (hsh:∀q o,¬hb.shut q o)
  (hin:∃ob q,σ k=some (ob,q)/\match ob with
   | none=>n=0/\Good []|some g=>c.own g/\∃cur:Array Value,w.heap[g]? = some (.cells cur e2 (0,0))/\n*i.size<=cur.size/\Good (cur.toList.take (n*i.size)))
  (hone:∀us,Good us->∀v∈us,v.oneCell'=true)
  (hd:PRep σ (fz c σ h w) w (.d (.arr k el i.size 0 n)) d) (hx:Src (fz c σ h w) w i.size m u)
  (hroom:(n+m.length)*i.bytes<=140737488355328)
  (mk:∀(σ':Sg) (F':Fzn) (w':World) (kk:Nat) (ob:Option Nat) (q:Nat) (us vs:List Value),Evo σ σ' (fz c σ h w) F' w w'->σ' kk=some (ob,q)->Good us->us.length=n*i.size->CsRep (fz c σ h w) w m.flatten vs->(∀r∈m,r.length=i.size)->vs.length=m.length*i.size->
   (match ob with
    | none=>n+m.length=0|some g=>c.own g/\∃cur:Array Value,w'.heap[g]? = some (.cells cur el (0,0))/\(n+m.length)*i.size<=cur.size/\cur.toList.take ((n+m.length)*i.size)=us++vs)->HbOk σ' F' w' c.own kk hb') :
  ∃v w',(Builtin.append_ #[t,t] ty #[d,u]).run P w=.ok v w'/\GrownA c σ h (upd (upd h k none) key (some hb')) w key el i.size (n+m.length) v w':=by
 have hmax:n+m.length<=maxLen:=by
  rw[maxLen_val];have:n+m.length<=(n+m.length)*i.bytes:=le_mul_of_pos_right _ hby;omega
 have he1:=evo_erase hs k;have hs1:=sw_erase hs k;have fresh:∀(us vs:List Value) (cap:Nat),Good us->us.length=n*i.size->CsRep (fz c σ h w) w m.flatten vs->(∀r∈m,r.length=i.size)->vs.length=m.length*i.size->n+m.length<=cap->cap<=maxLen->
   GrownA c σ h (upd (upd h k none) key (some hb')) w key el i.size (n+m.length) (.slice (some ⟨w.heap.size,0,none⟩) (n+m.length) cap) (w.drew.alloc (.cells ((us++vs).toArray++Builtin.zeroCells z.cells (cap - (n+m.length))) el)):=by
  intro us vs cap g1 g2 g3 g4 g5 g6 g7;have hb:Below w.heap.size w w.drew:=(Below.refl _ _).drew;have hs2:=sw_below hs1 hb;have he2:=he1.trans (evo_below hs1 hb);have hgs:=grown_size hzs (us++vs) (n+m.length) cap (by rw[length_append,g2,g5,add_mul]) g6;have ev:=evo_new hs2 h0 (.cells ((us++vs).toArray++Builtin.zeroCells z.cells (cap - (n+m.length))) el) 0 hb';have hnew:(w.drew.alloc (.cells ((us++vs).toArray++Builtin.zeroCells z.cells (cap - (n+m.length))) el)).heap[w.drew.heap.size]? = some (.cells ((us++vs).toArray++Builtin.zeroCells z.cells (cap - (n+m.length))) el (0,0)):=heap_alloc_new w.drew _;refine⟨_,he2.trans ev,sw_new hs2 h0 _ 0 _ (mk _ _ _ key (some w.drew.heap.size) 0 us vs (he2.trans ev) (upd_same ..) g1 g2 g3 g4 g5 ⟨.inl hs2.size,_,hnew,?_,?_⟩),?_,fresh_upd _⟩
  ·rw[hgs];exact mul_le_mul_right _ g6
  ·rw[Array.toList_append,show (n+m.length)*i.size=(us++vs).length by rw[length_append,g2,g5,add_mul]];exact take_left
  ·unfold PRep DRep;exact⟨hsz,.inr ⟨w.heap.size,0,0,cap,_,_,upd_same ..,rfl,g6,g7,hnew,by rw[hgs];omega,fun _=>by rw[zero_mul]⟩⟩
 have inplace:∀(g q off cap:Nat) (cur cur':Array Value) (us vs:List Value),σ k=some (some g,q)->w.heap[g]? = some (.cells cur el (0,0))->cur'.size=cur.size->off+cap*i.size<=cur.size->(0<cap->off=0)->n+m.length<=cap->cap<=maxLen->
   Good us->us.length=n*i.size->CsRep (fz c σ h w) w m.flatten vs->(∀r∈m,r.length=i.size)->vs.length=m.length*i.size->c.own g->(n+m.length)*i.size<=cur.size->cur'.toList.take ((n+m.length)*i.size)=us++vs->
   GrownA c σ h (upd (upd h k none) key (some hb')) w key el i.size (n+m.length) (.slice (some ⟨g,off,none⟩) (n+m.length) cap) (w.setRow g cur'):=by
  intro g q off cap cur cur' us vs hσ hg hcs h5 h6 h7 h8 g1 g2 g3 g4 g5 hown hle htake;have ev:=evo_set (hb':=hb') hs hc hk hσ (hsh q) hg hcs;have hg':=setRow_heap w g cur cur' el _ hg;have sw:=sw_set (hb':=hb') hs hc hk hσ (hsh q) hg hcs (mk _ _ _ k (some g) q us vs ev hσ g1 g2 g3 g4 g5 ⟨hown,cur',hg',by rw[hcs];exact hle,htake⟩);obtain⟨e3,s3⟩:=sw_ren sw h0 (hb:=hb') (upd_same ..);rw[upd_upd] at e3 s3;refine⟨_,ev.trans e3,s3,?_,fresh_upd _⟩;unfold PRep DRep;exact⟨hsz,.inr ⟨g,q,off,cap,cur',_,by rw[upd_same];exact hσ,rfl,h7,h8,hg',by rw[hcs];exact h5,fun hp=>by rw[h6 hp,zero_mul]⟩⟩
 unfold PRep DRep at hd;obtain⟨_,⟨q,hσ,rfl,b0,rfl⟩ | ⟨g,q,off,cap,cur,fr,hσ,rfl,hnc,hcm,hg,hfit,hoff⟩⟩:=hd
 ·obtain⟨ob,q',hσ',hin⟩:=hin;rw[hσ] at hσ';cases hσ';obtain⟨_,hgood⟩:=hin;have isnil:m=[]->GrownA c σ h (upd (upd h k none) key (some hb')) w key el i.size (0+m.length) (.slice b0 0 0) w:=by
   rintro rfl;obtain⟨a1,a2⟩:=nil_key (hb:=hb') hs1 h0 fun σ' F' ev hσ'=>mk σ' F' w key none 0 [] [] (he1.trans ev) hσ' hgood (by simp) csRep_nil (by simp) (by simp) rfl;refine⟨_,he1.trans a1,a2,?_,fresh_upd _⟩;unfold PRep DRep;exact⟨hsz,.inl ⟨0,upd_same ..,rfl,b0,rfl⟩⟩
  rcases hx with ⟨rfl,rfl⟩ | ⟨ad,cap2,vs,rfl,hvs,hm,hvl,hcell⟩
  ·exact⟨_,_,by cases b0<;>simp[Builtin.append_,run_underlying hu,sizeOf,typeInfo,hi,Builtin.lenOf,Builtin.firstCells,storeCells],isnil rfl⟩
  ·by_cases hm0:m.length=0
   ·have hmn:m=[]:=eq_nil_of_length_eq_zero hm0;subst hmn;exact⟨_,_,by cases b0<;>simp[storeCells,Builtin.append_,run_underlying hu,sizeOf,typeInfo,hi,Builtin.lenOf,Builtin.firstCells,loadCells,loadCellsFrom],isnil rfl⟩
   ·have hr:=run_append_nil (P:=P) w t ty el i z hu hi hz ad m.length cap2 vs hvl hcell (by omega) (by rw[maxLen_val] at hmax;omega) (by rw[zero_add] at hroom;omega);have hf:=fresh [] vs _ hgood (by simp) hvs hm hvl (by rw[zero_add];exact grownCap_ge w m.length 0 el) (grownCap_le_maxLen w m.length 0 el (by omega));rw[zero_add] at hf ⊢;rw[nil_append] at hf;refine⟨_,_,?_,hf⟩;cases b0 with
    | none=>exact hr|some a=>exact (append_room0 (ty:=ty) hu hu (.inl rfl) hi a (n:=m.length) (by omega) rfl (by rw[zero_add] at hroom;exact hroom) hby).trans hr
 ·obtain⟨ob,q',hσ',hin⟩:=hin;rw[hσ] at hσ';cases hσ';obtain⟨hown,cur2,hg2,hle,hgood⟩:=hin;rw[hg] at hg2;cases hg2;have hoff0:0<cap->off=0:=fun hp=>by rw[hoff hp,zero_mul]
  have hul:(cur.toList.take (n*i.size)).length=n*i.size:=by rw[length_take,Array.length_toList];omega
  have hself:w.setRow g cur=w:=setRow_self w g cur el (0,0) hg;have same:m=[]->GrownA c σ h (upd (upd h k none) key (some hb')) w key el i.size (n+m.length) (.slice (some ⟨g,off,none⟩) (n+m.length) cap) w:=by
   rintro rfl;have:=inplace g q off cap cur cur _ [] hσ hg rfl hfit hoff0 (by simpa using hnc) hcm hgood hul csRep_nil (by simp) (by simp) hown (by simpa using hle) (by simp)
   rwa [hself] at this
  rcases hx with ⟨rfl,rfl⟩ | ⟨ad,cap2,vs,rfl,hvs,hm,hvl,hcell⟩
  ·refine⟨_,_,?_,same rfl⟩;simp[Builtin.append_,run_underlying hu,sizeOf,typeInfo,hi,Builtin.lenOf,Builtin.firstCells,storeCells,hnc]
  ·by_cases hm0:m.length=0
   ·have hmn:m=[]:=eq_nil_of_length_eq_zero hm0;subst hmn;refine⟨_,_,?_,same rfl⟩;simp[Builtin.append_,run_underlying hu,sizeOf,typeInfo,hi,Builtin.lenOf,Builtin.firstCells,storeCells,loadCells,loadCellsFrom,hnc]
   ·by_cases hroom2:n+m.length<=cap
    ·obtain rfl:=hoff0 (by omega);have hcs:cap*i.size<=cur.size:=by omega
     have hfit2:n*i.size+vs.length<=cur.size:=by
      rw[hvl,<- add_mul];exact le_trans (mul_le_mul_right _ hroom2) hcs
     have hr:=run_append_room (P:=P) w t ty el i hu hi g n cap cur hg ad m.length cap2 vs hvl hcell hvs.one hroom2 hfit2;refine⟨_,_,hr,inplace g q 0 cap cur _ _ vs hσ hg ?_ hfit (fun _=>rfl) hroom2 hcm hgood hul hvs hm hvl hown (by rw[add_mul,<- hvl];exact hfit2) ?_⟩
     ·simp only[size_toArray,length_append,length_take,length_drop,Array.length_toList];omega
     ·rw[show (n+m.length)*i.size=(cur.toList.take (n*i.size)++vs).length by rw[length_append,hul,hvl,add_mul]];exact take_left
    ·have holds:∀j v,(cur.toList.take (n*i.size))[j]? = some v->w.cell? ((⟨g,off,none⟩:Addr).add j)=some v:=by
      intro j v hv;rw[Addr.add_mid,cell_of_row _ _ _ _ _ _ hg];rw[List.getElem?_take] at hv;split at hv
      ·rename_i hj;have hn0:0<n:=by
        rcases eq_zero_or_pos n with e | e
        ·subst e;simp at hj
        ·exact e
       rw[hoff0 (by omega),zero_add];simpa using hv
      ·cases hv
     have hr:=run_append_grow (P:=P) w t ty el i z hu hi hz ⟨g,off,none⟩ n cap _ hul holds ad m.length cap2 vs hvl hcell (by omega) (by rw[maxLen_val] at hmax;omega) (growslice_fits (by omega) hroom);have hge:=grownCap_ge w (n+m.length) cap el;have hle2:=grownCap_le_maxLen w (n+m.length) cap el hmax;have hf:=fresh _ vs _ hgood hul hvs hm hvl hge hle2;rw[<- append_toArray] at hf;exact⟨_,_,hr,hf⟩
end
theorem drop_flat {α:Type} {s n:Nat} {rows:List (List α)} (hrl:∀r∈rows,r.length=s) (hn:n<=rows.length):rows.flatten.drop (n*s)=(rows.drop n).flatten:=by
 have htl:(rows.take n).flatten.length=n*s:=by rw[flatten_len fun r hr=>hrl r (mem_of_mem_take hr),length_take,min_eq_left hn]
 conv=>lhs;rw[<- take_append_drop n rows,flatten_append]
 exact drop_left' htl
theorem src_arr {c:Ctx} {σ:Sg} {h:Hp} {w:World} (hs:SW c σ h w) {k e e3 sz lo n:Nat} {rows:List (List C)} {u:Value} (hk:h k=some (.arr e3 sz rows)) (hn:lo+n<=rows.length)
  (hd:PRep σ (fz c σ h w) w (.d (.arr k e sz lo n)) u):Src (fz c σ h w) w sz ((rows.drop lo).take n) u:=by
 obtain⟨hz0,hrl,ob,q,g1,g2⟩:=hs.hp k _ hk;have hl:((rows.drop lo).take n).length=n:=by rw[length_take,length_drop];omega
 unfold PRep DRep at hd;obtain⟨_,⟨m,d1,rfl,b0,rfl⟩ | ⟨g,m,off,cap,cur,fr,d1,rfl,d3,d4,d5,d6,d7⟩⟩:=hd
 ·rw[take_zero];cases b0 with
  | none=>exact .inl ⟨rfl,rfl⟩|some a=>exact .inr ⟨a,0,[],rfl,csRep_nil,by simp,by simp,by simp⟩
 ·rw[d1] at g1;cases g1;obtain⟨q1,cur2,q2,q3,q4⟩:=g2;rw[d5] at q2;cases q2;refine .inr ⟨⟨g,off,none⟩,cap,((cur.toList.drop (lo*sz)).take (n*sz)),by rw[hl],?_,fun r hr=>hrl r (mem_of_mem_drop (mem_of_mem_take hr)),?_,fun j v hv=>?_⟩
  ·have h1:=(q4.drop (lo*sz)).take (n*sz);have hb:(lo+n)*sz<=rows.length*sz:=mul_le_mul_right _ hn;rw[add_mul] at hb;rw[drop_flat hrl (by omega),take_flat (fun r hr=>hrl r (mem_of_mem_drop hr)) (by rw[length_drop];omega),drop_take,take_take,min_eq_left (by omega)] at h1;exact h1
  ·rw[length_take,length_drop,Array.length_toList,hl];have hb:(lo+n)*sz<=rows.length*sz:=mul_le_mul_right _ hn;rw[add_mul] at hb;omega
  ·rw[List.getElem?_take] at hv;split at hv
   ·rename_i hj;have hn0:0<n:=by
     rcases eq_zero_or_pos n with e | e
     ·subst e;simp at hj
     ·exact e
    rw[d7 (by omega),Addr.add_mid,cell_of_row _ _ _ _ _ _ d5];rw[List.getElem?_drop] at hv;simpa using hv
   ·cases hv
theorem appArrP_out {P:Program} {o:Oper} {key:Nat} {e:Operand->PV} {h:Hp} {t t2:TypeId} {s x:Operand} {k2 e0 sz2 lo n:Nat} {K:OpK} {X:Value->Hp->Prop} (ho:o.op=.call { callee:=.builtin .append,args:=#[s,x],argTypes:=#[t,t2] })
  (hxe:e x=.d (.arr k2 e0 sz2 lo n)) (hv:appArrP P h key t t2 (e s) k2 sz2 lo n K):Outc P o e h K X:=by
 unfold appArrP at hv;split at hv
 ·rename_i ht;obtain rfl:=eq_of_beq_eq_true ht;obtain⟨el,i,hu,hi,hv⟩:=tySlice_out hv;split at hv
  ·rename_i hel;unfold elemOk at hel;split at hel
   ·rename_i z hz;simp only[Bool.and_eq_true] at hel;obtain⟨⟨hzs,hsz⟩,hby⟩:=hel;have hzs:=eq_of_beq_eq_true hzs;have hsz:=le_of_ble_eq_true hsz;have hby:=le_of_ble_eq_true hby;split at hv
    ·rename_i e3 sz3 rows hk2;split at hv
     ·rename_i b1 b2 b3;obtain rfl:=eq_of_beq_eq_true b1;obtain rfl:=eq_of_beq_eq_true b2;have hops:∀y,y=s\/y=x->y∈o.op.operands:=by
       intro y hy;simp only[ho,Op.operands,Call.operands];rcases hy with rfl | rfl<;>simp
      have hexec:∀(a:Act) (w w':World) (v:Value),(Builtin.append_ #[t,t] o.type #[a.eval s,a.eval x]).run P w=.ok v w'->(execOp a.eval o).run P w=.ok (.value v) w':=by
       intro a w w' v hr;simp[execOp,ho,resolve,invoke,builtin,hr]
      split at hv
      ·rename_i k el' sz l hs;split at hv
       ·rename_i e2 sz4 e1 e3' ekk hk;obtain rfl:=eq_of_beq_eq_true e1;obtain rfl:=eq_of_beq_eq_true e3';split at hv
        ·rename_i e4 e5;obtain rfl:=eq_of_beq_eq_true e4;obtain rfl:=eq_of_beq_eq_true e5;obtain⟨hle,hroom,hv⟩:=hv;have hl:((rows.drop lo).take n).length=n:=by rw[length_take,length_drop];omega
         refine .inl ⟨_,_,[(k,_),(k2,_)],hv,by simpa using ⟨hk,hk2⟩,?_⟩;intro c σ h' a w hc hs' hx hrf hfr next Q KK
         have h0:σ key=none:=by
          by_cases e:k=key
          ·subst e;have:=beq_refl k;rw[show Nat.beq k k=false from ekk] at this;cases this
          ·by_cases e9:k2=key
           ·subst e9;have:=beq_refl k2;rw[show Nat.beq k2 k2=false from b3] at this;cases this
           ·exact hfr key (by simp[Dl.keys]) (by simpa using ⟨e,e9⟩)
         have hk':=hrf (k,_) (mem_cons_self ..);have hk2':=hrf (k2,_) (mem_cons_of_mem _ (mem_singleton.2 rfl));have hps:=hx s (hops s (.inl rfl));rw[hs] at hps;have hpx:=hx x (hops x (.inr rfl));rw[hxe] at hpx;obtain⟨v,w',a1,σ',a2,a3,a4,a5⟩:=append_own (ty:=o.type) hs' hc h0 hu hi hz hzs hsz hby hk' hps (src_arr hs' hk2' hle hpx) (by rw[hl];exact hroom);unfold Oper.wp;rw[hexec a w w' v a1];exact KK v σ' w' a2 a3 a4 fun k hk=>a5 k (by rintro rfl;simp[Dl.keys] at hk)
        ·exact hv.elim
       ·exact hv.elim
      ·exact hv.elim
     ·exact hv.elim
    ·exact hv.elim
   ·cases hel
  ·exact hv.elim
 ·exact hv.elim
theorem appPtrP_out {P:Program} {o:Oper} {key:Nat} {e:Operand->PV} {h:Hp} {t t2:TypeId} {s x:Operand} {k2 e0 sz2 lo n e3:Nat} {y:D} {K:OpK} {X:Value->Hp->Prop} (ho:o.op=.call { callee:=.builtin .append,args:=#[s,x],argTypes:=#[t,t2] })
  (hxe:e x=.d (.arr k2 e0 sz2 lo n)) (hk2:h k2=some (.darr e3 1 [[y]])) (hv:appPtrP P h key t t2 (e s) k2 e3 lo n y K):Outc P o e h K X:=by
 unfold appPtrP at hv;split at hv
 ·rename_i ht b1 b2;obtain rfl:=eq_of_beq_eq_true ht;obtain rfl:=eq_of_beq_eq_true b1;obtain rfl:=eq_of_beq_eq_true b2;obtain⟨el,i,hu,hi,hv2⟩:=tySlice_out hv;clear hv;have hv:=hv2;clear hv2;split at hv
  ·rename_i hel c1 c2 c3;have c1:=eq_of_beq_eq_true c1;have c2:=le_of_ble_eq_true c2;unfold elemOk at hel;split at hel
   ·rename_i z hz;simp only[Bool.and_eq_true] at hel;obtain⟨⟨hzs,hsz⟩,hby⟩:=hel;have hzs:=eq_of_beq_eq_true hzs;have hby:=le_of_ble_eq_true hby;have hops:∀y,y=s\/y=x->y∈o.op.operands:=by
     intro y hy;simp only[ho,Op.operands,Call.operands];rcases hy with rfl | rfl<;>simp
    split at hv
    ·rename_i hse;refine .inl ⟨_,_,[(k2,_)],hv,by simpa using hk2,?_⟩;intro c σ h' a w hc hs' hx hrf hfr next Q KK
     have h0:σ key=none:=by
      by_cases q:k2=key
      ·subst q;have:=beq_refl k2;rw[show Nat.beq k2 k2=false from c3] at this;cases this
      ·exact hfr key (by simp[Dl.keys]) (by simpa using q)
     have hk2':=hrf (k2,_) (mem_singleton.2 rfl);have hps:=hx s (hops s (.inl rfl));rw[hse] at hps;have hsv:=rep_v hps;have hpx:=hx x (hops x (.inr rfl));rw[hxe] at hpx;unfold PRep DRep at hpx;obtain⟨_,⟨m,_,q,_⟩ | ⟨g,m,off,cap,cur,fr,g1,g2,g3,g4,g5,g6,g7⟩⟩:=hpx
     ·cases q
     have hoff:off=0:=by rw[g7 (by omega),zero_mul]
     subst hoff;obtain⟨_,_,ob,m',d1,d2⟩:=hs'.hp k2 _ hk2';rw[g1] at d1;cases d1;obtain⟨_,cur',d3,d4,d5⟩:=d2;obtain⟨v,vs,d6,d7,d8⟩:=dsRep_inv (x:=y) (xs:=[]) d5;have d9:=dsRep_nil_inv d8;subst d9;have hcell:∀(j:Nat) u,([v]:List Value)[j]? = some u->w.cell? ((⟨g,0,none⟩:Addr).add j)=some u:=by
      intro j u hj;have ha:(⟨g,0,none⟩:Addr).add j=⟨g,j,none⟩:=by unfold Addr.add;split<;>simp_all
      rw[ha,cell_of_row _ _ _ _ _ _ d3,<- Array.getElem?_toList];have hj0:j<1:=by have:=(List.getElem?_eq_some_iff.1 hj).1;simpa using this
      have d6':cur'.toList.take 1=[v]:=d6;rw[<- d6',List.getElem?_take,if_pos hj0] at hj;exact hj
     have hr:=run_append_nil (P:=P) w t o.type el i z hu hi hz ⟨g,0,none⟩ 1 cap [v] (by rw[c1];rfl) hcell (by omega) (by omega) (by omega);have hexec:(execOp a.eval o).run P w=.ok (.value (.slice (some ⟨w.heap.size,0,none⟩) 1 (grownCap w 1 0 el))) (w.drew.alloc (.cells ([v].toArray++Builtin.zeroCells z.cells (grownCap w 1 0 el - 1)) el)):=by
      simp[execOp,ho,resolve,invoke,builtin,hsv,g2,hr]
     have hb:Below w.heap.size w w.drew:=(Below.refl _ _).drew;have hs2:=sw_below hs' hb;have he2:=evo_below hs' hb;have hcap:=grownCap_ge w 1 0 el;obtain⟨σ',a1,a2,a3,a4⟩:=new_darr1 (e:=el) (cap:=grownCap w 1 0 el) (cs:=[v].toArray++Builtin.zeroCells z.cells (grownCap w 1 0 el - 1)) hs2 h0 (DRep.evo he2 _ _ d7) hcap (grownCap_le_maxLen w 1 0 el (by rw[maxLen_val];omega)) (by have:=grown_size (hzs.trans c1) [v] 1 (grownCap w 1 0 el) rfl hcap;rw[this];omega) (by simp);unfold Oper.wp;rw[hexec];exact KK _ σ' _ (he2.trans a1) a2 a3 fun k hk hn=>a4 k (by simpa [Dl.keys] using hk) hn
    ·rename_i k e1 sz lo n1 hse;split at hv
     ·rename_i e5 e6 ekk e0;obtain rfl:=eq_of_beq_eq_true e5;obtain rfl:=eq_of_beq_eq_true e6;obtain rfl:=eq_of_beq_eq_true e0;split at hv
      ·rename_i e2 sz2 rows hk;split at hv
       ·rename_i e7 e8;obtain rfl:=eq_of_beq_eq_true e7;obtain rfl:=eq_of_beq_eq_true e8;obtain⟨hnr,hroom,hv⟩:=hv;refine .inl ⟨_,_,[(k,_),(k2,_)],hv,by simpa using ⟨hk,hk2⟩,?_⟩;intro c σ h' a w hc hs' hx hrf hfr next Q KK
        have h0:σ key=none:=by
         by_cases q:k=key
         ·subst q;have:=beq_refl k;rw[show Nat.beq k k=false from ekk] at this;cases this
         ·by_cases q2:k2=key
          ·subst q2;have:=beq_refl k2;rw[show Nat.beq k2 k2=false from c3] at this;cases this
          ·exact hfr key (by simp[Dl.keys]) (by simpa using ⟨q,q2⟩)
        have hk':=hrf (k,_) mem_cons_self;have hk2':=hrf (k2,_) (mem_cons_of_mem _ mem_cons_self);have hps:=hx s (hops s (.inl rfl));rw[hse] at hps;have hpx:=hx x (hops x (.inr rfl));rw[hxe] at hpx;unfold PRep DRep at hpx;obtain⟨_,⟨m,_,q,_⟩ | ⟨g,m,off,cap,cur,fr,g1,g2,g3,g4,g5,g6,g7⟩⟩:=hpx
        ·cases q
        have hoff:off=0:=by rw[g7 (by omega),zero_mul]
        subst hoff;obtain⟨_,_,ob,m',d1,d2⟩:=hs'.hp k2 _ hk2';rw[g1] at d1;cases d1;obtain⟨_,cur',d3,d4,d5⟩:=d2;obtain⟨v,vs,d6,d7,d8⟩:=dsRep_inv (x:=y) (xs:=[]) d5;have d9:=dsRep_nil_inv d8;subst d9;have d50:DsRep σ (fz c σ h' w) w [y] [v]:=by unfold DsRep;exact⟨d7,by unfold DsRep;trivial⟩
        have hone:=DsRep.one d50 v mem_cons_self;have hcell:∀(j:Nat) u,([v]:List Value)[j]? = some u->w.cell? ((⟨g,0,none⟩:Addr).add j)=some u:=by
         intro j u hj;have ha:(⟨g,0,none⟩:Addr).add j=⟨g,j,none⟩:=by unfold Addr.add;split<;>simp_all
         rw[ha,cell_of_row _ _ _ _ _ _ d3,<- Array.getElem?_toList];have hj0:j<1:=by have:=(List.getElem?_eq_some_iff.1 hj).1;simpa using this
         have d6':cur'.toList.take 1=[v]:=d6;rw[<- d6',List.getElem?_take,if_pos hj0] at hj;exact hj
        obtain⟨hz0,hrl,ob,q,u1,u2⟩:=hs'.hp k _ hk';obtain⟨v2,w',a1,σ',a2,a3,a4,a5⟩:=append_arr (ty:=o.type) (m:=[[C.v v]]) (u:=.slice (some ⟨g,0,none⟩) 1 cap) (hb':=.darr e2 i.size (rows.take n1++[[y]])) (Good:=fun us=>DsRep σ (fz c σ h' w) w (rows.take n1).flatten us) hs' hc h0 hu hi hz hzs (by omega) hby hk' (fun _ _ q=>q)
         ⟨ob,q,u1,by
          cases ob with
          | none=>subst u2;exact⟨by simpa using hnr,by simpa using dsRep_nil⟩|some g=>
           obtain⟨q1,cur,q2,q3,q4⟩:=u2;have hm:=mul_le_mul_right i.size hnr;refine⟨q1,cur,q2,by omega,?_⟩;have:=q4.take (n1*i.size);rw[take_take,min_eq_left hm,take_flat hrl hnr] at this;exact this⟩ (fun us g=>g.one) hps (.inr ⟨⟨g,0,none⟩,cap,[v],rfl,⟨⟨rfl,hone⟩,trivial⟩,fun r hr=>by rw[mem_singleton.1 hr];exact c1.symm,by rw[c1];rfl,hcell⟩) hroom
         (by
          intro σ' F' w' kk ob q us vs ev hσ g1 g2 g3 g4 g5 hm;refine⟨hz0,fun r hr=>(mem_append.1 hr).elim (fun hr=>hrl r (mem_of_mem_take hr)) (fun hr=>by rw[mem_singleton.1 hr];exact c1.symm),ob,q,hσ,?_⟩;have hl:(rows.take n1++[[y]]).length=n1+1:=by rw[length_append,length_take,min_eq_left hnr];rfl
          cases ob with
          | none=>exact eq_nil_of_length_eq_zero (hl.trans hm)|some g=>
           obtain⟨q1,cur,q2,q3,q4⟩:=hm;refine⟨q1,cur,q2,by rw[hl];exact q3,?_⟩;obtain⟨v',vs',rfl,g6,g7⟩:=csRep_inv (c:=C.v v) (cs:=[]) g3;obtain rfl:=csRep_nil_inv g7;have g8:v'=v:=g6.1;subst g8;rw[hl,show cur.toList.take ((n1+1)*i.size)=us++[v'] from q4,flatten_append];exact DsRep.append (DsRep.evo ev _ _ g1) (DsRep.evo ev [y] [v'] d50))
        have hexec:(execOp a.eval o).run P w=.ok (.value v2) w':=by
         simp[execOp,ho,resolve,invoke,builtin,g2,a1]
        unfold Oper.wp;rw[hexec];exact KK v2 σ' w' a2 a3 a4 fun k hk=>a5 k (by rintro rfl;simp[Dl.keys] at hk)
       ·exact hv.elim
      ·exact hv.elim
     ·exact hv.elim
    ·exact hv.elim
   ·cases hel
  ·exact hv.elim
 ·exact hv.elim
theorem appendP_out {P:Program} {o:Oper} {key:Nat} {e:Operand->PV} {h:Hp} {t t2:TypeId} {s x:Operand} {K:OpK} {X:Value->Hp->Prop} (ho:o.op=.call { callee:=.builtin .append,args:=#[s,x],argTypes:=#[t,t2] })
  (hv:appendP P h key t t2 (e s) (e x) K):Outc P o e h K X:=by
 unfold appendP at hv;split at hv
 ·rename_i ht;obtain rfl:=eq_of_beq_eq_true ht;obtain⟨el,i,hu,hi,hv⟩:=tySlice_out hv;split at hv
  ·rename_i hel;unfold elemOk at hel;split at hel
   ·rename_i z hz;simp only[Bool.and_eq_true] at hel;obtain⟨⟨hzs,hsz⟩,hby⟩:=hel;have hzs:=eq_of_beq_eq_true hzs;have hsz:=le_of_ble_eq_true hsz;have hby:=le_of_ble_eq_true hby;obtain⟨m,hv,hxm⟩:=rowsSz_out hv;have hops:∀y,y=s\/y=x->y∈o.op.operands:=by
     intro y hy;simp only[ho,Op.operands,Call.operands];rcases hy with rfl | rfl<;>simp
    have hexec:∀(a:Act) (w w':World) (v:Value),(Builtin.append_ #[t,t] o.type #[a.eval s,a.eval x]).run P w=.ok v w'->(execOp a.eval o).run P w=.ok (.value v) w':=by
     intro a w w' v hr;simp[execOp,ho,resolve,invoke,builtin,hr]
    split at hv
    ·rename_i k el' sz l hs;split at hv
     ·rename_i e2 sz2 e1 e3 ekk hk;obtain rfl:=eq_of_beq_eq_true e1;obtain rfl:=eq_of_beq_eq_true e3;split at hv
      ·rename_i e4 e5;obtain rfl:=eq_of_beq_eq_true e4;obtain rfl:=eq_of_beq_eq_true e5;obtain⟨hroom,hv⟩:=hv;refine .inl ⟨_,_,[(k,_)],hv,by simpa using hk,?_⟩;intro c σ h' a w hc hs' hx hrf hfr next Q KK
       have h0:σ key=none:=by
        by_cases e:k=key
        ·subst e;have:=beq_refl k;rw[show Nat.beq k k=false from ekk] at this;cases this
        ·exact hfr key (by simp[Dl.keys]) (by simpa using e)
       have hk':=hrf (k,_) (mem_singleton.2 rfl);have hps:=hx s (hops s (.inl rfl));rw[hs] at hps;obtain⟨v,w',a1,σ',a2,a3,a4,a5⟩:=append_own (ty:=o.type) hs' hc h0 hu hi hz hzs hsz hby hk' hps (src_val hxm (hx x (hops x (.inr rfl)))) hroom;unfold Oper.wp;rw[hexec a w w' v a1];exact KK v σ' w' a2 a3 a4 fun k hk=>a5 k (by rintro rfl;simp[Dl.keys] at hk)
      ·exact hv.elim
     ·exact hv.elim
    ·rename_i hs;obtain⟨hroom,hv⟩:=hv;refine .inl ⟨_,_,[],hv,by simp,?_⟩;intro c σ h' a w hc hs' hx hrf hfr next Q KK
     have h0:σ key=none:=hfr key (by simp[Dl.keys]) (by simp);have hps:=rep_v (by have:=hx s (hops s (.inl rfl));rw[hs] at this;exact this);obtain⟨v,w',a1,σ',a2,a3,a4,a5⟩:=append_nil (ty:=o.type) hs' h0 hu hi hz hzs hsz hby (src_val hxm (hx x (hops x (.inr rfl)))) hroom;unfold Oper.wp;rw[hexec a w w' v (by rw[hps];exact a1)];exact KK v σ' w' a2 a3 a4 fun k hk=>a5 k (by rintro rfl;simp[Dl.keys] at hk)
    ·rename_i hs;obtain⟨hroom,hv⟩:=hv;refine .inl ⟨_,_,[],hv,by simp,?_⟩;intro c σ h' a w hc hs' hx hrf hfr next Q KK
     have h0:σ key=none:=hfr key (by simp[Dl.keys]) (by simp);have hps0:=hx s (hops s (.inl rfl));rw[hs] at hps0;unfold PRep DRep at hps0;obtain⟨b0,hps⟩:=hps0;obtain⟨v,w',a1,σ',a2,a3,a4,a5⟩:=append_emp (ty:=o.type) hs' h0 hu hi hz hzs hsz hby b0 (src_val hxm (hx x (hops x (.inr rfl)))) hroom;unfold Oper.wp;rw[hexec a w w' v (by rw[hps];exact a1)];exact KK v σ' w' a2 a3 a4 fun k hk=>a5 k (by rintro rfl;simp[Dl.keys] at hk)
    ·rename_i k el' sz lo n hs;split at hv
     ·rename_i e1 e3 ekk e0;obtain rfl:=eq_of_beq_eq_true e1;obtain rfl:=eq_of_beq_eq_true e3;obtain rfl:=eq_of_beq_eq_true e0;split at hv
      ·rename_i e2 sz2 rows hk;split at hv
       ·rename_i e4 e5;obtain rfl:=eq_of_beq_eq_true e4;obtain rfl:=eq_of_beq_eq_true e5;obtain⟨hnr,hroom,hv⟩:=hv;refine .inl ⟨_,_,[(k,_)],hv,by simpa using hk,?_⟩;intro c σ h' a w hc hs' hx hrf hfr next Q KK
        have h0:σ key=none:=by
         by_cases e:k=key
         ·subst e;have:=beq_refl k;rw[show Nat.beq k k=false from ekk] at this;cases this
         ·exact hfr key (by simp[Dl.keys]) (by simpa using e)
        have hk':=hrf (k,_) (mem_singleton.2 rfl);have hps:=hx s (hops s (.inl rfl));rw[hs] at hps;obtain⟨hz0,hrl,ob,q,g1,g2⟩:=hs'.hp k _ hk';have htl:(rows.take n).flatten.length=n*i.size:=by
         rw[flatten_len fun r hr=>hrl r (mem_of_mem_take hr),length_take,min_eq_left hnr]
        obtain⟨v,w',a1,σ',a2,a3,a4,a5⟩:=append_arr (ty:=o.type) (e2:=e2) (hb':=.arr e2 i.size (rows.take n++m)) (Good:=fun us=>CsRep (fz c σ h' w) w (rows.take n).flatten us) hs' hc h0 hu hi hz hzs hsz hby hk' (fun _ _ q=>q)
         ⟨ob,q,g1,by
          cases ob with
          | none=>subst g2;exact⟨by simpa using hnr,by simpa using csRep_nil⟩|some g=>
           obtain⟨q1,cur,q2,q3,q4⟩:=g2;have hm:=mul_le_mul_right i.size hnr;refine⟨q1,cur,q2,by omega,?_⟩;have:=q4.take (n*i.size);rw[take_take,min_eq_left hm,take_flat hrl hnr] at this;exact this⟩ (fun us g=>g.one) hps (src_val hxm (hx x (hops x (.inr rfl)))) hroom
         (by
          intro σ' F' w' kk ob q us vs ev hσ g1 g2 g3 g4 g5 hm;refine⟨hz0,fun r hr=>(mem_append.1 hr).elim (fun hr=>hrl r (mem_of_mem_take hr)) (g4 r),ob,q,hσ,?_⟩;have hl:(rows.take n++m).length=n+m.length:=by rw[length_append,length_take,min_eq_left hnr]
          cases ob with
          | none=>exact eq_nil_of_length_eq_zero (hl.trans hm)|some g=>
           obtain⟨q1,cur,q2,q3,q4⟩:=hm;refine⟨q1,cur,q2,by rw[hl];exact q3,?_⟩;rw[hl,q4,flatten_append];exact (CsRep.keeps ev.keeps _ _ (g1.append g3)))
        unfold Oper.wp;rw[hexec a w w' v a1];exact KK v σ' w' a2 a3 a4 fun k hk=>a5 k (by rintro rfl;simp[Dl.keys] at hk)
       ·exact hv.elim
      ·rename_i e2 sz2 rows hk;split at hv
       ·rename_i e4 e5;obtain rfl:=eq_of_beq_eq_true e4;obtain rfl:=eq_of_beq_eq_true e5;obtain⟨hnr,hroom,hv⟩:=hv;refine .inl ⟨_,_,[(k,_)],hv,by simpa using hk,?_⟩;intro c σ h' a w hc hs' hx hrf hfr next Q KK
        have h0:σ key=none:=by
         by_cases e:k=key
         ·subst e;have:=beq_refl k;rw[show Nat.beq k k=false from ekk] at this;cases this
         ·exact hfr key (by simp[Dl.keys]) (by simpa using e)
        have hk':=hrf (k,_) (mem_singleton.2 rfl);have hps:=hx s (hops s (.inl rfl));rw[hs] at hps;obtain⟨hz0,hrl,ob,q,g1,g2⟩:=hs'.hp k _ hk';have htl:(rows.take n).flatten.length=n*i.size:=by
         rw[flatten_len fun r hr=>hrl r (mem_of_mem_take hr),length_take,min_eq_left hnr]
        obtain⟨v,w',a1,σ',a2,a3,a4,a5⟩:=append_arr (ty:=o.type) (e2:=e2) (hb':=.darr e2 i.size (rows.take n++m.map (List.map D.c))) (Good:=fun us=>DsRep σ (fz c σ h' w) w (rows.take n).flatten us) hs' hc h0 hu hi hz hzs hsz hby hk' (fun _ _ q=>q)
         ⟨ob,q,g1,by
          cases ob with
          | none=>subst g2;exact⟨by simpa using hnr,by simpa using dsRep_nil⟩|some g=>
           obtain⟨q1,cur,q2,q3,q4⟩:=g2;have hm:=mul_le_mul_right i.size hnr;refine⟨q1,cur,q2,by omega,?_⟩;have:=q4.take (n*i.size);rw[take_take,min_eq_left hm,take_flat hrl hnr] at this;exact this⟩ (fun us g=>g.one) hps (src_val hxm (hx x (hops x (.inr rfl)))) hroom
         (by
          intro σ' F' w' kk ob q us vs ev hσ g1 g2 g3 g4 g5 hm;have hmr:∀r∈m.map (List.map D.c),r.length=i.size:=by
           intro r hr;obtain⟨r',hr',rfl⟩:=mem_map.1 hr;rw[length_map];exact g4 r' hr'
          refine⟨hz0,fun r hr=>(mem_append.1 hr).elim (fun hr=>hrl r (mem_of_mem_take hr)) (hmr r),ob,q,hσ,?_⟩;have hl:(rows.take n++m.map (List.map D.c)).length=n+m.length:=by rw[length_append,length_take,min_eq_left hnr,length_map]
          cases ob with
          | none=>exact eq_nil_of_length_eq_zero (hl.trans hm)|some g=>
           obtain⟨q1,cur,q2,q3,q4⟩:=hm;refine⟨q1,cur,q2,by rw[hl];exact q3,?_⟩;rw[hl,q4,flatten_append];have e9:(m.map (List.map D.c)).flatten=m.flatten.map D.c:=by rw[map_flatten]
           rw[e9];exact DsRep.append (DsRep.evo ev _ _ g1) (dsRep_of_cs (CsRep.keeps ev.keeps _ _ g3)))
        unfold Oper.wp;rw[hexec a w w' v a1];exact KK v σ' w' a2 a3 a4 fun k hk=>a5 k (by rintro rfl;simp[Dl.keys] at hk)
       ·exact hv.elim
      ·exact hv.elim
     ·exact hv.elim
    ·exact hv.elim
   ·cases hel
  ·exact hv.elim
 ·exact hv.elim
end Go.Proofs.Ytdjbckknghddpaa.Pm
end
namespace Go.Proofs.Ytdjbckknghddpaa.Pm
section
open Go.RowKit
section
variable {P:Program} {c:Ctx} {σ:Sg} {F:Fzn} {h:Hp} {w:World}
theorem putRows_len {rows seg:List (List D)} {lo:Nat} (hlo:lo<=rows.length):(putRows rows lo seg).length=lo+seg.length+(rows.length - (lo+seg.length)):=by
 unfold putRows;rw[length_append,length_append,length_take,length_drop];omega
theorem putRows_in {rows seg:List (List D)} {lo sz:Nat} (hrl:∀r∈rows,r.length=sz) (hsl:∀r∈seg,r.length=sz):∀r∈putRows rows lo seg,r.length=sz:=by
 intro r hr;unfold putRows at hr;rcases mem_append.1 hr with hr | hr
 ·rcases mem_append.1 hr with hr | hr
  ·exact hrl r (mem_of_mem_take hr)
  ·exact hsl r hr
 ·exact hrl r (mem_of_mem_drop hr)
theorem put_rep {rows seg:List (List D)} {lo sz:Nat} {us vs:List Value} (hrl:∀r∈rows,r.length=sz) (hsl:∀r∈seg,r.length=sz) (hlo:lo<=rows.length) (hle:rows.length*sz<=us.length)
  (hu:DsRep σ F w rows.flatten (us.take (rows.length*sz))) (hv:DsRep σ F w seg.flatten vs) (hfit:(lo+seg.length)*sz<=us.length) :
  vs.length=seg.length*sz/\(putRows rows lo seg).length*sz<=us.length/\DsRep σ F w (putRows rows lo seg).flatten ((us.take (lo*sz)++vs++us.drop (lo*sz+vs.length)).take ((putRows rows lo seg).length*sz)):=by
 have hvl:vs.length=seg.length*sz:=by rw[hv.len,flatten_len hsl]
 have hpl:=putRows_len (seg:=seg) hlo;have hlm:lo*sz<=rows.length*sz:=mul_le_mul_right _ hlo;refine⟨hvl,?_,?_⟩
 ·rw[hpl];by_cases q:rows.length<=lo+seg.length
  ·rw[show rows.length - (lo+seg.length)=0 by omega,add_zero];exact hfit
  ·rw[show lo+seg.length+(rows.length - (lo+seg.length))=rows.length by omega];exact hle
 ·have hA:DsRep σ F w (rows.take lo).flatten (us.take (lo*sz)):=by
   have:=hu.take (lo*sz);rw[take_take,min_eq_left hlm,take_flat hrl hlo] at this;exact this
  have hB:DsRep σ F w (rows.drop (lo+seg.length)).flatten ((us.drop ((lo+seg.length)*sz)).take ((rows.length - (lo+seg.length))*sz)):=by
   by_cases q:lo+seg.length<=rows.length
   ·have:=hu.drop ((lo+seg.length)*sz);rw[drop_flat hrl q,drop_take,<- Nat.sub_mul] at this;exact this
   ·rw[drop_of_length_le (by omega),show rows.length - (lo+seg.length)=0 by omega,zero_mul];exact dsRep_nil
  have hP:(us.take (lo*sz)++vs).length=(lo+seg.length)*sz:=by rw[length_append,length_take,hvl,add_mul];omega
  have hT:(us.take (lo*sz)++vs++us.drop (lo*sz+vs.length)).take ((putRows rows lo seg).length*sz)=us.take (lo*sz)++vs++(us.drop ((lo+seg.length)*sz)).take ((rows.length - (lo+seg.length))*sz):=by
   rw[hpl,add_mul _ _ sz,<- hP,List.take_length_add_append,hP,hvl,<- add_mul]
  rw[hT];unfold putRows;rw[flatten_append,flatten_append];exact (hA.append hv).append hB
theorem cut_set (hs:SW c σ h w) (hc:c.Ok) {k g q e sz lo:Nat} {rows seg:List (List D)} {cur:Array Value} {vs:List Value} (hk:h k=some (.darr e sz rows)) (hσ:σ k=some (some g,q)) (hg:w.heap[g]? = some (.cells cur e (0,0)))
  (hsl:∀r∈seg,r.length=sz) (hlo:lo<=rows.length) (hv:DsRep σ (fz c σ h w) w seg.flatten vs) (hfit:(lo+seg.length)*sz<=cur.size) :
  Evo σ σ (fz c σ h w) (fz c σ (upd h k (some (.darr e sz (putRows rows lo seg)))) (w.setRow g (cur.toList.take (lo*sz)++vs++cur.toList.drop (lo*sz+vs.length)).toArray)) w (w.setRow g (cur.toList.take (lo*sz)++vs++cur.toList.drop (lo*sz+vs.length)).toArray)/\
   SW c σ (upd h k (some (.darr e sz (putRows rows lo seg)))) (w.setRow g (cur.toList.take (lo*sz)++vs++cur.toList.drop (lo*sz+vs.length)).toArray):=by
 obtain⟨hz,hrl,ob,n',g1,g2⟩:=hs.hp k _ hk;rw[hσ] at g1;cases g1;obtain⟨hown,cur2,hg2,hle,hds⟩:=g2;rw[hg] at hg2;cases hg2;obtain⟨hvl,hpl,hpd⟩:=put_rep (us:=cur.toList) hrl hsl hlo (by rw[Array.length_toList];exact hle) hds hv (by rw[Array.length_toList];exact hfit);rw[Array.length_toList] at hpl;have hcs:((cur.toList.take (lo*sz)++vs++cur.toList.drop (lo*sz+vs.length)).toArray).size=cur.size:=by
  have hb:lo*sz+vs.length<=cur.size:=by rw[hvl,<- add_mul];exact hfit
  simp only[size_toArray,length_append,length_take,length_drop,Array.length_toList];omega
 have ev:=evo_set (hb':=.darr e sz (putRows rows lo seg)) hs hc hk hσ (fun _ q=>q) hg hcs;have hg':=setRow_heap w g cur (cur.toList.take (lo*sz)++vs++cur.toList.drop (lo*sz+vs.length)).toArray e _ hg;refine⟨ev,sw_set (hb':=.darr e sz (putRows rows lo seg)) hs hc hk hσ (fun _ q=>q) hg hcs ⟨hz,putRows_in hrl hsl,some g,q,hσ,hown,_,hg',by rw[hcs];exact hpl,?_⟩⟩;exact DsRep.evo ev _ _ hpd
end
end
section
open Go.RowKit
section
variable {P:Program} {c:Ctx} {σ:Sg} {F:Fzn} {h:Hp} {w:World}
theorem hb_rows {own:Nat->Prop} {k s:Nat} {hb:HB} {rows:List (List D)} (hr:hbRows hb=some (s,rows)) (hk:HbOk σ F w own k hb):0<s/\(∀r∈rows,r.length=s)/\∃ob n,σ k=some (ob,n)/\match ob with
  | none=>rows=[]|some g=>own g/\∃(cur:Array Value) (e:Nat),w.heap[g]? = some (Obj.cells cur e (0,0))/\rows.length*s<=cur.size/\DsRep σ F w rows.flatten (cur.toList.take (rows.length*s)):=by
 unfold hbRows at hr;split at hr
 ·cases hr;obtain⟨h1,h2,ob,n,h3,h4⟩:=hk;refine⟨h1,h2,ob,n,h3,?_⟩;cases ob with
  | none=>exact h4|some g=>obtain⟨g1,cur,g2,g3,g4⟩:=h4;exact⟨g1,cur,_,g2,g3,g4⟩
 ·rename_i e s' rows';cases hr;obtain⟨h1,h2,ob,n,h3,h4⟩:=hk;refine⟨h1,fun r hr=>?_,ob,n,h3,?_⟩
  ·obtain⟨r',hr',rfl⟩:=mem_map.1 hr;rw[length_map];exact h2 r' hr'
  ·cases ob with
   | none=>
    have h4:rows'=[]:=h4;rw[h4];rfl
   | some g=>
    obtain⟨g1,cur,g2,g3,g4⟩:=h4;refine⟨g1,cur,_,g2,by rw[length_map];exact g3,?_⟩;rw[length_map,show (rows'.map (List.map D.c)).flatten=rows'.flatten.map D.c by rw[map_flatten]];exact dsRep_of_cs g4
 ·cases hr
theorem slc_rep {x:PV} {b:Slc} {u:Value} (hs:slOf x=some b) (hx:PRep σ F w x u):0<b.sz/\((b.n=0/\∃b0:Option Addr,u=.slice b0 0 0)\/
  ∃(g q off cap:Nat) (cur:Array Value) (fr:Nat×Nat),σ b.k=some (some g,q)/\u=.slice (some ⟨g,off,none⟩) b.n cap/\b.n<=cap/\cap<=maxLen/\w.heap[g]? = some (Obj.cells cur b.e fr)/\off+cap*b.sz<=cur.size/\(0<cap->off=b.lo*b.sz)):=by
 unfold slOf at hs;split at hs
 ·cases hs;unfold PRep DRep at hx;obtain⟨h0,⟨m,h1,h2,h3⟩ | h1⟩:=hx
  ·exact⟨h0,.inl ⟨h2,h3⟩⟩
  ·exact⟨h0,.inr h1⟩
 ·cases hs;unfold PRep DRep at hx;obtain⟨h0,g,q,off,cur,fr,h1⟩:=hx;exact⟨h0,.inr ⟨g,q,off,_,cur,fr,h1⟩⟩
 ·cases hs
theorem slc_seg (hs:SW c σ h w) {x:PV} {b:Slc} {u:Value} {hb:HB} {rows:List (List D)} {m:Nat} (hsl:slOf x=some b) (hk:h b.k=some hb) (hr:hbRows hb=some (b.sz,rows)) (hm:m<=b.n) (hm0:0<m) (hle:b.lo+m<=rows.length)
  (hx:PRep σ (fz c σ h w) w x u):∃(ad:Addr) (cap:Nat) (vs:List Value),u=.slice (some ad) b.n cap/\DsRep σ (fz c σ h w) w ((rows.drop b.lo).take m).flatten vs/\(∀r∈(rows.drop b.lo).take m,r.length=b.sz)/\vs.length=m*b.sz/\∀j v,vs[j]? = some v->w.cell? (ad.add j)=some v:=by
 obtain⟨hz,⟨h1,_⟩ | ⟨g,q,off,cap,cur,fr,g1,rfl,g3,g4,g5,g6,g7⟩⟩:=slc_rep hsl hx
 ·omega
 ·obtain⟨_,hrl,ob,n',h1,h2⟩:=hb_rows hr (hs.hp _ _ hk);rw[g1] at h1;cases h1;obtain⟨_,cur2,e,h3,h4,h5⟩:=h2;rw[g5] at h3;cases h3;have hoff:=g7 (by omega);have hml:(b.lo+m)*b.sz<=rows.length*b.sz:=mul_le_mul_right _ hle;rw[add_mul] at hml;refine⟨_,cap,(cur.toList.drop (b.lo*b.sz)).take (m*b.sz),rfl,?_,fun r hr=>hrl r (mem_of_mem_drop (mem_of_mem_take hr)),?_,fun j v hv=>?_⟩
  ·have:=(h5.drop (b.lo*b.sz)).take (m*b.sz);rw[drop_flat hrl (by omega),take_flat (fun r hr=>hrl r (mem_of_mem_drop hr)) (by rw[length_drop];omega),drop_take,take_take,min_eq_left (by omega)] at this;exact this
  ·rw[length_take,length_drop,Array.length_toList];omega
  ·rw[Addr.add_mid,cell_of_row _ _ _ _ _ _ g5,hoff,<- Array.getElem?_toList];rw[List.getElem?_take] at hv;split at hv
   ·rwa [List.getElem?_drop] at hv
   ·cases hv
theorem run_copy_rows (dT sT ty elem:TypeId) (i:TypeInfo) (g o dLen dCap:Nat) (a:Addr) (sLen sCap:Nat) (cur:Array Value) (t:TypeId) (cs:List Value) (hu:P.underlying dT=some (.slice elem)) (hi:P.info? elem=some i)
  (hg:w.heap[g]? = some (.cells cur t (0,0))) (hn:cs.length=Nat.min sLen dLen*i.size) (hsrc:∀j v,cs[j]? = some v->w.cell? (a.add j)=some v) (hfit:o+cs.length<=cur.size) (h1:∀v∈cs,v.oneCell'=true) :
  (Builtin.copy_ #[dT,sT] ty #[.slice (some ⟨g,o,none⟩) dLen dCap,.slice (some a) sLen sCap]).run P w =
   .ok (goInt (Nat.min sLen dLen:Nat)) (w.setRow g (cur.toList.take o++cs++cur.toList.drop (o+cs.length)).toArray):=by
 have hl:=run_loadCells_list (P:=P) w a cs hsrc;have hst:=run_storeCells_at P g o t cs 0 cur w hg (by simpa using hfit) h1;simp[Builtin.copy_,run_underlying hu,Builtin.lenOf,Builtin.firstCells,sizeOf,typeInfo,hi,<- hn,hl,hst]
theorem same_hp {h:Hp} {k:Nat} {b:HB} (hk:h k=some b):upd h k (some b)=h:=by
 funext q
 by_cases e:q=k
 ·subst e;rw[upd_same,hk]
 ·rw[upd_ne _ _ e]
theorem putRows_nil (rows:List (List D)) (lo:Nat):putRows rows lo []=rows:=by
 unfold putRows;rw[List.append_nil,length_nil,add_zero,take_append_drop]
end
theorem capP_out {P:Program} {t:TypeId} {x:PV} {K:PV->Prop} (h:capP P t x K) :
  ∃v,K v/\∀(σ:Sg) (F:Fzn) (w:World) (u:Value) (ty:TypeId),PRep σ F w x u->∃z,(Builtin.cap_ #[t] ty #[u]).run P w=.ok z w/\PRep σ F w v z:=by
 unfold capP at h;split at h
 ·split at h
  ·rename_i kk ee sz lo n cc _ e hu;refine⟨_,h,fun σ F w u ty hx=>?_⟩;unfold PRep DRep at hx;obtain⟨_,_,_,_,_,_,_,rfl,_⟩:=hx;exact⟨_,by simp[Builtin.cap_,run_underlying hu,goInt],rep_int _ _⟩
  ·exact h.elim
 ·exact h.elim
theorem copyCutP_out {P:Program} {o:Oper} {e:Operand->PV} {h:Hp} {x y:Operand} {td ts:TypeId} {K:OpK} {X:Value->Hp->Prop} (ho:o.op=.call { callee:=.builtin .copy,args:=#[x,y],argTypes:=#[td,ts] })
  (hv:copyCutP P h td (e x) (e y) K):Outc P o e h K X:=by
 unfold copyCutP at hv;split at hv
 ·rename_i a b ha hb;split at hv
  ·rename_i e0 s rows hb0 hk hk2;split at hv
   ·rename_i s3 rows2 hrow;obtain⟨el,i,hu,hi,hv'⟩:=tySlice_out hv;clear hv;have hv:=hv';clear hv';split at hv
    ·rename_i hq;simp only[Bool.and_eq_true] at hq;obtain⟨q1,q2,q3,q4⟩:=hq;have q1:=eq_of_beq_eq_true q1;have q2:=eq_of_beq_eq_true q2;have q3:=eq_of_beq_eq_true q3;have q4:=eq_of_beq_eq_true q4;obtain⟨m,⟨m1,m2,m3⟩,⟨n1,n2⟩,hK⟩:=hv;refine .inl ⟨_,_,[(a.k,_),(b.k,_)],hK,by simpa using ⟨hk,hk2⟩,?_⟩;intro c σ h' ac w hc hs hop hrf hfr next Q KK
     have hk':=hrf (a.k,_) mem_cons_self;have hk2':=hrf (b.k,_) (mem_cons_of_mem _ mem_cons_self);have hpx:=hop x (by simp[ho,Op.operands,Call.operands]);have hpy:=hop y (by simp[ho,Op.operands,Call.operands]);have hmin:Nat.min b.n a.n=m:=by
      show min b.n a.n=m;omega
     obtain⟨hz,hax⟩:=slc_rep ha hpx;by_cases hm0:m=0
     ·subst hm0;have hrun:(execOp ac.eval o).run P w=.ok (.value (goInt 0)) w:=by
       obtain⟨_,⟨h1,b0,e1⟩ | ⟨g,q,off,cap,cur,fr,g1,e1,_⟩⟩:=slc_rep hb hpy<;>obtain⟨h2,b1,e2⟩ | ⟨g',q',off',cap',cur',fr',g1',e2,_⟩:=hax
       ·cases b0<;>cases b1<;>simp[execOp,ho,resolve,invoke,builtin,e1,e2,Builtin.copy_,run_underlying hu,Builtin.lenOf,Builtin.firstCells,sizeOf,typeInfo,hi,storeCells,loadCells,loadCellsFrom]
       ·cases b0<;>simp[execOp,ho,resolve,invoke,builtin,e1,e2,Builtin.copy_,run_underlying hu,Builtin.lenOf,Builtin.firstCells,sizeOf,typeInfo,hi,storeCells,loadCells,loadCellsFrom]
       ·cases b1<;>simp[execOp,ho,resolve,invoke,builtin,e1,e2,Builtin.copy_,run_underlying hu,Builtin.lenOf,Builtin.firstCells,sizeOf,typeInfo,hi,storeCells,loadCells,loadCellsFrom]
       ·have h3:min b.n a.n=0:=hmin;simp[execOp,ho,resolve,invoke,builtin,e1,e2,Builtin.copy_,run_underlying hu,Builtin.lenOf,Builtin.firstCells,sizeOf,typeInfo,hi,storeCells,loadCells,loadCellsFrom,hmin]
      unfold Oper.wp;rw[hrun];have hsame:Dl.app h' [(a.k,some (HB.darr e0 s (putRows rows a.lo ((rows2.drop b.lo).take 0))))]=h':=by
       rw[take_zero,putRows_nil];exact same_hp hk'
      rw[hsame] at KK;exact KK _ σ w Evo.refl hs (rep_int _ _) fun _ _ h=>h
     ·obtain⟨h2,_⟩ | ⟨g,q,off,cap,cur,fr,g1,e2,g3,g4,g5,g6,g7⟩:=hax
      ·omega
      ·subst q2;rw[q3,<- q4] at hrow;obtain⟨ad,cap2,vs,e1,v1,v2,v3,v4⟩:=slc_seg hs hb hk2' hrow m2 (by omega) n2 hpy;obtain⟨_,hrl,ob,n',h1,h2⟩:=hs.hp _ _ hk';rw[g1] at h1;cases h1;obtain⟨_,cur2,h3,_,_⟩:=h2;rw[g5] at h3;cases h3;have hoff:=g7 (by omega);have hcap:(a.lo+m)*a.sz<=cur.size:=by
        have:=mul_le_mul_right a.sz (show m<=cap by omega);rw[add_mul];omega
       have hsl:((rows2.drop b.lo).take m).length=m:=by rw[length_take,length_drop];omega
       have hr:=run_copy_rows (P:=P) (w:=w) td ts o.type el i g off a.n cap ad b.n cap2 cur _ vs hu hi g5 (by rw[hmin,v3,q4,q1]) v4 (by rw[v3,q4,hoff,<- add_mul];exact hcap) (DsRep.one v1);have hexec:(execOp ac.eval o).run P w=.ok (.value (goInt (m:Nat))) (w.setRow g (cur.toList.take (a.lo*a.sz)++vs++cur.toList.drop (a.lo*a.sz+vs.length)).toArray):=by
        rw[hmin,hoff] at hr;simp[execOp,ho,resolve,invoke,builtin,e1,e2,hoff,hr]
       obtain⟨c1,c2⟩:=cut_set hs hc hk' g1 g5 (fun r hr=>by rw[<- q4];exact v2 r hr) n1 v1 (by rw[hsl];exact hcap);unfold Oper.wp;rw[hexec];exact KK _ σ _ c1 c2 (rep_int _ _) fun _ _ h=>h
    ·exact hv.elim
   ·exact hv.elim
  ·exact hv.elim
 ·exact hv.elim
theorem clearP_out {P:Program} {o:Oper} {e:Operand->PV} {h:Hp} {x:Operand} {t:TypeId} {K:OpK} {X:Value->Hp->Prop} (ho:o.op=.call { callee:=.builtin .clear,args:=#[x],argTypes:=#[t] })
  (hv:clearP P h t (e x) K):Outc P o e h K X:=by
 unfold clearP at hv;split at hv
 ·rename_i k ek sz lo n cc hxe;split at hv
  ·rename_i e0 s rows hk;obtain⟨el,i,hu,hi,hv'⟩:=tySlice_out hv;clear hv;have hv:=hv';clear hv';split at hv
   ·rename_i z hz;split at hv
    ·rename_i hq;simp only[Bool.and_eq_true] at hq;obtain⟨q1,q2,q3,q4⟩:=hq;obtain rfl:=eq_of_beq_eq_true q1;obtain rfl:=eq_of_beq_eq_true q2;have q3:=eq_of_beq_eq_true q3;refine .inl ⟨_,_,[(k,_)],hv,by simpa using hk,?_⟩;intro c σ h' ac w hc hs hop hrf hfr next Q KK
     have hk':=hrf (k,_) mem_cons_self;have hpx:=hop x (by simp[ho,Op.operands,Call.operands]);rw[hxe] at hpx;unfold PRep DRep at hpx;obtain⟨hz0,g,q,off,cur,fr,g1,e2,g3,g4,g5,g6,g7⟩:=hpx;obtain⟨_,hrl,ob,n',h1,h2⟩:=hs.hp _ _ hk';rw[g1] at h1;cases h1;obtain⟨hown,cur2,h3,h4,h5⟩:=h2;rw[g5] at h3;cases h3;have hpre:∀(cur':Array Value),cur'.size=cur.size->cur'.toList.take (lo*i.size)=cur.toList.take (lo*i.size)->Evo σ σ (fz c σ h' w) (fz c σ (upd h' k (some (.darr ek i.size (rows.take lo)))) (w.setRow g cur')) w (w.setRow g cur')/\SW c σ (upd h' k (some (.darr ek i.size (rows.take lo)))) (w.setRow g cur'):=by
      intro cur' hsz htk;have ev:=evo_set (hb':=.darr ek i.size (rows.take lo)) hs hc hk' g1 (fun _ q=>q) g5 hsz;have hg':=setRow_heap w g cur cur' _ _ g5;have hmin:(rows.take lo).length*i.size<=rows.length*i.size:=mul_le_mul_right _ (by rw[length_take];omega);refine⟨ev,sw_set (hb':=.darr ek i.size (rows.take lo)) hs hc hk' g1 (fun _ q=>q) g5 hsz ⟨hz0,fun r hr=>hrl r (mem_of_mem_take hr),some g,q,g1,hown,cur',hg',by rw[hsz];omega,?_⟩⟩;refine DsRep.evo ev _ _ ?_;have hll:(rows.take lo).length*i.size<=lo*i.size:=mul_le_mul_right _ (by rw[length_take];omega);have e1:cur'.toList.take ((rows.take lo).length*i.size)=cur.toList.take ((rows.take lo).length*i.size):=by
       have:=congrArg (List.take ((rows.take lo).length*i.size)) htk
       rwa [take_take,take_take,min_eq_left hll] at this
      rw[e1];have:=h5.take ((rows.take lo).length*i.size);rw[take_take,min_eq_left hmin,take_flat hrl (by rw[length_take];omega),length_take] at this;rw[length_take];by_cases q:lo<=rows.length
      ·rw[min_eq_left q] at this ⊢;exact this
      ·rw[Nat.min_eq_right (by omega)] at this ⊢;rw[take_of_length_le (Nat.le_refl _)] at this;rw[take_of_length_le (by omega)];exact this
     by_cases hn0:n=0
     ·subst hn0;have hrun:(execOp ac.eval o).run P w=.ok (.value (.tuple #[])) w:=by simp[execOp,ho,resolve,invoke,builtin,e2,Builtin.clear_,run_underlying hu]
      unfold Oper.wp;rw[hrun];obtain⟨c1,c2⟩:=hpre cur rfl rfl;rw[setRow_self w g cur _ _ g5] at c1 c2;exact KK _ σ w c1 c2 (by unfold PRep;exact⟨[],rfl,by unfold PsRep;trivial⟩) fun _ _ h=>h
     ·have hoff:=g7 (by omega);have hnn:n*i.size<=cc*i.size:=mul_le_mul_right _ g3;have hzl:(Builtin.zeroCells z.cells n).toList.length=n*i.size:=by rw[Array.length_toList,size_zeroCells,q3]
      have hst:=run_storeCells_at P g off ek (Builtin.zeroCells z.cells n).toList 0 cur w g5 (by rw[hzl];omega) (by
       intro v hv;have hv:=Array.mem_def.2 hv;unfold Builtin.zeroCells at hv;obtain⟨j,hj,rfl⟩:=Array.mem_map.1 hv;have hpos:0<z.cells.size:=by omega
       have hlt:j%z.cells.size<z.cells.size:=Nat.mod_lt _ hpos;rw[getElem!_pos z.cells _ hlt];exact all_eq_true.1 q4 _ (Array.mem_def.1 (Array.getElem_mem hlt)))
      simp only[add_zero] at hst;have hzv:∀w,(zeroValue el).run P w=.ok z w:=fun w=>by simp[zeroValue,typeInfo,hi,hz]
      have hrun:(execOp ac.eval o).run P w=.ok (.value (.tuple #[])) (w.setRow g (cur.toList.take off++(Builtin.zeroCells z.cells n).toList++cur.toList.drop (off+(Builtin.zeroCells z.cells n).toList.length)).toArray):=by
       obtain⟨n1,rfl⟩:∃n1,n=n1+1:=⟨n - 1,by omega⟩;simp[execOp,ho,resolve,invoke,builtin,e2,Builtin.clear_,run_underlying hu,hzv,hst]
      have hcs:((cur.toList.take off++(Builtin.zeroCells z.cells n).toList++cur.toList.drop (off+(Builtin.zeroCells z.cells n).toList.length)).toArray).size=cur.size:=by
       rw[hzl];simp only[size_toArray,length_append,length_take,length_drop,hzl,Array.length_toList];omega
      obtain⟨c1,c2⟩:=hpre _ hcs (by
       show (cur.toList.take off++(Builtin.zeroCells z.cells n).toList++cur.toList.drop (off+(Builtin.zeroCells z.cells n).toList.length)).take (lo*i.size)=_;rw[<- hoff,append_assoc,take_left'];rw[length_take,Array.length_toList];omega)
      unfold Oper.wp;rw[hrun];exact KK _ σ _ c1 c2 (by unfold PRep;exact⟨[],rfl,by unfold PsRep;trivial⟩) fun _ _ h=>h
    ·exact hv.elim
   ·exact hv.elim
  ·exact hv.elim
 ·exact hv.elim
theorem new_rows {c:Ctx} {σ:Sg} {h:Hp} {w:World} (hs:SW c σ h w) {key:Nat} (h0:σ key=none) {e sz n cap:Nat} {rows:List (List D)} {cs:Array Value} (hz:0<sz) (hrl:∀r∈rows,r.length=sz) (hle:rows.length*sz<=cs.size)
  (hds:DsRep σ (fz c σ h w) w rows.flatten (cs.toList.take (rows.length*sz))) (hn:n<=cap) (hcap:cap<=maxLen) (hfit:cap*sz<=cs.size) :
  GrownA c σ h (upd h key (some (.darr e sz rows))) w key e sz n (.slice (some ⟨w.heap.size,0,none⟩) n cap) (w.drew.alloc (.cells cs e)):=by
 have hb:Below w.heap.size w w.drew:=(Below.refl _ _).drew;have hs2:=sw_below hs hb;have he2:=evo_below hs hb;have ev:=evo_new hs2 h0 (.cells cs e) 0 (.darr e sz rows);have hnew:(w.drew.alloc (.cells cs e)).heap[w.drew.heap.size]? = some (.cells cs e (0,0)):=heap_alloc_new w.drew _;refine⟨_,he2.trans ev,sw_new hs2 h0 _ 0 _ ⟨hz,hrl,some w.drew.heap.size,0,upd_same ..,.inl hs2.size,cs,hnew,hle,DsRep.evo (he2.trans ev) _ _ hds⟩,?_,fresh_upd _⟩;unfold PRep DRep;exact⟨hz,.inr ⟨w.heap.size,0,0,cap,_,_,upd_same ..,rfl,hn,hcap,hnew,by rw[zero_add];exact hfit,fun _=>by rw[zero_mul]⟩⟩
theorem appCutP_out {P:Program} {o:Oper} {key:Nat} {e:Operand->PV} {h:Hp} {t t2:TypeId} {s x:Operand} {k e0 sz lo n cc:Nat} {K:OpK} {X:Value->Hp->Prop} (ho:o.op=.call { callee:=.builtin .append,args:=#[s,x],argTypes:=#[t,t2] })
  (hse:e s=.d (.cut k e0 sz lo n cc)) (hv:appCutP P h key t t2 k e0 sz lo n cc (e x) K):Outc P o e h K X:=by
 unfold appCutP at hv;split at hv
 ·rename_i er sr rows b0 bk hk;obtain rfl:=eq_of_beq_eq_true b0;obtain⟨el,i,hu,hi,hv'⟩:=tySlice_out hv;clear hv;have hv:=hv';clear hv';split at hv
  ·rename_i hq;simp only[Bool.and_eq_true] at hq;obtain⟨hel,q1,q2,q3⟩:=hq;obtain rfl:=eq_of_beq_eq_true q1;obtain rfl:=eq_of_beq_eq_true q2;obtain rfl:=eq_of_beq_eq_true q3;unfold elemOk at hel;split at hel
   ·rename_i z hz;simp only[Bool.and_eq_true] at hel;obtain⟨⟨hzs,hsz⟩,hby⟩:=hel;have hzs:=eq_of_beq_eq_true hzs;have hsz:=le_of_ble_eq_true hsz;have hby:=le_of_ble_eq_true hby;have hkk:k≠key:=by
     rintro rfl;have:=beq_refl k;rw[show Nat.beq k k=false from bk] at this;cases this
    have hops:∀y,y=s\/y=x->y∈o.op.operands:=by
     intro y hy;simp only[ho,Op.operands,Call.operands];rcases hy with rfl | rfl<;>simp
    have hexec:∀(a:Act) (w w':World) (v:Value),(Builtin.append_ #[t,t2] o.type #[a.eval s,a.eval x]).run P w=.ok v w'->(execOp a.eval o).run P w=.ok (.value v) w':=by
     intro a w w' v hr;simp[execOp,ho,resolve,invoke,builtin,hr]
    have hself:∀(c:Ctx) (σ:Sg) (h':Hp) (w:World) (u:Value),SW c σ h' w->h' k=some (.darr er i.size rows)->PRep σ (fz c σ h' w) w (e s) u->
      ∃(g q off:Nat) (cur:Array Value),σ k=some (some g,q)/\u=.slice (some ⟨g,off,none⟩) n cc/\n<=cc/\cc<=maxLen/\w.heap[g]? = some (.cells cur e0 (0,0))/\er=e0/\off+cc*i.size<=cur.size/\(0<cc->off=0)/\(∀r∈rows,r.length=i.size)/\rows.length*i.size<=cur.size/\DsRep σ (fz c σ h' w) w rows.flatten (cur.toList.take (rows.length*i.size)):=by
     intro c σ h' w u hs hk' hp;rw[hse] at hp;unfold PRep DRep at hp;obtain⟨_,g,q,off,cur,fr,g1,g2,g3,g4,g5,g6,g7⟩:=hp;obtain⟨_,hrl,ob,n',h1,h2⟩:=hs.hp _ _ hk';rw[g1] at h1;cases h1;obtain⟨_,cur2,h3,h4,h5⟩:=h2;rw[g5] at h3;cases h3;exact⟨g,q,off,cur,g1,g2,g3,g4,g5,rfl,g6,fun p=>by rw[g7 p,zero_mul],hrl,h4,h5⟩
    have holds:∀{c:Ctx} {σ:Sg} {h':Hp} {w:World} {cur:Array Value},(∀r∈rows,r.length=i.size)->n<=rows.length->rows.length*i.size<=cur.size->DsRep σ (fz c σ h' w) w rows.flatten (cur.toList.take (rows.length*i.size))->
      DsRep σ (fz c σ h' w) w (rows.take n).flatten (cur.toList.take (n*i.size))/\(cur.toList.take (n*i.size)).length=n*i.size:=by
     intro c σ h' w cur hrl hn hle hd;have hml:=mul_le_mul_right i.size hn;refine⟨?_,by rw[length_take,Array.length_toList];omega⟩;have:=hd.take (n*i.size);rw[take_take,min_eq_left hml,take_flat hrl hn] at this;exact this
    have hcell:∀{w:World} {g off:Nat} {cur:Array Value} {te:TypeId},w.heap[g]? = some (.cells cur te (0,0))->(0<n->off=0)->∀j v,(cur.toList.take (n*i.size))[j]? = some v->w.cell? ((⟨g,off,none⟩:Addr).add j)=some v:=by
     intro w g off cur te hg hoff j v hv;rw[List.getElem?_take] at hv;split at hv
     ·rename_i hj;have hn0:0<n:=by
       rcases eq_zero_or_pos n with e | e
       ·rw[e,zero_mul] at hj;omega
       ·exact e
      rw[Addr.add_mid,cell_of_row _ _ _ _ _ _ hg,hoff hn0,zero_add,<- Array.getElem?_toList];exact hv
     ·cases hv
    split at hv
    ·rename_i kz zz hxe;split at hv
     ·rename_i hti;obtain⟨⟨z1,z2,z3,z4⟩,hK⟩:=hv;obtain⟨zn,rfl⟩:∃zn:Nat,zz=(zn:Int):=⟨zz.toNat,by omega⟩;rw[toNat_natCast] at z4 hK;obtain⟨kn,htn⟩:∃kn,P.underlying t2=some (.int kn):=by
       unfold isInt at hti;split at hti
       ·rename_i kn hh;exact⟨kn,hh⟩
       ·cases hti
      refine .inl ⟨_,_,[(k,_)],hK,by simpa using hk,?_⟩;intro c σ h' a w hc hs' hx hrf hfr next Q KK
      have hk':=hrf (k,_) (mem_singleton.2 rfl);have h0:σ key=none:=hfr key (by simp[Dl.keys]) (by simpa using hkk);obtain⟨g,q,off,cur,g1,g2,g3,g4,g5,rfl,g6,g7,hrl,hle,hd⟩:=hself c σ h' w _ hs' hk' (hx s (hops s (.inl rfl)));obtain⟨d1,d2⟩:=holds hrl z3 hle hd;have hxv:=hx x (hops x (.inr rfl));rw[hxe] at hxv;have hxv:=rep_v hxv;have hbelow:Below w.heap.size w w.drew:=(Below.refl _ _).drew;have hold:=run_firstCells_some (P:=P) w.drew i.size n ⟨g,off,none⟩ n cc (cur.toList.take (n*i.size)) d2 (hcell (w:=w.drew) g5 fun p=>g7 (by omega));have hmx:n+zn<=maxLen:=by
       rw[maxLen_val];have:n+zn<=(n+zn)*i.bytes:=le_mul_of_pos_right _ hby;omega
      have hzb:zn*i.bytes<=(n+zn)*i.bytes:=mul_le_mul_right _ (by omega);have hr:=Lib.run_append_grow_zeros (P:=P) w t t2 o.type er i z kz kn hu htn hi hz (some ⟨g,off,none⟩) n cc (cur.toList.take (n*i.size)) hold zn (by omega) hsz (by omega) (by rw[maxLen_val] at hmx;omega) (by omega) (growslice_fits (by omega) z4);have hge:=grownCap_ge w (n+zn) cc er;have hle2:=grownCap_le_maxLen w (n+zn) cc er hmx;have hsize:((cur.toList.take (n*i.size)).toArray++Builtin.zeroCells z.cells zn++Builtin.zeroCells z.cells (grownCap w (n+zn) cc er - (n+zn))).size=grownCap w (n+zn) cc er*i.size:=by
       rw[Array.size_append,Array.size_append,size_zeroCells,size_zeroCells,size_toArray,d2,hzs,<- add_mul,<- add_mul]
       congr 1;omega
      have hpn:(rows.take n).length=n:=by rw[length_take];omega
      obtain⟨σ',a2,a3,a4,a5⟩:=new_rows (e:=er) (n:=n+zn) (rows:=rows.take n) hs' h0 hsz (fun r hr=>hrl r (mem_of_mem_take hr)) (by rw[hpn,hsize];exact mul_le_mul_right _ (by omega)) (by
       rw[hpn,Array.append_assoc,Array.toList_append,take_left' d2];exact d1) hge hle2 (le_of_eq hsize.symm)
      unfold Oper.wp;rw[hexec a w _ _ (by rw[g2,hxv];exact hr)];exact KK _ σ' _ a2 a3 a4 fun q hq=>a5 q (by rintro rfl;simp[Dl.keys] at hq)
     ·exact hv.elim
    ·split at hv
     ·rename_i b hb ht;obtain rfl:=eq_of_beq_eq_true ht;split at hv
      ·rename_i hb2 hk2;split at hv
       ·rename_i s3 rows2 hrow;split at hv
        ·rename_i hq;simp only[Bool.and_eq_true,Bool.not_eq_true'] at hq;obtain⟨p1,p2,p3⟩:=hq;have p1:=eq_of_beq_eq_true p1;have p2:=eq_of_beq_eq_true p2;have hk2k:b.k≠key:=by
          intro hh;rw[hh] at p3;have:=beq_refl key;rw[show Nat.beq key key=false from p3] at this;cases this
         subst p1;obtain⟨⟨n1,n2,n3⟩,hroom,hgrow⟩:=hv;have hseg:((rows2.drop b.lo).take b.n).length=b.n:=by rw[length_take,length_drop];omega
         by_cases hrm:n+b.n<=cc
         ·refine .inl ⟨_,_,[(k,_),(b.k,_)],hroom hrm,by simpa using ⟨hk,hk2⟩,?_⟩;intro c σ h' a w hc hs' hx hrf hfr next Q KK
          have hk':=hrf (k,_) mem_cons_self;have hk2':=hrf (b.k,_) (mem_cons_of_mem _ mem_cons_self);obtain⟨g,q,off,cur,g1,g2,g3,g4,g5,rfl,g6,g7,hrl,hle,hd⟩:=hself c σ h' w _ hs' hk' (hx s (hops s (.inl rfl)));have hpy:=hx x (hops x (.inr rfl));by_cases hb0:b.n=0
          ·have hrun:(Builtin.append_ #[t,t] o.type #[a.eval s,a.eval x]).run P w=.ok (.slice (some ⟨g,off,none⟩) (n+b.n) cc) w:=by
            obtain⟨_,⟨h1,b1,e1⟩ | ⟨g',q',off',cap',cur',fr',g1',e1,_⟩⟩:=slc_rep hb hpy
            ·cases b1<;>simp[g2,e1,hb0,Builtin.append_,run_underlying hu,sizeOf,typeInfo,hi,Builtin.lenOf,Builtin.firstCells,storeCells,loadCells,loadCellsFrom,g3]
            ·simp[g2,e1,hb0,Builtin.append_,run_underlying hu,sizeOf,typeInfo,hi,Builtin.lenOf,Builtin.firstCells,storeCells,loadCells,loadCellsFrom,g3]
           have hsame:Dl.app h' [(k,some (HB.darr er i.size (putRows rows n ((rows2.drop b.lo).take b.n))))]=h':=by
            rw[hb0,take_zero,putRows_nil];exact same_hp hk'
           unfold Oper.wp;rw[hexec a w w _ hrun];rw[hsame] at KK;refine KK _ σ w Evo.refl hs' ?_ fun _ _ h=>h;unfold PRep DRep;exact⟨hsz,g,q,off,cur,_,g1,rfl,hrm,g4,g5,g6,fun p=>by rw[g7 p,zero_mul]⟩
          ·have hoff:=g7 (by omega);subst hoff;rw[<- p2] at hrow;obtain⟨ad,cap2,vs,e1,v1,v2,v3,v4⟩:=slc_seg hs' hb hk2' hrow (Nat.le_refl _) (by omega) n2 hpy;have hml:=mul_le_mul_right i.size hrm;have hfit:(n+b.n)*i.size<=cur.size:=by omega
           have hr:=run_append_room (P:=P) w t o.type er i hu hi g n cc cur g5 ad b.n cap2 vs (by rw[v3,p2]) v4 (DsRep.one v1) hrm (by rw[v3,p2,<- add_mul];exact hfit);obtain⟨c1,c2⟩:=cut_set hs' hc hk' g1 g5 (fun r hr=>by rw[<- p2];exact v2 r hr) n1 v1 (by rw[hseg];exact hfit);unfold Oper.wp;rw[hexec a w _ _ (by rw[g2,e1];exact hr)];refine KK _ σ _ c1 c2 ?_ fun _ _ h=>h;unfold PRep DRep;have hb:n*i.size+vs.length<=cur.size:=by rw[v3,p2,<- add_mul];exact hfit
           refine⟨hsz,g,q,0,_,_,g1,rfl,hrm,g4,setRow_heap w g cur _ _ _ g5,?_,fun _=>by rw[zero_mul]⟩;simp only[size_toArray,length_append,length_take,length_drop,Array.length_toList];omega
         ·refine .inl ⟨_,_,[(k,_),(b.k,_)],hgrow (by omega),by simpa using ⟨hk,hk2⟩,?_⟩;intro c σ h' a w hc hs' hx hrf hfr next Q KK
          have hk':=hrf (k,_) mem_cons_self;have hk2':=hrf (b.k,_) (mem_cons_of_mem _ mem_cons_self);have h0:σ key=none:=hfr key (by simp[Dl.keys]) (by simpa using ⟨hkk,hk2k⟩);obtain⟨g,q,off,cur,g1,g2,g3,g4,g5,rfl,g6,g7,hrl,hle,hd⟩:=hself c σ h' w _ hs' hk' (hx s (hops s (.inl rfl)));have hpy:=hx x (hops x (.inr rfl));obtain⟨d1,d2⟩:=holds hrl n1 hle hd;rw[<- p2] at hrow;obtain⟨ad,cap2,vs,e1,v1,v2,v3,v4⟩:=slc_seg hs' hb hk2' hrow (Nat.le_refl _) (by omega) n2 hpy;have hmx:n+b.n<=maxLen:=by
           rw[maxLen_val];have:n+b.n<=(n+b.n)*i.bytes:=le_mul_of_pos_right _ hby;omega
          have hr:=run_append_grow (P:=P) w t o.type er i z hu hi hz ⟨g,off,none⟩ n cc _ d2 (hcell g5 fun p=>g7 (by omega)) ad b.n cap2 vs (by rw[v3,p2]) v4 (by omega) (by rw[maxLen_val] at hmx;omega) (growslice_fits (by omega) n3);have hge:=grownCap_ge w (n+b.n) cc er;have hle2:=grownCap_le_maxLen w (n+b.n) cc er hmx;have hsize:((cur.toList.take (n*i.size)).toArray++vs.toArray++Builtin.zeroCells z.cells (grownCap w (n+b.n) cc er - (n+b.n))).size=grownCap w (n+b.n) cc er*i.size:=by
           rw[Array.size_append,Array.size_append,size_zeroCells,size_toArray,size_toArray,d2,v3,p2,hzs,<- add_mul,<- add_mul]
           congr 1;omega
          have hpn:(rows.take n++(rows2.drop b.lo).take b.n).length=n+b.n:=by rw[length_append,hseg,length_take];omega
          have hrr:∀r∈rows.take n++(rows2.drop b.lo).take b.n,r.length=i.size:=fun r hr=>(mem_append.1 hr).elim (fun hr=>hrl r (mem_of_mem_take hr)) fun hr=>by rw[<- p2];exact v2 r hr
          obtain⟨σ',a2,a3,a4,a5⟩:=new_rows (e:=er) (n:=n+b.n) (rows:=rows.take n++(rows2.drop b.lo).take b.n) hs' h0 hsz hrr (by rw[hpn,hsize];exact mul_le_mul_right _ hge) (by
           rw[hpn,Array.toList_append,take_left' (by rw[Array.toList_append,length_append,d2,v3,p2,add_mul]),Array.toList_append,flatten_append];exact d1.append v1) hge hle2 (le_of_eq hsize.symm)
          unfold Oper.wp;rw[hexec a w _ _ (by rw[g2,e1];exact hr)];exact KK _ σ' _ a2 a3 a4 fun q hq=>a5 q (by rintro rfl;simp[Dl.keys] at hq)
        ·exact hv.elim
       ·exact hv.elim
      ·exact hv.elim
     ·exact hv.elim
   ·cases hel
  ·exact hv.elim
 ·exact hv.elim
theorem appEmpP_out {P:Program} {o:Oper} {key:Nat} {e:Operand->PV} {h:Hp} {t t2:TypeId} {s x:Operand} {b:Slc} {K:OpK} {X:Value->Hp->Prop} (ho:o.op=.call { callee:=.builtin .append,args:=#[s,x],argTypes:=#[t,t2] })
  (hse:e s=.d .emp) (hb:slOf (e x)=some b) (hv:appEmpP P h key t t2 b K):Outc P o e h K X:=by
 unfold appEmpP at hv;split at hv
 ·rename_i hb2 ht hk2;obtain rfl:=eq_of_beq_eq_true ht;split at hv
  ·rename_i s3 rows2 hrow;obtain⟨el,i,hu,hi,hv'⟩:=tySlice_out hv;clear hv;have hv:=hv';clear hv';split at hv
   ·rename_i hq;simp only[Bool.and_eq_true,Bool.not_eq_true'] at hq;obtain⟨hel,p1,p2,p3⟩:=hq;have p1:=eq_of_beq_eq_true p1;have p2:=eq_of_beq_eq_true p2;have hk2k:b.k≠key:=by
     intro hh;rw[hh] at p3;have:=beq_refl key;rw[show Nat.beq key key=false from p3] at this;cases this
    unfold elemOk at hel;split at hel
    ·rename_i z hz;simp only[Bool.and_eq_true] at hel;obtain⟨⟨hzs,hsz⟩,hby⟩:=hel;have hzs:=eq_of_beq_eq_true hzs;have hsz:=le_of_ble_eq_true hsz;have hby:=le_of_ble_eq_true hby;obtain⟨⟨n1,n2,n3⟩,hK⟩:=hv;have hseg:((rows2.drop b.lo).take b.n).length=b.n:=by rw[length_take,length_drop];omega
     have hops:∀y,y=s\/y=x->y∈o.op.operands:=by
      intro y hy;simp only[ho,Op.operands,Call.operands];rcases hy with rfl | rfl<;>simp
     have hexec:∀(a:Act) (w w':World) (v:Value),(Builtin.append_ #[t,t] o.type #[a.eval s,a.eval x]).run P w=.ok v w'->(execOp a.eval o).run P w=.ok (.value v) w':=by
      intro a w w' v hr;simp[execOp,ho,resolve,invoke,builtin,hr]
     refine .inl ⟨_,_,[(b.k,_)],hK,by simpa using hk2,?_⟩;intro c σ h' a w hc hs' hx hrf hfr next Q KK
     have hk2':=hrf (b.k,_) mem_cons_self;have h0:σ key=none:=hfr key (by simp[Dl.keys]) (by simpa using hk2k);have hps:=hx s (hops s (.inl rfl));have hpy:=hx x (hops x (.inr rfl));rw[hse] at hps;unfold PRep DRep at hps;obtain⟨a0,hps⟩:=hps;rw[p1,<- p2] at hrow;obtain⟨ad,cap2,vs,e1,v1,v2,v3,v4⟩:=slc_seg hs' hb hk2' hrow (Nat.le_refl _) (by omega) n2 hpy;have hmx:b.n<=maxLen:=by
      rw[maxLen_val];have:b.n<=b.n*i.bytes:=le_mul_of_pos_right _ hby;omega
     have hr:(Builtin.append_ #[t,t] o.type #[a.eval s,a.eval x]).run P w=.ok (.slice (some ⟨w.heap.size,0,none⟩) b.n (grownCap w b.n 0 el)) (w.drew.alloc (.cells (vs.toArray++Builtin.zeroCells z.cells (grownCap w b.n 0 el - b.n)) el)):=by
      rw[hps,e1];cases a0 with
      | none=>exact run_append_nil (P:=P) w t o.type el i z hu hi hz ad b.n cap2 vs (by rw[v3,p2]) v4 n1 (by rw[maxLen_val] at hmx;omega) (by omega)|some ad0=>
       have:=run_append_grow (P:=P) w t o.type el i z hu hi hz ad0 0 0 [] (by simp) (by simp) ad b.n cap2 vs (by rw[v3,p2]) v4 (by omega) (by rw[maxLen_val] at hmx;omega) (growslice_fits (by omega) (by rw[zero_add];exact n3));simpa using this
     have hge:=grownCap_ge w b.n 0 el;have hle2:=grownCap_le_maxLen w b.n 0 el hmx;have hsize:(vs.toArray++Builtin.zeroCells z.cells (grownCap w b.n 0 el - b.n)).size=grownCap w b.n 0 el*i.size:=by
      rw[Array.size_append,size_zeroCells,size_toArray,v3,p2,hzs,<- add_mul]
      congr 1;omega
     have hrr:∀r∈(rows2.drop b.lo).take b.n,r.length=i.size:=fun r hr=>by rw[<- p2];exact v2 r hr
     obtain⟨σ',a2,a3,a4,a5⟩:=new_rows (e:=el) (n:=b.n) (rows:=(rows2.drop b.lo).take b.n) hs' h0 hsz hrr (by rw[hseg,hsize];exact mul_le_mul_right _ hge) (by
      rw[hseg,Array.toList_append,take_left' (by rw[v3,p2])];exact v1) hge hle2 (le_of_eq hsize.symm)
     unfold Oper.wp;rw[hexec a w _ _ hr];exact KK _ σ' _ a2 a3 a4 fun q hq=>a5 q (by rintro rfl;simp[Dl.keys] at hq)
    ·cases hel
   ·exact hv.elim
  ·exact hv.elim
 ·exact hv.elim
def rowsV (sz:Nat):Nat->List Value->List (List C)
 | 0,_=>[]|n+1,vs=>(vs.take sz).map C.v::rowsV sz n (vs.drop sz)
theorem rowsV_len (sz:Nat):∀(n:Nat) (vs:List Value),(rowsV sz n vs).length=n
 | 0,_=>rfl|n+1,vs=>by rw[rowsV,length_cons,rowsV_len sz n]
theorem rowsV_flat (sz:Nat):∀(n:Nat) (vs:List Value),vs.length=n*sz->(rowsV sz n vs).flatten=vs.map C.v
 | 0,vs,h=>by
  rw[zero_mul] at h;rw[eq_nil_of_length_eq_zero h];rfl
 | n+1,vs,h=>by
  rw[rowsV,flatten_cons,rowsV_flat sz n _ (by rw[length_drop,h,add_mul];omega),<- map_append,take_append_drop]
theorem rowsV_row (sz:Nat):∀(n:Nat) (vs:List Value),vs.length=n*sz->∀r∈rowsV sz n vs,r.length=sz
 | 0,_,_,r,hr=>by cases hr
 | n+1,vs,h,r,hr=>by
  rw[add_mul] at h;rcases mem_cons.1 hr with rfl | hr
  ·rw[length_map,length_take];omega
  ·exact rowsV_row sz n _ (by rw[length_drop];omega) r hr
theorem csRep_mapv {F:Fzn} {w:World}:∀(vs:List Value),(∀v∈vs,v.oneCell'=true)->CsRep F w (vs.map C.v) vs
 | [],_=>csRep_nil|v::vs,h=>csRep_cons (by unfold CRep;exact⟨rfl,h v mem_cons_self⟩) (csRep_mapv vs fun v hv=>h v (mem_cons_of_mem _ hv))
theorem csRep_mapv_inv {F:Fzn} {w:World}:∀(vs us:List Value),CsRep F w (vs.map C.v) us->us=vs
 | [],us,h=>csRep_nil_inv h|v::vs,us,h=>by
  obtain⟨u,us',rfl,g1,g2⟩:=csRep_inv h;unfold CRep at g1;rw[g1.1,csRep_mapv_inv vs us' g2]
theorem appArr2P_out {P:Program} {o:Oper} {key:Nat} {e:Operand->PV} {h:Hp} {t t2:TypeId} {s x:Operand} {b:Slc} {K:OpK} {X:Value->Hp->Prop} (ho:o.op=.call { callee:=.builtin .append,args:=#[s,x],argTypes:=#[t,t2] })
  (hb:slOf (e x)=some b) (hv:appArr2P P h key t t2 (e s) b K):Outc P o e h K X:=by
 unfold appArr2P at hv;split at hv
 ·rename_i hb2 ht hk2;obtain rfl:=eq_of_beq_eq_true ht;split at hv
  ·rename_i s3 rows2 hrow;obtain⟨el,i,hu,hi,hv'⟩:=tySlice_out hv;clear hv;have hv:=hv';clear hv';split at hv
   ·rename_i hq;simp only[Bool.and_eq_true,Bool.not_eq_true'] at hq;obtain⟨hel,p1,p2,p3⟩:=hq;have p1:=eq_of_beq_eq_true p1;have p2:=eq_of_beq_eq_true p2;have hk2k:b.k≠key:=by
     intro hh;rw[hh] at p3;have:=beq_refl key;rw[show Nat.beq key key=false from p3] at this;cases this
    unfold elemOk at hel;split at hel
    ·rename_i z hz;simp only[Bool.and_eq_true] at hel;obtain⟨⟨hzs,hsz⟩,hby⟩:=hel;have hzs:=eq_of_beq_eq_true hzs;have hsz:=le_of_ble_eq_true hsz;have hby:=le_of_ble_eq_true hby;have hops:∀y,y=s\/y=x->y∈o.op.operands:=by
      intro y hy;simp only[ho,Op.operands,Call.operands];rcases hy with rfl | rfl<;>simp
     have hexec:∀(a:Act) (w w':World) (v:Value),(Builtin.append_ #[t,t] o.type #[a.eval s,a.eval x]).run P w=.ok v w'->(execOp a.eval o).run P w=.ok (.value v) w':=by
      intro a w w' v hr;simp[execOp,ho,resolve,invoke,builtin,hr]
     split at hv
     ·rename_i k e1 sz lo n1 hse;split at hv
      ·rename_i e5 ekk e0;simp only[Bool.and_eq_true] at e5;obtain⟨e5,e6⟩:=e5;obtain rfl:=eq_of_beq_eq_true e5;obtain rfl:=eq_of_beq_eq_true e6;obtain rfl:=eq_of_beq_eq_true e0;split at hv
       ·rename_i e2 sz2 rows hk;split at hv
        ·rename_i e7 e8;obtain rfl:=eq_of_beq_eq_true e7;obtain rfl:=eq_of_beq_eq_true e8;obtain⟨⟨n1b,hnr,n2b,hroom⟩,hv⟩:=hv;refine .inl ⟨_,_,[(k,_),(b.k,_)],hv,by simpa using ⟨hk,hk2⟩,?_⟩;intro c σ h' a w hc hs' hx hrf hfr next Q KK
         have h0:σ key=none:=by
          by_cases q:k=key
          ·subst q;have:=beq_refl k;rw[show Nat.beq k k=false from ekk] at this;cases this
          ·exact hfr key (by simp[Dl.keys]) (by simpa using ⟨q,hk2k⟩)
         have hk':=hrf (k,_) mem_cons_self;have hk2':=hrf (b.k,_) (mem_cons_of_mem _ mem_cons_self);have hps:=hx s (hops s (.inl rfl));rw[hse] at hps;have hpy:=hx x (hops x (.inr rfl));rw[p1,<- p2] at hrow;obtain⟨ad,cap2,vs,u1,v1,v2,v3,v4⟩:=slc_seg hs' hb hk2' hrow (Nat.le_refl _) (by omega) n2b hpy;rw[p2] at v2 v3;have hlm:=rowsV_len i.size b.n vs;have hfl:=rowsV_flat i.size b.n vs v3;have hone:=DsRep.one v1;obtain⟨hz0,hrl,ob,q,w1,w2⟩:=hs'.hp k _ hk';obtain⟨v5,w',a1,σ',a2,a3,a4,a5⟩:=append_arr (ty:=o.type) (m:=rowsV i.size b.n vs) (u:=.slice (some ad) b.n cap2) (hb':=.darr e2 i.size (rows.take n1++(rows2.drop b.lo).take b.n)) (Good:=fun us=>DsRep σ (fz c σ h' w) w (rows.take n1).flatten us) hs' hc h0 hu hi hz hzs (by omega) hby hk' (fun _ _ q=>q)
          ⟨ob,q,w1,by
           cases ob with
           | none=>subst w2;exact⟨by simpa using hnr,by simpa using dsRep_nil⟩|some g=>
            obtain⟨q1,cur,q2,q3,q4⟩:=w2;have hm:=mul_le_mul_right i.size hnr;refine⟨q1,cur,q2,by omega,?_⟩;have:=q4.take (n1*i.size);rw[take_take,min_eq_left hm,take_flat hrl hnr] at this;exact this⟩ (fun us g=>g.one) hps (.inr ⟨ad,cap2,vs,by rw[hlm],by rw[hfl];exact csRep_mapv vs hone,rowsV_row _ _ _ v3,by rw[hlm];exact v3,v4⟩) (by rw[hlm];exact hroom)
          (by
           intro σ' F' w' kk ob q us vs' ev hσ g1 g2 g3 g4 g5 hm;rw[hlm] at hm;have hseg:((rows2.drop b.lo).take b.n).length=b.n:=by rw[length_take,length_drop];omega
           refine⟨hz0,fun r hr=>(mem_append.1 hr).elim (fun hr=>hrl r (mem_of_mem_take hr)) (fun hr=>v2 r hr),ob,q,hσ,?_⟩;have hl:(rows.take n1++(rows2.drop b.lo).take b.n).length=n1+b.n:=by rw[length_append,length_take,min_eq_left hnr,hseg]
           cases ob with
           | none=>exact eq_nil_of_length_eq_zero (hl.trans hm)|some g=>
            obtain⟨q1,cur,q2,q3,q4⟩:=hm;refine⟨q1,cur,q2,by rw[hl];exact q3,?_⟩;rw[hfl] at g3;have g8:=csRep_mapv_inv _ _ g3;subst g8;rw[hl,q4,flatten_append];exact DsRep.append (DsRep.evo ev _ _ g1) (DsRep.evo ev _ _ v1))
         try rw[hlm] at a2
         try rw[hlm] at a3
         try rw[hlm] at a4
         unfold Oper.wp;rw[hexec a w _ _ (by rw[u1];exact a1)];exact KK v5 σ' w' a2 a3 a4 fun k hk=>a5 k (by rintro rfl;simp[Dl.keys] at hk)
        ·exact hv.elim
       ·exact hv.elim
      ·exact hv.elim
     ·exact hv.elim
    ·cases hel
   ·exact hv.elim
  ·exact hv.elim
 ·exact hv.elim
end
end Go.Proofs.Ytdjbckknghddpaa.Pm
