/- Parts of the proof, one behind the other: PmGl PmRep PmSt PmOp PmSim. Conditions: none beyond what each theorem says. -/
import Derived.Test.YtdjbckknghddpaaYKit
import Derived.Maps.AppendAt
import Derived.Deep.MidRow
import Derived.Laws.AppendOwnNone
import Derived.Great.BuildSlice
open List (all_cons append_assoc cons_append drop_append drop_drop eq_nil_of_length_eq_zero flatten_append flatten_cons length_append length_cons length_drop length_map length_nil length_set length_take mapM_cons map_cons mem_append_left mem_append_right mem_cons mem_cons_of_mem mem_cons_self mem_map mem_or_eq_of_mem_set nil_append size_toArray take_append_drop take_append_of_le_length take_left take_left' take_of_length_le take_zero)
open Nat (add_assoc add_comm add_mul add_zero beq_refl eq_of_beq_eq_true le_mul_of_pos_right le_of_ble_eq_true le_trans lt_of_lt_of_le min_eq_left mul_le_mul_right mul_one one_mul pos_of_ne_zero sub_self zero_add zero_le zero_mul)
open Option (isSome_iff_exists)
set_option linter.unusedVariables false
set_option linter.unusedSimpArgs false
namespace Go.Proofs.Ytdjbckknghddpaa.Pm
section
open Go.RowKit
def GB (b:Nat):Prop:=False
def GL (w:World):Prop:=True
theorem GL_keep {w w':World} (h:GL w) (hb:∀b,GB b->w'.heap[b]? = w.heap[b]?):GL w':=trivial
theorem GL_lt {w:World} (h:GL w) {b:Nat} (hb:GB b):b<w.heap.size:=hb.elim
def gcell (_ _:Nat):Option Value:=none
theorem gcell_ok {w:World} (h:GL w) {g off:Nat} {v:Value} (hv:gcell g off=some v):w.cell? ⟨g,off,none⟩=some v/\v.oneCell'=true:=by cases hv
end
section
open Go.RowKit
inductive C where
  | v (x:Value)
  | sl (sz:Nat) (l:List (List C))
  | ro (l:List C)
  | ifc (t:TypeId) (l:List C)
  | ifc1 (t:TypeId) (x:C)
inductive D where
  | c (x:C)
  | app (k e sz:Nat) (l:List (List C))
  | ptr (k off:Nat)
  | arr (k e sz lo n:Nat)
  | elt (k sz i off:Nat)
  | clo (f:FuncId) (a l:List D)
  | mclo (f:FuncId) (l:List D)
  | optp (k off:Nat)
  | data (k e:Nat) (l:List (List C))
  | mp (k:Nat)
  | emp
  | cut (k e sz lo n c:Nat)
inductive PV where
  | d (x:D)
  | agg (l:List D)
  | tup (l:List PV)
  | any
inductive HB where
  | box (t:Nat) (l:List D)
  | tail (e sz:Nat)
  | arr (e sz:Nat) (rows:List (List C))
  | mp (l:List (ByteArray×Value))
  | darr (e sz:Nat) (rows:List (List D))
abbrev Env:=Nat->PV
abbrev Hp:=Nat->Option HB
abbrev Fzn:=Nat->Nat->Prop
mutual
def CRep (F:Fzn) (w:World):C->Value->Prop
  | .v x,u=>u=x/\x.oneCell'=true|.sl sz l,u=>∃a cap,u=.slice a l.length cap/\l.length<=cap/\cap<=maxLen/\(a=none->cap=0)/\(l=[]\/∃b off,a=some ⟨b,off,none⟩/\RowsAt F w sz b off l)|.ro l,u=>∃b off,u=.pointer (some ⟨b,off,none⟩)/\CsAt F w b off l|.ifc t l,u=>∃us:List Value,u=.iface t (.agg us.toArray)/\CsRep F w l us|.ifc1 t x,u=>∃v,u=.iface t v/\CRep F w x v
def CsRep (F:Fzn) (w:World):List C->List Value->Prop
  | [],[]=>True|c::cs,u::us=>CRep F w c u/\CsRep F w cs us|_,_=>False
def CsAt (F:Fzn) (w:World) (b:Nat):Nat->List C->Prop
  | _,[]=>True|off,c::cs=>(F b off/\∃u,w.cell? ⟨b,off,none⟩=some u/\CRep F w c u)/\CsAt F w b (off+1) cs
def RowsAt (F:Fzn) (w:World) (sz b:Nat):Nat->List (List C)->Prop
  | _,[]=>True|off,r::rs=>(r.length=sz/\CsAt F w b off r)/\RowsAt F w sz b (off+sz) rs
end
structure Keeps (F F':Fzn) (w w':World):Prop where
  le:∀b o,F b o->F' b o
  cell:∀b o,F b o->w'.cell? ⟨b,o,none⟩=w.cell? ⟨b,o,none⟩
mutual
theorem CRep.keeps {F F':Fzn} {w w':World} (hk:Keeps F F' w w'):∀(c:C) (u:Value),CRep F w c u->CRep F' w' c u
  | .v _,_,h=>by unfold CRep at h ⊢;exact h
  | .sl sz l,u,h=>by
    unfold CRep at h ⊢;obtain⟨a,cap,h1,h2,h3,h4,h5⟩:=h;exact⟨a,cap,h1,h2,h3,h4,h5.imp id fun ⟨b,off,h6,h7⟩=>⟨b,off,h6,RowsAt.keeps hk sz b off l h7⟩⟩
  | .ro l,u,h=>by
    unfold CRep at h ⊢;obtain⟨b,off,h1,h2⟩:=h;exact⟨b,off,h1,CsAt.keeps hk b off l h2⟩
  | .ifc t l,u,h=>by
    unfold CRep at h ⊢;obtain⟨us,h1,h2⟩:=h;exact⟨us,h1,CsRep.keeps hk l us h2⟩
  | .ifc1 t x,u,h=>by
    unfold CRep at h ⊢;obtain⟨v,h1,h2⟩:=h;exact⟨v,h1,CRep.keeps hk x v h2⟩
theorem CsRep.keeps {F F':Fzn} {w w':World} (hk:Keeps F F' w w'):∀(cs:List C) (us:List Value),CsRep F w cs us->CsRep F' w' cs us
  | [],[],_=>by unfold CsRep;trivial
  | _::cs,_::us,h=>by unfold CsRep at h ⊢;exact⟨CRep.keeps hk _ _ h.1,CsRep.keeps hk cs us h.2⟩
  | [],_::_,h=>by unfold CsRep at h;exact h.elim
  | _::_,[],h=>by unfold CsRep at h;exact h.elim
theorem CsAt.keeps {F F':Fzn} {w w':World} (hk:Keeps F F' w w') (b:Nat):∀(off:Nat) (l:List C),CsAt F w b off l->CsAt F' w' b off l
  | _,[],_=>by unfold CsAt;trivial
  | off,c::cs,h=>by
    unfold CsAt at h ⊢;obtain⟨⟨h0,u,h1,h2⟩,h3⟩:=h;exact⟨⟨hk.le _ _ h0,u,(hk.cell _ _ h0).trans h1,CRep.keeps hk c u h2⟩,CsAt.keeps hk b _ cs h3⟩
theorem RowsAt.keeps {F F':Fzn} {w w':World} (hk:Keeps F F' w w') (sz b:Nat):∀(off:Nat) (l:List (List C)),RowsAt F w sz b off l->RowsAt F' w' sz b off l
  | _,[],_=>by unfold RowsAt;trivial
  | off,r::rs,h=>by
    unfold RowsAt at h ⊢;obtain⟨⟨h0,h1⟩,h2⟩:=h;exact⟨⟨h0,CsAt.keeps hk b off r h1⟩,RowsAt.keeps hk sz b _ rs h2⟩
end
theorem oneCell_of_rep {F:Fzn} {w:World} {c:C} {u:Value} (h:CRep F w c u):u.oneCell'=true:=by
  cases c with
  | v x=>unfold CRep at h;obtain⟨rfl,h⟩:=h;exact h
  | sl sz l=>unfold CRep at h;obtain⟨a,cap,rfl,_⟩:=h;rfl
  | ro l=>unfold CRep at h;obtain⟨b,off,rfl,_⟩:=h;rfl
  | ifc t l=>unfold CRep at h;obtain⟨us,rfl,_⟩:=h;rfl
  | ifc1 t x=>unfold CRep at h;obtain⟨v,rfl,_⟩:=h;rfl
section
variable {F F':Fzn} {w w':World}
theorem csRep_nil:CsRep F w [] []:=by unfold CsRep;trivial
theorem csRep_cons {c:C} {cs:List C} {u:Value} {us:List Value} (h1:CRep F w c u) (h2:CsRep F w cs us):CsRep F w (c::cs) (u::us):=by unfold CsRep;exact⟨h1,h2⟩
theorem csRep_nil_inv {us:List Value} (h:CsRep F w [] us):us=[]:=by
  cases us with
  | nil=>rfl|cons _ _=>unfold CsRep at h;exact h.elim
theorem csRep_inv {c:C} {cs:List C} {us:List Value} (h:CsRep F w (c::cs) us):∃u vs,us=u::vs/\CRep F w c u/\CsRep F w cs vs:=by
  cases us with
  | nil=>unfold CsRep at h;exact h.elim|cons u vs=>unfold CsRep at h;exact⟨u,vs,rfl,h⟩
theorem CsRep.len:∀{cs:List C} {us:List Value},CsRep F w cs us->us.length=cs.length
  | [],_,h=>by rw[csRep_nil_inv h];rfl
  | _::cs,_,h=>by obtain⟨u,vs,rfl,_,h2⟩:=csRep_inv h;rw[length_cons,length_cons,CsRep.len h2]
theorem CsRep.one:∀{cs:List C} {us:List Value},CsRep F w cs us->∀u∈us,u.oneCell'=true
  | [],_,h,u,hu=>by rw[csRep_nil_inv h] at hu;cases hu
  | _::cs,_,h,u,hu=>by
    obtain⟨x,vs,rfl,h1,h2⟩:=csRep_inv h;rcases mem_cons.1 hu with rfl | hu
    · exact oneCell_of_rep h1
    · exact CsRep.one h2 u hu
theorem CsRep.append:∀{cs ds:List C} {us vs:List Value},CsRep F w cs us->CsRep F w ds vs->CsRep F w (cs++ds) (us++vs)
  | [],_,_,_,h,k=>by rw[csRep_nil_inv h];exact k
  | _::_,_,_,_,h,k=>by obtain⟨x,vs,rfl,h1,h2⟩:=csRep_inv h;exact csRep_cons h1 (CsRep.append h2 k)
theorem CsRep.take:∀{cs:List C} {us:List Value} (n:Nat),CsRep F w cs us->CsRep F w (cs.take n) (us.take n)
  | [],_,n,h=>by rw[csRep_nil_inv h];simpa using csRep_nil
  | c::cs,us,0,h=>by simpa using csRep_nil
  | c::cs,_,n+1,h=>by obtain⟨x,vs,rfl,h1,h2⟩:=csRep_inv h;exact csRep_cons h1 (CsRep.take n h2)
theorem CsRep.drop:∀{cs:List C} {us:List Value} (n:Nat),CsRep F w cs us->CsRep F w (cs.drop n) (us.drop n)
  | [],_,n,h=>by rw[csRep_nil_inv h];simpa using csRep_nil
  | c::cs,us,0,h=>h|c::cs,_,n+1,h=>by obtain⟨x,vs,rfl,h1,h2⟩:=csRep_inv h;exact CsRep.drop n h2
theorem csAt_values {b:Nat}:∀{off:Nat} {l:List C},CsAt F w b off l->∃us,CsRep F w l us/\(∀j u,us[j]? = some u->w.cell? ⟨b,off+j,none⟩=some u)/\∀j,j<l.length->F b (off+j)
  | _,[],_=>⟨[],csRep_nil,by simp,by simp⟩|off,c::cs,h=>by
    unfold CsAt at h;obtain⟨⟨h0,u,h1,h2⟩,h3⟩:=h;obtain⟨us,h4,h5,h6⟩:=csAt_values h3;refine⟨u::us,csRep_cons h2 h4,fun j x hx=>?_,fun j hj=>?_⟩
    · cases j with
      | zero=>simp only[List.getElem?_cons_zero,Option.some.injEq] at hx;subst hx;exact h1|succ j=>
        have:=h5 j x (by simpa using hx)
        rwa [show off+1+j=off+(j+1) by omega] at this
    · cases j with
      | zero=>exact h0|succ j=>
        have:=h6 j (by simpa using hj)
        rwa [show off+1+j=off+(j+1) by omega] at this
theorem csAt_of_values {b:Nat}:∀{off:Nat} {l:List C} {us:List Value},CsRep F w l us->(∀j u,us[j]? = some u->w.cell? ⟨b,off+j,none⟩=some u)->(∀j,j<l.length->F b (off+j))->CsAt F w b off l
  | _,[],_,_,_,_=>by unfold CsAt;trivial
  | off,c::cs,us,h,h1,h2=>by
    obtain⟨u,us,rfl,g1,g2⟩:=csRep_inv h;unfold CsAt;refine⟨⟨h2 0 (by simp),u,h1 0 u rfl,g1⟩,csAt_of_values (us:=us) g2 (fun j x hx=>?_) (fun j hj=>?_)⟩
    · have:=h1 (j+1) x (by simpa using hx)
      rwa [show off+(j+1)=off+1+j by omega] at this
    · have:=h2 (j+1) (by simpa using hj)
      rwa [show off+(j+1)=off+1+j by omega] at this
theorem csAt_append {b:Nat}:∀{off:Nat} {l m:List C},CsAt F w b off (l++m)↔CsAt F w b off l/\CsAt F w b (off+l.length) m
  | off,[],m=>by simp[CsAt]
  | off,c::cs,m=>by
    simp only[cons_append,CsAt,csAt_append (l:=cs),length_cons,and_assoc];rw[show off+(cs.length+1)=off+1+cs.length by omega]
theorem csAt_drop {b off:Nat} {l:List C} (n:Nat) (hn:n<=l.length) (h:CsAt F w b off l):CsAt F w b (off+n) (l.drop n):=by
  rw[<- take_append_drop n l,csAt_append,length_take,min_eq_left hn] at h;exact h.2
theorem rowsAt_iff {sz b:Nat}:∀{off:Nat} {l:List (List C)},RowsAt F w sz b off l↔(∀r∈l,r.length=sz)/\CsAt F w b off l.flatten
  | off,[]=>by simp[RowsAt,CsAt]
  | off,r::rs=>by
    simp only[RowsAt,rowsAt_iff (l:=rs),flatten_cons,csAt_append,mem_cons,forall_eq_or_imp];constructor
    · rintro⟨⟨h1,h2⟩,h3,h4⟩;exact⟨⟨h1,h3⟩,h2,by rw[h1];exact h4⟩
    · rintro⟨⟨h1,h3⟩,h2,h4⟩;exact⟨⟨h1,h2⟩,h3,by rw[h1] at h4;exact h4⟩
theorem flatten_len {α:Type} {sz:Nat}:∀{l:List (List α)},(∀r∈l,r.length=sz)->l.flatten.length=l.length*sz
  | [],_=>by simp
  | r::rs,h=>by
    rw[flatten_cons,length_append,h r (mem_cons_self ..),flatten_len (l:=rs) fun q hq=>h q (mem_cons_of_mem _ hq),length_cons,add_mul];omega
theorem rowsAt_get {sz b:Nat}:∀{off:Nat} {l:List (List C)} {i:Nat} {r:List C},RowsAt F w sz b off l->l[i]? = some r->r.length=sz/\CsAt F w b (off+i*sz) r
  | off,[],i,r,_,h=>by simp at h
  | off,r0::rs,0,r,h,e=>by
    simp only[List.getElem?_cons_zero,Option.some.injEq] at e;subst e;unfold RowsAt at h;simpa using h.1
  | off,r0::rs,i+1,r,h,e=>by
    simp only[List.getElem?_cons_succ] at e;unfold RowsAt at h;have:=rowsAt_get h.2 e
    rwa [show off+sz+i*sz=off+(i+1)*sz by rw[add_mul];omega] at this
theorem rowsAt_append {sz b:Nat}:∀{off:Nat} {l m:List (List C)},RowsAt F w sz b off (l++m)↔RowsAt F w sz b off l/\RowsAt F w sz b (off+l.length*sz) m
  | off,[],m=>by simp[RowsAt]
  | off,r::rs,m=>by
    simp only[cons_append,RowsAt,rowsAt_append (l:=rs),length_cons,and_assoc];rw[show off+(rs.length+1)*sz=off+sz+rs.length*sz by rw[add_mul];omega]
theorem rowsAt_drop {sz b off:Nat} {l:List (List C)} (n:Nat) (hn:n<=l.length) (h:RowsAt F w sz b off l):RowsAt F w sz b (off+n*sz) (l.drop n):=by
  rw[<- take_append_drop n l,rowsAt_append,length_take,min_eq_left hn] at h;exact h.2
theorem rowsAt_take {sz b off:Nat} {l:List (List C)} (n:Nat) (h:RowsAt F w sz b off l):RowsAt F w sz b off (l.take n):=by
  rw[<- take_append_drop n l,rowsAt_append] at h;exact h.1
end
end
section
open Go.RowKit
abbrev Sg:=Nat->Option (Option Nat×Nat)
def upd {α:Type} (f:Nat->α) (k:Nat) (x:α):Nat->α:=fun j=>bif Nat.beq j k then x else f j
theorem upd_same {α:Type} (f:Nat->α) (k:Nat) (x:α):upd f k x k=x:=by unfold upd;rw[show Nat.beq k k=true from beq_refl k];rfl
theorem upd_ne {α:Type} (f:Nat->α) {k j:Nat} (x:α) (h:j≠k):upd f k x j=f j:=by
  unfold upd;have:Nat.beq j k=false:=by rw[Bool.eq_false_iff];intro e;exact h (eq_of_beq_eq_true e)
  rw[this];rfl
theorem upd_comm {α:Type} (f:Nat->α) {k j:Nat} (x y:α) (h:j≠k):upd (upd f k x) j y=upd (upd f j y) k x:=by
  funext i
  by_cases h1:i=j
  · subst h1;rw[upd_same,upd_ne _ _ h,upd_same]
  · rw[upd_ne _ _ h1]
    by_cases h2:i=k
    · subst h2;rw[upd_same,upd_same]
    · rw[upd_ne _ _ h2,upd_ne _ _ h2,upd_ne _ _ h1]
structure Ctx where
  w0:World
  F0:Fzn
  ext:Nat->Prop
  F1:Fzn
  σ0:Sg
  df:List Deferred
abbrev Ctx.n0 (c:Ctx):Nat:=c.w0.heap.size
structure Ctx.Ok (c:Ctx):Prop where
  fz:∀b o,c.F0 b o->b<c.n0/\¬c.ext b
  gl:GL c.w0
  gb:∀b,GB b->¬c.ext b
def Ctx.own (c:Ctx) (b:Nat):Prop:=c.n0<=b\/c.ext b
def HB.shut (m o:Nat):HB->Prop
  | .box _ _=>False|.tail _ sz=>o<m*sz|.arr _ _ _=>False|.mp _=>False|.darr _ _ _=>False
def Fz (c:Ctx) (σ:Sg) (h:Hp) (hs:Nat):Fzn:=fun b o=>
  (b<c.n0/\c.F0 b o)\/(c.own b/\b<hs/\∀k m hb,h k=some hb->σ k=some (some b,m)->hb.shut m o)
section
variable (σ:Sg) (F:Fzn) (w:World)
mutual
def DRep:D->Value->Prop
  | .c x,u=>CRep F w x u|.app k e sz l,u=>0<sz/\((σ k=some (none,l.length)/\l=[]/\u=.slice none 0 0)\/
      ∃(g cap:Nat) (cur:Array Value) (fr:Nat×Nat),σ k=some (some g,l.length)/\u=.slice (some ⟨g,0,none⟩) l.length cap/\l.length<=cap/\cap<=maxLen/\
        w.heap[g]? = some (Obj.cells cur e fr)/\cur.size=cap*sz/\RowsAt F w sz g 0 l)
  | .ptr k off,u=>∃g n,σ k=some (some g,n)/\u=.pointer (some ⟨g,off,none⟩)|.arr k e sz lo n,u=>0<sz/\((∃m,σ k=some (none,m)/\n=0/\∃b0:Option Addr,u=.slice b0 0 0)\/
      ∃(g m off cap:Nat) (cur:Array Value) (fr:Nat×Nat),σ k=some (some g,m)/\u=.slice (some ⟨g,off,none⟩) n cap/\n<=cap/\cap<=maxLen/\
        w.heap[g]? = some (Obj.cells cur e fr)/\off+cap*sz<=cur.size/\(0<cap->off=lo*sz))
  | .cut k e sz lo n cc,u=>0<sz/\∃(g m off:Nat) (cur:Array Value) (fr:Nat×Nat),σ k=some (some g,m)/\u=.slice (some ⟨g,off,none⟩) n cc/\n<=cc/\cc<=maxLen/\
        w.heap[g]? = some (Obj.cells cur e fr)/\off+cc*sz<=cur.size/\(0<cc->off=lo*sz)
  | .elt k sz i off,u=>∃g n,σ k=some (some g,n)/\u=.pointer (some ⟨g,i*sz+off,none⟩)|.clo f a l,u=>∃us vs:List Value,u=.func (.func f) us.toArray vs.toArray/\DsRep a us/\DsRep l vs|.mclo f l,u=>∃us:List Value,u=.func (.func f) #[.agg us.toArray] #[]/\DsRep l us|.optp k off,u=>u=.pointer none\/∃g n,σ k=some (some g,n)/\u=.pointer (some ⟨g,off,none⟩)|.data k e l,u=>(l=[]/\∃p,u=.pointer p)\/(l≠[]/\∃(g:Nat) (cur:Array Value) (fr:Nat×Nat),σ k=some (some g,l.length)/\u=.pointer (some ⟨g,0,none⟩)/\
      w.heap[g]? = some (Obj.cells cur e fr)/\l.length<=cur.size/\l.length<=maxLen/\RowsAt F w 1 g 0 l)
  | .mp k,u=>∃g n,σ k=some (some g,n)/\u=.map (some g)|.emp,u=>∃a,u=.slice a 0 0
def DsRep:List D->List Value->Prop
  | [],[]=>True|x::xs,u::us=>DRep x u/\DsRep xs us|_,_=>False
end
mutual
def PRep:PV->Value->Prop
  | .d x,u=>DRep σ F w x u|.agg l,u=>∃xs:List Value,u=.agg xs.toArray/\DsRep σ F w l xs|.tup l,u=>∃us:List Value,u=.tuple us.toArray/\PsRep l us|.any,_=>True
def PsRep:List PV->List Value->Prop
  | [],[]=>True|x::xs,u::us=>PRep x u/\PsRep xs us|_,_=>False
end
def HbOk (own:Nat->Prop) (k:Nat):HB->Prop
  | .box T l=>∃(g n:Nat) (cs:Array Value),σ k=some (some g,n)/\own g/\w.heap[g]? = some (Obj.cells cs T (0,0))/\DsRep σ F w l cs.toList|.tail e sz=>0<sz/\∃ob n,σ k=some (ob,n)/\match ob with
      | none=>n=0|some g=>own g/\∃cur:Array Value,w.heap[g]? = some (Obj.cells cur e (0,0))
  | .arr e sz rows=>0<sz/\(∀r∈rows,r.length=sz)/\∃ob n,σ k=some (ob,n)/\match ob with
      | none=>rows=[]|some g=>own g/\∃cur:Array Value,w.heap[g]? = some (Obj.cells cur e (0,0))/\rows.length*sz<=cur.size/\CsRep F w rows.flatten (cur.toList.take (rows.length*sz))
  | .mp l=>∃(g n:Nat) (es:Array MapEntry) (clock:Nat),σ k=some (some g,n)/\own g/\w.heap[g]? = some (.map es clock)/\es.toList.map (fun e=>(e.key,e.val))=l.map (fun p=>(Value.string p.1,p.2))|.darr e sz rows=>0<sz/\(∀r∈rows,r.length=sz)/\∃ob n,σ k=some (ob,n)/\match ob with
      | none=>rows=[]|some g=>own g/\∃cur:Array Value,w.heap[g]? = some (Obj.cells cur e (0,0))/\rows.length*sz<=cur.size/\DsRep σ F w rows.flatten (cur.toList.take (rows.length*sz))
end
def Shape (w w':World):Prop:=∀(g:Nat) (cur:Array Value) (e:TypeId) (fr:Nat×Nat),w.heap[g]? = some (Obj.cells cur e fr)->∃(cur':Array Value) (fr':Nat×Nat),w'.heap[g]? = some (Obj.cells cur' e fr')/\cur'.size=cur.size
theorem Shape.refl (w:World):Shape w w:=fun _ cur _ fr h=>⟨cur,fr,h,rfl⟩
theorem Shape.trans {a b c:World} (h:Shape a b) (k:Shape b c):Shape a c:=fun g cur e fr hg=>by
  obtain⟨c1,f1,h1,h2⟩:=h g cur e fr hg;obtain⟨c2,f2,h3,h4⟩:=k g c1 e f1 h1;exact⟨c2,f2,h3,h4.trans h2⟩
theorem Keeps.trans {F F1 F2:Fzn} {a b c:World} (h:Keeps F F1 a b) (k:Keeps F1 F2 b c):Keeps F F2 a c:=
  ⟨fun _ _ x=>k.le _ _ (h.le _ _ x),fun _ _ x=>(k.cell _ _ (h.le _ _ x)).trans (h.cell _ _ x)⟩
structure Evo (σ σ':Sg) (F F':Fzn) (w w':World):Prop where
  sg:∀k x,σ k=some x->σ' k=some x
  keeps:Keeps F F' w w'
  shape:Shape w w'
section
variable {σ σ':Sg} {F F':Fzn} {w w':World}
theorem dsRep_nil:DsRep σ F w [] []:=by unfold DsRep;trivial
theorem dsRep_cons {x:D} {xs:List D} {u:Value} {us:List Value} (h1:DRep σ F w x u) (h2:DsRep σ F w xs us):DsRep σ F w (x::xs) (u::us):=by unfold DsRep;exact⟨h1,h2⟩
theorem dsRep_nil_inv {us:List Value} (h:DsRep σ F w [] us):us=[]:=by
  cases us with
  | nil=>rfl|cons _ _=>unfold DsRep at h;exact h.elim
theorem dsRep_inv {x:D} {xs:List D} {us:List Value} (h:DsRep σ F w (x::xs) us):∃u vs,us=u::vs/\DRep σ F w x u/\DsRep σ F w xs vs:=by
  cases us with
  | nil=>unfold DsRep at h;exact h.elim|cons u vs=>unfold DsRep at h;exact⟨u,vs,rfl,h⟩
mutual
theorem DRep.evo (ev:Evo σ σ' F F' w w'):∀(x:D) (u:Value),DRep σ F w x u->DRep σ' F' w' x u
  | .c x,u,h=>by unfold DRep at h ⊢;exact CRep.keeps ev.keeps x u h
  | .app k e sz l,u,h=>by
    unfold DRep at h ⊢;obtain⟨h0,h⟩:=h;refine⟨h0,?_⟩;rcases h with ⟨h1,h2,h3⟩ | ⟨g,cap,cur,fr,h1,h3,h4,h5,h6,h7,h8⟩
    · exact .inl ⟨ev.sg _ _ h1,h2,h3⟩
    · obtain⟨cur',fr',h9,h10⟩:=ev.shape _ _ _ _ h6
      exact .inr ⟨g,cap,cur',fr',ev.sg _ _ h1,h3,h4,h5,h9,by omega,RowsAt.keeps ev.keeps sz g 0 l h8⟩
  | .ptr k off,u,h=>by
    unfold DRep at h ⊢;obtain⟨g,n,h1,h2⟩:=h;exact⟨g,n,ev.sg _ _ h1,h2⟩
  | .arr k e sz lo n,u,h=>by
    unfold DRep at h ⊢;obtain⟨h0,h⟩:=h;refine⟨h0,?_⟩;rcases h with ⟨m,h1,h2,h3⟩ | ⟨g,m,off,cap,cur,fr,h1,h2,h3,h4,h5,h6,h7⟩
    · exact .inl ⟨m,ev.sg _ _ h1,h2,h3⟩
    · obtain⟨cur',fr',h9,h10⟩:=ev.shape _ _ _ _ h5
      exact .inr ⟨g,m,off,cap,cur',fr',ev.sg _ _ h1,h2,h3,h4,h9,by rw[h10];exact h6,h7⟩
  | .cut k e sz lo n cc,u,h=>by
    unfold DRep at h ⊢;obtain⟨h0,g,m,off,cur,fr,h1,h2,h3,h4,h5,h6,h7⟩:=h;obtain⟨cur',fr',h9,h10⟩:=ev.shape _ _ _ _ h5;exact⟨h0,g,m,off,cur',fr',ev.sg _ _ h1,h2,h3,h4,h9,by rw[h10];exact h6,h7⟩
  | .elt k sz i off,u,h=>by
    unfold DRep at h ⊢;obtain⟨g,n,h1,h2⟩:=h;exact⟨g,n,ev.sg _ _ h1,h2⟩
  | .clo f a l,u,h=>by
    unfold DRep at h ⊢;obtain⟨us,vs,h1,h2,h3⟩:=h;exact⟨us,vs,h1,DsRep.evo ev a us h2,DsRep.evo ev l vs h3⟩
  | .mclo f l,u,h=>by
    unfold DRep at h ⊢;obtain⟨us,h1,h2⟩:=h;exact⟨us,h1,DsRep.evo ev l us h2⟩
  | .optp k off,u,h=>by
    unfold DRep at h ⊢;exact h.imp id fun ⟨g,n,h1,h2⟩=>⟨g,n,ev.sg _ _ h1,h2⟩
  | .data k e l,u,h=>by
    unfold DRep at h ⊢;rcases h with h | ⟨h0,g,cur,fr,h1,h2,h3,h4,h5,h6⟩
    · exact .inl h
    · obtain⟨cur',fr',h9,h10⟩:=ev.shape _ _ _ _ h3
      exact .inr ⟨h0,g,cur',fr',ev.sg _ _ h1,h2,h9,by omega,h5,RowsAt.keeps ev.keeps 1 g 0 l h6⟩
  | .mp k,u,h=>by
    unfold DRep at h ⊢;obtain⟨g,n,h1,h2⟩:=h;exact⟨g,n,ev.sg _ _ h1,h2⟩
  | .emp,u,h=>by unfold DRep at h ⊢;exact h
theorem DsRep.evo (ev:Evo σ σ' F F' w w'):∀(l:List D) (us:List Value),DsRep σ F w l us->DsRep σ' F' w' l us
  | [],[],_=>by unfold DsRep;trivial
  | _::l,_::us,h=>by unfold DsRep at h ⊢;exact⟨DRep.evo ev _ _ h.1,DsRep.evo ev l us h.2⟩
  | [],_::_,h=>by unfold DsRep at h;exact h.elim
  | _::_,[],h=>by unfold DsRep at h;exact h.elim
end
mutual
theorem PRep.evo (ev:Evo σ σ' F F' w w'):∀(x:PV) (u:Value),PRep σ F w x u->PRep σ' F' w' x u
  | .d x,u,h=>by unfold PRep at h ⊢;exact DRep.evo ev x u h
  | .agg l,u,h=>by
    unfold PRep at h ⊢;obtain⟨xs,h1,h2⟩:=h;exact⟨xs,h1,DsRep.evo ev l xs h2⟩
  | .tup l,u,h=>by
    unfold PRep at h ⊢;obtain⟨us,h1,h2⟩:=h;exact⟨us,h1,PsRep.evo ev l us h2⟩
  | .any,u,h=>by unfold PRep;trivial
theorem PsRep.evo (ev:Evo σ σ' F F' w w'):∀(l:List PV) (us:List Value),PsRep σ F w l us->PsRep σ' F' w' l us
  | [],[],_=>by unfold PsRep;trivial
  | x::xs,u::us,h=>by unfold PsRep at h ⊢;exact⟨PRep.evo ev x u h.1,PsRep.evo ev xs us h.2⟩
  | [],_::_,h=>by unfold PsRep at h;exact h.elim
  | _::_,[],h=>by unfold PsRep at h;exact h.elim
end
theorem DsRep.len:∀{l:List D} {us:List Value},DsRep σ F w l us->us.length=l.length
  | [],_,h=>by rw[dsRep_nil_inv h];rfl
  | _::_,_,h=>by obtain⟨u,vs,rfl,_,h2⟩:=dsRep_inv h;rw[length_cons,length_cons,DsRep.len h2]
theorem DsRep.append:∀{cs ds:List D} {us vs:List Value},DsRep σ F w cs us->DsRep σ F w ds vs->DsRep σ F w (cs++ds) (us++vs)
  | [],_,_,_,h,k=>by rw[dsRep_nil_inv h];exact k
  | _::_,_,_,_,h,k=>by obtain⟨u,vs,rfl,h1,h2⟩:=dsRep_inv h;exact dsRep_cons h1 (DsRep.append h2 k)
theorem DsRep.take:∀{cs:List D} {us:List Value} (n:Nat),DsRep σ F w cs us->DsRep σ F w (cs.take n) (us.take n)
  | [],_,n,h=>by rw[dsRep_nil_inv h];simpa using dsRep_nil
  | c::cs,us,0,h=>by simpa using dsRep_nil
  | c::cs,_,n+1,h=>by obtain⟨u,vs,rfl,h1,h2⟩:=dsRep_inv h;exact dsRep_cons h1 (DsRep.take n h2)
theorem DsRep.drop:∀{cs:List D} {us:List Value} (n:Nat),DsRep σ F w cs us->DsRep σ F w (cs.drop n) (us.drop n)
  | [],_,n,h=>by rw[dsRep_nil_inv h];simpa using dsRep_nil
  | c::cs,us,0,h=>h|c::cs,_,n+1,h=>by obtain⟨u,vs,rfl,h1,h2⟩:=dsRep_inv h;exact DsRep.drop n h2
theorem DsRep.get:∀{cs:List D} {us:List Value} {j:Nat} {c:D},DsRep σ F w cs us->cs[j]? = some c->∃u,us[j]? = some u/\DRep σ F w c u
  | [],_,_,_,_,h=>by simp at h
  | c::cs,_,0,c',h,e=>by
    obtain⟨u,vs,rfl,h1,h2⟩:=dsRep_inv h;simp only[List.getElem?_cons_zero,Option.some.injEq] at e;subst e;exact⟨u,rfl,h1⟩
  | c::cs,_,j+1,c',h,e=>by
    obtain⟨u,vs,rfl,h1,h2⟩:=dsRep_inv h;simp only[List.getElem?_cons_succ] at e ⊢;exact DsRep.get h2 e
theorem dsRep_of_cs:∀{cs:List C} {us:List Value},CsRep F w cs us->DsRep σ F w (cs.map D.c) us
  | [],_,h=>by rw[csRep_nil_inv h];exact dsRep_nil
  | _::_,_,h=>by obtain⟨u,vs,rfl,h1,h2⟩:=csRep_inv h;exact dsRep_cons (by unfold DRep;exact h1) (dsRep_of_cs h2)
theorem oneCell_of_drep {x:D} {u:Value} (h:DRep σ F w x u):u.oneCell'=true:=by
  cases x with
  | c x=>unfold DRep at h;exact oneCell_of_rep h|app k e sz l=>
    unfold DRep at h;obtain⟨_,⟨_,_,rfl⟩ | ⟨g,cap,cur,_,_,rfl,_⟩⟩:=h<;>rfl
  | ptr k off=>unfold DRep at h;obtain⟨g,n,_,rfl⟩:=h;rfl
  | arr k e sz lo n=>
    unfold DRep at h;obtain⟨_,⟨_,_,_,_,rfl⟩ | ⟨_,_,_,_,_,_,_,rfl,_⟩⟩:=h<;>rfl
  | cut k e sz lo n cc=>unfold DRep at h;obtain⟨_,_,_,_,_,_,_,rfl,_⟩:=h;rfl
  | elt k sz i off=>unfold DRep at h;obtain⟨g,n,_,rfl⟩:=h;rfl
  | clo f a l=>unfold DRep at h;obtain⟨_,_,rfl,_⟩:=h;rfl
  | mclo f l=>unfold DRep at h;obtain⟨_,rfl,_⟩:=h;rfl
  | optp k off=>unfold DRep at h;obtain rfl | ⟨_,_,_,rfl⟩:=h<;>rfl
  | data k e l=>unfold DRep at h;obtain⟨_,_,rfl⟩ | ⟨_,_,_,_,_,rfl,_⟩:=h<;>rfl
  | mp k=>unfold DRep at h;obtain⟨g,n,_,rfl⟩:=h;rfl
  | emp=>unfold DRep at h;obtain⟨a,rfl⟩:=h;rfl
theorem DsRep.one:∀{l:List D} {us:List Value},DsRep σ F w l us->∀u∈us,u.oneCell'=true
  | [],_,h,u,hu=>by rw[dsRep_nil_inv h] at hu;cases hu
  | _::cs,_,h,u,hu=>by
    obtain⟨x,vs,rfl,h1,h2⟩:=dsRep_inv h;rcases mem_cons.1 hu with rfl | hu
    · exact oneCell_of_drep h1
    · exact DsRep.one h2 u hu
end
structure SW (c:Ctx) (σ:Sg) (h:Hp) (w:World):Prop where
  os:w.os=c.w0.os
  tape:w.tape=c.w0.tape
  output:w.output=c.w0.output
  size:c.n0<=w.heap.size
  block:∀b,b<c.n0->¬c.ext b->w.heap[b]? = c.w0.heap[b]?
  hp:∀k hb,h k=some hb->HbOk σ (Fz c σ h w.heap.size) w c.own k hb
  inj:∀k k' g n n',h k≠none->h k'≠none->σ k=some (some g,n)->σ k'=some (some g,n')->k=k'
  kept:Keeps c.F1 (Fz c σ h w.heap.size) c.w0 w
  shape:Shape c.w0 w
  sg0:∀k x,c.σ0 k=some x->σ k=some x
structure St (c:Ctx) (nt:Nat) (σ:Sg) (e:Env) (h:Hp) (a:Act) (w:World):Prop extends SW c σ h w where
  env:∀t,PRep σ (Fz c σ h w.heap.size) w (e t) (a.tmps.getD t undef)
  defers:a.defers=c.df
  nt:a.tmps.size=nt
end
section
open Go.RowKit
inductive BCase (b:Bool) (A B:Prop):Prop
  | mk (t:b=true->A) (f:b=false->B)
inductive Wr (k:IntKind) (x:Int) (K:Int->Prop):Prop
  | mk (n:Int) (h:k.wrap x=n) (hk:K n)
inductive Idx (l:List (List C)) (n:Int) (K:List C->Prop):Prop
  | mk (r:List C) (h0:0<=n) (h:l[n.toNat]? = some r) (hk:K r)
inductive DIdx (l:List D) (n:Int) (K:D->Prop):Prop
  | mk (x:D) (h0:0<=n) (h:l[n.toNat]? = some x) (hk:K x)
inductive SIdx (s:ByteArray) (n:Int) (K:Int->Prop):Prop
  | mk (b:UInt8) (h0:0<=n) (h:s.data.toList[n.toNat]? = some b) (hk:K (b.toNat:Int))
inductive Row {α:Type} (l:List (List α)) (n:Nat) (K:List α->Prop):Prop
  | mk (r:List α) (h:l[n]? = some r) (hk:K r)
inductive Need (p:Prop) (K:Prop):Prop
  | mk (h:p) (hk:K)
inductive Bytes (l:List (List C)) (K:List UInt8->Prop):Prop
  | mk (bs:List UInt8) (h:l=bs.map fun b=>[C.v (.int .u8 (b.toNat:Int))]) (hk:K bs)
abbrev Dl:=List (Nat×Option HB)
def Dl.app (h:Hp):Dl->Hp
  | []=>h|(k,b)::r=>Dl.app (upd h k b) r
abbrev Dl.keys (δ:Dl):List Nat:=δ.map Prod.fst
abbrev Rf:=List (Nat×HB)
abbrev fz (c:Ctx) (σ:Sg) (h:Hp) (w:World):Fzn:=Fz c σ h w.heap.size
def fnOk (P:Program) (f:FuncId):Prop:=∃fn,P.funcs[f]? = some fn/\(fn.name== "runtime.NumGoroutine")=false/\fn.body.isNone=false
def Fresh (σ:Sg) (δ:Dl) (rf:Rf):Prop:=∀k∈Dl.keys δ,(∀p∈rf,p.1≠k)->σ k=none
def hpL:List (Nat×HB)->Hp
  | [],_=>none|(k,b)::l,j=>bif Nat.beq j k then some b else hpL l j
def CallS (P:Program) (f:FuncId) (args:List PV) (rd rf:Rf) (res:PV) (out:Rf):Prop:=
  fnOk P f/\∀(c:Ctx) (vs:List Value),c.Ok->c.df=[]->(∀k,k∉(rd++rf).map Prod.fst->c.σ0 k=none)->SW c c.σ0 (hpL (rd++rf)) c.w0->PsRep c.σ0 (fz c c.σ0 (hpL (rd++rf)) c.w0) c.w0 args vs->
    Calls P f vs.toArray c.w0 fun e w'=>∃v σ',e=.returned v/\SW c σ' (hpL (rd++out)) w'/\PRep σ' (fz c σ' (hpL (rd++out)) w') w' res v
def CallX (P:Program) (f:FuncId) (args:List PV) (rd:Rf) (x:Value):Prop:=
  fnOk P f/\∀(c:Ctx) (vs:List Value),c.Ok->c.df=[]->(∀k,k∉rd.map Prod.fst->c.σ0 k=none)->SW c c.σ0 (hpL rd) c.w0->PsRep c.σ0 (fz c c.σ0 (hpL rd) c.w0) c.w0 args vs->
    Calls P f vs.toArray c.w0 fun e w'=>e=.panicked [{ v:=x,recovered:=false }]/\∃σ',SW c σ' (fun _=>none) w'
def Pure (P:Program) (f:FuncId) (args:List PV) (res:PV):Prop:=
  fnOk P f/\∀(F:Fzn) (w:World) (vs:List Value),GL w->(∀b o,F b o->b<w.heap.size)->PsRep (fun _=>none) F w args vs->
    Calls P f vs.toArray w fun e w'=>∃v,e=.returned v/\Below w.heap.size w w'/\PRep (fun _=>none) (fun b o=>F b o\/(w.heap.size<=b/\b<w'.heap.size)) w' res v
abbrev OpK:=PV->Dl->Rf->Prop
def rfIn (h:Hp):Rf->Prop
  | []=>True|(k,b)::r=>h k=some b/\rfIn h r
def D.force (x:D) (K:D->Prop):Prop:=match x with
  | .c y=>K (.c y)|.app k e sz l=>K (.app k e sz l)|.ptr k off=>K (.ptr k off)|.arr k e sz lo n=>K (.arr k e sz lo n)|.elt k sz i off=>K (.elt k sz i off)|.clo f a l=>K (.clo f a l)|.mclo f l=>K (.mclo f l)|.optp k off=>K (.optp k off)|.data k e l=>K (.data k e l)|.mp k=>K (.mp k)|.emp=>K .emp|.cut k e sz lo n cc=>K (.cut k e sz lo n cc)
def PV.force (v:PV) (K:PV->Prop):Prop:=match v with
  | .d x=>D.force x fun y=>K (.d y)
  | .agg l=>K (.agg l)|.tup l=>K (.tup l)|.any=>K .any
def forceL {α:Type}:List α->(List α->Prop)->Prop
  | [],K=>K []|x::xs,K=>forceL xs fun ys=>K (x::ys)
def D.close (x:D) (K:C->Prop):Prop:=match x with
  | .c y=>K y|.app _ _ sz l=>K (.sl sz l)|.clo f [] []=>K (.v (.func (.func f) #[] #[]))|_=>False
def closeL:List D->(List C->Prop)->Prop
  | [],K=>K []|x::xs,K=>D.close x fun y=>closeL xs fun ys=>K (y::ys)
mutual
def PV.close:PV->(PV->Prop)->Prop
  | .d x,K=>D.close x fun y=>K (.d (.c y))
  | .agg l,K=>closeL l fun ys=>K (.agg (ys.map D.c))
  | .tup l,K=>closePs l fun ys=>K (.tup ys)
  | .any,_=>False
def closePs:List PV->(List PV->Prop)->Prop
  | [],K=>K []|x::xs,K=>PV.close x fun y=>closePs xs fun ys=>K (y::ys)
end
def closesTo (l ys:List PV):Prop:=closePs l fun zs=>zs=ys
def fnL:List (Nat×Nat)->Nat->Option Nat
  | [],_=>none|(a,b)::l,k=>bif Nat.beq k a then some b else fnL l k
abbrev Ren:=List (Nat×Nat)
mutual
def renD (ρ:Ren):D->(D->Prop)->Prop
  | .c x,K=>K (.c x)|.app k e sz l,K=>match fnL ρ k with
    | some k'=>K (.app k' e sz l)|none=>False
  | .ptr k o,K=>match fnL ρ k with
    | some k'=>K (.ptr k' o)|none=>False
  | .arr k e sz lo n,K=>match fnL ρ k with
    | some k'=>K (.arr k' e sz lo n)|none=>False
  | .elt k sz i o,K=>match fnL ρ k with
    | some k'=>K (.elt k' sz i o)|none=>False
  | .clo f a l,K=>renDs ρ a fun a'=>renDs ρ l fun l'=>K (.clo f a' l')
  | .mclo f l,K=>renDs ρ l fun l'=>K (.mclo f l')
  | .optp k o,K=>match fnL ρ k with
    | some k'=>K (.optp k' o)|none=>False
  | .data k e l,K=>match fnL ρ k with
    | some k'=>K (.data k' e l)|none=>False
  | .mp k,K=>match fnL ρ k with
    | some k'=>K (.mp k')|none=>False
  | .emp,K=>K .emp|.cut k e sz lo n cc,K=>match fnL ρ k with
    | some k'=>K (.cut k' e sz lo n cc)|none=>False
def renDs (ρ:Ren):List D->(List D->Prop)->Prop
  | [],K=>K []|x::xs,K=>renD ρ x fun y=>renDs ρ xs fun ys=>K (y::ys)
end
mutual
def renP (ρ:Ren):PV->(PV->Prop)->Prop
  | .d x,K=>renD ρ x fun y=>K (.d y)
  | .agg l,K=>renDs ρ l fun l'=>K (.agg l')
  | .tup l,K=>renPs ρ l fun l'=>K (.tup l')
  | .any,K=>K .any
def renPs (ρ:Ren):List PV->(List PV->Prop)->Prop
  | [],K=>K []|x::xs,K=>renP ρ x fun y=>renPs ρ xs fun ys=>K (y::ys)
end
def renRows (ρ:Ren):List (List D)->(List (List D)->Prop)->Prop
  | [],K=>K []|r::rs,K=>renDs ρ r fun r'=>renRows ρ rs fun rs'=>K (r'::rs')
def renHB (ρ:Ren):HB->(HB->Prop)->Prop
  | .box bt l,K=>renDs ρ l fun l'=>K (.box bt l')
  | .tail e sz,K=>K (.tail e sz)|.arr e sz rows,K=>K (.arr e sz rows)|.mp l,K=>K (.mp l)|.darr e sz rows,K=>renRows ρ rows fun rows'=>K (.darr e sz rows')
def renRf (ρ:Ren):Rf->(Rf->Prop)->Prop
  | [],K=>K []|(k,b)::r,K=>match fnL ρ k with
    | some k'=>renHB ρ b fun b'=>renRf ρ r fun r'=>K ((k',b')::r')
    | none=>False
def deltaOf (rf out:Rf):Dl:=rf.map (fun p=>(p.1,none))++out.map (fun p=>(p.1,some p.2))
def renOk:Ren->Bool
  | []=>true|(a,b)::r=>(r.all fun p=>!Nat.beq p.1 a&&!Nat.beq p.2 b)&&renOk r
def ndK:Rf->Bool
  | []=>true|(k,_)::r=>(r.all fun p=>!Nat.beq p.1 k)&&ndK r
def rfHas (k:Nat):Rf->Bool
  | []=>false|(q,_)::r=>bif Nat.beq q k then true else rfHas k r
def namesOk (ρ:Ren) (rd rf out:Rf):Bool:=renOk ρ&&(ndK (rd++rf)&&(ndK (rd++out)&&ρ.all fun p=>rfHas p.1 (rd++(rf++out))))
def sameX (P:Program) (f:FuncId):Prop:=∃fn,P.funcs[f]? = some fn/\(fn.name== "runtime.NumGoroutine")=false/\fn.body.isNone=true/\Extern.findNext fn=none/\Extern.find fn=some Extern.AbiNoEscape.same
def hbRows:HB->Option (Nat×List (List D))
  | .darr _ s rows=>some (s,rows)|.arr _ s rows=>some (s,rows.map (List.map D.c))|_=>none
structure Slc where
  k:Nat
  e:Nat
  sz:Nat
  lo:Nat
  n:Nat
def slOf:PV->Option Slc
  | .d (.arr k e sz lo n)=>some ⟨k,e,sz,lo,n⟩|.d (.cut k e sz lo n _)=>some ⟨k,e,sz,lo,n⟩|_=>none
def ovlX (P:Program) (f:FuncId):Prop:=∃fn tS tR el i,P.funcs[f]? = some fn/\(fn.name== "runtime.NumGoroutine")=false/\fn.body.isNone=true/\Extern.findNext fn=none/\Extern.find fn=some (Extern.SlicesOverlaps.overlaps #[tS,tS] #[tR])/\P.underlying tS=some (.slice el)/\P.info? el=some i
def dropK (h:Hp) (r:Rf):Hp:=fun k=>match rfHas k r with
  | true=>none|false=>h k
inductive CallP (P:Program) (f:FuncId) (args:List PV) (h:Hp) (K:OpK) (X:Value->Hp->Prop):Prop
  | ret (ρ:Ren) (args0:List PV) (rd rf:Rf) (res:PV) (out:Rf) (rd' rf':Rf) (hc:CallS P f args0 rd rf res out) (hn:namesOk ρ rd rf out=true) (ha:renPs ρ args0 fun zs=>zs=args)
      (h1:renRf ρ rd fun r=>r=rd') (h2:renRf ρ rf fun r=>r=rf') (hr:rfIn h (rd'++rf'))
      (hk:renRf ρ out fun out'=>renP ρ res fun r=>K r (deltaOf rf' out') (rd'++rf'))
  | same (x:PV) (hc:sameX P f) (ha:args=[x]) (hk:K x [] [])
  | ovl (x y:PV) (a b:Slc) (ha1 hb1:HB) (hc:ovlX P f) (ha:args=[x,y]) (h1:slOf x=some a) (h2:slOf y=some b) (hk1:h a.k=some ha1) (hk2:h b.k=some hb1)
      (r1:(hbRows ha1).isSome=true) (r2:(hbRows hb1).isSome=true) (hne:Nat.beq a.k b.k=false) (hn:0<a.n/\0<b.n) (hk:K (.d (.c (.v (.bool false)))) [] [(a.k,ha1),(b.k,hb1)])
  | pure (ys:List PV) (hy:closesTo args ys) (r:PV) (hc:Pure P f ys r) (hk:K r [] [])
  | pan (ρ:Ren) (args0:List PV) (rd rd':Rf) (x:Value) (hc:CallX P f args0 rd x) (hn:namesOk ρ rd [] []=true) (ha:renPs ρ args0 fun zs=>zs=args) (h1:renRf ρ rd fun r=>r=rd') (hr:rfIn h rd') (hx:X x (dropK h rd'))
def PV.cells (v:PV) (K:List D->Prop):Prop:=match v with
  | .d x=>K [x]|.agg l=>K l|_=>False
def PV.rows (v:PV) (K:List (List C)->Prop):Prop:=match v with
  | .d (.c (.sl _ l))=>K l|.d (.app _ _ _ l)=>K l|.d (.c (.v (.slice none 0 0)))=>K []|_=>False
def PV.rowsOf (v:PV) (sz:Nat) (K:List (List C)->Prop):Prop:=match v with
  | .d (.c (.sl s l))=>match Nat.beq s sz with
    | true=>K l|false=>False
  | .d (.app _ _ s l)=>match Nat.beq s sz with
    | true=>K l|false=>False
  | .d (.c (.v (.slice none 0 0)))=>K []|.d (.c (.v (.slice (some _) 0 _)))=>K []|_=>False
def constPV:Value->PV
  | .agg cs=>bif cs.toList.all Value.oneCell' then .agg (cs.toList.map fun x=>.c (.v x)) else .any|.tuple _=>.any|x=>.d (.c (.v x))
def ev (e:Env):Operand->PV
  | .tmp t=>e t|.const v=>constPV v|.global g=>.d (.c (.v (.pointer (some ⟨g,0,none⟩))))|.func f=>.d (.c (.v (.func (.func f) #[] #[])))
abbrev pInt (k:IntKind) (n:Int):PV:=.d (.c (.v (.int k n)))
abbrev pBool (b:Bool):PV:=.d (.c (.v (.bool b)))
abbrev pStr (s:ByteArray):PV:=.d (.c (.v (.string s)))
def intBin (op:BinOp) (k:IntKind) (a:Int) (k':IntKind) (b:Int) (K:PV->Prop):Prop:=
  match op with
  | .shl=>Need (0<=b) (Wr k (a*2^min b.toNat k.bits) fun n=>K (pInt k n))|.shr=>Need (0<=b) (K (pInt k (a.fdiv (2^min b.toNat k.bits))))|_=>
    match decide (k=k') with
    | false=>False|true=>
      match op with
      | .add=>Wr k (a+b) fun n=>K (pInt k n)
      | .sub=>Wr k (a - b) fun n=>K (pInt k n)
      | .mul=>Wr k (a*b) fun n=>K (pInt k n)
      | .quo=>Need (b≠0) (Wr k (a.tdiv b) fun n=>K (pInt k n))|.rem=>Need (b≠0) (K (pInt k (a.tmod b)))|.and=>Wr k (BitVec.ofInt k.bits a &&& BitVec.ofInt k.bits b).toNat fun n=>K (pInt k n)
      | .or=>Wr k (BitVec.ofInt k.bits a ||| BitVec.ofInt k.bits b).toNat fun n=>K (pInt k n)
      | .xor=>Wr k (BitVec.ofInt k.bits a ^^^ BitVec.ofInt k.bits b).toNat fun n=>K (pInt k n)
      | .andNot=>Wr k (BitVec.ofInt k.bits a &&& ~~~ BitVec.ofInt k.bits b).toNat fun n=>K (pInt k n)
      | .eql=>K (pBool (decide (a=b)))|.neq=>K (pBool (decide (a≠b)))|.lss=>K (pBool (decide (a<b)))|.leq=>K (pBool (decide (a<=b)))|.gtr=>K (pBool (decide (b<a)))|.geq=>K (pBool (decide (b<=a)))|_=>False
def strBin (op:BinOp) (a b:ByteArray) (K:PV->Prop):Prop:=
  match op with
  | .add=>Need (a.size+b.size<=9223372036854775807) (K (pStr (a++b)))|.eql=>K (pBool (decide (a=b)))|.neq=>K (pBool (decide (a≠b)))|.lss=>K (pBool (Op.bytesLess a.toList b.toList))|.leq=>K (pBool (Op.bytesLess a.toList b.toList||decide (a=b)))|.gtr=>K (pBool (!(Op.bytesLess a.toList b.toList||decide (a=b))))|.geq=>K (pBool (!Op.bytesLess a.toList b.toList))|_=>False
def boolBin (P:Program) (op:BinOp) (t:TypeId) (a b:Bool) (K:PV->Prop):Prop:=
  match P.underlying t with
  | some .bool=>
    match op with
    | .eql=>K (pBool (a==b))|.neq=>K (pBool (!(a==b)))|_=>False
  | _=>False
def isRow (P:Program) (t:TypeId) (K:Option Nat->Prop):Prop:=
  match P.underlying t with
  | some (.struct _)=>match P.info? t with
    | some i=>K (some i.size)|none=>False
  | some (.array _ _)=>match P.info? t with
    | some i=>K (some i.size)|none=>False
  | some _=>K none|none=>False
def readP (P:Program) (t:TypeId) (l:List D) (K:PV->Prop):Prop:=
  isRow P t fun s=>match s with
    | some n=>match Nat.ble n l.length with
      | true=>forceL (l.take n) fun xs=>K (.agg xs)
      | false=>False
    | none=>match l with
      | x::_=>D.force x fun y=>K (.d y)
      | []=>False
def eqFs (P:Program) (eq:TypeId->PV->PV->(Bool->Prop)->Prop) (l m:List D):List Field->(Bool->Prop)->Prop
  | [],K=>K true|f::fs,K=>Need (f.name≠ "_") (readP P f.type (l.drop f.offset) fun a=>readP P f.type (m.drop f.offset) fun b=>eq f.type a b fun r=>eqFs P eq l m fs fun r'=>K (r&&r'))
def eqV (P:Program):Nat->TypeId->PV->PV->(Bool->Prop)->Prop
  | 0,_,_,_,_=>False|d+1,t,x,y,K=>match P.underlying t with
    | some (.int _)=>match x,y with
      | .d (.c (.v (.int k a))),.d (.c (.v (.int k' b)))=>match decide (k=k') with
        | true=>K (decide (a=b))|false=>False
      | _,_=>False
    | some .string=>match x,y with
      | .d (.c (.v (.string a))),.d (.c (.v (.string b)))=>K (decide (a=b))|_,_=>False
    | some .bool=>match x,y with
      | .d (.c (.v (.bool a))),.d (.c (.v (.bool b)))=>K (a==b)|_,_=>False
    | some (.struct fs)=>match x,y with
      | .agg l,.agg m=>Need (P.stoodInHeld t=false) (eqFs P (eqV P d) l m fs.toList K)|_,_=>False
    | _=>False
def slNil (x:PV) (K:Bool->Prop):Prop:=match x with
  | .d (.c (.sl _ l))=>Need (l≠[]) (K false)|.d (.app _ _ _ l)=>Need (l≠[]) (K false)|.d (.arr _ _ _ _ n)=>Need (n≠0) (K false)|.d (.c (.v (.slice (some _) _ _)))=>K false|.d (.c (.v (.slice none _ _)))=>K true|_=>False
def eqP (P:Program) (t:TypeId) (x y:PV) (K:Bool->Prop):Prop:=
  match x,y with
  | .agg l,.agg m=>Need (P.eqGuardType P.depth t=false) (eqV P 8 t (.agg l) (.agg m) K)|.d (.ptr _ _),.d (.c (.v (.pointer none)))=>match P.underlying t with
    | some (.pointer _)=>K false|_=>False
  | .d (.c (.v (.pointer none))),.d (.c (.v (.pointer none)))=>match P.underlying t with
    | some (.pointer _)=>K true|_=>False
  | .d (.ptr k o),.d (.ptr k' o')=>match P.underlying t with
    | some (.pointer te)=>match P.info? te,Nat.beq k k',Nat.beq o o' with
      | some _,true,true=>K true|_,_,_=>False
    | _=>False
  | .d (.clo _ _ _),.d (.c (.v .nilFunc))=>match P.underlying t with
    | some (.func _ _ _)=>K false|_=>False
  | .d (.c (.v .nilFunc)),.d (.c (.v .nilFunc))=>match P.underlying t with
    | some (.func _ _ _)=>K true|_=>False
  | .d (.c (.v (.func _ _ _))),.d (.c (.v .nilFunc))=>match P.underlying t with
    | some (.func _ _ _)=>K false|_=>False
  | x,.d (.c (.v (.slice none 0 0)))=>match P.underlying t with
    | some (.slice _)=>slNil x K|_=>False
  | _,_=>False
def binP (P:Program) (op:BinOp) (t:TypeId) (x y:PV) (K:PV->Prop):Prop:=
  match x,y with
  | .d (.c (.v (.int k a))),.d (.c (.v (.int k' b)))=>intBin op k a k' b K|.d (.c (.v (.string a))),.d (.c (.v (.string b)))=>strBin op a b K|.d (.c (.v (.bool a))),.d (.c (.v (.bool b)))=>boolBin P op t a b K|x,y=>match op with
    | .eql=>eqP P t x y fun b=>K (pBool b)
    | .neq=>eqP P t x y fun b=>K (pBool (!b))
    | _=>False
def nilIfP (P:Program) (op:BinOp) (t:TypeId) (x:PV) (K:PV->Prop):Prop:=match P.underlying t with
  | some (.interface _)=>match x with
    | .d (.c (.v (.iface _ _)))=>match op with
      | .eql=>K (pBool false)|.neq=>K (pBool true)|_=>False
    | .d (.c (.v .nilIface))=>match op with
      | .eql=>K (pBool true)|.neq=>K (pBool false)|_=>False
    | _=>False
  | _=>False
def unP (op:UnOp) (x:PV) (K:PV->Prop):Prop:=
  match op,x with
  | .not,.d (.c (.v (.bool b)))=>K (pBool (!b))|.neg,.d (.c (.v (.int k n)))=>Wr k (0 - n) fun m=>K (pInt k m)
  | _,_=>False
def convP (P:Program) (src dst:TypeId) (x:PV) (K:PV->Prop):Prop:=
  match P.underlying dst with
  | some (.int k)=>match P.underlying src,x with
    | some _,.d (.c (.v (.int _ n)))=>Wr k n fun m=>K (pInt k m)
    | _,_=>False
  | some .string=>match P.underlying src with
    | some .string=>match x with
      | .d (.c (.v (.string s)))=>K (pStr s)|_=>False
    | some (.slice e)=>match P.underlying e with
      | some (.int .u8)=>PV.rows x fun l=>Bytes l fun bs=>K (pStr ⟨bs.toArray⟩)
      | _=>False
    | _=>False
  | _=>False
def tySlice (P:Program) (t:TypeId) (K:TypeId->TypeInfo->Prop):Prop:=
  match P.underlying t with
  | some (.slice e)=>match P.info? e with
    | some i=>K e i|none=>False
  | _=>False
def bound (x:Option PV) (d:Int) (K:Int->Prop):Prop:=match x with
  | none=>K d|some (.d (.c (.v (.int _ n))))=>K n|_=>False
def sliceP (P:Program) (t:TypeId) (x:PV) (lo hi:Option PV) (K:PV->Prop):Prop:=
  match x with
  | .d (.c (.v (.string s)))=>match P.underlying t with
    | some .string=>bound lo 0 fun l=>bound hi s.size fun h=>Need (0<=l/\l<=h/\h<=s.size) (K (pStr (s.extract l.toNat h.toNat)))
    | _=>False
  | .d (.c (.sl sz rows))=>tySlice P t fun _ i=>match Nat.beq i.size sz with
    | true=>bound lo 0 fun l=>bound hi rows.length fun h=>Need (0<=l/\l<=h/\h<=rows.length) (K (.d (.c (.sl sz ((rows.drop l.toNat).take (h.toNat - l.toNat))))))
    | false=>False
  | .d (.app _ _ sz rows)=>tySlice P t fun _ i=>match Nat.beq i.size sz with
    | true=>bound lo 0 fun l=>bound hi rows.length fun h=>Need (0<=l/\l<=h/\h<=rows.length) (K (.d (.c (.sl sz ((rows.drop l.toNat).take (h.toNat - l.toNat))))))
    | false=>False
  | .d (.arr k e sz lw n)=>tySlice P t fun _ i=>match Nat.beq i.size sz with
    | true=>bound lo 0 fun l=>bound hi n fun h=>Need (0<=l/\l<=h/\h<=n) (K (.d (.arr k e sz (lw+l.toNat) (h.toNat - l.toNat))))
    | false=>False
  | .d (.cut k e sz lw n cc)=>tySlice P t fun _ i=>match Nat.beq i.size sz with
    | true=>bound lo 0 fun l=>bound hi n fun h=>Need (0<=l/\l<=h/\h<=cc) (K (.d (.cut k e sz (lw+l.toNat) (h.toNat - l.toNat) (cc - l.toNat))))
    | false=>False
  | _=>False
def indexP (P:Program) (t:TypeId) (x i:PV) (K:PV->Prop):Prop:=
  match x,i with
  | .d (.c (.v (.string s))),.d (.c (.v (.int _ n)))=>match P.underlying t with
    | some .string=>SIdx s n fun b=>K (pInt .u8 b)
    | _=>False
  | .agg l,.d (.c (.v (.int _ n)))=>match P.underlying t with
    | some (.array len el)=>match P.info? el,Nat.beq l.length len with
      | some i,true=>match Nat.beq i.size 1,P.underlying el with
        | true,some (.struct _)=>False|true,some (.array _ _)=>False|true,some _=>DIdx l n fun x=>K (.d x)
        | _,_=>False
      | _,_=>False
    | _=>False
  | _,_=>False
def idxAddrP (P:Program) (t:TypeId) (x i:PV) (K:PV->Prop):Prop:=
  match i with
  | .d (.c (.v (.int _ n)))=>match x with
    | .d (.c (.sl sz rows))=>tySlice P t fun _ i=>match Nat.beq i.size sz with
      | true=>Idx rows n fun r=>K (.d (.c (.ro r)))
      | false=>False
    | .d (.app _ _ sz rows)=>tySlice P t fun _ i=>match Nat.beq i.size sz with
      | true=>Idx rows n fun r=>K (.d (.c (.ro r)))
      | false=>False
    | .d (.arr k _ sz lo m)=>tySlice P t fun _ i=>match Nat.beq i.size sz with
      | true=>Need (0<=n/\n<m) (K (.d (.elt k sz (lo+n.toNat) 0)))|false=>False
    | _=>False
  | _=>False
def fieldOf (P:Program) (s:TypeId) (f:Nat) (K:Nat->TypeId->Nat->Prop):Prop:=
  match P.underlying s with
  | some (.struct fs)=>match fs[f]? with
    | some fd=>match P.info? fd.type with
      | some i=>match Nat.beq i.size 0 with
        | true=>False|false=>K fd.offset fd.type i.size
      | none=>False
    | none=>False
  | _=>False
def fieldAddrP (P:Program) (s:TypeId) (x:PV) (f:Nat) (K:PV->Prop):Prop:=
  match x with
  | .d (.c (.ro l))=>fieldOf P s f fun off _ _=>match Nat.ble off l.length with
    | true=>K (.d (.c (.ro (l.drop off))))|false=>False
  | .d (.ptr k o)=>fieldOf P s f fun off _ _=>K (.d (.ptr k (o+off)))
  | .d (.elt k sz i o)=>fieldOf P s f fun off _ _=>K (.d (.elt k sz i (o+off)))
  | _=>False
def fieldP (P:Program) (s:TypeId) (x:PV) (f:Nat) (K:PV->Prop):Prop:=
  match x with
  | .agg l=>fieldOf P s f fun off t _=>readP P t (l.drop off) K
  | _=>False
def extractP (x:PV) (i:Nat) (K:PV->Prop):Prop:=
  match x with
  | .tup l=>match l[i]? with
    | some v=>PV.force v K|none=>False
  | _=>False
def nilCheckP (x:PV) (K:PV->Prop):Prop:=
  match x with
  | .d (.c (.ro l))=>K (.d (.c (.ro l)))|.d (.ptr k o)=>K (.d (.ptr k o))|.d (.elt k sz i o)=>K (.d (.elt k sz i o))|_=>False
def pickP (c a b:PV) (K:PV->Prop):Prop:=
  match c with
  | .d (.c (.v (.bool t)))=>BCase t (PV.force a K) (PV.force b K)|_=>False
def lenP (P:Program) (t:TypeId) (x:PV) (K:PV->Prop):Prop:=
  match x with
  | .d (.c (.v (.string s)))=>match P.underlying t with
    | some .string=>K (pInt .i64 s.size)|_=>False
  | .d (.c (.sl _ l))=>match P.underlying t with
    | some (.slice _)=>K (pInt .i64 l.length)|_=>False
  | .d (.app _ _ _ l)=>match P.underlying t with
    | some (.slice _)=>K (pInt .i64 l.length)|_=>False
  | .d (.arr _ _ _ _ n)=>match P.underlying t with
    | some (.slice _)=>K (pInt .i64 n)|_=>False
  | .d (.cut _ _ _ _ n _)=>match P.underlying t with
    | some (.slice _)=>K (pInt .i64 n)|_=>False
  | .d (.c (.v (.slice none 0 0)))=>match P.underlying t with
    | some (.slice _)=>K (pInt .i64 0)|_=>False
  | _=>False
def setCs (l:List D) (off:Nat) (cs:List D):List D:=l.take off++cs++l.drop (off+cs.length)
def loadP (P:Program) (h:Hp) (t:TypeId) (x:PV) (K:PV->Rf->Prop):Prop:=
  match x with
  | .d (.c (.ro l))=>readP P t (l.map D.c) fun v=>K v []
  | .d (.ptr k o)=>match h k with
    | some (.box bt l)=>readP P t (l.drop o) fun v=>K v [(k,.box bt l)]
    | _=>False
  | .d (.elt k sz i o)=>match h k with
    | some (.arr e s rows)=>match Nat.beq s sz with
      | true=>Row rows i fun r=>readP P t ((r.drop o).map D.c) fun v=>K v [(k,.arr e s rows)]
      | false=>False
    | some (.darr e s rows)=>match Nat.beq s sz with
      | true=>Row rows i fun r=>readP P t (r.drop o) fun v=>K v [(k,.darr e s rows)]
      | false=>False
    | _=>False
  | _=>False
inductive GLd (g off:Nat) (K:Value->Prop):Prop
  | mk (v:Value) (h:gcell g off=some v) (k:K v)
def loadP2 (P:Program) (h:Hp) (t:TypeId) (x:PV) (K:OpK):Prop:=
  match x with
  | .d (.c (.v (.pointer (some ⟨g,off,none⟩))))=>GLd g off fun v=>readP P t [.c (.v v)] fun y=>K y [] []
  | x=>loadP P h t x fun v rf=>K v [] rf
def storeP (P:Program) (h:Hp) (t:TypeId) (x y:PV) (K:OpK):Prop:=
  match x with
  | .d (.ptr k o)=>match h k with
    | some (.box bt l)=>PV.cells y fun cs=>match P.info? t with
      | some i=>match Nat.beq i.size cs.length,Nat.ble (o+cs.length) l.length with
        | true,true=>forceL (setCs l o cs) fun l'=>K (.tup []) [(k,some (.box bt l'))] [(k,.box bt l)]
        | _,_=>False
      | none=>False
    | some (.arr e s rows)=>match Nat.beq o 0,Nat.beq s 1 with
      | true,true=>PV.cells y fun cs=>closeL cs fun ds=>match P.info? t with
        | some ti=>match Nat.beq ti.size ds.length,Nat.beq rows.length ds.length with
          | true,true=>forceL (ds.map fun c=>[c]) fun rs=>K (.tup []) [(k,some (.arr e s rs))] [(k,.arr e s rows)]
          | _,_=>False
        | none=>False
      | _,_=>False
    | _=>False
  | .d (.elt k sz i o)=>match h k with
    | some (.arr e s rows)=>match Nat.beq s sz with
      | true=>Row rows i fun r=>PV.cells y fun cs=>closeL cs fun ds=>match P.info? t with
        | some ti=>match Nat.beq ti.size ds.length,Nat.ble (o+ds.length) r.length with
          | true,true=>K (.tup []) [(k,some (.arr e s (rows.set i (r.take o++ds++r.drop (o+ds.length)))))] [(k,.arr e s rows)]|_,_=>False
        | none=>False
      | false=>False
    | some (.darr e s rows)=>match Nat.beq s sz with
      | true=>Row rows i fun r=>PV.cells y fun cs=>match P.info? t with
        | some ti=>match Nat.beq ti.size cs.length,Nat.ble (o+cs.length) r.length with
          | true,true=>K (.tup []) [(k,some (.darr e s (rows.set i (setCs r o cs))))] [(k,.darr e s rows)]|_,_=>False
        | none=>False
      | false=>False
    | _=>False
  | _=>False
def zeroCells (P:Program) (t:TypeId) (K:List D->Prop):Prop:=
  match P.info? t with
  | some i=>match i.zero with
    | some z=>match z.cells.toList.all Value.oneCell' with
      | true=>forceL (z.cells.toList.map fun x=>D.c (C.v x)) K|false=>False
    | none=>False
  | none=>False
def allocP (P:Program) (key:Nat) (t:TypeId) (K:OpK):Prop:=
  zeroCells P t fun l=>K (.d (.ptr key 0)) [(key,some (.box t l))] []
def boxP (key t:Nat) (x:PV) (K:OpK):Prop:=
  PV.cells x fun l=>K (.d (.ptr key 0)) [(key,some (.box t l))] []
def placesOf (P:Program):List Field->(List (Nat×Nat)->Prop)->Prop
  | [],K=>K []|f::fs,K=>match P.info? f.type with
    | some i=>placesOf P fs fun ps=>K ((f.offset,i.size)::ps)
    | none=>False
def fillP (places:List (Nat×Nat)) (e:Operand->PV):List (Nat×Operand)->List D->(List D->Prop)->Prop
  | [],l,K=>K l|(i,x)::ps,l,K=>match places[i]? with
    | some (off,sz)=>PV.cells (e x) fun cs=>match Nat.beq cs.length sz,Nat.ble (off+cs.length) l.length with
        | true,true=>forceL (setCs l off cs) fun l'=>fillP places e ps l' K
        | _,_=>False
    | none=>False
def fillA (sz:Nat) (e:Operand->PV):List (Nat×Operand)->List D->(List D->Prop)->Prop
  | [],l,K=>K l|(i,x)::ps,l,K=>PV.cells (e x) fun cs=>match Nat.beq cs.length sz,Nat.ble (i*sz+cs.length) l.length with
        | true,true=>forceL (setCs l (i*sz) cs) fun l'=>fillA sz e ps l' K
        | _,_=>False
def buildP (P:Program) (t:TypeId) (parts:List (Nat×Operand)) (e:Operand->PV) (K:PV->Prop):Prop:=
  match P.underlying t with
  | some (.array _ el)=>match P.info? el with
    | some ie=>zeroCells P t fun z=>fillA ie.size e parts z fun l=>K (.agg l)
    | none=>False
  | some (.struct fs)=>zeroCells P t fun z=>placesOf P fs.toList fun places=>fillP places e parts z fun l=>K (.agg l)
  | _=>False
def rowsOf (sz:Nat) (e:Operand->PV):Nat->List (Nat×Operand)->(List (List C)->Prop)->Prop
  | _,[],K=>K []|n,(i,x)::ps,K=>match Nat.beq i n with
    | true=>PV.cells (e x) fun cs=>closeL cs fun ds=>match Nat.beq ds.length sz with
      | true=>rowsOf sz e (n+1) ps fun rs=>K (ds::rs)
      | false=>False
    | false=>False
inductive EmpOr (key:Nat) (A B:Prop):Prop
  | app (h:A)
  | emp (h:B)
def buildSliceP (P:Program) (key:Nat) (t:TypeId) (n:Nat) (parts:List (Nat×Operand)) (e:Operand->PV) (K:OpK):Prop:=
  tySlice P t fun el i=>match i.size with
    | 0=>False|sz+1=>match Nat.beq parts.length n,Nat.ble (n*(sz+1)) 16777216,i.zero.isSome with
      | true,true,true=>rowsOf (sz+1) e 0 parts fun rs=>match n with
        | 0=>EmpOr key (K (.d (.app key el (sz+1) rs)) [(key,some (.tail el (sz+1)))] []) (K (.d .emp) [(key,some (.tail el (sz+1)))] [])|_+1=>K (.d (.app key el (sz+1) rs)) [(key,some (.tail el (sz+1)))] []
      | _,_,_=>False
def rowsD (sz:Nat) (e:Operand->PV):Nat->List (Nat×Operand)->(List (List D)->Prop)->Prop
  | _,[],K=>K []|n,(i,x)::ps,K=>match Nat.beq i n with
    | true=>PV.cells (e x) fun cs=>match Nat.beq cs.length sz with
      | true=>rowsD sz e (n+1) ps fun rs=>K (cs::rs)
      | false=>False
    | false=>False
def buildArrP (P:Program) (key:Nat) (t:TypeId) (n:Nat) (parts:List (Nat×Operand)) (e:Operand->PV) (K:OpK):Prop:=
  tySlice P t fun el i=>match i.size with
    | 0=>False|sz+1=>match Nat.beq parts.length n&&Nat.ble 1 n,Nat.ble (n*(sz+1)) 16777216,i.zero.isSome with
      | true,true,true=>rowsD (sz+1) e 0 parts fun rs=>K (.d (.arr key el (sz+1) 0 n)) [(key,some (.darr el (sz+1) rs))] []
      | _,_,_=>False
def buildPtrP (P:Program) (key:Nat) (t:TypeId) (n k o:Nat) (K:OpK):Prop:=
  tySlice P t fun el i=>match Nat.beq i.size 1,Nat.beq n 1,i.zero.isSome with
    | true,true,true=>K (.d (.arr key el 1 0 1)) [(key,some (.darr el 1 [[.ptr k o]]))] []|_,_,_=>False
def buildSliceP0 (P:Program) (key:Nat) (t:TypeId) (n:Nat) (parts:List (Nat×Operand)) (e:Operand->PV) (K:OpK):Prop:=
  match parts with
  | [(0,x)]=>match e x with
    | .d (.ptr k o)=>buildPtrP P key t n k o K|.d (.arr _ _ _ _ _)=>buildArrP P key t n [(0,x)] e K|_=>EmpOr key (buildSliceP P key t n [(0,x)] e K) (buildArrP P key t n [(0,x)] e K)
  | []=>buildSliceP P key t n [] e K|l=>EmpOr key (buildSliceP P key t n l e K) (buildArrP P key t n l e K)
def elemOk (i:TypeInfo):Bool:=match i.zero with
  | some z=>Nat.beq z.cells.size i.size&&Nat.ble 1 i.size&&Nat.ble 1 i.bytes|none=>false
def appendP (P:Program) (h:Hp) (key:Nat) (t t2:TypeId) (s x:PV) (K:OpK):Prop:=
  match Nat.beq t t2 with
  | true=>tySlice P t fun el i=>match elemOk i with
    | true=>PV.rowsOf x i.size fun m=>match s with
      | .d (.app k e sz l)=>match Nat.beq e el,Nat.beq sz i.size,Nat.beq k key,h k with
        | true,true,false,some (.tail e2 sz2)=>match Nat.beq sz2 sz,Nat.beq e2 e with
          | true,true=>Need ((l.length+m.length)*i.bytes<=140737488355328) (K (.d (.app key e sz (l++m))) [(k,none),(key,some (.tail e sz))] [(k,.tail e sz)])|_,_=>False
        | _,_,_,_=>False
      | .d (.c (.v (.slice none 0 0)))=>Need (m.length*i.bytes<=140737488355328) (K (.d (.app key el i.size m)) [(key,some (.tail el i.size))] [])|.d .emp=>Need (m.length*i.bytes<=140737488355328) (K (.d (.arr key el i.size 0 m.length)) [(key,some (.arr el i.size m))] [])|.d (.arr k e sz lo n)=>match Nat.beq e el,Nat.beq sz i.size,Nat.beq k key,Nat.beq lo 0 with
        | true,true,false,true=>match h k with
          | some (.arr e2 sz2 rows)=>match Nat.beq sz2 sz,Nat.beq e2 e with
            | true,true=>Need (n<=rows.length) (Need ((n+m.length)*i.bytes<=140737488355328) (K (.d (.arr key e sz 0 (n+m.length))) [(k,none),(key,some (.arr e sz (rows.take n++m)))] [(k,.arr e sz rows)]))|_,_=>False
          | some (.darr e2 sz2 rows)=>match Nat.beq sz2 sz,Nat.beq e2 e with
            | true,true=>Need (n<=rows.length) (Need ((n+m.length)*i.bytes<=140737488355328) (K (.d (.arr key e sz 0 (n+m.length))) [(k,none),(key,some (.darr e sz (rows.take n++m.map (List.map D.c))))] [(k,.darr e sz rows)]))|_,_=>False
          | _=>False
        | _,_,_,_=>False
      | _=>False
    | false=>False
  | false=>False
def appArrP (P:Program) (h:Hp) (key:Nat) (t t2:TypeId) (s:PV) (k2 sz2 lo n:Nat) (K:OpK):Prop:=
  match Nat.beq t t2 with
  | true=>tySlice P t fun el i=>match elemOk i with
    | true=>match h k2 with
      | some (.arr e3 sz3 rows)=>match Nat.beq sz2 i.size,Nat.beq sz3 sz2,Nat.beq k2 key with
        | true,true,false=>match s with
          | .d (.app k e sz l)=>match Nat.beq e el,Nat.beq sz i.size,Nat.beq k key,h k with
            | true,true,false,some (.tail e2 sz4)=>match Nat.beq sz4 sz,Nat.beq e2 e with
              | true,true=>Need (lo+n<=rows.length) (Need ((l.length+n)*i.bytes<=140737488355328) (K (.d (.app key e sz (l++(rows.drop lo).take n))) [(k,none),(key,some (.tail e sz))] [(k,.tail e sz),(k2,.arr e3 sz3 rows)]))|_,_=>False
            | _,_,_,_=>False
          | _=>False
        | _,_,_=>False
      | _=>False
    | false=>False
  | false=>False
def appPtrP (P:Program) (h:Hp) (key:Nat) (t t2:TypeId) (s:PV) (k2 e3 lo n:Nat) (x:D) (K:OpK):Prop:=
  match Nat.beq t t2,Nat.beq lo 0,Nat.beq n 1 with
  | true,true,true=>tySlice P t fun el i=>match elemOk i,Nat.beq i.size 1,Nat.ble i.bytes 1000,Nat.beq k2 key with
    | true,true,true,false=>match s with
      | .d (.c (.v (.slice none 0 0)))=>K (.d (.arr key el 1 0 1)) [(key,some (.darr el 1 [[x]]))] [(k2,.darr e3 1 [[x]])]|.d (.arr k e sz lo n)=>match Nat.beq e el,Nat.beq sz i.size,Nat.beq k key,Nat.beq lo 0 with
        | true,true,false,true=>match h k with
          | some (.darr e2 sz2 rows)=>match Nat.beq sz2 sz,Nat.beq e2 e with
            | true,true=>Need (n<=rows.length) (Need ((n+1)*i.bytes<=140737488355328) (K (.d (.arr key e sz 0 (n+1))) [(k,none),(key,some (.darr e sz (rows.take n++[[x]])))] [(k,.darr e sz rows),(k2,.darr e3 1 [[x]])]))|_,_=>False
          | _=>False
        | _,_,_,_=>False
      | _=>False
    | _,_,_,_=>False
  | _,_,_=>False
def nObj (n c:Nat):Nat:=match Nat.beq n c,Nat.beq c 0 with | true,false=>1 | _,_=>n / c
theorem nObj_eq (n c:Nat):nObj n c=n / c:=by
  unfold nObj;split
  · rename_i h1 h2
    rw[eq_of_beq_eq_true h1,Nat.div_self (pos_of_ne_zero fun e=>by rw[e] at h2;cases h2)]
  · rfl
def convP2 (P:Program) (h:Hp) (src dst:TypeId) (x:PV) (K:OpK):Prop:=
  match x with
  | .d (.ptr k o)=>match h k with
    | some (.box T l)=>match P.underlying src,P.underlying dst with
      | some (.pointer t),some .unsafePointer=>match P.info? t with
        | some i=>match Nat.beq i.size 0,Nat.blt o l.length with
          | false,true=>K (.d (.ptr k o)) [] [(k,.box T l)]|_,_=>False
        | none=>False
      | some .unsafePointer,some (.pointer u)=>match P.info? u,liesAt P P.depth T (nObj l.length (P.cellsOf T)) o u 1 with
        | some _,true=>K (.d (.ptr k o)) [] [(k,.box T l)]|_,_=>False
      | _,_=>False
    | _=>False
  | .d (.c (.v (.string s)))=>match P.underlying src,P.underlying dst with
    | some .string,some .string=>K (pStr s) [] []|some .string,some (.slice e)=>match P.underlying e with
      | some (.int .u8)=>Need (s.size<=9223372036854775807) (K (.d (.c (.sl 1 (s.data.toList.map fun b=>[C.v (.int .u8 (b.toNat:Int))])))) [] [])|_=>False
    | _,_=>False
  | x=>convP P src dst x fun v=>K v [] []
def sdataP (P:Program) (ty:TypeId) (x:PV) (K:PV->Prop):Prop:=
  match P.underlying ty,x with
  | some (.pointer _),.d (.app k e 1 l)=>K (.d (.data k e l))|some (.pointer _),.d (.c (.v (.slice none 0 0)))=>K (.d (.c (.v (.pointer none))))|_,_=>False
def ustrP (P:Program) (h:Hp) (pt:TypeId) (x n:PV) (K:OpK):Prop:=
  match x,n with
  | .d (.data k e l),.d (.c (.v (.int .i64 n)))=>match P.underlying pt,h k with
    | some (.pointer pe),some (.tail e2 sz)=>match Nat.beq pe e,Nat.beq (P.cellsOf e) 1 with
      | true,true=>Need (n=l.length) (Bytes l fun bs=>K (pStr ⟨bs.toArray⟩) [(k,none)] [(k,.tail e2 sz)])|_,_=>False
    | _,_=>False
  | .d (.c (.v (.pointer none))),.d (.c (.v (.int .i64 n)))=>Need (n=0) (K (pStr .empty) [] [])|_,_=>False
def appStrP (P:Program) (h:Hp) (key:Nat) (t t2:TypeId) (s:PV) (x:ByteArray) (K:OpK):Prop:=
  match P.underlying t2 with
  | some .string=>tySlice P t fun el i=>match elemOk i,Nat.beq i.size 1 with
    | true,true=>match s with
      | .d (.app k e sz l)=>match Nat.beq e el,Nat.beq sz 1,Nat.beq k key,h k with
        | true,true,false,some (.tail e2 sz2)=>match Nat.beq sz2 sz,Nat.beq e2 e with
          | true,true=>Need ((l.length+x.size)*i.bytes<=140737488355328) (K (.d (.app key e sz (l++x.data.toList.map fun b=>[C.v (.int .u8 (b.toNat:Int))]))) [(k,none),(key,some (.tail e sz))] [(k,.tail e sz)])|_,_=>False
        | _,_,_,_=>False
      | .d (.c (.v (.slice none 0 0)))=>Need (x.size*i.bytes<=140737488355328) (K (.d (.app key el 1 (x.data.toList.map fun b=>[C.v (.int .u8 (b.toNat:Int))]))) [(key,some (.tail el 1))] [])|_=>False
    | _,_=>False
  | _=>False
def minmaxP (mx:Bool) (x y:PV) (K:PV->Prop):Prop:=
  match x,y with
  | .d (.c (.v (.int k a))),.d (.c (.v (.int k' b)))=>match decide (k=k') with
    | true=>match mx with
      | true=>K (pInt k (if a<b then b else a))|false=>K (pInt k (if b<a then b else a))
    | false=>False
  | _,_=>False
def plainDs:List D->Option (List Value)
  | []=>some []|.c (.v x)::l=>match plainDs l with
    | some r=>some (x::r)|none=>none
  | _::_=>none
def isIface (P:Program) (t:TypeId):Bool:=match P.underlying t with
  | some (.interface _)=>true|some _=>false|none=>true
def ifaceP (P:Program) (t:TypeId) (x:PV) (K:PV->Prop):Prop:=
  match isIface P t with
  | true=>False|false=>match x with
    | .d y=>D.close y fun c=>match c with
      | .v v=>K (.d (.c (.v (.iface t v))))|c=>K (.d (.c (.ifc1 t c)))
    | .agg l=>match plainDs l with
      | some vs=>K (.d (.c (.v (.iface t (.agg vs.toArray)))))|none=>closeL l fun cs=>K (.d (.c (.ifc t cs)))
    | _=>False
def heldP (x:PV) (K:TypeId->PV->Prop):Prop:=match x with
  | .d (.c (.v (.iface t (.agg vs))))=>match vs.toList.all Value.oneCell' with
    | true=>K t (.agg (vs.toList.map fun v=>.c (.v v)))|false=>False
  | .d (.c (.v (.iface t v)))=>match v.oneCell' with
    | true=>K t (.d (.c (.v v)))|false=>False
  | .d (.c (.ifc t l))=>K t (.agg (l.map D.c))|.d (.c (.ifc1 t c))=>K t (.d (.c c))|_=>False
def assertP (P:Program) (x:PV) (asserted:TypeId) (commaOk:Bool) (K:PV->Prop):Prop:=
  match isIface P asserted with
  | true=>False|false=>heldP x fun t v=>match Nat.beq t asserted,commaOk with
    | true,true=>K (.tup [v,pBool true])|true,false=>K v|false,true=>match P.info? asserted with
      | some i=>match i.zero with
        | some z=>match z.oneCell' with
          | true=>K (.tup [.d (.c (.v z)),pBool false])|false=>match z with
            | .agg vs=>match vs.toList.all Value.oneCell' with
              | true=>K (.tup [.agg (vs.toList.map fun v=>.c (.v v)),pBool false])|false=>False
            | _=>False
        | none=>False
      | none=>False
    | false,false=>False
def makeP (P:Program) (key:Nat) (t:TypeId) (n c:PV) (K:OpK):Prop:=
  match n,c with
  | .d (.c (.v (.int _ n))),.d (.c (.v (.int _ c)))=>tySlice P t fun el i=>match i.zero with
    | some z=>match z.cells.toList.all Value.oneCell',Nat.beq z.cells.size i.size,Nat.beq i.size 0 with
      | true,true,false=>Need (0<=n/\c=n/\(i.bytes:Int)*n<=281474976710656/\n<=9223372036854775807) (K (.d (.arr key el i.size 0 n.toNat)) [(key,some (.arr el i.size (List.replicate n.toNat (z.cells.toList.map C.v))))] [])|_,_,_=>False
    | none=>False
  | _,_=>False
def tyArr (P:Program) (t:TypeId) (K:Nat->TypeId->TypeInfo->Prop):Prop:=
  match P.underlying t with
  | some (.array n e)=>match P.info? e with
    | some i=>K n e i|none=>False
  | _=>False
def isArr (P:Program) (t:TypeId):Bool:=match P.underlying t with
  | some (.array _ _)=>true|_=>false
def allocP2 (P:Program) (key:Nat) (t:TypeId) (K:OpK):Prop:=match isArr P t with
  | false=>allocP P key t K|true=>tyArr P t fun n _ i=>match P.info? t,i.zero with
    | some it,some z=>match it.zero,z.cells.toList.all Value.oneCell',Nat.beq z.cells.size i.size,Nat.beq i.size 0 with
      | some zt,true,true,false=>Need (zt.cells.toList=(List.replicate n z.cells.toList).flatten) (forceL (z.cells.toList.map C.v) fun zr=>K (.d (.ptr key 0)) [(key,some (.arr t i.size (List.replicate n zr)))] [])|_,_,_,_=>False
    | _,_=>False
def boxP2 (P:Program) (key t:Nat) (x:PV) (K:OpK):Prop:=match isArr P t with
  | false=>boxP key t x K|true=>tyArr P t fun _ _ i=>match Nat.beq i.size 1 with
    | true=>PV.cells x fun l=>closeL l fun cs=>forceL (cs.map fun c=>[c]) fun rs=>K (.d (.ptr key 0)) [(key,some (.arr t 1 rs))] []
    | false=>False
def sliceP2 (P:Program) (h:Hp) (t:TypeId) (x:PV) (lo hi:Option PV) (K:OpK):Prop:=match x with
  | .d (.ptr k o)=>match Nat.beq o 0,h k with
    | true,some (.arr e s rows)=>tyArr P t fun n _ i=>match Nat.beq i.size s&&Nat.ble n 16777216 with
      | true=>bound lo 0 fun l=>bound hi n fun hh=>Need (rows.length=n/\0<=l/\l<=hh/\hh<=n) (K (.d (.arr k e s l.toNat (hh.toNat - l.toNat))) [] [(k,.arr e s rows)])
      | false=>False
    | _,_=>False
  | x=>sliceP P t x lo hi fun v=>K v [] []
def idxAddrP2 (P:Program) (h:Hp) (t:TypeId) (x i:PV) (K:OpK):Prop:=match x with
  | .d (.ptr k o)=>match i with
    | .d (.c (.v (.int _ n)))=>match Nat.beq o 0,h k with
      | true,some (.arr e s rows)=>tyArr P t fun m _ i=>match Nat.beq i.size s with
        | true=>Need (0<=n/\n<m) (K (.d (.elt k s n.toNat 0)) [] [(k,.arr e s rows)])|false=>False
      | _,_=>False
    | _=>False
  | .d (.c (.v (.pointer (some ⟨g,off,none⟩))))=>match i with
    | .d (.c (.v (.int _ n)))=>tyArr P t fun m _ i=>Need (0<=n/\n<m) (K (.d (.c (.v (.pointer (some ⟨g,off+n.toNat*i.size,none⟩))))) [] [])
    | _=>False
  | x=>idxAddrP P t x i fun v=>K v [] []
def arrStrP (P:Program) (h:Hp) (src dst:TypeId) (k sz lo n:Nat) (K:OpK):Prop:=match h k with
  | some (.arr e s rows)=>match P.underlying src,P.underlying dst,Nat.beq s 1,Nat.beq sz 1 with
    | some (.slice el),some .string,true,true=>match P.underlying el with
      | some (.int .u8)=>Need (lo+n<=rows.length) (Bytes ((rows.drop lo).take n) fun bs=>K (pStr ⟨bs.toArray⟩) [] [(k,.arr e s rows)])|_=>False
    | _,_,_,_=>False
  | _=>False
def convP3 (P:Program) (h:Hp) (src dst:TypeId) (x:PV) (K:OpK):Prop:=match x with
  | .d (.arr k _ sz lo n)=>arrStrP P h src dst k sz lo n K|x=>convP2 P h src dst x K
def mpGet:List (ByteArray×Value)->ByteArray->Option Value
  | [],_=>none|(k,v)::l,s=>bif decide (s=k) then some v else mpGet l s
def mpPut:List (ByteArray×Value)->ByteArray->Value->List (ByteArray×Value)
  | [],s,x=>[(s,x)]|(k,v)::l,s,x=>bif decide (s=k) then (s,x)::l else (k,v)::mpPut l s x
inductive MGet (l:List (ByteArray×Value)) (s:ByteArray) (A:Value->Prop) (B:Prop):Prop
  | mk (hit:∀v,mpGet l s=some v->A v) (miss:mpGet l s=none->B)
def isStr (P:Program) (t:TypeId):Bool:=match P.underlying t with
  | some .string=>true|_=>false
def makeMapP (key:Nat) (K:OpK):Prop:=K (.d (.mp key)) [(key,some (.mp []))] []
def valPV:Value->PV
  | .agg cs=>.agg (cs.toList.map fun x=>.c (.v x))|x=>.d (.c (.v x))
def plainV:Value->Bool
  | .agg cs=>cs.toList.all Value.oneCell'|.tuple _=>false|x=>x.oneCell'
def lookupP (P:Program) (h:Hp) (t:TypeId) (x i:PV) (ok:Bool) (K:OpK):Prop:=match x,i with
  | .d (.mp k),.d (.c (.v (.string s)))=>match h k,P.underlying t with
    | some (.mp l),some (.map kt vt)=>match isStr P kt,P.info? vt with
      | true,some ti=>match ti.zero with
        | some z=>Need (plainV z=true/\∀p∈l,plainV p.2=true) (match ok with
          | true=>MGet l s (fun v=>K (.tup [valPV v,pBool true]) [] [(k,.mp l)]) (K (.tup [valPV z,pBool false]) [] [(k,.mp l)])|false=>MGet l s (fun v=>K (valPV v) [] [(k,.mp l)]) (K (valPV z) [] [(k,.mp l)]))
        | none=>False
      | _,_=>False
    | _,_=>False
  | _,_=>False
def pvVal (x:PV) (K:Value->Prop):Prop:=match x with
  | .d (.c (.v v))=>K v|.agg l=>match plainDs l with
    | some vs=>K (.agg vs.toArray)|none=>False
  | _=>False
def mapPutP (P:Program) (h:Hp) (t:TypeId) (x i y:PV) (K:OpK):Prop:=match x,i with
  | .d (.mp k),.d (.c (.v (.string s)))=>match h k,P.underlying t with
    | some (.mp l),some (.map kt _)=>match isStr P kt with
      | true=>pvVal y fun v=>K (.tup []) [(k,some (.mp (mpPut l s v)))] [(k,.mp l)]
      | false=>False
    | _,_=>False
  | _,_=>False
def cutP0 (P:Program) (t:TypeId) (x:PV) (lo hi:Option PV) (mx:PV) (K:PV->Prop):Prop:=match lo,hi,mx with
  | none,some (.d (.c (.v (.int _ 0)))),.d (.c (.v (.int _ 0)))=>tySlice P t fun _ _=>match x with
    | .d (.c (.sl _ _))=>K (.d .emp)|.d (.app _ _ _ _)=>K (.d .emp)|.d (.c (.v (.slice none 0 0)))=>K (.d .emp)|.d (.c (.v (.slice (some _) 0 _)))=>K (.d .emp)|_=>False
  | _,_,_=>False
def cutP (P:Program) (t:TypeId) (x:PV) (lo hi:Option PV) (mx:PV) (K:PV->Prop):Prop:=match x with
  | .d (.cut k e sz lw _ cc)=>match lo,hi,mx with
    | some (.d (.c (.v (.int _ l)))),some (.d (.c (.v (.int _ h)))),.d (.c (.v (.int _ m)))=>tySlice P t fun _ i=>match Nat.beq i.size sz with
      | true=>Need (0<=l/\l<=h/\h<=m/\m<=cc) (K (.d (.cut k e sz (lw+l.toNat) (h.toNat - l.toNat) (m.toNat - l.toNat))))|false=>False
    | _,_,_=>False
  | x=>cutP0 P t x lo hi mx K
def putRows (rows:List (List D)) (lo:Nat) (seg:List (List D)):List (List D):=rows.take lo++seg++rows.drop (lo+seg.length)
def capP (P:Program) (t:TypeId) (x:PV) (K:PV->Prop):Prop:=match x with
  | .d (.cut _ _ _ _ _ cc)=>match P.underlying t with
    | some (.slice _)=>K (pInt .i64 cc)|_=>False
  | _=>False
inductive CopyC (n n2:Nat) (K:Nat->Prop):Prop
  | mk (m:Nat) (h:m<=n/\m<=n2/\(m=n\/m=n2)) (hk:K m)
def copyCutP (P:Program) (h:Hp) (td:TypeId) (x y:PV) (K:OpK):Prop:=match slOf x,slOf y with
  | some a,some b=>match h a.k,h b.k with
    | some (.darr e s rows),some hb=>match hbRows hb with
      | some (s3,rows2)=>tySlice P td fun _ i=>match Nat.beq i.size a.sz&&(Nat.beq s a.sz&&(Nat.beq s3 a.sz&&Nat.beq b.sz a.sz)) with
        | true=>CopyC a.n b.n fun m=>Need (a.lo<=rows.length/\b.lo+m<=rows2.length) (K (pInt .i64 m) [(a.k,some (.darr e s (putRows rows a.lo ((rows2.drop b.lo).take m))))] [(a.k,.darr e s rows),(b.k,hb)])
        | false=>False
      | none=>False
    | _,_=>False
  | _,_=>False
def clearP (P:Program) (h:Hp) (t:TypeId) (x:PV) (K:OpK):Prop:=match x with
  | .d (.cut k _ sz lo _ _)=>match h k with
    | some (.darr e s rows)=>tySlice P t fun _ i=>match i.zero with
      | some z=>match Nat.beq i.size sz&&(Nat.beq s sz&&(Nat.beq z.cells.size i.size&&z.cells.toList.all Value.oneCell')) with
        | true=>K (.tup []) [(k,some (.darr e s (rows.take lo)))] [(k,.darr e s rows)]|false=>False
      | none=>False
    | _=>False
  | _=>False
inductive CapC (c m:Nat) (A B:Prop):Prop
  | mk (room:m<=c->A) (grow:c<m->B)
def isInt (P:Program) (t:TypeId):Bool:=match P.underlying t with
  | some (.int _)=>true|_=>false
def appCutP (P:Program) (h:Hp) (key:Nat) (t t2:TypeId) (k e0 sz lo n cc:Nat) (x:PV) (K:OpK):Prop:=
  match Nat.beq lo 0,Nat.beq k key,h k with
  | true,false,some (.darr e s rows)=>tySlice P t fun el i=>match elemOk i&&(Nat.beq e0 el&&(Nat.beq sz i.size&&Nat.beq s sz)) with
    | true=>match x with
      | .d (.c (.v (.int _ z)))=>match isInt P t2 with
        | true=>Need (0<z/\(cc:Int)<n+z/\n<=rows.length/\(n+z.toNat)*i.bytes<=140737488355328) (K (.d (.arr key e0 sz 0 (n+z.toNat))) [(key,some (.darr e0 sz (rows.take n)))] [(k,.darr e s rows)])|false=>False
      | x=>match slOf x,Nat.beq t t2 with
        | some b,true=>match h b.k with
          | some hb=>match hbRows hb with
            | some (s3,rows2)=>match Nat.beq s3 sz&&(Nat.beq b.sz sz&&!Nat.beq b.k key) with
              | true=>Need (n<=rows.length/\b.lo+b.n<=rows2.length/\(n+b.n)*i.bytes<=140737488355328) (CapC cc (n+b.n)
                  (K (.d (.cut k e0 sz 0 (n+b.n) cc)) [(k,some (.darr e s (putRows rows n ((rows2.drop b.lo).take b.n))))] [(k,.darr e s rows),(b.k,hb)])
                  (K (.d (.arr key e0 sz 0 (n+b.n))) [(key,some (.darr e0 sz (rows.take n++(rows2.drop b.lo).take b.n)))] [(k,.darr e s rows),(b.k,hb)]))
              | false=>False
            | none=>False
          | none=>False
        | _,_=>False
    | false=>False
  | _,_,_=>False
def appEmpP (P:Program) (h:Hp) (key:Nat) (t t2:TypeId) (b:Slc) (K:OpK):Prop:=
  match Nat.beq t t2,h b.k with
  | true,some hb=>match hbRows hb with
    | some (s3,rows2)=>tySlice P t fun el i=>match elemOk i&&(Nat.beq s3 i.size&&(Nat.beq b.sz i.size&&!Nat.beq b.k key)) with
      | true=>Need (0<b.n/\b.lo+b.n<=rows2.length/\b.n*i.bytes<=140737488355328) (K (.d (.arr key el i.size 0 b.n)) [(key,some (.darr el i.size ((rows2.drop b.lo).take b.n)))] [(b.k,hb)])|false=>False
    | none=>False
  | _,_=>False
def appArr2P (P:Program) (h:Hp) (key:Nat) (t t2:TypeId) (s:PV) (b:Slc) (K:OpK):Prop:=
  match Nat.beq t t2,h b.k with
  | true,some hb=>match hbRows hb with
    | some (s3,rows2)=>tySlice P t fun el i=>match elemOk i&&(Nat.beq s3 i.size&&(Nat.beq b.sz i.size&&!Nat.beq b.k key)) with
      | true=>match s with
        | .d (.arr k e sz lo n)=>match Nat.beq e el&&Nat.beq sz i.size,Nat.beq k key,Nat.beq lo 0 with
          | true,false,true=>match h k with
            | some (.darr e2 sz2 rows)=>match Nat.beq sz2 sz,Nat.beq e2 e with
              | true,true=>Need (0<b.n/\n<=rows.length/\b.lo+b.n<=rows2.length/\(n+b.n)*i.bytes<=140737488355328) (K (.d (.arr key e sz 0 (n+b.n))) [(k,none),(key,some (.darr e sz (rows.take n++(rows2.drop b.lo).take b.n)))] [(k,.darr e sz rows),(b.k,hb)])|_,_=>False
            | _=>False
          | _,_,_=>False
        | _=>False
      | false=>False
    | none=>False
  | _,_=>False
def copyP (P:Program) (h:Hp) (td _ts:TypeId) (x y:PV) (K:OpK):Prop:=match x,y with
  | .d (.arr k _ sz lo n),.d (.c (.v (.string z)))=>match h k with
    | some (.arr e s rows)=>tySlice P td fun _ i=>match Nat.beq i.size 1,Nat.beq s 1,Nat.beq sz 1 with
      | true,true,true=>Need (lo+n<=rows.length) (K (pInt .i64 (min z.size n:Nat)) [(k,some (.arr e s (rows.take lo++((z.data.toList.take n).map fun b=>[C.v (.int .u8 (b.toNat:Int))])++rows.drop (lo+min z.size n))))] [(k,.arr e s rows)])|_,_,_=>False
    | _=>False
  | x,y=>copyCutP P h td x y K
def dsOf:List PV->(List D->Prop)->Prop
  | [],K=>K []|.d x::r,K=>D.force x fun y=>dsOf r fun ys=>K (y::ys)
  | _::_,_=>False
def mapE (e:Operand->PV):List Operand->(List PV->Prop)->Prop
  | [],K=>K []|x::xs,K=>PV.force (e x) fun v=>mapE e xs fun vs=>K (v::vs)
def pds (l:List D):List PV:=l.map PV.d
def mkFnP (f:FuncId) (e:Operand->PV) (captured:List Operand) (a:List PV) (K:OpK):Prop:=match a,captured with
  | [.agg l],[]=>K (.d (.mclo f l)) [] []|a,cs=>dsOf a fun a=>mapE e cs fun l=>dsOf l fun l=>K (.d (.clo f a l)) [] []
def callP (P:Program) (h:Hp) (key:Nat) (c:Call) (ty:TypeId) (e:Operand->PV) (K:OpK) (X:Value->Hp->Prop):Prop:=
  match c.callee with
  | .builtin b=>match b,c.args.toList,c.argTypes.toList with
    | .len,[x],[t]=>lenP P t (e x) fun v=>K v [] []
    | .append,[s,x],[t,t2]=>match e s with
     | .d (.cut k e0 sz lo n cc)=>appCutP P h key t t2 k e0 sz lo n cc (e x) K|.d .emp=>match slOf (e x) with
       | some b=>appEmpP P h key t t2 b K|none=>match e x with
         | .d (.c (.v (.string z)))=>appStrP P h key t t2 (e s) z K|y=>appendP P h key t t2 (e s) y K
     | _=>match e x with
      | .d (.c (.v (.string z)))=>appStrP P h key t t2 (e s) z K|.d (.arr k2 e0 sz2 lo n)=>match h k2 with
        | some (.darr e3 1 [[y]])=>appPtrP P h key t t2 (e s) k2 e3 lo n y K|some (.darr _ _ _)=>appArr2P P h key t t2 (e s) ⟨k2,e0,sz2,lo,n⟩ K|_=>appArrP P h key t t2 (e s) k2 sz2 lo n K
      | y=>appendP P h key t t2 (e s) y K
    | .cap,[x],[t]=>capP P t (e x) fun v=>K v [] []
    | .clear,[x],[t]=>clearP P h t (e x) K|.unsafeSliceData,[x],[_]=>sdataP P ty (e x) fun v=>K v [] []
    | .unsafeString,[x,n],[pt,_]=>ustrP P h pt (e x) (e n) K|.copy,[x,y],[td,ts]=>copyP P h td ts (e x) (e y) K|.min,[x,y],_=>minmaxP false (e x) (e y) fun v=>K v [] []
    | .max,[x,y],_=>minmaxP true (e x) (e y) fun v=>K v [] []
    | _,_,_=>False
  | .value f=>match e f with
    | .d (.c (.v (.func (.func g) first captured)))=>match first.toList,captured.toList with
      | [],[]=>mapE e c.args.toList fun ys=>CallP P g ys h K X
      | _,_=>False
    | .d (.clo g a l)=>mapE e c.args.toList fun ys=>forceL (pds a++(ys++pds l)) fun zs=>CallP P g zs h K X
    | .d (.mclo g l)=>mapE e c.args.toList fun ys=>CallP P g (.agg l::ys) h K X
    | _=>False
  | _=>False
def vcOp (P:Program) (key:Nat) (ty:TypeId) (o:Op) (e:Operand->PV) (h:Hp) (K:OpK) (X:Value->Hp->Prop):Prop:=
  match o with
  | .move x=>PV.force (e x) fun v=>K v [] []
  | .assign x=>PV.force (e x) fun v=>K v [] []
  | .pick c a b=>pickP (e c) (e a) (e b) fun v=>K v [] []
  | .binOp op t x (.const .nilIface) _=>nilIfP P op t (e x) fun v=>K v [] []
  | .binOp op t x y _=>binP P op t (e x) (e y) fun v=>K v [] []
  | .unOp op _ x=>unP op (e x) fun v=>K v [] []
  | .convert s d x=>convP3 P h s d (e x) K|.makeMap _ none=>makeMapP key K|.lookup t x i ok=>lookupP P h t (e x) (e i) ok K|.mapUpdate t m k x=>mapPutP P h t (e m) (e k) (e x) K|.insert t m k x=>mapPutP P h t (e m) (e k) (e x) K|.slice t x lo hi (some m)=>cutP P t (e x) (lo.map e) (hi.map e) (e m) fun v=>K v [] []
  | .slice t x lo hi none=>sliceP2 P h t (e x) (lo.map e) (hi.map e) K|.index t x i=>indexP P t (e x) (e i) fun v=>K v [] []
  | .indexAddr t x i=>idxAddrP2 P h t (e x) (e i) K|.fieldAddr s x f=>fieldAddrP P s (e x) f fun v=>K v [] []
  | .field s x f=>fieldP P s (e x) f fun v=>K v [] []
  | .extract x i=>extractP (e x) i fun v=>K v [] []
  | .nilCheck x=>nilCheckP (e x) fun v=>K v [] []
  | .load t x=>loadP2 P h t (e x) K|.store t x y=>storeP P h t (e x) (e y) K|.alloc t=>allocP2 P key t K|.box t x=>boxP2 P key t (e x) K|.build t parts=>buildP P t parts.toList e fun v=>K v [] []
  | .buildSlice t n parts=>buildSliceP0 P key t n parts.toList e K|.call c=>callP P h key c ty e K X|.makeInterface t x=>ifaceP P t (e x) fun v=>K v [] []
  | .typeAssert x _ asserted ok=>assertP P (e x) asserted ok fun v=>K v [] []
  | .makeSlice t n c=>makeP P key t (e n) (e c) K|.makeFunc (.func f) first captured=>mapE e first.toList fun a=>mkFnP f e captured.toList a K
  | .panic x=>match e x with
    | .d (.c (.v (.iface t v)))=>X (.iface t v) h|_=>False
  | _=>False
end
end Go.Proofs.Ytdjbckknghddpaa.Pm
section
namespace Go.Proofs.Ytdjbckknghddpaa.Pm
open Go.RowKit
def SemStep (P:Program) (o:Oper) (e:Operand->PV) (v:PV) (δ:Dl) (rf:Rf):Prop:=
  ∀(c:Ctx) (σ:Sg) (h:Hp) (a:Act) (w:World),c.Ok->SW c σ h w->(∀x∈o.op.operands,PRep σ (fz c σ h w) w (e x) (a.eval x))->
    (∀p∈rf,h p.1=some p.2)->Fresh σ δ rf->∀(next:Act->World->Prop) (Q:Exit->Act->World->Prop),
    (∀u σ' w',Evo σ σ' (fz c σ h w) (fz c σ' (Dl.app h δ) w') w w'->SW c σ' (Dl.app h δ) w'->PRep σ' (fz c σ' (Dl.app h δ) w') w' v u->
      (∀k,k∉Dl.keys δ->σ k=none->σ' k=none)->next (a.put o.dst u) w')->o.wp P a w next Q
def SemPan (P:Program) (o:Oper) (e:Operand->PV) (x:Value) (rf:Rf):Prop:=
  ∀(c:Ctx) (σ:Sg) (h:Hp) (a:Act) (w:World),c.Ok->SW c σ h w->(∀x∈o.op.operands,PRep σ (fz c σ h w) w (e x) (a.eval x))->
    (∀p∈rf,h p.1=some p.2)->∀(next:Act->World->Prop) (Q:Exit->Act->World->Prop),
    (∀w' σ',Evo σ σ' (fz c σ h w) (fz c σ' (dropK h rf) w') w w'->SW c σ' (dropK h rf) w'->(∀k,σ k=none->σ' k=none)->Q (.panic [{ v:=x,recovered:=false }]) a w')->o.wp P a w next Q
theorem Evo.refl {σ:Sg} {F:Fzn} {w:World}:Evo σ σ F F w w:=⟨fun _ _ h=>h,⟨fun _ _ h=>h,fun _ _ _=>rfl⟩,Shape.refl w⟩
theorem semStep_val {P:Program} {o:Oper} {e:Operand->PV} {v:PV} (rf:Rf)
    (hr:∀(c:Ctx) (σ:Sg) (h:Hp) (a:Act) (w:World),SW c σ h w->(∀p∈rf,h p.1=some p.2)->(∀x∈o.op.operands,PRep σ (fz c σ h w) w (e x) (a.eval x))->
      ∃u,(execOp a.eval o).run P w=.ok (.value u) w/\PRep σ (fz c σ h w) w v u):SemStep P o e v [] rf:=by
  intro c σ h a w hc hs hx hrf _ next Q K
  obtain⟨u,h1,h2⟩:=hr c σ h a w hs hrf hx;unfold Oper.wp;rw[h1];exact K u σ w Evo.refl hs h2 (fun _ _ h=>h)
theorem semStep_gval {P:Program} {o:Oper} {e:Operand->PV} {v:PV} (rf:Rf)
    (hr:∀(c:Ctx) (σ:Sg) (h:Hp) (a:Act) (w:World),c.Ok->SW c σ h w->(∀p∈rf,h p.1=some p.2)->(∀x∈o.op.operands,PRep σ (fz c σ h w) w (e x) (a.eval x))->
      ∃u,(execOp a.eval o).run P w=.ok (.value u) w/\PRep σ (fz c σ h w) w v u):SemStep P o e v [] rf:=by
  intro c σ h a w hc hs hx hrf _ next Q K
  obtain⟨u,h1,h2⟩:=hr c σ h a w hc hs hrf hx;unfold Oper.wp;rw[h1];exact K u σ w Evo.refl hs h2 (fun _ _ h=>h)
theorem force_out {v:PV} {K:PV->Prop} (h:PV.force v K):K v:=by
  cases v with
  | d x=>cases x<;>exact h
  | agg l=>exact h|tup l=>exact h|any=>exact h
theorem forceL_out {α:Type}:∀{l:List α} {K:List α->Prop},forceL l K->K l
  | [],_,h=>h|_::xs,_,h=>forceL_out (l:=xs) h
section
variable {σ:Sg} {F:Fzn} {w:World}
theorem rep_v {x u:Value} (h:PRep σ F w (.d (.c (.v x))) u):u=x:=by
  unfold PRep DRep CRep at h;exact h.1
theorem rep_of {x:Value} (h:x.oneCell'=true):PRep σ F w (.d (.c (.v x))) x:=by
  unfold PRep DRep CRep;exact⟨rfl,h⟩
theorem rep_int (k:IntKind) (n:Int):PRep σ F w (pInt k n) (.int k n):=rep_of rfl
theorem rep_bool (b:Bool):PRep σ F w (pBool b) (.bool b):=rep_of rfl
theorem rep_str (s:ByteArray):PRep σ F w (pStr s) (.string s):=rep_of rfl
end
theorem toList_beq_dec (a b:ByteArray):(a.toList==b.toList)=decide (a=b):=by
  rw[Bool.eq_iff_iff,beq_iff_eq,decide_eq_true_eq,ByteArray.toList_eq,ByteArray.toList_eq];constructor
  · intro h;apply ByteArray.ext;apply Array.toList_inj.1 h
  · intro h;rw[h]
theorem intBin_out {P:Program} {op:BinOp} {k k':IntKind} {a b:Int} {K:PV->Prop} (t:TypeId) (h:intBin op k a k' b K) :
    ∃v,K (.d (.c (.v v)))/\v.oneCell'=true/\∀w,(binOp op t (.int k a) (.int k' b)).run P w=.ok v w:=by
  unfold intBin at h;split at h
  · obtain⟨h0,n,rfl,h1⟩:=h
    refine⟨_,h1,rfl,fun w=>?_⟩;simp[binOp,Op.shift,show ¬b<0 by omega]
  · obtain⟨h0,h1⟩:=h
    refine⟨_,h1,rfl,fun w=>?_⟩;simp[binOp,Op.shift,show ¬b<0 by omega]
  · rename_i o1 o2
    by_cases hk:k=k'
    · subst hk
      rw[decide_eq_true rfl] at h;cases op
      case shl=>exact absurd rfl o1
      case shr=>exact absurd rfl o2
      case quo=>
        obtain⟨h0,n,rfl,h1⟩:=h;exact⟨_,h1,rfl,fun w=>by simp[binOp,Op.intDiv,h0]⟩
      case rem=>
        obtain⟨h0,h1⟩:=h;exact⟨_,h1,rfl,fun w=>by simp[binOp,Op.intDiv,h0]⟩
      case add=>obtain⟨n,rfl,h1⟩:=h;exact⟨_,h1,rfl,fun w=>by simp[binOp,Op.intArith]⟩
      case sub=>obtain⟨n,rfl,h1⟩:=h;exact⟨_,h1,rfl,fun w=>by simp[binOp,Op.intArith]⟩
      case mul=>obtain⟨n,rfl,h1⟩:=h;exact⟨_,h1,rfl,fun w=>by simp[binOp,Op.intArith]⟩
      case and=>obtain⟨n,rfl,h1⟩:=h;exact⟨_,h1,rfl,fun w=>by simp[binOp,Op.intBits]⟩
      case or=>obtain⟨n,rfl,h1⟩:=h;exact⟨_,h1,rfl,fun w=>by simp[binOp,Op.intBits]⟩
      case xor=>obtain⟨n,rfl,h1⟩:=h;exact⟨_,h1,rfl,fun w=>by simp[binOp,Op.intBits]⟩
      case andNot=>obtain⟨n,rfl,h1⟩:=h;exact⟨_,h1,rfl,fun w=>by simp[binOp,Op.intBits]⟩
      case eql=>exact⟨_,h,rfl,fun w=>by simp[binOp,Op.intCmp];rfl⟩
      case neq=>exact⟨_,h,rfl,fun w=>by simp[binOp,Op.intCmp];rw[Bool.eq_iff_iff];simp⟩
      case lss=>exact⟨_,h,rfl,fun w=>by simp[binOp,Op.intCmp]⟩
      case leq=>exact⟨_,h,rfl,fun w=>by simp[binOp,Op.intCmp]⟩
      case gtr=>exact⟨_,h,rfl,fun w=>by simp[binOp,Op.intCmp]⟩
      case geq=>exact⟨_,h,rfl,fun w=>by simp[binOp,Op.intCmp]⟩
      all_goals exact h.elim
    · rw[decide_eq_false hk] at h;exact h.elim
theorem strBin_out {P:Program} {op:BinOp} {a b:ByteArray} {K:PV->Prop} (t:TypeId) (h:strBin op a b K) :
    ∃v,K (.d (.c (.v v)))/\v.oneCell'=true/\∀w,(binOp op t (.string a) (.string b)).run P w=.ok v w:=by
  unfold strBin at h;cases op
  case add=>
    obtain⟨h0,h1⟩:=h;refine⟨_,h1,rfl,fun w=>?_⟩;have:¬((a.size+b.size:Nat):Int)>IntKind.i64.max:=by
      have:IntKind.i64.max=9223372036854775807:=rfl;omega
    simp only[binOp,Op.stringOp,this,if_false];rfl
  case eql=>exact⟨_,h,rfl,fun w=>by simp only[binOp,Op.stringOp,toList_beq_dec];rfl⟩
  case neq=>exact⟨_,h,rfl,fun w=>by simp only[binOp,Op.stringOp,toList_beq_dec,decide_not];rfl⟩
  case lss=>exact⟨_,h,rfl,fun w=>by simp only[binOp,Op.stringOp];rfl⟩
  case leq=>exact⟨_,h,rfl,fun w=>by simp only[binOp,Op.stringOp,toList_beq_dec];rfl⟩
  case gtr=>exact⟨_,h,rfl,fun w=>by simp only[binOp,Op.stringOp,toList_beq_dec];rfl⟩
  case geq=>exact⟨_,h,rfl,fun w=>by simp only[binOp,Op.stringOp];rfl⟩
  all_goals exact h.elim
theorem run_equalIn_bool {P:Program} {t:TypeId} (hu:P.underlying t=some .bool) (d:Nat) (a b:Bool) (w:World):(Op.equalIn (d+1) t (.bool a) (.bool b)).run P w=.ok (a==b) w:=by
  simp[Op.equalIn,run_underlying hu]
theorem run_equal_bool {P:Program} {t:TypeId} (hu:P.underlying t=some .bool) (a b:Bool) (w:World):(Op.equal t (.bool a) (.bool b)).run P w=.ok (a==b) w:=
  run_equalIn_bool hu 9999 a b w
theorem boolBin_out {P:Program} {op:BinOp} {a b:Bool} {K:PV->Prop} (t:TypeId) (h:boolBin P op t a b K) :
    ∃v,K (.d (.c (.v v)))/\v.oneCell'=true/\∀w,(binOp op t (.bool a) (.bool b)).run P w=.ok v w:=by
  unfold boolBin at h;split at h
  · rename_i hu
    cases op
    case eql=>exact⟨_,h,rfl,fun w=>by
      rw[show binOp .eql t (.bool a) (.bool b)=(do pure (.bool (<- Op.equal t (.bool a) (.bool b)))) from rfl];simp[run_equal_bool hu]⟩
    case neq=>exact⟨_,h,rfl,fun w=>by
      rw[show binOp .neq t (.bool a) (.bool b)=(do pure (.bool (!(<- Op.equal t (.bool a) (.bool b))))) from rfl];simp[run_equal_bool hu]⟩
    all_goals exact h.elim
  · exact h.elim
end Go.Proofs.Ytdjbckknghddpaa.Pm
namespace Go.Proofs.Ytdjbckknghddpaa.Pm
open Go.RowKit
def Outc (P:Program) (o:Oper) (e:Operand->PV) (h:Hp) (K:OpK) (X:Value->Hp->Prop):Prop:=
  (∃v δ rf,K v δ rf/\(∀p∈rf,h p.1=some p.2)/\SemStep P o e v δ rf)\/∃x rf,X x (dropK h rf)/\(∀p∈rf,h p.1=some p.2)/\SemPan P o e x rf
theorem outc_val {P:Program} {o:Oper} {e:Operand->PV} {h:Hp} {K:OpK} {X:Value->Hp->Prop} {v:PV} (hk:K v [] [])
    (hr:∀(σ:Sg) (F:Fzn) (a:Act) (w:World),(∀x∈o.op.operands,PRep σ F w (e x) (a.eval x))->∃u,(execOp a.eval o).run P w=.ok (.value u) w/\PRep σ F w v u) :
    Outc P o e h K X:=
  .inl ⟨v,[],[],hk,by simp,semStep_val [] (fun c σ h a w _ _ hx=>hr σ _ a w hx)⟩
section
variable {P:Program} {σ:Sg} {F:Fzn} {w:World}
theorem isRow_out {t:TypeId} {K:Option Nat->Prop} (h:isRow P t K) :
    (∃d n,P.underlying t=some d/\d.isRow=true/\(P.info? t).map (·.size)=some n/\K (some n))\/(∃d,P.underlying t=some d/\d.isRow=false/\K none):=by
  unfold isRow at h;split at h
  · rename_i fs hu
    split at h
    · rename_i i hi;exact .inl ⟨_,i.size,hu,rfl,by rw[hi];rfl,h⟩
    · exact h.elim
  · rename_i n e hu
    split at h
    · rename_i i hi;exact .inl ⟨_,i.size,hu,rfl,by rw[hi];rfl,h⟩
    · exact h.elim
  · rename_i d h1 h2 hu
    refine .inr ⟨d,hu,?_,h⟩;cases d<;>first|rfl | (exact absurd rfl (h1 _)) | (exact absurd rfl (h2 _ _))
  · exact h.elim
theorem run_isAgg_row {t:TypeId} {d:TypeDesc} (hu:P.underlying t=some d) (w:World):(isAgg t).run P w=.ok d.isRow w:=by
  unfold isAgg;rw[Sem.run_bind,run_underlying hu w];cases d<;>simp
theorem readP_out {t:TypeId} {l:List D} {K:PV->Prop} (h:readP P t l K) :
    ∃v,K v/\∀(σ:Sg) (F:Fzn) (w:World) (b off:Nat) (us:List Value),DsRep σ F w l us->w.rangeAt b off us->
      ∃u,(loadVar t ⟨b,off,none⟩).run P w=.ok u w/\PRep σ F w v u:=by
  unfold readP at h;rcases isRow_out h with ⟨d,n,hu,hd,hi,h⟩ | ⟨d,hu,hd,h⟩
  · simp only at h
    split at h
    · rename_i hn
      have hn:=le_of_ble_eq_true hn;refine⟨_,forceL_out h,fun σ F w b off us hr hw=>?_⟩;have hlen:=hr.len;refine⟨_,run_loadVar_mid w b off t (us.take n) d (fun j v hv=>hw j v (by
        rw[List.getElem?_take] at hv;split at hv
        · exact hv
        · cases hv)) hu hd (by rw[hi,length_take];congr 1;omega),?_⟩
      unfold PRep;exact⟨_,rfl,hr.take n⟩
    · exact h.elim
  · cases l with
    | nil=>exact h.elim|cons x l=>
      refine⟨.d x,by cases x<;>exact h,fun σ F w b off us hr hw=>?_⟩;cases us with
      | nil=>exact hr.elim|cons u us=>
        have hc:w.cell? ⟨b,off,none⟩=some u:=hw 0 u rfl;refine⟨u,?_,by unfold PRep;exact hr.1⟩;simp[loadVar,run_isAgg_row hu,hd,hc]
theorem partP_out {t:TypeId} {l:List D} {off:Nat} {K:PV->Prop} (h:readP P t (l.drop off) K) :
    ∃v,K v/\∀(σ:Sg) (F:Fzn) (w:World) (us:List Value),DsRep σ F w l us->∃u,(part t us.toArray off).run P w=.ok u w/\PRep σ F w v u:=by
  unfold readP at h;rcases isRow_out h with ⟨d,n,hu,hd,hi,h⟩ | ⟨d,hu,hd,h⟩
  · simp only at h
    split at h
    · rename_i hn
      refine⟨_,forceL_out h,fun σ F w us hr=>?_⟩;cases hq:P.info? t with
      | none=>simp[hq] at hi|some i=>
        have hs:i.size=n:=by simpa [hq] using hi
        refine⟨.agg (us.toArray.extract off (off+n)),by simp[part,run_isAgg_row hu,hd,sizeOf,typeInfo,hq,hs],?_⟩;unfold PRep;refine⟨(us.drop off).take n,?_,(hr.drop off).take n⟩
        congr 1
        apply Array.toList_inj.1;simp[List.extract_eq_take_drop]
    · exact h.elim
  · simp only at h
    split at h
    · rename_i x l' hl
      refine⟨.d x,by cases x<;>exact h,fun σ F w us hr=>?_⟩;obtain⟨u,h1,h2⟩:=hr.get (j:=off) (c:=x) (by have:=congrArg (fun l=>l[0]?) hl;simpa using this);refine⟨u,?_,by unfold PRep;exact h2⟩;simp[part,run_isAgg_row hu,hd,h1]
    · exact h.elim
theorem fieldOf_out {s:TypeId} {f:Nat} {K:Nat->TypeId->Nat->Prop} (h:fieldOf P s f K) :
    ∃fs fd i,P.underlying s=some (.struct fs)/\fs[f]? = some fd/\P.info? fd.type=some i/\i.size≠0/\K fd.offset fd.type i.size:=by
  unfold fieldOf at h;split at h
  · rename_i fs hu
    split at h
    · rename_i fd hf
      split at h
      · rename_i i hi
        split at h
        · exact h.elim
        · rename_i hz
          exact⟨fs,fd,i,hu,hf,hi,fun e=>by rw[e] at hz;simp at hz,h⟩
      · exact h.elim
    · exact h.elim
  · exact h.elim
theorem run_fieldAt {s:TypeId} {f:Nat} {fs:Array Field} {fd:Field} {i:TypeInfo} (hu:P.underlying s=some (.struct fs)) (hf:fs[f]? = some fd) (hi:P.info? fd.type=some i) (hz:i.size≠0) (b off:Nat) (w:World) :
    (Instr.fieldAt s (.pointer (some ⟨b,off,none⟩)) f).run P w=.ok (.pointer (some ⟨b,off+fd.offset,none⟩)) w:=by
  simp[Instr.fieldAt,run_underlying hu,hf,Instr.sureAddr,fieldPlace,sizeOf,typeInfo,hi,hz,Addr.add_mid]
theorem tySlice_out {t:TypeId} {K:TypeId->TypeInfo->Prop} (h:tySlice P t K):∃e i,P.underlying t=some (.slice e)/\P.info? e=some i/\K e i:=by
  unfold tySlice at h;split at h
  · rename_i e hu
    split at h
    · rename_i i hi;exact⟨e,i,hu,hi,h⟩
    · exact h.elim
  · exact h.elim
theorem rows_val {x:PV} {sz:Nat} {rows:List (List C)} (hx:x=.d (.c (.sl sz rows))\/∃k e,x=.d (.app k e sz rows)) {u:Value} (h:PRep σ F w x u) :
    ∃a cap,u=.slice a rows.length cap/\rows.length<=cap/\cap<=maxLen/\(a=none->cap=0)/\(rows=[]\/∃b off,a=some ⟨b,off,none⟩/\RowsAt F w sz b off rows):=by
  rcases hx with rfl | ⟨k,e,rfl⟩
  · unfold PRep DRep CRep at h;exact h
  · unfold PRep DRep at h
    obtain⟨_,⟨_,rfl,rfl⟩ | ⟨g,cap,cur,fr,h1,rfl,h4,h5,h6,h7,h8⟩⟩:=h
    · exact⟨none,0,rfl,Nat.le_refl _,zero_le _,fun _=>rfl,.inl rfl⟩
    · exact⟨_,cap,rfl,h4,h5,fun e=>(by cases e),.inr ⟨g,0,rfl,h8⟩⟩
theorem run_indexAt {t:TypeId} {e:TypeId} {i:TypeInfo} (hu:P.underlying t=some (.slice e)) (hi:P.info? e=some i) (b off len cap:Nat) (k:IntKind) (n:Int) (h0:0<=n) (h1:n.toNat<len) (w:World) :
    (Instr.indexAt t (.slice (some ⟨b,off,none⟩) len cap) (.int k n)).run P w=.ok (.pointer (some ⟨b,off+n.toNat*i.size,none⟩)) w:=by
  have h2:n<(len:Int):=by omega
  simp[Instr.indexAt,asIntOf,run_underlying hu,sizeOf,typeInfo,hi,h0,h2,Addr.add_mid]
theorem idxAddr_core {t e:TypeId} {i:TypeInfo} (hu:P.underlying t=some (.slice e)) (hi:P.info? e=some i) {x:PV} {rows:List (List C)} {n:Int} {r:List C} (hx:x=.d (.c (.sl i.size rows))\/∃k e,x=.d (.app k e i.size rows))
    (h0:0<=n) (hr:rows[n.toNat]? = some r) {u y:Value} (k:IntKind) (h:PRep σ F w x u) (hy:y=.int k n) :
    ∃v,(Instr.indexAt t u y).run P w=.ok v w/\PRep σ F w (.d (.c (.ro r))) v:=by
  obtain⟨a,cap,rfl,h1,h2,h3,h4⟩:=rows_val hx h;subst hy;have hl:=(List.getElem?_eq_some_iff.1 hr).1;rcases h4 with rfl | ⟨b,off,rfl,h5⟩
  · simp at hl
  · obtain⟨_,h6⟩:=rowsAt_get h5 hr
    refine⟨_,run_indexAt hu hi b off _ cap k n h0 hl w,?_⟩;unfold PRep DRep CRep;exact⟨b,_,rfl,h6⟩
end
theorem idxAddrP_out {P:Program} {t:TypeId} {x i:PV} {K:PV->Prop} (h:idxAddrP P t x i K) :
    ∃v,K v/\∀(σ:Sg) (F:Fzn) (w:World) (u y:Value),PRep σ F w x u->PRep σ F w i y->∃z,(Instr.indexAt t u y).run P w=.ok z w/\PRep σ F w v z:=by
  unfold idxAddrP at h;split at h
  · rename_i k n
    split at h
    · rename_i sz rows
      obtain⟨e,i,hu,hi,h'⟩:=tySlice_out h;clear h;split at h'
      · rename_i hs
        obtain rfl:=eq_of_beq_eq_true hs;obtain⟨r,h0,h1,h2⟩:=h';exact⟨_,h2,fun σ F w u y hx hy=>idxAddr_core hu hi (.inl rfl) h0 h1 k hx (rep_v hy)⟩
      · exact h'.elim
    · rename_i kk ee sz rows
      obtain⟨e,i,hu,hi,h'⟩:=tySlice_out h;clear h;split at h'
      · rename_i hs
        obtain rfl:=eq_of_beq_eq_true hs;obtain⟨r,h0,h1,h2⟩:=h';exact⟨_,h2,fun σ F w u y hx hy=>idxAddr_core hu hi (.inr ⟨kk,ee,rfl⟩) h0 h1 k hx (rep_v hy)⟩
      · exact h'.elim
    · rename_i kk ee sz lo m
      obtain⟨e,i,hu,hi,h'⟩:=tySlice_out h;clear h;split at h'
      · rename_i hs
        obtain rfl:=eq_of_beq_eq_true hs;obtain⟨⟨h0,h1⟩,h2⟩:=h';refine⟨_,h2,fun σ F w u y hx hy=>?_⟩;rw[rep_v hy];unfold PRep DRep at hx;obtain⟨_,⟨_,_,q,_⟩ | ⟨g,m',off,cap,cur,fr,g1,rfl,g3,g4,g5,g6,g7⟩⟩:=hx
        · omega
        · refine⟨_,run_indexAt hu hi g off _ cap k n h0 (by omega) w,?_⟩
          unfold PRep DRep;have q1:=g7 (by omega);refine⟨g,m',g1,?_⟩;rw[q1,add_mul,add_zero]
      · exact h'.elim
    · exact h.elim
  · exact h.elim
theorem fieldAddrP_out {P:Program} {s:TypeId} {x:PV} {f:Nat} {K:PV->Prop} (h:fieldAddrP P s x f K) :
    ∃v,K v/\∀(σ:Sg) (F:Fzn) (w:World) (u:Value),PRep σ F w x u->∃z,(Instr.fieldAt s u f).run P w=.ok z w/\PRep σ F w v z:=by
  unfold fieldAddrP at h;split at h
  · rename_i l
    obtain⟨fs,fd,i,hu,hf,hi,hz,h⟩:=fieldOf_out h;split at h
    · rename_i hn
      refine⟨_,h,fun σ F w u hx=>?_⟩;unfold PRep DRep CRep at hx;obtain⟨b,off,rfl,hc⟩:=hx;refine⟨_,run_fieldAt hu hf hi hz b off w,?_⟩;unfold PRep DRep CRep;exact⟨b,_,rfl,csAt_drop _ (le_of_ble_eq_true hn) hc⟩
    · exact h.elim
  · rename_i k o
    obtain⟨fs,fd,i,hu,hf,hi,hz,h⟩:=fieldOf_out h;refine⟨_,h,fun σ F w u hx=>?_⟩;unfold PRep DRep at hx;obtain⟨g,n,h1,rfl⟩:=hx;refine⟨_,run_fieldAt hu hf hi hz g o w,?_⟩;unfold PRep DRep;exact⟨g,n,h1,rfl⟩
  · rename_i k sz j o
    obtain⟨fs,fd,i,hu,hf,hi,hz,h⟩:=fieldOf_out h;refine⟨_,h,fun σ F w u hx=>?_⟩;unfold PRep DRep at hx;obtain⟨g,n,h1,rfl⟩:=hx;refine⟨_,run_fieldAt hu hf hi hz g _ w,?_⟩;unfold PRep DRep;exact⟨g,n,h1,by rw[add_assoc]⟩
  · exact h.elim
theorem rows_out {x:PV} {K:List (List C)->Prop} (h:PV.rows x K):∃l,K l/\(x=.d (.c (.v (.slice none 0 0)))/\l=[]\/∃sz,x=.d (.c (.sl sz l))\/∃k e,x=.d (.app k e sz l)):=by
  unfold PV.rows at h;split at h
  · exact⟨_,h,.inr ⟨_,.inl rfl⟩⟩
  · exact⟨_,h,.inr ⟨_,.inr ⟨_,_,rfl⟩⟩⟩
  · exact⟨_,h,.inl ⟨rfl,rfl⟩⟩
  · exact h.elim
theorem lenP_out {P:Program} {t:TypeId} {x:PV} {K:PV->Prop} (h:lenP P t x K) :
    ∃v,K v/\∀(σ:Sg) (F:Fzn) (w:World) (u:Value) (ty:TypeId),PRep σ F w x u->∃z,(Builtin.len_ #[t] ty #[u]).run P w=.ok z w/\PRep σ F w v z:=by
  unfold lenP at h;split at h
  · split at h
    · rename_i s _ hu
      refine⟨_,h,fun σ F w u ty hx=>⟨_,?_,rep_int _ _⟩⟩;rw[rep_v hx];simp[Builtin.len_,run_underlying hu,goInt]
    · exact h.elim
  · split at h
    · rename_i sz l _ e hu
      refine⟨_,h,fun σ F w u ty hx=>?_⟩;obtain⟨a,cap,rfl,_⟩:=rows_val (.inl rfl) hx;exact⟨_,by simp[Builtin.len_,run_underlying hu,goInt],rep_int _ _⟩
    · exact h.elim
  · split at h
    · rename_i k ee sz l _ e hu
      refine⟨_,h,fun σ F w u ty hx=>?_⟩;obtain⟨a,cap,rfl,_⟩:=rows_val (.inr ⟨_,_,rfl⟩) hx;exact⟨_,by simp[Builtin.len_,run_underlying hu,goInt],rep_int _ _⟩
    · exact h.elim
  · split at h
    · rename_i kk ee sz lo n _ e hu
      refine⟨_,h,fun σ F w u ty hx=>?_⟩;unfold PRep DRep at hx;obtain⟨_,⟨_,_,rfl,b0,rfl⟩ | ⟨g,m',off,cap,cur,fr,g1,rfl,_⟩⟩:=hx
      · exact⟨_,by simp[Builtin.len_,run_underlying hu,goInt],rep_int _ _⟩
      · exact⟨_,by simp[Builtin.len_,run_underlying hu,goInt],rep_int _ _⟩
    · exact h.elim
  · split at h
    · rename_i kk ee sz lo n cc _ e hu
      refine⟨_,h,fun σ F w u ty hx=>?_⟩;unfold PRep DRep at hx;obtain⟨_,_,_,_,_,_,_,rfl,_⟩:=hx;exact⟨_,by simp[Builtin.len_,run_underlying hu,goInt],rep_int _ _⟩
    · exact h.elim
  · split at h
    · rename_i e hu
      refine⟨_,h,fun σ F w u ty hx=>⟨_,?_,rep_int _ _⟩⟩;rw[rep_v hx];simp[Builtin.len_,run_underlying hu,goInt]
    · exact h.elim
  · exact h.elim
end Go.Proofs.Ytdjbckknghddpaa.Pm
namespace Go.Proofs.Ytdjbckknghddpaa.Pm
open Go.RowKit
theorem bound_out {x:Option PV} {d:Int} {K:Int->Prop} (h:bound x d K):(x=none/\K d)\/∃k n,x=some (pInt k n)/\K n:=by
  unfold bound at h;split at h
  · exact .inl ⟨rfl,h⟩
  · exact .inr ⟨_,_,rfl,h⟩
  · exact h.elim
section
variable {P:Program} {w:World}
theorem run_sliceBound (k:IntKind) (n:Int) (y:Nat) (code:BoundsCode) (h0:0<=n) (h1:n<=y):(Instr.sliceBound (.int k n) y code).run P w=.ok n.toNat w:=by
  simp[Instr.sliceBound,asIntOf,h0,h1]
theorem run_bounds (isSlice:Bool) (len cap:Nat) (lo hi:Option Value) (l h:Int) (hl:(lo=none/\l=0)\/∃k,lo=some (.int k l)) (hh:(hi=none/\h=len)\/∃k,hi=some (.int k h))
    (h0:0<=l) (h1:l<=h) (h2:h<=len) (h3:len<=cap):(Instr.sliceBounds isSlice len cap lo hi none).run P w=.ok (l.toNat,h.toNat,cap) w:=by
  have e1:h<=(cap:Int):=by omega
  have e2:l<=(h.toNat:Int):=by omega
  have e3:0<=h:=by omega
  rcases hl with ⟨rfl,rfl⟩ | ⟨k,rfl⟩<;>rcases hh with ⟨rfl,rfl⟩ | ⟨k',rfl⟩
  · simp[Instr.sliceBounds]
  · simp[Instr.sliceBounds,run_sliceBound _ _ _ _ e3 e1]
  · have e4:l<=(len:Int):=h1
    simp[Instr.sliceBounds,run_sliceBound _ _ _ _ h0 e4]
  · simp[Instr.sliceBounds,run_sliceBound _ _ _ _ e3 e1,run_sliceBound _ _ _ _ h0 e2]
theorem run_boundsR (isSlice:Bool) (len cap:Nat) (lo hi:Option Value) (l h:Int) (hl:(lo=none/\l=0)\/∃k,lo=some (.int k l)) (hh:(hi=none/\h=len)\/∃k,hi=some (.int k h))
    (h0:0<=l) (h1:l<=h) (h2:h<=cap):(Instr.sliceBounds isSlice len cap lo hi none).run P w=.ok (l.toNat,h.toNat,cap) w:=by
  have e2:l<=(h.toNat:Int):=by omega
  have e3:0<=h:=by omega
  rcases hl with ⟨rfl,rfl⟩ | ⟨k,rfl⟩<;>rcases hh with ⟨rfl,rfl⟩ | ⟨k',rfl⟩
  · simp[Instr.sliceBounds]
  · simp[Instr.sliceBounds,run_sliceBound _ _ _ _ e3 h2]
  · have e4:l<=(len:Int):=h1
    simp[Instr.sliceBounds,run_sliceBound _ _ _ _ h0 e4]
  · simp[Instr.sliceBounds,run_sliceBound _ _ _ _ e3 h2,run_sliceBound _ _ _ _ h0 e2]
end
def OptRep (σ:Sg) (F:Fzn) (w:World) (x:Option PV) (u:Option Value):Prop:=(x=none/\u=none)\/∃p v,x=some p/\u=some v/\PRep σ F w p v
theorem optRep_bound {σ:Sg} {F:Fzn} {w:World} {x:Option PV} {u:Option Value} {d n:Int} (hr:OptRep σ F w x u) (h:(x=none/\n=d)\/∃k,x=some (pInt k n)) :
    (u=none/\n=d)\/∃k,u=some (.int k n):=by
  rcases hr with ⟨rfl,rfl⟩ | ⟨p,v,rfl,rfl,hp⟩
  · rcases h with ⟨_,rfl⟩ | ⟨k,hk⟩
    · exact .inl ⟨rfl,rfl⟩
    · cases hk
  · rcases h with ⟨hk,_⟩ | ⟨k,hk⟩
    · cases hk
    · cases hk
      exact .inr ⟨k,by rw[rep_v hp]⟩
theorem slice_core {P:Program} {t e:TypeId} {i:TypeInfo} (hu:P.underlying t=some (.slice e)) (hi:P.info? e=some i) {x:PV} {rows:List (List C)} {l h:Int} {lo hi':Option PV}
    (hx:x=.d (.c (.sl i.size rows))\/∃k e,x=.d (.app k e i.size rows)) (h0:0<=l) (h1:l<=h) (h2:h<=rows.length)
    (hlo:(lo=none/\l=0)\/∃k,lo=some (pInt k l)) (hhi:(hi'=none/\h=rows.length)\/∃k,hi'=some (pInt k h))
    (σ:Sg) (F:Fzn) (w:World) (u:Value) (a b:Option Value) (hr:PRep σ F w x u) (ha:OptRep σ F w lo a) (hb:OptRep σ F w hi' b) :
    ∃z,(Instr.sliceAt t u a b none).run P w=.ok z w/\PRep σ F w (.d (.c (.sl i.size ((rows.drop l.toNat).take (h.toNat - l.toNat))))) z:=by
  obtain⟨ad,cap,rfl,g1,g2,g3,g4⟩:=rows_val hx hr;have hrun:=run_bounds (P:=P) (w:=w) true rows.length cap a b l h (optRep_bound ha hlo) (optRep_bound hb hhi) h0 h1 h2 g1;have hlen:((rows.drop l.toNat).take (h.toNat - l.toNat)).length=h.toNat - l.toNat:=by rw[length_take,length_drop];omega
  refine⟨.slice (if cap=l.toNat then ad else ad.map (·.add (l.toNat*i.size))) (h.toNat - l.toNat) (cap - l.toNat),by simp[Instr.sliceAt,run_underlying hu,Instr.slice,hrun,sizeOf,typeInfo,hi],?_⟩;unfold PRep DRep CRep;refine⟨_,_,by rw[hlen],by rw[hlen];omega,by omega,?_,?_⟩
  · intro hn
    split at hn
    · rw[g3 hn];omega
    · cases ad with
      | none=>rw[g3 rfl];omega|some ad=>cases hn
  · by_cases hz:h.toNat - l.toNat=0
    · left;rw[hz,take_zero]
    · right
      rcases g4 with rfl | ⟨bb,off,rfl,g5⟩
      · simp at h2;omega
      · refine⟨bb,off+l.toNat*i.size,?_,rowsAt_take _ (rowsAt_drop _ (by omega) g5)⟩
        rw[if_neg (by omega)];simp[Addr.add_mid]
theorem sliceP_out {P:Program} {t:TypeId} {x:PV} {lo hi:Option PV} {K:PV->Prop} (h:sliceP P t x lo hi K) :
    ∃v,K v/\∀(σ:Sg) (F:Fzn) (w:World) (u:Value) (a b:Option Value),PRep σ F w x u->OptRep σ F w lo a->OptRep σ F w hi b->
      ∃z,(Instr.sliceAt t u a b none).run P w=.ok z w/\PRep σ F w v z:=by
  have fix:∀{x:Option PV} {d n:Int} {K:Int->Prop},((x=none/\K d)\/∃k n,x=some (pInt k n)/\K n)->∃n,((x=none/\n=d)\/∃k,x=some (pInt k n))/\K n:=by
    intro x d n K h;rcases h with ⟨rfl,h⟩ | ⟨k,n,rfl,h⟩
    · exact⟨d,.inl ⟨rfl,rfl⟩,h⟩
    · exact⟨n,.inr ⟨k,rfl⟩,h⟩
  unfold sliceP at h;split at h
  · rename_i s
    split at h
    · rename_i hu
      obtain⟨l,hl,h⟩:=fix (n:=0) (bound_out h);obtain⟨hh,hhi,h⟩:=fix (n:=0) (bound_out h);obtain⟨⟨h0,h1,h2⟩,h⟩:=h;refine⟨_,h,fun σ F w u a b hx ha hb=>⟨_,?_,rep_str _⟩⟩;rw[rep_v hx];have hrun:=run_bounds (P:=P) (w:=w) false s.size s.size a b l hh (optRep_bound ha hl) (optRep_bound hb hhi) h0 h1 h2 (Nat.le_refl _);simp[Instr.sliceAt,run_underlying hu,Instr.slice,hrun]
    · exact h.elim
  · rename_i sz rows
    obtain⟨e,i,hu,hi',h'⟩:=tySlice_out h;clear h;split at h'
    · rename_i hs
      obtain rfl:=eq_of_beq_eq_true hs;obtain⟨l,hl,h⟩:=fix (n:=0) (bound_out h');obtain⟨hh,hhi,h⟩:=fix (n:=0) (bound_out h);obtain⟨⟨h0,h1,h2⟩,h⟩:=h;exact⟨_,h,slice_core hu hi' (.inl rfl) h0 h1 h2 hl hhi⟩
    · exact h'.elim
  · rename_i kk ee sz rows
    obtain⟨e,i,hu,hi',h'⟩:=tySlice_out h;clear h;split at h'
    · rename_i hs
      obtain rfl:=eq_of_beq_eq_true hs;obtain⟨l,hl,h⟩:=fix (n:=0) (bound_out h');obtain⟨hh,hhi,h⟩:=fix (n:=0) (bound_out h);obtain⟨⟨h0,h1,h2⟩,h⟩:=h;exact⟨_,h,slice_core hu hi' (.inr ⟨kk,ee,rfl⟩) h0 h1 h2 hl hhi⟩
    · exact h'.elim
  · rename_i kk ee sz lw n
    obtain⟨e,i,hu,hi',h'⟩:=tySlice_out h;clear h;split at h'
    · rename_i hs
      obtain rfl:=eq_of_beq_eq_true hs;obtain⟨l,hl,h⟩:=fix (n:=0) (bound_out h');obtain⟨hh,hhi,h⟩:=fix (n:=0) (bound_out h);obtain⟨⟨h0,h1,h2⟩,h⟩:=h;refine⟨_,h,fun σ F w u a b hr ha hb=>?_⟩;unfold PRep DRep at hr;obtain⟨hz,⟨m,g1,rfl,b0,rfl⟩ | ⟨g,m,off,cap,cur,fr,g1,rfl,g3,g4,g5,g6,g7⟩⟩:=hr
      · have hrun:=run_bounds (P:=P) (w:=w) true 0 0 a b l hh (optRep_bound ha hl) (optRep_bound hb hhi) h0 h1 h2 (Nat.le_refl _)
        refine⟨.slice b0 0 0,?_,?_⟩
        · have e1:hh.toNat=0:=by omega
          have e2:l.toNat=0:=by omega
          rw[e1,e2] at hrun;simp[Instr.sliceAt,run_underlying hu,Instr.slice,hrun,sizeOf,typeInfo,hi']
        · unfold PRep DRep
          exact⟨hz,.inl ⟨m,g1,by omega,b0,rfl⟩⟩
      · have hrun:=run_bounds (P:=P) (w:=w) true n cap a b l hh (optRep_bound ha hl) (optRep_bound hb hhi) h0 h1 h2 g3
        refine⟨.slice (if cap=l.toNat then some ⟨g,off,none⟩ else (some (⟨g,off,none⟩:Addr)).map (·.add (l.toNat*i.size))) (hh.toNat - l.toNat) (cap - l.toNat),by simp[Instr.sliceAt,run_underlying hu,Instr.slice,hrun,sizeOf,typeInfo,hi'],?_⟩;unfold PRep DRep;refine⟨hz,.inr ?_⟩;by_cases hc:cap=l.toNat
        · rw[if_pos hc]
          exact⟨g,m,off,_,cur,fr,g1,rfl,by omega,by omega,g5,by rw[hc,sub_self];omega,fun q=>by omega⟩
        · rw[if_neg hc]
          have q1:=g7 (by omega);have e3:off+l.toNat*i.size=(lw+l.toNat)*i.size:=by rw[q1,add_mul]
          have e5:l.toNat*i.size+(cap - l.toNat)*i.size=cap*i.size:=by rw[<- add_mul];congr 1;omega
          exact⟨g,m,off+l.toNat*i.size,cap - l.toNat,cur,fr,g1,by simp[Addr.add_mid],by omega,by omega,g5,by omega,fun _=>e3⟩
    · exact h'.elim
  · rename_i kk ee sz lw n cap
    obtain⟨e,i,hu,hi',h'⟩:=tySlice_out h;clear h;split at h'
    · rename_i hs
      obtain rfl:=eq_of_beq_eq_true hs;obtain⟨l,hl,h⟩:=fix (n:=0) (bound_out h');obtain⟨hh,hhi,h⟩:=fix (n:=0) (bound_out h);obtain⟨⟨h0,h1,h2⟩,h⟩:=h;refine⟨_,h,fun σ F w u a b hr ha hb=>?_⟩;unfold PRep DRep at hr;obtain⟨hz,g,m,off,cur,fr,g1,rfl,g3,g4,g5,g6,g7⟩:=hr;have hrun:=run_boundsR (P:=P) (w:=w) true n cap a b l hh (optRep_bound ha hl) (optRep_bound hb hhi) h0 h1 h2;refine⟨.slice (if cap=l.toNat then some ⟨g,off,none⟩ else (some (⟨g,off,none⟩:Addr)).map (·.add (l.toNat*i.size))) (hh.toNat - l.toNat) (cap - l.toNat),by simp[Instr.sliceAt,run_underlying hu,Instr.slice,hrun,sizeOf,typeInfo,hi'],?_⟩;unfold PRep DRep;refine⟨hz,?_⟩;by_cases hc:cap=l.toNat
      · rw[if_pos hc]
        exact⟨g,m,off,cur,fr,g1,rfl,by omega,by omega,g5,by rw[hc,sub_self];omega,fun q=>by omega⟩
      · rw[if_neg hc]
        have q1:=g7 (by omega);have e3:off+l.toNat*i.size=(lw+l.toNat)*i.size:=by rw[q1,add_mul]
        have e5:l.toNat*i.size+(cap - l.toNat)*i.size=cap*i.size:=by rw[<- add_mul];congr 1;omega
        exact⟨g,m,off+l.toNat*i.size,cur,fr,g1,by simp[Addr.add_mid],by omega,by omega,g5,by omega,fun _=>e3⟩
    · exact h'.elim
  · exact h.elim
theorem indexP_out {P:Program} {t:TypeId} {x i:PV} {K:PV->Prop} (h:indexP P t x i K) :
    ∃v,K v/\∀(σ:Sg) (F:Fzn) (w:World) (u y:Value),PRep σ F w x u->PRep σ F w i y->∃z,(Instr.index t u y).run P w=.ok z w/\PRep σ F w v z:=by
  unfold indexP at h;split at h
  · rename_i s k n
    split at h
    · rename_i hu
      obtain⟨b,h0,h1,h2⟩:=h;refine⟨_,h2,fun σ F w u y hx hy=>⟨_,?_,rep_int _ _⟩⟩;rw[rep_v hx,rep_v hy];have hb:s[n.toNat]? = some b:=by
        obtain⟨hl,e⟩:=List.getElem?_eq_some_iff.1 h1;have hl':n.toNat<s.size:=hl;rw[getElem?_pos s n.toNat hl']
        congr 1
      simp[Instr.index,asIntOf,run_underlying hu,h0,hb]
    · exact h.elim
  · rename_i l k n
    split at h
    · rename_i len el hu
      split at h
      · rename_i ti hi hl
        have hl:=eq_of_beq_eq_true hl;have fin:∀(de:TypeDesc),P.underlying el=some de->de.isRow=false->Nat.beq ti.size 1=true->DIdx l n (fun x=>K (.d x))->
            ∃v,K v/\∀(σ:Sg) (F:Fzn) (w:World) (u y:Value),PRep σ F w (.agg l) u->PRep σ F w (.d (.c (.v (.int k n)))) y->∃z,(Instr.index t u y).run P w=.ok z w/\PRep σ F w v z:=by
          intro de hde hrow hs h;have hs:=eq_of_beq_eq_true hs;obtain⟨x,h0,h1,h2⟩:=h;refine⟨_,h2,fun σ F w u y hu' hy=>?_⟩;rw[rep_v hy];unfold PRep at hu';obtain⟨us,rfl,hr⟩:=hu';obtain⟨z,g1,g2⟩:=hr.get h1;have hlt:=(List.getElem?_eq_some_iff.1 h1).1;have e1:n<(len:Int):=by omega
          refine⟨z,?_,by unfold PRep;exact g2⟩;have e2:us.toArray[n.toNat]? = some z:=by simpa using g1
          simp[Instr.index,asIntOf,run_underlying hu,h0,e1,sizeOf,typeInfo,hi,hs,part,run_isAgg_row hde,hrow,g1]
        split at h
        · exact h.elim
        · exact h.elim
        · rename_i de n1 n2 hs hde
          refine fin _ hde ?_ hs h;cases de<;>first|rfl|exact absurd rfl (n1 _) | exact absurd rfl (n2 _ _)
        · exact h.elim
      · exact h.elim
    · exact h.elim
  · exact h.elim
theorem convP_out {P:Program} {src dst:TypeId} {x:PV} {K:PV->Prop} (h:convP P src dst x K) :
    ∃v,K v/\∀(σ:Sg) (F:Fzn) (w:World) (u:Value),PRep σ F w x u->∃z,(convert src dst u).run P w=.ok z w/\PRep σ F w v z:=by
  unfold convP at h;split at h
  · rename_i k hu
    split at h
    · rename_i sd k' n hsd
      obtain⟨m,rfl,h⟩:=h;refine⟨_,h,fun σ F w u hx=>⟨_,?_,rep_int _ _⟩⟩;rw[rep_v hx];simp[convert,run_underlying hu,run_underlying hsd,Conv.intToInt]
    · exact h.elim
  · rename_i hu
    split at h
    · rename_i hsu
      split at h
      · rename_i s
        refine⟨_,h,fun σ F w u hx=>⟨_,?_,rep_str _⟩⟩;rw[rep_v hx];simp[convert,run_underlying hu,run_underlying hsu]
      · exact h.elim
    · rename_i e hsu
      split at h
      · rename_i he
        obtain⟨l,h,hx'⟩:=rows_out h;obtain⟨bs,rfl,h⟩:=h;refine⟨_,h,fun σ F w u hx=>⟨_,?_,rep_str _⟩⟩;have hcases:(∃c cap,u=.slice none c cap/\bs=[])\/∃a cap,u=.slice (some a) bs.length cap/\(∀j (hj:j<bs.length),w.cell? (a.add j)=some (.int .u8 (bs[j].toNat:Int))):=by
          rcases hx' with ⟨rfl,hb⟩ | ⟨sz,hx'⟩
          · rw[rep_v hx];exact .inl ⟨_,_,rfl,by simpa using hb⟩
          · obtain⟨a,cap,rfl,g1,g2,g3,g4⟩:=rows_val hx' hx
            rw[length_map] at g1 ⊢;cases a with
            | none=>exact .inl ⟨_,_,rfl,eq_nil_of_length_eq_zero (by have:=g3 rfl;omega)⟩|some a=>
              refine .inr ⟨a,cap,rfl,fun j hj=>?_⟩;rcases g4 with hb | ⟨b,off,hab,g5⟩
              · rw[List.map_eq_nil_iff] at hb;subst hb;simp at hj
              · obtain rfl:=Option.some.inj hab
                have hg:(bs.map fun b=>[C.v (.int .u8 (b.toNat:Int))])[j]? = some [C.v (.int .u8 (bs[j].toNat:Int))]:=by simp[hj]
                obtain⟨g6,g7⟩:=rowsAt_get g5 hg;simp only[length_cons,length_nil,zero_add] at g6;subst g6;unfold CsAt CRep at g7;obtain⟨⟨_,v,g8,g9,_⟩,_⟩:=g7;subst g9;rw[Addr.add_mid];simpa using g8
        rcases hcases with ⟨c,cap,rfl,rfl⟩ | ⟨a,cap,rfl,hc⟩
        · exact run_convert_bytes_nil w src e hsu he c cap dst hu
        · exact run_convert_bytes_back w src dst e a cap bs hsu he hu hc
      · exact h.elim
    · exact h.elim
  · exact h.elim
end Go.Proofs.Ytdjbckknghddpaa.Pm
namespace Go.Proofs.Ytdjbckknghddpaa.Pm
open Go.RowKit
section
variable {c:Ctx} {σ σ':Sg} {h:Hp} {w w':World}
theorem HbOk.evo {F F':Fzn} {own:Nat->Prop} (ev:Evo σ σ' F F' w w') {k:Nat} {hb:HB} (hk:HbOk σ F w own k hb)
    (hsame:∀g n,σ k=some (some g,n)->w'.heap[g]? = w.heap[g]?):HbOk σ' F' w' own k hb:=by
  cases hb with
  | box bt l=>
    obtain⟨g,n,cs,h1,h2,h3,h4⟩:=hk;exact⟨g,n,cs,ev.sg _ _ h1,h2,(hsame g n h1).trans h3,DsRep.evo ev _ _ h4⟩
  | tail e sz=>
    obtain⟨h0,ob,n,h1,h2⟩:=hk;refine⟨h0,ob,n,ev.sg _ _ h1,?_⟩;cases ob with
    | none=>exact h2|some g=>
      obtain⟨h3,cur,h4⟩:=h2;exact⟨h3,cur,(hsame g n h1).trans h4⟩
  | arr e sz rows=>
    obtain⟨h0,hr,ob,n,h1,h2⟩:=hk;refine⟨h0,hr,ob,n,ev.sg _ _ h1,?_⟩;cases ob with
    | none=>exact h2|some g=>
      obtain⟨h3,cur,h4,h5,h6⟩:=h2;exact⟨h3,cur,(hsame g n h1).trans h4,h5,CsRep.keeps ev.keeps _ _ h6⟩
  | mp l=>
    obtain⟨g,n,es,cl,h1,h2,h3,h4⟩:=hk;exact⟨g,n,es,cl,ev.sg _ _ h1,h2,(hsame g n h1).trans h3,h4⟩
  | darr e sz rows=>
    obtain⟨h0,hr,ob,n,h1,h2⟩:=hk;refine⟨h0,hr,ob,n,ev.sg _ _ h1,?_⟩;cases ob with
    | none=>exact h2|some g=>
      obtain⟨h3,cur,h4,h5,h6⟩:=h2;exact⟨h3,cur,(hsame g n h1).trans h4,h5,DsRep.evo ev _ _ h6⟩
theorem hb_block {F:Fzn} {own:Nat->Prop} {k:Nat} {hb:HB} (hk:HbOk σ F w own k hb) {g n:Nat} (hs:σ k=some (some g,n)):g<w.heap.size/\own g:=by
  cases hb with
  | box bt l=>
    obtain⟨g',n',cs,h1,h2,h3,h4⟩:=hk;rw[hs] at h1;cases h1;exact⟨(Array.getElem?_eq_some_iff.1 h3).1,h2⟩
  | tail e sz=>
    obtain⟨h0,ob,n',h1,h2⟩:=hk;rw[hs] at h1;cases h1;obtain⟨h3,cur,h4⟩:=h2;exact⟨(Array.getElem?_eq_some_iff.1 h4).1,h3⟩
  | arr e sz rows=>
    obtain⟨h0,_,ob,n',h1,h2⟩:=hk;rw[hs] at h1;cases h1;obtain⟨h3,cur,h4,_⟩:=h2;exact⟨(Array.getElem?_eq_some_iff.1 h4).1,h3⟩
  | mp l=>
    obtain⟨g',n',es,cl,h1,h2,h3,_⟩:=hk;rw[hs] at h1;cases h1;exact⟨(Array.getElem?_eq_some_iff.1 h3).1,h2⟩
  | darr e sz rows=>
    obtain⟨h0,_,ob,n',h1,h2⟩:=hk;rw[hs] at h1;cases h1;obtain⟨h3,cur,h4,_⟩:=h2;exact⟨(Array.getElem?_eq_some_iff.1 h4).1,h3⟩
theorem hb_sg {F:Fzn} {own:Nat->Prop} {k:Nat} {hb:HB} (hk:HbOk σ F w own k hb):σ k≠none:=by
  cases hb with
  | box bt l=>obtain⟨g',n',cs,h1,_⟩:=hk;rw[h1];simp
  | tail e sz=>obtain⟨h0,ob,n',h1,_⟩:=hk;rw[h1];simp
  | arr e sz rows=>obtain⟨h0,_,ob,n',h1,_⟩:=hk;rw[h1];simp
  | mp l=>obtain⟨g',n',es,cl,h1,_⟩:=hk;rw[h1];simp
  | darr e sz rows=>obtain⟨h0,_,ob,n',h1,_⟩:=hk;rw[h1];simp
theorem HbOk.key {F:Fzn} {own:Nat->Prop} {k key:Nat} {hb:HB} (hk:HbOk σ F w own k hb) (e:σ key=σ k):HbOk σ F w own key hb:=by
  cases hb with
  | box bt l=>obtain⟨g,n,cs,h1,h2⟩:=hk;exact⟨g,n,cs,e.trans h1,h2⟩
  | tail e2 sz=>obtain⟨h0,ob,n,h1,h2⟩:=hk;exact⟨h0,ob,n,e.trans h1,h2⟩
  | arr e2 sz rows=>obtain⟨h0,hr,ob,n,h1,h2⟩:=hk;exact⟨h0,hr,ob,n,e.trans h1,h2⟩
  | mp l=>obtain⟨g,n,es,cl,h1,h2⟩:=hk;exact⟨g,n,es,cl,e.trans h1,h2⟩
  | darr e2 sz rows=>obtain⟨h0,hr,ob,n,h1,h2⟩:=hk;exact⟨h0,hr,ob,n,e.trans h1,h2⟩
theorem hp_none (hs:SW c σ h w) {k:Nat} (hσ:σ k=none):h k=none:=by
  cases hq:h k with
  | none=>rfl|some hb=>exact absurd hσ (hb_sg (hs.hp _ _ hq))
theorem fz_lt (hs:SW c σ h w) {b o:Nat} (hf:fz c σ h w b o):b<w.heap.size:=by
  rcases hf with hf | hf
  · exact lt_of_lt_of_le hf.1 hs.size
  · exact hf.2.1
theorem evo_below (hs:SW c σ h w) (hb:Below w.heap.size w w'):Evo σ σ (fz c σ h w) (fz c σ h w') w w' where
  sg:=fun _ _ h=>h
  keeps:=by
    refine⟨fun b o hf=>?_,fun b o hf=>?_⟩
    · rcases hf with hf | ⟨h1,h2,h3⟩
      · exact .inl hf
      · exact .inr ⟨h1,lt_of_lt_of_le h2 hb.size,h3⟩
    · unfold World.cell?
      rw[hb.block b (fz_lt hs hf)]
  shape:=fun g cur e fr hg=>⟨cur,fr,by rw[hb.block g (Array.getElem?_eq_some_iff.1 hg).1];exact hg,rfl⟩
theorem sw_below (hs:SW c σ h w) (hb:Below w.heap.size w w'):SW c σ h w' where
  os:=hb.os.trans hs.os
  tape:=hb.tape.trans hs.tape
  output:=hb.output.trans hs.output
  size:=le_trans hs.size hb.size
  block:=fun b h1 h2=>by rw[hb.block b (lt_of_lt_of_le h1 hs.size)];exact hs.block b h1 h2
  hp:=fun k hb' hk=>(hs.hp k hb' hk).evo (evo_below hs hb) fun g n hg=>hb.block g (hb_block (hs.hp k hb' hk) hg).1
  inj:=hs.inj
  kept:=hs.kept.trans (evo_below hs hb).keeps
  shape:=hs.shape.trans (evo_below hs hb).shape
  sg0:=hs.sg0
theorem evo_new (hs:SW c σ h w) {key:Nat} (h0:σ key=none) (obj:Obj) (n:Nat) (hb:HB) :
    Evo σ (upd σ key (some (some w.heap.size,n))) (fz c σ h w) (fz c (upd σ key (some (some w.heap.size,n))) (upd h key (some hb)) (w.alloc obj)) w (w.alloc obj) where
  sg:=fun k x hx=>by rw[upd_ne _ _ (fun e=>by rw[e,h0] at hx;cases hx)];exact hx
  keeps:=by
    refine⟨fun b o hf=>?_,fun b o hf=>?_⟩
    · rcases hf with hf | ⟨h1,h2,h3⟩
      · exact .inl hf
      · refine .inr ⟨h1,by simp;omega,fun k n' hb' hk hσ=>?_⟩
        by_cases hkk:k=key
        · subst hkk
          rw[upd_same] at hσ;simp only[Option.some.injEq,Prod.mk.injEq] at hσ;omega
        · rw[upd_ne _ _ hkk] at hk hσ
          exact h3 k n' hb' hk hσ
    · unfold World.cell?
      rw[heap_alloc_old w obj (fz_lt hs hf)]
  shape:=fun g cur e fr hg=>⟨cur,fr,by rw[heap_alloc_old w obj (Array.getElem?_eq_some_iff.1 hg).1];exact hg,rfl⟩
theorem sw_new (hs:SW c σ h w) {key:Nat} (h0:σ key=none) (obj:Obj) (n:Nat) (hb:HB)
    (hnew:HbOk (upd σ key (some (some w.heap.size,n))) (fz c (upd σ key (some (some w.heap.size,n))) (upd h key (some hb)) (w.alloc obj)) (w.alloc obj) c.own key hb) :
    SW c (upd σ key (some (some w.heap.size,n))) (upd h key (some hb)) (w.alloc obj) where
  os:=hs.os
  tape:=hs.tape
  output:=hs.output
  size:=by have:=hs.size;simp;omega
  block:=fun b h1 h2=>by rw[heap_alloc_old w obj (lt_of_lt_of_le h1 hs.size)];exact hs.block b h1 h2
  hp:=fun k hb' hk=>by
    by_cases hkk:k=key
    · subst hkk
      rw[upd_same] at hk;cases hk;exact hnew
    · rw[upd_ne _ _ hkk] at hk
      exact (hs.hp k hb' hk).evo (evo_new hs h0 obj n hb) fun g n' hg=>heap_alloc_old w obj (hb_block (hs.hp k hb' hk) hg).1
  inj:=fun k k' g n1 n2 hk hk' hσ hσ'=>by
    by_cases e1:k=key
    · by_cases e2:k'=key
      · rw[e1,e2]
      · subst e1
        rw[upd_same] at hσ;rw[upd_ne _ _ e2] at hσ' hk';simp only[Option.some.injEq,Prod.mk.injEq] at hσ;cases hh:h k' with
        | none=>exact absurd hh hk'|some hb'=>
          have:=(hb_block (hs.hp k' hb' hh) hσ').1;omega
    · rw[upd_ne _ _ e1] at hσ hk
      by_cases e2:k'=key
      · subst e2
        rw[upd_same] at hσ';simp only[Option.some.injEq,Prod.mk.injEq] at hσ';cases hh:h k with
        | none=>exact absurd hh hk|some hb'=>
          have:=(hb_block (hs.hp k hb' hh) hσ).1;omega
      · rw[upd_ne _ _ e2] at hσ' hk'
        exact hs.inj k k' g n1 n2 hk hk' hσ hσ'
  kept:=hs.kept.trans (evo_new hs h0 obj n hb).keeps
  shape:=hs.shape.trans (evo_new hs h0 obj n hb).shape
  sg0:=fun k x hk=>(evo_new hs h0 obj n hb).sg _ _ (hs.sg0 k x hk)
end
theorem Evo.trans {σ σ1 σ2:Sg} {F F1 F2:Fzn} {w w1 w2:World} (a:Evo σ σ1 F F1 w w1) (b:Evo σ1 σ2 F1 F2 w1 w2):Evo σ σ2 F F2 w w2 where
  sg:=fun k x h=>b.sg _ _ (a.sg _ _ h)
  keeps:=a.keeps.trans b.keeps
  shape:=a.shape.trans b.shape
theorem semStep_box {P:Program} {o:Oper} {key:Nat} {e:Operand->PV} {l:List D} {T:TypeId}
    (hr:∀(σ:Sg) (F:Fzn) (a:Act) (w:World),(∀x∈o.op.operands,PRep σ F w (e x) (a.eval x))->
      ∃us:List Value,DsRep σ F w l us/\(execOp a.eval o).run P w=.ok (.value (.pointer (some ⟨w.heap.size,0,none⟩))) (w.alloc (.cells us.toArray T))) :
    SemStep P o e (.d (.ptr key 0)) [(key,some (.box T l))] []:=by
  intro c σ h a w hc hs hx hrf hfr next Q K
  have h0:σ key=none:=hfr key (by simp[Dl.keys]) (by simp);obtain⟨us,h1,h2⟩:=hr σ (fz c σ h w) a w hx;unfold Oper.wp;rw[h2];have ev:=evo_new hs h0 (.cells us.toArray T) 0 (.box T l);refine K _ (upd σ key (some (some w.heap.size,0))) _ ev (sw_new hs h0 _ 0 _ ?_) ?_ ?_
  · exact⟨w.heap.size,0,us.toArray,upd_same ..,.inl hs.size,heap_alloc_new w _,DsRep.evo ev _ _ (by simpa using h1)⟩
  · unfold PRep DRep
    exact⟨w.heap.size,0,upd_same ..,rfl⟩
  · intro k hk hn;rw[upd_ne _ _ (by simpa [Dl.keys] using hk)];exact hn
theorem cells_out {v:PV} {K:List D->Prop} (h:PV.cells v K):∃l,K l/\(v=.agg l\/∃x,v=.d x/\l=[x]):=by
  unfold PV.cells at h;split at h
  · exact⟨_,h,.inr ⟨_,rfl,rfl⟩⟩
  · exact⟨_,h,.inl rfl⟩
  · exact h.elim
theorem cells_rep {σ:Sg} {F:Fzn} {w:World} {v:PV} {l:List D} {u:Value} (hv:v=.agg l\/∃x,v=.d x/\l=[x]) (h:PRep σ F w v u):DsRep σ F w l u.cells.toList:=by
  rcases hv with rfl | ⟨x,rfl,rfl⟩
  · unfold PRep at h
    obtain⟨xs,rfl,h⟩:=h;simpa [Value.cells] using h
  · unfold PRep at h
    have h1:=oneCell_of_drep h;have:u.cells=#[u]:=by cases u<;>first|rfl|cases h1
    rw[this];exact dsRep_cons h dsRep_nil
theorem zeroCells_out {P:Program} {t:TypeId} {K:List D->Prop} (h:zeroCells P t K) :
    ∃i z,P.info? t=some i/\i.zero=some z/\K (z.cells.toList.map fun x=>D.c (C.v x))/\∀(σ:Sg) (F:Fzn) (w:World),DsRep σ F w (z.cells.toList.map fun x=>D.c (C.v x)) z.cells.toList:=by
  unfold zeroCells at h;split at h
  · rename_i i hi
    split at h
    · rename_i z hz
      split at h
      · rename_i hall
        refine⟨i,z,hi,hz,forceL_out h,fun σ F w=>?_⟩;have:∀l:List Value,l.all Value.oneCell'=true->DsRep σ F w (l.map fun x=>D.c (C.v x)) l:=by
          intro l;induction l with
          | nil=>intro _;exact dsRep_nil
          | cons x l ih=>
            intro hl;simp only[all_cons,Bool.and_eq_true] at hl;exact dsRep_cons (by unfold DRep CRep;exact⟨rfl,hl.1⟩) (ih hl.2)
        exact this _ hall
      · exact h.elim
    · exact h.elim
  · exact h.elim
theorem allocP_out {P:Program} {o:Oper} {key:Nat} {e:Operand->PV} {h:Hp} {t:TypeId} {K:OpK} {X:Value->Hp->Prop} (ho:o.op=.alloc t) (hv:allocP P key t K):Outc P o e h K X:=by
  unfold allocP at hv;obtain⟨i,z,hi,hz,hk,hr⟩:=zeroCells_out hv;refine .inl ⟨_,_,[],hk,by simp,semStep_box fun σ F a w _=>⟨z.cells.toList,hr σ F w,?_⟩⟩;simp[execOp,ho,Instr.alloc,zeroValue,typeInfo,hi,hz,newVar,newRow]
theorem boxP_out {P:Program} {o:Oper} {key:Nat} {e:Operand->PV} {h:Hp} {t:TypeId} {x:Operand} {K:OpK} {X:Value->Hp->Prop} (ho:o.op=.box t x) (hv:boxP key t (e x) K):Outc P o e h K X:=by
  unfold boxP at hv;obtain⟨l,hk,hl⟩:=cells_out hv;refine .inl ⟨_,_,[],hk,by simp,semStep_box fun σ F a w hx=>⟨(a.eval x).cells.toList,cells_rep hl (hx x (by simp[ho,Op.operands])),?_⟩⟩;simp[execOp,ho,Instr.box,newVar,newRow]
theorem close_rep {x:D} {K:C->Prop} (h:D.close x K):∃y,K y/\∀(σ:Sg) (F:Fzn) (w:World) (u:Value),DRep σ F w x u->CRep F w y u:=by
  unfold D.close at h;split at h
  · exact⟨_,h,fun σ F w u hu=>by unfold DRep at hu;exact hu⟩
  · rename_i k e sz l
    refine⟨_,h,fun σ F w u hu=>?_⟩;have:=rows_val (σ:=σ) (F:=F) (w:=w) (x:=.d (.app k e sz l)) (.inr ⟨k,e,rfl⟩) (u:=u) (by unfold PRep;exact hu);unfold CRep;exact this
  · rename_i f
    refine⟨_,h,fun σ F w u hu=>?_⟩;unfold DRep at hu;obtain⟨us,vs,rfl,h1,h2⟩:=hu;rw[dsRep_nil_inv h1,dsRep_nil_inv h2];unfold CRep;exact⟨rfl,rfl⟩
  · exact h.elim
theorem set_flatten {α:Type} {s:Nat}:∀{rows:List (List α)} {j off:Nat} {r ds:List α},(∀r∈rows,r.length=s)->rows[j]? = some r->off+ds.length<=s->
    (rows.set j (r.take off++ds++r.drop (off+ds.length))).flatten=rows.flatten.take (j*s+off)++ds++rows.flatten.drop (j*s+off+ds.length)
  | [],j,off,r,ds,_,h,_=>by simp at h
  | r0::rows,0,off,r,ds,hl,h,hle=>by
    simp only[List.getElem?_cons_zero,Option.some.injEq] at h;subst h;have hr:=hl r0 (mem_cons_self ..);simp only[List.set_cons_zero,flatten_cons,zero_mul,zero_add];rw[take_append_of_le_length (by omega),List.drop_append_of_le_length (by omega)];simp only[append_assoc]
  | r0::rows,j+1,off,r,ds,hl,h,hle=>by
    simp only[List.getElem?_cons_succ] at h;have hr:=hl r0 (mem_cons_self ..);have ih:=set_flatten (fun r hr=>hl r (mem_cons_of_mem _ hr)) h hle;simp only[List.set_cons_succ,flatten_cons];rw[ih,show (j+1)*s+off=r0.length+(j*s+off) by rw[hr,add_mul];omega,List.take_length_add_append,show r0.length+(j*s+off)+ds.length=r0.length+(j*s+off+ds.length) by omega,List.drop_length_add_append];simp only[append_assoc]
theorem setCs_rep {σ:Sg} {F:Fzn} {w:World} {l cs:List D} {us vs:List Value} (off:Nat) (h1:DsRep σ F w l us) (h2:DsRep σ F w cs vs) :
    DsRep σ F w (setCs l off cs) (us.take off++vs++us.drop (off+vs.length)):=by
  unfold setCs;rw[h2.len];exact ((h1.take off).append h2).append (h1.drop _)
theorem evo_set {c:Ctx} {σ:Sg} {h:Hp} {w:World} (hs:SW c σ h w) (hc:c.Ok) {k g n:Nat} {hb hb':HB} {cur cur':Array Value} {T:TypeId} (hk:h k=some hb) (hσ:σ k=some (some g,n)) (hnt:∀o,¬hb.shut n o)
    (h3:w.heap[g]? = some (.cells cur T (0,0))) (hsz:cur'.size=cur.size) :
    Evo σ σ (fz c σ h w) (fz c σ (upd h k (some hb')) (w.setRow g cur')) w (w.setRow g cur'):=by
  have hown:=(hb_block (hs.hp k hb hk) hσ).2;have hnf:∀off',¬fz c σ h w g off':=by
    intro off' hf;rcases hf with ⟨f1,f2⟩ | ⟨f1,f2,f3⟩
    · rcases hown with h2 | h2
      · omega
      · exact (hc.fz _ _ f2).2 h2
    · exact hnt _ (f3 k n hb hk hσ)
  have hfz:∀b o',fz c σ h w b o'->fz c σ (upd h k (some hb')) (w.setRow g cur') b o':=by
    intro b o' hf;have hbg:b≠g:=fun e=>hnf o' (e ▸ hf);rcases hf with hf | ⟨f1,f2,f3⟩
    · exact .inl hf
    · refine .inr ⟨f1,by simpa [World.setRow] using f2,fun k2 n2 hb2 hk2 hσ2=>?_⟩
      by_cases e:k2=k
      · subst e;rw[hσ] at hσ2;cases hσ2;exact absurd rfl hbg
      · rw[upd_ne _ _ e] at hk2;exact f3 k2 n2 hb2 hk2 hσ2
  refine⟨fun _ _ h=>h,⟨hfz,fun b o' hf=>?_⟩,fun g2 cur2 e2 fr2 hg2=>?_⟩
  · have hbg:b≠g:=fun e=>hnf o' (e ▸ hf)
    unfold World.cell?;rw[setRow_other w g b _ hbg]
  · by_cases e:g2=g
    · subst e
      rw[h3] at hg2;cases hg2;exact⟨cur',_,setRow_heap w g2 cur cur' T _ h3,hsz⟩
    · exact⟨cur2,_,by rw[setRow_other w g g2 _ e];exact hg2,rfl⟩
theorem sw_set {c:Ctx} {σ:Sg} {h:Hp} {w:World} (hs:SW c σ h w) (hc:c.Ok) {k g n:Nat} {hb hb':HB} {cur cur':Array Value} {T:TypeId} (hk:h k=some hb) (hσ:σ k=some (some g,n)) (hnt:∀o,¬hb.shut n o)
    (h3:w.heap[g]? = some (.cells cur T (0,0))) (hsz:cur'.size=cur.size) (hnew:HbOk σ (fz c σ (upd h k (some hb')) (w.setRow g cur')) (w.setRow g cur') c.own k hb') :
    SW c σ (upd h k (some hb')) (w.setRow g cur'):=by
  have hown:=(hb_block (hs.hp k hb hk) hσ).2;have ev:=evo_set (hb':=hb') hs hc hk hσ hnt h3 hsz;refine⟨hs.os,hs.tape,hs.output,by simpa [World.setRow] using hs.size,fun b b1 b2=>?_,fun k2 hb2 hk2=>?_,fun k1 k2 g2 n1 n2 a1 a2 a3 a4=>?_,hs.kept.trans ev.keeps,hs.shape.trans ev.shape,hs.sg0⟩
  · have hbg:b≠g:=by
      rintro rfl;rcases hown with h2 | h2
      · omega
      · exact b2 h2
    rw[setRow_other w g b _ hbg];exact hs.block b b1 b2
  · by_cases e:k2=k
    · subst e
      rw[upd_same] at hk2;cases hk2;exact hnew
    · rw[upd_ne _ _ e] at hk2
      refine (hs.hp k2 hb2 hk2).evo ev fun g2 n2 hg2=>setRow_other w g g2 _ fun e2=>e ?_;subst e2;exact hs.inj k2 k g2 n2 n (by rw[hk2];simp) (by rw[hk];simp) hg2 hσ
  · have fx:∀q,upd h k (some hb') q≠none->h q≠none:=by
      intro q hq;by_cases e:q=k
      · subst e;rw[hk];simp
      · rwa [upd_ne _ _ e] at hq
    exact hs.inj k1 k2 g2 n1 n2 (fx _ a1) (fx _ a2) a3 a4
theorem closeL_out:∀{l:List D} {K:List C->Prop},closeL l K->∃ys,K ys/\∀(σ:Sg) (F:Fzn) (w:World) (us:List Value),DsRep σ F w l us->CsRep F w ys us
  | [],K,h=>⟨[],h,fun σ F w us hu=>by rw[dsRep_nil_inv hu];exact csRep_nil⟩|x::xs,K,h=>by
    unfold closeL at h;obtain⟨y,h1,h2⟩:=close_rep h;obtain⟨ys,h3,h4⟩:=closeL_out h1;refine⟨y::ys,h3,fun σ F w us hu=>?_⟩;obtain⟨u,vs,rfl,g1,g2⟩:=dsRep_inv hu;exact csRep_cons (h2 σ F w u g1) (h4 σ F w vs g2)
theorem storeP_out {P:Program} {o:Oper} {e:Operand->PV} {h:Hp} {t:TypeId} {x y:Operand} {K:OpK} {X:Value->Hp->Prop} (ho:o.op=.store t x y) (hv:storeP P h t (e x) (e y) K):Outc P o e h K X:=by
  unfold storeP at hv;split at hv
  · rename_i k off hx
    split at hv
    · rename_i bt l hk
      obtain⟨cs,hv,hcs⟩:=cells_out hv;split at hv
      · rename_i i hi
        split at hv
        · rename_i e1 e2
          have e1:=eq_of_beq_eq_true e1;have e2:=le_of_ble_eq_true e2;have hv:=forceL_out (K:=fun l'=>K (.tup []) [(k,some (.box bt l'))] [(k,.box bt l)]) hv;refine .inl ⟨_,_,[(k,.box bt l)],hv,by simpa using hk,?_⟩;intro c σ h' a w hc hs hop hrf hfr next Q KK
          have hk':h' k=some (.box bt l):=hrf (k,.box bt l) (by simp);have hpx:=hop x (by simp[ho,Op.operands]);have hpy:=hop y (by simp[ho,Op.operands]);rw[hx] at hpx;unfold PRep DRep at hpx;obtain⟨g,n,hσ,hax⟩:=hpx;have hyc:=cells_rep hcs hpy;obtain⟨g',n',cur,h1,h2,h3,h4⟩:=hs.hp k _ hk';rw[hσ] at h1;cases h1;have hlen:=h4.len;rw[Array.length_toList] at hlen;have hyl:=hyc.len;rw[Array.length_toList] at hyl;have hst:=run_storeCells_at (P:=P) g off bt (a.eval y).cells.toList 0 cur w h3 (by rw[Array.length_toList];omega) hyc.one;simp only[add_zero] at hst;obtain⟨cur',hcur'⟩:∃cur',(cur.toList.take off++(a.eval y).cells.toList++cur.toList.drop (off+(a.eval y).cells.toList.length)).toArray=cur':=⟨_,rfl⟩;rw[hcur'] at hst;have hsz:cur'.size=cur.size:=by
            rw[<- hcur'];simp only[size_toArray,length_append,length_take,length_drop,Array.length_toList];omega
          have hrun:(execOp a.eval o).run P w=.ok .skip (w.setRow g cur'):=by
            simp[execOp,ho,hax,Instr.storeAt,Instr.sureAddr,storeVar,sizeOf,typeInfo,hi,show (a.eval y).cells.size=i.size by omega,hst]
          unfold Oper.wp;rw[hrun];have ev:=evo_set (hb':=.box bt (setCs l off cs)) hs hc hk' hσ (fun _ q=>q) h3 hsz;refine KK undef σ _ ev (sw_set hs hc hk' hσ (fun _ q=>q) h3 hsz ⟨g,n,cur',hσ,h2,setRow_heap w g cur cur' bt _ h3,?_⟩) (by unfold PRep;exact⟨[],rfl,by unfold PsRep;trivial⟩) (fun _ _ h=>h);have hc2:cur'.toList=cur.toList.take off++(a.eval y).cells.toList++cur.toList.drop (off+(a.eval y).cells.toList.length):=by rw[<- hcur']
          rw[hc2];exact DsRep.evo ev _ _ (setCs_rep off h4 hyc)
        · exact hv.elim
      · exact hv.elim
    · rename_i e0 s rows hk
      split at hv
      · rename_i q0 q1
        obtain rfl:=eq_of_beq_eq_true q0;obtain rfl:=eq_of_beq_eq_true q1;obtain⟨cs,hv,hcs⟩:=cells_out hv;obtain⟨ds,hv,hds⟩:=closeL_out hv;split at hv
        · rename_i i hi
          split at hv
          · rename_i e1 e2
            have e1:=eq_of_beq_eq_true e1;have e2:=eq_of_beq_eq_true e2;have hv:=forceL_out (K:=fun rs=>K (.tup []) [(k,some (.arr e0 1 rs))] [(k,.arr e0 1 rows)]) hv;refine .inl ⟨_,_,[(k,.arr e0 1 rows)],hv,by simpa using hk,?_⟩;intro c σ h' a w hc hs hop hrf hfr next Q KK
            have hk':h' k=some (.arr e0 1 rows):=hrf (k,.arr e0 1 rows) (by simp);have hpx:=hop x (by simp[ho,Op.operands]);have hpy:=hop y (by simp[ho,Op.operands]);rw[hx] at hpx;unfold PRep DRep at hpx;obtain⟨g,n,hσ,hax⟩:=hpx;have hyc:=hds _ _ _ _ (cells_rep hcs hpy);obtain⟨hz,hrl,ob,n',h1,h2⟩:=hs.hp k _ hk';rw[hσ] at h1;cases h1;obtain⟨h2,cur,h3,hle,h4⟩:=h2;have hyl:=hyc.len;rw[Array.length_toList] at hyl;have hst:=run_storeCells_at (P:=P) g 0 e0 (a.eval y).cells.toList 0 cur w h3 (by rw[Array.length_toList];omega) hyc.one;simp only[add_zero] at hst;obtain⟨cur',hcur'⟩:∃cur',(cur.toList.take 0++(a.eval y).cells.toList++cur.toList.drop (0+(a.eval y).cells.toList.length)).toArray=cur':=⟨_,rfl⟩;rw[zero_add] at hcur';simp only[zero_add] at hst;rw[hcur'] at hst;have hsz:cur'.size=cur.size:=by
              rw[<- hcur'];simp only[size_toArray,length_append,length_take,length_drop,Array.length_toList];omega
            have hrun:(execOp a.eval o).run P w=.ok .skip (w.setRow g cur'):=by
              simp[execOp,ho,hax,Instr.storeAt,Instr.sureAddr,storeVar,sizeOf,typeInfo,hi,show (a.eval y).cells.size=i.size by omega,hst]
            unfold Oper.wp;rw[hrun];have ev:=evo_set (hb':=.arr e0 1 (ds.map fun c=>[c])) hs hc hk' hσ (fun _ q=>q) h3 hsz;have hfl:∀l:List C,(l.map fun c=>[c]).flatten=l:=fun l=>by
              induction l with
              | nil=>rfl|cons c l ih=>rw[map_cons,flatten_cons,ih];rfl
            refine KK undef σ _ ev (sw_set hs hc hk' hσ (fun _ q=>q) h3 hsz ⟨hz,?_,some g,n,hσ,h2,cur',setRow_heap w g cur cur' e0 _ h3,by rw[length_map,hsz];omega,?_⟩) (by unfold PRep;exact⟨[],rfl,by unfold PsRep;trivial⟩) (fun _ _ h=>h)
            · intro r' hr'
              obtain⟨q,_,rfl⟩:=mem_map.1 hr';rfl
            · refine CsRep.keeps ev.keeps _ _ ?_
              have hc2:cur'.toList=cur.toList.take 0++(a.eval y).cells.toList++cur.toList.drop (a.eval y).cells.toList.length:=by rw[<- hcur']
              rw[hfl,hc2,length_map,mul_one,take_zero,nil_append,take_left' (by rw[Array.length_toList];omega)];exact hyc
          · exact hv.elim
        · exact hv.elim
      · exact hv.elim
    · exact hv.elim
  · rename_i k sz j off hx
    split at hv
    · rename_i e0 s rows hk
      split at hv
      · rename_i es
        obtain rfl:=eq_of_beq_eq_true es;obtain⟨r,hr,hv⟩:=hv;obtain⟨cs,hv,hcs⟩:=cells_out hv;obtain⟨ds,hv,hds⟩:=closeL_out hv;split at hv
        · rename_i i hi
          split at hv
          · rename_i e1 e2
            have e1:=eq_of_beq_eq_true e1;have e2:=le_of_ble_eq_true e2;refine .inl ⟨_,_,[(k,.arr e0 s rows)],hv,by simpa using hk,?_⟩;intro c σ h' a w hc hs hop hrf hfr next Q KK
            have hk':h' k=some (.arr e0 s rows):=hrf (k,.arr e0 s rows) (by simp);have hpx:=hop x (by simp[ho,Op.operands]);have hpy:=hop y (by simp[ho,Op.operands]);rw[hx] at hpx;unfold PRep DRep at hpx;obtain⟨g,n,hσ,hax⟩:=hpx;have hyc:=hds _ _ _ _ (cells_rep hcs hpy);obtain⟨hz,hrl,ob,n',h1,h2⟩:=hs.hp k _ hk';rw[hσ] at h1;cases h1;obtain⟨h2,cur,h3,hle,h4⟩:=h2;have hyl:=hyc.len;rw[Array.length_toList] at hyl;have hjl:=(List.getElem?_eq_some_iff.1 hr).1;have hrlen:r.length=s:=hrl r (List.mem_of_getElem? hr);have hflat:=flatten_len hrl;have hj1:(j+1)*s<=rows.length*s:=mul_le_mul_right _ hjl;rw[add_mul,one_mul] at hj1;have hst:=run_storeCells_at (P:=P) g (j*s+off) e0 (a.eval y).cells.toList 0 cur w h3 (by rw[Array.length_toList];omega) hyc.one;simp only[add_zero] at hst;obtain⟨cur',hcur'⟩:∃cur',(cur.toList.take (j*s+off)++(a.eval y).cells.toList++cur.toList.drop (j*s+off+(a.eval y).cells.toList.length)).toArray=cur':=⟨_,rfl⟩;rw[hcur'] at hst;have hsz:cur'.size=cur.size:=by
              rw[<- hcur'];simp only[size_toArray,length_append,length_take,length_drop,Array.length_toList];omega
            have hrun:(execOp a.eval o).run P w=.ok .skip (w.setRow g cur'):=by
              simp[execOp,ho,hax,Instr.storeAt,Instr.sureAddr,storeVar,sizeOf,typeInfo,hi,show (a.eval y).cells.size=i.size by omega,hst]
            unfold Oper.wp;rw[hrun];have ev:=evo_set (hb':=.arr e0 s (rows.set j (r.take off++ds++r.drop (off+ds.length)))) hs hc hk' hσ (fun _ q=>q) h3 hsz;refine KK undef σ _ ev (sw_set hs hc hk' hσ (fun _ q=>q) h3 hsz ⟨hz,?_,some g,n,hσ,h2,cur',setRow_heap w g cur cur' e0 _ h3,by rw[length_set,hsz];exact hle,?_⟩) (by unfold PRep;exact⟨[],rfl,by unfold PsRep;trivial⟩) (fun _ _ h=>h)
            · intro r' hr'
              rcases mem_or_eq_of_mem_set hr' with hr' | rfl
              · exact hrl r' hr'
              · simp only[length_append,length_take,length_drop];omega
            · refine CsRep.keeps ev.keeps _ _ ?_
              have hc2:cur'.toList=cur.toList.take (j*s+off)++(a.eval y).cells.toList++cur.toList.drop (j*s+off+(a.eval y).cells.toList.length):=by rw[<- hcur']
              have hset:(rows.set j (r.take off++ds++r.drop (off+ds.length))).flatten=rows.flatten.take (j*s+off)++ds++rows.flatten.drop (j*s+off+ds.length):=set_flatten hrl hr (by omega);rw[hset,length_set,hc2];have e3:(cur.toList.take (j*s+off)++(a.eval y).cells.toList++cur.toList.drop (j*s+off+(a.eval y).cells.toList.length)).take (rows.length*s) =
                  (cur.toList.take (rows.length*s)).take (j*s+off)++(a.eval y).cells.toList++(cur.toList.take (rows.length*s)).drop (j*s+off+(a.eval y).cells.toList.length):=by
                apply List.ext_getElem?;intro q;have q0:cur.toList.length=cur.size:=Array.length_toList;have q1:(cur.toList.take (j*s+off)).length=j*s+off:=by rw[length_take,q0];omega
                have q2:((cur.toList.take (rows.length*s)).take (j*s+off)).length=j*s+off:=by rw[length_take,length_take,q0];omega
                have q3:(a.eval y).cells.toList.length=ds.length:=by rw[Array.length_toList];omega
                rw[List.getElem?_take];by_cases c1:q<j*s+off
                · rw[if_pos (by omega),append_assoc,List.getElem?_append_left (by omega),append_assoc,List.getElem?_append_left (by omega)]
                  rw[List.getElem?_take,List.getElem?_take,List.getElem?_take,if_pos c1,if_pos c1,if_pos (by omega)]
                · by_cases c2:q<j*s+off+ds.length
                  · rw[if_pos (by omega),append_assoc,List.getElem?_append_right (by omega),List.getElem?_append_left (by omega),append_assoc,List.getElem?_append_right (by omega),List.getElem?_append_left (by omega),q1,q2]
                  · rw[append_assoc,List.getElem?_append_right (by omega),List.getElem?_append_right (by omega),append_assoc,List.getElem?_append_right (by omega),List.getElem?_append_right (by omega),q1,q2]
                    rw[List.getElem?_drop,List.getElem?_drop,List.getElem?_take];rw[show j*s+off+(a.eval y).cells.toList.length+(q - (j*s+off) - (a.eval y).cells.toList.length)=q by omega]
              rw[e3];refine CsRep.append (CsRep.append (h4.take _) hyc) ?_;have:=h4.drop (j*s+off+ds.length);rw[show (a.eval y).cells.toList.length=ds.length by rw[Array.length_toList];omega];exact this
          · exact hv.elim
        · exact hv.elim
      · exact hv.elim
    · rename_i e0 s rows hk
      split at hv
      · rename_i es
        obtain rfl:=eq_of_beq_eq_true es;obtain⟨r,hr,hv⟩:=hv;obtain⟨cs,hv,hcs⟩:=cells_out hv;split at hv
        · rename_i i hi
          split at hv
          · rename_i e1 e2
            have e1:=eq_of_beq_eq_true e1;have e2:=le_of_ble_eq_true e2;refine .inl ⟨_,_,[(k,.darr e0 s rows)],hv,by simpa using hk,?_⟩;intro c σ h' a w hc hs hop hrf hfr next Q KK
            have hk':h' k=some (.darr e0 s rows):=hrf (k,.darr e0 s rows) (by simp);have hpx:=hop x (by simp[ho,Op.operands]);have hpy:=hop y (by simp[ho,Op.operands]);rw[hx] at hpx;unfold PRep DRep at hpx;obtain⟨g,n,hσ,hax⟩:=hpx;have hyc:=cells_rep hcs hpy;obtain⟨hz,hrl,ob,n',h1,h2⟩:=hs.hp k _ hk';rw[hσ] at h1;cases h1;obtain⟨h2,cur,h3,hle,h4⟩:=h2;have hyl:=hyc.len;rw[Array.length_toList] at hyl;have hjl:=(List.getElem?_eq_some_iff.1 hr).1;have hrlen:r.length=s:=hrl r (List.mem_of_getElem? hr);have hflat:=flatten_len hrl;have hj1:(j+1)*s<=rows.length*s:=mul_le_mul_right _ hjl;rw[add_mul,one_mul] at hj1;have hst:=run_storeCells_at (P:=P) g (j*s+off) e0 (a.eval y).cells.toList 0 cur w h3 (by rw[Array.length_toList];omega) hyc.one;simp only[add_zero] at hst;obtain⟨cur',hcur'⟩:∃cur',(cur.toList.take (j*s+off)++(a.eval y).cells.toList++cur.toList.drop (j*s+off+(a.eval y).cells.toList.length)).toArray=cur':=⟨_,rfl⟩;rw[hcur'] at hst;have hsz:cur'.size=cur.size:=by
              rw[<- hcur'];simp only[size_toArray,length_append,length_take,length_drop,Array.length_toList];omega
            have hrun:(execOp a.eval o).run P w=.ok .skip (w.setRow g cur'):=by
              simp[execOp,ho,hax,Instr.storeAt,Instr.sureAddr,storeVar,sizeOf,typeInfo,hi,show (a.eval y).cells.size=i.size by omega,hst]
            unfold Oper.wp;rw[hrun];have ev:=evo_set (hb':=.darr e0 s (rows.set j (setCs r off cs))) hs hc hk' hσ (fun _ q=>q) h3 hsz;refine KK undef σ _ ev (sw_set hs hc hk' hσ (fun _ q=>q) h3 hsz ⟨hz,?_,some g,n,hσ,h2,cur',setRow_heap w g cur cur' e0 _ h3,by rw[length_set,hsz];exact hle,?_⟩) (by unfold PRep;exact⟨[],rfl,by unfold PsRep;trivial⟩) (fun _ _ h=>h)
            · intro r' hr'
              rcases mem_or_eq_of_mem_set hr' with hr' | rfl
              · exact hrl r' hr'
              · simp only[setCs,length_append,length_take,length_drop];omega
            · refine DsRep.evo ev _ _ ?_
              have hc2:cur'.toList=cur.toList.take (j*s+off)++(a.eval y).cells.toList++cur.toList.drop (j*s+off+(a.eval y).cells.toList.length):=by rw[<- hcur']
              have hset:(rows.set j (setCs r off cs)).flatten=rows.flatten.take (j*s+off)++cs++rows.flatten.drop (j*s+off+cs.length):=set_flatten hrl hr (by omega);rw[hset,length_set,hc2];have e3:(cur.toList.take (j*s+off)++(a.eval y).cells.toList++cur.toList.drop (j*s+off+(a.eval y).cells.toList.length)).take (rows.length*s) =
                  (cur.toList.take (rows.length*s)).take (j*s+off)++(a.eval y).cells.toList++(cur.toList.take (rows.length*s)).drop (j*s+off+(a.eval y).cells.toList.length):=by
                apply List.ext_getElem?;intro q;have q0:cur.toList.length=cur.size:=Array.length_toList;have q1:(cur.toList.take (j*s+off)).length=j*s+off:=by rw[length_take,q0];omega
                have q2:((cur.toList.take (rows.length*s)).take (j*s+off)).length=j*s+off:=by rw[length_take,length_take,q0];omega
                have q3:(a.eval y).cells.toList.length=cs.length:=by rw[Array.length_toList];omega
                rw[List.getElem?_take];by_cases c1:q<j*s+off
                · rw[if_pos (by omega),append_assoc,List.getElem?_append_left (by omega),append_assoc,List.getElem?_append_left (by omega)]
                  rw[List.getElem?_take,List.getElem?_take,List.getElem?_take,if_pos c1,if_pos c1,if_pos (by omega)]
                · by_cases c2:q<j*s+off+cs.length
                  · rw[if_pos (by omega),append_assoc,List.getElem?_append_right (by omega),List.getElem?_append_left (by omega),append_assoc,List.getElem?_append_right (by omega),List.getElem?_append_left (by omega),q1,q2]
                  · rw[append_assoc,List.getElem?_append_right (by omega),List.getElem?_append_right (by omega),append_assoc,List.getElem?_append_right (by omega),List.getElem?_append_right (by omega),q1,q2]
                    rw[List.getElem?_drop,List.getElem?_drop,List.getElem?_take];rw[show j*s+off+(a.eval y).cells.toList.length+(q - (j*s+off) - (a.eval y).cells.toList.length)=q by omega]
              rw[e3];refine DsRep.append (DsRep.append (h4.take _) hyc) ?_;have:=h4.drop (j*s+off+cs.length);rw[show (a.eval y).cells.toList.length=cs.length by rw[Array.length_toList];omega];exact this
          · exact hv.elim
        · exact hv.elim
      · exact hv.elim
    · exact hv.elim
  · exact hv.elim
end Go.Proofs.Ytdjbckknghddpaa.Pm
namespace Go.Proofs.Ytdjbckknghddpaa.Pm
open Go.RowKit
theorem fold_fill (off:Nat):∀(vs:List Value) (k:Nat) (cells:List Value),off+k+vs.length<=cells.length->
    ((vs.zipIdx k).foldl (fun (cs:Array Value) (p:Value×Nat)=>cs.setIfInBounds (off+p.2) p.1) cells.toArray)=(cells.take (off+k)++vs++cells.drop (off+k+vs.length)).toArray
  | [],k,cells,h=>by simp
  | v::vs,k,cells,h=>by
    rw[List.zipIdx_cons,List.foldl_cons];have h1:cells.toArray.setIfInBounds (off+k) v=(cells.set (off+k) v).toArray:=by simp
    simp only[length_cons] at h;rw[h1,fold_fill off vs (k+1) (cells.set (off+k) v) (by rw[length_set];omega)]
    congr 1
    apply List.ext_getElem?;intro i;simp only[append_assoc,List.getElem?_append,length_take,length_set,List.getElem?_take,List.getElem?_set,List.getElem?_drop,length_cons,List.getElem?_cons];have e1:min (off+(k+1)) cells.length=off+k+1:=by omega
    have e2:min (off+k) cells.length=off+k:=by omega
    rw[e1,e2];by_cases c1:i<off+k
    · rw[if_pos (by omega),if_pos (by omega),if_neg (by omega),if_pos c1,if_pos c1]
    · rw[if_neg c1]
      by_cases c2:i=off+k
      · subst c2;simp[show k<k+1 by omega];omega
      · rw[if_neg (by omega),if_neg (by omega:¬i - (off+k)=0)]
        by_cases c3:i - (off+k+1)<vs.length
        · rw[if_pos c3,if_pos (by omega)];congr 1
        · rw[if_neg c3,if_neg (by omega),if_neg (by omega)];congr 1;omega
theorem fill_cells (place:Nat->Option (Nat×Nat)) (cells:List Value) (i off sz:Nat) (v:Value) (rest:List (Nat×Value)) (hp:place i=some (off,sz)) (h1:v.cells.size=sz) (h2:off+sz<=cells.length) :
    Instr.fill place cells.toArray ((i,v)::rest)=Instr.fill place (cells.take off++v.cells.toList++cells.drop (off+v.cells.toList.length)).toArray rest:=by
  have hf:=fold_fill off v.cells.toList 0 cells (by rw[Array.length_toList];omega);simp only[add_zero] at hf;rw[<- hf];rw[Instr.fill,hp];simp only[];rw[if_neg (by simp;omega)]
  congr 1
  rw[<- Array.foldl_toList,Array.toList_zipIdx]
theorem placesOf_out {P:Program}:∀{fs:List Field} {K:List (Nat×Nat)->Prop},placesOf P fs K->∃ps,fs.mapM (fun f=>(P.info? f.type).map fun i=>(f.offset,i.size))=some ps/\K ps
  | [],K,h=>⟨[],rfl,h⟩|f::fs,K,h=>by
    unfold placesOf at h;split at h
    · rename_i i hi
      obtain⟨ps,h1,h2⟩:=placesOf_out (fs:=fs) h;exact⟨_,by simp[mapM_cons,hi,h1],h2⟩
    · exact h.elim
theorem fillP_out {places:List (Nat×Nat)} {e:Operand->PV}:∀{parts:List (Nat×Operand)} {l:List D} {K:List D->Prop},fillP places e parts l K->
    ∃l',K l'/\∀(σ:Sg) (F:Fzn) (w:World) (ρ:Operand->Value) (us:List Value),(∀p∈parts,PRep σ F w (e p.2) (ρ p.2))->DsRep σ F w l us->
      ∃us':List Value,Instr.fill (places.toArray[·]?) us.toArray (parts.map fun p=>(p.1,ρ p.2))=some us'.toArray/\DsRep σ F w l' us'
  | [],l,K,h=>⟨l,h,fun σ F w ρ us _ hu=>⟨us,rfl,hu⟩⟩|(i,x)::ps,l,K,h=>by
    unfold fillP at h;split at h
    · rename_i off sz hpl
      obtain⟨cs,h,hcs⟩:=cells_out h;split at h
      · rename_i e1 e2
        have e1:=eq_of_beq_eq_true e1;have e2:=le_of_ble_eq_true e2;obtain⟨l',h1,h2⟩:=fillP_out (parts:=ps) (forceL_out h);refine⟨l',h1,fun σ F w ρ us hp hu=>?_⟩;have hpx:PRep σ F w (e x) (ρ x):=hp (i,x) (by simp);have hx:=cells_rep hcs hpx;have hl:=hu.len;have hxl:=hx.len;rw[Array.length_toList] at hxl;obtain⟨us',h3,h4⟩:=h2 σ F w ρ _ (fun p hp'=>hp p (mem_cons_of_mem _ hp')) (setCs_rep off hu hx);refine⟨us',?_,h4⟩;rw[map_cons,fill_cells _ us i off sz (ρ x) _ (by simpa using hpl) (by omega) (by omega)];exact h3
      · exact h.elim
    · exact h.elim
theorem fillA_out {sz:Nat} {e:Operand->PV}:∀{parts:List (Nat×Operand)} {l:List D} {K:List D->Prop},fillA sz e parts l K->
    ∃l',K l'/\∀(σ:Sg) (F:Fzn) (w:World) (ρ:Operand->Value) (us:List Value),(∀p∈parts,PRep σ F w (e p.2) (ρ p.2))->DsRep σ F w l us->
      ∃us':List Value,Instr.fill (fun i=>some (i*sz,sz)) us.toArray (parts.map fun p=>(p.1,ρ p.2))=some us'.toArray/\DsRep σ F w l' us'
  | [],l,K,h=>⟨l,h,fun σ F w ρ us _ hu=>⟨us,rfl,hu⟩⟩|(i,x)::ps,l,K,h=>by
    unfold fillA at h;obtain⟨cs,h,hcs⟩:=cells_out h;split at h
    · rename_i e1 e2
      have e1:=eq_of_beq_eq_true e1;have e2:=le_of_ble_eq_true e2;obtain⟨l',h1,h2⟩:=fillA_out (parts:=ps) (forceL_out h);refine⟨l',h1,fun σ F w ρ us hp hu=>?_⟩;have hpx:PRep σ F w (e x) (ρ x):=hp (i,x) (by simp);have hx:=cells_rep hcs hpx;have hl:=hu.len;have hxl:=hx.len;rw[Array.length_toList] at hxl;obtain⟨us',h3,h4⟩:=h2 σ F w ρ _ (fun p hp'=>hp p (mem_cons_of_mem _ hp')) (setCs_rep (i*sz) hu hx);refine⟨us',?_,h4⟩;rw[map_cons,fill_cells _ us i (i*sz) sz (ρ x) _ rfl (by omega) (by omega)];exact h3
    · exact h.elim
theorem buildP_out {P:Program} {t:TypeId} {parts:Array (Nat×Operand)} {e:Operand->PV} {K:PV->Prop} (h:buildP P t parts.toList e K) :
    ∃v,K v/\∀(σ:Sg) (F:Fzn) (w:World) (ρ:Operand->Value),(∀p∈parts,PRep σ F w (e p.2) (ρ p.2))->
      ∃u,(Instr.build t (parts.map fun (i,x)=>(i,ρ x))).run P w=.ok u w/\PRep σ F w v u:=by
  unfold buildP at h;split at h
  · rename_i n el hu
    split at h
    · rename_i ie hie
      obtain⟨i,z,hi,hz,h,hr⟩:=zeroCells_out h;obtain⟨l',h1,h2⟩:=fillA_out h;refine⟨_,h1,fun σ F w ρ hp=>?_⟩;obtain⟨us',h3,h4⟩:=h2 σ F w ρ z.cells.toList (fun p hp'=>hp p (by simpa using hp')) (hr σ F w);refine⟨.agg us'.toArray,run_build w t _ us'.toArray ?_,by unfold PRep;exact⟨us',rfl,h4⟩⟩;unfold Program.built;simp only[hi,hu,hz,hie];simpa using h3
    · exact h.elim
  · rename_i fs hu
    obtain⟨i,z,hi,hz,h,hr⟩:=zeroCells_out h;obtain⟨ps,hps,h⟩:=placesOf_out h;obtain⟨l',h1,h2⟩:=fillP_out h;refine⟨_,h1,fun σ F w ρ hp=>?_⟩;obtain⟨us',h3,h4⟩:=h2 σ F w ρ z.cells.toList (fun p hp'=>hp p (by simpa using hp')) (hr σ F w);refine⟨.agg us'.toArray,run_build w t _ us'.toArray ?_,by unfold PRep;exact⟨us',rfl,h4⟩⟩;unfold Program.built;simp only[hi,hu,hz,hps];simpa using h3
  · exact h.elim
theorem rowsOf_out {sz:Nat} {e:Operand->PV}:∀{parts:List (Nat×Operand)} {n:Nat} {K:List (List C)->Prop},rowsOf sz e n parts K->
    ∃rs,K rs/\rs.length=parts.length/\(∀r∈rs,r.length=sz)/\∀(σ:Sg) (F:Fzn) (w:World) (ρ:Operand->Value),(∀p∈parts,PRep σ F w (e p.2) (ρ p.2))->
      ∃us:List Value,us.length=rs.length*sz/\CsRep F w rs.flatten us/\∀(pre post:List Value),pre.length=n*sz->parts.length*sz<=post.length->
        Instr.fill (fun i=>some (i*sz,sz)) (pre++post).toArray (parts.map fun p=>(p.1,ρ p.2))=some (pre++us++post.drop (parts.length*sz)).toArray
  | [],n,K,h=>⟨[],h,rfl,by simp,fun σ F w ρ _=>⟨[],by simp,csRep_nil,fun pre post _ _=>by simp[Instr.fill]⟩⟩|(i,x)::ps,n,K,h=>by
    unfold rowsOf at h;split at h
    · rename_i e1
      obtain rfl:=eq_of_beq_eq_true e1;obtain⟨cs,h',hcs⟩:=cells_out h;clear h;obtain⟨ds,h,hds⟩:=closeL_out h';clear h';split at h
      · rename_i e2
        have e2:=eq_of_beq_eq_true e2;obtain⟨rs,h1,h2,h3,h4⟩:=rowsOf_out (parts:=ps) h;refine⟨ds::rs,h1,by simp[h2],fun r hr=>?_,fun σ F w ρ hp=>?_⟩
        · rcases mem_cons.1 hr with rfl | hr
          · exact e2
          · exact h3 r hr
        · have hpx:PRep σ F w (e x) (ρ x):=hp (i,x) (by simp)
          have hx:=hds σ F w _ (cells_rep hcs hpx);have hxl:=hx.len;obtain⟨us,g1,g2,g3⟩:=h4 σ F w ρ (fun p hp'=>hp p (mem_cons_of_mem _ hp'));refine⟨(ρ x).cells.toList++us,?_,?_,fun pre post hpre hpost=>?_⟩
          · rw[length_append,length_cons,add_mul];omega
          · rw[flatten_cons];exact hx.append g2
          · simp only[length_cons,add_mul,one_mul] at hpost
            rw[Array.length_toList] at hxl;rw[map_cons,fill_cells _ (pre++post) i (i*sz) sz (ρ x) _ rfl (by omega) (by rw[length_append];omega)];have e3:(pre++post).take (i*sz)=pre:=by rw[<- hpre];exact take_left
            have e4:(pre++post).drop (i*sz+(ρ x).cells.toList.length)=post.drop sz:=by
              rw[<- hpre,drop_append,show pre.length+(ρ x).cells.toList.length - pre.length=sz by have hq:(ρ x).cells.toList.length=(ρ x).cells.size:=Array.length_toList;omega];simp
            rw[e3,e4,g3 (pre++(ρ x).cells.toList) (post.drop sz) (by have hq:(ρ x).cells.toList.length=(ρ x).cells.size:=Array.length_toList;rw[length_append,add_mul];omega) (by rw[length_drop];omega)];simp only[drop_drop,length_cons,append_assoc,add_mul,one_mul];rw[add_comm sz]
      · exact h.elim
    · exact h.elim
theorem rowsD_out {sz:Nat} {e:Operand->PV}:∀{parts:List (Nat×Operand)} {n:Nat} {K:List (List D)->Prop},rowsD sz e n parts K->
    ∃rs,K rs/\rs.length=parts.length/\(∀r∈rs,r.length=sz)/\∀(σ:Sg) (F:Fzn) (w:World) (ρ:Operand->Value),(∀p∈parts,PRep σ F w (e p.2) (ρ p.2))->
      ∃us:List Value,us.length=rs.length*sz/\DsRep σ F w rs.flatten us/\∀(pre post:List Value),pre.length=n*sz->parts.length*sz<=post.length->
        Instr.fill (fun i=>some (i*sz,sz)) (pre++post).toArray (parts.map fun p=>(p.1,ρ p.2))=some (pre++us++post.drop (parts.length*sz)).toArray
  | [],n,K,h=>⟨[],h,rfl,by simp,fun σ F w ρ _=>⟨[],by simp,dsRep_nil,fun pre post _ _=>by simp[Instr.fill]⟩⟩|(i,x)::ps,n,K,h=>by
    unfold rowsD at h;split at h
    · rename_i e1
      obtain rfl:=eq_of_beq_eq_true e1;obtain⟨ds,h',hcs⟩:=cells_out h;clear h;have h:=h';clear h';split at h
      · rename_i e2
        have e2:=eq_of_beq_eq_true e2;obtain⟨rs,h1,h2,h3,h4⟩:=rowsD_out (parts:=ps) h;refine⟨ds::rs,h1,by simp[h2],fun r hr=>?_,fun σ F w ρ hp=>?_⟩
        · rcases mem_cons.1 hr with rfl | hr
          · exact e2
          · exact h3 r hr
        · have hpx:PRep σ F w (e x) (ρ x):=hp (i,x) (by simp)
          have hx:=cells_rep hcs hpx;have hxl:=hx.len;obtain⟨us,g1,g2,g3⟩:=h4 σ F w ρ (fun p hp'=>hp p (mem_cons_of_mem _ hp'));refine⟨(ρ x).cells.toList++us,?_,?_,fun pre post hpre hpost=>?_⟩
          · rw[length_append,length_cons,add_mul];omega
          · rw[flatten_cons];exact hx.append g2
          · simp only[length_cons,add_mul,one_mul] at hpost
            rw[Array.length_toList] at hxl;rw[map_cons,fill_cells _ (pre++post) i (i*sz) sz (ρ x) _ rfl (by omega) (by rw[length_append];omega)];have e3:(pre++post).take (i*sz)=pre:=by rw[<- hpre];exact take_left
            have e4:(pre++post).drop (i*sz+(ρ x).cells.toList.length)=post.drop sz:=by
              rw[<- hpre,drop_append,show pre.length+(ρ x).cells.toList.length - pre.length=sz by have hq:(ρ x).cells.toList.length=(ρ x).cells.size:=Array.length_toList;omega];simp
            rw[e3,e4,g3 (pre++(ρ x).cells.toList) (post.drop sz) (by have hq:(ρ x).cells.toList.length=(ρ x).cells.size:=Array.length_toList;rw[length_append,add_mul];omega) (by rw[length_drop];omega)];simp only[drop_drop,length_cons,append_assoc,add_mul,one_mul];rw[add_comm sz]
      · exact h.elim
    · exact h.elim
end Go.Proofs.Ytdjbckknghddpaa.Pm
namespace Go.Proofs.Ytdjbckknghddpaa.Pm
open Go.RowKit
section
variable {c:Ctx} {σ σ':Sg} {h:Hp} {w w':World}
theorem new_tail (hs:SW c σ h w) {key:Nat} (h0:σ key=none) {e sz cap:Nat} {cs:Array Value} {l:List (List C)} {us:List Value} (hsz:0<sz)
    (hl:∀r∈l,r.length=sz) (hus:CsRep (fz c σ h w) w l.flatten us) (hcap:l.length<=cap) (hmax:cap<=maxLen) (hcs:cs.size=cap*sz) (htake:cs.toList.take (l.length*sz)=us) :
    Evo σ (upd σ key (some (some w.heap.size,l.length))) (fz c σ h w) (fz c (upd σ key (some (some w.heap.size,l.length))) (upd h key (some (.tail e sz))) (w.alloc (.cells cs e))) w (w.alloc (.cells cs e))/\
    SW c (upd σ key (some (some w.heap.size,l.length))) (upd h key (some (.tail e sz))) (w.alloc (.cells cs e))/\
    PRep (upd σ key (some (some w.heap.size,l.length))) (fz c (upd σ key (some (some w.heap.size,l.length))) (upd h key (some (.tail e sz))) (w.alloc (.cells cs e))) (w.alloc (.cells cs e)) (.d (.app key e sz l)) (.slice (some ⟨w.heap.size,0,none⟩) l.length cap):=by
  have ev:=evo_new hs h0 (.cells cs e) l.length (.tail e sz);have hnew:(w.alloc (.cells cs e)).heap[w.heap.size]? = some (.cells cs e (0,0)):=heap_alloc_new w _;refine⟨ev,sw_new hs h0 _ _ _ ⟨hsz,some w.heap.size,l.length,upd_same ..,.inl hs.size,cs,hnew⟩,?_⟩;unfold PRep DRep;refine⟨hsz,.inr ⟨w.heap.size,cap,cs,_,upd_same ..,rfl,hcap,hmax,hnew,hcs,?_⟩⟩;rw[rowsAt_iff];refine⟨hl,csAt_of_values (CsRep.keeps ev.keeps _ _ hus) (fun j u hu=>?_) (fun j hj=>?_)⟩
  · rw[zero_add,cell_of_row _ _ _ _ _ _ hnew]
    have hj:j<us.length:=(List.getElem?_eq_some_iff.1 hu).1;rw[<- htake] at hu;rw[List.getElem?_take] at hu;split at hu
    · simpa using hu
    · cases hu
  · rw[zero_add]
    refine .inr ⟨.inl hs.size,by simp,fun k n hb hk hσ=>?_⟩;by_cases hkk:k=key
    · subst hkk
      rw[upd_same] at hσ hk;cases hk;simp only[Option.some.injEq,Prod.mk.injEq] at hσ;rw[flatten_len hl] at hj;show j<n*sz;rw[<- hσ.2];exact hj
    · rw[upd_ne _ _ hkk] at hσ hk
      have:=(hb_block (hs.hp k hb hk) hσ).1;omega
theorem evo_erase (hs:SW c σ h w) (k:Nat):Evo σ σ (fz c σ h w) (fz c σ (upd h k none) w) w w where
  sg:=fun _ _ h=>h
  keeps:=⟨fun b o hf=>hf.imp id fun ⟨h1,h2,h3⟩=>⟨h1,h2,fun k' n hb hk hσ=>by
    by_cases e:k'=k
    · subst e;rw[upd_same] at hk;cases hk
    · rw[upd_ne _ _ e] at hk;exact h3 k' n hb hk hσ⟩,fun _ _ _=>rfl⟩
  shape:=fun g cur e fr hg=>⟨cur,fr,hg,rfl⟩
theorem sw_erase (hs:SW c σ h w) (k:Nat):SW c σ (upd h k none) w where
  os:=hs.os
  tape:=hs.tape
  output:=hs.output
  size:=hs.size
  block:=hs.block
  hp:=fun k' hb hk=>by
    by_cases e:k'=k
    · subst e;rw[upd_same] at hk;cases hk
    · rw[upd_ne _ _ e] at hk
      exact (hs.hp k' hb hk).evo (evo_erase hs k) fun _ _ _=>rfl
  kept:=hs.kept.trans (evo_erase hs k).keeps
  shape:=hs.shape
  sg0:=hs.sg0
  inj:=fun k1 k2 g n1 n2 a1 a2 a3 a4=>by
    have fx:∀q,upd h k none q≠none->h q≠none:=by
      intro q hq;by_cases e:q=k
      · subst e;rw[upd_same] at hq;exact absurd rfl hq
      · rwa [upd_ne _ _ e] at hq
    exact hs.inj k1 k2 g n1 n2 (fx _ a1) (fx _ a2) a3 a4
theorem grow_tail (hs:SW c σ h w) {k key:Nat} (h0:σ key=none) {e e' sz sz' cap g:Nat} {cur cur':Array Value} {l m:List (List C)} {us vs:List Value}
    (hc:c.Ok) (hk:h k=some (.tail e' sz')) (hσ:σ k=some (some g,l.length)) (hg:w.heap[g]? = some (.cells cur e (0,0))) (hn0:c.own g) (hsz:0<sz) (hsz':sz'=sz)
    (hl:∀r∈l++m,r.length=sz) (hus:CsRep (fz c σ h w) w l.flatten us) (hvs:CsRep (fz c σ h w) w m.flatten vs) (hcap:l.length+m.length<=cap) (hmax:cap<=maxLen) (hcs:cur.size=cap*sz)
    (htake:cur.toList.take (l.length*sz)=us) (hcur':cur'.toList=us++vs++cur.toList.drop (l.length*sz+vs.length)) :
    Evo σ (upd σ key (some (some g,(l++m).length))) (fz c σ h w) (fz c (upd σ key (some (some g,(l++m).length))) (upd (upd h k none) key (some (.tail e sz))) (w.setRow g cur')) w (w.setRow g cur')/\
    SW c (upd σ key (some (some g,(l++m).length))) (upd (upd h k none) key (some (.tail e sz))) (w.setRow g cur')/\
    PRep (upd σ key (some (some g,(l++m).length))) (fz c (upd σ key (some (some g,(l++m).length))) (upd (upd h k none) key (some (.tail e sz))) (w.setRow g cur')) (w.setRow g cur')
      (.d (.app key e sz (l++m))) (.slice (some ⟨g,0,none⟩) (l++m).length cap):=by
  subst hsz';have hg':=setRow_heap w g cur cur' e _ hg;have hul:=hus.len;have hvl:=hvs.len;rw[flatten_len (fun r hr=>hl r (mem_append_left _ hr))] at hul;rw[flatten_len (fun r hr=>hl r (mem_append_right _ hr))] at hvl;have hkk:k≠key:=fun e=>by subst e;rw[hp_none hs h0] at hk;cases hk
  have hcl:cur.toList.length=cap*sz':=by rw[Array.length_toList];exact hcs
  have hle:(l.length+m.length)*sz'<=cap*sz':=mul_le_mul_right _ hcap;rw[add_mul] at hle;have hsize:cur'.size=cur.size:=by
    rw[<- Array.length_toList,hcur',hcs];simp only[length_append,length_drop,hcl];omega
  have hgs:g<w.heap.size:=(Array.getElem?_eq_some_iff.1 hg).1;have hold:∀o,fz c σ h w g o->o<l.length*sz':=by
    intro o hf;rcases hf with hf | ⟨_,_,hf⟩
    · rcases hn0 with q | q
      · have:=hf.1;omega
      · exact absurd q (hc.fz _ _ hf.2).2
    · exact hf k _ _ hk hσ
  have hcell:∀o,o<l.length*sz'->(w.setRow g cur').cell? ⟨g,o,none⟩=w.cell? ⟨g,o,none⟩:=by
    intro o ho;rw[cell_of_row _ _ _ _ _ _ hg',cell_of_row _ _ _ _ _ _ hg,<- Array.getElem?_toList,<- Array.getElem?_toList,hcur',append_assoc,List.getElem?_append_left (by omega)];rw[<- htake,List.getElem?_take,if_pos ho]
  have ev:Evo σ (upd σ key (some (some g,(l++m).length))) (fz c σ h w) (fz c (upd σ key (some (some g,(l++m).length))) (upd (upd h k none) key (some (.tail e sz'))) (w.setRow g cur')) w (w.setRow g cur'):=by
    refine⟨fun k' x hx=>?_,⟨fun b o hf=>?_,fun b o hf=>?_⟩,fun g2 cur2 e2 fr2 hg2=>?_⟩
    · rw[upd_ne _ _ (fun e=>by rw[e,h0] at hx;cases hx)];exact hx
    · have hf0:=hf
      rcases hf with hf | ⟨f1,f2,f3⟩
      · exact .inl hf
      · refine .inr ⟨f1,by simpa [World.setRow] using f2,fun k2 n2 hb2 hk2 hσ2=>?_⟩
        by_cases e1:k2=key
        · subst e1
          rw[upd_same] at hk2 hσ2;cases hk2;simp only[Option.some.injEq,Prod.mk.injEq] at hσ2;obtain⟨rfl,rfl⟩:=hσ2;have:=hold o hf0;show o<(l++m).length*sz';rw[length_append,add_mul];omega
        · rw[upd_ne _ _ e1] at hk2 hσ2
          by_cases e2:k2=k
          · subst e2;rw[upd_same] at hk2;cases hk2
          · rw[upd_ne _ _ e2] at hk2
            exact f3 k2 n2 hb2 hk2 hσ2
    · by_cases hb:b=g
      · subst hb;exact hcell o (hold o hf)
      · unfold World.cell?
        rw[setRow_other w g b _ hb]
    · by_cases e1:g2=g
      · subst e1;rw[hg] at hg2;cases hg2;exact⟨cur',_,hg',hsize⟩
      · exact⟨cur2,_,by rw[setRow_other w g g2 _ e1];exact hg2,rfl⟩
  refine⟨ev,⟨hs.os,hs.tape,hs.output,by simpa [World.setRow] using hs.size,fun b b1 b2=>?_,fun k2 hb2 hk2=>?_,fun k1 k2 g2 n1 n2 a1 a2 a3 a4=>?_,hs.kept.trans ev.keeps,hs.shape.trans ev.shape,fun k x hk=>ev.sg _ _ (hs.sg0 k x hk)⟩,?_⟩
  · have hbg:b≠g:=by
      rintro rfl;rcases hn0 with q | q
      · omega
      · exact b2 q
    rw[setRow_other w g b _ hbg];exact hs.block b b1 b2
  · by_cases e1:k2=key
    · subst e1
      rw[upd_same] at hk2;cases hk2;exact⟨hsz,some g,_,upd_same ..,hn0,cur',hg'⟩
    · rw[upd_ne _ _ e1] at hk2
      by_cases e2:k2=k
      · subst e2;rw[upd_same] at hk2;cases hk2
      · rw[upd_ne _ _ e2] at hk2
        refine (hs.hp k2 hb2 hk2).evo ev fun g2 n2 hg2=>setRow_other w g g2 _ fun e3=>e2 ?_;subst e3;exact hs.inj k2 k g2 n2 _ (by rw[hk2];simp) (by rw[hk];simp) hg2 hσ
  · have fx:∀q,q≠key->upd (upd h k none) key (some (.tail e sz')) q≠none->h q≠none/\q≠k:=by
      intro q hq1 hq;rw[upd_ne _ _ hq1] at hq;by_cases e:q=k
      · subst e;rw[upd_same] at hq;exact absurd rfl hq
      · rw[upd_ne _ _ e] at hq;exact⟨hq,e⟩
    by_cases e1:k1=key
    · by_cases e2:k2=key
      · rw[e1,e2]
      · subst e1
        rw[upd_same] at a3;rw[upd_ne _ _ e2] at a4;simp only[Option.some.injEq,Prod.mk.injEq] at a3;obtain⟨rfl,rfl⟩:=a3;obtain⟨q1,q2⟩:=fx k2 e2 a2;exact absurd (hs.inj k2 k g n2 _ q1 (by rw[hk];simp) a4 hσ) q2
    · rw[upd_ne _ _ e1] at a3
      obtain⟨p1,p2⟩:=fx k1 e1 a1;by_cases e2:k2=key
      · subst e2
        rw[upd_same] at a4;simp only[Option.some.injEq,Prod.mk.injEq] at a4;obtain⟨rfl,rfl⟩:=a4;exact absurd (hs.inj k1 k g n1 _ p1 (by rw[hk];simp) a3 hσ) p2
      · rw[upd_ne _ _ e2] at a4
        obtain⟨q1,q2⟩:=fx k2 e2 a2;exact hs.inj k1 k2 g2 n1 n2 p1 q1 a3 a4
  · unfold PRep DRep
    refine⟨hsz,.inr ⟨g,cap,cur',_,upd_same ..,rfl,by rw[length_append];exact hcap,hmax,hg',by rw[hsize];exact hcs,?_⟩⟩;rw[rowsAt_iff];have hall:CsRep (fz c σ h w) w (l++m).flatten (us++vs):=by rw[flatten_append];exact hus.append hvs
    refine⟨hl,csAt_of_values (CsRep.keeps ev.keeps _ _ hall) (fun j u hu=>?_) (fun j hj=>?_)⟩
    · rw[zero_add,cell_of_row _ _ _ _ _ _ hg',<- Array.getElem?_toList,hcur']
      rw[List.getElem?_append_left (List.getElem?_eq_some_iff.1 hu).1];exact hu
    · rw[zero_add]
      rw[flatten_len hl] at hj;refine .inr ⟨hn0,by simpa [World.setRow] using hgs,fun k2 n2 hb2 hk2 hσ2=>?_⟩;by_cases e1:k2=key
      · subst e1
        rw[upd_same] at hk2 hσ2;cases hk2;simp only[Option.some.injEq,Prod.mk.injEq] at hσ2;show j<n2*sz';rw[<- hσ2.2];exact hj
      · rw[upd_ne _ _ e1] at hk2 hσ2
        by_cases e2:k2=k
        · subst e2;rw[upd_same] at hk2;cases hk2
        · rw[upd_ne _ _ e2] at hk2
          exact absurd (hs.inj k2 k g n2 _ (by rw[hk2];simp) (by rw[hk];simp) hσ2 hσ) e2
end
theorem maxLen_val:maxLen=9223372036854775807:=by unfold maxLen;rfl
theorem buildSliceP_out {P:Program} {o:Oper} {e:Operand->PV} {h:Hp} {t:TypeId} {n:Nat} {parts:Array (Nat×Operand)} {K:OpK} {X:Value->Hp->Prop} (ho:o.op=.buildSlice t n parts)
    {key:Nat} (hv:buildSliceP P key t n parts.toList e K):Outc P o e h K X:=by
  unfold buildSliceP at hv;obtain⟨el,i,hu,hi,hv⟩:=tySlice_out hv;split at hv
  · exact hv.elim
  · rename_i sz hsz'
    have hsz:i.size=sz+1:=hsz';clear hsz';split at hv
    · rename_i e1 e2 e3
      have e1:=eq_of_beq_eq_true e1;have e2:=le_of_ble_eq_true e2;obtain⟨z,hz⟩:=isSome_iff_exists.1 e3;obtain⟨rs,hk,hlen,hrows,hr⟩:=rowsOf_out hv;have hk:(K (.d (.app key el (sz+1) rs)) [(key,some (.tail el (sz+1)))] [])\/(n=0/\K (.d .emp) [(key,some (.tail el (sz+1)))] []):=by
        cases n with
        | zero=>
          rcases hk with hk | hk
          · exact .inl hk
          · exact .inr ⟨rfl,hk⟩
        | succ n=>exact .inl hk
      have main:∀v:PV,(∀(σ:Sg) (F:Fzn) (w:World) (g:Nat),PRep σ F w (.d (.app key el (sz+1) rs)) (.slice (some ⟨g,0,none⟩) rs.length n)->PRep σ F w v (.slice (some ⟨g,0,none⟩) rs.length n))->SemStep P o e v [(key,some (.tail el (sz+1)))] []:=?main
      case main=>
       intro v hv2;intro c σ h' a w hc hs hx hrf hfr next Q KK
       have h0:σ key=none:=hfr key (by simp[Dl.keys]) (by simp);obtain⟨us,g1,g2,g3⟩:=hr σ (fz c σ h' w) w a.eval (fun p hp=>hx p.2 (by
         simp only[ho,Op.operands];simp only[Array.mem_def,mem_map];exact⟨p,hp,rfl⟩))
       have hn:n<=maxLen:=by
         rw[maxLen_val];have:n<=n*(sz+1):=le_mul_of_pos_right _ (by omega);omega
       have hrun:(execOp a.eval o).run P w=.ok (.value (.slice (some ⟨w.heap.size,0,none⟩) rs.length n)) (w.alloc (.cells us.toArray el)):=by
         have hrl:rs.length=n:=by omega
         rw[hrl];by_cases hn0:n=0
         · subst hn0
           have:us=[]:=eq_nil_of_length_eq_zero (by rw[g1,hrl,zero_mul]);subst this;have hp0:parts.toList=[]:=eq_nil_of_length_eq_zero e1;have hp1:parts=#[]:=by apply Array.toList_inj.1;rw[hp0]
           subst hp1;simp[execOp,ho,Instr.buildSlice,run_underlying hu,sizeOf,typeInfo,hi,Instr.fill,newRow];exact congrArg (fun x=>w.alloc (.cells x el)) (Array.eq_empty_of_size_eq_zero (by simp))
         · have hb:=run_buildSlice (P:=P) w t el n (parts.map fun (i,x)=>(i,a.eval x)) us.toArray i z hu hi hz (by rw[hsz];omega) (by
             rw[hsz];intro e;rcases Nat.mul_eq_zero.1 e with e | e<;>omega) (by
             rw[hsz];obtain⟨A,hA⟩:∃A,(Array.range (n*(sz+1))).map (z.cells[· % z.cells.size]!)=A:=⟨_,rfl⟩;have hAs:A.toList.length=n*(sz+1):=by rw[<- hA];simp
             have:=g3 [] A.toList (by simp) (by rw[hAs,e1];exact Nat.le_refl _);simp only[nil_append,Array.toArray_toList] at this;rw[hA,Array.toList_map];refine this.trans ?_;rw[List.drop_eq_nil_of_le (by rw[hAs,e1];exact Nat.le_refl _),List.append_nil])
           simp only[execOp,ho,Sem.run_bind,hb,Result.andThen_ok];rfl
       unfold Oper.wp;rw[hrun];obtain⟨a1,a2,a3⟩:=new_tail (e:=el) (cap:=n) (cs:=us.toArray) hs h0 (Nat.succ_pos sz) hrows g2 (by omega) hn (by rw[size_toArray,g1,show rs.length=n by omega]) (by rw[<- g1];simp);refine KK _ _ _ a1 a2 (hv2 _ _ _ _ a3) ?_;intro k hk' hn';rw[upd_ne _ _ (by simpa [Dl.keys] using hk')];exact hn'
      rcases hk with hk | ⟨hn0,hk⟩
      · exact .inl ⟨_,_,[],hk,by simp,main _ fun _ _ _ _ h=>h⟩
      · refine .inl ⟨_,_,[],hk,by simp,main _ fun σ F w g h=>?_⟩
        have hr0:rs=[]:=eq_nil_of_length_eq_zero (by omega);subst hr0 hn0;unfold PRep DRep;exact⟨_,rfl⟩
    · exact hv.elim
theorem new_darr1 {c:Ctx} {σ:Sg} {h:Hp} {w:World} (hs:SW c σ h w) {key:Nat} (h0:σ key=none) {e cap:Nat} {cs:Array Value} {x:D} {u:Value} (hx:DRep σ (fz c σ h w) w x u) (hc1:1<=cap) (hc2:cap<=maxLen) (hcs:cs.size=cap) (ht:cs.toList.take 1=[u]) :
    ∃σ',Evo σ σ' (fz c σ h w) (fz c σ' (upd h key (some (.darr e 1 [[x]]))) (w.alloc (.cells cs e))) w (w.alloc (.cells cs e))/\SW c σ' (upd h key (some (.darr e 1 [[x]]))) (w.alloc (.cells cs e))/\
      PRep σ' (fz c σ' (upd h key (some (.darr e 1 [[x]]))) (w.alloc (.cells cs e))) (w.alloc (.cells cs e)) (.d (.arr key e 1 0 1)) (.slice (some ⟨w.heap.size,0,none⟩) 1 cap)/\∀k,k≠key->σ k=none->σ' k=none:=by
  have ev:=evo_new hs h0 (.cells cs e) 0 (.darr e 1 [[x]]);have hnew:(w.alloc (.cells cs e)).heap[w.heap.size]? = some (.cells cs e (0,0)):=heap_alloc_new w _;refine⟨_,ev,sw_new hs h0 _ 0 _ ⟨by decide,by simp,some w.heap.size,0,upd_same ..,.inl hs.size,_,hnew,?_,?_⟩,?_,fun k hk hn=>by rw[upd_ne _ _ hk];exact hn⟩
  · show 1*1<=_;omega
  · show DsRep _ _ _ [x] (cs.toList.take 1)
    rw[ht];exact dsRep_cons (DRep.evo ev _ _ hx) dsRep_nil
  · unfold PRep DRep
    exact⟨by decide,.inr ⟨w.heap.size,0,0,cap,_,_,upd_same ..,rfl,hc1,hc2,hnew,by omega,fun _=>rfl⟩⟩
theorem new_darrN {c:Ctx} {σ:Sg} {h:Hp} {w:World} (hs:SW c σ h w) {key:Nat} (h0:σ key=none) {e sz n:Nat} {us:List Value} {rows:List (List D)} (hz:0<sz) (hrl:∀r∈rows,r.length=sz) (hn:rows.length=n) (hm:n<=maxLen) (hul:us.length=n*sz) (hx:DsRep σ (fz c σ h w) w rows.flatten us) :
    ∃σ',Evo σ σ' (fz c σ h w) (fz c σ' (upd h key (some (.darr e sz rows))) (w.alloc (.cells us.toArray e))) w (w.alloc (.cells us.toArray e))/\SW c σ' (upd h key (some (.darr e sz rows))) (w.alloc (.cells us.toArray e))/\
      PRep σ' (fz c σ' (upd h key (some (.darr e sz rows))) (w.alloc (.cells us.toArray e))) (w.alloc (.cells us.toArray e)) (.d (.arr key e sz 0 n)) (.slice (some ⟨w.heap.size,0,none⟩) n n)/\∀k,k≠key->σ k=none->σ' k=none:=by
  have ev:=evo_new hs h0 (.cells us.toArray e) 0 (.darr e sz rows);have hnew:(w.alloc (.cells us.toArray e)).heap[w.heap.size]? = some (.cells us.toArray e (0,0)):=heap_alloc_new w _;refine⟨_,ev,sw_new hs h0 _ 0 _ ⟨hz,hrl,some w.heap.size,0,upd_same ..,.inl hs.size,_,hnew,?_,?_⟩,?_,fun k hk hn=>by rw[upd_ne _ _ hk];exact hn⟩
  · rw[hn,size_toArray,hul];exact Nat.le_refl _
  · rw[hn,<- hul,take_of_length_le (Nat.le_refl _)]
    exact DsRep.evo ev _ _ hx
  · unfold PRep DRep
    exact⟨hz,.inr ⟨w.heap.size,0,0,n,_,_,upd_same ..,rfl,Nat.le_refl _,hm,hnew,by rw[zero_add,size_toArray,hul];exact Nat.le_refl _,fun _=>by rw[zero_mul]⟩⟩
theorem buildArrP_out {P:Program} {o:Oper} {e:Operand->PV} {h:Hp} {t:TypeId} {n:Nat} {parts:Array (Nat×Operand)} {K:OpK} {X:Value->Hp->Prop} (ho:o.op=.buildSlice t n parts)
    {key:Nat} (hv:buildArrP P key t n parts.toList e K):Outc P o e h K X:=by
  unfold buildArrP at hv;obtain⟨el,i,hu,hi,hv⟩:=tySlice_out hv;split at hv
  · exact hv.elim
  · rename_i sz hsz'
    have hsz:i.size=sz+1:=hsz';clear hsz';split at hv
    · rename_i e1 e2 e3
      simp only[Bool.and_eq_true] at e1;have e0:=le_of_ble_eq_true e1.2;have e1:=eq_of_beq_eq_true e1.1;have e2:=le_of_ble_eq_true e2;obtain⟨z,hz⟩:=isSome_iff_exists.1 e3;obtain⟨rs,hk,hlen,hrows,hr⟩:=rowsD_out hv;refine .inl ⟨_,_,[],hk,by simp,?_⟩;intro c σ h' a w hc hs hx hrf hfr next Q KK
      have h0:σ key=none:=hfr key (by simp[Dl.keys]) (by simp);obtain⟨us,g1,g2,g3⟩:=hr σ (fz c σ h' w) w a.eval (fun p hp=>hx p.2 (by
        simp only[ho,Op.operands];simp only[Array.mem_def,mem_map];exact⟨p,hp,rfl⟩))
      have hn:n<=maxLen:=by
        rw[maxLen_val];have:n<=n*(sz+1):=le_mul_of_pos_right _ (by omega);omega
      have hrl:rs.length=n:=by omega
      have hrun:(execOp a.eval o).run P w=.ok (.value (.slice (some ⟨w.heap.size,0,none⟩) n n)) (w.alloc (.cells us.toArray el)):=by
        have hb:=run_buildSlice (P:=P) w t el n (parts.map fun (i,x)=>(i,a.eval x)) us.toArray i z hu hi hz (by rw[hsz];omega) (by
          rw[hsz];intro e;rcases Nat.mul_eq_zero.1 e with e | e<;>omega) (by
          rw[hsz];obtain⟨A,hA⟩:∃A,(Array.range (n*(sz+1))).map (z.cells[· % z.cells.size]!)=A:=⟨_,rfl⟩;have hAs:A.toList.length=n*(sz+1):=by rw[<- hA];simp
          have:=g3 [] A.toList (by simp) (by rw[hAs,e1];exact Nat.le_refl _);simp only[nil_append,Array.toArray_toList] at this;rw[hA,Array.toList_map];refine this.trans ?_;rw[List.drop_eq_nil_of_le (by rw[hAs,e1];exact Nat.le_refl _),List.append_nil])
        simp only[execOp,ho,Sem.run_bind,hb,Result.andThen_ok];rfl
      unfold Oper.wp;rw[hrun];obtain⟨σ',a1,a2,a3,a4⟩:=new_darrN (e:=el) hs h0 (Nat.succ_pos sz) hrows hrl hn (by rw[g1,hrl]) g2;exact KK _ σ' _ a1 a2 a3 fun k hk hn=>a4 k (by simpa [Dl.keys] using hk) hn
    · exact hv.elim
theorem buildSliceP0_out {P:Program} {o:Oper} {e:Operand->PV} {h:Hp} {t:TypeId} {n:Nat} {parts:Array (Nat×Operand)} {K:OpK} {X:Value->Hp->Prop} (ho:o.op=.buildSlice t n parts)
    {key:Nat} (hv:buildSliceP0 P key t n parts.toList e K):Outc P o e h K X:=by
  unfold buildSliceP0 at hv;split at hv
  · rename_i x hp
    split at hv
    · rename_i k q hx
      unfold buildPtrP at hv;obtain⟨el,i,hu,hi,hv2⟩:=tySlice_out hv;clear hv;have hv:=hv2;clear hv2;split at hv
      · rename_i e1 e2 e3
        have e1:=eq_of_beq_eq_true e1;obtain rfl:=eq_of_beq_eq_true e2;obtain⟨z,hz⟩:=isSome_iff_exists.1 e3;have hp1:parts=#[(0,x)]:=by apply Array.toList_inj.1;rw[hp]
        subst hp1;refine .inl ⟨_,_,[],hv,by simp,?_⟩;intro c σ h' a w hc hs hx' hrf hfr next Q KK
        have h0:σ key=none:=hfr key (by simp[Dl.keys]) (by simp);have hpx:=hx' x (by simp[ho,Op.operands]);rw[hx] at hpx;unfold PRep at hpx;have h1:=oneCell_of_drep hpx;have hcl:(a.eval x).cells=#[a.eval x]:=by
          generalize a.eval x=u at h1;cases u<;>first|rfl|cases h1
        have hb:=run_buildSlice (P:=P) w t el 1 #[(0,a.eval x)] #[a.eval x] i z hu hi hz (by rw[e1];decide) (by rw[e1];decide) (by
          rw[e1];simp[Instr.fill,hcl];apply Array.ext
          · simp
          · intro j h1 h2
            have:j=0:=by simpa using h2
            subst this;simp)
        have hrun:(execOp a.eval o).run P w=.ok (.value (.slice (some ⟨w.heap.size,0,none⟩) 1 1)) (w.alloc (.cells #[a.eval x] el)):=by
          simp only[execOp,ho,Sem.run_bind,show (#[(0,x)]:Array (Nat×Operand)).map (fun (i,x)=>(i,a.eval x))=#[(0,a.eval x)] by simp,hb,Result.andThen_ok];rfl
        unfold Oper.wp;rw[hrun];obtain⟨σ',a1,a2,a3,a4⟩:=new_darr1 (e:=el) (cap:=1) (cs:=#[a.eval x]) hs h0 hpx (Nat.le_refl _) (by rw[maxLen_val];omega) rfl rfl;exact KK _ _ _ a1 a2 a3 fun k hk hn=>a4 k (by simpa [Dl.keys] using hk) hn
      · exact hv.elim
    · rw[<- hp] at hv;exact buildArrP_out ho hv
    · rw[<- hp] at hv
      rcases hv with hv | hv
      · exact buildSliceP_out ho hv
      · exact buildArrP_out ho hv
  · rename_i hp
    rw[<- hp] at hv;exact buildSliceP_out ho hv
  · rcases hv with hv | hv
    · exact buildSliceP_out ho hv
    · exact buildArrP_out ho hv
end Go.Proofs.Ytdjbckknghddpaa.Pm
end
