/- Parts of the proof, one behind the other: PtBulk PtNst PtNst2 PtNst3 PtNst4 PtNst5 PtLaws6 PtLaws7. Conditions: none beyond what each theorem says. -/
import Derived.Test.YtdjbckknghddpaaZ8
open List (append_assoc cons_ne_nil drop_drop drop_of_length_le eq_nil_of_length_eq_zero flatMap_append flatMap_cons flatten_cons length_append length_cons length_drop length_eq_one_iff length_filter_le length_map length_nil length_pos_iff length_singleton length_take map_append map_congr_left map_cons map_drop map_map map_nil map_take mem_append_left mem_append_right mem_cons mem_cons_of_mem mem_cons_self mem_flatMap mem_flatten mem_map mem_singleton nil_append sum_append sum_cons sum_singleton take_append_drop take_nil take_of_length_le take_succ_cons)
open Nat (le_trans lt_succ_self min_eq_left mul_one zero_le zero_lt_succ)
open Int (toNat_natCast)
open Option (map_some)
set_option linter.unusedVariables false
set_option linter.unusedSimpArgs false
set_option maxRecDepth 100000
namespace Go.Proofs.Ytdjbckknghddpaa.Pm
section
open Go.ChangeShapes Go.WideShapes Go.ChangeAt Go.RowKit K
open Tr
theorem bulk_mem {H:Type}:∀{ds:List (DataW H)} {d:DataW H},d∈ds->Rows.uptoBulk d<=Rows.uptoBulkAll ds
 | [],d,h=>by cases h
 | x::ds,d,h=>by
  simp only[Rows.uptoBulkAll];rcases mem_cons.1 h with rfl | h
  ·omega
  ·have:=bulk_mem h;omega
section
variable {P:Program} {H:Type} {enc:TypeId×Value->H} {w:World} {spare:Nat->Bool} {held:Bool} {F:Fzn}
theorem sl_bulk {t e:TypeId} (hu:P.underlying t=some (.slice e)) {fuel sz:Nat} {u:Value} {x:DataW H×List MemPlace} {rows:List (List C)} (hf:DataW.trod enc P w 0 spare held fuel t [u]=some x) (R:CRep F w (.sl sz rows) u):rows.length<=Rows.uptoBulk x.1:=by
 unfold CRep at R;obtain⟨ad,cap,e1,_⟩:=R;rw[e1] at hf;rcases DataW.trod_slice hu hf with ⟨hcs,hx⟩ | ⟨a,len,cap',elems,rest,n,_,hcs,hx,hb',hlc,hm,hlen,_⟩
 ·have:=(List.cons.inj hcs).1;injection this with _ h2 _
  omega
 ·have:=(List.cons.inj hcs).1;injection this with _ h2 _
  have h3:=bulk_len (elems.map (·.1));rw[hx];simp only[Rows.uptoBulk];rw[length_map] at h3;omega
theorem sl2_bulk {t e e2:TypeId} (hu:P.underlying t=some (.slice e)) (hu2:P.underlying e=some (.slice e2)) (hc:P.cellsOf e=1) {fuel sz2:Nat} {u:Value} {x:DataW H×List MemPlace} {rows:List (List C)} (hf:DataW.trod enc P w 0 spare held fuel t [u]=some x) (R:CRep F w (.sl 1 rows) u)
  {i:Nat} {rs:List (List C)} (hr:rows[i]? = some [.sl sz2 rs]) (hone:∀r∈rows,r.length=1):rs.length<=Rows.uptoBulk x.1:=by
 unfold CRep at R;obtain⟨ad,cap,e1,_,_,_,R⟩:=R;rw[e1] at hf;have hil:i<rows.length:=(List.getElem?_eq_some_iff.1 hr).1;rcases DataW.trod_slice hu hf with ⟨hcs,hx⟩ | ⟨a,len,cap',elems,rest,n,_,hcs,hx,hb',hlc,hm,hlen,hel,_⟩
 ·have:=(List.cons.inj hcs).1;injection this with _ h2 _
  omega
 ·have:=(List.cons.inj hcs).1;injection this with h1 h2 _
  rcases R with rfl | ⟨b,off,h3,h4⟩
  ·simp at hil
  ·have h5:a=⟨b,off,none⟩:=by rw[h1] at h3;exact Option.some.inj h3
   subst h5;obtain⟨_,h6⟩:=rowsAt_iff.1 h4;obtain⟨us,u1,u2,u3⟩:=csAt_values h6;have hfl:rows.flatten[i]? = some (.sl sz2 rs):=by
    have key:∀(rows:List (List C)) (i:Nat) (c:C),(∀r∈rows,r.length=1)->rows[i]? = some [c]->rows.flatten[i]? = some c:=by
     intro rows;induction rows with
     | nil=>intro i c _ h;cases h
     | cons r rows ih=>
      intro i c ho h;obtain⟨c0,rfl⟩:∃c0,r=[c0]:=length_eq_one_iff.1 (ho r mem_cons_self);cases i with
      | zero=>simp at h;subst h;rfl
      | succ i=>exact ih i c (fun r hr=>ho r (mem_cons_of_mem _ hr)) h
    exact key rows i _ hone hr
   obtain⟨v,q1,q2⟩:=u1.get hfl;have hcell:=u2 i v q1;have hli:i<len:=by omega
   have he:=hel i hli;rw[hc,mul_one,show (⟨b,off,none⟩:Addr).add i=⟨b,off+i,none⟩ by simp[Addr.add],cells?_one (zero_le _) hcell] at he;rw[List.getElem?_eq_getElem (by omega)] at he;have he:DataW.trod enc P w 0 spare held n e [v]=some elems[i]:=he;have h7:=sl_bulk hu2 he q2;have h8:=bulk_mem (ds:=elems.map (·.1)) (mem_map.2 ⟨elems[i],List.getElem_mem _,rfl⟩);rw[hx];simp only[Rows.uptoBulk];omega
theorem field_bulk {t:TypeId} (ht:P.underlying t=some (.struct (P.fieldsOf t))) {fuel:Nat} {cs:List Value} {x:DataW H×List MemPlace} (h:DataW.trod enc P w 0 spare held fuel t cs=some x) (j:Nat) (tj off sz:Nat) (hj:((P.fieldsOf t)[j]?).map (fun f=>(f.type,f.offset))=some (tj,off)) (hsz:P.cellsOf tj=sz) :
  ∃(fuel':Nat) (y:DataW H×List MemPlace),DataW.trod enc P w 0 spare held fuel' tj ((cs.drop off).take sz)=some y/\Rows.uptoBulk y.1<=Rows.uptoBulk x.1:=by
 obtain⟨xs,n,_,hx,_,hxl,hf⟩:=DataW.trod_struct ht h;cases hfj:(P.fieldsOf t)[j]? with
 | none=>rw[hfj] at hj;simp at hj
 | some f=>
  rw[hfj] at hj;simp only[map_some,Option.some.injEq,Prod.mk.injEq] at hj;obtain⟨rfl,rfl⟩:=hj;have hjl:j<(P.fieldsOf t).size:=(Array.getElem?_eq_some_iff.1 hfj).1;have hxs:xs[j]? = some (xs[j]'(by omega)):=List.getElem?_eq_getElem (by omega);have h1:=hf j f hfj;rw[hxs,hsz] at h1;refine⟨n,_,h1,?_⟩;have h8:=bulk_mem (ds:=xs.map (·.1)) (mem_map.2 ⟨xs[j]'(by omega),List.getElem_mem _,rfl⟩);rw[hx];simp only[Rows.uptoBulk];omega
end
theorem tree_bulk {H:Type} {enc:TypeId×Value->H} {w:World} {spare:Nat->Bool} {held:Bool} {v:Value} {d:DataW H} {ps:List MemPlace} (h:DataW.Trod enc Try.prog w 0 spare held 25 v d ps) {F:Fzn} {t:TreeD} (R:CsRep F w t.c v.cells.toList) {N:Nat} (hb:Rows.uptoBulk d<=N) :
  t.Leaves.length<=N/\∀l∈t.Leaves,l.length<=N:=by
 obtain⟨fuel,hf⟩:=h;obtain⟨u,us,e0,r1,r2⟩:=csRep_inv R;have ht:Try.prog.underlying 25=some (.struct (Try.prog.fieldsOf 25)):=by kernel_rfl
 obtain⟨f2,y,h1,h2⟩:=field_bulk ht hf 0 22 0 1 (by kernel_rfl) (by kernel_rfl);have h2:Rows.uptoBulk y.1<=Rows.uptoBulk d:=h2;rw[e0] at h1;have h1:DataW.trod enc Try.prog w 0 spare held f2 22 [u]=some y:=h1;have r1:CRep F w (.sl 1 (lvC t.Leaves)) u:=r1;have hLl:(lvC t.Leaves).length=t.Leaves.length:=length_map _;refine⟨by have:=sl_bulk Try.underlying22 h1 r1;omega,fun l hl=>?_⟩;obtain⟨i,hi,rfl⟩:=List.getElem_of_mem hl;have hr:(lvC t.Leaves)[i]? = some [.sl 2 (t.Leaves[i].map PairD.c)]:=by unfold lvC;rw[List.getElem?_map,List.getElem?_eq_getElem hi];rfl
 have:=sl2_bulk Try.underlying22 Try.underlying44 (by kernel_rfl) h1 r1 hr (fun r hr=>by unfold lvC at hr;obtain⟨l,_,rfl⟩:=mem_map.1 hr;rfl);rw[length_map] at this;omega
end
section
open Go.RowKit K
open Tr
def CSub (c c':C):Prop:=∀(F:Fzn) (w:World) (u:Value),CRep F w c' u->CRep F w c u
inductive RSub:List C->List C->Prop
 | nil:RSub [] []
 | cons {c c':C} {r r':List C}:CSub c c'->RSub r r'->RSub (c::r) (c'::r')
inductive RsSub:List (List C)->List (List C)->Prop
 | nil:RsSub [] []
 | cons {r r':List C} {l l':List (List C)}:RSub r r'->RsSub l l'->RsSub (r::l) (r'::l')
theorem CSub.refl (c:C):CSub c c:=fun _ _ _ h=>h
theorem RSub.len {r r':List C} (h:RSub r r'):r.length=r'.length:=by
 induction h with
 | nil=>rfl
 | cons _ _ ih=>rw[length_cons,length_cons,ih]
theorem RsSub.len {r r':List (List C)} (h:RsSub r r'):r.length=r'.length:=by
 induction h with
 | nil=>rfl
 | cons _ _ ih=>rw[length_cons,length_cons,ih]
theorem RSub.app {a a' b b':List C} (h:RSub a a') (k:RSub b b'):RSub (a++b) (a'++b'):=by
 induction h with
 | nil=>exact k
 | cons h1 _ ih=>exact .cons h1 ih
theorem RsSub.flat {l l':List (List C)} (h:RsSub l l'):RSub l.flatten l'.flatten:=by
 induction h with
 | nil=>exact .nil
 | cons h1 _ ih=>rw[flatten_cons,flatten_cons];exact h1.app ih
theorem RsSub.sizes {l l':List (List C)} {n:Nat} (h:RsSub l l'):(∀r∈l',r.length=n)->∀r∈l,r.length=n:=by
 induction h with
 | nil=>exact fun h=>h
 | cons h1 _ ih=>
  intro hn r hr;rcases mem_cons.1 hr with rfl | hr
  ·rw[h1.len];exact hn _ mem_cons_self
  ·exact ih (fun r hr=>hn r (mem_cons_of_mem _ hr)) r hr
theorem csAt_sub {F:Fzn} {w:World} {b:Nat} {l l':List C} (h:RSub l l'):∀{off:Nat},CsAt F w b off l'->CsAt F w b off l:=by
 induction h with
 | nil=>exact fun h=>h
 | cons h1 _ ih=>
  intro off k;unfold CsAt at k ⊢;obtain⟨⟨k1,u,k2,k3⟩,k4⟩:=k;exact⟨⟨k1,u,k2,h1 _ _ _ k3⟩,ih k4⟩
theorem CSub.sl {sz:Nat} {l l':List (List C)} (h:RsSub l l'):CSub (.sl sz l) (.sl sz l'):=fun F w u k=>by
 unfold CRep at k ⊢;obtain⟨a,cap,rfl,k2,k3,k4,k5⟩:=k;refine⟨a,cap,by rw[h.len],by rw[h.len];exact k2,k3,k4,?_⟩;rcases k5 with k5 | ⟨b,off,k6,k7⟩
 ·left;have:=h.len;rw[k5] at this;exact eq_nil_of_length_eq_zero this
 ·refine .inr ⟨b,off,k6,?_⟩;rw[rowsAt_iff] at k7 ⊢;exact⟨h.sizes k7.1,csAt_sub h.flat k7.2⟩
theorem CSub.nil (sz:Nat):CSub (.sl sz []) (.v (.slice none 0 0)):=fun F w u k=>by
 unfold CRep at k ⊢;obtain⟨rfl,_⟩:=k;exact⟨none,0,rfl,Nat.le_refl _,zero_le _,fun _=>rfl,.inl rfl⟩
def PSub (x y:PV):Prop:=∀(σ:Sg) (F:Fzn) (w:World) (u:Value),PRep σ F w y u->PRep σ F w x u
theorem PSub.c {c c':C} (h:CSub c c'):PSub (.d (.c c)) (.d (.c c')):=fun σ F w u k=>by
 unfold PRep DRep at k ⊢;exact h _ _ _ k
theorem dsRep_sub {σ:Sg} {F:Fzn} {w:World} {r r':List C} (h:RSub r r'):∀{us:List Value},DsRep σ F w (r'.map D.c) us->DsRep σ F w (r.map D.c) us:=by
 induction h with
 | nil=>exact fun h=>h
 | cons h1 _ ih=>
  intro us k;rw[map_cons] at k ⊢;obtain⟨u,vs,rfl,k1,k2⟩:=dsRep_inv k;refine dsRep_cons ?_ (ih k2);unfold DRep at k1 ⊢;exact h1 _ _ _ k1
theorem PSub.agg {r r':List C} (h:RSub r r'):PSub (.agg (r.map D.c)) (.agg (r'.map D.c)):=fun σ F w u k=>by
 unfold PRep at k ⊢;obtain⟨xs,rfl,k⟩:=k;exact⟨xs,rfl,dsRep_sub h k⟩
inductive PsSub:List PV->List PV->Prop
 | nil:PsSub [] []
 | cons {x y:PV} {l m:List PV}:PSub x y->PsSub l m->PsSub (x::l) (y::m)
theorem psRep_sub {σ:Sg} {F:Fzn} {w:World} {l m:List PV} (h:PsSub l m):∀{us:List Value},PsRep σ F w m us->PsRep σ F w l us:=by
 induction h with
 | nil=>exact fun h=>h
 | cons h1 _ ih=>
  intro us k;cases us with
  | nil=>unfold PsRep at k;exact k.elim
  | cons u us=>
   unfold PsRep at k ⊢;exact⟨h1 _ _ _ _ k.1,ih k.2⟩
theorem Pure.sub {P:Program} {f:FuncId} {args args':List PV} {res:PV} (h:Pure P f args res) (ha:PsSub args args'):Pure P f args' res:=
 ⟨h.1,fun F w vs hG hF hargs=>h.2 F w vs hG hF (psRep_sub ha hargs)⟩
theorem Pure.res {P:Program} {f:FuncId} {args:List PV} {res res':PV} (h:Pure P f args res') (hr:PSub res res'):Pure P f args res:=
 ⟨h.1,fun F w vs hG hF hargs=>(h.2 F w vs hG hF hargs).mono fun e w' ⟨v,h1,h2,h3⟩=>⟨v,h1,h2,hr _ _ _ _ h3⟩⟩
mutual
def nestC:Nest->List C
 | .leaf ps=>[.sl 2 (ps.map PairD.c),.sl 2 []]
 | .node ks=>[.sl 2 [],.sl 2 (nestCs ks)]
def nestCs:List Nest->List (List C)
 | []=>[]
 | k::ks=>nestC k::nestCs ks
end
theorem nestCs_map:∀ks:List Nest,nestCs ks=ks.map nestC
 | []=>by unfold nestCs;rfl
 | k::ks=>by unfold nestCs;rw[nestCs_map ks,map_cons]
abbrev nsV (n:Nest):PV:=.agg ((nestC n).map D.c)
abbrev nssV (ks:List Nest):PV:=.d (.c (.sl 2 (ks.map nestC)))
theorem nestC_eq (n:Nest):nestC n=[.sl 2 (n.pairs.map PairD.c),.sl 2 (n.kids.map nestC)]:=by
 cases n with
 | leaf ps=>unfold nestC;rfl
 | node ks=>unfold nestC;rw[nestCs_map];rfl
theorem p_nsize (n:Nest) (h1:n.pairs.length<=70368744177664) (h2:n.kids.length<=70368744177664):Pure Try.prog 33 [nsV n] (pInt .i64 n.size):=by
 have hs:n.size=n.pairs.length+n.kids.length:=by
  cases n with
  | leaf ps=>rfl
  | node ks=>show ks.length=0+ks.length;omega
 have g1:(n.pairs.map PairD.c).length=n.pairs.length:=length_map _;have g2:(n.kids.map nestC).length=n.kids.length:=length_map _;rw[show nsV n=.agg [.c (.sl 2 (n.pairs.map PairD.c)),.c (.sl 2 (n.kids.map nestC))] by unfold nsV;rw[nestC_eq];rfl];refine pure_of Try.func33 (by rfl) rfl (by kernel_rfl) (by rfl) ?_;((conv=>whnf);repeat' ((first|(with_reducible first|apply a_|apply b_|apply c_)|((with_reducible first|apply d_|apply e_|apply f_|apply g_);focus first|omega|(simp only[q_]<;>omega))|((with_reducible first|apply i_|apply h_);focus first|omega|(simp only[q_]<;>omega))|((with_reducible apply h_);focus first|decide|kernel_rfl)|refine s_ (by decide) ?_|refine t_ (by decide) ?_|with_reducible first|apply l_|apply m_|apply n_|apply o_|refine p_ (fun _=>?_) (fun _=>?_))<;>(conv=>whnf)));all_goals first|exact Ret.int (by omega) | (exfalso;omega) | skip
def fullN:Nat->Nest->Prop
 | 0,n=>n.pairs≠[]/\n.pairs.length<=1000/\∀p∈n.pairs,okText p.Key
 | h+1,n=>n.kids≠[]/\n.kids.length<=1000/\∀k∈n.kids,fullN h k
theorem p_nfirst (h:Nat) (n:Nest) (ht:tall h n) (hf:fullN h n):Pure Try.prog 68 [nsV n] (pStr (tx (firstN h n))):=by
 rw[show nsV n=.agg [.c (.sl 2 (n.pairs.map PairD.c)),.c (.sl 2 (n.kids.map nestC))] by unfold nsV;rw[nestC_eq];rfl];refine pure_of Try.func68 (by rfl) rfl (by kernel_rfl) (by rfl) ?_;((conv=>whnf);repeat' ((first|(with_reducible first|apply a_|apply b_|apply c_)|((with_reducible first|apply d_|apply e_|apply f_|apply g_);focus first|omega|(simp only[q_]<;>omega))|((with_reducible first|apply i_|apply h_);focus first|omega|(simp only[q_]<;>omega))|((with_reducible apply h_);focus first|decide|kernel_rfl)|refine s_ (by decide) ?_|refine t_ (by decide) ?_|with_reducible first|apply l_|apply m_|apply n_|apply o_|refine p_ (fun _=>?_) (fun _=>?_))<;>(conv=>whnf)));refine LoopC.mk (Nat×Nest) (fun _=>[(1,.d (.ptr 1 0))]) (fun s=>[(1,.box 55 [.c (.sl 2 (s.2.pairs.map PairD.c)),.c (.sl 2 (s.2.kids.map nestC))])]) [1] (fun s=>tall s.1 s.2/\fullN s.1 s.2/\firstN s.1 s.2=firstN h n) (fun s=>s.1) (h,n) ⟨ht,hf,rfl⟩ ?start ?round
 case start=>exact Wk.mk [(1,1)] rfl rfl ⟨⟨rfl,rfl,rfl⟩,trivial⟩ ⟨⟨rfl,rfl,.inl rfl,.inl rfl,rfl⟩,trivial⟩
 case round=>
  rintro⟨j,m⟩ ⟨h1,h2,h3⟩;have h1:tall j m:=h1;have h2:fullN j m:=h2;have h3:firstN j m=firstN h n:=h3;have g1:(m.pairs.map PairD.c).length=m.pairs.length:=length_map _;have g2:(m.kids.map nestC).length=m.kids.length:=length_map _;cases j with
  | zero=>
   obtain⟨p,ps,hp⟩:∃p ps,m.pairs=p::ps:=by
    cases hq:m.pairs with
    | nil=>exact absurd hq h2.1
    | cons p ps=>exact⟨p,ps,rfl⟩
   have hk:m.kids=[]:=by
    cases m with
    | leaf ps=>rfl
    | node ks=>exact h1.elim
   have hfn:firstN 0 m=p.Key:=by show (m.pairs.headD ⟨[],0⟩).Key=_;rw[hp];rfl
   rw[<- h3,hfn];have hrow:(m.pairs.map PairD.c)[0]? = some p.c:=by rw[hp];rfl
   have g3:m.kids.length=0:=by rw[hk];rfl
   ((conv=>whnf);repeat' ((first|(with_reducible first|apply a_|apply b_|apply c_)|((with_reducible first|apply d_|apply e_|apply f_|apply g_);focus first|omega|(simp only[q_]<;>omega))|((with_reducible first|apply i_|apply h_);focus first|omega|(simp only[q_]<;>omega))|((with_reducible apply h_);focus first|decide|kernel_rfl)|refine s_ (by decide) ?_|refine t_ (by decide) ?_|(refine Idx.at' hrow rfl ?_)|with_reducible first|apply l_|apply m_|apply n_|apply o_|refine p_ (fun _=>?_) (fun _=>?_))<;>(conv=>whnf)));all_goals first|exact Ret.mk rfl | (exfalso;omega) | skip
  | succ j=>
   obtain⟨k,ks,hk⟩:∃k ks,m.kids=k::ks:=by
    cases hq:m.kids with
    | nil=>exact absurd hq h2.1
    | cons p ps=>exact⟨p,ps,rfl⟩
   have hrow:(m.kids.map nestC)[0]? = some [.sl 2 (k.pairs.map PairD.c),.sl 2 (k.kids.map nestC)]:=by rw[hk,<- nestC_eq];rfl
   have hkm:k∈m.kids:=by rw[hk];exact mem_cons_self
   have hfn:firstN (j+1) m=firstN j k:=by show (match m.kids with | []=>[] | k::_=>firstN j k)=_;rw[hk]
   have g3:m.kids.length=ks.length+1:=by rw[hk];rfl
   have g4:=h2.2.1;have ht':tall j k:=(tall_node h1).2.2 k hkm;((conv=>whnf);repeat' ((first|(with_reducible first|apply a_|apply b_|apply c_)|((with_reducible first|apply d_|apply e_|apply f_|apply g_);focus first|omega|(simp only[q_]<;>omega))|((with_reducible first|apply i_|apply h_);focus first|omega|(simp only[q_]<;>omega))|((with_reducible apply h_);focus first|decide|kernel_rfl)|refine s_ (by decide) ?_|refine t_ (by decide) ?_|(refine Idx.at' hrow rfl ?_)|with_reducible first|apply l_|apply m_|apply n_|apply o_|refine p_ (fun _=>?_) (fun _=>?_))<;>(conv=>whnf)));all_goals first|exact⟨(j,k),⟨ht',h2.2.2 k hkm,by rw[<- hfn];exact h3⟩,lt_succ_self _,[(1,1)],rfl,rfl,⟨⟨rfl,rfl,rfl⟩,trivial⟩,⟨⟨rfl,rfl,.inl rfl,.inl rfl,rfl⟩,trivial⟩⟩|(exfalso;omega)|skip
end
section
open Go.RowKit K
open Tr
abbrev nT2:Nat:=55
abbrev nestB (n:Nest):HB:=.box nT2 [.c (.sl 2 (n.pairs.map PairD.c)),.c (.sl 2 (n.kids.map nestC))]
theorem nsV_eq (n:Nest):nsV n=.agg [.c (.sl 2 (n.pairs.map PairD.c)),.c (.sl 2 (n.kids.map nestC))]:=by unfold nsV;rw[nestC_eq];rfl
theorem first_ok:∀(h:Nat) (n:Nest),fullN h n->okText (firstN h n)
 | 0,n,hf=>by
  show okText (n.pairs.headD ⟨[],0⟩).Key;cases hq:n.pairs with
  | nil=>exact absurd hq hf.1
  | cons p ps=>exact hf.2.2 p (by rw[hq];exact mem_cons_self)
 | h+1,n,hf=>by
  show okText (match n.kids with | []=>[] | k::_=>firstN h k);cases hq:n.kids with
  | nil=>exact absurd hq hf.1
  | cons k ks=>exact first_ok h k (hf.2.2 k (by rw[hq];exact mem_cons_self))
theorem p_nkid (h:Nat) (n:Nest) (ht:tall (h+1) n) (hf:fullN (h+1) n) (key:List UInt8) (hk:okText key):Pure Try.prog 49 [nsV n,pStr (tx key)] (pInt .i64 (kidF h n.kids key)):=by
 obtain⟨f1,f2,f3⟩:=hf;have g2:(n.kids.map nestC).length=n.kids.length:=length_map _;have g3:((n.kids.map (firstN h))).length=n.kids.length:=length_map _;have hpos:=length_pos_iff.2 f1;rw[nsV_eq];refine pure_of Try.func49 (by rfl) rfl (by kernel_rfl) (by rfl) ?_;((conv=>whnf);repeat' ((first|(with_reducible first|apply a_|apply b_|apply c_)|((with_reducible first|apply d_|apply e_|apply f_|apply g_);focus first|omega|(simp only[q_]<;>omega))|((with_reducible first|apply i_|apply h_);focus first|omega|(simp only[q_]<;>omega))|((with_reducible apply h_);focus first|decide|kernel_rfl)|refine s_ (by decide) ?_|refine t_ (by decide) ?_|with_reducible first|apply l_|apply m_|apply n_|apply o_|refine p_ (fun _=>?_) (fun _=>?_))<;>(conv=>whnf)));refine LoopC.mk (Nat×Nat) (fun s=>[(1,pStr (tx key)),(2,.d (.ptr 2 0)),(5,pInt .i64 (s.2:Int)),(6,pInt .i64 (s.1:Int))]) (fun _=>[(2,nestB n)]) [2] (fun s=>1<=s.1/\s.1<=n.kids.length/\kidF h n.kids key=kidA key ((n.kids.map (firstN h)).drop s.1) s.1 s.2) (fun s=>n.kids.length - s.1) (1,0) ⟨Nat.le_refl _,hpos,?first⟩ ?start ?round
 case first=>
  show kidA key (n.kids.map (firstN h)) 0 0=kidA key ((n.kids.map (firstN h)).drop 1) 1 0;cases hq:n.kids with
  | nil=>exact absurd hq f1
  | cons k ks=>
   rw[map_cons,kidA,if_neg (by omega)];rfl
 case start=>exact Wk.mk [(2,2)] rfl rfl ⟨.inl rfl,⟨rfl,rfl,rfl⟩,.inl rfl,.inl rfl,trivial⟩ ⟨⟨rfl,rfl,.inl rfl,.inl rfl,rfl⟩,trivial⟩
 case round=>
  rintro⟨i,a⟩ ⟨h1,h2,h3⟩;have h1:1<=i:=h1;have h2:i<=n.kids.length:=h2;have h3:kidF h n.kids key=kidA key ((n.kids.map (firstN h)).drop i) i a:=h3;by_cases hi:i<n.kids.length
  ·obtain⟨k,hke⟩:∃k,k=n.kids[i]:=⟨_,rfl⟩;have hkm:k∈n.kids:=by rw[hke];exact List.getElem_mem _
   have hrow:(n.kids.map nestC)[i]? = some [.sl 2 (k.pairs.map PairD.c),.sl 2 (k.kids.map nestC)]:=by rw[<- nestC_eq,List.getElem?_map,List.getElem?_eq_getElem hi,hke];rfl
   have pf:=p_nfirst h k ((tall_node ht).2.2 k hkm) (f3 k hkm);rw[nsV_eq] at pf;have tl:=p_textlessT key (firstN h k) hk (first_ok h k (f3 k hkm));rw[List.drop_eq_getElem_cons (by omega),kidA,List.getElem_map,<- hke] at h3;by_cases hc:key<firstN h k
   ·rw[if_neg (fun g=>g.2 hc)] at h3;rw[decide_eq_true hc] at tl;((conv=>whnf);repeat' ((first|(with_reducible first|apply a_|apply b_|apply c_)|((with_reducible first|apply d_|apply e_|apply f_|apply g_);focus first|omega|(simp only[q_]<;>omega))|((with_reducible first|apply i_|apply h_);focus first|omega|(simp only[q_]<;>omega))|((with_reducible apply h_);focus first|decide|kernel_rfl)|refine s_ (by decide) ?_|refine t_ (by decide) ?_|(refine Idx.at' hrow rfl ?_)|refine r_ pf rfl ?_|refine r_ tl rfl ?_|with_reducible first|apply l_|apply m_|apply n_|apply o_|refine p_ (fun _=>?_) (fun _=>?_))<;>(conv=>whnf)));all_goals first|exact⟨(i+1,a),⟨by show 1<=i+1;omega,hi,h3⟩,by show n.kids.length - (i+1)<n.kids.length - i;omega,[(2,2)],rfl,rfl,⟨.inl rfl,⟨rfl,rfl,rfl⟩,.inl rfl,PLe.int (by show _=((i+1:Nat):Int);omega),trivial⟩,⟨⟨rfl,rfl,.inl rfl,.inl rfl,rfl⟩,trivial⟩⟩|(exfalso;omega)|skip
   ·rw[if_pos ⟨h1,hc⟩] at h3;rw[decide_eq_false hc] at tl;((conv=>whnf);repeat' ((first|(with_reducible first|apply a_|apply b_|apply c_)|((with_reducible first|apply d_|apply e_|apply f_|apply g_);focus first|omega|(simp only[q_]<;>omega))|((with_reducible first|apply i_|apply h_);focus first|omega|(simp only[q_]<;>omega))|((with_reducible apply h_);focus first|decide|kernel_rfl)|refine s_ (by decide) ?_|refine t_ (by decide) ?_|(refine Idx.at' hrow rfl ?_)|refine r_ pf rfl ?_|refine r_ tl rfl ?_|with_reducible first|apply l_|apply m_|apply n_|apply o_|refine p_ (fun _=>?_) (fun _=>?_))<;>(conv=>whnf)));all_goals first|exact⟨(i+1,i),⟨by show 1<=i+1;omega,hi,h3⟩,by show n.kids.length - (i+1)<n.kids.length - i;omega,[(2,2)],rfl,rfl,⟨.inl rfl,⟨rfl,rfl,rfl⟩,.inl rfl,PLe.int (by show _=((i+1:Nat):Int);omega),trivial⟩,⟨⟨rfl,rfl,.inl rfl,.inl rfl,rfl⟩,trivial⟩⟩|(exfalso;omega)|skip
  ·rw[drop_of_length_le (by omega)] at h3;have h3:kidF h n.kids key=a:=h3;rw[h3];((conv=>whnf);repeat' ((first|(with_reducible first|apply a_|apply b_|apply c_)|((with_reducible first|apply d_|apply e_|apply f_|apply g_);focus first|omega|(simp only[q_]<;>omega))|((with_reducible first|apply i_|apply h_);focus first|omega|(simp only[q_]<;>omega))|((with_reducible apply h_);focus first|decide|kernel_rfl)|refine s_ (by decide) ?_|refine t_ (by decide) ?_|with_reducible first|apply l_|apply m_|apply n_|apply o_|refine p_ (fun _=>?_) (fun _=>?_))<;>(conv=>whnf)));all_goals first|exact Ret.int rfl|(exfalso;omega)|skip
theorem sl_rest {α:Type} (l:List α) (a:Int) (k:Nat) (ha:a.toNat=k):List.take ((l.length:Int).toNat - a.toNat) (List.drop a.toNat l)=l.drop k:=by
 rw[ha];exact take_of_length_le (by rw[length_drop,toNat_natCast];exact Nat.le_refl _)
theorem sl_first {α:Type} (l:List α) (b:Int) (k:Nat) (hb:b.toNat=k):List.take (b.toNat - Int.toNat 0) (List.drop (Int.toNat 0) l)=l.take k:=by
 rw[hb];rfl
theorem p_nhalves (n:Nest) (h1:n.pairs.length<=100000) (h2:n.kids.length<=100000):Pure Try.prog 48 [nsV n] (nssV (halves n)):=by
 have ps:=p_nsize n (by omega) (by omega);have g1:(n.pairs.map PairD.c).length=n.pairs.length:=length_map _;have g2:(n.kids.map nestC).length=n.kids.length:=length_map _;rw[nsV_eq] at ps ⊢;by_cases hs:n.size<=4
 ·rw[show halves n=[n] from if_pos hs,show nssV [n]=.d (.c (.sl 2 [[.sl 2 (n.pairs.map PairD.c),.sl 2 (n.kids.map nestC)]])) by unfold nssV;rw[map_cons,nestC_eq];rfl];refine pure_of Try.func48 (by rfl) rfl (by kernel_rfl) (by rfl) ?_;((conv=>whnf);repeat' ((first|(with_reducible first|apply a_|apply b_|apply c_)|((with_reducible first|apply d_|apply e_|apply f_|apply g_);focus first|omega|(simp only[q_]<;>omega))|((with_reducible first|apply i_|apply h_);focus first|omega|(simp only[q_]<;>omega))|((with_reducible apply h_);focus first|decide|kernel_rfl)|refine s_ (by decide) ?_|refine t_ (by decide) ?_|refine r_ ps rfl ?_|with_reducible first|apply l_|apply m_|apply n_|apply o_|refine p_ (fun _=>?_) (fun _=>?_))<;>(conv=>whnf)));all_goals first|exact Ret.mk rfl | (exfalso;omega) | skip
 ·cases n with
  | leaf l=>
   have hs:¬l.length<=4:=hs;have g1:(l.map PairD.c).length=l.length:=length_map _;refine Pure.res (res':=.d (.c (.sl 2 [[.sl 2 ((l.map PairD.c).take 2),.v (.slice none 0 0)],[.sl 2 ((l.map PairD.c).drop 2),.v (.slice none 0 0)]]))) ?_ ?_
   ·have g3:(([]:List Nest).map nestC).length=0:=rfl;show Pure _ _ [.agg [.c (.sl 2 (l.map PairD.c)),.c (.sl 2 [])]] _;have ps:Pure Try.prog 33 [.agg [.c (.sl 2 (l.map PairD.c)),.c (.sl 2 [])]] (pInt .i64 l.length):=ps;refine pure_of Try.func48 (by rfl) rfl (by kernel_rfl) (by rfl) ?_;((conv=>whnf);repeat' ((first|(with_reducible first|apply a_|apply b_|apply c_)|((with_reducible first|apply d_|apply e_|apply f_|apply g_);focus first|omega|(simp only[q_]<;>omega))|((with_reducible first|apply i_|apply h_);focus first|omega|(simp only[q_]<;>omega))|((with_reducible apply h_);focus first|decide|kernel_rfl)|refine s_ (by decide) ?_|refine t_ (by decide) ?_|refine r_ ps rfl ?_|with_reducible first|apply l_|apply m_|apply n_|apply o_|refine p_ (fun _=>?_) (fun _=>?_))<;>(conv=>whnf)));all_goals first|exact Ret.mk (by rw[sl_rest _ 2 2 rfl,sl_first _ 2 2 rfl]) | (exfalso;omega) | skip
   ·rw[show halves (.leaf l)=[.leaf (l.take 2),.leaf (l.drop 2)] from if_neg hs];refine PSub.c (CSub.sl ?_);rw[<- map_take,<- map_drop];show RsSub [nestC (.leaf (l.take 2)),nestC (.leaf (l.drop 2))] _;rw[nestC_eq,nestC_eq];exact .cons (.cons (CSub.refl _) (.cons (CSub.nil 2) .nil)) (.cons (.cons (CSub.refl _) (.cons (CSub.nil 2) .nil)) .nil)
  | node ks=>
   have hs:¬ks.length<=4:=hs;have g2:(ks.map nestC).length=ks.length:=length_map _;refine Pure.res (res':=.d (.c (.sl 2 [[.v (.slice none 0 0),.sl 2 ((ks.map nestC).take 2)],[.v (.slice none 0 0),.sl 2 ((ks.map nestC).drop 2)]]))) ?_ ?_
   ·show Pure _ _ [.agg [.c (.sl 2 []),.c (.sl 2 (ks.map nestC))]] _;have ps:Pure Try.prog 33 [.agg [.c (.sl 2 []),.c (.sl 2 (ks.map nestC))]] (pInt .i64 ks.length):=ps;refine pure_of Try.func48 (by rfl) rfl (by kernel_rfl) (by rfl) ?_;((conv=>whnf);repeat' ((first|(with_reducible first|apply a_|apply b_|apply c_)|((with_reducible first|apply d_|apply e_|apply f_|apply g_);focus first|omega|(simp only[q_]<;>omega))|((with_reducible first|apply i_|apply h_);focus first|omega|(simp only[q_]<;>omega))|((with_reducible apply h_);focus first|decide|kernel_rfl)|refine s_ (by decide) ?_|refine t_ (by decide) ?_|refine r_ ps rfl ?_|with_reducible first|apply l_|apply m_|apply n_|apply o_|refine p_ (fun _=>?_) (fun _=>?_))<;>(conv=>whnf)));all_goals first|exact Ret.mk (by rw[sl_rest _ 2 2 rfl,sl_first _ 2 2 rfl]) | (exfalso;omega) | skip
   ·rw[show halves (.node ks)=[.node (ks.take 2),.node (ks.drop 2)] from if_neg hs];refine PSub.c (CSub.sl ?_);rw[<- map_take,<- map_drop];show RsSub [nestC (.node (ks.take 2)),nestC (.node (ks.drop 2))] _;rw[nestC_eq,nestC_eq];exact .cons (.cons (CSub.nil 2) (.cons (CSub.refl _) .nil)) (.cons (.cons (CSub.nil 2) (.cons (CSub.refl _) .nil)) .nil)
end
section
open Go.RowKit K
open Tr
theorem hv_leaf (l:List PairD) (h:l.length<=100000):Pure Try.prog 48 [.agg [.c (.sl 2 (l.map PairD.c)),.c (.v (.slice none 0 0))]] (nssV (halves (.leaf l))):=by
 have:=p_nhalves (.leaf l) h (zero_le _);rw[nsV_eq] at this;exact this.sub (.cons (PSub.agg (r:=[.sl 2 (l.map PairD.c),.sl 2 []]) (r':=[.sl 2 (l.map PairD.c),.v (.slice none 0 0)]) (.cons (CSub.refl _) (.cons (CSub.nil 2) .nil))) .nil)
theorem hv_node (ks:List Nest) (h:ks.length<=100000):Pure Try.prog 48 [.agg [.c (.v (.slice none 0 0)),.c (.sl 2 (ks.map nestC))]] (nssV (halves (.node ks))):=by
 have:=p_nhalves (.node ks) (zero_le _) h;rw[nsV_eq] at this;exact this.sub (.cons (PSub.agg (r:=[.sl 2 [],.sl 2 (ks.map nestC)]) (r':=[.v (.slice none 0 0),.sl 2 (ks.map nestC)]) (.cons (CSub.nil 2) (.cons (CSub.refl _) .nil))) .nil)
theorem halves_len (n:Nest):1<=(halves n).length/\(halves n).length<=2:=by
 unfold halves;split
 ·exact⟨(by decide:1<=1),(by decide:1<=2)⟩
 ·cases n with
  | leaf _=>exact⟨(by decide:1<=2),Nat.le_refl 2⟩
  | node _=>exact⟨(by decide:1<=2),Nat.le_refl 2⟩
theorem putN_len (h:Nat) (n:Nest) (p:PairD):1<=(putN h n p).length/\(putN h n p).length<=2:=by
 cases h with
 | zero=>exact halves_len _
 | succ h=>exact halves_len _
set_option maxHeartbeats 4000000 in
theorem p_nput:∀(h:Nat) (n:Nest) (p:PairD),tall h n->sized h n->fullN h n->okText p.Key->Pure Try.prog 22 [nsV n,.agg (p.c.map D.c)] (nssV (putN h n p))
 | 0,n,p,ht,hs,hf,hp=>by
  obtain⟨ps,rfl⟩:∃ps,n=.leaf ps:=by
   cases n with
   | leaf ps=>exact⟨ps,rfl⟩
   | node ks=>exact ht.elim
  obtain⟨f1,f2,f3⟩:=hf;have f2:ps.length<=1000:=f2;have f3:∀q∈ps,okText q.Key:=f3;have hlm:(ps.map PairD.c).length=ps.length:=length_map _;obtain⟨low,hlow⟩:∃low,low=fun q:PairD=>decide (ltT q.Key p.Key):=⟨_,rfl⟩;have hpl:putL ps p=ps.filter low++[p]++ps.drop (ps.filter low).length:=by rw[hlow];rfl
  have hfl:(ps.filter low).length<=ps.length:=length_filter_le _ _;have hv:=hv_leaf (putL ps p) (by rw[hpl,length_append,length_append,length_drop,length_singleton];omega);have hpm:(putL ps p).map PairD.c=(ps.filter low).map PairD.c++[p.c]++List.take (((ps.map PairD.c).length:Int).toNat - ((((ps.filter low).map PairD.c++[p.c]).length:Int) - 1).toNat) (List.drop ((((ps.filter low).map PairD.c++[p.c]).length:Int) - 1).toNat (ps.map PairD.c)):=by
   rw[sl_rest _ _ (ps.filter low).length (by rw[length_append,length_map,length_singleton];omega),hpl,map_append,map_append,map_drop];rfl
  rw[hpm] at hv;show Pure _ _ _ (nssV (halves (.leaf (putL ps p))));obtain⟨res,hres⟩:∃res,res=halves (.leaf (putL ps p)):=⟨_,rfl⟩;rw[<- hres] at hv ⊢;rw[nsV_eq];show Pure _ _ [.agg [.c (.sl 2 (ps.map PairD.c)),.c (.sl 2 [])],_] _;refine pure_of Try.func22 (by rfl) rfl (by kernel_rfl) (by rfl) ?_;((conv=>whnf);repeat' ((first|(with_reducible first|apply a_|apply b_|apply c_)|((with_reducible first|apply d_|apply e_|apply f_|apply g_);focus first|omega|(simp only[q_]<;>omega))|((with_reducible first|apply i_|apply h_);focus first|omega|(simp only[q_]<;>omega))|((with_reducible apply h_);focus first|decide|kernel_rfl)|refine s_ (by decide) ?_|refine t_ (by decide) ?_|with_reducible first|apply l_|apply m_|apply n_|apply o_|refine p_ (fun _=>?_) (fun _=>?_))<;>(conv=>whnf)));all_goals first | (exfalso;omega) | skip
  refine LoopC.mk Nat (fun k=>[(2,.d (.ptr 2 0)),(3,.d (.ptr 3 0)),(5,.d (.app 160 pT 2 (((ps.take k).filter low).map PairD.c))),(6,pInt .i64 (k:Int))]) (fun _=>[(2,.box nT2 [.c (.sl 2 (ps.map PairD.c)),.c (.sl 2 [])]),(3,.box pT (p.c.map D.c)),(160,.tail pT 2)]) [2,3,160] (fun k=>k<=ps.length) (fun k=>ps.length - k) 0 (zero_le _) ?start ?round
  case start=>exact Wk.mk [(2,2),(3,3)] rfl rfl ⟨⟨rfl,rfl,rfl⟩,⟨rfl,rfl,rfl⟩,⟨rfl,rfl,zero_lt_succ _,rfl,rfl⟩,.inl rfl,trivial⟩ ⟨⟨rfl,rfl,.inl rfl,.inl rfl,rfl⟩,⟨rfl,rfl,.inl rfl,.inl rfl,rfl⟩,⟨rfl,zero_lt_succ _⟩,trivial⟩
  case round=>
   intro k hk;by_cases hkl:k<ps.length
   ·obtain⟨q,hq⟩:∃q,q=ps[k]:=⟨_,rfl⟩;have hrow:(ps.map PairD.c)[k]? = some q.c:=by rw[List.getElem?_map,List.getElem?_eq_getElem hkl,<- hq];rfl
    have tl:=p_textlessT q.Key p.Key (f3 q (by rw[hq];exact List.getElem_mem _)) hp;have hsn:=filter_snoc low ps (List.getElem?_eq_getElem hkl);rw[<- hq] at hsn;have hf2:((ps.take k).filter low).length<=1000:=by
     have:=length_filter_le low (ps.take k);rw[length_take] at this;omega
    obtain⟨s2,hs2⟩:∃s2,s2=(ps.take k).filter low:=⟨_,rfl⟩;rw[<- hs2] at hsn hf2 ⊢;have n2:((s2.map PairD.c).length+1)*24<=140737488355328:=by rw[length_map];omega
    by_cases hc:q.Key<p.Key
    ·rw[show low q=true by rw[hlow];exact decide_eq_true hc,if_pos rfl] at hsn;rw[decide_eq_true hc] at tl;((conv=>whnf);repeat' ((first|(with_reducible first|apply a_|apply b_|apply c_)|((with_reducible first|apply d_|apply e_|apply f_|apply g_);focus first|omega|(simp only[q_]<;>omega))|((with_reducible first|apply i_|apply h_);focus first|omega|(simp only[q_]<;>omega))|((with_reducible apply h_);focus first|decide|kernel_rfl)|refine s_ (by decide) ?_|refine t_ (by decide) ?_|(first|refine Idx.at' hrow rfl ?_|refine Need.by1 24 rfl n2 ?_)|refine r_ tl rfl ?_|with_reducible first|apply l_|apply m_|apply n_|apply o_|refine p_ (fun _=>?_) (fun _=>?_))<;>(conv=>whnf)));all_goals first|exact⟨k+1,by omega,by omega,[(2,2),(3,3),(160,36)],rfl,rfl,⟨⟨rfl,rfl,rfl⟩,⟨rfl,rfl,rfl⟩,⟨rfl,rfl,rfl,rfl,by rw[hsn,map_append];rfl⟩,PLe.int (by omega),trivial⟩,⟨⟨rfl,rfl,.inl rfl,.inl rfl,rfl⟩,⟨rfl,rfl,.inl rfl,.inl rfl,rfl⟩,⟨rfl,rfl,rfl⟩,trivial⟩⟩|(exfalso;omega)|skip
    ·rw[show low q=false by rw[hlow];exact decide_eq_false hc,if_neg (by decide),List.append_nil] at hsn;rw[decide_eq_false hc] at tl;((conv=>whnf);repeat' ((first|(with_reducible first|apply a_|apply b_|apply c_)|((with_reducible first|apply d_|apply e_|apply f_|apply g_);focus first|omega|(simp only[q_]<;>omega))|((with_reducible first|apply i_|apply h_);focus first|omega|(simp only[q_]<;>omega))|((with_reducible apply h_);focus first|decide|kernel_rfl)|refine s_ (by decide) ?_|refine t_ (by decide) ?_|(refine Idx.at' hrow rfl ?_)|refine r_ tl rfl ?_|with_reducible first|apply l_|apply m_|apply n_|apply o_|refine p_ (fun _=>?_) (fun _=>?_))<;>(conv=>whnf)));all_goals first|exact⟨k+1,by omega,by omega,[(2,2),(3,3),(160,160)],rfl,rfl,⟨⟨rfl,rfl,rfl⟩,⟨rfl,rfl,rfl⟩,⟨rfl,rfl,rfl,rfl,by rw[hsn]⟩,PLe.int (by omega),trivial⟩,⟨⟨rfl,rfl,.inl rfl,.inl rfl,rfl⟩,⟨rfl,rfl,.inl rfl,.inl rfl,rfl⟩,⟨rfl,rfl,rfl⟩,trivial⟩⟩|(exfalso;omega)|skip
   ·rw[take_of_length_le (by omega)];obtain⟨s2,hs2⟩:∃s2,s2=ps.filter low:=⟨_,rfl⟩;rw[<- hs2] at hv hfl ⊢;have hs2m:(s2.map PairD.c).length=s2.length:=length_map _;((conv=>whnf);repeat' ((first|(with_reducible first|apply a_|apply b_|apply c_)|((with_reducible first|apply d_|apply e_|apply f_|apply g_);focus first|omega|(simp only[q_]<;>omega))|((with_reducible first|apply i_|apply h_);focus first|omega|(simp only[q_]<;>omega))|((with_reducible apply h_);focus first|decide|kernel_rfl)|refine s_ (by decide) ?_|refine t_ (by decide) ?_|(first|refine Need.by1 24 rfl (by simp only[length_append,length_map,length_take,length_drop,length_cons,length_nil];omega) ?_|refine Need.mk (by simp only[length_append,length_map,length_take,length_drop,length_cons,length_nil];omega) ?_)|refine r_ hv rfl ?_|with_reducible first|apply l_|apply m_|apply n_|apply o_|refine p_ (fun _=>?_) (fun _=>?_))<;>(conv=>whnf)));all_goals first|exact Ret.mk rfl|(exfalso;omega)|skip
 | h+1,n,p,ht,hs,hf,hp=>by
  obtain⟨e,g1,hk⟩:=tall_node ht;have hi:=kid_at (key:=p.Key) hs;have pk:=p_nkid h n ht hf p.Key hp;obtain⟨ks,hks⟩:∃ks,ks=n.kids:=⟨_,rfl⟩;obtain⟨s1,s2,s3⟩:=hs;obtain⟨f1,f2,f3⟩:=hf;rw[<- hks] at hi hk s1 s2 s3 f1 f2 f3 pk;obtain⟨at_,hat⟩:∃at_,at_=kidF h ks p.Key:=⟨_,rfl⟩;rw[<- hat] at hi pk;have hg:ks.getD at_ noN=ks[at_]:=by rw[List.getD_eq_getElem?_getD,List.getElem?_eq_getElem hi];rfl
  obtain⟨k,hke⟩:∃k,k=ks[at_]:=⟨_,rfl⟩;have hkm:k∈ks:=by rw[hke];exact List.getElem_mem hi
  have hput:putN (h+1) n p=halves (.node (ks.take at_++putN h k p++ks.drop (at_+1))):=by
   show halves (.node (n.kids.take (kidF h n.kids p.Key)++putN h (n.kids.getD (kidF h n.kids p.Key) noN) p++n.kids.drop (kidF h n.kids p.Key+1)))=_;rw[<- hks,<- hat,hg,<- hke]
  have ih:=p_nput h k p (hk k hkm) (s3 k hkm) (f3 k hkm) hp;have hpl:=putN_len h k p;rw[hput];have hv:=hv_node (ks.take at_++putN h k p++ks.drop (at_+1)) (by rw[length_append,length_append,length_drop,length_take];omega);rw[map_append,map_append,map_take,map_drop,<- sl_rest (ks.map nestC) ((at_:Int)+1) (at_+1) (by omega),<- sl_first (ks.map nestC) at_ at_ rfl] at hv;obtain⟨res,hres⟩:∃res,res=halves (.node (ks.take at_++putN h k p++ks.drop (at_+1))):=⟨_,rfl⟩;rw[<- hres] at hv ⊢;obtain⟨xs,hxs⟩:∃xs,xs=putN h k p:=⟨_,rfl⟩;rw[<- hxs] at hv ih hpl;have hxm:(xs.map nestC).length=xs.length:=length_map _;have hkm2:(ks.map nestC).length=ks.length:=length_map _;have hrow:(ks.map nestC)[at_]? = some [.sl 2 (k.pairs.map PairD.c),.sl 2 (k.kids.map nestC)]:=by rw[<- nestC_eq,List.getElem?_map,List.getElem?_eq_getElem hi,hke];rfl
  rw[nsV_eq] at ih pk ⊢;rw[<- hks] at pk ⊢;have hnp:n.pairs=[]:=by rw[e];rfl
  have hnl:(n.pairs.map PairD.c).length=0:=by rw[hnp];rfl
  refine pure_of Try.func22 (by rfl) rfl (by kernel_rfl) (by rfl) ?_;((conv=>whnf);repeat' ((first|(with_reducible first|apply a_|apply b_|apply c_)|((with_reducible first|apply d_|apply e_|apply f_|apply g_);focus first|omega|(simp only[q_]<;>omega))|((with_reducible first|apply i_|apply h_);focus first|omega|(simp only[q_]<;>omega))|((with_reducible apply h_);focus first|decide|kernel_rfl)|refine s_ (by decide) ?_|refine t_ (by decide) ?_|(first|refine Idx.at' hrow rfl ?_|refine Need.by1 48 rfl (by simp only[length_append,length_map,length_take,length_drop,length_cons,length_nil];omega) ?_|refine Need.mk (by simp only[length_append,length_map,length_take,length_drop,length_cons,length_nil];omega) ?_)|refine r_ pk rfl ?_|refine r_ ih rfl ?_|refine r_ hv rfl ?_|with_reducible first|apply l_|apply m_|apply n_|apply o_|refine p_ (fun _=>?_) (fun _=>?_))<;>(conv=>whnf)));all_goals first|exact Ret.mk rfl|(exfalso;omega)|skip
end
section
open Go.RowKit K
open Tr
abbrev leafR (l:List PairD):List C:=[.sl 2 (l.map PairD.c),.v (.slice none 0 0)]
def grpR:List Nat->List (List C)->List (List C)
 | [],_=>[]
 | n::u,R=>[.v (.slice none 0 0),.sl 2 (R.take n)]::grpR u (R.drop n)
def levR:List (List Nat)->List (List C)->List (List C)
 | [],R=>R
 | u::U,R=>levR U (grpR u R)
theorem RsSub.take {l l':List (List C)} (h:RsSub l l'):∀n,RsSub (l.take n) (l'.take n):=by
 induction h with
 | nil=>intro n;rw[take_nil];exact .nil
 | cons h1 _ ih=>
  intro n;cases n with
  | zero=>exact .nil
  | succ n=>exact .cons h1 (ih n)
theorem RsSub.drop {l l':List (List C)} (h:RsSub l l'):∀n,RsSub (l.drop n) (l'.drop n):=by
 induction h with
 | nil=>intro n;rw[List.drop_nil];exact .nil
 | cons h1 h2 ih=>
  intro n;cases n with
  | zero=>exact .cons h1 h2
  | succ n=>exact ih n
theorem grp_sub:∀(u:List Nat) (F:List Nest) (R:List (List C)),RsSub (F.map nestC) R->RsSub ((grp u F).map nestC) (grpR u R)
 | [],_,_,_=>.nil
 | n::u,F,R,h=>by
  rw[grp,grpR,map_cons,nestC_eq];refine .cons (.cons (CSub.nil 2) (.cons (CSub.sl ?_) .nil)) (grp_sub u _ _ ?_)
  ·show RsSub ((F.take n).map nestC) _;rw[map_take];exact h.take n
  ·rw[map_drop];exact h.drop n
theorem lev_sub:∀(U:List (List Nat)) (F:List Nest) (R:List (List C)),RsSub (F.map nestC) R->RsSub ((nestF U F).map nestC) (levR U R)
 | [],_,_,h=>h
 | u::U,F,R,h=>by rw[nestF,levR];exact lev_sub U _ _ (grp_sub u F R h)
theorem leaf_sub:∀L:List (List PairD),RsSub ((L.map Nest.leaf).map nestC) (L.map leafR)
 | []=>.nil
 | l::L=>by
  rw[map_cons,map_cons,nestC_eq];exact .cons (.cons (CSub.refl _) (.cons (CSub.nil 2) .nil)) (leaf_sub L)
theorem grpR_len:∀(u:List Nat) (R:List (List C)),(grpR u R).length=u.length
 | [],_=>rfl
 | n::u,R=>by rw[grpR,length_cons,length_cons,grpR_len u]
theorem grpR_snoc:∀(u:List Nat) (R:List (List C)) {k:Nat} (h:k<u.length),grpR (u.take (k+1)) R=grpR (u.take k) R++[[.v (.slice none 0 0),.sl 2 ((R.drop (u.take k).sum).take u[k])]]
 | n::u,R,0,_=>rfl
 | n::u,R,k+1,h=>by
  rw[take_succ_cons,grpR,grpR_snoc u (R.drop n) (k:=k) (by simpa using h),take_succ_cons,grpR,sum_cons,drop_drop];rfl
theorem sumtk_snoc (u:List Nat) {k:Nat} (h:k<u.length):(u.take (k+1)).sum=(u.take k).sum+u[k]:=by rw[List.take_succ_eq_append_getElem h,sum_append,sum_singleton]
theorem sumtk_le:∀(u:List Nat) (k:Nat),(u.take k).sum<=u.sum
 | [],k=>by rw[take_nil];exact Nat.le_refl _
 | n::u,0=>zero_le _
 | n::u,k+1=>by
  have:=sumtk_le u k;rw[take_succ_cons,sum_cons,sum_cons];omega
theorem nest_one {U:List (List Nat)} {L:List (List PairD)} {n:Nest} (h:nestF U (L.map Nest.leaf)=[n]):∃x y,levR U (L.map leafR)=[[x,y]]/\RSub (nestC n) [x,y]:=by
 have hs:=lev_sub U _ _ (leaf_sub L);rw[h,map_cons,map_nil] at hs;rw[nestC_eq] at hs ⊢;obtain⟨R,hR⟩:∃R,R=levR U (L.map leafR):=⟨_,rfl⟩;rw[<- hR] at hs ⊢;cases hs with
 | cons h1 h2=>
  cases h2;cases h1 with
  | cons g1 g2=>cases g2 with
   | cons g2 g3=>
    cases g3;exact⟨_,_,rfl,.cons g1 (.cons g2 .nil)⟩
set_option maxHeartbeats 4000000 in
theorem p_nestof {L:List (List PairD)} {U:List (List Nat)} (h:TreeOk L U) (hL:L≠[]):Pure Try.prog 21 [.agg [.c (.sl 1 (lvC L)),.c (.sl 1 (upC U))]] (nsV (nestT L U)):=by
 obtain⟨x,y,e1,e2⟩:=nest_one (nestT_ok h hL).2.2.2;refine Pure.res (res':=.agg [.c x,.c y]) ?_ (PSub.agg e2);have hup:=(h.top hL).2;have hLl:(lvC L).length=L.length:=length_map _;have hUl:(upC U).length=U.length:=length_map _;have h64:=h.many;have h8:=h.deep;refine pure_of Try.func21 (by rfl) rfl (by kernel_rfl) (by rfl) ?_;((conv=>whnf);repeat' ((first|(with_reducible first|apply a_|apply b_|apply c_)|((with_reducible first|apply d_|apply e_|apply f_|apply g_);focus first|omega|(simp only[q_]<;>omega))|((with_reducible first|apply i_|apply h_);focus first|omega|(simp only[q_]<;>omega))|((with_reducible apply h_);focus first|decide|kernel_rfl)|refine s_ (by decide) ?_|refine t_ (by decide) ?_|with_reducible first|apply l_|apply m_|apply n_|apply o_|refine p_ (fun _=>?_) (fun _=>?_))<;>(conv=>whnf)));all_goals first | (exfalso;omega) | skip
 refine LoopC.mk Nat (fun k=>[(1,.d (.ptr 1 0)),(2,.d (.ptr 2 0)),(3,.d (.app 160 nT2 2 ((L.take k).map leafR))),(4,pInt .i64 (k:Int))]) (fun _=>[(1,.box 25 [.c (.sl 1 (lvC L)),.c (.sl 1 (upC U))]),(2,.box nT2 [.c (.v (.slice none 0 0)),.c (.v (.slice none 0 0))]),(160,.tail nT2 2)]) [1,2,160] (fun k=>k<=L.length) (fun k=>L.length - k) 0 (zero_le _) ?start ?round
 case start=>exact Wk.mk [(1,1),(2,2)] rfl rfl ⟨⟨rfl,rfl,rfl⟩,⟨rfl,rfl,rfl⟩,⟨rfl,rfl,zero_lt_succ _,rfl,rfl⟩,.inl rfl,trivial⟩ ⟨⟨rfl,rfl,.inl rfl,.inl rfl,rfl⟩,⟨rfl,rfl,.inl rfl,.inl rfl,rfl⟩,⟨rfl,zero_lt_succ _⟩,trivial⟩
 case round=>
  intro k hk;by_cases hkl:k<L.length
  ·obtain⟨l,hle⟩:∃l,l=L[k]:=⟨_,rfl⟩;have hrow:(lvC L)[k]? = some [.sl 2 (l.map PairD.c)]:=by unfold lvC;rw[List.getElem?_map,List.getElem?_eq_getElem hkl,hle];rfl
   have hsn:(L.take (k+1)).map leafR=(L.take k).map leafR++[leafR l]:=by rw[List.take_succ_eq_append_getElem hkl,map_append,<- hle];rfl
   have hlk:((L.take k).map leafR).length=k:=by rw[length_map,length_take];omega
   ((conv=>whnf);repeat' ((first|(with_reducible first|apply a_|apply b_|apply c_)|((with_reducible first|apply d_|apply e_|apply f_|apply g_);focus first|omega|(simp only[q_]<;>omega))|((with_reducible first|apply i_|apply h_);focus first|omega|(simp only[q_]<;>omega))|((with_reducible apply h_);focus first|decide|kernel_rfl)|refine s_ (by decide) ?_|refine t_ (by decide) ?_|(first|refine Idx.at' hrow rfl ?_|refine Need.by1 48 rfl (by rw[hlk];simp only[length_cons,length_nil];omega) ?_)|with_reducible first|apply l_|apply m_|apply n_|apply o_|refine p_ (fun _=>?_) (fun _=>?_))<;>(conv=>whnf)));all_goals first|exact⟨k+1,by omega,by omega,[(1,1),(2,2),(160,24)],rfl,rfl,⟨⟨rfl,rfl,rfl⟩,⟨rfl,rfl,rfl⟩,⟨rfl,rfl,rfl,rfl,by rw[hsn]⟩,PLe.int (by omega),trivial⟩,⟨⟨rfl,rfl,.inl rfl,.inl rfl,rfl⟩,⟨rfl,rfl,.inl rfl,.inl rfl,rfl⟩,⟨rfl,rfl,rfl⟩,trivial⟩⟩|(exfalso;omega)|skip
  ·rw[take_of_length_le (by omega)];((conv=>whnf);repeat' ((first|(with_reducible first|apply a_|apply b_|apply c_)|((with_reducible first|apply d_|apply e_|apply f_|apply g_);focus first|omega|(simp only[q_]<;>omega))|((with_reducible first|apply i_|apply h_);focus first|omega|(simp only[q_]<;>omega))|((with_reducible apply h_);focus first|decide|kernel_rfl)|refine s_ (by decide) ?_|refine t_ (by decide) ?_|with_reducible first|apply l_|apply m_|apply n_|apply o_|refine p_ (fun _=>?_) (fun _=>?_))<;>(conv=>whnf)));all_goals first | (exfalso;omega) | skip
   refine LoopC.mk (Nat×List (List C)) (fun s=>[(1,.d (.ptr 1 0)),(2,.d (.ptr 2 0)),(3,.d (.c (.sl 2 s.2))),(5,pInt .i64 (s.1:Int))]) (fun _=>[(1,.box 25 [.c (.sl 1 (lvC L)),.c (.sl 1 (upC U))]),(2,.box nT2 [.c (.v (.slice none 0 0)),.c (.v (.slice none 0 0))])]) [1,2] (fun s=>s.1<=U.length/\upOk s.2.length (U.drop s.1) 1/\levR (U.drop s.1) s.2=[[x,y]]/\s.2.length<=64) (fun s=>U.length - s.1) (0,L.map leafR) ⟨zero_le _,by rw[length_map];exact hup,e1,by rw[length_map];exact h64⟩ ?start2 ?round2
   case start2=>exact Wk.mk [(1,1),(2,2)] rfl rfl ⟨⟨rfl,rfl,rfl⟩,⟨rfl,rfl,rfl⟩,rfl,.inl rfl,trivial⟩ ⟨⟨rfl,rfl,.inl rfl,.inl rfl,rfl⟩,⟨rfl,rfl,.inl rfl,.inl rfl,rfl⟩,trivial⟩
   case round2=>
    rintro⟨i,R⟩ ⟨k1,k2,k3,k4⟩;have k1:i<=U.length:=k1;have k2:upOk R.length (U.drop i) 1:=k2;have k3:levR (U.drop i) R=[[x,y]]:=k3;have k4:R.length<=64:=k4;by_cases hi:i<U.length
    ·rw[List.drop_eq_getElem_cons hi] at k2 k3;obtain⟨u,hue⟩:∃u,u=U[i]:=⟨_,rfl⟩;rw[<- hue] at k2 k3;obtain⟨m1,m2,m3,m4⟩:=k2;have hu2:=two_sum m2;rw[levR] at k3;have hrow:(upC U)[i]? = some [.sl 1 (u.map natC)]:=by unfold upC;rw[List.getElem?_map,List.getElem?_eq_getElem hi,hue];rfl
     have hum:(u.map natC).length=u.length:=length_map _;((conv=>whnf);repeat' ((first|(with_reducible first|apply a_|apply b_|apply c_)|((with_reducible first|apply d_|apply e_|apply f_|apply g_);focus first|omega|(simp only[q_]<;>omega))|((with_reducible first|apply i_|apply h_);focus first|omega|(simp only[q_]<;>omega))|((with_reducible apply h_);focus first|decide|kernel_rfl)|refine s_ (by decide) ?_|refine t_ (by decide) ?_|(refine Idx.at' hrow rfl ?_)|with_reducible first|apply l_|apply m_|apply n_|apply o_|refine p_ (fun _=>?_) (fun _=>?_))<;>(conv=>whnf)));all_goals first | (exfalso;omega) | skip
     refine LoopC.mk Nat (fun k=>[(1,.d (.ptr 1 0)),(2,.d (.ptr 2 0)),(3,.d (.c (.sl 2 R))),(5,pInt .i64 (i:Int)),(6,.d (.app 161 nT2 2 (grpR (u.take k) R))),(7,pInt .i64 ((u.take k).sum:Int)),(8,pInt .i64 (k:Int))]) (fun _=>[(1,.box 25 [.c (.sl 1 (lvC L)),.c (.sl 1 (upC U))]),(2,.box nT2 [.c (.v (.slice none 0 0)),.c (.v (.slice none 0 0))]),(161,.tail nT2 2)]) [1,2,161] (fun k=>k<=u.length) (fun k=>u.length - k) 0 (zero_le _) ?start3 ?round3
     case start3=>exact Wk.mk [(1,1),(2,2)] rfl rfl ⟨⟨rfl,rfl,rfl⟩,⟨rfl,rfl,rfl⟩,.inl rfl,.inl rfl,⟨rfl,rfl,zero_lt_succ _,rfl,rfl⟩,.inl rfl,.inl rfl,trivial⟩ ⟨⟨rfl,rfl,.inl rfl,.inl rfl,rfl⟩,⟨rfl,rfl,.inl rfl,.inl rfl,rfl⟩,⟨rfl,zero_lt_succ _⟩,trivial⟩
     case round3=>
      intro k hk2;by_cases hku:k<u.length
      ·obtain⟨a,ha⟩:∃a,a=(u.take k).sum:=⟨_,rfl⟩;obtain⟨z,hz⟩:∃z,z=u[k]:=⟨_,rfl⟩;have hst:=sumtk_snoc u hku;have hsl:=sumtk_le u (k+1);have hgs:=grpR_snoc u R hku;rw[<- ha,<- hz] at hst hgs;rw[hst] at hsl;have hrk:(u.map natC)[k]? = some [.v (.int .i64 (z:Int))]:=by rw[List.getElem?_map,List.getElem?_eq_getElem hku,hz];rfl
       have hgl:=grpR_len (u.take k) R;rw[length_take,min_eq_left hk2] at hgl;have hgs:grpR (u.take (k+1)) R=grpR (u.take k) R++[[.v (.slice none 0 0),.sl 2 (List.take (((a:Int)+(z:Int)).toNat - (a:Int).toNat) (List.drop (a:Int).toNat R))]]:=by
        rw[hgs,show ((a:Int)+(z:Int)).toNat - (a:Int).toNat=z by omega];rfl
       rw[<- ha];((conv=>whnf);repeat' ((first|(with_reducible first|apply a_|apply b_|apply c_)|((with_reducible first|apply d_|apply e_|apply f_|apply g_);focus first|omega|(simp only[q_]<;>omega))|((with_reducible first|apply i_|apply h_);focus first|omega|(simp only[q_]<;>omega))|((with_reducible apply h_);focus first|decide|kernel_rfl)|refine s_ (by decide) ?_|refine t_ (by decide) ?_|(first|refine Idx.at' hrow rfl ?_|refine Idx.at' hrk rfl ?_|refine Need.by1 48 rfl (by rw[hgl];simp only[length_cons,length_nil];omega) ?_)|with_reducible first|apply l_|apply m_|apply n_|apply o_|refine p_ (fun _=>?_) (fun _=>?_))<;>(conv=>whnf)));all_goals first|exact⟨k+1,by omega,by omega,[(1,1),(2,2),(161,58)],rfl,rfl,⟨⟨rfl,rfl,rfl⟩,⟨rfl,rfl,rfl⟩,.inl rfl,.inl rfl,⟨rfl,rfl,rfl,rfl,by rw[hgs]⟩,PLe.int (by rw[hst];omega),PLe.int (by omega),trivial⟩,⟨⟨rfl,rfl,.inl rfl,.inl rfl,rfl⟩,⟨rfl,rfl,.inl rfl,.inl rfl,rfl⟩,⟨rfl,rfl,rfl⟩,trivial⟩⟩|(exfalso;omega)|skip
      ·rw[take_of_length_le (by omega)];((conv=>whnf);repeat' ((first|(with_reducible first|apply a_|apply b_|apply c_)|((with_reducible first|apply d_|apply e_|apply f_|apply g_);focus first|omega|(simp only[q_]<;>omega))|((with_reducible first|apply i_|apply h_);focus first|omega|(simp only[q_]<;>omega))|((with_reducible apply h_);focus first|decide|kernel_rfl)|refine s_ (by decide) ?_|refine t_ (by decide) ?_|(refine Idx.at' hrow rfl ?_)|with_reducible first|apply l_|apply m_|apply n_|apply o_|refine p_ (fun _=>?_) (fun _=>?_))<;>(conv=>whnf)));all_goals first|exact⟨(i+1,grpR u R),⟨hi,by rw[grpR_len];exact m4,k3,by rw[grpR_len];omega⟩,by show U.length - (i+1)<U.length - i;omega,[(1,1),(2,2)],rfl,rfl,⟨⟨rfl,rfl,rfl⟩,⟨rfl,rfl,rfl⟩,rfl,PLe.int (by show _=((i+1:Nat):Int);omega),trivial⟩,⟨⟨rfl,rfl,.inl rfl,.inl rfl,rfl⟩,⟨rfl,rfl,.inl rfl,.inl rfl,rfl⟩,trivial⟩⟩|(exfalso;omega)|skip
    ·rw[drop_of_length_le (by omega),levR] at k3;subst k3;have hrow:[[x,y]][0]? = some [x,y]:=rfl;((conv=>whnf);repeat' ((first|(with_reducible first|apply a_|apply b_|apply c_)|((with_reducible first|apply d_|apply e_|apply f_|apply g_);focus first|omega|(simp only[q_]<;>omega))|((with_reducible first|apply i_|apply h_);focus first|omega|(simp only[q_]<;>omega))|((with_reducible apply h_);focus first|decide|kernel_rfl)|refine s_ (by decide) ?_|refine t_ (by decide) ?_|(refine Idx.at' hrow rfl ?_)|with_reducible first|apply l_|apply m_|apply n_|apply o_|refine p_ (fun _=>?_) (fun _=>?_))<;>(conv=>whnf)));all_goals first|exact Ret.mk rfl|(exfalso;omega)|skip
end
section
open Go.RowKit K
open Tr
theorem kids_big:∀F:List Nest,(∀m∈F,m.kids≠[])->F.length<=(F.flatMap Nest.kids).length
 | [],_=>zero_le _
 | x::F,h=>by
  have h2:=length_pos_iff.2 (h x mem_cons_self);have h3:=kids_big F fun m hm=>h m (mem_cons_of_mem _ hm);rw[flatMap_cons,length_append,length_cons];omega
theorem lvs_big:∀(j:Nat) (F:List Nest),(∀m∈F,fullN j m)->F.length<=(lvs j F).length
 | 0,F,_=>by rw[lvs,length_map];exact Nat.le_refl _
 | j+1,F,h=>by
  rw[lvs];refine le_trans ?_ (lvs_big j (F.flatMap Nest.kids) fun m hm=>?_)
  ·exact kids_big F fun m hm=>(h m hm).1
  ·obtain⟨x,hx,hm⟩:=mem_flatMap.1 hm;exact (h x hx).2.2 m hm
abbrev szC (m:Nest):List C:=[.v (.int .i64 (m.kids.length:Int))]
abbrev prR (m:Nest):List C:=[.sl 2 (m.pairs.map PairD.c)]
theorem sz_nat {j:Nat} {F:List Nest} (h:∀m∈F,tall (j+1) m):F.map szC=(F.map Nest.size).map natC:=by
 rw[map_map];refine map_congr_left fun m hm=>?_;show [C.v (.int .i64 (m.kids.length:Int))]=[C.v (.int .i64 (m.size:Int))];rw[(tall_node (h m hm)).2.1]
theorem fm_snoc {F:List Nest} {k:Nat} (h:k<F.length):(F.take (k+1)).flatMap Nest.kids=(F.take k).flatMap Nest.kids++F[k].kids:=by
 rw[List.take_succ_eq_append_getElem h,flatMap_append,List.flatMap_singleton]
theorem fm_le (F:List Nest) (k:Nat):((F.take k).flatMap Nest.kids).length<=(F.flatMap Nest.kids).length:=by
 have:(F.take k++F.drop k).flatMap Nest.kids=F.flatMap Nest.kids:=by rw[take_append_drop]
 rw[<- this,flatMap_append,length_append];exact Nat.le_add_right _ _
abbrev apIn:Nat:=3
abbrev apTr:Nat:=25
set_option maxHeartbeats 4000000 in
theorem p_flatof (H:Nat) (n:Nest) (ht:tall H n) (hf:fullN H n) (hl:(lvs H [n]).length<=1000) (hH:H<=1000):Pure Try.prog 23 [nsV n] (trD ⟨lvs H [n],intU (ups H [n])⟩):=by
 rw[nsV_eq,show trD ⟨lvs H [n],intU (ups H [n])⟩=.agg [.c (.sl 1 (lvC (lvs H [n]))),.c (.sl 1 (upI (intU (ups H [n]))))] from rfl,upI_int];refine pure_of Try.func23 (by rfl) rfl (by kernel_rfl) (by rfl) ?_;((conv=>whnf);repeat' ((first|(with_reducible first|apply a_|apply b_|apply c_)|((with_reducible first|apply d_|apply e_|apply f_|apply g_);focus first|omega|(simp only[q_]<;>omega))|((with_reducible first|apply i_|apply h_);focus first|omega|(simp only[q_]<;>omega))|((with_reducible apply h_);focus first|decide|kernel_rfl)|refine s_ (by decide) ?_|refine t_ (by decide) ?_|with_reducible first|apply l_|apply m_|apply n_|apply o_|refine p_ (fun _=>?_) (fun _=>?_))<;>(conv=>whnf)));all_goals first | (exfalso;omega) | skip
 refine LoopC.mk (Nat×List Nest×List (List Nat)) (fun s=>[(2,.d (.ptr 2 0)),(3,.d (.ptr 3 0)),(4,.d (.c (.sl 2 (s.2.1.map nestC))))]) (fun s=>[(2,.box apTr [.c (.v (.slice none 0 0)),.c (.v (.slice none 0 0))]),(3,.box apTr [.c (.v (.slice none 0 0)),.c (.sl 1 (upC s.2.2))])]) [2,3]
  (fun s=>(∀m∈s.2.1,tall s.1 m)/\(∀m∈s.2.1,fullN s.1 m)/\s.2.1≠[]/\lvs s.1 s.2.1=lvs H [n]/\ups s.1 s.2.1++s.2.2=ups H [n]) (fun s=>s.1) (H,[n],[]) ⟨fun m hm=>by rw[mem_singleton.1 hm];exact ht,fun m hm=>by rw[mem_singleton.1 hm];exact hf,cons_ne_nil _ _,rfl,List.append_nil _⟩ ?start ?round
 case start=>
  refine Wk.mk [(2,2),(3,3)] rfl rfl ⟨⟨rfl,rfl,rfl⟩,⟨rfl,rfl,rfl⟩,congrArg (fun r=>C.sl 2 [r]) (nestC_eq n),trivial⟩ ⟨⟨rfl,rfl,.inl rfl,.inl rfl,rfl⟩,⟨rfl,rfl,.inl rfl,.inr ⟨⟨1,rfl⟩,.inl rfl⟩,rfl⟩,trivial⟩
 case round=>
  rintro⟨j,F,Up⟩ ⟨k1,k2,k3,k4,k5⟩;have k1:∀m∈F,tall j m:=k1;have k2:∀m∈F,fullN j m:=k2;have k3:F≠[]:=k3;have k4:lvs j F=lvs H [n]:=k4;have k5:ups j F++Up=ups H [n]:=k5;have hb:=lvs_big j F k2;rw[k4] at hb;have hFm:(F.map nestC).length=F.length:=length_map _;obtain⟨m0,F0,hF0⟩:∃m0 F0,F=m0::F0:=by
   cases F with
   | nil=>exact absurd rfl k3
   | cons a b=>exact⟨a,b,rfl⟩
  have hm0:m0∈F:=by rw[hF0];exact mem_cons_self
  have h0l:F.length=F0.length+1:=by rw[hF0];rfl
  have hrow0:(F.map nestC)[0]? = some [.sl 2 (m0.pairs.map PairD.c),.sl 2 (m0.kids.map nestC)]:=by rw[hF0,<- nestC_eq];rfl
  have hm0m:(m0.kids.map nestC).length=m0.kids.length:=length_map _;cases j with
  | zero=>
   have hk0:m0.kids.length=0:=by
    have:=k1 m0 hm0;cases m0 with
    | leaf ps=>rfl
    | node ks=>exact this.elim
   rw[ups,nil_append] at k5;rw[<- k4,<- k5];((conv=>whnf);repeat' ((first|(with_reducible first|apply a_|apply b_|apply c_)|((with_reducible first|apply d_|apply e_|apply f_|apply g_);focus first|omega|(simp only[q_]<;>omega))|((with_reducible first|apply i_|apply h_);focus first|omega|(simp only[q_]<;>omega))|((with_reducible apply h_);focus first|decide|kernel_rfl)|refine s_ (by decide) ?_|refine t_ (by decide) ?_|(refine Idx.at' hrow0 rfl ?_)|with_reducible first|apply l_|apply m_|apply n_|apply o_|refine p_ (fun _=>?_) (fun _=>?_))<;>(conv=>whnf)));all_goals first | (exfalso;omega) | skip
   refine LoopC.mk Nat (fun k=>[(2,.d (.ptr 2 0)),(3,.d (.ptr 3 0)),(4,.d (.c (.sl 2 (F.map nestC)))),(8,pInt .i64 (k:Int))]) (fun k=>[(2,.box apTr [.c (.v (.slice none 0 0)),.c (.v (.slice none 0 0))]),(3,.box apTr [.app 160 plT 1 ((F.take k).map prR),.c (.sl 1 (upC Up))]),(160,.tail plT 1)]) [2,3,160] (fun k=>k<=F.length) (fun k=>F.length - k) 0 (zero_le _) ?start2 ?round2
   case start2=>exact Wk.mk [(2,2),(3,3)] rfl rfl ⟨⟨rfl,rfl,rfl⟩,⟨rfl,rfl,rfl⟩,.inl rfl,.inl rfl,trivial⟩ ⟨⟨rfl,rfl,.inl rfl,.inl rfl,rfl⟩,⟨rfl,rfl,⟨rfl,rfl,zero_lt_succ _,rfl,rfl⟩,.inl rfl,rfl⟩,⟨rfl,zero_lt_succ _⟩,trivial⟩
   case round2=>
    intro k hk;by_cases hkl:k<F.length
    ·obtain⟨m,hm⟩:∃m,m=F[k]:=⟨_,rfl⟩;have hrow:(F.map nestC)[k]? = some [.sl 2 (m.pairs.map PairD.c),.sl 2 (m.kids.map nestC)]:=by rw[<- nestC_eq,List.getElem?_map,List.getElem?_eq_getElem hkl,hm];rfl
     have hsn:(F.take (k+1)).map prR=(F.take k).map prR++[prR m]:=by rw[List.take_succ_eq_append_getElem hkl,map_append,<- hm];rfl
     have hlk:((F.take k).map prR).length=k:=by rw[length_map,length_take];omega
     ((conv=>whnf);repeat' ((first|(with_reducible first|apply a_|apply b_|apply c_)|((with_reducible first|apply d_|apply e_|apply f_|apply g_);focus first|omega|(simp only[q_]<;>omega))|((with_reducible first|apply i_|apply h_);focus first|omega|(simp only[q_]<;>omega))|((with_reducible apply h_);focus first|decide|kernel_rfl)|refine s_ (by decide) ?_|refine t_ (by decide) ?_|(first|refine Idx.at' hrow rfl ?_|refine Need.by1 24 rfl (by rw[hlk];simp only[length_cons,length_nil];omega) ?_)|with_reducible first|apply l_|apply m_|apply n_|apply o_|refine p_ (fun _=>?_) (fun _=>?_))<;>(conv=>whnf)));all_goals first|exact⟨k+1,by omega,by omega,[(2,2),(3,3),(160,60)],rfl,rfl,⟨⟨rfl,rfl,rfl⟩,⟨rfl,rfl,rfl⟩,.inl rfl,PLe.int (by omega),trivial⟩,⟨⟨rfl,rfl,.inl rfl,.inl rfl,rfl⟩,⟨rfl,rfl,⟨rfl,rfl,rfl,rfl,by rw[hsn]⟩,.inl rfl,rfl⟩,⟨rfl,rfl,rfl⟩,trivial⟩⟩|(exfalso;omega)|skip
    ·have hlv:(F.take k).map prR=lvC (lvs 0 F):=by
      rw[take_of_length_le (by omega),lvs];unfold lvC;rw[map_map];rfl
     rw[hlv];((conv=>whnf);repeat' ((first|(with_reducible first|apply a_|apply b_|apply c_)|((with_reducible first|apply d_|apply e_|apply f_|apply g_);focus first|omega|(simp only[q_]<;>omega))|((with_reducible first|apply i_|apply h_);focus first|omega|(simp only[q_]<;>omega))|((with_reducible apply h_);focus first|decide|kernel_rfl)|refine s_ (by decide) ?_|refine t_ (by decide) ?_|with_reducible first|apply l_|apply m_|apply n_|apply o_|refine p_ (fun _=>?_) (fun _=>?_))<;>(conv=>whnf)));all_goals first|exact Ret.le ⟨rfl,.inl rfl,rfl⟩|exact Ret.mk rfl|(exfalso;omega)|skip
  | succ j=>
   have hk0:=length_pos_iff.2 (k2 m0 hm0).1;have hn1:∀m∈F.flatMap Nest.kids,tall j m:=fun m hm=>by
    obtain⟨x,hx,hm⟩:=mem_flatMap.1 hm;exact (tall_node (k1 x hx)).2.2 m hm
   have hn2:∀m∈F.flatMap Nest.kids,fullN j m:=fun m hm=>by
    obtain⟨x,hx,hm⟩:=mem_flatMap.1 hm;exact (k2 x hx).2.2 m hm
   have hn3:F.flatMap Nest.kids≠[]:=fun e=>by
    have h2:=fm_le F 1;rw[e,hF0,take_succ_cons,flatMap_cons,length_append] at h2;have h2:m0.kids.length+_<=0:=h2;omega
   have k4':lvs j (F.flatMap Nest.kids)=lvs H [n]:=k4;have k5':ups j (F.flatMap Nest.kids)++(F.map Nest.size::Up)=ups H [n]:=by
    rw[<- k5,ups,append_assoc];rfl
   have hb2:=lvs_big j _ hn2;rw[k4'] at hb2;((conv=>whnf);repeat' ((first|(with_reducible first|apply a_|apply b_|apply c_)|((with_reducible first|apply d_|apply e_|apply f_|apply g_);focus first|omega|(simp only[q_]<;>omega))|((with_reducible first|apply i_|apply h_);focus first|omega|(simp only[q_]<;>omega))|((with_reducible apply h_);focus first|decide|kernel_rfl)|refine s_ (by decide) ?_|refine t_ (by decide) ?_|(refine Idx.at' hrow0 rfl ?_)|with_reducible first|apply l_|apply m_|apply n_|apply o_|refine p_ (fun _=>?_) (fun _=>?_))<;>(conv=>whnf)));all_goals first | (exfalso;omega) | skip
   refine LoopC.mk Nat (fun k=>[(2,.d (.ptr 2 0)),(3,.d (.ptr 3 0)),(4,.d (.c (.sl 2 (F.map nestC)))),(5,.d (.app 160 nT2 2 (((F.take k).flatMap Nest.kids).map nestC))),(6,.d (.app 161 apIn 1 ((F.take k).map szC))),(7,pInt .i64 (k:Int))]) (fun _=>[(2,.box apTr [.c (.v (.slice none 0 0)),.c (.v (.slice none 0 0))]),(3,.box apTr [.c (.v (.slice none 0 0)),.c (.sl 1 (upC Up))]),(160,.tail nT2 2),(161,.tail apIn 1)]) [2,3,160,161] (fun k=>k<=F.length) (fun k=>F.length - k) 0 (zero_le _) ?start3 ?round3
   case start3=>exact Wk.mk [(2,2),(3,3)] rfl rfl ⟨⟨rfl,rfl,rfl⟩,⟨rfl,rfl,rfl⟩,.inl rfl,⟨rfl,rfl,zero_lt_succ _,rfl,rfl⟩,⟨rfl,rfl,zero_lt_succ _,rfl,rfl⟩,.inl rfl,trivial⟩ ⟨⟨rfl,rfl,.inl rfl,.inl rfl,rfl⟩,⟨rfl,rfl,.inl rfl,.inl rfl,rfl⟩,⟨rfl,zero_lt_succ _⟩,⟨rfl,zero_lt_succ _⟩,trivial⟩
   case round3=>
    intro k hk;by_cases hkl:k<F.length
    ·obtain⟨m,hm⟩:∃m,m=F[k]:=⟨_,rfl⟩;have hrow:(F.map nestC)[k]? = some [.sl 2 (m.pairs.map PairD.c),.sl 2 (m.kids.map nestC)]:=by rw[<- nestC_eq,List.getElem?_map,List.getElem?_eq_getElem hkl,hm];rfl
     have hsn:(F.take (k+1)).map szC=(F.take k).map szC++[szC m]:=by rw[List.take_succ_eq_append_getElem hkl,map_append,<- hm];rfl
     have hlk:((F.take k).map szC).length=k:=by rw[length_map,length_take];omega
     have hfs:=fm_snoc hkl;have hf1:=fm_le F (k+1);rw[<- hm] at hfs;rw[hfs,length_append] at hf1;have hnm:(((F.take k).flatMap Nest.kids).map nestC).length=((F.take k).flatMap Nest.kids).length:=length_map _;have hkm:(m.kids.map nestC).length=m.kids.length:=length_map _;((conv=>whnf);repeat' ((first|(with_reducible first|apply a_|apply b_|apply c_)|((with_reducible first|apply d_|apply e_|apply f_|apply g_);focus first|omega|(simp only[q_]<;>omega))|((with_reducible first|apply i_|apply h_);focus first|omega|(simp only[q_]<;>omega))|((with_reducible apply h_);focus first|decide|kernel_rfl)|refine s_ (by decide) ?_|refine t_ (by decide) ?_|(first|refine Idx.at' hrow rfl ?_|refine Need.by1 8 rfl (by rw[hlk];simp only[length_cons,length_nil];omega) ?_|refine Need.by1 48 rfl (by rw[hnm,hkm];omega) ?_)|with_reducible first|apply l_|apply m_|apply n_|apply o_|refine p_ (fun _=>?_) (fun _=>?_))<;>(conv=>whnf)));all_goals first|exact⟨k+1,by omega,by omega,[(2,2),(3,3),(160,38),(161,31)],rfl,rfl,⟨⟨rfl,rfl,rfl⟩,⟨rfl,rfl,rfl⟩,.inl rfl,⟨rfl,rfl,rfl,rfl,by rw[hfs,map_append]⟩,⟨rfl,rfl,rfl,rfl,by rw[hsn,hkm]⟩,PLe.int (by omega),trivial⟩,⟨⟨rfl,rfl,.inl rfl,.inl rfl,rfl⟩,⟨rfl,rfl,.inl rfl,.inl rfl,rfl⟩,⟨rfl,rfl,rfl⟩,⟨rfl,rfl,rfl⟩,trivial⟩⟩|(exfalso;omega)|skip
    ·rw[take_of_length_le (by omega),sz_nat k1];have hup:=congrArg List.length k5;rw[length_append,ups_len,ups_len] at hup;have hum:(upC Up).length=Up.length:=length_map _;((conv=>whnf);repeat' ((first|(with_reducible first|apply a_|apply b_|apply c_)|((with_reducible first|apply d_|apply e_|apply f_|apply g_);focus first|omega|(simp only[q_]<;>omega))|((with_reducible first|apply i_|apply h_);focus first|omega|(simp only[q_]<;>omega))|((with_reducible apply h_);focus first|decide|kernel_rfl)|refine s_ (by decide) ?_|refine t_ (by decide) ?_|(first|refine Need.by1 24 rfl (by rw[hum];simp only[length_cons,length_nil];omega) ?_)|with_reducible first|apply l_|apply m_|apply n_|apply o_|refine p_ (fun _=>?_) (fun _=>?_))<;>(conv=>whnf)));all_goals first|exact⟨(j,F.flatMap Nest.kids,F.map Nest.size::Up),⟨hn1,hn2,hn3,k4',k5'⟩,lt_succ_self _,[(2,2),(3,3)],rfl,rfl,⟨⟨rfl,rfl,rfl⟩,⟨rfl,rfl,rfl⟩,rfl,trivial⟩,⟨⟨rfl,rfl,.inl rfl,.inl rfl,rfl⟩,⟨rfl,rfl,.inl rfl,rfl,rfl⟩,trivial⟩⟩|(exfalso;omega)|skip
end
section
open Go.RowKit K
open Tr
theorem found_cases (l:List PairD) (h:Asc l) (key:List UInt8):(∃k,∃hk:k<l.length,foundF l key=k/\l[k].Key=key/\lookP l key=some l[k].Id)\/(foundF l key=-1/\lookP l key=none):=by
 cases hq:lookP l key with
 | none=>exact .inr ⟨foundF_no (look_none.1 hq),rfl⟩
 | some i=>
  obtain⟨p,h1,h2,h3⟩:=(look_some h).1 hq;obtain⟨k,hk,rfl⟩:=List.getElem_of_mem h1;refine .inl ⟨k,hk,foundF_at hk (fun q hq' e=>?_) h2,h2,by rw[<- h3]⟩;obtain⟨j,hj,rfl⟩:=List.mem_take_iff_getElem.1 hq';have hjk:j<k:=by omega
  have:=List.pairwise_iff_getElem.1 h j k (by omega) hk hjk;rw[e,h2] at this;exact lt_irr _ this
end
section
open Go.RowKit K
open Tr
theorem full_of:∀(h:Nat) (n:Nest),wfN h n->(∀l∈lvs h [n],l≠[]/\l.length<=1000/\∀p∈l,okText p.Key)->fullN h n
 | 0,.leaf ps,_,hl=>hl ps mem_cons_self
 | 0,.node _,hw,_=>hw.1.elim
 | h+1,.leaf _,hw,_=>hw.1.elim
 | h+1,.node ks,hw,hl=>⟨fun e=>by
   have h2:2<=ks.length:=hw.2.1;have e:ks=[]:=e;rw[e] at h2;exact absurd h2 (by decide),by have h2:ks.length<=4:=hw.2.2.1;show ks.length<=1000;omega,fun k hk=>full_of h k ⟨hw.1 k hk,hw.2.2.2 k hk⟩ fun l hl'=>hl l (by
   rw[show lvs (h+1) [Nest.node ks]=lvs h ks by rw[lvs,List.flatMap_singleton];rfl];obtain⟨a,b,rfl⟩:=List.append_of_mem hk;rw[show a++k::b=a++([k]++b) by simp,lvs_app,lvs_app];exact mem_append_right _ (mem_append_left _ hl'))⟩
theorem full_tree {H:Nat} {n:Nest} (hw:wfN H n) (h:TreeOk (lvs H [n]) (ups H [n])) (hk:∀p∈(lvs H [n]).flatten,okText p.Key):fullN H n:=
 full_of H n hw fun l hl=>by
  have:=h.sizes l hl;exact⟨fun e=>by rw[e] at this;exact absurd this.2.1 (by decide),by omega,fun p hp=>hk p (mem_flatten.2 ⟨l,hl,hp⟩)⟩
theorem flat_tree {H:Nat} {n:Nest} (hw:wfN H n) (h:TreeOk (lvs H [n]) (ups H [n])) (hk:∀p∈(lvs H [n]).flatten,okText p.Key):Pure Try.prog 23 [nsV n] (trD ⟨lvs H [n],intU (ups H [n])⟩):=
 p_flatof H n hw.1 (full_tree hw h hk) (by have:=h.many;omega) (by have:=h.deep;rw[ups_len] at this;omega)
set_option maxHeartbeats 4000000 in
theorem p_insertof (t:TreeD) (ht:t.ok) (p:PairD) (hp:p.ok) (z:t.Leaves.length<=1048576/\∀l∈t.Leaves,l.length<=1048576) :
  Pure Try.prog 6 [trD t,pStr (tx p.Key),pInt .i64 p.Id] (.tup [trD (insT t p),pInt .i64 (insE t p.Key)]):=by
 have hd:=dok_in ht;have pw:=p_treecheckR t hd;have pp:=p_pairsof t z.1 z.2;have hfb:=(flat_bounds (L:=t.Leaves) (a:=0) (b:=1048576) fun l hl=>⟨zero_le _,z.2 l hl⟩).2;have hz1:=z.1;have hfl:(flatD t).length<=1099511627776:=by
  show t.Leaves.flatten.length<=_;omega
 have po:=p_foundof (flatD t) (by omega) p.Key;have hfm:((flatD t).map PairD.c).length=(flatD t).length:=length_map _;have hks:(tx p.Key).size=p.Key.length:=rfl;have hpk:p.Key.length<=140737488351232:=hp.1;refine pure_of Try.func6 (by rfl) rfl (by kernel_rfl) (by rfl) ?_;by_cases hc:chkD t=0
 ·have hfE:=findE_of hc p.Key;obtain⟨U,hU,hok⟩:=chk_ok hc;have h64:(flatD t).length<=64:=hok.count;have hasc:Asc (flatD t):=hok.asc;rw[hc] at pw;by_cases hk40:40<p.Key.length
  ·rw[if_pos hk40] at hfE;have he:insE t p.Key=2:=by unfold insE;rw[hfE];rfl
   rw[insT_err (by rw[he];decide),he];((conv=>whnf);repeat' ((first|(with_reducible first|apply a_|apply b_|apply c_)|((with_reducible first|apply d_|apply e_|apply f_|apply g_);focus first|omega|(simp only[q_]<;>omega))|((with_reducible first|apply i_|apply h_);focus first|omega|(simp only[q_]<;>omega))|((with_reducible apply h_);focus first|decide|kernel_rfl)|refine s_ (by decide) ?_|refine t_ (by decide) ?_|refine r_ pw rfl ?_|refine r_ pp rfl ?_|refine r_ po rfl ?_|with_reducible first|apply l_|apply m_|apply n_|apply o_|refine p_ (fun _=>?_) (fun _=>?_))<;>(conv=>whnf)));all_goals first|exact Ret.le ⟨⟨.inr ⟨⟨1,rfl⟩,.inl rfl⟩,.inr ⟨⟨1,rfl⟩,.inl rfl⟩,rfl⟩,.inl rfl,rfl⟩|(exfalso;omega)|skip
  rw[if_neg hk40] at hfE;rcases found_cases (flatD t) hasc p.Key with ⟨k,hkl,e1,e2,e3⟩ | ⟨e1,e3⟩
  ·have he:insE t p.Key=6:=by unfold insE;rw[hfE,findB_of hfE,e3];rfl
   rw[insT_err (by rw[he];decide),he];rw[e1] at po;((conv=>whnf);repeat' ((first|(with_reducible first|apply a_|apply b_|apply c_)|((with_reducible first|apply d_|apply e_|apply f_|apply g_);focus first|omega|(simp only[q_]<;>omega))|((with_reducible first|apply i_|apply h_);focus first|omega|(simp only[q_]<;>omega))|((with_reducible apply h_);focus first|decide|kernel_rfl)|refine s_ (by decide) ?_|refine t_ (by decide) ?_|refine r_ pw rfl ?_|refine r_ pp rfl ?_|refine r_ po rfl ?_|with_reducible first|apply l_|apply m_|apply n_|apply o_|refine p_ (fun _=>?_) (fun _=>?_))<;>(conv=>whnf)));all_goals first|exact Ret.le ⟨⟨.inr ⟨⟨1,rfl⟩,.inl rfl⟩,.inr ⟨⟨1,rfl⟩,.inl rfl⟩,rfl⟩,.inl rfl,rfl⟩|(exfalso;omega)|skip
  rw[e1] at po;by_cases h6:(flatD t).length=64
  ·have he:insE t p.Key=2:=by
    unfold insE;rw[hfE,findB_of hfE,e3,if_neg (by decide),if_neg (by decide)];exact if_pos h6
   rw[insT_err (by rw[he];decide),he];((conv=>whnf);repeat' ((first|(with_reducible first|apply a_|apply b_|apply c_)|((with_reducible first|apply d_|apply e_|apply f_|apply g_);focus first|omega|(simp only[q_]<;>omega))|((with_reducible first|apply i_|apply h_);focus first|omega|(simp only[q_]<;>omega))|((with_reducible apply h_);focus first|decide|kernel_rfl)|refine s_ (by decide) ?_|refine t_ (by decide) ?_|refine r_ pw rfl ?_|refine r_ pp rfl ?_|refine r_ po rfl ?_|with_reducible first|apply l_|apply m_|apply n_|apply o_|refine p_ (fun _=>?_) (fun _=>?_))<;>(conv=>whnf)));all_goals first|exact Ret.le ⟨⟨.inr ⟨⟨1,rfl⟩,.inl rfl⟩,.inr ⟨⟨1,rfl⟩,.inl rfl⟩,rfl⟩,.inl rfl,rfl⟩|(exfalso;omega)|skip
  have he:insE t p.Key=0:=by
   unfold insE;rw[hfE,findB_of hfE,e3,if_neg (by decide),if_neg (by decide)];exact if_neg h6
  rw[he];by_cases hL:t.Leaves=[]
  ·have hT:insT t p=⟨[[p]],[]⟩:=by
    unfold insT;rw[if_neg (not_not_intro he)];exact if_pos hL
   have h0:(flatD t).length=0:=by show t.Leaves.flatten.length=0;rw[hL];rfl
   rw[hT];((conv=>whnf);repeat' ((first|(with_reducible first|apply a_|apply b_|apply c_)|((with_reducible first|apply d_|apply e_|apply f_|apply g_);focus first|omega|(simp only[q_]<;>omega))|((with_reducible first|apply i_|apply h_);focus first|omega|(simp only[q_]<;>omega))|((with_reducible apply h_);focus first|decide|kernel_rfl)|refine s_ (by decide) ?_|refine t_ (by decide) ?_|refine r_ pw rfl ?_|refine r_ pp rfl ?_|refine r_ po rfl ?_|with_reducible first|apply l_|apply m_|apply n_|apply o_|refine p_ (fun _=>?_) (fun _=>?_))<;>(conv=>whnf)));all_goals first|exact Ret.le ⟨⟨.inl rfl,.inr ⟨⟨1,rfl⟩,.inl rfl⟩,rfl⟩,.inl rfl,rfl⟩|(exfalso;omega)|skip
  ·rcases t with ⟨L,Us⟩;have hU:Us=intU U:=hU;subst hU
   replace hok:TreeOk L U:=hok
   have hL:L≠[]:=hL;have hT:insT ⟨L,intU U⟩ p=⟨(insF L U (leafF L U p.Key U.length 0) p).1,intU (insF L U (leafF L U p.Key U.length 0) p).2⟩:=by
    unfold insT insR;rw[if_neg (not_not_intro he),natU_int];exact if_neg hL
   have hnew:∀q∈L.flatten,q.Key≠p.Key:=look_none.1 e3;have h64:L.flatten.length<=64:=h64;have h6:¬L.flatten.length=64:=h6;have hkeys:∀q∈L.flatten,okText q.Key:=fun q hq=>by
    obtain⟨l,hl,hq⟩:=mem_flatten.1 hq;exact (hd.keys l hl q hq).1
   have hpos:1<=(flatD ⟨L,intU U⟩).length:=by
    show 1<=L.flatten.length;cases L with
    | nil=>exact absurd rfl hL
    | cons l L'=>
     have:=hok.sizes l mem_cons_self;rw[flatten_cons,length_append];omega
   obtain⟨H,e5,e6,e7,e8⟩:=ins_ok hok hL p (by omega) hnew (by omega);obtain⟨n1,n2,n3,_⟩:=nestT_ok hok hL;have hfull:=full_tree n1 (by rw[n2,n3];exact hok) (by rw[n2];exact hkeys);rw[hT,e5];have pn:=p_nestof hok hL;have pt:=p_nput U.length (nestT L U) p n1.1 n1.2 hfull hp.1;have hpl:=putN_len U.length (nestT L U) p;obtain⟨out,hout⟩:∃out,out=putN U.length (nestT L U) p:=⟨_,rfl⟩;rw[<- hout] at e6 e7 e8 pt hpl ⊢;have pf:=flat_tree e6 e7 fun q hq=>by
    rw[e8,insP_mem] at hq;rcases hq with rfl | hq
    ·exact hp.1
    ·exact hkeys q hq
   rw[nsV_eq] at pn pt;have pw:Pure Try.prog 18 [.agg [.c (.sl 1 (lvC L)),.c (.sl 1 (upC U))]] (pInt .i64 0):=by
    rw[<- upI_int];exact pw
   have pp:Pure Try.prog 19 [.agg [.c (.sl 1 (lvC L)),.c (.sl 1 (upC U))]] (lfV (flatD ⟨L,intU U⟩)):=by
    rw[<- upI_int];exact pp
   have hgo:argsE [trD ⟨L,intU U⟩,pStr (tx p.Key),pInt .i64 p.Id]=argsE [.agg [.c (.sl 1 (lvC L)),.c (.sl 1 (upC U))],pStr (tx p.Key),pInt .i64 p.Id]:=by
    rw[show trD ⟨L,intU U⟩=.agg [.c (.sl 1 (lvC L)),.c (.sl 1 (upI (intU U)))] from rfl,upI_int]
   rw[hgo];match out,hpl with
   | [m],_=>
    have pf:Pure Try.prog 23 [nsV m] (trD ⟨lvs H [fin [m]],intU (ups H [fin [m]])⟩):=pf;rw[nsV_eq] at pf;have hrow:[nestC m][0]? = some [.sl 2 (m.pairs.map PairD.c),.sl 2 (m.kids.map nestC)]:=by rw[<- nestC_eq];rfl
    have pt:Pure Try.prog 22 _ (.d (.c (.sl 2 [nestC m]))):=pt;((conv=>whnf);repeat' ((first|(with_reducible first|apply a_|apply b_|apply c_)|((with_reducible first|apply d_|apply e_|apply f_|apply g_);focus first|omega|(simp only[q_]<;>omega))|((with_reducible first|apply i_|apply h_);focus first|omega|(simp only[q_]<;>omega))|((with_reducible apply h_);focus first|decide|kernel_rfl)|refine s_ (by decide) ?_|refine t_ (by decide) ?_|(refine Idx.at' hrow rfl ?_)|refine r_ pw rfl ?_|refine r_ pp rfl ?_|refine r_ po rfl ?_|refine r_ pn rfl ?_|refine r_ pt rfl ?_|refine r_ pf rfl ?_|with_reducible first|apply l_|apply m_|apply n_|apply o_|refine p_ (fun _=>?_) (fun _=>?_))<;>(conv=>whnf)));all_goals first|exact Ret.mk rfl|(exfalso;omega)|skip
   | [x,y],_=>
    have pf:Pure Try.prog 23 [nsV (.node [x,y])] (trD ⟨lvs H [fin [x,y]],intU (ups H [fin [x,y]])⟩):=pf;rw[nsV_eq] at pf;have pf:=pf.sub (.cons (PSub.agg (r:=[.sl 2 [],.sl 2 [nestC x,nestC y]]) (r':=[.v (.slice none 0 0),.sl 2 [nestC x,nestC y]]) (.cons (CSub.nil 2) (.cons (CSub.refl _) .nil))) .nil);have pf:Pure Try.prog 23 [.agg [.c (.v (.slice none 0 0)),.c (.sl 2 [nestC x,nestC y])]] (trD ⟨lvs H [fin [x,y]],intU (ups H [fin [x,y]])⟩):=pf;have pt:Pure Try.prog 22 _ (.d (.c (.sl 2 [nestC x,nestC y]))):=pt;((conv=>whnf);repeat' ((first|(with_reducible first|apply a_|apply b_|apply c_)|((with_reducible first|apply d_|apply e_|apply f_|apply g_);focus first|omega|(simp only[q_]<;>omega))|((with_reducible first|apply i_|apply h_);focus first|omega|(simp only[q_]<;>omega))|((with_reducible apply h_);focus first|decide|kernel_rfl)|refine s_ (by decide) ?_|refine t_ (by decide) ?_|refine r_ pw rfl ?_|refine r_ pp rfl ?_|refine r_ po rfl ?_|refine r_ pn rfl ?_|refine r_ pt rfl ?_|refine r_ pf rfl ?_|with_reducible first|apply l_|apply m_|apply n_|apply o_|refine p_ (fun _=>?_) (fun _=>?_))<;>(conv=>whnf)));all_goals first|exact Ret.mk rfl|(exfalso;omega)|skip
 ·have hfE:findE t p.Key=chkD t:=if_pos hc;have he:insE t p.Key=chkD t:=by unfold insE;rw[hfE,if_pos hc]
  rw[insT_err (by rw[he];exact hc),he];((conv=>whnf);repeat' ((first|(with_reducible first|apply a_|apply b_|apply c_)|((with_reducible first|apply d_|apply e_|apply f_|apply g_);focus first|omega|(simp only[q_]<;>omega))|((with_reducible first|apply i_|apply h_);focus first|omega|(simp only[q_]<;>omega))|((with_reducible apply h_);focus first|decide|kernel_rfl)|refine s_ (by decide) ?_|refine t_ (by decide) ?_|refine r_ pw rfl ?_|refine r_ pp rfl ?_|refine r_ po rfl ?_|with_reducible first|apply l_|apply m_|apply n_|apply o_|refine p_ (fun _=>?_) (fun _=>?_))<;>(conv=>whnf)));all_goals first|exact Ret.le ⟨⟨.inr ⟨⟨1,rfl⟩,.inl rfl⟩,.inr ⟨⟨1,rfl⟩,.inl rfl⟩,rfl⟩,.inl rfl,rfl⟩|(exfalso;omega)|skip
theorem law_TreeInserts (t:TreeD) (ht:t.ok) (key:List UInt8) (hk:okText key) (id:Int) (hi:okInt id) (z:t.Leaves.length<=1048576/\∀l∈t.Leaves,l.length<=1048576) :
  Pure Try.prog 3 [.agg (t.c.map D.c),pStr (tx key),pInt .i64 id] (pBool true):=by
 have hd:=dok_in ht;have pi:Pure Try.prog 5 [trD t,pStr (tx key),pInt .i64 id] (.tup [trD (insT t ⟨key,id⟩),pInt .i64 (insE t key)]):=p_Insert t hd ⟨key,id⟩ hk;have pj:Pure Try.prog 6 [trD t,pStr (tx key),pInt .i64 id] (.tup [trD (insT t ⟨key,id⟩),pInt .i64 (insE t key)]):=p_insertof t ht ⟨key,id⟩ ⟨hk,hi⟩ z;have pb:=p_treebegun;have ps:Pure Try.prog 8 [trD (insT t ⟨key,id⟩),trD (insT t ⟨key,id⟩)] (pBool true):=by
  by_cases he:insE t key=0
  ·exact (ins_good hd (p:=⟨key,id⟩) ⟨hk,hi⟩ he).same
  ·rw[insT_err (p:=⟨key,id⟩) he];exact small_tree treeOk_nil
 show Pure _ _ [trD t,_,_] _;refine pure_of Try.func3 (by rfl) rfl (by kernel_rfl) (by rfl) ?_;((conv=>whnf);repeat' ((first|(with_reducible first|apply a_|apply b_|apply c_)|((with_reducible first|apply d_|apply e_|apply f_|apply g_);focus first|omega|(simp only[q_]<;>omega))|((with_reducible first|apply i_|apply h_);focus first|omega|(simp only[q_]<;>omega))|((with_reducible apply h_);focus first|decide|kernel_rfl)|refine s_ (by decide) ?_|refine t_ (by decide) ?_|refine r_ pi rfl ?_|refine r_ pj rfl ?_|refine r_ pb rfl ?_|refine r_ ps rfl ?_|with_reducible first|apply l_|apply m_|apply n_|apply o_|refine p_ (fun _=>?_) (fun _=>?_))<;>(conv=>whnf)));all_goals first|exact Ret.bool rfl|exact Ret.bool (beq_self_eq_true _) | (exfalso;omega) | skip
end
end Go.Proofs.Ytdjbckknghddpaa.Pm
