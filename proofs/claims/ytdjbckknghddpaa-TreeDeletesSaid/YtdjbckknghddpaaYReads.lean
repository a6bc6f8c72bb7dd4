/- What is handed in, opened: the cells of a type stand for a plain value -/
import Derived.Test.YtdjbckknghddpaaYOpen
import Derived.Test.YtdjbckknghddpaaYRws
namespace Go.Proofs.Ytdjbckknghddpaa.K
open Go.ChangeShapes Go.WideShapes Go.ChangeAt Go.RowKit
def Light {H:Type} (P:Program) (t:TypeId) (d:DataW H):Prop:=(d.weights P t).all (·≤reachBytes)=true
def Opens (P:Program) (t:TypeId) (sz:Nat) {α:Type} (R:World→List Value→α→Prop) (ok:α→Prop):Prop:=
 P.cellsOf t=sz∧0<sz∧∀{H:Type} {enc:TypeId×Value→H} {w:World} {spare:Nat→Bool} {held:Bool} {fuel:Nat} {cs:List Value} {x:DataW H×List MemPlace},
  DataW.trod enc P w 0 spare held fuel t cs=some x→Light P t x.1→cs.length=sz∧∃a,R w cs a∧ok a
section
variable {P:Program}
theorem opens_int {t:TypeId} {k:IntKind} (hu:P.underlying t=some (.int k)) (hc:P.cellsOf t=1):Opens P t 1 (fun _ cs a=>cs=[.int k a]) (fun a=>(Lit.int k a).wf=true):=by
 refine⟨hc,by decide,fun h _=>?_⟩
 obtain⟨n,rfl,_,hw⟩:=DataW.trod_int hu h
 exact⟨rfl,n,rfl,hw⟩
theorem opens_i64 {t:TypeId} (hu:P.underlying t=some (.int .i64)) (hc:P.cellsOf t=1):Opens P t 1 (fun _ cs a=>cs=[.int .i64 a]) (fun a=>-9223372036854775808≤a∧a≤9223372036854775807):=by
 obtain⟨h1,h2,h3⟩:=opens_int hu hc
 refine⟨h1,h2,fun h l=>?_⟩
 obtain⟨h4,a,h5,h6⟩:=h3 h l
 exact⟨h4,a,h5,by simpa [Lit.wf,IntKind.min,IntKind.max,IntKind.signed,IntKind.bits] using h6⟩
theorem opens_string {t:TypeId} (hu:P.underlying t=some .string) (hc:P.cellsOf t=1):Opens P t 1 (fun _ cs a=>cs=[.string a]) (fun a=>a.size≤140737488351232):=by
 refine⟨hc,by decide,fun h hl=>?_⟩
 obtain⟨s,rfl,rfl,_⟩:=DataW.trod_string hu h
 refine⟨rfl,s,rfl,?_⟩
 unfold Light at hl
 simp[DataW.weights,reachBytes] at hl
 exact of_decide_eq_true hl
theorem weights_mem_all {H:Type} {e:TypeId}:∀{ds:List (DataW H)} {d:DataW H},d∈ds→∀n∈d.weights P e,n∈DataW.weightsAll P e ds
 | d0::ds,d,hd,n,hn=>by
  simp only[DataW.weightsAll,List.mem_append]
  rcases List.mem_cons.1 hd with rfl | hd
  ·exact .inl hn
  ·exact .inr (weights_mem_all hd n hn)
def SeenR {α:Type} (R:World→List Value→α→Prop) (sz:Nat) (w:World) (v:Value) (l:List α):Prop:=
 ∃css:List (List Value),Seen w v l.length sz css.flatten∧css.length=l.length∧∀(i:Nat) c x,css[i]? = some c→l[i]? = some x→c.length=sz∧R w c x
theorem choose_list {β α:Type} (Q:β→α→Prop) (ok:α→Prop):∀(cs:List β),(∀c∈cs,∃x,Q c x∧ok x)→∃l:List α,l.length=cs.length∧(∀x∈l,ok x)∧∀(i:Nat) (c:β) (x:α),cs[i]? = some c→l[i]? = some x→Q c x
 | [],_=>⟨[],rfl,by simp,by simp⟩
 | c::cs,h=>by
  obtain⟨x,hx,ho⟩:=h c (List.mem_cons_self ..)
  obtain⟨l,h1,h2,h3⟩:=choose_list Q ok cs fun d hd=>h d (List.mem_cons_of_mem _ hd)
  refine⟨x::l,by simp[h1],by simpa using ⟨ho,h2⟩,fun i d y hd hy=>?_⟩
  cases i with
  | zero=>simp at hd hy;subst hd;subst hy;exact hx
  | succ i=>exact h3 i d y (by simpa using hd) (by simpa using hy)
theorem opens_slice {t e:TypeId} {sz:Nat} {α:Type} {R:World→List Value→α→Prop} {ok:α→Prop} (hu:P.underlying t=some (.slice e)) (hc:P.cellsOf t=1) (he:Opens P e sz R ok) :
  Opens P t 1 (fun w cs l=>∃v,cs=[v]∧SeenR R sz w v l) (fun l=>l.length*P.bytesOf e≤140737488351232∧∀x∈l,ok x):=by
 obtain⟨hce,hsz,hel0⟩:=he
 refine⟨hc,by decide,?_⟩
 intro H enc w spare held fuel cs x hf hl
 rcases DataW.trod_slice hu hf with ⟨rfl,hx⟩ | ⟨a,len,cap,elems,rest,n,_,rfl,hx,hb,hlc,hm,hlen,hel,hsp,hns⟩
 ·exact⟨rfl,[],⟨_,rfl,[],Seen.nil _ _,rfl,by simp⟩,by simp,by simp⟩
 ·refine⟨rfl,?_⟩
  rw[hce] at hel
  have each:∀i,i<len→∃c y,w.cells? 0 (a.add (i*sz)) sz=some c∧elems[i]? = some y∧DataW.trod enc P w 0 spare held n e c=some y:=by
   intro i hi
   have:=hel i hi
   rw[List.getElem?_eq_getElem (by omega)] at this
   obtain⟨c,h1,h2⟩:=Option.bind_eq_some_iff.1 this
   exact⟨c,_,h1,List.getElem?_eq_getElem (by omega),h2⟩
  let css:=(List.range len).map fun i=>(w.cells? 0 (a.add (i*sz)) sz).getD []
  have hcl:css.length=len:=by simp[css]
  have hcg:∀i,i<len→css[i]? = w.cells? 0 (a.add (i*sz)) sz:=by
   intro i hi
   obtain⟨c,y,h1,_⟩:=each i hi
   simp[css,hi,h1]
  have hcsz:∀c∈css,c.length=sz:=by
   intro c hcm
   obtain⟨i,hi⟩:=List.getElem?_of_mem hcm
   have hil:i<len:=by have:=(List.getElem?_eq_some_iff.1 hi).1;omega
   rw[hcg i hil] at hi
   exact (World.cells?_some hi).2.1
  unfold Light at hl
  have hx1:x.1=.slice (elems.map (·.1)) (rest.map (·.1)):=by rw[hx]
  rw[hx1] at hl
  simp only[DataW.weights,hu,List.all_cons,List.all_append,Bool.and_eq_true,decide_eq_true_eq,List.length_map] at hl
  obtain⟨hl1,hl2,_⟩:=hl
  have hall:∀c∈css,∃x,R w c x∧ok x:=by
   intro c hcm
   obtain⟨i,hi⟩:=List.getElem?_of_mem hcm
   have hil:i<len:=by have:=(List.getElem?_eq_some_iff.1 hi).1;omega
   obtain⟨c',y,h1,h2,h3⟩:=each i hil
   rw[hcg i hil,h1] at hi
   obtain rfl:=Option.some.inj hi
   refine (hel0 h3 ?_).2
   unfold Light
   rw[List.all_eq_true] at hl2 ⊢
   intro m hm
   exact hl2 m (weights_mem_all (List.mem_map.2 ⟨y,List.mem_of_getElem? h2,rfl⟩) m hm)
  obtain⟨l,hll,hok,hR⟩:=choose_list (R w) ok css hall
  refine⟨l,⟨_,rfl,css,⟨by rw[length_flat css hcsz,hll],some a,cap,by rw[hll,hcl],by omega,hm,(fun e=>by cases e),?_⟩,hll.symm,fun i c x h1 h2=>⟨hcsz c (List.mem_of_getElem? h1),hR i c x h1 h2⟩⟩,?_,hok⟩
  ·rcases Nat.eq_zero_or_pos len with h0 | hpos
   ·exact .inl (by omega)
   ·right
    obtain⟨b,off,spot⟩:=a
    obtain⟨c,y,h1,_⟩:=each 0 hpos
    have h2:=(World.cells?_some h1).2.2 0 hsz
    have h3:=(World.cells?_some h1).2.1
    rw[List.getElem?_eq_getElem (by omega)] at h2
    have hspot:spot=none:=by simpa [Addr.add] using World.cell?_spot h2
    subst hspot
    refine⟨b,off,rfl,?_,fun j u hu=>?_⟩
    ·unfold World.cell? at h2
     simp only[Addr.add,Nat.zero_mul,if_true] at h2
     by_cases hlt:b<w.heap.size
     ·exact hlt
     ·rw[Array.getElem?_eq_none (by omega)] at h2;simp at h2
    ·have hj:j<len*sz:=by have:=(List.getElem?_eq_some_iff.1 hu).1;rw[length_flat css hcsz,hcl] at this;exact this
     have hi:j / sz<len:=(Nat.div_lt_iff_lt_mul hsz).2 hj
     have hr:j%sz<sz:=Nat.mod_lt _ hsz
     have hjj:j=j / sz*sz+j%sz:=by rw[Nat.mul_comm];exact (Nat.div_add_mod j sz).symm
     rw[hjj,get_flat css hcsz _ _ hr] at hu
     obtain⟨c',h4,h5⟩:=Option.bind_eq_some_iff.1 hu
     rw[hcg _ hi] at h4
     have h6:=(World.cells?_some h4).2.2 _ hr
     rw[h5] at h6
     rw[add_add,← hjj] at h6
     exact h6
  ·have h5:l.length=elems.length:=by omega
   have h6:elems.length*P.bytesOf e≤(elems.length+rest.length)*P.bytesOf e:=Nat.mul_le_mul_right _ (by omega)
   have h4:reachBytes=140737488351232:=rfl
   rw[h5]
   omega
theorem field_of {t:TypeId} (ht:P.underlying t=some (.struct (P.fieldsOf t))) {H:Type} {enc:TypeId×Value→H} {w:World} {spare:Nat→Bool} {held:Bool} {fuel:Nat} {cs:List Value} {x:DataW H×List MemPlace}
  (h:DataW.trod enc P w 0 spare held fuel t cs=some x) (hl:Light P t x.1) (j:Nat) (tj off sz:Nat) (hj:((P.fieldsOf t)[j]?).map (fun f=>(f.type,f.offset))=some (tj,off))
  {α:Type} {R:World→List Value→α→Prop} {ok:α→Prop} (ho:Opens P tj sz R ok):∃a,R w ((cs.drop off).take sz) a∧ok a:=by
 obtain⟨xs,n,_,hx,_,hxl,hf⟩:=DataW.trod_struct ht h
 cases hfj:(P.fieldsOf t)[j]? with
 | none=>rw[hfj] at hj;simp at hj
 | some f=>
  rw[hfj] at hj
  simp only[Option.map_some,Option.some.injEq,Prod.mk.injEq] at hj
  obtain⟨rfl,rfl⟩:=hj
  have hjl:j<(P.fieldsOf t).size:=(Array.getElem?_eq_some_iff.1 hfj).1
  have hxs:xs[j]? = some (xs[j]'(by omega)):=List.getElem?_eq_getElem (by omega)
  have h1:=hf j f hfj
  rw[hxs,ho.1] at h1
  refine (ho.2.2 h1 ?_).2
  unfold Light at hl ⊢
  rw[List.all_eq_true] at hl ⊢
  intro m hm
  refine hl m ?_
  rw[hx]
  simp only[DataW.weights,ht]
  refine DataW.weights_mem_each (j:=j) (t:=f.type) (d:=(xs[j]'(by omega)).1) ?_ ?_ m hm
  ·rw[List.getElem?_map,Array.getElem?_toList,hfj];rfl
  ·rw[List.getElem?_map,hxs];rfl
theorem struct_len {t:TypeId} (ht:P.underlying t=some (.struct (P.fieldsOf t))) {H:Type} {enc:TypeId×Value→H} {w:World} {spare:Nat→Bool} {held:Bool} {fuel:Nat} {cs:List Value} {x:DataW H×List MemPlace}
  (h:DataW.trod enc P w 0 spare held fuel t cs=some x):cs.length=P.cellsOf t:=by
 obtain⟨xs,n,_,hx,hl,hxl,hf⟩:=DataW.trod_struct ht h
 exact hl
theorem agg_cells {t:TypeId} {fs:Array Field} (hu:P.underlying t=some (.struct fs)) {w:World} {r:Reach} {b:Nat} {v:Value} (hval:Value.okWide P w r b t v) {l:List Value} (h:v.cells.toList=l):v=.agg l.toArray:=by
 obtain⟨cs,rfl,_⟩:=okWide_struct hu hval
 subst h
 simp[Value.cells]
theorem open_param {t:TypeId} {sz:Nat} {α:Type} {R:World→List Value→α→Prop} {ok:α→Prop} (ho:Opens P t sz R ok) {H:Type} {enc:TypeId×Value→H} {w:World} {spare:Nat→Bool} {held:Bool} {v:Value} {d:DataW H} {ps:List MemPlace}
  (h:DataW.Trod enc P w 0 spare held t v d ps) {ts:List TypeId} {ds:List (DataW H)} (hsz:(DataW.weightsEach P ts ds).all (·≤reachBytes)=true) {j:Nat} (h1:ts[j]? = some t) (h2:ds[j]? = some d) :
  ∃a,R w v.cells.toList a∧ok a:=by
 obtain⟨fuel,hf⟩:=h
 refine (ho.2.2 hf ?_).2
 unfold Light
 rw[List.all_eq_true] at hsz ⊢
 intro m hm
 exact hsz m (DataW.weights_mem_each h1 h2 m hm)
end
end Go.Proofs.Ytdjbckknghddpaa.K
