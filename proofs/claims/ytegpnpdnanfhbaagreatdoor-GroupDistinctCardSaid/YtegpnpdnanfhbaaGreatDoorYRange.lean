/- A range over a function whose iterator keeps its state in a box of its own: the statement's law. -/
import Derived.Test.YtegpnpdnanfhbaaGreatDoorYRws
import Derived.Test.YtegpnpdnanfhbaaGreatDoorYBx
import Derived.RangeFuncNested
import Derived.RangeFuncBound
import Derived.RangeFuncCalls
import Derived.RangeFuncLeaves
import Derived.RangeFuncRecord
import Derived.RangeFuncBox
import Derived.OwnWalkIn
import Derived.TacticsInMore
import Derived.LoopNIn
import Derived.LoopIn
namespace Go.Proofs.YtegpnpdnanfhbaaGreatDoor.K
open Go.RowKit
structure Still (B S:Nat) (A A':World):Prop where
 os:A'.os=A.os
 tape:A'.tape=A.tape
 output:A'.output=A.output
 size:A.heap.size≤A'.heap.size
 same:∀(k:Nat) (o:Obj),A.heap[k]? = some o→k≠S→(k<B∨o.isCells=true)→A'.heap[k]? = some o
structure Spares (B S:Nat) (A A':World):Prop where
 size:A.heap.size≤A'.heap.size
 same:∀(k:Nat) (o:Obj),A.heap[k]? = some o→(k=S∨(B≤k∧o.isCells=false))→A'.heap[k]? = some o
section
variable {B S:Nat} {A A' C:World}
theorem Still.refl (A:World):Still B S A A:=⟨rfl,rfl,rfl,Nat.le_refl _,fun _ _ h _ _=>h⟩
theorem Still.trans (h:Still B S A A') (k:Still B S A' C):Still B S A C:=
 ⟨k.os.trans h.os,k.tape.trans h.tape,k.output.trans h.output,Nat.le_trans h.size k.size,fun i o hi hs ho=>k.same i o (h.same i o hi hs ho) hs ho⟩
theorem Still.of_below (h:Below A.heap.size A A'):Still B S A A':=
 ⟨h.os,h.tape,h.output,h.size,fun k o hk _ _=>by rw[h.block k (Array.getElem?_eq_some_iff.1 hk).1];exact hk⟩
theorem Still.drew (A:World):Still B S A A.drew:=⟨rfl,rfl,rfl,Nat.le_refl _,fun _ _ h _ _=>h⟩
theorem Still.put {l:Nat} {o:Obj} (o':Obj) (hl:B≤l) (h:A.heap[l]? = some o) (hc:o.isCells=false):Still B S A (A.putObj l o'):=
 ⟨rfl,rfl,rfl,by simp,fun k q hk hs hq=>by
  refine (World.putObj_heap_other ?_).trans hk
  rintro rfl
  rw[h] at hk;cases hk
  rcases hq with hq | hq
  ·omega
  ·rw[hc] at hq;cases hq⟩
theorem Still.state (v:Value) (A:World):Still B S A (A.setCell ⟨S,0,none⟩ v):=
 ⟨rfl,rfl,rfl,by rw[show (A.setCell ⟨S,0,none⟩ v).heap.size=A.heap.size from Array.size_modify];exact Nat.le_refl _,fun k q hk hs _=>by rw[heap_setCell_other _ _ _ _ hs];exact hk⟩
theorem Spares.refl (A:World):Spares B S A A:=⟨Nat.le_refl _,fun _ _ h _=>h⟩
theorem Spares.trans (h:Spares B S A A') (k:Spares B S A' C):Spares B S A C:=
 ⟨Nat.le_trans h.size k.size,fun i o hi ho=>k.same i o (h.same i o hi ho) ho⟩
theorem Spares.of_below (h:Below A.heap.size A A'):Spares B S A A':=
 ⟨h.size,fun k o hk _=>by rw[h.block k (Array.getElem?_eq_some_iff.1 hk).1];exact hk⟩
theorem Spares.of_others (h:KeepsOthers A A') (hs:A'.heap[S]? = A.heap[S]?):Spares B S A A':=
 ⟨h.size,fun k o hk ho=>by
  rcases ho with rfl | ⟨_,ho⟩
  ·rw[hs];exact hk
  ·exact h.same k o hk ho⟩
theorem Bx.still {g:Nat} {ys:List Value} (h:Bx g ys A) (hs:Still B S A A') (hg:g≠S):Bx g ys A':=by
 obtain⟨t,h⟩:=h
 exact⟨t,hs.same g _ h hg (.inr rfl)⟩
theorem own_still {B' e sz n:Nat} {v:Value} {cs:List Value} (h:A.ownsRow B' e sz v n cs) (hs:Still B S A A') (hS:S<B'):A'.ownsRow B' e sz v n cs:=by
 obtain⟨h0,h⟩:=h
 refine⟨h0,?_⟩
 rcases h with h | ⟨g,cap,cur,rfl,hg,hh,r⟩
 ·exact .inl h
 ·exact .inr ⟨g,cap,cur,rfl,hg,hs.same g _ hh (by omega) (.inr rfl),r⟩
theorem Below.still {n0:Nat} {w0:World} (h:Below n0 w0 A) (hs:Still B S A A') (hB:n0≤B) (hS:n0≤S) (h0:n0≤w0.heap.size):Below n0 w0 A':=
 ⟨hs.os.trans h.os,hs.tape.trans h.tape,hs.output.trans h.output,Nat.le_trans h.size hs.size,fun k hk=>by
  have h1:k<A.heap.size:=Nat.lt_of_lt_of_le (by omega) h.size
  have h2:A.heap[k]? = some A.heap[k]:=Array.getElem?_eq_getElem h1
  rw[hs.same k _ h2 (by omega) (.inl (by omega)),← h.block k hk,h2]⟩
end
structure Only (S:Nat) (A A':World):Prop where
 os:A'.os=A.os
 tape:A'.tape=A.tape
 output:A'.output=A.output
 size:A.heap.size≤A'.heap.size
 same:∀(k:Nat) (o:Obj),A.heap[k]? = some o→k≠S→A'.heap[k]? = some o
theorem Only.still {B S:Nat} {A A':World} (h:Only S A A'):Still B S A A':=⟨h.os,h.tape,h.output,h.size,fun k o hk hs _=>h.same k o hk hs⟩
theorem Only.of_below {S:Nat} {A A':World} (h:Below A.heap.size A A'):Only S A A':=
 ⟨h.os,h.tape,h.output,h.size,fun k o hk _=>by rw[h.block k (Array.getElem?_eq_some_iff.1 hk).1];exact hk⟩
theorem Only.state {S:Nat} (v:Value) (A:World):Only S A (A.setCell ⟨S,0,none⟩ v):=
 ⟨rfl,rfl,rfl,by rw[show (A.setCell ⟨S,0,none⟩ v).heap.size=A.heap.size from Array.size_modify];exact Nat.le_refl _,fun k q hk hs=>by rw[heap_setCell_other _ _ _ _ hs];exact hk⟩
theorem Only.trans {S:Nat} {A A' C:World} (h:Only S A A') (k:Only S A' C):Only S A C:=
 ⟨k.os.trans h.os,k.tape.trans h.tape,k.output.trans h.output,Nat.le_trans h.size k.size,fun i o hi hs=>k.same i o (h.same i o hi hs) hs⟩
def SeqSt {α:Type} (F:Fence) (n:Nat) (P:Program) (g:Nat) (lb:Array Value) (encs:α→Array Value) (S:Nat) (xs:List α) (T:World→Prop) (st:Option Obj):Prop:=
 ∀(l:Nat) (J Jx:List α→World→Prop) (W:World),W.heap[S]? = st→(∀s A,J s A→T A)→
  (∀s A A',J s A→Only S A A'→J s A')→(∀s A A',Jx s A→Only S A A'→Jx s A')→
  (∀pre x W1,J pre W1→xs[pre.length]? = some x→YieldAt F (n - 1) P l (encs x) W1 fun e W'=>
   (e=.returned (.bool true)∧J (pre++[x]) W'∧W1.heap.size≤W'.heap.size∧W'.heap[S]? = W1.heap[S]?)∨(e=.returned (.bool false)∧Jx (pre++[x]) W'))→
  J [] W→
  CallsIn F n P g (#[.func (.yield l) #[] #[]]++lb) W fun e W'=>(∃v,e=.returned v)∧(J xs W'∨∃pre,pre <+: xs∧Jx pre W')
def stPost {α:Type} (B S:Nat) (I:List α→World→Prop) (Ix:Code→List α→World→Prop) (xs:List α) (W:World):Exit→Act→World→Prop
 | .normal,_,W'=>Spares B S W W'∧I xs W'
 | .ret,_,W'=>Spares B S W W'∧Ix .ret xs W'
 | .exit id,_,W'=>Spares B S W W'∧Ix (.exit id) xs W'
 | .goto t,_,W'=>Spares B S W W'∧Ix (.goto t) xs W'
 | .panic _,_,_=>False
 | .outgrown,_,_=>False
theorem step_push_at {P:Program} {w0 w wx:World} {B:Nat} {ops:Array Oper} {o:Oper} {a:Act} {K:Act→World→Prop} {Q:Exit→Act→World→Prop} {t e:TypeId} {z:Value} {sz by_:Nat} {E:Prop}
  (hel:El P t e z sz by_) (s x:Operand) (hg:o.guard=none)
  (ho:o.op=.call { callee:=.builtin .append,args:=#[s,x],argTypes:=#[t,t] })
  (v:Value) (n:Nat) (cs:List Value) (hs:a.eval s=v) (hown:w.ownsRow B e sz v n cs) (hbel:Below w0.heap.size w0 w) (hB:w0.heap.size≤B) (hB':B≤w.heap.size)
  (news:List Value) (hwx:w.alloc (.cells news.toArray e)=wx) (hx:a.eval x=.slice (some ⟨w.heap.size,0,none⟩) 1 1) (hn:news.length=sz) (h1:∀u∈news,u.oneCell'=true)
  (hroom:(n+1)*by_≤140737488355328)
  (h:∀v' w',w'.ownsRow B e sz v' (n+1) (cs++news)→Below w0.heap.size w0 w'→w.grownBy w' v.ownBlock→v'≠.slice none 0 0→K (a.put o.dst v') w') :
  if Region.wanted o (yielded ops a.tmps)=true then Oper.wp P o a wx K Q else E:=by
 subst hwx
 exact step_push hel s x hg ho v n cs hs hown hbel hB hB' news hx hn h1 hroom h
theorem grown_of_alloc {W w1:World} {o:Obj} {r:Option Nat} (h:(W.alloc o).grownBy w1 r):W.grownBy w1 r:=
 ⟨h.os,h.tape,h.output,Nat.le_trans (by simp) h.size,fun k hk hne=>by rw[h.block k (by simp;omega) hne];exact Below.heap_alloc W o k hk⟩
theorem pushed {W w1:World} {b B:Nat} {t e:TypeId} {size k m:Nat} {v v':Value} {xs ys:List Value}
  (hv:Boxed W B t v) (hrow:W.ownsRow b e size v k xs) (hB:B<b) (hown':w1.ownsRow b e size v' m ys) (hgrow:W.grownBy w1 v.ownBlock) :
  (∀g t' u,Boxed W g t' u→g<b→Boxed w1 g t' u)∧Boxed w1 B t v∧Boxed (w1.setCell ⟨B,0,none⟩ v') B t v'∧(w1.setCell ⟨B,0,none⟩ v').ownsRow b e size v' m ys∧KeepsOthers W (w1.setCell ⟨B,0,none⟩ v')∧
   (∀k,k<W.heap.size→k≠B→k<b→(w1.setCell ⟨B,0,none⟩ v').heap[k]? = W.heap[k]?)∧Below B W (w1.setCell ⟨B,0,none⟩ v'):=by
 have same:∀k,k<W.heap.size→k<b→w1.heap[k]? = W.heap[k]?:=fun k h1 h2=>by
  exact hgrow.block k h1 (fun e=>by have:=(hrow.lt k e.symm).1;omega)
 have h1:Boxed w1 B t v:=(same B hv.lt hB).trans hv
 refine⟨fun g t' u hg hb=>(same g hg.lt hb).trans hg,h1,h1.set v',?_,?_,fun k h1 h2 h3=>?_,?_⟩
 ·refine hown'.kept (grownBy_setCell' w1 B v') ?_
  rcases hown'.2 with ⟨rfl,_⟩ | ⟨g,cap,cur,rfl,hg,_⟩
  ·exact .inl rfl
  ·exact .inr (by intro e;simp[Value.ownBlock] at e;omega)
 ·refine (KeepsOthers.of_grownBy hgrow fun j o ej hj=>?_).trans (KeepsOthers.setCell _ _ _)
  rcases hrow.2 with ⟨rfl,_⟩ | ⟨g,cap,cur,rfl,_,hgb,_⟩
  ·simp[Value.ownBlock] at ej
  ·obtain rfl:g=j:=by simpa [Value.ownBlock] using ej
   rw[hgb] at hj;cases hj;rfl
 ·rw[heap_setCell_other _ _ _ _ h2];exact same k h1 h3
 ·refine⟨hgrow.os,hgrow.tape,hgrow.output,Nat.le_trans hgrow.size (grownBy_setCell' w1 B v').size,fun k hk=>?_⟩
  rw[heap_setCell_other _ _ _ _ (by show k≠B;omega)]
  have:=hv.lt
  exact same k (by omega) (by omega)
theorem cells_new (W:World) (cs:List Value) (e:TypeId):∀(j:Nat) u,cs[j]? = some u→(W.alloc (.cells cs.toArray e)).cell? ((⟨W.heap.size,0,none⟩:Addr).add j)=some u:=by
 intro j u hu
 have ha:(⟨W.heap.size,0,none⟩:Addr).add j=⟨W.heap.size,j,none⟩:=by unfold Addr.add;split<;>simp_all
 rw[ha,World.cell?_alloc_mark]
 simpa using hu
theorem boxset {W:World} {B:Nat} {t:TypeId} {v:Value} (v':Value) (hv:Boxed W B t v) :
  Boxed (W.setCell ⟨B,0,none⟩ v') B t v'∧KeepsOthers W (W.setCell ⟨B,0,none⟩ v')∧(∀k,k≠B→(W.setCell ⟨B,0,none⟩ v').heap[k]? = W.heap[k]?)∧Below B W (W.setCell ⟨B,0,none⟩ v'):=
 ⟨hv.set v',KeepsOthers.setCell _ _ _,fun _ hk=>heap_setCell_other _ _ _ _ hk,(Below.refl _ _).setCell (p:=⟨B,0,none⟩) (Nat.le_refl _) _⟩
theorem own_other {W W':World} {b e sz n:Nat} {v:Value} {cs:List Value} (h:W.ownsRow b e sz v n cs) (hs:∀k,b≤k→W'.heap[k]? = W.heap[k]?):W'.ownsRow b e sz v n cs:=by
 obtain⟨h0,h⟩:=h
 refine⟨h0,?_⟩
 rcases h with h | ⟨g,cap,cur,rfl,hg,hh,r⟩
 ·exact .inl h
 ·exact .inr ⟨g,cap,cur,rfl,hg,(hs g hg).trans hh,r⟩
variable {F:Fence} {n:Nat} {P:Program}
theorem opIn_of_wp {l:Nat} {o:Oper} {a:Act} {w:World} {K:Act→World→Prop} {Q:Exit→Act→World→Prop} (hd:∀c,o.op≠.defer c) (h:o.wp P a w K Q):o.wpIn (Fence.wide.inRound l) n P a w K Q:=by
 refine⟨fun _ _=>trivial,?_⟩
 rw[Oper.semAt_eq _ _ _ hd]
 unfold Oper.wp at h
 generalize (execOp a.eval o).run P w=r at *
 cases r with
 | ok x w'=>
  cases x with
  | enter f args=>exact⟨(fun h=>by cases h),CallsIn.inRound l (callsIn_wide.2 h)⟩
  | row r args=>exact⟨(fun h=>by cases h),fun c cs _=>by
    obtain⟨v,w'',hR,hs⟩:=h c cs
    exact⟨v,w'',hR,stepsIn_wide.2 hs⟩⟩
  | _=>first|exact h|exact False.elim h
 | halt x w'=>cases x<;>exact h
theorem anyIn_of_any {l:Nat} {md:Region.Mode} {ops:Array Oper} {Q:Exit→Act→World→Prop} (hd:∀(i:Nat) (o:Oper),ops[i]? = some o→∀c,o.op≠.defer c) (hl:¬LetsOut Q) :
  ∀(fuel:Nat) (listed:Array Bool) (a:Act) (w:World),wpAny P md ops Q fuel listed a w→wpAnyIn (Fence.wide.inRound l) n P md ops Q fuel listed a w
 | 0,_,_,_,h=>h
 | fuel+1,listed,a,w,h=>by
  refine⟨h.1,fun i hi=>?_⟩
  have h1:=h.2 i hi
  unfold wpOp at h1
  unfold wpOpIn
  cases ho:ops[i]? with
  | none=>rw[ho] at h1;exact anyIn_of_any hd hl fuel _ a w h1
  | some o=>
   rw[ho] at h1
   simp only at h1 ⊢
   split
   ·rename_i hw
    rw[if_pos hw] at h1
    rcases h1 with h1 | ⟨_,h1⟩
    ·exact Oper.wpIn_mono (fun a w=>anyIn_of_any hd hl fuel _ a w) (opIn_of_wp (hd i o ho) h1)
    ·exact absurd h1 hl
   ·rename_i hw
    rw[if_neg hw] at h1
    exact⟨fun _ _=>trivial,anyIn_of_any hd hl fuel _ _ w h1⟩
theorem region_round {l id:Nat} {ops:Array Oper} {Q:Exit→Act→World→Prop} {a:Act} {w:World} (hm:P.follows .mixedOrders=true) (hd:(ops.all fun o=>match o.op with | .defer _=>false | _=>true)=true) (hl:¬LetsOut Q)
  (h:wpAny P .any ops Q ops.size (Array.replicate ops.size false) a w.drew):(Code.region id ops true).wpIn (Fence.wide.inRound l) n P Q a w:=
 wpIn_region_any hm (anyIn_of_any (fun i o ho c e=>by
  have:=Array.all_eq_true.1 hd i (Array.getElem?_eq_some_iff.1 ho).1
  rw[(Array.getElem?_eq_some_iff.1 ho).2,e] at this
  cases this) hl _ _ _ _ h)
theorem range_st {α:Type} {g:Operand} {ps:Array Tmp} {assign body:Code} {Q:Exit→Act→World→Prop} {a:Act} {w:World}
  (hro:F.round=none) (h1:1≤n) {gf:Nat} {lb:Array Value} (hg:a.eval g=.func (.func gf) #[] lb) (hFg:F.fn gf) (eg:∀args w,(callFunc gf args).run P w=.ok (.enter gf args) w)
  {encs:α→Array Value} {S:Nat} {xs:List α} {T:World→Prop} (hS:S<w.heap.size) (hseq:SeqSt F (n - 1) P gf lb encs S xs T w.heap[S]?) (hps:∀x,(encs x).size=ps.size)
  (I:List α→World→Prop) (Ix:Code→List α→World→Prop) (hT:∀s A,I s A→T A) (hI:∀s A A',I s A→Still w.heap.size S A A'→I s A') (hIx:∀c s A A',Ix c s A→Still w.heap.size S A A'→Ix c s A') (h0:I [] w) (a₁:α→Act)
  (hassign:∀(l:Nat) (x:α) (W:World) (K:Act→World→Prop),K (a₁ x) W→
   assign.wpIn (F.inRound l) (n - 1 - 1) P (Exit.then K (fun _ _ _=>False)) { tmps:=(ps.zip (encs x)).foldl (fun t (p,v)=>t.setIfInBounds p v) a.tmps,defers:=[] } W)
  (hbody:∀(l:Nat) (pre:List α) (x:α) (W:World),I pre W→xs[pre.length]? = some x→w.heap.size≤W.heap.size→body.wpIn (F.inRound l) (n - 1 - 1) P (stPost w.heap.size S I Ix (pre++[x]) W) (a₁ x) W)
  (hdone:∀(D:Nat) (W:World),w.heap.size≤D→I xs W→W.heap[D]? = some (.deferred (some []))→Q .normal { a with defers:={ target:=.collected D,args:=#[] }::a.defers } W)
  (hstop:∀(D:Nat) (c:Code) (pre:List α) (W:World),w.heap.size≤D→pre <+: xs→Ix c pre W→W.heap[D]? = some (.deferred (some []))→c.wpIn F n P Q { a with defers:={ target:=.collected D,args:=#[] }::a.defers } W) :
  (Code.rangeFunc g ps assign body).wpIn F n P Q a w:=by
 refine wpIn_rangeFunc ?_
 intro fn hfn
 rw[hro]
 obtain⟨rec,hrec⟩:∃rec:LoopState→Option Code→Loop,rec=fun st pe=>{ state:=st,pending:=pe,fn,tmps:=a.tmps,params:=ps,assign,body,defers:=w.heap.size }:=⟨_,rfl⟩
 obtain⟨W1,hW1⟩:∃W1,(w.alloc (.deferred (some []))).alloc (.loop (rec .ready none))=W1:=⟨_,rfl⟩
 obtain⟨L,hL⟩:∃L,w.heap.size+1=L:=⟨_,rfl⟩
 have hbel:Below w.heap.size w W1:=by rw[← hW1];exact ((Below.refl _ w).alloc (Nat.le_refl _) _).alloc (by simp) _
 have hL1:W1.heap[L]? = some (.loop (rec .ready none)):=by
  rw[← hW1,← hL];have:=World.alloc_heap_new (w.alloc (.deferred (some []))) (.loop (rec .ready none));rwa [World.size_alloc] at this
 have hK1:W1.heap[w.heap.size]? = some (.deferred (some [])):=by
  rw[← hW1];exact (Below.heap_alloc _ _ _ (by simp)).trans (World.alloc_heap_new w _)
 have he:=run_enterLoop_outer (P:=P) (w:=w) fn a.tmps ps assign body
 rw[show ((w.alloc (.deferred (some []))).alloc (.loop { state:=.ready,pending:=none,fn,tmps:=a.tmps,params:=ps,assign,body,defers:=w.heap.size }))=W1 by rw[← hW1,hrec],hL] at he
 refine⟨L,[{ target:=.collected w.heap.size,args:=#[] }],W1,{ target:=.fn (.func gf) lb,args:=#[.func (.yield L) #[] #[]] },W1,gf,
  #[.func (.yield L) #[] #[]]++lb,W1,he,?_,?_,?_,fun _=>h1,?_⟩
 ·simp only[resolve,hg]
  simp[go_sem]
 ·intro f' hf';simp[Target.leads] at hf';subst hf';exact hFg
 ·simp[invoke,go_sem,eg]
 let Books:Loop→World→Prop:=fun r W=>W.heap[L]? = some (.loop r)∧W.heap[w.heap.size]? = some (.deferred (some []))
 have books_only:∀{r A A'},Books r A→Only S A A'→Books r A':=fun h k=>⟨k.same _ _ h.1 (by omega),k.same _ _ h.2 (by omega)⟩
 have books_put:∀{r A} (r':Loop),Books r A→Books r' (A.putObj L (.loop r')):=fun r' h=>
  ⟨World.putObj_heap_same (Array.getElem?_eq_some_iff.1 h.1).1,(World.putObj_heap_other (by omega)).trans h.2⟩
 have still_put:∀{r A} (r':Loop),Books r A→Still w.heap.size S A (A.putObj L (.loop r')):=fun r' h=>Still.put _ (by omega) h.1 rfl
 have state_put:∀{A:World} (o:Obj),(A.putObj L o).heap[S]? = A.heap[S]?:=fun o=>World.putObj_heap_other (by omega)
 refine (hseq L (fun pre W=>I pre W∧w.heap.size≤W.heap.size∧Books (rec .ready none) W) (fun pre W=>∃c,Ix c pre W∧Books (rec .done (some c)) W) W1
  (hbel.block S hS) (fun s A h=>hT s A h.1) (fun s A A' h k=>⟨hI s A A' h.1 k.still,Nat.le_trans h.2.1 k.size,books_only h.2.2 k⟩) (fun s A A' h k=>by obtain⟨c,h1,h2⟩:=h;exact⟨c,hIx c s A A' h1 k.still,books_only h2 k⟩)
  ?_ ⟨hI _ _ _ h0 (Still.of_below hbel),hbel.size,hL1,hK1⟩).mono ?_
 ·rintro pre x W ⟨hi,hsz,hb⟩ hx
  have hy:=run_yield (P:=P) (args:=encs x) hb.1 (by rw[hrec];exact hps x)
  rw[hrec] at hy
  refine⟨fn,_,assign,body,hy,roundIn_of_wpIn hfn (hassign _ x W _ ⟨_,run_beginRound hb.1 (by rw[hrec]),?_⟩)⟩
  have hb2:=books_put { rec .ready none with state:=.busy } hb
  refine wpIn_mono (hbody _ pre x _ (hI _ _ _ hi (still_put _ hb)) hx (by simpa using hsz)) ?_
  have fin:∀(jump:Option Code) (W3:World),Spares w.heap.size S (W.putObj L (.loop { rec .ready none with state:=.busy })) W3→
    (Instr.endRound L jump).run P W3=.ok (.bool jump.isNone) (W3.putObj L (.loop (rec (if jump.isNone then .ready else .done) jump)))∧Books { rec .ready none with state:=.busy } W3:=fun jump W3 k=>by
   have h3:Books { rec .ready none with state:=.busy } W3:=⟨k.same _ _ hb2.1 (.inr ⟨by omega,rfl⟩),k.same _ _ hb2.2 (.inr ⟨Nat.le_refl _,rfl⟩)⟩
   have:=run_endRound (P:=P) jump h3.1
   rw[hrec] at this ⊢
   exact⟨this,by rw[hrec] at h3;exact h3⟩
  have hst:∀(W3:World) (o:Obj),Spares w.heap.size S (W.putObj L (.loop { rec .ready none with state:=.busy })) W3→W.heap.size≤(W3.putObj L o).heap.size∧(W3.putObj L o).heap[S]? = W.heap[S]?:=fun W3 o k=>by
   have h1:S<W.heap.size:=by omega
   have h2:W.heap[S]? = some W.heap[S]:=Array.getElem?_eq_getElem h1
   refine⟨by have:=k.size;simpa using this,?_⟩
   rw[state_put,h2]
   exact k.same S _ (by rw[state_put,h2]) (.inl rfl)
  have hsz3:∀(W3:World) (o:Obj),Spares w.heap.size S (W.putObj L (.loop { rec .ready none with state:=.busy })) W3→w.heap.size≤(W3.putObj L o).heap.size:=fun W3 o k=>by
   have:=k.size;simp at this ⊢;omega
  rintro e a3 W3 hp
  cases e with
  | normal=>
   obtain⟨hk,hi3⟩:=hp
   obtain⟨hr,h3⟩:=fin none W3 hk
   exact⟨_,_,hr,.inl ⟨rfl,⟨hI _ _ _ hi3 (still_put _ h3),hsz3 _ _ hk,books_put _ h3⟩,hst _ _ hk⟩⟩
  | ret=>
   obtain⟨hk,hi3⟩:=hp
   obtain⟨hr,h3⟩:=fin (some .ret) W3 hk
   exact⟨_,_,hr,.inr ⟨rfl,.ret,hIx _ _ _ _ hi3 (still_put _ h3),books_put _ h3⟩⟩
  | exit id=>
   obtain⟨hk,hi3⟩:=hp
   obtain⟨hr,h3⟩:=fin (some (.exit id)) W3 hk
   exact⟨_,_,hr,.inr ⟨rfl,.exit id,hIx _ _ _ _ hi3 (still_put _ h3),books_put _ h3⟩⟩
  | goto t=>
   obtain⟨hk,hi3⟩:=hp
   obtain⟨hr,h3⟩:=fin (some (.goto t)) W3 hk
   exact⟨_,_,hr,.inr ⟨rfl,.goto t,hIx _ _ _ _ hi3 (still_put _ h3),books_put _ h3⟩⟩
  | panic ch=>exact hp.elim
  | outgrown=>exact hp.elim
 ·rintro e W2 ⟨⟨v,rfl⟩,(⟨hi,_,hb⟩ | ⟨pre,hpre,c,hi,hb⟩)⟩
  ·exact⟨none,_,by have:=run_endLoop (P:=P) hb.1 (by rw[hrec];simp);rw[hrec] at this;exact this,hdone _ _ (Nat.le_refl _) (hI _ _ _ hi (still_put _ hb)) (books_put _ hb).2⟩
  ·exact⟨some c,_,by have:=run_endLoop (P:=P) hb.1 (by rw[hrec];simp);rw[hrec] at this;exact this,hstop _ c pre _ (Nat.le_refl _) hpre (hIx c _ _ _ hi (still_put _ hb)) (books_put _ hb).2⟩
end Go.Proofs.YtegpnpdnanfhbaaGreatDoor.K
