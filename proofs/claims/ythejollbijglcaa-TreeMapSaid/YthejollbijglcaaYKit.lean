/- Small laws for the walks of this seat: a slice that a call makes and grows by one element at a time; a slice that is read; text out of bytes. -/
import Derived.Test.YthejollbijglcaaRows
import Derived.WalkKit
import Derived.WalkSpells
import Derived.WalkLawsBesides
import Derived.Lib.Hide
import Derived.Deep.RegionWith
import Derived.Deep.QuietTactic
import Derived.BigQuiet
import Derived.Deep.RegionHeld3
import Derived.StillTailTactics
import Derived.Deep.DeepCutAuto
import Derived.Deep.LoopGhost
import Derived.Deep.DeepFit
import Derived.Deep.Light
namespace Go.Proofs.Ythejollbijglcaa.K
open Go.RowKit
def El (P:Program) (t e:TypeId) (z:Value) (sz by_:Nat):Prop:=
 ∃i,P.underlying t=some (.slice e)∧P.info? e=some i∧i.zero=some z∧i.size=sz∧i.bytes=by_∧z.cells.size=sz∧0<sz∧0<by_
theorem El.mk {P:Program} {t e:TypeId} {z:Value} {sz by_:Nat} (h1:P.underlying t=some (.slice e))
  (h2:(P.info? e).map (fun i=>(i.zero,i.size,i.bytes))=some (some z,sz,by_)) (h3:z.cells.size=sz) (h4:0<sz) (h5:0<by_):El P t e z sz by_:=by
 obtain⟨i,a,b,c,d⟩:=info_parts h2
 exact⟨i,h1,a,b,c,d,h3,h4,h5⟩
theorem wp_push {P:Program} {w0 w:World} {B:Nat} {o:Oper} {a:Act} {K:Act→World→Prop} {Q:Exit→Act→World→Prop} {t e:TypeId} {z:Value} {sz by_:Nat}
  (hel:El P t e z sz by_) (s x:Operand)
  (ho:o.op=.call { callee:=.builtin .append,args:=#[s,x],argTypes:=#[t,t] })
  (v:Value) (n:Nat) (cs:List Value) (hs:a.eval s=v) (hown:w.ownsRow B e sz v n cs) (hbel:Below w0.heap.size w0 w) (hB:w0.heap.size≤B) (hB':B≤w.heap.size)
  (news:List Value) (hx:a.eval x=.slice (some ⟨w.heap.size,0,none⟩) 1 1) (hn:news.length=sz) (h1:∀u∈news,u.oneCell'=true)
  (hroom:(n+1)*by_≤140737488355328)
  (h:∀v' w',w'.ownsRow B e sz v' (n+1) (cs++news)→Below w0.heap.size w0 w'→w.grownBy w' v.ownBlock→v'≠.slice none 0 0→K (a.put o.dst v') w') :
  o.wp P a (w.alloc (.cells news.toArray e)) K Q:=by
 obtain⟨i,h1',h2,h3,h4,h5,h6,h7,h8⟩:=hel
 have hle:n+1≤140737488355328:=Nat.le_trans (Nat.le_mul_of_pos_right _ h8) hroom
 refine wp_append_own _ s x t ho B e i z sz by_ h1' h2 h3 h4 h5 h6 h7 v n cs hs (hown.alloc _) ⟨w.heap.size,0,none⟩ 1 1 news hx (by omega) ?_ h1 (by unfold maxLen;omega) hroom (by simp;omega) ?_
 ·intro j u hj
  have hjl:j<news.length:=(List.getElem?_eq_some_iff.1 hj).1
  have ha:(⟨w.heap.size,0,none⟩:Addr).add j=⟨w.heap.size,j,none⟩:=by unfold Addr.add;split<;>simp_all
  rw[ha,World.cell?_alloc_mark]
  simpa using hj
 ·intro v' w' hown' hgr hnil
  have hgr2:w.grownBy w' v.ownBlock:=
   ⟨hgr.os,hgr.tape,hgr.output,Nat.le_trans (by simp) hgr.size,fun k hk hne=>by
    rw[hgr.block k (by simp;omega) hne];exact heap_alloc_old w _ hk⟩
  exact h v' w' hown' (hbel.grown hgr2 hbel.size (fun k hk=>Nat.le_trans hB (hown.lt k hk).1)) hgr2 (fun e=>by have:=hnil.1 e;omega)
theorem push {P:Program} {w0 w:World} {B:Nat} {ops:Array Oper} {rest:List Oper} {o:Oper} {a:Act} {Q:Exit→Act→World→Prop} {t e:TypeId} {z:Value} {sz by_:Nat}
  (hel:El P t e z sz by_) (s x:Operand) (hg:o.guard=none)
  (ho:o.op=.call { callee:=.builtin .append,args:=#[s,x],argTypes:=#[t,t] })
  (v:Value) (n:Nat) (cs:List Value) (hs:a.eval s=v) (hown:w.ownsRow B e sz v n cs) (hbel:Below w0.heap.size w0 w) (hB:w0.heap.size≤B) (hB':B≤w.heap.size)
  (news:List Value) (hx:a.eval x=.slice (some ⟨w.heap.size,0,none⟩) 1 1) (hn:news.length=sz) (h1:∀u∈news,u.oneCell'=true)
  (hroom:(n+1)*by_≤140737488355328)
  (h:∀v' w',w'.ownsRow B e sz v' (n+1) (cs++news)→Below w0.heap.size w0 w'→w.grownBy w' v.ownBlock→v'≠.slice none 0 0→wpList P ops Q rest (a.put o.dst v') w') :
  wpList P ops Q (o::rest) a (w.alloc (.cells news.toArray e)):=
 wpList_plain hg fun _ hK=>wp_push hel s x ho v n cs hs hown hbel hB hB' news hx hn h1 hroom fun v' w' a b c d=>hK _ _ (h v' w' a b c d)
def RowIs (w:World) (g e:Nat) (cs:List Value):Prop:=∃cur:Array Value,w.heap[g]? = some (.cells cur e (0,0))∧cs.length≤cur.size∧cur.toList.take cs.length=cs
section
variable {w w':World} {g e:Nat} {cs:List Value}
theorem RowIs.cell (h:RowIs w g e cs) {j:Nat} (hj:j<cs.length):w.cell? ⟨g,j,none⟩=some cs[j]:=by
 obtain⟨cur,hg,hl,ht⟩:=h
 rw[cell_of_row _ _ _ _ _ _ hg]
 have:=congrArg (fun l=>l[j]?) ht
 simp only[List.getElem?_take_of_lt hj,List.getElem?_eq_getElem hj] at this
 simpa using this
theorem RowIs.set (h:RowIs w g e cs) (j:Nat) (v:Value):RowIs (w.setCell ⟨g,j,none⟩ v) g e (cs.set j v):=by
 obtain⟨cur,hg,hl,ht⟩:=h
 refine⟨cur.setIfInBounds j v,heap_setCell_same w g j cur e v hg,by simpa using hl,?_⟩
 rw[List.length_set,Array.toList_setIfInBounds,List.take_set,ht]
theorem RowIs.lt (h:RowIs w g e cs):g<w.heap.size:=by
 obtain⟨cur,hg,hl,ht⟩:=h
 exact (Array.getElem?_eq_some_iff.1 hg).1
theorem RowIs.drew (h:RowIs w g e cs):RowIs w.drew g e cs:=h
theorem RowIs.other (h:RowIs w g e cs) {a:Addr} (ha:a.block≠g) (v:Value):RowIs (w.setCell a v) g e cs:=by
 obtain⟨cur,hg,hl,ht⟩:=h
 exact⟨cur,by rw[heap_setCell_other _ _ _ _ (Ne.symm ha)];exact hg,hl,ht⟩
theorem RowIs.later {B:Nat} (h:RowIs w g e cs) (hb:Below B w w') (hg:g<B):RowIs w' g e cs:=by
 obtain⟨cur,h1,hl,ht⟩:=h
 exact⟨cur,by rw[hb.block g hg];exact h1,hl,ht⟩
theorem RowIs.alloc (h:RowIs w g e cs) (o:Obj):RowIs (w.alloc o) g e cs:=
 h.later (B:=w.heap.size) ((Below.refl _ _).alloc (Nat.le_refl _) o) h.lt
end
end Go.Proofs.Ythejollbijglcaa.K
