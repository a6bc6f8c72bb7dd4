/- Rows of elements of several cells; a slice of the call's own, later; texts that are one -/
import Derived.Test.YtegpnpdnanfhbaaGreatDoorYSlice
namespace Go.Proofs.YtegpnpdnanfhbaaGreatDoor.K
open Go.RowKit
theorem flat_at {α:Type} (f:α→List Value) (sz:Nat) (hf:∀x,(f x).length=sz):∀(q:List α) (k:Nat) (hk:k<q.length) (j:Nat),j<sz→(q.flatMap f)[k*sz+j]? = (f q[k])[j]?
 | [],k,hk,_,_=>by simp at hk
 | x::q,k,hk,j,hj=>by
  rw[List.flatMap_cons]
  cases k with
  | zero=>rw[List.getElem?_append_left (by rw[hf];omega)];simp
  | succ k=>
   rw[List.getElem?_append_right (by rw[hf,Nat.succ_mul];omega),hf,show (k+1)*sz+j - sz=k*sz+j by rw[Nat.succ_mul];omega,
    flat_at f sz hf q k (by simpa using hk) j hj]
   rfl
theorem toList_iff (a b:ByteArray):(a.toList=b.toList)=(a=b):=by
 rw[ByteArray.toList_eq,ByteArray.toList_eq]
 refine propext ⟨fun h=>?_,fun h=>by rw[h]⟩
 obtain⟨⟨x⟩⟩:=a
 obtain⟨⟨y⟩⟩:=b
 exact congrArg (fun l:List UInt8=>ByteArray.mk ⟨l⟩) h
theorem toList_beq (a b:ByteArray):(a.toList==b.toList)=decide (a=b):=by
 rw[Bool.eq_iff_iff,decide_eq_true_eq,beq_iff_eq,toList_iff]
theorem below_drewN {B:Nat} {a w:World} (h:Below B a w) (n:Nat):Below B a (w.drewN n):=⟨h.os,h.tape,h.output,h.size,h.block⟩
theorem own_mono {w:World} {B B' e sz n:Nat} {v:Value} {cs:List Value} (h:w.ownsRow B e sz v n cs) (hb:B'≤B):w.ownsRow B' e sz v n cs:=by
 obtain⟨h0,h | ⟨g,cap,cur,h1,h2,h3,h4⟩⟩:=h
 ·exact⟨h0,.inl h⟩
 ·exact⟨h0,.inr ⟨g,cap,cur,h1,Nat.le_trans hb h2,h3,h4⟩⟩
theorem bcell {W w1:World} (hb:Below W.heap.size W w1):(∀b o,b<W.heap.size→w1.cell? ⟨b,o,none⟩=W.cell? ⟨b,o,none⟩)∧(∀b o,b<W.heap.size→w1.frozen? ⟨b,o,none⟩=W.frozen? ⟨b,o,none⟩):=
 ⟨fun b o h=>hb.cell (p:=⟨b,o,none⟩) h,fun b o h=>hb.frozen (p:=⟨b,o,none⟩) h⟩
def Box22 (g:Nat) (x0 x1 y0 y1:Value) (W:World):Prop:=
 W.cell? ⟨g,0,none⟩=some x0∧W.cell? ⟨g,1,none⟩=some x1∧W.cell? ⟨g+1,0,none⟩=some y0∧W.cell? ⟨g+1,1,none⟩=some y1∧W.frozen? ⟨g+1,0,none⟩=false∧W.frozen? ⟨g+1,1,none⟩=false
theorem Box22.later {g:Nat} {x0 x1 y0 y1:Value} {W W1:World} (h:Box22 g x0 x1 y0 y1 W) (hb:Below W.heap.size W W1) (hg:g+1<W.heap.size):Box22 g x0 x1 y0 y1 W1:=by
 obtain⟨a,b,c,d,e,f⟩:=h
 obtain⟨bc,bf⟩:=bcell hb
 exact⟨(bc _ _ (by omega)).trans a,(bc _ _ (by omega)).trans b,(bc _ _ hg).trans c,(bc _ _ hg).trans d,(bf _ _ hg).trans e,(bf _ _ hg).trans f⟩
def Res2 (g:Nat) (y0 y1:Value) (W:World):Prop:=W.cell? ⟨g,0,none⟩=some y0∧W.cell? ⟨g,1,none⟩=some y1∧W.frozen? ⟨g,0,none⟩=false∧W.frozen? ⟨g,1,none⟩=false
theorem Res2.later {g:Nat} {y0 y1:Value} {W W1:World} (h:Res2 g y0 y1 W) (hb:Below W.heap.size W W1) (hg:g<W.heap.size):Res2 g y0 y1 W1:=by
 obtain⟨c,d,e,f⟩:=h
 obtain⟨bc,bf⟩:=bcell hb
 exact⟨(bc _ _ hg).trans c,(bc _ _ hg).trans d,(bf _ _ hg).trans e,(bf _ _ hg).trans f⟩
theorem Res2.new (w:World) (y0 y1:Value) (e:TypeId):Res2 w.heap.size y0 y1 (w.alloc (.cells #[y0,y1] e)):=
 have h1:=heap_alloc_new w (.cells #[y0,y1] e)
 ⟨cell_of_row _ _ 0 _ _ _ h1,cell_of_row _ _ 1 _ _ _ h1,frozen_of_row _ _ 0 _ _ h1,frozen_of_row _ _ 1 _ _ h1⟩
theorem alloc_below (w:World) (o:Obj):Below w.heap.size w (w.alloc o):=(Below.refl _ _).alloc (Nat.le_refl _) _
end Go.Proofs.YtegpnpdnanfhbaaGreatDoor.K
