/- Rows of elements of several cells; a slice of the call's own, later; texts that are one -/
import Derived.Test.YthejollbijglcaaYSlice
namespace Go.Proofs.Ythejollbijglcaa.K
open Go.RowKit
theorem flat_len {α:Type} (f:α→List Value) (sz:Nat) (hf:∀x,(f x).length=sz):∀q:List α,(q.flatMap f).length=q.length*sz
 | []=>by simp
 | x::q=>by rw[List.flatMap_cons,List.length_append,hf,flat_len f sz hf q,List.length_cons,Nat.succ_mul];omega
def Res2 (g:Nat) (y0 y1:Value) (W:World):Prop:=W.cell? ⟨g,0,none⟩=some y0∧W.cell? ⟨g,1,none⟩=some y1∧W.frozen? ⟨g,0,none⟩=false∧W.frozen? ⟨g,1,none⟩=false
theorem Res2.new (w:World) (y0 y1:Value) (e:TypeId):Res2 w.heap.size y0 y1 (w.alloc (.cells #[y0,y1] e)):=
 have h1:=heap_alloc_new w (.cells #[y0,y1] e)
 ⟨cell_of_row _ _ 0 _ _ _ h1,cell_of_row _ _ 1 _ _ _ h1,frozen_of_row _ _ 0 _ _ h1,frozen_of_row _ _ 1 _ _ h1⟩
theorem Res2.other {g:Nat} {y0 y1:Value} {W:World} (h:Res2 g y0 y1 W) {a:Addr} (ha:a.block≠g) (x:Value):Res2 g y0 y1 (W.setCell a x):=by
 obtain⟨c,d,e,f⟩:=h
 refine⟨?_,?_,?_,?_⟩
 ·rw[World.cell?_setCell_other _ _ _ _ (fun e=>ha (by rw[e]))];exact c
 ·rw[World.cell?_setCell_other _ _ _ _ (fun e=>ha (by rw[e]))];exact d
 ·simpa using e
 ·simpa using f
end Go.Proofs.Ythejollbijglcaa.K
