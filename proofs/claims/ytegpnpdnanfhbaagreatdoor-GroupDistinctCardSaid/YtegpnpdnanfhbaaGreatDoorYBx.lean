/- boxes: blocks of the call's own that hold a variable -/
import Derived.Test.YtegpnpdnanfhbaaGreatDoorYRws
import Derived.Deep.DrawnRows
namespace Go.Proofs.YtegpnpdnanfhbaaGreatDoor.K
open Go.RowKit
def Bx (g:Nat) (ys:List Value) (W:World):Prop:=∃t,W.heap[g]? = some (.cells ys.toArray t (0,0))
theorem Bx.new (w:World) (ys:List Value) (t:TypeId) (g:Nat) (hg:w.heap.size=g):Bx g ys (w.alloc (.cells ys.toArray t)):=by
 subst hg;exact⟨t,heap_alloc_new w _⟩
theorem Bx.lt {g:Nat} {ys:List Value} {W:World} (h:Bx g ys W):g<W.heap.size:=by
 obtain⟨t,h⟩:=h;exact (Array.getElem?_eq_some_iff.1 h).1
theorem Bx.later {g:Nat} {ys:List Value} {W W1:World} (h:Bx g ys W) (hb:Below W.heap.size W W1):Bx g ys W1:=by
 have hl:=h.lt
 obtain⟨t,h⟩:=h
 exact⟨t,by rw[hb.block g hl];exact h⟩
theorem Bx.alloc {g:Nat} {ys:List Value} {W:World} (h:Bx g ys W) (o:Obj):Bx g ys (W.alloc o):=h.later (alloc_below W o)
theorem Bx.drew {g:Nat} {ys:List Value} {W:World} (h:Bx g ys W):Bx g ys W.drew:=h
theorem Bx.drewN {g:Nat} {ys:List Value} {W:World} (h:Bx g ys W) (n:Nat):Bx g ys (W.drewN n):=h
theorem Bx.cell {g:Nat} {ys:List Value} {W:World} (h:Bx g ys W) (j:Nat):W.cell? ⟨g,j,none⟩=ys[j]?:=by
 obtain⟨t,h⟩:=h;rw[cell_of_row _ _ j _ _ _ h];simp
theorem Bx.free {g:Nat} {ys:List Value} {W:World} (h:Bx g ys W) (j:Nat):W.frozen? ⟨g,j,none⟩=false:=by
 obtain⟨t,h⟩:=h;exact frozen_of_row _ _ j _ _ h
theorem Bx.set {g:Nat} {ys:List Value} {W:World} (h:Bx g ys W) (j:Nat) (v:Value):Bx g (ys.set j v) (W.setCell ⟨g,j,none⟩ v):=by
 obtain⟨t,h⟩:=h
 exact⟨t,by rw[heap_setCell_same _ _ _ _ _ _ h];simp⟩
theorem Bx.c1 {g:Nat} {a:Value} {W:World} (h:Bx g [a] W):W.cell? ⟨g,0,none⟩=some a∧W.frozen? ⟨g,0,none⟩=false:=⟨h.cell 0,h.free 0⟩
theorem Bx.c2 {g:Nat} {a b:Value} {W:World} (h:Bx g [a,b] W):W.cell? ⟨g,0,none⟩=some a∧W.cell? ⟨g,1,none⟩=some b∧W.frozen? ⟨g,0,none⟩=false∧W.frozen? ⟨g,1,none⟩=false:=⟨h.cell 0,h.cell 1,h.free 0,h.free 1⟩
theorem Bx.c3 {g:Nat} {a b c:Value} {W:World} (h:Bx g [a,b,c] W):W.cell? ⟨g,0,none⟩=some a∧W.cell? ⟨g,1,none⟩=some b∧W.cell? ⟨g,2,none⟩=some c∧W.frozen? ⟨g,0,none⟩=false∧W.frozen? ⟨g,1,none⟩=false∧W.frozen? ⟨g,2,none⟩=false:=
 ⟨h.cell 0,h.cell 1,h.cell 2,h.free 0,h.free 1,h.free 2⟩
theorem Bx.c4 {g:Nat} {a b c d:Value} {W:World} (h:Bx g [a,b,c,d] W):W.cell? ⟨g,0,none⟩=some a∧W.cell? ⟨g,1,none⟩=some b∧W.cell? ⟨g,2,none⟩=some c∧W.cell? ⟨g,3,none⟩=some d∧W.frozen? ⟨g,0,none⟩=false∧W.frozen? ⟨g,1,none⟩=false∧W.frozen? ⟨g,2,none⟩=false∧W.frozen? ⟨g,3,none⟩=false:=
 ⟨h.cell 0,h.cell 1,h.cell 2,h.cell 3,h.free 0,h.free 1,h.free 2,h.free 3⟩
end Go.Proofs.YtegpnpdnanfhbaaGreatDoor.K
