/- Rows of elements of several cells; a slice of the call's own, later; texts that are one -/
import Derived.Test.YthejollbijglcaaYSlice
namespace Go.Proofs.Ythejollbijglcaa.K
open Go.RowKit
def Res2 (g:Nat) (y0 y1:Value) (W:World):Prop:=W.cell? ⟨g,0,none⟩=some y0∧W.cell? ⟨g,1,none⟩=some y1∧W.frozen? ⟨g,0,none⟩=false∧W.frozen? ⟨g,1,none⟩=false
theorem Res2.new (w:World) (y0 y1:Value) (e:TypeId):Res2 w.heap.size y0 y1 (w.alloc (.cells #[y0,y1] e)):=
 have h1:=heap_alloc_new w (.cells #[y0,y1] e)
 ⟨cell_of_row _ _ 0 _ _ _ h1,cell_of_row _ _ 1 _ _ _ h1,frozen_of_row _ _ 0 _ _ h1,frozen_of_row _ _ 1 _ _ h1⟩
end Go.Proofs.Ythejollbijglcaa.K
