/- Small laws for the walks of this seat: a slice that a call makes and grows by one element at a time; a slice that is read; text out of bytes. -/
import Derived.Test.YtdjbckknghddpaaRows
import Derived.WalkKit
import Derived.WalkSpells
import Derived.WalkLawsBesides
import Derived.Lib.Hide
import Derived.Deep.RegionWith
import Derived.Deep.QuietTactic
import Derived.BigQuiet
import Derived.Deep.RegionHeld3
import Derived.StillTailTactics
import Derived.Deep.DeepCutAuto
import Derived.Deep.LoopGhost
import Derived.Deep.DeepFit
import Derived.Deep.Light
namespace Go.Proofs.Ytdjbckknghddpaa.K
open Go.RowKit
def El (P:Program) (t e:TypeId) (z:Value) (sz by_:Nat):Prop:=
 ∃i,P.underlying t=some (.slice e)∧P.info? e=some i∧i.zero=some z∧i.size=sz∧i.bytes=by_∧z.cells.size=sz∧0<sz∧0<by_
theorem El.mk {P:Program} {t e:TypeId} {z:Value} {sz by_:Nat} (h1:P.underlying t=some (.slice e))
  (h2:(P.info? e).map (fun i=>(i.zero,i.size,i.bytes))=some (some z,sz,by_)) (h3:z.cells.size=sz) (h4:0<sz) (h5:0<by_):El P t e z sz by_:=by
 obtain⟨i,a,b,c,d⟩:=info_parts h2
 exact⟨i,h1,a,b,c,d,h3,h4,h5⟩
def RowIs (w:World) (g e:Nat) (cs:List Value):Prop:=∃cur:Array Value,w.heap[g]? = some (.cells cur e (0,0))∧cs.length≤cur.size∧cur.toList.take cs.length=cs
section
variable {w w':World} {g e:Nat} {cs:List Value}
theorem RowIs.lt (h:RowIs w g e cs):g<w.heap.size:=by
 obtain⟨cur,hg,hl,ht⟩:=h
 exact (Array.getElem?_eq_some_iff.1 hg).1
theorem RowIs.drew (h:RowIs w g e cs):RowIs w.drew g e cs:=h
theorem RowIs.later {B:Nat} (h:RowIs w g e cs) (hb:Below B w w') (hg:g<B):RowIs w' g e cs:=by
 obtain⟨cur,h1,hl,ht⟩:=h
 exact⟨cur,by rw[hb.block g hg];exact h1,hl,ht⟩
theorem RowIs.alloc (h:RowIs w g e cs) (o:Obj):RowIs (w.alloc o) g e cs:=
 h.later (B:=w.heap.size) ((Below.refl _ _).alloc (Nat.le_refl _) o) h.lt
end
end Go.Proofs.Ytdjbckknghddpaa.K
