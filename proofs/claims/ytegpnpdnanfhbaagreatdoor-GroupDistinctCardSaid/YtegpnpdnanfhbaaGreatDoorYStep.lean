/- append of a slice that is read, at one operation and at a step of a region that draws its order -/
import Derived.Test.YtegpnpdnanfhbaaGreatDoorYRws
import Derived.Laws.AppendOwnNone
namespace Go.Proofs.YtegpnpdnanfhbaaGreatDoor.K
open Go.RowKit
theorem own_built' {w:World} {B e:Nat} (cs:List Value) (n sz g:Nat) (hg:w.heap.size=g) (hB:B≤g) (hn:n≤maxLen) (hc:cs.length=n*sz) :
  (w.alloc (.cells cs.toArray e)).ownsRow B e sz (.slice (some ⟨g,0,none⟩) n n) n cs:=by
 subst hg;exact own_built cs n sz hB hn hc
end Go.Proofs.YtegpnpdnanfhbaaGreatDoor.K
