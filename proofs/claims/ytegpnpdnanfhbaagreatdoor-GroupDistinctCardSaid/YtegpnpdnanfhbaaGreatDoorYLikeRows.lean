/- part by part, row by row: plain -/
import Derived.Test.YtegpnpdnanfhbaaGreatDoorYLikeRef2
namespace Go.Proofs.YtegpnpdnanfhbaaGreatDoor.LikeP
open Go.RowKit K
def rowP (r:List Bool) (k:Nat):Prop:=r[k]? = some true
theorem Row.congr {l:List Part} {t:List ByteArray} {i:Nat} {r r':Nat→Prop} (h:Row l t i r) (hr:∀k,k≤t.length→(r k↔r' k)):Row l t i r':=by
 unfold Row at h ⊢
 rw[h]
 constructor
 ·rintro⟨k,hk,h1,h2⟩;exact⟨k,hk,(hr k hk).1 h1,h2⟩
 ·rintro⟨k,hk,h1,h2⟩;exact⟨k,hk,(hr k hk).2 h1,h2⟩
end Go.Proofs.YtegpnpdnanfhbaaGreatDoor.LikeP
