/- the document's pieces; is a pattern right? -/
import Derived.Test.YtegpnpdnanfhbaaGreatDoorYLikeRef
namespace Go.Proofs.YtegpnpdnanfhbaaGreatDoor.LikeP
open Go.RowKit K
end Go.Proofs.YtegpnpdnanfhbaaGreatDoor.LikeP
