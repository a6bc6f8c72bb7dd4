/- the document's answers on pieces -/
import Derived.Test.YtegpnpdnanfhbaaGreatDoorYLikeTop
namespace Go.Proofs.YtegpnpdnanfhbaaGreatDoor.LikeP
open Go.RowKit K
end Go.Proofs.YtegpnpdnanfhbaaGreatDoor.LikeP
