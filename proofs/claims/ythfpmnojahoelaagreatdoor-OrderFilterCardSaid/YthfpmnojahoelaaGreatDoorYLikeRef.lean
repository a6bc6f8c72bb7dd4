/- the document's answers on pieces -/
import Derived.Test.YthfpmnojahoelaaGreatDoorYLikeTop
namespace Go.Proofs.YthfpmnojahoelaaGreatDoor.LikeP
open Go.RowKit K
end Go.Proofs.YthfpmnojahoelaaGreatDoor.LikeP
