/- the document's pieces; is a pattern right? -/
import Derived.Test.YthfpmnojahoelaaGreatDoorYLikeRef
namespace Go.Proofs.YthfpmnojahoelaaGreatDoor.LikeP
open Go.RowKit K
end Go.Proofs.YthfpmnojahoelaaGreatDoor.LikeP
