/- the reference's NumOf computes what num.Read computes -/
import Derived.Test.YthfpmnojahoelaaGreatDoorYNumRead
namespace Go.Proofs.YthfpmnojahoelaaGreatDoor.NumRd
open Go.RowKit NumP K
end Go.Proofs.YthfpmnojahoelaaGreatDoor.NumRd
