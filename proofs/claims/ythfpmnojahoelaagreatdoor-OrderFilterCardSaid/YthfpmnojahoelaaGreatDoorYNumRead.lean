/- num.Read and the reference's NumOf: each reads a number. -/
import Derived.Test.YthfpmnojahoelaaGreatDoorYKit
import Derived.Test.YthfpmnojahoelaaGreatDoorYNumPure
namespace Go.Proofs.YthfpmnojahoelaaGreatDoor.NumRd
open Go.RowKit NumP K
end Go.Proofs.YthfpmnojahoelaaGreatDoor.NumRd
