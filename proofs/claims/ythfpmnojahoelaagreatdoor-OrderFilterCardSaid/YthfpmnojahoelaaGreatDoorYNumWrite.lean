/- num.Write and the reference's NumBytes: each returns the bytes of a number. -/
import Derived.Test.YthfpmnojahoelaaGreatDoorYKit
import Derived.Test.YthfpmnojahoelaaGreatDoorYNumPure
namespace Go.Proofs.YthfpmnojahoelaaGreatDoor.NumW
open Go.RowKit NumP K
end Go.Proofs.YthfpmnojahoelaaGreatDoor.NumW
