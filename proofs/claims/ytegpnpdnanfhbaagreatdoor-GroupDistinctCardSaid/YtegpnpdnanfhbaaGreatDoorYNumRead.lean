/- num.Read and the reference's NumOf: each reads a number. -/
import Derived.Test.YtegpnpdnanfhbaaGreatDoorYKit
import Derived.Test.YtegpnpdnanfhbaaGreatDoorYNumPure
namespace Go.Proofs.YtegpnpdnanfhbaaGreatDoor.NumRd
open Go.RowKit NumP K
end Go.Proofs.YtegpnpdnanfhbaaGreatDoor.NumRd
