/- num.Write and the reference's NumBytes: each returns the bytes of a number. -/
import Derived.Test.YtegpnpdnanfhbaaGreatDoorYKit
import Derived.Test.YtegpnpdnanfhbaaGreatDoorYNumPure
namespace Go.Proofs.YtegpnpdnanfhbaaGreatDoor.NumW
open Go.RowKit NumP K
end Go.Proofs.YtegpnpdnanfhbaaGreatDoor.NumW
