/- the reference's NumOf computes what num.Read computes -/
import Derived.Test.YtegpnpdnanfhbaaGreatDoorYNumRead
namespace Go.Proofs.YtegpnpdnanfhbaaGreatDoor.NumRd
open Go.RowKit NumP K
end Go.Proofs.YtegpnpdnanfhbaaGreatDoor.NumRd
