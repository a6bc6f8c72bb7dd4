/- the reference on 64-bit signed numbers, and what the laws ask in any case -/
import Derived.Test.YtegpnpdnanfhbaaGreatDoorYWholeWalk
namespace Go.Proofs.YtegpnpdnanfhbaaGreatDoor.WholeP
open Go.RowKit K
end Go.Proofs.YtegpnpdnanfhbaaGreatDoor.WholeP
