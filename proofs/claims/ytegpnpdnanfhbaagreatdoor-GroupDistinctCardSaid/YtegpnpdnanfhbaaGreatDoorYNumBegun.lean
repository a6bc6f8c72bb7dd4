/- Signed numbers; and what the laws on numbers ask in any case -/
import Derived.Test.YtegpnpdnanfhbaaGreatDoorYNumWrite
import Derived.Test.YtegpnpdnanfhbaaGreatDoorYNumOf
import Derived.Test.YtegpnpdnanfhbaaGreatDoorYNumZig
namespace Go.Proofs.YtegpnpdnanfhbaaGreatDoor.NumL
open Go.RowKit K NumP NumW NumRd NumZ
end Go.Proofs.YtegpnpdnanfhbaaGreatDoor.NumL
