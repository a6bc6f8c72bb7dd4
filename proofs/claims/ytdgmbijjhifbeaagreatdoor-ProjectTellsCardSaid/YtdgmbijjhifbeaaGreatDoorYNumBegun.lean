/- Signed numbers; and what the laws on numbers ask in any case -/
import Derived.Test.YtdgmbijjhifbeaaGreatDoorYNumWrite
import Derived.Test.YtdgmbijjhifbeaaGreatDoorYNumOf
import Derived.Test.YtdgmbijjhifbeaaGreatDoorYNumZig
namespace Go.Proofs.YtdgmbijjhifbeaaGreatDoor.NumL
open Go.RowKit K NumP NumW NumRd NumZ
end Go.Proofs.YtdgmbijjhifbeaaGreatDoor.NumL
