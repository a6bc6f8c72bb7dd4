/- Signed numbers; and what the laws on numbers ask in any case -/
import Derived.Test.YthfpmnojahoelaaGreatDoorYNumWrite
import Derived.Test.YthfpmnojahoelaaGreatDoorYNumOf
import Derived.Test.YthfpmnojahoelaaGreatDoorYNumZig
namespace Go.Proofs.YthfpmnojahoelaaGreatDoor.NumL
open Go.RowKit K NumP NumW NumRd NumZ
end Go.Proofs.YthfpmnojahoelaaGreatDoor.NumL
