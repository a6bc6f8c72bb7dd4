/- the reference on 64-bit signed numbers, and what the laws ask in any case -/
import Derived.Test.YthfpmnojahoelaaGreatDoorYWholeWalk
namespace Go.Proofs.YthfpmnojahoelaaGreatDoor.WholeP
open Go.RowKit K
end Go.Proofs.YthfpmnojahoelaaGreatDoor.WholeP
