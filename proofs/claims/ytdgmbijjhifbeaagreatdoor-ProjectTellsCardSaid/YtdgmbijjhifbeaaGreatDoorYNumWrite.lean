/- num.Write and the reference's NumBytes: each returns the bytes of a number. -/
import Derived.Test.YtdgmbijjhifbeaaGreatDoorYKit
import Derived.Test.YtdgmbijjhifbeaaGreatDoorYNumPure
namespace Go.Proofs.YtdgmbijjhifbeaaGreatDoor.NumW
open Go.RowKit NumP K
end Go.Proofs.YtdgmbijjhifbeaaGreatDoor.NumW
