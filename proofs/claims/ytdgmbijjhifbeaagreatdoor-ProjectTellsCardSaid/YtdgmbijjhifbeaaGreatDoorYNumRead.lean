/- num.Read and the reference's NumOf: each reads a number. -/
import Derived.Test.YtdgmbijjhifbeaaGreatDoorYKit
import Derived.Test.YtdgmbijjhifbeaaGreatDoorYNumPure
namespace Go.Proofs.YtdgmbijjhifbeaaGreatDoor.NumRd
open Go.RowKit NumP K
end Go.Proofs.YtdgmbijjhifbeaaGreatDoor.NumRd
