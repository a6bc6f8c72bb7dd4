/- the reference's NumOf computes what num.Read computes -/
import Derived.Test.YtdgmbijjhifbeaaGreatDoorYNumRead
namespace Go.Proofs.YtdgmbijjhifbeaaGreatDoor.NumRd
open Go.RowKit NumP K
end Go.Proofs.YtdgmbijjhifbeaaGreatDoor.NumRd
