/- Zig and Zag, of the program and of the reference -/
import Derived.Test.YtegpnpdnanfhbaaGreatDoorYKit
namespace Go.Proofs.YtegpnpdnanfhbaaGreatDoor.NumZ
open Go.RowKit K
end Go.Proofs.YtegpnpdnanfhbaaGreatDoor.NumZ
