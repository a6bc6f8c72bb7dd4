/- Zig and Zag, of the program and of the reference -/
import Derived.Test.YtdgmbijjhifbeaaGreatDoorYKit
namespace Go.Proofs.YtdgmbijjhifbeaaGreatDoor.NumZ
open Go.RowKit K
end Go.Proofs.YtdgmbijjhifbeaaGreatDoor.NumZ
