/- Zig and Zag, of the program and of the reference -/
import Derived.Test.YthfpmnojahoelaaGreatDoorYKit
namespace Go.Proofs.YthfpmnojahoelaaGreatDoor.NumZ
open Go.RowKit K
end Go.Proofs.YthfpmnojahoelaaGreatDoor.NumZ
