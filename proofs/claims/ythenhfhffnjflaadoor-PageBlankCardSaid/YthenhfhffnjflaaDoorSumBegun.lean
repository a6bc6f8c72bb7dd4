/- what the laws on checksums ask in any case; a text of one byte -/
import Derived.Test.YthenhfhffnjflaaDoorSumLess
namespace Go.Proofs.YthenhfhffnjflaaDoor.SumW
open Go.RowKit SumP K

/-! the numbers that the laws name: the register's value as an integer -/
theorem m9 : ((more 0#32 [49, 50, 51, 52, 53, 54, 55, 56, 57]).toNat : Int) = 3808858755 := by decide +kernel
theorem m0 : ((more 0#32 []).toNat : Int) = 0 := by decide +kernel
theorem m5 : ((more (more 0#32 [49, 50, 51, 52]) [53, 54, 55, 56, 57]).toNat : Int) = 3808858755 := by decide +kernel
theorem l9 : ((less 3808858755#32 57).toNat : Int) = ((more 0#32 [49, 50, 51, 52, 53, 54, 55, 56]).toNat : Int) := by decide +kernel

end Go.Proofs.YthenhfhffnjflaaDoor.SumW
