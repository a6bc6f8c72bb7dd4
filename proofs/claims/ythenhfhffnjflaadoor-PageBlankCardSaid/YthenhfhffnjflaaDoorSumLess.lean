/- sum.Less -/
import Derived.Test.YthenhfhffnjflaaDoorSumMore
namespace Go.Proofs.YthenhfhffnjflaaDoor.SumW
open Go.RowKit SumP K

theorem top_toNat (r : W) : ((r.toNat : Nat) : Int) / (2147483648 : Int) = (((r.getLsbD 31).toNat : Nat) : Int) := by
  have h := r.isLt
  have e : r.getLsbD 31 = decide (r.toNat / 2147483648 = 1) := by
    rw [BitVec.getLsbD, Nat.testBit_eq_decide_div_mod_eq]
    congr 1
    rw [show 2 ^ 31 = 2147483648 from rfl]
    have : r.toNat / 2147483648 < 2 := by omega
    rw [Nat.mod_eq_of_lt this]
  rw [e]
  by_cases h1 : r.toNat / 2147483648 = 1
  · simp [h1]; omega
  · simp [h1]; omega

theorem or_toNat (a b : W) : bits .or .u32 (a.toNat : Int) (b.toNat : Int) = ((a ||| b).toNat : Int) := by
  rw [u32_or_nat _ _ a.isLt b.isLt, BitVec.toNat_or]

theorem dbl_toNat (r : W) : IntKind.u32.wrap (((r.toNat : Nat) : Int) * (2 : Int)) = (((r <<< 1).toNat : Nat) : Int) := by
  rw [IntKind.wrap_u32', BitVec.toNat_shiftLeft, Nat.shiftLeft_eq]; omega

/-- eight times back -/
def backs (r : W) : Nat → W
  | 0 => r
  | k + 1 => bback (backs r k) false

theorem less_eq (c : W) (b : UInt8) : less c b = ~~~ (backs (~~~ c) 8 ^^^ ext b) := rfl

end Go.Proofs.YthenhfhffnjflaaDoor.SumW
