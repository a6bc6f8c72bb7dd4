/- sum.Less -/
import Derived.Test.YtdocnmjbmjoaoaaSumMore
namespace Go.Proofs.Ytdocnmjbmjoaoaa.SumW
open Go.RowKit SumP K

theorem top_toNat (r : W) : ((r.toNat : Nat) : Int) / (2147483648 : Int) = (((r.getLsbD 31).toNat : Nat) : Int) := by
  have h := r.isLt
  have e : r.getLsbD 31 = decide (r.toNat / 2147483648 = 1) := by
    rw [BitVec.getLsbD, Nat.testBit_eq_decide_div_mod_eq]
    congr 1
    rw [show 2 ^ 31 = 2147483648 from rfl]
    have : r.toNat / 2147483648 < 2 := by omega
    rw [Nat.mod_eq_of_lt this]
  rw [e]
  by_cases h1 : r.toNat / 2147483648 = 1
  · simp [h1]; omega
  · simp [h1]; omega

theorem or_toNat (a b : W) : bits .or .u32 (a.toNat : Int) (b.toNat : Int) = ((a ||| b).toNat : Int) := by
  rw [u32_or_nat _ _ a.isLt b.isLt, BitVec.toNat_or]

theorem dbl_toNat (r : W) : IntKind.u32.wrap (((r.toNat : Nat) : Int) * (2 : Int)) = (((r <<< 1).toNat : Nat) : Int) := by
  rw [IntKind.wrap_u32', BitVec.toNat_shiftLeft, Nat.shiftLeft_eq]; omega

/-- eight times back -/
def backs (r : W) : Nat → W
  | 0 => r
  | k + 1 => bback (backs r k) false

theorem less_eq (c : W) (b : UInt8) : less c b = ~~~ (backs (~~~ c) 8 ^^^ ext b) := rfl

set_option maxRecDepth 100000 in
theorem less_any (c : W) (b : UInt8) (w : World) :
    Calls Try.prog 16 #[.int .u32 (c.toNat : Int), .int .u8 (b.toNat : Int)] w fun e w' => e = .returned (.int .u32 ((less c b).toNat : Int)) ∧ w = w' := by
  have hbt : ((b.toNat : Nat) : Int) < 256 := by have := UInt8.toNat_lt b; omega
  go_enter Try.func16, Try.ntmps16
  go_wp2
  go_loop [5, 9] (fun r j => ∃ k : Nat, k ≤ 8 ∧ j = .int .i64 (k : Int) ∧ r = .int .u32 ((backs (~~~ c) k).toNat : Int))
    (fun _ j => 8 - (intOf j).toNat)
  case atStart => exact ⟨0, by omega, rfl, congrArg _ (not_toNat c)⟩
  case round =>
    obtain ⟨k, hk, rfl, rfl⟩ := hrel
    by_cases hk8 : k < 8
    · have hz := Lib.hid (show backs (~~~ c) (k + 1) = bback (backs (~~~ c) k) false from rfl)
      generalize backs (~~~ c) k = r at *
      have h1 := top_toNat r
      cases hl : r.getLsbD 31
      all_goals
        rw [hl] at h1
        go_wp2
        go_round
        case rel =>
          refine ⟨k + 1, by omega, by go_num, ?_⟩
          rw [hz.out]
          unfold bback
          rw [hl]
          first
            | exact congrArg (Value.int .u32) ((congrArg (fun x => bits .or .u32 x 0) (dbl_toNat r)).trans (or_toNat (r <<< 1) 0#32))
            | exact congrArg (Value.int .u32) ((congrArg (fun x => bits .or .u32 (IntKind.u32.wrap (x * 2)) 1) (xor_toNat r poly)).trans ((congrArg (fun x => bits .or .u32 x 1) (dbl_toNat (r ^^^ poly))).trans (or_toNat ((r ^^^ poly) <<< 1) 1#32)))
        case measure => simp [intOf]; omega
    · obtain rfl : k = 8 := by omega
      go_wp2
      go_ret
      refine ⟨?_, rfl⟩
      have he : (((ext b).toNat : Nat) : Int) = (b.toNat : Int) := by simp [ext]
      show Ending.returned (Value.int .u32 (bits .xor .u32 IntKind.u32.max (bits .xor .u32 _ _))) = _
      rw [less_eq, ← not_toNat, ← xor_toNat, he]

end Go.Proofs.Ytdocnmjbmjoaoaa.SumW
