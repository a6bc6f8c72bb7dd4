/- the program's package sum: each function computes what the plain functions tell -/
import Derived.Test.YthenhfhffnjflaaDoorKit
import Derived.Test.YthenhfhffnjflaaDoorSumPure
namespace Go.Proofs.YthenhfhffnjflaaDoor.SumW
open Go.RowKit SumP K

theorem lsb_and (r : W) : bits .and .u32 (r.toNat : Int) 1 = (((r.getLsbD 0).toNat : Nat) : Int) := by
  rw [show (1 : Int) = ((1 : Nat) : Int) from rfl, u32_and_nat _ _ r.isLt (by decide), nat_mask1]
  rw [BitVec.getLsbD, Nat.testBit_zero]
  cases h4 : decide (r.toNat % 2 = 1) <;> simp at h4 <;> simp <;> omega

theorem xor_toNat (a b : W) : bits .xor .u32 (a.toNat : Int) (b.toNat : Int) = ((a ^^^ b).toNat : Int) := by
  rw [u32_xor_nat _ _ a.isLt b.isLt, BitVec.toNat_xor]

theorem half_toNat (r : W) : ((r.toNat : Nat) : Int) / (2 : Int) = (((r >>> 1).toNat : Nat) : Int) := by
  rw [BitVec.toNat_ushiftRight, Nat.shiftRight_eq_div_pow]; omega

theorem bstep_false (r : W) : bstep r false = if r.getLsbD 0 then (r >>> 1) ^^^ poly else r >>> 1 := by
  unfold bstep; cases r.getLsbD 0 <;> rfl

theorem zeros_succ (r : W) (k : Nat) : crcB r (List.replicate (k + 1) false) = bstep (crcB r (List.replicate k false)) false := by
  rw [List.replicate_succ', crcB_append]; rfl

set_option maxRecDepth 100000 in
theorem entry_any (i : Nat) (hi : i < 256) (w : World) :
    Calls Tryd.prog 43 #[.int .i64 (i : Int)] w fun e w' => e = .returned (.int .u32 ((T (BitVec.ofNat 32 i)).toNat : Int)) ∧ w = w' := by
  go_enter Tryd.func43, Tryd.ntmps43
  go_wp2
  go_loop [3, 7] (fun r j => ∃ k : Nat, k ≤ 8 ∧ j = .int .i64 (k : Int) ∧ r = .int .u32 ((crcB (BitVec.ofNat 32 i) (List.replicate k false)).toNat : Int))
    (fun _ j => 8 - (intOf j).toNat)
  case atStart => exact ⟨0, by omega, rfl, by simp [crcB]; omega⟩
  case round =>
    obtain ⟨k, hk, rfl, rfl⟩ := hrel
    have hz := Lib.hid (zeros_succ (BitVec.ofNat 32 i) k)
    generalize hr0 : crcB (BitVec.ofNat 32 i) (List.replicate k false) = r at *
    have hr := Lib.hid hr0
    clear hr0
    have h1 := lsb_and r
    have h2 := half_toNat r
    have h3 := xor_toNat (r >>> 1) poly
    have hp : (poly.toNat : Int) = 2197175160 := rfl
    rw [hp] at h3
    have H2 := Lib.hid h2
    have H3 := Lib.hid h3
    have hb := Lib.hid (bstep_false r)
    clear hp h2 h3
    by_cases hk8 : k < 8
    · cases hl : r.getLsbD 0
      all_goals
        rw [hl] at h1
        go_wp2
        go_round
        case rel =>
          refine ⟨k + 1, by omega, by go_num, ?_⟩
          rw [hz.out, hb.out, hl]
          first
            | exact congrArg (Value.int .u32) H2.out
            | (rw [H2.out]; exact congrArg (Value.int .u32) H3.out)
        case measure => simp [intOf]; omega
    · obtain rfl : k = 8 := by omega
      go_wp2
      go_ret
      exact ⟨by rw [show T (BitVec.ofNat 32 i) = r from hr.out]; rfl, rfl⟩

end Go.Proofs.YthenhfhffnjflaaDoor.SumW
