/- the reference on 64-bit signed numbers, and what the laws ask in any case -/
import Derived.Test.YtpkifeagopceaaaDoorYWholeWalk
namespace Go.Proofs.YtpkifeagopceaaaDoor.WholeP
open Go.RowKit K
theorem over_pp (a b : Int) (ha : 0 < a) (hb : 0 < b) : In64 (a * b) ↔ ¬ a > (9223372036854775807 : Int).tdiv b := by
 have h0 : 0 ≤ a * b := Int.mul_nonneg (by omega) (by omega)
 have e : (9223372036854775807 : Int).tdiv b = 9223372036854775807 / b := Int.tdiv_eq_ediv_of_nonneg (by decide)
 have h := Int.le_ediv_iff_mul_le (a := a) (b := 9223372036854775807) hb
 rw [e]; unfold In64; omega
theorem over_nn (a b : Int) (ha : a < 0) (hb : b < 0) : In64 (a * b) ↔ ¬ a < (9223372036854775807 : Int).tdiv b := by
 have h := over_pp (-a) (-b) (by omega) (by omega)
 rw [Int.neg_mul_neg, Int.tdiv_neg] at h
 rw [h]; omega
theorem over_pn (a b : Int) (ha : 0 < a) (hb : b < 0) : In64 (a * b) ↔ ¬ b < (-9223372036854775808 : Int).tdiv a := by
 have h0 : a * b ≤ 0 := Int.mul_nonpos_of_nonneg_of_nonpos (by omega) (by omega)
 have e : (-9223372036854775808 : Int).tdiv a = -(9223372036854775808 / a) := by
  rw [Int.neg_tdiv, Int.tdiv_eq_ediv_of_nonneg (by decide)]
 have h := Int.le_ediv_iff_mul_le (a := -b) (b := 9223372036854775808) ha
 have e2 : -b * a = -(a * b) := by rw [Int.neg_mul, Int.mul_comm]
 rw [e2] at h
 rw [e]; unfold In64; omega
theorem over_np (a b : Int) (ha : a < 0) (hb : 0 < b) : In64 (a * b) ↔ ¬ a < (-9223372036854775808 : Int).tdiv b := by
 rw [Int.mul_comm]; exact over_pn b a hb ha
theorem quo_in (n b : Int) (hn : n = 9223372036854775807 ∨ n = -9223372036854775808) (_h0 : b ≠ 0) (h1 : n = -9223372036854775808 → 0 < b) : wrap64 (n.tdiv b) = n.tdiv b := by
 have h : (n.tdiv b).natAbs = n.natAbs / b.natAbs := by rw [Int.natAbs_tdiv]; rfl
 have h2 : n.natAbs / b.natAbs ≤ n.natAbs := Nat.div_le_self _ _
 unfold wrap64
 rcases hn with rfl | rfl
 ·omega
 ·have : (-9223372036854775808 : Int).tdiv b ≤ 0 := by
   have := Int.tdiv_nonneg (a := 9223372036854775808) (b := b) (by decide) (by have := h1 rfl; omega)
   rw [Int.neg_tdiv]; omega
  omega
end Go.Proofs.YtpkifeagopceaaaDoor.WholeP
