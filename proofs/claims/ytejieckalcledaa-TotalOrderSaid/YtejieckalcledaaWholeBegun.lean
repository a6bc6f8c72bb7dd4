/- what the laws on numbers ask in any case -/
import Derived.Test.YtejieckalcledaaWholeSum
namespace Go.Proofs.Ytejieckalcledaa.WholeP
open Go.RowKit K

theorem b1 : fit (-4294967296 * 2147483648) = (-9223372036854775808, 0) := by decide
theorem b2 : fit (4294967296 * 2147483648) = (0, 8) := by decide
theorem b3 : rem (-7) 3 = (-1, 0) := by decide
theorem b4 : total [9223372036854775807, 5, -6] = (9223372036854775806, 0) := by decide
theorem b5 : fit (- -9223372036854775808) = (0, 8) := by decide
theorem b6 : quo 1 0 = (0, 9) := by decide

set_option maxRecDepth 100000 in
theorem begun_any (w : World) :
    Calls Try.prog 15 #[] w fun e w' => e = .returned (.bool true) ∧ Below w.heap.size w w' := by
  have H1 := Lib.hid b1
  have H2 := Lib.hid b2
  have H3 := Lib.hid b3
  have H4 := Lib.hid b4
  have H5 := Lib.hid b5
  have H6 := Lib.hid b6
  have hseen : Seen (w.alloc (.cells #[Value.int .i64 9223372036854775807, Value.int .i64 5, Value.int .i64 (-6)] 2)) (.slice (some ⟨w.heap.size, 0, none⟩) 3 3) 3 1 ([9223372036854775807, 5, -6].map (Value.int .i64)) :=
    Seen.of_own (own_built (w := w) (B := 0) (e := 2) ([9223372036854775807, 5, -6].map (Value.int .i64)) 3 1 (Nat.zero_le _) (by decide) rfl)
  go_enter Try.func15, Try.ntmps15
  go_wp2_with (first
    | (go_at_call 17; (with_reducible refine (mul_any (-4294967296) 2147483648 ⟨by decide, by decide⟩ ⟨by decide, by decide⟩ _).mono ?_); rintro e w' ⟨rfl, rfl⟩; rw [H1.out])
    | (go_at_call 17; (with_reducible refine (mul_any 4294967296 2147483648 ⟨by decide, by decide⟩ ⟨by decide, by decide⟩ _).mono ?_); rintro e w' ⟨rfl, rfl⟩; rw [H2.out])
    | (go_at_call 12; (with_reducible refine (mod_any (-7) 3 ⟨by decide, by decide⟩ ⟨by decide, by decide⟩ _).mono ?_); rintro e w' ⟨rfl, rfl⟩; rw [H3.out])
    | (go_at_call 18; (refine (total_any [9223372036854775807, 5, -6] (by decide) _ _ hseen).mono ?_); rintro e w' ⟨rfl, hb1⟩; rw [H4.out])
    | (go_at_call 21; (with_reducible refine (neg_any (-9223372036854775808) ⟨by decide, by decide⟩ _).mono ?_); rintro e w' ⟨rfl, rfl⟩; rw [H5.out])
    | (go_at_call 11; (with_reducible refine (div_any 1 0 ⟨by decide, by decide⟩ ⟨by decide, by decide⟩ _).mono ?_); rintro e w' ⟨rfl, rfl⟩; rw [H6.out]))
  go_ret
  exact ⟨rfl, ((Below.refl _ _).alloc (Nat.le_refl _) _).trans (hb1.mono (by simp))⟩

theorem fit_in (n : Int) : In64 (fit n).1 := by unfold fit; split <;> first | assumption | decide
theorem fit_err (n : Int) : (fit n).2 = 0 ∨ (fit n).2 = 8 := by unfold fit; split <;> simp
theorem fit_ok {n : Int} (h : (fit n).2 = 0) : fit n = (n, 0) ∧ In64 n := by
  unfold fit at h ⊢; split at h
  · rename_i k; exact ⟨if_pos k, k⟩
  · simp at h

end Go.Proofs.Ytejieckalcledaa.WholeP
