/- what the laws on truth values ask in any case -/
import Derived.Test.YtplgobljgmlpkaaLogicRef
namespace Go.Proofs.Ytplgobljgmlpkaa.LogicP
open Go.RowKit K ValP

theorem vint_any (n : Int) (w : World) : Calls Try.prog 32 #[.int .i64 n] w fun e w' => e = .returned (.agg #[.int .i64 1, .int .i64 n, .string ⟨#[]⟩]) ∧ Below w.heap.size w w' := by
  go_enter Try.func32, Try.ntmps32
  go_wp2
  exact bodyPost_ret (v := .agg #[.int .i64 1, .int .i64 n, .string ⟨#[]⟩]) (by simp [results, Try.results32, go_sem]) rfl ⟨rfl, alloc_below _ _⟩

abbrev E0 : ByteArray := ⟨#[]⟩
theorem g1 : vin (1, 3, E0) [(0, 0, E0), (1, 3, E0)] = (2, 0) := by decide +kernel
theorem g2 : vin (1, 3, E0) [(0, 0, E0), (1, 4, E0)] = (1, 0) := by decide +kernel
theorem g3 : vbetween (1, 3, E0) (1, 1, E0) (1, 3, E0) = (2, 0) := by decide +kernel
theorem g4 : land 7 0 = 0 := by decide
theorem g5 : lor 7 0 = 1 := by decide
theorem g6 : lnot 0 = 2 := by decide

set_option maxRecDepth 100000 in
set_option maxHeartbeats 2000000 in
set_option linter.unusedVariables false in
theorem begun_any (w : World) :
    Calls Try.prog 13 #[] w fun e w' => e = .returned (.bool true) ∧ Below w.heap.size w w' := by
  go_enter Try.func13, Try.ntmps13
  go_wp2_with fail
  refine (vint_any 3 _).mono ?_
  rintro e w1 ⟨rfl, hb1⟩
  have hW1 := hb1
  go_wp2_with fail
  refine (vint_any 3 _).mono ?_
  rintro e w2 ⟨rfl, hb2⟩
  have hW2 := chain hW1 hb2
  have C := in_any ((1, 3, E0) : ValD) [((0, 0, E0) : ValD), ((1, 3, E0) : ValD)] _ _ (seen_vals w2 [((0, 0, E0) : ValD), ((1, 3, E0) : ValD)] w2.heap.size 2 rfl rfl (by decide))
  rw [g1] at C
  have HC := Lib.hid C
  clear C
  go_wp2_with fail
  refine (HC.out).mono ?_
  rintro e w3 ⟨rfl, hb3⟩
  have hW3 := chain (chain hW2 (alloc_below _ _)) hb3
  clear HC
  go_wp2_with fail
  refine (vint_any 3 _).mono ?_
  rintro e w4 ⟨rfl, hb4⟩
  have hW4 := chain hW3 hb4
  go_wp2_with fail
  refine (vint_any 4 _).mono ?_
  rintro e w5 ⟨rfl, hb5⟩
  have hW5 := chain hW4 hb5
  have C := in_any ((1, 3, E0) : ValD) [((0, 0, E0) : ValD), ((1, 4, E0) : ValD)] _ _ (seen_vals w5 [((0, 0, E0) : ValD), ((1, 4, E0) : ValD)] w5.heap.size 2 rfl rfl (by decide))
  rw [g2] at C
  have HC := Lib.hid C
  clear C
  go_wp2_with fail
  refine (HC.out).mono ?_
  rintro e w6 ⟨rfl, hb6⟩
  have hW6 := chain (chain hW5 (alloc_below _ _)) hb6
  clear HC
  go_wp2_with fail
  refine (vint_any 3 _).mono ?_
  rintro e w7 ⟨rfl, hb7⟩
  have hW7 := chain hW6 hb7
  go_wp2_with fail
  refine (vint_any 1 _).mono ?_
  rintro e w8 ⟨rfl, hb8⟩
  have hW8 := chain hW7 hb8
  go_wp2_with fail
  refine (vint_any 3 _).mono ?_
  rintro e w9 ⟨rfl, hb9⟩
  have hW9 := chain hW8 hb9
  have C := between_any ((1, 3, E0) : ValD) ((1, 1, E0) : ValD) ((1, 3, E0) : ValD) w9
  rw [g3] at C
  have HC := Lib.hid C
  clear C
  go_wp2_with fail
  refine (HC.out).mono ?_
  rintro e w10 ⟨rfl, hb10⟩
  have hW10 := chain hW9 hb10
  go_wp2_with (first
    | (go_at_call 10; refine (and_any _ _ _).mono ?_; rintro e w' ⟨rfl, rfl⟩; rw [g4])
    | (go_at_call 11; refine (or_any _ _ _).mono ?_; rintro e w' ⟨rfl, rfl⟩; rw [g5])
    | (go_at_call 12; refine (not_any _ _).mono ?_; rintro e w' ⟨rfl, rfl⟩; rw [g6]))
  go_ret
  exact ⟨rfl, hW10⟩

end Go.Proofs.Ytplgobljgmlpkaa.LogicP
