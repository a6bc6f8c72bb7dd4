/- PartsWhole: a number is the divisor times the quotient, and the rest; what is left is nearer to 0 than the divisor, and of the number's sign. Conditions: none beyond the statement's own. -/
import Derived.Test.YtejieckalcledaaFrame
import Derived.Test.YtejieckalcledaaWholeBegun
namespace Go.Proofs.Ytejieckalcledaa.partsWhole
open Go.ChangeShapes Go.WideShapes Go.ChangeAt Go.RowKit
open Go.ChangeMaps (open_string shut_string)
set_option linter.unusedVariables false

open K WholeP

set_option maxRecDepth 100000 in
theorem walk (a : Int) (a0 : -9223372036854775808 ≤ a) (a1 : a ≤ 9223372036854775807) (b : Int) (b0 : -9223372036854775808 ≤ b) (b1 : b ≤ 9223372036854775807) (w : World) :
    Calls Try.prog 8 #[.int .i64 a, .int .i64 b] w fun e w' => e = .returned (.bool true) ∧ Below w.heap.size w w' := by
  have ha : In64 a := ⟨a0, a1⟩
  have hb : In64 b := ⟨b0, b1⟩
  have hD := div_any a b ha hb
  have hM := mod_any a b ha hb
  by_cases h0 : b = 0
  · subst h0
    rw [show quo a 0 = (0, 9) from rfl] at hD
    rw [show rem a 0 = (0, 9) from rfl] at hM
    go_enter Try.func8, Try.ntmps8
    go_wp2_with (first
      | (go_at_call 15; refine (begun_any _).mono ?_; rintro e w1 ⟨rfl, hb1⟩)
      | (go_at_call 11; (with_reducible refine (hD _).mono ?_); rintro e w' ⟨rfl, rfl⟩)
      | (go_at_call 12; (with_reducible refine (hM _).mono ?_); rintro e w' ⟨rfl, rfl⟩))
    go_ret
    exact ⟨rfl, by assumption⟩
  have hq : quo a b = fit (a.tdiv b) := if_neg h0
  have hr : rem a b = (a.tmod b, 0) := if_neg h0
  rw [hq] at hD
  rw [hr] at hM
  by_cases hk : In64 (a.tdiv b)
  · rw [fit_true hk] at hD
    have hrin := tmod_in a b ha
    have hm : a.tdiv b * b = a - a.tmod b := by have := Int.mul_tdiv_add_tmod a b; rw [Int.mul_comm]; omega
    have habs : (a.tmod b).natAbs < b.natAbs := by
      rw [Int.natAbs_tmod]; exact Nat.mod_lt _ (by omega)
    have hsg : a.tmod b = 0 ∨ (a.tmod b < 0 ↔ a < 0) := by
      by_cases hs : 0 ≤ a
      · have := Int.tmod_nonneg b hs; right; omega
      · have : 0 ≤ (-a).tmod b := Int.tmod_nonneg b (by omega)
        rw [Int.neg_tmod] at this; omega
    have hsub : In64 (a - a.tmod b) := by
      obtain ⟨k1, k2⟩ := hrin
      by_cases hs : 0 ≤ a
      · have := Int.tmod_nonneg b hs
        have h3 : (a.tmod b).natAbs ≤ a.natAbs := by rw [Int.natAbs_tmod]; exact Nat.mod_le _ _
        constructor <;> omega
      · have : 0 ≤ (-a).tmod b := Int.tmod_nonneg b (by omega)
        rw [Int.neg_tmod] at this
        have h3 : (a.tmod b).natAbs ≤ a.natAbs := by rw [Int.natAbs_tmod]; exact Nat.mod_le _ _
        constructor <;> omega
    have hP := mul_any (a.tdiv b) b hk hb
    rw [hm, fit_true hsub] at hP
    have hA := add_any (a - a.tmod b) (a.tmod b) hsub hrin
    rw [show a - a.tmod b + a.tmod b = a by omega, fit_true ha] at hA
    clear hq hr hk hrin hm hsub
    generalize a.tdiv b = q at *
    generalize a.tmod b = r at *
    have hb0 : (b == 0) = false := by simpa using h0
    have hcb : (b = -9223372036854775808) ∨ (decide (b < 0) = true ∧ ¬ b = -9223372036854775808 ∧ wrap64 (-b) = -b ∧ decide (r < -b) = true ∧ decide (b < r) = true) ∨ (decide (b < 0) = false ∧ wrap64 (-b) = -b ∧ decide (-b < r) = true ∧ decide (r < b) = true) := by
      unfold wrap64; simp; omega
    by_cases hr0 : r = 0
    · subst hr0
      clear hsg
      rw [Int.sub_zero] at hA hP
      rcases hcb with rfl | ⟨x1, x2, x3, x4, x5⟩ | ⟨x1, x2, x3, x4⟩
      all_goals
        clear ha hb a0 a1 b0 b1 habs h0
        go_enter Try.func8, Try.ntmps8
        go_wp2_with (first
          | (go_at_call 15; refine (begun_any _).mono ?_; rintro e w1 ⟨rfl, hb1⟩)
          | (go_at_call 11; (with_reducible refine (hD _).mono ?_); rintro e w' ⟨rfl, rfl⟩)
          | (go_at_call 12; (with_reducible refine (hM _).mono ?_); rintro e w' ⟨rfl, rfl⟩)
          | (go_at_call 17; (with_reducible refine (hP _).mono ?_); rintro e w' ⟨rfl, rfl⟩)
          | (go_at_call 20; (with_reducible refine (hA _).mono ?_); rintro e w' ⟨rfl, rfl⟩))
        go_ret
        exact ⟨rfl, by assumption⟩
    · have hs' : (decide (r < 0) == decide (a < 0)) = true := by simpa using hsg.resolve_left hr0
      have hbr : b = -9223372036854775808 → decide (b < r) = true := by simp; omega
      clear hsg
      rcases hcb with hcb | ⟨x1, x2, x3, x4, x5⟩ | ⟨x1, x2, x3, x4⟩
      all_goals
        try (have hbr' := hbr hcb; subst hcb)
        clear ha hb a0 a1 b0 b1 habs h0 hbr
        go_enter Try.func8, Try.ntmps8
        go_wp2_with (first
          | (go_at_call 15; refine (begun_any _).mono ?_; rintro e w1 ⟨rfl, hb1⟩)
          | (go_at_call 11; (with_reducible refine (hD _).mono ?_); rintro e w' ⟨rfl, rfl⟩)
          | (go_at_call 12; (with_reducible refine (hM _).mono ?_); rintro e w' ⟨rfl, rfl⟩)
          | (go_at_call 17; (with_reducible refine (hP _).mono ?_); rintro e w' ⟨rfl, rfl⟩)
          | (go_at_call 20; (with_reducible refine (hA _).mono ?_); rintro e w' ⟨rfl, rfl⟩))
        go_ret
        first | exact ⟨rfl, by assumption⟩ | (refine ⟨congrArg (fun c => Ending.returned (.bool c)) (?_ : _ = true), by assumption⟩; simp_all)
  · have h1 : b = -1 := Classical.byContradiction fun h1 => hk (tdiv_in a b ha hb h0 h1)
    subst h1
    have h2 : a = -9223372036854775808 := by
      rw [Int.tdiv_neg, Int.tdiv_one] at hk
      unfold In64 at hk; omega
    subst h2
    rw [fit_false hk] at hD
    go_enter Try.func8, Try.ntmps8
    go_wp2_with (first
      | (go_at_call 15; refine (begun_any _).mono ?_; rintro e w1 ⟨rfl, hb1⟩)
      | (go_at_call 11; (with_reducible refine (hD _).mono ?_); rintro e w' ⟨rfl, rfl⟩)
      | (go_at_call 12; (with_reducible refine (hM _).mono ?_); rintro e w' ⟨rfl, rfl⟩))
    go_ret
    exact ⟨rfl, by assumption⟩

/-! ### the row's step, by program -/
set_option maxRecDepth 100000 in
theorem lifted (os : Os) (started : os.Started) (H : Type) (enc : TypeId × Value → H) :
    ReturnsInHanded {} Try.checked os 8 .any (Rows.partsWholeSpec.pre6 enc Try.prog Try.f8 Rows.partsWholeRow.domain false) (Rows.partsWholeSpec.post enc Try.prog Try.f8 false true false false) := by
  refine returnsInHanded_of_change_sized (C := Try.checked) own started (by kernel_rfl) Try.func8
    (ChangeSpec.witness6 (enc := enc) (C := Try.checked) false ⟨#[], #[.int .i64 0, .int .i64 0], []⟩ 8 (by kernel_rfl) (by kernel_rfl) (by kernel_rfl) (by kernel_rfl)) ?_
  intro W base args ds gs before hval0 hW hcnd hsz0 _
  have hval : ∀ (j : Nat) t v, Try.f8.params[j]? = some t → args[j]? = some v → Value.okWide Try.prog W .any base t v := hval0
  have hsz : (DataW.weightsEach Try.prog (Try.f8.params.toList ++ Rows.partsWholeSpec.plain.varTypes Try.prog) (ds ++ gs)).all (· ≤ reachBytes) = true := hsz0
  have hW' := hW
  obtain ⟨p, q, hA0, hV, rfl, hfz, hnd⟩ := hW
  have hA : DataW.TrodAll enc Try.prog W 0 (fun _ => true) true Try.f8.params.toList args.toList ds p := hA0
  rw [Try.params8] at hA hval hsz
  obtain ⟨v0, vs0, d0, ds0, p0, q0, hargs, rfl, rfl, h0, r0⟩ := trodAll_cons hA
  obtain ⟨v1, vs1, d1, ds1, p1, q1, rfl, rfl, rfl, h1, r1⟩ := trodAll_cons r0
  obtain ⟨rfl, rfl, rfl⟩ := trodAll_nil r1
  obtain rfl : args = #[v0, v1] := by cases args; simp_all
  obtain ⟨rfl, rfl⟩ := trodVars_none hV
  obtain ⟨a0, rfl, rfl, rfl, wf0⟩ := open_int Try.underlying2 (hval 0 2 v0 rfl rfl) h0
  have w0 : -9223372036854775808 ≤ a0 ∧ a0 ≤ 9223372036854775807 := by simpa [Lit.wf, IntKind.min, IntKind.max, IntKind.signed, IntKind.bits] using wf0
  obtain ⟨a1, rfl, rfl, rfl, wf1⟩ := open_int Try.underlying2 (hval 1 2 v1 rfl rfl) h1
  have w1 : -9223372036854775808 ≤ a1 ∧ a1 ≤ 9223372036854775807 := by simpa [Lit.wf, IntKind.min, IntKind.max, IntKind.signed, IntKind.bits] using wf1
  clear hA0 hval0
  refine (walk a0 w0.1 w0.2 a1 w1.1 w1.2 W).mono fun e W' ⟨he, bel⟩ => ?_
  subst he
  exact ⟨_, rfl, post_true laidOut (by kernel_rfl) Try.underlying4 (by kernel_rfl) rfl hW' rfl bel⟩

theorem proved : Rows.PartsWholeSaid :=
  OpenClaim.holds_of_wide 8 Try.f8 rfl rfl rfl rfl rfl rfl rfl ⟨rfl, rfl, rfl, rfl, rfl⟩ rfl rfl rfl rfl rfl (by kernel_rfl) Try.func8 (by kernel_rfl)
    (of_decide_eq_true (by kernel_rfl)) (by unfold Func.isWrapper; first | (rw [if_pos (by decide +kernel)]; kernel_rfl) | (rw [if_neg (by decide +kernel)]; exact ⟨rfl, rfl⟩))
    (fun os started H enc _ => lifted os started H enc)

end Go.Proofs.Ytejieckalcledaa.partsWhole

