/- WholeOrder: less is just what the difference tells; the sign of a product is that of both. Conditions: none beyond the statement's own. -/
import Derived.Test.YtejieckalcledaaFrame
import Derived.Test.YtejieckalcledaaWholeBegun
namespace Go.Proofs.Ytejieckalcledaa.wholeOrder
open Go.ChangeShapes Go.WideShapes Go.ChangeAt Go.RowKit
open Go.ChangeMaps (open_string shut_string)
set_option linter.unusedVariables false

open K WholeP

set_option maxRecDepth 100000 in
theorem walk (a : Int) (a0 : -9223372036854775808 ≤ a) (a1 : a ≤ 9223372036854775807) (b : Int) (b0 : -9223372036854775808 ≤ b) (b1 : b ≤ 9223372036854775807) (w : World) :
    Calls Try.prog 4 #[.int .i64 a, .int .i64 b] w fun e w' => e = .returned (.bool true) ∧ Below w.heap.size w w' := by
  have ha : In64 a := ⟨a0, a1⟩
  have hb : In64 b := ⟨b0, b1⟩
  have hS := sub_any a b ha hb
  have hM := mul_any a b ha hb
  have he := fit_err (a - b)
  have hf := fit_err (a * b)
  have l0 : (fit (a - b)).2 = 0 → (decide ((fit (a - b)).1 < 0) == decide (a < b)) = true := fun h => by
    obtain ⟨h1, h2⟩ := fit_ok h; rw [h1]; simp; omega
  have l8 : (fit (a - b)).2 = 8 → (decide (a < 0) == decide (a < b)) = true := fun h => by
    have : ¬ In64 (a - b) := fun k => by rw [fit_true k] at h; simp at h
    unfold In64 at this
    simp; omega
  have hp : (fit (a * b)).2 = 0 → decide ((fit (a * b)).1 < 0) = (decide (a < 0 ∧ 0 < b) || decide (0 < a ∧ b < 0)) := fun h => by
    obtain ⟨h1, h2⟩ := fit_ok h
    rw [h1]
    have : a * b < 0 ↔ (a < 0 ∧ 0 < b) ∨ (0 < a ∧ b < 0) := by
      constructor
      · intro h
        rcases Int.lt_trichotomy a 0 with k | rfl | k <;> rcases Int.lt_trichotomy b 0 with k' | rfl | k'
        · have := Int.mul_pos_of_neg_of_neg k k'; omega
        · simp at h
        · exact .inl ⟨k, k'⟩
        · simp at h
        · simp at h
        · simp at h
        · exact .inr ⟨k, k'⟩
        · simp at h
        · have := Int.mul_pos k k'; omega
      · rintro (⟨h1, h2⟩ | ⟨h1, h2⟩)
        · exact Int.mul_neg_of_neg_of_pos h1 h2
        · exact Int.mul_neg_of_pos_of_neg h1 h2
    simp only [this, Bool.decide_or]
  generalize fit (a - b) = D at *
  generalize fit (a * b) = P at *
  obtain ⟨d, e⟩ := D
  obtain ⟨p, f⟩ := P
  simp only at he hf l0 l8 hp
  have hcases : f = 8 ∨ (f = 0 ∧ (((a < 0 ↔ b < 0) ∧ decide (p < 0) = false) ∨ (¬ (a < 0 ↔ b < 0) ∧ ((a = 0 ∧ decide (p < 0) = false) ∨ (¬ a = 0 ∧ ((b = 0 ∧ decide (p < 0) = false) ∨ (¬ b = 0 ∧ decide (p < 0) = true))))))) := by
    rcases hf with rfl | rfl
    · right
      refine ⟨rfl, ?_⟩
      rw [hp rfl]
      rcases Int.lt_trichotomy a 0 with k | rfl | k <;> rcases Int.lt_trichotomy b 0 with k' | rfl | k' <;> simp <;> omega
    · exact .inl rfl
  clear hf hp
  rcases he with rfl | rfl <;> rcases hcases with rfl | ⟨rfl, ⟨x1, x2⟩ | ⟨x1, ⟨rfl, x3⟩ | ⟨x2, ⟨rfl, x4⟩ | ⟨x3, x4⟩⟩⟩⟩
  all_goals
    try (have l0' := l0 rfl)
    try (have l8' := l8 rfl)
    try (have l9 : (decide (b < 0) == decide (a < b)) = true := by
          simp only [beq_iff_eq, decide_eq_decide] at l8' ⊢
          exact x1.symm.trans l8')
    clear l0 l8 ha hb a0 a1 b0 b1
    go_enter Try.func4, Try.ntmps4
    go_wp2_with (first
      | (go_at_call 15; refine (begun_any _).mono ?_; rintro e w1 ⟨rfl, hb1⟩)
      | (go_at_call 16; (with_reducible refine (hS _).mono ?_); rintro e w' ⟨rfl, rfl⟩)
      | (go_at_call 17; (with_reducible refine (hM _).mono ?_); rintro e w' ⟨rfl, rfl⟩))
    go_ret
    first | exact ⟨rfl, by assumption⟩ | (refine ⟨congrArg (fun c => Ending.returned (.bool c)) (?_ : _ = true), by assumption⟩; simp_all)

/-! ### the row's step, by program -/
set_option maxRecDepth 100000 in
theorem lifted (os : Os) (started : os.Started) (H : Type) (enc : TypeId × Value → H) :
    ReturnsInHanded {} Try.checked os 4 .any (Rows.wholeOrderSpec.pre6 enc Try.prog Try.f4 Rows.wholeOrderRow.domain false) (Rows.wholeOrderSpec.post enc Try.prog Try.f4 false true false false) := by
  refine returnsInHanded_of_change_sized (C := Try.checked) own started (by kernel_rfl) Try.func4
    (ChangeSpec.witness6 (enc := enc) (C := Try.checked) false ⟨#[], #[.int .i64 0, .int .i64 0], []⟩ 8 (by kernel_rfl) (by kernel_rfl) (by kernel_rfl) (by kernel_rfl)) ?_
  intro W base args ds gs before hval0 hW hcnd hsz0 _
  have hval : ∀ (j : Nat) t v, Try.f4.params[j]? = some t → args[j]? = some v → Value.okWide Try.prog W .any base t v := hval0
  have hsz : (DataW.weightsEach Try.prog (Try.f4.params.toList ++ Rows.wholeOrderSpec.plain.varTypes Try.prog) (ds ++ gs)).all (· ≤ reachBytes) = true := hsz0
  have hW' := hW
  obtain ⟨p, q, hA0, hV, rfl, hfz, hnd⟩ := hW
  have hA : DataW.TrodAll enc Try.prog W 0 (fun _ => true) true Try.f4.params.toList args.toList ds p := hA0
  rw [Try.params4] at hA hval hsz
  obtain ⟨v0, vs0, d0, ds0, p0, q0, hargs, rfl, rfl, h0, r0⟩ := trodAll_cons hA
  obtain ⟨v1, vs1, d1, ds1, p1, q1, rfl, rfl, rfl, h1, r1⟩ := trodAll_cons r0
  obtain ⟨rfl, rfl, rfl⟩ := trodAll_nil r1
  obtain rfl : args = #[v0, v1] := by cases args; simp_all
  obtain ⟨rfl, rfl⟩ := trodVars_none hV
  obtain ⟨a0, rfl, rfl, rfl, wf0⟩ := open_int Try.underlying2 (hval 0 2 v0 rfl rfl) h0
  have w0 : -9223372036854775808 ≤ a0 ∧ a0 ≤ 9223372036854775807 := by simpa [Lit.wf, IntKind.min, IntKind.max, IntKind.signed, IntKind.bits] using wf0
  obtain ⟨a1, rfl, rfl, rfl, wf1⟩ := open_int Try.underlying2 (hval 1 2 v1 rfl rfl) h1
  have w1 : -9223372036854775808 ≤ a1 ∧ a1 ≤ 9223372036854775807 := by simpa [Lit.wf, IntKind.min, IntKind.max, IntKind.signed, IntKind.bits] using wf1
  clear hA0 hval0
  refine (walk a0 w0.1 w0.2 a1 w1.1 w1.2 W).mono fun e W' ⟨he, bel⟩ => ?_
  subst he
  exact ⟨_, rfl, post_true laidOut (by kernel_rfl) Try.underlying4 (by kernel_rfl) rfl hW' rfl bel⟩

theorem proved : Rows.WholeOrderSaid :=
  OpenClaim.holds_of_wide 4 Try.f4 rfl rfl rfl rfl rfl rfl rfl ⟨rfl, rfl, rfl, rfl, rfl⟩ rfl rfl rfl rfl rfl (by kernel_rfl) Try.func4 (by kernel_rfl)
    (of_decide_eq_true (by kernel_rfl)) (by unfold Func.isWrapper; first | (rw [if_pos (by decide +kernel)]; kernel_rfl) | (rw [if_neg (by decide +kernel)]; exact ⟨rfl, rfl⟩))
    (fun os started H enc _ => lifted os started H enc)

end Go.Proofs.Ytejieckalcledaa.wholeOrder

