/- SignedNear: numbers nearer to 0 have the lesser Zig; that of -n is one less than that of n. Conditions: none beyond the statement's own. -/
import Derived.Test.YtohfodacfoammaaFrame
import Derived.Test.YtohfodacfoammaaNumBegun
namespace Go.Proofs.Ytohfodacfoammaa.signedNear
open Go.ChangeShapes Go.WideShapes Go.ChangeAt Go.RowKit
open Go.ChangeMaps (open_string shut_string)
set_option linter.unusedVariables false

open K NumP NumW NumRd NumZ NumL

theorem zig_less (a b : Int) (h : 0 ≤ a ↔ 0 ≤ b) : decide (zig a < zig b) = if a < 0 then decide (b < a) else decide (a < b) := by
  unfold zig
  by_cases ha : 0 ≤ a
  · have hb := h.1 ha
    rw [if_pos ha, if_pos hb, if_neg (by omega)]
    rw [Bool.eq_iff_iff]; simp <;> omega
  · have hb : ¬ 0 ≤ b := fun x => ha (h.2 x)
    rw [if_neg ha, if_neg hb, if_pos (by omega)]
    rw [Bool.eq_iff_iff]; simp <;> omega

theorem zig_ne (a b : Int) (h : ¬ (0 ≤ a ↔ 0 ≤ b)) : (zig a != zig b) = true := by
  simp only [bne_iff_ne, ne_eq]
  unfold zig
  split <;> split <;> omega

set_option maxRecDepth 100000 in
theorem walk (a : Int) (a0 : -9223372036854775808 ≤ a) (a1 : a ≤ 9223372036854775807) (b : Int) (b0 : -9223372036854775808 ≤ b) (b1 : b ≤ 9223372036854775807) (w : World) :
    Calls Try.prog 8 #[.int .i64 a, .int .i64 b] w fun e w' => e = .returned (.bool true) ∧ Below w.heap.size w w' := by
  by_cases h : 0 ≤ a ↔ 0 ≤ b
  · have hl := zig_less a b h
    by_cases ha : a < 0
    · rw [if_pos ha] at hl
      have hb : b < 0 := by omega
      have hsg : (decide (0 ≤ a) == decide (0 ≤ b)) = true := by simp [h]
      clear h
      by_cases hab : b < a
      all_goals
        simp only [hab, decide_true, decide_false] at hl
        first
          | have hx : decide (b < a) = true := decide_eq_true hab
          | have hx : decide (b < a) = false := decide_eq_false hab
        go_enter Try.func8, Try.ntmps8
        go_wp2_with (first
          | (go_at_call 13; refine (begun_any _).mono ?_; rintro e w1 ⟨rfl, hb1⟩)
          | (go_at_call 16; (with_reducible refine (zig_any a _ a0 a1).mono ?_); rintro e w2 ⟨rfl, rfl⟩)
          | (go_at_call 16; (with_reducible refine (zig_any b _ b0 b1).mono ?_); rintro e w2 ⟨rfl, rfl⟩))
        go_ret
        exact ⟨rfl, hb1⟩
    · rw [if_neg ha] at hl
      have hb : 0 ≤ b := by omega
      have hsg : (decide (0 ≤ a) == decide (0 ≤ b)) = true := by simp [h]
      clear h
      by_cases hab : a < b
      all_goals
        simp only [hab, decide_true, decide_false] at hl
        first
          | have hx : decide (a < b) = true := decide_eq_true hab
          | have hx : decide (a < b) = false := decide_eq_false hab
        go_enter Try.func8, Try.ntmps8
        go_wp2_with (first
          | (go_at_call 13; refine (begun_any _).mono ?_; rintro e w1 ⟨rfl, hb1⟩)
          | (go_at_call 16; (with_reducible refine (zig_any a _ a0 a1).mono ?_); rintro e w2 ⟨rfl, rfl⟩)
          | (go_at_call 16; (with_reducible refine (zig_any b _ b0 b1).mono ?_); rintro e w2 ⟨rfl, rfl⟩))
        go_ret
        exact ⟨rfl, hb1⟩
  · have hn := zig_ne a b h
    by_cases ha : a ≤ 0
    · have hsg : (decide (0 ≤ a) == decide (0 ≤ b)) = false := by simp only [beq_eq_false_iff_ne, ne_eq, decide_eq_decide]; exact h
      clear h
      go_enter Try.func8, Try.ntmps8
      go_wp2_with (first
        | (go_at_call 13; refine (begun_any _).mono ?_; rintro e w1 ⟨rfl, hb1⟩)
        | (go_at_call 16; (with_reducible refine (zig_any a _ a0 a1).mono ?_); rintro e w2 ⟨rfl, rfl⟩)
        | (go_at_call 16; (with_reducible refine (zig_any b _ b0 b1).mono ?_); rintro e w2 ⟨rfl, rfl⟩))
      go_ret
      exact ⟨rfl, hb1⟩
    · have hb : b < 0 := by omega
      have hsg : (decide (0 ≤ a) == decide (0 ≤ b)) = false := by simp only [beq_eq_false_iff_ne, ne_eq, decide_eq_decide]; exact h
      clear h
      have hz : zig (-a) ≤ 18446744073709551614 := by unfold zig; split <;> omega
      have hz0 : 0 ≤ zig (-a) := by unfold zig; split <;> omega
      have he : (zig (-a) + 1 == zig a) = true := by simp only [beq_iff_eq]; unfold zig; split <;> split <;> omega
      go_enter Try.func8, Try.ntmps8
      go_wp2_with (first
        | (go_at_call 13; refine (begun_any _).mono ?_; rintro e w1 ⟨rfl, hb1⟩)
        | (go_at_call 16; (with_reducible refine (zig_any a _ a0 a1).mono ?_); rintro e w2 ⟨rfl, rfl⟩)
        | (go_at_call 16; (with_reducible refine (zig_any b _ b0 b1).mono ?_); rintro e w2 ⟨rfl, rfl⟩)
        | (go_at_call 16; (with_reducible refine (zig_any (-a) _ (by omega) (by omega)).mono ?_); rintro e w2 ⟨rfl, rfl⟩))
      go_ret
      exact ⟨rfl, hb1⟩

/-! ### the row's step, by program -/
set_option maxRecDepth 100000 in
theorem lifted (os : Os) (started : os.Started) (H : Type) (enc : TypeId × Value → H) :
    ReturnsInHanded {} Try.checked os 8 .any (Rows.signedNearSpec.pre6 enc Try.prog Try.f8 Rows.signedNearRow.domain false) (Rows.signedNearSpec.post enc Try.prog Try.f8 false true false false) := by
  refine returnsInHanded_of_change_sized (C := Try.checked) own started (by kernel_rfl) Try.func8
    (ChangeSpec.witness6 (enc := enc) (C := Try.checked) false ⟨#[], #[.int .i64 0, .int .i64 0], []⟩ 8 (by kernel_rfl) (by kernel_rfl) (by kernel_rfl) (by kernel_rfl)) ?_
  intro W base args ds gs before hval0 hW hcnd hsz0 _
  have hval : ∀ (j : Nat) t v, Try.f8.params[j]? = some t → args[j]? = some v → Value.okWide Try.prog W .any base t v := hval0
  have hsz : (DataW.weightsEach Try.prog (Try.f8.params.toList ++ Rows.signedNearSpec.plain.varTypes Try.prog) (ds ++ gs)).all (· ≤ reachBytes) = true := hsz0
  have hW' := hW
  obtain ⟨p, q, hA0, hV, rfl, hfz, hnd⟩ := hW
  have hA : DataW.TrodAll enc Try.prog W 0 (fun _ => true) true Try.f8.params.toList args.toList ds p := hA0
  rw [Try.params8] at hA hval hsz
  obtain ⟨v0, vs0, d0, ds0, p0, q0, hargs, rfl, rfl, h0, r0⟩ := trodAll_cons hA
  obtain ⟨v1, vs1, d1, ds1, p1, q1, rfl, rfl, rfl, h1, r1⟩ := trodAll_cons r0
  obtain ⟨rfl, rfl, rfl⟩ := trodAll_nil r1
  obtain rfl : args = #[v0, v1] := by cases args; simp_all
  obtain ⟨rfl, rfl⟩ := trodVars_none hV
  obtain ⟨a0, rfl, rfl, rfl, wf0⟩ := open_int Try.underlying2 (hval 0 2 v0 rfl rfl) h0
  have w0 : -9223372036854775808 ≤ a0 ∧ a0 ≤ 9223372036854775807 := by simpa [Lit.wf, IntKind.min, IntKind.max, IntKind.signed, IntKind.bits] using wf0
  obtain ⟨a1, rfl, rfl, rfl, wf1⟩ := open_int Try.underlying2 (hval 1 2 v1 rfl rfl) h1
  have w1 : -9223372036854775808 ≤ a1 ∧ a1 ≤ 9223372036854775807 := by simpa [Lit.wf, IntKind.min, IntKind.max, IntKind.signed, IntKind.bits] using wf1
  clear hA0 hval0
  refine (walk a0 w0.1 w0.2 a1 w1.1 w1.2 W).mono fun e W' ⟨he, bel⟩ => ?_
  subst he
  exact ⟨_, rfl, post_true laidOut (by kernel_rfl) Try.underlying4 (by kernel_rfl) rfl hW' rfl bel⟩

theorem proved : Rows.SignedNearSaid :=
  OpenClaim.holds_of_wide 8 Try.f8 rfl rfl rfl rfl rfl rfl rfl ⟨rfl, rfl, rfl, rfl, rfl⟩ rfl rfl rfl rfl rfl (by kernel_rfl) Try.func8 (by kernel_rfl)
    (of_decide_eq_true (by kernel_rfl)) (by unfold Func.isWrapper; first | (rw [if_pos (by decide +kernel)]; kernel_rfl) | (rw [if_neg (by decide +kernel)]; exact ⟨rfl, rfl⟩))
    (fun os started H enc _ => lifted os started H enc)

end Go.Proofs.Ytohfodacfoammaa.signedNear

