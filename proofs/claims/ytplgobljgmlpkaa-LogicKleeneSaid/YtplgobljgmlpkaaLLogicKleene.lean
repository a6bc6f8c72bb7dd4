/- LogicKleene: De Morgan, and Kleene's other laws. Conditions: none beyond the statement's own. -/
import Derived.Test.YtplgobljgmlpkaaFrame
import Derived.Test.YtplgobljgmlpkaaLogicBegun
namespace Go.Proofs.Ytplgobljgmlpkaa.logicKleene
open Go.ChangeShapes Go.WideShapes Go.ChangeAt Go.RowKit
open Go.ChangeMaps (open_string shut_string)
set_option linter.unusedVariables false

open K LogicP

set_option linter.unusedSimpArgs false in
set_option maxRecDepth 100000 in
set_option maxHeartbeats 4000000 in
theorem walk (a : Int) (_a0 : -9223372036854775808 ≤ a) (_a1 : a ≤ 9223372036854775807) (b : Int) (_b0 : -9223372036854775808 ≤ b) (_b1 : b ≤ 9223372036854775807) (c : Int) (_c0 : -9223372036854775808 ≤ c) (_c1 : c ≤ 9223372036854775807) (w : World) :
    Calls Try.prog 3 #[.int .i64 a, .int .i64 b, .int .i64 c] w fun e w' => e = .returned (.bool true) ∧ Below w.heap.size w w' := by
  have ha := plain_cases a
  have hb := plain_cases b
  have hc := plain_cases c
  have f1 : (lnot (land a b) == lor (lnot a) (lnot b)) = true := by
    rcases ha with h | h | h <;> rcases hb with k | k | k <;> simp only [land, lor, lnot, h, k] <;> decide
  have f2 : (lnot (lor a b) == land (lnot a) (lnot b)) = true := by
    rcases ha with h | h | h <;> rcases hb with k | k | k <;> simp only [land, lor, lnot, h, k] <;> decide
  have f3 : (land a (lor b c) == lor (land a b) (land a c)) = true := by
    rcases ha with h | h | h <;> rcases hb with k | k | k <;> rcases hc with m | m | m <;> simp only [land, lor, lnot, h, k, m] <;> decide
  have f4 : (lor a (land b c) == land (lor a b) (lor a c)) = true := by
    rcases ha with h | h | h <;> rcases hb with k | k | k <;> rcases hc with m | m | m <;> simp only [land, lor, lnot, h, k, m] <;> decide
  have f5 : (land a (lor a b) == lnot (lnot a)) = true := by
    rcases ha with h | h | h <;> rcases hb with k | k | k <;> simp only [land, lor, lnot, h, k] <;> decide
  have f6 : (lor a (land a b) == lnot (lnot a)) = true := by
    rcases ha with h | h | h <;> rcases hb with k | k | k <;> simp only [land, lor, lnot, h, k] <;> decide
  have f7 : (land a b == land b a) = true := by
    rcases ha with h | h | h <;> rcases hb with k | k | k <;> simp only [land, lor, lnot, h, k] <;> decide
  have f8 : (lor a b == lor b a) = true := by
    rcases ha with h | h | h <;> rcases hb with k | k | k <;> simp only [land, lor, lnot, h, k] <;> decide
  have f9 : (land a (land b c) == land (land a b) c) = true := by
    rcases ha with h | h | h <;> rcases hb with k | k | k <;> rcases hc with m | m | m <;> simp only [land, lor, lnot, h, k, m] <;> decide
  have f10 : (lor a (lor b c) == lor (lor a b) c) = true := by
    rcases ha with h | h | h <;> rcases hb with k | k | k <;> rcases hc with m | m | m <;> simp only [land, lor, lnot, h, k, m] <;> decide
  have f11 : ((lor a (lnot a) == 2) == (lnot (lnot a) != 1)) = true := by
    rcases ha with h | h | h <;> simp only [land, lor, lnot, h] <;> decide
  have f12 : ((land a (lnot a) == 0) == (lnot (lnot a) != 1)) = true := by
    rcases ha with h | h | h <;> simp only [land, lor, lnot, h] <;> decide
  clear ha hb hc
  go_enter Try.func3, Try.ntmps3
  go_wp2_with fail
  refine (begun_any _).mono ?_
  rintro e w1 ⟨rfl, hb1⟩
  go_wp2_with (first
    | (go_at_call 10; refine (and_any _ _ _).mono ?_; rintro e w' ⟨rfl, rfl⟩)
    | (go_at_call 11; refine (or_any _ _ _).mono ?_; rintro e w' ⟨rfl, rfl⟩)
    | (go_at_call 12; refine (not_any _ _).mono ?_; rintro e w' ⟨rfl, rfl⟩))
  go_ret
  exact ⟨by first | rfl | simp, hb1⟩

/-! ### the row's step, by program -/
set_option maxRecDepth 100000 in
theorem lifted (os : Os) (started : os.Started) (H : Type) (enc : TypeId × Value → H) :
    ReturnsInHanded {} Try.checked os 3 .any (Rows.logicKleeneSpec.pre6 enc Try.prog Try.f3 Rows.logicKleeneRow.domain false) (Rows.logicKleeneSpec.post enc Try.prog Try.f3 false true false false) := by
  refine returnsInHanded_of_change_sized (C := Try.checked) own started (by kernel_rfl) Try.func3
    (ChangeSpec.witness6 (enc := enc) (C := Try.checked) false ⟨#[], #[.int .i64 0, .int .i64 0, .int .i64 0], []⟩ 8 (by kernel_rfl) (by kernel_rfl) (by kernel_rfl) (by kernel_rfl)) ?_
  intro W base args ds gs before hval0 hW hcnd hsz0 _
  have hval : ∀ (j : Nat) t v, Try.f3.params[j]? = some t → args[j]? = some v → Value.okWide Try.prog W .any base t v := hval0
  have hsz : (DataW.weightsEach Try.prog (Try.f3.params.toList ++ Rows.logicKleeneSpec.plain.varTypes Try.prog) (ds ++ gs)).all (· ≤ reachBytes) = true := hsz0
  have hW' := hW
  obtain ⟨p, q, hA0, hV, rfl, hfz, hnd⟩ := hW
  have hA : DataW.TrodAll enc Try.prog W 0 (fun _ => true) true Try.f3.params.toList args.toList ds p := hA0
  rw [Try.params3] at hA hval hsz
  obtain ⟨v0, vs0, d0, ds0, p0, q0, hargs, rfl, rfl, h0, r0⟩ := trodAll_cons hA
  obtain ⟨v1, vs1, d1, ds1, p1, q1, rfl, rfl, rfl, h1, r1⟩ := trodAll_cons r0
  obtain ⟨v2, vs2, d2, ds2, p2, q2, rfl, rfl, rfl, h2, r2⟩ := trodAll_cons r1
  obtain ⟨rfl, rfl, rfl⟩ := trodAll_nil r2
  obtain rfl : args = #[v0, v1, v2] := by cases args; simp_all
  obtain ⟨rfl, rfl⟩ := trodVars_none hV
  obtain ⟨a0, rfl, rfl, rfl, wf0⟩ := open_int Try.underlying3 (hval 0 3 v0 rfl rfl) h0
  have w0 : -9223372036854775808 ≤ a0 ∧ a0 ≤ 9223372036854775807 := by simpa [Lit.wf, IntKind.min, IntKind.max, IntKind.signed, IntKind.bits] using wf0
  obtain ⟨a1, rfl, rfl, rfl, wf1⟩ := open_int Try.underlying3 (hval 1 3 v1 rfl rfl) h1
  have w1 : -9223372036854775808 ≤ a1 ∧ a1 ≤ 9223372036854775807 := by simpa [Lit.wf, IntKind.min, IntKind.max, IntKind.signed, IntKind.bits] using wf1
  obtain ⟨a2, rfl, rfl, rfl, wf2⟩ := open_int Try.underlying3 (hval 2 3 v2 rfl rfl) h2
  have w2 : -9223372036854775808 ≤ a2 ∧ a2 ≤ 9223372036854775807 := by simpa [Lit.wf, IntKind.min, IntKind.max, IntKind.signed, IntKind.bits] using wf2
  clear hA0 hval0
  refine (walk a0 w0.1 w0.2 a1 w1.1 w1.2 a2 w2.1 w2.2 W).mono fun e W' ⟨he, bel⟩ => ?_
  subst he
  exact ⟨_, rfl, post_true laidOut (by kernel_rfl) Try.underlying4 (by kernel_rfl) rfl hW' rfl bel⟩

theorem proved : Rows.LogicKleeneSaid :=
  OpenClaim.holds_of_wide 3 Try.f3 rfl rfl rfl rfl rfl rfl rfl ⟨rfl, rfl, rfl, rfl, rfl⟩ rfl rfl rfl rfl rfl (by kernel_rfl) Try.func3 (by kernel_rfl)
    (of_decide_eq_true (by kernel_rfl)) (by unfold Func.isWrapper; first | (rw [if_pos (by decide +kernel)]; kernel_rfl) | (rw [if_neg (by decide +kernel)]; exact ⟨rfl, rfl⟩))
    (fun os started H enc _ => lifted os started H enc)

end Go.Proofs.Ytplgobljgmlpkaa.logicKleene

