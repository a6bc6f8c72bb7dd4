/- WholeRing: order is no matter; what was added is taken away again; a sum of products is a product of a sum, where all of them hold. Conditions: none beyond the statement's own. -/
import Derived.Test.YtejieckalcledaaFrame
import Derived.Test.YtejieckalcledaaWholeBegun
namespace Go.Proofs.Ytejieckalcledaa.wholeRing
open Go.ChangeShapes Go.WideShapes Go.ChangeAt Go.RowKit
open Go.ChangeMaps (open_string shut_string)
set_option linter.unusedVariables false

open K WholeP

set_option maxRecDepth 100000 in
theorem walk (a : Int) (a0 : -9223372036854775808 ≤ a) (a1 : a ≤ 9223372036854775807) (b : Int) (b0 : -9223372036854775808 ≤ b) (b1 : b ≤ 9223372036854775807)
    (c : Int) (c0 : -9223372036854775808 ≤ c) (c1 : c ≤ 9223372036854775807) (w : World) :
    Calls Try.prog 9 #[.int .i64 a, .int .i64 b, .int .i64 c] w fun e w' => e = .returned (.bool true) ∧ Below w.heap.size w w' := by
  have ha : In64 a := ⟨a0, a1⟩
  have hb : In64 b := ⟨b0, b1⟩
  have hc : In64 c := ⟨c0, c1⟩
  have hA := add_any a b ha hb
  have hA' := add_any b a hb ha
  have hM := mul_any a b ha hb
  have hM' := mul_any b a hb ha
  rw [Int.add_comm b a] at hA'
  rw [Int.mul_comm b a] at hM'
  have hS := sub_any (fit (a + b)).1 b (fit_in _) hb
  have hBC := add_any b c hb hc
  have hAS := mul_any a (fit (b + c)).1 ha (fit_in _)
  have hAC := mul_any a c ha hc
  have hN := add_any (fit (a * b)).1 (fit (a * c)).1 (fit_in _) (fit_in _)
  have he := fit_err (a + b)
  have hz : (fit (a + b)).2 = 0 → fit ((fit (a + b)).1 - b) = (a, 0) := fun h => by
    obtain ⟨h1, h2⟩ := fit_ok h
    rw [h1, show (a + b - b : Int) = a by omega, fit_true ha]
  have hi := fit_err (b + c)
  have hj := fit_err (a * (fit (b + c)).1)
  have hg := fit_err (a * b)
  have hk := fit_err (a * c)
  have hfin : (fit (b + c)).2 = 0 → (fit (a * (fit (b + c)).1)).2 = 0 → (fit (a * b)).2 = 0 → (fit (a * c)).2 = 0 → (fit ((fit (a * b)).1 + (fit (a * c)).1)).2 = 0 ∧ (fit (a * (fit (b + c)).1)).1 = (fit ((fit (a * b)).1 + (fit (a * c)).1)).1 := by
    intro h1 h2 h3 h4
    obtain ⟨e1, k1⟩ := fit_ok h1
    rw [e1] at h2 ⊢
    obtain ⟨e2, k2⟩ := fit_ok h2
    obtain ⟨e3, k3⟩ := fit_ok h3
    obtain ⟨e4, k4⟩ := fit_ok h4
    rw [e2, e3, e4]
    have : a * b + a * c = a * (b + c) := by rw [Int.mul_add]
    show (fit (a * b + a * c)).2 = 0 ∧ a * (b + c) = (fit (a * b + a * c)).1
    rw [this, fit_true k2]
    exact ⟨rfl, rfl⟩
  generalize fit ((fit (a * b)).1 + (fit (a * c)).1) = N at *
  generalize fit (a * (fit (b + c)).1) = L at *
  generalize fit ((fit (a + b)).1 - b) = Z at *
  generalize fit (a + b) = X at *
  generalize fit (a * b) = P at *
  generalize fit (a * c) = M at *
  generalize fit (b + c) = S at *
  obtain ⟨n, o⟩ := N
  obtain ⟨l, j⟩ := L
  obtain ⟨x, e⟩ := X
  obtain ⟨p, g⟩ := P
  obtain ⟨m, k⟩ := M
  obtain ⟨s, i⟩ := S
  clear ha hb hc a0 a1 b0 b1 c0 c1
  have hcases : i = 8 ∨ (i = 0 ∧ (j = 8 ∨ (j = 0 ∧ (g = 8 ∨ (g = 0 ∧ (k = 8 ∨ k = 0)))))) := by
    simp only at hi hj hg hk; omega
  clear hi hj hg hk
  simp only at he hz hfin
  rcases he with rfl | rfl <;> rcases hcases with rfl | ⟨rfl, rfl | ⟨rfl, rfl | ⟨rfl, rfl | rfl⟩⟩⟩
  all_goals
    try (obtain ⟨rfl, rfl⟩ := hfin rfl rfl rfl rfl)
    try (obtain rfl := hz rfl)
    clear hfin hz
    go_enter Try.func9, Try.ntmps9
    go_wp2_with (first
      | (go_at_call 15; refine (begun_any _).mono ?_; rintro e w1 ⟨rfl, hb1⟩)
      | (go_at_call 20; (with_reducible refine (hA _).mono ?_); rintro e w' ⟨rfl, rfl⟩)
      | (go_at_call 20; (with_reducible refine (hA' _).mono ?_); rintro e w' ⟨rfl, rfl⟩)
      | (go_at_call 20; (with_reducible refine (hBC _).mono ?_); rintro e w' ⟨rfl, rfl⟩)
      | (go_at_call 20; (with_reducible refine (hN _).mono ?_); rintro e w' ⟨rfl, rfl⟩)
      | (go_at_call 16; (with_reducible refine (hS _).mono ?_); rintro e w' ⟨rfl, rfl⟩)
      | (go_at_call 17; (with_reducible refine (hM _).mono ?_); rintro e w' ⟨rfl, rfl⟩)
      | (go_at_call 17; (with_reducible refine (hM' _).mono ?_); rintro e w' ⟨rfl, rfl⟩)
      | (go_at_call 17; (with_reducible refine (hAS _).mono ?_); rintro e w' ⟨rfl, rfl⟩)
      | (go_at_call 17; (with_reducible refine (hAC _).mono ?_); rintro e w' ⟨rfl, rfl⟩))
    go_ret
    exact ⟨rfl, by assumption⟩

/-! ### the row's step, by program -/
set_option maxRecDepth 100000 in
theorem lifted (os : Os) (started : os.Started) (H : Type) (enc : TypeId × Value → H) :
    ReturnsInHanded {} Try.checked os 9 .any (Rows.wholeRingSpec.pre6 enc Try.prog Try.f9 Rows.wholeRingRow.domain false) (Rows.wholeRingSpec.post enc Try.prog Try.f9 false true false false) := by
  refine returnsInHanded_of_change_sized (C := Try.checked) own started (by kernel_rfl) Try.func9
    (ChangeSpec.witness6 (enc := enc) (C := Try.checked) false ⟨#[], #[.int .i64 0, .int .i64 0, .int .i64 0], []⟩ 8 (by kernel_rfl) (by kernel_rfl) (by kernel_rfl) (by kernel_rfl)) ?_
  intro W base args ds gs before hval0 hW hcnd hsz0 _
  have hval : ∀ (j : Nat) t v, Try.f9.params[j]? = some t → args[j]? = some v → Value.okWide Try.prog W .any base t v := hval0
  have hsz : (DataW.weightsEach Try.prog (Try.f9.params.toList ++ Rows.wholeRingSpec.plain.varTypes Try.prog) (ds ++ gs)).all (· ≤ reachBytes) = true := hsz0
  have hW' := hW
  obtain ⟨p, q, hA0, hV, rfl, hfz, hnd⟩ := hW
  have hA : DataW.TrodAll enc Try.prog W 0 (fun _ => true) true Try.f9.params.toList args.toList ds p := hA0
  rw [Try.params9] at hA hval hsz
  obtain ⟨v0, vs0, d0, ds0, p0, q0, hargs, rfl, rfl, h0, r0⟩ := trodAll_cons hA
  obtain ⟨v1, vs1, d1, ds1, p1, q1, rfl, rfl, rfl, h1, r1⟩ := trodAll_cons r0
  obtain ⟨v2, vs2, d2, ds2, p2, q2, rfl, rfl, rfl, h2, r2⟩ := trodAll_cons r1
  obtain ⟨rfl, rfl, rfl⟩ := trodAll_nil r2
  obtain rfl : args = #[v0, v1, v2] := by cases args; simp_all
  obtain ⟨rfl, rfl⟩ := trodVars_none hV
  obtain ⟨a0, rfl, rfl, rfl, wf0⟩ := open_int Try.underlying2 (hval 0 2 v0 rfl rfl) h0
  have w0 : -9223372036854775808 ≤ a0 ∧ a0 ≤ 9223372036854775807 := by simpa [Lit.wf, IntKind.min, IntKind.max, IntKind.signed, IntKind.bits] using wf0
  obtain ⟨a1, rfl, rfl, rfl, wf1⟩ := open_int Try.underlying2 (hval 1 2 v1 rfl rfl) h1
  have w1 : -9223372036854775808 ≤ a1 ∧ a1 ≤ 9223372036854775807 := by simpa [Lit.wf, IntKind.min, IntKind.max, IntKind.signed, IntKind.bits] using wf1
  obtain ⟨a2, rfl, rfl, rfl, wf2⟩ := open_int Try.underlying2 (hval 2 2 v2 rfl rfl) h2
  have w2 : -9223372036854775808 ≤ a2 ∧ a2 ≤ 9223372036854775807 := by simpa [Lit.wf, IntKind.min, IntKind.max, IntKind.signed, IntKind.bits] using wf2
  clear hA0 hval0
  refine (walk a0 w0.1 w0.2 a1 w1.1 w1.2 a2 w2.1 w2.2 W).mono fun e W' ⟨he, bel⟩ => ?_
  subst he
  exact ⟨_, rfl, post_true laidOut (by kernel_rfl) Try.underlying4 (by kernel_rfl) rfl hW' rfl bel⟩

theorem proved : Rows.WholeRingSaid :=
  OpenClaim.holds_of_wide 9 Try.f9 rfl rfl rfl rfl rfl rfl rfl ⟨rfl, rfl, rfl, rfl, rfl⟩ rfl rfl rfl rfl rfl (by kernel_rfl) Try.func9 (by kernel_rfl)
    (of_decide_eq_true (by kernel_rfl)) (by unfold Func.isWrapper; first | (rw [if_pos (by decide +kernel)]; kernel_rfl) | (rw [if_neg (by decide +kernel)]; exact ⟨rfl, rfl⟩))
    (fun os started H enc _ => lifted os started H enc)

end Go.Proofs.Ytejieckalcledaa.wholeRing

