/- NumLess: the lesser of two numbers has no more bytes, none has more than ten; one digit more is 128 times as much. Conditions: none beyond the statement's own. -/
import Derived.Test.YtohfodacfoammaaFrame
import Derived.Test.YtohfodacfoammaaNumBegun
import Derived.Test.YtohfodacfoammaaNumBack
namespace Go.Proofs.Ytohfodacfoammaa.numLess
open Go.ChangeShapes Go.WideShapes Go.ChangeAt Go.RowKit
open Go.ChangeMaps (open_string shut_string)
set_option linter.unusedVariables false

open K NumP NumW NumRd NumZ NumL

set_option maxRecDepth 100000 in
theorem walk (a : Int) (a0 : 0 ≤ a) (a1 : a ≤ 18446744073709551615) (b : Int) (b0 : 0 ≤ b) (b1 : b ≤ 18446744073709551615) (w : World) :
    Calls Try.prog 7 #[.int .u64 a, .int .u64 b] w fun e w' => e = .returned (.bool true) ∧ Below w.heap.size w w' := by
  have la := numB_len 9 a.toNat
  have lb := numB_len 9 b.toNat
  have hdig : Hid (128 ≤ a → (numB 9 (a / 128).toNat).length + 1 = (numB 9 a.toNat).length) := by
    intro h
    have := numB_digit a.toNat (by omega) (by omega)
    rw [show (a / 128).toNat = a.toNat / 128 by omega]; exact this
  have hmono : Hid (a ≤ b → (numB 9 a.toNat).length ≤ (numB 9 b.toNat).length) := fun h => numB_mono 9 _ _ (by omega)
  have a1' := Lib.hid a1
  have b1' := Lib.hid b1
  have hq : Hid (a / 128 ≤ 18446744073709551615) := by show a / 128 ≤ 18446744073709551615; omega
  have hw : IntKind.u64.wrap (a.tdiv 128) = a / 128 := by
    rw [IntKind.wrap_u64, Int.tdiv_eq_ediv_of_nonneg a0]; omega
  clear a1 b1
  by_cases hab : a ≤ b <;> by_cases h128 : a < 128
  all_goals
    try have hm := hmono.out hab
    try
      have hd := hdig.out (by omega)
      have hd2 : (((numB 9 (a / 128).toNat).length : Int) == ((numB 9 a.toNat).length : Int) - 1) = true := by simp; omega
    go_enter Try.func7, Try.ntmps7
    go_wp2_with (first
      | (go_at_call 13; refine (begun_any _).mono ?_; rintro e w1 ⟨rfl, hb1⟩)
      | (go_at_call 14; (with_reducible refine (write_any a _ a0 a1'.out).mono ?_); rintro e w2 ⟨rfl, hb2⟩)
      | (go_at_call 14; (with_reducible refine (write_any b _ b0 b1'.out).mono ?_); rintro e w3 ⟨rfl, hb3⟩)
      | (go_at_call 14; (with_reducible refine (write_any (a / 128) _ (by omega) hq.out).mono ?_); rintro e w4 ⟨rfl, hb4⟩))
    go_ret
    first
      | exact ⟨rfl, chain hb2 (chain hb3 (chain hb1 hb4))⟩
      | exact ⟨rfl, chain hb2 (chain hb3 hb1)⟩

/-! ### the row's step, by program -/
set_option maxRecDepth 100000 in
theorem lifted (os : Os) (started : os.Started) (H : Type) (enc : TypeId × Value → H) :
    ReturnsInHanded {} Try.checked os 7 .any (Rows.numLessSpec.pre6 enc Try.prog Try.f7 Rows.numLessRow.domain false) (Rows.numLessSpec.post enc Try.prog Try.f7 false true false false) := by
  refine returnsInHanded_of_change_sized (C := Try.checked) own started (by kernel_rfl) Try.func7
    (ChangeSpec.witness6 (enc := enc) (C := Try.checked) false ⟨#[], #[.int .u64 0, .int .u64 0], []⟩ 8 (by kernel_rfl) (by kernel_rfl) (by kernel_rfl) (by kernel_rfl)) ?_
  intro W base args ds gs before hval0 hW hcnd hsz0 _
  have hval : ∀ (j : Nat) t v, Try.f7.params[j]? = some t → args[j]? = some v → Value.okWide Try.prog W .any base t v := hval0
  have hsz : (DataW.weightsEach Try.prog (Try.f7.params.toList ++ Rows.numLessSpec.plain.varTypes Try.prog) (ds ++ gs)).all (· ≤ reachBytes) = true := hsz0
  have hW' := hW
  obtain ⟨p, q, hA0, hV, rfl, hfz, hnd⟩ := hW
  have hA : DataW.TrodAll enc Try.prog W 0 (fun _ => true) true Try.f7.params.toList args.toList ds p := hA0
  rw [Try.params7] at hA hval hsz
  obtain ⟨v0, vs0, d0, ds0, p0, q0, hargs, rfl, rfl, h0, r0⟩ := trodAll_cons hA
  obtain ⟨v1, vs1, d1, ds1, p1, q1, rfl, rfl, rfl, h1, r1⟩ := trodAll_cons r0
  obtain ⟨rfl, rfl, rfl⟩ := trodAll_nil r1
  obtain rfl : args = #[v0, v1] := by cases args; simp_all
  obtain ⟨rfl, rfl⟩ := trodVars_none hV
  obtain ⟨a0, rfl, rfl, rfl, wf0⟩ := open_int Try.underlying22 (hval 0 22 v0 rfl rfl) h0
  have w0 : 0 ≤ a0 ∧ a0 ≤ 18446744073709551615 := by simpa [Lit.wf, IntKind.min, IntKind.max, IntKind.signed, IntKind.bits] using wf0
  obtain ⟨a1, rfl, rfl, rfl, wf1⟩ := open_int Try.underlying22 (hval 1 22 v1 rfl rfl) h1
  have w1 : 0 ≤ a1 ∧ a1 ≤ 18446744073709551615 := by simpa [Lit.wf, IntKind.min, IntKind.max, IntKind.signed, IntKind.bits] using wf1
  clear hA0 hval0
  refine (walk a0 w0.1 w0.2 a1 w1.1 w1.2 W).mono fun e W' ⟨he, bel⟩ => ?_
  subst he
  exact ⟨_, rfl, post_true laidOut (by kernel_rfl) Try.underlying4 (by kernel_rfl) rfl hW' rfl bel⟩

theorem proved : Rows.NumLessSaid :=
  OpenClaim.holds_of_wide 7 Try.f7 rfl rfl rfl rfl rfl rfl rfl ⟨rfl, rfl, rfl, rfl, rfl⟩ rfl rfl rfl rfl rfl (by kernel_rfl) Try.func7 (by kernel_rfl)
    (of_decide_eq_true (by kernel_rfl)) (by unfold Func.isWrapper; first | (rw [if_pos (by decide +kernel)]; kernel_rfl) | (rw [if_neg (by decide +kernel)]; exact ⟨rfl, rfl⟩))
    (fun os started H enc _ => lifted os started H enc)

end Go.Proofs.Ytohfodacfoammaa.numLess

