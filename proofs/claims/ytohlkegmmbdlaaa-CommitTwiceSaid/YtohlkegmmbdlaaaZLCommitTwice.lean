/- CommitTwice: CommitTwice, of all stores, writes, ops and numbers. Conditions: none beyond the statement's own. -/
import Derived.Test.YtohlkegmmbdlaaaFrame
import Derived.Test.YtohlkegmmbdlaaaOpen
import Derived.Test.YtohlkegmmbdlaaaZ6
namespace Go.Proofs.Ytohlkegmmbdlaaa.commitTwice
open Go.ChangeShapes Go.WideShapes Go.ChangeAt Go.RowKit
open Go.ChangeMaps (open_string shut_string)
set_option linter.unusedVariables false

open K Pm

/-! ### the row's step, by program -/
set_option maxRecDepth 100000 in
theorem lifted (os : Os) (started : os.Started) (H : Type) (enc : TypeId × Value → H) :
    ReturnsInHanded {} Try.checked os 10 .any (Rows.commitTwiceSpec.pre6 enc Try.prog Try.f10 Rows.commitTwiceRow.domain false) (Rows.commitTwiceSpec.post enc Try.prog Try.f10 false true false false) := by
  refine returnsInHanded_of_change_sized (C := Try.checked) own started (by kernel_rfl) Try.func10
    (ChangeSpec.witness6 (enc := enc) (C := Try.checked) false ⟨#[], #[.agg #[.slice none 0 0, .slice none 0 0, .slice none 0 0, .slice none 0 0], .slice none 0 0, .int .i64 0, .int .i64 0, .int .u64 0, .int .u64 0, .int .u64 0, .int .u64 0], []⟩ 8 (by kernel_rfl) (by kernel_rfl) (by kernel_rfl) (by kernel_rfl)) ?_
  intro W base args ds gs before hval0 hW hcnd hsz0 _
  have hval : ∀ (j : Nat) t v, Try.f10.params[j]? = some t → args[j]? = some v → Value.okWide Try.prog W .any base t v := hval0
  have hsz : (DataW.weightsEach Try.prog (Try.f10.params.toList ++ Rows.commitTwiceSpec.plain.varTypes Try.prog) (ds ++ gs)).all (· ≤ reachBytes) = true := hsz0
  have hW' := hW
  obtain ⟨p, q, hA0, hV, rfl, hfz, hnd⟩ := hW
  have hA : DataW.TrodAll enc Try.prog W 0 (fun _ => true) true Try.f10.params.toList args.toList ds p := hA0
  rw [Try.params10] at hA hval hsz
  obtain ⟨v0, vs0, d0, ds0, p0, q0, hargs, rfl, rfl, h0, r0⟩ := trodAll_cons hA
  obtain ⟨v1, vs1, d1, ds1, p1, q1, rfl, rfl, rfl, h1, r1⟩ := trodAll_cons r0
  obtain ⟨v2, vs2, d2, ds2, p2, q2, rfl, rfl, rfl, h2, r2⟩ := trodAll_cons r1
  obtain ⟨v3, vs3, d3, ds3, p3, q3, rfl, rfl, rfl, h3, r3⟩ := trodAll_cons r2
  obtain ⟨v4, vs4, d4, ds4, p4, q4, rfl, rfl, rfl, h4, r4⟩ := trodAll_cons r3
  obtain ⟨v5, vs5, d5, ds5, p5, q5, rfl, rfl, rfl, h5, r5⟩ := trodAll_cons r4
  obtain ⟨v6, vs6, d6, ds6, p6, q6, rfl, rfl, rfl, h6, r6⟩ := trodAll_cons r5
  obtain ⟨v7, vs7, d7, ds7, p7, q7, rfl, rfl, rfl, h7, r7⟩ := trodAll_cons r6
  obtain ⟨rfl, rfl, rfl⟩ := trodAll_nil r7
  obtain rfl : args = #[v0, v1, v2, v3, v4, v5, v6, v7] := by cases args; simp_all
  obtain ⟨rfl, rfl⟩ := trodVars_none hV
  obtain ⟨x0, R0, k0⟩ := open_param Pm.openC_Store h0 hsz (j := 0) (t := 27) rfl rfl
  have D0 := Pm.prep_agg (agg_cells Try.underlying27 (hval 0 27 v0 rfl rfl) rfl) R0
  obtain ⟨x1, R1, k1⟩ := open_param (Pm.openC_slice (sz := 2) (enc := WriteD.c) Try.underlying23 (by kernel_rfl) (fun _ => rfl) Pm.openC_Write) h1 hsz (j := 1) (t := 23) rfl rfl
  have D1 := Pm.prep_one (by obtain ⟨_, _, _, rfl⟩ := okWide_slice Try.underlying23 (hval 1 23 v1 rfl rfl); rfl) R1
  obtain ⟨a2, rfl, rfl, rfl, wf2⟩ := open_int Try.underlying3 (hval 2 3 v2 rfl rfl) h2
  have w2 : -9223372036854775808 ≤ a2 ∧ a2 ≤ 9223372036854775807 := by simpa [Lit.wf, IntKind.min, IntKind.max, IntKind.signed, IntKind.bits] using wf2
  obtain ⟨a3, rfl, rfl, rfl, wf3⟩ := open_int Try.underlying3 (hval 3 3 v3 rfl rfl) h3
  have w3 : -9223372036854775808 ≤ a3 ∧ a3 ≤ 9223372036854775807 := by simpa [Lit.wf, IntKind.min, IntKind.max, IntKind.signed, IntKind.bits] using wf3
  obtain ⟨a4, rfl, rfl, rfl, wf4⟩ := open_int Try.underlying46 (hval 4 46 v4 rfl rfl) h4
  have w4 : 0 ≤ a4 ∧ a4 ≤ 18446744073709551615 := by simpa [Lit.wf, IntKind.min, IntKind.max, IntKind.signed, IntKind.bits] using wf4
  obtain ⟨a5, rfl, rfl, rfl, wf5⟩ := open_int Try.underlying46 (hval 5 46 v5 rfl rfl) h5
  have w5 : 0 ≤ a5 ∧ a5 ≤ 18446744073709551615 := by simpa [Lit.wf, IntKind.min, IntKind.max, IntKind.signed, IntKind.bits] using wf5
  obtain ⟨a6, rfl, rfl, rfl, wf6⟩ := open_int Try.underlying46 (hval 6 46 v6 rfl rfl) h6
  have w6 : 0 ≤ a6 ∧ a6 ≤ 18446744073709551615 := by simpa [Lit.wf, IntKind.min, IntKind.max, IntKind.signed, IntKind.bits] using wf6
  obtain ⟨a7, rfl, rfl, rfl, wf7⟩ := open_int Try.underlying46 (hval 7 46 v7 rfl rfl) h7
  have w7 : 0 ≤ a7 ∧ a7 ≤ 18446744073709551615 := by simpa [Lit.wf, IntKind.min, IntKind.max, IntKind.signed, IntKind.bits] using wf7
  clear hA0 hval0
  refine (Pm.Pure.walkF (Pm.law_CommitTwice x0 k0 x1 k1 a2 w2 a3 w3 a4 w4 a5 w5 a6 w6 a7 w7) (w := W) trivial [v0, v1, _, _, _, _, _, _] (Pm.psF_cons D0 (Pm.psF_cons D1 (Pm.psF_cons (Pm.rep_int _ _) (Pm.psF_cons (Pm.rep_int _ _) (Pm.psF_cons (Pm.rep_int _ _) (Pm.psF_cons (Pm.rep_int _ _) (Pm.psF_cons (Pm.rep_int _ _) (Pm.psF_cons (Pm.rep_int _ _) Pm.psF_nil))))))))).mono fun e W' ⟨he, bel⟩ => ?_
  subst he
  exact ⟨_, rfl, post_true laidOut (by kernel_rfl) Try.underlying4 (by kernel_rfl) rfl hW' rfl bel⟩

theorem proved : Rows.CommitTwiceSaid :=
  OpenClaim.holds_of_wide 10 Try.f10 rfl rfl rfl rfl rfl rfl rfl ⟨rfl, rfl, rfl, rfl, rfl⟩ rfl rfl rfl rfl rfl (by kernel_rfl) Try.func10 (by kernel_rfl)
    (of_decide_eq_true (by kernel_rfl)) (by unfold Func.isWrapper; first | (rw [if_pos (by decide +kernel)]; kernel_rfl) | (rw [if_neg (by decide +kernel)]; exact ⟨rfl, rfl⟩))
    (fun os started H enc _ => lifted os started H enc)

end Go.Proofs.Ytohlkegmmbdlaaa.commitTwice

