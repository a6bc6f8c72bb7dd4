/- KeyJoins: KeyJoins, of rows of small bulk. Conditions: none beyond the statement's own. -/
import Derived.Test.YtnlkfpgaehgpbaaFrame
import Derived.Test.YtnlkfpgaehgpbaaOpen
import Derived.Test.YtnlkfpgaehgpbaaPmOpen
import Derived.Test.YtnlkfpgaehgpbaaPmUpto
import Derived.Test.YtnlkfpgaehgpbaaPrKeyJoins
namespace Go.Proofs.Ytnlkfpgaehgpbaa.keyJoins
open Go.ChangeShapes Go.WideShapes Go.ChangeAt Go.RowKit
open Go.ChangeMaps (open_string shut_string)
set_option linter.unusedVariables false

open K Pm

/-! ### the row's step, by program -/
set_option maxRecDepth 100000 in
theorem lifted (os : Os) (started : os.Started) (H : Type) (enc : TypeId × Value → H) (Fi : Stop.Interp) :
    ReturnsInHanded {} Try.checked os 10 .any ((Rows.OpenSpec.upto Rows.keyJoinsSpec).pre6 enc Try.prog Try.f10 Rows.keyJoinsUptoRow.domain false) (((Rows.OpenSpec.upto Rows.keyJoinsSpec).at Fi).post enc Try.prog Try.f10 false true false false) := by
  refine returnsInHanded_of_cond_sized (C := Try.checked) (s := (Rows.OpenSpec.upto Rows.keyJoinsSpec)) (k := Rows.uptoSmall) rfl own started (by kernel_rfl) Try.func10
    (OpenSpec.witness (enc := enc) (C := Try.checked) (s := (Rows.OpenSpec.upto Rows.keyJoinsSpec)) (k := Rows.uptoSmall) rfl false ⟨#[], #[.slice none 0 0, .slice none 0 0], []⟩ 8 (by kernel_rfl) (by kernel_rfl) (by kernel_rfl)
      (x := ([.nil, .nil], [], [])) (by kernel_rfl) rfl (by kernel_rfl)) ?_
  intro W base args ds gs before hval0 hW hcnd hk hsz0 _
  have hval : ∀ (j : Nat) t v, Try.f10.params[j]? = some t → args[j]? = some v → Value.okWide Try.prog W .any base t v := hval0
  have hsz : (DataW.weightsEach Try.prog (Try.f10.params.toList ++ (Rows.OpenSpec.upto Rows.keyJoinsSpec).bare.plain.varTypes Try.prog) (ds ++ gs)).all (· ≤ reachBytes) = true := hsz0
  have hW' := hW
  obtain ⟨p, q, hA0, hV, rfl, hfz, hnd⟩ := hW
  have hA : DataW.TrodAll enc Try.prog W 0 (fun _ => true) true Try.f10.params.toList args.toList ds p := hA0
  rw [Try.params10] at hA hval hsz
  obtain ⟨v0, vs0, d0, ds0, p0, q0, hargs, rfl, rfl, h0, r0⟩ := trodAll_cons hA
  obtain ⟨v1, vs1, d1, ds1, p1, q1, rfl, rfl, rfl, h1, r1⟩ := trodAll_cons r0
  obtain ⟨rfl, rfl, rfl⟩ := trodAll_nil r1
  obtain rfl : args = #[v0, v1] := by cases args; simp_all
  obtain ⟨rfl, rfl⟩ := trodVars_none hV
  obtain ⟨x0, R0, k0⟩ := open_param (Pm.openC_slice (sz := 3) (enc := ValueD.c) Try.underlying22 (by kernel_rfl) (fun _ => rfl) Pm.openC_Value) h0 hsz (j := 0) (t := 22) rfl rfl
  have D0 := Pm.prep_one (by obtain ⟨_, _, _, rfl⟩ := okWide_slice Try.underlying22 (hval 0 22 v0 rfl rfl); rfl) R0
  obtain ⟨x1, R1, k1⟩ := open_param (Pm.openC_slice (sz := 3) (enc := ValueD.c) Try.underlying22 (by kernel_rfl) (fun _ => rfl) Pm.openC_Value) h1 hsz (j := 1) (t := 22) rfl rfl
  have D1 := Pm.prep_one (by obtain ⟨_, _, _, rfl⟩ := okWide_slice Try.underlying22 (hval 1 22 v1 rfl rfl); rfl) R1
  have hbulk : Rows.uptoBulkAll _ ≤ 1048576 := of_decide_eq_true hk
  simp only [List.append_nil, Rows.uptoBulkAll] at hbulk
  have z0 : x0.length ≤ 1048576 := Pm.slice_bulk Try.underlying22 h0 R0 (by omega)
  have z1 : x1.length ≤ 1048576 := Pm.slice_bulk Try.underlying22 h1 R1 (by omega)
  clear hbulk hk
  clear hA0 hval0
  refine (Pm.Pure.walkF (Pm.law_KeyJoins x0 k0 x1 k1 z0 z1) (w := W) trivial [v0, v1] (Pm.psF_cons D0 (Pm.psF_cons D1 Pm.psF_nil))).mono fun e W' ⟨he, bel⟩ => ?_
  subst he
  exact ⟨_, rfl, post_true (s := Rows.keyJoinsSpec) laidOut (by kernel_rfl) Try.underlying4 (by kernel_rfl) rfl hW' rfl bel⟩

theorem proved : Rows.KeyJoinsUptoSaid :=
  OpenClaim.holds_of_cond 10 Try.f10 rfl rfl rfl rfl rfl rfl rfl ⟨rfl, rfl, rfl, rfl, rfl⟩ rfl rfl rfl rfl rfl (by kernel_rfl) Try.func10 (by kernel_rfl)
    (of_decide_eq_true (by kernel_rfl)) (by unfold Func.isWrapper; first | (rw [if_pos (by decide +kernel)]; kernel_rfl) | (rw [if_neg (by decide +kernel)]; exact ⟨rfl, rfl⟩))
    (fun os started H enc _ Fi => lifted os started H enc Fi)

end Go.Proofs.Ytnlkfpgaehgpbaa.keyJoins

