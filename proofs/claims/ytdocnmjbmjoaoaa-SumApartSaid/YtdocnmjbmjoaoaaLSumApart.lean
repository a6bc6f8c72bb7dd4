/- SumApart: different checksums stay different when the same text is appended. Conditions: none beyond the statement's own. -/
import Derived.Test.YtdocnmjbmjoaoaaFrame
import Derived.Test.YtdocnmjbmjoaoaaSumLaws
namespace Go.Proofs.Ytdocnmjbmjoaoaa.sumApart
open Go.ChangeShapes Go.WideShapes Go.ChangeAt Go.RowKit
open Go.ChangeMaps (open_string shut_string)
set_option linter.unusedVariables false

open K SumP SumW

set_option maxRecDepth 100000 in
theorem walk (c' : Int) (c0 : 0 ≤ c') (c1 : c' ≤ 4294967295) (d' : Int) (d0 : 0 ≤ d') (d1 : d' ≤ 4294967295) (s : ByteArray) (hs : s.size ≤ 140737488351232) (w : World) :
    Calls Try.prog 6 #[.int .u32 c', .int .u32 d', .string s] w fun e w' => e = .returned (.bool true) ∧ Below w.heap.size w w' := by
  obtain ⟨c, rfl⟩ := reg_of c' c0 c1
  obtain ⟨d, rfl⟩ := reg_of d' d0 d1
  clear c0 c1 d0 d1
  by_cases h : c = d
  · subst h
    go_enter Try.func6, Try.ntmps6
    go_wp2_with (first
      | (go_at_call 10; refine (begun_any _).mono ?_; rintro e w1 ⟨rfl, hb1⟩)
      | (go_at_call 11; (with_reducible refine (more_any c s _ (by omega)).mono ?_); rintro e w4 ⟨rfl, hb4⟩))
    go_ret
    exact ⟨rfl, chain hb1 (chain (by assumption) hb4)⟩
  · have h1 : (((c.toNat : Nat) : Int) == ((d.toNat : Nat) : Int)) = false := by
      simp only [beq_eq_false_iff_ne, ne_eq]; intro e; exact h (BitVec.eq_of_toNat_eq (by omega))
    have h2 : ((((more c s.data.toList).toNat : Nat) : Int) == (((more d s.data.toList).toNat : Nat) : Int)) = false := by
      simp only [beq_eq_false_iff_ne, ne_eq]; intro e; exact h (more_inj (l := s.data.toList) (BitVec.eq_of_toNat_eq (by omega)))
    clear h
    go_enter Try.func6, Try.ntmps6
    go_wp2_with (first
      | (go_at_call 10; refine (begun_any _).mono ?_; rintro e w1 ⟨rfl, hb1⟩)
      | (go_at_call 11; (with_reducible refine (more_any c s _ (by omega)).mono ?_); rintro e w4 ⟨rfl, hb4⟩)
      | (go_at_call 11; (with_reducible refine (more_any d s _ (by omega)).mono ?_); rintro e w5 ⟨rfl, hb5⟩))
    go_ways
    go_ret
    exact ⟨rfl, chain hb1 (chain hb4 hb5)⟩

/-! ### the row's step, by program -/
set_option maxRecDepth 100000 in
theorem lifted (os : Os) (started : os.Started) (H : Type) (enc : TypeId × Value → H) :
    ReturnsInHanded {} Try.checked os 6 .any (Rows.sumApartSpec.pre6 enc Try.prog Try.f6 Rows.sumApartRow.domain false) (Rows.sumApartSpec.post enc Try.prog Try.f6 false true false false) := by
  refine returnsInHanded_of_change_sized (C := Try.checked) own started (by kernel_rfl) Try.func6
    (ChangeSpec.witness6 (enc := enc) (C := Try.checked) false ⟨#[], #[.int .u32 0, .int .u32 0, .string ByteArray.empty], []⟩ 8 (by kernel_rfl) (by kernel_rfl) (by kernel_rfl) (by kernel_rfl)) ?_
  intro W base args ds gs before hval0 hW hcnd hsz0 _
  have hval : ∀ (j : Nat) t v, Try.f6.params[j]? = some t → args[j]? = some v → Value.okWide Try.prog W .any base t v := hval0
  have hsz : (DataW.weightsEach Try.prog (Try.f6.params.toList ++ Rows.sumApartSpec.plain.varTypes Try.prog) (ds ++ gs)).all (· ≤ reachBytes) = true := hsz0
  have hW' := hW
  obtain ⟨p, q, hA0, hV, rfl, hfz, hnd⟩ := hW
  have hA : DataW.TrodAll enc Try.prog W 0 (fun _ => true) true Try.f6.params.toList args.toList ds p := hA0
  rw [Try.params6] at hA hval hsz
  obtain ⟨v0, vs0, d0, ds0, p0, q0, hargs, rfl, rfl, h0, r0⟩ := trodAll_cons hA
  obtain ⟨v1, vs1, d1, ds1, p1, q1, rfl, rfl, rfl, h1, r1⟩ := trodAll_cons r0
  obtain ⟨v2, vs2, d2, ds2, p2, q2, rfl, rfl, rfl, h2, r2⟩ := trodAll_cons r1
  obtain ⟨rfl, rfl, rfl⟩ := trodAll_nil r2
  obtain rfl : args = #[v0, v1, v2] := by cases args; simp_all
  obtain ⟨rfl, rfl⟩ := trodVars_none hV
  obtain ⟨a0, rfl, rfl, rfl, wf0⟩ := open_int Try.underlying22 (hval 0 22 v0 rfl rfl) h0
  have w0 : 0 ≤ a0 ∧ a0 ≤ 4294967295 := by simpa [Lit.wf, IntKind.min, IntKind.max, IntKind.signed, IntKind.bits] using wf0
  obtain ⟨a1, rfl, rfl, rfl, wf1⟩ := open_int Try.underlying22 (hval 1 22 v1 rfl rfl) h1
  have w1 : 0 ≤ a1 ∧ a1 ≤ 4294967295 := by simpa [Lit.wf, IntKind.min, IntKind.max, IntKind.signed, IntKind.bits] using wf1
  obtain ⟨a2, rfl, rfl, rfl, wm2⟩ := open_string Try.underlying9 (hval 2 9 v2 rfl rfl) h2
  have w2 : a2.size ≤ 140737488351232 := by
    have := sized_string hsz (j := 2) (t := 9) rfl rfl
    simpa [reachBytes] using this
  clear hA0 hval0
  refine (walk a0 w0.1 w0.2 a1 w1.1 w1.2 a2 w2 W).mono fun e W' ⟨he, bel⟩ => ?_
  subst he
  exact ⟨_, rfl, post_true laidOut (by kernel_rfl) Try.underlying4 (by kernel_rfl) rfl hW' rfl bel⟩

theorem proved : Rows.SumApartSaid :=
  OpenClaim.holds_of_wide 6 Try.f6 rfl rfl rfl rfl rfl rfl rfl ⟨rfl, rfl, rfl, rfl, rfl⟩ rfl rfl rfl rfl rfl (by kernel_rfl) Try.func6 (by kernel_rfl)
    (of_decide_eq_true (by kernel_rfl)) (by unfold Func.isWrapper; first | (rw [if_pos (by decide +kernel)]; kernel_rfl) | (rw [if_neg (by decide +kernel)]; exact ⟨rfl, rfl⟩))
    (fun os started H enc _ => lifted os started H enc)

end Go.Proofs.Ytdocnmjbmjoaoaa.sumApart

