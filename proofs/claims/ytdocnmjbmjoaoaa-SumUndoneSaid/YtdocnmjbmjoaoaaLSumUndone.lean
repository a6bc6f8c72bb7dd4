/- SumUndone: Less undoes what the last byte did, and the other way round. Conditions: none beyond the statement's own. -/
import Derived.Test.YtdocnmjbmjoaoaaFrame
import Derived.Test.YtdocnmjbmjoaoaaSumLaws
namespace Go.Proofs.Ytdocnmjbmjoaoaa.sumUndone
open Go.ChangeShapes Go.WideShapes Go.ChangeAt Go.RowKit
open Go.ChangeMaps (open_string shut_string)
set_option linter.unusedVariables false

open K SumP SumW

set_option maxRecDepth 100000 in
theorem walk (c' : Int) (c0 : 0 ≤ c') (c1 : c' ≤ 4294967295) (b' : Int) (b0 : 0 ≤ b') (b1 : b' ≤ 255) (s : ByteArray) (hs : s.size ≤ 140737488351232) (w : World) :
    Calls Try.prog 7 #[.int .u32 c', .int .u8 b', .string s] w fun e w' => e = .returned (.bool true) ∧ Below w.heap.size w w' := by
  obtain ⟨c, rfl⟩ := reg_of c' c0 c1
  obtain ⟨b, rfl⟩ := byte_of b' b0 b1
  clear c0 c1 b0 b1
  have e1 := Lib.hid (less_more c b)
  have e2 := Lib.hid (more_less c b)
  have e3 := Lib.hid (less_last s.data.toList b)
  have h1s : Hid ((⟨[b].toArray⟩ : ByteArray).size ≤ 9223372036854775807) := by show 1 ≤ 9223372036854775807; decide
  have hz : (s ++ (⟨[b].toArray⟩ : ByteArray)).size = s.size + 1 := by rw [app_size]; rfl
  have hd := Lib.hid (show (s ++ (⟨[b].toArray⟩ : ByteArray)).data.toList = s.data.toList ++ [b] by rw [app_data])
  go_enter Try.func7, Try.ntmps7
  go_wp2_with (first
    | (go_at_call 10; refine (begun_any _).mono ?_; rintro e w1 ⟨rfl, hb1⟩)
    | (go_at_call 15; refine (byteText_any b _).mono ?_; rintro e w2 ⟨rfl, hb2⟩)
    | (go_at_call 11; (with_reducible refine (more_any c ⟨[b].toArray⟩ _ h1s.out).mono ?_); rintro e w4 ⟨rfl, hb4⟩)
    | (go_at_call 16; (with_reducible refine (less_any (more c [b]) b _).mono ?_); rintro e w5 ⟨rfl, rfl⟩; rw [e1.out])
    | (go_at_call 16; (with_reducible refine (less_any c b _).mono ?_); rintro e w5 ⟨rfl, rfl⟩)
    | (go_at_call 11; (with_reducible refine (more_any (less c b) ⟨[b].toArray⟩ _ h1s.out).mono ?_); rintro e w6 ⟨rfl, hb6⟩; rw [e2.out])
    | (go_at_call 13; (with_reducible refine (of_any s _ (by omega)).mono ?_); rintro e w7 ⟨rfl, hb7⟩)
    | (go_at_call 13; (with_reducible refine (of_any (s ++ ⟨[b].toArray⟩) _ (by omega)).mono ?_); rintro e w8 ⟨rfl, hb8⟩; rw [hd.out])
    | (go_at_call 16; (with_reducible refine (less_any (more 0#32 (s.data.toList ++ [b])) b _).mono ?_); rintro e w9 ⟨rfl, rfl⟩; rw [e3.out]))
  go_ways
  go_ret
  exact ⟨rfl, chain hb2 (chain hb1 (chain hb4 (chain hb6 (chain hb8 hb7))))⟩

/-! ### the row's step, by program -/
set_option maxRecDepth 100000 in
theorem lifted (os : Os) (started : os.Started) (H : Type) (enc : TypeId × Value → H) :
    ReturnsInHanded {} Try.checked os 7 .any (Rows.sumUndoneSpec.pre6 enc Try.prog Try.f7 Rows.sumUndoneRow.domain false) (Rows.sumUndoneSpec.post enc Try.prog Try.f7 false true false false) := by
  refine returnsInHanded_of_change_sized (C := Try.checked) own started (by kernel_rfl) Try.func7
    (ChangeSpec.witness6 (enc := enc) (C := Try.checked) false ⟨#[], #[.int .u32 0, .int .u8 0, .string ByteArray.empty], []⟩ 8 (by kernel_rfl) (by kernel_rfl) (by kernel_rfl) (by kernel_rfl)) ?_
  intro W base args ds gs before hval0 hW hcnd hsz0 _
  have hval : ∀ (j : Nat) t v, Try.f7.params[j]? = some t → args[j]? = some v → Value.okWide Try.prog W .any base t v := hval0
  have hsz : (DataW.weightsEach Try.prog (Try.f7.params.toList ++ Rows.sumUndoneSpec.plain.varTypes Try.prog) (ds ++ gs)).all (· ≤ reachBytes) = true := hsz0
  have hW' := hW
  obtain ⟨p, q, hA0, hV, rfl, hfz, hnd⟩ := hW
  have hA : DataW.TrodAll enc Try.prog W 0 (fun _ => true) true Try.f7.params.toList args.toList ds p := hA0
  rw [Try.params7] at hA hval hsz
  obtain ⟨v0, vs0, d0, ds0, p0, q0, hargs, rfl, rfl, h0, r0⟩ := trodAll_cons hA
  obtain ⟨v1, vs1, d1, ds1, p1, q1, rfl, rfl, rfl, h1, r1⟩ := trodAll_cons r0
  obtain ⟨v2, vs2, d2, ds2, p2, q2, rfl, rfl, rfl, h2, r2⟩ := trodAll_cons r1
  obtain ⟨rfl, rfl, rfl⟩ := trodAll_nil r2
  obtain rfl : args = #[v0, v1, v2] := by cases args; simp_all
  obtain ⟨rfl, rfl⟩ := trodVars_none hV
  obtain ⟨a0, rfl, rfl, rfl, wf0⟩ := open_int Try.underlying22 (hval 0 22 v0 rfl rfl) h0
  have w0 : 0 ≤ a0 ∧ a0 ≤ 4294967295 := by simpa [Lit.wf, IntKind.min, IntKind.max, IntKind.signed, IntKind.bits] using wf0
  obtain ⟨a1, rfl, rfl, rfl, wf1⟩ := open_int Try.underlying5 (hval 1 5 v1 rfl rfl) h1
  have w1 : 0 ≤ a1 ∧ a1 ≤ 255 := by simpa [Lit.wf, IntKind.min, IntKind.max, IntKind.signed, IntKind.bits] using wf1
  obtain ⟨a2, rfl, rfl, rfl, wm2⟩ := open_string Try.underlying9 (hval 2 9 v2 rfl rfl) h2
  have w2 : a2.size ≤ 140737488351232 := by
    have := sized_string hsz (j := 2) (t := 9) rfl rfl
    simpa [reachBytes] using this
  clear hA0 hval0
  refine (walk a0 w0.1 w0.2 a1 w1.1 w1.2 a2 w2 W).mono fun e W' ⟨he, bel⟩ => ?_
  subst he
  exact ⟨_, rfl, post_true laidOut (by kernel_rfl) Try.underlying4 (by kernel_rfl) rfl hW' rfl bel⟩

theorem proved : Rows.SumUndoneSaid :=
  OpenClaim.holds_of_wide 7 Try.f7 rfl rfl rfl rfl rfl rfl rfl ⟨rfl, rfl, rfl, rfl, rfl⟩ rfl rfl rfl rfl rfl (by kernel_rfl) Try.func7 (by kernel_rfl)
    (of_decide_eq_true (by kernel_rfl)) (by unfold Func.isWrapper; first | (rw [if_pos (by decide +kernel)]; kernel_rfl) | (rw [if_neg (by decide +kernel)]; exact ⟨rfl, rfl⟩))
    (fun os started H enc _ => lifted os started H enc)

end Go.Proofs.Ytdocnmjbmjoaoaa.sumUndone

