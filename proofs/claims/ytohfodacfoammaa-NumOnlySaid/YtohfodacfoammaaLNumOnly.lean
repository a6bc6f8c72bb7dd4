/- NumOnly: num.Write restores what num.Read has read. Conditions: none beyond the statement's own. -/
import Derived.Test.YtohfodacfoammaaFrame
import Derived.Test.YtohfodacfoammaaNumBegun
import Derived.Test.YtohfodacfoammaaNumBack
namespace Go.Proofs.Ytohfodacfoammaa.numOnly
open Go.ChangeShapes Go.WideShapes Go.ChangeAt Go.RowKit
open Go.ChangeMaps (open_string shut_string)
set_option linter.unusedVariables false

open K NumP NumW NumRd NumZ NumL

set_option maxRecDepth 100000 in
theorem walk (s : ByteArray) (hs : s.size ≤ 140737488351232) (w : World) :
    Calls Try.prog 5 #[.string s] w fun e w' => e = .returned (.bool true) ∧ Below w.heap.size w w' := by
  have hr := Lib.hid (fun w => read_any s w (by omega))
  have hfit := numR_fits s.data.toList
  have hfail := Lib.hid (numR_fail s.data.toList)
  have honly := Lib.hid (numR_only s.data.toList)
  generalize hR : numR s.data.toList = r at *
  obtain ⟨m, k, e⟩ := r
  simp only [resV] at *
  clear hR
  by_cases he : ((e : Int) != 0) = true
  · obtain ⟨rfl, rfl⟩ := hfail.out (by simpa using he)
    go_enter Try.func5, Try.ntmps5
    go_wp2_with (first
      | (go_at_call 11; refine (hr.out _).mono ?_; rintro e w' ⟨rfl, rfl⟩)
      | (go_at_call 13; refine (begun_any _).mono ?_; rintro e w1 ⟨rfl, hb1⟩))
    go_ret
    exact ⟨rfl, hb1⟩
  · simp only [Bool.not_eq_true] at he
    obtain ⟨h1, h2, h3⟩ := honly.out (by simpa using he)
    have h1' : decide ((1 : Int) ≤ (k : Int)) = true := by simp; omega
    have h2' : decide ((k : Int) ≤ (s.size : Int)) = true := by simp; simpa using h2
    have h2'' : k ≤ s.size := by simpa using h2
    go_enter Try.func5, Try.ntmps5
    go_wp2_with (first
      | (go_at_call 11; refine (hr.out _).mono ?_; rintro e w' ⟨rfl, rfl⟩)
      | (go_at_call 13; refine (begun_any _).mono ?_; rintro e w1 ⟨rfl, hb1⟩))
    go_region_held3 (fun _ => True) (trivial) (first | (go_at_call 14; (with_reducible refine (write_any _ _ (by omega) (by omega)).mono ?_); rintro e w2 ⟨rfl, hb2⟩))
    have hx : (List.take k s.data.toList == (s.extract 0 k).toList) = true := by
      rw [ByteArray.toList_eq]; simp
    rw [hx]
    go_wp2_with fail
    go_ret
    exact ⟨rfl, chain hb1.drew hb2⟩

/-! ### the row's step, by program -/
set_option maxRecDepth 100000 in
theorem lifted (os : Os) (started : os.Started) (H : Type) (enc : TypeId × Value → H) :
    ReturnsInHanded {} Try.checked os 5 .any (Rows.numOnlySpec.pre6 enc Try.prog Try.f5 Rows.numOnlyRow.domain false) (Rows.numOnlySpec.post enc Try.prog Try.f5 false true false false) := by
  refine returnsInHanded_of_change_sized (C := Try.checked) own started (by kernel_rfl) Try.func5
    (ChangeSpec.witness6 (enc := enc) (C := Try.checked) false ⟨#[], #[.string ByteArray.empty], []⟩ 8 (by kernel_rfl) (by kernel_rfl) (by kernel_rfl) (by kernel_rfl)) ?_
  intro W base args ds gs before hval0 hW hcnd hsz0 _
  have hval : ∀ (j : Nat) t v, Try.f5.params[j]? = some t → args[j]? = some v → Value.okWide Try.prog W .any base t v := hval0
  have hsz : (DataW.weightsEach Try.prog (Try.f5.params.toList ++ Rows.numOnlySpec.plain.varTypes Try.prog) (ds ++ gs)).all (· ≤ reachBytes) = true := hsz0
  have hW' := hW
  obtain ⟨p, q, hA0, hV, rfl, hfz, hnd⟩ := hW
  have hA : DataW.TrodAll enc Try.prog W 0 (fun _ => true) true Try.f5.params.toList args.toList ds p := hA0
  rw [Try.params5] at hA hval hsz
  obtain ⟨v0, vs0, d0, ds0, p0, q0, hargs, rfl, rfl, h0, r0⟩ := trodAll_cons hA
  obtain ⟨rfl, rfl, rfl⟩ := trodAll_nil r0
  obtain rfl : args = #[v0] := by cases args; simp_all
  obtain ⟨rfl, rfl⟩ := trodVars_none hV
  obtain ⟨a0, rfl, rfl, rfl, wm0⟩ := open_string Try.underlying9 (hval 0 9 v0 rfl rfl) h0
  have w0 : a0.size ≤ 140737488351232 := by
    have := sized_string hsz (j := 0) (t := 9) rfl rfl
    simpa [reachBytes] using this
  clear hA0 hval0
  refine (walk a0 w0 W).mono fun e W' ⟨he, bel⟩ => ?_
  subst he
  exact ⟨_, rfl, post_true laidOut (by kernel_rfl) Try.underlying4 (by kernel_rfl) rfl hW' rfl bel⟩

theorem proved : Rows.NumOnlySaid :=
  OpenClaim.holds_of_wide 5 Try.f5 rfl rfl rfl rfl rfl rfl rfl ⟨rfl, rfl, rfl, rfl, rfl⟩ rfl rfl rfl rfl rfl (by kernel_rfl) Try.func5 (by kernel_rfl)
    (of_decide_eq_true (by kernel_rfl)) (by unfold Func.isWrapper; first | (rw [if_pos (by decide +kernel)]; kernel_rfl) | (rw [if_neg (by decide +kernel)]; exact ⟨rfl, rfl⟩))
    (fun os started H enc _ => lifted os started H enc)

end Go.Proofs.Ytohfodacfoammaa.numOnly

