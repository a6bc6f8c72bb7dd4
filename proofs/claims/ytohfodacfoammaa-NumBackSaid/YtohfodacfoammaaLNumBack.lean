/- NumBack: num.Read restores what num.Write has written, whatever stands behind. Conditions: none beyond the statement's own. -/
import Derived.Test.YtohfodacfoammaaFrame
import Derived.Test.YtohfodacfoammaaNumBegun
import Derived.Test.YtohfodacfoammaaNumBack
namespace Go.Proofs.Ytohfodacfoammaa.numBack
open Go.ChangeShapes Go.WideShapes Go.ChangeAt Go.RowKit
open Go.ChangeMaps (open_string shut_string)
set_option linter.unusedVariables false

open K NumP NumW NumRd NumZ NumL

set_option maxRecDepth 100000 in
theorem walk (n : Int) (n0 : 0 ≤ n) (n1 : n ≤ 18446744073709551615) (s : ByteArray) (hs : s.size ≤ 140737488351232) (w : World) :
    Calls Try.prog 4 #[.int .u64 n, .string s] w fun e w' => e = .returned (.bool true) ∧ Below w.heap.size w w' := by
  have hlen := numB_len 9 n.toNat
  have hread : ∀ w, Calls Try.prog 11 #[.string (⟨(numB 9 n.toNat).toArray⟩ ++ s)] w fun e w' => e = .returned (.tuple #[.int .u64 n, .int .i64 ((numB 9 n.toNat).length : Int), .int .i64 0]) ∧ w = w' := by
    intro w
    have h := read_any (⟨(numB 9 n.toNat).toArray⟩ ++ s) w (by
      rw [ByteArray.size_append]
      have : (⟨(numB 9 n.toNat).toArray⟩ : ByteArray).size = (numB 9 n.toNat).length := by simp [ByteArray.size]
      omega)
    have e : (⟨(numB 9 n.toNat).toArray⟩ ++ s : ByteArray).data.toList = numB 9 n.toNat ++ s.data.toList := by simp
    rw [e, numR_back _ (by omega)] at h
    simp only [resV, Int.toNat_of_nonneg n0] at h
    exact h
  have hr := Lib.hid hread
  have n1' := Lib.hid n1
  clear n1 hread
  go_enter Try.func4, Try.ntmps4
  go_wp2_with (first
    | (go_at_call 11; refine (hr.out _).mono ?_; rintro e w' ⟨rfl, rfl⟩)
    | (go_at_call 13; refine (begun_any _).mono ?_; rintro e w1 ⟨rfl, hb1⟩)
    | (go_at_call 14; refine (write_any _ _ n0 n1'.out).mono ?_; rintro e w2 ⟨rfl, hb2⟩))
  go_ways
  go_ret
  exact ⟨rfl, chain hb2 hb1⟩

/-! ### the row's step, by program -/
set_option maxRecDepth 100000 in
theorem lifted (os : Os) (started : os.Started) (H : Type) (enc : TypeId × Value → H) :
    ReturnsInHanded {} Try.checked os 4 .any (Rows.numBackSpec.pre6 enc Try.prog Try.f4 Rows.numBackRow.domain false) (Rows.numBackSpec.post enc Try.prog Try.f4 false true false false) := by
  refine returnsInHanded_of_change_sized (C := Try.checked) own started (by kernel_rfl) Try.func4
    (ChangeSpec.witness6 (enc := enc) (C := Try.checked) false ⟨#[], #[.int .u64 0, .string ByteArray.empty], []⟩ 8 (by kernel_rfl) (by kernel_rfl) (by kernel_rfl) (by kernel_rfl)) ?_
  intro W base args ds gs before hval0 hW hcnd hsz0 _
  have hval : ∀ (j : Nat) t v, Try.f4.params[j]? = some t → args[j]? = some v → Value.okWide Try.prog W .any base t v := hval0
  have hsz : (DataW.weightsEach Try.prog (Try.f4.params.toList ++ Rows.numBackSpec.plain.varTypes Try.prog) (ds ++ gs)).all (· ≤ reachBytes) = true := hsz0
  have hW' := hW
  obtain ⟨p, q, hA0, hV, rfl, hfz, hnd⟩ := hW
  have hA : DataW.TrodAll enc Try.prog W 0 (fun _ => true) true Try.f4.params.toList args.toList ds p := hA0
  rw [Try.params4] at hA hval hsz
  obtain ⟨v0, vs0, d0, ds0, p0, q0, hargs, rfl, rfl, h0, r0⟩ := trodAll_cons hA
  obtain ⟨v1, vs1, d1, ds1, p1, q1, rfl, rfl, rfl, h1, r1⟩ := trodAll_cons r0
  obtain ⟨rfl, rfl, rfl⟩ := trodAll_nil r1
  obtain rfl : args = #[v0, v1] := by cases args; simp_all
  obtain ⟨rfl, rfl⟩ := trodVars_none hV
  obtain ⟨a0, rfl, rfl, rfl, wf0⟩ := open_int Try.underlying22 (hval 0 22 v0 rfl rfl) h0
  have w0 : 0 ≤ a0 ∧ a0 ≤ 18446744073709551615 := by simpa [Lit.wf, IntKind.min, IntKind.max, IntKind.signed, IntKind.bits] using wf0
  obtain ⟨a1, rfl, rfl, rfl, wm1⟩ := open_string Try.underlying9 (hval 1 9 v1 rfl rfl) h1
  have w1 : a1.size ≤ 140737488351232 := by
    have := sized_string hsz (j := 1) (t := 9) rfl rfl
    simpa [reachBytes] using this
  clear hA0 hval0
  refine (walk a0 w0.1 w0.2 a1 w1 W).mono fun e W' ⟨he, bel⟩ => ?_
  subst he
  exact ⟨_, rfl, post_true laidOut (by kernel_rfl) Try.underlying4 (by kernel_rfl) rfl hW' rfl bel⟩

theorem proved : Rows.NumBackSaid :=
  OpenClaim.holds_of_wide 4 Try.f4 rfl rfl rfl rfl rfl rfl rfl ⟨rfl, rfl, rfl, rfl, rfl⟩ rfl rfl rfl rfl rfl (by kernel_rfl) Try.func4 (by kernel_rfl)
    (of_decide_eq_true (by kernel_rfl)) (by unfold Func.isWrapper; first | (rw [if_pos (by decide +kernel)]; kernel_rfl) | (rw [if_neg (by decide +kernel)]; exact ⟨rfl, rfl⟩))
    (fun os started H enc _ => lifted os started H enc)

end Go.Proofs.Ytohfodacfoammaa.numBack

