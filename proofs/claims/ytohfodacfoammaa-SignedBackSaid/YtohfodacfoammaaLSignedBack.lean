/- SignedBack: Zig and Zag go back and forth, and so do Signed and ReadSigned. Conditions: none beyond the statement's own. -/
import Derived.Test.YtohfodacfoammaaFrame
import Derived.Test.YtohfodacfoammaaNumBegun
import Derived.Test.YtohfodacfoammaaNumBack
namespace Go.Proofs.Ytohfodacfoammaa.signedBack
open Go.ChangeShapes Go.WideShapes Go.ChangeAt Go.RowKit
open Go.ChangeMaps (open_string shut_string)
set_option linter.unusedVariables false

open K NumP NumW NumRd NumZ NumL

set_option maxRecDepth 100000 in
theorem walk (n : Int) (n0 : -9223372036854775808 ≤ n) (n1 : n ≤ 9223372036854775807) (u : Int) (u0 : 0 ≤ u) (u1 : u ≤ 18446744073709551615) (s : ByteArray) (hs : s.size ≤ 140737488351232) (w : World) :
    Calls Try.prog 10 #[.int .i64 n, .int .u64 u, .string s] w fun e w' => e = .returned (.bool true) ∧ Below w.heap.size w w' := by
  have hz := Lib.hid (zig_bd n n0 n1)
  have hg := Lib.hid (zag_bd u u0 u1)
  have e1 := zag_zig n
  have e2 := zig_zag u u0
  have hlen := numB_len 9 (zig n).toNat
  have hread : ∀ w, Calls Try.prog 17 #[.string (⟨(numB 9 (zig n).toNat).toArray⟩ ++ s)] w fun e w' => e = .returned (.tuple #[.int .i64 n, .int .i64 ((numB 9 (zig n).toNat).length : Int), .int .i64 0]) ∧ w = w' := by
    intro w
    have h := rsigned_any (⟨(numB 9 (zig n).toNat).toArray⟩ ++ s) w (by
      rw [ByteArray.size_append]
      have : (⟨(numB 9 (zig n).toNat).toArray⟩ : ByteArray).size = (numB 9 (zig n).toNat).length := by simp [ByteArray.size]
      omega)
    have e : (⟨(numB 9 (zig n).toNat).toArray⟩ ++ s : ByteArray).data.toList = numB 9 (zig n).toNat ++ s.data.toList := by simp
    rw [e, numR_back _ (by have := hz.out; omega)] at h
    simp only [signV, Int.toNat_of_nonneg hz.out.1, e1] at h
    exact h
  have hr := Lib.hid hread
  have N0 := Lib.hid n0
  have N1 := Lib.hid n1
  have U1 := Lib.hid u1
  clear n0 n1 u1 hread
  go_enter Try.func10, Try.ntmps10
  go_wp2_with (first
    | (go_at_call 17; refine (hr.out _).mono ?_; rintro e w' ⟨rfl, rfl⟩)
    | (go_at_call 13; refine (begun_any _).mono ?_; rintro e w1 ⟨rfl, hb1⟩)
    | (go_at_call 16; (with_reducible refine (zig_any n _ N0.out N1.out).mono ?_); rintro e w2 ⟨rfl, rfl⟩)
    | (go_at_call 20; (with_reducible refine (zag_any (zig n) _ hz.out.1 hz.out.2).mono ?_); rintro e w2 ⟨rfl, rfl⟩)
    | (go_at_call 20; (with_reducible refine (zag_any u _ u0 U1.out).mono ?_); rintro e w2 ⟨rfl, rfl⟩)
    | (go_at_call 16; (with_reducible refine (zig_any (zag u) _ hg.out.1 hg.out.2).mono ?_); rintro e w2 ⟨rfl, rfl⟩)
    | (go_at_call 22; refine (signed_any _ _ N0.out N1.out).mono ?_; rintro e w3 ⟨rfl, hb3⟩))
  go_ret
  exact ⟨rfl, chain (by assumption) (chain hb1 hb3)⟩

/-! ### the row's step, by program -/
set_option maxRecDepth 100000 in
theorem lifted (os : Os) (started : os.Started) (H : Type) (enc : TypeId × Value → H) :
    ReturnsInHanded {} Try.checked os 10 .any (Rows.signedBackSpec.pre6 enc Try.prog Try.f10 Rows.signedBackRow.domain false) (Rows.signedBackSpec.post enc Try.prog Try.f10 false true false false) := by
  refine returnsInHanded_of_change_sized (C := Try.checked) own started (by kernel_rfl) Try.func10
    (ChangeSpec.witness6 (enc := enc) (C := Try.checked) false ⟨#[], #[.int .i64 0, .int .u64 0, .string ByteArray.empty], []⟩ 8 (by kernel_rfl) (by kernel_rfl) (by kernel_rfl) (by kernel_rfl)) ?_
  intro W base args ds gs before hval0 hW hcnd hsz0 _
  have hval : ∀ (j : Nat) t v, Try.f10.params[j]? = some t → args[j]? = some v → Value.okWide Try.prog W .any base t v := hval0
  have hsz : (DataW.weightsEach Try.prog (Try.f10.params.toList ++ Rows.signedBackSpec.plain.varTypes Try.prog) (ds ++ gs)).all (· ≤ reachBytes) = true := hsz0
  have hW' := hW
  obtain ⟨p, q, hA0, hV, rfl, hfz, hnd⟩ := hW
  have hA : DataW.TrodAll enc Try.prog W 0 (fun _ => true) true Try.f10.params.toList args.toList ds p := hA0
  rw [Try.params10] at hA hval hsz
  obtain ⟨v0, vs0, d0, ds0, p0, q0, hargs, rfl, rfl, h0, r0⟩ := trodAll_cons hA
  obtain ⟨v1, vs1, d1, ds1, p1, q1, rfl, rfl, rfl, h1, r1⟩ := trodAll_cons r0
  obtain ⟨v2, vs2, d2, ds2, p2, q2, rfl, rfl, rfl, h2, r2⟩ := trodAll_cons r1
  obtain ⟨rfl, rfl, rfl⟩ := trodAll_nil r2
  obtain rfl : args = #[v0, v1, v2] := by cases args; simp_all
  obtain ⟨rfl, rfl⟩ := trodVars_none hV
  obtain ⟨a0, rfl, rfl, rfl, wf0⟩ := open_int Try.underlying2 (hval 0 2 v0 rfl rfl) h0
  have w0 : -9223372036854775808 ≤ a0 ∧ a0 ≤ 9223372036854775807 := by simpa [Lit.wf, IntKind.min, IntKind.max, IntKind.signed, IntKind.bits] using wf0
  obtain ⟨a1, rfl, rfl, rfl, wf1⟩ := open_int Try.underlying22 (hval 1 22 v1 rfl rfl) h1
  have w1 : 0 ≤ a1 ∧ a1 ≤ 18446744073709551615 := by simpa [Lit.wf, IntKind.min, IntKind.max, IntKind.signed, IntKind.bits] using wf1
  obtain ⟨a2, rfl, rfl, rfl, wm2⟩ := open_string Try.underlying9 (hval 2 9 v2 rfl rfl) h2
  have w2 : a2.size ≤ 140737488351232 := by
    have := sized_string hsz (j := 2) (t := 9) rfl rfl
    simpa [reachBytes] using this
  clear hA0 hval0
  refine (walk a0 w0.1 w0.2 a1 w1.1 w1.2 a2 w2 W).mono fun e W' ⟨he, bel⟩ => ?_
  subst he
  exact ⟨_, rfl, post_true laidOut (by kernel_rfl) Try.underlying4 (by kernel_rfl) rfl hW' rfl bel⟩

theorem proved : Rows.SignedBackSaid :=
  OpenClaim.holds_of_wide 10 Try.f10 rfl rfl rfl rfl rfl rfl rfl ⟨rfl, rfl, rfl, rfl, rfl⟩ rfl rfl rfl rfl rfl (by kernel_rfl) Try.func10 (by kernel_rfl)
    (of_decide_eq_true (by kernel_rfl)) (by unfold Func.isWrapper; first | (rw [if_pos (by decide +kernel)]; kernel_rfl) | (rw [if_neg (by decide +kernel)]; exact ⟨rfl, rfl⟩))
    (fun os started H enc _ => lifted os started H enc)

end Go.Proofs.Ytohfodacfoammaa.signedBack

