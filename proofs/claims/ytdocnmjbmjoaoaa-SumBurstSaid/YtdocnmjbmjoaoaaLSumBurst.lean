/- SumBurst: bits that are turned within 32 in a row give another checksum. Conditions: none beyond the statement's own. -/
import Derived.Test.YtdocnmjbmjoaoaaFrame
import Derived.Test.YtdocnmjbmjoaoaaSumBurst
namespace Go.Proofs.Ytdocnmjbmjoaoaa.sumBurst
open Go.ChangeShapes Go.WideShapes Go.ChangeAt Go.RowKit
open Go.ChangeMaps (open_string shut_string)
set_option linter.unusedVariables false

open K SumP SumW

set_option maxRecDepth 100000 in
theorem walk (s : ByteArray) (hs : s.size ≤ 140737488351232) (at_ : Int) (a0 : -9223372036854775808 ≤ at_) (a1 : at_ ≤ 9223372036854775807) (m' : Int) (m0 : 0 ≤ m') (m1 : m' ≤ 4294967295) (w : World) :
    Calls Try.prog 9 #[.string s, .int .i64 at_, .int .u32 m'] w fun e w' => e = .returned (.bool true) ∧ Below w.heap.size w w' := by
  obtain ⟨m, rfl⟩ := reg_of m' m0 m1
  clear m0 m1
  have hlen := turned_len s.data.toList at_ m
  have hsz : Hid ((⟨(turned s.data.toList at_ m).toArray⟩ : ByteArray).size ≤ 9223372036854775807) := by
    show (turned s.data.toList at_ m).toArray.size ≤ 9223372036854775807
    rw [List.size_toArray, hlen]
    have : s.data.toList.length = s.size := by simp
    omega
  have ht := Lib.hid (fun w => turned_any s at_ m w hs a0 a1)
  have hsh := Lib.hid (turned_shows s.data.toList at_ m)
  clear a0 a1 hlen
  generalize turned s.data.toList at_ m = t at *
  by_cases h : s.data.toList = t
  · have h1 : (s.toList == t) = true := by rw [ByteArray.toList_eq]; simpa using h
    have hq : (((more 0#32 s.data.toList).toNat : Nat) : Int) = (((more 0#32 t).toNat : Nat) : Int) := by rw [h]
    have H := Lib.hid hq
    clear h hq
    go_enter Try.func9, Try.ntmps9
    go_wp2_with (first
      | (go_at_call 10; refine (begun_any _).mono ?_; rintro e w1 ⟨rfl, hb1⟩)
      | (go_at_call 17; refine (ht.out _).mono ?_; rintro e w2 ⟨rfl, hb2⟩)
      | (go_at_call 13; (with_reducible refine (of_any s _ (by omega)).mono ?_); rintro e w3 ⟨rfl, hb3⟩; rw [H.out])
      | (go_at_call 13; (with_reducible refine (of_any ⟨t.toArray⟩ _ hsz.out).mono ?_); rintro e w4 ⟨rfl, hb4⟩))
    go_ret
    exact ⟨rfl, chain hb2 (chain hb1 (chain hb3 hb4))⟩
  · have h1 : (s.toList == t) = false := by rw [ByteArray.toList_eq]; simpa using h
    have h2 : ((((more 0#32 s.data.toList).toNat : Nat) : Int) == (((more 0#32 t).toNat : Nat) : Int)) = false := by
      simp only [beq_eq_false_iff_ne, ne_eq]; intro e; exact h (hsh.out (BitVec.eq_of_toNat_eq (by omega)))
    clear h
    go_enter Try.func9, Try.ntmps9
    go_wp2_with (first
      | (go_at_call 10; refine (begun_any _).mono ?_; rintro e w1 ⟨rfl, hb1⟩)
      | (go_at_call 17; refine (ht.out _).mono ?_; rintro e w2 ⟨rfl, hb2⟩)
      | (go_at_call 13; (with_reducible refine (of_any s _ (by omega)).mono ?_); rintro e w3 ⟨rfl, hb3⟩)
      | (go_at_call 13; (with_reducible refine (of_any ⟨t.toArray⟩ _ hsz.out).mono ?_); rintro e w4 ⟨rfl, hb4⟩))
    go_ways
    go_ret
    exact ⟨rfl, chain hb2 (chain hb1 (chain hb3 hb4))⟩

/-! ### the row's step, by program -/
set_option maxRecDepth 100000 in
theorem lifted (os : Os) (started : os.Started) (H : Type) (enc : TypeId × Value → H) :
    ReturnsInHanded {} Try.checked os 9 .any (Rows.sumBurstSpec.pre6 enc Try.prog Try.f9 Rows.sumBurstRow.domain false) (Rows.sumBurstSpec.post enc Try.prog Try.f9 false true false false) := by
  refine returnsInHanded_of_change_sized (C := Try.checked) own started (by kernel_rfl) Try.func9
    (ChangeSpec.witness6 (enc := enc) (C := Try.checked) false ⟨#[], #[.string ByteArray.empty, .int .i64 0, .int .u32 0], []⟩ 8 (by kernel_rfl) (by kernel_rfl) (by kernel_rfl) (by kernel_rfl)) ?_
  intro W base args ds gs before hval0 hW hcnd hsz0 _
  have hval : ∀ (j : Nat) t v, Try.f9.params[j]? = some t → args[j]? = some v → Value.okWide Try.prog W .any base t v := hval0
  have hsz : (DataW.weightsEach Try.prog (Try.f9.params.toList ++ Rows.sumBurstSpec.plain.varTypes Try.prog) (ds ++ gs)).all (· ≤ reachBytes) = true := hsz0
  have hW' := hW
  obtain ⟨p, q, hA0, hV, rfl, hfz, hnd⟩ := hW
  have hA : DataW.TrodAll enc Try.prog W 0 (fun _ => true) true Try.f9.params.toList args.toList ds p := hA0
  rw [Try.params9] at hA hval hsz
  obtain ⟨v0, vs0, d0, ds0, p0, q0, hargs, rfl, rfl, h0, r0⟩ := trodAll_cons hA
  obtain ⟨v1, vs1, d1, ds1, p1, q1, rfl, rfl, rfl, h1, r1⟩ := trodAll_cons r0
  obtain ⟨v2, vs2, d2, ds2, p2, q2, rfl, rfl, rfl, h2, r2⟩ := trodAll_cons r1
  obtain ⟨rfl, rfl, rfl⟩ := trodAll_nil r2
  obtain rfl : args = #[v0, v1, v2] := by cases args; simp_all
  obtain ⟨rfl, rfl⟩ := trodVars_none hV
  obtain ⟨a0, rfl, rfl, rfl, wm0⟩ := open_string Try.underlying9 (hval 0 9 v0 rfl rfl) h0
  have w0 : a0.size ≤ 140737488351232 := by
    have := sized_string hsz (j := 0) (t := 9) rfl rfl
    simpa [reachBytes] using this
  obtain ⟨a1, rfl, rfl, rfl, wf1⟩ := open_int Try.underlying3 (hval 1 3 v1 rfl rfl) h1
  have w1 : -9223372036854775808 ≤ a1 ∧ a1 ≤ 9223372036854775807 := by simpa [Lit.wf, IntKind.min, IntKind.max, IntKind.signed, IntKind.bits] using wf1
  obtain ⟨a2, rfl, rfl, rfl, wf2⟩ := open_int Try.underlying22 (hval 2 22 v2 rfl rfl) h2
  have w2 : 0 ≤ a2 ∧ a2 ≤ 4294967295 := by simpa [Lit.wf, IntKind.min, IntKind.max, IntKind.signed, IntKind.bits] using wf2
  clear hA0 hval0
  refine (walk a0 w0 a1 w1.1 w1.2 a2 w2.1 w2.2 W).mono fun e W' ⟨he, bel⟩ => ?_
  subst he
  exact ⟨_, rfl, post_true laidOut (by kernel_rfl) Try.underlying4 (by kernel_rfl) rfl hW' rfl bel⟩

theorem proved : Rows.SumBurstSaid :=
  OpenClaim.holds_of_wide 9 Try.f9 rfl rfl rfl rfl rfl rfl rfl ⟨rfl, rfl, rfl, rfl, rfl⟩ rfl rfl rfl rfl rfl (by kernel_rfl) Try.func9 (by kernel_rfl)
    (of_decide_eq_true (by kernel_rfl)) (by unfold Func.isWrapper; first | (rw [if_pos (by decide +kernel)]; kernel_rfl) | (rw [if_neg (by decide +kernel)]; exact ⟨rfl, rfl⟩))
    (fun os started H enc _ => lifted os started H enc)

end Go.Proofs.Ytdocnmjbmjoaoaa.sumBurst

