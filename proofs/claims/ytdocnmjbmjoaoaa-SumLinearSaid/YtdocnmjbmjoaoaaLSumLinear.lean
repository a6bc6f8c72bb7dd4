/- SumLinear: of three texts of one length the xor of the checksums is the checksum of the bytes' xor. Conditions: none beyond the statement's own. -/
import Derived.Test.YtdocnmjbmjoaoaaFrame
import Derived.Test.YtdocnmjbmjoaoaaSumLaws
namespace Go.Proofs.Ytdocnmjbmjoaoaa.sumLinear
open Go.ChangeShapes Go.WideShapes Go.ChangeAt Go.RowKit
open Go.ChangeMaps (open_string shut_string)
set_option linter.unusedVariables false

open K SumP SumW

theorem elU8 : El Try.prog 36 5 (.int .u8 0) 1 1 := El.mk Try.underlying36 (by kernel_rfl) rfl (by decide) (by decide)

theorem xor_byte (a b : UInt8) : bits .xor .u8 ((a.toNat : Nat) : Int) ((b.toNat : Nat) : Int) = (((a ^^^ b).toNat : Nat) : Int) := by
  have ha := UInt8.toNat_lt a
  have hb := UInt8.toNat_lt b
  rw [u8_xor_nat _ _ (by omega) (by omega), UInt8.toNat_xor]

set_option maxRecDepth 100000 in
set_option maxHeartbeats 1000000 in
theorem walk (s : ByteArray) (hs : s.size ≤ 140737488351232) (t : ByteArray) (ht : t.size ≤ 140737488351232) (u : ByteArray) (hu : u.size ≤ 140737488351232) (w : World) :
    Calls Try.prog 8 #[.string s, .string t, .string u] w fun e w' => e = .returned (.bool true) ∧ Below w.heap.size w w' := by
  by_cases hst : s.size = t.size
  · by_cases htu : t.size = u.size
    · have hst' : ((s.size : Int) != (t.size : Int)) = false := by simp; omega
      have htu' : ((t.size : Int) != (u.size : Int)) = false := by simp; omega
      have hle1 : s.size ≤ t.size := by omega
      have hle2 : s.size ≤ u.size := by omega
      have HST := Lib.hid hst
      have HTU := Lib.hid htu
      clear hst htu
      have hu8 := Try.underlying5
      have hx := Lib.hid (congrArg (fun x : W => ((x.toNat : Nat) : Int)) (more_x3 s.data.toList t.data.toList u.data.toList (by simpa using HST.out) (by simpa using HTU.out)))
      go_enter Try.func8, Try.ntmps8
      go_wp2_with (first
        | (go_at_call 10; refine (begun_any _).mono ?_; rintro e w1 ⟨rfl, hb1⟩))
      go_loopw [7, 8] (fun v i wr => ∃ k : Nat, k ≤ s.size ∧ i = .int .i64 (k : Int) ∧ Below w.heap.size w wr ∧
          wr.ownsRow w.heap.size 5 1 v k ((x3 (s.data.toList.take k) (t.data.toList.take k) (u.data.toList.take k)).map (fun b => Value.int .u8 (b.toNat : Int))))
        (fun _ i _ => s.size - (intOf i).toNat)
      case atStart => exact ⟨0, by omega, rfl, hb1, World.ownsRow_nil _ _ _ _⟩
      case round =>
        obtain ⟨k, hk, rfl, hbel, hown⟩ := hrel
        by_cases h : k < s.size
        · have ht' : k < t.size := by omega
          have hu' : k < u.size := by omega
          have hx1 := xor_byte s[k] t[k]
          have hx2 := xor_byte (s[k] ^^^ t[k]) u[k]
          have hsn := Lib.hid (x3_take s.data.toList t.data.toList u.data.toList k (by simpa using h) (by simpa using ht') (by simpa using hu'))
          rw [show s.data.toList[k]'(by simpa using h) = s[k] from rfl, show t.data.toList[k]'(by simpa using ht') = t[k] from rfl, show u.data.toList[k]'(by simpa using hu') = u[k] from rfl] at hsn
          generalize s[k] ^^^ t[k] ^^^ u[k] = y at *
          generalize s[k] ^^^ t[k] = z at *
          have i0 : (0 : Int) ≤ (k : Int) := by omega
          have i1 : (k : Int) < (s.size : Int) := by omega
          have i2 : (k : Int) < (t.size : Int) := by omega
          have i3 : (k : Int) < (u.size : Int) := by omega
          go_wp2_with fail
          go_region_held3 (fun _ => True) (trivial)
            (first | (refine step_push elU8 (.tmp 29) (.tmp 41) (by rfl) (by rfl) _ _ _ (by rfl) hown.drew hbel.drew (Nat.le_refl _) hbel.size [Value.int .u8 ((y.toNat : Nat) : Int)] (by rfl) (by rfl) (by intro x hx; simp at hx; subst hx; rfl) (by omega) ?_; intro v' w' hown' hbel' _ _))
          all_goals
            go_wp2_with fail
            go_roundw
            case rel =>
              refine ⟨k + 1, by omega, by go_num, hbel', ?_⟩
              rw [hsn.out]
              simpa using hown'
            case measure => simp [intOf]; omega
        · obtain rfl : k = s.size := by omega
          have hall := Lib.hid (show x3 (s.data.toList.take s.size) (t.data.toList.take s.size) (u.data.toList.take s.size) = x3 s.data.toList t.data.toList u.data.toList by
            rw [List.take_of_length_le (by simp), List.take_of_length_le (by have := HST.out; simp; omega), List.take_of_length_le (by have := HST.out; have := HTU.out; simp; omega)])
          rw [hall.out] at hown
          have hstr := run_text 36 9 hown Try.underlying36 hu8 Try.underlying9
          have hlx : (⟨(x3 s.data.toList t.data.toList u.data.toList).toArray⟩ : ByteArray).size ≤ 9223372036854775807 := by
            have := x3_len s.data.toList t.data.toList u.data.toList s.size (by simp) (by have := HST.out; simp; omega) (by have := HST.out; have := HTU.out; simp; omega)
            rw [hall.out] at this
            show (x3 s.data.toList t.data.toList u.data.toList).toArray.size ≤ _
            rw [List.size_toArray, this]; omega
          have HLX := Lib.hid hlx
          have hq1 := xor_toNat (more 0#32 s.data.toList) (more 0#32 t.data.toList)
          have hq2 := xor_toNat (more 0#32 s.data.toList ^^^ more 0#32 t.data.toList) (more 0#32 u.data.toList)
          have hx' := hx.out

          rw [← hx'] at hq2
          clear hlx hx'
          have hs1 : s.size ≤ 9223372036854775807 := by omega
          have hs2 : t.size ≤ 9223372036854775807 := by omega
          have hs3 : u.size ≤ 9223372036854775807 := by omega
          generalize more 0#32 s.data.toList ^^^ more 0#32 t.data.toList = q at *
          go_wp2_with (first
            | (go_at_call 13; (with_reducible refine (of_any s _ hs1).mono ?_); rintro e w3 ⟨rfl, hb3⟩)
            | (go_at_call 13; (with_reducible refine (of_any t _ hs2).mono ?_); rintro e w4 ⟨rfl, hb4⟩)
            | (go_at_call 13; (with_reducible refine (of_any u _ hs3).mono ?_); rintro e w5 ⟨rfl, hb5⟩)
            | (go_at_call 13; (with_reducible refine (of_any ⟨(x3 s.data.toList t.data.toList u.data.toList).toArray⟩ _ HLX.out).mono ?_); rintro e w6 ⟨rfl, hb6⟩))
          go_ret
          exact ⟨rfl, hbel.trans ((chain hb6 (chain hb3 (chain hb4 hb5))).mono hbel.size)⟩
    · have hst' : ((s.size : Int) != (t.size : Int)) = false := by simp; omega
      have htu' : ((t.size : Int) != (u.size : Int)) = true := by simp; omega
      clear hst htu
      go_enter Try.func8, Try.ntmps8
      go_wp2_with (first
        | (go_at_call 10; refine (begun_any _).mono ?_; rintro e w1 ⟨rfl, hb1⟩))
      go_ret
      exact ⟨rfl, hb1⟩
  · have hst' : ((s.size : Int) != (t.size : Int)) = true := by simp; omega
    clear hst
    go_enter Try.func8, Try.ntmps8
    go_wp2_with (first
      | (go_at_call 10; refine (begun_any _).mono ?_; rintro e w1 ⟨rfl, hb1⟩))
    go_ret
    exact ⟨rfl, hb1⟩

/-! ### the row's step, by program -/
set_option maxRecDepth 100000 in
theorem lifted (os : Os) (started : os.Started) (H : Type) (enc : TypeId × Value → H) :
    ReturnsInHanded {} Try.checked os 8 .any (Rows.sumLinearSpec.pre6 enc Try.prog Try.f8 Rows.sumLinearRow.domain false) (Rows.sumLinearSpec.post enc Try.prog Try.f8 false true false false) := by
  refine returnsInHanded_of_change_sized (C := Try.checked) own started (by kernel_rfl) Try.func8
    (ChangeSpec.witness6 (enc := enc) (C := Try.checked) false ⟨#[], #[.string ByteArray.empty, .string ByteArray.empty, .string ByteArray.empty], []⟩ 8 (by kernel_rfl) (by kernel_rfl) (by kernel_rfl) (by kernel_rfl)) ?_
  intro W base args ds gs before hval0 hW hcnd hsz0 _
  have hval : ∀ (j : Nat) t v, Try.f8.params[j]? = some t → args[j]? = some v → Value.okWide Try.prog W .any base t v := hval0
  have hsz : (DataW.weightsEach Try.prog (Try.f8.params.toList ++ Rows.sumLinearSpec.plain.varTypes Try.prog) (ds ++ gs)).all (· ≤ reachBytes) = true := hsz0
  have hW' := hW
  obtain ⟨p, q, hA0, hV, rfl, hfz, hnd⟩ := hW
  have hA : DataW.TrodAll enc Try.prog W 0 (fun _ => true) true Try.f8.params.toList args.toList ds p := hA0
  rw [Try.params8] at hA hval hsz
  obtain ⟨v0, vs0, d0, ds0, p0, q0, hargs, rfl, rfl, h0, r0⟩ := trodAll_cons hA
  obtain ⟨v1, vs1, d1, ds1, p1, q1, rfl, rfl, rfl, h1, r1⟩ := trodAll_cons r0
  obtain ⟨v2, vs2, d2, ds2, p2, q2, rfl, rfl, rfl, h2, r2⟩ := trodAll_cons r1
  obtain ⟨rfl, rfl, rfl⟩ := trodAll_nil r2
  obtain rfl : args = #[v0, v1, v2] := by cases args; simp_all
  obtain ⟨rfl, rfl⟩ := trodVars_none hV
  obtain ⟨a0, rfl, rfl, rfl, wm0⟩ := open_string Try.underlying9 (hval 0 9 v0 rfl rfl) h0
  have w0 : a0.size ≤ 140737488351232 := by
    have := sized_string hsz (j := 0) (t := 9) rfl rfl
    simpa [reachBytes] using this
  obtain ⟨a1, rfl, rfl, rfl, wm1⟩ := open_string Try.underlying9 (hval 1 9 v1 rfl rfl) h1
  have w1 : a1.size ≤ 140737488351232 := by
    have := sized_string hsz (j := 1) (t := 9) rfl rfl
    simpa [reachBytes] using this
  obtain ⟨a2, rfl, rfl, rfl, wm2⟩ := open_string Try.underlying9 (hval 2 9 v2 rfl rfl) h2
  have w2 : a2.size ≤ 140737488351232 := by
    have := sized_string hsz (j := 2) (t := 9) rfl rfl
    simpa [reachBytes] using this
  clear hA0 hval0
  refine (walk a0 w0 a1 w1 a2 w2 W).mono fun e W' ⟨he, bel⟩ => ?_
  subst he
  exact ⟨_, rfl, post_true laidOut (by kernel_rfl) Try.underlying4 (by kernel_rfl) rfl hW' rfl bel⟩

theorem proved : Rows.SumLinearSaid :=
  OpenClaim.holds_of_wide 8 Try.f8 rfl rfl rfl rfl rfl rfl rfl ⟨rfl, rfl, rfl, rfl, rfl⟩ rfl rfl rfl rfl rfl (by kernel_rfl) Try.func8 (by kernel_rfl)
    (of_decide_eq_true (by kernel_rfl)) (by unfold Func.isWrapper; first | (rw [if_pos (by decide +kernel)]; kernel_rfl) | (rw [if_neg (by decide +kernel)]; exact ⟨rfl, rfl⟩))
    (fun os started H enc _ => lifted os started H enc)

end Go.Proofs.Ytdocnmjbmjoaoaa.sumLinear

