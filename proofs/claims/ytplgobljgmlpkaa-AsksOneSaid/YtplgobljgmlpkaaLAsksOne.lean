/- AsksOne: of two values that are no Null just one is True: less, same, greater. Conditions: none beyond the statement's own. -/
import Derived.Test.YtplgobljgmlpkaaLogicOne
import Derived.Test.YtplgobljgmlpkaaLogic4
import Derived.Test.YtplgobljgmlpkaaLogicBegun
namespace Go.Proofs.Ytplgobljgmlpkaa.asksOne
open Go.ChangeShapes Go.WideShapes Go.ChangeAt Go.RowKit
open Go.ChangeMaps (open_string shut_string)
set_option linter.unusedVariables false

open K LogicP ValP

set_option maxRecDepth 100000 in
set_option maxHeartbeats 4000000 in
theorem walk (a : ValD) (_oa : valOk a) (va : Value) (b : ValD) (_ob : valOk b) (vb : Value) (w : World) (ha : IsVal va a) (hb : IsVal vb b) :
    Calls Try.prog 6 #[va, vb] w fun e w' => e = .returned (.bool true) ∧ Below w.heap.size w w' := by
  rw [ha, hb]
  clear ha hb
  have HF := asks_one a b
  have C1 := fun W => less_any a b W
  have C2 := fun W => same_any a b W
  have C3 := fun W => less_any b a W
  generalize vless a b = r1 at *
  generalize vsame a b = r2 at *
  generalize vless b a = r3 at *
  obtain ⟨x, p⟩ := r1
  obtain ⟨y, q⟩ := r2
  obtain ⟨z, r⟩ := r3
  simp only [Prod.mk.injEq] at HF
  simp only at C1 C2 C3
  have HF1 := Lib.hid HF
  clear HF
  go_enter Try.func6, Try.ntmps6
  go_wp2_with fail
  refine (C1 _).mono ?_
  rintro e w1 ⟨rfl, hb1⟩
  have hW1 := chain (chain (alloc_below _ _) (alloc_below _ _)) hb1
  have ba := ((Bx.new _ [.int .i64 a.1, .int .i64 a.2.1, .string a.2.2] 27 (w.heap.size) (by simp)).alloc _).later hb1
  have bb := (Bx.new _ [.int .i64 b.1, .int .i64 b.2.1, .string b.2.2] 27 (w.heap.size + 1) (by simp)).later hb1
  obtain ⟨cba0, cba1, cba2, fba0, fba1, fba2⟩ := ba.c3
  have lba := ba.lt
  obtain ⟨cbb0, cbb1, cbb2, fbb0, fbb1, fbb2⟩ := bb.c3
  have lbb := bb.lt
  go_wp2_with fail
  refine (C2 _).mono ?_
  rintro e w2 ⟨rfl, hb2⟩
  clear cba0 cba1 cba2 fba0 fba1 fba2 lba cbb0 cbb1 cbb2 fbb0 fbb1 fbb2 lbb
  have hW2 := chain hW1 hb2
  replace ba := ba.later hb2
  replace bb := bb.later hb2
  obtain ⟨cba0, cba1, cba2, fba0, fba1, fba2⟩ := ba.c3
  have lba := ba.lt
  obtain ⟨cbb0, cbb1, cbb2, fbb0, fbb1, fbb2⟩ := bb.c3
  have lbb := bb.lt
  go_wp2_with fail
  refine (C3 _).mono ?_
  rintro e w3 ⟨rfl, hb3⟩
  clear cba0 cba1 cba2 fba0 fba1 fba2 lba cbb0 cbb1 cbb2 fbb0 fbb1 fbb2 lbb
  have hW3 := chain hW2 hb3
  replace ba := ba.later hb3
  replace bb := bb.later hb3
  obtain ⟨cba0, cba1, cba2, fba0, fba1, fba2⟩ := ba.c3
  have lba := ba.lt
  obtain ⟨cbb0, cbb1, cbb2, fbb0, fbb1, fbb2⟩ := bb.c3
  have lbb := bb.lt
  go_wp2_with fail
  refine (begun_any _).mono ?_
  rintro e w4 ⟨rfl, hb4⟩
  clear cba0 cba1 cba2 fba0 fba1 fba2 lba cbb0 cbb1 cbb2 fbb0 fbb1 fbb2 lbb
  have hW4 := chain hW3 hb4
  replace ba := ba.later hb4
  replace bb := bb.later hb4
  obtain ⟨cba0, cba1, cba2, fba0, fba1, fba2⟩ := ba.c3
  have lba := ba.lt
  obtain ⟨cbb0, cbb1, cbb2, fbb0, fbb1, fbb2⟩ := bb.c3
  have lbb := bb.lt
  rcases HF1.out with ⟨e0, g0, hne, ⟨rfl, rfl⟩, ⟨rfl, rfl⟩, rfl, rfl⟩ | ⟨⟨rfl, rfl⟩, ⟨rfl, rfl⟩, ⟨rfl, rfl⟩, hn⟩ | ⟨⟨ha, hb⟩, hc⟩
  · have he := bne_iff_ne.2 hne
    clear hne HF1
    go_wp2_with fail
    go_ret
    exact ⟨by first | rfl | simp, hW4⟩
  · clear HF1
    have hn' : (a.1 == 0) = true ∨ ((a.1 == 0) = false ∧ (b.1 == 0) = true) := by
      by_cases h : a.1 = 0
      · exact .inl (by rw [beq_iff_eq]; exact h)
      · exact .inr ⟨by rw [beq_eq_false_iff_ne]; exact h, by rw [beq_iff_eq]; exact hn.resolve_left h⟩
    clear hn
    rcases hn' with hn | ⟨hn, hm⟩
    · go_wp2_with fail
      go_ret
      exact ⟨by first | rfl | simp, hW4⟩
    · go_wp2_with fail
      go_ret
      exact ⟨by first | rfl | simp, hW4⟩
  · clear HF1
    have ha' : (a.1 == 0) = false := by rw [beq_eq_false_iff_ne]; exact ha
    have hb' : (b.1 == 0) = false := by rw [beq_eq_false_iff_ne]; exact hb
    clear ha hb
    rcases hc with ⟨⟨rfl, rfl⟩, ⟨rfl, rfl⟩, rfl, rfl⟩ | ⟨⟨rfl, rfl⟩, ⟨rfl, rfl⟩, rfl, rfl⟩ | ⟨⟨rfl, rfl⟩, ⟨rfl, rfl⟩, rfl, rfl⟩
    all_goals
      go_wp2_with fail
      go_ret
      exact ⟨by first | rfl | simp, hW4⟩

/-! ### the row's step, by program -/
set_option maxRecDepth 100000 in
theorem lifted (os : Os) (started : os.Started) (H : Type) (enc : TypeId × Value → H) :
    ReturnsInHanded {} Try.checked os 6 .any (Rows.asksOneSpec.pre6 enc Try.prog Try.f6 Rows.asksOneRow.domain false) (Rows.asksOneSpec.post enc Try.prog Try.f6 false true false false) := by
  refine returnsInHanded_of_change_sized (C := Try.checked) own started (by kernel_rfl) Try.func6
    (ChangeSpec.witness6 (enc := enc) (C := Try.checked) false ⟨#[], #[.agg #[.int .i64 0, .int .i64 0, .string ByteArray.empty], .agg #[.int .i64 0, .int .i64 0, .string ByteArray.empty]], []⟩ 8 (by kernel_rfl) (by kernel_rfl) (by kernel_rfl) (by kernel_rfl)) ?_
  intro W base args ds gs before hval0 hW hcnd hsz0 _
  have hval : ∀ (j : Nat) t v, Try.f6.params[j]? = some t → args[j]? = some v → Value.okWide Try.prog W .any base t v := hval0
  have hsz : (DataW.weightsEach Try.prog (Try.f6.params.toList ++ Rows.asksOneSpec.plain.varTypes Try.prog) (ds ++ gs)).all (· ≤ reachBytes) = true := hsz0
  have hW' := hW
  obtain ⟨p, q, hA0, hV, rfl, hfz, hnd⟩ := hW
  have hA : DataW.TrodAll enc Try.prog W 0 (fun _ => true) true Try.f6.params.toList args.toList ds p := hA0
  rw [Try.params6] at hA hval hsz
  obtain ⟨v0, vs0, d0, ds0, p0, q0, hargs, rfl, rfl, h0, r0⟩ := trodAll_cons hA
  obtain ⟨v1, vs1, d1, ds1, p1, q1, rfl, rfl, rfl, h1, r1⟩ := trodAll_cons r0
  obtain ⟨rfl, rfl, rfl⟩ := trodAll_nil r1
  obtain rfl : args = #[v0, v1] := by cases args; simp_all
  obtain ⟨rfl, rfl⟩ := trodVars_none hV
  obtain ⟨x0, R0, k0⟩ := open_param ValP.opens_val h0 hsz (j := 0) (t := 27) rfl rfl
  have D0 := ValP.valR_is (agg_cells Try.underlying27 (hval 0 27 v0 rfl rfl) rfl) R0
  obtain ⟨x1, R1, k1⟩ := open_param ValP.opens_val h1 hsz (j := 1) (t := 27) rfl rfl
  have D1 := ValP.valR_is (agg_cells Try.underlying27 (hval 1 27 v1 rfl rfl) rfl) R1
  clear hA0 hval0
  refine (walk x0 k0 v0 x1 k1 v1 W D0 D1).mono fun e W' ⟨he, bel⟩ => ?_
  subst he
  exact ⟨_, rfl, post_true laidOut (by kernel_rfl) Try.underlying4 (by kernel_rfl) rfl hW' rfl bel⟩

theorem proved : Rows.AsksOneSaid :=
  OpenClaim.holds_of_wide 6 Try.f6 rfl rfl rfl rfl rfl rfl rfl ⟨rfl, rfl, rfl, rfl, rfl⟩ rfl rfl rfl rfl rfl (by kernel_rfl) Try.func6 (by kernel_rfl)
    (of_decide_eq_true (by kernel_rfl)) (by unfold Func.isWrapper; first | (rw [if_pos (by decide +kernel)]; kernel_rfl) | (rw [if_neg (by decide +kernel)]; exact ⟨rfl, rfl⟩))
    (fun os started H enc _ => lifted os started H enc)

end Go.Proofs.Ytplgobljgmlpkaa.asksOne

