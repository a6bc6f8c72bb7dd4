/- TotalParts: a sum of two parts, where both hold, is what Add tells of them. Conditions: none beyond the statement's own. -/
import Derived.Test.YtejieckalcledaaOpen
import Derived.Test.YtejieckalcledaaWholeBegun
namespace Go.Proofs.Ytejieckalcledaa.totalParts
open Go.ChangeShapes Go.WideShapes Go.ChangeAt Go.RowKit
open Go.ChangeMaps (open_string shut_string)
set_option linter.unusedVariables false

open K WholeP

set_option maxRecDepth 100000 in
theorem walk (l : List Int) (hl : ∀ x ∈ l, -9223372036854775808 ≤ x ∧ x ≤ 9223372036854775807) (v : Value) (k : Int) (k0 : -9223372036854775808 ≤ k) (k1 : k ≤ 9223372036854775807) (w : World) (hs : Seen w v l.length 1 (l.map (Value.int .i64))) :
    Calls Try.prog 10 #[v, .int .i64 k] w fun e w' => e = .returned (.bool true) ∧ Below w.heap.size w w' := by
  have hT := fun w hs => total_any l hl v w hs
  obtain ⟨_, a, cap, rfl, hc, hm, hcells⟩ := id hs
  unfold maxLen at hm
  by_cases hk : 0 ≤ k ∧ k ≤ l.length
  · obtain ⟨hk0, hk1⟩ := hk
    obtain ⟨k, rfl⟩ := Int.eq_ofNat_of_zero_le hk0
    have hkl : k ≤ l.length := by omega
    have d1 : decide ((k : Int) < 0) = false := decide_eq_false (by omega)
    have d2 : decide (l.length < k) = false := decide_eq_false (by omega)
    by_cases h40 : l.length > 40
    · rw [show total l = (0, 2) from if_pos h40] at hT
      go_enter Try.func10, Try.ntmps10
      go_wp2_with (first
        | (go_at_call 15; refine (begun_any _).mono ?_; rintro e w1 ⟨rfl, hb1⟩)
        | (go_at_call 18; (with_reducible refine (hT _ hs).mono ?_); rintro e w2 ⟨rfl, hb2⟩))
      go_ret
      exact ⟨rfl, chain hb2 hb1⟩
    · have hl1 : ∀ x ∈ l.take k, In64 x := fun x hx => hl x (List.mem_of_mem_take hx)
      have hl2 : ∀ x ∈ l.drop k, In64 x := fun x hx => hl x (List.mem_of_mem_drop hx)
      have z1 : (l.take k).length = k := by rw [List.length_take]; omega
      have z2 : (l.drop k).length = l.length - k := List.length_drop ..
      have hst : Seen w (.slice a k cap) (l.take k).length 1 ((l.take k).map (Value.int .i64)) := by
        rw [z1]; simpa [List.map_take] using hs.take hkl
      have hT1 := fun w hs => total_any (l.take k) hl1 (.slice a k cap) w hs
      have hT2 := fun v w hs => total_any (l.drop k) hl2 v w hs
      rw [show total (l.take k) = fit (l.take k).sum from if_neg (by omega)] at hT1
      rw [show total (l.drop k) = fit (l.drop k).sum from if_neg (by omega)] at hT2
      rw [show total l = fit l.sum from if_neg h40] at hT
      have hsum : (l.take k).sum + (l.drop k).sum = l.sum := by rw [← List.sum_append, List.take_append_drop]
      have hA := add_any (fit (l.take k).sum).1 (fit (l.drop k).sum).1 (fit_in _) (fit_in _)
      have hfin : (fit (l.take k).sum).2 = 0 → (fit (l.drop k).sum).2 = 0 → fit ((fit (l.take k).sum).1 + (fit (l.drop k).sum).1) = fit l.sum := fun h1 h2 => by
        rw [(fit_ok h1).1, (fit_ok h2).1]; exact congrArg fit hsum
      have he : ((fit l.sum).2 == 2) = false := by rcases fit_err l.sum with h | h <;> rw [h] <;> rfl
      have hi := fit_err (l.take k).sum
      have hj := fit_err (l.drop k).sum
      generalize fit ((fit (l.take k).sum).1 + (fit (l.drop k).sum).1) = N at *
      generalize fit (l.take k).sum = X at *
      generalize fit (l.drop k).sum = Y at *
      generalize fit l.sum = T at *
      obtain ⟨n, o⟩ := N
      obtain ⟨x, i⟩ := X
      obtain ⟨y, j⟩ := Y
      obtain ⟨t, e⟩ := T
      have hcases : i = 8 ∨ (i = 0 ∧ (j = 8 ∨ j = 0)) := by simp only at hi hj; omega
      clear hi hj hsum
      simp only at hfin he
      by_cases hpos : l.length = 0
      · obtain rfl : l = [] := List.eq_nil_of_length_eq_zero hpos
        obtain rfl : k = 0 := by simpa using hkl
        have hsd : ∀ a cap, cap ≤ maxLen → Seen w (.slice a 0 cap) (([] : List Int).drop 0).length 1 ((([] : List Int).drop 0).map (Value.int .i64)) := fun a cap hcap => ⟨rfl, a, cap, rfl, Nat.zero_le _, hcap, .inl rfl⟩
        simp only [List.length_nil, List.map_nil] at hs
        cases a
        all_goals
          simp only [List.length_nil] at hT hs ⊢
          rcases hcases with rfl | ⟨rfl, rfl | rfl⟩
          all_goals
            try (have hf := hfin rfl rfl; simp only [Prod.mk.injEq] at hf; obtain ⟨rfl, rfl⟩ := hf)
            go_enter Try.func10, Try.ntmps10
            go_wp2_with (first
              | (go_at_call 15; refine (begun_any _).mono ?_; rintro e w1 ⟨rfl, hb1⟩)
              | (go_at_call 18; (with_reducible refine (hT _ hs).mono ?_); rintro e w2 ⟨rfl, hb2⟩)
              | (go_at_call 18; (with_reducible refine (hT1 _ (hst.later (chain hb2 hb1) (Nat.le_refl _))).mono ?_); rintro e w3 ⟨rfl, hb3⟩)
              | (go_at_call 18; (with_reducible refine (hT2 _ _ ((hsd _ _ (by unfold maxLen; omega)).later (chain hb2 (chain hb1 hb3)) (Nat.le_refl _))).mono ?_); rintro e w4 ⟨rfl, hb4⟩)
              | (go_at_call 20; (with_reducible refine (hA _).mono ?_); rintro e w' ⟨rfl, rfl⟩))
            go_ret
            exact ⟨rfl, chain hb2 (chain hb1 (chain hb3 hb4))⟩
      · obtain ⟨b, off, rfl, hb, hcl⟩ := hcells.resolve_left hpos
        by_cases hck : cap = k
        · obtain rfl : k = l.length := by omega
          subst hck
          have hsd : Seen w (.slice (some ⟨b, off, none⟩) 0 0) (l.drop l.length).length 1 ((l.drop l.length).map (Value.int .i64)) := by
            simp only [List.drop_length]
            exact ⟨rfl, _, 0, rfl, Nat.le_refl _, Nat.zero_le _, .inl rfl⟩
          rcases hcases with rfl | ⟨rfl, rfl | rfl⟩
          all_goals
            try (have hf := hfin rfl rfl; simp only [Prod.mk.injEq] at hf; obtain ⟨rfl, rfl⟩ := hf)
            go_enter Try.func10, Try.ntmps10
            go_wp2_with (first
              | (go_at_call 15; refine (begun_any _).mono ?_; rintro e w1 ⟨rfl, hb1⟩)
              | (go_at_call 18; (with_reducible refine (hT _ hs).mono ?_); rintro e w2 ⟨rfl, hb2⟩)
              | (go_at_call 18; (with_reducible refine (hT1 _ (hst.later (chain hb2 hb1) (Nat.le_refl _))).mono ?_); rintro e w3 ⟨rfl, hb3⟩)
              | (go_at_call 18; (with_reducible refine (hT2 _ _ (hsd.later (chain hb2 (chain hb1 hb3)) (Nat.le_refl _))).mono ?_); rintro e w4 ⟨rfl, hb4⟩)
              | (go_at_call 20; (with_reducible refine (hA _).mono ?_); rintro e w' ⟨rfl, rfl⟩))
            go_ret
            exact ⟨rfl, chain hb2 (chain hb1 (chain hb3 hb4))⟩
        · have hck' : ¬ cap - k = 0 := by omega
          have hck2 : ¬ k = cap := fun h => hck h.symm
          have hck3 : ¬ cap ≤ k := by omega
          have hsd : Seen w (.slice (some ⟨b, off + k, none⟩) (l.length - k) (cap - k)) (l.drop k).length 1 ((l.drop k).map (Value.int .i64)) := by
            rw [z2]; simpa [List.map_drop] using hs.drop hkl (by omega)
          rcases hcases with rfl | ⟨rfl, rfl | rfl⟩
          all_goals
            try (have hf := hfin rfl rfl; simp only [Prod.mk.injEq] at hf; obtain ⟨rfl, rfl⟩ := hf)
            go_enter Try.func10, Try.ntmps10
            go_wp2_with (first
              | (go_at_call 15; refine (begun_any _).mono ?_; rintro e w1 ⟨rfl, hb1⟩)
              | (go_at_call 18; (with_reducible refine (hT _ hs).mono ?_); rintro e w2 ⟨rfl, hb2⟩)
              | (go_at_call 18; (with_reducible refine (hT1 _ (hst.later (chain hb2 hb1) (Nat.le_refl _))).mono ?_); rintro e w3 ⟨rfl, hb3⟩)
              | (go_at_call 18; (with_reducible refine (hT2 _ _ (hsd.later (chain hb2 (chain hb1 hb3)) (Nat.le_refl _))).mono ?_); rintro e w4 ⟨rfl, hb4⟩)
              | (go_at_call 20; (with_reducible refine (hA _).mono ?_); rintro e w' ⟨rfl, rfl⟩))
            go_ret
            exact ⟨rfl, chain hb2 (chain hb1 (chain hb3 hb4))⟩
  · have hk' : decide (k < 0) = true ∨ (decide (k < 0) = false ∧ decide ((l.length : Int) < k) = true) := by simp; omega
    rcases hk' with d1 | ⟨d1, d2⟩
    all_goals
      go_enter Try.func10, Try.ntmps10
      go_wp2_with (first
        | (go_at_call 15; refine (begun_any _).mono ?_; rintro e w1 ⟨rfl, hb1⟩)
        | (go_at_call 18; (with_reducible refine (hT _ hs).mono ?_); rintro e w2 ⟨rfl, hb2⟩))
      go_ret
      exact ⟨rfl, chain hb2 hb1⟩

/-! ### the row's step, by program -/
set_option maxRecDepth 100000 in
theorem lifted (os : Os) (started : os.Started) (H : Type) (enc : TypeId × Value → H) :
    ReturnsInHanded {} Try.checked os 10 .any (Rows.totalPartsSpec.pre6 enc Try.prog Try.f10 Rows.totalPartsRow.domain false) (Rows.totalPartsSpec.post enc Try.prog Try.f10 false true false false) := by
  refine returnsInHanded_of_change_sized (C := Try.checked) own started (by kernel_rfl) Try.func10
    (ChangeSpec.witness6 (enc := enc) (C := Try.checked) false ⟨#[], #[.slice none 0 0, .int .i64 0], []⟩ 8 (by kernel_rfl) (by kernel_rfl) (by kernel_rfl) (by kernel_rfl)) ?_
  intro W base args ds gs before hval0 hW hcnd hsz0 _
  have hval : ∀ (j : Nat) t v, Try.f10.params[j]? = some t → args[j]? = some v → Value.okWide Try.prog W .any base t v := hval0
  have hsz : (DataW.weightsEach Try.prog (Try.f10.params.toList ++ Rows.totalPartsSpec.plain.varTypes Try.prog) (ds ++ gs)).all (· ≤ reachBytes) = true := hsz0
  have hW' := hW
  obtain ⟨p, q, hA0, hV, rfl, hfz, hnd⟩ := hW
  have hA : DataW.TrodAll enc Try.prog W 0 (fun _ => true) true Try.f10.params.toList args.toList ds p := hA0
  rw [Try.params10] at hA hval hsz
  obtain ⟨v0, vs0, d0, ds0, p0, q0, hargs, rfl, rfl, h0, r0⟩ := trodAll_cons hA
  obtain ⟨v1, vs1, d1, ds1, p1, q1, rfl, rfl, rfl, h1, r1⟩ := trodAll_cons r0
  obtain ⟨rfl, rfl, rfl⟩ := trodAll_nil r1
  obtain rfl : args = #[v0, v1] := by cases args; simp_all
  obtain ⟨rfl, rfl⟩ := trodVars_none hV
  obtain ⟨l0, wf0, s0⟩ := open_nums Try.underlying27 Try.underlying2 (by kernel_rfl) (hval 0 27 v0 rfl rfl) h0
  have w0 : ∀ x ∈ l0, -9223372036854775808 ≤ x ∧ x ≤ 9223372036854775807 := fun x hx => by simpa [Lit.wf, IntKind.min, IntKind.max, IntKind.signed, IntKind.bits] using wf0 x hx
  obtain ⟨a1, rfl, rfl, rfl, wf1⟩ := open_int Try.underlying3 (hval 1 3 v1 rfl rfl) h1
  have w1 : -9223372036854775808 ≤ a1 ∧ a1 ≤ 9223372036854775807 := by simpa [Lit.wf, IntKind.min, IntKind.max, IntKind.signed, IntKind.bits] using wf1
  clear hA0 hval0
  refine (walk l0 w0 v0 a1 w1.1 w1.2 W s0).mono fun e W' ⟨he, bel⟩ => ?_
  subst he
  exact ⟨_, rfl, post_true laidOut (by kernel_rfl) Try.underlying4 (by kernel_rfl) rfl hW' rfl bel⟩

theorem proved : Rows.TotalPartsSaid :=
  OpenClaim.holds_of_wide 10 Try.f10 rfl rfl rfl rfl rfl rfl rfl ⟨rfl, rfl, rfl, rfl, rfl⟩ rfl rfl rfl rfl rfl (by kernel_rfl) Try.func10 (by kernel_rfl)
    (of_decide_eq_true (by kernel_rfl)) (by unfold Func.isWrapper; first | (rw [if_pos (by decide +kernel)]; kernel_rfl) | (rw [if_neg (by decide +kernel)]; exact ⟨rfl, rfl⟩))
    (fun os started H enc _ => lifted os started H enc)

end Go.Proofs.Ytejieckalcledaa.totalParts

