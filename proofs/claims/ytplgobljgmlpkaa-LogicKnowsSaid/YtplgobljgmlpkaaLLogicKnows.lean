/- LogicKnows: what is told to be True or False stays so, whatever an Unknown turns out to be. Conditions: none beyond the statement's own. -/
import Derived.Test.YtplgobljgmlpkaaOpen
import Derived.Test.YtplgobljgmlpkaaLogicBegun
namespace Go.Proofs.Ytplgobljgmlpkaa.logicKnows
open Go.ChangeShapes Go.WideShapes Go.ChangeAt Go.RowKit
open Go.ChangeMaps (open_string shut_string)
set_option linter.unusedVariables false

open K LogicP

theorem all_zero (l : List Int) : ∀ y : Int, y = 0 ∨ y = 1 ∨ y = 2 → (l.foldl land y = 0 ↔ y = 0 ∨ ∃ x ∈ l, plain x = 0) := by
  induction l with
  | nil => intro y _; simp
  | cons z l ih =>
    intro y hy
    rw [List.foldl_cons, ih _ (land_cases y z)]
    have : land y z = 0 ↔ y = 0 ∨ plain z = 0 := by
      rcases hy with rfl | rfl | rfl <;> (unfold land; rcases plain_cases z with k | k | k <;> rw [k] <;> decide)
    rw [this]
    simp [or_assoc]
theorem all_two (l : List Int) : ∀ y : Int, y = 0 ∨ y = 1 ∨ y = 2 → (l.foldl land y = 2 ↔ y = 2 ∧ ∀ x ∈ l, plain x = 2) := by
  induction l with
  | nil => intro y _; simp
  | cons z l ih =>
    intro y hy
    rw [List.foldl_cons, ih _ (land_cases y z)]
    have : land y z = 2 ↔ y = 2 ∧ plain z = 2 := by
      rcases hy with rfl | rfl | rfl <;> (unfold land; rcases plain_cases z with k | k | k <;> rw [k] <;> decide)
    rw [this]
    simp [and_assoc]
theorem any_two (l : List Int) : ∀ y : Int, y = 0 ∨ y = 1 ∨ y = 2 → (l.foldl lor y = 2 ↔ y = 2 ∨ ∃ x ∈ l, plain x = 2) := by
  induction l with
  | nil => intro y _; simp
  | cons z l ih =>
    intro y hy
    rw [List.foldl_cons, ih _ (lor_cases y z)]
    have : lor y z = 2 ↔ y = 2 ∨ plain z = 2 := by
      rcases hy with rfl | rfl | rfl <;> (unfold lor; rcases plain_cases z with k | k | k <;> rw [k] <;> decide)
    rw [this]
    simp [or_assoc]
theorem any_zero (l : List Int) : ∀ y : Int, y = 0 ∨ y = 1 ∨ y = 2 → (l.foldl lor y = 0 ↔ y = 0 ∧ ∀ x ∈ l, plain x = 0) := by
  induction l with
  | nil => intro y _; simp
  | cons z l ih =>
    intro y hy
    rw [List.foldl_cons, ih _ (lor_cases y z)]
    have : lor y z = 0 ↔ y = 0 ∧ plain z = 0 := by
      rcases hy with rfl | rfl | rfl <;> (unfold lor; rcases plain_cases z with k | k | k <;> rw [k] <;> decide)
    rw [this]
    simp [and_assoc]
theorem fold_cases (f : Int → Int → Int) (hf : ∀ a b, f a b = 0 ∨ f a b = 1 ∨ f a b = 2) (l : List Int) : ∀ y : Int, y = 0 ∨ y = 1 ∨ y = 2 → (l.foldl f y = 0 ∨ l.foldl f y = 1 ∨ l.foldl f y = 2) := by
  induction l with
  | nil => intro y h; exact h
  | cons z l ih => intro y h; exact ih _ (hf y z)
theorem set_other (l : List Int) (k : Nat) (t : Int) (c : Int) (hk : l[k]? = some 1) (hc : plain 1 ≠ c) (h : ∃ x ∈ l, plain x = c) : ∃ x ∈ l.set k t, plain x = c := by
  obtain ⟨x, hx, hp⟩ := h
  obtain ⟨i, hi⟩ := List.getElem?_of_mem hx
  have hne : k ≠ i := by
    rintro rfl
    rw [hk] at hi
    obtain rfl := Option.some.inj hi
    exact hc hp
  exact ⟨x, List.mem_of_getElem? (i := i) (by rw [List.getElem?_set_ne hne]; exact hi), hp⟩
theorem all_knows (l : List Int) (k : Nat) (t : Int) (hk : l[k]? = some 1) (h : lall l ≠ 1) : lall (l.set k t) = lall l := by
  have h1 := all_two l 2 (by simp)
  have h0 := all_zero l 2 (by simp)
  have hn2 : lall l ≠ 2 := fun e => by have := (h1.1 e).2 1 (List.mem_of_getElem? hk); exact absurd this (by decide)
  have h00 : lall l = 0 := by have := fold_cases land land_cases l 2 (by simp); unfold lall at h hn2 ⊢; omega
  rw [h00]
  refine (all_zero (l.set k t) 2 (by simp)).2 (.inr (set_other l k t 0 hk (by decide) ?_))
  rcases h0.1 h00 with h | h
  · exact absurd h (by decide)
  · exact h
theorem any_knows (l : List Int) (k : Nat) (t : Int) (hk : l[k]? = some 1) (h : lany l ≠ 1) : lany (l.set k t) = lany l := by
  have h1 := any_zero l 0 (by simp)
  have h0 := any_two l 0 (by simp)
  have hn2 : lany l ≠ 0 := fun e => by have := (h1.1 e).2 1 (List.mem_of_getElem? hk); exact absurd this (by decide)
  have h00 : lany l = 2 := by have := fold_cases lor lor_cases l 0 (by simp); unfold lany at h hn2 ⊢; omega
  rw [h00]
  refine (any_two (l.set k t) 0 (by simp)).2 (.inr (set_other l k t 2 hk (by decide) ?_))
  rcases h0.1 h00 with h | h
  · exact absurd h (by decide)
  · exact h

theorem elInts : El Try.prog 42 3 (.int .i64 0) 1 8 := El.mk Try.underlying42 (by kernel_rfl) rfl (by decide) (by decide)

set_option maxRecDepth 100000 in
set_option maxHeartbeats 2000000 in
theorem walk (l : List Int) (_hl : ∀ x ∈ l, -9223372036854775808 ≤ x ∧ x ≤ 9223372036854775807) (v : Value) (k : Int) (_k0 : -9223372036854775808 ≤ k) (_k1 : k ≤ 9223372036854775807) (t : Int) (_t0 : -9223372036854775808 ≤ t) (_t1 : t ≤ 9223372036854775807) (w : World)
    (hs : Seen w v l.length 1 (l.map (Value.int .i64))) (hz : l.length * 8 ≤ 140737488351232) :
    Calls Try.prog 8 #[v, .int .i64 k, .int .i64 t] w fun e w' => e = .returned (.bool true) ∧ Below w.heap.size w w' := by
  have HS := Lib.hid hs
  obtain ⟨_, ad, cap, rfl, _, hcm, _, hcells⟩ := id hs
  unfold maxLen at hcm
  clear hs
  by_cases hk0 : k < 0
  · go_enter Try.func8, Try.ntmps8
    go_wp2_with (go_at_call 13; refine (begun_any _).mono ?_; rintro e w1 ⟨rfl, hb1⟩)
    go_ret
    exact ⟨rfl, hb1⟩
  · obtain ⟨n, rfl⟩ := Int.eq_ofNat_of_zero_le (by omega : 0 ≤ k)
    by_cases hn : l.length ≤ n
    · go_enter Try.func8, Try.ntmps8
      go_wp2_with (go_at_call 13; refine (begun_any _).mono ?_; rintro e w1 ⟨rfl, hb1⟩)
      go_ret
      exact ⟨rfl, hb1⟩
    · have hn : n < l.length := by omega
      obtain ⟨b, off, rfl, hb, _⟩ := hcells.resolve_left (by omega)
      have hi0 : (0 : Int) ≤ (n : Int) := by omega
      have hi1 : (n : Int) < (l.length : Int) := by omega
      have hget : ∀ w1, Below w.heap.size w w1 → w1.cell? ⟨b, off + n, none⟩ = some (.int .i64 l[n]) := fun w1 hb1 => by
        obtain ⟨_, av, capv, e1, _, _, _, hcs⟩ := HS.out.later hb1 (Nat.le_refl _)
        simp only [Value.slice.injEq, true_and] at e1
        obtain ⟨rfl, rfl⟩ := e1
        obtain ⟨b', off', e', hb', cl⟩ := hcs.resolve_left (by omega)
        simp only [Option.some.injEq, Addr.mk.injEq, and_true] at e'
        obtain ⟨rfl, rfl⟩ := e'
        exact cl n _ (by simp [hn])
      have HG := Lib.hid hget
      clear hget
      cases hx : (l[n] != 1)
      · have hl1 : l[n]? = some 1 := by rw [List.getElem?_eq_getElem hn]; simpa using hx
        have HA := Lib.hid (all_knows l n t hl1)
        have HY := Lib.hid (any_knows l n t hl1)
        have hlen : Hid ((l.set n t).length = l.length) := List.length_set ..
        have hset : Hid ((l.set n t).map (Value.int .i64) = (l.map (Value.int .i64)).set n (.int .i64 t)) := List.map_set ..
        have hone : Hid (∀ x ∈ l.map (Value.int .i64), x.oneCell' = true) := fun x hx => by
          obtain ⟨y, _, rfl⟩ := List.mem_map.1 hx
          rfl
        have HX := Lib.hid hx
        clear hl1
        go_enter Try.func8, Try.ntmps8
        go_wp2_with fail
        refine (begun_any _).mono ?_
        rintro e w1 ⟨rfl, hb1⟩
        have c0 := HG.out w1 hb1
        go_wp2_with (at_builtin; refine spread elInts (.tmp 27) (.tmp 28) rfl rfl _ 0 [] rfl (own_built (w := w1) (B := w1.heap.size) [] 0 1 (Nat.le_refl _) (by decide) rfl) (alloc_below _ _) (Nat.le_refl _) (by simp) _ l.length (l.map (Value.int .i64)) rfl (HS.out.later (chain hb1 (alloc_below _ _)) (Nat.le_refl _)) hone.out (by omega) ?_)
        intro v1 w2 hown hb2 hg1
        have hown : w2.ownsRow w1.heap.size 3 1 v1 l.length (l.map (Value.int .i64)) := by simpa using hown
        obtain ⟨g, cap2, rfl, hg, hcap, hrow⟩ := RowIs.of_own hown (by omega)
        have cE := hrow.cell (j := n) (by simpa using hn)
        have fE := hrow.free n
        have hR2 := Lib.hid (hrow.set n (.int .i64 t))
        have hcap2 : cap2 ≤ 9223372036854775807 := by
          obtain ⟨_, _, _, e, _, h3, _⟩ := Seen.of_own hown
          simp only [Value.slice.injEq] at e
          rw [← e.2.2] at h3
          exact h3
        have hw2 := chain hb1 hb2
        have hge : w.heap.size ≤ g := Nat.le_trans hb1.size hg
        clear hown hg1 hrow
        go_wp2_with fail
        have hw3 := hw2.setCell (p := ⟨g, n, none⟩) hge (.int .i64 t)
        have S1 := Lib.hid (HS.out.later hw3 (Nat.le_refl _))
        have S2 : Hid (Seen (w2.setCell ⟨g, n, none⟩ (.int .i64 t)) (.slice (some ⟨g, 0, none⟩) l.length cap2) (l.set n t).length 1 ((l.set n t).map (Value.int .i64))) := by
          show Seen _ _ _ _ _
          have := Seen.of_row hR2.out l.length cap2 (by simp) hcap (by unfold maxLen; omega)
          rw [hlen.out, hset.out]
          rwa [List.take_of_length_le (by simp)] at this
        cases ha : (lall l == 1) <;> cases hy : (lany l == 1)
        all_goals
          first | (have ka := Lib.hid (HA.out (by simpa using ha))) | (have ka : Hid True := trivial)
          first | (have ky := Lib.hid (HY.out (by simpa using hy))) | (have ky : Hid True := trivial)
          go_wp2_with (first
            | (go_at_call 27; (with_reducible refine (all_any l _ _ S1.out).mono ?_); rintro e w' ⟨rfl, rfl⟩)
            | (go_at_call 29; (with_reducible refine (any_any l _ _ S1.out).mono ?_); rintro e w' ⟨rfl, rfl⟩)
            | (go_at_call 27; (with_reducible refine (all_any (l.set n t) _ _ S2.out).mono ?_); rintro e w' ⟨rfl, rfl⟩; rw [ka.out])
            | (go_at_call 29; (with_reducible refine (any_any (l.set n t) _ _ S2.out).mono ?_); rintro e w' ⟨rfl, rfl⟩; rw [ky.out]))
          go_ret
          exact ⟨by first | rfl | simp, hw3⟩
      · go_enter Try.func8, Try.ntmps8
        go_wp2_with fail
        refine (begun_any _).mono ?_
        rintro e w1 ⟨rfl, hb1⟩
        have c0 := HG.out w1 hb1
        go_wp2_with fail
        go_ret
        exact ⟨rfl, hb1⟩

/-! ### the row's step, by program -/
set_option maxRecDepth 100000 in
theorem lifted (os : Os) (started : os.Started) (H : Type) (enc : TypeId × Value → H) :
    ReturnsInHanded {} Try.checked os 8 .any (Rows.logicKnowsSpec.pre6 enc Try.prog Try.f8 Rows.logicKnowsRow.domain false) (Rows.logicKnowsSpec.post enc Try.prog Try.f8 false true false false) := by
  refine returnsInHanded_of_change_sized (C := Try.checked) own started (by kernel_rfl) Try.func8
    (ChangeSpec.witness6 (enc := enc) (C := Try.checked) false ⟨#[], #[.slice none 0 0, .int .i64 0, .int .i64 0], []⟩ 8 (by kernel_rfl) (by kernel_rfl) (by kernel_rfl) (by kernel_rfl)) ?_
  intro W base args ds gs before hval0 hW hcnd hsz0 _
  have hval : ∀ (j : Nat) t v, Try.f8.params[j]? = some t → args[j]? = some v → Value.okWide Try.prog W .any base t v := hval0
  have hsz : (DataW.weightsEach Try.prog (Try.f8.params.toList ++ Rows.logicKnowsSpec.plain.varTypes Try.prog) (ds ++ gs)).all (· ≤ reachBytes) = true := hsz0
  have hW' := hW
  obtain ⟨p, q, hA0, hV, rfl, hfz, hnd⟩ := hW
  have hA : DataW.TrodAll enc Try.prog W 0 (fun _ => true) true Try.f8.params.toList args.toList ds p := hA0
  rw [Try.params8] at hA hval hsz
  obtain ⟨v0, vs0, d0, ds0, p0, q0, hargs, rfl, rfl, h0, r0⟩ := trodAll_cons hA
  obtain ⟨v1, vs1, d1, ds1, p1, q1, rfl, rfl, rfl, h1, r1⟩ := trodAll_cons r0
  obtain ⟨v2, vs2, d2, ds2, p2, q2, rfl, rfl, rfl, h2, r2⟩ := trodAll_cons r1
  obtain ⟨rfl, rfl, rfl⟩ := trodAll_nil r2
  obtain rfl : args = #[v0, v1, v2] := by cases args; simp_all
  obtain ⟨rfl, rfl⟩ := trodVars_none hV
  obtain ⟨l0, wf0, s0, dd0⟩ := open_nums Try.underlying42 Try.underlying3 (by kernel_rfl) (hval 0 42 v0 rfl rfl) h0
  have w0 : ∀ x ∈ l0, -9223372036854775808 ≤ x ∧ x ≤ 9223372036854775807 := fun x hx => by simpa [Lit.wf, IntKind.min, IntKind.max, IntKind.signed, IntKind.bits] using wf0 x hx
  have z0 : l0.length * 8 ≤ 140737488351232 := by
    have := sized_nums dd0 hsz (j := 0) (t := 42) rfl rfl Try.underlying42
    rwa [show Try.prog.bytesOf 3 = 8 by kernel_rfl] at this
  obtain ⟨a1, rfl, rfl, rfl, wf1⟩ := open_int Try.underlying3 (hval 1 3 v1 rfl rfl) h1
  have w1 : -9223372036854775808 ≤ a1 ∧ a1 ≤ 9223372036854775807 := by simpa [Lit.wf, IntKind.min, IntKind.max, IntKind.signed, IntKind.bits] using wf1
  obtain ⟨a2, rfl, rfl, rfl, wf2⟩ := open_int Try.underlying3 (hval 2 3 v2 rfl rfl) h2
  have w2 : -9223372036854775808 ≤ a2 ∧ a2 ≤ 9223372036854775807 := by simpa [Lit.wf, IntKind.min, IntKind.max, IntKind.signed, IntKind.bits] using wf2
  clear hA0 hval0
  refine (walk l0 w0 v0 a1 w1.1 w1.2 a2 w2.1 w2.2 W s0 z0).mono fun e W' ⟨he, bel⟩ => ?_
  subst he
  exact ⟨_, rfl, post_true laidOut (by kernel_rfl) Try.underlying4 (by kernel_rfl) rfl hW' rfl bel⟩

theorem proved : Rows.LogicKnowsSaid :=
  OpenClaim.holds_of_wide 8 Try.f8 rfl rfl rfl rfl rfl rfl rfl ⟨rfl, rfl, rfl, rfl, rfl⟩ rfl rfl rfl rfl rfl (by kernel_rfl) Try.func8 (by kernel_rfl)
    (of_decide_eq_true (by kernel_rfl)) (by unfold Func.isWrapper; first | (rw [if_pos (by decide +kernel)]; kernel_rfl) | (rw [if_neg (by decide +kernel)]; exact ⟨rfl, rfl⟩))
    (fun os started H enc _ => lifted os started H enc)

end Go.Proofs.Ytplgobljgmlpkaa.logicKnows

