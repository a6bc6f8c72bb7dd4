/- LogicLists: All of two lists is All of one and All of the other one, Any likewise; Not of All is Any of the Nots. Conditions: none beyond the statement's own. -/
import Derived.Test.YtplgobljgmlpkaaUpto
import Derived.Test.YtplgobljgmlpkaaLogicBegun
namespace Go.Proofs.Ytplgobljgmlpkaa.logicLists
open Go.ChangeShapes Go.WideShapes Go.ChangeAt Go.RowKit
open Go.ChangeMaps (open_string shut_string)
set_option linter.unusedVariables false

open K LogicP

theorem plain_min (a b : Int) : plain (min (plain a) (plain b)) = min (plain a) (plain b) := by
  rcases plain_cases a with h | h | h <;> rcases plain_cases b with k | k | k <;> rw [h, k] <;> decide
theorem plain_max (a b : Int) : plain (max (plain a) (plain b)) = max (plain a) (plain b) := by
  rcases plain_cases a with h | h | h <;> rcases plain_cases b with k | k | k <;> rw [h, k] <;> decide
theorem land_assoc (a b c : Int) : land (land a b) c = land a (land b c) := by
  unfold land; rcases plain_cases a with h | h | h <;> rcases plain_cases b with k | k | k <;> rcases plain_cases c with m | m | m <;> rw [h, k, m] <;> decide
theorem lor_assoc (a b c : Int) : lor (lor a b) c = lor a (lor b c) := by
  unfold lor; rcases plain_cases a with h | h | h <;> rcases plain_cases b with k | k | k <;> rcases plain_cases c with m | m | m <;> rw [h, k, m] <;> decide
theorem land_fold (l : List Int) (x : Int) : l.foldl land (land x 2) = land x (lall l) := by
  unfold lall
  suffices h : ∀ (y : Int), l.foldl land (land x y) = land x (l.foldl land y) from h 2
  induction l with
  | nil => intro y; rfl
  | cons z l ih => intro y; rw [List.foldl_cons, land_assoc, ih, List.foldl_cons]
theorem lor_fold (l : List Int) (x : Int) : l.foldl lor (lor x 0) = lor x (lany l) := by
  unfold lany
  suffices h : ∀ (y : Int), l.foldl lor (lor x y) = lor x (l.foldl lor y) from h 0
  induction l with
  | nil => intro y; rfl
  | cons z l ih => intro y; rw [List.foldl_cons, lor_assoc, ih, List.foldl_cons]
theorem lall_cases (l : List Int) : lall l = 0 ∨ lall l = 1 ∨ lall l = 2 := by
  unfold lall
  suffices h : ∀ y : Int, y = 0 ∨ y = 1 ∨ y = 2 → (l.foldl land y = 0 ∨ l.foldl land y = 1 ∨ l.foldl land y = 2) from h 2 (by simp)
  induction l with
  | nil => intro y h; exact h
  | cons z l ih => intro y h; exact ih _ (land_cases y z)
theorem lany_cases (l : List Int) : lany l = 0 ∨ lany l = 1 ∨ lany l = 2 := by
  unfold lany
  suffices h : ∀ y : Int, y = 0 ∨ y = 1 ∨ y = 2 → (l.foldl lor y = 0 ∨ l.foldl lor y = 1 ∨ l.foldl lor y = 2) from h 0 (by simp)
  induction l with
  | nil => intro y h; exact h
  | cons z l ih => intro y h; exact ih _ (lor_cases y z)
theorem lall_two (l m : List Int) : lall (l ++ m) = land (lall l) (lall m) := by
  have h := land_fold m (lall l)
  rw [← h, show land (lall l) 2 = lall l by rcases lall_cases l with h | h | h <;> rw [h] <;> rfl]
  unfold lall
  rw [List.foldl_append]
theorem lany_two (l m : List Int) : lany (l ++ m) = lor (lany l) (lany m) := by
  have h := lor_fold m (lany l)
  rw [← h, show lor (lany l) 0 = lany l by rcases lany_cases l with h | h | h <;> rw [h] <;> rfl]
  unfold lany
  rw [List.foldl_append]
theorem lnot_all (l : List Int) : lnot (lall l) = lany (l.map lnot) := by
  unfold lall lany
  suffices h : ∀ y : Int, y = 0 ∨ y = 1 ∨ y = 2 → lnot (l.foldl land y) = (l.map lnot).foldl lor (lnot y) from h 2 (by simp)
  induction l with
  | nil => intro y h; rfl
  | cons z l ih =>
    intro y h
    rw [List.foldl_cons, List.map_cons, List.foldl_cons, ih _ (land_cases y z)]
    congr 1
    rcases h with rfl | rfl | rfl <;> (unfold lnot land lor; rcases plain_cases z with k | k | k <;> rw [k] <;> decide)

theorem elInts : El Try.prog 42 3 (.int .i64 0) 1 8 := El.mk Try.underlying42 (by kernel_rfl) rfl (by decide) (by decide)

set_option maxRecDepth 100000 in
set_option maxHeartbeats 2000000 in
theorem walk (l : List Int) (_hl : ∀ x ∈ l, -9223372036854775808 ≤ x ∧ x ≤ 9223372036854775807) (v : Value) (m : List Int) (_hm : ∀ x ∈ m, -9223372036854775808 ≤ x ∧ x ≤ 9223372036854775807) (u : Value) (w : World)
    (hs : Seen w v l.length 1 (l.map (Value.int .i64))) (hz : l.length ≤ 1048576) (hs' : Seen w u m.length 1 (m.map (Value.int .i64))) (hz' : m.length ≤ 1048576) :
    Calls Try.prog 9 #[v, u] w fun e w' => e = .returned (.bool true) ∧ Below w.heap.size w w' := by
  have HS := Lib.hid hs
  have HS' := Lib.hid hs'
  obtain ⟨_, ad, cap, rfl, _, hcm, _, hcells⟩ := id hs
  obtain ⟨_, ad', cap', rfl, _, _, _, _⟩ := id hs'
  unfold maxLen at hcm
  clear hs hs' hcells
  have H1 := Lib.hid (lall_two l m)
  have H2 := Lib.hid (lany_two l m)
  have H3 := Lib.hid (lnot_all l)
  have hone : ∀ (k : List Int), ∀ x ∈ k.map (Value.int .i64), x.oneCell' = true := fun k x hx => by
    obtain ⟨y, _, rfl⟩ := List.mem_map.1 hx
    rfl
  have HONE := Lib.hid hone
  clear hone
  go_enter Try.func9, Try.ntmps9
  go_wp2_with (at_builtin; refine spread elInts (.tmp 8) (.tmp 9) rfl rfl _ 0 [] rfl (own_built (w := w) (B := w.heap.size) [] 0 1 (Nat.le_refl _) (by decide) rfl) (alloc_below _ _) (Nat.le_refl _) (by simp) _ l.length (l.map (Value.int .i64)) rfl (HS.out.later (alloc_below _ _) (Nat.le_refl _)) (HONE.out l) (by omega) ?_)
  intro v1 w1 hown1 hb1 hg1
  have hown1 : w1.ownsRow w.heap.size 3 1 v1 l.length (l.map (Value.int .i64)) := by simpa using hown1
  obtain ⟨a1, k1, rfl⟩ := own_slice hown1
  go_wp2_with (at_builtin; refine spread elInts (.tmp 10) (.tmp 11) rfl rfl _ l.length (l.map (Value.int .i64)) rfl hown1 hb1 (Nat.le_refl _) hb1.size _ m.length (m.map (Value.int .i64)) rfl (HS'.out.later hb1 (Nat.le_refl _)) (HONE.out m) (by omega) ?_)
  intro v2 w2 hown2 hb2 hg2
  obtain ⟨a2, k2, rfl⟩ := own_slice hown2
  have HB := Lib.hid (show Seen w2 (.slice a2 (l.length + m.length) k2) (l ++ m).length 1 ((l ++ m).map (Value.int .i64)) by
    rw [List.length_append, List.map_append]; exact Seen.of_own hown2)
  clear hown1 hown2 hg1 hg2
  go_wp2_with fail
  go_loopw [6, 7] (fun o i wr => ∃ k : Nat, k ≤ l.length ∧ i = .int .i64 (k : Int) ∧ wr.ownsRow w2.heap.size 3 1 o k (((l.take k).map lnot).map (Value.int .i64)) ∧ Below w2.heap.size w2 wr) (fun _ i _ => l.length - (intOf i).toNat)
  case atStart => exact ⟨0, by omega, rfl, World.ownsRow_nil _ _ _ _, Below.refl _ _⟩
  case round =>
    obtain ⟨k, hk, rfl, hown, hbel⟩ := hrel
    by_cases h : k < l.length
    · obtain ⟨_, av, capv, e1, _, _, _, hcs⟩ := HS.out.later (hb2.trans (hbel.mono hb2.size)) (Nat.le_refl _)
      simp only [Value.slice.injEq, true_and] at e1
      obtain ⟨rfl, rfl⟩ := e1
      obtain ⟨b, off, rfl, hb, cl⟩ := hcs.resolve_left (by omega)
      have c0 := cl k (.int .i64 l[k]) (by simp [h])
      have HT : Hid (((l.take (k + 1)).map lnot).map (Value.int .i64) = ((l.take k).map lnot).map (Value.int .i64) ++ [.int .i64 (lnot l[k])]) := by
        show _ = _
        rw [List.take_succ_eq_append_getElem h, List.map_append, List.map_append]; rfl
      generalize l[k] = y at *
      clear cl hcs
      go_wp2_with (first
        | (go_at_call 12; refine (not_any _ _).mono ?_; rintro e w' ⟨rfl, rfl⟩)
        | (at_builtin; refine push elInts (.tmp 19) (.tmp 25) rfl rfl _ _ _ rfl hown hbel (Nat.le_refl _) hbel.size [.int .i64 (lnot y)] rfl rfl ?_ ?_ ?_))
      · intro u hu; simp at hu; subst hu; rfl
      · omega
      · intro v' w' hown' hbel' _ _
        go_wp2_with fail
        go_roundw
        case rel => exact ⟨k + 1, by omega, by go_num, by rw [HT.out]; simpa using hown', hbel'⟩
        case measure => simp [intOf]; omega
    · obtain rfl : k = l.length := by omega
      have HL := Lib.hid (List.take_length (l := l))
      rw [HL.out] at hown
      obtain ⟨a3, k3, rfl⟩ := own_slice hown
      have hown3 : wr.ownsRow w2.heap.size 3 1 (.slice a3 l.length k3) (l.map lnot).length ((l.map lnot).map (Value.int .i64)) := by rw [List.length_map]; exact hown
      have HN := Lib.hid (Seen.of_own hown3)
      have hbw := hb2.trans (hbel.mono hb2.size)
      clear hown hown3
      go_wp2_with fail
      refine (begun_any _).mono ?_
      rintro e w4 ⟨rfl, hb4⟩
      have hbw4 := hbw.trans (hb4.mono hbw.size)
      have S1 := Lib.hid (HS.out.later hbw4 (Nat.le_refl _))
      have S2 := Lib.hid (HS'.out.later hbw4 (Nat.le_refl _))
      have S3 := Lib.hid (HB.out.later (hbel.trans (hb4.mono hbel.size)) (Nat.le_refl _))
      have S4 := Lib.hid (HN.out.later hb4 (Nat.le_refl _))
      go_wp2_with (first
        | (go_at_call 10; refine (and_any _ _ _).mono ?_; rintro e w' ⟨rfl, rfl⟩; rw [← H1.out])
        | (go_at_call 11; refine (or_any _ _ _).mono ?_; rintro e w' ⟨rfl, rfl⟩; rw [← H2.out])
        | (go_at_call 12; refine (not_any _ _).mono ?_; rintro e w' ⟨rfl, rfl⟩; rw [H3.out])
        | (go_at_call 27; (with_reducible refine (all_any (l ++ m) _ _ S3.out).mono ?_); rintro e w' ⟨rfl, rfl⟩)
        | (go_at_call 27; (with_reducible refine (all_any l _ _ S1.out).mono ?_); rintro e w' ⟨rfl, rfl⟩)
        | (go_at_call 27; (with_reducible refine (all_any m _ _ S2.out).mono ?_); rintro e w' ⟨rfl, rfl⟩)
        | (go_at_call 29; (with_reducible refine (any_any (l ++ m) _ _ S3.out).mono ?_); rintro e w' ⟨rfl, rfl⟩)
        | (go_at_call 29; (with_reducible refine (any_any l _ _ S1.out).mono ?_); rintro e w' ⟨rfl, rfl⟩)
        | (go_at_call 29; (with_reducible refine (any_any m _ _ S2.out).mono ?_); rintro e w' ⟨rfl, rfl⟩)
        | (go_at_call 29; (with_reducible refine (any_any (l.map lnot) _ _ S4.out).mono ?_); rintro e w' ⟨rfl, rfl⟩))
      go_ret
      exact ⟨by first | rfl | simp, hbw4⟩

/-! ### the row's step, by program -/
set_option maxRecDepth 100000 in
theorem lifted (os : Os) (started : os.Started) (H : Type) (enc : TypeId × Value → H) (Fi : Stop.Interp) :
    ReturnsInHanded {} Try.checked os 9 .any ((Rows.OpenSpec.upto Rows.logicListsSpec).pre6 enc Try.prog Try.f9 Rows.logicListsUptoRow.domain false) (((Rows.OpenSpec.upto Rows.logicListsSpec).at Fi).post enc Try.prog Try.f9 false true false false) := by
  refine returnsInHanded_of_cond_sized (C := Try.checked) (s := (Rows.OpenSpec.upto Rows.logicListsSpec)) (k := Rows.uptoSmall) rfl own started (by kernel_rfl) Try.func9
    (OpenSpec.witness (enc := enc) (C := Try.checked) (s := (Rows.OpenSpec.upto Rows.logicListsSpec)) (k := Rows.uptoSmall) rfl false ⟨#[], #[.slice none 0 0, .slice none 0 0], []⟩ 8 (by kernel_rfl) (by kernel_rfl) (by kernel_rfl)
      (x := ([.nil, .nil], [], [])) (by kernel_rfl) rfl (by kernel_rfl)) ?_
  intro W base args ds gs before hval0 hW hcnd hk hsz0 _
  have hval : ∀ (j : Nat) t v, Try.f9.params[j]? = some t → args[j]? = some v → Value.okWide Try.prog W .any base t v := hval0
  have hsz : (DataW.weightsEach Try.prog (Try.f9.params.toList ++ (Rows.OpenSpec.upto Rows.logicListsSpec).bare.plain.varTypes Try.prog) (ds ++ gs)).all (· ≤ reachBytes) = true := hsz0
  have hW' := hW
  obtain ⟨p, q, hA0, hV, rfl, hfz, hnd⟩ := hW
  have hA : DataW.TrodAll enc Try.prog W 0 (fun _ => true) true Try.f9.params.toList args.toList ds p := hA0
  rw [Try.params9] at hA hval hsz
  obtain ⟨v0, vs0, d0, ds0, p0, q0, hargs, rfl, rfl, h0, r0⟩ := trodAll_cons hA
  obtain ⟨v1, vs1, d1, ds1, p1, q1, rfl, rfl, rfl, h1, r1⟩ := trodAll_cons r0
  obtain ⟨rfl, rfl, rfl⟩ := trodAll_nil r1
  obtain rfl : args = #[v0, v1] := by cases args; simp_all
  obtain ⟨rfl, rfl⟩ := trodVars_none hV
  obtain ⟨l0, wf0, s0, dd0⟩ := open_nums Try.underlying42 Try.underlying3 (by kernel_rfl) (hval 0 42 v0 rfl rfl) h0
  have w0 : ∀ x ∈ l0, -9223372036854775808 ≤ x ∧ x ≤ 9223372036854775807 := fun x hx => by simpa [Lit.wf, IntKind.min, IntKind.max, IntKind.signed, IntKind.bits] using wf0 x hx
  obtain ⟨l1, wf1, s1, dd1⟩ := open_nums Try.underlying42 Try.underlying3 (by kernel_rfl) (hval 1 42 v1 rfl rfl) h1
  have w1 : ∀ x ∈ l1, -9223372036854775808 ≤ x ∧ x ≤ 9223372036854775807 := fun x hx => by simpa [Lit.wf, IntKind.min, IntKind.max, IntKind.signed, IntKind.bits] using wf1 x hx
  have hbulk : Rows.uptoBulkAll _ ≤ 1048576 := of_decide_eq_true hk
  simp only [List.append_nil, Rows.uptoBulkAll] at hbulk
  have z0 : l0.length ≤ 1048576 := nums_bulk dd0 (by omega)
  have z1 : l1.length ≤ 1048576 := nums_bulk dd1 (by omega)
  clear hbulk hk
  clear hA0 hval0
  refine (walk l0 w0 v0 l1 w1 v1 W s0 z0 s1 z1).mono fun e W' ⟨he, bel⟩ => ?_
  subst he
  exact ⟨_, rfl, post_true (s := Rows.logicListsSpec) laidOut (by kernel_rfl) Try.underlying4 (by kernel_rfl) rfl hW' rfl bel⟩

theorem proved : Rows.LogicListsUptoSaid :=
  OpenClaim.holds_of_cond 9 Try.f9 rfl rfl rfl rfl rfl rfl rfl ⟨rfl, rfl, rfl, rfl, rfl⟩ rfl rfl rfl rfl rfl (by kernel_rfl) Try.func9 (by kernel_rfl)
    (of_decide_eq_true (by kernel_rfl)) (by unfold Func.isWrapper; first | (rw [if_pos (by decide +kernel)]; kernel_rfl) | (rw [if_neg (by decide +kernel)]; exact ⟨rfl, rfl⟩))
    (fun os started H enc _ Fi => lifted os started H enc Fi)

end Go.Proofs.Ytplgobljgmlpkaa.logicLists

