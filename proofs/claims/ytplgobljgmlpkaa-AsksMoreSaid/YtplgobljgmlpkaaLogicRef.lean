/- three truth values: the document's -/
import Derived.Test.YtplgobljgmlpkaaLogic4
namespace Go.Proofs.Ytplgobljgmlpkaa.LogicP
open Go.RowKit K ValP

theorem tri (a : Int) : a = 0 ∨ a = 2 ∨ ((a == 0) = false ∧ (a == 2) = false ∧ (a != 2) = true ∧ Hid (plain a = 1)) := by
  by_cases h0 : a = 0
  · exact .inl h0
  · by_cases h2 : a = 2
    · exact .inr (.inl h2)
    · refine .inr (.inr ⟨beq_eq_false_iff_ne.2 h0, beq_eq_false_iff_ne.2 h2, by rw [bne_iff_ne]; exact h2, ?_⟩)
      show _ = _
      unfold plain; rw [if_neg h0, if_neg h2]

theorem truthand_any (a b : Int) (w : World) : Calls Try.prog 24 #[.int .i64 a, .int .i64 b] w fun e w' => e = .returned (.int .i64 (land a b)) ∧ w = w' := by
  have hv := Lib.hid (show land a b = min (plain a) (plain b) from rfl)
  rcases tri a with rfl | rfl | ⟨h1, h2, h3, h4⟩ <;> rcases tri b with rfl | rfl | ⟨k1, k2, k3, k4⟩
  all_goals
    go_enter Try.func24, Try.ntmps24
    go_wp2
    go_ret
    refine ⟨?_, rfl⟩
    rw [hv.out]
    try rw [h4.out]
    try rw [k4.out]
    rfl
theorem truthor_any (a b : Int) (w : World) : Calls Try.prog 25 #[.int .i64 a, .int .i64 b] w fun e w' => e = .returned (.int .i64 (lor a b)) ∧ w = w' := by
  have hv := Lib.hid (show lor a b = max (plain a) (plain b) from rfl)
  rcases tri a with rfl | rfl | ⟨h1, h2, h3, h4⟩ <;> rcases tri b with rfl | rfl | ⟨k1, k2, k3, k4⟩
  all_goals
    go_enter Try.func25, Try.ntmps25
    go_wp2
    go_ret
    refine ⟨?_, rfl⟩
    rw [hv.out]
    try rw [h4.out]
    try rw [k4.out]
    rfl
theorem truthnot_any (a : Int) (w : World) : Calls Try.prog 26 #[.int .i64 a] w fun e w' => e = .returned (.int .i64 (lnot a)) ∧ w = w' := by
  have hv := Lib.hid (show lnot a = 2 - plain a from rfl)
  rcases tri a with rfl | rfl | ⟨h1, h2, h3, h4⟩
  all_goals
    go_enter Try.func26, Try.ntmps26
    go_wp2
    go_ret
    refine ⟨?_, rfl⟩
    rw [hv.out]
    try rw [h4.out]
    rfl

/-! ### lists -/
theorem land_cases (a b : Int) : land a b = 0 ∨ land a b = 1 ∨ land a b = 2 := by
  unfold land; rcases plain_cases a with h | h | h <;> rcases plain_cases b with k | k | k <;> rw [h, k] <;> decide
theorem lor_cases (a b : Int) : lor a b = 0 ∨ lor a b = 1 ∨ lor a b = 2 := by
  unfold lor; rcases plain_cases a with h | h | h <;> rcases plain_cases b with k | k | k <;> rw [h, k] <;> decide
theorem land_zero (l : List Int) : l.foldl land 0 = 0 := by
  induction l with
  | nil => rfl
  | cons x l ih =>
    rw [List.foldl_cons, show land 0 x = 0 by unfold land; rcases plain_cases x with h | h | h <;> rw [h] <;> rfl]; exact ih
theorem lor_two (l : List Int) : l.foldl lor 2 = 2 := by
  induction l with
  | nil => rfl
  | cons x l ih =>
    rw [List.foldl_cons, show lor 2 x = 2 by unfold lor; rcases plain_cases x with h | h | h <;> rw [h] <;> rfl]; exact ih

set_option maxRecDepth 100000 in
theorem truthall_any (l : List Int) (v : Value) (w : World) (hs : Seen w v l.length 1 (l.map (Value.int .i64))) :
    Calls Try.prog 28 #[v] w fun e w' => e = .returned (.int .i64 (lall l)) ∧ w = w' := by
  obtain ⟨_, a, cap, rfl, hc, hm, hnil, hcells⟩ := id hs
  unfold maxLen at hm
  clear hs
  go_enter Try.func28, Try.ntmps28
  go_wp2
  go_loop [3, 4] (fun o i => ∃ (k : Nat) (x : Int), k ≤ l.length ∧ i = .int .i64 (k : Int) ∧ o = .int .i64 x ∧ (x = 1 ∨ x = 2) ∧ Hid (lall l = (l.drop k).foldl land x)) (fun _ i => l.length - (intOf i).toNat)
  case atStart => exact ⟨0, 2, by omega, rfl, rfl, .inr rfl, rfl⟩
  case round =>
    obtain ⟨k, x, hk, rfl, rfl, hx, hfo⟩ := hrel
    by_cases h : k < l.length
    · obtain ⟨b, off, rfl, hb, cl⟩ := hcells.resolve_left (by omega)
      have c0 := cl k (.int .i64 l[k]) (by simp [h])
      have HD := Lib.hid (foldl_drop land x l k h)
      generalize l[k] = y at *
      clear cl hcells
      rcases tri y with rfl | rfl | ⟨h1, h2, h3, h4⟩
      · have HZ := Lib.hid (show lall l = 0 by
          rw [hfo.out, HD.out, show land x 0 = 0 by rcases hx with rfl | rfl <;> rfl]; exact land_zero _)
        go_wp2
        go_ret
        exact ⟨by rw [HZ.out] <;> rfl, rfl⟩
      · have HZ := Lib.hid (show lall l = (l.drop (k + 1)).foldl land x by
          rw [hfo.out, HD.out, show land x 2 = x by rcases hx with rfl | rfl <;> rfl])
        go_wp2
        go_round
        case rel => exact ⟨k + 1, x, by omega, by go_num, rfl, hx, HZ⟩
        case measure => simp [intOf]; omega
      · have HZ := Lib.hid (show lall l = (l.drop (k + 1)).foldl land 1 by
          rw [hfo.out, HD.out, show land x y = 1 by unfold land; rw [h4.out]; rcases hx with rfl | rfl <;> rfl])
        go_wp2
        go_round
        case rel => exact ⟨k + 1, 1, by omega, by go_num, rfl, .inl rfl, HZ⟩
        case measure => simp [intOf]; omega
    · obtain rfl : k = l.length := by omega
      have hfo := Lib.hid (hfo.out.trans (by rw [List.drop_length, List.foldl_nil]))
      go_wp2
      go_ret
      exact ⟨by rw [hfo.out] <;> rfl, rfl⟩

set_option maxRecDepth 100000 in
theorem truthany_any (l : List Int) (v : Value) (w : World) (hs : Seen w v l.length 1 (l.map (Value.int .i64))) :
    Calls Try.prog 30 #[v] w fun e w' => e = .returned (.int .i64 (lany l)) ∧ w = w' := by
  obtain ⟨_, a, cap, rfl, hc, hm, hnil, hcells⟩ := id hs
  unfold maxLen at hm
  clear hs
  go_enter Try.func30, Try.ntmps30
  go_wp2
  go_loop [3, 4] (fun o i => ∃ (k : Nat) (x : Int), k ≤ l.length ∧ i = .int .i64 (k : Int) ∧ o = .int .i64 x ∧ (x = 0 ∨ x = 1) ∧ Hid (lany l = (l.drop k).foldl lor x)) (fun _ i => l.length - (intOf i).toNat)
  case atStart => exact ⟨0, 0, by omega, rfl, rfl, .inl rfl, rfl⟩
  case round =>
    obtain ⟨k, x, hk, rfl, rfl, hx, hfo⟩ := hrel
    by_cases h : k < l.length
    · obtain ⟨b, off, rfl, hb, cl⟩ := hcells.resolve_left (by omega)
      have c0 := cl k (.int .i64 l[k]) (by simp [h])
      have HD := Lib.hid (foldl_drop lor x l k h)
      generalize l[k] = y at *
      clear cl hcells
      have hn0 : (y == 0) = false → (y != 0) = true := fun h => by rw [bne_iff_ne]; exact beq_eq_false_iff_ne.1 h
      rcases tri y with rfl | rfl | ⟨h1, h2, h3, h4⟩
      · have HZ := Lib.hid (show lany l = (l.drop (k + 1)).foldl lor x by
          rw [hfo.out, HD.out, show lor x 0 = x by rcases hx with rfl | rfl <;> rfl])
        clear hn0
        go_wp2
        go_round
        case rel => exact ⟨k + 1, x, by omega, by go_num, rfl, hx, HZ⟩
        case measure => simp [intOf]; omega
      · have HZ := Lib.hid (show lany l = 2 by
          rw [hfo.out, HD.out, show lor x 2 = 2 by rcases hx with rfl | rfl <;> rfl]; exact lor_two _)
        clear hn0
        go_wp2
        go_ret
        exact ⟨by rw [HZ.out] <;> rfl, rfl⟩
      · have HZ := Lib.hid (show lany l = (l.drop (k + 1)).foldl lor 1 by
          rw [hfo.out, HD.out, show lor x y = 1 by unfold lor; rw [h4.out]; rcases hx with rfl | rfl <;> rfl])
        have hn := hn0 h1
        clear hn0
        go_wp2
        go_round
        case rel => exact ⟨k + 1, 1, by omega, by go_num, rfl, .inr rfl, HZ⟩
        case measure => simp [intOf]; omega
    · obtain rfl : k = l.length := by omega
      have hfo := Lib.hid (hfo.out.trans (by rw [List.drop_length, List.foldl_nil]))
      go_wp2
      go_ret
      exact ⟨by rw [hfo.out] <;> rfl, rfl⟩

theorem truth_any (b : Bool) (w : World) : Calls Try.prog 43 #[.bool b] w fun e w' => e = .returned (.int .i64 (ofB b)) ∧ w = w' := by
  cases b
  all_goals
    go_enter Try.func43, Try.ntmps43
    go_wp2
    go_ret
    exact ⟨rfl, rfl⟩

end Go.Proofs.Ytplgobljgmlpkaa.LogicP
