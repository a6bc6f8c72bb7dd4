/- Check of a disk: the program's -/
import Derived.Test.YtohlkegmmbdlaaaDiskPure
namespace Go.Proofs.Ytohlkegmmbdlaaa.DiskP
open Go.RowKit K

theorem place_any (n : Int) (w : World) :
    Calls Try.prog 52 #[.int .i64 n] w fun e w' => e = .returned (.bool (inPlace n)) ∧ w = w' := by
  by_cases h : 0 ≤ n
  all_goals
    go_enter Try.func52, Try.ntmps52
    go_wp2_with fail
    go_ret
    exact ⟨by first | (simp [inPlace, h]; done) | (simp [inPlace]; omega), rfl⟩

theorem long_any (s : ByteArray) (w : World) :
    Calls Try.prog 55 #[.string s] w fun e w' => e = .returned (.bool (tooLong s)) ∧ w = w' := by
  go_enter Try.func55, Try.ntmps55
  go_wp2_with fail
  go_ret
  exact ⟨by first | rfl | (simp [tooLong]; omega), rfl⟩

theorem seen_cell {w : World} {b off n cap sz : Nat} {cs : List Value} (h : Seen w (.slice (some ⟨b, off, none⟩) n cap) n sz cs) (hn : 0 < n) (j : Nat) (u : Value) (hj : cs[j]? = some u) : w.cell? ⟨b, off + j, none⟩ = some u := by
  obtain ⟨_, a', cap', e1, _, _, _, h4⟩ := h
  simp only [Value.slice.injEq, true_and] at e1
  obtain ⟨b', off', e2, _, h7⟩ := h4.resolve_left (by omega)
  rw [← e1.1] at e2
  simp only [Option.some.injEq, Addr.mk.injEq, and_true] at e2
  obtain ⟨rfl, rfl⟩ := e2
  exact h7 j u hj

set_option maxRecDepth 100000 in
theorem index_any (p : List ByteArray) (v : Value) (w : World) (hs : Seen w v p.length 1 (p.map Value.string)) :
    Calls Try.prog 71 #[v, .func (.func 55) #[] #[]] w fun e w' => (∃ i : Int, e = .returned (.int .i64 i) ∧ decide (0 ≤ i) = p.any tooLong) ∧ w = w' := by
  obtain ⟨_, a, cap, rfl, hc, hm, hnil, hcells⟩ := id hs
  unfold maxLen at hm
  go_enter Try.func71, Try.ntmps71
  go_wp2
  go_loop [8] (fun j => ∃ k : Nat, k ≤ p.length ∧ j = .int .i64 (k : Int) ∧ (p.take k).any tooLong = false)
    (fun j => p.length - (intOf j).toNat)
  case atStart => exact ⟨0, by omega, rfl, rfl⟩
  case round =>
    obtain ⟨k, hk, rfl, hno⟩ := hrel
    by_cases h : k < p.length
    · obtain ⟨b, off, rfl, hb, hcl⟩ := hcells.resolve_left (by omega)
      have hcell : w.cell? ⟨b, off + k, none⟩ = some (.string p[k]) := hcl k _ (by simp [h])
      have htake : (p.take (k + 1)).any tooLong = (tooLong p[k]) := by
        rw [List.take_succ_eq_append_getElem h, List.any_append, hno]; simp
      cases hl : tooLong p[k]
      · go_wp2_with (go_at_call 55; refine (long_any _ _).mono ?_; rintro e w' ⟨rfl, rfl⟩; rw [hl])
        go_round
        case rel => exact ⟨k + 1, by omega, by go_num, by rw [htake, hl]⟩
        case measure => simp [intOf]; omega
      · have hany : p.any tooLong = true := List.any_eq_true.2 ⟨p[k], List.getElem_mem h, hl⟩
        go_wp2_with (go_at_call 55; refine (long_any _ _).mono ?_; rintro e w' ⟨rfl, rfl⟩; rw [hl])
        go_ret
        exact ⟨⟨_, rfl, by rw [hany]; simp⟩, rfl⟩
    · obtain rfl : k = p.length := by omega
      rw [List.take_length] at hno
      go_wp2_with fail
      go_ret
      exact ⟨⟨-1, rfl, by first | (rw [hno]; rfl) | simp_all⟩, rfl⟩

theorem contains_any (p : List ByteArray) (v : Value) (w : World) (hs : Seen w v p.length 1 (p.map Value.string)) :
    Calls Try.prog 56 #[v, .func (.func 55) #[] #[]] w fun e w' => e = .returned (.bool (p.any tooLong)) ∧ w = w' := by
  go_enter Try.func56, Try.ntmps56
  go_wp2_with (go_at_call 71; refine (index_any p v _ hs).mono ?_; rintro e w' ⟨⟨i, rfl, hi⟩, rfl⟩; try rw [hi])
  go_ret
  exact ⟨by first | rfl | (rw [← hi]; rfl), rfl⟩

theorem not_blank (s : ByteArray) (h : ¬ s.size = 0) : s.toList.isEmpty = false := by
  rw [ByteArray.toList_eq]
  cases e : s.data.toList with
  | nil => exact absurd (by have := congrArg List.length e; simpa using this) h
  | cons => rfl

theorem badWait_drop (q : List Wr) (k : Nat) (hk : k < q.length) : badWait (q.drop k) = if inPlace q[k].1 then (if tooLong q[k].2 then 2 else badWait (q.drop (k + 1))) else 3 := by
  rw [List.drop_eq_getElem_cons hk]; rfl

set_option maxRecDepth 100000 in
set_option maxHeartbeats 1000000 in
theorem check_any (p : List ByteArray) (q : List Wr) (d : Value) (w : World) (hd : IsDisk w d p q) :
    Calls Try.prog 39 #[d] w fun e w' => e = .returned (.int .i64 (check p q)) ∧ Below w.heap.size w w' := by
  obtain ⟨vp, vq, rfl, hsp, hsq⟩ := hd
  have hW : Below w.heap.size w (w.alloc (.cells #[vp, vq] 25)) := (Below.refl _ _).alloc (Nat.le_refl _) _
  obtain ⟨_, a, cap, rfl, hc, hm, hnil, hcells⟩ := id hsp
  obtain ⟨_, a', cap', rfl, hc', hm', hnil', hcells'⟩ := id hsq
  unfold maxLen at hm hm'
  have hct := contains_any p (.slice a p.length cap)
  by_cases h1 : 32 < p.length
  · have hr : check p q = 2 := if_pos (.inl h1)
    rw [hr]
    go_enter Try.func39, Try.ntmps39
    go_wp2_with fail
    go_ret
    exact ⟨rfl, hW⟩
  cases h2 : p.any tooLong
  case true =>
    have hr : check p q = 2 := if_pos (.inr h2)
    rw [hr]
    go_enter Try.func39, Try.ntmps39
    go_wp2_with (go_at_call 56; refine (hct _ (hsp.later hW (Nat.le_refl _))).mono ?_; rintro e w' ⟨rfl, rfl⟩; rw [h2])
    go_ret
    exact ⟨rfl, hW⟩
  case false =>
    have hno : ¬ (32 < p.length ∨ p.any tooLong = true) := by rw [h2]; simp; omega
    have hsp' := hsp.later hW (Nat.le_refl _)
    have hsq' := hsq.later hW (Nat.le_refl _)
    have hct' := hct _ hsp'
    have hw0 : wrap64 ((p.length : Int) - 1) = (p.length : Int) - 1 := by unfold wrap64; omega
    -- the loop over what waits
    have hcase : (p.length = 0 ∧ lastBlank p = false) ∨ (0 < p.length ∧ ∃ b off, a = some ⟨b, off, none⟩ ∧ ∃ s, (w.alloc (.cells #[Value.slice a p.length cap, Value.slice a' q.length cap'] 25)).cell? ⟨b, off + (p.length - 1), none⟩ = some (.string s) ∧ lastBlank p = decide (s.size = 0)) := by
      rcases Nat.eq_zero_or_pos p.length with h | h
      · exact .inl ⟨h, by unfold lastBlank; rw [h]; rfl⟩
      · obtain ⟨b, off, rfl, hb, hcl⟩ := hcells.resolve_left (by omega)
        refine .inr ⟨h, b, off, rfl, p[p.length - 1], seen_cell hsp' h _ _ (by simp [show p.length - 1 < p.length by omega]), ?_⟩
        unfold lastBlank
        rw [List.getD_eq_getElem?_getD, List.getElem?_eq_getElem (by omega), Option.getD_some, decide_eq_true h, Bool.true_and]
    cases h3 : lastBlank p
    case true =>
      have hr : check p q = 1 := by unfold check; rw [if_neg hno, h3]; rfl
      rw [hr]
      rcases hcase with ⟨_, hb⟩ | ⟨hpos, b, off, rfl, s, hcell, hb⟩
      · rw [h3] at hb; cases hb
      · have hse : s = ⟨#[]⟩ := by
          rw [h3] at hb
          have := of_decide_eq_true hb.symm
          obtain ⟨d⟩ := s
          exact congrArg ByteArray.mk (Array.eq_empty_of_size_eq_zero this)
        subst hse
        go_enter Try.func39, Try.ntmps39
        go_wp2_with (go_at_call 56; refine (hct').mono ?_; rintro e w' ⟨rfl, rfl⟩; rw [h2])
        go_ret
        exact ⟨rfl, hW⟩
    case false =>
      by_cases h4 : 48 < q.length
      · have hr : check p q = 2 := by unfold check; rw [if_neg hno, h3, if_neg (by decide), if_pos h4]
        rw [hr]
        rcases hcase with ⟨h0, _⟩ | ⟨hpos, b, off, rfl, s, hcell, hb⟩
        · obtain rfl : p = [] := List.eq_nil_of_length_eq_zero h0
          simp only [List.length_nil] at *
          go_enter Try.func39, Try.ntmps39
          go_wp2_with (go_at_call 56; refine (hct').mono ?_; rintro e w' ⟨rfl, rfl⟩; rw [h2])
          go_ret
          exact ⟨rfl, hW⟩
        · have hse : s.toList.isEmpty = false := by
            rw [h3] at hb
            have := of_decide_eq_false hb.symm
            exact not_blank s this
          go_enter Try.func39, Try.ntmps39
          go_wp2_with (go_at_call 56; refine (hct').mono ?_; rintro e w' ⟨rfl, rfl⟩; rw [h2])
          go_ret
          exact ⟨rfl, hW⟩
      · have hr : check p q = badWait q := by unfold check; rw [if_neg hno, h3, if_neg (by decide), if_neg h4]
        rcases hcase with ⟨h0, _⟩ | ⟨hpos, b, off, rfl, s, hcell, hb⟩
        · obtain rfl : p = [] := List.eq_nil_of_length_eq_zero h0
          simp only [List.length_nil] at *
          go_enter Try.func39, Try.ntmps39
          go_wp2_with (go_at_call 56; refine (hct').mono ?_; rintro e w' ⟨rfl, rfl⟩; rw [h2])
          go_loopw [37] (fun j wr => ∃ k : Nat, k ≤ q.length ∧ j = .int .i64 (k : Int) ∧ badWait q = badWait (q.drop k) ∧ Below w.heap.size w wr)
            (fun j _ => q.length - (intOf j).toNat)
          case atStart => exact ⟨0, by omega, rfl, rfl, hW⟩
          case round =>
            obtain ⟨k, hk, rfl, hbad, hbel⟩ := hrel
            by_cases h : k < q.length
            · obtain ⟨b', off', rfl, hb', hcl'⟩ := hcells'.resolve_left (by omega)
              have hsr := hsq.later hbel (Nat.le_refl _)
              have c0 := seen_cell hsr (by omega) _ _ (wrCells_at q k h).1
              have c1 := seen_cell hsr (by omega) _ _ (wrCells_at q k h).2
              rw [← Nat.add_assoc] at c1
              rw [badWait_drop q k h] at hbad
              cases hpl : inPlace q[k].1
              case false =>
                rw [hpl] at hbad
                go_wp2_with (first
                  | (go_at_call 52; refine (place_any _ _).mono ?_; rintro e w' ⟨rfl, rfl⟩; rw [hpl]))
                go_ret
                exact ⟨by rw [hr, hbad]; rfl, hbel.trans ((Below.refl _ _).alloc hbel.size _)⟩
              case true =>
                rw [hpl, if_pos rfl] at hbad
                cases hl : tooLong q[k].2
                case true =>
                  rw [hl] at hbad
                  go_wp2_with (first
                    | (go_at_call 52; refine (place_any _ _).mono ?_; rintro e w' ⟨rfl, rfl⟩; rw [hpl])
                    | (go_at_call 55; refine (long_any _ _).mono ?_; rintro e w' ⟨rfl, rfl⟩; rw [hl]))
                  go_ret
                  exact ⟨by rw [hr, hbad]; rfl, hbel.trans ((Below.refl _ _).alloc hbel.size _)⟩
                case false =>
                  rw [hl] at hbad
                  go_wp2_with (first
                    | (go_at_call 52; refine (place_any _ _).mono ?_; rintro e w' ⟨rfl, rfl⟩; rw [hpl])
                    | (go_at_call 55; refine (long_any _ _).mono ?_; rintro e w' ⟨rfl, rfl⟩; rw [hl]))
                  go_roundw
                  case rel => exact ⟨k + 1, by omega, by go_num, hbad, hbel.trans ((Below.refl _ _).alloc hbel.size _)⟩
                  case measure => simp [intOf]; omega
            · obtain rfl : k = q.length := by omega
              rw [List.drop_length] at hbad
              go_wp2_with fail
              go_ret
              exact ⟨by rw [hr, hbad]; rfl, hbel⟩
        · have hse : s.toList.isEmpty = false := by
            rw [h3] at hb
            have := of_decide_eq_false hb.symm
            exact not_blank s this
          go_enter Try.func39, Try.ntmps39
          go_wp2_with (go_at_call 56; refine (hct').mono ?_; rintro e w' ⟨rfl, rfl⟩; rw [h2])
          go_loopw [37] (fun j wr => ∃ k : Nat, k ≤ q.length ∧ j = .int .i64 (k : Int) ∧ badWait q = badWait (q.drop k) ∧ Below w.heap.size w wr)
            (fun j _ => q.length - (intOf j).toNat)
          case atStart => exact ⟨0, by omega, rfl, rfl, hW⟩
          case round =>
            obtain ⟨k, hk, rfl, hbad, hbel⟩ := hrel
            by_cases h : k < q.length
            · obtain ⟨b', off', rfl, hb', hcl'⟩ := hcells'.resolve_left (by omega)
              have hsr := hsq.later hbel (Nat.le_refl _)
              have c0 := seen_cell hsr (by omega) _ _ (wrCells_at q k h).1
              have c1 := seen_cell hsr (by omega) _ _ (wrCells_at q k h).2
              rw [← Nat.add_assoc] at c1
              rw [badWait_drop q k h] at hbad
              cases hpl : inPlace q[k].1
              case false =>
                rw [hpl] at hbad
                go_wp2_with (first
                  | (go_at_call 52; refine (place_any _ _).mono ?_; rintro e w' ⟨rfl, rfl⟩; rw [hpl]))
                go_ret
                exact ⟨by rw [hr, hbad]; rfl, hbel.trans ((Below.refl _ _).alloc hbel.size _)⟩
              case true =>
                rw [hpl, if_pos rfl] at hbad
                cases hl : tooLong q[k].2
                case true =>
                  rw [hl] at hbad
                  go_wp2_with (first
                    | (go_at_call 52; refine (place_any _ _).mono ?_; rintro e w' ⟨rfl, rfl⟩; rw [hpl])
                    | (go_at_call 55; refine (long_any _ _).mono ?_; rintro e w' ⟨rfl, rfl⟩; rw [hl]))
                  go_ret
                  exact ⟨by rw [hr, hbad]; rfl, hbel.trans ((Below.refl _ _).alloc hbel.size _)⟩
                case false =>
                  rw [hl] at hbad
                  go_wp2_with (first
                    | (go_at_call 52; refine (place_any _ _).mono ?_; rintro e w' ⟨rfl, rfl⟩; rw [hpl])
                    | (go_at_call 55; refine (long_any _ _).mono ?_; rintro e w' ⟨rfl, rfl⟩; rw [hl]))
                  go_roundw
                  case rel => exact ⟨k + 1, by omega, by go_num, hbad, hbel.trans ((Below.refl _ _).alloc hbel.size _)⟩
                  case measure => simp [intOf]; omega
            · obtain rfl : k = q.length := by omega
              rw [List.drop_length] at hbad
              go_wp2_with fail
              go_ret
              exact ⟨by rw [hr, hbad]; rfl, hbel⟩

end Go.Proofs.Ytohlkegmmbdlaaa.DiskP
