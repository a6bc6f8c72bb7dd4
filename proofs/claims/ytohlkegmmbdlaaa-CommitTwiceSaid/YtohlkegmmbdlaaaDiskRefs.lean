/- the reference: Check of a disk -/
import Derived.Test.YtohlkegmmbdlaaaDiskSame
import Derived.Test.YtohlkegmmbdlaaaDiskLand
namespace Go.Proofs.Ytohlkegmmbdlaaa.DiskP
open Go.RowKit K

theorem inPlace_t {n : Int} (h : 0 ≤ n ∧ n < 32) : inPlace n = true := by unfold inPlace; simp [h.1, h.2]
theorem inPlace_f {n : Int} (h : ¬ (0 ≤ n ∧ n < 32)) : inPlace n = false := by unfold inPlace; simp; omega

set_option maxRecDepth 100000 in
set_option maxHeartbeats 1000000 in
theorem diskcheck_any (p : List ByteArray) (q : List Wr) (d : Value) (w : World) (hd : IsDisk w d p q) :
    Calls Try.prog 40 #[d] w fun e w' => e = .returned (.int .i64 (check p q)) ∧ Below w.heap.size w w' := by
  obtain ⟨vp, vq, rfl, hsp, hsq⟩ := hd
  have hW : Below w.heap.size w (w.alloc (.cells #[vp, vq] 25)) := (Below.refl _ _).alloc (Nat.le_refl _) _
  have hsp' := hsp.later hW (Nat.le_refl _)
  have hsq' := hsq.later hW (Nat.le_refl _)
  clear hsp hsq
  obtain ⟨_, a, cap, rfl, hc, hm, hnil, hcells⟩ := hsp'
  obtain ⟨_, a', cap', rfl, hc', hm', hnil', hcells'⟩ := hsq'
  unfold maxLen at hm hm'
  by_cases h1 : 32 < p.length
  · have hr := Lib.hid (show check p q = 2 from if_pos (.inl h1))
    go_enter Try.func40, Try.ntmps40
    go_wp2
    go_ret
    exact ⟨by rw [hr.out]; rfl, hW⟩
  · have h1' : p.length ≤ 32 := by omega
    clear h1
    go_enter Try.func40, Try.ntmps40
    go_wp2
    go_loop [3] (fun i => ∃ k : Nat, k ≤ p.length ∧ i = .int .i64 (k : Int) ∧ Hid ((p.take k).any tooLong = false)) (fun i => p.length - (intOf i).toNat)
    case atStart => exact ⟨0, by omega, rfl, rfl⟩
    case round =>
      obtain ⟨k, hk, rfl, hno⟩ := hrel
      by_cases h : k < p.length
      · obtain ⟨b, off, rfl, hb1, cl⟩ := hcells.resolve_left (by omega)
        have c0 := cl k (.string p[k]) (by simp [h])
        have ht := Lib.hid (show (p.take (k + 1)).any tooLong = tooLong p[k] by
          rw [List.take_succ_eq_append_getElem h, List.any_append, hno.out]; simp)
        have hany := Lib.hid (show 260 < p[k].size → check p q = 2 from fun hl => if_pos (.inr (List.any_eq_true.2 ⟨p[k], List.getElem_mem h, decide_eq_true hl⟩)))
        have hsh := Lib.hid (show ¬ 260 < p[k].size → tooLong p[k] = false from fun hl => decide_eq_false hl)
        generalize p[k] = s at *
        clear cl hcells hcells'
        by_cases hs : 260 < s.size
        · go_wp2
          go_ret
          exact ⟨by rw [hany.out hs]; rfl, hW⟩
        · go_wp2
          go_round
          case rel => exact ⟨k + 1, by omega, by go_num, Lib.hid (by rw [ht.out, hsh.out hs])⟩
          case measure => simp [intOf]; omega
      · obtain rfl : k = p.length := by omega
        have hno := Lib.hid (show ¬ (32 < p.length ∨ p.any tooLong = true) by
          have := hno.out
          rw [List.take_length] at this
          rw [this]; simp; omega)
        by_cases hlb : lastBlank p = true
        · have hr := Lib.hid (show check p q = 1 by unfold check; rw [if_neg hno.out, if_pos hlb])
          unfold lastBlank at hlb
          rw [Bool.and_eq_true, decide_eq_true_eq, decide_eq_true_eq] at hlb
          obtain ⟨hpos, hlb⟩ := hlb
          obtain ⟨b, off, rfl, hb1, cl⟩ := hcells.resolve_left (by omega)
          have hlt : p.length - 1 < p.length := by omega
          rw [List.getD_eq_getElem?_getD, List.getElem?_eq_getElem hlt, Option.getD_some] at hlb
          obtain ⟨s, c0, hlb'⟩ : ∃ s, (w.alloc (.cells #[Value.slice (some ⟨b, off, none⟩) p.length cap, Value.slice a' q.length cap'] 25)).cell? ⟨b, off + (p.length - 1), none⟩ = some (.string s) ∧ s.size ≤ 0 :=
            ⟨_, cl (p.length - 1) (.string p[p.length - 1]) (by simp [hlt]), Nat.le_of_eq hlb⟩
          clear hlb cl hcells hcells' hlt
          go_wp2
          go_ret
          exact ⟨by rw [hr.out]; rfl, hW⟩
        · have hcase : p.length ≤ 0 ∨ (0 < p.length ∧ ∃ b off, a = some ⟨b, off, none⟩ ∧ ∃ s, (w.alloc (.cells #[Value.slice a p.length cap, Value.slice a' q.length cap'] 25)).cell? ⟨b, off + (p.length - 1), none⟩ = some (.string s) ∧ 0 < s.size) := by
            rcases Nat.eq_zero_or_pos p.length with h | h
            · exact .inl (by omega)
            · obtain ⟨b, off, rfl, hb1, cl⟩ := hcells.resolve_left (by omega)
              refine .inr ⟨h, b, off, rfl, p[p.length - 1], cl (p.length - 1) _ (by simp [show p.length - 1 < p.length by omega]), ?_⟩
              unfold lastBlank at hlb
              rw [decide_eq_true h, Bool.true_and, decide_eq_true_eq, List.getD_eq_getElem?_getD, List.getElem?_eq_getElem (by omega), Option.getD_some] at hlb
              exact Nat.pos_of_ne_zero hlb
          have hr := Lib.hid (show check p q = if 48 < q.length then 2 else badWait q by unfold check; rw [if_neg hno.out, if_neg hlb])
          clear hlb hcells
          by_cases h4 : 48 < q.length
          · have hr := Lib.hid (hr.out.trans (if_pos h4))
            rcases hcase with hp0 | ⟨hpos, b, off, rfl, s, hcell, hb⟩
            all_goals
              go_wp2
              go_ret
              exact ⟨by rw [hr.out]; rfl, hW⟩
          · have hr := Lib.hid (hr.out.trans (if_neg h4))
            rcases hcase with hp0 | ⟨hpos, b, off, rfl, s, hcell, hb⟩
            all_goals
              go_wp2
              go_loop [4] (fun i => ∃ k : Nat, k ≤ q.length ∧ i = .int .i64 (k : Int) ∧ Hid (check p q = badWait (q.drop k))) (fun i => q.length - (intOf i).toNat)
              case atStart => exact ⟨0, by omega, rfl, hr⟩
              case round =>
                obtain ⟨k, hk, rfl, hbad⟩ := hrel
                by_cases h : k < q.length
                · obtain ⟨b', off', rfl, hb', dl⟩ := hcells'.resolve_left (by omega)
                  have c0 := dl _ _ (wrCells_at q k h).1
                  have c1 := dl _ _ (wrCells_at q k h).2
                  rw [← Nat.add_assoc] at c1
                  have hbad := hbad.out
                  rw [badWait_drop q k h] at hbad
                  generalize q[k].1 = n at *
                  generalize q[k].2 = t at *
                  clear dl hcells'
                  by_cases hn : 0 ≤ n ∧ n < 32
                  · obtain ⟨hn1, hn2⟩ := hn
                    rw [inPlace_t ⟨hn1, hn2⟩, if_pos rfl] at hbad
                    by_cases hs : 260 < t.size
                    · have hbad' := Lib.hid (hbad.trans (if_pos (decide_eq_true hs)))
                      clear hbad
                      go_wp2
                      go_ret
                      exact ⟨by rw [hbad'.out]; rfl, hW⟩
                    · have hbad' := Lib.hid (hbad.trans (if_neg (by unfold tooLong; simpa using hs)))
                      clear hbad
                      go_wp2
                      go_round
                      case rel => exact ⟨k + 1, by omega, by go_num, hbad'⟩
                      case measure => simp [intOf]; omega
                  · rw [inPlace_f hn, if_neg (by decide)] at hbad
                    have hbad' := Lib.hid hbad
                    clear hbad
                    have hn' : n < 0 ∨ (0 ≤ n ∧ 31 < n) := by omega
                    clear hn
                    rcases hn' with hn | ⟨hn1, hn2⟩
                    all_goals
                      go_wp2
                      go_ret
                      exact ⟨by rw [hbad'.out]; rfl, hW⟩
                · obtain rfl : k = q.length := by omega
                  have hbad := Lib.hid (hbad.out.trans (by rw [List.drop_length, badWait]))
                  go_wp2
                  go_ret
                  exact ⟨by rw [hbad.out]; rfl, hW⟩

end Go.Proofs.Ytohlkegmmbdlaaa.DiskP
