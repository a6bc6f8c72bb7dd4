/- the reference's NumOf computes what num.Read computes -/
import Derived.Test.YtcecopdkaalfkaaNumRead
namespace Go.Proofs.Ytcecopdkaalfkaa.NumRd
open Go.RowKit NumP K

set_option maxRecDepth 100000 in
set_option maxHeartbeats 800000 in
theorem numof_any (s : ByteArray) (w : World) (hs : s.size ≤ 9223372036854775807) :
    Calls Try.prog 31 #[.string s] w fun e w' => e = .returned (resV (numR s.data.toList)) ∧ w = w' := by
  go_enter Try.func31, Try.ntmps31
  go_wp2
  go_loop [5] (fun i => ∃ k : Nat, i = .int .i64 (k : Int) ∧ k ≤ 10 ∧ k ≤ s.size ∧ Hid (∀ j (hj : j < s.size), j < k → 128 ≤ s[j].toNat))
    (fun i => 10 - (intOf i).toNat)
  case atStart => exact ⟨0, rfl, by omega, by omega, fun j hj h => absurd h (by omega)⟩
  case round =>
    obtain ⟨k, rfl, hk, hks, hall⟩ := hrel
    by_cases hmore : k < s.size ∧ k < 10 ∧ 128 ≤ (s.data.toList.getD k 0).toNat
    · obtain ⟨h1, h2, h3⟩ := hmore
      have h3' : (128 : Int) ≤ (s[k].toNat : Int) := by
        have e : s.data.toList.getD k 0 = s[k] := by simp [List.getD, List.getElem?_eq_getElem (show k < s.data.toList.length by simpa using h1)]; rfl
        rw [e] at h3; omega
      clear h3
      go_wp2_with fail
      go_round
      case rel =>
        refine ⟨k + 1, by go_num, by omega, by omega, fun j hj h => ?_⟩
        by_cases e : j = k
        · subst e; omega
        · exact hall.out j hj (by omega)
      case measure => simp [intOf]; omega
    · by_cases hk10 : k = 10
      · subst hk10
        have hR := Lib.hid (rd_ten (l := s.data.toList) (k := 10) (f := 0) (acc := 0) (R := (0, 0, 2)) rfl rfl (by omega))
        have hm := Lib.hid (rd_many s.data.toList 9 (by omega) (by simpa using Nat.le_trans (by omega) hks) (fun j hj h => hall.out j (by simpa using hj) (by omega)))
        have hr := Lib.hid (rd_cons hm.out (by omega) (by omega) (show 9 < s.data.toList.length by simpa using (show 9 < s.size by omega)))
        have h9 := hall.out 9 (by omega) (by omega)
        have hRR : Hid (numR s.data.toList = (0, 0, 2)) := by
          have := hr.out
          rw [if_pos ⟨rfl, by show 1 < s[9].toNat; omega⟩] at this
          exact this
        clear hR hm hr h9
        go_wp2_with fail
        all_goals (go_ret3; exact ⟨by rw [hRR.out]; rfl, rfl⟩)
      have hm := Lib.hid (rd_many s.data.toList k (by omega) (by simpa using hks) (fun j hj h => hall.out j (by simpa using hj) (by omega)))
      have hk10' : ((k : Int) == 10) = false := by simp; omega
      by_cases hsz : k = s.size
      · have hRR := Lib.hid (rd_none hm.out (by omega) (by omega) (by simpa using (Nat.le_of_eq hsz.symm)))
        have hsz1 : s.size ≤ k := by omega
        have hsz2 : ((k : Int) == (s.size : Int)) = true := by simp; omega
        clear hsz hmore
        go_wp2_with fail
        all_goals (go_ret3; exact ⟨by rw [hRR.out]; rfl, rfl⟩)
      have hks' : k < s.size := by omega
      have hsm : (s[k].toNat : Int) < 128 := by
        have e : s.data.toList.getD k 0 = s[k] := by simp [List.getD, List.getElem?_eq_getElem (show k < s.data.toList.length by simpa using hks')]; rfl
        rw [e] at hmore; omega
      have hsz' : ((k : Int) == (s.size : Int)) = false := by simp; omega
      have hr := Lib.hid (rd_cons hm.out (by omega) (by omega) (show k < s.data.toList.length by simpa using hks'))
      rw [show s.data.toList[k]'(by simpa using hks') = s[k] from rfl] at hr
      clear hm hmore hsz
      by_cases h9 : k = 9 ∧ 1 < s[k].toNat
      · have hRR := Lib.hid (show numR s.data.toList = (0, 0, 2) by rw [hr.out, if_pos h9])
        obtain ⟨h9a, h9b⟩ := h9
        have h9a' : ((k : Int) == 9) = true := by simp; omega
        have h9b' : (1 : Int) < (s[k].toNat : Int) := by omega
        clear h9a h9b
        go_wp2_with fail
        all_goals (go_ret3; exact ⟨by rw [hRR.out]; rfl, rfl⟩)
      by_cases h0 : s[k].toNat = 0 ∧ 0 < k
      · have hRR := Lib.hid (show numR s.data.toList = (0, 0, 1) by rw [hr.out, if_neg h9, if_pos (by omega), if_pos h0])
        obtain ⟨h0a, h0b⟩ := h0
        clear h9
        by_cases h9a' : ((k : Int) == 9) = true
        all_goals
          try simp only [Bool.not_eq_true] at h9a'
          go_wp2_with fail
          all_goals (go_ret3; exact ⟨by rw [hRR.out]; rfl, rfl⟩)
      have hRR := Lib.hid (show numR s.data.toList = (val (s.data.toList.take (k + 1)), k + 1, 0) by
        rw [hr.out, if_neg h9, if_pos (by omega), if_neg h0, List.take_succ_eq_append_getElem (show k < s.data.toList.length by simpa using hks'), val_append]
        rw [show s.data.toList[k]'(by simpa using hks') = s[k] from rfl]
        simp [val, Nat.min_eq_left (show k ≤ s.size by omega), Nat.mul_comm])
      have hfit := Lib.hid (val_fits s.data.toList k (by omega) (by simpa using hks') h9 (by show s[k].toNat < 128; omega))
      have hA := Lib.hid h9
      have hB := Lib.hid h0
      clear hr h9 h0
      by_cases h9a' : ((k : Int) == 9) = true <;> by_cases h0a' : s[k].toNat = 0
      all_goals
        try simp only [Bool.not_eq_true] at h9a'
        have hA1 : ((k : Int) == 9) = true → (s[k].toNat : Int) ≤ 1 := by intro h; have := hA.out; simp at h; omega
        have hB1 : s[k].toNat = 0 → k ≤ 0 := by intro h; have := hB.out; omega
        first
          | have hA1' := hA1 h9a'
          | skip
        first
          | have hB1' := hB1 h0a'
          | skip
        clear hA1 hB1
        go_wp2_with fail
        go_loop [6, 7] (fun n i => (∃ m : Nat, i = .int .i64 (m : Int) ∧ m ≤ k ∧ n = .int .u64 ((val ((s.data.toList.take (k + 1)).drop (m + 1)) : Nat) : Int)) ∨
            (i = .int .i64 (-1) ∧ n = .int .u64 ((val (s.data.toList.take (k + 1)) : Nat) : Int)))
          (fun _ i => (intOf i + 1).toNat)
        case atStart => exact .inl ⟨k, rfl, by omega, by rw [List.drop_of_length_le (by simp; omega)]; rfl⟩
        case round =>
          rcases hrel with ⟨m, rfl, hm, rfl⟩ | ⟨rfl, rfl⟩
          · have hb := Lib.hid (val_back' s.data.toList k m hm (by simpa using hks'))
            have hle := Lib.hid (Nat.lt_of_le_of_lt (val_drop_le (s.data.toList.take (k + 1)) m) hfit.out)
            have hms : m < s.size := by omega
            rw [show s.data.toList[m]'(by simpa using hms) = s[m] from rfl] at hb
            generalize hx : val ((s.data.toList.take (k + 1)).drop (m + 1)) = x at *
            have hx' := Lib.hid hx
            clear hx
            have hx2 : x * 128 ≤ 18446744073709551615 := by have := hb.out; have := hle.out; omega
            go_wp2_with fail
            go_round
            case rel =>
              have e4 : (x : Int) * 128 + (s[m].toNat : Int) % 128 = ((val ((s.data.toList.take (k + 1)).drop m) : Nat) : Int) := by
                have h1 := hb.out; omega
              by_cases hm0 : m = 0
              · refine .inr ⟨by rw [hm0]; rfl, ?_⟩
                rw [e4, hm0]; rfl
              · refine .inl ⟨m - 1, by go_num, by omega, ?_⟩
                rw [e4, Nat.sub_add_cancel (by omega)]
            case measure => simp [intOf]
          · go_wp2_with fail
            go_ret3
            exact ⟨by rw [hRR.out]; rfl, rfl⟩

end Go.Proofs.Ytcecopdkaalfkaa.NumRd
