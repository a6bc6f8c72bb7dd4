/- num.Read and the reference's NumOf: each reads a number. -/
import Derived.Test.YtcecopdkaalfkaaKit
import Derived.Test.YtcecopdkaalfkaaNumPure
namespace Go.Proofs.Ytcecopdkaalfkaa.NumRd
open Go.RowKit NumP K

/-- what is handed back of a reading -/
def resV (r : Res) : Value := .tuple #[.int .u64 (r.1 : Int), .int .i64 (r.2.1 : Int), .int .i64 (r.2.2 : Int)]

theorem join_u64 (k acc b : Nat) (hk : k ≤ 9) (ha : acc < 128 ^ k) (hb : b < 256) (h9 : k = 9 → b % 128 ≤ 1) :
    bits .or .u64 (acc : Int) (IntKind.u64.wrap (IntKind.u64.wrap (bits .andNot .u8 (b : Int) 128) * 2 ^ (7 * k))) = ((acc + b % 128 * 128 ^ k : Nat) : Int) := by
  have hp : (128 : Nat) ^ k = 2 ^ (7 * k) := by rw [Nat.pow_mul]
  have e1 : bits .andNot .u8 (b : Int) 128 = ((b % 128 : Nat) : Int) := by
    rw [show (128 : Int) = ((128 : Nat) : Int) from rfl, u8_andNot_nat _ _ hb (by omega), show 255 - 128 = 127 from rfl, nat_mask7]
  have hlt : b % 128 * 128 ^ k < 18446744073709551616 := by
    by_cases h : k = 9
    · subst h; have := h9 rfl; omega
    · have : 128 ^ k ≤ 128 ^ 8 := Nat.pow_le_pow_right (by decide) (by omega)
      have h2 : b % 128 < 128 := by omega
      calc b % 128 * 128 ^ k ≤ 127 * 128 ^ 8 := Nat.mul_le_mul (by omega) this
        _ < _ := by omega
  have hlt2 : acc < 18446744073709551616 := by
    have : 128 ^ k ≤ 128 ^ 9 := Nat.pow_le_pow_right (by decide) hk
    omega
  rw [e1, IntKind.wrap_u64, IntKind.wrap_u64]
  have e2 : (((b % 128 : Nat) : Int) % 18446744073709551616 * 2 ^ (7 * k)) % 18446744073709551616 = ((b % 128 * 128 ^ k : Nat) : Int) := by
    have h1 : ((b % 128 : Nat) : Int) % 18446744073709551616 = ((b % 128 : Nat) : Int) := by omega
    rw [h1, hp] at *
    rw [show ((b % 128 : Nat) : Int) * 2 ^ (7 * k) = ((b % 128 * 2 ^ (7 * k) : Nat) : Int) by push_cast; rfl]
    omega
  rw [e2, u64_or_nat _ _ hlt2 hlt, Nat.or_comm, nat_join (7 * k) _ _ ?_ (by rw [← hp]; exact ha), Nat.add_comm]
  rw [hp]; exact Nat.mul_mod_left _ _

theorem next_lt (k acc b : Nat) (ha : acc < 128 ^ k) : acc + b % 128 * 128 ^ k < 128 ^ (k + 1) := by
  rw [Nat.pow_succ]
  have h2 : b % 128 * 128 ^ k ≤ 127 * 128 ^ k := Nat.mul_le_mul_right _ (by omega)
  omega

set_option maxRecDepth 100000 in
set_option maxHeartbeats 800000 in
theorem read_any (s : ByteArray) (w : World) (hs : s.size ≤ 9223372036854775807) :
    Calls Try.prog 44 #[.string s] w fun e w' => e = .returned (resV (numR s.data.toList)) ∧ w = w' := by
  go_enter Try.func44, Try.ntmps44
  go_wp2
  go_loop [5, 8] (fun n i => ∃ (k f acc : Nat), i = .int .i64 (k : Int) ∧ k ≤ 10 ∧ Hid (k + f = 10) ∧ n = .int .u64 (acc : Int) ∧ Hid (acc < 128 ^ k) ∧ k ≤ s.size ∧ Hid (rd f k acc (s.data.toList.drop k) = numR s.data.toList))
    (fun _ i => 10 - (intOf i).toNat)
  case atStart => exact ⟨0, 10, 0, rfl, by omega, rfl, rfl, (by decide : 0 < 128 ^ 0), by omega, rfl⟩
  case round =>
    obtain ⟨k, f, acc, rfl, hk, hkf, rfl, hacc, hks, heq⟩ := hrel
    by_cases hk10 : 10 ≤ k
    · go_wp2_with fail
      go_ret3
      exact ⟨by rw [rd_ten heq.out hkf.out hk10]; rfl, rfl⟩
    by_cases hsz : s.size ≤ k
    · go_wp2_with fail
      go_ret3
      exact ⟨by rw [rd_none heq.out hkf.out (by omega) hsz]; rfl, rfl⟩
    have hR := Lib.hid (rd_cons heq.out hkf.out (by omega) (show k < s.data.toList.length by simpa using hsz))
    have hks' : k < s.size := by omega
    have hbt : (s[k].toNat : Nat) < 256 := UInt8.toNat_lt _
    have hget : s.data.toList[k]'(by simpa using hsz) = s[k] := rfl
    rw [hget] at hR
    clear hget
    by_cases h9 : k = 9
    · subst h9
      have h9' : (((9 : Nat) : Int) == 9) = true := rfl
      by_cases h1 : (1 : Int) < (s[9].toNat : Int)
      · go_wp2_with fail
        go_ret3
        exact ⟨by rw [hR.out, if_pos (by simp; omega)]; rfl, rfl⟩
      · have hj := Lib.hid (join_u64 9 acc s[9].toNat (by omega) hacc.out hbt (by omega))
        by_cases h0 : s[9].toNat = 0
        · go_wp2_with fail
          go_ret3
          exact ⟨by rw [hR.out]; simp [h0, resV], rfl⟩
        · go_wp2_with fail
          go_ret3
          refine ⟨?_, rfl⟩
          have := hj.out
          rw [hR.out, if_neg (by omega), if_pos (by omega), if_neg (by omega)]
          simp only [resV, ← this]
          rfl
    · have hj := Lib.hid (join_u64 k acc s[k].toNat (by omega) hacc.out hbt (fun h => absurd h h9))
      have h9' : ((k : Int) == 9) = false := by simp; omega
      by_cases h128 : (s[k].toNat : Int) < 128
      · by_cases h0 : s[k].toNat = 0
        · by_cases hk0 : 0 < k
          · go_wp2_with fail
            go_ret3
            exact ⟨by rw [hR.out]; simp [h9, h0, hk0, resV], rfl⟩
          · go_wp2_with fail
            go_ret3
            refine ⟨?_, rfl⟩
            have := hj.out
            rw [hR.out, if_neg (by omega), if_pos (by omega), if_neg (by omega)]
            simp only [resV, ← this]
            simp [h0]
        · go_wp2_with fail
          go_ret3
          refine ⟨?_, rfl⟩
          have := hj.out
          rw [hR.out, if_neg (by omega), if_pos (by omega), if_neg (by omega)]
          simp only [resV, ← this]
          rfl
      · go_wp2_with fail
        go_round
        case rel =>
          refine ⟨k + 1, f - 1, acc + s[k].toNat % 128 * 128 ^ k, by go_num, by omega, ?_, by rw [hj.out], next_lt k acc _ hacc.out, by omega, ?_⟩
          · have := hkf.out; show k + 1 + (f - 1) = 10; omega
          · have := hR.out
            rw [if_neg (by omega), if_neg (by omega)] at this
            exact this.symm
        case measure => simp [intOf]; omega

end Go.Proofs.Ytcecopdkaalfkaa.NumRd
