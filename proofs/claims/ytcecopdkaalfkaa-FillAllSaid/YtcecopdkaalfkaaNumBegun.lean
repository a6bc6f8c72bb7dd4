/- Signed numbers; and what the laws on numbers ask in any case -/
import Derived.Test.YtcecopdkaalfkaaNumWrite
import Derived.Test.YtcecopdkaalfkaaNumOf
import Derived.Test.YtcecopdkaalfkaaNumZig
namespace Go.Proofs.Ytcecopdkaalfkaa.NumL
open Go.RowKit K NumP NumW NumRd NumZ

/-- num.ReadSigned: where the reading fails the number is Zag of 0, which is 0 -/
def signV (r : Res) : Value := .tuple #[.int .i64 (zag (r.1 : Int)), .int .i64 (r.2.1 : Int), .int .i64 (r.2.2 : Int)]

/-- a reading that fails tells 0 and 0; what is read holds in 64 bits -/
theorem rd_facts (f k acc : Nat) (l : List UInt8) (hkf : k + f = 10) (ha : acc < 128 ^ k) : (rd f k acc l).1 < 18446744073709551616 ∧ ((rd f k acc l).2.2 ≠ 0 → (rd f k acc l).1 = 0 ∧ (rd f k acc l).2.1 = 0) ∧ (rd f k acc l).2.1 ≤ 10 ∧ (rd f k acc l).2.2 ≤ 5 := by
  induction f generalizing k acc l with
  | zero => simp [rd]
  | succ f ih =>
    cases l with
    | nil => simp [rd]
    | cons b r =>
      have hn := next_lt k acc b.toNat ha
      simp only [rd]
      split
      · simp
      · rename_i h9
        split
        · split
          · simp
          · refine ⟨?_, by simp, by simp; omega, by simp⟩
            show acc + b.toNat % 128 * 128 ^ k < _
            by_cases hk : k = 9
            · subst hk; omega
            · have : 128 ^ (k + 1) ≤ 128 ^ 9 := Nat.pow_le_pow_right (by decide) (by omega)
              omega
        · exact ih (k + 1) _ r (by omega) hn

theorem numR_fits (l : List UInt8) : (numR l).1 < 18446744073709551616 := (rd_facts 10 0 0 l rfl (by decide)).1
theorem numR_fail (l : List UInt8) (h : (numR l).2.2 ≠ 0) : (numR l).1 = 0 ∧ (numR l).2.1 = 0 := (rd_facts 10 0 0 l rfl (by decide)).2.1 h
theorem numR_place (l : List UInt8) : (numR l).2.1 ≤ 10 := (rd_facts 10 0 0 l rfl (by decide)).2.2.1
theorem numR_errno (l : List UInt8) : (numR l).2.2 ≤ 5 := (rd_facts 10 0 0 l rfl (by decide)).2.2.2

set_option maxRecDepth 100000 in
theorem rsigned_any (s : ByteArray) (w : World) (hs : s.size ≤ 9223372036854775807) :
    Calls Try.prog 46 #[.string s] w fun e w' => e = .returned (signV (numR s.data.toList)) ∧ w = w' := by
  have hr := read_any s
  have hfit := numR_fits s.data.toList
  generalize numR s.data.toList = r at *
  obtain ⟨n, k, e⟩ := r
  simp only [resV, signV] at *
  have hr' := Lib.hid hr
  clear hr
  go_enter Try.func46, Try.ntmps46
  go_wp2_with (first
    | (go_at_call 44; refine (hr'.out _ hs).mono ?_; rintro e w' ⟨rfl, rfl⟩)
    | (go_at_call 57; refine (zag_any _ _ (by omega) (by omega)).mono ?_; rintro e w' ⟨rfl, rfl⟩))
  go_ret3
  exact ⟨rfl, rfl⟩

set_option maxRecDepth 100000 in
theorem signedof_any (s : ByteArray) (w : World) (hs : s.size ≤ 9223372036854775807) :
    Calls Try.prog 32 #[.string s] w fun e w' => e = .returned (signV (numR s.data.toList)) ∧ w = w' := by
  have hr := numof_any s
  have hfit := numR_fits s.data.toList
  have hfail := numR_fail s.data.toList
  generalize numR s.data.toList = r at *
  obtain ⟨n, k, e⟩ := r
  simp only [resV, signV] at *
  have hr' := Lib.hid hr
  have hf' := Lib.hid hfail
  clear hr hfail
  by_cases he : ((e : Int) != 0) = true
  · have hz := hf'.out (by simpa using he)
    obtain ⟨rfl, rfl⟩ := hz
    go_enter Try.func32, Try.ntmps32
    go_wp2_with (first
      | (go_at_call 31; refine (hr'.out _ hs).mono ?_; rintro e w' ⟨rfl, rfl⟩))
    go_ret3
    exact ⟨rfl, rfl⟩
  · simp only [Bool.not_eq_true] at he
    go_enter Try.func32, Try.ntmps32
    go_wp2_with (first
      | (go_at_call 31; refine (hr'.out _ hs).mono ?_; rintro e w' ⟨rfl, rfl⟩)
      | (go_at_call 50; refine (zagof_any _ _ (by omega) (by omega)).mono ?_; rintro e w' ⟨rfl, rfl⟩))
    go_ret3
    exact ⟨rfl, rfl⟩

set_option maxRecDepth 100000 in
theorem signed_any (n : Int) (w : World) (h0 : -9223372036854775808 ≤ n) (h1 : n ≤ 9223372036854775807) :
    Calls Try.prog 43 #[.int .i64 n] w fun e w' => e = .returned (.string ⟨(numB 9 (zig n).toNat).toArray⟩) ∧ Below w.heap.size w w' := by
  have hz := zig_bd n h0 h1
  go_enter Try.func43, Try.ntmps43
  go_wp2_with (first
    | (go_at_call 56; refine (zig_any _ _ (by omega) (by omega)).mono ?_; rintro e w' ⟨rfl, rfl⟩)
    | (go_at_call 20; refine (write_any _ _ hz.1 hz.2).mono ?_; rintro e w' ⟨rfl, hb⟩))
  go_ret
  exact ⟨rfl, by assumption⟩

end Go.Proofs.Ytcecopdkaalfkaa.NumL
