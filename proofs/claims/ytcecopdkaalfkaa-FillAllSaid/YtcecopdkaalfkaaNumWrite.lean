/- num.Write and the reference's NumBytes: each returns the bytes of a number. -/
import Derived.Test.YtcecopdkaalfkaaKit
import Derived.Test.YtcecopdkaalfkaaNumPure
namespace Go.Proofs.Ytcecopdkaalfkaa.NumW
open Go.RowKit NumP K

theorem elU8 : El Try.prog 45 5 (.int .u8 0) 1 1 := El.mk Try.underlying45 (by kernel_rfl) rfl (by decide) (by decide)

theorem or128 (y : Nat) (h : y < 256) : y ||| 128 = y % 128 + 128 := by
  have h1 : ∀ y : Fin 256, y.val ||| 128 = y.val % 128 + 128 := by decide +kernel
  exact h1 ⟨y, h⟩

set_option maxRecDepth 100000 in
set_option maxHeartbeats 400000 in
theorem write_any (n : Int) (w : World) (h0 : 0 ≤ n) (h1 : n ≤ 18446744073709551615) :
    Calls Try.prog 20 #[.int .u64 n] w fun e w' => e = .returned (.string ⟨(numB 9 n.toNat).toArray⟩) ∧ Below w.heap.size w w' := by
  have hu8 := Try.underlying5
  have H1 := Lib.hid h1; clear h1
  go_enter Try.func20, Try.ntmps20
  go_wp2
  go_loopw [0, 3] (fun m v wr => ∃ (k : Nat) (x : Nat) (acc : List UInt8), m = .int .u64 (x : Int) ∧ Hid (x < 128 ^ k * 2) ∧ k ≤ 9 ∧ Hid (acc.length = 9 - k) ∧ Hid (acc ++ numB k x = numB 9 n.toNat) ∧ 
        wr.ownsRow w.heap.size 5 1 v acc.length (acc.map (fun b => Value.int .u8 (b.toNat : Int))) ∧ Below w.heap.size w wr)
    (fun m _ _ => (intOf m).toNat)
  case atStart => exact ⟨9, n.toNat, [], by rw [Int.toNat_of_nonneg h0], (by have := H1.out; show n.toNat < 128 ^ 9 * 2; omega), by omega, rfl, rfl, World.ownsRow_nil _ _ _ _, Below.refl _ _⟩
  case round =>
    obtain ⟨k, x, acc, rfl, hx, hk, hacc, heq, hown, hbel⟩ := hrel
    go_wp2_with (first
      | (at_builtin; refine push elU8 (.tmp 8) (.tmp 12) rfl rfl _ _ _ rfl hown hbel (Nat.le_refl _) hbel.size [_] rfl rfl ?_ ?_ ?_)
      | (at_builtin; refine push elU8 (.tmp 14) (.tmp 17) rfl rfl _ _ _ rfl hown hbel (Nat.le_refl _) hbel.size [_] rfl rfl ?_ ?_ ?_))
    · intro u hu; simp at hu; subst hu; rfl
    · have := hacc.out; omega
    · intro v' w' hown' hbel' _ _
      have h128 : (128 : Int) ≤ (x : Int) := by assumption
      cases k with
      | zero => have := hx.out; simp at this; omega
      | succ k =>
        have e0 : bits .or .u8 ((x : Int) % 256) 128 = (((UInt8.ofNat (x % 128 + 128)).toNat : Nat) : Int) := by
          rw [show ((x : Int) % 256) = ((x % 256 : Nat) : Int) by omega, show (128 : Int) = ((128 : Nat) : Int) from rfl, u8_or_nat _ _ (by omega) (by omega), or128 _ (by omega)]
          simp; omega
        rw [e0] at hown'
        go_wp2_with fail
        go_roundw
        case rel =>
          refine ⟨k, x / 128, acc ++ [UInt8.ofNat (x % 128 + 128)], by go_num, ?_, by omega, ?_, ?_, ?_, hbel'⟩
          · show x / 128 < 128 ^ k * 2
            have : x < 128 ^ (k + 1) * 2 := hx.out
            rw [Nat.pow_succ] at this; omega
          · have := hacc.out; show (acc ++ [_]).length = 9 - k; simp; omega
          · have := heq.out
            rw [numB_big k x (by omega)] at this
            show (acc ++ [UInt8.ofNat (x % 128 + 128)]) ++ numB k (x / 128) = _
            rw [← this]; simp
          · simpa using hown'
        case measure => simp [intOf]; omega
    · intro u hu; simp at hu; subst hu; rfl
    · have := hacc.out; omega
    · intro v' w' hown' hbel' _ _
      have h128 : (x : Int) < 128 := by assumption
      have e1 : (acc.map (fun b => Value.int .u8 (b.toNat : Int))) ++ [Value.int .u8 (x : Int)] = (acc ++ numB k x).map (fun b => Value.int .u8 (b.toNat : Int)) := by
        rw [numB_small k x (by omega)]; simp; omega
      have hstr := run_text 45 9 (e1 ▸ hown') Try.underlying45 hu8 Try.underlying9
      rw [heq.out] at hstr
      go_wp2_with fail
      go_ret
      exact ⟨rfl, hbel'⟩

/-- a text of one byte -/
theorem one_any (n : Int) (w : World) (h0 : 0 ≤ n) (h1 : n ≤ 255) :
    Calls Try.prog 49 #[.int .i64 n] w fun e w' => e = .returned (.string ⟨[UInt8.ofNat n.toNat].toArray⟩) ∧ Below w.heap.size w w' := by
  have hu8 := Try.underlying5
  have hown := own_built (w := w) (B := w.heap.size) (e := 5) [Value.int .u8 n] 1 1 (Nat.le_refl _) (by decide) rfl
  have hstr := run_text (bs := [UInt8.ofNat n.toNat]) 45 9 (by
    have e : Value.int .u8 n = Value.int .u8 (((UInt8.ofNat n.toNat).toNat : Nat) : Int) := by simp; omega
    rw [e] at hown; exact hown) Try.underlying45 hu8 Try.underlying9
  have e : Value.int .u8 n = Value.int .u8 (((UInt8.ofNat n.toNat).toNat : Nat) : Int) := by simp; omega
  rw [← e] at hstr
  clear e hown
  go_enter Try.func49, Try.ntmps49
  go_wp2_with fail
  go_ret
  exact ⟨rfl, (Below.refl _ _).alloc (Nat.le_refl _) _⟩

theorem pow_le (k : Nat) (hk : k ≤ 9) : 128 ^ k * 2 ≤ 18446744073709551616 := by
  have h : 128 ^ k ≤ 128 ^ 9 := Nat.pow_le_pow_right (by decide) hk
  omega

set_option maxRecDepth 100000 in
theorem bytes_any (k : Nat) : ∀ (n : Int) (w : World), 0 ≤ n → n.toNat < 128 ^ k * 2 → k ≤ 9 →
    Calls Try.prog 28 #[.int .u64 n] w fun e w' => e = .returned (.string ⟨(numB k n.toNat).toArray⟩) ∧ Below w.heap.size w w' := by
  induction k with
  | zero =>
    intro n w h0 hn _
    have hn2 : n < 128 := by simp at hn; omega
    rw [numB_small _ _ (by omega)]
    clear hn
    go_enter Try.func28, Try.ntmps28
    go_wp2_with (go_at_call 49; refine (one_any _ _ (by omega) (by omega)).mono ?_; rintro e w' ⟨rfl, hb⟩)
    go_ret
    exact ⟨rfl, by assumption⟩
  | succ k ih =>
    intro n w h0 hn hk
    have hn' := Lib.hid hn; clear hn
    by_cases h : n < 128
    · rw [numB_small _ _ (by omega)]
      go_enter Try.func28, Try.ntmps28
      go_wp2_with (go_at_call 49; refine (one_any _ _ (by omega) (by omega)).mono ?_; rintro e w' ⟨rfl, hb⟩)
      go_ret
      exact ⟨rfl, by assumption⟩
    · rw [numB_big _ _ (by omega)]
      have hmax : n ≤ 18446744073709551615 := by have := hn'.out; have := pow_le (k + 1) hk; omega
      go_enter Try.func28, Try.ntmps28
      go_wp2_with (go_at_call 49; refine (one_any _ _ (by omega) (by omega)).mono ?_; rintro e w' ⟨rfl, hb⟩)
      refine (ih _ _ (by omega) (by have := hn'.out; rw [Nat.pow_succ] at this; omega) (by omega)).mono ?_
      rintro e w'' ⟨rfl, hb'⟩
      have hlen := numB_len k (n / 128).toNat
      go_wp2_with fail
      go_ret
      have e1 : (n / 128).toNat = n.toNat / 128 := by omega
      have e2 : (n % 128 + 128).toNat = n.toNat % 128 + 128 := by omega
      exact ⟨by rw [← e1, ← e2]; rfl, (Below.refl _ _).trans (hb.trans (hb'.mono hb.size))⟩

end Go.Proofs.Ytcecopdkaalfkaa.NumW
