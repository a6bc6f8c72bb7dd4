/- Plain laws on what num.Write and num.Read compute: reading goes back, writing goes back, no beginning of a number is a number. -/
import Derived.Test.YtcecopdkaalfkaaNumPure
namespace Go.Proofs.Ytcecopdkaalfkaa.NumP

theorem ofNat_toNat_lt (x : Nat) (h : x < 256) : (UInt8.ofNat x).toNat = x := by simp; omega

theorem rd_numB (g : Nat) : ∀ (i acc x : Nat) (beh : List UInt8), i + (g + 1) = 10 → x < 128 ^ g * 2 → (0 < i → 0 < x) →
    rd (g + 1) i acc (numB g x ++ beh) = (acc + x * 128 ^ i, i + (numB g x).length, 0) := by
  induction g with
  | zero =>
    intro i acc x beh hi hx hp
    simp only [Nat.pow_zero, Nat.one_mul] at hx
    simp only [numB, List.cons_append, List.nil_append, rd, List.length_cons, List.length_nil]
    rw [ofNat_toNat_lt x (by omega), if_neg (by omega), if_pos (by omega), if_neg (by omega), Nat.mod_eq_of_lt (by omega)]
  | succ g ih =>
    intro i acc x beh hi hx hp
    by_cases h : x < 128
    · rw [numB_small _ _ h]
      simp only [List.cons_append, List.nil_append, rd, List.length_cons, List.length_nil]
      rw [ofNat_toNat_lt x (by omega), if_neg (by omega), if_pos (by omega), if_neg (by omega), Nat.mod_eq_of_lt (by omega)]
    · rw [numB_big _ _ (by omega)]
      rw [List.cons_append]
      show (if i = 9 ∧ 1 < (UInt8.ofNat (x % 128 + 128)).toNat then _ else _) = _
      rw [ofNat_toNat_lt _ (by omega), if_neg (by omega), if_neg (by omega)]
      rw [Nat.pow_succ] at hx
      rw [ih (i + 1) _ (x / 128) beh (by omega) (by omega) (by omega)]
      have e : (x % 128 + 128) % 128 * 128 ^ i + x / 128 * 128 ^ (i + 1) = x * 128 ^ i := by
        rw [Nat.pow_succ, Nat.mul_comm (128 ^ i) 128, ← Nat.mul_assoc, ← Nat.add_mul]
        congr 1; omega
      simp only [List.length_cons, Prod.mk.injEq, and_true]
      omega

theorem numR_back (n : Nat) (hn : n < 18446744073709551616) (beh : List UInt8) : numR (numB 9 n ++ beh) = (n, (numB 9 n).length, 0) := by
  have := rd_numB 9 0 0 n beh rfl (by show n < 128 ^ 9 * 2; omega) (by omega)
  simpa [numR] using this

theorem rd_only (g : Nat) : ∀ (i acc n k : Nat) (l : List UInt8), i + (g + 1) = 10 → rd (g + 1) i acc l = (n, k, 0) →
    ∃ x, n = acc + x * 128 ^ i ∧ (0 < i → 0 < x) ∧ i < k ∧ k ≤ i + l.length ∧ numB g x = l.take (k - i) := by
  induction g with
  | zero =>
    intro i acc n k l hi h
    obtain rfl : i = 9 := by omega
    cases l with
    | nil => simp [rd] at h
    | cons b r =>
      simp only [rd] at h
      by_cases h1 : 1 < b.toNat
      · rw [if_pos ⟨trivial, h1⟩] at h; simp at h
      · rw [if_neg (by omega), if_pos (by omega)] at h
        by_cases h0 : b.toNat = 0
        · rw [if_pos ⟨h0, by omega⟩] at h; simp at h
        · rw [if_neg (by omega)] at h
          simp only [Prod.mk.injEq, and_true] at h
          obtain ⟨rfl, rfl⟩ := h
          exact ⟨b.toNat % 128, rfl, by omega, by omega, by simp; omega, by
            simp [numB, Nat.mod_eq_of_lt (show b.toNat < 128 by omega)]⟩
  | succ g ih =>
    intro i acc n k l hi h
    cases l with
    | nil => simp [rd] at h
    | cons b r =>
      simp only [rd] at h
      rw [if_neg (by omega)] at h
      by_cases h1 : b.toNat < 128
      · rw [if_pos h1] at h
        by_cases h0 : b.toNat = 0 ∧ 0 < i
        · rw [if_pos h0] at h; simp at h
        · rw [if_neg h0] at h
          simp only [Prod.mk.injEq, and_true] at h
          obtain ⟨rfl, rfl⟩ := h
          refine ⟨b.toNat % 128, rfl, by omega, by omega, by simp, ?_⟩
          rw [numB_small _ _ (by omega), Nat.mod_eq_of_lt h1, show i + 1 - i = 1 by omega]
          simp
      · rw [if_neg h1] at h
        have hb := UInt8.toNat_lt b
        obtain ⟨x, rfl, hp, hk, hkl, hx⟩ := ih (i + 1) _ n k r (by omega) h
        refine ⟨b.toNat % 128 + x * 128, ?_, by omega, by omega, by simp; omega, ?_⟩
        · rw [Nat.add_mul, Nat.pow_succ, Nat.mul_assoc, Nat.mul_comm (128 ^ i) 128]; omega
        · have := hp (by omega)
          rw [numB_big _ _ (by omega), show (b.toNat % 128 + x * 128) / 128 = x by omega, hx, show k - i = (k - (i + 1)) + 1 by omega, List.take_succ_cons]
          congr 1
          rw [show (b.toNat % 128 + x * 128) % 128 + 128 = b.toNat by omega]
          simp

theorem numR_only (l : List UInt8) (h : (numR l).2.2 = 0) : 1 ≤ (numR l).2.1 ∧ (numR l).2.1 ≤ l.length ∧ numB 9 (numR l).1 = l.take (numR l).2.1 := by
  obtain ⟨x, h1, _, h2, h3, h4⟩ := rd_only 9 0 0 (numR l).1 (numR l).2.1 l rfl (by
    show numR l = _
    rw [← h])
  simp at h1
  rw [h1]
  exact ⟨h2, by omega, by simpa using h4⟩

theorem rd_cut (g : Nat) : ∀ (i acc x k : Nat), i + (g + 1) = 10 → x < 128 ^ g * 2 → k < (numB g x).length →
    rd (g + 1) i acc ((numB g x).take k) = (0, 0, 5) := by
  induction g with
  | zero =>
    intro i acc x k hi hx hk
    simp [numB] at hk
    subst hk; rfl
  | succ g ih =>
    intro i acc x k hi hx hk
    by_cases h : x < 128
    · rw [numB_small _ _ h] at hk ⊢
      simp at hk
      subst hk; rfl
    · rw [numB_big _ _ (by omega)] at hk ⊢
      cases k with
      | zero => rfl
      | succ k =>
        rw [List.take_succ_cons]
        show (if i = 9 ∧ 1 < (UInt8.ofNat (x % 128 + 128)).toNat then _ else _) = _
        rw [ofNat_toNat_lt _ (by omega), if_neg (by omega), if_neg (by omega)]
        rw [Nat.pow_succ] at hx
        exact ih (i + 1) _ (x / 128) k (by omega) (by omega) (by simpa using hk)

theorem numR_cut (n k : Nat) (hn : n < 18446744073709551616) (hk : k < (numB 9 n).length) : numR ((numB 9 n).take k) = (0, 0, 5) :=
  rd_cut 9 0 0 n k rfl (by show n < 128 ^ 9 * 2; omega) hk

theorem numB_mono (g : Nat) : ∀ a b : Nat, a ≤ b → (numB g a).length ≤ (numB g b).length := by
  induction g with
  | zero => intro a b h; simp [numB]
  | succ g ih =>
    intro a b h
    by_cases ha : a < 128
    · rw [numB_small _ _ ha]
      by_cases hb : b < 128
      · rw [numB_small _ _ hb]; simp
      · rw [numB_big _ _ (by omega)]; simp
    · rw [numB_big _ _ (by omega), numB_big _ _ (by omega)]
      have := ih (a / 128) (b / 128) (by omega)
      simpa using this

theorem numB_more (g : Nat) : ∀ a : Nat, a < 128 ^ g * 2 → (numB (g + 1) a).length = (numB g a).length := by
  induction g with
  | zero => intro a h; simp at h; rw [numB_small 1 a (by omega), numB_small 0 a (by omega)]
  | succ g ih =>
    intro a h
    by_cases ha : a < 128
    · rw [numB_small _ _ ha, numB_small _ _ ha]
    · rw [numB_big (g + 1) a (by omega), numB_big g a (by omega)]
      rw [Nat.pow_succ] at h
      have := ih (a / 128) (by omega)
      simpa using this

theorem numB_digit (a : Nat) (h : 128 ≤ a) (hn : a < 18446744073709551616) : (numB 9 (a / 128)).length + 1 = (numB 9 a).length := by
  rw [numB_big 8 a h, numB_more 8 (a / 128) (by show a / 128 < 128 ^ 8 * 2; omega)]
  simp

end Go.Proofs.Ytcecopdkaalfkaa.NumP
