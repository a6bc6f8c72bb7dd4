/- Plain functions on numbers and lists of bytes: what num.Write and num.Read compute; no program is in sight. -/
namespace Go.Proofs.Ytcecopdkaalfkaa.NumP

/-- the bytes of a number: at most k + 1 of them -/
def numB : Nat → Nat → List UInt8
  | 0, n => [UInt8.ofNat n]
  | k + 1, n => if n < 128 then [UInt8.ofNat n] else UInt8.ofNat (n % 128 + 128) :: numB k (n / 128)

theorem numB_small (k n : Nat) (h : n < 128) : numB k n = [UInt8.ofNat n] := by
  cases k with
  | zero => rfl
  | succ k => simp [numB, h]

theorem numB_big (k n : Nat) (h : 128 ≤ n) : numB (k + 1) n = UInt8.ofNat (n % 128 + 128) :: numB k (n / 128) := by
  simp [numB]; omega

theorem numB_len (k n : Nat) : (numB k n).length ≤ k + 1 := by
  induction k generalizing n with
  | zero => simp [numB]
  | succ k ih =>
    by_cases h : n < 128
    · simp [numB, h]
    · have := ih (n / 128)
      simp [numB, h]; omega

/-- what a reading tells: the number, how many bytes, the error -/
abbrev Res := Nat × Nat × Nat

/-- the reading from byte i on, acc so far, f bytes still to come -/
def rd : Nat → Nat → Nat → List UInt8 → Res
  | 0, _, _, _ => (0, 0, 2)
  | _ + 1, _, _, [] => (0, 0, 5)
  | f + 1, i, acc, b :: r =>
    if i = 9 ∧ 1 < b.toNat then (0, 0, 2)
    else if b.toNat < 128 then
      if b.toNat = 0 ∧ 0 < i then (0, 0, 1) else (acc + b.toNat % 128 * 128 ^ i, i + 1, 0)
    else rd f (i + 1) (acc + b.toNat % 128 * 128 ^ i) r

/-- num.Read -/
def numR (l : List UInt8) : Res := rd 10 0 0 l

section
variable {f k acc : Nat} {l : List UInt8} {R : Res}

theorem rd_ten (h : rd f k acc (l.drop k) = R) (hkf : k + f = 10) (hk : 10 ≤ k) : R = (0, 0, 2) := by
  obtain rfl : f = 0 := by omega
  rw [← h]; rfl

theorem rd_none (h : rd f k acc (l.drop k) = R) (hkf : k + f = 10) (hk : k < 10) (hl : l.length ≤ k) : R = (0, 0, 5) := by
  obtain ⟨f, rfl⟩ : ∃ g, f = g + 1 := ⟨f - 1, by omega⟩
  rw [← h, List.drop_of_length_le hl]; rfl

theorem rd_cons (h : rd f k acc (l.drop k) = R) (hkf : k + f = 10) (hk : k < 10) (hl : k < l.length) :
    R = if k = 9 ∧ 1 < l[k].toNat then (0, 0, 2)
    else if l[k].toNat < 128 then
      if l[k].toNat = 0 ∧ 0 < k then (0, 0, 1) else (acc + l[k].toNat % 128 * 128 ^ k, k + 1, 0)
    else rd (f - 1) (k + 1) (acc + l[k].toNat % 128 * 128 ^ k) (l.drop (k + 1)) := by
  obtain ⟨f, rfl⟩ : ∃ g, f = g + 1 := ⟨f - 1, by omega⟩
  rw [← h, List.drop_eq_getElem_cons hl]; rfl

end

/-- the number that bytes tell, the least digit first -/
def val : List UInt8 → Nat
  | [] => 0
  | b :: r => b.toNat % 128 + 128 * val r

theorem val_append (a b : List UInt8) : val (a ++ b) = val a + 128 ^ a.length * val b := by
  induction a with
  | nil => simp [val]
  | cons x a ih => simp only [List.cons_append, val, ih, List.length_cons, Nat.pow_succ, Nat.mul_add, Nat.add_assoc]; rw [Nat.mul_comm (128 ^ a.length) 128, Nat.mul_assoc]

theorem val_lt (a : List UInt8) : val a < 128 ^ a.length := by
  induction a with
  | nil => simp [val]
  | cons x a ih => simp only [val, List.length_cons, Nat.pow_succ]; omega

theorem val_drop_le (a : List UInt8) (i : Nat) : val (a.drop i) ≤ val a := by
  have h := val_append (a.take i) (a.drop i)
  rw [List.take_append_drop] at h
  have h1 : 1 ≤ 128 ^ (a.take i).length := Nat.pow_pos (by decide)
  have := Nat.mul_le_mul_right (val (a.drop i)) h1
  omega

/-- as long as the bytes are great ones the reading goes on -/
theorem rd_many (l : List UInt8) (k : Nat) (hk : k ≤ 9) (hl : k ≤ l.length) (h : ∀ j (hj : j < l.length), j < k → 128 ≤ l[j].toNat) :
    rd (10 - k) k (val (l.take k)) (l.drop k) = numR l := by
  induction k with
  | zero => rfl
  | succ k ih =>
    have h1 := ih (by omega) (by omega) (fun j hj hjk => h j hj (by omega))
    have h2 := rd_cons h1 (by omega) (by omega) (show k < l.length by omega)
    have h3 := h k (by omega) (by omega)
    rw [if_neg (by omega), if_neg (by omega)] at h2
    rw [h2, List.take_succ_eq_append_getElem (show k < l.length by omega), val_append]
    simp [val, Nat.min_eq_left (show k ≤ l.length by omega), Nat.mul_comm]
    congr 1; omega

/-- one digit more, from behind -/
theorem val_back (l : List UInt8) (m : Nat) (hm : m < l.length) : val (l.drop m) = val (l.drop (m + 1)) * 128 + l[m].toNat % 128 := by
  rw [List.drop_eq_getElem_cons hm]; simp only [val]; omega

theorem val_back' (l : List UInt8) (k m : Nat) (hm : m ≤ k) (hk : k < l.length) :
    val ((l.take (k + 1)).drop m) = val ((l.take (k + 1)).drop (m + 1)) * 128 + (l[m]'(by omega)).toNat % 128 := by
  have h := val_back (l.take (k + 1)) m (by simp; omega)
  rw [List.getElem_take] at h
  exact h

/-- what is read as a number holds in 64 bits -/
theorem val_fits (l : List UInt8) (k : Nat) (hk : k ≤ 9) (hl : k < l.length) (h9 : ¬ (k = 9 ∧ 1 < l[k].toNat)) (hs : l[k].toNat < 128) :
    val (l.take (k + 1)) < 18446744073709551616 := by
  by_cases h : k = 9
  · subst h
    rw [List.take_succ_eq_append_getElem hl, val_append]
    have h1 := val_lt (l.take 9)
    have h2 : (l.take 9).length = 9 := by simp; omega
    rw [h2] at h1 ⊢
    have h3 : val [l[9]] ≤ 1 := by simp [val]; omega
    have := Nat.mul_le_mul_left (128 ^ 9) h3
    omega
  · have h1 := val_lt (l.take (k + 1))
    have h2 : 128 ^ (l.take (k + 1)).length ≤ 128 ^ 9 := Nat.pow_le_pow_right (by decide) (by simp; omega)
    omega

end Go.Proofs.Ytcecopdkaalfkaa.NumP
