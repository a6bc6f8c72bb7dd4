/- plain laws: bits that are turned within 32 in a row change the checksum -/
import Derived.Test.YthenhfhffnjflaaDoorSumTurned
namespace Go.Proofs.YthenhfhffnjflaaDoor.SumW
open Go.RowKit SumP K

def bitAt (l : List UInt8) (p : Nat) : Bool := (l.getD (p / 8) 0).toNat.testBit (p % 8)

theorem bits8_at (b : UInt8) (k : Nat) (hk : k < 8) : (bits8 b)[k]? = some (b.toNat.testBit k) := by
  simp [bits8, hk]

theorem bitsOf_at (l : List UInt8) : ∀ p, p < 8 * l.length → (bitsOf l)[p]? = some (bitAt l p) := by
  induction l with
  | nil => intro p h; simp at h
  | cons b l ih =>
    intro p h
    rw [bitsOf_cons]
    by_cases h8 : p < 8
    · rw [List.getElem?_append_left (by rw [bits8_len]; exact h8), bits8_at b p h8]
      unfold bitAt
      rw [show p / 8 = 0 by omega, show p % 8 = p by omega]; rfl
    · rw [List.getElem?_append_right (by rw [bits8_len]; omega), bits8_len, ih (p - 8) (by simp at h; omega)]
      unfold bitAt
      rw [show p / 8 = (p - 8) / 8 + 1 by omega, show (p - 8) % 8 = p % 8 by omega]
      simp

theorem flip_other (l : List UInt8) (p q : Nat) (hpq : p ≠ q) : bitAt (flip l q) p = bitAt l p := by
  unfold bitAt flip
  by_cases h : p / 8 = q / 8
  · have hm : q % 8 ≠ p % 8 := by omega
    rw [h]
    by_cases hl : q / 8 < l.length
    · have e : (l.set (q / 8) (l.getD (q / 8) 0 ^^^ UInt8.ofNat (2 ^ (q % 8)))).getD (q / 8) 0 = l.getD (q / 8) 0 ^^^ UInt8.ofNat (2 ^ (q % 8)) := by
        simp [List.getD, hl]
      have hp : (2 : Nat) ^ (q % 8) < 256 := by
        have : 2 ^ (q % 8) ≤ 2 ^ 7 := Nat.pow_le_pow_right (by decide) (by omega)
        omega
      rw [e, UInt8.toNat_xor, Nat.testBit_xor, UInt8.toNat_ofNat', Nat.mod_eq_of_lt hp, Nat.testBit_two_pow]
      simp [hm]
    · rw [List.set_eq_of_length_le (by omega)]
  · have e : (l.set (q / 8) (l.getD (q / 8) 0 ^^^ UInt8.ofNat (2 ^ (q % 8)))).getD (p / 8) 0 = l.getD (p / 8) 0 := by
      simp only [List.getD, List.getElem?_set]
      rw [if_neg (by omega)]
    rw [e]

theorem turn_other (l : List UInt8) (a : Nat) (m : W) (n p : Nat) (h : p < a ∨ a + n ≤ p) : bitAt (turn l a m n) p = bitAt l p := by
  induction n with
  | zero => rfl
  | succ n ih =>
    simp only [turn]
    split
    · rw [flip_other _ _ _ (by omega)]; exact ih (by omega)
    · exact ih (by omega)

theorem bits8_inj {a b : UInt8} (h : bits8 a = bits8 b) : a = b := by
  apply UInt8.toNat_inj.1
  apply Nat.eq_of_testBit_eq
  intro k
  by_cases hk : k < 8
  · have := congrArg (fun l => l[k]?) h
    simpa [bits8_at _ k hk] using this
  · have ha := UInt8.toNat_lt a
    have hb := UInt8.toNat_lt b
    have hp : 2 ^ 8 ≤ 2 ^ k := Nat.pow_le_pow_right (by decide) (by omega)
    rw [Nat.testBit_lt_two_pow (by omega), Nat.testBit_lt_two_pow (by omega)]

theorem bitsOf_inj : ∀ a b : List UInt8, a.length = b.length → bitsOf a = bitsOf b → a = b
  | [], [], _, _ => rfl
  | [], _ :: _, h, _ => by simp at h
  | _ :: _, [], h, _ => by simp at h
  | x :: a, y :: b, h, hb => by
    rw [bitsOf_cons, bitsOf_cons] at hb
    obtain ⟨h1, h2⟩ := List.append_inj hb (by rw [bits8_len, bits8_len])
    rw [bits8_inj h1, bitsOf_inj a b (by simpa using h) h2]

theorem crcB_two (a b : List Bool) (r q : W) (h1 : a.length = b.length) :
    crcB (r ^^^ q) (List.zipWith (fun x y => x ^^ y) a b) = crcB r a ^^^ crcB q b := by
  induction a generalizing b r q with
  | nil =>
    cases b with
    | nil => rfl
    | cons _ _ => simp at h1
  | cons x a ih =>
    cases b with
    | nil => simp at h1
    | cons y b =>
      simp only [List.zipWith_cons_cons, crcB, List.foldl_cons]
      rw [bstep_xor]
      exact ih b _ _ (by simpa using h1)

theorem zip_false : ∀ a b : List Bool, a.length = b.length → (∀ x ∈ List.zipWith (fun x y => x ^^ y) a b, x = false) → a = b
  | [], [], _, _ => rfl
  | [], _ :: _, h, _ => by simp at h
  | _ :: _, [], h, _ => by simp at h
  | x :: a, y :: b, h, hz => by
    have h1 := hz (x ^^ y) (by simp)
    have h2 := zip_false a b (by simpa using h) (fun z hz' => hz z (by simp [hz']))
    have h3 : x = y := by cases x <;> cases y <;> simp_all
    rw [h2, h3]

/-- a list that is false outside of 32 places from a on -/
theorem burst_form (D : List Bool) (a : Nat) (h : ∀ p x, D[p]? = some x → (p < a ∨ a + 32 ≤ p) → x = false) :
    ∃ (i c : Nat) (l : List Bool), D = List.replicate i false ++ l ++ List.replicate c false ∧ l.length ≤ 32 := by
  refine ⟨(D.take a).length, (D.drop (a + 32)).length, (D.drop a).take 32, ?_, by simp; omega⟩
  have e1 : List.replicate (D.take a).length false = D.take a := by
    symm; rw [List.eq_replicate_iff]
    refine ⟨rfl, fun x hx => ?_⟩
    obtain ⟨p, hp⟩ := List.getElem?_of_mem hx
    have hpa : p < a := by have := (List.getElem?_eq_some_iff.1 hp).1; simp at this; omega
    rw [List.getElem?_take_of_lt hpa] at hp
    exact h p x hp (.inl hpa)
  have e2 : List.replicate (D.drop (a + 32)).length false = D.drop (a + 32) := by
    symm; rw [List.eq_replicate_iff]
    refine ⟨rfl, fun x hx => ?_⟩
    obtain ⟨p, hp⟩ := List.getElem?_of_mem hx
    rw [List.getElem?_drop] at hp
    exact h _ x hp (.inr (by omega))
  rw [e1, e2, ← List.drop_drop, List.append_assoc, List.take_append_drop, List.take_append_drop]

theorem burst_shows (l : List UInt8) (a : Nat) (m : W) (h : more 0#32 l = more 0#32 (turn l a m 32)) : l = turn l a m 32 := by
  have h1 : crcB (~~~ 0#32) (bitsOf l) = crcB (~~~ 0#32) (bitsOf (turn l a m 32)) := not_inj h
  have hlen : (bitsOf l).length = (bitsOf (turn l a m 32)).length := by rw [bitsOf_len, bitsOf_len, turn_len]
  have h2 := crcB_two (bitsOf l) (bitsOf (turn l a m 32)) (~~~ 0#32) (~~~ 0#32) hlen
  rw [h1, BitVec.xor_self, BitVec.xor_self] at h2
  obtain ⟨i, c, b, hD, hb⟩ := burst_form (List.zipWith (fun x y => x ^^ y) (bitsOf l) (bitsOf (turn l a m 32))) a (by
    intro p x hx hp
    rw [List.getElem?_zipWith] at hx
    by_cases hpl : p < 8 * l.length
    · rw [bitsOf_at _ p hpl, bitsOf_at _ p (by rw [turn_len]; exact hpl), turn_other _ _ _ _ _ hp] at hx
      simpa using hx.symm
    · rw [List.getElem?_eq_none (by rw [bitsOf_len]; omega)] at hx
      simp at hx)
  have h3 := h2
  rw [hD] at h3
  have h4 := crcB_shows i c b hb h3
  refine bitsOf_inj _ _ (turn_len l a m 32).symm (zip_false _ _ hlen fun x hx => ?_)
  rw [hD] at hx
  rcases List.mem_append.1 hx with hx | hx
  · rcases List.mem_append.1 hx with hx | hx
    · exact (List.mem_replicate.1 hx).2
    · exact h4 x hx
  · exact (List.mem_replicate.1 hx).2

theorem turned_shows (l : List UInt8) (a : Int) (m : W) (h : more 0#32 l = more 0#32 (turned l a m)) : l = turned l a m := by
  unfold turned at *
  split
  · rfl
  · rename_i hn
    rw [if_neg hn] at h
    exact burst_shows l _ m h

theorem turned_len (l : List UInt8) (a : Int) (m : W) : (turned l a m).length = l.length := by
  unfold turned; split
  · rfl
  · exact turn_len _ _ _ _

end Go.Proofs.YthenhfhffnjflaaDoor.SumW
