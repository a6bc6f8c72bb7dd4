/- pages without the blank ones at their end, plainly -/
import Derived.Test.YtohlkegmmbdlaaaDiskRef
namespace Go.Proofs.Ytohlkegmmbdlaaa.DiskP
open Go.RowKit K

/-- how many pages stand there up to the last one that is not blank -/
def tl : List ByteArray → Nat
  | [] => 0
  | x :: l => if tl l = 0 then (if x.size = 0 then 0 else 1) else tl l + 1
def trim (l : List ByteArray) : List ByteArray := l.take (tl l)

theorem tl_le : ∀ l, tl l ≤ l.length
  | [] => Nat.le_refl _
  | x :: l => by
    have := tl_le l
    unfold tl
    rw [List.length_cons]
    split
    · split <;> omega
    · omega

theorem tl_snoc (l : List ByteArray) (s : ByteArray) : tl (l ++ [s]) = if 0 < s.size then l.length + 1 else tl l := by
  induction l with
  | nil => unfold tl; simp only [List.nil_append, tl, if_true]; by_cases h : s.size = 0 <;> simp [h] <;> omega
  | cons x l ih =>
    rw [List.cons_append]
    unfold tl
    rw [ih]
    by_cases h : 0 < s.size
    · simp [h]
    · simp [h]

theorem tl_nonblank (l : List ByteArray) (h : 0 < tl l) : ∃ s, l[tl l - 1]? = some s ∧ 0 < s.size := by
  induction l with
  | nil => simp [tl] at h
  | cons x l ih =>
    unfold tl at h ⊢
    by_cases h0 : tl l = 0
    · rw [if_pos h0] at h ⊢
      by_cases hx : x.size = 0
      · rw [if_pos hx] at h; omega
      · rw [if_neg hx]; exact ⟨x, rfl, by omega⟩
    · rw [if_neg h0]
      obtain ⟨s, h1, h2⟩ := ih (by omega)
      refine ⟨s, ?_, h2⟩
      rw [show tl l + 1 - 1 = (tl l - 1) + 1 by omega, List.getElem?_cons_succ]
      exact h1

theorem blank_behind (l : List ByteArray) (j : Nat) (s : ByteArray) (hj : l[j]? = some s) (h : tl l ≤ j) : s.size = 0 := by
  induction l generalizing j with
  | nil => simp at hj
  | cons x l ih =>
    unfold tl at h
    cases j with
    | zero =>
      simp only [List.getElem?_cons_zero, Option.some.injEq] at hj
      subst hj
      split at h
      · split at h
        · assumption
        · omega
      · omega
    | succ j =>
      rw [List.getElem?_cons_succ] at hj
      refine ih j hj ?_
      split at h
      · omega
      · omega

theorem blank_eq {s : ByteArray} (h : s.size = 0) : s = ⟨#[]⟩ := by
  obtain ⟨d⟩ := s
  exact congrArg ByteArray.mk (Array.eq_empty_of_size_eq_zero h)

theorem pageAt_trim (l : List ByteArray) (n : Int) : pageAt (trim l) n = pageAt l n := by
  unfold pageAt trim
  split
  · simp only [List.getD_eq_getElem?_getD]
    by_cases h : n.toNat < tl l
    · rw [List.getElem?_take_of_lt h]
    · rw [List.getElem?_take_eq_none (by omega)]
      cases e : l[n.toNat]? with
      | none => rfl
      | some s => rw [blank_eq (blank_behind l _ s e (by omega))]; rfl
  · rfl

/-- two lists of pages without blank ones at their end that read alike are one -/
theorem trim_ext (l m : List ByteArray) (h : ∀ n : Nat, pageAt l n = pageAt m n) : trim l = trim m := by
  have key : ∀ l m : List ByteArray, (∀ n : Nat, pageAt l n = pageAt m n) → tl l ≤ tl m := by
    intro l m h
    rcases Nat.eq_zero_or_pos (tl l) with h0 | h0
    · omega
    · obtain ⟨s, h1, h2⟩ := tl_nonblank l h0
      have h3 := h (tl l - 1)
      unfold pageAt at h3
      rw [if_pos (by omega), if_pos (by omega), Int.toNat_natCast, List.getD_eq_getElem?_getD, List.getD_eq_getElem?_getD, h1] at h3
      cases e : m[tl l - 1]? with
      | none => rw [e] at h3; simp at h3; rw [h3] at h2; exact absurd h2 (by decide)
      | some t =>
        rw [e] at h3
        simp only [Option.getD_some] at h3
        subst h3
        rcases Nat.lt_or_ge (tl l - 1) (tl m) with h4 | h4
        · omega
        · have := blank_behind m _ s e h4; omega
  have ht : tl l = tl m := Nat.le_antisymm (key l m h) (key m l fun n => (h n).symm)
  unfold trim
  apply List.ext_getElem?
  intro i
  by_cases hi : i < tl l
  · rw [List.getElem?_take_of_lt hi, List.getElem?_take_of_lt (by omega)]
    have h1 := tl_le l
    have h2 := tl_le m
    have h3 := h i
    unfold pageAt at h3
    rw [if_pos (by omega), if_pos (by omega), Int.toNat_natCast, List.getD_eq_getElem?_getD, List.getD_eq_getElem?_getD, List.getElem?_eq_getElem (by omega), List.getElem?_eq_getElem (by omega)] at h3
    simpa [List.getElem?_eq_getElem (show i < l.length by omega), List.getElem?_eq_getElem (show i < m.length by omega)] using h3
  · rw [List.getElem?_take_eq_none (by omega), List.getElem?_take_eq_none (by omega)]

theorem trim_trim (l : List ByteArray) : trim (trim l) = trim l := trim_ext _ _ fun n => pageAt_trim l n

theorem lastBlank_trim (l : List ByteArray) : lastBlank (trim l) = false := by
  unfold lastBlank
  have h1 := tl_le l
  have hlen : (trim l).length = tl l := by unfold trim; rw [List.length_take]; omega
  rcases Nat.eq_zero_or_pos (tl l) with h0 | h0
  · rw [hlen, h0]; rfl
  · obtain ⟨s, h2, h3⟩ := tl_nonblank l h0
    have : (trim l)[(trim l).length - 1]? = some s := by
      rw [hlen]; unfold trim; rw [List.getElem?_take_of_lt (by omega)]; exact h2
    rw [List.getD_eq_getElem?_getD, this, Option.getD_some, decide_eq_false (show ¬ s.size = 0 by omega), Bool.and_false]

/-- pages whose last one is not blank -/
theorem trim_id (l : List ByteArray) (h : lastBlank l = false) : trim l = l := by
  unfold trim
  refine List.take_of_length_le ?_
  rcases Nat.eq_zero_or_pos l.length with h0 | h0
  · omega
  · unfold lastBlank at h
    rw [decide_eq_true h0, Bool.true_and, decide_eq_false_iff_not, List.getD_eq_getElem?_getD, List.getElem?_eq_getElem (by omega), Option.getD_some] at h
    rcases Nat.lt_or_ge (l.length - 1) (tl l) with h1 | h1
    · omega
    · exact absurd (blank_behind l (l.length - 1) _ (List.getElem?_eq_getElem (by omega)) h1) h

/-! ### what lands -/
/-- the writes of a mask, done on pages -/
def settled (p : List ByteArray) (q : List Wr) (m : Int) : List ByteArray := trim ((List.range 32).map fun no : Nat => lastOf (pageAt p (no : Int)) q m (no : Int))

theorem pageAt_settled (p : List ByteArray) (q : List Wr) (m : Int) (n : Int) : pageAt (settled p q m) n = if 0 ≤ n ∧ n < 32 then lastOf (pageAt p n) q m n else ⟨#[]⟩ := by
  unfold settled
  rw [pageAt_trim]
  unfold pageAt
  by_cases h0 : 0 ≤ n
  · obtain ⟨k, rfl⟩ := Int.eq_ofNat_of_zero_le h0
    rw [if_pos h0, Int.toNat_natCast, List.getD_eq_getElem?_getD, List.getElem?_map]
    by_cases h : k < 32
    · rw [if_pos ⟨h0, by omega⟩, List.getElem?_range h]; rfl
    · rw [if_neg (by omega), List.getElem?_eq_none (by simpa using h)]; rfl
  · rw [if_neg h0, if_neg (by omega)]

end Go.Proofs.Ytohlkegmmbdlaaa.DiskP
