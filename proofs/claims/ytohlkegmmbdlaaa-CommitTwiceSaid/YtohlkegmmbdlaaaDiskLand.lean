/- writes that land, plainly -/
import Derived.Test.YtohlkegmmbdlaaaDiskTrim
namespace Go.Proofs.Ytohlkegmmbdlaaa.DiskP
open Go.RowKit K

/-- the writes whose places are chosen -/
def kept : (Nat → Bool) → List Wr → List Wr
  | _, [] => []
  | b, x :: q => (if b 0 then [x] else []) ++ kept (fun i => b (i + 1)) q

theorem kept_snoc (q : List Wr) (x : Wr) (b : Nat → Bool) : kept b (q ++ [x]) = kept b q ++ if b q.length then [x] else [] := by
  induction q generalizing b with
  | nil => simp [kept]
  | cons y q ih => simp [kept, ih, List.append_assoc]

theorem kept_all (q : List Wr) (b : Nat → Bool) (h : ∀ i, i < q.length → b i = true) : kept b q = q := by
  induction q generalizing b with
  | nil => rfl
  | cons y q ih =>
    rw [kept, h 0 (by simp), ih _ fun i hi => h (i + 1) (by simpa using hi)]; rfl

theorem kept_none (q : List Wr) (b : Nat → Bool) (h : ∀ i, i < q.length → b i = false) : kept b q = [] := by
  induction q generalizing b with
  | nil => rfl
  | cons y q ih =>
    rw [kept, h 0 (by simp), ih _ fun i hi => h (i + 1) (by simpa using hi)]; rfl

theorem kept_mem (q : List Wr) (b : Nat → Bool) (x : Wr) (h : x ∈ kept b q) : x ∈ q := by
  induction q generalizing b with
  | nil => exact h
  | cons y q ih =>
    rw [kept, List.mem_append] at h
    rcases h with h | h
    · split at h
      · simp at h; subst h; exact List.mem_cons_self ..
      · simp at h
    · exact List.mem_cons_of_mem _ (ih _ h)

theorem kept_length (q : List Wr) (b : Nat → Bool) : (kept b q).length ≤ q.length := by
  induction q generalizing b with
  | nil => simp [kept]
  | cons y q ih =>
    rw [kept, List.length_append, List.length_cons]
    have := ih fun i => b (i + 1)
    split <;> simp <;> omega

theorem kept_congr (q : List Wr) (b c : Nat → Bool) (h : ∀ i, i < q.length → b i = c i) : kept b q = kept c q := by
  induction q generalizing b c with
  | nil => rfl
  | cons y q ih =>
    rw [kept, kept, h 0 (by simp), ih _ _ fun i hi => h (i + 1) (by simpa using hi)]

/-- bit i of a mask -/
def bitAt (m : Int) (i : Nat) : Bool := m / 2 ^ i % 2 == 1

theorem bitAt_succ (m : Int) (i : Nat) : bitAt m (i + 1) = bitAt (m / 2) i := by
  unfold bitAt
  rw [Int.pow_succ, Int.mul_comm, Int.ediv_ediv_of_nonneg (by decide)]

theorem bitAt_all (i : Nat) (h : i < 64) : bitAt 18446744073709551615 i = true := by
  have : ∀ i : Fin 64, bitAt 18446744073709551615 i.val = true := by decide +kernel
  exact this ⟨i, h⟩

theorem bitAt_zero (i : Nat) : bitAt 0 i = false := by unfold bitAt; rw [Int.zero_ediv]; rfl

/-- the last write to a page -/
def lastOn (s : ByteArray) (q : List Wr) (n : Int) : ByteArray := q.foldl (fun s x => if (x.1 == n) = true then x.2 else s) s

theorem lastOf_kept (s : ByteArray) (q : List Wr) (m n : Int) : lastOf s q m n = lastOn s (kept (bitAt m) q) n := by
  induction q generalizing s m with
  | nil => rfl
  | cons x q ih =>
    have e : (fun i => bitAt m (i + 1)) = bitAt (m / 2) := funext fun i => bitAt_succ m i
    rw [lastOf, ih, kept, e]
    have h0 : bitAt m 0 = (m % 2 == 1) := by unfold bitAt; rw [Int.pow_zero, Int.ediv_one]
    rw [h0]
    cases (m % 2 == 1) <;> simp [lastOn]

/-- writes done on pages -/
def doneOn (p : List ByteArray) (q : List Wr) : List ByteArray := q.foldl (fun p x => p.set x.1.toNat x.2) p

theorem doneOn_length (q : List Wr) (p : List ByteArray) : (doneOn p q).length = p.length := by
  induction q generalizing p with
  | nil => rfl
  | cons x q ih => rw [doneOn, List.foldl_cons]; exact (ih _).trans (by simp)

theorem doneOn_snoc (p : List ByteArray) (q : List Wr) (x : Wr) : doneOn p (q ++ [x]) = (doneOn p q).set x.1.toNat x.2 := by
  unfold doneOn; rw [List.foldl_append]; rfl

theorem pageAt_doneOn (q : List Wr) (p : List ByteArray) (n : Int) (h0 : 0 ≤ n) (hn : n < p.length) (hq : ∀ x ∈ q, 0 ≤ x.1) : pageAt (doneOn p q) n = lastOn (pageAt p n) q n := by
  induction q generalizing p with
  | nil => rfl
  | cons x q ih =>
    rw [doneOn, List.foldl_cons, lastOn, List.foldl_cons]
    refine (ih (p.set x.1.toNat x.2) (by simpa using hn) fun y hy => hq y (List.mem_cons_of_mem _ hy)).trans ?_
    unfold lastOn
    congr 1
    have hx := hq x (List.mem_cons_self ..)
    unfold pageAt
    rw [if_pos h0, if_pos h0, List.getD_eq_getElem?_getD, List.getElem?_set, List.getD_eq_getElem?_getD]
    by_cases e : x.1 = n
    · subst e
      rw [if_pos rfl, if_pos (by omega)]; simp
    · rw [if_neg (by omega)]
      have : (x.1 == n) = false := beq_eq_false_iff_ne.2 e
      rw [this]; rfl

def pad (p : List ByteArray) : List ByteArray := p ++ List.replicate (32 - p.length) ⟨#[]⟩

theorem pad_length (p : List ByteArray) (h : p.length ≤ 32) : (pad p).length = 32 := by unfold pad; rw [List.length_append, List.length_replicate]; omega

theorem pageAt_pad (p : List ByteArray) (n : Int) : pageAt (pad p) n = pageAt p n := by
  unfold pageAt pad
  split
  · rw [List.getD_eq_getElem?_getD, List.getD_eq_getElem?_getD, List.getElem?_append]
    split
    · rfl
    · rename_i h
      rw [List.getElem?_eq_none (l := p) (by omega), List.getElem?_replicate]
      split <;> rfl
  · rfl

theorem settled_done (p : List ByteArray) (q : List Wr) (m : Int) (b : Nat → Bool) (hp : p.length ≤ 32) (hb : ∀ i, i < q.length → b i = bitAt m i) (hq : ∀ x ∈ q, inPlace x.1 = true) :
    trim (doneOn (pad p) (kept b q)) = settled p q m := by
  rw [kept_congr q b (bitAt m) hb]
  unfold settled
  refine trim_ext _ _ fun n => ?_
  have hq' : ∀ x ∈ kept (bitAt m) q, 0 ≤ x.1 := fun x hx => by
    have := hq x (kept_mem _ _ _ hx)
    unfold inPlace at this
    simp at this
    omega
  by_cases h : n < 32
  · rw [pageAt_doneOn _ _ _ (by omega) (by rw [pad_length p hp]; omega) hq', pageAt_pad, ← lastOf_kept]
    unfold pageAt
    rw [if_pos (by omega), if_pos (by omega), Int.toNat_natCast, List.getD_eq_getElem?_getD, List.getD_eq_getElem?_getD, List.getElem?_map, List.getElem?_range h]
    rfl
  · unfold pageAt
    rw [if_pos (by omega), if_pos (by omega), Int.toNat_natCast, List.getD_eq_getElem?_getD, List.getD_eq_getElem?_getD,
      List.getElem?_eq_none (by rw [doneOn_length, pad_length p hp]; omega), List.getElem?_eq_none (by simp; omega)]

/-! ### the answers -/
def readR (p : List ByteArray) (q : List Wr) (n : Int) : ByteArray × Int :=
  if check p q ≠ 0 then (⟨#[]⟩, check p q) else if inPlace n = false then (⟨#[]⟩, 3) else (lastOn (pageAt p n) q n, 0)
def writeE (p : List ByteArray) (q : List Wr) (n : Int) (s : ByteArray) : Int :=
  if check p q ≠ 0 then check p q else if inPlace n = false then 3 else if tooLong s = true ∨ q.length = 48 then 2 else 0

theorem badWait_ok (q : List Wr) (h : badWait q = 0) : ∀ x ∈ q, inPlace x.1 = true ∧ tooLong x.2 = false := by
  induction q with
  | nil => intro x hx; cases hx
  | cons y q ih =>
    unfold badWait at h
    cases h1 : inPlace y.1 <;> rw [h1] at h
    · simp at h
    · cases h2 : tooLong y.2 <;> rw [h2] at h
      · intro x hx
        rcases List.mem_cons.1 hx with rfl | hx
        · exact ⟨h1, h2⟩
        · exact ih h x hx
      · simp at h

theorem badWait_of (q : List Wr) (h : ∀ x ∈ q, inPlace x.1 = true ∧ tooLong x.2 = false) : badWait q = 0 := by
  induction q with
  | nil => rfl
  | cons y q ih =>
    unfold badWait
    obtain ⟨h1, h2⟩ := h y (List.mem_cons_self ..)
    rw [h1, h2]
    simpa using ih fun x hx => h x (List.mem_cons_of_mem _ hx)

theorem check_ok (p : List ByteArray) (q : List Wr) (h : check p q = 0) :
    p.length ≤ 32 ∧ p.any tooLong = false ∧ lastBlank p = false ∧ q.length ≤ 48 ∧ ∀ x ∈ q, inPlace x.1 = true ∧ tooLong x.2 = false := by
  unfold check at h
  split at h
  · simp at h
  · rename_i h1
    split at h
    · simp at h
    · rename_i h2
      split at h
      · simp at h
      · rename_i h3
        exact ⟨by omega, by simpa using fun e => h1 (.inr e), by simpa using h2, by omega, badWait_ok q h⟩

theorem check_of (p : List ByteArray) (q : List Wr) (h1 : p.length ≤ 32) (h2 : p.any tooLong = false) (h3 : lastBlank p = false) (h4 : q.length ≤ 48) (h5 : ∀ x ∈ q, inPlace x.1 = true ∧ tooLong x.2 = false) : check p q = 0 := by
  unfold check
  rw [if_neg (by rw [h2]; simp; omega), h3, if_neg (by decide), if_neg (by omega), badWait_of q h5]

theorem check_range (p : List ByteArray) (q : List Wr) : check p q = 0 ∨ check p q = 1 ∨ check p q = 2 ∨ check p q = 3 := by
  have hb : ∀ q, badWait q = 0 ∨ badWait q = 1 ∨ badWait q = 2 ∨ badWait q = 3 := by
    intro q
    induction q with
    | nil => exact .inl rfl
    | cons y q ih => unfold badWait; split; (split; (exact .inr (.inr (.inl rfl))); exact ih); exact .inr (.inr (.inr rfl))
  unfold check
  split; · exact .inr (.inr (.inl rfl))
  split; · exact .inr (.inl rfl)
  split; · exact .inr (.inr (.inl rfl))
  exact hb q

end Go.Proofs.Ytohlkegmmbdlaaa.DiskP
