/- starlinglaw.LikeSelf -/
import Derived.Test.YthogcgnhhcbkkaaDoorPmPieces
import Derived.Test.YthogcgnhhcbkkaaDoorPmEscape
namespace Go.Proofs.YthogcgnhhcbkkaaDoor.Pm
open Go.RowKit LikeP
set_option linter.unusedVariables false
def spec (b : UInt8) : Prop := b.toNat = 37 ∨ b.toNat = 95 ∨ b.toNat = 92
theorem esc_sp {b : UInt8} (l : List UInt8) (h : spec b) : escL (b :: l) = 92 :: b :: escL l := by
  unfold spec at h; unfold escL; rw [List.flatMap_cons, if_pos h]; rfl
theorem esc_no {b : UInt8} (l : List UInt8) (h : ¬ spec b) : escL (b :: l) = b :: escL l := by
  unfold spec at h; unfold escL; rw [List.flatMap_cons, if_neg h]; rfl
theorem esc_append (a b : List UInt8) : escL (a ++ b) = escL a ++ escL b := by unfold escL; rw [List.flatMap_append]
theorem esc_same : ∀ a : List UInt8, (∀ x ∈ a, ¬ spec x) → escL a = a
  | [], _ => rfl
  | x :: a, h => by rw [esc_no _ (h x (List.mem_cons_self ..)), esc_same a fun y hy => h y (List.mem_cons_of_mem _ hy)]
theorem bt_zero (c : UInt8) (m : List UInt8) (lo hi : Nat) : bt (c :: m) 0 lo hi = (decide (lo ≤ c.toNat) && decide (c.toNat ≤ hi)) := rfl
theorem bt_succ (c : UInt8) (m : List UInt8) (i lo hi : Nat) : bt (c :: m) (i + 1) lo hi = bt m i lo hi := rfl
theorem bt_esc (m : List UInt8) (lo hi : Nat) (h : 128 ≤ lo) : bt (escL m) 0 lo hi = bt m 0 lo hi := by
  cases m with
  | nil => rfl
  | cons c m =>
    by_cases hc : spec c
    · have a0 : (92 : UInt8).toNat = 92 := rfl
      have a1 : ¬ lo ≤ (92 : UInt8).toNat := by omega
      have a2 : ¬ lo ≤ c.toNat := by unfold spec at hc; omega
      rw [esc_sp m hc, bt_zero, bt_zero, decide_eq_false a1, decide_eq_false a2]; rfl
    · rw [esc_no m hc, bt_zero, bt_zero]
theorem bt_low {m : List UInt8} (h : ∀ c m', m = c :: m' → c.toNat < 128) (lo hi : Nat) (hl : 128 ≤ lo) : bt m 0 lo hi = false := by
  cases m with
  | nil => rfl
  | cons c m => rw [bt_zero, decide_eq_false (by have := h c m rfl; omega)]; rfl
theorem letterLen_esc (b : UInt8) (m : List UInt8) : letterLen (b :: escL m) = letterLen (b :: m) := by
  by_cases h1 : ∀ c m', m = c :: m' → c.toNat < 128
  · have e1 : ∀ lo hi, 128 ≤ lo → bt m 0 lo hi = false := fun lo hi hl => bt_low h1 lo hi hl
    have e2 : ∀ lo hi, 128 ≤ lo → bt (escL m) 0 lo hi = false := fun lo hi hl => by rw [bt_esc m lo hi hl]; exact e1 lo hi hl
    unfold letterLen
    simp only [show ∀ l : List UInt8, ∀ lo hi, bt (b :: l) 1 lo hi = bt l 0 lo hi from fun _ _ _ => rfl, e1 128 191 (by decide), e1 160 191 (by decide), e1 128 159 (by decide), e1 144 191 (by decide), e1 128 143 (by decide),
      e2 128 191 (by decide), e2 160 191 (by decide), e2 128 159 (by decide), e2 144 191 (by decide), e2 128 143 (by decide), Bool.and_false, Bool.or_false, Bool.false_and]
  · obtain ⟨c, m', rfl, hc⟩ : ∃ c m', m = c :: m' ∧ 128 ≤ c.toNat := by
      cases m with
      | nil => exact absurd (fun c m' e => by cases e) h1
      | cons c m' => exact ⟨c, m', rfl, by
          rcases Nat.lt_or_ge c.toNat 128 with h | h
          · exact absurd (fun c' m'' e => by cases e; exact h) h1
          · exact h⟩
    have n1 : ¬ spec c := by unfold spec; omega
    rw [esc_no m' n1]
    have p1 : ∀ lo hi, bt (b :: c :: escL m') 1 lo hi = bt (b :: c :: m') 1 lo hi := fun _ _ => rfl
    have p0 : ∀ lo hi, bt (b :: c :: escL m') 0 lo hi = bt (b :: c :: m') 0 lo hi := fun _ _ => rfl
    have p2 : bt (b :: c :: escL m') 2 128 191 = bt (b :: c :: m') 2 128 191 := bt_esc m' 128 191 (by decide)
    have p3 : (bt (b :: c :: m') 2 128 191 && bt (b :: c :: escL m') 3 128 191) = (bt (b :: c :: m') 2 128 191 && bt (b :: c :: m') 3 128 191) := by
      show (bt m' 0 128 191 && bt (escL m') 1 128 191) = (bt m' 0 128 191 && bt m' 1 128 191)
      cases m' with
      | nil => rfl
      | cons d m'' =>
        by_cases hd : d.toNat < 128
        · rw [bt_zero, decide_eq_false (by omega)]; rfl
        · have n2 : ¬ spec d := by unfold spec; omega
          rw [esc_no m'' n2]
          show (_ && bt (escL m'') 0 128 191) = (_ && bt m'' 0 128 191)
          rw [bt_esc m'' 128 191 (by decide)]
    unfold letterLen
    simp only [p0, p1, p2, Bool.and_assoc, p3]
theorem bt_get {l : List UInt8} {i lo hi : Nat} (h : bt l i lo hi = true) {b : UInt8} (hb : l[i]? = some b) : lo ≤ b.toNat := by
  unfold bt at h
  rw [hb] at h
  simp only [Bool.and_eq_true, decide_eq_true_eq] at h
  exact h.1
theorem high_of (l : List UInt8) (h : 2 ≤ letterLen l) : ∀ y ∈ l.take (letterLen l), 128 ≤ y.toNat := by
  intro y hy
  obtain ⟨j, hj⟩ := List.getElem?_of_mem hy
  have hjl : j < letterLen l := by
    have := (List.getElem?_eq_some_iff.1 hj).1
    rw [List.length_take] at this; omega
  rw [List.getElem?_take_of_lt hjl] at hj
  by_cases hA : (bt l 0 194 223 && bt l 1 128 191) = true
  · have hl : letterLen l = 2 := by unfold letterLen; rw [if_pos hA]
    rw [hl] at hjl
    simp only [Bool.and_eq_true] at hA
    match j, hjl with
    | 0, _ => have := bt_get hA.1 hj; omega
    | 1, _ => exact bt_get hA.2 hj
  by_cases hB : ((bt l 0 224 224 && bt l 1 160 191 || bt l 0 225 236 && bt l 1 128 191 || bt l 0 237 237 && bt l 1 128 159 || bt l 0 238 239 && bt l 1 128 191) && bt l 2 128 191) = true
  · have hl : letterLen l = 3 := by unfold letterLen; rw [if_neg hA, if_pos hB]
    rw [hl] at hjl
    simp only [Bool.and_eq_true, Bool.or_eq_true] at hB
    obtain ⟨hB, h2⟩ := hB
    match j, hjl with
    | 0, _ => rcases hB with ((h | h) | h) | h <;> (have := bt_get h.1 hj; omega)
    | 1, _ => rcases hB with ((h | h) | h) | h <;> (have := bt_get h.2 hj; omega)
    | 2, _ => exact bt_get h2 hj
  by_cases hC : ((bt l 0 240 240 && bt l 1 144 191 || bt l 0 241 243 && bt l 1 128 191 || bt l 0 244 244 && bt l 1 128 143) && bt l 2 128 191 && bt l 3 128 191) = true
  · have hl : letterLen l = 4 := by unfold letterLen; rw [if_neg hA, if_neg hB, if_pos hC]
    rw [hl] at hjl
    simp only [Bool.and_eq_true, Bool.or_eq_true] at hC
    obtain ⟨⟨hC, h2⟩, h3⟩ := hC
    match j, hjl with
    | 0, _ => rcases hC with (h | h) | h <;> (have := bt_get h.1 hj; omega)
    | 1, _ => rcases hC with (h | h) | h <;> (have := bt_get h.2 hj; omega)
    | 2, _ => exact bt_get h2 hj
    | 3, _ => exact bt_get h3 hj
  · have hl : letterLen l = 1 := by unfold letterLen; rw [if_neg hA, if_neg hB, if_neg hC]
    omega
abbrev lit (x : ByteArray) : LikeP.Part := (0, x)
theorem esc_parts : ∀ l : List UInt8, partsE false ((pieces (escL l)).map bs) = ((pieces l).map bs).map lit ∧ openE false ((pieces (escL l)).map bs) = false := by
  refine pieces_ind ⟨by rw [show escL [] = [] from rfl, pieces_nil]; rfl, by rw [show escL [] = [] from rfl, pieces_nil]; rfl⟩ ?_
  intro l hl ih
  have h1 := letterLen_pos l
  have h2 := letterLen_le l hl
  cases l with
  | nil => exact absurd rfl hl
  | cons b m =>
    rw [pieces_cons _ hl]
    by_cases hb : spec b
    · have hn : letterLen (b :: m) = 1 := letterLen_ascii b m (by unfold spec at hb; omega)
      rw [hn] at ih ⊢
      rw [esc_sp m hb, pieces_ascii 92 _ (by decide), pieces_ascii b _ (by unfold spec at hb; omega)]
      exact ⟨by
        show partsE false (backslash :: bs [b] :: (pieces (escL m)).map bs) = lit (bs [b]) :: ((pieces m).map bs).map lit
        rw [partsE, if_pos rfl, partsE]
        exact congrArg _ ih.1, by
        show openE (!(!false && decide (backslash = backslash)) && decide (bs [b] = backslash)) _ = false
        rw [show (!(!false && decide (backslash = backslash)) && decide (bs [b] = backslash)) = false by rw [show decide (backslash = backslash) = true from decide_eq_true rfl]; rfl]
        exact ih.2⟩
    · obtain ⟨x, hx⟩ : ∃ x, x = (b :: m).take (letterLen (b :: m)) := ⟨_, rfl⟩
      have hxl : x.length = letterLen (b :: m) := by rw [hx, List.length_take]; omega
      have hxh : ∃ y, x = b :: y := by
        rw [hx]
        obtain ⟨k, hk⟩ : ∃ k, letterLen (b :: m) = k + 1 := ⟨letterLen (b :: m) - 1, by omega⟩
        rw [hk]; exact ⟨m.take k, rfl⟩
      have hxs : ∀ y ∈ x, ¬ spec y := by
        intro y hy
        rcases Nat.lt_or_ge (letterLen (b :: m)) 2 with h | h
        · obtain ⟨z, hz⟩ := hxh
          have : z = [] := by
            have := congrArg List.length hz
            rw [hxl, List.length_cons] at this
            exact List.length_eq_zero_iff.1 (by omega)
          rw [hz, this] at hy
          rw [List.mem_singleton.1 hy]; exact hb
        · have := high_of (b :: m) h y (by rw [← hx]; exact hy)
          unfold spec; omega
      have hsplit : b :: m = x ++ (b :: m).drop (letterLen (b :: m)) := by rw [hx, List.take_append_drop]
      have he : escL (b :: m) = x ++ escL ((b :: m).drop (letterLen (b :: m))) := by
        conv => lhs; rw [hsplit]
        rw [esc_append, esc_same x hxs]
      have hll : letterLen (escL (b :: m)) = letterLen (b :: m) := by rw [esc_no m hb]; exact letterLen_esc b m
      have hne : escL (b :: m) ≠ [] := by rw [esc_no m hb]; exact List.cons_ne_nil _ _
      rw [pieces_cons _ hne, hll]
      have ht : (escL (b :: m)).take (letterLen (b :: m)) = x := by rw [he]; exact List.take_left' hxl
      have hd : (escL (b :: m)).drop (letterLen (b :: m)) = escL ((b :: m).drop (letterLen (b :: m))) := by rw [he]; exact List.drop_left' hxl
      rw [ht, hd, ← hx]
      have hq : ∀ c : UInt8, spec c → bs x ≠ bs [c] := by
        intro c hc e
        obtain ⟨z, hz⟩ := hxh
        rw [hz] at e
        have := bs_inj e
        cases this
        exact hb hc
      have q1 : bs x ≠ backslash := hq 92 (by unfold spec; decide)
      have q2 : bs x ≠ percent := hq 37 (by unfold spec; decide)
      have q3 : bs x ≠ underscore := hq 95 (by unfold spec; decide)
      exact ⟨by
        rw [List.map_cons, List.map_cons, List.map_cons, partsE, if_neg q1, if_neg q2, if_neg q3, ih.1], by
        rw [List.map_cons]
        show openE (!false && decide (bs x = backslash)) _ = false
        rw [decide_eq_false q1]
        exact ih.2⟩
theorem glob_lits : ∀ (L t : List ByteArray), glob (L.map lit) t ↔ t = L
  | [], t => Iff.rfl
  | x :: L, t => by
    rw [List.map_cons, glob_one (by show (0 : Int) ≠ 37; decide)]
    constructor
    · rintro ⟨y, r, rfl, h1, h2⟩
      rw [(glob_lits L r).1 h2]
      have : x = y := by unfold stands at h1; simpa using h1
      rw [this]
    · rintro rfl
      exact ⟨x, L, rfl, by unfold stands; simp, (glob_lits L L).2 rfl⟩
theorem pre_lits : ∀ L : List ByteArray, preL (L.map lit) = (joined L, true)
  | [] => rfl
  | x :: L => by
    rw [List.map_cons, preL, if_pos rfl, pre_lits L]
    rfl
theorem self_facts (s : ByteArray) (hs : s.size ≤ 16) : patE (escS s) = 0 ∧ preS (pat (escS s)) = s ∧ preB (pat (escS s)) = true ∧
    (∀ t : ByteArray, t.size ≤ 16 → matE (escS s) t = 0 ∧ matB (escS s) t = decide (s = t)) ∧ (∀ t : ByteArray, 16 < t.size → matE (escS s) t = 2 ∧ matB (escS s) t = false) := by
  obtain ⟨h1, h2⟩ := esc_parts s.data.toList
  have hpc : pcs (escS s) = (pieces (escL s.data.toList)).map bs := by unfold pcs escS; rw [list_bs]
  have hz := escL_len s.data.toList
  rw [size_list] at hz
  have hp : patE (escS s) = 0 := by
    unfold patE
    rw [if_neg (by unfold escS; rw [bs_size]; omega), hpc, h2]; rfl
  have hpat : pat (escS s) = (pcs s).map lit := by unfold pat; rw [hpc, h1]; rfl
  refine ⟨hp, ?_, ?_, fun t ht => ?_, fun t ht => ?_⟩
  · unfold preS; rw [hpat, pre_lits, joined_pcs, bs_list]
  · unfold preB; rw [hpat, pre_lits]
  · have hE : matE (escS s) t = 0 := by unfold matE; rw [if_neg (by omega), if_neg (by omega)]
    refine ⟨hE, ?_⟩
    rw [Bool.eq_iff_iff, matB_iff, hpat, glob_lits, decide_eq_true_iff]
    constructor
    · rintro ⟨_, h⟩
      have := congrArg joined h
      rw [joined_pcs, joined_pcs] at this
      rw [← bs_list s, ← bs_list t, this]
    · rintro rfl; exact ⟨hE, rfl⟩
  · have hE : matE (escS s) t = 2 := by unfold matE; rw [if_neg (by omega), if_pos ht]
    exact ⟨hE, by rw [matB_eq, hE]; rfl⟩
theorem law_self (s t : ByteArray) : Pure Tryd.prog 9 [pStr s, pStr t] (pBool true) := by
  refine pure_of Tryd.func9 (by rfl) rfl (by kernel_rfl) (by rfl) ?_
  ((conv => whnf); repeat ((first | with_reducible refine BCase.tt ?_ | with_reducible refine BCase.ff ?_); (conv => whnf)))
  by_cases hs : 16 < s.size
  · refine CallP.pure _ rfl _ (p_escape_no s hs) ?_
    ((conv => whnf); repeat ((first | with_reducible refine BCase.tt ?_ | with_reducible refine BCase.ff ?_); (conv => whnf)))
    refine CallP.pure _ rfl _ p_begun ?_
    ((conv => whnf); repeat ((first | with_reducible refine BCase.tt ?_ | with_reducible refine BCase.ff ?_); (conv => whnf)))
    (repeat ((first | refine BCase.t (by decide) ?_ | refine BCase.f (by decide) ?_); ((conv => whnf); repeat ((first | with_reducible refine BCase.tt ?_ | with_reducible refine BCase.ff ?_); (conv => whnf)))))
    exact Ret.mk rfl
  obtain ⟨f1, f2, f3, f4, f5⟩ := self_facts s (by omega)
  have mp := p_prefix (escS s) f1
  rw [f2, f3] at mp
  have m1 := p_match (escS s) t
  refine CallP.pure _ rfl _ (p_escape s (by omega)) ?_
  ((conv => whnf); repeat ((first | with_reducible refine BCase.tt ?_ | with_reducible refine BCase.ff ?_); (conv => whnf)))
  refine CallP.pure _ rfl _ p_begun ?_
  ((conv => whnf); repeat ((first | with_reducible refine BCase.tt ?_ | with_reducible refine BCase.ff ?_); (conv => whnf)))
  (repeat ((first | refine BCase.t (by decide) ?_ | refine BCase.f (by decide) ?_); ((conv => whnf); repeat ((first | with_reducible refine BCase.tt ?_ | with_reducible refine BCase.ff ?_); (conv => whnf)))))
  by_cases ht : 16 < t.size
  · rw [(f5 t ht).1, (f5 t ht).2] at m1
    refine CallP.pure _ rfl _ m1 ?_
    ((conv => whnf); repeat ((first | with_reducible refine BCase.tt ?_ | with_reducible refine BCase.ff ?_); (conv => whnf)))
    refine CallP.pure _ rfl _ mp ?_
    ((conv => whnf); repeat ((first | with_reducible refine BCase.tt ?_ | with_reducible refine BCase.ff ?_); (conv => whnf)))
    (repeat ((first | refine BCase.t (by decide) ?_ | refine BCase.f (by decide) ?_); ((conv => whnf); repeat ((first | with_reducible refine BCase.tt ?_ | with_reducible refine BCase.ff ?_); (conv => whnf)))))
    refine BCase.t (decide_eq_true rfl) ?_
    ((conv => whnf); repeat ((first | with_reducible refine BCase.tt ?_ | with_reducible refine BCase.ff ?_); (conv => whnf)))
    refine BCase.t (by rw [show decide ((t.size : Int) ≤ 16) = false from decide_eq_false (by omega)]; rfl) ?_
    ((conv => whnf); repeat ((first | with_reducible refine BCase.tt ?_ | with_reducible refine BCase.ff ?_); (conv => whnf)))
    (repeat ((first | refine BCase.t (by decide) ?_ | refine BCase.f (by decide) ?_); ((conv => whnf); repeat ((first | with_reducible refine BCase.tt ?_ | with_reducible refine BCase.ff ?_); (conv => whnf)))))
    exact Ret.mk rfl
  · rw [(f4 t (by omega)).1, (f4 t (by omega)).2] at m1
    refine CallP.pure _ rfl _ m1 ?_
    ((conv => whnf); repeat ((first | with_reducible refine BCase.tt ?_ | with_reducible refine BCase.ff ?_); (conv => whnf)))
    refine CallP.pure _ rfl _ mp ?_
    ((conv => whnf); repeat ((first | with_reducible refine BCase.tt ?_ | with_reducible refine BCase.ff ?_); (conv => whnf)))
    (repeat ((first | refine BCase.t (by decide) ?_ | refine BCase.f (by decide) ?_); ((conv => whnf); repeat ((first | with_reducible refine BCase.tt ?_ | with_reducible refine BCase.ff ?_); (conv => whnf)))))
    refine BCase.t (decide_eq_true rfl) ?_
    ((conv => whnf); repeat ((first | with_reducible refine BCase.tt ?_ | with_reducible refine BCase.ff ?_); (conv => whnf)))
    refine BCase.t (by rw [show decide ((t.size : Int) ≤ 16) = true from decide_eq_true (by omega)]; rfl) ?_
    ((conv => whnf); repeat ((first | with_reducible refine BCase.tt ?_ | with_reducible refine BCase.ff ?_); (conv => whnf)))
    (repeat ((first | refine BCase.t (by decide) ?_ | refine BCase.f (by decide) ?_); ((conv => whnf); repeat ((first | with_reducible refine BCase.tt ?_ | with_reducible refine BCase.ff ?_); (conv => whnf)))))
    refine Ret.mk ?_
    simp
end Go.Proofs.YthogcgnhhcbkkaaDoor.Pm
