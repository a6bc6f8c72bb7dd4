/- leaf: a part with the next one's first entry more is too long -/
import Derived.Test.YtcecopdkaalfkaaPlGreedy
namespace Go.Proofs.Ytcecopdkaalfkaa.Pm
open Go.RowKit K NumP NumW NumRd NumZ NumL
set_option linter.unusedVariables false
set_option linter.unusedSimpArgs false
set_option maxRecDepth 100000

/-- lists of parts: none is empty, each fits, and none takes the next one's first entry -/
def partsOk : List (List EntryD) → Prop
  | [] => True
  | [p] => p ≠ [] ∧ entT p ≤ 244
  | p :: q :: r => p ≠ [] ∧ entT p ≤ 244 ∧ (∀ y ys, q = y :: ys → 244 < entT (p ++ [y])) ∧ partsOk (q :: r)
theorem grG_head : ∀ (l cur : List EntryD) (room : Nat), ∃ r t, grG l cur room = (cur ++ r) :: t
  | [], cur, _ => ⟨[], [], by rw [List.append_nil]; rfl⟩
  | x :: l, cur, room => by
    rw [grG_eq]
    split
    · exact ⟨[], _, by rw [List.append_nil]⟩
    · obtain ⟨r, t, h⟩ := grG_head l (cur ++ [x]) (room - (entB x).length)
      exact ⟨x :: r, t, by rw [h, List.append_assoc]; rfl⟩
theorem grG_parts : ∀ (l cur : List EntryD), cur ≠ [] → entT cur ≤ 244 → (∀ x ∈ l, (entB x).length ≤ 236) → partsOk (grG l cur (244 - entT cur))
  | [], cur, hc, ht, _ => ⟨hc, ht⟩
  | x :: l, cur, hc, ht, hx => by
    have hxl := hx x (List.mem_cons_self ..)
    have hl : ∀ y ∈ l, (entB y).length ≤ 236 := fun y hy => hx y (List.mem_cons_of_mem _ hy)
    rw [grG_eq]
    by_cases h : 244 - entT cur < (entB x).length
    · rw [if_pos h]
      have ih := grG_parts l [x] (by simp) (by rw [entT_one]; omega) hl
      rw [entT_one] at ih
      obtain ⟨r, t, hr⟩ := grG_head l [x] (244 - (entB x).length)
      rw [hr] at ih ⊢
      refine ⟨hc, ht, fun y ys e => ?_, ih⟩
      have e : x :: r = y :: ys := e
      cases e
      rw [entT_app, entT_one]
      omega
    · rw [if_neg h]
      have ih := grG_parts l (cur ++ [x]) (by simp) (by rw [entT_app, entT_one]; omega) hl
      rw [entT_app, entT_one] at ih
      rw [show 244 - entT cur - (entB x).length = 244 - (entT cur + (entB x).length) by omega]
      exact ih
theorem fillD_parts {l : List EntryD} (h : entChk l = 0) : partsOk (fillD l) ∧ (fillD l).flatten = l := by
  obtain ⟨h40, hrw, hg⟩ := entChk_ok h
  rw [fill_same h]
  cases l with
  | nil => exact ⟨trivial, rfl⟩
  | cons x l =>
    have hx := entB_len (hrw x (List.mem_cons_self ..))
    have := grG_parts l [x] (by simp) (by rw [entT_one]; omega) (fun y hy => entB_len (hrw y (List.mem_cons_of_mem _ hy)))
    rw [entT_one] at this
    exact ⟨this, grG_join l [x] _⟩
theorem parts_at : ∀ {B : List (List EntryD)}, partsOk B → ∀ (j : Nat) (h : j < B.length), B[j] ≠ [] ∧ entT B[j] ≤ 244 ∧ ∀ (h2 : j + 1 < B.length) y ys, B[j + 1] = y :: ys → 244 < entT (B[j] ++ [y])
  | [], _, j, h => by simp at h
  | [p], hp, 0, h => ⟨hp.1, hp.2, fun h2 => by simp at h2⟩
  | [p], hp, j + 1, h => by simp at h
  | p :: q :: r, hp, 0, h => ⟨hp.1, hp.2.1, fun h2 y ys e => hp.2.2.1 y ys e⟩
  | p :: q :: r, hp, j + 1, h => by
    have := parts_at hp.2.2.2 j (by simpa using h)
    exact ⟨this.1, this.2.1, fun h2 y ys e => this.2.2 (by simpa using h2) y ys e⟩
/-- a part, and a part with the next one's first entry, lie in the whole -/
theorem part_in : ∀ {B : List (List EntryD)} (j : Nat) (h : j < B.length), ∃ a, (B.flatten.drop a).take B[j].length = B[j] ∧ ∀ (h2 : j + 1 < B.length) y ys, B[j + 1] = y :: ys → (B.flatten.drop a).take (B[j].length + 1) = B[j] ++ [y]
  | [], j, h => by simp at h
  | p :: B, 0, h => by
    refine ⟨0, ?_, fun h2 y ys e => ?_⟩
    · rw [List.drop_zero, List.flatten_cons]
      exact List.take_left' rfl
    · rw [List.drop_zero, List.flatten_cons]
      cases B with
      | nil => simp at h2
      | cons q B =>
        have e : q = y :: ys := e
        subst e
        rw [List.flatten_cons, show p ++ (y :: ys ++ B.flatten) = (p ++ [y]) ++ (ys ++ B.flatten) by simp]
        exact List.take_left' (by simp)
  | p :: B, j + 1, h => by
    obtain ⟨a, h1, h2⟩ := part_in (B := B) j (by simpa using h)
    refine ⟨p.length + a, ?_, fun g y ys e => ?_⟩
    · rw [List.flatten_cons, ← List.drop_drop, List.drop_left' rfl]
      exact h1
    · rw [List.flatten_cons, ← List.drop_drop, List.drop_left' rfl]
      exact h2 (by simpa using g) y ys e
theorem part_pack {l : List EntryD} (h : entChk l = 0) (j : Nat) (hj : j < (fillD l).length) : (fillD l)[j] ≠ [] ∧ packE (fillD l)[j] = 0 ∧ ∀ (h2 : j + 1 < (fillD l).length) y ys, (fillD l)[j + 1] = y :: ys → packE ((fillD l)[j] ++ [y]) = 2 := by
  obtain ⟨hp, hf⟩ := fillD_parts h
  obtain ⟨p1, p2, p3⟩ := parts_at hp j hj
  obtain ⟨a, a1, a2⟩ := part_in (B := fillD l) j hj
  rw [hf] at a1 a2
  have c1 : entChk (fillD l)[j] = 0 := by rw [← a1]; exact entChk_take _ (entChk_drop _ h)
  refine ⟨p1, ?_, fun h2 y ys e => ?_⟩
  · unfold packE
    rw [if_neg (not_not_intro c1), if_neg (by rw [entW_len (entChk_ok c1).1]; omega)]
  · have c2 : entChk ((fillD l)[j] ++ [y]) = 0 := by rw [← a2 h2 y ys e]; exact entChk_take _ (entChk_drop _ h)
    have t := p3 h2 y ys e
    unfold packE
    rw [if_neg (not_not_intro c2), if_pos (by rw [entW_len (entChk_ok c2).1]; omega)]
end Go.Proofs.Ytcecopdkaalfkaa.Pm
