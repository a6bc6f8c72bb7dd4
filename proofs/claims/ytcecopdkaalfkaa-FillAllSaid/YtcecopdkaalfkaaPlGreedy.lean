/- leaf: filling greedily is the document's filling -/
import Derived.Test.YtcecopdkaalfkaaPlFillOf
namespace Go.Proofs.Ytcecopdkaalfkaa.Pm
open Go.RowKit K NumP NumW NumRd NumZ NumL
set_option linter.unusedVariables false
set_option linter.unusedSimpArgs false
set_option maxRecDepth 100000

def entT (l : List EntryD) : Nat := (l.flatMap entB).length
theorem entT_app (a b : List EntryD) : entT (a ++ b) = entT a + entT b := by unfold entT; rw [List.flatMap_append, List.length_append]
theorem entT_one (x : EntryD) : entT [x] = (entB x).length := by unfold entT; simp
theorem numB_one {n : Nat} (h : n < 128) : (numB 9 n).length = 1 := by
  unfold numB
  rw [if_pos h]; rfl
theorem entW_len {l : List EntryD} (h : l.length ≤ 40) : (entW l).length = 1 + entT l := by
  unfold entW entT
  rw [List.length_append, numB_one (by omega)]
theorem entT_take (l : List EntryD) (i j : Nat) (h : i ≤ j) : entT (l.take i) ≤ entT (l.take j) := by
  have e : l.take i = (l.take j).take i := by rw [List.take_take, Nat.min_eq_left h]
  have := entT_app ((l.take j).take i) ((l.take j).drop i)
  rw [List.take_append_drop] at this
  rw [e]; omega
theorem fitN_at (L : List EntryD) (k : Nat) (hk : 1 ≤ k) (h1 : k = 1 ∨ (entW (L.take k)).length ≤ 245) : ∀ n, k ≤ n → (∀ j, k < j → j ≤ n → 245 < (entW (L.take j)).length) → fitN L n = k
  | 0, h, _ => by omega
  | 1, h, _ => by
    have : k = 1 := by omega
    rw [this]; rfl
  | n + 2, h, hj => by
    rw [fitN_eq]
    by_cases e : k = n + 2
    · subst e
      rw [if_neg (by rcases h1 with h1 | h1 <;> omega)]
    · rw [if_pos (hj (n + 2) (by omega) (Nat.le_refl _))]
      exact fitN_at L k hk h1 (n + 1) (by omega) fun j a b => hj j a (by omega)
/-- what Fill does: the rest, the list under way, the room that it has -/
def grG : List EntryD → List EntryD → Nat → List (List EntryD)
  | [], cur, _ => [cur]
  | x :: l, cur, room => if room < (entB x).length then cur :: grG l [x] (244 - (entB x).length) else grG l (cur ++ [x]) (room - (entB x).length)
theorem grG_eq (x : EntryD) (l cur : List EntryD) (room : Nat) : grG (x :: l) cur room = if room < (entB x).length then cur :: grG l [x] (244 - (entB x).length) else grG l (cur ++ [x]) (room - (entB x).length) := rfl
def fillGr : List EntryD → List (List EntryD)
  | [] => []
  | x :: l => grG l [x] (244 - (entB x).length)
theorem fillF_nil (f : Nat) : fillF f [] = [] := by cases f <;> rfl
theorem fill_greedy : ∀ (l cur : List EntryD) (f : Nat), cur ≠ [] → entT cur ≤ 244 → (cur ++ l).length ≤ 40 → (cur ++ l).length ≤ f + 1 → (∀ x ∈ l, (entB x).length ≤ 236) → fillF (f + 1) (cur ++ l) = grG l cur (244 - entT cur)
  | [], cur, f, hc, ht, h40, hf, _ => by
    rw [List.append_nil] at *
    have h0 : 0 < cur.length := List.length_pos_iff.2 hc
    have hw : (entW (cur.take cur.length)).length ≤ 245 := by rw [List.take_length, entW_len h40]; omega
    rw [fillF_eq, if_neg hc, fitN_at cur cur.length h0 (.inr hw) cur.length (Nat.le_refl _) (fun j a b => by omega), List.take_length, List.drop_length, fillF_nil]
    rfl
  | x :: l, cur, f, hc, ht, h40, hf, hx => by
    have h0 : 0 < cur.length := List.length_pos_iff.2 hc
    have hxl := hx x (List.mem_cons_self ..)
    have hlen : (cur ++ x :: l).length = cur.length + l.length + 1 := by rw [List.length_append, List.length_cons]; omega
    rw [grG_eq]
    by_cases h : 244 - entT cur < (entB x).length
    · rw [if_pos h]
      have tk : (cur ++ x :: l).take cur.length = cur := List.take_left' rfl
      have dk : (cur ++ x :: l).drop cur.length = x :: l := List.drop_left' rfl
      have hw : (entW ((cur ++ x :: l).take cur.length)).length ≤ 245 := by rw [tk, entW_len (by omega)]; omega
      have hbig : ∀ j, cur.length < j → j ≤ (cur ++ x :: l).length → 245 < (entW ((cur ++ x :: l).take j)).length := by
        intro j a b
        rw [entW_len (by rw [List.length_take]; omega)]
        have t1 := entT_take (cur ++ x :: l) (cur.length + 1) j (by omega)
        have e : (cur ++ x :: l).take (cur.length + 1) = cur ++ [x] := by
          rw [show cur ++ x :: l = (cur ++ [x]) ++ l by simp]
          exact List.take_left' (by simp)
        rw [e, entT_app, entT_one] at t1
        omega
      have hne : cur ++ x :: l ≠ [] := by simp
      rw [fillF_eq, if_neg hne, fitN_at _ cur.length h0 (.inr hw) _ (by omega) hbig, tk, dk]
      obtain ⟨g, rfl⟩ : ∃ g, f = g + 1 := ⟨f - 1, by omega⟩
      have ih := fill_greedy l [x] g (by simp) (by rw [entT_one]; omega) (by simp only [List.length_append, List.length_singleton]; omega) (by simp only [List.length_append, List.length_singleton]; omega) (fun y hy => hx y (List.mem_cons_of_mem _ hy))
      rw [entT_one] at ih
      show cur :: fillF (g + 1) ([x] ++ l) = _
      rw [ih]
    · rw [if_neg h]
      have ih := fill_greedy l (cur ++ [x]) f (by simp) (by rw [entT_app, entT_one]; omega) (by rw [List.append_assoc]; exact h40) (by rw [List.append_assoc]; exact hf) (fun y hy => hx y (List.mem_cons_of_mem _ hy))
      rw [List.append_assoc, entT_app, entT_one] at ih
      rw [show 244 - entT cur - (entB x).length = 244 - (entT cur + (entB x).length) by omega, ← ih]
      rfl
theorem fill_same {l : List EntryD} (h : entChk l = 0) : fillD l = fillGr l := by
  obtain ⟨h40, hrw, hg⟩ := entChk_ok h
  cases l with
  | nil => rfl
  | cons x l =>
    have hx := entB_len (hrw x (List.mem_cons_self ..))
    have := fill_greedy l [x] l.length (by simp) (by rw [entT_one]; omega) (by simpa using h40) (by simp) (fun y hy => entB_len (hrw y (List.mem_cons_of_mem _ hy)))
    rw [entT_one] at this
    exact this
/-- the parts, one behind the other, are all -/
theorem grG_join : ∀ (l cur : List EntryD) (room : Nat), (grG l cur room).flatten = cur ++ l
  | [], cur, _ => by simp [grG]
  | x :: l, cur, room => by
    rw [grG_eq]
    split
    · rw [List.flatten_cons, grG_join l [x]]; rfl
    · rw [grG_join l (cur ++ [x]), List.append_assoc]; rfl
end Go.Proofs.Ytcecopdkaalfkaa.Pm
