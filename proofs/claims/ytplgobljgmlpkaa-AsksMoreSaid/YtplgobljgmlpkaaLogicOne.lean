/- of two values just one of less, same, greater -/
import Derived.Test.YtplgobljgmlpkaaLogic3
import Derived.Test.YtplgobljgmlpkaaValOrd
namespace Go.Proofs.Ytplgobljgmlpkaa.LogicP
open Go.RowKit K ValP

theorem checkAll_two (a b : ValD) : checkAll [a, b] = 0 ↔ vcheck a = 0 ∧ vcheck b = 0 := by
  show (if vcheck a = 0 then (if vcheck b = 0 then 0 else vcheck b) else vcheck a) = 0 ↔ _
  (repeat' split) <;> omega

theorem asks_one (a b : ValD) :
    (∃ e g : Int, e ≠ 0 ∧ vless a b = (0, e) ∧ vsame a b = (0, e) ∧ vless b a = (0, g)) ∨
    (vless a b = (1, 0) ∧ vsame a b = (1, 0) ∧ vless b a = (1, 0) ∧ (a.1 = 0 ∨ b.1 = 0)) ∨
    ((a.1 ≠ 0 ∧ b.1 ≠ 0) ∧ ((vless a b = (2, 0) ∧ vsame a b = (0, 0) ∧ vless b a = (0, 0)) ∨ (vless a b = (0, 0) ∧ vsame a b = (2, 0) ∧ vless b a = (0, 0)) ∨ (vless a b = (0, 0) ∧ vsame a b = (0, 0) ∧ vless b a = (2, 0)))) := by
  have h1 := checkAll_two a b
  have h2 := checkAll_two b a
  unfold vless vsame checkedV
  by_cases he : checkAll [a, b] = 0
  · have hg : checkAll [b, a] = 0 := h2.2 ⟨(h1.1 he).2, (h1.1 he).1⟩
    rw [if_pos he, if_pos he, if_pos hg, he, hg]
    by_cases hn : a.1 = 0 ∨ b.1 = 0
    · refine .inr (.inl ⟨?_, ?_, ?_, hn⟩)
      · rw [show rless a b = 1 from if_pos hn]
      · rw [show rsame a b = 1 from if_pos hn]
      · rw [show rless b a = 1 from if_pos hn.symm]
    · rw [show rless a b = ofB (decide (order a b < 0)) from if_neg hn, show rsame a b = ofB (order a b == 0) from if_neg hn, show rless b a = ofB (decide (order b a < 0)) from if_neg (fun h => hn h.symm), order_swap a b]
      refine .inr (.inr ⟨⟨fun h => hn (.inl h), fun h => hn (.inr h)⟩, ?_⟩)
      generalize order a b = o
      rcases Int.lt_trichotomy o 0 with h | h | h
      · refine .inl ?_
        rw [decide_eq_true h, decide_eq_false (by omega : ¬ -o < 0), show (o == 0) = false by simp; omega]
        exact ⟨rfl, rfl, rfl⟩
      · subst h
        exact .inr (.inl ⟨rfl, rfl, rfl⟩)
      · refine .inr (.inr ?_)
        rw [decide_eq_false (by omega : ¬ o < 0), decide_eq_true (by omega : -o < 0), show (o == 0) = false by simp; omega]
        exact ⟨rfl, rfl, rfl⟩
  · have hg : checkAll [b, a] ≠ 0 := fun h => he (h1.2 ⟨(h2.1 h).2, (h2.1 h).1⟩)
    rw [if_neg he, if_neg he, if_neg hg]
    exact .inl ⟨_, _, he, rfl, rfl, rfl⟩

end Go.Proofs.Ytplgobljgmlpkaa.LogicP
