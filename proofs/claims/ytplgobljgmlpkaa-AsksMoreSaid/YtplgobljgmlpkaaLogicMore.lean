/- In a longer list; between of equal ends -/
import Derived.Test.YtplgobljgmlpkaaLogicOne
namespace Go.Proofs.Ytplgobljgmlpkaa.LogicP
open Go.RowKit K ValP

theorem rin_snoc (v w : ValD) (l : List ValD) : rin v (l ++ [w]) = lor (rin v l) (rsame v w) := by
  unfold rin; rw [List.foldl_append]; rfl
theorem rin_cases (v : ValD) (l : List ValD) : rin v l = 0 ∨ rin v l = 1 ∨ rin v l = 2 := by
  have : ∀ (l : List ValD) (y : Int), y = 0 ∨ y = 1 ∨ y = 2 → (l.foldl (fun o x => lor o (rsame v x)) y = 0 ∨ l.foldl (fun o x => lor o (rsame v x)) y = 1 ∨ l.foldl (fun o x => lor o (rsame v x)) y = 2) := by
    intro l
    induction l with
    | nil => intro y h; exact h
    | cons z l ih =>
      intro y _
      refine ih _ ?_
      show lor y (rsame v z) = 0 ∨ lor y (rsame v z) = 1 ∨ lor y (rsame v z) = 2
      unfold lor; rcases plain_cases y with h | h | h <;> rcases plain_cases (rsame v z) with k | k | k <;> rw [h, k] <;> decide
  exact this l 0 (by simp)
theorem rsame_cases (a b : ValD) : rsame a b = 0 ∨ rsame a b = 1 ∨ rsame a b = 2 := by
  unfold rsame known ofB
  (repeat' split) <;> simp
theorem rbetween_same (v w : ValD) : rbetween v w w = rin v [w] := by
  show land (lnot (rless v w)) (lnot (rless w v)) = lor 0 (rsame v w)
  by_cases hn : v.1 = 0 ∨ w.1 = 0
  · rw [show rless v w = 1 from if_pos hn, show rless w v = 1 from if_pos hn.symm, show rsame v w = 1 from if_pos hn]; decide
  · rw [show rless v w = ofB (decide (order v w < 0)) from if_neg hn, show rsame v w = ofB (order v w == 0) from if_neg hn, show rless w v = ofB (decide (order w v < 0)) from if_neg (fun h => hn h.symm), order_swap v w]
    generalize order v w = o
    rcases Int.lt_trichotomy o 0 with h | h | h
    · rw [decide_eq_true h, decide_eq_false (by omega : ¬ -o < 0), show (o == 0) = false by simp; omega]; decide
    · subst h; decide
    · rw [decide_eq_false (by omega : ¬ o < 0), decide_eq_true (by omega : -o < 0), show (o == 0) = false by simp; omega]; decide
theorem lor_ge (x y : Int) (hx : x = 0 ∨ x = 1 ∨ x = 2) : x ≤ lor x y := by
  unfold lor; rcases hx with rfl | rfl | rfl <;> rcases plain_cases y with k | k | k <;> rw [k] <;> decide

/-- what AsksMore asks, where all four answers are right -/
theorem asks_more (v w : ValD) (l : List ValD) (h1 : (vin v l).2 = 0) (h2 : (vin v (l ++ [w])).2 = 0) (h3 : (vbetween v w w).2 = 0) (h4 : (vin v [w]).2 = 0) :
    (vin v l).1 ≤ (vin v (l ++ [w])).1 ∧ (w.1 = 0 → (vin v (l ++ [w])).1 ≠ 0) ∧ (vbetween v w w).1 = (vin v [w]).1 := by
  have inn : ∀ k : List ValD, (vin v k).2 = 0 → (vin v k).1 = rin v k := by
    intro k hk
    unfold vin at hk ⊢
    split at hk
    · simp at hk
    · rename_i hl
      rw [if_neg hl]
      split at hk
      · rename_i hv; exact absurd hk hv
      · rename_i hv
        rw [if_neg hv]
        show checkedV k (rin v k) = rin v k
        exact if_pos hk
  rw [inn _ h1, inn _ h2, inn _ h4, rin_snoc, show (vbetween v w w).1 = rbetween v w w from if_pos h3]
  refine ⟨lor_ge _ _ (rin_cases v l), fun hw => ?_, rbetween_same v w⟩
  rw [show rsame v w = 1 from if_pos (.inr hw)]
  unfold lor
  rcases plain_cases (rin v l) with k | k | k <;> rw [k] <;> decide

end Go.Proofs.Ytplgobljgmlpkaa.LogicP
