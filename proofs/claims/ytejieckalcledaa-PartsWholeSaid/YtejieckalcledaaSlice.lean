/- Slices that are only read -/
import Derived.Test.YtejieckalcledaaKit
namespace Go.Proofs.Ytejieckalcledaa.K
open Go.RowKit

/-- v is a slice of n elements; the elements' cells, sz for each, are cs -/
def Seen (w : World) (v : Value) (n sz : Nat) (cs : List Value) : Prop :=
  cs.length = n * sz ∧ ∃ a cap, v = .slice a n cap ∧ n ≤ cap ∧ cap ≤ maxLen ∧
    (n = 0 ∨ ∃ b off, a = some ⟨b, off, none⟩ ∧ b < w.heap.size ∧ ∀ j u, cs[j]? = some u → w.cell? ⟨b, off + j, none⟩ = some u)

theorem Seen.later {w w' : World} {v : Value} {n sz : Nat} {cs : List Value} {B : Nat} (h : Seen w v n sz cs) (hb : Below B w w') (hB : w.heap.size ≤ B) : Seen w' v n sz cs := by
  obtain ⟨h0, a, cap, h1, h2, h3, h4⟩ := h
  refine ⟨h0, a, cap, h1, h2, h3, ?_⟩
  rcases h4 with h4 | ⟨b, off, h5, h6, h7⟩
  · exact .inl h4
  · refine .inr ⟨b, off, h5, by have := hb.size; omega, fun j u hu => ?_⟩
    have := h7 j u hu
    unfold World.cell? at this ⊢
    rw [hb.block b (by omega)]
    exact this

/-- a slice of the call's own reads as what it holds -/
theorem Seen.of_own {w : World} {v : Value} {n sz B e : Nat} {cs : List Value} (h : w.ownsRow B e sz v n cs) : Seen w v n sz cs := by
  obtain ⟨h0, h | ⟨g, cap, cur, h1, h2, h3, h4, h5, h6, h7⟩⟩ := h
  · obtain ⟨rfl, h⟩ := h
    exact ⟨h0, none, 0, by rw [h], by omega, Nat.zero_le _, .inl h⟩
  · refine ⟨h0, some ⟨g, 0, none⟩, cap, h1, h4, h5, .inr ⟨g, 0, rfl, (Array.getElem?_eq_some_iff.1 h3).1, fun j u hu => ?_⟩⟩
    rw [Nat.zero_add, cell_of_row _ _ _ _ _ _ h3]
    have hj : j < cs.length := (List.getElem?_eq_some_iff.1 hu).1
    have := congrArg (fun l => l[j]?) h7
    simp only [hu] at this
    rw [List.getElem?_take_of_lt (by omega)] at this
    simpa using this

/-- a block that was laid last is written whole -/
theorem alloc_setRow (w : World) (a b : Array Value) (e : TypeId) : (w.alloc (.cells a e)).setRow w.heap.size b = w.alloc (.cells b e) := by
  unfold World.setRow World.alloc
  congr 1
  apply Array.ext
  · simp
  · intro i h1 h2
    simp only [Array.getElem_modify]
    split
    · rename_i hk; subst hk; simp
    · rename_i hk
      simp only [Array.size_push] at h2
      rw [Array.getElem_push_lt (by omega), Array.getElem_push_lt (by omega)]

end Go.Proofs.Ytejieckalcledaa.K
