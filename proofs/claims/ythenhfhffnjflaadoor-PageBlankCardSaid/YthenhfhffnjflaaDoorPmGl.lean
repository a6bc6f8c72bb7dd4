/- Which package-level variables are known, and what they hold. -/
import Derived.Test.YthenhfhffnjflaaDoorKit
import Derived.Shelf.Unicode.DecodeSlow
namespace Go.Proofs.YthenhfhffnjflaaDoor.Pm
open Go.RowKit
def GB (b : Nat) : Prop := b = 0 ∨ b = 1
def GL (w : World) : Prop := Lib.Utf8Tabs 0 1 w
theorem GL_keep {w w' : World} (h : GL w) (hb : ∀ b, GB b → w'.heap[b]? = w.heap[b]?) : GL w' := by
  have e1 := hb 0 (.inl rfl)
  have e2 := hb 1 (.inr rfl)
  have c1 : ∀ o, w'.cell? ⟨0, o, none⟩ = w.cell? ⟨0, o, none⟩ := fun o => by unfold World.cell?; rw [e1]
  have c2 : ∀ o, w'.cell? ⟨1, o, none⟩ = w.cell? ⟨1, o, none⟩ := fun o => by unfold World.cell?; rw [e2]
  exact ⟨fun c hc => (c1 _).trans (h.1 c hc), fun i hi => ⟨(c2 _).trans (h.2 i hi).1, (c2 _).trans (h.2 i hi).2⟩⟩
theorem GL_lt {w : World} (h : GL w) {b : Nat} (hb : GB b) : b < w.heap.size := by
  have lt : ∀ {a : Addr} {v : Value}, w.cell? a = some v → a.block < w.heap.size := fun {a v} hc => by
    rcases Nat.lt_or_ge a.block w.heap.size with h' | h'
    · exact h'
    · simp [World.cell?, Array.getElem?_eq_none h'] at hc
  rcases hb with rfl | rfl
  · exact lt (h.1 0 (by decide))
  · exact lt (h.2 0 (by decide)).1
end Go.Proofs.YthenhfhffnjflaaDoor.Pm
