/- Rows of elements of several cells; a slice of the call's own, later; texts that are one -/
import Derived.Test.YtmcmagfondjopaaGreatDoorYSlice
namespace Go.Proofs.YtmcmagfondjopaaGreatDoor.K
open Go.RowKit
theorem flat_at {α : Type} (f : α → List Value) (sz : Nat) (hf : ∀ x, (f x).length = sz) : ∀ (q : List α) (k : Nat) (hk : k < q.length) (j : Nat), j < sz → (q.flatMap f)[k * sz + j]? = (f q[k])[j]?
 | [], k, hk, _, _ => by simp at hk
 | x :: q, k, hk, j, hj => by
  rw [List.flatMap_cons]
  cases k with
  | zero => rw [List.getElem?_append_left (by rw [hf]; omega)]; simp
  | succ k =>
   rw [List.getElem?_append_right (by rw [hf, Nat.succ_mul]; omega), hf, show (k + 1) * sz + j - sz = k * sz + j by rw [Nat.succ_mul]; omega,
    flat_at f sz hf q k (by simpa using hk) j hj]
   rfl
theorem flat_len {α : Type} (f : α → List Value) (sz : Nat) (hf : ∀ x, (f x).length = sz) : ∀ q : List α, (q.flatMap f).length = q.length * sz
 | [] => by simp
 | x :: q => by rw [List.flatMap_cons, List.length_append, hf, flat_len f sz hf q, List.length_cons, Nat.succ_mul]; omega
theorem toList_iff (a b : ByteArray) : (a.toList = b.toList) = (a = b) := by
 rw [ByteArray.toList_eq, ByteArray.toList_eq]
 refine propext ⟨fun h => ?_, fun h => by rw [h]⟩
 obtain ⟨⟨x⟩⟩ := a
 obtain ⟨⟨y⟩⟩ := b
 exact congrArg (fun l : List UInt8 => ByteArray.mk ⟨l⟩) h
theorem toList_beq (a b : ByteArray) : (a.toList == b.toList) = decide (a = b) := by
 rw [Bool.eq_iff_iff, decide_eq_true_eq, beq_iff_eq, toList_iff]
theorem below_drewN {B : Nat} {a w : World} (h : Below B a w) (n : Nat) : Below B a (w.drewN n) := ⟨h.os, h.tape, h.output, h.size, h.block⟩
theorem own_later {w w' : World} {B e sz n : Nat} {v : Value} {cs : List Value} (h : w.ownsRow B e sz v n cs) (hb : Below w.heap.size w w') : w'.ownsRow B e sz v n cs := by
 obtain ⟨h0, h | ⟨g, cap, cur, h1, h2, h3, h4⟩⟩ := h
 ·exact ⟨h0, .inl h⟩
 ·exact ⟨h0, .inr ⟨g, cap, cur, h1, h2, by rw [hb.block g (Array.getElem?_eq_some_iff.1 h3).1]; exact h3, h4⟩⟩
theorem own_mono {w : World} {B B' e sz n : Nat} {v : Value} {cs : List Value} (h : w.ownsRow B e sz v n cs) (hb : B' ≤ B) : w.ownsRow B' e sz v n cs := by
 obtain ⟨h0, h | ⟨g, cap, cur, h1, h2, h3, h4⟩⟩ := h
 ·exact ⟨h0, .inl h⟩
 ·exact ⟨h0, .inr ⟨g, cap, cur, h1, Nat.le_trans hb h2, h3, h4⟩⟩
theorem own_take {w : World} {B e sz n : Nat} {a : Addr} {cap : Nat} {cs : List Value} (h : w.ownsRow B e sz (.slice (some a) n cap) n cs) (k : Nat) (hk : k ≤ n) : w.ownsRow B e sz (.slice (some a) k cap) k (cs.take (k * sz)) := by
 obtain ⟨h0, h | ⟨g, cap', cur, h1, h2, h3, h4, h5, h6, h7⟩⟩ := h
 ·simp at h
 ·simp only [Value.slice.injEq, Option.some.injEq, true_and] at h1
  obtain ⟨rfl, rfl⟩ := h1
  have hle : k * sz ≤ n * sz := Nat.mul_le_mul_right _ hk
  have hl : (cs.take (k * sz)).length = k * sz := by rw [List.length_take]; omega
  refine ⟨hl, .inr ⟨g, cap, cur, rfl, h2, h3, by omega, h5, h6, ?_⟩⟩
  rw [← h7, List.take_take, Nat.min_eq_left hle]
theorem own_set {w : World} {B e sz n : Nat} {v : Value} {cs : List Value} (h : w.ownsRow B e sz v n cs) {a : Addr} (ha : a.block < B) (x : Value) : (w.setCell a x).ownsRow B e sz v n cs := by
 obtain ⟨h0, h | ⟨g, cap, cur, h1, h2, h3, h4⟩⟩ := h
 ·exact ⟨h0, .inl h⟩
 ·exact ⟨h0, .inr ⟨g, cap, cur, h1, h2, by rw [heap_setCell_other _ _ _ _ (by omega)]; exact h3, h4⟩⟩
theorem own_slice {w : World} {B e sz n : Nat} {v : Value} {cs : List Value} (h : w.ownsRow B e sz v n cs) : ∃ a cap, v = .slice a n cap := by
 obtain ⟨h0, ⟨h, h'⟩ | ⟨g, cap, cur, h1, _⟩⟩ := h
 ·exact ⟨none, 0, by rw [h, h']⟩
 ·exact ⟨_, _, h1⟩
theorem own_drew {w : World} {B e sz n : Nat} {v : Value} {cs : List Value} (h : w.ownsRow B e sz v n cs) : w.drew.ownsRow B e sz v n cs := h
theorem bcell {W w1 : World} (hb : Below W.heap.size W w1) : (∀ b o, b < W.heap.size → w1.cell? ⟨b, o, none⟩ = W.cell? ⟨b, o, none⟩) ∧ (∀ b o, b < W.heap.size → w1.frozen? ⟨b, o, none⟩ = W.frozen? ⟨b, o, none⟩) :=
 ⟨fun b o h => hb.cell (p := ⟨b, o, none⟩) h, fun b o h => hb.frozen (p := ⟨b, o, none⟩) h⟩
theorem Seen.of_row {w : World} {g e : Nat} {cs : List Value} (h : RowIs w g e cs) (n cap : Nat) (hn : n ≤ cs.length) (hc : n ≤ cap) (hm : cap ≤ maxLen) : Seen w (.slice (some ⟨g, 0, none⟩) n cap) n 1 (cs.take n) := by
 refine ⟨by rw [List.length_take]; omega, _, cap, rfl, hc, hm, (fun e => by cases e), .inr ⟨g, 0, rfl, h.lt, fun j u hu => ?_⟩⟩
 have hj : j < (cs.take n).length := (List.getElem?_eq_some_iff.1 hu).1
 rw [List.length_take] at hj
 rw [Nat.zero_add, h.cell (show j < cs.length by omega)]
 rw [List.getElem?_take_of_lt (by omega), List.getElem?_eq_getElem (by omega)] at hu
 exact hu
def Box22 (g : Nat) (x0 x1 y0 y1 : Value) (W : World) : Prop :=
 W.cell? ⟨g, 0, none⟩ = some x0 ∧ W.cell? ⟨g, 1, none⟩ = some x1 ∧ W.cell? ⟨g + 1, 0, none⟩ = some y0 ∧ W.cell? ⟨g + 1, 1, none⟩ = some y1 ∧ W.frozen? ⟨g + 1, 0, none⟩ = false ∧ W.frozen? ⟨g + 1, 1, none⟩ = false
theorem Box22.made (w : World) (x0 x1 y0 y1 : Value) (e e' : TypeId) : Box22 w.heap.size x0 x1 y0 y1 ((w.alloc (.cells #[x0, x1] e)).alloc (.cells #[y0, y1] e')) := by
 have h0 : ((w.alloc (.cells #[x0, x1] e)).alloc (.cells #[y0, y1] e')).heap[w.heap.size]? = some (.cells #[x0, x1] e (0, 0)) := by
  rw [heap_alloc_old _ _ (by simp)]; exact heap_alloc_new _ _
 have h1 : ((w.alloc (.cells #[x0, x1] e)).alloc (.cells #[y0, y1] e')).heap[w.heap.size + 1]? = some (.cells #[y0, y1] e' (0, 0)) := by
  have := heap_alloc_new (w.alloc (.cells #[x0, x1] e)) (.cells #[y0, y1] e')
  simpa using this
 exact ⟨cell_of_row _ _ 0 _ _ _ h0, cell_of_row _ _ 1 _ _ _ h0, cell_of_row _ _ 0 _ _ _ h1, cell_of_row _ _ 1 _ _ _ h1, frozen_of_row _ _ 0 _ _ h1, frozen_of_row _ _ 1 _ _ h1⟩
theorem Box22.later {g : Nat} {x0 x1 y0 y1 : Value} {W W1 : World} (h : Box22 g x0 x1 y0 y1 W) (hb : Below W.heap.size W W1) (hg : g + 1 < W.heap.size) : Box22 g x0 x1 y0 y1 W1 := by
 obtain ⟨a, b, c, d, e, f⟩ := h
 obtain ⟨bc, bf⟩ := bcell hb
 exact ⟨(bc _ _ (by omega)).trans a, (bc _ _ (by omega)).trans b, (bc _ _ hg).trans c, (bc _ _ hg).trans d, (bf _ _ hg).trans e, (bf _ _ hg).trans f⟩
def Res2 (g : Nat) (y0 y1 : Value) (W : World) : Prop := W.cell? ⟨g, 0, none⟩ = some y0 ∧ W.cell? ⟨g, 1, none⟩ = some y1 ∧ W.frozen? ⟨g, 0, none⟩ = false ∧ W.frozen? ⟨g, 1, none⟩ = false
theorem Res2.later {g : Nat} {y0 y1 : Value} {W W1 : World} (h : Res2 g y0 y1 W) (hb : Below W.heap.size W W1) (hg : g < W.heap.size) : Res2 g y0 y1 W1 := by
 obtain ⟨c, d, e, f⟩ := h
 obtain ⟨bc, bf⟩ := bcell hb
 exact ⟨(bc _ _ hg).trans c, (bc _ _ hg).trans d, (bf _ _ hg).trans e, (bf _ _ hg).trans f⟩
theorem Res2.new (w : World) (y0 y1 : Value) (e : TypeId) : Res2 w.heap.size y0 y1 (w.alloc (.cells #[y0, y1] e)) :=
 have h1 := heap_alloc_new w (.cells #[y0, y1] e)
 ⟨cell_of_row _ _ 0 _ _ _ h1, cell_of_row _ _ 1 _ _ _ h1, frozen_of_row _ _ 0 _ _ h1, frozen_of_row _ _ 1 _ _ h1⟩
theorem Res2.grown {g : Nat} {y0 y1 : Value} {W W1 : World} {B e sz n : Nat} {v : Value} {cs : List Value} (h : Res2 g y0 y1 W) (hown : W.ownsRow B e sz v n cs) (hgr : W.grownBy W1 v.ownBlock) (hg : g < B) (hgs : g < W.heap.size) : Res2 g y0 y1 W1 := by
 have hne : some g ≠ v.ownBlock := fun e => by have := (hown.lt g e.symm).1; omega
 obtain ⟨c, d, e, f⟩ := h
 have hb := hgr.block g hgs hne
 exact ⟨(World.cell?_of_block (a := ⟨g, 0, none⟩) hb).trans c, (World.cell?_of_block (a := ⟨g, 1, none⟩) hb).trans d, (World.frozen?_of_block (a := ⟨g, 0, none⟩) hb).trans e, (World.frozen?_of_block (a := ⟨g, 1, none⟩) hb).trans f⟩
theorem Res2.stored {g : Nat} {y0 y1 : Value} {W : World} (h : Res2 g y0 y1 W) (x0 x1 : Value) : Res2 g x0 x1 ((W.setCell ⟨g, 0, none⟩ x0).setCell ⟨g, 1, none⟩ x1) := by
 obtain ⟨c, d, e, f⟩ := h
 refine ⟨?_, ?_, ?_, ?_⟩
 ·rw [World.cell?_setCell_other _ _ _ _ (by simp)]; exact World.cell?_setCell_same _ _ _ c
 ·exact World.cell?_setCell_same _ _ _ ((World.cell?_setCell_other _ _ _ _ (by simp)).trans d)
 ·simpa using e
 ·simpa using f
theorem Res2.stored1 {g : Nat} {y0 y1 : Value} {W : World} (h : Res2 g y0 y1 W) (x1 : Value) : Res2 g y0 x1 (W.setCell ⟨g, 1, none⟩ x1) := by
 obtain ⟨c, d, e, f⟩ := h
 refine ⟨?_, ?_, ?_, ?_⟩
 ·rw [World.cell?_setCell_other _ _ _ _ (by simp)]; exact c
 ·exact World.cell?_setCell_same _ _ _ d
 ·simpa using e
 ·simpa using f
theorem Res2.other {g : Nat} {y0 y1 : Value} {W : World} (h : Res2 g y0 y1 W) {a : Addr} (ha : a.block ≠ g) (x : Value) : Res2 g y0 y1 (W.setCell a x) := by
 obtain ⟨c, d, e, f⟩ := h
 refine ⟨?_, ?_, ?_, ?_⟩
 ·rw [World.cell?_setCell_other _ _ _ _ (fun e => ha (by rw [e]))]; exact c
 ·rw [World.cell?_setCell_other _ _ _ _ (fun e => ha (by rw [e]))]; exact d
 ·simpa using e
 ·simpa using f
theorem own_apart {W W1 : World} {B B' e e' sz sz' n n' : Nat} {u v : Value} {cs ds : List Value} (hx : W.ownsRow B e sz v n cs) (hy : W.ownsRow B' e' sz' u n' ds) (he : e ≠ e') (hgr : W.grownBy W1 u.ownBlock) : W1.ownsRow B e sz v n cs := by
 refine hx.kept hgr ?_
 obtain ⟨_, ⟨rfl, _⟩ | ⟨g, cap, cur, rfl, _, h3, _⟩⟩ := hx
 ·exact .inl rfl
 ·right
  intro e1
  obtain ⟨_, ⟨rfl, _⟩ | ⟨g', cap', cur', rfl, _, h3', _⟩⟩ := hy
  ·simp [Value.ownBlock] at e1
  ·simp only [Value.ownBlock, Option.some.injEq] at e1
   subst e1
   rw [h3] at h3'
   simp only [Option.some.injEq, Obj.cells.injEq] at h3'
   exact he h3'.2.1
theorem cell_new (w : World) (y : Value) (e : TypeId) : (w.alloc (.cells #[y] e)).cell? ⟨w.heap.size, 0, none⟩ = some y := cell_of_row _ _ 0 _ _ _ (heap_alloc_new w _)
theorem alloc_below (w : World) (o : Obj) : Below w.heap.size w (w.alloc o) := (Below.refl _ _).alloc (Nat.le_refl _) _
end Go.Proofs.YtmcmagfondjopaaGreatDoor.K
