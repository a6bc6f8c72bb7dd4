/- Slices that are only read -/
import Derived.Test.YtmcmagfondjopaaGreatDoorYKit
import Derived.Laws.AppendOwnNone
namespace Go.Proofs.YtmcmagfondjopaaGreatDoor.K
open Go.RowKit
def Seen (w : World) (v : Value) (n sz : Nat) (cs : List Value) : Prop :=
 cs.length = n * sz ∧ ∃ a cap, v = .slice a n cap ∧ n ≤ cap ∧ cap ≤ maxLen ∧ (a = none → cap = 0) ∧
  (n = 0 ∨ ∃ b off, a = some ⟨b, off, none⟩ ∧ b < w.heap.size ∧ ∀ j u, cs[j]? = some u → w.cell? ⟨b, off + j, none⟩ = some u)
theorem Seen.later {w w' : World} {v : Value} {n sz : Nat} {cs : List Value} {B : Nat} (h : Seen w v n sz cs) (hb : Below B w w') (hB : w.heap.size ≤ B) : Seen w' v n sz cs := by
 obtain ⟨h0, a, cap, h1, h2, h3, hn, h4⟩ := h
 refine ⟨h0, a, cap, h1, h2, h3, hn, ?_⟩
 rcases h4 with h4 | ⟨b, off, h5, h6, h7⟩
 ·exact .inl h4
 ·refine .inr ⟨b, off, h5, by have := hb.size; omega, fun j u hu => ?_⟩
  have := h7 j u hu
  unfold World.cell? at this ⊢
  rw [hb.block b (by omega)]
  exact this
theorem Seen.of_own {w : World} {v : Value} {n sz B e : Nat} {cs : List Value} (h : w.ownsRow B e sz v n cs) : Seen w v n sz cs := by
 obtain ⟨h0, h | ⟨g, cap, cur, h1, h2, h3, h4, h5, h6, h7⟩⟩ := h
 ·obtain ⟨rfl, h⟩ := h
  exact ⟨h0, none, 0, by rw [h], by omega, Nat.zero_le _, fun _ => rfl, .inl h⟩
 ·refine ⟨h0, some ⟨g, 0, none⟩, cap, h1, h4, h5, (fun e => by cases e), .inr ⟨g, 0, rfl, (Array.getElem?_eq_some_iff.1 h3).1, fun j u hu => ?_⟩⟩
  rw [Nat.zero_add, cell_of_row _ _ _ _ _ _ h3]
  have hj : j < cs.length := (List.getElem?_eq_some_iff.1 hu).1
  have := congrArg (fun l => l[j]?) h7
  simp only [hu] at this
  rw [List.getElem?_take_of_lt (by omega)] at this
  simpa using this
theorem Seen.take {w : World} {a : Option Addr} {n cap sz k : Nat} {cs : List Value} (h : Seen w (.slice a n cap) n sz cs) (hk : k ≤ n) : Seen w (.slice a k cap) k sz (cs.take (k * sz)) := by
 obtain ⟨h0, a', cap', h1, h2, h3, hn, h4⟩ := h
 simp only [Value.slice.injEq, true_and] at h1
 obtain ⟨rfl, rfl⟩ := h1
 have : k * sz ≤ n * sz := Nat.mul_le_mul_right _ hk
 refine ⟨by rw [List.length_take]; omega, a, cap, rfl, by omega, h3, hn, ?_⟩
 rcases h4 with h4 | ⟨b, off, h5, h6, h7⟩
 ·exact .inl (by omega)
 ·refine .inr ⟨b, off, h5, h6, fun j u hu => h7 j u ?_⟩
  rw [List.getElem?_take] at hu
  split at hu
  ·exact hu
  ·simp at hu
theorem Seen.drop {w : World} {b off n cap sz k : Nat} {cs : List Value} (h : Seen w (.slice (some ⟨b, off, none⟩) n cap) n sz cs) (hk : k ≤ n) (hn : 0 < n) :
  Seen w (.slice (some ⟨b, off + k * sz, none⟩) (n - k) (cap - k)) (n - k) sz (cs.drop (k * sz)) := by
 obtain ⟨h0, a', cap', h1, h2, h3, hn, h4⟩ := h
 simp only [Value.slice.injEq, true_and] at h1
 obtain ⟨rfl, rfl⟩ := h1
 refine ⟨by rw [List.length_drop, h0, Nat.sub_mul], _, cap - k, rfl, by omega, by omega, (fun e => by cases e), ?_⟩
 rcases h4 with h4 | ⟨b', off', h5, h6, h7⟩
 ·omega
 ·simp only [Option.some.injEq, Addr.mk.injEq, and_true] at h5
  obtain ⟨rfl, rfl⟩ := h5
  refine .inr ⟨b, off + k * sz, rfl, h6, fun j u hu => ?_⟩
  rw [List.getElem?_drop] at hu
  rw [Nat.add_assoc]
  exact h7 _ u hu
theorem Seen.nil (w : World) (sz : Nat) : Seen w (.slice none 0 0) 0 sz [] := ⟨by simp, none, 0, rfl, Nat.le_refl _, Nat.zero_le _, fun _ => rfl, .inl rfl⟩
theorem spread {P : Program} {w0 w : World} {B : Nat} {ops : Array Oper} {rest : List Oper} {o : Oper} {a : Act} {Q : Exit → Act → World → Prop} {t e : TypeId} {z : Value} {sz by_ : Nat}
  (hel : El P t e z sz by_) (s x : Operand) (hg : o.guard = none)
  (ho : o.op = .call { callee := .builtin .append, args := #[s, x], argTypes := #[t, t] })
  (v : Value) (n : Nat) (cs : List Value) (hs : a.eval s = v) (hown : w.ownsRow B e sz v n cs) (hbel : Below w0.heap.size w0 w) (hB : w0.heap.size ≤ B) (hB' : B ≤ w.heap.size)
  (u : Value) (m : Nat) (news : List Value) (hx : a.eval x = u) (hseen : Seen w u m sz news) (h1 : ∀ u ∈ news, u.oneCell' = true)
  (hroom : (n + m) * by_ ≤ 140737488355328)
  (h : ∀ v' w', w'.ownsRow B e sz v' (n + m) (cs ++ news) → Below w0.heap.size w0 w' → w.grownBy w' v.ownBlock → wpList P ops Q rest (a.put o.dst v') w') :
  wpList P ops Q (o :: rest) a w := by
 obtain ⟨i, h1', h2, h3, h4, h5, h6, h7, h8⟩ := hel
 obtain ⟨hl, b, cap, rfl, hc, hm, hnone, hcells⟩ := hseen
 cases b with
 | none =>
  obtain rfl := hnone rfl
  obtain rfl : m = 0 := by omega
  have : news = [] := List.eq_nil_of_length_eq_zero (by simpa using hl)
  subst this
  refine wpList_append_own_none hg s x t ho B e i sz h1' h2 v n cs hs hown hx ?_
  exact h v w (by simpa using hown) hbel ⟨rfl, rfl, rfl, Nat.le_refl _, fun _ _ _ => rfl⟩
 | some ad =>
  have hle : n + m ≤ 140737488355328 := Nat.le_trans (Nat.le_mul_of_pos_right _ h8) hroom
  refine wpList_append_own _ hg s x t ho B e i z sz by_ h1' h2 h3 h4 h5 h6 h7 v n cs hs hown ad m cap news hx hl ?_ h1 (by unfold maxLen; omega) hroom hB' ?_
  ·intro j u hj
   rcases hcells with h0 | ⟨b, off, hb, _, hcl⟩
   ·have : news = [] := List.eq_nil_of_length_eq_zero (by rw [hl, h0, Nat.zero_mul])
    subst this; simp at hj
   ·obtain rfl := Option.some.inj hb
    have ha : (⟨b, off, none⟩ : Addr).add j = ⟨b, off + j, none⟩ := by unfold Addr.add; split <;> simp_all
    rw [ha]; exact hcl j u hj
  ·intro v' w' hown' hgr _
   exact h v' w' hown' (hbel.grown hgr hbel.size (fun k hk => Nat.le_trans hB (hown.lt k hk).1)) hgr
theorem alloc_setRow (w : World) (a b : Array Value) (e : TypeId) : (w.alloc (.cells a e)).setRow w.heap.size b = w.alloc (.cells b e) := by
 unfold World.setRow World.alloc
 congr 1
 apply Array.ext
 ·simp
 ·intro i h1 h2
  simp only [Array.getElem_modify]
  split
  ·rename_i hk; subst hk; simp
  ·rename_i hk
   simp only [Array.size_push] at h2
   rw [Array.getElem_push_lt (by omega), Array.getElem_push_lt (by omega)]
end Go.Proofs.YtmcmagfondjopaaGreatDoor.K
