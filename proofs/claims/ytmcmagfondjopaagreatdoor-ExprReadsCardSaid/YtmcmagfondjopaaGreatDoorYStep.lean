/- append of a slice that is read, at one operation and at a step of a region that draws its order -/
import Derived.Test.YtmcmagfondjopaaGreatDoorYRws
import Derived.Laws.AppendOwnNone
namespace Go.Proofs.YtmcmagfondjopaaGreatDoor.K
open Go.RowKit
theorem wp_append_none {P : Program} {w : World} {o : Oper} {a : Act} {K : Act → World → Prop} {Q : Exit → Act → World → Prop} (s x : Operand) (t : TypeId)
  (ho : o.op = .call { callee := .builtin .append, args := #[s, x], argTypes := #[t, t] })
  (base : Nat) (e : TypeId) (i : TypeInfo) (size : Nat) (ht : P.underlying t = some (.slice e)) (hi : P.info? e = some i)
  (v : Value) (n : Nat) (xs : List Value) (hs : a.eval s = v) (hown : w.ownsRow base e size v n xs) (hx : a.eval x = .slice none 0 0)
  (h : K (a.put o.dst v) w) : o.wp P a w K Q := by
 have hrun := run_append_owned_none (P := P) (w := w) base t o.type e i size ht hi v n xs hown
 unfold Oper.wp
 simp [execOp, ho, resolve, invoke, builtin, hs, hx, hrun, Result.andThen]
 exact h
theorem wp_spread {P : Program} {w : World} {B : Nat} {o : Oper} {a : Act} {K : Act → World → Prop} {Q : Exit → Act → World → Prop} {t e : TypeId} {z : Value} {sz by_ : Nat}
  (hel : El P t e z sz by_) (s x : Operand)
  (ho : o.op = .call { callee := .builtin .append, args := #[s, x], argTypes := #[t, t] })
  (v : Value) (n : Nat) (cs : List Value) (hs : a.eval s = v) (hown : w.ownsRow B e sz v n cs) (hB' : B ≤ w.heap.size)
  (u : Value) (m : Nat) (news : List Value) (hx : a.eval x = u) (hseen : Seen w u m sz news) (h1 : ∀ u ∈ news, u.oneCell' = true)
  (hroom : (n + m) * by_ ≤ 140737488355328)
  (h : ∀ c k w', w'.ownsRow B e sz (.slice c (n + m) k) (n + m) (cs ++ news) → w.grownBy w' v.ownBlock → K (a.put o.dst (.slice c (n + m) k)) w') :
  o.wp P a w K Q := by
 obtain ⟨i, h1', h2, h3, h4, h5, h6, h7, h8⟩ := hel
 obtain ⟨hl, b, cap, rfl, hc, hm, hnone, hcells⟩ := hseen
 cases b with
 | none =>
  obtain rfl := hnone rfl
  obtain rfl : m = 0 := by omega
  have : news = [] := List.eq_nil_of_length_eq_zero (by simpa using hl)
  subst this
  obtain ⟨c, k, rfl⟩ := own_slice hown
  refine wp_append_none s x t ho B e i sz h1' h2 _ n cs hs hown hx ?_
  exact h c k w (by simpa using hown) ⟨rfl, rfl, rfl, Nat.le_refl _, fun _ _ _ => rfl⟩
 | some ad =>
  have hle : n + m ≤ 140737488355328 := Nat.le_trans (Nat.le_mul_of_pos_right _ h8) hroom
  refine wp_append_own _ s x t ho B e i z sz by_ h1' h2 h3 h4 h5 h6 h7 v n cs hs hown ad m cap news hx hl ?_ h1 (by unfold maxLen; omega) hroom hB' ?_
  ·intro j u hj
   rcases hcells with h0 | ⟨b, off, hb, _, hcl⟩
   ·have : news = [] := List.eq_nil_of_length_eq_zero (by rw [hl, h0, Nat.zero_mul])
    subst this; simp at hj
   ·obtain rfl := Option.some.inj hb
    have ha : (⟨b, off, none⟩ : Addr).add j = ⟨b, off + j, none⟩ := by unfold Addr.add; split <;> simp_all
    rw [ha]; exact hcl j u hj
  ·intro v' w' hown' hgr _
   obtain ⟨c, k, rfl⟩ := own_slice hown'
   exact h c k w' hown' hgr
theorem step_spread {P : Program} {w : World} {B : Nat} {ops : Array Oper} {o : Oper} {a : Act} {K : Act → World → Prop} {Q : Exit → Act → World → Prop} {t e : TypeId} {z : Value} {sz by_ : Nat} {E : Prop}
  (hel : El P t e z sz by_) (s x : Operand) (hg : o.guard = none)
  (ho : o.op = .call { callee := .builtin .append, args := #[s, x], argTypes := #[t, t] })
  (v : Value) (n : Nat) (cs : List Value) (hs : a.eval s = v) (hown : w.ownsRow B e sz v n cs) (hB' : B ≤ w.heap.size)
  (u : Value) (m : Nat) (news : List Value) (hx : a.eval x = u) (hseen : Seen w u m sz news) (h1 : ∀ u ∈ news, u.oneCell' = true)
  (hroom : (n + m) * by_ ≤ 140737488355328)
  (h : ∀ c k w', w'.ownsRow B e sz (.slice c (n + m) k) (n + m) (cs ++ news) → w.grownBy w' v.ownBlock → K (a.put o.dst (.slice c (n + m) k)) w') :
  if Region.wanted o (yielded ops a.tmps) = true then Oper.wp P o a w K Q else E := by
 have hw : Region.wanted o (yielded ops a.tmps) = true := by simp [Region.wanted, hg]
 rw [if_pos hw]
 exact wp_spread hel s x ho v n cs hs hown hB' u m news hx hseen h1 hroom h
theorem Res2.grown' {g : Nat} {y0 y1 : Value} {W W1 : World} {row : Option Nat} (h : Res2 g y0 y1 W) (hgr : W.grownBy W1 row) (hne : some g ≠ row) (hgs : g < W.heap.size) : Res2 g y0 y1 W1 := by
 obtain ⟨c, d, e, f⟩ := h
 have hb := hgr.block g hgs hne
 exact ⟨(World.cell?_of_block (a := ⟨g, 0, none⟩) hb).trans c, (World.cell?_of_block (a := ⟨g, 1, none⟩) hb).trans d, (World.frozen?_of_block (a := ⟨g, 0, none⟩) hb).trans e, (World.frozen?_of_block (a := ⟨g, 1, none⟩) hb).trans f⟩
theorem own_built' {w : World} {B e : Nat} (cs : List Value) (n sz g : Nat) (hg : w.heap.size = g) (hB : B ≤ g) (hn : n ≤ maxLen) (hc : cs.length = n * sz) :
  (w.alloc (.cells cs.toArray e)).ownsRow B e sz (.slice (some ⟨g, 0, none⟩) n n) n cs := by
 subst hg; exact own_built cs n sz hB hn hc
theorem below_grown {w0 W W1 : World} {B B' e sz n : Nat} {v : Value} {cs : List Value} (hb : Below B w0 W) (hown : W.ownsRow B' e sz v n cs) (hB : B ≤ B') (hs : w0.heap.size ≤ W.heap.size) (hgr : W.grownBy W1 v.ownBlock) (hB0 : B ≤ w0.heap.size) : Below B w0 W1 :=
 hb.grown hgr (by omega) (fun k hk => Nat.le_trans hB (hown.lt k hk).1)
end Go.Proofs.YtmcmagfondjopaaGreatDoor.K
