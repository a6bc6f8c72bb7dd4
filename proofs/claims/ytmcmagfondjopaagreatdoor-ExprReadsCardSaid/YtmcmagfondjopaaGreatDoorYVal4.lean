/- values: the order of two; what the document says of it -/
import Derived.Test.YtmcmagfondjopaaGreatDoorYVal3
import Derived.Test.YtmcmagfondjopaaGreatDoorYStep
namespace Go.Proofs.YtmcmagfondjopaaGreatDoor.ValP
open Go.RowKit K
attribute [local go_sem ↓] Go.wp_at_zero Go.wp_at_succ
theorem seen_drew {w : World} {v : Value} {n sz : Nat} {cs : List Value} (h : Seen w v n sz cs) : Seen w.drew v n sz cs := h
theorem seen_ints (w : World) (l : List Int) (g n : Nat) (hg : w.heap.size = g) (hn : l.length = n) (hm : n ≤ maxLen) : Seen (w.alloc (.cells (l.map (Value.int .i64)).toArray 3)) (.slice (some ⟨g, 0, none⟩) n n) n 1 (l.map (Value.int .i64)) :=
 Seen.of_own (own_built' (B := 0) (l.map (Value.int .i64)) n 1 g hg (Nat.zero_le _) hm (by rw [List.length_map, hn, Nat.mul_one]))
theorem cmp_step (a b : List UInt8) (k : Nat) (ha : k < a.length) (hb : k < b.length) :
  Lib.compareBytes (a.drop k) (b.drop k) = if a[k] < b[k] then -1 else if b[k] < a[k] then 1 else Lib.compareBytes (a.drop (k + 1)) (b.drop (k + 1)) := by
 rw [List.drop_eq_getElem_cons ha, List.drop_eq_getElem_cons hb, Lib.compareBytes]
theorem order_less (a b : ValD) : decide (order a b < 0) = if a.1 ≠ b.1 then decide (a.1 < b.1) else if a.2.1 ≠ b.2.1 then decide (a.2.1 < b.2.1) else decide (cmpS a.2.2 b.2.2 < 0) := by
 have e : order a b = if cmpI a.1 b.1 ≠ 0 then cmpI a.1 b.1 else if cmpI a.2.1 b.2.1 ≠ 0 then cmpI a.2.1 b.2.1 else if cmpS a.2.2 b.2.2 ≠ 0 then cmpS a.2.2 b.2.2 else 0 := rfl
 rw [e]
 generalize cmpS a.2.2 b.2.2 = c
 have h1 : (cmpI a.1 b.1 < 0 ↔ a.1 < b.1) ∧ (cmpI a.1 b.1 = 0 ↔ a.1 = b.1) := by unfold cmpI; (repeat' split) <;> omega
 have h2 : (cmpI a.2.1 b.2.1 < 0 ↔ a.2.1 < b.2.1) ∧ (cmpI a.2.1 b.2.1 = 0 ↔ a.2.1 = b.2.1) := by unfold cmpI; (repeat' split) <;> omega
 generalize cmpI a.1 b.1 = x at *
 generalize cmpI a.2.1 b.2.1 = y at *
 (repeat' split) <;> (apply decide_eq_decide.2; omega)
end Go.Proofs.YtmcmagfondjopaaGreatDoor.ValP
