/- values: the order of two; what the document says of it -/
import Derived.Test.YtpkifeagopceaaaDoorYVal3
import Derived.Test.YtpkifeagopceaaaDoorYStep
namespace Go.Proofs.YtpkifeagopceaaaDoor.ValP
open Go.RowKit K
attribute [local go_sem ↓] Go.wp_at_zero Go.wp_at_succ
theorem seen_drew {w : World} {v : Value} {n sz : Nat} {cs : List Value} (h : Seen w v n sz cs) : Seen w.drew v n sz cs := h
theorem seen_ints (w : World) (l : List Int) (g n : Nat) (hg : w.heap.size = g) (hn : l.length = n) (hm : n ≤ maxLen) : Seen (w.alloc (.cells (l.map (Value.int .i64)).toArray 3)) (.slice (some ⟨g, 0, none⟩) n n) n 1 (l.map (Value.int .i64)) :=
 Seen.of_own (own_built' (B := 0) (l.map (Value.int .i64)) n 1 g hg (Nat.zero_le _) hm (by rw [List.length_map, hn, Nat.mul_one]))
set_option maxRecDepth 100000 in
set_option maxHeartbeats 2000000 in
theorem order_any (k n : Int) (s : ByteArray) (k' n' : Int) (s' : ByteArray) (w : World) :
  Calls Tryd.prog 86 #[.agg #[.int .i64 k, .int .i64 n, .string s], .agg #[.int .i64 k', .int .i64 n', .string s']] w fun e w' => e = .returned (.int .i64 (order (k, n, s) (k', n', s'))) ∧ Below w.heap.size w w' := by
 have hW1 := alloc_below w (.cells #[.int .i64 k, .int .i64 n, .string s] 26)
 have hW2 := alloc_below (w.alloc (.cells #[.int .i64 k, .int .i64 n, .string s] 26)) (.cells #[.int .i64 k', .int .i64 n', .string s'] 26)
 have hW := chain hW1 hW2
 have hB := ((Bx.new w [.int .i64 k, .int .i64 n, .string s] 26 _ rfl).alloc (.cells #[.int .i64 k', .int .i64 n', .string s'] 26)).c3
 have hD := (Bx.new (w.alloc (.cells #[.int .i64 k, .int .i64 n, .string s] 26)) [.int .i64 k', .int .i64 n', .string s'] 26 (w.heap.size + 1) (by simp)).c3
 have hWs := hW.size
 have HO := Lib.hid (show order (k, n, s) (k', n', s') = firstOf [cmpI k k', cmpI n n', cmpS s s'] from rfl)
 clear hW1 hW2
 go_enter Tryd.func86, Tryd.ntmps86
 go_wp2_with fail
 generalize ((w.alloc (.cells #[.int .i64 k, .int .i64 n, .string s] 26)).alloc (.cells #[.int .i64 k', .int .i64 n', .string s'] 26)) = W at *
 obtain ⟨b0, b1, b2, -, -, -⟩ := hB
 obtain ⟨d0, d1, d2, -, -, -⟩ := hD
 go_region_held3 (fun W' => W'.cell? ⟨w.heap.size, 0, none⟩ = some (.int .i64 k) ∧ W'.cell? ⟨w.heap.size, 1, none⟩ = some (.int .i64 n) ∧ W'.cell? ⟨w.heap.size, 2, none⟩ = some (.string s) ∧
   W'.cell? ⟨w.heap.size + 1, 0, none⟩ = some (.int .i64 k') ∧ W'.cell? ⟨w.heap.size + 1, 1, none⟩ = some (.int .i64 n') ∧ W'.cell? ⟨w.heap.size + 1, 2, none⟩ = some (.string s'))
  (first | exact ⟨b0, b1, b2, d0, d1, d2⟩ | go_keep)
  (first
   | (go_at_call 94; refine (compare_int _ _ _).mono ?_; rintro e w' ⟨rfl, rfl⟩)
   | (go_at_call 95; refine (compare_int64 _ _ _).mono ?_; rintro e w' ⟨rfl, rfl⟩)
   | (go_at_call 96; refine (compare_string _ _ _).mono ?_; rintro e w' ⟨rfl, rfl⟩)
   | (go_at_call 93; refine (or_any [cmpI k k', cmpI n n', cmpS s s'] _ _ (by first | exact seen_ints _ [cmpI k k', cmpI n n', cmpS s s'] _ 3 rfl rfl (by decide) | exact seen_drew (seen_ints _ [cmpI k k', cmpI n n', cmpS s s'] _ 3 rfl rfl (by decide)))).mono ?_; rintro e w' ⟨rfl, rfl⟩))
 all_goals
  go_wp2
  go_ret
  refine ⟨by rw [HO.out] <;> rfl, ?_⟩
  repeat (first | exact hW | refine Below.drew ?_ | refine Below.alloc ?_ (by first | omega | (simp; done) | (simp; omega)) _)
theorem cmp_step (a b : List UInt8) (k : Nat) (ha : k < a.length) (hb : k < b.length) :
  Lib.compareBytes (a.drop k) (b.drop k) = if a[k] < b[k] then -1 else if b[k] < a[k] then 1 else Lib.compareBytes (a.drop (k + 1)) (b.drop (k + 1)) := by
 rw [List.drop_eq_getElem_cons ha, List.drop_eq_getElem_cons hb, Lib.compareBytes]
theorem order_less (a b : ValD) : decide (order a b < 0) = if a.1 ≠ b.1 then decide (a.1 < b.1) else if a.2.1 ≠ b.2.1 then decide (a.2.1 < b.2.1) else decide (cmpS a.2.2 b.2.2 < 0) := by
 have e : order a b = if cmpI a.1 b.1 ≠ 0 then cmpI a.1 b.1 else if cmpI a.2.1 b.2.1 ≠ 0 then cmpI a.2.1 b.2.1 else if cmpS a.2.2 b.2.2 ≠ 0 then cmpS a.2.2 b.2.2 else 0 := rfl
 rw [e]
 generalize cmpS a.2.2 b.2.2 = c
 have h1 : (cmpI a.1 b.1 < 0 ↔ a.1 < b.1) ∧ (cmpI a.1 b.1 = 0 ↔ a.1 = b.1) := by unfold cmpI; (repeat' split) <;> omega
 have h2 : (cmpI a.2.1 b.2.1 < 0 ↔ a.2.1 < b.2.1) ∧ (cmpI a.2.1 b.2.1 = 0 ↔ a.2.1 = b.2.1) := by unfold cmpI; (repeat' split) <;> omega
 generalize cmpI a.1 b.1 = x at *
 generalize cmpI a.2.1 b.2.1 = y at *
 (repeat' split) <;> (apply decide_eq_decide.2; omega)
end Go.Proofs.YtpkifeagopceaaaDoor.ValP
