/- values: Order only grows the world -/
import Derived.Test.YtnkkhkpkipckiaaDoorYVal4
import Derived.Sort.Grow
namespace Go.Proofs.YtnkkhkpkipckiaaDoor.ValP
open Go.Proofs
open Go.RowKit Go.Sort K
def Grown (w w' : World) : Prop := ∃ q os, w' = grow (w.drewN q) os
theorem Grown.refl (w : World) : Grown w w := ⟨0, #[], by rw [grow_empty]; rfl⟩
theorem Grown.drew {w w' : World} (h : Grown w w') : Grown w w'.drew := by
 obtain ⟨q, os, rfl⟩ := h
 exact ⟨q + 1, os, by unfold grow World.drew World.drewN; simp [Nat.add_assoc]⟩
theorem Grown.alloc {w w' : World} (h : Grown w w') (o : Obj) : Grown w (w'.alloc o) := by
 obtain ⟨q, os, rfl⟩ := h
 exact ⟨q, os.push o, by rw [alloc_eq_grow, grow_grow]; simp⟩
set_option maxRecDepth 100000 in
set_option maxHeartbeats 2000000 in
theorem order_grown (k n : Int) (s : ByteArray) (k' n' : Int) (s' : ByteArray) (w : World) :
  Calls Tryd.prog 26 #[.agg #[.int .i64 k, .int .i64 n, .string s], .agg #[.int .i64 k', .int .i64 n', .string s']] w fun e w' => e = .returned (.int .i64 (order (k, n, s) (k', n', s'))) ∧ Grown w w' := by
 have hW : Grown w ((w.alloc (.cells #[.int .i64 k, .int .i64 n, .string s] 23)).alloc (.cells #[.int .i64 k', .int .i64 n', .string s'] 23)) := ((Grown.refl w).alloc _).alloc _
 have hB := ((Bx.new w [.int .i64 k, .int .i64 n, .string s] 23 _ rfl).alloc (.cells #[.int .i64 k', .int .i64 n', .string s'] 23)).c3
 have hD := (Bx.new (w.alloc (.cells #[.int .i64 k, .int .i64 n, .string s] 23)) [.int .i64 k', .int .i64 n', .string s'] 23 (w.heap.size + 1) (by simp)).c3
 have HO := Lib.hid (show order (k, n, s) (k', n', s') = firstOf [cmpI k k', cmpI n n', cmpS s s'] from rfl)
 go_enter Tryd.func26, Tryd.ntmps26
 go_wp2_with fail
 generalize ((w.alloc (.cells #[.int .i64 k, .int .i64 n, .string s] 23)).alloc (.cells #[.int .i64 k', .int .i64 n', .string s'] 23)) = W at *
 obtain ⟨b0, b1, b2, -, -, -⟩ := hB
 obtain ⟨d0, d1, d2, -, -, -⟩ := hD
 go_region_held3 (fun W' => W'.cell? ⟨w.heap.size, 0, none⟩ = some (.int .i64 k) ∧ W'.cell? ⟨w.heap.size, 1, none⟩ = some (.int .i64 n) ∧ W'.cell? ⟨w.heap.size, 2, none⟩ = some (.string s) ∧
   W'.cell? ⟨w.heap.size + 1, 0, none⟩ = some (.int .i64 k') ∧ W'.cell? ⟨w.heap.size + 1, 1, none⟩ = some (.int .i64 n') ∧ W'.cell? ⟨w.heap.size + 1, 2, none⟩ = some (.string s'))
  (first | exact ⟨b0, b1, b2, d0, d1, d2⟩ | go_keep)
  (first
   | (go_at_call 48; refine (compare_int _ _ _).mono ?_; rintro e w' ⟨rfl, rfl⟩)
   | (go_at_call 49; refine (compare_int64 _ _ _).mono ?_; rintro e w' ⟨rfl, rfl⟩)
   | (go_at_call 50; refine (compare_string _ _ _).mono ?_; rintro e w' ⟨rfl, rfl⟩)
   | (go_at_call 47; refine (or_any [cmpI k k', cmpI n n', cmpS s s'] _ _ (by first | exact seen_ints _ [cmpI k k', cmpI n n', cmpS s s'] _ 3 rfl rfl (by decide) | exact seen_drew (seen_ints _ [cmpI k k', cmpI n n', cmpS s s'] _ 3 rfl rfl (by decide)))).mono ?_; rintro e w' ⟨rfl, rfl⟩))
 all_goals
  go_wp2
  go_ret
  refine ⟨by rw [HO.out] <;> rfl, ?_⟩
  repeat (first | exact hW | refine Grown.drew ?_ | refine Grown.alloc ?_ _)
end Go.Proofs.YtnkkhkpkipckiaaDoor.ValP
