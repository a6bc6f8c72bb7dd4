/- values: lists of them; the order; the document's -/
import Derived.Test.YtmcmagfondjopaaGreatDoorYVal
namespace Go.Proofs.YtmcmagfondjopaaGreatDoor.ValP
open Go.RowKit K
theorem vcheck_of (k n : Int) (s : ByteArray) (w : World) (x : ValD) (hx : x = (k, n, s)) :
  Calls Tryz.prog 43 #[.agg #[.int .i64 k, .int .i64 n, .string s]] w fun e w' => e = .returned (.int .i64 (vcheck x)) ∧ Below w.heap.size w w' := by
 subst hx; exact check_any k n s w
set_option maxRecDepth 100000 in
set_option maxHeartbeats 4000000 in
theorem checkvalue_any (k n : Int) (s : ByteArray) (w : World) :
  Calls Tryz.prog 76 #[.agg #[.int .i64 k, .int .i64 n, .string s]] w fun e w' => e = .returned (.int .i64 (vcheck (k, n, s))) ∧ Below w.heap.size w w' := by
 have hW := alloc_below w (.cells #[.int .i64 k, .int .i64 n, .string s] 34)
 have hcase : s.size ≤ 0 ∨ (0 < s.size ∧ s.size ≤ 16) ∨ 16 < s.size := by omega
 have hk : k < 0 ∨ k = 0 ∨ k = 1 ∨ k = 2 ∨ k = 3 ∨ (0 ≤ k ∧ 3 < k) := by omega
 rcases hk with hk | rfl | rfl | rfl | rfl | ⟨hk0, hk⟩
 all_goals
  rcases hcase with h1 | ⟨h1, h2⟩ | h1
  all_goals
   cases hn : (n != 0)
   all_goals
    go_enter Tryz.func76, Tryz.ntmps76
    go_wp2
    go_ret
    refine ⟨ret_int ?_, hW⟩
    unfold vcheck
    simp only [bne_iff_ne, bne_eq_false_iff_eq] at *
    (repeat' split) <;> first | rfl | omega
theorem checkAll_drop (l : List ValD) (k : Nat) (hk : k < l.length) : checkAll (l.drop k) = if vcheck l[k] = 0 then checkAll (l.drop (k + 1)) else vcheck l[k] := by
 rw [List.drop_eq_getElem_cons hk]; rfl
end Go.Proofs.YtmcmagfondjopaaGreatDoor.ValP
