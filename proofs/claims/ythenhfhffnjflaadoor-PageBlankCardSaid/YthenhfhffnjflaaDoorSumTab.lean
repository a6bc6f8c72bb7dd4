/- the program's table of 256 entries -/
import Derived.Test.YthenhfhffnjflaaDoorSumWalk
namespace Go.Proofs.YthenhfhffnjflaaDoor.SumW
open Go.RowKit SumP K

/-- the table, its first k entries reckoned -/
def tabTo (k : Nat) : Array Value := ((List.range 256).map fun j => Value.int .u32 (if j < k then ((T (BitVec.ofNat 32 j)).toNat : Int) else 0)).toArray

theorem tabTo_size (k : Nat) : (tabTo k).size = 256 := by simp [tabTo]
theorem tabTo_at (k j : Nat) (hj : j < 256) : (tabTo k)[j]? = some (.int .u32 (if j < k then ((T (BitVec.ofNat 32 j)).toNat : Int) else 0)) := by
  simp [tabTo, hj]
theorem tabTo_set (k : Nat) (hk : k < 256) : (tabTo k).setIfInBounds k (.int .u32 ((T (BitVec.ofNat 32 k)).toNat : Int)) = tabTo (k + 1) := by
  apply Array.ext_getElem?
  intro j
  rw [Array.getElem?_setIfInBounds, tabTo_size]
  by_cases hj : j < 256
  · rw [tabTo_at _ _ hj, tabTo_at _ _ hj]
    by_cases h : k = j
    · subst h; simp [hk]
    · rw [if_neg h]
      by_cases h2 : j < k
      · simp [h2, show j < k + 1 by omega]
      · simp [h2, show ¬ j < k + 1 by omega]
  · rw [if_neg (by omega)]
    rw [Array.getElem?_eq_none (by rw [tabTo_size]; omega), Array.getElem?_eq_none (by rw [tabTo_size]; omega)]
theorem tabTo_one (k : Nat) : (tabTo k).all (·.oneCell') = true := by
  rw [Array.all_eq_true]
  intro i hi
  have := tabTo_at k i (by rw [tabTo_size] at hi; exact hi)
  rw [Array.getElem?_eq_getElem hi] at this
  rw [Option.some.inj this]; rfl

theorem zeroTab (w : World) : (zeroValue 59).run Tryd.prog w = .ok (.agg (tabTo 0)) w := by kernel_rfl
theorem sizeTab : (Tryd.prog.info? 59).map (·.size) = some 256 := by kernel_rfl

set_option maxRecDepth 100000 in
theorem table_any (w : World) :
    Calls Tryd.prog 36 #[] w fun e w' => e = .returned (.agg (tabTo 256)) ∧ Below w.heap.size w w' := by
  have hz := zeroTab
  go_enter Tryd.func36, Tryd.ntmps36
  go_wp2
  clear hz
  go_loopw [3] (fun j wr => ∃ k : Nat, k ≤ 256 ∧ j = .int .i64 (k : Int) ∧ wr = ((w.alloc (.cells (tabTo 0) 59)).alloc (.cells (tabTo k) 59)))
    (fun j _ => 256 - (intOf j).toNat)
  case atStart => exact ⟨0, by omega, rfl, rfl⟩
  case round =>
    obtain ⟨k, hk, rfl, rfl⟩ := hrel
    by_cases h : k < 256
    · have hset := tabTo_set k h
      have hat := tabTo_at k k h
      go_wp2_with (go_at_call 43; refine (entry_any k h _).mono ?_; rintro e w' ⟨rfl, rfl⟩)
      go_roundw
      case rel => exact ⟨k + 1, by omega, by go_num, rfl⟩
      case measure => simp [intOf]; omega
    · obtain rfl : k = 256 := by omega
      go_wp2_with (first
        | (with_reducible refine wpList_load_row (o := ⟨some 11, _, _, _, _, _⟩) rfl _ _ rfl (w.heap.size + 1) rfl 59 (tabTo 256) (0, 0) _ (heap_alloc2_new _ _ _) Tryd.underlying59 rfl (by rw [tabTo_size]; exact sizeTab) ?_)
        | (with_reducible refine wpList_store_row (o := ⟨none, Op.store 59 _ _, _, _, _, _⟩) rfl _ _ _ rfl w.heap.size (tabTo 256) rfl rfl 59 (tabTo 0) (heap_alloc2_old _ _ _) (by rw [tabTo_size]; exact sizeTab) (by rw [tabTo_size, tabTo_size]) (tabTo_one 256) ?_))
      have hrow := setRow_heap _ _ (tabTo 0) (tabTo 256) _ _ (heap_alloc2_old w (.cells (tabTo 0) 59) (.cells (tabTo 256) 59))
      exact bodyPost_ret (results_cell_row (h := rfl) (hp := rfl) (hg := hrow) (hu := Tryd.underlying59) (hd := rfl) (hi := by rw [tabTo_size]; exact sizeTab)) rfl
        ⟨rfl, below_row (((Below.refl _ _).alloc (Nat.le_refl _) _).alloc (by simp) _) _ _ (Nat.le_refl _)⟩

end Go.Proofs.YthenhfhffnjflaaDoor.SumW
