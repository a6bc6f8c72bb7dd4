/- slices.Backward over writes -/
import Derived.Test.YtohlkegmmbdlaaaDiskLand
import Derived.Test.YtohlkegmmbdlaaaDiskCheck
import Derived.RangeFuncNested
import Derived.RangeFuncBound
import Derived.RangeFuncCalls
import Derived.RangeFuncLeaves
import Derived.Shelf.Abstract
import Derived.OwnWalkIn
import Derived.TacticsInMore
import Derived.LoopNIn
import Derived.LoopIn
namespace Go.Proofs.Ytohlkegmmbdlaaa.DiskP
open Go.RowKit K Go.Shelf

attribute [local go_sem] Oper.semAt_some

/-- what has come when k rounds are over -/
def upto {α : Type} (f : Nat → α) (k : Nat) : List α := (List.range k).map f
theorem upto_succ {α : Type} (f : Nat → α) (k : Nat) : upto f (k + 1) = upto f k ++ [f k] := by simp [upto, List.range_succ]
theorem upto_length {α : Type} (f : Nat → α) (k : Nat) : (upto f k).length = k := by simp [upto]

/-- the k-th element from behind, and its place -/
def fromBack (q : List Wr) (k : Nat) : Nat × Wr := (q.length - 1 - k, q[q.length - 1 - k]?.getD (0, ⟨#[]⟩))
def wrArgs (x : Nat × Wr) : Array Value := #[.int .i64 (x.1 : Int), .agg #[.int .i64 x.2.1, .string x.2.2]]

set_option maxRecDepth 100000 in
set_option maxHeartbeats 2000000 in
theorem back1_in (F : Fence) (n : Nat) (hf : F.fn 70) (hro : F.round = none) (hn : 1 ≤ n) (l Bs n₀ : Nat) (q : List Wr) (sv : Value) (hlen : q.length ≤ 1000) (J Jx : List (Nat × Wr) → World → Prop)
    (hY : ∀ pre x W, J pre W → pre.length < q.length → YieldAt F (n - 1) Try.prog l (wrArgs x) W fun e W' =>
      (e = .returned (.bool true) ∧ J (pre ++ [x]) W' ∧ Below n₀ W W') ∨ (e = .returned (.bool false) ∧ Jx (pre ++ [x]) W'))
    (W : World) (hBs : W.cell? ⟨Bs, 0, none⟩ = some sv) (hBl : Bs < n₀) (hc : Seen W sv q.length 2 (wrCells q)) (hn₀ : ∀ b off m, sv = .slice (some ⟨b, off, none⟩) q.length m → 0 < q.length → b < n₀) (h0 : J [] W) :
    CallsIn F n Try.prog 70 #[.func (.yield l) #[] #[], .pointer (some ⟨Bs, 0, none⟩)] W fun e W' => (∃ v, e = .returned v) ∧
      ((∃ ys, ys = upto (fromBack q) q.length ∧ J ys W') ∨ (∃ pre, (∃ k, k ≤ q.length ∧ pre = upto (fromBack q) k) ∧ Jx pre W')) := by
  obtain ⟨_, a, cap, rfl, hcc, hm, hnil, hcells⟩ := id hc
  unfold maxLen at hm
  refine callsIn_of_wp Try.func70 rfl hf ?_ hro
  simp only [Try.ntmps70, List.size_toArray, List.length_cons, List.length_nil, Nat.reduceAdd, Nat.reduceSub, Array.replicate_succ, Array.replicate_zero, List.push_toArray, List.append_toArray, List.nil_append, List.cons_append]
  gi_wp2
  gi_loopw [3] (fun i wr => ∃ k : Nat, k ≤ q.length ∧ i = .int .i64 ((q.length : Int) - 1 - (k : Int)) ∧ J (upto (fromBack q) k) wr ∧ Below n₀ W wr)
    (fun i _ => (intOf i + 1).toNat)
  case atStart => exact ⟨0, Nat.zero_le _, by go_num, h0, Below.refl _ _⟩
  case round =>
    obtain ⟨k, hk, rfl, hJs, hnx⟩ := hrel
    by_cases hlt : k < q.length
    · obtain ⟨b, off, rfl, hb, hcl⟩ := hcells.resolve_left (by omega)
      have hb0 := hn₀ b off cap rfl (by omega)
      obtain ⟨j, hj, hjl⟩ : ∃ j : Nat, q.length - 1 - k = j ∧ j < q.length := ⟨_, rfl, by omega⟩
      have c0 := (hnx.cell (p := ⟨b, off + j * 2, none⟩) hb0).trans (hcl _ _ (wrCells_at q j hjl).1)
      have c1 := (hnx.cell (p := ⟨b, off + (j * 2 + 1), none⟩) hb0).trans (hcl _ _ (wrCells_at q j hjl).2)
      rw [← Nat.add_assoc] at c1
      have cB := (hnx.cell (p := ⟨Bs, 0, none⟩) hBl).trans hBs
      have hx : fromBack q k = (j, q[j]) := by unfold fromBack; rw [hj, List.getElem?_eq_getElem hjl]; rfl
      have hy0 := hY _ (j, q[j]) wr hJs (by rw [upto_length]; exact hlt)
      unfold wrArgs at hy0
      obtain ⟨fn, tmps, assign, body, hy, hR⟩ := hy0
      dsimp only at hy
      have HJ := Lib.hid hj
      have HX := Lib.hid hx
      clear hj hx hcl hcells
      have hji : Hid ((q.length : Int) - 1 - (k : Int) = (j : Int)) := by show _ = _; have := HJ.out; omega
      rw [hji.out]
      generalize q[j].1 = m at *
      generalize q[j].2 = t at *
      gi_wp2
      refine hR.mono ?_
      rintro e W3 (⟨rfl, hJ3, hk3⟩ | ⟨rfl, hJx3⟩)
      · gi_wp2
        go_roundw
        case rel => exact ⟨k + 1, by omega, by have := hji.out; rw [show (q.length : Int) - 1 - ((k + 1 : Nat) : Int) = (j : Int) - 1 by omega], by rw [upto_succ, HX.out]; exact hJ3, hnx.trans hk3⟩
        case measure => have := hji.out; simp [intOf] <;> omega
      · gi_wp2
        refine bodyPost_ret (results_none rfl _ _ _) rfl ?_
        exact ⟨⟨_, rfl⟩, .inr ⟨_, ⟨k + 1, by omega, rfl⟩, by rw [upto_succ, HX.out]; exact hJx3⟩⟩
    · obtain rfl : k = q.length := by omega
      have hneg : Hid ((q.length : Int) - 1 - (q.length : Int) = -1) := by show _ = _; omega
      rw [hneg.out]
      gi_wp2
      go_end0
      exact ⟨⟨_, rfl⟩, .inl ⟨_, rfl, hJs⟩⟩

set_option maxHeartbeats 1000000 in
theorem backward_in (F : Fence) (n : Nat) (hf : F.fn 53) (hro : F.round = none) (a : Option Addr) (len cap : Nat) (w : World) :
    CallsIn F n Try.prog 53 #[.slice a len cap] w fun e w' => e = .returned (.func (.func 70) #[] #[.pointer (some ⟨w.heap.size, 0, none⟩)]) ∧ w' = w.alloc (.cells #[.slice a len cap] 23) := by
  refine callsIn_of_wp Try.func53 rfl hf ?_ hro
  simp only [Try.ntmps53, List.size_toArray, List.length_cons, List.length_nil, Nat.reduceAdd, Nat.reduceSub, Array.replicate_succ, Array.replicate_zero, List.push_toArray, List.append_toArray, List.nil_append, List.cons_append]
  gi_wp2
  go_ret
  exact ⟨rfl, rfl⟩

theorem back_stops (F : Fence) (n : Nat) (hf : F.fn 70) (hro : F.round = none) (hn : 1 ≤ n) (Bs n₀ : Nat) (q : List Wr) (sv : Value) (hlen : q.length ≤ 1000) (w : World)
    (hBs : w.cell? ⟨Bs, 0, none⟩ = some sv) (hBl : Bs < n₀) (hn0 : n₀ ≤ w.heap.size) (hc : Seen w sv q.length 2 (wrCells q)) (hn₀ : ∀ b off m, sv = .slice (some ⟨b, off, none⟩) q.length m → 0 < q.length → b < n₀) :
    SeqStopsK F n Try.prog 70 #[.pointer (some ⟨Bs, 0, none⟩)] wrArgs (Below n₀) (fun ys => ys = upto (fromBack q) q.length)
      (fun pre => ∃ k, k ≤ q.length ∧ pre = upto (fromBack q) k) q.length w := fun l J Jx W hW _ _ hY h0 =>
  back1_in F n hf hro hn l Bs n₀ q sv hlen J Jx hY W ((hW.cell (p := ⟨Bs, 0, none⟩) (by show Bs < _; omega)).trans hBs) hBl (hc.later hW (Nat.le_refl _)) hn₀ h0

/-! ### what a reader from behind finds -/
theorem lastOn_snoc (s : ByteArray) (q : List Wr) (x : Wr) (n : Int) : lastOn s (q ++ [x]) n = if (x.1 == n) = true then x.2 else lastOn s q n := by
  unfold lastOn; rw [List.foldl_append]; rfl

theorem lastOn_behind (s : ByteArray) (q : List Wr) (n : Int) (h : ∀ x ∈ q, x.1 ≠ n) : lastOn s q n = s := by
  induction q generalizing s with
  | nil => rfl
  | cons x q ih =>
    unfold lastOn
    rw [List.foldl_cons, if_neg (by simpa using h x (List.mem_cons_self ..))]
    exact ih s fun y hy => h y (List.mem_cons_of_mem _ hy)

theorem lastOn_none (s : ByteArray) (q : List Wr) (n : Int) (h : ∀ x ∈ upto (fromBack q) q.length, x.2.1 ≠ n) : lastOn s q n = s := by
  refine lastOn_behind s q n fun x hx => ?_
  obtain ⟨i, hi, rfl⟩ := List.getElem_of_mem hx
  have := h (fromBack q (q.length - 1 - i)) (List.mem_map.2 ⟨_, List.mem_range.2 (by omega), rfl⟩)
  unfold fromBack at this
  rw [show q.length - 1 - (q.length - 1 - i) = i by omega, List.getElem?_eq_getElem hi] at this
  exact this

theorem lastOn_found (s : ByteArray) (q : List Wr) (n : Int) (k : Nat) (hk : k < q.length) (h : ∀ x ∈ upto (fromBack q) k, x.2.1 ≠ n) (hn : (fromBack q k).2.1 = n) : lastOn s q n = (fromBack q k).2.2 := by
  obtain ⟨j, hj⟩ : ∃ j, j = q.length - 1 - k := ⟨_, rfl⟩
  have hjl : j < q.length := by omega
  have hx : (fromBack q k).2 = q[j] := by unfold fromBack; rw [← hj, List.getElem?_eq_getElem hjl]; rfl
  rw [hx] at hn ⊢
  have hq : q = q.take (j + 1) ++ q.drop (j + 1) := (List.take_append_drop ..).symm
  have hd : ∀ x ∈ q.drop (j + 1), x.1 ≠ n := by
    intro x hx
    obtain ⟨i, hi, rfl⟩ := List.getElem_of_mem hx
    rw [List.length_drop] at hi
    have := h (fromBack q (q.length - 1 - (j + 1 + i))) (List.mem_map.2 ⟨_, List.mem_range.2 (by omega), rfl⟩)
    unfold fromBack at this
    rw [show q.length - 1 - (q.length - 1 - (j + 1 + i)) = j + 1 + i by omega, List.getElem?_eq_getElem (by omega)] at this
    rw [List.getElem_drop]
    exact this
  have hsplit : lastOn s q n = lastOn (lastOn s (q.take (j + 1)) n) (q.drop (j + 1)) n := by
    have : lastOn s (q.take (j + 1) ++ q.drop (j + 1)) n = lastOn (lastOn s (q.take (j + 1)) n) (q.drop (j + 1)) n := by unfold lastOn; rw [List.foldl_append]
    rw [← hq] at this
    exact this
  rw [hsplit, lastOn_behind _ _ _ hd, List.take_succ_eq_append_getElem hjl, lastOn_snoc, if_pos (by rw [hn]; simp)]

end Go.Proofs.Ytohlkegmmbdlaaa.DiskP
