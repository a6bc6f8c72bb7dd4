/- the reference: are two lists one? -/
import Derived.Test.YtohlkegmmbdlaaaDiskRef
import Derived.Test.YtohlkegmmbdlaaaRws
namespace Go.Proofs.Ytohlkegmmbdlaaa.DiskP
open Go.RowKit K

abbrev WriteD := Int × ByteArray
def writeVal (x : WriteD) : Value := .agg #[.int .i64 x.1, .string x.2]
def writeOf (x : WriteD) : List Value := [.int .i64 x.1, .string x.2]
def writeCells (q : List WriteD) : List Value := q.flatMap writeOf
theorem writeOf_len (x : WriteD) : (writeOf x).length = 2 := rfl
theorem writeOf_one (x : WriteD) : ∀ u ∈ writeOf x, u.oneCell' = true := by
  intro u hu
  simp only [writeOf, List.mem_cons, List.not_mem_nil, or_false] at hu
  rcases hu with rfl | rfl <;> rfl
theorem eql_write (a0 : Int) (a1 : ByteArray) (b0 : Int) (b1 : ByteArray) (w : World) :
    (binOp .eql 56 (.agg #[.int .i64 a0, .string a1]) (.agg #[.int .i64 b0, .string b1])).run Try.prog w = .ok (.bool (decide ((a0, a1) = (b0, b1)))) w := by
  have h1 : Try.prog.underlying 56 = some (.struct (Try.prog.fieldsOf 56)) := by kernel_rfl
  have h2 : Try.prog.stoodInHeld 56 = false := by kernel_rfl
  rw [run_eql_struct, run_equalIn_agg w 9999 _ _ _ h1 h2]
  simp [go_sem]
  have t1 := toList_iff a1 b1
  simp only [t1]
  by_cases h0 : a0 = b0 <;> by_cases h1 : a1 = b1 <;> simp [h0, h1]
theorem eqlg_write (a0 : Int) (a1 : ByteArray) (b0 : Int) (b1 : ByteArray) (x y : Operand) (w : World) :
    (eqGuard .eql 56 x y (.agg #[.int .i64 a0, .string a1]) (.agg #[.int .i64 b0, .string b1])).run Try.prog w = .ok () w :=
  run_eqGuard_agg w _ _ _ _ _ _ (by kernel_rfl)
theorem neq_write (a0 : Int) (a1 : ByteArray) (b0 : Int) (b1 : ByteArray) (w : World) :
    (binOp .neq 56 (.agg #[.int .i64 a0, .string a1]) (.agg #[.int .i64 b0, .string b1])).run Try.prog w = .ok (.bool (!decide ((a0, a1) = (b0, b1)))) w := by
  have h1 : Try.prog.underlying 56 = some (.struct (Try.prog.fieldsOf 56)) := by kernel_rfl
  have h2 : Try.prog.stoodInHeld 56 = false := by kernel_rfl
  rw [run_neq_struct, run_equalIn_agg w 9999 _ _ _ h1 h2]
  simp [go_sem]
  have t1 := toList_iff a1 b1
  simp only [t1]
  by_cases h0 : a0 = b0 <;> by_cases h1 : a1 = b1 <;> simp [h0, h1]
theorem neqg_write (a0 : Int) (a1 : ByteArray) (b0 : Int) (b1 : ByteArray) (x y : Operand) (w : World) :
    (eqGuard .neq 56 x y (.agg #[.int .i64 a0, .string a1]) (.agg #[.int .i64 b0, .string b1])).run Try.prog w = .ok () w :=
  run_eqGuard_agg w _ _ _ _ _ _ (by kernel_rfl)


set_option maxRecDepth 100000 in
theorem sametexts_any (p q : List ByteArray) (va vb : Value) (w : World) (ha : Seen w va p.length 1 (p.map (Value.string))) (hb : Seen w vb q.length 1 (q.map (Value.string))) :
    Calls Try.prog 24 #[va, vb] w fun e w' => e = .returned (.bool (decide (p = q))) ∧ Below w.heap.size w w' := by
  obtain ⟨_, a, cap, rfl, hc, hm, hnil, hcells⟩ := id ha
  obtain ⟨_, a', cap', rfl, hc', hm', hnil', hcells'⟩ := id hb
  unfold maxLen at hm hm'
  by_cases hl : p.length = q.length
  · have HL := Lib.hid hl
    go_enter Try.func24, Try.ntmps24
    go_wp2
    go_loopw [5] (fun i wr => ∃ (k n : Nat), k ≤ p.length ∧ i = .int .i64 (k : Int) ∧ wr = w.drewN n ∧ Hid (p.take k = q.take k))
      (fun i _ => p.length - (intOf i).toNat)
    case atStart => exact ⟨0, 0, by omega, rfl, rfl, rfl⟩
    case round =>
      obtain ⟨k, n, hk, rfl, rfl, heq⟩ := hrel
      by_cases h : k < p.length
      · have hq : k < q.length := by have := HL.out; omega
        obtain ⟨b, off, rfl, hb1, cl⟩ := hcells.resolve_left (by omega)
        obtain ⟨b', off', rfl, hb1', dl⟩ := hcells'.resolve_left (by omega)
        have c0 := cl k (Value.string p[k]) (by simp [h])
        have d0 := dl k (Value.string q[k]) (by simp [hq])
        have ht : Hid (decide (p.take (k + 1) = q.take (k + 1)) = decide (p[k] = q[k])) := by
          show _ = _
          rw [List.take_succ_eq_append_getElem h, List.take_succ_eq_append_getElem hq, heq.out, Bool.eq_iff_iff, decide_eq_true_eq, decide_eq_true_eq]
          simp only [List.append_cancel_left_eq, List.cons.injEq, and_true]
        have hne : Hid (p[k] ≠ q[k] → p ≠ q) := fun h1 h2 => h1 (by subst h2; rfl)
        generalize p[k] = s at *
        generalize q[k] = t at *
        clear cl dl hcells hcells' ha hb
        have hst := toList_beq s t
        cases hx : decide (s = t)
        all_goals
          rw [hx] at ht
          rw [hx] at hst
          go_wp2
          go_quiet (fail)
          go_wp2
        · go_ret
          exact ⟨by rw [decide_eq_false (hne.out (of_decide_eq_false hx))]; rfl, below_drewN (below_drewN (Below.refl _ _) _) _⟩
        · go_roundw
          case rel => exact ⟨k + 1, n + nq, by omega, by go_num, rfl, Lib.hid (of_decide_eq_true ht.out)⟩
          case measure => simp [intOf]; omega
      · obtain rfl : k = p.length := by omega
        have he : Hid (p = q) := by
          have := heq.out
          rw [List.take_length, HL.out, List.take_length] at this
          exact this
        go_wp2
        go_ret
        exact ⟨by rw [decide_eq_true he.out]; rfl, below_drewN (Below.refl _ _) _⟩
  · go_enter Try.func24, Try.ntmps24
    go_wp2
    go_ret
    exact ⟨by first | rfl | simp [show p ≠ q from fun e => hl (by rw [e])], Below.refl _ _⟩


set_option maxRecDepth 100000 in
theorem samewrites_any (p q : List WriteD) (va vb : Value) (w : World) (ha : Seen w va p.length 2 (writeCells p)) (hb : Seen w vb q.length 2 (writeCells q)) :
    Calls Try.prog 67 #[va, vb] w fun e w' => e = .returned (.bool (decide (p = q))) ∧ Below w.heap.size w w' := by
  obtain ⟨_, a, cap, rfl, hc, hm, hnil, hcells⟩ := id ha
  obtain ⟨_, a', cap', rfl, hc', hm', hnil', hcells'⟩ := id hb
  unfold maxLen at hm hm'
  by_cases hl : p.length = q.length
  · have HL := Lib.hid hl
    go_enter Try.func67, Try.ntmps67
    go_wp2
    go_loopw [5] (fun i wr => ∃ (k n : Nat), k ≤ p.length ∧ i = .int .i64 (k : Int) ∧ wr = w.drewN n ∧ Hid (p.take k = q.take k))
      (fun i _ => p.length - (intOf i).toNat)
    case atStart => exact ⟨0, 0, by omega, rfl, rfl, rfl⟩
    case round =>
      obtain ⟨k, n, hk, rfl, rfl, heq⟩ := hrel
      by_cases h : k < p.length
      · have hq : k < q.length := by have := HL.out; omega
        obtain ⟨b, off, rfl, hb1, cl⟩ := hcells.resolve_left (by omega)
        obtain ⟨b', off', rfl, hb1', dl⟩ := hcells'.resolve_left (by omega)
        have c0 := cl (k * 2 + 0) _ ((flat_at writeOf 2 writeOf_len p k h 0 (by decide)).trans rfl)
        rw [← Nat.add_assoc, Nat.add_zero] at c0
        have c1 := cl (k * 2 + 1) _ ((flat_at writeOf 2 writeOf_len p k h 1 (by decide)).trans rfl)
        rw [← Nat.add_assoc] at c1
        have d0 := dl (k * 2 + 0) _ ((flat_at writeOf 2 writeOf_len q k hq 0 (by decide)).trans rfl)
        rw [← Nat.add_assoc, Nat.add_zero] at d0
        have d1 := dl (k * 2 + 1) _ ((flat_at writeOf 2 writeOf_len q k hq 1 (by decide)).trans rfl)
        rw [← Nat.add_assoc] at d1
        have ht : Hid (decide (p.take (k + 1) = q.take (k + 1)) = decide ((p[k].1, p[k].2) = (q[k].1, q[k].2))) := by
          show _ = _
          rw [List.take_succ_eq_append_getElem h, List.take_succ_eq_append_getElem hq, heq.out, Bool.eq_iff_iff, decide_eq_true_eq, decide_eq_true_eq]
          simp only [List.append_cancel_left_eq, List.cons.injEq, and_true]
        have hne : Hid ((p[k].1, p[k].2) ≠ (q[k].1, q[k].2) → p ≠ q) := fun h1 h2 => h1 (by subst h2; rfl)
        generalize p[k].1 = s0 at *
        generalize q[k].1 = t0 at *
        generalize p[k].2 = s1 at *
        generalize q[k].2 = t1 at *
        clear cl dl hcells hcells' ha hb
        have hst := neq_write s0 s1 t0 t1
        have hsg := neqg_write s0 s1 t0 t1
        cases hx : decide ((s0, s1) = (t0, t1))
        all_goals
          rw [hx] at ht
          simp only [hx] at hst
          go_wp2
          go_quiet (fail)
          go_wp2
        · go_ret
          exact ⟨by rw [decide_eq_false (hne.out (of_decide_eq_false hx))]; rfl, below_drewN (below_drewN (Below.refl _ _) _) _⟩
        · go_roundw
          case rel => exact ⟨k + 1, n + nq, by omega, by go_num, rfl, Lib.hid (of_decide_eq_true ht.out)⟩
          case measure => simp [intOf]; omega
      · obtain rfl : k = p.length := by omega
        have he : Hid (p = q) := by
          have := heq.out
          rw [List.take_length, HL.out, List.take_length] at this
          exact this
        go_wp2
        go_ret
        exact ⟨by rw [decide_eq_true he.out]; rfl, below_drewN (Below.refl _ _) _⟩
  · go_enter Try.func67, Try.ntmps67
    go_wp2
    go_ret
    exact ⟨by first | rfl | simp [show p ≠ q from fun e => hl (by rw [e])], Below.refl _ _⟩


end Go.Proofs.Ytohlkegmmbdlaaa.DiskP
