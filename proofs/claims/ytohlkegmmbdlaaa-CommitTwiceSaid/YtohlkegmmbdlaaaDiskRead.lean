/- Read: the program's -/
import Derived.Test.YtohlkegmmbdlaaaDiskBack
import Derived.Test.YtohlkegmmbdlaaaRws
namespace Go.Proofs.Ytohlkegmmbdlaaa.DiskP
open Go.RowKit K Go.Shelf

attribute [local go_sem] Oper.semAt_some

/-- the cells that Read has of its own -/
def RdCells (h : Nat) (vp vq : Value) (n : Int) (W : World) : Prop :=
  W.cell? ⟨h, 0, none⟩ = some vp ∧ W.cell? ⟨h, 1, none⟩ = some vq ∧ W.cell? ⟨h + 1, 0, none⟩ = some (.int .i64 n) ∧ W.cell? ⟨h + 2, 0, none⟩ = some (.string ⟨#[]⟩) ∧ W.frozen? ⟨h + 2, 0, none⟩ = false ∧
    W.cell? ⟨h + 3, 0, none⟩ = some (.int .i64 0) ∧ W.frozen? ⟨h + 3, 0, none⟩ = false
theorem RdCells.kept {h : Nat} {vp vq : Value} {n : Int} {A B : World} {row : Option Nat} (hs : RdCells h vp vq n A) (hg : A.grownBy B row) (hr : ∀ r, row = some r → ∃ o : Obj, A.heap[r]? = some o ∧ o.isCells = false) : RdCells h vp vq n B := by
  obtain ⟨a, b, c, d, e, f, g⟩ := hs
  exact ⟨cell_kept a hg hr, cell_kept b hg hr, cell_kept c hg hr, cell_kept d hg hr, (frozen_kept d hg hr).trans e, cell_kept f hg hr, (frozen_kept f hg hr).trans g⟩
theorem RdCells.later {h : Nat} {vp vq : Value} {n : Int} {A B : World} (hs : RdCells h vp vq n A) (hb : Below A.heap.size A B) (hh : h + 3 < A.heap.size) : RdCells h vp vq n B := by
  obtain ⟨a, b, c, d, e, f, g⟩ := hs
  obtain ⟨bc, bf⟩ := bcell hb
  exact ⟨(bc _ _ (by omega)).trans a, (bc _ _ (by omega)).trans b, (bc _ _ (by omega)).trans c, (bc _ _ (by omega)).trans d, (bf _ _ (by omega)).trans e, (bc _ _ (by omega)).trans f, (bf _ _ (by omega)).trans g⟩

/-- a round found what is sought -/
def RdStop (h : Nat) (n : Int) (c : Code) (pre : List (Nat × Wr)) (W : World) : Prop :=
  c = .ret ∧ ∃ pr x, pre = pr ++ [x] ∧ (∀ y ∈ pr, y.2.1 ≠ n) ∧ x.2.1 = n ∧ W.cell? ⟨h + 2, 0, none⟩ = some (.string x.2.2) ∧ W.cell? ⟨h + 3, 0, none⟩ = some (.int .i64 0)
theorem RdStop.kept {h : Nat} {n : Int} {c : Code} {pre : List (Nat × Wr)} {A B : World} {row : Option Nat} (hs : RdStop h n c pre A) (hg : A.grownBy B row) (hr : ∀ r, row = some r → ∃ o : Obj, A.heap[r]? = some o ∧ o.isCells = false) : RdStop h n c pre B := by
  obtain ⟨e, pr, x, h1, h2, h3, h4, h5⟩ := hs
  exact ⟨e, pr, x, h1, h2, h3, cell_kept h4 hg hr, cell_kept h5 hg hr⟩
theorem RdCells.made (w : World) (x y : Value) (n : Int) (t0 t1 t2 t3 : TypeId) :
    RdCells w.heap.size x y n ((((w.alloc (.cells #[x, y] t0)).alloc (.cells #[.int .i64 n] t1)).alloc (.cells #[.string ⟨#[]⟩] t2)).alloc (.cells #[.int .i64 0] t3)) := by
  have z1 : (w.alloc (.cells #[x, y] t0)).heap.size = w.heap.size + 1 := by simp
  have z2 : ((w.alloc (.cells #[x, y] t0)).alloc (.cells #[.int .i64 n] t1)).heap.size = w.heap.size + 2 := by simp
  have z3 : (((w.alloc (.cells #[x, y] t0)).alloc (.cells #[.int .i64 n] t1)).alloc (.cells #[.string ⟨#[]⟩] t2)).heap.size = w.heap.size + 3 := by simp
  have a0 := heap_alloc_new w (.cells #[x, y] t0)
  have a1 := heap_alloc_new (w.alloc (.cells #[x, y] t0)) (.cells #[.int .i64 n] t1)
  have a2 := heap_alloc_new ((w.alloc (.cells #[x, y] t0)).alloc (.cells #[.int .i64 n] t1)) (.cells #[.string ⟨#[]⟩] t2)
  have a3 := heap_alloc_new (((w.alloc (.cells #[x, y] t0)).alloc (.cells #[.int .i64 n] t1)).alloc (.cells #[.string ⟨#[]⟩] t2)) (.cells #[.int .i64 0] t3)
  rw [z1] at a1
  rw [z2] at a2
  rw [z3] at a3
  have b0 := ((alloc_below (((w.alloc (.cells #[x, y] t0)).alloc (.cells #[.int .i64 n] t1)).alloc (.cells #[.string ⟨#[]⟩] t2)) (.cells #[.int .i64 0] t3)).block w.heap.size (by omega)).trans (((alloc_below ((w.alloc (.cells #[x, y] t0)).alloc (.cells #[.int .i64 n] t1)) (.cells #[.string ⟨#[]⟩] t2)).block w.heap.size (by omega)).trans (((alloc_below (w.alloc (.cells #[x, y] t0)) (.cells #[.int .i64 n] t1)).block w.heap.size (by omega)).trans a0))
  have b1 := ((alloc_below (((w.alloc (.cells #[x, y] t0)).alloc (.cells #[.int .i64 n] t1)).alloc (.cells #[.string ⟨#[]⟩] t2)) (.cells #[.int .i64 0] t3)).block (w.heap.size + 1) (by omega)).trans (((alloc_below ((w.alloc (.cells #[x, y] t0)).alloc (.cells #[.int .i64 n] t1)) (.cells #[.string ⟨#[]⟩] t2)).block (w.heap.size + 1) (by omega)).trans a1)
  have b2 := ((alloc_below (((w.alloc (.cells #[x, y] t0)).alloc (.cells #[.int .i64 n] t1)).alloc (.cells #[.string ⟨#[]⟩] t2)) (.cells #[.int .i64 0] t3)).block (w.heap.size + 2) (by omega)).trans a2
  exact ⟨cell_of_row _ _ 0 _ _ _ b0, cell_of_row _ _ 1 _ _ _ b0, cell_of_row _ _ 0 _ _ _ b1, cell_of_row _ _ 0 _ _ _ b2, frozen_of_row _ _ 0 _ _ b2, cell_of_row _ _ 0 _ _ _ a3, frozen_of_row _ _ 0 _ _ a3⟩

set_option maxRecDepth 100000 in
set_option maxHeartbeats 4000000 in
theorem read_any (p : List ByteArray) (q : List Wr) (d : Value) (n : Int) (w : World) (hd : IsDisk w d p q) :
    Calls Try.prog 29 #[d, .int .i64 n] w fun e w' => e = .returned (.tuple #[.string (readR p q n).1, .int .i64 (readR p q n).2]) ∧ Below w.heap.size w w' := by
  obtain ⟨vp, vq, rfl, hsp, hsq⟩ := id hd
  obtain ⟨_, a, cap, rfl, hpc, hpm, hpn, hpcells⟩ := id hsp
  obtain ⟨_, a', cap', rfl, hqc, hqm, hqn, hqcells⟩ := id hsq
  refine (callsIn_wide (n := 10)).1 ?_
  refine callsIn_of_wp_marks Try.func29 rfl trivial ?_ rfl
  simp only [Try.ntmps29, List.size_toArray, List.length_cons, List.length_nil, Nat.reduceAdd, Nat.reduceSub, Array.replicate_succ, Array.replicate_zero, List.push_toArray, List.append_toArray, List.nil_append, List.cons_append]
  have hmade := RdCells.made w (Value.slice a p.length cap) (Value.slice a' q.length cap') n 25 3 9 29
  have hW : Below w.heap.size w ((((w.alloc (.cells #[Value.slice a p.length cap, Value.slice a' q.length cap'] 25)).alloc (.cells #[.int .i64 n] 3)).alloc (.cells #[.string ⟨#[]⟩] 9)).alloc (.cells #[.int .i64 0] 29)) :=
    chain (chain (chain (alloc_below _ _) (alloc_below _ _)) (alloc_below _ _)) (alloc_below _ _)
  have hz : w.heap.size + 3 < ((((w.alloc (.cells #[Value.slice a p.length cap, Value.slice a' q.length cap'] 25)).alloc (.cells #[.int .i64 n] 3)).alloc (.cells #[.string ⟨#[]⟩] 9)).alloc (.cells #[.int .i64 0] 29)).heap.size := by simp
  have hck := Lib.hid (check_any p q _ _ (hd.later hW (Nat.le_refl _)))
  gi_wp2_with fail
  rw [show w.heap.size + 1 + 1 = w.heap.size + 2 from rfl, show w.heap.size + 2 + 1 = w.heap.size + 3 from rfl]
  generalize ((((w.alloc (.cells #[Value.slice a p.length cap, Value.slice a' q.length cap'] 25)).alloc (.cells #[.int .i64 n] 3)).alloc (.cells #[.string ⟨#[]⟩] 9)).alloc (.cells #[.int .i64 0] 29)) = W at *
  refine ⟨trivial, ?_⟩
  refine (callsIn_wide.2 hck.out).mono ?_
  rintro e w1 ⟨rfl, hb1⟩
  have hw1 := chain hW hb1
  have hr1 := hmade.later hb1 hz
  have hz1 := Nat.lt_of_lt_of_le hz hb1.size
  have HP0 := Lib.hid hsp
  have HQ := Lib.hid (hsq.later hw1 (Nat.le_refl _))
  have HN := Lib.hid (show ∀ b off m, Value.slice a' q.length cap' = .slice (some ⟨b, off, none⟩) q.length m → 0 < q.length → b < w.heap.size by
    intro b off m e h0
    obtain ⟨b', off', e', hb', _⟩ := hqcells.resolve_left (by omega)
    simp only [Value.slice.injEq, true_and] at e
    rw [e.1] at e'
    simp only [Option.some.injEq, Addr.mk.injEq] at e'
    rw [e'.1]; exact hb')
  clear hW hmade hz hck hd hsp hsq hqcells hpcells hb1
  obtain ⟨r0, r1, r2, r3, r4, r5, r6⟩ := id hr1
  by_cases hce : check p q = 0
  · have hE := Lib.hid (show readR p q n = if inPlace n = false then (⟨#[]⟩, 3) else (lastOn (pageAt p n) q n, 0) by unfold readR; rw [if_neg (by simpa using hce)])
    have hq48 := (check_ok p q hce).2.2.2.1
    have hp32 := (check_ok p q hce).1
    rw [hce]
    clear hce
    cases hpl : inPlace n
    · have hE := Lib.hid (hE.out.trans (if_pos hpl))
      have HPL := Lib.hid hpl
      clear hpl
      gi_wp2_with (refine ⟨trivial, ?_⟩; gi_at_call 52; refine (callsIn_wide.2 (place_any _ _)).mono ?_; rintro e w' ⟨rfl, rfl⟩; rw [HPL.out])
      refine ⟨.tuple #[.string ⟨#[]⟩, .int .i64 3], by simp [results, Try.f29, go_sem, r3, r5], by rw [hE.out] <;> rfl, (hw1.setCell (by simp <;> omega) _).setCell (by simp <;> omega) _⟩
    · have hE := Lib.hid (hE.out.trans (if_neg (by rw [hpl]; decide)))
      have HPL := Lib.hid hpl
      have hn : 0 ≤ n ∧ n < 32 := by unfold inPlace at hpl; simpa using hpl
      obtain ⟨n0, n1⟩ := hn
      clear hpl
      gi_wp2_with (first
        | (refine ⟨trivial, ?_⟩; gi_at_call 52; refine (callsIn_wide.2 (place_any _ _)).mono ?_; rintro e w' ⟨rfl, rfl⟩; rw [HPL.out])
        | (refine ⟨trivial, ?_⟩; gi_at_call 53; refine (backward_in _ _ trivial rfl _ _ _ _).mono ?_; rintro e w' ⟨rfl, rfl⟩))
      have hwa := alloc_below w1 (.cells #[.slice a' q.length cap'] 23)
      have hcB := cell_new w1 (.slice a' q.length cap') 23
      have hr2 := hr1.later hwa hz1
      have hw2 := chain hw1 hwa
      have HQ2 := HQ.out.later hwa (Nat.le_refl _)
      have hz2 : w.heap.size + 3 < (w1.alloc (.cells #[.slice a' q.length cap'] 23)).heap.size := by simp; omega
      have hzB : w1.heap.size < (w1.alloc (.cells #[.slice a' q.length cap'] 23)).heap.size := by simp
      generalize (w1.alloc (.cells #[.slice a' q.length cap'] 23)) = W2 at *
      have hle : w.heap.size ≤ W2.heap.size := by omega
      refine wpIn_rangeFunc_ownH rfl (by decide) (gf := 70) (lb := #[.pointer (some ⟨w1.heap.size, 0, none⟩)]) rfl trivial (enters_of Try.func70 (by kernel_rfl) rfl)
        (back_stops Fence.wide 9 trivial rfl (by decide) w1.heap.size W2.heap.size q (.slice a' q.length cap') (by omega) W2 hcB hzB (Nat.le_refl _) HQ2 (fun b off m e h0 => Nat.lt_of_lt_of_le (HN.out b off m e h0) hle)) belowK_t (belowK_b (Nat.le_refl _)) (Below.refl _ _) (fun _ => rfl)
        (fun pre W => (RdCells w.heap.size (.slice a p.length cap) (.slice a' q.length cap') n W ∧ (∀ y ∈ pre, y.2.1 ≠ n) ∧ W2.heap.size ≤ W.heap.size) ∧ Below w.heap.size w W)
        (fun c pre W => (RdStop w.heap.size n c pre W) ∧ Below w.heap.size w W)
        (OwnFrom.and (Own.from (fun s A B row hs hg hr => ⟨hs.1.kept hg hr, hs.2.1, Nat.le_trans hs.2.2 hg.size⟩) _) (ownFrom_below (Nat.le_refl _) hle))
        (fun c => OwnFrom.and (Own.from (fun s A B row hs hg hr => hs.kept hg hr) _) (ownFrom_below (Nat.le_refl _) hle))
        ⟨⟨hr2, by simp, Nat.le_refl _⟩, hw2⟩
        (fun x aa W => ∃ Bx, W2.heap.size ≤ Bx ∧ W.cell? ⟨Bx, 0, none⟩ = some (.int .i64 x.2.1) ∧ W.cell? ⟨Bx, 1, none⟩ = some (.string x.2.2) ∧ aa = { tmps := #[Value.agg #[Value.slice a p.length cap, Value.slice a' q.length cap'], Value.int .i64 n, Value.pointer (some ⟨w.heap.size, 0, none⟩), Value.pointer (some ⟨w.heap.size + 1, 0, none⟩), Value.pointer (some ⟨w.heap.size + 2, 0, none⟩), Value.pointer (some ⟨w.heap.size + 3, 0, none⟩), Value.int .i64 0, undef, .pointer (some ⟨Bx, 0, none⟩), Value.agg #[Value.slice a p.length cap, Value.slice a' q.length cap'], Value.int .i64 0, Value.int .i64 0, Value.bool true, Value.bool true, Value.int .i64 n, Value.bool true, Value.bool false, Value.bool false, Value.int .i64 0, Value.bool false, undef, Value.pointer (some ⟨w.heap.size, 1, none⟩), Value.slice a' q.length cap', Value.func (.func 70) #[] #[Value.pointer (some ⟨w1.heap.size, 0, none⟩)], .int .i64 (x.1 : Int), .agg #[.int .i64 x.2.1, .string x.2.2], undef, undef, undef, undef, undef, undef, undef, undef, undef, undef, undef, undef, undef, undef, undef, undef], defers := [] })
        (fun x aa _ X Y row hs hg hr => by obtain ⟨Bx, h1, h2, h3, h4⟩ := hs; exact ⟨Bx, h1, cell_kept h2 hg (fun r e => (hr r e).2), cell_kept h3 hg (fun r e => (hr r e).2), h4⟩)
        ?assign ?body ?done ?stop
      case assign =>
        rintro l pre x W K ⟨⟨hrw, hne, hsz⟩, hB⟩ hK
        unfold wrArgs
        gi_wp2
        have hra := hrw.later (alloc_below W (.cells #[.int .i64 x.2.1, .string x.2.2] 56)) (by omega)
        have hn := heap_alloc_new W (.cells #[.int .i64 x.2.1, .string x.2.2] 56)
        exact hK _ _ ((KeepsOthers.alloc _ _).from _) ((Below.refl _ W).alloc hsz _) ⟨⟨hra, hne, by simp; omega⟩, hB.alloc hB.size _⟩ ⟨W.heap.size, hsz, cell_of_row _ _ 0 _ _ _ hn, cell_of_row _ _ 1 _ _ _ hn, rfl⟩
      case body =>
        rintro l pre x aa W hl ⟨r, hr⟩ ⟨⟨hrw, hne, hsz⟩, hB⟩ ⟨Bx, hBx, cx0, cx1, rfl⟩ hlt
        obtain ⟨s0, s1, s2, s3, s4, s5, s6⟩ := id hrw
        cases hx : (x.2.1 == n)
        · gi_wp2
          exact ⟨(KeepsOthers.refl _).from _, Below.refl _ _, ⟨hrw, fun y hy => (List.mem_append.1 hy).elim (hne y) (fun e e' => by simp at e; subst e; rw [e'] at hx; simp at hx), hsz⟩, hB⟩
        · gi_wp2
          exact ⟨((KeepsOthers.setCell W ⟨w.heap.size + 2, 0, none⟩ (.string x.2.2)).trans (KeepsOthers.setCell _ ⟨w.heap.size + 3, 0, none⟩ (.int .i64 0))).from _,
            ⟨rfl, pre, x, rfl, hne, eq_of_beq hx, by rw [World.cell?_setCell_other _ _ _ _ (by simp)]; exact World.cell?_setCell_same _ _ _ s3, World.cell?_setCell_same _ _ _ ((World.cell?_setCell_other _ _ _ _ (by simp)).trans s5)⟩,
            (hB.setCell (by simp <;> omega) _).setCell (by simp <;> omega) _⟩
      case done =>
        rintro D ys W hD rfl ⟨⟨hrw, hne, hsz⟩, hB⟩ hK
        obtain ⟨s0, s1, s2, s3, s4, s5, s6⟩ := id hrw
        have hE := Lib.hid (hE.out.trans (by rw [lastOn_none _ _ _ hne]))
        obtain ⟨_, av, capv, e1, _, _, _, hcs⟩ := HP0.out.later hB (Nat.le_refl _)
        simp only [Value.slice.injEq, true_and] at e1
        obtain ⟨rfl, rfl⟩ := e1
        obtain ⟨k, rfl⟩ := Int.eq_ofNat_of_zero_le n0
        have hK2 := ((KeepsOthers.setCell W ⟨w.heap.size + 2, 0, none⟩ (.string (pageAt p (k : Int)))).trans (KeepsOthers.setCell _ ⟨w.heap.size + 3, 0, none⟩ (.int .i64 0))).same D _ hK rfl
        have hx1 := cell_kept (v := .string (pageAt p (k : Int))) (show ((W.setCell ⟨w.heap.size + 2, 0, none⟩ (.string (pageAt p (k : Int)))).setCell ⟨w.heap.size + 3, 0, none⟩ (.int .i64 0)).cell? ⟨w.heap.size + 2, 0, none⟩ = some (.string (pageAt p (k : Int))) by
          rw [World.cell?_setCell_other _ _ _ _ (by simp)]; exact World.cell?_setCell_same _ _ _ s3) (grownBy_putObj' _ D (.deferred none)) (fun r e => by cases e; exact ⟨_, hK2, rfl⟩)
        have hx2 := cell_kept (v := .int .i64 0) (show ((W.setCell ⟨w.heap.size + 2, 0, none⟩ (.string (pageAt p (k : Int)))).setCell ⟨w.heap.size + 3, 0, none⟩ (.int .i64 0)).cell? ⟨w.heap.size + 3, 0, none⟩ = some (.int .i64 0) from
          World.cell?_setCell_same _ _ _ ((World.cell?_setCell_other _ _ _ _ (by simp)).trans s5)) (grownBy_putObj' _ D (.deferred none)) (fun r e => by cases e; exact ⟨_, hK2, rfl⟩)
        have hBe := ((hB.setCell (p := ⟨w.heap.size + 2, 0, none⟩) (by simp) (.string (pageAt p (k : Int)))).setCell (p := ⟨w.heap.size + 3, 0, none⟩) (by simp) (.int .i64 0)).trans (belowK_b (w := w) (Nat.le_refl _) _ D _ (.deferred none) (by omega) hK2 rfl rfl)
        by_cases hk : k < p.length
        · obtain ⟨b, off, rfl, hbW, cl⟩ := hcs.resolve_left (by omega)
          have c0 := cl k (.string p[k]) (by simp [hk])
          have hpg : pageAt p (k : Int) = p[k] := by unfold pageAt; rw [if_pos (by omega)]; simp [hk]
          have hki : (k : Int) < (p.length : Int) := by omega
          rw [hpg] at hE hK2 hx1 hx2 hBe
          clear hpg cl hcs
          generalize p[k] = s at *
          gi_wp2
          refine ⟨by simp, .inl ⟨_, _, rfl, run_takeDeferred hK2, ?_⟩⟩
          exact ⟨.tuple #[.string s, .int .i64 0], by simp [results, Try.f29, go_sem, hx1, hx2], by rw [hE.out], hBe⟩
        · have hpg : pageAt p (k : Int) = ⟨#[]⟩ := by unfold pageAt; rw [if_pos (by omega), List.getD_eq_getElem?_getD, List.getElem?_eq_none (by simp; omega)]; rfl
          rw [hpg] at hE hK2 hx1 hx2 hBe
          clear hpg hcs
          gi_wp2
          refine ⟨by simp, .inl ⟨_, _, rfl, run_takeDeferred hK2, ?_⟩⟩
          exact ⟨.tuple #[.string ⟨#[]⟩, .int .i64 0], by simp [results, Try.f29, go_sem, hx1, hx2], by rw [hE.out], hBe⟩
      case stop =>
        rintro D c pre W hD ⟨k, hk, hpre⟩ ⟨⟨rfl, pr, x, rfl, hne, hx, hc1, hc2⟩, hB⟩ hK
        have hE := Lib.hid (show readR p q n = (x.2.2, 0) from hE.out.trans (by
          obtain ⟨k, rfl⟩ : ∃ k', k = k' + 1 := by
            cases k with
            | zero => exact absurd (congrArg List.length hpre) (by simp [upto])
            | succ k => exact ⟨k, rfl⟩
          rw [upto_succ] at hpre
          have h2 := List.append_inj' hpre rfl
          have h3 : x = fromBack q k := by simpa using h2.2
          rw [lastOn_found _ q n k (by omega) (by rw [← h2.1]; exact hne) (by rw [← h3]; exact hx), ← h3]))
        gi_wp2
        refine ⟨by simp, .inl ⟨_, _, rfl, run_takeDeferred hK, ?_⟩⟩
        have hx1 := cell_kept hc1 (grownBy_putObj' _ D (.deferred none)) (fun r e => by cases e; exact ⟨_, hK, rfl⟩)
        have hx2 := cell_kept hc2 (grownBy_putObj' _ D (.deferred none)) (fun r e => by cases e; exact ⟨_, hK, rfl⟩)
        exact ⟨.tuple #[.string x.2.2, .int .i64 0], by simp [results, Try.f29, go_sem, hx1, hx2], by rw [hE.out], hB.trans (belowK_b (w := w) (Nat.le_refl _) W D _ _ (by omega) hK rfl rfl)⟩

  · have hE := Lib.hid (show readR p q n = (⟨#[]⟩, check p q) from if_pos hce)
    have hnz : (check p q == 0) = false := beq_eq_false_iff_ne.2 hce
    have hnz' : (check p q != 0) = true := by rw [bne_iff_ne]; exact hce
    clear hce
    gi_wp2_with fail
    refine ⟨trivial, ?_⟩
    gi_wp2_with fail
    refine ⟨.tuple #[.string ⟨#[]⟩, .int .i64 (check p q)], by simp [results, Try.f29, go_sem, r3, r5], by rw [hE.out] <;> rfl, (hw1.setCell (by simp <;> omega) _).setCell (by simp <;> omega) _⟩

end Go.Proofs.Ytohlkegmmbdlaaa.DiskP
