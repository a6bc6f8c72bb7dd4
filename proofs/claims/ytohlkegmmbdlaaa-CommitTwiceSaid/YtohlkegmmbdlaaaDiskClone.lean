/- an own copy of a disk -/
import Derived.Test.YtohlkegmmbdlaaaDiskSame
import Derived.Test.YtohlkegmmbdlaaaDiskLand
namespace Go.Proofs.Ytohlkegmmbdlaaa.DiskP
open Go.RowKit K

theorem elStrs : El Try.prog 22 9 (.string ⟨#[]⟩) 1 16 := El.mk Try.underlying22 (by kernel_rfl) rfl (by decide) (by decide)
theorem elWrites : El Try.prog 23 56 (.agg #[.int .i64 0, .string ⟨#[]⟩]) 2 24 := El.mk Try.underlying23 (by kernel_rfl) rfl (by decide) (by decide)

set_option maxRecDepth 100000 in
theorem clonestrs_any (p : List ByteArray) (v : Value) (w : World) (hl : p.length * 16 ≤ 140737488355328) (hs : Seen w v p.length 1 (p.map Value.string)) :
    Calls Try.prog 57 #[v] w fun e w' => ∃ u, e = .returned u ∧ w'.ownsRow w.heap.size 9 1 u p.length (p.map Value.string) ∧ Below w.heap.size w w' := by
  obtain ⟨_, a, cap, rfl, hc, hm, hnil, hcells⟩ := id hs
  unfold maxLen at hm
  have hq := fun w => Lib.run_eql_slice_nil (P := Try.prog) w 22 9 a p.length cap 0 0 Try.underlying22
  cases a with
  | none =>
    obtain rfl : cap = 0 := hnil rfl
    obtain rfl : p = [] := List.eq_nil_of_length_eq_zero (by omega)
    simp only [List.length_nil] at *
    go_enter Try.func57, Try.ntmps57
    go_wp2
    go_ret
    exact ⟨_, rfl, World.ownsRow_nil _ _ _ _, Below.refl _ _⟩
  | some ad =>
    go_enter Try.func57, Try.ntmps57
    go_wp2_with (at_builtin; refine spread elStrs (.tmp 5) (.tmp 6) rfl rfl _ 0 [] rfl (own_built (w := w) (B := w.heap.size) [] 0 1 (Nat.le_refl _) (by decide) rfl) ((Below.refl _ _).alloc (Nat.le_refl _) _) (Nat.le_refl _) (by simp) _ p.length (p.map Value.string) rfl (hs.later ((Below.refl _ _).alloc (Nat.le_refl _) _) (Nat.le_refl _)) ?_ (by omega) ?_)
    · intro u hu
      obtain ⟨x, _, rfl⟩ := List.mem_map.1 hu
      rfl
    · intro v' w' hown hbel hgr
      go_wp2
      go_ret
      exact ⟨_, rfl, hown, hbel⟩

set_option maxRecDepth 100000 in
theorem clonewrites_any (p : List Wr) (v : Value) (w : World) (hl : p.length * 24 ≤ 140737488355328) (hs : Seen w v p.length 2 (wrCells p)) :
    Calls Try.prog 58 #[v] w fun e w' => ∃ u, e = .returned u ∧ w'.ownsRow w.heap.size 56 2 u p.length (wrCells p) ∧ Below w.heap.size w w' := by
  obtain ⟨_, a, cap, rfl, hc, hm, hnil, hcells⟩ := id hs
  unfold maxLen at hm
  have hq := fun w => Lib.run_eql_slice_nil (P := Try.prog) w 23 56 a p.length cap 0 0 Try.underlying23
  cases a with
  | none =>
    obtain rfl : cap = 0 := hnil rfl
    obtain rfl : p = [] := List.eq_nil_of_length_eq_zero (by omega)
    simp only [List.length_nil] at *
    go_enter Try.func58, Try.ntmps58
    go_wp2
    go_ret
    exact ⟨_, rfl, World.ownsRow_nil _ _ _ _, Below.refl _ _⟩
  | some ad =>
    go_enter Try.func58, Try.ntmps58
    go_wp2_with (at_builtin; refine spread elWrites (.tmp 5) (.tmp 6) rfl rfl _ 0 [] rfl (own_built (w := w) (B := w.heap.size) [] 0 2 (Nat.le_refl _) (by decide) rfl) ((Below.refl _ _).alloc (Nat.le_refl _) _) (Nat.le_refl _) (by simp) _ p.length (wrCells p) rfl (hs.later ((Below.refl _ _).alloc (Nat.le_refl _) _) (Nat.le_refl _)) ?_ (by omega) ?_)
    · intro u hu
      obtain ⟨x, _, hx⟩ := List.mem_flatMap.1 hu
      exact writeOf_one x u hx
    · intro v' w' hown hbel hgr
      go_wp2
      go_ret
      exact ⟨_, rfl, hown, hbel⟩

/-- a disk of the call's own -/
def OwnDisk (w : World) (B : Nat) (d : Value) (p : List ByteArray) (q : List Wr) : Prop :=
  ∃ vp vq, d = .agg #[vp, vq] ∧ w.ownsRow B 9 1 vp p.length (p.map Value.string) ∧ w.ownsRow B 56 2 vq q.length (wrCells q)
theorem OwnDisk.is {w : World} {B : Nat} {d : Value} {p : List ByteArray} {q : List Wr} (h : OwnDisk w B d p q) : IsDisk w d p q := by
  obtain ⟨vp, vq, h1, h2, h3⟩ := h
  exact ⟨vp, vq, h1, Seen.of_own h2, Seen.of_own h3⟩
theorem OwnDisk.later {w w' : World} {B : Nat} {d : Value} {p : List ByteArray} {q : List Wr} (h : OwnDisk w B d p q) (hb : Below w.heap.size w w') : OwnDisk w' B d p q := by
  obtain ⟨vp, vq, h1, h2, h3⟩ := h
  exact ⟨vp, vq, h1, own_later h2 hb, own_later h3 hb⟩
theorem OwnDisk.mono {w : World} {B B' : Nat} {d : Value} {p : List ByteArray} {q : List Wr} (h : OwnDisk w B d p q) (hb : B' ≤ B) : OwnDisk w B' d p q := by
  obtain ⟨vp, vq, h1, h2, h3⟩ := h
  exact ⟨vp, vq, h1, own_mono h2 hb, own_mono h3 hb⟩
theorem ownNone (w : World) (B : Nat) : OwnDisk w B (.agg #[.slice none 0 0, .slice none 0 0]) [] [] := ⟨_, _, rfl, World.ownsRow_nil _ _ _ _, World.ownsRow_nil _ _ _ _⟩

set_option maxRecDepth 100000 in
set_option maxHeartbeats 1000000 in
theorem own_any (p : List ByteArray) (q : List Wr) (d : Value) (w : World) (hp : p.length ≤ 1000) (hq : q.length ≤ 1000) (hd : IsDisk w d p q) :
    Calls Try.prog 41 #[d] w fun e w' => ∃ u, e = .returned u ∧ OwnDisk w' w.heap.size u p q ∧ Below w.heap.size w w' := by
  obtain ⟨vp, vq, rfl, hsp, hsq⟩ := hd
  have hW : Below w.heap.size w ((w.alloc (.cells #[vp, vq] 25)).alloc (.cells #[.slice none 0 0, .slice none 0 0] 25)) := ((Below.refl _ _).alloc (Nat.le_refl _) _).alloc (by simp) _
  obtain ⟨_, a, cap, rfl, hc, hm, hnil, hcells⟩ := id hsp
  obtain ⟨_, a', cap', rfl, hc', hm', hnil', hcells'⟩ := id hsq
  go_enter Try.func41, Try.ntmps41
  go_wp2
  have h0 : ((w.alloc (.cells #[Value.slice a p.length cap, Value.slice a' q.length cap'] 25)).alloc (.cells #[.slice none 0 0, .slice none 0 0] 25)).heap[w.heap.size]? = some (.cells #[Value.slice a p.length cap, Value.slice a' q.length cap'] 25 (0, 0)) := by
    rw [heap_alloc_old _ _ (by simp)]; exact heap_alloc_new _ _
  have h1 : ((w.alloc (.cells #[Value.slice a p.length cap, Value.slice a' q.length cap'] 25)).alloc (.cells #[.slice none 0 0, .slice none 0 0] 25)).heap[w.heap.size + 1]? = some (.cells #[.slice none 0 0, .slice none 0 0] 25 (0, 0)) := by
    have := heap_alloc_new (w.alloc (.cells #[Value.slice a p.length cap, Value.slice a' q.length cap'] 25)) (.cells #[.slice none 0 0, .slice none 0 0] 25)
    simpa using this
  have hz : w.heap.size + 1 < ((w.alloc (.cells #[Value.slice a p.length cap, Value.slice a' q.length cap'] 25)).alloc (.cells #[.slice none 0 0, .slice none 0 0] 25)).heap.size := by simp
  generalize ((w.alloc (.cells #[Value.slice a p.length cap, Value.slice a' q.length cap'] 25)).alloc (.cells #[.slice none 0 0, .slice none 0 0] 25)) = W at *
  have c0 := cell_of_row W w.heap.size 0 _ _ _ h0
  have c1 := cell_of_row W w.heap.size 1 _ _ _ h0
  have d0 := cell_of_row W (w.heap.size + 1) 0 _ _ _ h1
  have d1 := cell_of_row W (w.heap.size + 1) 1 _ _ _ h1
  simp only [List.getElem?_toArray, List.getElem?_cons_zero, List.getElem?_cons_succ] at c0 c1 d0 d1
  have f0 := frozen_of_row W (w.heap.size + 1) 0 _ _ h1
  have f1 := frozen_of_row W (w.heap.size + 1) 1 _ _ h1
  have z1 := hz
  have K : Box22 w.heap.size (Value.slice a p.length cap) (Value.slice a' q.length cap') (.slice none 0 0) (.slice none 0 0) W := ⟨c0, c1, d0, d1, f0, f1⟩
  clear h0 h1 hz hcells hcells'
  have HS := Lib.hid hsp
  have HQ := Lib.hid hsq
  clear hsp hsq
  go_region_held3 (fun W' => W'.cell? ⟨w.heap.size, 0, none⟩ = some (Value.slice a p.length cap) ∧ W'.cell? ⟨w.heap.size, 1, none⟩ = some (Value.slice a' q.length cap'))
    (first | go_keep | exact ⟨K1.1, K1.2.1⟩ | exact ⟨K2.1, K2.2.1⟩)
    (first
      | (go_at_call 57; refine (clonestrs_any p _ _ (by omega) ?_).mono ?_
         · (refine HS.out.later (B := w.heap.size) ?_ (Nat.le_refl _); repeat (first | exact hW | refine Below.drew ?_ | refine chain ?_ (by assumption)))
         rintro e w1 ⟨u1, rfl, hu1, hb1⟩
         obtain ⟨a1, k1, rfl⟩ := own_slice hu1
         have zs1 := Nat.lt_of_lt_of_le (by first | exact z1 | exact zw1) hb1.size
         have K1 := Box22.later (by first | exact K | exact K2) hb1 (by first | exact z1 | exact zw1)
         obtain ⟨-, -, m0, m1, n0, n1⟩ := id K1)
      | (go_at_call 58; refine (clonewrites_any q _ _ (by omega) ?_).mono ?_
         · (refine HQ.out.later (B := w.heap.size) ?_ (Nat.le_refl _); repeat (first | exact hW | refine Below.drew ?_ | refine chain ?_ (by assumption)))
         rintro e w2 ⟨u2, rfl, hu2, hb2⟩
         obtain ⟨a2, k2, rfl⟩ := own_slice hu2
         have zw1 := Nat.lt_of_lt_of_le (by first | exact z1 | exact zs1) hb2.size
         have K2 := Box22.later (by first | exact K | exact K1) hb2 (by first | exact z1 | exact zs1)
         obtain ⟨-, -, m0', m1', n0', n1'⟩ := id K2))
  all_goals
    go_wp2
    refine bodyPost_ret (v := .agg #[.slice a1 p.length k1, .slice a2 q.length k2]) (by first | simp [results, Try.results41, go_sem, m0', m1'] | simp [results, Try.results41, go_sem, m0, m1]) rfl ⟨_, rfl, ⟨_, _, rfl, ?_, ?_⟩, ?_⟩
    · refine own_mono (B := w.heap.size + 2) ?_ (by omega)
      refine own_set (own_set ?_ (by simp) _) (by simp) _
      first | exact own_mono hu1 (by first | exact z1 | exact zw1) | exact own_later (own_mono hu1 (by first | exact z1 | exact zw1)) hb2
    · refine own_mono (B := w.heap.size + 2) ?_ (by omega)
      refine own_set (own_set ?_ (by simp) _) (by simp) _
      first | exact own_mono hu2 (by first | exact z1 | exact zs1) | exact own_later (own_mono hu2 (by first | exact z1 | exact zs1)) hb1
    · refine Below.setCell (Below.setCell ?_ (by simp) _) (by simp) _
      repeat (first | exact hW | refine Below.drew ?_ | refine chain ?_ (by assumption))

end Go.Proofs.Ytohlkegmmbdlaaa.DiskP
