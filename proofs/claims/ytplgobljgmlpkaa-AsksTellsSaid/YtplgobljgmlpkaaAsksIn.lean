/- what is asked of values: In; the document's -/
import Derived.Test.YtplgobljgmlpkaaAsksRef
namespace Go.Proofs.Ytplgobljgmlpkaa.LogicP
open Go.RowKit K ValP
attribute [local go_sem ↓] Go.wp_at_zero Go.wp_at_succ

theorem elInts : El Try.prog 42 3 (.int .i64 0) 1 8 := El.mk Try.underlying42 (by kernel_rfl) rfl (by decide) (by decide)

theorem rin_all (x : ValD) (l : List ValD) : lany (l.map (rsame x)) = rin x l := by unfold lany rin; rw [List.foldl_map]
theorem same_take (x : ValD) (l : List ValD) (k : Nat) (hk : k < l.length) : ((l.take (k + 1)).map (rsame x)).map (Value.int .i64) = ((l.take k).map (rsame x)).map (Value.int .i64) ++ [.int .i64 (rsame x l[k])] := by
  rw [List.take_succ_eq_append_getElem hk, List.map_append, List.map_append]; rfl

set_option maxRecDepth 100000 in
theorem inof_any (x : ValD) (l : List ValD) (v : Value) (w : World) (hl : l.length ≤ 40) (hs : Seen w v l.length 3 (valCells l)) :
    Calls Try.prog 22 #[.agg #[.int .i64 x.1, .int .i64 x.2.1, .string x.2.2], v] w fun e w' => e = .returned (.int .i64 (rin x l)) ∧ Below w.heap.size w w' := by
  obtain ⟨_, a, cap, rfl, hc, hm, hnil, hcells⟩ := id hs
  unfold maxLen at hm
  have hW := alloc_below w (.cells #[.int .i64 x.1, .int .i64 x.2.1, .string x.2.2] 27)
  have hB := Bx.new w [.int .i64 x.1, .int .i64 x.2.1, .string x.2.2] 27 _ rfl
  have HS := Lib.hid hs
  have HR := Lib.hid (rin_all x l)
  clear hs hcells
  go_enter Try.func22, Try.ntmps22
  go_wp2_with fail
  generalize (w.alloc (.cells #[.int .i64 x.1, .int .i64 x.2.1, .string x.2.2] 27)) = W at *
  go_loopw [5, 6] (fun o i wr => ∃ (k : Nat), k ≤ l.length ∧ i = .int .i64 (k : Int) ∧ Below W.heap.size W wr ∧ wr.ownsRow W.heap.size 3 1 o k (((l.take k).map (rsame x)).map (Value.int .i64))) (fun _ i _ => l.length - (intOf i).toNat)
  case atStart => exact ⟨0, by omega, rfl, Below.refl _ _, World.ownsRow_nil _ _ _ _⟩
  case round =>
    obtain ⟨k, hk, rfl, hbel, hown⟩ := hrel
    by_cases h : k < l.length
    · obtain ⟨_, av, capv, e1, _, _, _, hcs⟩ := HS.out.later hW (Nat.le_refl _)
      simp only [Value.slice.injEq, true_and] at e1
      obtain ⟨rfl, rfl⟩ := e1
      obtain ⟨b, off, rfl, hb, cl⟩ := hcs.resolve_left (by omega)
      have d0 := cl (k * 3 + 0) _ ((flat_at ValP.valOf 3 valOf_len l k h 0 (by decide)).trans rfl)
      have d1 := cl (k * 3 + 1) _ ((flat_at ValP.valOf 3 valOf_len l k h 1 (by decide)).trans rfl)
      have d2 := cl (k * 3 + 2) _ ((flat_at ValP.valOf 3 valOf_len l k h 2 (by decide)).trans rfl)
      rw [Nat.add_zero] at d0
      rw [← Nat.add_assoc] at d1 d2
      have HD := Lib.hid (same_take x l k h)
      generalize l[k] = z at *
      clear cl hcs
      obtain ⟨y0, y1, y2, -, -, -⟩ := hB.c3
      have x0 := cell_later hbel y0
      have x1 := cell_later hbel y1
      have x2 := cell_later hbel y2
      have c0 := cell_later hbel d0
      have c1 := cell_later hbel d1
      have c2 := cell_later hbel d2
      have xl := (bx_later hbel hB).lt
      have i0 : (0 : Int) ≤ (k : Int) := by omega
      have i1 : (k : Int) < (l.length : Int) := by omega
      have hsz := hbel.size
      go_wp2_with fail
      go_region_held3 (fun W' => W'.cell? ⟨w.heap.size, 0, none⟩ = some (.int .i64 x.1) ∧ W'.cell? ⟨w.heap.size, 1, none⟩ = some (.int .i64 x.2.1) ∧ W'.cell? ⟨w.heap.size, 2, none⟩ = some (.string x.2.2) ∧
          W'.cell? ⟨b, off + k * 3, none⟩ = some (.int .i64 z.1) ∧ W'.cell? ⟨b, off + k * 3 + 1, none⟩ = some (.int .i64 z.2.1) ∧ W'.cell? ⟨b, off + k * 3 + 2, none⟩ = some (.string z.2.2))
        (first | exact ⟨x0, x1, x2, c0, c1, c2⟩ | go_keep)
        (first
          | (go_at_call 21; (with_reducible refine (sameof_any x z _).mono ?_); rintro e w1 ⟨rfl, hb1⟩
             have hbel1 := chain hbel.drew hb1
             have hsz1 := hbel1.size
             have hown1 := own_later (own_drew hown) hb1
             clear x0 x1 x2 c0 c1 c2
             have x0 := cell_later hbel1 y0
             have x1 := cell_later hbel1 y1
             have x2 := cell_later hbel1 y2
             have c0 := cell_later hbel1 d0
             have c1 := cell_later hbel1 d1
             have c2 := cell_later hbel1 d2)
          | (refine step_push elInts (.tmp 13) (.tmp 20) (by rfl) (by rfl) _ _ _ (by rfl) (by first | exact hown1 | exact hown1.drew) (by first | exact hbel1 | exact hbel1.drew) (Nat.le_refl _) (by exact hsz1) [Value.int .i64 (rsame x z)] (by rfl) (by rfl) (by intro u hu; simp at hu; subst hu; rfl) (by omega) ?_; intro v' w' hown' hbel' _ _
             clear x0 x1 x2 c0 c1 c2
             have x0 := cell_later hbel' y0
             have x1 := cell_later hbel' y1
             have x2 := cell_later hbel' y2
             have c0 := cell_later hbel' d0
             have c1 := cell_later hbel' d1
             have c2 := cell_later hbel' d2))
      all_goals
        go_wp2_with fail
        go_roundw
        case rel => exact ⟨k + 1, by omega, by go_num, hbel', by rw [HD.out]; exact hown'⟩
        case measure => simp [intOf]; omega
    · obtain rfl : k = l.length := by omega
      obtain ⟨oa, ocap, rfl⟩ := own_slice hown
      have hso := Seen.of_own hown
      rw [List.take_length] at hso
      have hso' : Seen wr (.slice oa l.length ocap) (l.map (rsame x)).length 1 ((l.map (rsame x)).map (Value.int .i64)) := by rw [List.length_map]; exact hso
      clear hso hown
      go_wp2_with fail
      refine (truthany_any (l.map (rsame x)) _ _ hso').mono ?_
      rintro e w' ⟨rfl, rfl⟩
      go_wp2_with fail
      go_ret
      exact ⟨by rw [HR.out] <;> rfl, chain hW hbel⟩

end Go.Proofs.Ytplgobljgmlpkaa.LogicP
