/- TotalOrder: a sum does not hang on the order. Conditions: none beyond the statement's own. -/
import Derived.Test.YtejieckalcledaaOpen
import Derived.Test.YtejieckalcledaaWholeBegun
namespace Go.Proofs.Ytejieckalcledaa.totalOrder
open Go.ChangeShapes Go.WideShapes Go.ChangeAt Go.RowKit
open Go.ChangeMaps (open_string shut_string)
set_option linter.unusedVariables false

open K WholeP

theorem elI64 : El Try.prog 27 2 (.int .i64 0) 1 8 := El.mk Try.underlying27 (by kernel_rfl) rfl (by decide) (by decide)

theorem sum_set (l : List Int) (i : Nat) (x : Int) (h : i < l.length) : (l.set i x).sum = l.sum - l[i] + x := by
  induction l generalizing i with
  | nil => simp at h
  | cons y l ih =>
    cases i with
    | zero => simp; omega
    | succ i => simp only [List.set_cons_succ, List.sum_cons, List.getElem_cons_succ]; rw [ih i (by simpa using h)]; omega

theorem sum_swap (l : List Int) (i k : Nat) (hi : i < l.length) (hk : k < l.length) : ((l.set i l[k]).set k l[i]).sum = l.sum := by
  rw [sum_set _ _ _ (by simpa using hk), sum_set _ _ _ hi, List.getElem_set]
  split
  · rename_i h; subst h; omega
  · omega

theorem sum_rev (l : List Int) : l.reverse.sum = l.sum := by
  induction l with
  | nil => rfl
  | cons x l ih => rw [List.reverse_cons, List.sum_append, ih, List.sum_cons]; simp; omega

theorem total_rev (l : List Int) : total l.reverse = total l := by unfold total; rw [sum_rev, List.length_reverse]
theorem total_swap (l : List Int) (i k : Nat) (hi : i < l.length) (hk : k < l.length) : total ((l.set i l[k]).set k l[i]) = total l := by
  unfold total; rw [sum_swap l i k hi hk, List.length_set, List.length_set]

theorem seen_at {w : World} {b off n cap : Nat} {cs : List Value} (h : Seen w (.slice (some ⟨b, off, none⟩) n cap) n 1 cs) (j : Nat) (hj : j < n) (hj' : j < cs.length) : w.cell? ⟨b, off + j, none⟩ = some cs[j] := by
  obtain ⟨_, a', cap', e1, _, _, _, h4⟩ := h
  simp only [Value.slice.injEq, true_and] at e1
  obtain ⟨b', off', e2, _, h7⟩ := h4.resolve_left (by omega)
  rw [← e1.1] at e2
  simp only [Option.some.injEq, Addr.mk.injEq, and_true] at e2
  obtain ⟨rfl, rfl⟩ := e2
  exact h7 j _ (List.getElem?_eq_getElem hj')

set_option maxRecDepth 100000 in
set_option maxHeartbeats 1000000 in
theorem walk (l : List Int) (hl : ∀ x ∈ l, -9223372036854775808 ≤ x ∧ x ≤ 9223372036854775807) (v : Value) (i : Int) (i0 : -9223372036854775808 ≤ i) (i1 : i ≤ 9223372036854775807)
    (k : Int) (k0 : -9223372036854775808 ≤ k) (k1 : k ≤ 9223372036854775807) (w : World) (hs : Seen w v l.length 1 (l.map (Value.int .i64))) (hz : l.length * 8 ≤ 140737488351232) :
    Calls Try.prog 6 #[v, .int .i64 i, .int .i64 k] w fun e w' => e = .returned (.bool true) ∧ Below w.heap.size w w' := by
  have hT := total_any l hl v w hs
  have hrev := total_any l.reverse (fun x hx => hl x (by simpa using hx))
  rw [total_rev] at hrev
  generalize hgt : total l = T at hT hrev
  obtain ⟨t, e⟩ := T
  obtain ⟨_, a, cap, rfl, hc, hm, hnil, hcells⟩ := id hs
  unfold maxLen at hm
  have hw0 : wrap64 ((l.length : Int) - 1) = (l.length : Int) - 1 := by unfold wrap64; omega
  go_enter Try.func6, Try.ntmps6
  go_wp2_with (first
    | (go_at_call 15; refine (begun_any _).mono ?_; rintro e w1 ⟨rfl, hb1⟩)
    | (go_at_call 18; (with_reducible refine hT.mono ?_); rintro e w2 ⟨rfl, hb2⟩))
  have hb := chain hb2 hb1
  clear hT
  go_loopw [9, 10] (fun o j wr => ∃ n : Nat, n ≤ l.length ∧ j = .int .i64 ((n : Int) - 1) ∧ wr.ownsRow w.heap.size 2 1 o (l.length - n) ((l.drop n).reverse.map (Value.int .i64)) ∧ Below w.heap.size w wr)
    (fun _ j _ => ((intOf j) + 1).toNat)
  case atStart => exact ⟨l.length, Nat.le_refl _, rfl, by simpa using World.ownsRow_nil _ _ _ _, hb⟩
  case round =>
    obtain ⟨n, hn, rfl, hown, hbel⟩ := hrel
    cases n with
    | succ n =>
      rw [show ((n + 1 : Nat) : Int) - 1 = (n : Int) by omega] at *
      obtain ⟨b, off, rfl, hbl, hcl⟩ := hcells.resolve_left (by omega)
      have hs' := hs.later hbel (Nat.le_refl _)
      have hcell : wr.cell? ⟨b, off + n, none⟩ = some (.int .i64 l[n]) := by
        obtain ⟨_, a', cap', e1, _, _, _, h4⟩ := hs'
        simp only [Value.slice.injEq, true_and] at e1
        obtain ⟨b', off', e2, _, h7⟩ := h4.resolve_left (by omega)
        rw [← e1.1] at e2
        simp only [Option.some.injEq, Addr.mk.injEq, and_true] at e2
        obtain ⟨rfl, rfl⟩ := e2
        exact h7 n _ (by simp [show n < l.length by omega])
      have hw1 : wrap64 ((n : Int) - 1) = (n : Int) - 1 := by unfold wrap64; omega
      have hlt : n < l.length := by omega
      go_wp2_with (at_builtin; refine push elI64 (.tmp 28) (.tmp 33) rfl rfl _ _ _ rfl hown hbel (Nat.le_refl _) hbel.size [Value.int .i64 l[n]] rfl rfl (by simp [Value.oneCell']) (by omega) ?_; intro v' w' hown' hbel' _ _)
      go_roundw
      case rel =>
        refine ⟨n, by omega, by go_num, ?_, hbel'⟩
        rw [List.drop_eq_getElem_cons hlt, List.reverse_cons, List.map_append, show l.length - n = l.length - (n + 1) + 1 by omega]
        exact hown'
      case measure => simp [intOf]
    | zero =>
      rw [show ((0 : Nat) : Int) - 1 = -1 by rfl] at *
      simp only [List.drop_zero, Nat.sub_zero] at hown
      have hso := Seen.of_own hown
      rw [← List.length_reverse] at hso
      have hR := hrev _ wr hso
      by_cases hin : 0 ≤ i ∧ i < l.length ∧ 0 ≤ k ∧ k < l.length
      · obtain ⟨h1, h2, h3, h4⟩ := hin
        obtain ⟨i, rfl⟩ := Int.eq_ofNat_of_zero_le h1
        obtain ⟨k, rfl⟩ := Int.eq_ofNat_of_zero_le h3
        have hi : i < l.length := by omega
        have hk : k < l.length := by omega
        obtain ⟨b, off, rfl, hbl, hcl⟩ := hcells.resolve_left (by omega)
        have d1 : decide ((i : Int) < 0) = false := decide_eq_false (by omega)
        have d2 : decide (l.length ≤ i) = false := decide_eq_false (by omega)
        have d3 : decide ((k : Int) < 0) = false := decide_eq_false (by omega)
        have d4 : decide (l.length ≤ k) = false := decide_eq_false (by omega)
        clear hown hso hrev
        go_wp2_with (first
          | (go_at_call 18; (with_reducible refine hR.mono ?_); rintro e w3 ⟨rfl, hb3⟩)
          | (at_builtin; refine spread elI64 (.tmp 66) (.tmp 67) rfl rfl _ 0 [] rfl (own_built (w := w3) (B := w.heap.size) [] 0 1 (hbel.trans (hb3.mono hbel.size)).size (by decide) rfl) (((hbel.trans (hb3.mono hbel.size))).alloc (hbel.trans (hb3.mono hbel.size)).size _) (Nat.le_refl _) ((((hbel.trans (hb3.mono hbel.size))).alloc (hbel.trans (hb3.mono hbel.size)).size _)).size
              _ l.length (l.map (Value.int .i64)) rfl (hs.later (((hbel.trans (hb3.mono hbel.size))).alloc (hbel.trans (hb3.mono hbel.size)).size _) (Nat.le_refl _)) (by simp [Value.oneCell']) (by omega) ?_; intro v' w4 hown4 hbel4 _))
        obtain ⟨g, cap', rfl, hg, hcap, hrow⟩ := RowIs.of_own hown4 (by omega)
        have hs4 := hs.later hbel4 (Nat.le_refl _)
        have ci : w4.cell? ⟨b, off + i, none⟩ = some (.int .i64 l[i]) := (seen_at hs4 i hi (by rw [List.length_map]; exact hi)).trans (by rw [List.getElem_map])
        have ck : w4.cell? ⟨b, off + k, none⟩ = some (.int .i64 l[k]) := (seen_at hs4 k hk (by rw [List.length_map]; exact hk)).trans (by rw [List.getElem_map])
        have fi := hrow.free i
        have fk := hrow.free k
        have oi := hrow.cell (j := i) (by simpa using hi)
        have ok := hrow.cell (j := k) (by simpa using hk)
        have hrow2 := hrow.set i (.int .i64 l[k])
        have ok2 := hrow2.cell (j := k) (by simpa using hk)
        have fk2 := hrow2.free k
        have hrow3 := hrow2.set k (.int .i64 l[i])
        have hb5 : Below w.heap.size w ((w4.setCell ⟨g, i, none⟩ (.int .i64 l[k])).setCell ⟨g, k, none⟩ (.int .i64 l[i])).drew := ((hbel4.setCell (by show w.heap.size ≤ g; exact hg) _).setCell (by show w.heap.size ≤ g; exact hg) _).drew
        rw [Nat.zero_add] at hown4 ⊢
        have hown5 := ((hown4.stored i (.int .i64 l[k])).1.stored k (.int .i64 l[i])).1
        rw [List.nil_append, ← List.map_set, ← List.map_set] at hown5
        have hsz : ((l.set i l[k]).set k l[i]).length = l.length := by simp
        have hs5 := (Seen.of_own hown5).later (B := (w4.setCell ⟨g, i, none⟩ (.int .i64 l[k])).heap.size) (((Below.refl _ _)).drew) (by simp)
        rw [← hsz] at hs5
        have hT5 := total_any ((l.set i l[k]).set k l[i]) (fun x hx => by
          rcases List.mem_or_eq_of_mem_set hx with hx | rfl
          · rcases List.mem_or_eq_of_mem_set hx with hx | rfl
            · exact hl x hx
            · exact hl _ (List.getElem_mem _)
          · exact hl _ (List.getElem_mem _)) _ _ hs5
        rw [total_swap l i k hi hk, hgt, hsz] at hT5
        clear hs5 hown5 hrow3 hgt hcl hcells hl hR
        go_wp2
        go_region
        all_goals
          go_wp2_with (first
            | (go_at_call 18; (with_reducible refine hT5.mono ?_); rintro e w6 ⟨rfl, hb6⟩))
          go_ret
          exact ⟨rfl, hb5.trans (hb6.mono hb5.size)⟩
      · have hout : decide (i < 0) = true ∨ (decide (i < 0) = false ∧ (decide ((l.length : Int) ≤ i) = true ∨ (decide ((l.length : Int) ≤ i) = false ∧ (decide (k < 0) = true ∨ (decide (k < 0) = false ∧ decide ((l.length : Int) ≤ k) = true))))) := by
          simp; omega
        clear hown hso hrev
        rcases hout with d1 | ⟨d1, d2 | ⟨d2, d3 | ⟨d3, d4⟩⟩⟩
        all_goals
          go_wp2_with (first
            | (go_at_call 18; (with_reducible refine hR.mono ?_); rintro e w3 ⟨rfl, hb3⟩))
          go_ret
          exact ⟨rfl, hbel.trans (hb3.mono hbel.size)⟩

/-! ### the row's step, by program -/
set_option maxRecDepth 100000 in
theorem lifted (os : Os) (started : os.Started) (H : Type) (enc : TypeId × Value → H) :
    ReturnsInHanded {} Try.checked os 6 .any (Rows.totalOrderSpec.pre6 enc Try.prog Try.f6 Rows.totalOrderRow.domain false) (Rows.totalOrderSpec.post enc Try.prog Try.f6 false true false false) := by
  refine returnsInHanded_of_change_sized (C := Try.checked) own started (by kernel_rfl) Try.func6
    (ChangeSpec.witness6 (enc := enc) (C := Try.checked) false ⟨#[], #[.slice none 0 0, .int .i64 0, .int .i64 0], []⟩ 8 (by kernel_rfl) (by kernel_rfl) (by kernel_rfl) (by kernel_rfl)) ?_
  intro W base args ds gs before hval0 hW hcnd hsz0 _
  have hval : ∀ (j : Nat) t v, Try.f6.params[j]? = some t → args[j]? = some v → Value.okWide Try.prog W .any base t v := hval0
  have hsz : (DataW.weightsEach Try.prog (Try.f6.params.toList ++ Rows.totalOrderSpec.plain.varTypes Try.prog) (ds ++ gs)).all (· ≤ reachBytes) = true := hsz0
  have hW' := hW
  obtain ⟨p, q, hA0, hV, rfl, hfz, hnd⟩ := hW
  have hA : DataW.TrodAll enc Try.prog W 0 (fun _ => true) true Try.f6.params.toList args.toList ds p := hA0
  rw [Try.params6] at hA hval hsz
  obtain ⟨v0, vs0, d0, ds0, p0, q0, hargs, rfl, rfl, h0, r0⟩ := trodAll_cons hA
  obtain ⟨v1, vs1, d1, ds1, p1, q1, rfl, rfl, rfl, h1, r1⟩ := trodAll_cons r0
  obtain ⟨v2, vs2, d2, ds2, p2, q2, rfl, rfl, rfl, h2, r2⟩ := trodAll_cons r1
  obtain ⟨rfl, rfl, rfl⟩ := trodAll_nil r2
  obtain rfl : args = #[v0, v1, v2] := by cases args; simp_all
  obtain ⟨rfl, rfl⟩ := trodVars_none hV
  obtain ⟨l0, wf0, s0, dd0⟩ := open_nums Try.underlying27 Try.underlying2 (by kernel_rfl) (hval 0 27 v0 rfl rfl) h0
  have w0 : ∀ x ∈ l0, -9223372036854775808 ≤ x ∧ x ≤ 9223372036854775807 := fun x hx => by simpa [Lit.wf, IntKind.min, IntKind.max, IntKind.signed, IntKind.bits] using wf0 x hx
  have z0 : l0.length * 8 ≤ 140737488351232 := by
    have := sized_nums dd0 hsz (j := 0) (t := 27) rfl rfl Try.underlying27
    rwa [show Try.prog.bytesOf 2 = 8 by kernel_rfl] at this
  obtain ⟨a1, rfl, rfl, rfl, wf1⟩ := open_int Try.underlying3 (hval 1 3 v1 rfl rfl) h1
  have w1 : -9223372036854775808 ≤ a1 ∧ a1 ≤ 9223372036854775807 := by simpa [Lit.wf, IntKind.min, IntKind.max, IntKind.signed, IntKind.bits] using wf1
  obtain ⟨a2, rfl, rfl, rfl, wf2⟩ := open_int Try.underlying3 (hval 2 3 v2 rfl rfl) h2
  have w2 : -9223372036854775808 ≤ a2 ∧ a2 ≤ 9223372036854775807 := by simpa [Lit.wf, IntKind.min, IntKind.max, IntKind.signed, IntKind.bits] using wf2
  clear hA0 hval0
  refine (walk l0 w0 v0 a1 w1.1 w1.2 a2 w2.1 w2.2 W s0 z0).mono fun e W' ⟨he, bel⟩ => ?_
  subst he
  exact ⟨_, rfl, post_true laidOut (by kernel_rfl) Try.underlying4 (by kernel_rfl) rfl hW' rfl bel⟩

theorem proved : Rows.TotalOrderSaid :=
  OpenClaim.holds_of_wide 6 Try.f6 rfl rfl rfl rfl rfl rfl rfl ⟨rfl, rfl, rfl, rfl, rfl⟩ rfl rfl rfl rfl rfl (by kernel_rfl) Try.func6 (by kernel_rfl)
    (of_decide_eq_true (by kernel_rfl)) (by unfold Func.isWrapper; first | (rw [if_pos (by decide +kernel)]; kernel_rfl) | (rw [if_neg (by decide +kernel)]; exact ⟨rfl, rfl⟩))
    (fun os started H enc _ => lifted os started H enc)

end Go.Proofs.Ytejieckalcledaa.totalOrder

