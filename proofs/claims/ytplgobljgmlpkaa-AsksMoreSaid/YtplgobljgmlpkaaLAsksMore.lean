/- AsksMore: what is found in a list is found in a longer one; who is between equal ends is In. Conditions: none beyond the statement's own. -/
import Derived.Test.YtplgobljgmlpkaaLogicMore
import Derived.Test.YtplgobljgmlpkaaLogic4
import Derived.Test.YtplgobljgmlpkaaLogicBegun
import Derived.Test.YtplgobljgmlpkaaStep
namespace Go.Proofs.Ytplgobljgmlpkaa.asksMore
open Go.ChangeShapes Go.WideShapes Go.ChangeAt Go.RowKit
open Go.ChangeMaps (open_string shut_string)
set_option linter.unusedVariables false

open K LogicP ValP
attribute [local go_sem ↓] Go.wp_at_zero Go.wp_at_succ

theorem elVals : El Try.prog 28 27 (.agg #[.int .i64 0, .int .i64 0, .string ⟨#[]⟩]) 3 32 := El.mk Try.underlying28 (by kernel_rfl) rfl (by decide) (by decide)
theorem bytesVal : Try.prog.bytesOf 27 = 32 := by kernel_rfl
theorem vals_snoc (l : List ValD) (b : ValD) : valCells (l ++ [b]) = valCells l ++ [.int .i64 b.1, .int .i64 b.2.1, .string b.2.2] := by
  unfold valCells; rw [List.flatMap_append]; rfl

set_option maxRecDepth 100000 in
set_option maxHeartbeats 8000000 in
set_option linter.unusedVariables false in
theorem walk (a : ValD) (_oa : valOk a) (va : Value) (b : ValD) (_ob : valOk b) (vb : Value) (l : List ValD) (ol : l.length * Try.prog.bytesOf 27 ≤ 140737488351232 ∧ ∀ x ∈ l, valOk x) (vl : Value) (w : World) (ha : IsVal va a) (hb : IsVal vb b) (hs : Seen w vl l.length 3 (valCells l)) :
    Calls Try.prog 4 #[va, vb, vl] w fun e w' => e = .returned (.bool true) ∧ Below w.heap.size w w' := by
  rw [ha, hb]
  clear ha hb
  have hroom := ol.1
  rw [bytesVal] at hroom
  clear ol _oa _ob
  obtain ⟨_, ad, cap, rfl, _, hcap, _, _⟩ := id hs
  have hone : ∀ u ∈ valCells l, u.oneCell' = true := fun u hu => by
    obtain ⟨x, _, hx⟩ := List.mem_flatMap.1 hu
    exact valOf_one x u hx
  have HONE := Lib.hid hone
  clear hone
  have HF := asks_more a b l
  have C1 := fun W v h => in_any a l v W h
  have C2 := fun W v h => in_any a (l ++ [b]) v W h
  have C3 := fun W => between_any a b b W
  have C4 := fun W v h => in_any a [b] v W h
  generalize vin a l = r1 at *
  generalize vin a (l ++ [b]) = r2 at *
  generalize vbetween a b b = r3 at *
  generalize vin a [b] = r4 at *
  obtain ⟨x, p⟩ := r1
  obtain ⟨y, q⟩ := r2
  obtain ⟨z, r⟩ := r3
  obtain ⟨t, h⟩ := r4
  simp only at HF C1 C2 C3 C4
  have HF1 := Lib.hid HF
  have HC1 := Lib.hid C1
  have HC2 := Lib.hid C2
  have HC3 := Lib.hid C3
  have HC4 := Lib.hid C4
  clear HF C1 C2 C3 C4
  go_enter Try.func4, Try.ntmps4
  go_wp2_with fail
  refine (HC1.out _ _ (hs.later (chain (alloc_below w (.cells #[.int .i64 a.1, .int .i64 a.2.1, .string a.2.2] 27)) (alloc_below (w.alloc (.cells #[.int .i64 a.1, .int .i64 a.2.1, .string a.2.2] 27)) (.cells #[.int .i64 b.1, .int .i64 b.2.1, .string b.2.2] 27))) (Nat.le_refl _))).mono ?_
  rintro e w1 ⟨rfl, hb1⟩
  have hW1 := chain (chain (alloc_below _ _) (alloc_below _ _)) hb1
  replace hs := hs.later (chain (chain (alloc_below _ _) (alloc_below _ _)) hb1) (Nat.le_refl _)
  have ba := ((Bx.new _ [.int .i64 a.1, .int .i64 a.2.1, .string a.2.2] 27 (w.heap.size) (by simp)).alloc _).later hb1
  have bb := (Bx.new _ [.int .i64 b.1, .int .i64 b.2.1, .string b.2.2] 27 (w.heap.size + 1) (by simp)).later hb1
  obtain ⟨cba0, cba1, cba2, fba0, fba1, fba2⟩ := ba.c3
  have lba := ba.lt
  obtain ⟨cbb0, cbb1, cbb2, fbb0, fbb1, fbb2⟩ := bb.c3
  have lbb := bb.lt
  go_wp2_with fail
  have hz0 : w.heap.size + 1 < w1.heap.size := lbb
  go_region_held3 (fun W' => W'.cell? ⟨w.heap.size, 0, none⟩ = some (.int .i64 a.1) ∧ W'.cell? ⟨w.heap.size, 1, none⟩ = some (.int .i64 a.2.1) ∧ W'.cell? ⟨w.heap.size, 2, none⟩ = some (.string a.2.2) ∧ W'.cell? ⟨w.heap.size + 1, 0, none⟩ = some (.int .i64 b.1) ∧ W'.cell? ⟨w.heap.size + 1, 1, none⟩ = some (.int .i64 b.2.1) ∧ W'.cell? ⟨w.heap.size + 1, 2, none⟩ = some (.string b.2.2))
    (first | exact ⟨cba0, cba1, cba2, cbb0, cbb1, cbb2⟩ | go_keep)
    (first
      | (refine step_spread elVals (.tmp 23) (.tmp 24) (by rfl) (by rfl) (.slice (some ⟨_, 0, none⟩) 0 0) 0 [] (by rfl) (by first | exact own_built (B := w1.heap.size) [] 0 3 (by first | omega | (simp; done) | (simp; omega)) (by decide) rfl | exact (own_built (B := w1.heap.size) [] 0 3 (by first | omega | (simp; done) | (simp; omega)) (by decide) rfl).alloc _ | exact own_built' (B := w1.heap.size) [] 0 3 _ (by simp) (by first | omega | (simp; done) | (simp; omega)) (by decide) rfl | exact own_drew (own_built' (B := w1.heap.size) [] 0 3 _ (by simp) (by first | omega | (simp; done) | (simp; omega)) (by decide) rfl)) (by first | omega | (simp; done) | (simp; omega)) _ l.length (valCells l) (by rfl) (hs.later (B := w1.heap.size) (by repeat (first | exact Below.refl _ _ | refine Below.drew ?_ | refine Below.alloc ?_ (by first | omega | (simp; done) | (simp; omega)) _)) (Nat.le_refl _)) HONE.out (by omega) ?_; intro b3 k3 w3 hown3 hgr3
         have hown3 : w3.ownsRow w1.heap.size 27 3 (.slice b3 l.length k3) l.length (valCells l) := by simpa using hown3
         replace ba := (ba.later (by repeat (first | exact Below.refl _ _ | refine Below.drew ?_ | refine Below.alloc ?_ (by first | omega | (simp; done) | (simp; omega)) _))).grown hgr3 (by rw [Value.ownBlock]; intro e; have e := Option.some.inj e; first | omega | (simp at e; omega))
         replace bb := (bb.later (by repeat (first | exact Below.refl _ _ | refine Below.drew ?_ | refine Below.alloc ?_ (by first | omega | (simp; done) | (simp; omega)) _))).grown hgr3 (by rw [Value.ownBlock]; intro e; have e := Option.some.inj e; first | omega | (simp at e; omega))
         have hz31 : w1.heap.size ≤ w3.heap.size := by have := hgr3.size; first | omega | (simp at this; omega)
         have hb3 : Below w.heap.size w w3 := Below.grown (by repeat (first | exact hW1 | refine Below.drew ?_ | refine Below.alloc ?_ (by first | omega | (simp; done) | (simp; omega)) _)) hgr3 (by first | omega | (simp; done) | (simp; omega)) (fun k hk => by simp [Value.ownBlock] at hk; omega)
         clear cba0 cba1 cba2 fba0 fba1 fba2 lba cbb0 cbb1 cbb2 fbb0 fbb1 fbb2 lbb
         obtain ⟨cba0, cba1, cba2, fba0, fba1, fba2⟩ := ba.c3
         have lba := ba.lt
         obtain ⟨cbb0, cbb1, cbb2, fbb0, fbb1, fbb2⟩ := bb.c3
         have lbb := bb.lt)
      | (refine step_spread elVals (.tmp 25) (.tmp 27) (by rfl) (by rfl) (.slice b3 l.length k3) l.length (valCells l) (by simp [Act.eval]) (by first | exact hown3 | exact hown3.alloc _) (by first | omega | (simp; done) | (simp; omega)) _ 1 [.int .i64 b.1, .int .i64 b.2.1, .string b.2.2] (by rfl) (by first
              | exact Seen.of_own (own_built' (B := 0) [.int .i64 b.1, .int .i64 b.2.1, .string b.2.2] 1 3 _ (by simp) (by simp) (by decide) rfl)
              | exact Seen.of_own ((own_drew (own_built' (B := 0) [.int .i64 b.1, .int .i64 b.2.1, .string b.2.2] 1 3 _ (by simp) (by simp) (by decide) rfl)).kept hgr3 (.inr (by simp [Value.ownBlock])))
              | exact Seen.of_own ((own_drew ((own_built' (B := 0) [.int .i64 b.1, .int .i64 b.2.1, .string b.2.2] 1 3 _ (by simp) (by simp) (by decide) rfl).alloc _)).kept hgr3 (.inr (by simp [Value.ownBlock])))) (by intro u hu; simp at hu; rcases hu with rfl | rfl | rfl <;> rfl) (by omega) ?_; intro b4 k4 w4 hown4 hgr4
         replace ba := (ba.later (by repeat (first | exact Below.refl _ _ | refine Below.drew ?_ | refine Below.alloc ?_ (by first | omega | (simp; done) | (simp; omega)) _))).grown hgr4 (fun e => by have := (hown3.lt _ e.symm).1; omega)
         replace bb := (bb.later (by repeat (first | exact Below.refl _ _ | refine Below.drew ?_ | refine Below.alloc ?_ (by first | omega | (simp; done) | (simp; omega)) _))).grown hgr4 (fun e => by have := (hown3.lt _ e.symm).1; omega)
         have hz41 : w1.heap.size ≤ w4.heap.size := by have := hgr4.size; first | omega | (simp at this; omega)
         have hs4 : Seen w4 (.slice b4 (l.length + 1) k4) (l ++ [b]).length 3 (valCells (l ++ [b])) := by rw [List.length_append, vals_snoc]; exact Seen.of_own hown4
         have hb4 : Below w.heap.size w w4 := Below.grown (by repeat (first | exact hb3 | refine Below.drew ?_ | refine Below.alloc ?_ (by first | omega | (simp; done) | (simp; omega)) _)) hgr4 (by first | omega | (simp; done) | (simp; omega)) (fun k hk => Nat.le_trans (by omega) (hown3.lt k hk).1)
         clear cba0 cba1 cba2 fba0 fba1 fba2 lba cbb0 cbb1 cbb2 fbb0 fbb1 fbb2 lbb
         obtain ⟨cba0, cba1, cba2, fba0, fba1, fba2⟩ := ba.c3
         have lba := ba.lt
         obtain ⟨cbb0, cbb1, cbb2, fbb0, fbb1, fbb2⟩ := bb.c3
         have lbb := bb.lt)
      | (go_at_call 14; (with_reducible refine (HC2.out _ _ hs4).mono ?_); rintro e w5 ⟨rfl, hb5⟩
         have hW5 := chain hb4 hb5
         replace ba := bx_later hb5 ba
         replace bb := bx_later hb5 bb
         clear cba0 cba1 cba2 fba0 fba1 fba2 lba cbb0 cbb1 cbb2 fbb0 fbb1 fbb2 lbb
         obtain ⟨cba0, cba1, cba2, fba0, fba1, fba2⟩ := ba.c3
         have lba := ba.lt
         obtain ⟨cbb0, cbb1, cbb2, fbb0, fbb1, fbb2⟩ := bb.c3
         have lbb := bb.lt))
  all_goals
    go_wp2_with fail
    refine (HC3.out _).mono ?_
    rintro e w6 ⟨rfl, hb6⟩
    clear cba0 cba1 cba2 fba0 fba1 fba2 lba cbb0 cbb1 cbb2 fbb0 fbb1 fbb2 lbb
    have hW6 := chain hW5 hb6
    replace ba := ba.later hb6
    replace bb := bb.later hb6
    obtain ⟨cba0, cba1, cba2, fba0, fba1, fba2⟩ := ba.c3
    have lba := ba.lt
    obtain ⟨cbb0, cbb1, cbb2, fbb0, fbb1, fbb2⟩ := bb.c3
    have lbb := bb.lt
    go_wp2_with fail
    refine (HC4.out _ _ (seen_vals w6 [b] _ 1 rfl rfl (by decide))).mono ?_
    rintro e w7 ⟨rfl, hb7⟩
    clear cba0 cba1 cba2 fba0 fba1 fba2 lba cbb0 cbb1 cbb2 fbb0 fbb1 fbb2 lbb
    have hW7 := chain (chain hW6 (alloc_below _ _)) hb7
    replace ba := (ba.alloc _).later hb7
    replace bb := (bb.alloc _).later hb7
    obtain ⟨cba0, cba1, cba2, fba0, fba1, fba2⟩ := ba.c3
    have lba := ba.lt
    obtain ⟨cbb0, cbb1, cbb2, fbb0, fbb1, fbb2⟩ := bb.c3
    have lbb := bb.lt
    go_wp2_with fail
    refine (begun_any _).mono ?_
    rintro e w8 ⟨rfl, hb8⟩
    clear cba0 cba1 cba2 fba0 fba1 fba2 lba cbb0 cbb1 cbb2 fbb0 fbb1 fbb2 lbb
    have hW8 := chain hW7 hb8
    replace ba := ba.later hb8
    replace bb := bb.later hb8
    obtain ⟨cba0, cba1, cba2, fba0, fba1, fba2⟩ := ba.c3
    have lba := ba.lt
    obtain ⟨cbb0, cbb1, cbb2, fbb0, fbb1, fbb2⟩ := bb.c3
    have lbb := bb.lt
    by_cases hp : p = 0
    · by_cases hq : q = 0
      · by_cases hr : r = 0
        · by_cases hh : h = 0
          · obtain ⟨k1, k2, rfl⟩ := HF1.out hp hq hr hh
            subst hp hq hr hh
            clear HF1
            by_cases hbz : b.1 = 0
            · have hy := bne_iff_ne.2 (k2 hbz)
              have hb0 : (b.1 != 0) = false := by rw [bne_eq_false_iff_eq]; exact hbz
              clear k2 hbz
              go_wp2_with fail
              go_ret
              exact ⟨by first | rfl | simp, hW8⟩
            · have hb0 := bne_iff_ne.2 hbz
              clear k2 hbz
              go_wp2_with fail
              go_ret
              exact ⟨by first | rfl | simp, hW8⟩
          · have hh' := bne_iff_ne.2 hh
            subst hp hq hr
            clear HF1 hh
            go_wp2_with fail
            go_ret
            exact ⟨by first | rfl | simp, hW8⟩
        · have hr' := bne_iff_ne.2 hr
          subst hp hq
          clear HF1 hr
          go_wp2_with fail
          go_ret
          exact ⟨by first | rfl | simp, hW8⟩
      · have hq' := bne_iff_ne.2 hq
        subst hp
        clear HF1 hq
        go_wp2_with fail
        go_ret
        exact ⟨by first | rfl | simp, hW8⟩
    · have hp' := bne_iff_ne.2 hp
      clear HF1 hp
      go_wp2_with fail
      go_ret
      exact ⟨by first | rfl | simp, hW8⟩

/-! ### the row's step, by program -/
set_option maxRecDepth 100000 in
theorem lifted (os : Os) (started : os.Started) (H : Type) (enc : TypeId × Value → H) :
    ReturnsInHanded {} Try.checked os 4 .any (Rows.asksMoreSpec.pre6 enc Try.prog Try.f4 Rows.asksMoreRow.domain false) (Rows.asksMoreSpec.post enc Try.prog Try.f4 false true false false) := by
  refine returnsInHanded_of_change_sized (C := Try.checked) own started (by kernel_rfl) Try.func4
    (ChangeSpec.witness6 (enc := enc) (C := Try.checked) false ⟨#[], #[.agg #[.int .i64 0, .int .i64 0, .string ByteArray.empty], .agg #[.int .i64 0, .int .i64 0, .string ByteArray.empty], .slice none 0 0], []⟩ 8 (by kernel_rfl) (by kernel_rfl) (by kernel_rfl) (by kernel_rfl)) ?_
  intro W base args ds gs before hval0 hW hcnd hsz0 _
  have hval : ∀ (j : Nat) t v, Try.f4.params[j]? = some t → args[j]? = some v → Value.okWide Try.prog W .any base t v := hval0
  have hsz : (DataW.weightsEach Try.prog (Try.f4.params.toList ++ Rows.asksMoreSpec.plain.varTypes Try.prog) (ds ++ gs)).all (· ≤ reachBytes) = true := hsz0
  have hW' := hW
  obtain ⟨p, q, hA0, hV, rfl, hfz, hnd⟩ := hW
  have hA : DataW.TrodAll enc Try.prog W 0 (fun _ => true) true Try.f4.params.toList args.toList ds p := hA0
  rw [Try.params4] at hA hval hsz
  obtain ⟨v0, vs0, d0, ds0, p0, q0, hargs, rfl, rfl, h0, r0⟩ := trodAll_cons hA
  obtain ⟨v1, vs1, d1, ds1, p1, q1, rfl, rfl, rfl, h1, r1⟩ := trodAll_cons r0
  obtain ⟨v2, vs2, d2, ds2, p2, q2, rfl, rfl, rfl, h2, r2⟩ := trodAll_cons r1
  obtain ⟨rfl, rfl, rfl⟩ := trodAll_nil r2
  obtain rfl : args = #[v0, v1, v2] := by cases args; simp_all
  obtain ⟨rfl, rfl⟩ := trodVars_none hV
  obtain ⟨x0, R0, k0⟩ := open_param ValP.opens_val h0 hsz (j := 0) (t := 27) rfl rfl
  have D0 := ValP.valR_is (agg_cells Try.underlying27 (hval 0 27 v0 rfl rfl) rfl) R0
  obtain ⟨x1, R1, k1⟩ := open_param ValP.opens_val h1 hsz (j := 1) (t := 27) rfl rfl
  have D1 := ValP.valR_is (agg_cells Try.underlying27 (hval 1 27 v1 rfl rfl) rfl) R1
  obtain ⟨l2, R2, k2⟩ := open_param (opens_slice Try.underlying28 (by kernel_rfl) ValP.opens_val) h2 hsz (j := 2) (t := 28) rfl rfl
  have s2 : Seen W v2 l2.length 3 (ValP.valCells l2) := by
    obtain ⟨u, e, r⟩ := R2
    rw [slice_cells Try.underlying28 (hval 2 28 v2 rfl rfl) e]
    exact r.flat
  clear hA0 hval0
  refine (walk x0 k0 v0 x1 k1 v1 l2 k2 v2 W D0 D1 s2).mono fun e W' ⟨he, bel⟩ => ?_
  subst he
  exact ⟨_, rfl, post_true laidOut (by kernel_rfl) Try.underlying4 (by kernel_rfl) rfl hW' rfl bel⟩

theorem proved : Rows.AsksMoreSaid :=
  OpenClaim.holds_of_wide 4 Try.f4 rfl rfl rfl rfl rfl rfl rfl ⟨rfl, rfl, rfl, rfl, rfl⟩ rfl rfl rfl rfl rfl (by kernel_rfl) Try.func4 (by kernel_rfl)
    (of_decide_eq_true (by kernel_rfl)) (by unfold Func.isWrapper; first | (rw [if_pos (by decide +kernel)]; kernel_rfl) | (rw [if_neg (by decide +kernel)]; exact ⟨rfl, rfl⟩))
    (fun os started H enc _ => lifted os started H enc)

end Go.Proofs.Ytplgobljgmlpkaa.asksMore

