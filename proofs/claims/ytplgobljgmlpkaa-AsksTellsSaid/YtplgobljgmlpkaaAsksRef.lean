/- what is asked of values: the document's -/
import Derived.Test.YtplgobljgmlpkaaLogic3
import Derived.Test.YtplgobljgmlpkaaLogicRef
import Derived.Test.YtplgobljgmlpkaaValOrd
namespace Go.Proofs.Ytplgobljgmlpkaa.LogicP
open Go.RowKit K ValP
attribute [local go_sem ↓] Go.wp_at_zero Go.wp_at_succ

theorem valueless_of (a b : ValD) (ha : a.2.2.size ≤ 140737488351232) (hb : b.2.2.size ≤ 140737488351232) (w : World) :
    Calls Try.prog 44 #[.agg #[.int .i64 a.1, .int .i64 a.2.1, .string a.2.2], .agg #[.int .i64 b.1, .int .i64 b.2.1, .string b.2.2]] w fun e w' => e = .returned (.bool (decide (order a b < 0))) ∧ Below w.heap.size w w' :=
  valueless_any a.1 a.2.1 a.2.2 b.1 b.2.1 b.2.2 w ha hb

set_option maxRecDepth 100000 in
theorem lessof_any (a b : ValD) (ha : a.2.2.size ≤ 140737488351232) (hb : b.2.2.size ≤ 140737488351232) (w : World) :
    Calls Try.prog 20 #[.agg #[.int .i64 a.1, .int .i64 a.2.1, .string a.2.2], .agg #[.int .i64 b.1, .int .i64 b.2.1, .string b.2.2]] w fun e w' => e = .returned (.int .i64 (rless a b)) ∧ Below w.heap.size w w' := by
  have hW := chain (alloc_below w (.cells #[.int .i64 a.1, .int .i64 a.2.1, .string a.2.2] 27)) (alloc_below _ (.cells #[.int .i64 b.1, .int .i64 b.2.1, .string b.2.2] 27))
  have HV := Lib.hid (valueless_of a b ha hb)
  have HR := Lib.hid (show ¬ (a.1 = 0 ∨ b.1 = 0) → rless a b = ofB (decide (order a b < 0)) from fun h => if_neg h)
  have HN := Lib.hid (show (a.1 = 0 ∨ b.1 = 0) → rless a b = 1 from fun h => if_pos h)
  clear ha hb
  cases h1 : (a.1 == 0) <;> cases h2 : (b.1 == 0)
  · have HK := Lib.hid (HR.out (by simp at h1 h2; omega))
    clear HR HN
    generalize decide (order a b < 0) = o at *
    go_enter Try.func20, Try.ntmps20
    go_wp2_with (first
      | (go_at_call 44; refine (HV.out _).mono ?_; rintro e w1 ⟨rfl, hb1⟩)
      | (go_at_call 43; refine (truth_any _ _).mono ?_; rintro e w' ⟨rfl, rfl⟩))
    go_ret
    exact ⟨by rw [HK.out] <;> rfl, chain hW hb1⟩
  all_goals
    have HK := Lib.hid (HN.out (by simp at h1 h2; omega))
    clear HR HN
    go_enter Try.func20, Try.ntmps20
    go_wp2_with fail
    go_ret
    exact ⟨by rw [HK.out] <;> rfl, hW⟩

set_option maxRecDepth 100000 in
theorem sameof_any (a b : ValD) (w : World) :
    Calls Try.prog 21 #[.agg #[.int .i64 a.1, .int .i64 a.2.1, .string a.2.2], .agg #[.int .i64 b.1, .int .i64 b.2.1, .string b.2.2]] w fun e w' => e = .returned (.int .i64 (rsame a b)) ∧ Below w.heap.size w w' := by
  have hW := chain (alloc_below w (.cells #[.int .i64 a.1, .int .i64 a.2.1, .string a.2.2] 27)) (alloc_below _ (.cells #[.int .i64 b.1, .int .i64 b.2.1, .string b.2.2] 27))
  have HV := eql_val a.1 a.2.1 a.2.2 b.1 b.2.1 b.2.2
  have HG := eqlg_val a.1 a.2.1 a.2.2 b.1 b.2.1 b.2.2
  have HR := Lib.hid (show ¬ (a.1 = 0 ∨ b.1 = 0) → rsame a b = ofB (decide ((a.1, a.2.1, a.2.2) = (b.1, b.2.1, b.2.2))) from fun h => (if_neg h).trans (congrArg ofB (by rw [Bool.eq_iff_iff, decide_eq_true_eq, beq_iff_eq]; exact order_zero a b)))
  have HN := Lib.hid (show (a.1 = 0 ∨ b.1 = 0) → rsame a b = 1 from fun h => if_pos h)
  skip
  cases h1 : (a.1 == 0) <;> cases h2 : (b.1 == 0)
  · have HK := Lib.hid (HR.out (by simp at h1 h2; omega))
    clear HR HN
    generalize decide ((a.1, a.2.1, a.2.2) = (b.1, b.2.1, b.2.2)) = o at *
    go_enter Try.func21, Try.ntmps21
    go_wp2_with (first
      | (go_at_call 43; refine (truth_any _ _).mono ?_; rintro e w' ⟨rfl, rfl⟩))
    go_ret
    exact ⟨by rw [HK.out] <;> rfl, hW⟩
  all_goals
    have HK := Lib.hid (HN.out (by simp at h1 h2; omega))
    clear HR HN
    go_enter Try.func21, Try.ntmps21
    go_wp2_with fail
    go_ret
    exact ⟨by rw [HK.out] <;> rfl, hW⟩

theorem lall_two (x y : Int) : lall [x, y] = land x y := by
  show land (land 2 x) y = land x y
  unfold land
  rcases plain_cases x with h | h | h <;> rcases plain_cases y with k | k | k <;> rw [h, k] <;> decide

set_option maxRecDepth 100000 in
theorem betweenof_any (v lo hi : ValD) (hv : v.2.2.size ≤ 140737488351232) (hl : lo.2.2.size ≤ 140737488351232) (hh : hi.2.2.size ≤ 140737488351232) (w : World) :
    Calls Try.prog 23 #[.agg #[.int .i64 v.1, .int .i64 v.2.1, .string v.2.2], .agg #[.int .i64 lo.1, .int .i64 lo.2.1, .string lo.2.2], .agg #[.int .i64 hi.1, .int .i64 hi.2.1, .string hi.2.2]] w fun e w' => e = .returned (.int .i64 (rbetween v lo hi)) ∧ Below w.heap.size w w' := by
  have hW1 := alloc_below w (.cells #[.int .i64 v.1, .int .i64 v.2.1, .string v.2.2] 27)
  have hW2 := alloc_below (w.alloc (.cells #[.int .i64 v.1, .int .i64 v.2.1, .string v.2.2] 27)) (.cells #[.int .i64 lo.1, .int .i64 lo.2.1, .string lo.2.2] 27)
  have hW3 := alloc_below ((w.alloc (.cells #[.int .i64 v.1, .int .i64 v.2.1, .string v.2.2] 27)).alloc (.cells #[.int .i64 lo.1, .int .i64 lo.2.1, .string lo.2.2] 27)) (.cells #[.int .i64 hi.1, .int .i64 hi.2.1, .string hi.2.2] 27)
  have hW := chain (chain hW1 hW2) hW3
  have bV := ((Bx.new w [.int .i64 v.1, .int .i64 v.2.1, .string v.2.2] 27 _ rfl).later hW2).later hW3
  have bL := (Bx.new (w.alloc (.cells #[.int .i64 v.1, .int .i64 v.2.1, .string v.2.2] 27)) [.int .i64 lo.1, .int .i64 lo.2.1, .string lo.2.2] 27 (w.heap.size + 1) (by simp)).later hW3
  have bH := Bx.new ((w.alloc (.cells #[.int .i64 v.1, .int .i64 v.2.1, .string v.2.2] 27)).alloc (.cells #[.int .i64 lo.1, .int .i64 lo.2.1, .string lo.2.2] 27)) [.int .i64 hi.1, .int .i64 hi.2.1, .string hi.2.2] 27 (w.heap.size + 1 + 1) (by simp)
  have HL1 := Lib.hid (fun W => lessof_any v lo hv hl W)
  have HL2 := Lib.hid (fun W => lessof_any hi v hh hv W)
  have HR := Lib.hid (show lall [lnot (rless v lo), lnot (rless hi v)] = rbetween v lo hi from lall_two _ _)
  clear hW1 hW2 hW3 hv hl hh
  go_enter Try.func23, Try.ntmps23
  go_wp2_with fail
  generalize (((w.alloc (.cells #[.int .i64 v.1, .int .i64 v.2.1, .string v.2.2] 27)).alloc (.cells #[.int .i64 lo.1, .int .i64 lo.2.1, .string lo.2.2] 27)).alloc (.cells #[.int .i64 hi.1, .int .i64 hi.2.1, .string hi.2.2] 27)) = W at *
  obtain ⟨v0, v1, v2, -, -, -⟩ := bV.c3
  obtain ⟨l0, l1, l2, -, -, -⟩ := bL.c3
  obtain ⟨g0, g1, g2, -, -, -⟩ := bH.c3
  go_region_held3 (fun W' => W'.cell? ⟨w.heap.size, 0, none⟩ = some (.int .i64 v.1) ∧ W'.cell? ⟨w.heap.size, 1, none⟩ = some (.int .i64 v.2.1) ∧ W'.cell? ⟨w.heap.size, 2, none⟩ = some (.string v.2.2) ∧
      W'.cell? ⟨w.heap.size + 1, 0, none⟩ = some (.int .i64 lo.1) ∧ W'.cell? ⟨w.heap.size + 1, 1, none⟩ = some (.int .i64 lo.2.1) ∧ W'.cell? ⟨w.heap.size + 1, 2, none⟩ = some (.string lo.2.2) ∧
      W'.cell? ⟨w.heap.size + 1 + 1, 0, none⟩ = some (.int .i64 hi.1) ∧ W'.cell? ⟨w.heap.size + 1 + 1, 1, none⟩ = some (.int .i64 hi.2.1) ∧ W'.cell? ⟨w.heap.size + 1 + 1, 2, none⟩ = some (.string hi.2.2))
    (first | exact ⟨v0, v1, v2, l0, l1, l2, g0, g1, g2⟩ | go_keep)
    (first
      | (go_at_call 20; (with_reducible refine (HL1.out _).mono ?_); rintro e w1 ⟨rfl, hw1⟩
         replace bV := bx_later hw1 bV
         replace bL := bx_later hw1 bL
         replace bH := bx_later hw1 bH
         clear v0 v1 v2 l0 l1 l2 g0 g1 g2
         obtain ⟨v0, v1, v2, -, -, -⟩ := bV.c3
         obtain ⟨l0, l1, l2, -, -, -⟩ := bL.c3
         obtain ⟨g0, g1, g2, -, -, -⟩ := bH.c3)
      | (go_at_call 20; (with_reducible refine (HL2.out _).mono ?_); rintro e w2 ⟨rfl, hw2⟩
         replace bV := bx_later hw2 bV
         replace bL := bx_later hw2 bL
         replace bH := bx_later hw2 bH
         clear v0 v1 v2 l0 l1 l2 g0 g1 g2
         obtain ⟨v0, v1, v2, -, -, -⟩ := bV.c3
         obtain ⟨l0, l1, l2, -, -, -⟩ := bL.c3
         obtain ⟨g0, g1, g2, -, -, -⟩ := bH.c3)
      | (go_at_call 26; refine (truthnot_any _ _).mono ?_; rintro e w' ⟨rfl, rfl⟩)
      | (go_at_call 28; refine (truthall_any [lnot (rless v lo), lnot (rless hi v)] _ _ (by first | exact seen_ints _ [lnot (rless v lo), lnot (rless hi v)] _ 2 rfl rfl (by decide) | exact seen_drew (seen_ints _ [lnot (rless v lo), lnot (rless hi v)] _ 2 rfl rfl (by decide)))).mono ?_; rintro e w' ⟨rfl, rfl⟩))
  all_goals
    go_wp2
    go_ret
    refine ⟨by rw [HR.out] <;> rfl, ?_⟩
    repeat (first | exact hW | refine Below.drew ?_ | refine chain ?_ (alloc_below _ _) | refine chain ?_ (by assumption))

end Go.Proofs.Ytplgobljgmlpkaa.LogicP
