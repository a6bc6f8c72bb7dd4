/- three truth values: what is asked of values; the program's -/
import Derived.Test.YtplgobljgmlpkaaLogic2
namespace Go.Proofs.Ytplgobljgmlpkaa.LogicP
open Go.RowKit K ValP
attribute [local go_sem ↓] Go.wp_at_zero Go.wp_at_succ

theorem rawbetween_any (v lo hi : ValD) (w : World) :
    Calls Try.prog 38 #[.agg #[.int .i64 v.1, .int .i64 v.2.1, .string v.2.2], .agg #[.int .i64 lo.1, .int .i64 lo.2.1, .string lo.2.2], .agg #[.int .i64 hi.1, .int .i64 hi.2.1, .string hi.2.2]] w fun e w' => e = .returned (.int .i64 (rbetween v lo hi)) ∧ Below w.heap.size w w' := by
  have hW1 := alloc_below w (.cells #[.int .i64 v.1, .int .i64 v.2.1, .string v.2.2] 27)
  have hW2 := alloc_below (w.alloc (.cells #[.int .i64 v.1, .int .i64 v.2.1, .string v.2.2] 27)) (.cells #[.int .i64 lo.1, .int .i64 lo.2.1, .string lo.2.2] 27)
  have hW3 := alloc_below ((w.alloc (.cells #[.int .i64 v.1, .int .i64 v.2.1, .string v.2.2] 27)).alloc (.cells #[.int .i64 lo.1, .int .i64 lo.2.1, .string lo.2.2] 27)) (.cells #[.int .i64 hi.1, .int .i64 hi.2.1, .string hi.2.2] 27)
  have hW := chain (chain hW1 hW2) hW3
  have bV := ((Bx.new w [.int .i64 v.1, .int .i64 v.2.1, .string v.2.2] 27 _ rfl).later hW2).later hW3
  have bL := (Bx.new (w.alloc (.cells #[.int .i64 v.1, .int .i64 v.2.1, .string v.2.2] 27)) [.int .i64 lo.1, .int .i64 lo.2.1, .string lo.2.2] 27 (w.heap.size + 1) (by simp)).later hW3
  have bH := Bx.new ((w.alloc (.cells #[.int .i64 v.1, .int .i64 v.2.1, .string v.2.2] 27)).alloc (.cells #[.int .i64 lo.1, .int .i64 lo.2.1, .string lo.2.2] 27)) [.int .i64 hi.1, .int .i64 hi.2.1, .string hi.2.2] 27 (w.heap.size + 1 + 1) (by simp)
  clear hW1 hW2 hW3
  go_enter Try.func38, Try.ntmps38
  go_wp2_with fail
  generalize (((w.alloc (.cells #[.int .i64 v.1, .int .i64 v.2.1, .string v.2.2] 27)).alloc (.cells #[.int .i64 lo.1, .int .i64 lo.2.1, .string lo.2.2] 27)).alloc (.cells #[.int .i64 hi.1, .int .i64 hi.2.1, .string hi.2.2] 27)) = W at *
  obtain ⟨v0, v1, v2, -, -, -⟩ := bV.c3
  obtain ⟨l0, l1, l2, -, -, -⟩ := bL.c3
  obtain ⟨g0, g1, g2, -, -, -⟩ := bH.c3
  go_region_held3 (fun W' => W'.cell? ⟨w.heap.size, 0, none⟩ = some (.int .i64 v.1) ∧ W'.cell? ⟨w.heap.size, 1, none⟩ = some (.int .i64 v.2.1) ∧ W'.cell? ⟨w.heap.size, 2, none⟩ = some (.string v.2.2) ∧
      W'.cell? ⟨w.heap.size + 1, 0, none⟩ = some (.int .i64 lo.1) ∧ W'.cell? ⟨w.heap.size + 1, 1, none⟩ = some (.int .i64 lo.2.1) ∧ W'.cell? ⟨w.heap.size + 1, 2, none⟩ = some (.string lo.2.2) ∧
      W'.cell? ⟨w.heap.size + 1 + 1, 0, none⟩ = some (.int .i64 hi.1) ∧ W'.cell? ⟨w.heap.size + 1 + 1, 1, none⟩ = some (.int .i64 hi.2.1) ∧ W'.cell? ⟨w.heap.size + 1 + 1, 2, none⟩ = some (.string hi.2.2))
    (first | exact ⟨v0, v1, v2, l0, l1, l2, g0, g1, g2⟩ | go_keep)
    (first
      | (go_at_call 40; (with_reducible refine (rawless_any v lo _).mono ?_); rintro e w1 ⟨rfl, hw1⟩
         replace bV := bx_later hw1 bV
         replace bL := bx_later hw1 bL
         replace bH := bx_later hw1 bH
         clear v0 v1 v2 l0 l1 l2 g0 g1 g2
         obtain ⟨v0, v1, v2, -, -, -⟩ := bV.c3
         obtain ⟨l0, l1, l2, -, -, -⟩ := bL.c3
         obtain ⟨g0, g1, g2, -, -, -⟩ := bH.c3)
      | (go_at_call 40; (with_reducible refine (rawless_any hi v _).mono ?_); rintro e w2 ⟨rfl, hw2⟩
         replace bV := bx_later hw2 bV
         replace bL := bx_later hw2 bL
         replace bH := bx_later hw2 bH
         clear v0 v1 v2 l0 l1 l2 g0 g1 g2
         obtain ⟨v0, v1, v2, -, -, -⟩ := bV.c3
         obtain ⟨l0, l1, l2, -, -, -⟩ := bL.c3
         obtain ⟨g0, g1, g2, -, -, -⟩ := bH.c3)
      | (go_at_call 12; refine (not_any _ _).mono ?_; rintro e w' ⟨rfl, rfl⟩)
      | (go_at_call 10; refine (and_any _ _ _).mono ?_; rintro e w' ⟨rfl, rfl⟩))
  all_goals
    go_wp2
    go_ret
    refine ⟨rfl, ?_⟩
    repeat (first | exact hW | refine Below.drew ?_ | refine chain ?_ (by assumption))

def checkedV (l : List ValD) (r : Int) : Int := if checkAll l = 0 then r else 0
/-- what do answers, if all values are right -/
theorem checked_any (fid : Nat) (caps : Array Value) (he : ∀ args w, (callFunc fid args).run Try.prog w = .ok (.enter fid args) w) (r : Int) (l : List ValD) (v : Value) (w : World) (hs : Seen w v l.length 3 (valCells l))
    (hf : ∀ W, Below w.heap.size w W → Calls Try.prog fid caps W fun e w' => e = .returned (.int .i64 r) ∧ Below W.heap.size W w') :
    Calls Try.prog 34 #[.func (.func fid) #[] caps, v] w fun e w' => e = .returned (.tuple #[  .int .i64 (checkedV l r), .int .i64 (checkAll l)]) ∧ Below w.heap.size w w' := by
  have HC := Lib.hid (checkall_any l v w hs)
  obtain ⟨_, a, cap, rfl, _, _, _, _⟩ := id hs
  have HF := Lib.hid hf
  clear hf hs
  go_enter Try.func34, Try.ntmps34
  go_wp2_with fail
  refine HC.out.mono ?_
  rintro e w1 ⟨rfl, hb1⟩
  by_cases hz : checkAll l = 0
  · have HR := Lib.hid (show checkedV l r = r from if_pos hz)
    have HZ := Lib.hid hz
    rw [hz]
    clear hz
    go_wp2_with fail
    refine (HF.out _ hb1).mono ?_
    rintro e w2 ⟨rfl, hb2⟩
    go_wp2_with fail
    go_ret2
    exact ⟨by rw [HR.out, HZ.out] <;> rfl, chain hb1 hb2⟩
  · have HR := Lib.hid (show checkedV l r = 0 from if_neg hz)
    have hz' : (checkAll l != 0) = true := by rw [bne_iff_ne]; exact hz
    clear hz
    go_wp2_with fail
    go_ret2
    exact ⟨by rw [HR.out] <;> rfl, hb1⟩

def vless (a b : ValD) : Int × Int := (checkedV [a, b] (rless a b), checkAll [a, b])
def vsame (a b : ValD) : Int × Int := (checkedV [a, b] (rsame a b), checkAll [a, b])
def vbetween (v lo hi : ValD) : Int × Int := (checkedV [v, lo, hi] (rbetween v lo hi), checkAll [v, lo, hi])
def vin (v : ValD) (l : List ValD) : Int × Int := if 40 < l.length then (0, 2) else if vcheck v ≠ 0 then (0, vcheck v) else (checkedV l (rin v l), checkAll l)

theorem seen_vals (w : World) (l : List ValD) (g n : Nat) (hg : w.heap.size = g) (hn : l.length = n) (hm : n ≤ maxLen) : Seen (w.alloc (.cells (valCells l).toArray 27)) (.slice (some ⟨g, 0, none⟩) n n) l.length 3 (valCells l) := by
  have := Seen.of_own (own_built' (w := w) (B := 0) (e := 27) (valCells l) n 3 g hg (Nat.zero_le _) hm (by rw [valCells, flat_len ValP.valOf 3 valOf_len, hn]))
  rw [hn]; exact this

theorem lessc_any (a b : ValD) (g h : Nat) (w : World) (ha : Bx g [.int .i64 a.1, .int .i64 a.2.1, .string a.2.2] w) (hb : Bx h [.int .i64 b.1, .int .i64 b.2.1, .string b.2.2] w) :
    Calls Try.prog 39 #[.pointer (some ⟨g, 0, none⟩), .pointer (some ⟨h, 0, none⟩)] w fun e w' => e = .returned (.int .i64 (rless a b)) ∧ Below w.heap.size w w' := by
  obtain ⟨a0, a1, a2, -, -, -⟩ := ha.c3
  obtain ⟨b0, b1, b2, -, -, -⟩ := hb.c3
  go_enter Try.func39, Try.ntmps39
  go_wp2_with (go_at_call 40; refine (rawless_any a b _).mono ?_; rintro e w1 ⟨rfl, hw1⟩)
  go_ret
  exact ⟨rfl, hw1⟩
theorem samec_any (a b : ValD) (g h : Nat) (w : World) (ha : Bx g [.int .i64 a.1, .int .i64 a.2.1, .string a.2.2] w) (hb : Bx h [.int .i64 b.1, .int .i64 b.2.1, .string b.2.2] w) :
    Calls Try.prog 41 #[.pointer (some ⟨g, 0, none⟩), .pointer (some ⟨h, 0, none⟩)] w fun e w' => e = .returned (.int .i64 (rsame a b)) ∧ Below w.heap.size w w' := by
  obtain ⟨a0, a1, a2, -, -, -⟩ := ha.c3
  obtain ⟨b0, b1, b2, -, -, -⟩ := hb.c3
  go_enter Try.func41, Try.ntmps41
  go_wp2_with (go_at_call 42; refine (rawsame_any a b _).mono ?_; rintro e w1 ⟨rfl, hw1⟩)
  go_ret
  exact ⟨rfl, hw1⟩
theorem betweenc_any (a b c : ValD) (g h i : Nat) (w : World) (ha : Bx g [.int .i64 a.1, .int .i64 a.2.1, .string a.2.2] w) (hb : Bx h [.int .i64 b.1, .int .i64 b.2.1, .string b.2.2] w) (hc : Bx i [.int .i64 c.1, .int .i64 c.2.1, .string c.2.2] w) :
    Calls Try.prog 37 #[.pointer (some ⟨g, 0, none⟩), .pointer (some ⟨h, 0, none⟩), .pointer (some ⟨i, 0, none⟩)] w fun e w' => e = .returned (.int .i64 (rbetween a b c)) ∧ Below w.heap.size w w' := by
  obtain ⟨a0, a1, a2, -, -, -⟩ := ha.c3
  obtain ⟨b0, b1, b2, -, -, -⟩ := hb.c3
  obtain ⟨c0, c1, c2, -, -, -⟩ := hc.c3
  go_enter Try.func37, Try.ntmps37
  go_wp2_with (go_at_call 38; refine (rawbetween_any a b c _).mono ?_; rintro e w1 ⟨rfl, hw1⟩)
  go_ret
  exact ⟨rfl, hw1⟩
theorem inc_any (a : ValD) (l : List ValD) (v : Value) (g h : Nat) (w : World) (ha : Bx g [.int .i64 a.1, .int .i64 a.2.1, .string a.2.2] w) (hb : Bx h [v] w) (hs : Seen w v l.length 3 (valCells l)) :
    Calls Try.prog 35 #[.pointer (some ⟨g, 0, none⟩), .pointer (some ⟨h, 0, none⟩)] w fun e w' => e = .returned (.int .i64 (rin a l)) ∧ Below w.heap.size w w' := by
  obtain ⟨a0, a1, a2, -, -, -⟩ := ha.c3
  obtain ⟨b0, -⟩ := hb.c1
  have HC := Lib.hid (rawin_any a l v w hs)
  obtain ⟨_, x, cap, rfl, _, _, _, _⟩ := id hs
  clear hs
  go_enter Try.func35, Try.ntmps35
  go_wp2_with fail
  refine HC.out.mono ?_
  rintro e w1 ⟨rfl, hw1⟩
  go_wp2_with fail
  go_ret
  exact ⟨rfl, hw1⟩

end Go.Proofs.Ytplgobljgmlpkaa.LogicP
