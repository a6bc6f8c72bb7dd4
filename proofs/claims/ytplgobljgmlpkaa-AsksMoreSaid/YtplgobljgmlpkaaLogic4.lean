/- three truth values: Less, Same, In, Between: the program's -/
import Derived.Test.YtplgobljgmlpkaaLogic3
namespace Go.Proofs.Ytplgobljgmlpkaa.LogicP
open Go.RowKit K ValP

set_option maxRecDepth 100000 in
theorem less_any (a : ValD) (b : ValD) (w : World) :
    Calls Try.prog 16 #[.agg #[.int .i64 a.1, .int .i64 a.2.1, .string a.2.2], .agg #[.int .i64 b.1, .int .i64 b.2.1, .string b.2.2]] w fun e w' => e = .returned (.tuple #[.int .i64 (vless a b).1, .int .i64 (vless a b).2]) ∧ Below w.heap.size w w' := by
  have ba := bx_later (alloc_below ((w.alloc (.cells #[.int .i64 a.1, .int .i64 a.2.1, .string a.2.2] 27)).alloc (.cells #[.int .i64 b.1, .int .i64 b.2.1, .string b.2.2] 27)) (.cells (valCells [a, b]).toArray 27)) (bx_later (alloc_below (w.alloc (.cells #[.int .i64 a.1, .int .i64 a.2.1, .string a.2.2] 27)) (.cells #[.int .i64 b.1, .int .i64 b.2.1, .string b.2.2] 27)) (Bx.new w [.int .i64 a.1, .int .i64 a.2.1, .string a.2.2] 27 (w.heap.size) (by simp)))
  have bb := bx_later (alloc_below ((w.alloc (.cells #[.int .i64 a.1, .int .i64 a.2.1, .string a.2.2] 27)).alloc (.cells #[.int .i64 b.1, .int .i64 b.2.1, .string b.2.2] 27)) (.cells (valCells [a, b]).toArray 27)) (Bx.new (w.alloc (.cells #[.int .i64 a.1, .int .i64 a.2.1, .string a.2.2] 27)) [.int .i64 b.1, .int .i64 b.2.1, .string b.2.2] 27 (w.heap.size + 1) (by simp))
  have hW := chain (chain (alloc_below w (.cells #[.int .i64 a.1, .int .i64 a.2.1, .string a.2.2] 27)) (alloc_below (w.alloc (.cells #[.int .i64 a.1, .int .i64 a.2.1, .string a.2.2] 27)) (.cells #[.int .i64 b.1, .int .i64 b.2.1, .string b.2.2] 27))) (alloc_below ((w.alloc (.cells #[.int .i64 a.1, .int .i64 a.2.1, .string a.2.2] 27)).alloc (.cells #[.int .i64 b.1, .int .i64 b.2.1, .string b.2.2] 27)) (.cells (valCells [a, b]).toArray 27))
  have HC := Lib.hid (checked_any 39 #[.pointer (some ⟨w.heap.size, 0, none⟩), .pointer (some ⟨w.heap.size + 1, 0, none⟩)] (enters_of Try.func39 (by kernel_rfl) rfl) (rless a b) [a, b] _ _ (seen_vals ((w.alloc (.cells #[.int .i64 a.1, .int .i64 a.2.1, .string a.2.2] 27)).alloc (.cells #[.int .i64 b.1, .int .i64 b.2.1, .string b.2.2] 27)) [a, b] (w.heap.size + 1 + 1) 2 (by simp) rfl (by decide))
    (fun W hb => lessc_any a b _ _ W (bx_later hb ba) (bx_later hb bb)))
  clear ba bb
  go_enter Try.func16, Try.ntmps16
  go_wp2_with fail
  refine HC.out.mono ?_
  rintro e w1 ⟨rfl, hb1⟩
  go_wp2_with fail
  go_ret2
  exact ⟨rfl, chain hW hb1⟩

set_option maxRecDepth 100000 in
theorem same_any (a : ValD) (b : ValD) (w : World) :
    Calls Try.prog 17 #[.agg #[.int .i64 a.1, .int .i64 a.2.1, .string a.2.2], .agg #[.int .i64 b.1, .int .i64 b.2.1, .string b.2.2]] w fun e w' => e = .returned (.tuple #[.int .i64 (vsame a b).1, .int .i64 (vsame a b).2]) ∧ Below w.heap.size w w' := by
  have ba := bx_later (alloc_below ((w.alloc (.cells #[.int .i64 a.1, .int .i64 a.2.1, .string a.2.2] 27)).alloc (.cells #[.int .i64 b.1, .int .i64 b.2.1, .string b.2.2] 27)) (.cells (valCells [a, b]).toArray 27)) (bx_later (alloc_below (w.alloc (.cells #[.int .i64 a.1, .int .i64 a.2.1, .string a.2.2] 27)) (.cells #[.int .i64 b.1, .int .i64 b.2.1, .string b.2.2] 27)) (Bx.new w [.int .i64 a.1, .int .i64 a.2.1, .string a.2.2] 27 (w.heap.size) (by simp)))
  have bb := bx_later (alloc_below ((w.alloc (.cells #[.int .i64 a.1, .int .i64 a.2.1, .string a.2.2] 27)).alloc (.cells #[.int .i64 b.1, .int .i64 b.2.1, .string b.2.2] 27)) (.cells (valCells [a, b]).toArray 27)) (Bx.new (w.alloc (.cells #[.int .i64 a.1, .int .i64 a.2.1, .string a.2.2] 27)) [.int .i64 b.1, .int .i64 b.2.1, .string b.2.2] 27 (w.heap.size + 1) (by simp))
  have hW := chain (chain (alloc_below w (.cells #[.int .i64 a.1, .int .i64 a.2.1, .string a.2.2] 27)) (alloc_below (w.alloc (.cells #[.int .i64 a.1, .int .i64 a.2.1, .string a.2.2] 27)) (.cells #[.int .i64 b.1, .int .i64 b.2.1, .string b.2.2] 27))) (alloc_below ((w.alloc (.cells #[.int .i64 a.1, .int .i64 a.2.1, .string a.2.2] 27)).alloc (.cells #[.int .i64 b.1, .int .i64 b.2.1, .string b.2.2] 27)) (.cells (valCells [a, b]).toArray 27))
  have HC := Lib.hid (checked_any 41 #[.pointer (some ⟨w.heap.size, 0, none⟩), .pointer (some ⟨w.heap.size + 1, 0, none⟩)] (enters_of Try.func41 (by kernel_rfl) rfl) (rsame a b) [a, b] _ _ (seen_vals ((w.alloc (.cells #[.int .i64 a.1, .int .i64 a.2.1, .string a.2.2] 27)).alloc (.cells #[.int .i64 b.1, .int .i64 b.2.1, .string b.2.2] 27)) [a, b] (w.heap.size + 1 + 1) 2 (by simp) rfl (by decide))
    (fun W hb => samec_any a b _ _ W (bx_later hb ba) (bx_later hb bb)))
  clear ba bb
  go_enter Try.func17, Try.ntmps17
  go_wp2_with fail
  refine HC.out.mono ?_
  rintro e w1 ⟨rfl, hb1⟩
  go_wp2_with fail
  go_ret2
  exact ⟨rfl, chain hW hb1⟩

set_option maxRecDepth 100000 in
theorem between_any (a : ValD) (b : ValD) (c : ValD) (w : World) :
    Calls Try.prog 15 #[.agg #[.int .i64 a.1, .int .i64 a.2.1, .string a.2.2], .agg #[.int .i64 b.1, .int .i64 b.2.1, .string b.2.2], .agg #[.int .i64 c.1, .int .i64 c.2.1, .string c.2.2]] w fun e w' => e = .returned (.tuple #[.int .i64 (vbetween a b c).1, .int .i64 (vbetween a b c).2]) ∧ Below w.heap.size w w' := by
  have ba := bx_later (alloc_below (((w.alloc (.cells #[.int .i64 a.1, .int .i64 a.2.1, .string a.2.2] 27)).alloc (.cells #[.int .i64 b.1, .int .i64 b.2.1, .string b.2.2] 27)).alloc (.cells #[.int .i64 c.1, .int .i64 c.2.1, .string c.2.2] 27)) (.cells (valCells [a, b, c]).toArray 27)) (bx_later (alloc_below ((w.alloc (.cells #[.int .i64 a.1, .int .i64 a.2.1, .string a.2.2] 27)).alloc (.cells #[.int .i64 b.1, .int .i64 b.2.1, .string b.2.2] 27)) (.cells #[.int .i64 c.1, .int .i64 c.2.1, .string c.2.2] 27)) (bx_later (alloc_below (w.alloc (.cells #[.int .i64 a.1, .int .i64 a.2.1, .string a.2.2] 27)) (.cells #[.int .i64 b.1, .int .i64 b.2.1, .string b.2.2] 27)) (Bx.new w [.int .i64 a.1, .int .i64 a.2.1, .string a.2.2] 27 (w.heap.size) (by simp))))
  have bb := bx_later (alloc_below (((w.alloc (.cells #[.int .i64 a.1, .int .i64 a.2.1, .string a.2.2] 27)).alloc (.cells #[.int .i64 b.1, .int .i64 b.2.1, .string b.2.2] 27)).alloc (.cells #[.int .i64 c.1, .int .i64 c.2.1, .string c.2.2] 27)) (.cells (valCells [a, b, c]).toArray 27)) (bx_later (alloc_below ((w.alloc (.cells #[.int .i64 a.1, .int .i64 a.2.1, .string a.2.2] 27)).alloc (.cells #[.int .i64 b.1, .int .i64 b.2.1, .string b.2.2] 27)) (.cells #[.int .i64 c.1, .int .i64 c.2.1, .string c.2.2] 27)) (Bx.new (w.alloc (.cells #[.int .i64 a.1, .int .i64 a.2.1, .string a.2.2] 27)) [.int .i64 b.1, .int .i64 b.2.1, .string b.2.2] 27 (w.heap.size + 1) (by simp)))
  have bc := bx_later (alloc_below (((w.alloc (.cells #[.int .i64 a.1, .int .i64 a.2.1, .string a.2.2] 27)).alloc (.cells #[.int .i64 b.1, .int .i64 b.2.1, .string b.2.2] 27)).alloc (.cells #[.int .i64 c.1, .int .i64 c.2.1, .string c.2.2] 27)) (.cells (valCells [a, b, c]).toArray 27)) (Bx.new ((w.alloc (.cells #[.int .i64 a.1, .int .i64 a.2.1, .string a.2.2] 27)).alloc (.cells #[.int .i64 b.1, .int .i64 b.2.1, .string b.2.2] 27)) [.int .i64 c.1, .int .i64 c.2.1, .string c.2.2] 27 (w.heap.size + 1 + 1) (by simp))
  have hW := chain (chain (chain (alloc_below w (.cells #[.int .i64 a.1, .int .i64 a.2.1, .string a.2.2] 27)) (alloc_below (w.alloc (.cells #[.int .i64 a.1, .int .i64 a.2.1, .string a.2.2] 27)) (.cells #[.int .i64 b.1, .int .i64 b.2.1, .string b.2.2] 27))) (alloc_below ((w.alloc (.cells #[.int .i64 a.1, .int .i64 a.2.1, .string a.2.2] 27)).alloc (.cells #[.int .i64 b.1, .int .i64 b.2.1, .string b.2.2] 27)) (.cells #[.int .i64 c.1, .int .i64 c.2.1, .string c.2.2] 27))) (alloc_below (((w.alloc (.cells #[.int .i64 a.1, .int .i64 a.2.1, .string a.2.2] 27)).alloc (.cells #[.int .i64 b.1, .int .i64 b.2.1, .string b.2.2] 27)).alloc (.cells #[.int .i64 c.1, .int .i64 c.2.1, .string c.2.2] 27)) (.cells (valCells [a, b, c]).toArray 27))
  have HC := Lib.hid (checked_any 37 #[.pointer (some ⟨w.heap.size, 0, none⟩), .pointer (some ⟨w.heap.size + 1, 0, none⟩), .pointer (some ⟨w.heap.size + 1 + 1, 0, none⟩)] (enters_of Try.func37 (by kernel_rfl) rfl) (rbetween a b c) [a, b, c] _ _ (seen_vals (((w.alloc (.cells #[.int .i64 a.1, .int .i64 a.2.1, .string a.2.2] 27)).alloc (.cells #[.int .i64 b.1, .int .i64 b.2.1, .string b.2.2] 27)).alloc (.cells #[.int .i64 c.1, .int .i64 c.2.1, .string c.2.2] 27)) [a, b, c] (w.heap.size + 1 + 1 + 1) 3 (by simp) rfl (by decide))
    (fun W hb => betweenc_any a b c _ _ _ W (bx_later hb ba) (bx_later hb bb) (bx_later hb bc)))
  clear ba bb bc
  go_enter Try.func15, Try.ntmps15
  go_wp2_with fail
  refine HC.out.mono ?_
  rintro e w1 ⟨rfl, hb1⟩
  go_wp2_with fail
  go_ret2
  exact ⟨rfl, chain hW hb1⟩

set_option maxRecDepth 100000 in
theorem in_any (x : ValD) (l : List ValD) (v : Value) (w : World) (hs : Seen w v l.length 3 (valCells l)) :
    Calls Try.prog 14 #[.agg #[.int .i64 x.1, .int .i64 x.2.1, .string x.2.2], v] w fun e w' => e = .returned (.tuple #[.int .i64 (vin x l).1, .int .i64 (vin x l).2]) ∧ Below w.heap.size w w' := by
  obtain ⟨_, a, cap, rfl, _, _, _, _⟩ := id hs
  have hW := (chain (alloc_below w (.cells #[.int .i64 x.1, .int .i64 x.2.1, .string x.2.2] 27)) (alloc_below (w.alloc (.cells #[.int .i64 x.1, .int .i64 x.2.1, .string x.2.2] 27)) (.cells #[.slice a l.length cap] 28)))
  have b1 := bx_later (alloc_below (w.alloc (.cells #[.int .i64 x.1, .int .i64 x.2.1, .string x.2.2] 27)) (.cells #[.slice a l.length cap] 28)) (Bx.new w [.int .i64 x.1, .int .i64 x.2.1, .string x.2.2] 27 w.heap.size rfl)
  have b2 := Bx.new (w.alloc (.cells #[.int .i64 x.1, .int .i64 x.2.1, .string x.2.2] 27)) [.slice a l.length cap] 28 (w.heap.size + 1) (by simp)
  have HS := Lib.hid (hs.later hW (Nat.le_refl _))
  clear hs
  go_enter Try.func14, Try.ntmps14
  by_cases hlen : 40 < l.length
  · have HV := Lib.hid (show vin x l = (0, 2) from if_pos hlen)
    go_wp2_with fail
    go_ret2
    exact ⟨by rw [HV.out] <;> rfl, hW⟩
  · have hlen' : l.length ≤ 40 := by omega
    have HV := Lib.hid (show vin x l = if vcheck x ≠ 0 then (0, vcheck x) else (checkedV l (rin x l), checkAll l) from if_neg hlen)
    clear hlen
    go_wp2_with fail
    generalize ((w.alloc (.cells #[.int .i64 x.1, .int .i64 x.2.1, .string x.2.2] 27)).alloc (.cells #[.slice a l.length cap] 28)) = W at *
    refine (vcheck_of x.1 x.2.1 x.2.2 W x rfl).mono ?_
    rintro e w1 ⟨rfl, hb1⟩
    replace b1 := bx_later hb1 b1
    replace b2 := bx_later hb1 b2
    have hw1 := chain hW hb1
    obtain ⟨c0, c1, c2, -, -, -⟩ := b1.c3
    obtain ⟨d0, -⟩ := b2.c1
    have HS1 := Lib.hid (HS.out.later hb1 (Nat.le_refl _))
    by_cases hz : vcheck x = 0
    · have HV := Lib.hid (HV.out.trans (if_neg (by simpa using hz)))
      rw [hz]
      clear hz
      have HC := Lib.hid (checked_any 35 #[.pointer (some ⟨w.heap.size, 0, none⟩), .pointer (some ⟨w.heap.size + 1, 0, none⟩)] (enters_of Try.func35 (by kernel_rfl) rfl) (rin x l) l _ w1 HS1.out
        (fun W hb => inc_any x l _ _ _ W (bx_later hb b1) (bx_later hb b2) (HS1.out.later hb (Nat.le_refl _))))
      go_wp2_with fail
      refine HC.out.mono ?_
      rintro e w2 ⟨rfl, hb2⟩
      go_wp2_with fail
      go_ret2
      exact ⟨by rw [HV.out] <;> rfl, chain hw1 hb2⟩
    · have HV := Lib.hid (HV.out.trans (if_pos hz))
      have hz' : (vcheck x != 0) = true := by rw [bne_iff_ne]; exact hz
      clear hz
      go_wp2_with fail
      go_ret2
      exact ⟨by rw [HV.out] <;> rfl, hw1⟩

end Go.Proofs.Ytplgobljgmlpkaa.LogicP
