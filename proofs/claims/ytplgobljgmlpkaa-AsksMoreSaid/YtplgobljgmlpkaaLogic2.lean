/- three truth values: values compared; the program's -/
import Derived.Test.YtplgobljgmlpkaaLogic
namespace Go.Proofs.Ytplgobljgmlpkaa.LogicP
open Go.RowKit K ValP
attribute [local go_sem ↓] Go.wp_at_zero Go.wp_at_succ

def known (f : Int → Bool) (a b : ValD) : Int := if a.1 = 0 ∨ b.1 = 0 then 1 else ofB (f (order a b))
def rless (a b : ValD) : Int := known (fun n => decide (n < 0)) a b
def rsame (a b : ValD) : Int := known (fun n => n == 0) a b
def rin (v : ValD) (l : List ValD) : Int := l.foldl (fun o x => lor o (rsame v x)) 0
def rbetween (v lo hi : ValD) : Int := land (lnot (rless v lo)) (lnot (rless hi v))

theorem order_of (a b : ValD) (w : World) :
    Calls Try.prog 52 #[.agg #[.int .i64 a.1, .int .i64 a.2.1, .string a.2.2], .agg #[.int .i64 b.1, .int .i64 b.2.1, .string b.2.2]] w fun e w' => e = .returned (.int .i64 (order a b)) ∧ Below w.heap.size w w' :=
  order_any a.1 a.2.1 a.2.2 b.1 b.2.1 b.2.2 w

set_option maxRecDepth 100000 in
theorem known_any (fid : Nat) (he : ∀ args w, (callFunc fid args).run Try.prog w = .ok (.enter fid args) w) (f : Int → Bool)
    (hf : ∀ n W, Calls Try.prog fid #[.int .i64 n] W fun e w' => e = .returned (.bool (f n)) ∧ W = w') (a b : ValD) (w : World) :
    Calls Try.prog 47 #[.agg #[.int .i64 a.1, .int .i64 a.2.1, .string a.2.2], .agg #[.int .i64 b.1, .int .i64 b.2.1, .string b.2.2], .func (.func fid) #[] #[]] w fun e w' => e = .returned (.int .i64 (known f a b)) ∧ Below w.heap.size w w' := by
  have hW := chain (alloc_below w (.cells #[.int .i64 a.1, .int .i64 a.2.1, .string a.2.2] 27)) (alloc_below _ (.cells #[.int .i64 b.1, .int .i64 b.2.1, .string b.2.2] 27))
  have HF := Lib.hid hf
  clear hf
  have HO := Lib.hid (order_of a b)
  have hk : Hid ((a.1 = 0 ∨ b.1 = 0 → known f a b = 1) ∧ (¬ (a.1 = 0 ∨ b.1 = 0) → known f a b = ofB (f (order a b)))) := ⟨fun h => if_pos h, fun h => if_neg h⟩
  cases h1 : (a.1 == 0) <;> cases h2 : (b.1 == 0)
  · have HK := Lib.hid (hk.out.2 (by simp at h1 h2; omega))
    clear hk
    generalize order a b = o at *
    go_enter Try.func47, Try.ntmps47
    go_wp2_with fail
    refine (HO.out _).mono ?_
    rintro e w1 ⟨rfl, hb1⟩
    go_wp2_with (first
      | (go_at_fn fid; refine (HF.out _ _).mono ?_; rintro e w' ⟨rfl, rfl⟩)
      | (go_at_call 51; refine (of_any _ _).mono ?_; rintro e w' ⟨rfl, rfl⟩))
    go_ret
    exact ⟨by rw [HK.out] <;> rfl, chain hW hb1⟩
  · have HK := Lib.hid (hk.out.1 (by simp at h2; omega))
    clear hk
    go_enter Try.func47, Try.ntmps47
    go_wp2_with fail
    go_ret
    exact ⟨by rw [HK.out] <;> rfl, hW⟩
  · have HK := Lib.hid (hk.out.1 (by simp at h1; omega))
    clear hk
    go_enter Try.func47, Try.ntmps47
    go_wp2_with fail
    go_ret
    exact ⟨by rw [HK.out] <;> rfl, hW⟩
  · have HK := Lib.hid (hk.out.1 (by simp at h1; omega))
    clear hk
    go_enter Try.func47, Try.ntmps47
    go_wp2_with fail
    go_ret
    exact ⟨by rw [HK.out] <;> rfl, hW⟩

theorem less1_any (n : Int) (w : World) : Calls Try.prog 48 #[.int .i64 n] w fun e w' => e = .returned (.bool ((fun n => decide (n < 0)) n)) ∧ w = w' := by
  go_enter Try.func48, Try.ntmps48
  go_wp2
  go_ret
  exact ⟨rfl, rfl⟩
theorem same1_any (n : Int) (w : World) : Calls Try.prog 49 #[.int .i64 n] w fun e w' => e = .returned (.bool ((fun n => n == 0) n)) ∧ w = w' := by
  go_enter Try.func49, Try.ntmps49
  go_wp2
  go_ret
  exact ⟨rfl, rfl⟩

theorem rawless_any (a b : ValD) (w : World) :
    Calls Try.prog 40 #[.agg #[.int .i64 a.1, .int .i64 a.2.1, .string a.2.2], .agg #[.int .i64 b.1, .int .i64 b.2.1, .string b.2.2]] w fun e w' => e = .returned (.int .i64 (rless a b)) ∧ Below w.heap.size w w' := by
  have hW := chain (alloc_below w (.cells #[.int .i64 a.1, .int .i64 a.2.1, .string a.2.2] 27)) (alloc_below _ (.cells #[.int .i64 b.1, .int .i64 b.2.1, .string b.2.2] 27))
  have HC := Lib.hid (known_any 48 (enters_of Try.func48 (by kernel_rfl) rfl) _ less1_any a b)
  go_enter Try.func40, Try.ntmps40
  go_wp2_with fail
  refine (HC.out _).mono ?_
  rintro e w1 ⟨rfl, hb1⟩
  go_wp2_with fail
  go_ret
  exact ⟨rfl, chain hW hb1⟩
theorem rawsame_any (a b : ValD) (w : World) :
    Calls Try.prog 42 #[.agg #[.int .i64 a.1, .int .i64 a.2.1, .string a.2.2], .agg #[.int .i64 b.1, .int .i64 b.2.1, .string b.2.2]] w fun e w' => e = .returned (.int .i64 (rsame a b)) ∧ Below w.heap.size w w' := by
  have hW := chain (alloc_below w (.cells #[.int .i64 a.1, .int .i64 a.2.1, .string a.2.2] 27)) (alloc_below _ (.cells #[.int .i64 b.1, .int .i64 b.2.1, .string b.2.2] 27))
  have HC := Lib.hid (known_any 49 (enters_of Try.func49 (by kernel_rfl) rfl) _ same1_any a b)
  go_enter Try.func42, Try.ntmps42
  go_wp2_with fail
  refine (HC.out _).mono ?_
  rintro e w1 ⟨rfl, hb1⟩
  go_wp2_with fail
  go_ret
  exact ⟨rfl, chain hW hb1⟩

theorem rin_drop (v : ValD) (l : List ValD) (o : Int) (k : Nat) (hk : k < l.length) : (l.drop k).foldl (fun o x => lor o (rsame v x)) o = (l.drop (k + 1)).foldl (fun o x => lor o (rsame v x)) (lor o (rsame v l[k])) := by
  rw [List.drop_eq_getElem_cons hk]; rfl

set_option maxRecDepth 100000 in
theorem rawin_any (x : ValD) (l : List ValD) (v : Value) (w : World) (hs : Seen w v l.length 3 (valCells l)) :
    Calls Try.prog 36 #[.agg #[.int .i64 x.1, .int .i64 x.2.1, .string x.2.2], v] w fun e w' => e = .returned (.int .i64 (rin x l)) ∧ Below w.heap.size w w' := by
  obtain ⟨_, a, cap, rfl, hc, hm, hnil, hcells⟩ := id hs
  unfold maxLen at hm
  have hW := alloc_below w (.cells #[.int .i64 x.1, .int .i64 x.2.1, .string x.2.2] 27)
  have hB := Bx.new w [.int .i64 x.1, .int .i64 x.2.1, .string x.2.2] 27 _ rfl
  have HS := Lib.hid hs
  clear hs hcells
  go_enter Try.func36, Try.ntmps36
  go_wp2_with fail
  go_loopw [5, 10] (fun o i wr => ∃ (k : Nat) (y : Int), k ≤ l.length ∧ i = .int .i64 (k : Int) ∧ o = .int .i64 y ∧ Hid (rin x l = (l.drop k).foldl (fun o z => lor o (rsame x z)) y) ∧ Bx w.heap.size [.int .i64 x.1, .int .i64 x.2.1, .string x.2.2] wr ∧ Below w.heap.size w wr) (fun _ i _ => l.length - (intOf i).toNat)
  case atStart => exact ⟨0, 0, by omega, rfl, rfl, rfl, hB, hW⟩
  case round =>
    obtain ⟨k, y, hk, rfl, rfl, hfo, hbx, hbel⟩ := hrel
    by_cases h : k < l.length
    · obtain ⟨_, av, capv, e1, _, _, _, hcs⟩ := HS.out.later hbel (Nat.le_refl _)
      simp only [Value.slice.injEq, true_and] at e1
      obtain ⟨rfl, rfl⟩ := e1
      obtain ⟨b, off, rfl, hb, cl⟩ := hcs.resolve_left (by omega)
      have c0 := cl (k * 3 + 0) _ ((flat_at ValP.valOf 3 valOf_len l k h 0 (by decide)).trans rfl)
      have c1 := cl (k * 3 + 1) _ ((flat_at ValP.valOf 3 valOf_len l k h 1 (by decide)).trans rfl)
      have c2 := cl (k * 3 + 2) _ ((flat_at ValP.valOf 3 valOf_len l k h 2 (by decide)).trans rfl)
      rw [Nat.add_zero] at c0
      rw [← Nat.add_assoc] at c1 c2
      have HD := Lib.hid (rin_drop x l y k h)
      generalize l[k] = z at *
      clear cl hcs hB hW
      obtain ⟨x0, x1, x2, -, -, -⟩ := hbx.c3
      have xl := hbx.lt
      go_wp2_with (first
        | (go_at_call 42; refine (rawsame_any x z _).mono ?_; rintro e w1 ⟨rfl, hb1⟩)
        | (go_at_call 11; refine (or_any _ _ _).mono ?_; rintro e w' ⟨rfl, rfl⟩))
      go_roundw
      case rel => exact ⟨k + 1, _, by omega, by go_num, rfl, Lib.hid (by rw [hfo.out, HD.out]), (hbx.alloc _).later hb1, chain hbel (chain (alloc_below _ _) hb1)⟩
      case measure => simp [intOf]; omega
    · obtain rfl : k = l.length := by omega
      have hfo := Lib.hid (hfo.out.trans (by rw [List.drop_length, List.foldl_nil]))
      go_wp2_with fail
      go_ret
      exact ⟨by rw [hfo.out] <;> rfl, hbel⟩

end Go.Proofs.Ytplgobljgmlpkaa.LogicP
