/- three truth values: the program's -/
import Derived.Test.YtplgobljgmlpkaaVal4
namespace Go.Proofs.Ytplgobljgmlpkaa.LogicP
open Go.RowKit K ValP
attribute [local go_sem ↓] Go.wp_at_zero Go.wp_at_succ

def plain (a : Int) : Int := if a = 0 then 0 else if a = 2 then 2 else 1
def land (a b : Int) : Int := min (plain a) (plain b)
def lor (a b : Int) : Int := max (plain a) (plain b)
def lnot (a : Int) : Int := 2 - plain a
def ofB (b : Bool) : Int := if b then 2 else 0

theorem plain_cases (a : Int) : plain a = 0 ∨ plain a = 1 ∨ plain a = 2 := by unfold plain; (repeat' split) <;> simp

theorem plain_any (a : Int) (w : World) : Calls Try.prog 31 #[.int .i64 a] w fun e w' => e = .returned (.int .i64 (plain a)) ∧ w = w' := by
  have hc : Hid ((a = 0 → plain a = 0) ∧ (a = 2 → plain a = 2) ∧ (a ≠ 0 → a ≠ 2 → plain a = 1)) := by
    refine ⟨fun h => if_pos h, fun h => ?_, fun h h' => ?_⟩
    · subst h; rfl
    · unfold plain; rw [if_neg h, if_neg h']
  cases h0 : (a == 0) <;> cases h2 : (a == 2)
  all_goals
    have H0 := Lib.hid h0
    have H2 := Lib.hid h2
    go_enter Try.func31, Try.ntmps31
    go_wp2
    go_ret
  · exact ⟨by rw [hc.out.2.2 (by simpa using H0.out) (by simpa using H2.out)] <;> rfl, rfl⟩
  · exact ⟨by rw [hc.out.2.1 (by simpa using H2.out)] <;> first | rfl | (have := eq_of_beq H2.out; rw [this]; rfl), rfl⟩
  · exact ⟨by rw [hc.out.1 (by simpa using H0.out)] <;> first | rfl | (have := eq_of_beq H0.out; rw [this]; rfl), rfl⟩
  · exact absurd (eq_of_beq H0.out) (by have := eq_of_beq H2.out; omega)

theorem and_any (a b : Int) (w : World) : Calls Try.prog 10 #[.int .i64 a, .int .i64 b] w fun e w' => e = .returned (.int .i64 (land a b)) ∧ w = w' := by
  have ha := plain_any a
  have hb := plain_any b
  have hv := Lib.hid (show land a b = min (plain a) (plain b) from rfl)
  have ca := plain_cases a
  have cb := plain_cases b
  generalize plain a = x at *
  generalize plain b = y at *
  rcases ca with rfl | rfl | rfl <;> rcases cb with rfl | rfl | rfl
  all_goals
    have HA := Lib.hid ha
    have HB := Lib.hid hb
    clear ha hb
    go_enter Try.func10, Try.ntmps10
    go_wp2_with fail
    refine (HA.out _).mono ?_
    rintro e w1 ⟨rfl, rfl⟩
    go_wp2_with fail
    refine (HB.out _).mono ?_
    rintro e w1 ⟨rfl, rfl⟩
    go_wp2_with fail
    go_ret
    exact ⟨by rw [hv.out] <;> rfl, rfl⟩

theorem or_any (a b : Int) (w : World) : Calls Try.prog 11 #[.int .i64 a, .int .i64 b] w fun e w' => e = .returned (.int .i64 (lor a b)) ∧ w = w' := by
  have ha := plain_any a
  have hb := plain_any b
  have hv := Lib.hid (show lor a b = max (plain a) (plain b) from rfl)
  have ca := plain_cases a
  have cb := plain_cases b
  generalize plain a = x at *
  generalize plain b = y at *
  rcases ca with rfl | rfl | rfl <;> rcases cb with rfl | rfl | rfl
  all_goals
    have HA := Lib.hid ha
    have HB := Lib.hid hb
    clear ha hb
    go_enter Try.func11, Try.ntmps11
    go_wp2_with fail
    refine (HA.out _).mono ?_
    rintro e w1 ⟨rfl, rfl⟩
    go_wp2_with fail
    refine (HB.out _).mono ?_
    rintro e w1 ⟨rfl, rfl⟩
    go_wp2_with fail
    go_ret
    exact ⟨by rw [hv.out] <;> rfl, rfl⟩

theorem not_any (a : Int) (w : World) : Calls Try.prog 12 #[.int .i64 a] w fun e w' => e = .returned (.int .i64 (lnot a)) ∧ w = w' := by
  have ha := plain_any a
  have hv := Lib.hid (show lnot a = 2 - plain a from rfl)
  have ca := plain_cases a
  generalize plain a = x at *
  rcases ca with rfl | rfl | rfl
  all_goals
    have HA := Lib.hid ha
    clear ha
    go_enter Try.func12, Try.ntmps12
    go_wp2_with fail
    refine (HA.out _).mono ?_
    rintro e w1 ⟨rfl, rfl⟩
    go_wp2_with fail
    go_ret
    exact ⟨by rw [hv.out] <;> rfl, rfl⟩

theorem of_any (b : Bool) (w : World) : Calls Try.prog 51 #[.bool b] w fun e w' => e = .returned (.int .i64 (ofB b)) ∧ w = w' := by
  cases b
  all_goals
    go_enter Try.func51, Try.ntmps51
    go_wp2
    go_ret
    exact ⟨rfl, rfl⟩

theorem foldl_drop (f : Int → Int → Int) (z : Int) (l : List Int) (k : Nat) (hk : k < l.length) : (l.drop k).foldl f z = (l.drop (k + 1)).foldl f (f z l[k]) := by
  rw [List.drop_eq_getElem_cons hk]; rfl

theorem fold_any (fid : Nat) (he : ∀ args w, (callFunc fid args).run Try.prog w = .ok (.enter fid args) w) (f : Int → Int → Int)
    (hf : ∀ a b W, Calls Try.prog fid #[.int .i64 a, .int .i64 b] W fun e w' => e = .returned (.int .i64 (f a b)) ∧ W = w') (z : Int) (l : List Int) (v : Value) (w : World) (hs : Seen w v l.length 1 (l.map (Value.int .i64))) :
    Calls Try.prog 45 #[.int .i64 z, .func (.func fid) #[] #[], v] w fun e w' => e = .returned (.int .i64 (l.foldl f z)) ∧ w = w' := by
  obtain ⟨_, a, cap, rfl, hc, hm, hnil, hcells⟩ := id hs
  unfold maxLen at hm
  have HF := Lib.hid hf
  clear hf hs
  go_enter Try.func45, Try.ntmps45
  go_wp2
  go_loop [0, 11] (fun o i => ∃ (k : Nat) (x : Int), k ≤ l.length ∧ i = .int .i64 (k : Int) ∧ o = .int .i64 x ∧ Hid (l.foldl f z = (l.drop k).foldl f x)) (fun _ i => l.length - (intOf i).toNat)
  case atStart => exact ⟨0, z, by omega, rfl, rfl, rfl⟩
  case round =>
    obtain ⟨k, x, hk, rfl, rfl, hfo⟩ := hrel
    by_cases h : k < l.length
    · obtain ⟨b, off, rfl, hb, cl⟩ := hcells.resolve_left (by omega)
      have c0 := cl k (.int .i64 l[k]) (by simp [h])
      have HD := Lib.hid (foldl_drop f x l k h)
      generalize l[k] = y at *
      clear cl hcells
      go_wp2_with (go_at_fn fid; refine (HF.out _ _ _).mono ?_; rintro e w' ⟨rfl, rfl⟩)
      go_round
      case rel => exact ⟨k + 1, _, by omega, by go_num, rfl, Lib.hid (by rw [hfo.out, HD.out])⟩
      case measure => simp [intOf]; omega
    · obtain rfl : k = l.length := by omega
      have hfo := Lib.hid (hfo.out.trans (by rw [List.drop_length, List.foldl_nil]))
      go_wp2_with fail
      go_ret
      exact ⟨by rw [hfo.out] <;> rfl, rfl⟩

def lall (l : List Int) : Int := l.foldl land 2
def lany (l : List Int) : Int := l.foldl lor 0
theorem all_any (l : List Int) (v : Value) (w : World) (hs : Seen w v l.length 1 (l.map (Value.int .i64))) :
    Calls Try.prog 27 #[v] w fun e w' => e = .returned (.int .i64 (lall l)) ∧ w = w' := by
  have hc := Lib.hid (fold_any 10 (enters_of Try.func10 (by kernel_rfl) rfl) land and_any 2 l v w hs)
  obtain ⟨_, a, cap, rfl, _, _, _, _⟩ := id hs
  clear hs
  go_enter Try.func27, Try.ntmps27
  go_wp2_with fail
  refine hc.out.mono ?_
  rintro e w1 ⟨rfl, rfl⟩
  go_wp2_with fail
  go_ret
  exact ⟨rfl, rfl⟩
theorem any_any (l : List Int) (v : Value) (w : World) (hs : Seen w v l.length 1 (l.map (Value.int .i64))) :
    Calls Try.prog 29 #[v] w fun e w' => e = .returned (.int .i64 (lany l)) ∧ w = w' := by
  have hc := Lib.hid (fold_any 11 (enters_of Try.func11 (by kernel_rfl) rfl) lor or_any 0 l v w hs)
  obtain ⟨_, a, cap, rfl, _, _, _, _⟩ := id hs
  clear hs
  go_enter Try.func29, Try.ntmps29
  go_wp2_with fail
  refine hc.out.mono ?_
  rintro e w1 ⟨rfl, rfl⟩
  go_wp2_with fail
  go_ret
  exact ⟨rfl, rfl⟩

end Go.Proofs.Ytplgobljgmlpkaa.LogicP
