/- the document's values of keys; KeyTells -/
import Derived.Test.YtnlkfpgaehgpbaaPrKeyEnd
import Derived.Test.YtnlkfpgaehgpbaaPrKeyBack
namespace Go.Proofs.Ytnlkfpgaehgpbaa.Pm
open Go.RowKit K NumP NumW NumRd NumZ NumL
set_option linter.unusedVariables false
set_option linter.unusedSimpArgs false
set_option maxRecDepth 100000

theorem Wr.back2 {u : Nat} (h : u < 18446744073709551616) {K : Int → Prop} (hk : K ((u : Int) - 9223372036854775808)) : Wr .i64 (((u : Int) + 9223372036854775808) % 18446744073709551616) K := by
  refine ⟨(u : Int) - 9223372036854775808, ?_, hk⟩
  rw [IntKind.wrap_i64]
  omega
def kSh (v : ValueD) : Prop := (0 ≤ v.Kind ∧ v.Kind ≤ 3) ∧ (v.Kind ≠ 1 → v.N = 0) ∧ (v.Kind < 2 → v.S = []) ∧ okInt v.N
theorem unkR_sh {s : List UInt8} (hs : s ≠ []) (h : (unkR s).2.2 = true) : s = kW (unkR s).1 ++ (unkR s).2.1 ∧ kSh (unkR s).1 := by
  have zn : okInt 0 := ⟨by decide, by decide⟩
  cases s with
  | nil => exact absurd rfl hs
  | cons tag r =>
    rw [unkR_cons] at h ⊢
    by_cases c5 : tag = 5
    · rw [if_pos c5]; subst c5
      exact ⟨rfl, ⟨(show (0 : Int) ≤ 0 by decide), (show (0 : Int) ≤ 3 by decide)⟩, fun _ => rfl, fun _ => rfl, zn⟩
    · rw [if_neg c5] at h ⊢
      by_cases c16 : tag = 16
      · rw [if_pos c16] at h ⊢
        by_cases h8 : r.length < 8
        · rw [if_pos h8] at h; cases h
        · rw [if_neg h8]
          subst c16
          have l8 : (r.take 8).length = 8 := by rw [List.length_take]; omega
          refine ⟨?_, ⟨(show (0 : Int) ≤ 1 by decide), (show (1 : Int) ≤ 3 by decide)⟩, fun q => absurd rfl q, fun _ => rfl, dec8_ok l8⟩
          show _ = 16 :: (b8 (dec8 (r.take 8) + 9223372036854775808) ++ r.drop 8)
          rw [b8_dec8 l8, List.take_append_drop]
      · rw [if_neg c16] at h ⊢
        by_cases c32 : tag = 32
        · rw [if_pos c32] at h ⊢
          have e := unbR_only h
          subst c32
          refine ⟨?_, ⟨(show (0 : Int) ≤ 2 by decide), (show (2 : Int) ≤ 3 by decide)⟩, fun _ => rfl, fun q => absurd (show (2 : Int) < 2 from q) (by decide), zn⟩
          show _ = 32 :: ((escK (unbR r).1 ++ [0, 1]) ++ (unbR r).2.1)
          rw [← e]
        · rw [if_neg c32] at h ⊢
          by_cases c48 : tag = 48
          · rw [if_pos c48] at h ⊢
            have e := unbR_only h
            subst c48
            refine ⟨?_, ⟨(show (0 : Int) ≤ 3 by decide), (show (3 : Int) ≤ 3 by decide)⟩, fun _ => rfl, fun q => absurd (show (3 : Int) < 2 from q) (by decide), zn⟩
            show _ = 48 :: ((escK (unbR r).1 ++ [0, 1]) ++ (unbR r).2.1)
            rw [← e]
          · rw [if_neg c48] at h; cases h
theorem escK_take (s : List UInt8) : ∀ j, j ≤ s.length → ∃ e, escK s = escK (s.take j) ++ e ∧ e = escK (s.drop j) := fun j hj => ⟨_, by rw [← escK_append, List.take_append_drop], rfl⟩
theorem escK_ge : ∀ s : List UInt8, s.length ≤ (escK s).length
  | [] => Nat.le_refl _
  | b :: s => by
    have ih := escK_ge s
    rw [escK_cons]
    split <;> simp only [List.length_cons] <;> omega
theorem p_valueofkey (v : ValueD) (h : kSh v) (hl : okText (kW v)) : Pure Try.prog 46 [pStr (tx (kW v))] (vV v) := by
  have hl2 := hl
  unfold okText at hl2
  obtain ⟨k1, k2, k3, hN⟩ := h
  obtain ⟨kd, n, s⟩ := v
  simp only at k1 k2 k3 hN
  have tz := tx_size (kW ⟨kd, n, s⟩)
  have kk : kd = 0 ∨ kd = 1 ∨ (2 ≤ kd ∧ kd ≤ 3) := by omega
  refine pure_of Try.func46 (by rfl) rfl (by kernel_rfl) (by rfl) ?_
  have i0 : ∀ {K : Int → Prop}, K ((tagK kd).toNat : Int) → SIdx (tx (kW ⟨kd, n, s⟩)) 0 K := fun h => SIdx.tx (l := kW ⟨kd, n, s⟩) 0 rfl (by unfold kW; simp) h
  rcases kk with rfl | rfl | kk
  · obtain rfl : n = 0 := k2 (by decide)
    obtain rfl : s = [] := k3 (by decide)
    have c : ((tagK 0).toNat : Int) = 5 := rfl
    (((conv => whnf); repeat ((first | with_reducible refine BCase.tt ?_ | with_reducible refine BCase.ff ?_); (conv => whnf))); repeat' (first | ((first | with_reducible refine Wr.u8 ?_ | ((first | with_reducible refine Wr.ci ?s ?_ | with_reducible refine Wr.c3 ?s ?_ | with_reducible refine Wr.c6 ?s ?_ | with_reducible refine BCase.dt ?s ?_); case s => (first | omega | (simp only [lens, true_and, and_true]; (try omega); done))) | (with_reducible refine BCase.df ?s ?_; case s => (first | omega | (simp only [lens, true_and, and_true]; (try omega); done))) | (with_reducible refine Need.mk ?s ?_; case s => first | (first | omega | (simp only [lens, true_and, and_true]; (try omega); done)) | decide | kernel_rfl) | refine BCase.t (by decide) ?_ | refine BCase.f (by decide) ?_); ((conv => whnf); repeat ((first | with_reducible refine BCase.tt ?_ | with_reducible refine BCase.ff ?_); (conv => whnf)))) | (( refine i0 ?_); ((conv => whnf); repeat ((first | with_reducible refine BCase.tt ?_ | with_reducible refine BCase.ff ?_); (conv => whnf)))) | (( refine BCase.dt c ?_); ((conv => whnf); repeat ((first | with_reducible refine BCase.tt ?_ | with_reducible refine BCase.ff ?_); (conv => whnf)))) | ((with_reducible refine EmpOr.app ?_); ((conv => whnf); repeat ((first | with_reducible refine BCase.tt ?_ | with_reducible refine BCase.ff ?_); (conv => whnf)))) | (first | with_reducible refine BCase.not ?_ | with_reducible refine BCase.and ?_ | with_reducible refine BCase.or ?_) | ((with_reducible refine BCase.d (fun _ => ?_) (fun _ => ?_)) <;> ((conv => whnf); repeat ((first | with_reducible refine BCase.tt ?_ | with_reducible refine BCase.ff ?_); (conv => whnf))))))
    exact Ret.mk rfl
  · obtain rfl : s = [] := k3 (by decide)
    have c1 : ¬ ((tagK 1).toNat : Int) = 5 := by decide
    have c2 : ((tagK 1).toNat : Int) = 16 := rfl
    obtain ⟨u, hu⟩ : ∃ u : Nat, n + 9223372036854775808 = u := ⟨(n + 9223372036854775808).toNat, by have := hN.1; omega⟩
    have hul : u < 18446744073709551616 := by have := hN.2; omega
    have hkw : kW ⟨1, n, []⟩ = 16 :: b8 (u : Int) := by rw [← hu]; rfl
    rw [hkw] at hl2 tz ⊢
    have l9 : (16 :: b8 (u : Int)).length = 9 := rfl
    rw [l9] at hl2 tz
    have l8 : (b8 (u : Int)).length = 8 := rfl
    have i01 : ∀ {K : Int → Prop}, K ((tagK 1).toNat : Int) → SIdx (tx (16 :: b8 (u : Int))) 0 K := fun h => SIdx.tx (l := 16 :: b8 (u : Int)) 0 rfl (Nat.zero_lt_succ _) h
    (((conv => whnf); repeat ((first | with_reducible refine BCase.tt ?_ | with_reducible refine BCase.ff ?_); (conv => whnf))); repeat' (first | ((first | with_reducible refine Wr.u8 ?_ | ((first | with_reducible refine Wr.ci ?s ?_ | with_reducible refine Wr.c3 ?s ?_ | with_reducible refine Wr.c6 ?s ?_ | with_reducible refine BCase.dt ?s ?_); case s => (first | omega | (simp only [lens, true_and, and_true]; (try omega); done))) | (with_reducible refine BCase.df ?s ?_; case s => (first | omega | (simp only [lens, true_and, and_true]; (try omega); done))) | (with_reducible refine Need.mk ?s ?_; case s => first | (first | omega | (simp only [lens, true_and, and_true]; (try omega); done)) | decide | kernel_rfl) | refine BCase.t (by decide) ?_ | refine BCase.f (by decide) ?_); ((conv => whnf); repeat ((first | with_reducible refine BCase.tt ?_ | with_reducible refine BCase.ff ?_); (conv => whnf)))) | (( refine i01 ?_); ((conv => whnf); repeat ((first | with_reducible refine BCase.tt ?_ | with_reducible refine BCase.ff ?_); (conv => whnf)))) | (( refine BCase.df c1 ?_); ((conv => whnf); repeat ((first | with_reducible refine BCase.tt ?_ | with_reducible refine BCase.ff ?_); (conv => whnf)))) | (( refine BCase.dt c2 ?_); ((conv => whnf); repeat ((first | with_reducible refine BCase.tt ?_ | with_reducible refine BCase.ff ?_); (conv => whnf)))) | ((with_reducible refine EmpOr.app ?_); ((conv => whnf); repeat ((first | with_reducible refine BCase.tt ?_ | with_reducible refine BCase.ff ?_); (conv => whnf)))) | (first | with_reducible refine BCase.not ?_ | with_reducible refine BCase.and ?_ | with_reducible refine BCase.or ?_) | ((with_reducible refine BCase.d (fun _ => ?_) (fun _ => ?_)) <;> ((conv => whnf); repeat ((first | with_reducible refine BCase.tt ?_ | with_reducible refine BCase.ff ?_); (conv => whnf))))))
    refine LoopC.mk Nat (fun j => [(0, pStr (tx (16 :: b8 (u : Int)))), (2, .d (.ptr 2 0)), (3, pInt .u64 (fold8 0 ((b8 (u : Int)).take j) : Int)), (4, pInt .i64 ((j + 1 : Nat) : Int))]) (fun _ => [(2, .box tVal (z0.c.map D.c))]) [2] (fun j => j ≤ 8) (fun j => 8 - j) 0 (Nat.zero_le _) ?start ?round
    case start => exact ⟨[(2, 2)], rfl, rfl, ⟨.inl rfl, ⟨rfl, rfl, rfl⟩, .inl rfl, .inl rfl, trivial⟩, ⟨rfl, rfl, .inl rfl, .inl rfl, .inl rfl, rfl⟩, trivial⟩
    case round =>
      intro j hj
      by_cases h2 : j < 8
      · have hf := fold8_lt ((b8 (u : Int)).take j)
        have hfl : ((b8 (u : Int)).take j).length = j := by rw [List.length_take, l8]; omega
        rw [hfl] at hf
        have hf2 : fold8 0 ((b8 (u : Int)).take j) < 256 ^ 7 := Nat.lt_of_lt_of_le hf (Nat.pow_le_pow_right (by decide) (by omega))
        have hf3 : fold8 0 ((b8 (u : Int)).take j) < 72057594037927936 := hf2
        have hstep := take_getD (l := b8 (u : Int)) (k := j) (by omega)
        have hb := u8_lt ((b8 (u : Int)).getD j 0)
        have ij : ∀ {K : Int → Prop}, K (((b8 (u : Int)).getD j 0).toNat : Int) → SIdx (tx (16 :: b8 (u : Int))) ((j + 1 : Nat) : Int) K := fun h => SIdx.tx (l := 16 :: b8 (u : Int)) (j + 1) rfl (by show j + 1 < 9; omega) h
        (((conv => whnf); repeat ((first | with_reducible refine BCase.tt ?_ | with_reducible refine BCase.ff ?_); (conv => whnf))); repeat' (first | ((first | with_reducible refine Wr.u8 ?_ | ((first | with_reducible refine Wr.ci ?s ?_ | with_reducible refine Wr.c3 ?s ?_ | with_reducible refine Wr.c6 ?s ?_ | with_reducible refine BCase.dt ?s ?_); case s => (first | omega | (simp only [lens, true_and, and_true]; (try omega); done))) | (with_reducible refine BCase.df ?s ?_; case s => (first | omega | (simp only [lens, true_and, and_true]; (try omega); done))) | (with_reducible refine Need.mk ?s ?_; case s => first | (first | omega | (simp only [lens, true_and, and_true]; (try omega); done)) | decide | kernel_rfl) | refine BCase.t (by decide) ?_ | refine BCase.f (by decide) ?_); ((conv => whnf); repeat ((first | with_reducible refine BCase.tt ?_ | with_reducible refine BCase.ff ?_); (conv => whnf)))) | (( refine ij ?_); ((conv => whnf); repeat ((first | with_reducible refine BCase.tt ?_ | with_reducible refine BCase.ff ?_); (conv => whnf)))) | ((with_reducible refine EmpOr.app ?_); ((conv => whnf); repeat ((first | with_reducible refine BCase.tt ?_ | with_reducible refine BCase.ff ?_); (conv => whnf)))) | (first | with_reducible refine BCase.not ?_ | with_reducible refine BCase.and ?_ | with_reducible refine BCase.or ?_) | ((with_reducible refine BCase.d (fun _ => ?_) (fun _ => ?_)) <;> ((conv => whnf); repeat ((first | with_reducible refine BCase.tt ?_ | with_reducible refine BCase.ff ?_); (conv => whnf))))))
        exact ⟨j + 1, by omega, by omega, [(2, 2)], rfl, rfl, ⟨.inl rfl, ⟨rfl, rfl, rfl⟩, PLe.int (by rw [hstep, fold8_snoc]; omega), PLe.int (by omega), trivial⟩, ⟨rfl, rfl, .inl rfl, .inl rfl, .inl rfl, rfl⟩, trivial⟩
      · obtain rfl : j = 8 := by omega
        rw [show (b8 (u : Int)).take 8 = b8 (u : Int) from rfl, b8_fold u hul]
        (((conv => whnf); repeat ((first | with_reducible refine BCase.tt ?_ | with_reducible refine BCase.ff ?_); (conv => whnf))); repeat' (first | ((first | with_reducible refine Wr.u8 ?_ | ((first | with_reducible refine Wr.ci ?s ?_ | with_reducible refine Wr.c3 ?s ?_ | with_reducible refine Wr.c6 ?s ?_ | with_reducible refine BCase.dt ?s ?_); case s => (first | omega | (simp only [lens, true_and, and_true]; (try omega); done))) | (with_reducible refine BCase.df ?s ?_; case s => (first | omega | (simp only [lens, true_and, and_true]; (try omega); done))) | (with_reducible refine Need.mk ?s ?_; case s => first | (first | omega | (simp only [lens, true_and, and_true]; (try omega); done)) | decide | kernel_rfl) | refine BCase.t (by decide) ?_ | refine BCase.f (by decide) ?_); ((conv => whnf); repeat ((first | with_reducible refine BCase.tt ?_ | with_reducible refine BCase.ff ?_); (conv => whnf)))) | (( refine Wr.back2 hul ?_); ((conv => whnf); repeat ((first | with_reducible refine BCase.tt ?_ | with_reducible refine BCase.ff ?_); (conv => whnf)))) | (( refine Wr.u64w ?_); ((conv => whnf); repeat ((first | with_reducible refine BCase.tt ?_ | with_reducible refine BCase.ff ?_); (conv => whnf)))) | ((with_reducible refine EmpOr.app ?_); ((conv => whnf); repeat ((first | with_reducible refine BCase.tt ?_ | with_reducible refine BCase.ff ?_); (conv => whnf)))) | (first | with_reducible refine BCase.not ?_ | with_reducible refine BCase.and ?_ | with_reducible refine BCase.or ?_) | ((with_reducible refine BCase.d (fun _ => ?_) (fun _ => ?_)) <;> ((conv => whnf); repeat ((first | with_reducible refine BCase.tt ?_ | with_reducible refine BCase.ff ?_); (conv => whnf))))))
        refine Ret.mk ?_
        rw [show (u : Int) - 9223372036854775808 = n by omega]
        rfl
  · have kt : kd = 2 ∨ kd = 3 := by omega
    have hn := k2 (by omega)
    subst hn
    have htk : ((tagK kd).toNat : Int) = 16 * kd := by rcases kt with rfl | rfl <;> rfl
    have hq : (16 * kd).tdiv 16 = kd := by rcases kt with rfl | rfl <;> rfl
    have hkw : kW ⟨kd, 0, s⟩ = tagK kd :: (escK s ++ [0, 1]) := by
      unfold kW
      rw [if_neg (show ¬ kd = 0 by omega), if_neg (show ¬ kd = 1 by omega)]
    rw [hkw] at hl2 tz ⊢
    have i0' : ∀ {K : Int → Prop}, K (16 * kd) → SIdx (tx (tagK kd :: (escK s ++ [0, 1]))) 0 K := by
      intro K h
      refine SIdx.tx (l := tagK kd :: (escK s ++ [0, 1])) 0 rfl (Nat.zero_lt_succ _) ?_
      show K ((tagK kd).toNat : Int)
      rw [htk]; exact h
    have hlen : (tagK kd :: (escK s ++ [0, 1])).length = (escK s).length + 3 := by simp
    rw [hlen] at hl2 tz
    (((conv => whnf); repeat ((first | with_reducible refine BCase.tt ?_ | with_reducible refine BCase.ff ?_); (conv => whnf))); repeat' (first | ((first | with_reducible refine Wr.u8 ?_ | ((first | with_reducible refine Wr.ci ?s ?_ | with_reducible refine Wr.c3 ?s ?_ | with_reducible refine Wr.c6 ?s ?_ | with_reducible refine BCase.dt ?s ?_); case s => (first | omega | (simp only [lens, true_and, and_true]; (try omega); done))) | (with_reducible refine BCase.df ?s ?_; case s => (first | omega | (simp only [lens, true_and, and_true]; (try omega); done))) | (with_reducible refine Need.mk ?s ?_; case s => first | (first | omega | (simp only [lens, true_and, and_true]; (try omega); done)) | decide | kernel_rfl) | refine BCase.t (by decide) ?_ | refine BCase.f (by decide) ?_); ((conv => whnf); repeat ((first | with_reducible refine BCase.tt ?_ | with_reducible refine BCase.ff ?_); (conv => whnf)))) | (( refine i0' ?_); ((conv => whnf); repeat ((first | with_reducible refine BCase.tt ?_ | with_reducible refine BCase.ff ?_); (conv => whnf)))) | ((with_reducible refine EmpOr.app ?_); ((conv => whnf); repeat ((first | with_reducible refine BCase.tt ?_ | with_reducible refine BCase.ff ?_); (conv => whnf)))) | (first | with_reducible refine BCase.not ?_ | with_reducible refine BCase.and ?_ | with_reducible refine BCase.or ?_) | ((with_reducible refine BCase.d (fun _ => ?_) (fun _ => ?_)) <;> ((conv => whnf); repeat ((first | with_reducible refine BCase.tt ?_ | with_reducible refine BCase.ff ?_); (conv => whnf))))))
    refine LoopC.mk Nat (fun j => [(0, pStr (tx (tagK kd :: (escK s ++ [0, 1])))), (2, .d (.ptr 2 0)), (5, .d (.ptr 5 0)), (6, pInt .i64 ((1 + (escK (s.take j)).length : Nat) : Int))]) (fun j => [(2, .box tVal (z0.c.map D.c)), (5, .box tVal ((ValueD.mk kd 0 (s.take j)).c.map D.c))]) [2, 5] (fun j => j ≤ s.length) (fun j => s.length - j) 0 (Nat.zero_le _) ?start2 ?round2
    case start2 => exact ⟨[(2, 2), (5, 5)], rfl, rfl, ⟨.inl rfl, ⟨rfl, rfl, rfl⟩, ⟨rfl, rfl, rfl⟩, .inl rfl, trivial⟩, ⟨rfl, rfl, .inl rfl, .inl rfl, .inl rfl, rfl⟩, ⟨rfl, rfl, .inl (by rw [hq]), .inl rfl, .inl rfl, rfl⟩, trivial⟩
    case round2 =>
      intro j hj
      have he : escK s = escK (s.take j) ++ escK (s.drop j) := by rw [← escK_append, List.take_append_drop]
      have hel : (escK s).length = (escK (s.take j)).length + (escK (s.drop j)).length := by rw [he, List.length_append]
      have tz2 := tx_size (s.take j)
      have htl : (s.take j).length ≤ s.length := by rw [List.length_take]; omega
      have hse := escK_ge s
      by_cases h2 : j < s.length
      · have hd : s.drop j = s[j] :: s.drop (j + 1) := List.drop_eq_getElem_cons h2
        have hL : (tagK kd :: (escK s ++ [0, 1])).drop (1 + (escK (s.take j)).length) = escK (s.drop j) ++ [0, 1] := by
          rw [Nat.add_comm, List.drop_succ_cons, he, List.append_assoc, List.drop_left' rfl]
        have hes := escK_append (s.take j) [s[j]]
        rw [← take_snoc h2] at hes
        have hstep : escK [s[j]] = if s[j] = 0 then [0, 255] else [s[j]] := rfl
        have hg : (tagK kd :: (escK s ++ [0, 1])).getD (1 + (escK (s.take j)).length) 0 = s[j] := by
          rw [List.getD_eq_getElem?_getD, ← List.head?_drop, hL, hd, escK_cons]
          split
          · rename_i q; rw [q]; rfl
          · rfl
        have hpos : 1 ≤ (escK (s.drop j)).length := by
          rw [hd, escK_cons]; split <;> simp
        have hil : 1 + (escK (s.take j)).length < (tagK kd :: (escK s ++ [0, 1])).length := by rw [hlen]; omega
        have ij : ∀ {K : Int → Prop}, K ((s[j]).toNat : Int) → SIdx (tx (tagK kd :: (escK s ++ [0, 1]))) ((1 + (escK (s.take j)).length : Nat) : Int) K := fun h => SIdx.tx (l := tagK kd :: (escK s ++ [0, 1])) (1 + (escK (s.take j)).length) rfl hil (by rw [hg]; exact h)
        have ex : (tx (tagK kd :: (escK s ++ [0, 1]))).extract ((1 + (escK (s.take j)).length : Nat) : Int).toNat (((1 + (escK (s.take j)).length : Nat) : Int) + 1).toNat = tx [s[j]] := by
          rw [extract_tx, show (((1 + (escK (s.take j)).length : Nat) : Int) + 1).toNat = 1 + (escK (s.take j)).length + 1 by omega, Int.toNat_natCast, drop_at hil, hg]
          rw [show 1 + (escK (s.take j)).length + 1 - (1 + (escK (s.take j)).length) = 1 by omega]; rfl
        have exs : ((tx (tagK kd :: (escK s ++ [0, 1]))).extract ((1 + (escK (s.take j)).length : Nat) : Int).toNat (((1 + (escK (s.take j)).length : Nat) : Int) + 1).toNat).size = 1 := by rw [ex]; rfl
        have hS : tx (s.take j) ++ (tx (tagK kd :: (escK s ++ [0, 1]))).extract ((1 + (escK (s.take j)).length : Nat) : Int).toNat (((1 + (escK (s.take j)).length : Nat) : Int) + 1).toNat = tx (s.take (j + 1)) := by rw [ex, take_snoc h2, tx_append]
        have hlj : (escK (s.take (j + 1))).length = (escK (s.take j)).length + (escK [s[j]]).length := by rw [hes, List.length_append]
        by_cases hz : s[j] = 0
        · have hz' : ((s[j]).toNat : Int) = 0 := by rw [hz]; rfl
          rw [if_pos hz] at hstep
          (((conv => whnf); repeat ((first | with_reducible refine BCase.tt ?_ | with_reducible refine BCase.ff ?_); (conv => whnf))); repeat' (first | ((first | with_reducible refine Wr.u8 ?_ | ((first | with_reducible refine Wr.ci ?s ?_ | with_reducible refine Wr.c3 ?s ?_ | with_reducible refine Wr.c6 ?s ?_ | with_reducible refine BCase.dt ?s ?_); case s => (first | omega | (simp only [lens, true_and, and_true]; (try omega); done))) | (with_reducible refine BCase.df ?s ?_; case s => (first | omega | (simp only [lens, true_and, and_true]; (try omega); done))) | (with_reducible refine Need.mk ?s ?_; case s => first | (first | omega | (simp only [lens, true_and, and_true]; (try omega); done)) | decide | kernel_rfl) | refine BCase.t (by decide) ?_ | refine BCase.f (by decide) ?_); ((conv => whnf); repeat ((first | with_reducible refine BCase.tt ?_ | with_reducible refine BCase.ff ?_); (conv => whnf)))) | (( refine ij ?_); ((conv => whnf); repeat ((first | with_reducible refine BCase.tt ?_ | with_reducible refine BCase.ff ?_); (conv => whnf)))) | (( refine BCase.dt hz' ?_); ((conv => whnf); repeat ((first | with_reducible refine BCase.tt ?_ | with_reducible refine BCase.ff ?_); (conv => whnf)))) | ((with_reducible refine EmpOr.app ?_); ((conv => whnf); repeat ((first | with_reducible refine BCase.tt ?_ | with_reducible refine BCase.ff ?_); (conv => whnf)))) | (first | with_reducible refine BCase.not ?_ | with_reducible refine BCase.and ?_ | with_reducible refine BCase.or ?_) | ((with_reducible refine BCase.d (fun _ => ?_) (fun _ => ?_)) <;> ((conv => whnf); repeat ((first | with_reducible refine BCase.tt ?_ | with_reducible refine BCase.ff ?_); (conv => whnf))))))
          rw [hstep] at hlj
          refine ⟨j + 1, by omega, by omega, [(2, 2), (5, 5)], rfl, rfl, ⟨.inl rfl, ⟨rfl, rfl, rfl⟩, ⟨rfl, rfl, rfl⟩, PLe.int (by simp only [List.length_cons, List.length_nil] at hlj; omega), trivial⟩, ⟨rfl, rfl, .inl rfl, .inl rfl, .inl rfl, rfl⟩, ⟨rfl, rfl, .inl rfl, .inl rfl, .inl ?_, rfl⟩, trivial⟩
          first | exact hS ▸ rfl | (rw [hS]; rfl)
        · have hz' : ¬ ((s[j]).toNat : Int) = 0 := fun e => hz (u8_eq (b := 0) |>.1 e)
          rw [if_neg hz] at hstep
          (((conv => whnf); repeat ((first | with_reducible refine BCase.tt ?_ | with_reducible refine BCase.ff ?_); (conv => whnf))); repeat' (first | ((first | with_reducible refine Wr.u8 ?_ | ((first | with_reducible refine Wr.ci ?s ?_ | with_reducible refine Wr.c3 ?s ?_ | with_reducible refine Wr.c6 ?s ?_ | with_reducible refine BCase.dt ?s ?_); case s => (first | omega | (simp only [lens, true_and, and_true]; (try omega); done))) | (with_reducible refine BCase.df ?s ?_; case s => (first | omega | (simp only [lens, true_and, and_true]; (try omega); done))) | (with_reducible refine Need.mk ?s ?_; case s => first | (first | omega | (simp only [lens, true_and, and_true]; (try omega); done)) | decide | kernel_rfl) | refine BCase.t (by decide) ?_ | refine BCase.f (by decide) ?_); ((conv => whnf); repeat ((first | with_reducible refine BCase.tt ?_ | with_reducible refine BCase.ff ?_); (conv => whnf)))) | (( refine ij ?_); ((conv => whnf); repeat ((first | with_reducible refine BCase.tt ?_ | with_reducible refine BCase.ff ?_); (conv => whnf)))) | (( refine BCase.df hz' ?_); ((conv => whnf); repeat ((first | with_reducible refine BCase.tt ?_ | with_reducible refine BCase.ff ?_); (conv => whnf)))) | ((with_reducible refine EmpOr.app ?_); ((conv => whnf); repeat ((first | with_reducible refine BCase.tt ?_ | with_reducible refine BCase.ff ?_); (conv => whnf)))) | (first | with_reducible refine BCase.not ?_ | with_reducible refine BCase.and ?_ | with_reducible refine BCase.or ?_) | ((with_reducible refine BCase.d (fun _ => ?_) (fun _ => ?_)) <;> ((conv => whnf); repeat ((first | with_reducible refine BCase.tt ?_ | with_reducible refine BCase.ff ?_); (conv => whnf))))))
          rw [hstep] at hlj
          refine ⟨j + 1, by omega, by omega, [(2, 2), (5, 5)], rfl, rfl, ⟨.inl rfl, ⟨rfl, rfl, rfl⟩, ⟨rfl, rfl, rfl⟩, PLe.int (by simp only [List.length_cons, List.length_nil] at hlj; omega), trivial⟩, ⟨rfl, rfl, .inl rfl, .inl rfl, .inl rfl, rfl⟩, ⟨rfl, rfl, .inl rfl, .inl rfl, .inl ?_, rfl⟩, trivial⟩
          first | exact hS ▸ rfl | (rw [hS]; rfl)
      · obtain rfl : j = s.length := by omega
        have et : s.take s.length = s := List.take_length
        rw [et]
        (((conv => whnf); repeat ((first | with_reducible refine BCase.tt ?_ | with_reducible refine BCase.ff ?_); (conv => whnf))); repeat' (first | ((first | with_reducible refine Wr.u8 ?_ | ((first | with_reducible refine Wr.ci ?s ?_ | with_reducible refine Wr.c3 ?s ?_ | with_reducible refine Wr.c6 ?s ?_ | with_reducible refine BCase.dt ?s ?_); case s => (first | omega | (simp only [lens, true_and, and_true]; (try omega); done))) | (with_reducible refine BCase.df ?s ?_; case s => (first | omega | (simp only [lens, true_and, and_true]; (try omega); done))) | (with_reducible refine Need.mk ?s ?_; case s => first | (first | omega | (simp only [lens, true_and, and_true]; (try omega); done)) | decide | kernel_rfl) | refine BCase.t (by decide) ?_ | refine BCase.f (by decide) ?_); ((conv => whnf); repeat ((first | with_reducible refine BCase.tt ?_ | with_reducible refine BCase.ff ?_); (conv => whnf)))) | ((with_reducible refine EmpOr.app ?_); ((conv => whnf); repeat ((first | with_reducible refine BCase.tt ?_ | with_reducible refine BCase.ff ?_); (conv => whnf)))) | (first | with_reducible refine BCase.not ?_ | with_reducible refine BCase.and ?_ | with_reducible refine BCase.or ?_) | ((with_reducible refine BCase.d (fun _ => ?_) (fun _ => ?_)) <;> ((conv => whnf); repeat ((first | with_reducible refine BCase.tt ?_ | with_reducible refine BCase.ff ?_); (conv => whnf))))))
        exact Ret.mk rfl
end Go.Proofs.Ytnlkfpgaehgpbaa.Pm
