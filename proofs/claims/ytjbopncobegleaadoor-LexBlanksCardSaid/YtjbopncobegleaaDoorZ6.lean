/- Parts of the proof, one behind the other: PkRef PkRef2 PkTok PvFmt PvRef4 PmBuild PlBLen PkPrint PkPrint2 PkThm2 PkThm3 PkThm4 PkLaws. Conditions: none beyond what each theorem says. -/
import Derived.Test.YtjbopncobegleaaDoorYShelf
import Derived.Lib.Hide
import Derived.Test.YtjbopncobegleaaDoorZ5
section
namespace Go.Proofs.YtjbopncobegleaaDoor.Pm
open Go.RowKit K
set_option linter.unusedVariables false
set_option linter.unusedSimpArgs false
set_option maxRecDepth 100000
theorem p_isblank (l : List UInt8) (hl : okText l) (k : Nat) : Pure Tryd.prog 31 [pStr (tx l), pInt .i64 (k : Int)] (pBool (inB l k blankB)) := by
 have p1 := p_in l hl k 32 32
 have p2 := p_in l hl k 9 10
 have p3 := p_in l hl k 13 13
 refine pure_of Tryd.func31 (by rfl) rfl (by kernel_rfl) (by rfl) ?_
 unfold inB blankB
 ((conv => whnf); repeat' ((first | (with_reducible first | apply a_ | apply b_ | apply c_) | ((with_reducible first | apply d_ | apply e_ | apply f_ | apply g_); focus first | omega | (simp only [q_] <;> omega)) | ((with_reducible first | apply i_ | apply h_); focus first | omega | (simp only [q_] <;> omega)) | ((with_reducible apply h_); focus first | decide | kernel_rfl) | refine BCase.t (by decide) ?_ | refine BCase.f (by decide) ?_ | refine CallP.pure _ rfl _ (p1) ?_ | refine CallP.pure _ rfl _ (p2) ?_ | refine CallP.pure _ rfl _ (p3) ?_ | with_reducible first | apply l_ | apply m_ | apply n_ | apply o_ | refine p_ (fun _ => ?_) (fun _ => ?_)) <;> (conv => whnf)))
 all_goals
  refine Ret.bool ?_
  rw [← Bool.decide_or, ← Bool.decide_or, ← Bool.decide_or, ← Bool.decide_and]
  first
   | exact (decide_eq_true (by omega)).symm
   | exact (decide_eq_false (by omega)).symm
   | exact decide_eq_decide.2 (by omega)
theorem inB_lt {l : List UInt8} {k : Nat} {p : UInt8 → Bool} (h : k < l.length) : inB l k p = p (l.getD k 0) := by unfold inB; rw [decide_eq_true h]; rfl
theorem inB_ge {l : List UInt8} {k : Nat} {p : UInt8 → Bool} (h : l.length ≤ k) : inB l k p = false := by unfold inB; rw [decide_eq_false (by omega)]; rfl
theorem p_skipped (l : List UInt8) (hl : okText l) (k : Nat) (hk : k ≤ l.length) : Pure Tryd.prog 17 [pStr (tx l), pInt .i64 (k : Int)] (pInt .i64 (skK l k : Int)) := by
 have tz := tx_size l
 have hl' : l.length ≤ 140737488351232 := hl
 refine pure_of Tryd.func17 (by rfl) rfl (by kernel_rfl) (by rfl) ?_
 ((conv => whnf); repeat' ((first | (with_reducible first | apply a_ | apply b_ | apply c_) | ((with_reducible first | apply d_ | apply e_ | apply f_ | apply g_); focus first | omega | (simp only [q_] <;> omega)) | ((with_reducible first | apply i_ | apply h_); focus first | omega | (simp only [q_] <;> omega)) | ((with_reducible apply h_); focus first | decide | kernel_rfl) | refine BCase.t (by decide) ?_ | refine BCase.f (by decide) ?_ | with_reducible first | apply l_ | apply m_ | apply n_ | apply o_ | refine p_ (fun _ => ?_) (fun _ => ?_)) <;> (conv => whnf)))
 refine LoopC.mk (Bool × Nat) (fun s => [(0, pStr (tx l)), (1, pInt .i64 (s.2 : Int)), (5, pBool s.1)]) (fun _ => []) [] (fun s => k ≤ s.2 ∧ s.2 ≤ l.length ∧ skL (l.drop k) = skR s.1 (l.drop s.2)) (fun s => l.length - s.2) (false, k) ⟨Nat.le_refl _, hk, rfl⟩ ?start ?round
 case start => exact ⟨[], rfl, rfl, ⟨.inl rfl, .inl rfl, .inl rfl, trivial⟩, trivial⟩
 case round =>
  rintro ⟨b, j⟩ ⟨h1, h2, hq⟩
  have h1 : k ≤ j := h1
  have h2 : j ≤ l.length := h2
  have hq : skL (l.drop k) = skR b (l.drop j) := hq
  by_cases q : j < l.length
  ·rw [drop_cons q] at hq
   cases b with
   | true =>
    rw [skR_t] at hq
    ((conv => whnf); repeat' ((first | (with_reducible first | apply a_ | apply b_ | apply c_) | ((with_reducible first | apply d_ | apply e_ | apply f_ | apply g_); focus first | omega | (simp only [q_] <;> omega)) | ((with_reducible first | apply i_ | apply h_); focus first | omega | (simp only [q_] <;> omega)) | ((with_reducible apply h_); focus first | decide | kernel_rfl) | refine BCase.t (by decide) ?_ | refine BCase.f (by decide) ?_ | (refine SIdx.tx j rfl q ?_) | with_reducible first | apply l_ | apply m_ | apply n_ | apply o_ | refine p_ (fun _ => ?_) (fun _ => ?_)) <;> (conv => whnf)))
    refine ⟨(decide ((l.getD j 0).toNat ≠ 10), j + 1), ⟨by show k ≤ j + 1; omega, by show j + 1 ≤ _; omega, hq⟩, by show l.length - (j + 1) < l.length - j; omega, [], rfl, rfl, ⟨.inl rfl, PLe.int (by omega), PLe.bool (decide_eq_decide.2 (by omega)), trivial⟩, trivial⟩
   | false =>
    rw [skR_f, head_drop] at hq
    have p1 := p_in l hl j 45 45
    have p2 : Pure Tryd.prog 30 [pStr (tx l), pInt .i64 ((j : Int) + 1), pInt .i64 45, pInt .i64 45] (pBool (decide (j + 1 < l.length ∧ (45 : Int) ≤ (l.getD (j + 1) 0).toNat ∧ ((l.getD (j + 1) 0).toNat : Int) ≤ 45))) := p_in l hl (j + 1) 45 45
    have p3 := p_isblank l hl j
    rw [inB_lt q] at p3
    by_cases hr : (l.getD j 0).toNat = 45 ∧ (l.getD (j + 1) 0).toNat = 45
    ·have hb : ¬ blankB (l.getD j 0) = true := by unfold blankB; rw [hr.1]; decide
     rw [if_neg hb, if_pos hr] at hq
     have q1 := getD_lt hr.2 (by decide)
     ((conv => whnf); repeat' ((first | (with_reducible first | apply a_ | apply b_ | apply c_) | ((with_reducible first | apply d_ | apply e_ | apply f_ | apply g_); focus first | omega | (simp only [q_] <;> omega)) | ((with_reducible first | apply i_ | apply h_); focus first | omega | (simp only [q_] <;> omega)) | ((with_reducible apply h_); focus first | decide | kernel_rfl) | refine BCase.t (by decide) ?_ | refine BCase.f (by decide) ?_ | refine CallP.pure _ rfl _ (p1) ?_ | refine CallP.pure _ rfl _ (p2) ?_ | refine CallP.pure _ rfl _ (p3) ?_ | with_reducible first | apply l_ | apply m_ | apply n_ | apply o_ | refine p_ (fun _ => ?_) (fun _ => ?_)) <;> (conv => whnf)))
     all_goals first
      | exact ⟨(true, j + 1), ⟨by show k ≤ j + 1; omega, by show j + 1 ≤ _; omega, hq⟩, by show l.length - (j + 1) < l.length - j; omega, [], rfl, rfl, ⟨.inl rfl, PLe.int (by omega), .inl rfl, trivial⟩, trivial⟩
      | (exfalso; omega)
    ·rw [if_neg hr] at hq
     have hr2 : ¬ (j + 1 < l.length ∧ (l.getD j 0).toNat = 45 ∧ (l.getD (j + 1) 0).toNat = 45) := fun h => hr h.2
     cases hb : blankB (l.getD j 0) with
     | true =>
      rw [hb, if_pos rfl] at hq
      rw [hb] at p3
      ((conv => whnf); repeat' ((first | (with_reducible first | apply a_ | apply b_ | apply c_) | ((with_reducible first | apply d_ | apply e_ | apply f_ | apply g_); focus first | omega | (simp only [q_] <;> omega)) | ((with_reducible first | apply i_ | apply h_); focus first | omega | (simp only [q_] <;> omega)) | ((with_reducible apply h_); focus first | decide | kernel_rfl) | refine BCase.t (by decide) ?_ | refine BCase.f (by decide) ?_ | refine CallP.pure _ rfl _ (p1) ?_ | refine CallP.pure _ rfl _ (p2) ?_ | refine CallP.pure _ rfl _ (p3) ?_ | with_reducible first | apply l_ | apply m_ | apply n_ | apply o_ | refine p_ (fun _ => ?_) (fun _ => ?_)) <;> (conv => whnf)))
      all_goals first
       | exact ⟨(false, j + 1), ⟨by show k ≤ j + 1; omega, by show j + 1 ≤ _; omega, hq⟩, by show l.length - (j + 1) < l.length - j; omega, [], rfl, rfl, ⟨.inl rfl, PLe.int (by omega), .inl rfl, trivial⟩, trivial⟩
       | (exfalso; omega)
     | false =>
      rw [hb, if_neg (by decide), ← drop_cons q] at hq
      rw [hb] at p3
      have hk2 : skK l k = j := by
       unfold skK
       rw [hq, List.length_drop]; omega
      rw [hk2]
      ((conv => whnf); repeat' ((first | (with_reducible first | apply a_ | apply b_ | apply c_) | ((with_reducible first | apply d_ | apply e_ | apply f_ | apply g_); focus first | omega | (simp only [q_] <;> omega)) | ((with_reducible first | apply i_ | apply h_); focus first | omega | (simp only [q_] <;> omega)) | ((with_reducible apply h_); focus first | decide | kernel_rfl) | refine BCase.t (by decide) ?_ | refine BCase.f (by decide) ?_ | refine CallP.pure _ rfl _ (p1) ?_ | refine CallP.pure _ rfl _ (p2) ?_ | refine CallP.pure _ rfl _ (p3) ?_ | with_reducible first | apply l_ | apply m_ | apply n_ | apply o_ | refine p_ (fun _ => ?_) (fun _ => ?_)) <;> (conv => whnf)))
      all_goals first
       | exact Ret.int rfl
       | (exfalso; omega)
  ·have hk2 : skK l k = j := by
    unfold skK
    rw [hq, List.drop_of_length_le (show l.length ≤ j by omega), skR_nil]
    show l.length - 0 = j
    omega
   rw [hk2]
   ((conv => whnf); repeat' ((first | (with_reducible first | apply a_ | apply b_ | apply c_) | ((with_reducible first | apply d_ | apply e_ | apply f_ | apply g_); focus first | omega | (simp only [q_] <;> omega)) | ((with_reducible first | apply i_ | apply h_); focus first | omega | (simp only [q_] <;> omega)) | ((with_reducible apply h_); focus first | decide | kernel_rfl) | refine BCase.t (by decide) ?_ | refine BCase.f (by decide) ?_ | with_reducible first | apply l_ | apply m_ | apply n_ | apply o_ | refine p_ (fun _ => ?_) (fun _ => ?_)) <;> (conv => whnf)))
   exact Ret.int rfl
theorem qrun : ∀ (m : Nat) (r : List UInt8), m ≤ r.length → (∀ j, j < m → (r.getD j 0).toNat = 39) → ((r.drop m).headD 0).toNat ≠ 39 → qLen r = if m % 2 = 1 then some m else (qLen (r.drop m)).map (· + m)
 | 0, r, _, _, _ => by
  rw [if_neg (by decide), List.drop_zero]
  cases qLen r <;> rfl
 | 1, r, h1, h2, h3 => by
  rw [if_pos (by decide)]
  cases r with
  | nil => simp at h1
  | cons c r =>
   have hc : c.toNat = 39 := h2 0 (by decide)
   cases r with
   | nil => exact qLen_1 hc
   | cons d r =>
    have h3 : d.toNat ≠ 39 := h3
    rw [qLen_q hc, if_neg h3]
 | m + 2, r, h1, h2, h3 => by
  match r, h1, h2, h3 with
  | [], h1, _, _ => simp at h1
  | [_], h1, _, _ => simp at h1
  | c :: d :: r, h1, h2, h3 =>
   have hc : c.toNat = 39 := h2 0 (by omega)
   have hd : d.toNat = 39 := h2 1 (by omega)
   rw [List.length_cons, List.length_cons] at h1
   have ih := qrun m r (by omega) (fun j hj => h2 (j + 2) (by omega)) h3
   rw [qLen_q hc, if_pos hd, ih, show (c :: d :: r).drop (m + 2) = r.drop m from rfl, show (m + 2) % 2 = m % 2 by omega]
   split
   ·rfl
   ·cases qLen (r.drop m) with
    | none => rfl
    | some n => rfl
def qEndR (l : List UInt8) (k : Nat) : Int := match qLen (l.drop (k + 1)) with
 | none => -1
 | some n => ((k + 1 + n : Nat) : Int)
theorem p_quotesend (l : List UInt8) (hl : okText l) (k : Nat) (hk : k < l.length) : Pure Tryd.prog 45 [pStr (tx l), pInt .i64 (k : Int)] (pInt .i64 (qEndR l k)) := by
 have tz := tx_size l
 have hl' : l.length ≤ 140737488351232 := hl
 refine pure_of Tryd.func45 (by rfl) rfl (by kernel_rfl) (by rfl) ?_
 unfold qEndR
 ((conv => whnf); repeat' ((first | (with_reducible first | apply a_ | apply b_ | apply c_) | ((with_reducible first | apply d_ | apply e_ | apply f_ | apply g_); focus first | omega | (simp only [q_] <;> omega)) | ((with_reducible first | apply i_ | apply h_); focus first | omega | (simp only [q_] <;> omega)) | ((with_reducible apply h_); focus first | decide | kernel_rfl) | refine BCase.t (by decide) ?_ | refine BCase.f (by decide) ?_ | with_reducible first | apply l_ | apply m_ | apply n_ | apply o_ | refine p_ (fun _ => ?_) (fun _ => ?_)) <;> (conv => whnf)))
 refine LoopC.mk Nat (fun j => [(0, pStr (tx l)), (1, pInt .i64 (j : Int))]) (fun _ => []) [] (fun j => k + 1 ≤ j ∧ j ≤ l.length + 1 ∧ qLen (l.drop (k + 1)) = (qLen (l.drop j)).map (· + (j - (k + 1)))) (fun j => l.length + 1 - j) (k + 1) ⟨Nat.le_refl _, by omega, by cases qLen (l.drop (k + 1)) <;> simp⟩ ?start ?round
 case start => exact ⟨[], rfl, rfl, ⟨.inl rfl, PLe.int (by omega), trivial⟩, trivial⟩
 case round =>
  rintro j ⟨h1, h2, hq⟩
  have h1 : k + 1 ≤ j := h1
  have h2 : j ≤ l.length + 1 := h2
  have hq : qLen (l.drop (k + 1)) = (qLen (l.drop j)).map (· + (j - (k + 1))) := hq
  by_cases q : j < l.length
  ·((conv => whnf); repeat' ((first | (with_reducible first | apply a_ | apply b_ | apply c_) | ((with_reducible first | apply d_ | apply e_ | apply f_ | apply g_); focus first | omega | (simp only [q_] <;> omega)) | ((with_reducible first | apply i_ | apply h_); focus first | omega | (simp only [q_] <;> omega)) | ((with_reducible apply h_); focus first | decide | kernel_rfl) | refine BCase.t (by decide) ?_ | refine BCase.f (by decide) ?_ | with_reducible first | apply l_ | apply m_ | apply n_ | apply o_ | refine p_ (fun _ => ?_) (fun _ => ?_)) <;> (conv => whnf)))
   refine LoopC.mk Nat (fun n => [(0, pStr (tx l)), (1, pInt .i64 (j : Int)), (5, pInt .i64 (n : Int))]) (fun _ => []) [] (fun n => j ≤ n ∧ n ≤ l.length ∧ ∀ i, j ≤ i → i < n → (l.getD i 0).toNat = 39) (fun n => l.length - n) j ⟨Nat.le_refl _, by omega, fun i a b => absurd b (by omega)⟩ ?start2 ?round2
   case start2 => exact ⟨[], rfl, rfl, ⟨.inl rfl, .inl rfl, .inl rfl, trivial⟩, trivial⟩
   case round2 =>
    rintro n ⟨g1, g2, g3⟩
    have g1 : j ≤ n := g1
    have g2 : n ≤ l.length := g2
    have p1 := p_in l hl n 39 39
    by_cases c : n < l.length ∧ (l.getD n 0).toNat = 39
    ·obtain ⟨c1, c2⟩ := c
     ((conv => whnf); repeat' ((first | (with_reducible first | apply a_ | apply b_ | apply c_) | ((with_reducible first | apply d_ | apply e_ | apply f_ | apply g_); focus first | omega | (simp only [q_] <;> omega)) | ((with_reducible first | apply i_ | apply h_); focus first | omega | (simp only [q_] <;> omega)) | ((with_reducible apply h_); focus first | decide | kernel_rfl) | refine BCase.t (by decide) ?_ | refine BCase.f (by decide) ?_ | refine CallP.pure _ rfl _ (p1) ?_ | with_reducible first | apply l_ | apply m_ | apply n_ | apply o_ | refine p_ (fun _ => ?_) (fun _ => ?_)) <;> (conv => whnf)))
     refine ⟨n + 1, ⟨by omega, by omega, fun i a b => ?_⟩, by omega, [], rfl, rfl, ⟨.inl rfl, .inl rfl, PLe.int (by omega), trivial⟩, trivial⟩
     by_cases hin : i = n
     ·rw [hin]; exact c2
     ·exact g3 i a (by omega)
    ·have hrun := qrun (n - j) (l.drop j) (by rw [List.length_drop]; omega) (fun i hi => by
       have := g3 (j + i) (by omega) (by omega)
       rw [List.getD_eq_getElem?_getD] at this ⊢
       rw [List.getElem?_drop]; exact this) (by
       rw [List.drop_drop, show j + (n - j) = n by omega, head_drop]
       intro h
       exact c ⟨getD_lt h (by decide), h⟩)
     rw [List.drop_drop, show j + (n - j) = n by omega] at hrun
     have em : ((n : Int) - (j : Int)).tmod 2 = (((n - j) % 2 : Nat) : Int) := by rw [tmod_nn (by omega)]; omega
     by_cases ho : (n - j) % 2 = 1
     ·rw [if_pos ho] at hrun
      rw [hrun] at hq
      have hq : qLen (l.drop (k + 1)) = some (n - j + (j - (k + 1))) := hq
      rw [hq]
      ((conv => whnf); repeat' ((first | (with_reducible first | apply a_ | apply b_ | apply c_) | ((with_reducible first | apply d_ | apply e_ | apply f_ | apply g_); focus first | omega | (simp only [q_] <;> omega)) | ((with_reducible first | apply i_ | apply h_); focus first | omega | (simp only [q_] <;> omega)) | ((with_reducible apply h_); focus first | decide | kernel_rfl) | refine BCase.t (by decide) ?_ | refine BCase.f (by decide) ?_ | refine CallP.pure _ rfl _ (p1) ?_ | with_reducible first | apply l_ | apply m_ | apply n_ | apply o_ | refine p_ (fun _ => ?_) (fun _ => ?_)) <;> (conv => whnf)))
      exact Ret.int (by show (n : Int) = ((k + 1 + (n - j + (j - (k + 1))) : Nat) : Int); omega)
     ·rw [if_neg ho] at hrun
      ((conv => whnf); repeat' ((first | (with_reducible first | apply a_ | apply b_ | apply c_) | ((with_reducible first | apply d_ | apply e_ | apply f_ | apply g_); focus first | omega | (simp only [q_] <;> omega)) | ((with_reducible first | apply i_ | apply h_); focus first | omega | (simp only [q_] <;> omega)) | ((with_reducible apply h_); focus first | decide | kernel_rfl) | refine BCase.t (by decide) ?_ | refine BCase.f (by decide) ?_ | refine CallP.pure _ rfl _ (p1) ?_ | with_reducible first | apply l_ | apply m_ | apply n_ | apply o_ | refine p_ (fun _ => ?_) (fun _ => ?_)) <;> (conv => whnf)))
      refine ⟨n + 1, ⟨by omega, by omega, ?_⟩, by omega, [], rfl, rfl, ⟨.inl rfl, PLe.int (by omega), trivial⟩, trivial⟩
      rw [hq, hrun]
      by_cases hn : n < l.length
      ·rw [drop_cons hn, qLen_o (fun h => c ⟨hn, h⟩)]
       cases qLen (l.drop (n + 1)) with
       | none => rfl
       | some m => show some (m + 1 + (n - j) + (j - (k + 1))) = some (m + (n + 1 - (k + 1))); congr 1; omega
      ·rw [List.drop_of_length_le (show l.length ≤ n by omega), List.drop_of_length_le (show l.length ≤ n + 1 by omega)]; rfl
  ·rw [List.drop_of_length_le (show l.length ≤ j by omega)] at hq
   have hq : qLen (l.drop (k + 1)) = none := hq
   rw [hq]
   ((conv => whnf); repeat' ((first | (with_reducible first | apply a_ | apply b_ | apply c_) | ((with_reducible first | apply d_ | apply e_ | apply f_ | apply g_); focus first | omega | (simp only [q_] <;> omega)) | ((with_reducible first | apply i_ | apply h_); focus first | omega | (simp only [q_] <;> omega)) | ((with_reducible apply h_); focus first | decide | kernel_rfl) | refine BCase.t (by decide) ?_ | refine BCase.f (by decide) ?_ | with_reducible first | apply l_ | apply m_ | apply n_ | apply o_ | refine p_ (fun _ => ?_) (fun _ => ?_)) <;> (conv => whnf)))
   exact Ret.int rfl
end Go.Proofs.YtjbopncobegleaaDoor.Pm
end
section
namespace Go.Proofs.YtjbopncobegleaaDoor.Pm
open Go.RowKit K
set_option linter.unusedVariables false
set_option linter.unusedSimpArgs false
set_option maxRecDepth 100000
theorem hexw_sm (c : UInt8) : hexw false (smB c) = hexw true c := by
 have h : ∀ n : Nat, n < 256 → hexw false (smB (UInt8.ofNat n)) = hexw true (UInt8.ofNat n) := by decide +kernel
 have := h c.toNat c.toNat_lt
 rwa [u8_back] at this
theorem unhex_sm : ∀ (N : Nat) (m : List UInt8), m.length ≤ N → unhex false (m.map smB) = unhex true m
 | _, [], _ => rfl
 | _, [_], _ => rfl
 | 0, _ :: _ :: _, hN => by simp at hN
 | N + 1, a :: b :: r, hN => by
  rw [List.length_cons, List.length_cons] at hN
  show unhex false (smB a :: smB b :: r.map smB) = _
  rw [unhex, unhex, hexw_sm, hexw_sm, unhex_sm N r (by omega)]
theorem smB_39 (c : UInt8) : smB c = 39 ↔ c = 39 := by
 have h : ∀ n : Nat, n < 256 → (smB (UInt8.ofNat n) = 39 ↔ UInt8.ofNat n = 39) := by decide +kernel
 have := h c.toNat c.toNat_lt
 rwa [u8_back] at this
theorem inner_map (s : List UInt8) (f : UInt8 → UInt8) : innerL (s.map f) = (innerL s).map f := by
 unfold innerL
 rw [List.length_map, ← List.map_drop, ← List.map_take]
theorem hexL_sm (s : List UInt8) : hexL false (s.map smB) = hexL true s := by
 have e1 : (s.map smB).headD 0 = 39 ↔ s.headD 0 = 39 := by
  cases s with
  | nil => exact Iff.rfl
  | cons a r => exact smB_39 a
 have e2 : (s.map smB).getLastD 0 = 39 ↔ s.getLastD 0 = 39 := by
  by_cases h : s = []
  ·subst h; exact Iff.rfl
  ·have hm : s.map smB ≠ [] := fun e => h (List.map_eq_nil_iff.1 e)
   have h1 : (s.map smB).getLastD 0 = smB (s.getLastD 0) := by
    rw [List.getLastD_eq_getLast?, List.getLastD_eq_getLast?, List.getLast?_map]
    cases hs : s.getLast? with
    | none => rw [List.getLast?_eq_none_iff] at hs; exact absurd hs h
    | some x => rfl
   rw [h1]; exact smB_39 _
 unfold hexL
 rw [List.length_map, inner_map, unhex_sm _ _ (Nat.le_refl _)]
 by_cases c : s.length < 2 ∨ s.length % 2 ≠ 0 ∨ s.headD 0 ≠ 39 ∨ s.getLastD 0 ≠ 39
 ·rw [if_pos c, if_pos]
  rcases c with c | c | c | c
  ·exact .inl c
  ·exact .inr (.inl c)
  ·exact .inr (.inr (.inl fun x => c (e1.1 x)))
  ·exact .inr (.inr (.inr fun x => c (e2.1 x)))
 ·rw [if_neg c, if_neg]
  rintro (x | x | x | x)
  ·exact c (.inl x)
  ·exact c (.inr (.inl x))
  ·exact c (.inr (.inr (.inl fun y => x (e1.2 y))))
  ·exact c (.inr (.inr (.inr fun y => x (e2.2 y))))
theorem p_hextext (s : List UInt8) (hs : s.length ≤ 100000) : Pure Tryd.prog 47 [pStr (tx s)] (optP (hexL true s)) := by
 have tz := tx_size (s.map smB)
 rw [List.length_map] at tz
 have p1 := p_smallof s (by unfold okText; omega)
 have p2 := p_hexedref (120 :: s.map smB) (by unfold okText; rw [List.length_cons, List.length_map]; omega)
 rw [hexR_x (by rfl), show (120 :: s.map smB).drop 1 = s.map smB from rfl, hexL_sm] at p2
 have hx : (⟨#[120]⟩ : ByteArray) ++ tx (s.map smB) = tx (120 :: s.map smB) := tx_append [120] _
 have p2 : Pure Tryd.prog 63 [pStr ((⟨#[120]⟩ : ByteArray) ++ tx (s.map smB))] (optP (hexL true s)) := by rw [hx]; exact p2
 unfold optP at p2 ⊢
 refine pure_of Tryd.func47 (by rfl) rfl (by kernel_rfl) (by rfl) ?_
 cases h : hexL true s with
 | none =>
  rw [h] at p2
  ((conv => whnf); repeat' ((first | (with_reducible first | apply a_ | apply b_ | apply c_) | ((with_reducible first | apply d_ | apply e_ | apply f_ | apply g_); focus first | omega | (simp only [q_] <;> omega)) | ((with_reducible first | apply i_ | apply h_); focus first | omega | (simp only [q_] <;> omega)) | ((with_reducible apply h_); focus first | decide | kernel_rfl) | refine BCase.t (by decide) ?_ | refine BCase.f (by decide) ?_ | refine CallP.pure _ rfl _ (p1) ?_ | refine CallP.pure _ rfl _ (p2) ?_ | (refine Need.mk (by show 1 + (tx (s.map smB)).size ≤ _; omega) ?_) | with_reducible first | apply l_ | apply m_ | apply n_ | apply o_ | refine p_ (fun _ => ?_) (fun _ => ?_)) <;> (conv => whnf)))
  exact Ret.eq rfl
 | some t =>
  rw [h] at p2
  ((conv => whnf); repeat' ((first | (with_reducible first | apply a_ | apply b_ | apply c_) | ((with_reducible first | apply d_ | apply e_ | apply f_ | apply g_); focus first | omega | (simp only [q_] <;> omega)) | ((with_reducible first | apply i_ | apply h_); focus first | omega | (simp only [q_] <;> omega)) | ((with_reducible apply h_); focus first | decide | kernel_rfl) | refine BCase.t (by decide) ?_ | refine BCase.f (by decide) ?_ | refine CallP.pure _ rfl _ (p1) ?_ | refine CallP.pure _ rfl _ (p2) ?_ | (refine Need.mk (by show 1 + (tx (s.map smB)).size ≤ _; omega) ?_) | with_reducible first | apply l_ | apply m_ | apply n_ | apply o_ | refine p_ (fun _ => ?_) (fun _ => ?_)) <;> (conv => whnf)))
  exact Ret.eq rfl
def pairRows : List (List C) := [[.v (.string ⟨#[60, 62]⟩)], [.v (.string ⟨#[60, 61]⟩)], [.v (.string ⟨#[62, 61]⟩)]]
theorem pairRows_get {m : Nat} (h : m < 3) : pairRows[m]? = some [.v (.string (tx (pairL m)))] := by
 have : m = 0 ∨ m = 1 ∨ m = 2 := by omega
 rcases this with rfl | rfl | rfl <;> rfl
theorem singB_iff (c : UInt8) : singB c = true ↔ ∃ i, i < 12 ∧ singL.getD i 0 = c := by
 unfold singB
 rw [List.any_eq_true]
 constructor
 ·rintro ⟨b, hb, h⟩
  obtain ⟨i, hi, rfl⟩ := List.mem_iff_getElem.1 hb
  refine ⟨i, hi, ?_⟩
  rw [List.getD_eq_getElem?_getD, List.getElem?_eq_getElem hi]
  exact (of_decide_eq_true h).symm
 ·rintro ⟨i, hi, rfl⟩
  have hi : i < singL.length := hi
  refine ⟨_, List.getElem_mem hi, ?_⟩
  rw [List.getD_eq_getElem?_getD, List.getElem?_eq_getElem hi]
  exact decide_eq_true rfl
theorem p_issign (r : List UInt8) (hr : okText r) : Pure Tryd.prog 52 [pStr (tx r)] (pInt .i64 (sigL r : Int)) := by
 have tz := tx_size r
 have hr' : r.length ≤ 140737488351232 := hr
 have hsig : sigL r = if 2 ≤ r.length ∧ pairB (r.getD 0 0) (r.getD 1 0) = true then 2 else if 1 ≤ r.length ∧ singB (r.getD 0 0) = true then 1 else 0 := by
  match r with
  | [] => rfl
  | [a] => by_cases h : singB a = true <;> simp [sigL_1, h]
  | a :: b :: r => by_cases h1 : pairB a b = true <;> by_cases h2 : singB a = true <;> simp [sigL_2, h1, h2]
 refine pure_of Tryd.func52 (by rfl) rfl (by kernel_rfl) (by rfl) ?_
 rw [hsig]
 ((conv => whnf); repeat' ((first | (with_reducible first | apply a_ | apply b_ | apply c_) | ((with_reducible first | apply d_ | apply e_ | apply f_ | apply g_); focus first | omega | (simp only [q_] <;> omega)) | ((with_reducible first | apply i_ | apply h_); focus first | omega | (simp only [q_] <;> omega)) | ((with_reducible apply h_); focus first | decide | kernel_rfl) | refine BCase.t (by decide) ?_ | refine BCase.f (by decide) ?_ | with_reducible first | apply l_ | apply m_ | apply n_ | apply o_ | refine p_ (fun _ => ?_) (fun _ => ?_)) <;> (conv => whnf)))
 refine LoopC.mk Nat (fun m => [(0, pStr (tx r)), (3, .d (.app 60 9 1 pairRows)), (4, pInt .i64 (m : Int))]) (fun _ => [(60, .tail 9 1)]) [60] (fun m => m ≤ 3 ∧ ∀ j, j < m → ¬ (2 ≤ r.length ∧ [r.getD 0 0, r.getD 1 0] = pairL j)) (fun m => 3 - m) 0 ⟨Nat.zero_le _, fun j h => absurd h (Nat.not_lt_zero _)⟩ ?start ?round
 case start => exact ⟨[(60, 7)], rfl, rfl, ⟨.inl rfl, ⟨rfl, rfl, rfl, rfl, rfl⟩, .inl rfl, trivial⟩, ⟨rfl, rfl, rfl⟩, trivial⟩
 case round =>
  rintro m ⟨hm, hp⟩
  have hm : m ≤ 3 := hm
  by_cases m3 : m < 3
  ·have hg := pairRows_get m3
   by_cases l2 : 2 ≤ r.length
   ·have e1 : (tx r).extract (0 : Int).toNat (2 : Int).toNat = tx [r.getD 0 0, r.getD 1 0] := two_tx (l := r) (k := 0) (by omega)
    by_cases hx : [r.getD 0 0, r.getD 1 0] = pairL m
    ·rw [if_pos ⟨l2, (pairB_iff _ _).2 ⟨m, m3, hx⟩⟩]
     have ex : (tx r).extract (0 : Int).toNat (2 : Int).toNat = tx (pairL m) := by rw [e1, hx]
     ((conv => whnf); repeat' ((first | (with_reducible first | apply a_ | apply b_ | apply c_) | ((with_reducible first | apply d_ | apply e_ | apply f_ | apply g_); focus first | omega | (simp only [q_] <;> omega)) | ((with_reducible first | apply i_ | apply h_); focus first | omega | (simp only [q_] <;> omega)) | ((with_reducible apply h_); focus first | decide | kernel_rfl) | refine BCase.t (by decide) ?_ | refine BCase.f (by decide) ?_ | (refine Idx.mk _ (Int.natCast_nonneg _) hg ?_) | (refine BCase.dt ex ?_) | with_reducible first | apply l_ | apply m_ | apply n_ | apply o_ | refine p_ (fun _ => ?_) (fun _ => ?_)) <;> (conv => whnf)))
     exact Ret.int rfl
    ·have ex : ¬ (tx r).extract (0 : Int).toNat (2 : Int).toNat = tx (pairL m) := by rw [e1]; exact fun h => hx (tx_inj h)
     ((conv => whnf); repeat' ((first | (with_reducible first | apply a_ | apply b_ | apply c_) | ((with_reducible first | apply d_ | apply e_ | apply f_ | apply g_); focus first | omega | (simp only [q_] <;> omega)) | ((with_reducible first | apply i_ | apply h_); focus first | omega | (simp only [q_] <;> omega)) | ((with_reducible apply h_); focus first | decide | kernel_rfl) | refine BCase.t (by decide) ?_ | refine BCase.f (by decide) ?_ | (refine Idx.mk _ (Int.natCast_nonneg _) hg ?_) | (refine BCase.df ex ?_) | with_reducible first | apply l_ | apply m_ | apply n_ | apply o_ | refine p_ (fun _ => ?_) (fun _ => ?_)) <;> (conv => whnf)))
     refine ⟨m + 1, ⟨by omega, fun j hj => ?_⟩, by omega, [(60, 60)], rfl, rfl, ⟨.inl rfl, ⟨rfl, rfl, rfl, rfl, rfl⟩, PLe.int (by omega), trivial⟩, ⟨rfl, rfl, rfl⟩, trivial⟩
     by_cases h : j = m
     ·rw [h]; exact fun x => hx x.2
     ·exact hp j (by omega)
   ·((conv => whnf); repeat' ((first | (with_reducible first | apply a_ | apply b_ | apply c_) | ((with_reducible first | apply d_ | apply e_ | apply f_ | apply g_); focus first | omega | (simp only [q_] <;> omega)) | ((with_reducible first | apply i_ | apply h_); focus first | omega | (simp only [q_] <;> omega)) | ((with_reducible apply h_); focus first | decide | kernel_rfl) | refine BCase.t (by decide) ?_ | refine BCase.f (by decide) ?_ | with_reducible first | apply l_ | apply m_ | apply n_ | apply o_ | refine p_ (fun _ => ?_) (fun _ => ?_)) <;> (conv => whnf)))
    refine ⟨m + 1, ⟨by omega, fun j hj x => l2 x.1⟩, by omega, [(60, 60)], rfl, rfl, ⟨.inl rfl, ⟨rfl, rfl, rfl, rfl, rfl⟩, PLe.int (by omega), trivial⟩, ⟨rfl, rfl, rfl⟩, trivial⟩
  ·have hn : ¬ (2 ≤ r.length ∧ pairB (r.getD 0 0) (r.getD 1 0) = true) := by
    rintro ⟨x1, x2⟩
    obtain ⟨j, h1, h2⟩ := (pairB_iff _ _).1 x2
    exact hp j (by omega) ⟨x1, h2⟩
   rw [if_neg hn]
   ((conv => whnf); repeat' ((first | (with_reducible first | apply a_ | apply b_ | apply c_) | ((with_reducible first | apply d_ | apply e_ | apply f_ | apply g_); focus first | omega | (simp only [q_] <;> omega)) | ((with_reducible first | apply i_ | apply h_); focus first | omega | (simp only [q_] <;> omega)) | ((with_reducible apply h_); focus first | decide | kernel_rfl) | refine BCase.t (by decide) ?_ | refine BCase.f (by decide) ?_ | with_reducible first | apply l_ | apply m_ | apply n_ | apply o_ | refine p_ (fun _ => ?_) (fun _ => ?_)) <;> (conv => whnf)))
   refine LoopC.mk Nat (fun i => [(0, pStr (tx r)), (5, pStr (tx singL)), (6, pInt .i64 (i : Int))]) (fun _ => []) [] (fun i => i ≤ 12 ∧ ∀ j, j < i → ¬ (1 ≤ r.length ∧ singL.getD j 0 = r.getD 0 0)) (fun i => 12 - i) 0 ⟨Nat.zero_le _, fun j h => absurd h (Nat.not_lt_zero _)⟩ ?start2 ?round2
   case start2 => exact ⟨[], rfl, rfl, ⟨.inl rfl, .inl rfl, .inl rfl, trivial⟩, trivial⟩
   case round2 =>
    rintro i ⟨hi, hs⟩
    have hi : i ≤ 12 := hi
    have hsz : (tx singL).size = 12 := rfl
    by_cases i12 : i < 12
    ·have p1 := p_in r hr 0 (singL.getD i 0).toNat (singL.getD i 0).toNat
     have hu := (singL.getD i 0).toNat_lt
     by_cases c : 1 ≤ r.length ∧ singL.getD i 0 = r.getD 0 0
     ·rw [if_pos ⟨c.1, (singB_iff _).2 ⟨i, i12, c.2⟩⟩]
      have hc1 := c.1
      have hc : 0 < r.length ∧ ((singL.getD i 0).toNat : Int) ≤ (r.getD 0 0).toNat ∧ ((r.getD 0 0).toNat : Int) ≤ ((singL.getD i 0).toNat : Int) := ⟨hc1, by rw [c.2]; exact Int.le_refl _, by rw [c.2]; exact Int.le_refl _⟩
      ((conv => whnf); repeat' ((first | (with_reducible first | apply a_ | apply b_ | apply c_) | ((with_reducible first | apply d_ | apply e_ | apply f_ | apply g_); focus first | omega | (simp only [q_] <;> omega)) | ((with_reducible first | apply i_ | apply h_); focus first | omega | (simp only [q_] <;> omega)) | ((with_reducible apply h_); focus first | decide | kernel_rfl) | refine BCase.t (by decide) ?_ | refine BCase.f (by decide) ?_ | (refine SIdx.tx i rfl i12 ?_) | refine CallP.pure _ rfl _ (p1) ?_ | (refine BCase.dt hc ?_) | with_reducible first | apply l_ | apply m_ | apply n_ | apply o_ | refine p_ (fun _ => ?_) (fun _ => ?_)) <;> (conv => whnf)))
      exact Ret.int rfl
     ·have hc : ¬ (0 < r.length ∧ ((singL.getD i 0).toNat : Int) ≤ (r.getD 0 0).toNat ∧ ((r.getD 0 0).toNat : Int) ≤ ((singL.getD i 0).toNat : Int)) := by
       rintro ⟨x1, x2, x3⟩
       exact c ⟨x1, by rw [← u8_back (singL.getD i 0), ← u8_back (r.getD 0 0), show (singL.getD i 0).toNat = (r.getD 0 0).toNat by omega]⟩
      ((conv => whnf); repeat' ((first | (with_reducible first | apply a_ | apply b_ | apply c_) | ((with_reducible first | apply d_ | apply e_ | apply f_ | apply g_); focus first | omega | (simp only [q_] <;> omega)) | ((with_reducible first | apply i_ | apply h_); focus first | omega | (simp only [q_] <;> omega)) | ((with_reducible apply h_); focus first | decide | kernel_rfl) | refine BCase.t (by decide) ?_ | refine BCase.f (by decide) ?_ | (refine SIdx.tx i rfl i12 ?_) | refine CallP.pure _ rfl _ (p1) ?_ | (refine BCase.df hc ?_) | with_reducible first | apply l_ | apply m_ | apply n_ | apply o_ | refine p_ (fun _ => ?_) (fun _ => ?_)) <;> (conv => whnf)))
      refine ⟨i + 1, ⟨by omega, fun j hj => ?_⟩, by omega, [], rfl, rfl, ⟨.inl rfl, .inl rfl, PLe.int (by omega), trivial⟩, trivial⟩
      by_cases h : j = i
      ·rw [h]; exact c
      ·exact hs j (by omega)
    ·rw [if_neg]
     ·((conv => whnf); repeat' ((first | (with_reducible first | apply a_ | apply b_ | apply c_) | ((with_reducible first | apply d_ | apply e_ | apply f_ | apply g_); focus first | omega | (simp only [q_] <;> omega)) | ((with_reducible first | apply i_ | apply h_); focus first | omega | (simp only [q_] <;> omega)) | ((with_reducible apply h_); focus first | decide | kernel_rfl) | refine BCase.t (by decide) ?_ | refine BCase.f (by decide) ?_ | with_reducible first | apply l_ | apply m_ | apply n_ | apply o_ | refine p_ (fun _ => ?_) (fun _ => ?_)) <;> (conv => whnf)))
      exact Ret.int rfl
     ·rintro ⟨x1, x2⟩
      obtain ⟨j, h1, h2⟩ := (singB_iff _).1 x2
      exact hs j (by omega) ⟨x1, h2⟩
end Go.Proofs.YtjbopncobegleaaDoor.Pm
end
section
namespace Go.Proofs.YtjbopncobegleaaDoor.Pm
open Go.RowKit K
set_option linter.unusedVariables false
set_option linter.unusedSimpArgs false
set_option maxRecDepth 100000
def tokR (k : Nat) (x : Tk × Int × Nat) : PV := .tup [tV (if x.2.1 = 0 then tokD k x.1 else ⟨0, 0, 0, []⟩), pInt .i64 ((if x.2.1 = 0 then k + x.2.2 else 0 : Nat) : Int), pInt .i64 x.2.1]
theorem p_in1 (l : List UInt8) (hl : okText l) (k : Nat) (lo hi : Int) : Pure Tryd.prog 30 [pStr (tx l), pInt .i64 ((k : Int) + 1), pInt .i64 lo, pInt .i64 hi] (pBool (decide (k + 1 < l.length ∧ lo ≤ (l.getD (k + 1) 0).toNat ∧ ((l.getD (k + 1) 0).toNat : Int) ≤ hi))) := p_in l hl (k + 1) lo hi
theorem nTok_eq (r : List UInt8) (h : ¬ headB letB (r.dropWhile digB) = true) : nTok r = ((2, (digV (r.takeWhile digB) most1 : Int), []), digE (r.takeWhile digB) most1, (r.takeWhile digB).length) := if_neg h
theorem intO_dig (s : List UInt8) : (intO s false).2 = digE s most1 ∧ ((intO s false).2 = 0 → (intO s false).1 = (digV s most1 : Int)) := by
 rw [digE_all]
 by_cases ha : allB s = true
 ·rw [intO_ok false ha (fun x => by cases x), if_neg (show ¬ allB s = false by rw [ha]; decide)]
  by_cases hb : most1 < dval s
  ·rw [if_pos (show (if (false : Bool) = true then most2 else most1) < dval s from hb), if_pos hb]
   exact ⟨rfl, fun h => by cases h⟩
  ·rw [if_neg (show ¬ (if (false : Bool) = true then most2 else most1) < dval s from hb), if_neg hb]
   refine ⟨rfl, fun _ => ?_⟩
   show (dval s : Int) = _
   have : digE s most1 = 0 := by rw [digE_all, if_neg (show ¬ allB s = false by rw [ha]; decide), if_neg hb]
   unfold digV
   rw [if_pos this]
 ·have hf : allB s = false := Bool.eq_false_iff.2 ha
  rw [intO_bad false hf, if_pos hf]
  exact ⟨rfl, fun h => by cases h⟩
set_option maxHeartbeats 1000000 in
theorem p_tokenat (l : List UInt8) (hl : l.length ≤ 1000) (k : Nat) (hk : k < l.length) : Pure Tryd.prog 20 [pStr (tx l), pInt .i64 (k : Int)] (tokR k (tkL (l.drop k))) := by
 have tz := tx_size l
 have ho : okText l := by unfold okText; omega
 have a1 := p_in l ho k 39 39
 have a2 := p_in l ho k 88 88
 have a3 := p_in l ho k 120 120
 have a4 := p_in1 l ho k 39 39
 have hd1 : ((l.drop k).drop 1).headD 0 = l.getD (k + 1) 0 := by rw [List.drop_drop, head_drop]
 refine pure_of Tryd.func20 (by rfl) rfl (by kernel_rfl) (by rfl) ?_
 unfold tkL
 rw [hd1, head_drop, List.drop_drop]
 by_cases c1 : isX (l.getD k 0) = true ∧ (l.getD (k + 1) 0).toNat = 39
 ·rw [if_pos c1]
  have q1 := getD_lt c1.2 (by decide)
  have h39 := c1.2
  have hx : (l.getD k 0).toNat = 88 ∨ (l.getD k 0).toNat = 120 := of_decide_eq_true c1.1
  have pe : Pure Tryd.prog 45 [pStr (tx l), pInt .i64 ((k : Int) + 1)] (pInt .i64 (qEndR l (k + 1))) := p_quotesend l ho (k + 1) q1
  unfold qEndR at pe
  unfold qTok
  rw [List.drop_drop]
  cases hq : qLen (l.drop (k + 1 + 1)) with
  | none =>
   rw [hq] at pe
   ((conv => whnf); repeat' ((first | (with_reducible first | apply a_ | apply b_ | apply c_) | ((with_reducible first | apply d_ | apply e_ | apply f_ | apply g_); focus first | omega | (simp only [q_] <;> omega)) | ((with_reducible first | apply i_ | apply h_); focus first | omega | (simp only [q_] <;> omega)) | ((with_reducible apply h_); focus first | decide | kernel_rfl) | refine BCase.t (by decide) ?_ | refine BCase.f (by decide) ?_ | refine CallP.pure _ rfl _ (a1) ?_ | refine CallP.pure _ rfl _ (a2) ?_ | refine CallP.pure _ rfl _ (a3) ?_ | refine CallP.pure _ rfl _ (a4) ?_ | (refine SIdx.tx k rfl hk ?_) | refine CallP.pure _ rfl _ (pe) ?_ | with_reducible first | apply l_ | apply m_ | apply n_ | apply o_ | refine p_ (fun _ => ?_) (fun _ => ?_)) <;> (conv => whnf)))
   all_goals first | exact Ret.eq rfl | (exfalso; omega)
  | some n =>
   rw [hq] at pe
   have hn := qLen_le _ _ _ (Nat.le_refl _) hq
   rw [List.length_drop] at hn
   have ex : (tx l).extract ((k : Int) + 1).toNat ((k + 1 + 1 + n : Nat) : Int).toNat = tx ((l.drop (k + 1)).take (n + 1)) := by
    rw [extract_tx]
    congr 2 <;> (try congr 1) <;> omega
   have pf := p_hextext ((l.drop (k + 1)).take (n + 1)) (by rw [List.length_take, List.length_drop]; omega)
   unfold optP at pf
   have pf : Pure Tryd.prog 47 [pStr ((tx l).extract ((k : Int) + 1).toNat ((k + 1 + 1 + n : Nat) : Int).toNat)] (match hexL true ((l.drop (k + 1)).take (n + 1)) with
    | none => .tup [pStr (tx []), pBool false]
    | some t => .tup [pStr (tx t), pBool true]) := by rw [ex]; exact pf
   simp only
   cases hr : hexL true ((l.drop (k + 1)).take (n + 1)) with
   | none =>
    rw [hr] at pf
    ((conv => whnf); repeat' ((first | (with_reducible first | apply a_ | apply b_ | apply c_) | ((with_reducible first | apply d_ | apply e_ | apply f_ | apply g_); focus first | omega | (simp only [q_] <;> omega)) | ((with_reducible first | apply i_ | apply h_); focus first | omega | (simp only [q_] <;> omega)) | ((with_reducible apply h_); focus first | decide | kernel_rfl) | refine BCase.t (by decide) ?_ | refine BCase.f (by decide) ?_ | refine CallP.pure _ rfl _ (a1) ?_ | refine CallP.pure _ rfl _ (a2) ?_ | refine CallP.pure _ rfl _ (a3) ?_ | refine CallP.pure _ rfl _ (a4) ?_ | (refine SIdx.tx k rfl hk ?_) | refine CallP.pure _ rfl _ (pe) ?_ | refine CallP.pure _ rfl _ (pf) ?_ | with_reducible first | apply l_ | apply m_ | apply n_ | apply o_ | refine p_ (fun _ => ?_) (fun _ => ?_)) <;> (conv => whnf)))
    all_goals first | exact Ret.eq rfl | (exfalso; omega)
   | some t =>
    rw [hr] at pf
    have tt := tx_size t
    simp only
    by_cases h16 : 16 < t.length
    ·rw [if_pos h16]
     ((conv => whnf); repeat' ((first | (with_reducible first | apply a_ | apply b_ | apply c_) | ((with_reducible first | apply d_ | apply e_ | apply f_ | apply g_); focus first | omega | (simp only [q_] <;> omega)) | ((with_reducible first | apply i_ | apply h_); focus first | omega | (simp only [q_] <;> omega)) | ((with_reducible apply h_); focus first | decide | kernel_rfl) | refine BCase.t (by decide) ?_ | refine BCase.f (by decide) ?_ | refine CallP.pure _ rfl _ (a1) ?_ | refine CallP.pure _ rfl _ (a2) ?_ | refine CallP.pure _ rfl _ (a3) ?_ | refine CallP.pure _ rfl _ (a4) ?_ | (refine SIdx.tx k rfl hk ?_) | refine CallP.pure _ rfl _ (pe) ?_ | refine CallP.pure _ rfl _ (pf) ?_ | with_reducible first | apply l_ | apply m_ | apply n_ | apply o_ | refine p_ (fun _ => ?_) (fun _ => ?_)) <;> (conv => whnf)))
     all_goals first | exact Ret.eq rfl | (exfalso; omega)
    ·rw [if_neg h16]
     ((conv => whnf); repeat' ((first | (with_reducible first | apply a_ | apply b_ | apply c_) | ((with_reducible first | apply d_ | apply e_ | apply f_ | apply g_); focus first | omega | (simp only [q_] <;> omega)) | ((with_reducible first | apply i_ | apply h_); focus first | omega | (simp only [q_] <;> omega)) | ((with_reducible apply h_); focus first | decide | kernel_rfl) | refine BCase.t (by decide) ?_ | refine BCase.f (by decide) ?_ | refine CallP.pure _ rfl _ (a1) ?_ | refine CallP.pure _ rfl _ (a2) ?_ | refine CallP.pure _ rfl _ (a3) ?_ | refine CallP.pure _ rfl _ (a4) ?_ | (refine SIdx.tx k rfl hk ?_) | refine CallP.pure _ rfl _ (pe) ?_ | refine CallP.pure _ rfl _ (pf) ?_ | with_reducible first | apply l_ | apply m_ | apply n_ | apply o_ | refine p_ (fun _ => ?_) (fun _ => ?_)) <;> (conv => whnf)))
     all_goals first
      | (exfalso; omega)
      | (refine Ret.eq ?_; show PV.tup [_, pInt .i64 ((k + 1 + 1 + n : Nat) : Int), _] = PV.tup [_, pInt .i64 ((k + (n + 1 + 1) : Nat) : Int), _]; rw [show ((k + 1 + 1 + n : Nat) : Int) = ((k + (n + 1 + 1) : Nat) : Int) by omega]; rfl)
 ·rw [if_neg c1]
  have hxi : isX (l.getD k 0) = true ↔ (l.getD k 0).toNat = 88 ∨ (l.getD k 0).toNat = 120 := by unfold isX; exact decide_eq_true_iff
  have hno : ¬ (((l.getD k 0).toNat = 88 ∨ (l.getD k 0).toNat = 120) ∧ k + 1 < l.length ∧ (l.getD (k + 1) 0).toNat = 39) := fun h => c1 ⟨hxi.2 h.1, h.2.2⟩
  by_cases c2 : (l.getD k 0).toNat = 39
  ·rw [if_pos c2]
   have pe := p_quotesend l ho k hk
   unfold qEndR at pe
   unfold qTok
   rw [List.drop_drop]
   cases hq : qLen (l.drop (k + 1)) with
   | none =>
    rw [hq] at pe
    ((conv => whnf); repeat' ((first | (with_reducible first | apply a_ | apply b_ | apply c_) | ((with_reducible first | apply d_ | apply e_ | apply f_ | apply g_); focus first | omega | (simp only [q_] <;> omega)) | ((with_reducible first | apply i_ | apply h_); focus first | omega | (simp only [q_] <;> omega)) | ((with_reducible apply h_); focus first | decide | kernel_rfl) | refine BCase.t (by decide) ?_ | refine BCase.f (by decide) ?_ | refine CallP.pure _ rfl _ (a1) ?_ | refine CallP.pure _ rfl _ (a2) ?_ | refine CallP.pure _ rfl _ (a3) ?_ | refine CallP.pure _ rfl _ (a4) ?_ | (refine SIdx.tx k rfl hk ?_) | refine CallP.pure _ rfl _ (pe) ?_ | with_reducible first | apply l_ | apply m_ | apply n_ | apply o_ | refine p_ (fun _ => ?_) (fun _ => ?_)) <;> (conv => whnf)))
    all_goals first | exact Ret.eq rfl | (exfalso; omega)
   | some n =>
    rw [hq] at pe
    have hn := qLen_le _ _ _ (Nat.le_refl _) hq
    rw [List.length_drop] at hn
    have ex : (tx l).extract ((k : Nat) : Int).toNat ((k + 1 + n : Nat) : Int).toNat = tx ((l.drop k).take (n + 1)) := by
     rw [extract_tx]
     congr 2 <;> omega
    have pf := p_quotedref ((l.drop k).take (n + 1)) (by unfold okText; rw [List.length_take, List.length_drop]; omega)
    unfold optP at pf
    have pf : Pure Tryd.prog 46 [pStr ((tx l).extract ((k : Nat) : Int).toNat ((k + 1 + n : Nat) : Int).toNat)] (match quotL ((l.drop k).take (n + 1)) with
     | none => .tup [pStr (tx []), pBool false]
     | some t => .tup [pStr (tx t), pBool true]) := by rw [ex]; exact pf
    simp only
    cases hr : quotL ((l.drop k).take (n + 1)) with
    | none =>
     rw [hr] at pf
     ((conv => whnf); repeat' ((first | (with_reducible first | apply a_ | apply b_ | apply c_) | ((with_reducible first | apply d_ | apply e_ | apply f_ | apply g_); focus first | omega | (simp only [q_] <;> omega)) | ((with_reducible first | apply i_ | apply h_); focus first | omega | (simp only [q_] <;> omega)) | ((with_reducible apply h_); focus first | decide | kernel_rfl) | refine BCase.t (by decide) ?_ | refine BCase.f (by decide) ?_ | refine CallP.pure _ rfl _ (a1) ?_ | refine CallP.pure _ rfl _ (a2) ?_ | refine CallP.pure _ rfl _ (a3) ?_ | refine CallP.pure _ rfl _ (a4) ?_ | (refine SIdx.tx k rfl hk ?_) | refine CallP.pure _ rfl _ (pe) ?_ | refine CallP.pure _ rfl _ (pf) ?_ | with_reducible first | apply l_ | apply m_ | apply n_ | apply o_ | refine p_ (fun _ => ?_) (fun _ => ?_)) <;> (conv => whnf)))
     all_goals first | exact Ret.eq rfl | (exfalso; omega)
    | some t =>
     rw [hr] at pf
     have tt := tx_size t
     simp only
     by_cases h16 : 16 < t.length
     ·rw [if_pos h16]
      ((conv => whnf); repeat' ((first | (with_reducible first | apply a_ | apply b_ | apply c_) | ((with_reducible first | apply d_ | apply e_ | apply f_ | apply g_); focus first | omega | (simp only [q_] <;> omega)) | ((with_reducible first | apply i_ | apply h_); focus first | omega | (simp only [q_] <;> omega)) | ((with_reducible apply h_); focus first | decide | kernel_rfl) | refine BCase.t (by decide) ?_ | refine BCase.f (by decide) ?_ | refine CallP.pure _ rfl _ (a1) ?_ | refine CallP.pure _ rfl _ (a2) ?_ | refine CallP.pure _ rfl _ (a3) ?_ | refine CallP.pure _ rfl _ (a4) ?_ | (refine SIdx.tx k rfl hk ?_) | refine CallP.pure _ rfl _ (pe) ?_ | refine CallP.pure _ rfl _ (pf) ?_ | with_reducible first | apply l_ | apply m_ | apply n_ | apply o_ | refine p_ (fun _ => ?_) (fun _ => ?_)) <;> (conv => whnf)))
      all_goals first | exact Ret.eq rfl | (exfalso; omega)
     ·rw [if_neg h16]
      ((conv => whnf); repeat' ((first | (with_reducible first | apply a_ | apply b_ | apply c_) | ((with_reducible first | apply d_ | apply e_ | apply f_ | apply g_); focus first | omega | (simp only [q_] <;> omega)) | ((with_reducible first | apply i_ | apply h_); focus first | omega | (simp only [q_] <;> omega)) | ((with_reducible apply h_); focus first | decide | kernel_rfl) | refine BCase.t (by decide) ?_ | refine BCase.f (by decide) ?_ | refine CallP.pure _ rfl _ (a1) ?_ | refine CallP.pure _ rfl _ (a2) ?_ | refine CallP.pure _ rfl _ (a3) ?_ | refine CallP.pure _ rfl _ (a4) ?_ | (refine SIdx.tx k rfl hk ?_) | refine CallP.pure _ rfl _ (pe) ?_ | refine CallP.pure _ rfl _ (pf) ?_ | with_reducible first | apply l_ | apply m_ | apply n_ | apply o_ | refine p_ (fun _ => ?_) (fun _ => ?_)) <;> (conv => whnf)))
      all_goals first
       | (exfalso; omega)
       | (refine Ret.eq ?_; show PV.tup [_, pInt .i64 ((k + 1 + n : Nat) : Int), _] = PV.tup [_, pInt .i64 ((k + (n + 1) : Nat) : Int), _]; rw [show ((k + 1 + n : Nat) : Int) = ((k + (n + 1) : Nat) : Int) by omega]; rfl)
  ·rw [if_neg c2]
   have pl : ∀ j : Nat, Pure Tryd.prog 48 [pStr (tx l), pInt .i64 (j : Int)] (pBool (inB l j letB)) := p_isletter l ho
   have pd : ∀ j : Nat, Pure Tryd.prog 49 [pStr (tx l), pInt .i64 (j : Int)] (pBool (inB l j digB)) := p_isdigit l ho
   have plk := pl k
   have pdk := pd k
   rw [inB_lt hk] at plk pdk
   cases hf : letB (l.getD k 0) with
   | true =>
    rw [hf] at plk
    rw [if_pos rfl]
    have hge := runTo_ge (p := innB) (l := l) (k := k)
    have hle := runTo_le (p := innB) (Nat.le_of_lt hk)
    have hrl := run_len (p := innB) (l := l) (k := k)
    ((conv => whnf); repeat' ((first | (with_reducible first | apply a_ | apply b_ | apply c_) | ((with_reducible first | apply d_ | apply e_ | apply f_ | apply g_); focus first | omega | (simp only [q_] <;> omega)) | ((with_reducible first | apply i_ | apply h_); focus first | omega | (simp only [q_] <;> omega)) | ((with_reducible apply h_); focus first | decide | kernel_rfl) | refine BCase.t (by decide) ?_ | refine BCase.f (by decide) ?_ | refine CallP.pure _ rfl _ (a1) ?_ | refine CallP.pure _ rfl _ (a2) ?_ | refine CallP.pure _ rfl _ (a3) ?_ | refine CallP.pure _ rfl _ (a4) ?_ | refine CallP.pure _ rfl _ (plk) ?_ | with_reducible first | apply l_ | apply m_ | apply n_ | apply o_ | refine p_ (fun _ => ?_) (fun _ => ?_)) <;> (conv => whnf)))
    all_goals first
     | (exfalso; omega)
     | skip
    all_goals
     refine LoopC.mk Nat (fun j => [(0, pStr (tx l)), (1, pInt .i64 (k : Int)), (4, .d (.ptr 4 0)), (7, pInt .i64 (j : Int))]) (fun j => [(4, .box 29 zTok)]) [4] (fun j => k ≤ j ∧ j ≤ l.length ∧ runTo innB l k = runTo innB l j) (fun j => l.length - j) k ⟨Nat.le_refl _, Nat.le_of_lt hk, rfl⟩ ?start ?round
     case start => exact ⟨[(4, 4)], rfl, rfl, ⟨.inl rfl, .inl rfl, ⟨rfl, rfl, rfl⟩, .inl rfl, trivial⟩, ⟨rfl, rfl, .inl rfl, .inl rfl, .inl rfl, .inl rfl, rfl⟩, trivial⟩
     case round =>
      rintro j ⟨h1, h2, hj⟩
      have h1 : k ≤ j := h1
      have h2 : j ≤ l.length := h2
      have hj : runTo innB l k = runTo innB l j := hj
      have p1 := pl j
      have p2 := pd j
      by_cases q : j < l.length ∧ innB (l.getD j 0) = true
      ·obtain ⟨q1, q2⟩ := q
       rw [inB_lt q1] at p1 p2
       have hst := runTo_step q1 q2
       unfold innB at q2
       cases e1 : letB (l.getD j 0) with
       | true =>
        rw [e1] at p1
        ((conv => whnf); repeat' ((first | (with_reducible first | apply a_ | apply b_ | apply c_) | ((with_reducible first | apply d_ | apply e_ | apply f_ | apply g_); focus first | omega | (simp only [q_] <;> omega)) | ((with_reducible first | apply i_ | apply h_); focus first | omega | (simp only [q_] <;> omega)) | ((with_reducible apply h_); focus first | decide | kernel_rfl) | refine BCase.t (by decide) ?_ | refine BCase.f (by decide) ?_ | refine CallP.pure _ rfl _ (p1) ?_ | refine CallP.pure _ rfl _ (p2) ?_ | with_reducible first | apply l_ | apply m_ | apply n_ | apply o_ | refine p_ (fun _ => ?_) (fun _ => ?_)) <;> (conv => whnf)))
        all_goals exact ⟨j + 1, ⟨by omega, by omega, by omega⟩, by omega, [(4, 4)], rfl, rfl, ⟨.inl rfl, .inl rfl, ⟨rfl, rfl, rfl⟩, PLe.int (by omega), trivial⟩, ⟨rfl, rfl, .inl rfl, .inl rfl, .inl rfl, .inl rfl, rfl⟩, trivial⟩
       | false =>
        rw [e1, Bool.false_or] at q2
        rw [e1] at p1
        rw [q2] at p2
        ((conv => whnf); repeat' ((first | (with_reducible first | apply a_ | apply b_ | apply c_) | ((with_reducible first | apply d_ | apply e_ | apply f_ | apply g_); focus first | omega | (simp only [q_] <;> omega)) | ((with_reducible first | apply i_ | apply h_); focus first | omega | (simp only [q_] <;> omega)) | ((with_reducible apply h_); focus first | decide | kernel_rfl) | refine BCase.t (by decide) ?_ | refine BCase.f (by decide) ?_ | refine CallP.pure _ rfl _ (p1) ?_ | refine CallP.pure _ rfl _ (p2) ?_ | with_reducible first | apply l_ | apply m_ | apply n_ | apply o_ | refine p_ (fun _ => ?_) (fun _ => ?_)) <;> (conv => whnf)))
        all_goals exact ⟨j + 1, ⟨by omega, by omega, by omega⟩, by omega, [(4, 4)], rfl, rfl, ⟨.inl rfl, .inl rfl, ⟨rfl, rfl, rfl⟩, PLe.int (by omega), trivial⟩, ⟨rfl, rfl, .inl rfl, .inl rfl, .inl rfl, .inl rfl, rfl⟩, trivial⟩
      ·have ej : runTo innB l k = j := by
        rw [hj]
        by_cases q1 : j < l.length
        ·exact runTo_stop q1 (Bool.eq_false_iff.2 fun h => q ⟨q1, h⟩)
        ·exact runTo_end (by omega)
       have hf1 : inB l j letB = false ∧ inB l j digB = false := by
        by_cases q1 : j < l.length
        ·rw [inB_lt q1, inB_lt q1]
         have : innB (l.getD j 0) = false := Bool.eq_false_iff.2 fun h => q ⟨q1, h⟩
         unfold innB at this
         exact Bool.or_eq_false_iff.1 this
        ·exact ⟨inB_ge (by omega), inB_ge (by omega)⟩
       rw [hf1.1] at p1
       rw [hf1.2] at p2
       unfold wTok
       rw [hrl, ej]
       have ex : (tx l).extract ((k : Nat) : Int).toNat ((j : Nat) : Int).toNat = tx ((l.drop k).takeWhile innB) := by
        rw [extract_tx, ← run_take, ej]
        congr 2 <;> omega
       have ps := p_smallof ((l.drop k).takeWhile innB) (by unfold okText; rw [hrl]; omega)
       have ps : Pure Tryd.prog 50 [pStr ((tx l).extract ((k : Nat) : Int).toNat ((j : Nat) : Int).toNat)] (pStr (tx (((l.drop k).takeWhile innB).map smB))) := by rw [ex]; exact ps
       by_cases h12 : 12 < j - k
       ·rw [if_pos h12]
        ((conv => whnf); repeat' ((first | (with_reducible first | apply a_ | apply b_ | apply c_) | ((with_reducible first | apply d_ | apply e_ | apply f_ | apply g_); focus first | omega | (simp only [q_] <;> omega)) | ((with_reducible first | apply i_ | apply h_); focus first | omega | (simp only [q_] <;> omega)) | ((with_reducible apply h_); focus first | decide | kernel_rfl) | refine BCase.t (by decide) ?_ | refine BCase.f (by decide) ?_ | refine CallP.pure _ rfl _ (p1) ?_ | refine CallP.pure _ rfl _ (p2) ?_ | with_reducible first | apply l_ | apply m_ | apply n_ | apply o_ | refine p_ (fun _ => ?_) (fun _ => ?_)) <;> (conv => whnf)))
        all_goals first | exact Ret.eq rfl | (exfalso; omega)
       ·rw [if_neg h12]
        ((conv => whnf); repeat' ((first | (with_reducible first | apply a_ | apply b_ | apply c_) | ((with_reducible first | apply d_ | apply e_ | apply f_ | apply g_); focus first | omega | (simp only [q_] <;> omega)) | ((with_reducible first | apply i_ | apply h_); focus first | omega | (simp only [q_] <;> omega)) | ((with_reducible apply h_); focus first | decide | kernel_rfl) | refine BCase.t (by decide) ?_ | refine BCase.f (by decide) ?_ | refine CallP.pure _ rfl _ (p1) ?_ | refine CallP.pure _ rfl _ (p2) ?_ | refine CallP.pure _ rfl _ (ps) ?_ | with_reducible first | apply l_ | apply m_ | apply n_ | apply o_ | refine p_ (fun _ => ?_) (fun _ => ?_)) <;> (conv => whnf)))
        all_goals first
         | (exfalso; omega)
         | (refine Ret.eq ?_; show PV.tup [_, pInt .i64 (j : Int), _] = PV.tup [_, pInt .i64 ((k + (j - k) : Nat) : Int), _]; rw [show ((k + (j - k) : Nat) : Int) = (j : Int) by omega]; rfl)
   | false =>
    rw [hf] at plk
    rw [if_neg (by decide)]
    cases hg : digB (l.getD k 0) with
    | true =>
     rw [hg] at pdk
     rw [if_pos rfl]
     have hge := runTo_ge (p := digB) (l := l) (k := k)
     have hle := runTo_le (p := digB) (Nat.le_of_lt hk)
     have hrl := run_len (p := digB) (l := l) (k := k)
     ((conv => whnf); repeat' ((first | (with_reducible first | apply a_ | apply b_ | apply c_) | ((with_reducible first | apply d_ | apply e_ | apply f_ | apply g_); focus first | omega | (simp only [q_] <;> omega)) | ((with_reducible first | apply i_ | apply h_); focus first | omega | (simp only [q_] <;> omega)) | ((with_reducible apply h_); focus first | decide | kernel_rfl) | refine BCase.t (by decide) ?_ | refine BCase.f (by decide) ?_ | refine CallP.pure _ rfl _ (a1) ?_ | refine CallP.pure _ rfl _ (a2) ?_ | refine CallP.pure _ rfl _ (a3) ?_ | refine CallP.pure _ rfl _ (a4) ?_ | refine CallP.pure _ rfl _ (plk) ?_ | refine CallP.pure _ rfl _ (pdk) ?_ | with_reducible first | apply l_ | apply m_ | apply n_ | apply o_ | refine p_ (fun _ => ?_) (fun _ => ?_)) <;> (conv => whnf)))
     all_goals first
      | (exfalso; omega)
      | skip
     all_goals
      refine LoopC.mk Nat (fun j => [(0, pStr (tx l)), (1, pInt .i64 (k : Int)), (4, .d (.ptr 4 0)), (7, pInt .i64 (j : Int))]) (fun j => [(4, .box 29 zTok)]) [4] (fun j => k ≤ j ∧ j ≤ l.length ∧ runTo digB l k = runTo digB l j) (fun j => l.length - j) k ⟨Nat.le_refl _, Nat.le_of_lt hk, rfl⟩ ?start ?round
      case start => exact ⟨[(4, 4)], rfl, rfl, ⟨.inl rfl, .inl rfl, ⟨rfl, rfl, rfl⟩, .inl rfl, trivial⟩, ⟨rfl, rfl, .inl rfl, .inl rfl, .inl rfl, .inl rfl, rfl⟩, trivial⟩
      case round =>
       rintro j ⟨h1, h2, hj⟩
       have h1 : k ≤ j := h1
       have h2 : j ≤ l.length := h2
       have hj : runTo digB l k = runTo digB l j := hj
       have p1 := pl j
       have p2 := pd j
       by_cases q : j < l.length ∧ digB (l.getD j 0) = true
       ·obtain ⟨q1, q2⟩ := q
        rw [inB_lt q1, q2] at p2
        have hst := runTo_step q1 q2
        ((conv => whnf); repeat' ((first | (with_reducible first | apply a_ | apply b_ | apply c_) | ((with_reducible first | apply d_ | apply e_ | apply f_ | apply g_); focus first | omega | (simp only [q_] <;> omega)) | ((with_reducible first | apply i_ | apply h_); focus first | omega | (simp only [q_] <;> omega)) | ((with_reducible apply h_); focus first | decide | kernel_rfl) | refine BCase.t (by decide) ?_ | refine BCase.f (by decide) ?_ | refine CallP.pure _ rfl _ (p2) ?_ | with_reducible first | apply l_ | apply m_ | apply n_ | apply o_ | refine p_ (fun _ => ?_) (fun _ => ?_)) <;> (conv => whnf)))
        all_goals exact ⟨j + 1, ⟨by omega, by omega, by omega⟩, by omega, [(4, 4)], rfl, rfl, ⟨.inl rfl, .inl rfl, ⟨rfl, rfl, rfl⟩, PLe.int (by omega), trivial⟩, ⟨rfl, rfl, .inl rfl, .inl rfl, .inl rfl, .inl rfl, rfl⟩, trivial⟩
       ·have ej : runTo digB l k = j := by
         rw [hj]
         by_cases q1 : j < l.length
         ·exact runTo_stop q1 (Bool.eq_false_iff.2 fun h => q ⟨q1, h⟩)
         ·exact runTo_end (by omega)
        have hf1 : inB l j digB = false := by
         by_cases q1 : j < l.length
         ·rw [inB_lt q1]
          exact Bool.eq_false_iff.2 fun h => q ⟨q1, h⟩
         ·exact inB_ge (by omega)
        rw [hf1] at p2
        have hw : (l.drop k).dropWhile digB = l.drop j := by rw [← ej]; exact drop_runTo.symm
        have hhb : headB letB (l.drop j) = inB l j letB := by
         by_cases q1 : j < l.length
         ·rw [drop_cons q1, inB_lt q1]; rfl
         ·rw [List.drop_of_length_le (show l.length ≤ j by omega), inB_ge (by omega)]; rfl
        cases e1 : inB l j letB with
        | true =>
         rw [e1] at p1
         unfold nTok
         rw [hw, hhb, e1, if_pos rfl]
         ((conv => whnf); repeat' ((first | (with_reducible first | apply a_ | apply b_ | apply c_) | ((with_reducible first | apply d_ | apply e_ | apply f_ | apply g_); focus first | omega | (simp only [q_] <;> omega)) | ((with_reducible first | apply i_ | apply h_); focus first | omega | (simp only [q_] <;> omega)) | ((with_reducible apply h_); focus first | decide | kernel_rfl) | refine BCase.t (by decide) ?_ | refine BCase.f (by decide) ?_ | refine CallP.pure _ rfl _ (p1) ?_ | refine CallP.pure _ rfl _ (p2) ?_ | with_reducible first | apply l_ | apply m_ | apply n_ | apply o_ | refine p_ (fun _ => ?_) (fun _ => ?_)) <;> (conv => whnf)))
         all_goals exact Ret.eq rfl
        | false =>
         rw [e1] at p1
         rw [nTok_eq _ (by rw [hw, hhb, e1]; decide)]
         have ex : (tx l).extract ((k : Nat) : Int).toNat ((j : Nat) : Int).toNat = tx ((l.drop k).takeWhile digB) := by
          rw [extract_tx, ← run_take, ej]
          congr 2 <;> omega
         have pi := p_intof ((l.drop k).takeWhile digB) (by unfold okText; rw [hrl]; omega) false
         obtain ⟨i1, i2⟩ := intO_dig ((l.drop k).takeWhile digB)
         rw [i1] at pi i2
         have pi : Pure Tryd.prog 51 [pStr ((tx l).extract ((k : Nat) : Int).toNat ((j : Nat) : Int).toNat), pBool false] (.tup [pInt .i64 (intO ((l.drop k).takeWhile digB) false).1, pInt .i64 (digE ((l.drop k).takeWhile digB) most1)]) := by rw [ex]; exact pi
         rw [hrl, ej]
         by_cases he : digE ((l.drop k).takeWhile digB) most1 = 0
         ·rw [he] at pi ⊢
          rw [i2 he] at pi
          ((conv => whnf); repeat' ((first | (with_reducible first | apply a_ | apply b_ | apply c_) | ((with_reducible first | apply d_ | apply e_ | apply f_ | apply g_); focus first | omega | (simp only [q_] <;> omega)) | ((with_reducible first | apply i_ | apply h_); focus first | omega | (simp only [q_] <;> omega)) | ((with_reducible apply h_); focus first | decide | kernel_rfl) | refine BCase.t (by decide) ?_ | refine BCase.f (by decide) ?_ | refine CallP.pure _ rfl _ (p1) ?_ | refine CallP.pure _ rfl _ (p2) ?_ | refine CallP.pure _ rfl _ (pi) ?_ | with_reducible first | apply l_ | apply m_ | apply n_ | apply o_ | refine p_ (fun _ => ?_) (fun _ => ?_)) <;> (conv => whnf)))
          all_goals first
           | (exfalso; omega)
           | (refine Ret.eq ?_; show PV.tup [_, pInt .i64 (j : Int), _] = PV.tup [_, pInt .i64 ((k + (j - k) : Nat) : Int), _]; rw [show ((k + (j - k) : Nat) : Int) = (j : Int) by omega]; rfl)
         ·unfold tokR
          simp only [he, if_false]
          ((conv => whnf); repeat' ((first | (with_reducible first | apply a_ | apply b_ | apply c_) | ((with_reducible first | apply d_ | apply e_ | apply f_ | apply g_); focus first | omega | (simp only [q_] <;> omega)) | ((with_reducible first | apply i_ | apply h_); focus first | omega | (simp only [q_] <;> omega)) | ((with_reducible apply h_); focus first | decide | kernel_rfl) | refine BCase.t (by decide) ?_ | refine BCase.f (by decide) ?_ | refine CallP.pure _ rfl _ (p1) ?_ | refine CallP.pure _ rfl _ (p2) ?_ | refine CallP.pure _ rfl _ (pi) ?_ | with_reducible first | apply l_ | apply m_ | apply n_ | apply o_ | refine p_ (fun _ => ?_) (fun _ => ?_)) <;> (conv => whnf)))
          all_goals exact Ret.eq rfl
    | false =>
     rw [hg] at pdk
     rw [if_neg (by decide)]
     have ps := p_issign (l.drop k) (by unfold okText; rw [List.length_drop]; omega)
     have hsl := sigL_le (l.drop k)
     rw [List.length_drop] at hsl
     have ed : (tx l).extract ((k : Nat) : Int).toNat ((l.length : Nat) : Int).toNat = tx (l.drop k) := by
      rw [extract_tx, show ((k : Nat) : Int).toNat = k by omega]
      exact congrArg tx (List.take_of_length_le (by rw [List.length_drop]; omega))
     have ps : Pure Tryd.prog 52 [pStr ((tx l).extract ((k : Nat) : Int).toNat ((l.length : Nat) : Int).toNat)] (pInt .i64 (sigL (l.drop k) : Int)) := by rw [ed]; exact ps
     have ex : (tx l).extract ((k : Nat) : Int).toNat (((k : Nat) : Int) + (sigL (l.drop k) : Int)).toNat = tx ((l.drop k).take (sigL (l.drop k))) := by
      rw [extract_tx]
      congr 2 <;> omega
     unfold sTok
     by_cases h0 : sigL (l.drop k) = 0
     ·rw [if_pos h0]
      ((conv => whnf); repeat' ((first | (with_reducible first | apply a_ | apply b_ | apply c_) | ((with_reducible first | apply d_ | apply e_ | apply f_ | apply g_); focus first | omega | (simp only [q_] <;> omega)) | ((with_reducible first | apply i_ | apply h_); focus first | omega | (simp only [q_] <;> omega)) | ((with_reducible apply h_); focus first | decide | kernel_rfl) | refine BCase.t (by decide) ?_ | refine BCase.f (by decide) ?_ | refine CallP.pure _ rfl _ (a1) ?_ | refine CallP.pure _ rfl _ (a2) ?_ | refine CallP.pure _ rfl _ (a3) ?_ | refine CallP.pure _ rfl _ (a4) ?_ | refine CallP.pure _ rfl _ (plk) ?_ | refine CallP.pure _ rfl _ (pdk) ?_ | refine CallP.pure _ rfl _ (ps) ?_ | with_reducible first | apply l_ | apply m_ | apply n_ | apply o_ | refine p_ (fun _ => ?_) (fun _ => ?_)) <;> (conv => whnf)))
      all_goals first | exact Ret.eq rfl | (exfalso; omega)
     ·rw [if_neg h0]
      ((conv => whnf); repeat' ((first | (with_reducible first | apply a_ | apply b_ | apply c_) | ((with_reducible first | apply d_ | apply e_ | apply f_ | apply g_); focus first | omega | (simp only [q_] <;> omega)) | ((with_reducible first | apply i_ | apply h_); focus first | omega | (simp only [q_] <;> omega)) | ((with_reducible apply h_); focus first | decide | kernel_rfl) | refine BCase.t (by decide) ?_ | refine BCase.f (by decide) ?_ | refine CallP.pure _ rfl _ (a1) ?_ | refine CallP.pure _ rfl _ (a2) ?_ | refine CallP.pure _ rfl _ (a3) ?_ | refine CallP.pure _ rfl _ (a4) ?_ | refine CallP.pure _ rfl _ (plk) ?_ | refine CallP.pure _ rfl _ (pdk) ?_ | refine CallP.pure _ rfl _ (ps) ?_ | with_reducible first | apply l_ | apply m_ | apply n_ | apply o_ | refine p_ (fun _ => ?_) (fun _ => ?_)) <;> (conv => whnf)))
      all_goals first
       | (exfalso; omega)
       | (refine Ret.eq ?_; show PV.tup [_, pInt .i64 ((k : Int) + (sigL (l.drop k) : Int)), _] = PV.tup [_, pInt .i64 ((k + sigL (l.drop k) : Nat) : Int), _]; rw [ex, show ((k : Int) + (sigL (l.drop k) : Int)) = ((k + sigL (l.drop k) : Nat) : Int) by omega]; rfl)
theorem p_tokensof (l : List UInt8) (hl : okText l) : Pure Tryd.prog 10 [pStr (tx l)] (.tup [slV 4 TokenD.c (lexF l).1, pInt .i64 (lexF l).2.1, pInt .i64 (lexF l).2.2]) := by
 have tz := tx_size l
 have hl' : l.length ≤ 140737488351232 := hl
 refine pure_of Tryd.func10 (by rfl) rfl (by kernel_rfl) (by rfl) ?_
 by_cases h3 : 300 < l.length
 ·rw [show lexF l = ([], 0, 2) from if_pos h3]
  ((conv => whnf); repeat' ((first | (with_reducible first | apply a_ | apply b_ | apply c_) | ((with_reducible first | apply d_ | apply e_ | apply f_ | apply g_); focus first | omega | (simp only [q_] <;> omega)) | ((with_reducible first | apply i_ | apply h_); focus first | omega | (simp only [q_] <;> omega)) | ((with_reducible apply h_); focus first | decide | kernel_rfl) | refine BCase.t (by decide) ?_ | refine BCase.f (by decide) ?_ | with_reducible first | apply l_ | apply m_ | apply n_ | apply o_ | refine p_ (fun _ => ?_) (fun _ => ?_)) <;> (conv => whnf)))
  all_goals exact Ret.le ⟨.inr ⟨⟨4, rfl⟩, .inl rfl⟩, .inl rfl, .inl rfl, rfl⟩
 ·have hF : lexF l = lexG l (l.length + 1) 0 [] := if_neg h3
  have pk := p_skipped l hl 0 (Nat.zero_le _)
  ((conv => whnf); repeat' ((first | (with_reducible first | apply a_ | apply b_ | apply c_) | ((with_reducible first | apply d_ | apply e_ | apply f_ | apply g_); focus first | omega | (simp only [q_] <;> omega)) | ((with_reducible first | apply i_ | apply h_); focus first | omega | (simp only [q_] <;> omega)) | ((with_reducible apply h_); focus first | decide | kernel_rfl) | refine BCase.t (by decide) ?_ | refine BCase.f (by decide) ?_ | refine CallP.pure _ rfl _ (pk) ?_ | with_reducible first | apply l_ | apply m_ | apply n_ | apply o_ | refine p_ (fun _ => ?_) (fun _ => ?_)) <;> (conv => whnf)))
  refine LoopC.mk (Nat × List TokenD) (fun s => [(0, pStr (tx l)), (5, .d (.app 60 29 4 (s.2.map TokenD.c))), (6, pInt .i64 (s.1 : Int))]) (fun s => [(60, .tail 29 4)]) [60] (fun s => s.1 ≤ l.length ∧ s.2.length ≤ 120 ∧ ∃ N k, k ≤ l.length ∧ l.length - k < N ∧ skK l k = s.1 ∧ lexG l N k s.2 = lexF l) (fun s => l.length - s.1) (skK l 0, []) ⟨skK_le _ _, Nat.zero_le _, l.length + 1, 0, Nat.zero_le _, by omega, rfl, hF.symm⟩ ?start ?round
  case start => exact ⟨[], rfl, rfl, ⟨.inl rfl, ⟨rfl, rfl, Nat.zero_lt_succ _, rfl, rfl⟩, .inl rfl, trivial⟩, ⟨rfl, Nat.zero_lt_succ _⟩, trivial⟩
  case round =>
   rintro ⟨p, acc⟩ ⟨hp, ha, N, k, hk, hN, hpk, hg⟩
   have hp : p ≤ l.length := hp
   have ha : acc.length ≤ 120 := ha
   have hpk : skK l k = p := hpk
   have hg : lexG l N k acc = lexF l := hg
   have hkp := skK_ge hk
   rw [hpk] at hkp
   cases N with
   | zero => omega
   | succ N =>
    rw [lexG, hpk] at hg
    by_cases q : p < l.length
    ·rw [if_pos q] at hg
     by_cases h120 : acc.length = 120
     ·rw [if_pos h120] at hg
      rw [← hg]
      ((conv => whnf); repeat' ((first | (with_reducible first | apply a_ | apply b_ | apply c_) | ((with_reducible first | apply d_ | apply e_ | apply f_ | apply g_); focus first | omega | (simp only [q_] <;> omega)) | ((with_reducible first | apply i_ | apply h_); focus first | omega | (simp only [q_] <;> omega)) | ((with_reducible apply h_); focus first | decide | kernel_rfl) | refine BCase.t (by decide) ?_ | refine BCase.f (by decide) ?_ | with_reducible first | apply l_ | apply m_ | apply n_ | apply o_ | refine p_ (fun _ => ?_) (fun _ => ?_)) <;> (conv => whnf)))
      all_goals first
       | exact Ret.le ⟨.inr ⟨⟨4, rfl⟩, .inl rfl⟩, .inl rfl, .inl rfl, rfl⟩
       | (exfalso; simp only [List.length_map] at *; omega)
     ·rw [if_neg h120] at hg
      have pn := p_tokenat l (by omega) p q
      unfold tokR at pn
      have hln : (tkL (l.drop p)).2.1 = 0 → _ := tkL_len (r := l.drop p)
      rw [List.length_drop] at hln
      by_cases he : (tkL (l.drop p)).2.1 = 0
      ·rw [if_neg (by simp [he])] at hg
       rw [if_pos he, if_pos he, he] at pn
       have hn := hln he
       have pk2 := p_skipped l hl (p + (tkL (l.drop p)).2.2) (by omega)
       ((conv => whnf); repeat' ((first | (with_reducible first | apply a_ | apply b_ | apply c_) | ((with_reducible first | apply d_ | apply e_ | apply f_ | apply g_); focus first | omega | (simp only [q_] <;> omega)) | ((with_reducible first | apply i_ | apply h_); focus first | omega | (simp only [q_] <;> omega)) | ((with_reducible apply h_); focus first | decide | kernel_rfl) | refine BCase.t (by decide) ?_ | refine BCase.f (by decide) ?_ | refine CallP.pure _ rfl _ (pn) ?_ | refine CallP.pure _ rfl _ (pk2) ?_ | (refine Need.by 40 rfl (by simp only [List.length_map, List.length_singleton]; omega) ?_) | with_reducible first | apply l_ | apply m_ | apply n_ | apply o_ | refine p_ (fun _ => ?_) (fun _ => ?_)) <;> (conv => whnf)))
       have hsk := skK_ge (l := l) (k := p + (tkL (l.drop p)).2.2) (by omega)
       refine ⟨(skK l (p + (tkL (l.drop p)).2.2), acc ++ [tokD p (tkL (l.drop p)).1]), ⟨skK_le _ _, by show (acc ++ [_]).length ≤ 120; rw [List.length_append, List.length_singleton]; omega, N, p + (tkL (l.drop p)).2.2, by omega, by omega, rfl, hg⟩, by show l.length - skK l _ < l.length - p; omega, [(60, 37)], rfl, rfl, ⟨.inl rfl, ⟨rfl, rfl, rfl, rfl, ?_⟩, .inl rfl, trivial⟩, ⟨rfl, rfl, rfl⟩, trivial⟩
       show _ = (acc ++ [tokD p (tkL (l.drop p)).1]).map TokenD.c
       rw [List.map_append]; rfl
      ·rw [if_pos he] at hg
       rw [if_neg he, if_neg he] at pn
       rw [← hg]
       ((conv => whnf); repeat' ((first | (with_reducible first | apply a_ | apply b_ | apply c_) | ((with_reducible first | apply d_ | apply e_ | apply f_ | apply g_); focus first | omega | (simp only [q_] <;> omega)) | ((with_reducible first | apply i_ | apply h_); focus first | omega | (simp only [q_] <;> omega)) | ((with_reducible apply h_); focus first | decide | kernel_rfl) | refine BCase.t (by decide) ?_ | refine BCase.f (by decide) ?_ | refine CallP.pure _ rfl _ (pn) ?_ | with_reducible first | apply l_ | apply m_ | apply n_ | apply o_ | refine p_ (fun _ => ?_) (fun _ => ?_)) <;> (conv => whnf)))
       all_goals exact Ret.le ⟨.inr ⟨⟨4, rfl⟩, .inl rfl⟩, .inl rfl, .inl rfl, rfl⟩
    ·rw [if_neg q] at hg
     rw [← hg]
     ((conv => whnf); repeat' ((first | (with_reducible first | apply a_ | apply b_ | apply c_) | ((with_reducible first | apply d_ | apply e_ | apply f_ | apply g_); focus first | omega | (simp only [q_] <;> omega)) | ((with_reducible first | apply i_ | apply h_); focus first | omega | (simp only [q_] <;> omega)) | ((with_reducible apply h_); focus first | decide | kernel_rfl) | refine BCase.t (by decide) ?_ | refine BCase.f (by decide) ?_ | with_reducible first | apply l_ | apply m_ | apply n_ | apply o_ | refine p_ (fun _ => ?_) (fun _ => ?_)) <;> (conv => whnf)))
     exact Ret.mk rfl
end Go.Proofs.YtjbopncobegleaaDoor.Pm
end
section
namespace Go.Proofs.YtjbopncobegleaaDoor.Pm
open Go.RowKit K
set_option linter.unusedVariables false
set_option linter.unusedSimpArgs false
set_option maxRecDepth 100000
theorem fmt_goes : FmtGoes := by
 intro n h0 h1
 refine pure_hand (vs := [.int .i64 n, .int .i64 10]) ⟨_, Tryd.func70, by rfl, by rfl⟩ fun w hG => ?_
 refine (Tryd.strconv_FormatInt_10 n h0 h1 w hG).mono ?_
 rintro e w' ⟨rfl, k, os, rfl⟩
 exact ⟨_, rfl, ⟨rfl, rfl, rfl, by show w.heap.size ≤ (w.heap ++ os).size; rw [Array.size_append]; exact Nat.le_add_right _ _, fun j hj => by show (w.heap ++ os)[j]? = _; rw [Array.getElem?_append_left hj]⟩, fun F _ => by unfold PRep DRep CRep; exact ⟨rfl, rfl⟩⟩
end Go.Proofs.YtjbopncobegleaaDoor.Pm
end
section
namespace Go.Proofs.YtjbopncobegleaaDoor.Pm
open Go.RowKit K
set_option linter.unusedVariables false
set_option linter.unusedSimpArgs false
set_option maxRecDepth 100000
theorem intO_le (s : List UInt8) (b : Bool) : -9223372036854775808 ≤ (intO s b).1 ∧ (intO s b).1 ≤ 9223372036854775807 := by
 unfold intO
 by_cases h1 : allB s = false ∨ (b = true ∧ s = [48])
 ·rw [if_pos h1]; exact ⟨by decide, by decide⟩
 ·rw [if_neg h1]
  by_cases h2 : (if b = true then most2 else most1) < dval s
  ·rw [if_pos h2]; exact ⟨(by decide : (-9223372036854775808 : Int) ≤ 0), (by decide : (0 : Int) ≤ 9223372036854775807)⟩
  ·rw [if_neg h2]
   cases b with
   | true =>
    have h : ¬ 9223372036854775808 < dval s := h2
    show (-9223372036854775808 : Int) ≤ -(dval s : Int) ∧ -(dval s : Int) ≤ 9223372036854775807
    omega
   | false =>
    have h : ¬ 9223372036854775807 < dval s := h2
    show (-9223372036854775808 : Int) ≤ (dval s : Int) ∧ (dval s : Int) ≤ 9223372036854775807
    omega
theorem Wr.eq {k : IntKind} {x y : Int} {K : Int → Prop} (h : x = y) (hw : Wr k y K) : Wr k x K := by rw [h]; exact hw
theorem p_shownof (v : ValueD) (hc : vChk v = 0) (hi : -9223372036854775808 ≤ v.N ∧ v.N ≤ 9223372036854775807) : Pure Tryd.prog 28 [vV v] (pStr (tx (showV v))) := by
 have pi := p_inttextN v.N hi.1 hi.2
 refine pure_of Tryd.func28 (by rfl) rfl (by kernel_rfl) (by rfl) ?_
 unfold showV
 by_cases k1 : v.Kind = 1
 ·rw [if_pos k1]
  ((conv => whnf); repeat' ((first | (with_reducible first | apply a_ | apply b_ | apply c_) | ((with_reducible first | apply d_ | apply e_ | apply f_ | apply g_); focus first | omega | (simp only [q_] <;> omega)) | ((with_reducible first | apply i_ | apply h_); focus first | omega | (simp only [q_] <;> omega)) | ((with_reducible apply h_); focus first | decide | kernel_rfl) | refine BCase.t (by decide) ?_ | refine BCase.f (by decide) ?_ | refine CallP.pure _ rfl _ (pi) ?_ | with_reducible first | apply l_ | apply m_ | apply n_ | apply o_ | refine p_ (fun _ => ?_) (fun _ => ?_)) <;> (conv => whnf)))
  all_goals first | exact Ret.eq rfl | (exfalso; omega)
 ·rw [if_neg k1]
  obtain ⟨t1, t2, t3, t4, t5⟩ := vChk_text hc k1
  have hz := tx_size v.S
  have d39 : ∀ c : UInt8, c = 39 ↔ ((c.toNat : Nat) : Int) = 39 := fun c => ⟨fun e => by rw [e]; rfl, fun e => by rw [← u8_back c, show c.toNat = 39 by omega]; rfl⟩
  by_cases k2 : v.Kind = 2
  ·rw [if_pos k2]
   ((conv => whnf); repeat' ((first | (with_reducible first | apply a_ | apply b_ | apply c_) | ((with_reducible first | apply d_ | apply e_ | apply f_ | apply g_); focus first | omega | (simp only [q_] <;> omega)) | ((with_reducible first | apply i_ | apply h_); focus first | omega | (simp only [q_] <;> omega)) | ((with_reducible apply h_); focus first | decide | kernel_rfl) | refine BCase.t (by decide) ?_ | refine BCase.f (by decide) ?_ | refine CallP.pure _ rfl _ (pi) ?_ | with_reducible first | apply l_ | apply m_ | apply n_ | apply o_ | refine p_ (fun _ => ?_) (fun _ => ?_)) <;> (conv => whnf)))
   refine LoopC.mk Nat (fun k => [(1, .d (.ptr 1 0)), (3, pStr (tx (39 :: (v.S.take k).flatMap quoB))), (4, pInt .i64 (k : Int))]) (fun _ => [(1, .box 61 (v.c.map D.c))]) [1] (fun k => k ≤ v.S.length) (fun k => v.S.length - k) 0 (Nat.zero_le _) ?start ?round
   case start => exact ⟨[(1, 1)], rfl, rfl, ⟨⟨rfl, rfl, rfl⟩, .inl rfl, .inl rfl, trivial⟩, ⟨rfl, rfl, .inl rfl, .inl rfl, .inl rfl, rfl⟩, trivial⟩
   case round =>
    intro k hk
    have hk : k ≤ v.S.length := hk
    have hfl : ((v.S.take k).flatMap quoB).length ≤ 2 * k := by
     have : ∀ l : List UInt8, (l.flatMap quoB).length ≤ 2 * l.length := by
      intro l
      induction l with
      | nil => exact Nat.zero_le _
      | cons b l ih => rw [List.flatMap_cons, List.length_append, List.length_cons]; have := quoB_le b; omega
     have h1 := this (v.S.take k)
     rw [List.length_take] at h1
     omega
    have tz := tx_size (39 :: (v.S.take k).flatMap quoB)
    rw [List.length_cons] at tz
    by_cases q : k < v.S.length
    ·have eg : v.S.getD k 0 = v.S[k] := by rw [List.getD_eq_getElem?_getD, List.getElem?_eq_getElem q]; rfl
     have es : (v.S.take (k + 1)).flatMap quoB = (v.S.take k).flatMap quoB ++ quoB (v.S.getD k 0) := by
      rw [take_snoc q, List.flatMap_append, eg]; simp
     by_cases hb : v.S.getD k 0 = 39
     ·have nb := (d39 _).1 hb
      rw [hb, show quoB 39 = [39, 39] from rfl] at es
      ((conv => whnf); repeat' ((first | (with_reducible first | apply a_ | apply b_ | apply c_) | ((with_reducible first | apply d_ | apply e_ | apply f_ | apply g_); focus first | omega | (simp only [q_] <;> omega)) | ((with_reducible first | apply i_ | apply h_); focus first | omega | (simp only [q_] <;> omega)) | ((with_reducible apply h_); focus first | decide | kernel_rfl) | refine BCase.t (by decide) ?_ | refine BCase.f (by decide) ?_ | (refine SIdx.tx k rfl q ?_) | (refine Need.mk (by show (tx (39 :: (v.S.take k).flatMap quoB)).size + 2 ≤ _; omega) ?_) | with_reducible first | apply l_ | apply m_ | apply n_ | apply o_ | refine p_ (fun _ => ?_) (fun _ => ?_)) <;> (conv => whnf)))
      exact ⟨k + 1, by show k + 1 ≤ _; omega, by show v.S.length - (k + 1) < v.S.length - k; omega, [(1, 1)], rfl, rfl, ⟨⟨rfl, rfl, rfl⟩, PLe.c (by rw [es, ← List.cons_append, ← tx_append]; rfl), PLe.int (by omega), trivial⟩, ⟨rfl, rfl, .inl rfl, .inl rfl, .inl rfl, rfl⟩, trivial⟩
     ·have nb : ¬ (((v.S.getD k 0).toNat : Nat) : Int) = 39 := fun x => hb ((d39 _).2 x)
      rw [show quoB (v.S.getD k 0) = [v.S.getD k 0] from if_neg hb] at es
      have eo := one_tx q
      ((conv => whnf); repeat' ((first | (with_reducible first | apply a_ | apply b_ | apply c_) | ((with_reducible first | apply d_ | apply e_ | apply f_ | apply g_); focus first | omega | (simp only [q_] <;> omega)) | ((with_reducible first | apply i_ | apply h_); focus first | omega | (simp only [q_] <;> omega)) | ((with_reducible apply h_); focus first | decide | kernel_rfl) | refine BCase.t (by decide) ?_ | refine BCase.f (by decide) ?_ | (refine SIdx.tx k rfl q ?_) | (refine Need.mk (by rw [eo]; show (tx (39 :: (v.S.take k).flatMap quoB)).size + 1 ≤ _; omega) ?_) | with_reducible first | apply l_ | apply m_ | apply n_ | apply o_ | refine p_ (fun _ => ?_) (fun _ => ?_)) <;> (conv => whnf)))
      exact ⟨k + 1, by show k + 1 ≤ _; omega, by show v.S.length - (k + 1) < v.S.length - k; omega, [(1, 1)], rfl, rfl, ⟨⟨rfl, rfl, rfl⟩, PLe.c (by rw [es, eo, ← List.cons_append, ← tx_append]), PLe.int (by omega), trivial⟩, ⟨rfl, rfl, .inl rfl, .inl rfl, .inl rfl, rfl⟩, trivial⟩
    ·((conv => whnf); repeat' ((first | (with_reducible first | apply a_ | apply b_ | apply c_) | ((with_reducible first | apply d_ | apply e_ | apply f_ | apply g_); focus first | omega | (simp only [q_] <;> omega)) | ((with_reducible first | apply i_ | apply h_); focus first | omega | (simp only [q_] <;> omega)) | ((with_reducible apply h_); focus first | decide | kernel_rfl) | refine BCase.t (by decide) ?_ | refine BCase.f (by decide) ?_ | (refine Need.mk (by show (tx (39 :: (v.S.take k).flatMap quoB)).size + 1 ≤ _; omega) ?_) | with_reducible first | apply l_ | apply m_ | apply n_ | apply o_ | refine p_ (fun _ => ?_) (fun _ => ?_)) <;> (conv => whnf)))
     refine Ret.eq ?_
     rw [List.take_of_length_le (by omega)]
     unfold shownL
     rw [← List.cons_append, ← tx_append]; rfl
  ·rw [if_neg k2]
   by_cases k3 : v.Kind = 3
   ·rw [if_pos k3]
    ((conv => whnf); repeat' ((first | (with_reducible first | apply a_ | apply b_ | apply c_) | ((with_reducible first | apply d_ | apply e_ | apply f_ | apply g_); focus first | omega | (simp only [q_] <;> omega)) | ((with_reducible first | apply i_ | apply h_); focus first | omega | (simp only [q_] <;> omega)) | ((with_reducible apply h_); focus first | decide | kernel_rfl) | refine BCase.t (by decide) ?_ | refine BCase.f (by decide) ?_ | refine CallP.pure _ rfl _ (pi) ?_ | with_reducible first | apply l_ | apply m_ | apply n_ | apply o_ | refine p_ (fun _ => ?_) (fun _ => ?_)) <;> (conv => whnf)))
    refine LoopC.mk Nat (fun k => [(1, .d (.ptr 1 0)), (3, pStr (tx (120 :: 39 :: (v.S.take k).flatMap hexB))), (4, pInt .i64 (k : Int))]) (fun _ => [(1, .box 61 (v.c.map D.c))]) [1] (fun k => k ≤ v.S.length) (fun k => v.S.length - k) 0 (Nat.zero_le _) ?start3 ?round3
    case start3 => exact ⟨[(1, 1)], rfl, rfl, ⟨⟨rfl, rfl, rfl⟩, .inl rfl, .inl rfl, trivial⟩, ⟨rfl, rfl, .inl rfl, .inl rfl, .inl rfl, rfl⟩, trivial⟩
    case round3 =>
     intro k hk
     have hk : k ≤ v.S.length := hk
     have hfl := hex_len (v.S.take k)
     rw [List.length_take] at hfl
     have tz := tx_size (120 :: 39 :: (v.S.take k).flatMap hexB)
     rw [List.length_cons, List.length_cons] at tz
     by_cases q : k < v.S.length
     ·have eg : v.S.getD k 0 = v.S[k] := by rw [List.getD_eq_getElem?_getD, List.getElem?_eq_getElem q]; rfl
      have es : (v.S.take (k + 1)).flatMap hexB = (v.S.take k).flatMap hexB ++ hexB (v.S.getD k 0) := by
       rw [take_snoc q, List.flatMap_append, eg]; simp
      have hu := (v.S.getD k 0).toNat_lt
      have p1 := p_hexdigit ((v.S.getD k 0).toNat / 16) (by omega)
      have p2 := p_hexdigit ((v.S.getD k 0).toNat % 16) (by omega)
      have p1' : Pure Tryd.prog 57 [pInt .i64 (((v.S.getD k 0).toNat : Int) / 16)] (pStr (tx [hexd ((v.S.getD k 0).toNat / 16)])) := p1
      have p2' : Pure Tryd.prog 57 [pInt .i64 (((v.S.getD k 0).toNat : Int).tmod 16)] (pStr (tx [hexd ((v.S.getD k 0).toNat % 16)])) := by rw [tmod_nn (by omega)]; exact p2
      ((conv => whnf); repeat' ((first | (with_reducible first | apply a_ | apply b_ | apply c_) | ((with_reducible first | apply d_ | apply e_ | apply f_ | apply g_); focus first | omega | (simp only [q_] <;> omega)) | ((with_reducible first | apply i_ | apply h_); focus first | omega | (simp only [q_] <;> omega)) | ((with_reducible apply h_); focus first | decide | kernel_rfl) | refine BCase.t (by decide) ?_ | refine BCase.f (by decide) ?_ | (refine SIdx.tx k rfl q ?_) | refine CallP.pure _ rfl _ (p1') ?_ | refine CallP.pure _ rfl _ (p2') ?_ | (refine Wr.eq (tdiv_nn (Int.natCast_nonneg _) 16) (Wr.i64 (by omega) (by omega) ?_)) | (first | refine Need.mk (by show (tx (120 :: 39 :: (v.S.take k).flatMap hexB)).size + 2 ≤ _; omega) ?_ | refine Need.mk (by show 1 + 1 ≤ _; omega) ?_) | with_reducible first | apply l_ | apply m_ | apply n_ | apply o_ | refine p_ (fun _ => ?_) (fun _ => ?_)) <;> (conv => whnf)))
      exact ⟨k + 1, by show k + 1 ≤ _; omega, by show v.S.length - (k + 1) < v.S.length - k; omega, [(1, 1)], rfl, rfl, ⟨⟨rfl, rfl, rfl⟩, PLe.c (by rw [es, ← List.cons_append, ← List.cons_append, ← tx_append]; rfl), PLe.int (by omega), trivial⟩, ⟨rfl, rfl, .inl rfl, .inl rfl, .inl rfl, rfl⟩, trivial⟩
     ·((conv => whnf); repeat' ((first | (with_reducible first | apply a_ | apply b_ | apply c_) | ((with_reducible first | apply d_ | apply e_ | apply f_ | apply g_); focus first | omega | (simp only [q_] <;> omega)) | ((with_reducible first | apply i_ | apply h_); focus first | omega | (simp only [q_] <;> omega)) | ((with_reducible apply h_); focus first | decide | kernel_rfl) | refine BCase.t (by decide) ?_ | refine BCase.f (by decide) ?_ | (refine Need.mk (by show (tx (120 :: 39 :: (v.S.take k).flatMap hexB)).size + 1 ≤ _; omega) ?_) | with_reducible first | apply l_ | apply m_ | apply n_ | apply o_ | refine p_ (fun _ => ?_) (fun _ => ?_)) <;> (conv => whnf)))
      refine Ret.eq ?_
      rw [List.take_of_length_le (by omega)]
      unfold shownL
      rw [← List.cons_append, ← List.cons_append, ← tx_append]; rfl
   ·rw [if_neg k3]
    ((conv => whnf); repeat' ((first | (with_reducible first | apply a_ | apply b_ | apply c_) | ((with_reducible first | apply d_ | apply e_ | apply f_ | apply g_); focus first | omega | (simp only [q_] <;> omega)) | ((with_reducible first | apply i_ | apply h_); focus first | omega | (simp only [q_] <;> omega)) | ((with_reducible apply h_); focus first | decide | kernel_rfl) | refine BCase.t (by decide) ?_ | refine BCase.f (by decide) ?_ | refine CallP.pure _ rfl _ (pi) ?_ | with_reducible first | apply l_ | apply m_ | apply n_ | apply o_ | refine p_ (fun _ => ?_) (fun _ => ?_)) <;> (conv => whnf)))
    all_goals first | exact Ret.eq rfl | (exfalso; omega)
end Go.Proofs.YtjbopncobegleaaDoor.Pm
end
section
namespace Go.Proofs.YtjbopncobegleaaDoor.Pm
open Go.RowKit
set_option linter.unusedVariables false
set_option linter.unusedSimpArgs false
set_option maxRecDepth 100000
abbrev nilP : D := .c (.v (.pointer none))
abbrev nilS : D := .c (.v (.slice none 0 0))
abbrev tBld : Nat := 49
abbrev tByte : Nat := 5
theorem same_noescape : sameX Tryd.prog 68 := ⟨_, Tryd.func68, by kernel_rfl, by kernel_rfl, by kernel_rfl, by kernel_rfl⟩
theorem copyCheck_fresh : CallS Tryd.prog 54 [.d (.ptr FK 0)] [] [(FK, .box tBld [nilP, nilS])] (.tup []) [(FK, .box tBld [.ptr FK 0, nilS])] := by
 refine callS_of Tryd.func54 (by rfl) rfl (by kernel_rfl) (by rfl) [FK] rfl ?_
 conv => whnf
 refine BCase.t rfl ?_
 conv => whnf
 refine CallP.same _ same_noescape rfl ?_
 conv => whnf
 refine RetS.mk [(FK, FK)] [FK] rfl rfl ?_ ?_ <;> (repeat' (first | exact rfl | exact trivial | exact Or.inl rfl | refine And.intro ?_ ?_))
theorem copyCheck_used (l : List (List C)) : CallS Tryd.prog 54 [.d (.ptr FK 0)] [(FK, .box tBld [.ptr FK 0, .app FK1 tByte 1 l]), (FK1, .tail tByte 1)] [] (.tup []) [] := by
 refine callS_of Tryd.func54 (by rfl) rfl (by kernel_rfl) (by rfl) [FK, FK1] rfl ?_
 conv => whnf
 refine BCase.f rfl ?_
 conv => whnf
 refine BCase.f rfl ?_
 conv => whnf
 refine RetS.mk [(FK, FK), (FK1, FK1)] [FK, FK1] rfl rfl ?_ ?_ <;> (repeat' (first | exact rfl | exact trivial | exact Or.inl rfl | refine And.intro ?_ ?_))
theorem copyCheck_nil (l : List (List C)) : CallS Tryd.prog 54 [.d (.ptr FK 0)] [(FK1, .tail tByte 1)] [(FK, .box tBld [nilP, .app FK1 tByte 1 l])] (.tup []) [(FK, .box tBld [.ptr FK 0, .app FK1 tByte 1 l])] := by
 refine callS_of Tryd.func54 (by rfl) rfl (by kernel_rfl) (by rfl) [FK1, FK] rfl ?_
 conv => whnf
 refine BCase.t rfl ?_
 conv => whnf
 refine CallP.same _ same_noescape rfl ?_
 conv => whnf
 refine RetS.mk [(FK, FK), (FK1, FK1)] [FK, FK1] rfl rfl ?_ ?_ <;> (repeat' (first | exact rfl | exact trivial | exact Or.inl rfl | refine And.intro ?_ ?_))
abbrev bRows (s : ByteArray) : List (List C) := byteRows s.data.toList
theorem writeString_fresh (s : ByteArray) (hs : s.size ≤ 140737488355328) : CallS Tryd.prog 23 [.d (.ptr FK 0), pStr s] [] [(FK, .box tBld [nilP, nilS])] (.tup [pInt .i64 s.size, .d (.c (.v .nilIface))]) [(FK, .box tBld [.ptr FK 0, .app NK tByte 1 (bRows s)]), (NK, .tail tByte 1)] := by
 refine callS_of Tryd.func23 (by rfl) rfl (by kernel_rfl) (by rfl) [FK] rfl ?_
 conv => whnf
 refine CallP.ret [(FK, FK)] _ _ _ _ _ _ _ copyCheck_fresh rfl rfl rfl rfl ⟨rfl, trivial⟩ ?_
 conv => whnf
 refine Need.mk (by show s.size * 1 ≤ _; omega) ?_
 conv => whnf
 refine RetS.mk [(FK, FK), (NK, 14)] [FK, NK] rfl rfl ?_ ?_ <;> (repeat' (first | exact rfl | exact trivial | exact Or.inl rfl | refine And.intro ?_ ?_))
theorem fz_swap {c : Ctx} {σ : Sg} {h h' : Hp} {hs k T T' : Nat} {l l' : List D} (hk : h k = some (.box T l)) (hk' : h' k = some (.box T' l')) (ho : ∀ j, j ≠ k → h' j = h j) : Fz c σ h' hs = Fz c σ h hs := by
 funext b o
 unfold Fz
 apply propext
 refine or_congr_right (and_congr_right fun _ => and_congr_right fun _ => ⟨fun q j m hb h1 h2 => ?_, fun q j m hb h1 h2 => ?_⟩)
 ·by_cases hj : j = k
  ·subst hj; exact (q j m _ hk' h2).elim
  ·exact q j m hb (by rw [ho j hj]; exact h1) h2
 ·by_cases hj : j = k
  ·subst hj; exact (q j m _ hk h2).elim
  ·exact q j m hb (by rw [← ho j hj]; exact h1) h2
theorem sw_swap {c : Ctx} {σ : Sg} {h h' : Hp} {w : World} {k T : Nat} {l l' : List D} (hs : SW c σ h w) (hk : h k = some (.box T l)) (hk' : h' k = some (.box T l')) (ho : ∀ j, j ≠ k → h' j = h j)
  (hok : HbOk σ (fz c σ h w) w c.own k (.box T l')) : SW c σ h' w ∧ fz c σ h' w = fz c σ h w := by
 have hf : Fz c σ h' w.heap.size = Fz c σ h w.heap.size := fz_swap hk hk' ho
 refine ⟨⟨hs.os, hs.tape, hs.output, hs.size, hs.block, fun j hb hj => ?_, fun j j' g n n' h1 h2 => hs.inj j j' g n n' ?_ ?_, by rw [hf]; exact hs.kept, hs.shape, hs.sg0⟩, hf⟩
 ·rw [hf]
  by_cases hjk : j = k
  ·subst hjk; rw [hk'] at hj; cases hj; exact hok
  ·exact hs.hp j hb (by rw [← ho j hjk]; exact hj)
 ·by_cases hjk : j = k
  ·subst hjk; rw [hk]; simp
  ·rw [← ho j hjk]; exact h1
 ·by_cases hjk : j' = k
  ·subst hjk; rw [hk]; simp
  ·rw [← ho j' hjk]; exact h2
theorem CallS.opt {P : Program} {f : FuncId} {args : List PV} {K T K' o : Nat} {l : List D} {rf out : Rf} {res : PV}
  (h1 : CallS P f args [] ((K, .box T (nilP :: l)) :: rf) res out) (h2 : CallS P f args [] ((K, .box T (.ptr K' o :: l)) :: rf) res out) :
  CallS P f args [] ((K, .box T (.optp K' o :: l)) :: rf) res out := by
 refine ⟨h1.1, fun c vs hc hdf hf hs ha => ?_⟩
 have hat : ∀ b, hpL ([] ++ (K, b) :: rf) K = some b := fun b => by unfold hpL; rw [List.nil_append]; simp
 have hoth : ∀ b b' j, j ≠ K → hpL ([] ++ (K, b) :: rf) j = hpL ([] ++ (K, b') :: rf) j := fun b b' j hj => by
  simp only [List.nil_append, hpL]
  have : Nat.beq j K = false := by rw [Bool.eq_false_iff]; intro e; exact hj (Nat.eq_of_beq_eq_true e)
  rw [this]; rfl
 obtain ⟨g, n, cs, e1, e2, e3, e4⟩ := hs.hp K _ (hat _)
 cases hcs : cs.toList with
 | nil => rw [hcs] at e4; unfold DsRep at e4; exact e4.elim
 | cons u us =>
  rw [hcs] at e4
  unfold DsRep at e4
  obtain ⟨e4, e5⟩ := e4
  unfold DRep at e4
  rcases e4 with rfl | ⟨g', n', q1, q2⟩
  ·obtain ⟨r1, r2⟩ := sw_swap (l' := nilP :: l) hs (hat _) (hat _) (fun j hj => hoth _ _ j hj) ⟨g, n, cs, e1, e2, e3, by
    rw [hcs]; unfold DsRep; exact ⟨by unfold DRep CRep; exact ⟨rfl, rfl⟩, e5⟩⟩
   exact h1.2 c vs hc hdf (fun k hk => hf k hk) r1 (by rw [r2]; exact ha)
  ·obtain ⟨r1, r2⟩ := sw_swap (l' := .ptr K' o :: l) hs (hat _) (hat _) (fun j hj => hoth _ _ j hj) ⟨g, n, cs, e1, e2, e3, by
    rw [hcs]; unfold DsRep; exact ⟨by unfold DRep; exact ⟨g', n', q1, q2⟩, e5⟩⟩
   exact h2.2 c vs hc hdf (fun k hk => hf k hk) r1 (by rw [r2]; exact ha)
theorem writeString_used (l : List (List C)) (s : ByteArray) (hs : l.length + s.size ≤ 140737488355328) : CallS Tryd.prog 23 [.d (.ptr FK 0), pStr s] [] [(FK, .box tBld [.ptr FK 0, .app FK1 tByte 1 l]), (FK1, .tail tByte 1)] (.tup [pInt .i64 s.size, .d (.c (.v .nilIface))]) [(FK, .box tBld [.ptr FK 0, .app NK tByte 1 (l ++ bRows s)]), (NK, .tail tByte 1)] := by
 refine callS_of Tryd.func23 (by rfl) rfl (by kernel_rfl) (by rfl) [FK, FK1] rfl ?_
 ((conv => whnf); repeat ((with_reducible first | refine BCase.tt ?_ | refine BCase.ff ?_); (conv => whnf)))
 refine CallP.ret [(FK, FK), (FK1, FK1)] _ _ _ _ _ _ _ (copyCheck_used l) rfl rfl rfl rfl ⟨rfl, rfl, trivial⟩ ?_
 ((conv => whnf); repeat ((with_reducible first | refine BCase.tt ?_ | refine BCase.ff ?_); (conv => whnf)))
 refine Need.mk (by show _ * 1 ≤ _; omega) ?_
 ((conv => whnf); repeat ((with_reducible first | refine BCase.tt ?_ | refine BCase.ff ?_); (conv => whnf)))
 refine RetS.mk [(FK, FK), (FK1, FK1), (NK, 14)] [FK, FK1, NK] rfl rfl ?_ ?_ <;> (repeat' (first | exact rfl | exact trivial | exact Or.inl rfl | refine And.intro ?_ ?_))
theorem writeString_nil (l : List (List C)) (s : ByteArray) (hs : l.length + s.size ≤ 140737488355328) : CallS Tryd.prog 23 [.d (.ptr FK 0), pStr s] [] [(FK, .box tBld [nilP, .app FK1 tByte 1 l]), (FK1, .tail tByte 1)] (.tup [pInt .i64 s.size, .d (.c (.v .nilIface))]) [(FK, .box tBld [.ptr FK 0, .app NK tByte 1 (l ++ bRows s)]), (NK, .tail tByte 1)] := by
 refine callS_of Tryd.func23 (by rfl) rfl (by kernel_rfl) (by rfl) [FK, FK1] rfl ?_
 ((conv => whnf); repeat ((with_reducible first | refine BCase.tt ?_ | refine BCase.ff ?_); (conv => whnf)))
 refine CallP.ret [(FK, FK), (FK1, FK1)] _ _ _ _ _ _ _ (copyCheck_nil l) rfl rfl rfl rfl ⟨rfl, rfl, trivial⟩ ?_
 ((conv => whnf); repeat ((with_reducible first | refine BCase.tt ?_ | refine BCase.ff ?_); (conv => whnf)))
 refine Need.mk (by show _ * 1 ≤ _; omega) ?_
 ((conv => whnf); repeat ((with_reducible first | refine BCase.tt ?_ | refine BCase.ff ?_); (conv => whnf)))
 refine RetS.mk [(FK, FK), (FK1, FK1), (NK, 14)] [FK, FK1, NK] rfl rfl ?_ ?_ <;> (repeat' (first | exact rfl | exact trivial | exact Or.inl rfl | refine And.intro ?_ ?_))
theorem writeString_opt (l : List (List C)) (s : ByteArray) (hs : l.length + s.size ≤ 140737488355328) : CallS Tryd.prog 23 [.d (.ptr FK 0), pStr s] [] [(FK, .box tBld [.optp FK 0, .app FK1 tByte 1 l]), (FK1, .tail tByte 1)] (.tup [pInt .i64 s.size, .d (.c (.v .nilIface))]) [(FK, .box tBld [.ptr FK 0, .app NK tByte 1 (l ++ bRows s)]), (NK, .tail tByte 1)] :=
 CallS.opt (writeString_nil l s hs) (writeString_used l s hs)
theorem writeByte_used (l : List (List C)) (b : Int) (hs : l.length + 1 ≤ 140737488355328) : CallS Tryd.prog 22 [.d (.ptr FK 0), pInt .u8 b] [] [(FK, .box tBld [.ptr FK 0, .app FK1 tByte 1 l]), (FK1, .tail tByte 1)] (.d (.c (.v .nilIface))) [(FK, .box tBld [.ptr FK 0, .app NK tByte 1 (l ++ [[.v (.int .u8 b)]])]), (NK, .tail tByte 1)] := by
 refine callS_of Tryd.func22 (by rfl) rfl (by kernel_rfl) (by rfl) [FK, FK1] rfl ?_
 ((conv => whnf); repeat ((with_reducible first | refine BCase.tt ?_ | refine BCase.ff ?_); (conv => whnf)))
 refine CallP.ret [(FK, FK), (FK1, FK1)] _ _ _ _ _ _ _ (copyCheck_used l) rfl rfl rfl rfl ⟨rfl, rfl, trivial⟩ ?_
 ((conv => whnf); repeat ((with_reducible first | refine BCase.tt ?_ | refine BCase.ff ?_); (conv => whnf)))
 refine Need.mk (by show (_ + 1) * 1 ≤ _; omega) ?_
 ((conv => whnf); repeat ((with_reducible first | refine BCase.tt ?_ | refine BCase.ff ?_); (conv => whnf)))
 refine RetS.mk [(FK, FK), (FK1, FK1), (NK, 14)] [FK, FK1, NK] rfl rfl ?_ ?_ <;> (repeat' (first | exact rfl | exact trivial | exact Or.inl rfl | refine And.intro ?_ ?_))
theorem writeByte_nil (l : List (List C)) (b : Int) (hs : l.length + 1 ≤ 140737488355328) : CallS Tryd.prog 22 [.d (.ptr FK 0), pInt .u8 b] [] [(FK, .box tBld [nilP, .app FK1 tByte 1 l]), (FK1, .tail tByte 1)] (.d (.c (.v .nilIface))) [(FK, .box tBld [.ptr FK 0, .app NK tByte 1 (l ++ [[.v (.int .u8 b)]])]), (NK, .tail tByte 1)] := by
 refine callS_of Tryd.func22 (by rfl) rfl (by kernel_rfl) (by rfl) [FK, FK1] rfl ?_
 ((conv => whnf); repeat ((with_reducible first | refine BCase.tt ?_ | refine BCase.ff ?_); (conv => whnf)))
 refine CallP.ret [(FK, FK), (FK1, FK1)] _ _ _ _ _ _ _ (copyCheck_nil l) rfl rfl rfl rfl ⟨rfl, rfl, trivial⟩ ?_
 ((conv => whnf); repeat ((with_reducible first | refine BCase.tt ?_ | refine BCase.ff ?_); (conv => whnf)))
 refine Need.mk (by show (_ + 1) * 1 ≤ _; omega) ?_
 ((conv => whnf); repeat ((with_reducible first | refine BCase.tt ?_ | refine BCase.ff ?_); (conv => whnf)))
 refine RetS.mk [(FK, FK), (FK1, FK1), (NK, 14)] [FK, FK1, NK] rfl rfl ?_ ?_ <;> (repeat' (first | exact rfl | exact trivial | exact Or.inl rfl | refine And.intro ?_ ?_))
theorem writeByte_opt (l : List (List C)) (b : Int) (hs : l.length + 1 ≤ 140737488355328) : CallS Tryd.prog 22 [.d (.ptr FK 0), pInt .u8 b] [] [(FK, .box tBld [.optp FK 0, .app FK1 tByte 1 l]), (FK1, .tail tByte 1)] (.d (.c (.v .nilIface))) [(FK, .box tBld [.ptr FK 0, .app NK tByte 1 (l ++ [[.v (.int .u8 b)]])]), (NK, .tail tByte 1)] :=
 CallS.opt (writeByte_nil l b hs) (writeByte_used l b hs)
theorem string_of (l : List UInt8) : CallS Tryd.prog 26 [.d (.ptr FK 0)] [] [(FK, .box tBld [.optp FK 0, .app FK1 tByte 1 (byteRows l)]), (FK1, .tail tByte 1)] (pStr ⟨l.toArray⟩) [] := by
 refine callS_of Tryd.func26 (by rfl) rfl (by kernel_rfl) (by rfl) [FK, FK1] rfl ?_
 ((conv => whnf); repeat ((with_reducible first | refine BCase.tt ?_ | refine BCase.ff ?_); (conv => whnf)))
 refine Need.mk rfl ?_
 ((conv => whnf); repeat ((with_reducible first | refine BCase.tt ?_ | refine BCase.ff ?_); (conv => whnf)))
 refine Bytes.mk l rfl ?_
 ((conv => whnf); repeat ((with_reducible first | refine BCase.tt ?_ | refine BCase.ff ?_); (conv => whnf)))
 refine RetS.mk [(FK, FK), (FK1, FK1)] [FK, FK1] rfl rfl ?_ ?_ <;> (repeat' (first | exact rfl | exact trivial | exact Or.inl rfl | refine And.intro ?_ ?_))
end Go.Proofs.YtjbopncobegleaaDoor.Pm
end
section
namespace Go.Proofs.YtjbopncobegleaaDoor.Pm
open Go.RowKit
set_option linter.unusedVariables false
set_option linter.unusedSimpArgs false
set_option maxRecDepth 100000
theorem builder_len (l : List (List C)) : CallS Tryd.prog 25 [.d (.ptr FK 0)] [(FK, .box tBld [.optp FK 0, .app FK1 tByte 1 l]), (FK1, .tail tByte 1)] [] (pInt .i64 l.length) [] := by
 refine callS_of Tryd.func25 (by rfl) rfl (by kernel_rfl) (by rfl) [FK, FK1] rfl ?_
 ((conv => whnf); repeat' ((first | (with_reducible first | apply a_ | apply b_ | apply c_) | ((with_reducible first | apply d_ | apply e_ | apply f_ | apply g_); focus first | omega | (simp only [q_] <;> omega)) | ((with_reducible first | apply i_ | apply h_); focus first | omega | (simp only [q_] <;> omega)) | ((with_reducible apply h_); focus first | decide | kernel_rfl) | refine BCase.t (by decide) ?_ | refine BCase.f (by decide) ?_ | with_reducible first | apply l_ | apply m_ | apply n_ | apply o_ | refine p_ (fun _ => ?_) (fun _ => ?_)) <;> (conv => whnf)))
 refine RetS.mk [(FK, FK), (FK1, FK1)] [FK, FK1] rfl rfl ?_ ?_ <;> (repeat' (first | exact rfl | exact trivial | exact Or.inl rfl | refine And.intro ?_ ?_))
end Go.Proofs.YtjbopncobegleaaDoor.Pm
end
section
namespace Go.Proofs.YtjbopncobegleaaDoor.Pm
open Go.RowKit K
set_option linter.unusedVariables false
set_option linter.unusedSimpArgs false
set_option maxRecDepth 100000
def tFrm (t : TokenD) : Prop := (t.Kind = 2 ∧ t.S ≠ []) ∨ (t.Kind ≠ 2 ∧ t.N ≠ 0) ∨ (t.Kind = 1 ∧ wordB t.S = false) ∨ (t.Kind = 5 ∧ (t.S = [] ∨ sigL t.S ≠ t.S.length))
instance (t : TokenD) : Decidable (tFrm t) := by unfold tFrm; exact inferInstance
def tLong (t : TokenD) : Prop := (t.Kind = 1 ∧ 12 < t.S.length) ∨ ((t.Kind = 3 ∨ t.Kind = 4) ∧ 16 < t.S.length)
instance (t : TokenD) : Decidable (tLong t) := by unfold tLong; exact inferInstance
def tChk (t : TokenD) : Int := if t.Kind < 1 ∨ 5 < t.Kind then 7 else if tFrm t then 1 else if tLong t then 2 else if t.N < 0 then 3 else 0
theorem p_tcheck (t : TokenD) (ht : okText t.S) : Pure Tryd.prog 53 [tV t] (pInt .i64 (tChk t)) := by
 have tz := tx_size t.S
 have he := tx_empty (l := t.S)
 have pw := p_isword t.S ht
 unfold tChk
 refine pure_of Tryd.func53 (by rfl) rfl (by kernel_rfl) (by rfl) ?_
 by_cases h1 : t.Kind < 1 ∨ 5 < t.Kind
 ·rw [if_pos h1]
  ((conv => whnf); repeat' ((first | (with_reducible first | apply a_ | apply b_ | apply c_) | ((with_reducible first | apply d_ | apply e_ | apply f_ | apply g_); focus first | omega | (simp only [q_] <;> omega)) | ((with_reducible first | apply i_ | apply h_); focus first | omega | (simp only [q_] <;> omega)) | ((with_reducible apply h_); focus first | decide | kernel_rfl) | refine BCase.t (by decide) ?_ | refine BCase.f (by decide) ?_ | with_reducible first | apply l_ | apply m_ | apply n_ | apply o_ | refine p_ (fun _ => ?_) (fun _ => ?_)) <;> (conv => whnf)))
  all_goals first | exact Ret.int rfl | (exfalso; omega)
 rw [if_neg h1]
 by_cases k2 : t.Kind = 2
 ·by_cases hs : t.S = []
  ·have hx : ¬ ¬ tx t.S = ⟨#[]⟩ := not_not_intro (he.2 hs)
   rw [if_neg (show ¬ tFrm t by rintro (⟨_, x⟩ | ⟨x, _⟩ | ⟨x, _⟩ | ⟨x, _⟩) <;> first | exact x hs | exact x k2 | omega), if_neg (show ¬ tLong t by rintro (⟨x, _⟩ | ⟨x, _⟩) <;> omega)]
   by_cases hn : t.N < 0
   ·rw [if_pos hn]
    ((conv => whnf); repeat' ((first | (with_reducible first | apply a_ | apply b_ | apply c_) | ((with_reducible first | apply d_ | apply e_ | apply f_ | apply g_); focus first | omega | (simp only [q_] <;> omega)) | ((with_reducible first | apply i_ | apply h_); focus first | omega | (simp only [q_] <;> omega)) | ((with_reducible apply h_); focus first | decide | kernel_rfl) | refine BCase.t (by decide) ?_ | refine BCase.f (by decide) ?_ | (refine BCase.df hx ?_) | with_reducible first | apply l_ | apply m_ | apply n_ | apply o_ | refine p_ (fun _ => ?_) (fun _ => ?_)) <;> (conv => whnf)))
    all_goals first | exact Ret.int rfl | (exfalso; omega)
   ·rw [if_neg hn]
    ((conv => whnf); repeat' ((first | (with_reducible first | apply a_ | apply b_ | apply c_) | ((with_reducible first | apply d_ | apply e_ | apply f_ | apply g_); focus first | omega | (simp only [q_] <;> omega)) | ((with_reducible first | apply i_ | apply h_); focus first | omega | (simp only [q_] <;> omega)) | ((with_reducible apply h_); focus first | decide | kernel_rfl) | refine BCase.t (by decide) ?_ | refine BCase.f (by decide) ?_ | (refine BCase.df hx ?_) | with_reducible first | apply l_ | apply m_ | apply n_ | apply o_ | refine p_ (fun _ => ?_) (fun _ => ?_)) <;> (conv => whnf)))
    all_goals first | exact Ret.int rfl | (exfalso; omega)
  ·have hx : ¬ tx t.S = ⟨#[]⟩ := fun x => hs (he.1 x)
   rw [if_pos (show tFrm t from .inl ⟨k2, hs⟩)]
   ((conv => whnf); repeat' ((first | (with_reducible first | apply a_ | apply b_ | apply c_) | ((with_reducible first | apply d_ | apply e_ | apply f_ | apply g_); focus first | omega | (simp only [q_] <;> omega)) | ((with_reducible first | apply i_ | apply h_); focus first | omega | (simp only [q_] <;> omega)) | ((with_reducible apply h_); focus first | decide | kernel_rfl) | refine BCase.t (by decide) ?_ | refine BCase.f (by decide) ?_ | (refine BCase.dt hx ?_) | with_reducible first | apply l_ | apply m_ | apply n_ | apply o_ | refine p_ (fun _ => ?_) (fun _ => ?_)) <;> (conv => whnf)))
   all_goals first | exact Ret.int rfl | (exfalso; omega)
 ·by_cases hn0 : t.N = 0
  ·have hnn : ¬ t.N < 0 := by omega
   by_cases k1 : t.Kind = 1
   ·cases hw : wordB t.S with
    | false =>
     rw [hw] at pw
     rw [if_pos (show tFrm t from .inr (.inr (.inl ⟨k1, hw⟩)))]
     ((conv => whnf); repeat' ((first | (with_reducible first | apply a_ | apply b_ | apply c_) | ((with_reducible first | apply d_ | apply e_ | apply f_ | apply g_); focus first | omega | (simp only [q_] <;> omega)) | ((with_reducible first | apply i_ | apply h_); focus first | omega | (simp only [q_] <;> omega)) | ((with_reducible apply h_); focus first | decide | kernel_rfl) | refine BCase.t (by decide) ?_ | refine BCase.f (by decide) ?_ | refine CallP.pure _ rfl _ (pw) ?_ | with_reducible first | apply l_ | apply m_ | apply n_ | apply o_ | refine p_ (fun _ => ?_) (fun _ => ?_)) <;> (conv => whnf)))
     all_goals first | exact Ret.int rfl | (exfalso; omega)
    | true =>
     rw [hw] at pw
     rw [if_neg (show ¬ tFrm t by rintro (⟨x, _⟩ | ⟨_, x⟩ | ⟨_, x⟩ | ⟨x, _⟩) <;> first | exact k2 x | exact x hn0 | exact absurd (hw.symm.trans x) (by decide) | omega)]
     by_cases h12 : 12 < t.S.length
     ·rw [if_pos (show tLong t from .inl ⟨k1, h12⟩)]
      ((conv => whnf); repeat' ((first | (with_reducible first | apply a_ | apply b_ | apply c_) | ((with_reducible first | apply d_ | apply e_ | apply f_ | apply g_); focus first | omega | (simp only [q_] <;> omega)) | ((with_reducible first | apply i_ | apply h_); focus first | omega | (simp only [q_] <;> omega)) | ((with_reducible apply h_); focus first | decide | kernel_rfl) | refine BCase.t (by decide) ?_ | refine BCase.f (by decide) ?_ | refine CallP.pure _ rfl _ (pw) ?_ | with_reducible first | apply l_ | apply m_ | apply n_ | apply o_ | refine p_ (fun _ => ?_) (fun _ => ?_)) <;> (conv => whnf)))
      all_goals first | exact Ret.int rfl | (exfalso; omega)
     ·rw [if_neg (show ¬ tLong t by rintro (⟨_, x⟩ | ⟨x, _⟩) <;> omega), if_neg hnn]
      ((conv => whnf); repeat' ((first | (with_reducible first | apply a_ | apply b_ | apply c_) | ((with_reducible first | apply d_ | apply e_ | apply f_ | apply g_); focus first | omega | (simp only [q_] <;> omega)) | ((with_reducible first | apply i_ | apply h_); focus first | omega | (simp only [q_] <;> omega)) | ((with_reducible apply h_); focus first | decide | kernel_rfl) | refine BCase.t (by decide) ?_ | refine BCase.f (by decide) ?_ | refine CallP.pure _ rfl _ (pw) ?_ | with_reducible first | apply l_ | apply m_ | apply n_ | apply o_ | refine p_ (fun _ => ?_) (fun _ => ?_)) <;> (conv => whnf)))
      all_goals first | exact Ret.int rfl | (exfalso; omega)
   ·by_cases k5 : t.Kind = 5
    ·by_cases hs : t.S = []
     ·have hx : tx t.S = ⟨#[]⟩ := he.2 hs
      rw [if_pos (show tFrm t from .inr (.inr (.inr ⟨k5, .inl hs⟩)))]
      ((conv => whnf); repeat' ((first | (with_reducible first | apply a_ | apply b_ | apply c_) | ((with_reducible first | apply d_ | apply e_ | apply f_ | apply g_); focus first | omega | (simp only [q_] <;> omega)) | ((with_reducible first | apply i_ | apply h_); focus first | omega | (simp only [q_] <;> omega)) | ((with_reducible apply h_); focus first | decide | kernel_rfl) | refine BCase.t (by decide) ?_ | refine BCase.f (by decide) ?_ | refine CallP.pure _ rfl _ (pw) ?_ | (refine BCase.dt hx ?_) | with_reducible first | apply l_ | apply m_ | apply n_ | apply o_ | refine p_ (fun _ => ?_) (fun _ => ?_)) <;> (conv => whnf)))
      all_goals first | exact Ret.int rfl | (exfalso; omega)
     ·have hx : ¬ tx t.S = ⟨#[]⟩ := fun x => hs (he.1 x)
      have ps := p_signEnd t.S ht 0 (List.length_pos_iff.2 hs)
      rw [List.drop_zero, Nat.zero_add] at ps
      by_cases hg : sigL t.S = t.S.length
      ·rw [if_neg (show ¬ tFrm t by rintro (⟨x, _⟩ | ⟨_, x⟩ | ⟨x, _⟩ | ⟨_, x | x⟩) <;> first | exact k2 x | exact x hn0 | omega | exact hs x | exact x hg), if_neg (show ¬ tLong t by rintro (⟨x, _⟩ | ⟨x, _⟩) <;> omega), if_neg hnn]
       ((conv => whnf); repeat' ((first | (with_reducible first | apply a_ | apply b_ | apply c_) | ((with_reducible first | apply d_ | apply e_ | apply f_ | apply g_); focus first | omega | (simp only [q_] <;> omega)) | ((with_reducible first | apply i_ | apply h_); focus first | omega | (simp only [q_] <;> omega)) | ((with_reducible apply h_); focus first | decide | kernel_rfl) | refine BCase.t (by decide) ?_ | refine BCase.f (by decide) ?_ | refine CallP.pure _ rfl _ (pw) ?_ | refine CallP.pure _ rfl _ (ps) ?_ | (refine BCase.df hx ?_) | with_reducible first | apply l_ | apply m_ | apply n_ | apply o_ | refine p_ (fun _ => ?_) (fun _ => ?_)) <;> (conv => whnf)))
       all_goals first | exact Ret.int rfl | (exfalso; omega)
      ·rw [if_pos (show tFrm t from .inr (.inr (.inr ⟨k5, .inr hg⟩)))]
       ((conv => whnf); repeat' ((first | (with_reducible first | apply a_ | apply b_ | apply c_) | ((with_reducible first | apply d_ | apply e_ | apply f_ | apply g_); focus first | omega | (simp only [q_] <;> omega)) | ((with_reducible first | apply i_ | apply h_); focus first | omega | (simp only [q_] <;> omega)) | ((with_reducible apply h_); focus first | decide | kernel_rfl) | refine BCase.t (by decide) ?_ | refine BCase.f (by decide) ?_ | refine CallP.pure _ rfl _ (pw) ?_ | refine CallP.pure _ rfl _ (ps) ?_ | (refine BCase.df hx ?_) | with_reducible first | apply l_ | apply m_ | apply n_ | apply o_ | refine p_ (fun _ => ?_) (fun _ => ?_)) <;> (conv => whnf)))
       all_goals first | exact Ret.int rfl | (exfalso; omega)
    ·rw [if_neg (show ¬ tFrm t by rintro (⟨x, _⟩ | ⟨_, x⟩ | ⟨x, _⟩ | ⟨x, _⟩) <;> first | exact k2 x | exact x hn0 | omega)]
     by_cases h16 : 16 < t.S.length
     ·rw [if_pos (show tLong t from .inr ⟨by omega, h16⟩)]
      ((conv => whnf); repeat' ((first | (with_reducible first | apply a_ | apply b_ | apply c_) | ((with_reducible first | apply d_ | apply e_ | apply f_ | apply g_); focus first | omega | (simp only [q_] <;> omega)) | ((with_reducible first | apply i_ | apply h_); focus first | omega | (simp only [q_] <;> omega)) | ((with_reducible apply h_); focus first | decide | kernel_rfl) | refine BCase.t (by decide) ?_ | refine BCase.f (by decide) ?_ | refine CallP.pure _ rfl _ (pw) ?_ | with_reducible first | apply l_ | apply m_ | apply n_ | apply o_ | refine p_ (fun _ => ?_) (fun _ => ?_)) <;> (conv => whnf)))
      all_goals first | exact Ret.int rfl | (exfalso; omega)
     ·rw [if_neg (show ¬ tLong t by rintro (⟨x, _⟩ | ⟨_, x⟩) <;> omega), if_neg hnn]
      ((conv => whnf); repeat' ((first | (with_reducible first | apply a_ | apply b_ | apply c_) | ((with_reducible first | apply d_ | apply e_ | apply f_ | apply g_); focus first | omega | (simp only [q_] <;> omega)) | ((with_reducible first | apply i_ | apply h_); focus first | omega | (simp only [q_] <;> omega)) | ((with_reducible apply h_); focus first | decide | kernel_rfl) | refine BCase.t (by decide) ?_ | refine BCase.f (by decide) ?_ | refine CallP.pure _ rfl _ (pw) ?_ | with_reducible first | apply l_ | apply m_ | apply n_ | apply o_ | refine p_ (fun _ => ?_) (fun _ => ?_)) <;> (conv => whnf)))
      all_goals first | exact Ret.int rfl | (exfalso; omega)
  ·rw [if_pos (show tFrm t from .inr (.inl ⟨k2, hn0⟩))]
   ((conv => whnf); repeat' ((first | (with_reducible first | apply a_ | apply b_ | apply c_) | ((with_reducible first | apply d_ | apply e_ | apply f_ | apply g_); focus first | omega | (simp only [q_] <;> omega)) | ((with_reducible first | apply i_ | apply h_); focus first | omega | (simp only [q_] <;> omega)) | ((with_reducible apply h_); focus first | decide | kernel_rfl) | refine BCase.t (by decide) ?_ | refine BCase.f (by decide) ?_ | refine CallP.pure _ rfl _ (pw) ?_ | with_reducible first | apply l_ | apply m_ | apply n_ | apply o_ | refine p_ (fun _ => ?_) (fun _ => ?_)) <;> (conv => whnf)))
   all_goals first | exact Ret.int rfl | (exfalso; omega)
theorem p_tcheckref (t : TokenD) (ht : okText t.S) : Pure Tryd.prog 27 [tV t] (pInt .i64 (tChk t)) := by
 have tz := tx_size t.S
 have he := tx_empty (l := t.S)
 have pw := p_iswordref t.S ht
 have ps := p_issign t.S ht
 unfold tChk
 refine pure_of Tryd.func27 (by rfl) rfl (by kernel_rfl) (by rfl) ?_
 by_cases h1 : t.Kind < 1 ∨ 5 < t.Kind
 ·rw [if_pos h1]
  ((conv => whnf); repeat' ((first | (with_reducible first | apply a_ | apply b_ | apply c_) | ((with_reducible first | apply d_ | apply e_ | apply f_ | apply g_); focus first | omega | (simp only [q_] <;> omega)) | ((with_reducible first | apply i_ | apply h_); focus first | omega | (simp only [q_] <;> omega)) | ((with_reducible apply h_); focus first | decide | kernel_rfl) | refine BCase.t (by decide) ?_ | refine BCase.f (by decide) ?_ | with_reducible first | apply l_ | apply m_ | apply n_ | apply o_ | refine p_ (fun _ => ?_) (fun _ => ?_)) <;> (conv => whnf)))
  all_goals first | exact Ret.int rfl | (exfalso; omega)
 rw [if_neg h1]
 by_cases k2 : t.Kind = 2
 ·by_cases hs : t.S = []
  ·have hx : ¬ ¬ tx t.S = ⟨#[]⟩ := not_not_intro (he.2 hs)
   rw [if_neg (show ¬ tFrm t by rintro (⟨_, x⟩ | ⟨x, _⟩ | ⟨x, _⟩ | ⟨x, _⟩) <;> first | exact x hs | exact x k2 | omega), if_neg (show ¬ tLong t by rintro (⟨x, _⟩ | ⟨x, _⟩) <;> omega)]
   by_cases hn : t.N < 0
   ·rw [if_pos hn]
    ((conv => whnf); repeat' ((first | (with_reducible first | apply a_ | apply b_ | apply c_) | ((with_reducible first | apply d_ | apply e_ | apply f_ | apply g_); focus first | omega | (simp only [q_] <;> omega)) | ((with_reducible first | apply i_ | apply h_); focus first | omega | (simp only [q_] <;> omega)) | ((with_reducible apply h_); focus first | decide | kernel_rfl) | refine BCase.t (by decide) ?_ | refine BCase.f (by decide) ?_ | (refine BCase.df hx ?_) | with_reducible first | apply l_ | apply m_ | apply n_ | apply o_ | refine p_ (fun _ => ?_) (fun _ => ?_)) <;> (conv => whnf)))
    all_goals first | exact Ret.int rfl | (exfalso; omega)
   ·rw [if_neg hn]
    ((conv => whnf); repeat' ((first | (with_reducible first | apply a_ | apply b_ | apply c_) | ((with_reducible first | apply d_ | apply e_ | apply f_ | apply g_); focus first | omega | (simp only [q_] <;> omega)) | ((with_reducible first | apply i_ | apply h_); focus first | omega | (simp only [q_] <;> omega)) | ((with_reducible apply h_); focus first | decide | kernel_rfl) | refine BCase.t (by decide) ?_ | refine BCase.f (by decide) ?_ | (refine BCase.df hx ?_) | with_reducible first | apply l_ | apply m_ | apply n_ | apply o_ | refine p_ (fun _ => ?_) (fun _ => ?_)) <;> (conv => whnf)))
    all_goals first | exact Ret.int rfl | (exfalso; omega)
  ·have hx : ¬ tx t.S = ⟨#[]⟩ := fun x => hs (he.1 x)
   rw [if_pos (show tFrm t from .inl ⟨k2, hs⟩)]
   ((conv => whnf); repeat' ((first | (with_reducible first | apply a_ | apply b_ | apply c_) | ((with_reducible first | apply d_ | apply e_ | apply f_ | apply g_); focus first | omega | (simp only [q_] <;> omega)) | ((with_reducible first | apply i_ | apply h_); focus first | omega | (simp only [q_] <;> omega)) | ((with_reducible apply h_); focus first | decide | kernel_rfl) | refine BCase.t (by decide) ?_ | refine BCase.f (by decide) ?_ | (refine BCase.dt hx ?_) | with_reducible first | apply l_ | apply m_ | apply n_ | apply o_ | refine p_ (fun _ => ?_) (fun _ => ?_)) <;> (conv => whnf)))
   all_goals first | exact Ret.int rfl | (exfalso; omega)
 ·by_cases hn0 : t.N = 0
  ·have hnn : ¬ t.N < 0 := by omega
   by_cases k1 : t.Kind = 1
   ·cases hw : wordB t.S with
    | false =>
     rw [hw] at pw
     rw [if_pos (show tFrm t from .inr (.inr (.inl ⟨k1, hw⟩)))]
     ((conv => whnf); repeat' ((first | (with_reducible first | apply a_ | apply b_ | apply c_) | ((with_reducible first | apply d_ | apply e_ | apply f_ | apply g_); focus first | omega | (simp only [q_] <;> omega)) | ((with_reducible first | apply i_ | apply h_); focus first | omega | (simp only [q_] <;> omega)) | ((with_reducible apply h_); focus first | decide | kernel_rfl) | refine BCase.t (by decide) ?_ | refine BCase.f (by decide) ?_ | refine CallP.pure _ rfl _ (pw) ?_ | with_reducible first | apply l_ | apply m_ | apply n_ | apply o_ | refine p_ (fun _ => ?_) (fun _ => ?_)) <;> (conv => whnf)))
     all_goals first | exact Ret.int rfl | (exfalso; omega)
    | true =>
     rw [hw] at pw
     rw [if_neg (show ¬ tFrm t by rintro (⟨x, _⟩ | ⟨_, x⟩ | ⟨_, x⟩ | ⟨x, _⟩) <;> first | exact k2 x | exact x hn0 | exact absurd (hw.symm.trans x) (by decide) | omega)]
     by_cases h12 : 12 < t.S.length
     ·rw [if_pos (show tLong t from .inl ⟨k1, h12⟩)]
      ((conv => whnf); repeat' ((first | (with_reducible first | apply a_ | apply b_ | apply c_) | ((with_reducible first | apply d_ | apply e_ | apply f_ | apply g_); focus first | omega | (simp only [q_] <;> omega)) | ((with_reducible first | apply i_ | apply h_); focus first | omega | (simp only [q_] <;> omega)) | ((with_reducible apply h_); focus first | decide | kernel_rfl) | refine BCase.t (by decide) ?_ | refine BCase.f (by decide) ?_ | refine CallP.pure _ rfl _ (pw) ?_ | with_reducible first | apply l_ | apply m_ | apply n_ | apply o_ | refine p_ (fun _ => ?_) (fun _ => ?_)) <;> (conv => whnf)))
      all_goals first | exact Ret.int rfl | (exfalso; omega)
     ·rw [if_neg (show ¬ tLong t by rintro (⟨_, x⟩ | ⟨x, _⟩) <;> omega), if_neg hnn]
      ((conv => whnf); repeat' ((first | (with_reducible first | apply a_ | apply b_ | apply c_) | ((with_reducible first | apply d_ | apply e_ | apply f_ | apply g_); focus first | omega | (simp only [q_] <;> omega)) | ((with_reducible first | apply i_ | apply h_); focus first | omega | (simp only [q_] <;> omega)) | ((with_reducible apply h_); focus first | decide | kernel_rfl) | refine BCase.t (by decide) ?_ | refine BCase.f (by decide) ?_ | refine CallP.pure _ rfl _ (pw) ?_ | with_reducible first | apply l_ | apply m_ | apply n_ | apply o_ | refine p_ (fun _ => ?_) (fun _ => ?_)) <;> (conv => whnf)))
      all_goals first | exact Ret.int rfl | (exfalso; omega)
   ·by_cases k5 : t.Kind = 5
    ·by_cases hs : t.S = []
     ·have hx : tx t.S = ⟨#[]⟩ := he.2 hs
      rw [if_pos (show tFrm t from .inr (.inr (.inr ⟨k5, .inl hs⟩)))]
      ((conv => whnf); repeat' ((first | (with_reducible first | apply a_ | apply b_ | apply c_) | ((with_reducible first | apply d_ | apply e_ | apply f_ | apply g_); focus first | omega | (simp only [q_] <;> omega)) | ((with_reducible first | apply i_ | apply h_); focus first | omega | (simp only [q_] <;> omega)) | ((with_reducible apply h_); focus first | decide | kernel_rfl) | refine BCase.t (by decide) ?_ | refine BCase.f (by decide) ?_ | refine CallP.pure _ rfl _ (pw) ?_ | (refine BCase.dt hx ?_) | with_reducible first | apply l_ | apply m_ | apply n_ | apply o_ | refine p_ (fun _ => ?_) (fun _ => ?_)) <;> (conv => whnf)))
      all_goals first | exact Ret.int rfl | (exfalso; omega)
     ·have hx : ¬ tx t.S = ⟨#[]⟩ := fun x => hs (he.1 x)
      by_cases hg : sigL t.S = t.S.length
      ·rw [if_neg (show ¬ tFrm t by rintro (⟨x, _⟩ | ⟨_, x⟩ | ⟨x, _⟩ | ⟨_, x | x⟩) <;> first | exact k2 x | exact x hn0 | omega | exact hs x | exact x hg), if_neg (show ¬ tLong t by rintro (⟨x, _⟩ | ⟨x, _⟩) <;> omega), if_neg hnn]
       ((conv => whnf); repeat' ((first | (with_reducible first | apply a_ | apply b_ | apply c_) | ((with_reducible first | apply d_ | apply e_ | apply f_ | apply g_); focus first | omega | (simp only [q_] <;> omega)) | ((with_reducible first | apply i_ | apply h_); focus first | omega | (simp only [q_] <;> omega)) | ((with_reducible apply h_); focus first | decide | kernel_rfl) | refine BCase.t (by decide) ?_ | refine BCase.f (by decide) ?_ | refine CallP.pure _ rfl _ (pw) ?_ | refine CallP.pure _ rfl _ (ps) ?_ | (refine BCase.df hx ?_) | with_reducible first | apply l_ | apply m_ | apply n_ | apply o_ | refine p_ (fun _ => ?_) (fun _ => ?_)) <;> (conv => whnf)))
       all_goals first | exact Ret.int rfl | (exfalso; omega)
      ·rw [if_pos (show tFrm t from .inr (.inr (.inr ⟨k5, .inr hg⟩)))]
       ((conv => whnf); repeat' ((first | (with_reducible first | apply a_ | apply b_ | apply c_) | ((with_reducible first | apply d_ | apply e_ | apply f_ | apply g_); focus first | omega | (simp only [q_] <;> omega)) | ((with_reducible first | apply i_ | apply h_); focus first | omega | (simp only [q_] <;> omega)) | ((with_reducible apply h_); focus first | decide | kernel_rfl) | refine BCase.t (by decide) ?_ | refine BCase.f (by decide) ?_ | refine CallP.pure _ rfl _ (pw) ?_ | refine CallP.pure _ rfl _ (ps) ?_ | (refine BCase.df hx ?_) | with_reducible first | apply l_ | apply m_ | apply n_ | apply o_ | refine p_ (fun _ => ?_) (fun _ => ?_)) <;> (conv => whnf)))
       all_goals first | exact Ret.int rfl | (exfalso; omega)
    ·rw [if_neg (show ¬ tFrm t by rintro (⟨x, _⟩ | ⟨_, x⟩ | ⟨x, _⟩ | ⟨x, _⟩) <;> first | exact k2 x | exact x hn0 | omega)]
     by_cases h16 : 16 < t.S.length
     ·rw [if_pos (show tLong t from .inr ⟨by omega, h16⟩)]
      ((conv => whnf); repeat' ((first | (with_reducible first | apply a_ | apply b_ | apply c_) | ((with_reducible first | apply d_ | apply e_ | apply f_ | apply g_); focus first | omega | (simp only [q_] <;> omega)) | ((with_reducible first | apply i_ | apply h_); focus first | omega | (simp only [q_] <;> omega)) | ((with_reducible apply h_); focus first | decide | kernel_rfl) | refine BCase.t (by decide) ?_ | refine BCase.f (by decide) ?_ | refine CallP.pure _ rfl _ (pw) ?_ | with_reducible first | apply l_ | apply m_ | apply n_ | apply o_ | refine p_ (fun _ => ?_) (fun _ => ?_)) <;> (conv => whnf)))
      all_goals first | exact Ret.int rfl | (exfalso; omega)
     ·rw [if_neg (show ¬ tLong t by rintro (⟨x, _⟩ | ⟨_, x⟩) <;> omega), if_neg hnn]
      ((conv => whnf); repeat' ((first | (with_reducible first | apply a_ | apply b_ | apply c_) | ((with_reducible first | apply d_ | apply e_ | apply f_ | apply g_); focus first | omega | (simp only [q_] <;> omega)) | ((with_reducible first | apply i_ | apply h_); focus first | omega | (simp only [q_] <;> omega)) | ((with_reducible apply h_); focus first | decide | kernel_rfl) | refine BCase.t (by decide) ?_ | refine BCase.f (by decide) ?_ | refine CallP.pure _ rfl _ (pw) ?_ | with_reducible first | apply l_ | apply m_ | apply n_ | apply o_ | refine p_ (fun _ => ?_) (fun _ => ?_)) <;> (conv => whnf)))
      all_goals first | exact Ret.int rfl | (exfalso; omega)
  ·rw [if_pos (show tFrm t from .inr (.inl ⟨k2, hn0⟩))]
   ((conv => whnf); repeat' ((first | (with_reducible first | apply a_ | apply b_ | apply c_) | ((with_reducible first | apply d_ | apply e_ | apply f_ | apply g_); focus first | omega | (simp only [q_] <;> omega)) | ((with_reducible first | apply i_ | apply h_); focus first | omega | (simp only [q_] <;> omega)) | ((with_reducible apply h_); focus first | decide | kernel_rfl) | refine BCase.t (by decide) ?_ | refine BCase.f (by decide) ?_ | refine CallP.pure _ rfl _ (pw) ?_ | with_reducible first | apply l_ | apply m_ | apply n_ | apply o_ | refine p_ (fun _ => ?_) (fun _ => ?_)) <;> (conv => whnf)))
   all_goals first | exact Ret.int rfl | (exfalso; omega)
def tChkAll : List TokenD → Int
 | [] => 0
 | t :: l => if tChk t ≠ 0 then tChk t else tChkAll l
theorem tChkAll_skip : ∀ (l : List TokenD) (k : Nat), (∀ x ∈ l.take k, tChk x = 0) → tChkAll l = tChkAll (l.drop k)
 | [], k, _ => by cases k <;> rfl
 | x :: l, 0, _ => rfl
 | x :: l, k + 1, h => by
  have hx : tChk x = 0 := h x (by simp)
  rw [List.drop_succ_cons]
  show (if tChk x ≠ 0 then _ else _) = _
  rw [if_neg (by simp [hx])]
  exact tChkAll_skip l k fun y hy => h y (by simp [hy])
theorem tChkAll_ok : ∀ {l : List TokenD}, tChkAll l = 0 ↔ ∀ x ∈ l, tChk x = 0
 | [] => by simp [tChkAll]
 | x :: l => by
  show (if tChk x ≠ 0 then tChk x else tChkAll l) = 0 ↔ _
  split
  ·rename_i h; simp [h]
  ·rename_i h; rw [tChkAll_ok (l := l)]; simp at h; simp [h]
theorem tChkAll_at {l : List TokenD} {k : Nat} (hk : k < l.length) (h : ∀ x ∈ l.take k, tChk x = 0) (hx : tChk l[k] ≠ 0) : tChkAll l = tChk l[k] := by
 rw [tChkAll_skip l k h, List.drop_eq_getElem_cons hk]
 show (if tChk l[k] ≠ 0 then _ else _) = _
 rw [if_pos hx]
def tAllE (l : List TokenD) : Int := if 120 < l.length then 2 else tChkAll l
abbrev okTk (l : List TokenD) : Prop := okSl (Tryd.prog.bytesOf 29) TokenD.ok l
theorem p_tcheckall (l : List TokenD) (hl : l.length ≤ 140737488355328) (ht : ∀ t ∈ l, okText t.S) : Pure Tryd.prog 21 [slV 4 TokenD.c l] (pInt .i64 (tAllE l)) := by
 refine pure_of Tryd.func21 (by rfl) rfl (by kernel_rfl) (by rfl) ?_
 unfold tAllE
 by_cases h120 : 120 < l.length
 ·rw [if_pos h120]
  ((conv => whnf); repeat' ((first | (with_reducible first | apply a_ | apply b_ | apply c_) | ((with_reducible first | apply d_ | apply e_ | apply f_ | apply g_); focus first | omega | (simp only [q_] <;> omega)) | ((with_reducible first | apply i_ | apply h_); focus first | omega | (simp only [q_] <;> omega)) | ((with_reducible apply h_); focus first | decide | kernel_rfl) | refine BCase.t (by decide) ?_ | refine BCase.f (by decide) ?_ | with_reducible first | apply l_ | apply m_ | apply n_ | apply o_ | refine p_ (fun _ => ?_) (fun _ => ?_)) <;> (conv => whnf)))
  all_goals first | exact Ret.int rfl | (exfalso; omega)
 ·rw [if_neg h120]
  ((conv => whnf); repeat' ((first | (with_reducible first | apply a_ | apply b_ | apply c_) | ((with_reducible first | apply d_ | apply e_ | apply f_ | apply g_); focus first | omega | (simp only [q_] <;> omega)) | ((with_reducible first | apply i_ | apply h_); focus first | omega | (simp only [q_] <;> omega)) | ((with_reducible apply h_); focus first | decide | kernel_rfl) | refine BCase.t (by decide) ?_ | refine BCase.f (by decide) ?_ | with_reducible first | apply l_ | apply m_ | apply n_ | apply o_ | refine p_ (fun _ => ?_) (fun _ => ?_)) <;> (conv => whnf)))
  refine LoopC.mk Nat (fun k => [(9, slV 4 TokenD.c l), (10, pInt .i64 l.length), (11, pInt .i64 (k : Int))]) (fun _ => []) [] (fun k => k ≤ l.length ∧ ∀ x ∈ l.take k, tChk x = 0) (fun k => l.length - k) 0 ⟨Nat.zero_le _, by simp⟩ ?start ?round
  case start => exact ⟨[], rfl, rfl, ⟨.inl rfl, PLe.int (by simp), .inl rfl, trivial⟩, trivial⟩
  case round =>
   rintro k ⟨hk, hz⟩
   have hk : k ≤ l.length := hk
   have hz : ∀ x ∈ l.take k, tChk x = 0 := hz
   by_cases q : k < l.length
   ·have pc := p_tcheck l[k] (ht _ (List.getElem_mem q))
    by_cases hx : tChk l[k] = 0
    ·((conv => whnf); repeat' ((first | (with_reducible first | apply a_ | apply b_ | apply c_) | ((with_reducible first | apply d_ | apply e_ | apply f_ | apply g_); focus first | omega | (simp only [q_] <;> omega)) | ((with_reducible first | apply i_ | apply h_); focus first | omega | (simp only [q_] <;> omega)) | ((with_reducible apply h_); focus first | decide | kernel_rfl) | refine BCase.t (by decide) ?_ | refine BCase.f (by decide) ?_ | (refine Idx.mapI k rfl q ?_) | refine CallP.pure _ rfl _ (pc) ?_ | with_reducible first | apply l_ | apply m_ | apply n_ | apply o_ | refine p_ (fun _ => ?_) (fun _ => ?_)) <;> (conv => whnf)))
     all_goals first
      | (exfalso; omega)
      | skip
     refine ⟨k + 1, ⟨by show k + 1 ≤ _; omega, fun x h => ?_⟩, by show l.length - (k + 1) < l.length - k; omega, [], rfl, rfl, ⟨.inl rfl, .inl rfl, PLe.int (by omega), trivial⟩, trivial⟩
     rw [take_snoc q, List.mem_append, List.mem_singleton] at h
     rcases h with h | rfl
     ·exact hz x h
     ·exact hx
    ·((conv => whnf); repeat' ((first | (with_reducible first | apply a_ | apply b_ | apply c_) | ((with_reducible first | apply d_ | apply e_ | apply f_ | apply g_); focus first | omega | (simp only [q_] <;> omega)) | ((with_reducible first | apply i_ | apply h_); focus first | omega | (simp only [q_] <;> omega)) | ((with_reducible apply h_); focus first | decide | kernel_rfl) | refine BCase.t (by decide) ?_ | refine BCase.f (by decide) ?_ | (refine Idx.mapI k rfl q ?_) | refine CallP.pure _ rfl _ (pc) ?_ | with_reducible first | apply l_ | apply m_ | apply n_ | apply o_ | refine p_ (fun _ => ?_) (fun _ => ?_)) <;> (conv => whnf)))
     all_goals first
      | (exfalso; omega)
      | exact Ret.int (tChkAll_at q hz hx).symm
   ·((conv => whnf); repeat' ((first | (with_reducible first | apply a_ | apply b_ | apply c_) | ((with_reducible first | apply d_ | apply e_ | apply f_ | apply g_); focus first | omega | (simp only [q_] <;> omega)) | ((with_reducible first | apply i_ | apply h_); focus first | omega | (simp only [q_] <;> omega)) | ((with_reducible apply h_); focus first | decide | kernel_rfl) | refine BCase.t (by decide) ?_ | refine BCase.f (by decide) ?_ | with_reducible first | apply l_ | apply m_ | apply n_ | apply o_ | refine p_ (fun _ => ?_) (fun _ => ?_)) <;> (conv => whnf)))
    rw [tChkAll_ok.2 fun x hx => hz x (by rw [List.take_of_length_le (by omega)]; exact hx)]
    exact Ret.int rfl
def tokB (t : TokenD) : List UInt8 := if t.Kind = 1 ∨ t.Kind = 5 then t.S else showV ⟨t.Kind - 1, t.N, t.S⟩
theorem tChk_ok {t : TokenD} (h : tChk t = 0) : (1 ≤ t.Kind ∧ t.Kind ≤ 5) ∧ ¬ tFrm t ∧ ¬ tLong t ∧ 0 ≤ t.N := by
 unfold tChk at h
 split at h
 ·cases h
 ·split at h
  ·cases h
  ·split at h
   ·cases h
   ·split at h
    ·cases h
    ·rename_i a b c d
     exact ⟨by omega, b, c, by omega⟩
theorem tok_val {t : TokenD} (h : tChk t = 0) (h1 : ¬ (t.Kind = 1 ∨ t.Kind = 5)) : vChk ⟨t.Kind - 1, t.N, t.S⟩ = 0 := by
 obtain ⟨hk, hf, hl, hn⟩ := tChk_ok h
 unfold vChk
 rw [if_neg (by show ¬ (t.Kind - 1 < 0 ∨ 3 < t.Kind - 1); omega), if_neg, if_neg]
 ·show ¬ 16 < t.S.length
  intro h16
  by_cases k2 : t.Kind = 2
  ·have : t.S = [] := Decidable.of_not_not fun x => hf (.inl ⟨k2, x⟩)
   rw [this] at h16; simp at h16
  ·exact hl (.inr ⟨by omega, h16⟩)
 ·show ¬ ((t.Kind - 1 ≠ 1 ∧ t.N ≠ 0) ∨ (t.Kind - 1 < 2 ∧ t.S.length ≠ 0))
  rintro (⟨x, y⟩ | ⟨x, y⟩)
  ·exact hf (.inr (.inl ⟨by omega, y⟩))
  ·exact y (by rw [show t.S = [] from Decidable.of_not_not fun z => hf (.inl ⟨by omega, z⟩)]; rfl)
theorem p_tshown (t : TokenD) (h : tChk t = 0) (hn : -9223372036854775808 ≤ t.N ∧ t.N ≤ 9223372036854775807) : Pure Tryd.prog 24 [tV t] (pStr (tx (tokB t))) := by
 obtain ⟨hk, _⟩ := tChk_ok h
 refine pure_of Tryd.func24 (by rfl) rfl (by kernel_rfl) (by rfl) ?_
 unfold tokB
 by_cases h1 : t.Kind = 1 ∨ t.Kind = 5
 ·rw [if_pos h1]
  ((conv => whnf); repeat' ((first | (with_reducible first | apply a_ | apply b_ | apply c_) | ((with_reducible first | apply d_ | apply e_ | apply f_ | apply g_); focus first | omega | (simp only [q_] <;> omega)) | ((with_reducible first | apply i_ | apply h_); focus first | omega | (simp only [q_] <;> omega)) | ((with_reducible apply h_); focus first | decide | kernel_rfl) | refine BCase.t (by decide) ?_ | refine BCase.f (by decide) ?_ | with_reducible first | apply l_ | apply m_ | apply n_ | apply o_ | refine p_ (fun _ => ?_) (fun _ => ?_)) <;> (conv => whnf)))
  all_goals first | exact Ret.eq rfl | (exfalso; omega)
 ·rw [if_neg h1]
  have hv := tok_val h h1
  have ps := p_Show fmt_goes ⟨t.Kind - 1, t.N, t.S⟩ hn
  rw [if_neg (by rw [hv]; decide), hv] at ps
  have c : t.Kind = 2 ∨ t.Kind = 3 ∨ t.Kind = 4 := by omega
  rcases c with c | c | c
  ·rw [show t.Kind - 1 = 1 by omega] at ps ⊢
   ((conv => whnf); repeat' ((first | (with_reducible first | apply a_ | apply b_ | apply c_) | ((with_reducible first | apply d_ | apply e_ | apply f_ | apply g_); focus first | omega | (simp only [q_] <;> omega)) | ((with_reducible first | apply i_ | apply h_); focus first | omega | (simp only [q_] <;> omega)) | ((with_reducible apply h_); focus first | decide | kernel_rfl) | refine BCase.t (by decide) ?_ | refine BCase.f (by decide) ?_ | refine CallP.pure _ rfl _ (ps) ?_ | with_reducible first | apply l_ | apply m_ | apply n_ | apply o_ | refine p_ (fun _ => ?_) (fun _ => ?_)) <;> (conv => whnf)))
   all_goals first | exact Ret.eq rfl | (exfalso; omega)
  ·rw [show t.Kind - 1 = 2 by omega] at ps ⊢
   ((conv => whnf); repeat' ((first | (with_reducible first | apply a_ | apply b_ | apply c_) | ((with_reducible first | apply d_ | apply e_ | apply f_ | apply g_); focus first | omega | (simp only [q_] <;> omega)) | ((with_reducible first | apply i_ | apply h_); focus first | omega | (simp only [q_] <;> omega)) | ((with_reducible apply h_); focus first | decide | kernel_rfl) | refine BCase.t (by decide) ?_ | refine BCase.f (by decide) ?_ | refine CallP.pure _ rfl _ (ps) ?_ | with_reducible first | apply l_ | apply m_ | apply n_ | apply o_ | refine p_ (fun _ => ?_) (fun _ => ?_)) <;> (conv => whnf)))
   all_goals first | exact Ret.eq rfl | (exfalso; omega)
  ·rw [show t.Kind - 1 = 3 by omega] at ps ⊢
   ((conv => whnf); repeat' ((first | (with_reducible first | apply a_ | apply b_ | apply c_) | ((with_reducible first | apply d_ | apply e_ | apply f_ | apply g_); focus first | omega | (simp only [q_] <;> omega)) | ((with_reducible first | apply i_ | apply h_); focus first | omega | (simp only [q_] <;> omega)) | ((with_reducible apply h_); focus first | decide | kernel_rfl) | refine BCase.t (by decide) ?_ | refine BCase.f (by decide) ?_ | refine CallP.pure _ rfl _ (ps) ?_ | with_reducible first | apply l_ | apply m_ | apply n_ | apply o_ | refine p_ (fun _ => ?_) (fun _ => ?_)) <;> (conv => whnf)))
   all_goals first | exact Ret.eq rfl | (exfalso; omega)
end Go.Proofs.YtjbopncobegleaaDoor.Pm
end
section
namespace Go.Proofs.YtjbopncobegleaaDoor.Pm
open Go.RowKit K
set_option linter.unusedVariables false
set_option linter.unusedSimpArgs false
set_option maxRecDepth 100000
def prtL (l : List TokenD) : List UInt8 := (l.flatMap fun t => 32 :: tokB t).drop 1
def prtE (l : List TokenD) : Int := if tAllE l ≠ 0 then tAllE l else if 300 < (prtL l).length then 2 else 0
def prtR (l : List TokenD) : List UInt8 := if prtE l = 0 then prtL l else []
theorem prt_snoc {l : List TokenD} {k : Nat} (h : k < l.length) : prtL (l.take (k + 1)) = prtL (l.take k) ++ ((if 0 < k then [32] else []) ++ tokB l[k]) := by
 unfold prtL
 rw [take_snoc h, List.flatMap_append]
 by_cases h0 : 0 < k
 ·rw [if_pos h0]
  have : 1 ≤ ((l.take k).flatMap fun t => 32 :: tokB t).length := by
   cases l with
   | nil => simp at h
   | cons x l =>
    match k, h0 with
    | k + 1, _ => rw [List.take_succ_cons, List.flatMap_cons, List.length_append, List.length_cons]; omega
  rw [List.drop_append_of_le_length this]
  simp
 ·rw [if_neg h0]
  have : k = 0 := by omega
  subst this
  simp
theorem itoa_len (n : Int) (h : -9223372036854775808 ≤ n ∧ n ≤ 9223372036854775807) : (Lib.itoa n).length ≤ 21 := by
 have hd : ∀ n : Nat, n ≤ 9223372036854775808 → (Lib.decDigits n).length ≤ 20 := by
  intro n hn
  by_cases h0 : n = 0
  ·subst h0; rw [Lib.decDigits, dif_pos (by decide)]; decide
  ·have := digL_len 20 n (by show _ < 100000000000000000000; omega)
   unfold digL at this
   rw [if_neg h0] at this; exact this
 unfold Lib.itoa
 split
 ·have := hd n.natAbs (by omega)
  rw [List.length_cons]; omega
 ·have := hd n.toNat (by omega)
  omega
theorem quo_len : ∀ l : List UInt8, (l.flatMap quoB).length ≤ 2 * l.length
 | [] => Nat.zero_le _
 | b :: l => by rw [List.flatMap_cons, List.length_append, List.length_cons]; have := quoB_le b; have := quo_len l; omega
theorem showV_len {v : ValueD} (h : vChk v = 0) (hi : -9223372036854775808 ≤ v.N ∧ v.N ≤ 9223372036854775807) : (showV v).length ≤ 35 := by
 unfold showV
 split
 ·have := itoa_len v.N hi; omega
 ·rename_i k1
  obtain ⟨t1, t2, t3, t4, t5⟩ := vChk_text h k1
  split
  ·unfold shownL
   have := quo_len v.S
   rw [List.length_cons, List.length_append, List.length_singleton]; omega
  ·split
   ·unfold shownL
    rw [List.length_cons, List.length_cons, List.length_append, List.length_singleton, hex_len]; omega
   ·decide
theorem sig_small (r : List UInt8) (h : sigL r = r.length) : r.length ≤ 2 := by have := sigL_le r; omega
theorem tokB_len {t : TokenD} (h : tChk t = 0) (hn : -9223372036854775808 ≤ t.N ∧ t.N ≤ 9223372036854775807) : (tokB t).length ≤ 35 := by
 obtain ⟨hk, hf, hl, _⟩ := tChk_ok h
 unfold tokB
 split
 ·rename_i c
  rcases c with c | c
  ·have : ¬ 12 < t.S.length := fun x => hl (.inl ⟨c, x⟩)
   omega
  ·have hs : sigL t.S = t.S.length := Decidable.of_not_not fun x => hf (.inr (.inr (.inr ⟨c, .inr x⟩)))
   have := sig_small _ hs
   omega
 ·rename_i c
  exact showV_len (tok_val h c) hn
theorem prt_len : ∀ {l : List TokenD}, (∀ t ∈ l, tChk t = 0) → (∀ t ∈ l, -9223372036854775808 ≤ t.N ∧ t.N ≤ 9223372036854775807) → (l.flatMap fun t => 32 :: tokB t).length ≤ 36 * l.length
 | [], _, _ => Nat.zero_le _
 | t :: l, h, hn => by
  have h1 := tokB_len (h t (List.mem_cons_self ..)) (hn t (List.mem_cons_self ..))
  have h2 := prt_len (l := l) (fun x hx => h x (List.mem_cons_of_mem _ hx)) (fun x hx => hn x (List.mem_cons_of_mem _ hx))
  rw [List.flatMap_cons, List.length_append, List.length_cons, List.length_cons]; omega
theorem prtL_len {l : List TokenD} (h : ∀ t ∈ l, tChk t = 0) (hn : ∀ t ∈ l, -9223372036854775808 ≤ t.N ∧ t.N ≤ 9223372036854775807) (k : Nat) : (prtL (l.take k)).length ≤ 36 * l.length := by
 have := prt_len (l := l.take k) (fun t ht => h t (List.mem_of_mem_take ht)) (fun t ht => hn t (List.mem_of_mem_take ht))
 rw [List.length_take] at this
 unfold prtL
 rw [List.length_drop]
 have : 36 * min k l.length ≤ 36 * l.length := Nat.mul_le_mul_left _ (Nat.min_le_right _ _)
 omega
theorem tAllE_ok {l : List TokenD} (h : tAllE l = 0) : l.length ≤ 120 ∧ ∀ t ∈ l, tChk t = 0 := by
 unfold tAllE at h
 split at h
 ·cases h
 ·exact ⟨by omega, tChkAll_ok.1 h⟩
theorem bRows_tx (s : List UInt8) : bRows (tx s) = byteRows s := rfl
theorem p_Print (l : List TokenD) (hl : l.length ≤ 140737488355328) (ht : ∀ t ∈ l, TokenD.ok t) : Pure Tryd.prog 13 [slV 4 TokenD.c l] (.tup [pStr (tx (prtR l)), pInt .i64 (prtE l)]) := by
 have pc := p_tcheckall l hl (fun t h => (ht t h).2.2.2)
 refine pure_of Tryd.func13 (by rfl) rfl (by kernel_rfl) (by rfl) ?_
 by_cases h : tAllE l = 0
 ·obtain ⟨h120, hz⟩ := tAllE_ok h
  have hn : ∀ t ∈ l, -9223372036854775808 ≤ t.N ∧ t.N ≤ 9223372036854775807 := fun t hx => (ht t hx).2.2.1
  rw [h] at pc
  ((conv => whnf); repeat' ((first | (with_reducible first | apply a_ | apply b_ | apply c_) | ((with_reducible first | apply d_ | apply e_ | apply f_ | apply g_); focus first | omega | (simp only [q_] <;> omega)) | ((with_reducible first | apply i_ | apply h_); focus first | omega | (simp only [q_] <;> omega)) | ((with_reducible apply h_); focus first | decide | kernel_rfl) | refine BCase.t (by decide) ?_ | refine BCase.f (by decide) ?_ | refine CallP.pure _ rfl _ (pc) ?_ | with_reducible first | apply l_ | apply m_ | apply n_ | apply o_ | refine p_ (fun _ => ?_) (fun _ => ?_)) <;> (conv => whnf)))
  refine LoopC.mk Nat (fun j => [(5, .d (.ptr 5 0)), (13, slV 4 TokenD.c l), (14, pInt .i64 l.length), (15, pInt .i64 (j : Int))]) (fun j => [(5, .box tBld [.optp 5 0, .app 60 tByte 1 (byteRows (prtL (l.take j)))]), (60, .tail tByte 1)]) [5, 60] (fun j => j ≤ l.length) (fun j => l.length - j) 0 (Nat.zero_le _) ?start ?round
  case start => exact ⟨[(5, 5)], rfl, rfl, ⟨⟨rfl, rfl, rfl⟩, .inl rfl, PLe.int (by simp), .inl rfl, trivial⟩, ⟨rfl, rfl, rfl, ⟨rfl, rfl, Nat.zero_lt_one, by rw [List.take_zero]; rfl, rfl⟩, rfl⟩, ⟨rfl, Nat.zero_lt_one⟩, trivial⟩
  case round =>
   intro j hj
   have hj : j ≤ l.length := hj
   have hlen := prtL_len hz hn j
   have hbl := byteRows_ln (prtL (l.take j))
   by_cases q : j < l.length
   ·have hm := List.getElem_mem q
    have ps := p_tshown l[j] (hz _ hm) (hn _ hm)
    have htl := tokB_len (hz _ hm) (hn _ hm)
    have tz := tx_size (tokB l[j])
    have es := prt_snoc q
    by_cases h0 : 0 < j
    ·rw [if_pos h0] at es
     have hb2 : (byteRows (prtL (l.take j)) ++ [[C.v (.int .u8 32)]]).length = (prtL (l.take j)).length + 1 := by rw [List.length_append, hbl]; rfl
     ((conv => whnf); repeat' ((first | (with_reducible first | apply a_ | apply b_ | apply c_) | ((with_reducible first | apply d_ | apply e_ | apply f_ | apply g_); focus first | omega | (simp only [q_] <;> omega)) | ((with_reducible first | apply i_ | apply h_); focus first | omega | (simp only [q_] <;> omega)) | ((with_reducible apply h_); focus first | decide | kernel_rfl) | refine BCase.t (by decide) ?_ | refine BCase.f (by decide) ?_ | (refine Idx.mapI j rfl q ?_) | refine CallP.pure _ rfl _ (ps) ?_ | (refine CallP.ret [(FK, 5), (FK1, 60), (NK, 22)] _ _ _ _ _ _ _ (writeByte_opt _ 32 (by omega)) rfl rfl rfl rfl ⟨rfl, rfl, trivial⟩ ?_) | (refine CallP.ret [(FK, 5), (FK1, 22), (NK, 25)] _ _ _ _ _ _ _ (writeString_used _ (tx (tokB l[j])) (by omega)) rfl rfl rfl rfl ⟨rfl, rfl, trivial⟩ ?_) | with_reducible first | apply l_ | apply m_ | apply n_ | apply o_ | refine p_ (fun _ => ?_) (fun _ => ?_)) <;> (conv => whnf)))
     all_goals first
      | (exfalso; omega)
      | skip
     refine ⟨j + 1, by show j + 1 ≤ _; omega, by show l.length - (j + 1) < l.length - j; omega, [(5, 5), (60, 25)], rfl, rfl, ⟨⟨rfl, rfl, rfl⟩, .inl rfl, .inl rfl, PLe.int (by omega), trivial⟩, ⟨rfl, rfl, ⟨rfl, rfl, rfl⟩, ⟨rfl, rfl, rfl, rfl, ?_⟩, rfl⟩, ⟨rfl, rfl, rfl⟩, trivial⟩
     rw [es, byteRows_app, byteRows_app, ← List.append_assoc]; rfl
    ·rw [if_neg h0] at es
     ((conv => whnf); repeat' ((first | (with_reducible first | apply a_ | apply b_ | apply c_) | ((with_reducible first | apply d_ | apply e_ | apply f_ | apply g_); focus first | omega | (simp only [q_] <;> omega)) | ((with_reducible first | apply i_ | apply h_); focus first | omega | (simp only [q_] <;> omega)) | ((with_reducible apply h_); focus first | decide | kernel_rfl) | refine BCase.t (by decide) ?_ | refine BCase.f (by decide) ?_ | (refine Idx.mapI j rfl q ?_) | refine CallP.pure _ rfl _ (ps) ?_ | (refine CallP.ret [(FK, 5), (FK1, 60), (NK, 25)] _ _ _ _ _ _ _ (writeString_opt _ (tx (tokB l[j])) (by omega)) rfl rfl rfl rfl ⟨rfl, rfl, trivial⟩ ?_) | with_reducible first | apply l_ | apply m_ | apply n_ | apply o_ | refine p_ (fun _ => ?_) (fun _ => ?_)) <;> (conv => whnf)))
     all_goals first
      | (exfalso; omega)
      | skip
     refine ⟨j + 1, by show j + 1 ≤ _; omega, by show l.length - (j + 1) < l.length - j; omega, [(5, 5), (60, 25)], rfl, rfl, ⟨⟨rfl, rfl, rfl⟩, .inl rfl, .inl rfl, PLe.int (by omega), trivial⟩, ⟨rfl, rfl, ⟨rfl, rfl, rfl⟩, ⟨rfl, rfl, rfl, rfl, ?_⟩, rfl⟩, ⟨rfl, rfl, rfl⟩, trivial⟩
     rw [es, byteRows_app]; rfl
   ·have e : l.take j = l := List.take_of_length_le (by omega)
    rw [e] at hlen hbl ⊢
    ((conv => whnf); repeat' ((first | (with_reducible first | apply a_ | apply b_ | apply c_) | ((with_reducible first | apply d_ | apply e_ | apply f_ | apply g_); focus first | omega | (simp only [q_] <;> omega)) | ((with_reducible first | apply i_ | apply h_); focus first | omega | (simp only [q_] <;> omega)) | ((with_reducible apply h_); focus first | decide | kernel_rfl) | refine BCase.t (by decide) ?_ | refine BCase.f (by decide) ?_ | (refine CallP.ret [(FK, 5), (FK1, 60)] _ _ _ _ _ _ _ (builder_len (byteRows (prtL l))) rfl rfl rfl rfl ⟨rfl, rfl, trivial⟩ ?_) | (refine CallP.ret [(FK, 5), (FK1, 60)] _ _ _ _ _ _ _ (string_of (prtL l)) rfl rfl rfl rfl ⟨rfl, rfl, trivial⟩ ?_) | with_reducible first | apply l_ | apply m_ | apply n_ | apply o_ | refine p_ (fun _ => ?_) (fun _ => ?_)) <;> (conv => whnf)))
    ·have hp : prtE l = 2 := by unfold prtE; rw [if_neg (not_not_intro h), if_pos (by omega)]
     rw [show prtR l = [] from if_neg (by rw [hp]; decide), hp]
     exact Ret.mk rfl
    ·have hp : prtE l = 0 := by unfold prtE; rw [if_neg (not_not_intro h), if_neg (by omega)]
     rw [show prtR l = prtL l from if_pos hp, hp]
     exact Ret.mk rfl
 ·have hp : prtE l = tAllE l := if_pos h
  rw [show prtR l = [] from if_neg (by rw [hp]; exact h), hp]
  ((conv => whnf); repeat' ((first | (with_reducible first | apply a_ | apply b_ | apply c_) | ((with_reducible first | apply d_ | apply e_ | apply f_ | apply g_); focus first | omega | (simp only [q_] <;> omega)) | ((with_reducible first | apply i_ | apply h_); focus first | omega | (simp only [q_] <;> omega)) | ((with_reducible apply h_); focus first | decide | kernel_rfl) | refine BCase.t (by decide) ?_ | refine BCase.f (by decide) ?_ | refine CallP.pure _ rfl _ (pc) ?_ | with_reducible first | apply l_ | apply m_ | apply n_ | apply o_ | refine p_ (fun _ => ?_) (fun _ => ?_)) <;> (conv => whnf)))
  all_goals first | exact Ret.mk rfl | (exfalso; omega)
end Go.Proofs.YtjbopncobegleaaDoor.Pm
end
section
namespace Go.Proofs.YtjbopncobegleaaDoor.Pm
open Go.RowKit K
set_option linter.unusedVariables false
set_option linter.unusedSimpArgs false
set_option maxRecDepth 100000
def Runs (l : List UInt8) : Nat → List (Nat × Tk × Nat) → Prop
 | k, [] => l.length ≤ skK l k
 | k, (p, t, n) :: L => p = skK l k ∧ p < l.length ∧ tkL (l.drop p) = (t, 0, n) ∧ Runs l (p + n) L
def toks (L : List (Nat × Tk × Nat)) : List TokenD := L.map fun x => tokD x.1 x.2.1
theorem lex_runs (l : List UInt8) : ∀ (N k : Nat) (acc : List TokenD), k ≤ l.length → l.length - k < N → acc.length ≤ 120 → (lexG l N k acc).2.2 = 0 → ∃ L, Runs l k L ∧ acc.length + L.length ≤ 120 ∧ lexG l N k acc = (acc ++ toks L, 0, 0)
 | 0, k, acc, hk, hN, _, _ => by omega
 | N + 1, k, acc, hk, hN, ha, h => by
  rw [lexG] at h ⊢
  by_cases q : skK l k < l.length
  ·rw [if_pos q] at h ⊢
   by_cases h120 : acc.length = 120
   ·rw [if_pos h120] at h; cases h
   ·rw [if_neg h120] at h ⊢
    by_cases he : (tkL (l.drop (skK l k))).2.1 = 0
    ·rw [if_neg (by simp [he])] at h ⊢
     have hl := tkL_len he
     rw [List.length_drop] at hl
     have hg := skK_ge hk
     obtain ⟨L, h1, h2, h3⟩ := lex_runs l N (skK l k + (tkL (l.drop (skK l k))).2.2) (acc ++ [tokD (skK l k) (tkL (l.drop (skK l k))).1]) (by omega) (by omega) (by rw [List.length_append, List.length_singleton]; omega) h
     refine ⟨(skK l k, (tkL (l.drop (skK l k))).1, (tkL (l.drop (skK l k))).2.2) :: L, ⟨rfl, q, ?_, h1⟩, ?_, ?_⟩
     ·rw [← he]
     ·rw [List.length_append, List.length_singleton] at h2
      rw [List.length_cons]; omega
     ·rw [h3]; unfold toks; simp
    ·rw [if_pos he] at h
     exact absurd h he
  ·rw [if_neg q] at h ⊢
   exact ⟨[], by show l.length ≤ skK l k; omega, by rw [List.length_nil]; omega, by simp [toks]⟩
theorem runs_lex (l : List UInt8) : ∀ (L : List (Nat × Tk × Nat)) (N k : Nat) (acc : List TokenD), k ≤ l.length → l.length - k < N → Runs l k L → acc.length + L.length ≤ 120 → lexG l N k acc = (acc ++ toks L, 0, 0)
 | [], 0, k, acc, hk, hN, _, _ => by omega
 | _ :: _, 0, k, acc, hk, hN, _, _ => by omega
 | [], N + 1, k, acc, hk, hN, h, ha => by
  have h : l.length ≤ skK l k := h
  rw [lexG, if_neg (by omega)]; simp [toks]
 | (p, t, n) :: L, N + 1, k, acc, hk, hN, h, ha => by
  obtain ⟨rfl, h2, h3, h4⟩ := h
  rw [List.length_cons] at ha
  have he : (tkL (l.drop (skK l k))).2.1 = 0 := by rw [h3]
  have hl := tkL_len he
  rw [h3, List.length_drop] at hl
  have hl : 1 ≤ n ∧ n ≤ l.length - skK l k := hl
  have hg := skK_ge hk
  rw [lexG, if_pos h2, if_neg (by omega), if_neg (by simp [he]), h3]
  show lexG l N (skK l k + n) (acc ++ [tokD (skK l k) t]) = _
  rw [runs_lex l L N (skK l k + n) _ (by omega) (by omega) h4 (by rw [List.length_append, List.length_singleton]; omega)]
  unfold toks; simp
theorem lexF_ok {l : List UInt8} (h : (lexF l).2.2 = 0) : l.length ≤ 300 ∧ ∃ L, Runs l 0 L ∧ L.length ≤ 120 ∧ lexF l = (toks L, 0, 0) := by
 unfold lexF at h ⊢
 by_cases h3 : 300 < l.length
 ·rw [if_pos h3] at h; cases h
 ·rw [if_neg h3] at h ⊢
  obtain ⟨L, h1, h2, h4⟩ := lex_runs l (l.length + 1) 0 [] (Nat.zero_le _) (by omega) (by decide) h
  exact ⟨by omega, L, h1, by rw [List.length_nil] at h2; omega, h4⟩
theorem ok_lexF {l : List UInt8} {L : List (Nat × Tk × Nat)} (h3 : l.length ≤ 300) (h : Runs l 0 L) (h2 : L.length ≤ 120) : lexF l = (toks L, 0, 0) := by
 unfold lexF
 rw [if_neg (by omega), runs_lex l L (l.length + 1) 0 [] (Nat.zero_le _) (by omega) h (by rw [List.length_nil]; omega)]; rfl
theorem lexF_bad {l : List UInt8} (h : (lexF l).2.2 ≠ 0) : (lexF l).1 = [] := by
 have hg : ∀ (N k : Nat) (acc : List TokenD), (lexG l N k acc).2.2 ≠ 0 → (lexG l N k acc).1 = [] := by
  intro N
  induction N with
  | zero => intro k acc h; exact absurd rfl h
  | succ N ih =>
   intro k acc h
   rw [lexG] at h ⊢
   split
   ·rename_i q
    rw [if_pos q] at h
    split
    ·rfl
    ·rename_i q2
     rw [if_neg q2] at h
     split
     ·rfl
     ·rename_i q3
      rw [if_neg q3] at h
      exact ih _ _ h
   ·rename_i q
    rw [if_neg q] at h
    exact absurd rfl h
 unfold lexF at h ⊢
 split
 ·rfl
 ·rename_i q
  rw [if_neg q] at h
  exact hg _ _ _ h
def bare (t : TokenD) : Tk := (t.Kind, t.N, t.S)
theorem takeWhile_self {p : UInt8 → Bool} : ∀ {l : List UInt8}, (∀ c ∈ l, p c = true) → l.takeWhile p = l
 | [], _ => rfl
 | c :: l, h => by rw [List.takeWhile_cons, if_pos (h c (List.mem_cons_self ..)), takeWhile_self fun x hx => h x (List.mem_cons_of_mem _ hx)]
theorem dropWhile_self {p : UInt8 → Bool} : ∀ {l : List UInt8}, (∀ c ∈ l, p c = true) → l.dropWhile p = []
 | [], _ => rfl
 | c :: l, h => by rw [List.dropWhile_cons, if_pos (h c (List.mem_cons_self ..)), dropWhile_self fun x hx => h x (List.mem_cons_of_mem _ hx)]
theorem wordB_all {l : List UInt8} (h : wordB l = true) : l ≠ [] ∧ letB (l.headD 0) = true ∧ (∀ c ∈ l, innB c = true) ∧ l.map smB = l := by
 cases l with
 | nil => cases h
 | cons c r =>
  have h : (letB c && (c :: r).all wB) = true := h
  rw [Bool.and_eq_true, List.all_eq_true] at h
  refine ⟨List.cons_ne_nil _ _, h.1, fun x hx => ?_, (smB_map _).2 fun x hx => ?_⟩
  ·have := h.2 x hx
   unfold wB at this
   rw [Bool.and_eq_true] at this
   exact this.1
  ·have := h.2 x hx
   unfold wB at this
   rw [Bool.and_eq_true] at this
   exact of_decide_eq_true this.2
theorem wordB_of {l : List UInt8} (h0 : l ≠ []) (h1 : letB (l.headD 0) = true) (h2 : ∀ c ∈ l, innB c = true) : wordB (l.map smB) = true := by
 have hs : ∀ n : Nat, n < 256 → (letB (UInt8.ofNat n) = true → letB (smB (UInt8.ofNat n)) = true) ∧ (innB (UInt8.ofNat n) = true → wB (smB (UInt8.ofNat n)) = true) := by decide +kernel
 have hs : ∀ c : UInt8, (letB c = true → letB (smB c) = true) ∧ (innB c = true → wB (smB c) = true) := fun c => by
  have := hs c.toNat c.toNat_lt
  rwa [u8_back] at this
 cases l with
 | nil => exact absurd rfl h0
 | cons c r =>
  show (letB (smB c) && ((c :: r).map smB).all wB) = true
  rw [Bool.and_eq_true, List.all_eq_true]
  refine ⟨(hs c).1 h1, fun x hx => ?_⟩
  obtain ⟨y, hy, rfl⟩ := List.mem_map.1 hx
  exact (hs y).2 (h2 y hy)
def bf1 (c : UInt8) : Bool := !letB c || (!decide (c.toNat = 39) && (!blankB c && !decide (c.toNat = 45)))
def bf2 (c : UInt8) : Bool := !digB c || (!isX c && (!decide (c.toNat = 39) && (!letB c && (!blankB c && !decide (c.toNat = 45)))))
def bf3 (c : UInt8) : Bool := !innB c || !decide (c.toNat = 39)
def bf4 (c : UInt8) : Bool := !singB c || (!isX c && (!decide (c.toNat = 39) && (!letB c && (!digB c && !blankB c))))
theorem bf_all : ((List.range 256).all fun n => bf1 (UInt8.ofNat n) && (bf2 (UInt8.ofNat n) && (bf3 (UInt8.ofNat n) && bf4 (UInt8.ofNat n)))) = true := by decide +kernel
theorem byte_facts (c : UInt8) : (letB c = true → c.toNat ≠ 39 ∧ blankB c = false ∧ c.toNat ≠ 45) ∧ (digB c = true → isX c = false ∧ c.toNat ≠ 39 ∧ letB c = false ∧ blankB c = false ∧ c.toNat ≠ 45) ∧ (innB c = true → c.toNat ≠ 39) ∧ (singB c = true → isX c = false ∧ c.toNat ≠ 39 ∧ letB c = false ∧ digB c = false ∧ blankB c = false) := by
 have h := List.all_eq_true.1 bf_all c.toNat (List.mem_range.2 c.toNat_lt)
 rw [u8_back] at h
 simp only [Bool.and_eq_true] at h
 obtain ⟨h1, h2, h3, h4⟩ := h
 refine ⟨fun x => ?_, fun x => ?_, fun x => ?_, fun x => ?_⟩
 ·unfold bf1 at h1; rw [x] at h1; simpa using h1
 ·unfold bf2 at h2; rw [x] at h2; simpa using h2
 ·unfold bf3 at h3; rw [x] at h3; simpa using h3
 ·unfold bf4 at h4; rw [x] at h4; simpa using h4
theorem pair_sing {a b : UInt8} (h : pairB a b = true) : singB a = true ∧ a.toNat ≠ 45 := by
 obtain ⟨m, hm, e⟩ := (pairB_iff a b).1 h
 have : m = 0 ∨ m = 1 ∨ m = 2 := by omega
 rcases this with rfl | rfl | rfl <;> (cases e; decide)
theorem qLen_quo : ∀ S : List UInt8, qLen (S.flatMap quoB ++ [39]) = some ((S.flatMap quoB).length + 1)
 | [] => rfl
 | b :: S => by
  rw [List.flatMap_cons]
  by_cases h : b = 39
  ·subst h
   show qLen (39 :: 39 :: (S.flatMap quoB ++ [39])) = _
   rw [qLen_q rfl, if_pos (show (39 : UInt8).toNat = 39 from rfl), qLen_quo S]
   show some ((S.flatMap quoB).length + 1 + 2) = some ((S.flatMap quoB).length + 2 + 1)
   rfl
  ·have hb : b.toNat ≠ 39 := fun e => h (by rw [← u8_back b, e]; rfl)
   rw [show quoB b = [b] from if_neg h, List.append_assoc, List.singleton_append, qLen_o hb, qLen_quo S, List.length_append, List.length_singleton]
   show some ((S.flatMap quoB).length + 1 + 1) = some (1 + (S.flatMap quoB).length + 1)
   congr 1; omega
theorem hexd_facts (n : Nat) (h : n < 16) : (hexd n).toNat ≠ 39 ∧ smB (hexd n) = hexd n := by
 have : ∀ n, n < 16 → (hexd n).toNat ≠ 39 ∧ smB (hexd n) = hexd n := by decide +kernel
 exact this n h
theorem hex_all : ∀ (S : List UInt8), ∀ c ∈ S.flatMap hexB, c.toNat ≠ 39 ∧ smB c = c
 | [], c, hc => absurd hc (by simp)
 | b :: S, c, hc => by
  rw [List.flatMap_cons] at hc
  have hb := b.toNat_lt
  rcases List.mem_append.1 hc with hc | hc
  ·unfold hexB at hc
   rcases List.mem_cons.1 hc with rfl | hc
   ·exact hexd_facts _ (by omega)
   ·rw [List.mem_singleton.1 hc]; exact hexd_facts _ (by omega)
  ·exact hex_all S c hc
theorem qLen_no : ∀ (r : List UInt8), (∀ c ∈ r, c.toNat ≠ 39) → qLen (r ++ [39]) = some (r.length + 1)
 | [], _ => rfl
 | c :: r, h => by
  rw [List.cons_append, qLen_o (h c (List.mem_cons_self ..)), qLen_no r fun x hx => h x (List.mem_cons_of_mem _ hx)]
  rfl
theorem hexL_true (S : List UInt8) : hexL true (shownL hexB S) = some S := by
 rw [← hexL_sm, (smB_map _).2, hexL_shown]
 intro b hb
 unfold shownL at hb
 rcases List.mem_cons.1 hb with rfl | hb
 ·decide
 ·rcases List.mem_append.1 hb with hb | hb
  ·exact (hex_all S b hb).2
  ·rw [List.mem_singleton.1 hb]; decide
theorem tok_reads {t : TokenD} (h : tChk t = 0) (hn : -9223372036854775808 ≤ t.N ∧ t.N ≤ 9223372036854775807) : tkL (tokB t) = (bare t, 0, (tokB t).length) ∧ tokB t ≠ [] ∧ blankB ((tokB t).headD 0) = false ∧ (((tokB t).headD 0).toNat = 45 → tokB t = [45]) := by
 obtain ⟨hk, hf, hl, hnn⟩ := tChk_ok h
 obtain ⟨k, a, n, S⟩ := t
 simp only at hk hf hl hnn hn
 unfold tFrm tLong at *
 simp only at hf hl
 have hS2 : k = 2 → S = [] := fun e => Decidable.of_not_not fun x => hf (.inl ⟨e, x⟩)
 have hN : k ≠ 2 → n = 0 := fun e => Decidable.of_not_not fun x => hf (.inr (.inl ⟨e, x⟩))
 have c : k = 1 ∨ k = 2 ∨ k = 3 ∨ k = 4 ∨ k = 5 := by omega
 unfold tokB bare
 simp only
 rcases c with rfl | rfl | rfl | rfl | rfl
 ·have hw : wordB S = true := by
   cases hx : wordB S with
   | true => rfl
   | false => exact absurd (.inr (.inr (.inl ⟨rfl, hx⟩))) hf
  obtain ⟨w0, w1, w2, w3⟩ := wordB_all hw
  have n0 := hN (by decide)
  subst n0
  obtain ⟨f1, f2, f3⟩ := (byte_facts (S.headD 0)).1 w1
  rw [if_pos (.inl rfl)]
  refine ⟨?_, w0, f2, fun e => absurd e f3⟩
  have hx : ¬ (isX (S.headD 0) = true ∧ ((S.drop 1).headD 0).toNat = 39) := by
   rintro ⟨_, x2⟩
   cases S with
   | nil => exact w0 rfl
   | cons c r =>
    cases r with
    | nil =>
     have x2 : (0 : UInt8).toNat = 39 := x2
     exact absurd x2 (by decide)
    | cons d r => exact (byte_facts d).2.2.1 (w2 d (by simp)) x2
  have h12 : ¬ 12 < S.length := fun x => hl (.inl ⟨rfl, x⟩)
  unfold tkL
  rw [if_neg hx, if_neg f1, if_pos w1]
  unfold wTok
  rw [takeWhile_self w2, if_neg h12, w3]
 ·have s0 := hS2 rfl
  subst s0
  rw [if_neg (by decide)]
  have e1 : showV ⟨2 - 1, n, []⟩ = Lib.decDigits n.toNat := by
   unfold showV
   rw [if_pos (show (2 - 1 : Int) = 1 from rfl)]
   show Lib.itoa n = _
   unfold Lib.itoa
   rw [if_neg (by omega)]
  rw [e1]
  obtain ⟨d1, d2, d3, d4⟩ := dec_facts n.toNat
  have dh : digB ((Lib.decDigits n.toNat).headD 0) = true := by
   cases hd : Lib.decDigits n.toNat with
   | nil => exact absurd hd d3
   | cons c r => rw [hd] at d2; exact List.all_eq_true.1 d2 c (List.mem_cons_self ..)
  obtain ⟨f1, f2, f3, f4, f5⟩ := (byte_facts _).2.1 dh
  have da : ∀ c ∈ Lib.decDigits n.toNat, digB c = true := fun c hc => List.all_eq_true.1 d2 c hc
  refine ⟨?_, d3, f4, fun e => absurd e f5⟩
  have he := digE_dec (u := n.toNat) (most := most1) (by unfold most1; omega)
  unfold tkL
  rw [if_neg (by rw [f1]; simp), if_neg f2, if_neg (by rw [f3]; decide), if_pos dh]
  unfold nTok
  rw [takeWhile_self da, dropWhile_self da, if_neg (by decide), he]
  unfold digV
  rw [if_pos he, d1, show ((n.toNat : Nat) : Int) = n by omega]
 ·have n0 := hN (by decide)
  subst n0
  have h16 : ¬ 16 < S.length := fun x => hl (.inr ⟨.inl rfl, x⟩)
  rw [if_neg (by decide)]
  have e1 : showV ⟨3 - 1, 0, S⟩ = shownL quoB S := by
   unfold showV
   rw [if_neg (show ¬ (3 - 1 : Int) = 1 by decide), if_pos (show (3 - 1 : Int) = 2 by decide)]
  rw [e1]
  refine ⟨?_, List.cons_ne_nil _ _, show blankB 39 = false by decide, fun e => absurd (show (39 : UInt8).toNat = 45 from e) (by decide)⟩
  have hs : (shownL quoB S).length = (S.flatMap quoB).length + 1 + 1 := by unfold shownL; rw [List.length_cons, List.length_append, List.length_singleton]
  unfold tkL
  rw [if_neg (by rintro ⟨x, _⟩; exact absurd (show isX 39 = true from x) (by decide)), if_pos (show ((shownL quoB S).headD 0).toNat = 39 from rfl)]
  unfold qTok
  rw [show (shownL quoB S).drop 1 = S.flatMap quoB ++ [39] from rfl, qLen_quo]
  simp only
  rw [List.take_of_length_le (by omega), quot_shown]
  simp only
  rw [if_neg h16, hs]
 ·have n0 := hN (by decide)
  subst n0
  have h16 : ¬ 16 < S.length := fun x => hl (.inr ⟨.inr rfl, x⟩)
  rw [if_neg (by decide)]
  have e1 : showV ⟨4 - 1, 0, S⟩ = 120 :: shownL hexB S := by
   unfold showV
   rw [if_neg (show ¬ (4 - 1 : Int) = 1 by decide), if_neg (show ¬ (4 - 1 : Int) = 2 by decide), if_pos (show (4 - 1 : Int) = 3 by decide)]
  rw [e1]
  refine ⟨?_, List.cons_ne_nil _ _, show blankB 120 = false by decide, fun e => absurd (show (120 : UInt8).toNat = 45 from e) (by decide)⟩
  have hs : (shownL hexB S).length = (S.flatMap hexB).length + 1 + 1 := by unfold shownL; rw [List.length_cons, List.length_append, List.length_singleton]
  unfold tkL
  rw [if_pos ⟨show isX 120 = true by decide, rfl⟩]
  unfold qTok
  rw [show (120 :: shownL hexB S).drop 1 = shownL hexB S from rfl, show (shownL hexB S).drop 1 = S.flatMap hexB ++ [39] from rfl, qLen_no _ fun c hc => (hex_all S c hc).1]
  simp only
  rw [List.take_of_length_le (by omega), hexL_true]
  simp only
  rw [if_neg h16, List.length_cons, hs]
  rfl
 ·have n0 := hN (by decide)
  subst n0
  have hs0 : S ≠ [] := fun x => hf (.inr (.inr (.inr ⟨rfl, .inl x⟩)))
  have hsg : sigL S = S.length := Decidable.of_not_not fun x => hf (.inr (.inr (.inr ⟨rfl, .inr x⟩)))
  rw [if_pos (.inr rfl)]
  have hl1 : 1 ≤ S.length := List.length_pos_iff.2 hs0
  have key : singB (S.headD 0) = true ∧ ((S.headD 0).toNat = 45 → S = [45]) := by
   match S, hsg with
   | [], _ => exact absurd rfl hs0
   | [a], hg =>
    rw [sigL_1] at hg
    by_cases ha : singB a = true
    ·exact ⟨ha, fun e => by rw [show a = 45 by rw [← u8_back a, show a.toNat = 45 from e]; rfl]⟩
    ·rw [if_neg ha] at hg; simp at hg
   | a :: b :: r, hg =>
    rw [sigL_2] at hg
    by_cases hp : pairB a b = true
    ·obtain ⟨p1, p2⟩ := pair_sing hp
     exact ⟨p1, fun e => absurd e p2⟩
    ·rw [if_neg hp] at hg
     by_cases ha : singB a = true
     ·rw [if_pos ha] at hg; simp at hg
     ·rw [if_neg ha] at hg; simp at hg
  obtain ⟨f1, f2, f3, f4, f5⟩ := (byte_facts (S.headD 0)).2.2.2 key.1
  refine ⟨?_, hs0, f5, key.2⟩
  unfold tkL
  rw [if_neg (by rw [f1]; simp), if_neg f2, if_neg (by rw [f3]; decide), if_neg (by rw [f4]; decide)]
  unfold sTok
  rw [if_neg (by omega), hsg, List.take_of_length_le (Nat.le_refl _)]
theorem sk_self {r : List UInt8} (h0 : r ≠ []) (hb : blankB (r.headD 0) = false) (h45 : ¬ ((r.headD 0).toNat = 45 ∧ ((r.drop 1).headD 0).toNat = 45)) : skL r = r := by
 cases r with
 | nil => exact absurd rfl h0
 | cons c r =>
  unfold skL
  have hb : blankB c = false := hb
  rw [skR_f, if_neg (by rw [hb]; decide), if_neg (show ¬ (c.toNat = 45 ∧ (r.headD 0).toNat = 45) from h45)]
theorem tok_step {t : TokenD} (h : tChk t = 0) (hn : -9223372036854775808 ≤ t.N ∧ t.N ≤ 9223372036854775807) {y : List UInt8} (hy : wsp y) : skL (tokB t ++ y) = tokB t ++ y ∧ tkL (tokB t ++ y) = (bare t, 0, (tokB t).length) := by
 obtain ⟨h1, h2, h3, h4⟩ := tok_reads h hn
 have eh : (tokB t ++ y).headD 0 = (tokB t).headD 0 := by
  cases hb : tokB t with
  | nil => exact absurd hb h2
  | cons c r => rfl
 refine ⟨sk_self (by simp [h2]) (by rw [eh]; exact h3) ?_, by rw [tk_ext hy (by rw [h1]), h1]⟩
 rintro ⟨x1, x2⟩
 rw [eh] at x1
 rw [h4 x1] at x2
 have x2 : (y.headD 0).toNat = 45 := x2
 cases y with
 | nil => exact absurd x2 (by decide)
 | cons d y => exact (ws_not d (wsp_no hy rfl)).2.2.2.2.1 x2
end Go.Proofs.YtjbopncobegleaaDoor.Pm
end
section
namespace Go.Proofs.YtjbopncobegleaaDoor.Pm
open Go.RowKit K
set_option linter.unusedVariables false
set_option linter.unusedSimpArgs false
set_option maxRecDepth 100000
abbrev okN (t : TokenD) : Prop := -9223372036854775808 ≤ t.N ∧ t.N ≤ 9223372036854775807
theorem skK_of {l r : List UInt8} {k : Nat} (hk : k ≤ l.length) (h : skL (l.drop k) = r) : skK l k = l.length - r.length := by unfold skK; rw [h]
theorem prt_runs (l : List UInt8) : ∀ (r : List TokenD) (k : Nat), k ≤ l.length → l.drop k = r.flatMap (fun t => 32 :: tokB t) → (∀ t ∈ r, tChk t = 0) → (∀ t ∈ r, okN t) → ∃ L, Runs l k L ∧ L.length = r.length ∧ (toks L).map bare = r.map bare
 | [], k, hk, h, _, _ => by
  refine ⟨[], ?_, rfl, rfl⟩
  show l.length ≤ skK l k
  have h : l.drop k = [] := h
  unfold skK
  rw [h]
  show l.length ≤ l.length - 0
  omega
 | t :: r, k, hk, h, hz, hn => by
  have hw : wsp (r.flatMap fun t => 32 :: tokB t) := by
   cases r with
   | nil => exact .inl rfl
   | cons x r => exact .inr (.inr rfl)
  obtain ⟨s1, s2⟩ := tok_step (hz t (List.mem_cons_self ..)) (hn t (List.mem_cons_self ..)) hw
  rw [List.flatMap_cons, List.cons_append] at h
  have h1 : k < l.length := by
   apply Decidable.byContradiction
   intro x
   rw [List.drop_of_length_le (by omega)] at h
   cases h
  have hd : l.drop (k + 1) = tokB t ++ r.flatMap fun t => 32 :: tokB t := by
   rw [← List.drop_drop, h]; rfl
  have hsk : skL (l.drop k) = tokB t ++ r.flatMap fun t => 32 :: tokB t := by
   rw [h]
   unfold skL
   rw [skR_f, if_pos (by decide)]
   exact s1
  have hk1 : skK l k = k + 1 := by
   rw [skK_of hk hsk, ← hd, List.length_drop]; omega
  have ht0 := (tok_reads (hz t (List.mem_cons_self ..)) (hn t (List.mem_cons_self ..))).2.1
  have hlt : k + 1 + (tokB t).length ≤ l.length := by
   have := congrArg List.length hd
   rw [List.length_drop, List.length_append] at this
   have := List.length_pos_iff.2 ht0
   omega
  have := List.length_pos_iff.2 ht0
  obtain ⟨L, l1, l2, l3⟩ := prt_runs l r (k + 1 + (tokB t).length) hlt (by rw [← List.drop_drop, hd, List.drop_left]) (fun x hx => hz x (List.mem_cons_of_mem _ hx)) (fun x hx => hn x (List.mem_cons_of_mem _ hx))
  refine ⟨(k + 1, bare t, (tokB t).length) :: L, ⟨hk1.symm, by omega, by rw [hd]; exact s2, l1⟩, by rw [List.length_cons, List.length_cons, l2], ?_⟩
  show (tokD (k + 1) (bare t) :: toks L).map bare = _
  rw [List.map_cons, List.map_cons, l3]
  rfl
theorem prt_back {r : List TokenD} (hz : ∀ t ∈ r, tChk t = 0) (hn : ∀ t ∈ r, okN t) (h120 : r.length ≤ 120) (h300 : (prtL r).length ≤ 300) : ∃ m, lexF (prtL r) = (m, 0, 0) ∧ m.map bare = r.map bare := by
 cases r with
 | nil =>
  refine ⟨[], ?_, rfl⟩
  have : Runs (prtL []) 0 [] := by show ([] : List UInt8).length ≤ _; exact Nat.zero_le _
  rw [ok_lexF h300 this (by decide)]; rfl
 | cons t r =>
  have hw : wsp (r.flatMap fun t => 32 :: tokB t) := by
   cases r with
   | nil => exact .inl rfl
   | cons x r => exact .inr (.inr rfl)
  have e : prtL (t :: r) = tokB t ++ r.flatMap fun t => 32 :: tokB t := by unfold prtL; rw [List.flatMap_cons, List.cons_append]; rfl
  obtain ⟨s1, s2⟩ := tok_step (hz t (List.mem_cons_self ..)) (hn t (List.mem_cons_self ..)) hw
  have ht0 := List.length_pos_iff.2 (tok_reads (hz t (List.mem_cons_self ..)) (hn t (List.mem_cons_self ..))).2.1
  obtain ⟨L, l1, l2, l3⟩ := prt_runs (prtL (t :: r)) r (tokB t).length (by rw [e, List.length_append]; omega) (by rw [e, List.drop_left]) (fun x hx => hz x (List.mem_cons_of_mem _ hx)) (fun x hx => hn x (List.mem_cons_of_mem _ hx))
  have hr : Runs (prtL (t :: r)) 0 ((0, bare t, (tokB t).length) :: L) := by
   refine ⟨?_, by rw [e, List.length_append]; omega, by rw [List.drop_zero, e]; exact s2, by rw [Nat.zero_add]; exact l1⟩
   rw [skK_of (r := prtL (t :: r)) (Nat.zero_le _) (by rw [List.drop_zero, e]; exact s1)]; omega
  refine ⟨_, ok_lexF h300 hr (by rw [List.length_cons] at *; omega), ?_⟩
  show (tokD 0 (bare t) :: toks L).map bare = _
  rw [List.map_cons, List.map_cons, l3]
  rfl
theorem tChk_mk {t : TokenD} (hk : 1 ≤ t.Kind ∧ t.Kind ≤ 5) (hn : 0 ≤ t.N) (hl : ¬ tLong t) (hf : ¬ tFrm t) : tChk t = 0 := by
 unfold tChk
 rw [if_neg (by omega), if_neg hf, if_neg hl, if_neg (by omega)]
theorem tk_right {r : List UInt8} {t : Tk} {n : Nat} (k : Nat) (h : tkL r = (t, 0, n)) : tChk (tokD k t) = 0 ∧ okN (tokD k t) := by
 have mk : ∀ (kd : Int) (s : List UInt8), (kd = 3 ∨ kd = 4) → s.length ≤ 16 → tChk (tokD k (kd, 0, s)) = 0 ∧ okN (tokD k (kd, 0, s)) := by
  intro kd s hk hs
  refine ⟨?_, ⟨by show (_ : Int) ≤ 0; decide, by show (0 : Int) ≤ _; decide⟩⟩
  refine tChk_mk ⟨show 1 ≤ kd by omega, show kd ≤ 5 by omega⟩ (Int.le_refl 0) ?_ ?_
  ·show ¬ ((kd = 1 ∧ _) ∨ ((kd = 3 ∨ kd = 4) ∧ 16 < s.length))
   omega
  ·show ¬ ((kd = 2 ∧ _) ∨ (kd ≠ 2 ∧ (0 : Int) ≠ 0) ∨ (kd = 1 ∧ _) ∨ (kd = 5 ∧ _))
   rintro (⟨x, _⟩ | ⟨_, x⟩ | ⟨x, _⟩ | ⟨x, _⟩) <;> omega
 unfold tkL at h
 by_cases c1 : isX (r.headD 0) = true ∧ ((r.drop 1).headD 0).toNat = 39
 ·rw [if_pos c1] at h
  have hq : (qTok 4 (hexL true) (r.drop 1)).2.1 = 0 := congrArg (fun x => x.2.1) h
  obtain ⟨m, s, h1, h2, h3, h4⟩ := qTok_ok hq
  rw [h4] at h
  have := congrArg Prod.fst h
  have ht : (4, 0, s) = t := this
  rw [← ht]
  exact mk 4 s (.inr rfl) h3
 ·rw [if_neg c1] at h
  by_cases c2 : (r.headD 0).toNat = 39
  ·rw [if_pos c2] at h
   have hq : (qTok 3 quotL r).2.1 = 0 := congrArg (fun x => x.2.1) h
   obtain ⟨m, s, h1, h2, h3, h4⟩ := qTok_ok hq
   rw [h4] at h
   have ht : (3, 0, s) = t := congrArg Prod.fst h
   rw [← ht]
   exact mk 3 s (.inl rfl) h3
  ·rw [if_neg c2] at h
   by_cases c3 : letB (r.headD 0) = true
   ·rw [if_pos c3] at h
    unfold wTok at h
    by_cases h12 : 12 < (r.takeWhile innB).length
    ·rw [if_pos h12] at h
     have := congrArg (fun x => x.2.1) h
     cases this
    ·rw [if_neg h12] at h
     have ht : (1, 0, (r.takeWhile innB).map smB) = t := congrArg Prod.fst h
     rw [← ht]
     have hin : innB (r.headD 0) = true := by unfold innB; rw [c3]; rfl
     have hp := takeWhile_pos (p := innB) hin (by decide)
     have hw : wordB ((r.takeWhile innB).map smB) = true := by
      refine wordB_of (fun e => by rw [e] at hp; simp at hp) ?_ (fun c hc => (List.all_takeWhile (p := innB) (l := r)) |> fun ha => List.all_eq_true.1 ha c hc)
      cases r with
      | nil => exact absurd c3 (by decide)
      | cons c r =>
       have hin : innB c = true := hin
       rw [List.takeWhile_cons, if_pos hin]; exact c3
     refine ⟨?_, ⟨by show (_ : Int) ≤ 0; decide, by show (0 : Int) ≤ _; decide⟩⟩
     refine tChk_mk ⟨show (1 : Int) ≤ 1 by decide, show (1 : Int) ≤ 5 by decide⟩ (Int.le_refl 0) ?_ ?_
     ·show ¬ (((1 : Int) = 1 ∧ 12 < ((r.takeWhile innB).map smB).length) ∨ (((1 : Int) = 3 ∨ (1 : Int) = 4) ∧ _))
      rw [List.length_map]
      omega
     ·rintro (⟨x, _⟩ | ⟨_, x⟩ | ⟨_, x⟩ | ⟨x, _⟩)
      ·exact absurd (show (1 : Int) = _ from x) (by decide)
      ·exact x rfl
      ·have x : wordB ((r.takeWhile innB).map smB) = false := x
       rw [hw] at x; cases x
      ·exact absurd (show (1 : Int) = _ from x) (by decide)
   ·rw [if_neg c3] at h
    by_cases c4 : digB (r.headD 0) = true
    ·rw [if_pos c4] at h
     unfold nTok at h
     by_cases hh : headB letB (r.dropWhile digB) = true
     ·rw [if_pos hh] at h
      have := congrArg (fun x => x.2.1) h
      cases this
     ·rw [if_neg hh] at h
      have ht : (2, (digV (r.takeWhile digB) most1 : Int), []) = t := congrArg Prod.fst h
      rw [← ht]
      have hv : digV (r.takeWhile digB) most1 ≤ 9223372036854775807 := digV_le _ most1
      refine ⟨?_, ⟨by show (_ : Int) ≤ (digV (r.takeWhile digB) most1 : Int); omega, by show (digV (r.takeWhile digB) most1 : Int) ≤ _; omega⟩⟩
      refine tChk_mk ⟨show (1 : Int) ≤ 2 by decide, show (2 : Int) ≤ 5 by decide⟩ (show (0 : Int) ≤ (digV (r.takeWhile digB) most1 : Int) by omega) ?_ ?_
      ·show ¬ (((2 : Int) = 1 ∧ _) ∨ (((2 : Int) = 3 ∨ (2 : Int) = 4) ∧ _))
       rintro (⟨x, _⟩ | ⟨x, _⟩)
       ·exact absurd (show (2 : Int) = _ from x) (by decide)
       ·exact absurd (show (2 : Int) = 3 ∨ (2 : Int) = 4 from x) (by decide)
      ·rintro (⟨_, x⟩ | ⟨x, _⟩ | ⟨x, _⟩ | ⟨x, _⟩)
       ·exact x rfl
       ·exact x rfl
       ·exact absurd (show (2 : Int) = _ from x) (by decide)
       ·exact absurd (show (2 : Int) = _ from x) (by decide)
    ·rw [if_neg c4] at h
     unfold sTok at h
     by_cases h0 : sigL r = 0
     ·rw [if_pos h0] at h
      have := congrArg (fun x => x.2.1) h
      cases this
     ·rw [if_neg h0] at h
      have ht : (5, 0, r.take (sigL r)) = t := congrArg Prod.fst h
      rw [← ht]
      have hsl := sigL_le r
      have hlen : (r.take (sigL r)).length = sigL r := by rw [List.length_take]; omega
      refine ⟨?_, ⟨by show (_ : Int) ≤ 0; decide, by show (0 : Int) ≤ _; decide⟩⟩
      refine tChk_mk ⟨show (1 : Int) ≤ 5 by decide, show (5 : Int) ≤ 5 by decide⟩ (Int.le_refl 0) ?_ ?_
      ·rintro (⟨x, _⟩ | ⟨x, _⟩)
       ·exact absurd (show (5 : Int) = _ from x) (by decide)
       ·exact absurd (show (5 : Int) = 3 ∨ (5 : Int) = 4 from x) (by decide)
      ·rintro (⟨x, _⟩ | ⟨_, x⟩ | ⟨x, _⟩ | ⟨_, x⟩)
       ·exact absurd (show (5 : Int) = _ from x) (by decide)
       ·exact x rfl
       ·exact absurd (show (5 : Int) = _ from x) (by decide)
       ·have x : r.take (sigL r) = [] ∨ sigL (r.take (sigL r)) ≠ (r.take (sigL r)).length := x
        rcases x with x | x
        ·rw [x] at hlen; simp at hlen; omega
        ·exact x (by rw [sigL_cut r (sigL r) (Nat.le_refl _) (by omega), hlen])
theorem runs_right (l : List UInt8) : ∀ (L : List (Nat × Tk × Nat)) (k : Nat), Runs l k L → ∀ t ∈ toks L, tChk t = 0 ∧ okN t
 | [], _, _, t, ht => absurd ht (by simp [toks])
 | (p, a, n) :: L, k, h, t, ht => by
  obtain ⟨_, _, h3, h4⟩ := h
  rcases List.mem_cons.1 ht with rfl | ht
  ·exact tk_right p h3
  ·exact runs_right l L _ h4 t ht
theorem runs_eqk {l : List UInt8} {k k' : Nat} (h : skK l k = skK l k') : ∀ {L : List (Nat × Tk × Nat)}, Runs l k L → Runs l k' L
 | [], hr => by show l.length ≤ skK l k'; rw [← h]; exact hr
 | (p, t, n) :: L, hr => ⟨by rw [← h]; exact hr.1, hr.2.1, hr.2.2.1, hr.2.2.2⟩
def shiftB (a : Nat) (L : List (Nat × Tk × Nat)) : List (Nat × Tk × Nat) := L.map fun x => (x.1 - a, x.2.1, x.2.2)
theorem skK_shift {l : List UInt8} {a k : Nat} (h1 : a ≤ k) (h2 : k ≤ l.length) : skK (l.drop a) (k - a) = skK l k - a := by
 unfold skK
 rw [List.drop_drop, show a + (k - a) = k by omega, List.length_drop]
 have := skR_le false (l.drop k)
 rw [List.length_drop] at this
 unfold skL
 omega
theorem runs_drop {l : List UInt8} {a : Nat} : ∀ {L : List (Nat × Tk × Nat)} {k : Nat}, a ≤ k → k ≤ l.length → Runs l k L → Runs (l.drop a) (k - a) (shiftB a L)
 | [], k, h1, h2, hr => by
  have hr : l.length ≤ skK l k := hr
  show (l.drop a).length ≤ skK (l.drop a) (k - a)
  rw [skK_shift h1 h2, List.length_drop]; omega
 | (p, t, n) :: L, k, h1, h2, hr => by
  obtain ⟨rfl, hp, h3, h4⟩ := hr
  have hg := skK_ge h2
  have he : (tkL (l.drop (skK l k))).2.1 = 0 := by rw [h3]
  have hl := tkL_len he
  rw [h3, List.length_drop] at hl
  have hl : 1 ≤ n ∧ n ≤ l.length - skK l k := hl
  refine ⟨(skK_shift h1 h2).symm, ?_, ?_, ?_⟩
  ·show skK l k - a < (l.drop a).length
   rw [List.length_drop]; omega
  ·show tkL ((l.drop a).drop (skK l k - a)) = _
   rw [List.drop_drop, show a + (skK l k - a) = skK l k by omega]; exact h3
  ·have := runs_drop (a := a) (L := L) (k := skK l k + n) (by omega) (by omega) h4
   rw [show skK l k + n - a = skK l k - a + n by omega] at this
   exact this
theorem skK_self {l : List UInt8} {k : Nat} (hk : k ≤ l.length) (hlt : skK l k < l.length) : skK l (skK l k) = skK l k := by
 have h1 := skK_drop hk
 have idem : ∀ (b : Bool) (r : List UInt8), skL (skR b r) = skR b r := by
  intro b r
  induction r generalizing b with
  | nil => rw [skR_nil]; rfl
  | cons c r ih =>
   cases b with
   | true => rw [skR_t]; exact ih _
   | false =>
    rw [skR_f]
    split
    ·exact ih _
    ·rename_i hb
     split
     ·exact ih _
     ·rename_i hr
      unfold skL
      rw [skR_f, if_neg hb, if_neg hr]
 have h2 : skL (l.drop (skK l k)) = l.drop (skK l k) := by rw [h1]; exact idem _ _
 rw [skK_of (Nat.le_of_lt hlt) h2, List.length_drop]; omega
theorem skK_cut {l : List UInt8} {k p : Nat} (hk : k ≤ l.length) (h : skK l k ≤ p) (hp : p ≤ l.length) : skK (l.take p) k = skK l k := by
 have hg := skK_ge hk
 have hle := skR_le false (l.drop k)
 rw [List.length_drop] at hle
 have hs : skK l k = l.length - (skR false (l.drop k)).length := rfl
 unfold skK skL
 rw [List.drop_take, skR_cut false (l.drop k) (p - k) (by rw [List.length_drop]; omega), List.length_take, List.length_take, List.length_drop]
 omega
theorem runs_cut {l : List UInt8} {p : Nat} {x : Tk × Nat} : ∀ {A B : List (Nat × Tk × Nat)} {k : Nat}, k ≤ l.length → Runs l k (A ++ (p, x) :: B) → Runs (l.take p) k A ∧ k ≤ p ∧ (∀ y ∈ A, y.1 < p) ∧ p < l.length
 | [], B, k, hk, h => by
  obtain ⟨rfl, hp, _, _⟩ := h
  refine ⟨?_, skK_ge hk, fun y hy => absurd hy (List.not_mem_nil), hp⟩
  show (l.take (skK l k)).length ≤ _
  rw [skK_cut hk (Nat.le_refl _) (skK_le _ _), List.length_take]; omega
 | (q, t, n) :: A, B, k, hk, h => by
  obtain ⟨rfl, hq, h3, h4⟩ := h
  have he : (tkL (l.drop (skK l k))).2.1 = 0 := by rw [h3]
  have hl := tkL_len he
  rw [h3, List.length_drop] at hl
  have hl : 1 ≤ n ∧ n ≤ l.length - skK l k := hl
  obtain ⟨r1, r2, r3, r4⟩ := runs_cut (A := A) (B := B) (k := skK l k + n) (by omega) h4
  have hg := skK_ge hk
  refine ⟨⟨(skK_cut hk (by omega) (by omega)).symm, by rw [List.length_take]; omega, ?_, r1⟩, by omega, fun y hy => ?_, r4⟩
  ·rw [List.drop_take, tk_cut he (by rw [h3]; show n ≤ p - skK l k; omega)]; exact h3
  ·rcases List.mem_cons.1 hy with rfl | hy
   ·show skK l k < p; omega
   ·exact r3 y hy
theorem runs_tail {l : List UInt8} {y : Nat × Tk × Nat} : ∀ {A B : List (Nat × Tk × Nat)} {k : Nat}, k ≤ l.length → Runs l k (A ++ y :: B) → ∃ k', k' ≤ l.length ∧ Runs l k' (y :: B)
 | [], B, k, hk, h => ⟨k, hk, h⟩
 | (q, t, n) :: A, B, k, hk, h => by
  obtain ⟨rfl, hq, h3, h4⟩ := h
  have he : (tkL (l.drop (skK l k))).2.1 = 0 := by rw [h3]
  have hl := tkL_len he
  rw [h3, List.length_drop] at hl
  have hl : 1 ≤ n ∧ n ≤ l.length - skK l k := hl
  exact runs_tail (A := A) (by omega) h4
theorem bare_shift (a : Nat) (L : List (Nat × Tk × Nat)) : (toks (shiftB a L)).map bare = (toks L).map bare := by
 unfold toks shiftB
 rw [List.map_map, List.map_map, List.map_map]
 rfl
theorem places {l : List UInt8} {L : List (Nat × Tk × Nat)} (h3 : l.length ≤ 300) (h120 : L.length ≤ 120) (h : Runs l 0 L) (k : Nat) (hk : k < L.length) :
  L[k].1 < l.length ∧ (∀ j (hj : j < k), L[j].1 < L[k].1) ∧ (k = 0 → L[k].1 = skK l 0) ∧ (∃ m, lexF (l.take L[k].1) = (m, 0, 0) ∧ m.map bare = ((toks L).take k).map bare) ∧ (∃ n, lexF (l.drop L[k].1) = (n, 0, 0) ∧ n.map bare = ((toks L).drop k).map bare) := by
 have hsplit : L = L.take k ++ L[k] :: L.drop (k + 1) := by
  conv => lhs; rw [← List.take_append_drop k L, List.drop_eq_getElem_cons hk]
 have h' := h
 rw [hsplit] at h'
 obtain ⟨r1, r2, r3, r4⟩ := runs_cut (p := L[k].1) (x := L[k].2) (Nat.zero_le _) h'
 obtain ⟨k', g1, g2⟩ := runs_tail (Nat.zero_le _) h'
 refine ⟨r4, fun j hj => r3 _ (List.mem_take_iff_getElem.2 ⟨j, by omega, rfl⟩), ?_, ?_, ?_⟩
 ·rintro rfl
  exact h'.1
 ·refine ⟨_, ok_lexF (by rw [List.length_take]; omega) r1 (by rw [List.length_take]; omega), ?_⟩
  unfold toks
  rw [← List.map_take]
 ·have hp : L[k].1 = skK l k' := g2.1
  have hr : Runs l L[k].1 (L[k] :: L.drop (k + 1)) := by
   refine runs_eqk ?_ g2
   rw [hp, skK_self g1 (by rw [← hp]; exact r4)]
  have hd := runs_drop (a := L[k].1) (Nat.le_refl _) (Nat.le_of_lt r4) hr
  rw [Nat.sub_self] at hd
  refine ⟨_, ok_lexF (by rw [List.length_drop]; omega) hd (by unfold shiftB; rw [List.length_map, List.length_cons, List.length_drop]; omega), ?_⟩
  rw [bare_shift]
  unfold toks
  rw [← List.map_drop, List.drop_eq_getElem_cons hk]
end Go.Proofs.YtjbopncobegleaaDoor.Pm
end
section
namespace Go.Proofs.YtjbopncobegleaaDoor.Pm
open Go.RowKit K
set_option linter.unusedVariables false
set_option linter.unusedSimpArgs false
set_option maxRecDepth 100000
def shiftF (a : Nat) (L : List (Nat × Tk × Nat)) : List (Nat × Tk × Nat) := L.map fun x => (a + x.1, x.2.1, x.2.2)
theorem bare_shiftF (a : Nat) (L : List (Nat × Tk × Nat)) : (toks (shiftF a L)).map bare = (toks L).map bare := by
 unfold toks shiftF
 rw [List.map_map, List.map_map, List.map_map]
 rfl
theorem skK_up {l : List UInt8} {a k : Nat} (h : a + k ≤ l.length) : skK l (a + k) = a + skK (l.drop a) k := by
 have h1 := skK_shift (l := l) (a := a) (k := a + k) (by omega) h
 have h2 := skK_ge h
 rw [show a + k - a = k by omega] at h1
 omega
theorem runs_up {l : List UInt8} {a : Nat} : ∀ {L : List (Nat × Tk × Nat)} {k : Nat}, a + k ≤ l.length → Runs (l.drop a) k L → Runs l (a + k) (shiftF a L)
 | [], k, h1, hr => by
  have hr : (l.drop a).length ≤ skK (l.drop a) k := hr
  show l.length ≤ skK l (a + k)
  rw [List.length_drop] at hr
  rw [skK_up h1]; omega
 | (p, t, n) :: L, k, h1, hr => by
  obtain ⟨rfl, hp, h3, h4⟩ := hr
  have he : (tkL ((l.drop a).drop (skK (l.drop a) k))).2.1 = 0 := by rw [h3]
  have hl := tkL_len he
  rw [h3, List.length_drop, List.length_drop] at hl
  have hl : 1 ≤ n ∧ n ≤ l.length - a - skK (l.drop a) k := hl
  rw [List.length_drop] at hp
  refine ⟨(skK_up h1).symm, by show a + skK (l.drop a) k < l.length; omega, ?_, ?_⟩
  ·show tkL (l.drop (a + skK (l.drop a) k)) = _
   rw [← List.drop_drop]; exact h3
  ·have := runs_up (a := a) (L := L) (k := skK (l.drop a) k + n) (by omega) h4
   rw [← Nat.add_assoc] at this
   exact this
theorem sk_nil {s : List UInt8} {k : Nat} (h : s.length ≤ skK s k) : skL (s.drop k) = [] := by
 have hle := skR_le false (s.drop k)
 rw [List.length_drop] at hle
 unfold skK at h
 have h0 : skL (s.drop k) = skR false (s.drop k) := rfl
 refine List.length_eq_zero_iff.1 ?_
 rw [h0] at h ⊢
 by_cases hs : s.length = 0
 ·omega
 ·omega
theorem sk_ne {s : List UInt8} {k : Nat} (h : skK s k < s.length) : skL (s.drop k) ≠ [] := by
 intro e
 unfold skK at h
 rw [e] at h
 simp at h
theorem skK_ext {s y : List UInt8} {k : Nat} (hk : k ≤ s.length) (hy : wsp y) (h : skK s k < s.length) : skK (s ++ y) k = skK s k := by
 have h1 : skL ((s ++ y).drop k) = skL (s.drop k) ++ y := by
  rw [List.drop_append_of_le_length hk]
  exact skR_ext false _ hy (sk_ne h)
 unfold skK
 rw [h1, List.length_append, List.length_append]
 omega
theorem runs_ext {s x : List UInt8} {M : List (Nat × Tk × Nat)} (hM : Runs (s ++ 10 :: x) (s.length + 1) M) : ∀ {A : List (Nat × Tk × Nat)} {k : Nat}, k ≤ s.length → Runs s k A → Runs (s ++ 10 :: x) k (A ++ M)
 | [], k, hk, h => by
  have h0 := sk_nil (show s.length ≤ skK s k from h)
  obtain ⟨b', hb⟩ := skR_end false (s.drop k) h0
  have e1 : skL ((s ++ 10 :: x).drop k) = skL x := by
   rw [List.drop_append_of_le_length hk]
   refine (hb (10 :: x) (by show (10 : UInt8).toNat ≠ 45; decide)).trans ?_
   cases b' with
   | true => rfl
   | false => rw [skR_f, if_pos (by decide)]; rfl
  have e2 : (s ++ 10 :: x).drop (s.length + 1) = x := by
   rw [← List.drop_drop, List.drop_left]; rfl
  refine runs_eqk ?_ hM
  unfold skK
  rw [e1, e2]
 | (p, t, n) :: A, k, hk, h => by
  obtain ⟨rfl, hp, h3, h4⟩ := h
  have hw : wsp (10 :: x) := .inr (.inl rfl)
  have he : (tkL (s.drop (skK s k))).2.1 = 0 := by rw [h3]
  have hl := tkL_len he
  rw [h3, List.length_drop] at hl
  have hl : 1 ≤ n ∧ n ≤ s.length - skK s k := hl
  refine ⟨(skK_ext hk hw hp).symm, by rw [List.length_append]; omega, ?_, runs_ext hM (by omega) h4⟩
  rw [List.drop_append_of_le_length (Nat.le_of_lt hp), tk_ext hw he]; exact h3
theorem runs_post {t post : List UInt8} (hw : wsp post) (hp : ∀ b, skR b post = []) (h45 : (post.headD 0).toNat ≠ 45) : ∀ {A : List (Nat × Tk × Nat)} {k : Nat}, k ≤ t.length → Runs t k A → Runs (t ++ post) k A
 | [], k, hk, h => by
  have h0 := sk_nil (show t.length ≤ skK t k from h)
  obtain ⟨b', hb⟩ := skR_end false (t.drop k) h0
  have e1 : skL ((t ++ post).drop k) = [] := by
   rw [List.drop_append_of_le_length hk]
   exact (hb post h45).trans (hp b')
  show (t ++ post).length ≤ skK (t ++ post) k
  unfold skK
  rw [e1]
  exact Nat.le_refl _
 | (p, a, n) :: A, k, hk, h => by
  obtain ⟨rfl, hq, h3, h4⟩ := h
  have he : (tkL (t.drop (skK t k))).2.1 = 0 := by rw [h3]
  have hl := tkL_len he
  rw [h3, List.length_drop] at hl
  have hl : 1 ≤ n ∧ n ≤ t.length - skK t k := hl
  refine ⟨(skK_ext hk hw hq).symm, by rw [List.length_append]; omega, ?_, runs_post hw hp h45 (by omega) h4⟩
  rw [List.drop_append_of_le_length (Nat.le_of_lt hq), tk_ext hw he]; exact h3
def preL : List UInt8 := [32, 9, 45, 45, 39, 120, 10]
def postL : List UInt8 := [32, 45, 45, 32, 110, 111, 32, 109, 111, 114, 101]
theorem sk_pre (z : List UInt8) : skL (preL ++ z) = skL z := rfl
theorem sk_post (b : Bool) : skR b postL = [] := by cases b <;> decide
theorem blanks {s t : List UInt8} {A B : List (Nat × Tk × Nat)} (ha : Runs s 0 A) (hb : Runs t 0 B) (h1 : s.length ≤ 140) (h2 : t.length ≤ 140) (h3 : A.length ≤ 60) (h4 : B.length ≤ 60) :
  ∃ m, lexF (preL ++ (s ++ 10 :: (t ++ postL))) = (m, 0, 0) ∧ m.map bare = (toks A).map bare ++ (toks B).map bare := by
 have hB := runs_post (post := postL) (.inr (.inr rfl)) sk_post (by decide) (Nat.zero_le _) hb
 have e2 : (s ++ 10 :: (t ++ postL)).drop (s.length + 1) = t ++ postL := by rw [← List.drop_drop, List.drop_left]; rfl
 have hM : Runs (s ++ 10 :: (t ++ postL)) (s.length + 1) (shiftF (s.length + 1) B) := by
  have := runs_up (l := s ++ 10 :: (t ++ postL)) (a := s.length + 1) (k := 0) (L := B) (by rw [List.length_append, List.length_cons]; omega) (by rw [e2]; exact hB)
  exact this
 have hV := runs_ext hM (Nat.zero_le _) ha
 have hU : Runs (preL ++ (s ++ 10 :: (t ++ postL))) 7 (shiftF 7 (A ++ shiftF (s.length + 1) B)) := by
  have := runs_up (l := preL ++ (s ++ 10 :: (t ++ postL))) (a := 7) (k := 0) (L := A ++ shiftF (s.length + 1) B) (by rw [List.length_append]; show 7 + 0 ≤ 7 + _; omega) (by exact hV)
  exact this
 have hU0 : Runs (preL ++ (s ++ 10 :: (t ++ postL))) 0 (shiftF 7 (A ++ shiftF (s.length + 1) B)) := by
  refine runs_eqk ?_ hU
  unfold skK
  rw [show (preL ++ (s ++ 10 :: (t ++ postL))).drop 7 = s ++ 10 :: (t ++ postL) from rfl, List.drop_zero, sk_pre]
 have hpost : postL.length = 11 := rfl
 have hpre : preL.length = 7 := rfl
 refine ⟨_, ok_lexF (by rw [List.length_append, List.length_append, List.length_cons, List.length_append]; omega) hU0 (by unfold shiftF; rw [List.length_map, List.length_append, List.length_map]; omega), ?_⟩
 rw [bare_shiftF]
 unfold toks
 rw [List.map_append, List.map_append]
 congr 1
 exact bare_shiftF (s.length + 1) B
end Go.Proofs.YtjbopncobegleaaDoor.Pm
end
section
namespace Go.Proofs.YtjbopncobegleaaDoor.Pm
open Go.RowKit K
set_option linter.unusedVariables false
set_option linter.unusedSimpArgs false
set_option maxRecDepth 100000
instance : DecidableEq TokenD := fun x y => decidable_of_iff (TokenD.eqB x y = true) (TokenD.eqB_iff x y)
theorem p_printedof (l : List TokenD) (hl : l.length ≤ 140737488355328) (ht : ∀ t ∈ l, TokenD.ok t) : Pure Tryd.prog 14 [slV 4 TokenD.c l] (.tup [pStr (tx (prtR l)), pInt .i64 (prtE l)]) := by
 refine pure_of Tryd.func14 (by rfl) rfl (by kernel_rfl) (by rfl) ?_
 by_cases h120 : 120 < l.length
 ·have ha : tAllE l = 2 := if_pos h120
  have hp : prtE l = 2 := by unfold prtE; rw [ha, if_pos (by decide)]
  rw [show prtR l = [] from if_neg (by rw [hp]; decide), hp]
  ((conv => whnf); repeat' ((first | (with_reducible first | apply a_ | apply b_ | apply c_) | ((with_reducible first | apply d_ | apply e_ | apply f_ | apply g_); focus first | omega | (simp only [q_] <;> omega)) | ((with_reducible first | apply i_ | apply h_); focus first | omega | (simp only [q_] <;> omega)) | ((with_reducible apply h_); focus first | decide | kernel_rfl) | refine BCase.t (by decide) ?_ | refine BCase.f (by decide) ?_ | with_reducible first | apply l_ | apply m_ | apply n_ | apply o_ | refine p_ (fun _ => ?_) (fun _ => ?_)) <;> (conv => whnf)))
  all_goals first | exact Ret.mk rfl | (exfalso; omega)
 ·have ha : tAllE l = tChkAll l := if_neg h120
  ((conv => whnf); repeat' ((first | (with_reducible first | apply a_ | apply b_ | apply c_) | ((with_reducible first | apply d_ | apply e_ | apply f_ | apply g_); focus first | omega | (simp only [q_] <;> omega)) | ((with_reducible first | apply i_ | apply h_); focus first | omega | (simp only [q_] <;> omega)) | ((with_reducible apply h_); focus first | decide | kernel_rfl) | refine BCase.t (by decide) ?_ | refine BCase.f (by decide) ?_ | with_reducible first | apply l_ | apply m_ | apply n_ | apply o_ | refine p_ (fun _ => ?_) (fun _ => ?_)) <;> (conv => whnf)))
  refine LoopC.mk Nat (fun j => [(0, slV 4 TokenD.c l), (4, pStr (tx (prtL (l.take j)))), (5, pInt .i64 (j : Int))]) (fun j => []) [] (fun j => j ≤ l.length ∧ ∀ x ∈ l.take j, tChk x = 0) (fun j => l.length - j) 0 ⟨Nat.zero_le _, by simp⟩ ?start ?round
  case start => exact ⟨[], rfl, rfl, ⟨.inl rfl, PLe.text (by rw [List.take_zero]; rfl), .inl rfl, trivial⟩, trivial⟩
  case round =>
   rintro j ⟨hj, hz⟩
   have hj : j ≤ l.length := hj
   have hz : ∀ x ∈ l.take j, tChk x = 0 := hz
   have hn : ∀ t ∈ l, okN t := fun t hx => (ht t hx).2.2.1
   have hlen : (prtL (l.take j)).length ≤ 36 * l.length := by
    have := prt_len (l := l.take j) hz (fun t ht => hn t (List.mem_of_mem_take ht))
    rw [List.length_take] at this
    unfold prtL
    rw [List.length_drop]
    have : 36 * min j l.length ≤ 36 * l.length := Nat.mul_le_mul_left _ (Nat.min_le_right _ _)
    omega
   have tz := tx_size (prtL (l.take j))
   by_cases q : j < l.length
   ·have hm := List.getElem_mem q
    have pc := p_tcheckref l[j] (ht _ hm).2.2.2
    by_cases hx : tChk l[j] = 0
    ·have es := prt_snoc q
     have htl := tokB_len hx (hn _ hm)
     have tt := tx_size (tokB l[j])
     have hz2 : ∀ x ∈ l.take (j + 1), tChk x = 0 := by
      intro x hx2
      rw [take_snoc q, List.mem_append, List.mem_singleton] at hx2
      rcases hx2 with hx2 | rfl
      ·exact hz x hx2
      ·exact hx
     obtain ⟨hk, _⟩ := tChk_ok hx
     have e32 : tx (prtL (l.take j)) ++ (⟨#[32]⟩ : ByteArray) = tx (prtL (l.take j) ++ [32]) := tx_append _ [32]
     by_cases h1 : l[j].Kind = 1 ∨ l[j].Kind = 5
     ·have hb : tokB l[j] = l[j].S := if_pos h1
      rw [hb] at es htl tt
      by_cases h0 : 0 < j
      ·rw [if_pos h0] at es
       have ef : tx (prtL (l.take j)) ++ (⟨#[32]⟩ : ByteArray) ++ tx l[j].S = tx (prtL (l.take (j + 1))) := by rw [e32, tx_append, es, List.append_assoc]
       ((conv => whnf); repeat' ((first | (with_reducible first | apply a_ | apply b_ | apply c_) | ((with_reducible first | apply d_ | apply e_ | apply f_ | apply g_); focus first | omega | (simp only [q_] <;> omega)) | ((with_reducible first | apply i_ | apply h_); focus first | omega | (simp only [q_] <;> omega)) | ((with_reducible apply h_); focus first | decide | kernel_rfl) | refine BCase.t (by decide) ?_ | refine BCase.f (by decide) ?_ | (refine Idx.mapI j rfl q ?_) | refine CallP.pure _ rfl _ (pc) ?_ | (first | refine Need.mk (by show (tx (prtL (l.take j))).size + 1 ≤ _; omega) ?_ | refine Need.mk (by rw [e32]; show (prtL (l.take j) ++ [32]).length + l[j].S.length ≤ _; rw [List.length_append, List.length_singleton]; omega) ?_) | with_reducible first | apply l_ | apply m_ | apply n_ | apply o_ | refine p_ (fun _ => ?_) (fun _ => ?_)) <;> (conv => whnf)))
       all_goals first
        | (exfalso; omega)
        | exact ⟨j + 1, ⟨by omega, hz2⟩, by omega, [], rfl, rfl, ⟨.inl rfl, PLe.c (by rw [ef]), PLe.int (by omega), trivial⟩, trivial⟩
      ·rw [if_neg h0] at es
       have ef : tx (prtL (l.take j)) ++ tx l[j].S = tx (prtL (l.take (j + 1))) := by rw [tx_append, es]; rfl
       ((conv => whnf); repeat' ((first | (with_reducible first | apply a_ | apply b_ | apply c_) | ((with_reducible first | apply d_ | apply e_ | apply f_ | apply g_); focus first | omega | (simp only [q_] <;> omega)) | ((with_reducible first | apply i_ | apply h_); focus first | omega | (simp only [q_] <;> omega)) | ((with_reducible apply h_); focus first | decide | kernel_rfl) | refine BCase.t (by decide) ?_ | refine BCase.f (by decide) ?_ | (refine Idx.mapI j rfl q ?_) | refine CallP.pure _ rfl _ (pc) ?_ | (refine Need.mk (by show (tx (prtL (l.take j))).size + (tx l[j].S).size ≤ _; omega) ?_) | with_reducible first | apply l_ | apply m_ | apply n_ | apply o_ | refine p_ (fun _ => ?_) (fun _ => ?_)) <;> (conv => whnf)))
       all_goals first
        | (exfalso; omega)
        | exact ⟨j + 1, ⟨by omega, hz2⟩, by omega, [], rfl, rfl, ⟨.inl rfl, PLe.c (by rw [ef]), PLe.int (by omega), trivial⟩, trivial⟩
     ·have hb : tokB l[j] = showV ⟨l[j].Kind - 1, l[j].N, l[j].S⟩ := if_neg h1
      have ps := p_shownof ⟨l[j].Kind - 1, l[j].N, l[j].S⟩ (tok_val hx h1) (hn _ hm)
      rw [← hb] at ps
      by_cases h0 : 0 < j
      ·rw [if_pos h0] at es
       have ef : tx (prtL (l.take j)) ++ (⟨#[32]⟩ : ByteArray) ++ tx (tokB l[j]) = tx (prtL (l.take (j + 1))) := by rw [e32, tx_append, es, List.append_assoc]
       ((conv => whnf); repeat' ((first | (with_reducible first | apply a_ | apply b_ | apply c_) | ((with_reducible first | apply d_ | apply e_ | apply f_ | apply g_); focus first | omega | (simp only [q_] <;> omega)) | ((with_reducible first | apply i_ | apply h_); focus first | omega | (simp only [q_] <;> omega)) | ((with_reducible apply h_); focus first | decide | kernel_rfl) | refine BCase.t (by decide) ?_ | refine BCase.f (by decide) ?_ | (refine Idx.mapI j rfl q ?_) | refine CallP.pure _ rfl _ (pc) ?_ | refine CallP.pure _ rfl _ (ps) ?_ | (first | refine Need.mk (by show (tx (prtL (l.take j))).size + 1 ≤ _; omega) ?_ | refine Need.mk (by rw [e32]; show (prtL (l.take j) ++ [32]).length + (tokB l[j]).length ≤ _; rw [List.length_append, List.length_singleton]; omega) ?_) | with_reducible first | apply l_ | apply m_ | apply n_ | apply o_ | refine p_ (fun _ => ?_) (fun _ => ?_)) <;> (conv => whnf)))
       all_goals first
        | (exfalso; omega)
        | exact ⟨j + 1, ⟨by omega, hz2⟩, by omega, [], rfl, rfl, ⟨.inl rfl, PLe.c (by rw [ef]), PLe.int (by omega), trivial⟩, trivial⟩
      ·rw [if_neg h0] at es
       have ef : tx (prtL (l.take j)) ++ tx (tokB l[j]) = tx (prtL (l.take (j + 1))) := by rw [tx_append, es]; rfl
       ((conv => whnf); repeat' ((first | (with_reducible first | apply a_ | apply b_ | apply c_) | ((with_reducible first | apply d_ | apply e_ | apply f_ | apply g_); focus first | omega | (simp only [q_] <;> omega)) | ((with_reducible first | apply i_ | apply h_); focus first | omega | (simp only [q_] <;> omega)) | ((with_reducible apply h_); focus first | decide | kernel_rfl) | refine BCase.t (by decide) ?_ | refine BCase.f (by decide) ?_ | (refine Idx.mapI j rfl q ?_) | refine CallP.pure _ rfl _ (pc) ?_ | refine CallP.pure _ rfl _ (ps) ?_ | (refine Need.mk (by show (tx (prtL (l.take j))).size + (tx (tokB l[j])).size ≤ _; omega) ?_) | with_reducible first | apply l_ | apply m_ | apply n_ | apply o_ | refine p_ (fun _ => ?_) (fun _ => ?_)) <;> (conv => whnf)))
       all_goals first
        | (exfalso; omega)
        | exact ⟨j + 1, ⟨by omega, hz2⟩, by omega, [], rfl, rfl, ⟨.inl rfl, PLe.c (by rw [ef]), PLe.int (by omega), trivial⟩, trivial⟩
    ·have hc := tChkAll_at q hz hx
     have hp : prtE l = tChk l[j] := by unfold prtE; rw [ha, hc, if_pos hx]
     rw [show prtR l = [] from if_neg (by rw [hp]; exact hx), hp]
     ((conv => whnf); repeat' ((first | (with_reducible first | apply a_ | apply b_ | apply c_) | ((with_reducible first | apply d_ | apply e_ | apply f_ | apply g_); focus first | omega | (simp only [q_] <;> omega)) | ((with_reducible first | apply i_ | apply h_); focus first | omega | (simp only [q_] <;> omega)) | ((with_reducible apply h_); focus first | decide | kernel_rfl) | refine BCase.t (by decide) ?_ | refine BCase.f (by decide) ?_ | (refine Idx.mapI j rfl q ?_) | refine CallP.pure _ rfl _ (pc) ?_ | with_reducible first | apply l_ | apply m_ | apply n_ | apply o_ | refine p_ (fun _ => ?_) (fun _ => ?_)) <;> (conv => whnf)))
     all_goals first | exact Ret.mk rfl | (exfalso; omega)
   ·have e : l.take j = l := List.take_of_length_le (by omega)
    rw [e] at hlen tz hz ⊢
    have hz0 : tAllE l = 0 := by rw [ha]; exact tChkAll_ok.2 hz
    by_cases h300 : 300 < (prtL l).length
    ·have hp : prtE l = 2 := by unfold prtE; rw [if_neg (not_not_intro hz0), if_pos h300]
     rw [show prtR l = [] from if_neg (by rw [hp]; decide), hp]
     ((conv => whnf); repeat' ((first | (with_reducible first | apply a_ | apply b_ | apply c_) | ((with_reducible first | apply d_ | apply e_ | apply f_ | apply g_); focus first | omega | (simp only [q_] <;> omega)) | ((with_reducible first | apply i_ | apply h_); focus first | omega | (simp only [q_] <;> omega)) | ((with_reducible apply h_); focus first | decide | kernel_rfl) | refine BCase.t (by decide) ?_ | refine BCase.f (by decide) ?_ | with_reducible first | apply l_ | apply m_ | apply n_ | apply o_ | refine p_ (fun _ => ?_) (fun _ => ?_)) <;> (conv => whnf)))
     all_goals first | exact Ret.mk rfl | (exfalso; omega)
    ·have hp : prtE l = 0 := by unfold prtE; rw [if_neg (not_not_intro hz0), if_neg h300]
     rw [show prtR l = prtL l from if_pos hp, hp]
     ((conv => whnf); repeat' ((first | (with_reducible first | apply a_ | apply b_ | apply c_) | ((with_reducible first | apply d_ | apply e_ | apply f_ | apply g_); focus first | omega | (simp only [q_] <;> omega)) | ((with_reducible first | apply i_ | apply h_); focus first | omega | (simp only [q_] <;> omega)) | ((with_reducible apply h_); focus first | decide | kernel_rfl) | refine BCase.t (by decide) ?_ | refine BCase.f (by decide) ?_ | with_reducible first | apply l_ | apply m_ | apply n_ | apply o_ | refine p_ (fun _ => ?_) (fun _ => ?_)) <;> (conv => whnf)))
     all_goals first | exact Ret.mk rfl | (exfalso; omega)
def sameB (a b : List TokenD) : Bool := decide (a.map bare = b.map bare)
theorem p_sametokens (a b : List TokenD) (ha : a.length ≤ 140737488355328) : Pure Tryd.prog 12 [slV 4 TokenD.c a, slV 4 TokenD.c b] (pBool (sameB a b)) := by
 refine pure_of Tryd.func12 (by rfl) rfl (by kernel_rfl) (by rfl) ?_
 unfold sameB
 by_cases hl : a.length = b.length
 ·((conv => whnf); repeat' ((first | (with_reducible first | apply a_ | apply b_ | apply c_) | ((with_reducible first | apply d_ | apply e_ | apply f_ | apply g_); focus first | omega | (simp only [q_] <;> omega)) | ((with_reducible first | apply i_ | apply h_); focus first | omega | (simp only [q_] <;> omega)) | ((with_reducible apply h_); focus first | decide | kernel_rfl) | refine BCase.t (by decide) ?_ | refine BCase.f (by decide) ?_ | with_reducible first | apply l_ | apply m_ | apply n_ | apply o_ | refine p_ (fun _ => ?_) (fun _ => ?_)) <;> (conv => whnf)))
  refine LoopC.mk Nat (fun j => [(0, slV 4 TokenD.c a), (1, slV 4 TokenD.c b), (5, pInt .i64 (j : Int))]) (fun j => []) [] (fun j => j ≤ a.length ∧ (a.take j).map bare = (b.take j).map bare) (fun j => a.length - j) 0 ⟨Nat.zero_le _, by simp⟩ ?start ?round
  case start => exact ⟨[], rfl, rfl, ⟨.inl rfl, .inl rfl, .inl rfl, trivial⟩, trivial⟩
  case round =>
   rintro j ⟨hj, he⟩
   have hj : j ≤ a.length := hj
   have he : (a.take j).map bare = (b.take j).map bare := he
   by_cases q : j < a.length
   ·have q2 : j < b.length := by omega
    have ex : (tx a[j].S = tx b[j].S) ↔ a[j].S = b[j].S := tx_eq
    have iff : bare a[j] = bare b[j] ↔ a[j].Kind = b[j].Kind ∧ a[j].N = b[j].N ∧ a[j].S = b[j].S := by unfold bare; simp
    have bad : ¬ (a[j].Kind = b[j].Kind ∧ a[j].N = b[j].N ∧ a[j].S = b[j].S) → decide (a.map bare = b.map bare) = false := by
     intro hx
     refine decide_eq_false fun e => hx (iff.1 ?_)
     have h1 := congrArg (fun l => l[j]?) e
     simp only [List.getElem?_map, List.getElem?_eq_getElem q, List.getElem?_eq_getElem q2, Option.map_some] at h1
     exact Option.some.inj h1
    by_cases h1 : a[j].Kind = b[j].Kind
    ·by_cases h2 : a[j].N = b[j].N
     ·by_cases h3 : a[j].S = b[j].S
      ·have h3' : ¬ ¬ tx a[j].S = tx b[j].S := not_not_intro (ex.2 h3)
       ((conv => whnf); repeat' ((first | (with_reducible first | apply a_ | apply b_ | apply c_) | ((with_reducible first | apply d_ | apply e_ | apply f_ | apply g_); focus first | omega | (simp only [q_] <;> omega)) | ((with_reducible first | apply i_ | apply h_); focus first | omega | (simp only [q_] <;> omega)) | ((with_reducible apply h_); focus first | decide | kernel_rfl) | refine BCase.t (by decide) ?_ | refine BCase.f (by decide) ?_ | (first | refine Idx.mapI j rfl q ?_ | refine Idx.mapI j rfl q2 ?_) | (refine BCase.df h3' ?_) | with_reducible first | apply l_ | apply m_ | apply n_ | apply o_ | refine p_ (fun _ => ?_) (fun _ => ?_)) <;> (conv => whnf)))
       all_goals first
        | (exfalso; omega)
        | skip
       refine ⟨j + 1, ⟨by omega, ?_⟩, by omega, [], rfl, rfl, ⟨.inl rfl, .inl rfl, PLe.int (by omega), trivial⟩, trivial⟩
       show (a.take (j + 1)).map bare = (b.take (j + 1)).map bare
       rw [take_snoc q, take_snoc q2, List.map_append, List.map_append, he, List.map_singleton, List.map_singleton, iff.2 ⟨h1, h2, h3⟩]
      ·have h3' : ¬ tx a[j].S = tx b[j].S := fun x => h3 (ex.1 x)
       rw [bad (fun x => h3 x.2.2)]
       ((conv => whnf); repeat' ((first | (with_reducible first | apply a_ | apply b_ | apply c_) | ((with_reducible first | apply d_ | apply e_ | apply f_ | apply g_); focus first | omega | (simp only [q_] <;> omega)) | ((with_reducible first | apply i_ | apply h_); focus first | omega | (simp only [q_] <;> omega)) | ((with_reducible apply h_); focus first | decide | kernel_rfl) | refine BCase.t (by decide) ?_ | refine BCase.f (by decide) ?_ | (first | refine Idx.mapI j rfl q ?_ | refine Idx.mapI j rfl q2 ?_) | (refine BCase.dt h3' ?_) | with_reducible first | apply l_ | apply m_ | apply n_ | apply o_ | refine p_ (fun _ => ?_) (fun _ => ?_)) <;> (conv => whnf)))
       all_goals first | exact Ret.bool rfl | (exfalso; omega)
     ·rw [bad (fun x => h2 x.2.1)]
      ((conv => whnf); repeat' ((first | (with_reducible first | apply a_ | apply b_ | apply c_) | ((with_reducible first | apply d_ | apply e_ | apply f_ | apply g_); focus first | omega | (simp only [q_] <;> omega)) | ((with_reducible first | apply i_ | apply h_); focus first | omega | (simp only [q_] <;> omega)) | ((with_reducible apply h_); focus first | decide | kernel_rfl) | refine BCase.t (by decide) ?_ | refine BCase.f (by decide) ?_ | (first | refine Idx.mapI j rfl q ?_ | refine Idx.mapI j rfl q2 ?_) | with_reducible first | apply l_ | apply m_ | apply n_ | apply o_ | refine p_ (fun _ => ?_) (fun _ => ?_)) <;> (conv => whnf)))
      all_goals first | exact Ret.bool rfl | (exfalso; omega)
    ·rw [bad (fun x => h1 x.1)]
     ((conv => whnf); repeat' ((first | (with_reducible first | apply a_ | apply b_ | apply c_) | ((with_reducible first | apply d_ | apply e_ | apply f_ | apply g_); focus first | omega | (simp only [q_] <;> omega)) | ((with_reducible first | apply i_ | apply h_); focus first | omega | (simp only [q_] <;> omega)) | ((with_reducible apply h_); focus first | decide | kernel_rfl) | refine BCase.t (by decide) ?_ | refine BCase.f (by decide) ?_ | (first | refine Idx.mapI j rfl q ?_ | refine Idx.mapI j rfl q2 ?_) | with_reducible first | apply l_ | apply m_ | apply n_ | apply o_ | refine p_ (fun _ => ?_) (fun _ => ?_)) <;> (conv => whnf)))
     all_goals first | exact Ret.bool rfl | (exfalso; omega)
   ·rw [List.take_of_length_le (by omega), List.take_of_length_le (by omega)] at he
    rw [decide_eq_true he]
    ((conv => whnf); repeat' ((first | (with_reducible first | apply a_ | apply b_ | apply c_) | ((with_reducible first | apply d_ | apply e_ | apply f_ | apply g_); focus first | omega | (simp only [q_] <;> omega)) | ((with_reducible first | apply i_ | apply h_); focus first | omega | (simp only [q_] <;> omega)) | ((with_reducible apply h_); focus first | decide | kernel_rfl) | refine BCase.t (by decide) ?_ | refine BCase.f (by decide) ?_ | with_reducible first | apply l_ | apply m_ | apply n_ | apply o_ | refine p_ (fun _ => ?_) (fun _ => ?_)) <;> (conv => whnf)))
    exact Ret.bool rfl
 ·rw [decide_eq_false (fun e => hl (by have := congrArg List.length e; rwa [List.length_map, List.length_map] at this))]
  ((conv => whnf); repeat' ((first | (with_reducible first | apply a_ | apply b_ | apply c_) | ((with_reducible first | apply d_ | apply e_ | apply f_ | apply g_); focus first | omega | (simp only [q_] <;> omega)) | ((with_reducible first | apply i_ | apply h_); focus first | omega | (simp only [q_] <;> omega)) | ((with_reducible apply h_); focus first | decide | kernel_rfl) | refine BCase.t (by decide) ?_ | refine BCase.f (by decide) ?_ | with_reducible first | apply l_ | apply m_ | apply n_ | apply o_ | refine p_ (fun _ => ?_) (fun _ => ?_)) <;> (conv => whnf)))
  all_goals first | exact Ret.bool rfl | (exfalso; simp only [List.length_map] at *; omega)
end Go.Proofs.YtjbopncobegleaaDoor.Pm
end
