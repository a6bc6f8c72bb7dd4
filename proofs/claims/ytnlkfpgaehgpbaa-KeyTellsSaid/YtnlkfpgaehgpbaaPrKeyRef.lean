/- the document's keys -/
import Derived.Test.YtnlkfpgaehgpbaaPrKeyLaws
namespace Go.Proofs.Ytnlkfpgaehgpbaa.Pm
open Go.RowKit K NumP NumW NumRd NumZ NumL
set_option linter.unusedVariables false
set_option linter.unusedSimpArgs false
set_option maxRecDepth 100000

/-! ### the order of rows -/
theorem tail_rows {x : ValueD} {a : List ValueD} : (((x :: a).map ValueD.c).drop (1 : Int).toNat).take ((((x :: a).map ValueD.c).length : Int).toNat - (1 : Int).toNat) = a.map ValueD.c := by
  rw [Int.toNat_natCast]
  show (a.map ValueD.c).take (((x :: a).map ValueD.c).length - 1) = _
  rw [List.length_map, List.length_cons, Nat.add_sub_cancel]
  exact List.take_of_length_le (by simp)
theorem p_rowless : ∀ (a b : List ValueD), (∀ v ∈ a, okText v.S) → (∀ v ∈ b, okText v.S) → Pure Try.prog 44 [slV 3 ValueD.c a, slV 3 ValueD.c b] (pBool (decide (rOrd a b < 0)))
  | [], [], _, _ => by
    refine pure_of Try.func44 (by rfl) rfl (by kernel_rfl) (by rfl) ?_
    (((conv => whnf); repeat ((first | with_reducible refine BCase.tt ?_ | with_reducible refine BCase.ff ?_); (conv => whnf))); repeat' (first | ((first | with_reducible refine Wr.u8 ?_ | ((first | with_reducible refine Wr.ci ?s ?_ | with_reducible refine Wr.c3 ?s ?_ | with_reducible refine Wr.c6 ?s ?_ | with_reducible refine BCase.dt ?s ?_); case s => (first | omega | (simp only [lens, true_and, and_true]; (try omega); done))) | (with_reducible refine BCase.df ?s ?_; case s => (first | omega | (simp only [lens, true_and, and_true]; (try omega); done))) | (with_reducible refine Need.mk ?s ?_; case s => first | (first | omega | (simp only [lens, true_and, and_true]; (try omega); done)) | decide | kernel_rfl) | refine BCase.t (by decide) ?_ | refine BCase.f (by decide) ?_); ((conv => whnf); repeat ((first | with_reducible refine BCase.tt ?_ | with_reducible refine BCase.ff ?_); (conv => whnf)))) | ((with_reducible refine EmpOr.app ?_); ((conv => whnf); repeat ((first | with_reducible refine BCase.tt ?_ | with_reducible refine BCase.ff ?_); (conv => whnf)))) | (first | with_reducible refine BCase.not ?_ | with_reducible refine BCase.and ?_ | with_reducible refine BCase.or ?_) | ((with_reducible refine BCase.d (fun _ => ?_) (fun _ => ?_)) <;> ((conv => whnf); repeat ((first | with_reducible refine BCase.tt ?_ | with_reducible refine BCase.ff ?_); (conv => whnf))))))
    all_goals exact Ret.bool (by first | rfl | simp)
  | [], y :: b, _, _ => by
    refine pure_of Try.func44 (by rfl) rfl (by kernel_rfl) (by rfl) ?_
    have hl : (((y :: b).map ValueD.c).length : Int) ≠ 0 := by simp only [List.length_map, List.length_cons]; omega
    have hl2 : ¬ (((y :: b).map ValueD.c).length : Int) = 0 := hl
    (((conv => whnf); repeat ((first | with_reducible refine BCase.tt ?_ | with_reducible refine BCase.ff ?_); (conv => whnf))); repeat' (first | ((first | with_reducible refine Wr.u8 ?_ | ((first | with_reducible refine Wr.ci ?s ?_ | with_reducible refine Wr.c3 ?s ?_ | with_reducible refine Wr.c6 ?s ?_ | with_reducible refine BCase.dt ?s ?_); case s => (first | omega | (simp only [lens, true_and, and_true]; (try omega); done))) | (with_reducible refine BCase.df ?s ?_; case s => (first | omega | (simp only [lens, true_and, and_true]; (try omega); done))) | (with_reducible refine Need.mk ?s ?_; case s => first | (first | omega | (simp only [lens, true_and, and_true]; (try omega); done)) | decide | kernel_rfl) | refine BCase.t (by decide) ?_ | refine BCase.f (by decide) ?_); ((conv => whnf); repeat ((first | with_reducible refine BCase.tt ?_ | with_reducible refine BCase.ff ?_); (conv => whnf)))) | (( refine BCase.df hl2 ?_); ((conv => whnf); repeat ((first | with_reducible refine BCase.tt ?_ | with_reducible refine BCase.ff ?_); (conv => whnf)))) | ((with_reducible refine EmpOr.app ?_); ((conv => whnf); repeat ((first | with_reducible refine BCase.tt ?_ | with_reducible refine BCase.ff ?_); (conv => whnf)))) | (first | with_reducible refine BCase.not ?_ | with_reducible refine BCase.and ?_ | with_reducible refine BCase.or ?_) | ((with_reducible refine BCase.d (fun _ => ?_) (fun _ => ?_)) <;> ((conv => whnf); repeat ((first | with_reducible refine BCase.tt ?_ | with_reducible refine BCase.ff ?_); (conv => whnf))))))
    all_goals exact Ret.bool (by first | rfl | simp)
  | x :: a, [], _, _ => by
    refine pure_of Try.func44 (by rfl) rfl (by kernel_rfl) (by rfl) ?_
    (((conv => whnf); repeat ((first | with_reducible refine BCase.tt ?_ | with_reducible refine BCase.ff ?_); (conv => whnf))); repeat' (first | ((first | with_reducible refine Wr.u8 ?_ | ((first | with_reducible refine Wr.ci ?s ?_ | with_reducible refine Wr.c3 ?s ?_ | with_reducible refine Wr.c6 ?s ?_ | with_reducible refine BCase.dt ?s ?_); case s => (first | omega | (simp only [lens, true_and, and_true]; (try omega); done))) | (with_reducible refine BCase.df ?s ?_; case s => (first | omega | (simp only [lens, true_and, and_true]; (try omega); done))) | (with_reducible refine Need.mk ?s ?_; case s => first | (first | omega | (simp only [lens, true_and, and_true]; (try omega); done)) | decide | kernel_rfl) | refine BCase.t (by decide) ?_ | refine BCase.f (by decide) ?_); ((conv => whnf); repeat ((first | with_reducible refine BCase.tt ?_ | with_reducible refine BCase.ff ?_); (conv => whnf)))) | ((with_reducible refine EmpOr.app ?_); ((conv => whnf); repeat ((first | with_reducible refine BCase.tt ?_ | with_reducible refine BCase.ff ?_); (conv => whnf)))) | (first | with_reducible refine BCase.not ?_ | with_reducible refine BCase.and ?_ | with_reducible refine BCase.or ?_) | ((with_reducible refine BCase.d (fun _ => ?_) (fun _ => ?_)) <;> ((conv => whnf); repeat ((first | with_reducible refine BCase.tt ?_ | with_reducible refine BCase.ff ?_); (conv => whnf))))))
    all_goals exact Ret.bool (by first | rfl | simp)
  | x :: a, y :: b, ha, hb => by
    have ih := p_rowless a b (fun v hv => ha v (List.mem_cons_of_mem _ hv)) (fun v hv => hb v (List.mem_cons_of_mem _ hv))
    have ih' := ih.to (args' := [.d (.c (.sl 3 ((((x :: a).map ValueD.c).drop (1 : Int).toNat).take ((((x :: a).map ValueD.c).length : Int).toNat - (1 : Int).toNat)))), .d (.c (.sl 3 ((((y :: b).map ValueD.c).drop (1 : Int).toNat).take ((((y :: b).map ValueD.c).length : Int).toNat - (1 : Int).toNat))))]) (by rw [tail_rows, tail_rows]) rfl
    have hx := ha x (List.mem_cons_self ..)
    have hy := hb y (List.mem_cons_self ..)
    have pv := p_vless x y hx hy
    have l1 : ¬ (((x :: a).map ValueD.c).length : Int) = 0 := by simp only [List.length_map, List.length_cons]; omega
    have l2 : ¬ (((y :: b).map ValueD.c).length : Int) = 0 := by simp only [List.length_map, List.length_cons]; omega
    have l3 : 1 ≤ ((x :: a).map ValueD.c).length := by simp
    have l4 : 1 ≤ ((y :: b).map ValueD.c).length := by simp
    have ix : ∀ {K : List C → Prop}, K (ValueD.c x) → Idx ((x :: a).map ValueD.c) 0 K := fun h => Idx.mapI (l := x :: a) 0 rfl (Nat.zero_lt_succ _) h
    have iy : ∀ {K : List C → Prop}, K (ValueD.c y) → Idx ((y :: b).map ValueD.c) 0 K := fun h => Idx.mapI (l := y :: b) 0 rfl (Nat.zero_lt_succ _) h
    have hr : rOrd (x :: a) (y :: b) = if vOrd x y ≠ 0 then vOrd x y else rOrd a b := rfl
    refine pure_of Try.func44 (by rfl) rfl (by kernel_rfl) (by rfl) ?_
    rw [hr]
    cases hxy : ValueD.eqB x y with
    | true =>
      have e := (ValueD.eqB_iff x y).1 hxy
      rw [if_neg (not_not_intro ((vOrd_zero x y).2 e))]
      (((conv => whnf); repeat ((first | with_reducible refine BCase.tt ?_ | with_reducible refine BCase.ff ?_); (conv => whnf))); repeat' (first | ((first | with_reducible refine Wr.u8 ?_ | ((first | with_reducible refine Wr.ci ?s ?_ | with_reducible refine Wr.c3 ?s ?_ | with_reducible refine Wr.c6 ?s ?_ | with_reducible refine BCase.dt ?s ?_); case s => (first | omega | (simp only [lens, true_and, and_true]; (try omega); done))) | (with_reducible refine BCase.df ?s ?_; case s => (first | omega | (simp only [lens, true_and, and_true]; (try omega); done))) | (with_reducible refine Need.mk ?s ?_; case s => first | (first | omega | (simp only [lens, true_and, and_true]; (try omega); done)) | decide | kernel_rfl) | refine BCase.t (by decide) ?_ | refine BCase.f (by decide) ?_); ((conv => whnf); repeat ((first | with_reducible refine BCase.tt ?_ | with_reducible refine BCase.ff ?_); (conv => whnf)))) | (( refine BCase.df l1 ?_); ((conv => whnf); repeat ((first | with_reducible refine BCase.tt ?_ | with_reducible refine BCase.ff ?_); (conv => whnf)))) | (( refine BCase.df l2 ?_); ((conv => whnf); repeat ((first | with_reducible refine BCase.tt ?_ | with_reducible refine BCase.ff ?_); (conv => whnf)))) | (( first | refine ix ?_ | refine iy ?_); ((conv => whnf); repeat ((first | with_reducible refine BCase.tt ?_ | with_reducible refine BCase.ff ?_); (conv => whnf)))) | (( refine BCase.f (congrArg not hxy) ?_); ((conv => whnf); repeat ((first | with_reducible refine BCase.tt ?_ | with_reducible refine BCase.ff ?_); (conv => whnf)))) | ((refine CallP.pure _ rfl _ (ih') ?_); ((conv => whnf); repeat ((first | with_reducible refine BCase.tt ?_ | with_reducible refine BCase.ff ?_); (conv => whnf)))) | ((with_reducible refine EmpOr.app ?_); ((conv => whnf); repeat ((first | with_reducible refine BCase.tt ?_ | with_reducible refine BCase.ff ?_); (conv => whnf)))) | (first | with_reducible refine BCase.not ?_ | with_reducible refine BCase.and ?_ | with_reducible refine BCase.or ?_) | ((with_reducible refine BCase.d (fun _ => ?_) (fun _ => ?_)) <;> ((conv => whnf); repeat ((first | with_reducible refine BCase.tt ?_ | with_reducible refine BCase.ff ?_); (conv => whnf))))))
      all_goals exact Ret.mk rfl
    | false =>
      have e : vOrd x y ≠ 0 := fun q => by rw [(ValueD.eqB_iff x y).2 ((vOrd_zero x y).1 q)] at hxy; cases hxy
      rw [if_pos e]
      (((conv => whnf); repeat ((first | with_reducible refine BCase.tt ?_ | with_reducible refine BCase.ff ?_); (conv => whnf))); repeat' (first | ((first | with_reducible refine Wr.u8 ?_ | ((first | with_reducible refine Wr.ci ?s ?_ | with_reducible refine Wr.c3 ?s ?_ | with_reducible refine Wr.c6 ?s ?_ | with_reducible refine BCase.dt ?s ?_); case s => (first | omega | (simp only [lens, true_and, and_true]; (try omega); done))) | (with_reducible refine BCase.df ?s ?_; case s => (first | omega | (simp only [lens, true_and, and_true]; (try omega); done))) | (with_reducible refine Need.mk ?s ?_; case s => first | (first | omega | (simp only [lens, true_and, and_true]; (try omega); done)) | decide | kernel_rfl) | refine BCase.t (by decide) ?_ | refine BCase.f (by decide) ?_); ((conv => whnf); repeat ((first | with_reducible refine BCase.tt ?_ | with_reducible refine BCase.ff ?_); (conv => whnf)))) | (( refine BCase.df l1 ?_); ((conv => whnf); repeat ((first | with_reducible refine BCase.tt ?_ | with_reducible refine BCase.ff ?_); (conv => whnf)))) | (( refine BCase.df l2 ?_); ((conv => whnf); repeat ((first | with_reducible refine BCase.tt ?_ | with_reducible refine BCase.ff ?_); (conv => whnf)))) | (( first | refine ix ?_ | refine iy ?_); ((conv => whnf); repeat ((first | with_reducible refine BCase.tt ?_ | with_reducible refine BCase.ff ?_); (conv => whnf)))) | (( refine BCase.t (congrArg not hxy) ?_); ((conv => whnf); repeat ((first | with_reducible refine BCase.tt ?_ | with_reducible refine BCase.ff ?_); (conv => whnf)))) | ((refine CallP.pure _ rfl _ (pv) ?_); ((conv => whnf); repeat ((first | with_reducible refine BCase.tt ?_ | with_reducible refine BCase.ff ?_); (conv => whnf)))) | ((with_reducible refine EmpOr.app ?_); ((conv => whnf); repeat ((first | with_reducible refine BCase.tt ?_ | with_reducible refine BCase.ff ?_); (conv => whnf)))) | (first | with_reducible refine BCase.not ?_ | with_reducible refine BCase.and ?_ | with_reducible refine BCase.or ?_) | ((with_reducible refine BCase.d (fun _ => ?_) (fun _ => ?_)) <;> ((conv => whnf); repeat ((first | with_reducible refine BCase.tt ?_ | with_reducible refine BCase.ff ?_); (conv => whnf))))))
      all_goals exact Ret.mk rfl
theorem rOrd_swap : ∀ a b : List ValueD, rOrd b a = - rOrd a b
  | [], [] => rfl
  | [], _ :: _ => rfl
  | _ :: _, [] => rfl
  | x :: a, y :: b => by
    have e1 : rOrd (x :: a) (y :: b) = if vOrd x y ≠ 0 then vOrd x y else rOrd a b := rfl
    have e2 : rOrd (y :: b) (x :: a) = if vOrd y x ≠ 0 then vOrd y x else rOrd b a := rfl
    have := rOrd_swap a b
    have hs := vOrd_swap x y
    rw [e1, e2]
    split <;> split <;> omega
theorem rOrd_cases : ∀ a b : List ValueD, rOrd a b = -1 ∨ rOrd a b = 0 ∨ rOrd a b = 1
  | [], [] => .inr (.inl rfl)
  | [], _ :: _ => .inl rfl
  | _ :: _, [] => .inr (.inr rfl)
  | x :: a, y :: b => by
    have e1 : rOrd (x :: a) (y :: b) = if vOrd x y ≠ 0 then vOrd x y else rOrd a b := rfl
    have := rOrd_cases a b
    have hs := vOrd_cases x y
    rw [e1]
    split <;> omega
theorem p_rowordref (a b : List ValueD) (ha : ∀ v ∈ a, okText v.S) (hb : ∀ v ∈ b, okText v.S) : Pure Try.prog 22 [slV 3 ValueD.c a, slV 3 ValueD.c b] (pInt .i64 (rOrd a b)) := by
  have p1 := p_rowless a b ha hb
  have p2 := p_rowless b a hb ha
  have hs := rOrd_swap a b
  have hc := rOrd_cases a b
  refine pure_of Try.func22 (by rfl) rfl (by kernel_rfl) (by rfl) ?_
  (((conv => whnf); repeat ((first | with_reducible refine BCase.tt ?_ | with_reducible refine BCase.ff ?_); (conv => whnf))); repeat' (first | ((first | with_reducible refine Wr.u8 ?_ | ((first | with_reducible refine Wr.ci ?s ?_ | with_reducible refine Wr.c3 ?s ?_ | with_reducible refine Wr.c6 ?s ?_ | with_reducible refine BCase.dt ?s ?_); case s => (first | omega | (simp only [lens, true_and, and_true]; (try omega); done))) | (with_reducible refine BCase.df ?s ?_; case s => (first | omega | (simp only [lens, true_and, and_true]; (try omega); done))) | (with_reducible refine Need.mk ?s ?_; case s => first | (first | omega | (simp only [lens, true_and, and_true]; (try omega); done)) | decide | kernel_rfl) | refine BCase.t (by decide) ?_ | refine BCase.f (by decide) ?_); ((conv => whnf); repeat ((first | with_reducible refine BCase.tt ?_ | with_reducible refine BCase.ff ?_); (conv => whnf)))) | ((refine CallP.pure _ rfl _ (p1) ?_); ((conv => whnf); repeat ((first | with_reducible refine BCase.tt ?_ | with_reducible refine BCase.ff ?_); (conv => whnf)))) | ((refine CallP.pure _ rfl _ (p2) ?_); ((conv => whnf); repeat ((first | with_reducible refine BCase.tt ?_ | with_reducible refine BCase.ff ?_); (conv => whnf)))) | ((with_reducible refine EmpOr.app ?_); ((conv => whnf); repeat ((first | with_reducible refine BCase.tt ?_ | with_reducible refine BCase.ff ?_); (conv => whnf)))) | (first | with_reducible refine BCase.not ?_ | with_reducible refine BCase.and ?_ | with_reducible refine BCase.or ?_) | ((with_reducible refine BCase.d (fun _ => ?_) (fun _ => ?_)) <;> ((conv => whnf); repeat ((first | with_reducible refine BCase.tt ?_ | with_reducible refine BCase.ff ?_); (conv => whnf))))))
  all_goals exact Ret.int (by omega)
/-! ### a value's key -/
theorem b8_ref {n : Int} (h : okInt n) (i : Nat) (hi : i < 8) : by1 ((n + 9223372036854775808) / 2 ^ (56 - 8 * i)) = if i = 0 then by1 (((n % 18446744073709551616) / 72057594037927936 % 256 + 128) % 256) else by1 ((n % 18446744073709551616) / 2 ^ (56 - 8 * i) % 256) := by
  obtain ⟨h1, h2⟩ := h
  have key : ∀ a b : Int, a % 256 = b % 256 → by1 a = by1 b := fun a b e => by unfold by1; rw [e]
  have : i = 0 ∨ i = 1 ∨ i = 2 ∨ i = 3 ∨ i = 4 ∨ i = 5 ∨ i = 6 ∨ i = 7 := by omega
  rcases this with rfl | rfl | rfl | rfl | rfl | rfl | rfl | rfl
  · rw [if_pos rfl]
    refine key _ _ ?_
    show (n + 9223372036854775808) / 72057594037927936 % 256 = _
    omega
  · rw [if_neg (by decide)]
    refine key _ _ ?_
    show (n + 9223372036854775808) / 281474976710656 % 256 = (n % 18446744073709551616) / 281474976710656 % 256 % 256
    omega
  · rw [if_neg (by decide)]
    refine key _ _ ?_
    show (n + 9223372036854775808) / 1099511627776 % 256 = (n % 18446744073709551616) / 1099511627776 % 256 % 256
    omega
  · rw [if_neg (by decide)]
    refine key _ _ ?_
    show (n + 9223372036854775808) / 4294967296 % 256 = (n % 18446744073709551616) / 4294967296 % 256 % 256
    omega
  · rw [if_neg (by decide)]
    refine key _ _ ?_
    show (n + 9223372036854775808) / 16777216 % 256 = (n % 18446744073709551616) / 16777216 % 256 % 256
    omega
  · rw [if_neg (by decide)]
    refine key _ _ ?_
    show (n + 9223372036854775808) / 65536 % 256 = (n % 18446744073709551616) / 65536 % 256 % 256
    omega
  · rw [if_neg (by decide)]
    refine key _ _ ?_
    show (n + 9223372036854775808) / 256 % 256 = (n % 18446744073709551616) / 256 % 256 % 256
    omega
  · rw [if_neg (by decide)]
    refine key _ _ ?_
    show (n + 9223372036854775808) / 1 % 256 = (n % 18446744073709551616) / 1 % 256 % 256
    omega
theorem p_keyof (v : ValueD) (hv : vChk v = 0) (hN : okInt v.N) : Pure Try.prog 43 [vV v] (pStr (tx (kW v))) := by
  obtain ⟨k1, k2, k3, k4⟩ := vChk_inv hv
  obtain ⟨kd, n, s⟩ := v
  simp only at k1 k2 k3 k4 hN
  have kk : kd = 0 ∨ kd = 1 ∨ (2 ≤ kd ∧ kd ≤ 3) := by omega
  have tz := tx_size s
  refine pure_of Try.func43 (by rfl) rfl (by kernel_rfl) (by rfl) ?_
  rcases kk with rfl | rfl | kk
  · (((conv => whnf); repeat ((first | with_reducible refine BCase.tt ?_ | with_reducible refine BCase.ff ?_); (conv => whnf))); repeat' (first | ((first | with_reducible refine Wr.u8 ?_ | ((first | with_reducible refine Wr.ci ?s ?_ | with_reducible refine Wr.c3 ?s ?_ | with_reducible refine Wr.c6 ?s ?_ | with_reducible refine BCase.dt ?s ?_); case s => (first | omega | (simp only [lens, true_and, and_true]; (try omega); done))) | (with_reducible refine BCase.df ?s ?_; case s => (first | omega | (simp only [lens, true_and, and_true]; (try omega); done))) | (with_reducible refine Need.mk ?s ?_; case s => first | (first | omega | (simp only [lens, true_and, and_true]; (try omega); done)) | decide | kernel_rfl) | refine BCase.t (by decide) ?_ | refine BCase.f (by decide) ?_); ((conv => whnf); repeat ((first | with_reducible refine BCase.tt ?_ | with_reducible refine BCase.ff ?_); (conv => whnf)))) | ((refine CallP.pure _ rfl _ (p_onebyteN 5) ?_); ((conv => whnf); repeat ((first | with_reducible refine BCase.tt ?_ | with_reducible refine BCase.ff ?_); (conv => whnf)))) | ((with_reducible refine EmpOr.app ?_); ((conv => whnf); repeat ((first | with_reducible refine BCase.tt ?_ | with_reducible refine BCase.ff ?_); (conv => whnf)))) | (first | with_reducible refine BCase.not ?_ | with_reducible refine BCase.and ?_ | with_reducible refine BCase.or ?_) | ((with_reducible refine BCase.d (fun _ => ?_) (fun _ => ?_)) <;> ((conv => whnf); repeat ((first | with_reducible refine BCase.tt ?_ | with_reducible refine BCase.ff ?_); (conv => whnf))))))
    exact Ret.text rfl
  · (((conv => whnf); repeat ((first | with_reducible refine BCase.tt ?_ | with_reducible refine BCase.ff ?_); (conv => whnf))); repeat' (first | ((first | with_reducible refine Wr.u8 ?_ | ((first | with_reducible refine Wr.ci ?s ?_ | with_reducible refine Wr.c3 ?s ?_ | with_reducible refine Wr.c6 ?s ?_ | with_reducible refine BCase.dt ?s ?_); case s => (first | omega | (simp only [lens, true_and, and_true]; (try omega); done))) | (with_reducible refine BCase.df ?s ?_; case s => (first | omega | (simp only [lens, true_and, and_true]; (try omega); done))) | (with_reducible refine Need.mk ?s ?_; case s => first | (first | omega | (simp only [lens, true_and, and_true]; (try omega); done)) | decide | kernel_rfl) | refine BCase.t (by decide) ?_ | refine BCase.f (by decide) ?_); ((conv => whnf); repeat ((first | with_reducible refine BCase.tt ?_ | with_reducible refine BCase.ff ?_); (conv => whnf)))) | ((refine CallP.pure _ rfl _ (p_onebyteN 16) ?_); ((conv => whnf); repeat ((first | with_reducible refine BCase.tt ?_ | with_reducible refine BCase.ff ?_); (conv => whnf)))) | (( refine Wr.u64w ?_); ((conv => whnf); repeat ((first | with_reducible refine BCase.tt ?_ | with_reducible refine BCase.ff ?_); (conv => whnf)))) | ((with_reducible refine EmpOr.app ?_); ((conv => whnf); repeat ((first | with_reducible refine BCase.tt ?_ | with_reducible refine BCase.ff ?_); (conv => whnf)))) | (first | with_reducible refine BCase.not ?_ | with_reducible refine BCase.and ?_ | with_reducible refine BCase.or ?_) | ((with_reducible refine BCase.d (fun _ => ?_) (fun _ => ?_)) <;> ((conv => whnf); repeat ((first | with_reducible refine BCase.tt ?_ | with_reducible refine BCase.ff ?_); (conv => whnf))))))
    refine LoopC.mk Nat (fun i => [(3, pStr (tx (16 :: (b8 (n + 9223372036854775808)).take i))), (4, pInt .u64 (n % 18446744073709551616)), (5, pInt .i64 (7 - (i : Int)))]) (fun _ => []) [] (fun i => i ≤ 8) (fun i => 8 - i) 0 (Nat.zero_le _) ?start ?round
    case start => exact ⟨[], rfl, rfl, ⟨.inl rfl, .inl rfl, .inl rfl, trivial⟩, trivial⟩
    case round =>
      intro i hi
      have hl : (16 :: (b8 (n + 9223372036854775808)).take i).length ≤ 9 := by rw [List.length_cons, List.length_take]; show min i 8 + 1 ≤ 9; omega
      have tzl := tx_size (16 :: (b8 (n + 9223372036854775808)).take i)
      by_cases h2 : i < 8
      · have hes := b8_take (n + 9223372036854775808) h2
        rw [b8_ref hN i h2] at hes
        have u0 : 0 ≤ n % 18446744073709551616 := by omega
        have hsh : (n % 18446744073709551616).fdiv (2 ^ min (8 * (7 - (i : Int))).toNat 64) = n % 18446744073709551616 / 2 ^ (56 - 8 * i) := by
          rw [Int.fdiv_eq_ediv_of_nonneg _ (Int.pow_nonneg (by decide))]
          congr 2
          omega
        have q0 : 0 ≤ n % 18446744073709551616 / 2 ^ (56 - 8 * i) := Int.ediv_nonneg u0 (Int.pow_nonneg (by decide))
        have hm : ((n % 18446744073709551616).fdiv (2 ^ min (8 * (7 - (i : Int))).toNat 64)).tmod 256 = n % 18446744073709551616 / 2 ^ (56 - 8 * i) % 256 := by rw [hsh, tmod_nn q0]
        have hmr : 0 ≤ n % 18446744073709551616 / 2 ^ (56 - 8 * i) % 256 ∧ n % 18446744073709551616 / 2 ^ (56 - 8 * i) % 256 < 256 := by omega
        have hmr' : 0 ≤ ((n % 18446744073709551616).fdiv (2 ^ min (8 * (7 - (i : Int))).toNat 64)).tmod 256 ∧ ((n % 18446744073709551616).fdiv (2 ^ min (8 * (7 - (i : Int))).toNat 64)).tmod 256 < 256 := by rw [hm]; exact hmr
        by_cases h0 : i = 0
        · subst h0
          rw [if_pos rfl] at hes
          have pb := p_onebyteN ((((n % 18446744073709551616).fdiv (2 ^ min (8 * (7 - ((0 : Nat) : Int))).toNat 64)).tmod 256 + 128).tmod 256)
          have e9 : (((n % 18446744073709551616).fdiv (2 ^ min (8 * (7 - ((0 : Nat) : Int))).toNat 64)).tmod 256 + 128).tmod 256 = (n % 18446744073709551616 / 72057594037927936 % 256 + 128) % 256 := by
            rw [hm, tmod_nn (by omega)]; rfl
          have h90 : 0 ≤ (((n % 18446744073709551616).fdiv (2 ^ min (8 * (7 - ((0 : Nat) : Int))).toNat 64)).tmod 256 + 128).tmod 256 ∧ (((n % 18446744073709551616).fdiv (2 ^ min (8 * (7 - ((0 : Nat) : Int))).toNat 64)).tmod 256 + 128).tmod 256 < 256 := by rw [e9]; omega
          have hadd : -9223372036854775808 ≤ ((n % 18446744073709551616).fdiv (2 ^ min (8 * (7 - ((0 : Nat) : Int))).toNat 64)).tmod 256 + 128 ∧ ((n % 18446744073709551616).fdiv (2 ^ min (8 * (7 - ((0 : Nat) : Int))).toNat 64)).tmod 256 + 128 ≤ 9223372036854775807 := ⟨by have := hmr'.1; omega, by have := hmr'.2; omega⟩
          (((conv => whnf); repeat ((first | with_reducible refine BCase.tt ?_ | with_reducible refine BCase.ff ?_); (conv => whnf))); repeat' (first | ((first | with_reducible refine Wr.u8 ?_ | ((first | with_reducible refine Wr.ci ?s ?_ | with_reducible refine Wr.c3 ?s ?_ | with_reducible refine Wr.c6 ?s ?_ | with_reducible refine BCase.dt ?s ?_); case s => (first | omega | (simp only [lens, true_and, and_true]; (try omega); done))) | (with_reducible refine BCase.df ?s ?_; case s => (first | omega | (simp only [lens, true_and, and_true]; (try omega); done))) | (with_reducible refine Need.mk ?s ?_; case s => first | (first | omega | (simp only [lens, true_and, and_true]; (try omega); done)) | decide | kernel_rfl) | refine BCase.t (by decide) ?_ | refine BCase.f (by decide) ?_); ((conv => whnf); repeat ((first | with_reducible refine BCase.tt ?_ | with_reducible refine BCase.ff ?_); (conv => whnf)))) | (( first | refine Wr.i64 (Int.le_trans (by decide) hmr'.1) (Int.le_trans (Int.le_of_lt hmr'.2) (by decide)) ?_ | refine Wr.i64 hadd.1 hadd.2 ?_ | refine Wr.i64 (Int.le_trans (by decide) h90.1) (Int.le_trans (Int.le_of_lt h90.2) (by decide)) ?_); ((conv => whnf); repeat ((first | with_reducible refine BCase.tt ?_ | with_reducible refine BCase.ff ?_); (conv => whnf)))) | (( refine BCase.dt (show 7 - ((0 : Nat) : Int) = 7 by decide) ?_); ((conv => whnf); repeat ((first | with_reducible refine BCase.tt ?_ | with_reducible refine BCase.ff ?_); (conv => whnf)))) | ((refine CallP.pure _ rfl _ (pb) ?_); ((conv => whnf); repeat ((first | with_reducible refine BCase.tt ?_ | with_reducible refine BCase.ff ?_); (conv => whnf)))) | ((with_reducible refine EmpOr.app ?_); ((conv => whnf); repeat ((first | with_reducible refine BCase.tt ?_ | with_reducible refine BCase.ff ?_); (conv => whnf)))) | (first | with_reducible refine BCase.not ?_ | with_reducible refine BCase.and ?_ | with_reducible refine BCase.or ?_) | ((with_reducible refine BCase.d (fun _ => ?_) (fun _ => ?_)) <;> ((conv => whnf); repeat ((first | with_reducible refine BCase.tt ?_ | with_reducible refine BCase.ff ?_); (conv => whnf))))))
          refine ⟨1, by omega, by omega, [], rfl, rfl, ⟨PLe.text ?_, .inl rfl, PLe.int (by omega), trivial⟩, trivial⟩
          rw [tx_append, hes, e9]; rfl
        · rw [if_neg h0] at hes
          have pb := p_onebyteN (((n % 18446744073709551616).fdiv (2 ^ min (8 * (7 - (i : Int))).toNat 64)).tmod 256)
          (((conv => whnf); repeat ((first | with_reducible refine BCase.tt ?_ | with_reducible refine BCase.ff ?_); (conv => whnf))); repeat' (first | ((first | with_reducible refine Wr.u8 ?_ | ((first | with_reducible refine Wr.ci ?s ?_ | with_reducible refine Wr.c3 ?s ?_ | with_reducible refine Wr.c6 ?s ?_ | with_reducible refine BCase.dt ?s ?_); case s => (first | omega | (simp only [lens, true_and, and_true]; (try omega); done))) | (with_reducible refine BCase.df ?s ?_; case s => (first | omega | (simp only [lens, true_and, and_true]; (try omega); done))) | (with_reducible refine Need.mk ?s ?_; case s => first | (first | omega | (simp only [lens, true_and, and_true]; (try omega); done)) | decide | kernel_rfl) | refine BCase.t (by decide) ?_ | refine BCase.f (by decide) ?_); ((conv => whnf); repeat ((first | with_reducible refine BCase.tt ?_ | with_reducible refine BCase.ff ?_); (conv => whnf)))) | (( refine Wr.i64 (Int.le_trans (by decide) hmr'.1) (Int.le_trans (Int.le_of_lt hmr'.2) (by decide)) ?_); ((conv => whnf); repeat ((first | with_reducible refine BCase.tt ?_ | with_reducible refine BCase.ff ?_); (conv => whnf)))) | ((refine CallP.pure _ rfl _ (pb) ?_); ((conv => whnf); repeat ((first | with_reducible refine BCase.tt ?_ | with_reducible refine BCase.ff ?_); (conv => whnf)))) | ((with_reducible refine EmpOr.app ?_); ((conv => whnf); repeat ((first | with_reducible refine BCase.tt ?_ | with_reducible refine BCase.ff ?_); (conv => whnf)))) | (first | with_reducible refine BCase.not ?_ | with_reducible refine BCase.and ?_ | with_reducible refine BCase.or ?_) | ((with_reducible refine BCase.d (fun _ => ?_) (fun _ => ?_)) <;> ((conv => whnf); repeat ((first | with_reducible refine BCase.tt ?_ | with_reducible refine BCase.ff ?_); (conv => whnf))))))
          refine ⟨i + 1, by omega, by omega, [], rfl, rfl, ⟨PLe.text ?_, .inl rfl, PLe.int (by omega), trivial⟩, trivial⟩
          rw [tx_append, hes, hm]; rfl
      · (((conv => whnf); repeat ((first | with_reducible refine BCase.tt ?_ | with_reducible refine BCase.ff ?_); (conv => whnf))); repeat' (first | ((first | with_reducible refine Wr.u8 ?_ | ((first | with_reducible refine Wr.ci ?s ?_ | with_reducible refine Wr.c3 ?s ?_ | with_reducible refine Wr.c6 ?s ?_ | with_reducible refine BCase.dt ?s ?_); case s => (first | omega | (simp only [lens, true_and, and_true]; (try omega); done))) | (with_reducible refine BCase.df ?s ?_; case s => (first | omega | (simp only [lens, true_and, and_true]; (try omega); done))) | (with_reducible refine Need.mk ?s ?_; case s => first | (first | omega | (simp only [lens, true_and, and_true]; (try omega); done)) | decide | kernel_rfl) | refine BCase.t (by decide) ?_ | refine BCase.f (by decide) ?_); ((conv => whnf); repeat ((first | with_reducible refine BCase.tt ?_ | with_reducible refine BCase.ff ?_); (conv => whnf)))) | ((with_reducible refine EmpOr.app ?_); ((conv => whnf); repeat ((first | with_reducible refine BCase.tt ?_ | with_reducible refine BCase.ff ?_); (conv => whnf)))) | (first | with_reducible refine BCase.not ?_ | with_reducible refine BCase.and ?_ | with_reducible refine BCase.or ?_) | ((with_reducible refine BCase.d (fun _ => ?_) (fun _ => ?_)) <;> ((conv => whnf); repeat ((first | with_reducible refine BCase.tt ?_ | with_reducible refine BCase.ff ?_); (conv => whnf))))))
        refine Ret.text ?_
        rw [List.take_of_length_le (l := b8 _) (by show 8 ≤ i; omega)]; rfl
  · have pt := p_onebyteN (16 * kd)
    have etag : [by1 (16 * kd)] = [tagK kd] := by
      have : kd = 2 ∨ kd = 3 := by omega
      rcases this with rfl | rfl <;> rfl
    rw [etag] at pt
    have kw : kW ⟨kd, n, s⟩ = tagK kd :: (escK s ++ [0, 1]) := by
      unfold kW
      rw [if_neg (show ¬ kd = 0 by omega), if_neg (show ¬ kd = 1 by omega)]
    (((conv => whnf); repeat ((first | with_reducible refine BCase.tt ?_ | with_reducible refine BCase.ff ?_); (conv => whnf))); repeat' (first | ((first | with_reducible refine Wr.u8 ?_ | ((first | with_reducible refine Wr.ci ?s ?_ | with_reducible refine Wr.c3 ?s ?_ | with_reducible refine Wr.c6 ?s ?_ | with_reducible refine BCase.dt ?s ?_); case s => (first | omega | (simp only [lens, true_and, and_true]; (try omega); done))) | (with_reducible refine BCase.df ?s ?_; case s => (first | omega | (simp only [lens, true_and, and_true]; (try omega); done))) | (with_reducible refine Need.mk ?s ?_; case s => first | (first | omega | (simp only [lens, true_and, and_true]; (try omega); done)) | decide | kernel_rfl) | refine BCase.t (by decide) ?_ | refine BCase.f (by decide) ?_); ((conv => whnf); repeat ((first | with_reducible refine BCase.tt ?_ | with_reducible refine BCase.ff ?_); (conv => whnf)))) | ((refine CallP.pure _ rfl _ (pt) ?_); ((conv => whnf); repeat ((first | with_reducible refine BCase.tt ?_ | with_reducible refine BCase.ff ?_); (conv => whnf)))) | ((with_reducible refine EmpOr.app ?_); ((conv => whnf); repeat ((first | with_reducible refine BCase.tt ?_ | with_reducible refine BCase.ff ?_); (conv => whnf)))) | (first | with_reducible refine BCase.not ?_ | with_reducible refine BCase.and ?_ | with_reducible refine BCase.or ?_) | ((with_reducible refine BCase.d (fun _ => ?_) (fun _ => ?_)) <;> ((conv => whnf); repeat ((first | with_reducible refine BCase.tt ?_ | with_reducible refine BCase.ff ?_); (conv => whnf))))))
    refine LoopC.mk Nat (fun i => [(1, .d (.ptr 1 0)), (7, pStr (tx (tagK kd :: escK (s.take i)))), (8, pInt .i64 i)]) (fun _ => [(1, .box tVal ((ValueD.mk kd n s).c.map D.c))]) [1] (fun i => i ≤ s.length) (fun i => s.length - i) 0 (Nat.zero_le _) ?start2 ?round2
    case start2 => exact ⟨[(1, 1)], rfl, rfl, ⟨⟨rfl, rfl, rfl⟩, .inl rfl, .inl rfl, trivial⟩, ⟨rfl, rfl, .inl rfl, .inl rfl, .inl rfl, rfl⟩, trivial⟩
    case round2 =>
      intro i hi
      have he := escK_len (s.take i)
      rw [List.length_take] at he
      have hl : (tagK kd :: escK (s.take i)).length ≤ 33 := by rw [List.length_cons]; omega
      have tzl := tx_size (tagK kd :: escK (s.take i))
      by_cases h2 : i < s.length
      · have hg : s.getD i 0 = s[i] := by rw [List.getD_eq_getElem?_getD, List.getElem?_eq_getElem h2]; rfl
        have hes : escK (s.take (i + 1)) = escK (s.take i) ++ (if s.getD i 0 = 0 then [0, 255] else [s.getD i 0]) := by
          rw [take_snoc h2, escK_append, hg]
          show _ ++ (if s[i] = 0 then 0 :: 255 :: [] else s[i] :: []) = _
          rfl
        have ex : (tx s).extract (i : Int).toNat ((i : Int) + 1).toNat = tx [s.getD i 0] := by
          rw [extract_tx, show ((i : Int) + 1).toNat = i + 1 by omega, Int.toNat_natCast, drop_at h2]
          rw [show i + 1 - i = 1 by omega]; rfl
        have exs : ((tx s).extract (i : Int).toNat ((i : Int) + 1).toNat).size = 1 := by rw [ex]; rfl
        by_cases hz : s.getD i 0 = 0
        · rw [if_pos hz] at hes
          have hz' : ((s.getD i 0).toNat : Int) = 0 := by rw [hz]; rfl
          (((conv => whnf); repeat ((first | with_reducible refine BCase.tt ?_ | with_reducible refine BCase.ff ?_); (conv => whnf))); repeat' (first | ((first | with_reducible refine Wr.u8 ?_ | ((first | with_reducible refine Wr.ci ?s ?_ | with_reducible refine Wr.c3 ?s ?_ | with_reducible refine Wr.c6 ?s ?_ | with_reducible refine BCase.dt ?s ?_); case s => (first | omega | (simp only [lens, true_and, and_true]; (try omega); done))) | (with_reducible refine BCase.df ?s ?_; case s => (first | omega | (simp only [lens, true_and, and_true]; (try omega); done))) | (with_reducible refine Need.mk ?s ?_; case s => first | (first | omega | (simp only [lens, true_and, and_true]; (try omega); done)) | decide | kernel_rfl) | refine BCase.t (by decide) ?_ | refine BCase.f (by decide) ?_); ((conv => whnf); repeat ((first | with_reducible refine BCase.tt ?_ | with_reducible refine BCase.ff ?_); (conv => whnf)))) | (( refine SIdx.tx i rfl h2 ?_); ((conv => whnf); repeat ((first | with_reducible refine BCase.tt ?_ | with_reducible refine BCase.ff ?_); (conv => whnf)))) | (( refine BCase.dt hz' ?_); ((conv => whnf); repeat ((first | with_reducible refine BCase.tt ?_ | with_reducible refine BCase.ff ?_); (conv => whnf)))) | ((refine CallP.pure _ rfl _ (p_onebyteN 255) ?_); ((conv => whnf); repeat ((first | with_reducible refine BCase.tt ?_ | with_reducible refine BCase.ff ?_); (conv => whnf)))) | ((with_reducible refine EmpOr.app ?_); ((conv => whnf); repeat ((first | with_reducible refine BCase.tt ?_ | with_reducible refine BCase.ff ?_); (conv => whnf)))) | (first | with_reducible refine BCase.not ?_ | with_reducible refine BCase.and ?_ | with_reducible refine BCase.or ?_) | ((with_reducible refine BCase.d (fun _ => ?_) (fun _ => ?_)) <;> ((conv => whnf); repeat ((first | with_reducible refine BCase.tt ?_ | with_reducible refine BCase.ff ?_); (conv => whnf))))))
          refine ⟨i + 1, by omega, by omega, [(1, 1)], rfl, rfl, ⟨⟨rfl, rfl, rfl⟩, PLe.text ?_, PLe.int (by omega), trivial⟩, ⟨rfl, rfl, .inl rfl, .inl rfl, .inl rfl, rfl⟩, trivial⟩
          rw [ex, hes, hz, tx_append, tx_append]
          simp
          rfl
        · rw [if_neg hz] at hes
          have hz' : ¬ ((s.getD i 0).toNat : Int) = 0 := fun e => hz (u8_eq (b := 0) |>.1 e)
          (((conv => whnf); repeat ((first | with_reducible refine BCase.tt ?_ | with_reducible refine BCase.ff ?_); (conv => whnf))); repeat' (first | ((first | with_reducible refine Wr.u8 ?_ | ((first | with_reducible refine Wr.ci ?s ?_ | with_reducible refine Wr.c3 ?s ?_ | with_reducible refine Wr.c6 ?s ?_ | with_reducible refine BCase.dt ?s ?_); case s => (first | omega | (simp only [lens, true_and, and_true]; (try omega); done))) | (with_reducible refine BCase.df ?s ?_; case s => (first | omega | (simp only [lens, true_and, and_true]; (try omega); done))) | (with_reducible refine Need.mk ?s ?_; case s => first | (first | omega | (simp only [lens, true_and, and_true]; (try omega); done)) | decide | kernel_rfl) | refine BCase.t (by decide) ?_ | refine BCase.f (by decide) ?_); ((conv => whnf); repeat ((first | with_reducible refine BCase.tt ?_ | with_reducible refine BCase.ff ?_); (conv => whnf)))) | (( refine SIdx.tx i rfl h2 ?_); ((conv => whnf); repeat ((first | with_reducible refine BCase.tt ?_ | with_reducible refine BCase.ff ?_); (conv => whnf)))) | (( refine BCase.df hz' ?_); ((conv => whnf); repeat ((first | with_reducible refine BCase.tt ?_ | with_reducible refine BCase.ff ?_); (conv => whnf)))) | ((refine CallP.pure _ rfl _ (p_onebyteN 255) ?_); ((conv => whnf); repeat ((first | with_reducible refine BCase.tt ?_ | with_reducible refine BCase.ff ?_); (conv => whnf)))) | ((with_reducible refine EmpOr.app ?_); ((conv => whnf); repeat ((first | with_reducible refine BCase.tt ?_ | with_reducible refine BCase.ff ?_); (conv => whnf)))) | (first | with_reducible refine BCase.not ?_ | with_reducible refine BCase.and ?_ | with_reducible refine BCase.or ?_) | ((with_reducible refine BCase.d (fun _ => ?_) (fun _ => ?_)) <;> ((conv => whnf); repeat ((first | with_reducible refine BCase.tt ?_ | with_reducible refine BCase.ff ?_); (conv => whnf))))))
          refine ⟨i + 1, by omega, by omega, [(1, 1)], rfl, rfl, ⟨⟨rfl, rfl, rfl⟩, PLe.text ?_, PLe.int (by omega), trivial⟩, ⟨rfl, rfl, .inl rfl, .inl rfl, .inl rfl, rfl⟩, trivial⟩
          rw [ex, hes, tx_append]
          simp
      · (((conv => whnf); repeat ((first | with_reducible refine BCase.tt ?_ | with_reducible refine BCase.ff ?_); (conv => whnf))); repeat' (first | ((first | with_reducible refine Wr.u8 ?_ | ((first | with_reducible refine Wr.ci ?s ?_ | with_reducible refine Wr.c3 ?s ?_ | with_reducible refine Wr.c6 ?s ?_ | with_reducible refine BCase.dt ?s ?_); case s => (first | omega | (simp only [lens, true_and, and_true]; (try omega); done))) | (with_reducible refine BCase.df ?s ?_; case s => (first | omega | (simp only [lens, true_and, and_true]; (try omega); done))) | (with_reducible refine Need.mk ?s ?_; case s => first | (first | omega | (simp only [lens, true_and, and_true]; (try omega); done)) | decide | kernel_rfl) | refine BCase.t (by decide) ?_ | refine BCase.f (by decide) ?_); ((conv => whnf); repeat ((first | with_reducible refine BCase.tt ?_ | with_reducible refine BCase.ff ?_); (conv => whnf)))) | ((refine CallP.pure _ rfl _ (p_onebyteN 0) ?_); ((conv => whnf); repeat ((first | with_reducible refine BCase.tt ?_ | with_reducible refine BCase.ff ?_); (conv => whnf)))) | ((refine CallP.pure _ rfl _ (p_onebyteN 1) ?_); ((conv => whnf); repeat ((first | with_reducible refine BCase.tt ?_ | with_reducible refine BCase.ff ?_); (conv => whnf)))) | ((with_reducible refine EmpOr.app ?_); ((conv => whnf); repeat ((first | with_reducible refine BCase.tt ?_ | with_reducible refine BCase.ff ?_); (conv => whnf)))) | (first | with_reducible refine BCase.not ?_ | with_reducible refine BCase.and ?_ | with_reducible refine BCase.or ?_) | ((with_reducible refine BCase.d (fun _ => ?_) (fun _ => ?_)) <;> ((conv => whnf); repeat ((first | with_reducible refine BCase.tt ?_ | with_reducible refine BCase.ff ?_); (conv => whnf))))))
        refine Ret.str ?_
        rw [List.take_of_length_le (by omega), tx_append, tx_append, kw]
        show tx (_ ++ [0] ++ [1]) = _
        simp
theorem p_keyofrow (l : List ValueD) (h : rowChk l = 0) (hN : ∀ v ∈ l, okInt v.N) : Pure Try.prog 21 [slV 3 ValueD.c l] (pStr (tx (keyW l))) := by
  obtain ⟨h8, hv⟩ := rowChk_ok h
  refine pure_of Try.func21 (by rfl) rfl (by kernel_rfl) (by rfl) ?_
  (((conv => whnf); repeat ((first | with_reducible refine BCase.tt ?_ | with_reducible refine BCase.ff ?_); (conv => whnf))); repeat' (first | ((first | with_reducible refine Wr.u8 ?_ | ((first | with_reducible refine Wr.ci ?s ?_ | with_reducible refine Wr.c3 ?s ?_ | with_reducible refine Wr.c6 ?s ?_ | with_reducible refine BCase.dt ?s ?_); case s => (first | omega | (simp only [lens, true_and, and_true]; (try omega); done))) | (with_reducible refine BCase.df ?s ?_; case s => (first | omega | (simp only [lens, true_and, and_true]; (try omega); done))) | (with_reducible refine Need.mk ?s ?_; case s => first | (first | omega | (simp only [lens, true_and, and_true]; (try omega); done)) | decide | kernel_rfl) | refine BCase.t (by decide) ?_ | refine BCase.f (by decide) ?_); ((conv => whnf); repeat ((first | with_reducible refine BCase.tt ?_ | with_reducible refine BCase.ff ?_); (conv => whnf)))) | ((with_reducible refine EmpOr.app ?_); ((conv => whnf); repeat ((first | with_reducible refine BCase.tt ?_ | with_reducible refine BCase.ff ?_); (conv => whnf)))) | (first | with_reducible refine BCase.not ?_ | with_reducible refine BCase.and ?_ | with_reducible refine BCase.or ?_) | ((with_reducible refine BCase.d (fun _ => ?_) (fun _ => ?_)) <;> ((conv => whnf); repeat ((first | with_reducible refine BCase.tt ?_ | with_reducible refine BCase.ff ?_); (conv => whnf))))))
  refine LoopC.mk Nat (fun j => [(0, slV 3 ValueD.c l), (3, pStr (tx (keyW (l.take j)))), (4, pInt .i64 j)]) (fun _ => []) [] (fun j => j ≤ l.length) (fun j => l.length - j) 0 (Nat.zero_le _) ?start ?round
  case start => exact ⟨[], rfl, rfl, ⟨.inl rfl, .inl rfl, .inl rfl, trivial⟩, trivial⟩
  case round =>
    intro j hj
    by_cases h1 : j < l.length
    · have hm := List.getElem_mem h1
      have hf := keyW_len (l := l.take j) fun v hx => hv v (List.mem_of_mem_take hx)
      rw [List.length_take] at hf
      have hk := kW_len (hv _ hm)
      have tz1 := tx_size (keyW (l.take j))
      have tz2 := tx_size (kW l[j])
      (((conv => whnf); repeat ((first | with_reducible refine BCase.tt ?_ | with_reducible refine BCase.ff ?_); (conv => whnf))); repeat' (first | ((first | with_reducible refine Wr.u8 ?_ | ((first | with_reducible refine Wr.ci ?s ?_ | with_reducible refine Wr.c3 ?s ?_ | with_reducible refine Wr.c6 ?s ?_ | with_reducible refine BCase.dt ?s ?_); case s => (first | omega | (simp only [lens, true_and, and_true]; (try omega); done))) | (with_reducible refine BCase.df ?s ?_; case s => (first | omega | (simp only [lens, true_and, and_true]; (try omega); done))) | (with_reducible refine Need.mk ?s ?_; case s => first | (first | omega | (simp only [lens, true_and, and_true]; (try omega); done)) | decide | kernel_rfl) | refine BCase.t (by decide) ?_ | refine BCase.f (by decide) ?_); ((conv => whnf); repeat ((first | with_reducible refine BCase.tt ?_ | with_reducible refine BCase.ff ?_); (conv => whnf)))) | (( refine Idx.mapI j rfl h1 ?_); ((conv => whnf); repeat ((first | with_reducible refine BCase.tt ?_ | with_reducible refine BCase.ff ?_); (conv => whnf)))) | ((refine CallP.pure _ rfl _ (p_keyof l[j] (hv _ hm) (hN _ hm)) ?_); ((conv => whnf); repeat ((first | with_reducible refine BCase.tt ?_ | with_reducible refine BCase.ff ?_); (conv => whnf)))) | ((with_reducible refine EmpOr.app ?_); ((conv => whnf); repeat ((first | with_reducible refine BCase.tt ?_ | with_reducible refine BCase.ff ?_); (conv => whnf)))) | (first | with_reducible refine BCase.not ?_ | with_reducible refine BCase.and ?_ | with_reducible refine BCase.or ?_) | ((with_reducible refine BCase.d (fun _ => ?_) (fun _ => ?_)) <;> ((conv => whnf); repeat ((first | with_reducible refine BCase.tt ?_ | with_reducible refine BCase.ff ?_); (conv => whnf))))))
      exact ⟨j + 1, by omega, by omega, [], rfl, rfl, ⟨.inl rfl, PLe.text (by rw [tx_append, key_snoc h1]), PLe.int (by omega), trivial⟩, trivial⟩
    · (((conv => whnf); repeat ((first | with_reducible refine BCase.tt ?_ | with_reducible refine BCase.ff ?_); (conv => whnf))); repeat' (first | ((first | with_reducible refine Wr.u8 ?_ | ((first | with_reducible refine Wr.ci ?s ?_ | with_reducible refine Wr.c3 ?s ?_ | with_reducible refine Wr.c6 ?s ?_ | with_reducible refine BCase.dt ?s ?_); case s => (first | omega | (simp only [lens, true_and, and_true]; (try omega); done))) | (with_reducible refine BCase.df ?s ?_; case s => (first | omega | (simp only [lens, true_and, and_true]; (try omega); done))) | (with_reducible refine Need.mk ?s ?_; case s => first | (first | omega | (simp only [lens, true_and, and_true]; (try omega); done)) | decide | kernel_rfl) | refine BCase.t (by decide) ?_ | refine BCase.f (by decide) ?_); ((conv => whnf); repeat ((first | with_reducible refine BCase.tt ?_ | with_reducible refine BCase.ff ?_); (conv => whnf)))) | ((with_reducible refine EmpOr.app ?_); ((conv => whnf); repeat ((first | with_reducible refine BCase.tt ?_ | with_reducible refine BCase.ff ?_); (conv => whnf)))) | (first | with_reducible refine BCase.not ?_ | with_reducible refine BCase.and ?_ | with_reducible refine BCase.or ?_) | ((with_reducible refine BCase.d (fun _ => ?_) (fun _ => ?_)) <;> ((conv => whnf); repeat ((first | with_reducible refine BCase.tt ?_ | with_reducible refine BCase.ff ?_); (conv => whnf))))))
      refine Ret.text ?_
      rw [List.take_of_length_le (by omega)]
end Go.Proofs.Ytnlkfpgaehgpbaa.Pm
