/- Parts of the proof, one behind the other: PxDeep PxChk PnWalkP PnTokens PnGram PnGram2 PnThm PnThm2 PnThm3 PnThm4 PxSplit PxSame PxSplit2 PxSplit3 PnDepth PnToks PnWalk2 PnWalk3. Conditions: none beyond what each theorem says. -/
import Derived.Test.YtmcmagfondjopaaDoorZ5
section
namespace Go.Proofs.YtmcmagfondjopaaDoor.Pm
open Go.RowKit K
set_option linter.unusedVariables false
set_option linter.unusedSimpArgs false
set_option maxRecDepth 100000
def dC (x : Nat) : List C := [.v (.int .i64 x)]
theorem maxL_snoc (l : List Nat) (x : Nat) : maxL (l ++ [x]) = max (maxL l) x := by
  induction l with
  | nil => simp [maxL]
  | cons y l ih => rw [List.cons_append, maxL, maxL, ih]; omega
theorem maxL_le : ∀ (l : List Nat) (b : Nat), (∀ x ∈ l, x ≤ b) → maxL l ≤ b
  | [], _, _ => Nat.zero_le _
  | x :: l, b, h => by
    rw [maxL]
    have := h x (List.mem_cons_self ..)
    have := maxL_le l b fun y hy => h y (List.mem_cons_of_mem _ hy)
    omega
theorem p_deeper (n : NodeD) (l : List Nat) (hl : l.length ≤ 1000) (hx : ∀ x ∈ l, x ≤ 1000000) : Pure Tryd.prog 34 [nV n, slV 1 dC l] (.tup [pInt .i64 ((maxL l + 1 : Nat) : Int), pInt .i64 0]) := by
  refine pure_of Tryd.func34 (by rfl) rfl (by kernel_rfl) (by rfl) ?_
  ((conv => whnf); repeat' ((first | (with_reducible first | apply a_ | apply b_ | apply c_) | ((with_reducible first | apply d_ | apply e_ | apply f_ | apply g_); focus first | omega | (simp only [q_] <;> omega)) | ((with_reducible first | apply i_ | apply h_); focus first | omega | (simp only [q_] <;> omega)) | ((with_reducible apply h_); focus first | decide | kernel_rfl) | refine BCase.t (by decide) ?_ | refine BCase.f (by decide) ?_ | with_reducible first | apply l_ | apply m_ | apply n_ | apply o_ | refine p_ (fun _ => ?_) (fun _ => ?_)) <;> (conv => whnf)))
  refine LoopC.mk Nat (fun k => [(6, pInt .i64 (maxL (l.take k))), (9, slV 1 dC l), (10, pInt .i64 l.length), (11, pInt .i64 k)]) (fun _ => []) [] (fun k => k ≤ l.length) (fun k => l.length - k) 0 (Nat.zero_le _) ?start ?round
  case start => exact ⟨[], rfl, rfl, ⟨PLe.int rfl, .inl rfl, PLe.int (by simp), .inl rfl, trivial⟩, trivial⟩
  case round =>
    intro k hk
    by_cases h1 : k < l.length
    · have hs := maxL_snoc (l.take k) l[k]
      rw [← take_snoc h1] at hs
      ((conv => whnf); repeat' ((first | (with_reducible first | apply a_ | apply b_ | apply c_) | ((with_reducible first | apply d_ | apply e_ | apply f_ | apply g_); focus first | omega | (simp only [q_] <;> omega)) | ((with_reducible first | apply i_ | apply h_); focus first | omega | (simp only [q_] <;> omega)) | ((with_reducible apply h_); focus first | decide | kernel_rfl) | refine BCase.t (by decide) ?_ | refine BCase.f (by decide) ?_ | (refine Idx.mapI k rfl h1 ?_) | with_reducible first | apply l_ | apply m_ | apply n_ | apply o_ | refine p_ (fun _ => ?_) (fun _ => ?_)) <;> (conv => whnf)))
      all_goals
        refine ⟨k + 1, by omega, by omega, [], rfl, rfl, ⟨PLe.int (by rw [hs]; (repeat' split) <;> omega), .inl rfl, .inl rfl, PLe.int (by omega), trivial⟩, trivial⟩
    · have hm : ∀ l : List Nat, (∀ x ∈ l, x ≤ 1000000) → maxL l ≤ 1000000 := by
        intro l
        induction l with
        | nil => intro _; decide
        | cons x l ih => intro h; rw [maxL]; have := h x (List.mem_cons_self ..); have := ih fun y hy => h y (List.mem_cons_of_mem _ hy); omega
      have := hm l hx
      rw [List.take_of_length_le (by omega)]
      ((conv => whnf); repeat' ((first | (with_reducible first | apply a_ | apply b_ | apply c_) | ((with_reducible first | apply d_ | apply e_ | apply f_ | apply g_); focus first | omega | (simp only [q_] <;> omega)) | ((with_reducible first | apply i_ | apply h_); focus first | omega | (simp only [q_] <;> omega)) | ((with_reducible apply h_); focus first | decide | kernel_rfl) | refine BCase.t (by decide) ?_ | refine BCase.f (by decide) ?_ | with_reducible first | apply l_ | apply m_ | apply n_ | apply o_ | refine p_ (fun _ => ?_) (fun _ => ?_)) <;> (conv => whnf)))
      refine Ret.eq ?_
      simp
theorem p_clonei (l : List Nat) (h : l.length ≤ 1000000) : Pure Tryd.prog 48 [slV 1 dC l] (slV 1 dC l) := by
  cases l with
  | nil =>
    refine pure_sl0 ?_ fun a cap => ?_
    · refine pure_of Tryd.func48 (by rfl) rfl (by kernel_rfl) (by rfl) ?_
      ((conv => whnf); repeat' ((first | (with_reducible first | apply a_ | apply b_ | apply c_) | ((with_reducible first | apply d_ | apply e_ | apply f_ | apply g_); focus first | omega | (simp only [q_] <;> omega)) | ((with_reducible first | apply i_ | apply h_); focus first | omega | (simp only [q_] <;> omega)) | ((with_reducible apply h_); focus first | decide | kernel_rfl) | refine BCase.t (by decide) ?_ | refine BCase.f (by decide) ?_ | with_reducible first | apply l_ | apply m_ | apply n_ | apply o_ | refine p_ (fun _ => ?_) (fun _ => ?_)) <;> (conv => whnf)))
      exact Ret.le (.inr ⟨⟨1, rfl⟩, .inl rfl⟩)
    · refine pure_of Tryd.func48 (by rfl) rfl (by kernel_rfl) (by rfl) ?_
      ((conv => whnf); repeat' ((first | (with_reducible first | apply a_ | apply b_ | apply c_) | ((with_reducible first | apply d_ | apply e_ | apply f_ | apply g_); focus first | omega | (simp only [q_] <;> omega)) | ((with_reducible first | apply i_ | apply h_); focus first | omega | (simp only [q_] <;> omega)) | ((with_reducible apply h_); focus first | decide | kernel_rfl) | refine BCase.t (by decide) ?_ | refine BCase.f (by decide) ?_ | with_reducible first | apply l_ | apply m_ | apply n_ | apply o_ | refine p_ (fun _ => ?_) (fun _ => ?_)) <;> (conv => whnf)))
      exact Ret.mk rfl
  | cons x l =>
    refine pure_of Tryd.func48 (by rfl) rfl (by kernel_rfl) (by rfl) ?_
    ((conv => whnf); repeat' ((first | (with_reducible first | apply a_ | apply b_ | apply c_) | ((with_reducible first | apply d_ | apply e_ | apply f_ | apply g_); focus first | omega | (simp only [q_] <;> omega)) | ((with_reducible first | apply i_ | apply h_); focus first | omega | (simp only [q_] <;> omega)) | ((with_reducible apply h_); focus first | decide | kernel_rfl) | refine BCase.t (by decide) ?_ | refine BCase.f (by decide) ?_ | (refine Need.mk (List.cons_ne_nil _ _) ?_) | (refine Need.by 8 rfl (by simp only [List.length_map, List.length_nil, Nat.zero_add]; omega) ?_) | with_reducible first | apply l_ | apply m_ | apply n_ | apply o_ | refine p_ (fun _ => ?_) (fun _ => ?_)) <;> (conv => whnf)))
    exact Ret.mk rfl
theorem s_clonei (l : List Nat) (lo n : Nat) (h : lo + n ≤ l.length) (hn : n ≠ 0) (hz : l.length ≤ 1000000) : CallS Tryd.prog 48 [.d (.arr FK 3 1 lo n)] [(FK, .arr 3 1 (l.map dC))] [] (slV 1 dC ((l.drop lo).take n)) [] := by
  refine callS_of Tryd.func48 (by rfl) rfl (by kernel_rfl) (by rfl) [FK] rfl ?_
  ((conv => whnf); repeat' ((first | (with_reducible first | apply a_ | apply b_ | apply c_) | ((with_reducible first | apply d_ | apply e_ | apply f_ | apply g_); focus first | omega | (simp only [q_] <;> omega)) | ((with_reducible first | apply i_ | apply h_); focus first | omega | (simp only [q_] <;> omega)) | ((with_reducible apply h_); focus first | decide | kernel_rfl) | refine BCase.t (by decide) ?_ | refine BCase.f (by decide) ?_ | (refine Need.mk hn ?_) | (refine Need.mk (by rw [List.length_map]; exact h) ?_) | (refine Need.by 8 rfl (by simp only [List.length_nil, Nat.zero_add]; omega) ?_) | with_reducible first | apply l_ | apply m_ | apply n_ | apply o_ | refine p_ (fun _ => ?_) (fun _ => ?_)) <;> (conv => whnf)))
  refine RetS.mk [(FK, FK)] [FK] rfl rfl ?_ ?_
  · show C.sl 1 _ = C.sl 1 _
    rw [List.map_take, List.map_drop]; rfl
  · exact ⟨⟨rfl, rfl, rfl, rfl⟩, trivial⟩
theorem s_lasti (st : List Nat) (K : Int) (h0 : 0 ≤ K) (h1 : K ≤ st.length) (hz : st.length ≤ 1000000) : CallS Tryd.prog 48 [.d (.arr FK 3 1 (0 + ((st.length : Int) - K).toNat) (((st.length : Nat) : Int).toNat - ((st.length : Int) - K).toNat))] [(FK, .arr 3 1 (st.map dC))] [] (slV 1 dC (st.drop (st.length - K.toNat))) [] := by
  have e1 : 0 + ((st.length : Int) - K).toNat = st.length - K.toNat := by omega
  have e2 : ((st.length : Nat) : Int).toNat - ((st.length : Int) - K).toNat = K.toNat := by omega
  rw [e1, e2]
  by_cases k0 : K = 0
  · subst k0
    rw [show st.drop (st.length - (0 : Int).toNat) = [] from List.drop_of_length_le (by simp)]
    exact (p_clonei [] (by simp)).empty1
  · have := s_clonei st (st.length - K.toNat) K.toNat (by omega) (by omega) hz
    rwa [List.take_of_length_le (by rw [List.length_drop]; omega)] at this
def wiE (l : List NodeD) (j : Nat) (st : List Nat) : List (Nat × PV) := [(1, fnV 34), (6, pInt .i64 0), (7, .d (.arr 60 3 1 0 st.length)), (13, slV 6 NodeD.c l), (14, pInt .i64 l.length), (15, pInt .i64 j)]
def eInt2 (r : Except Int Nat) : PV := match r with
  | .ok d => .tup [pInt .i64 d, pInt .i64 0]
  | .error x => .tup [pInt .i64 0, pInt .i64 x]
theorem p_walki (l : List NodeD) (hl : l.length ≤ 1000) : Pure Tryd.prog 33 [slV 6 NodeD.c l, fnV 34] (eInt2 (walkR deepF l)) := by
  refine pure_of Tryd.func33 (by rfl) rfl (by kernel_rfl) (by rfl) ?_
  ((conv => whnf); repeat' ((first | (with_reducible first | apply a_ | apply b_ | apply c_) | ((with_reducible first | apply d_ | apply e_ | apply f_ | apply g_); focus first | omega | (simp only [q_] <;> omega)) | ((with_reducible first | apply i_ | apply h_); focus first | omega | (simp only [q_] <;> omega)) | ((with_reducible apply h_); focus first | decide | kernel_rfl) | refine BCase.t (by decide) ?_ | refine BCase.f (by decide) ?_ | with_reducible first | apply l_ | apply m_ | apply n_ | apply o_ | refine p_ (fun _ => ?_) (fun _ => ?_)) <;> (conv => whnf)))
  refine LoopC.mk (Nat × List Nat) (fun s => wiE l s.1 s.2) (fun s => [(60, .arr 3 1 (s.2.map dC))]) [60] (fun s => s.1 ≤ l.length ∧ s.2.length ≤ s.1 ∧ (∀ x ∈ s.2, x ≤ s.1) ∧ walkG deepF [] l = walkG deepF s.2 (l.drop s.1)) (fun s => l.length - s.1) (0, []) ⟨Nat.zero_le _, Nat.zero_le _, by simp, rfl⟩ ?start ?round
  case start => exact ⟨[], rfl, rfl, ⟨.inl rfl, .inl rfl, ⟨rfl, rfl, Nat.zero_lt_succ _, rfl, rfl⟩, .inl rfl, PLe.int (by simp), .inl rfl, trivial⟩, ⟨rfl, Nat.zero_lt_succ _, rfl⟩, trivial⟩
  case round =>
    rintro ⟨j, st⟩ ⟨hj, i1, i2, i3⟩
    have hj : j ≤ l.length := hj
    have i1 : st.length ≤ j := i1
    have i2 : ∀ x ∈ st, x ≤ j := i2
    have i3 : walkG deepF [] l = walkG deepF st (l.drop j) := i3
    by_cases q : j < l.length
    · rw [List.drop_eq_getElem_cons q, walkG_cons] at i3
      by_cases g : l[j].Kids < 0 ∨ (st.length : Int) < l[j].Kids
      · rw [if_pos g] at i3
        have hw : walkR deepF l = .error 1 := by unfold walkR; rw [i3]
        rw [hw]
        ((conv => whnf); repeat' ((first | (with_reducible first | apply a_ | apply b_ | apply c_) | ((with_reducible first | apply d_ | apply e_ | apply f_ | apply g_); focus first | omega | (simp only [q_] <;> omega)) | ((with_reducible first | apply i_ | apply h_); focus first | omega | (simp only [q_] <;> omega)) | ((with_reducible apply h_); focus first | decide | kernel_rfl) | refine BCase.t (by decide) ?_ | refine BCase.f (by decide) ?_ | (refine Idx.mapI j rfl q ?_) | with_reducible first | apply l_ | apply m_ | apply n_ | apply o_ | refine p_ (fun _ => ?_) (fun _ => ?_)) <;> (conv => whnf)))
        all_goals exact Ret.eq rfl
      · rw [if_neg g] at i3
        have g1 : ¬ l[j].Kids < 0 := fun q => g (.inl q)
        have g2 : ¬ (st.length : Int) < l[j].Kids := fun q => g (.inr q)
        have pc := s_lasti st l[j].Kids (by omega) (by omega) (by omega)
        have pd := p_deeper l[j] (st.drop (st.length - l[j].Kids.toNat)) (by rw [List.length_drop]; omega) (fun x hx => by have := i2 x (List.mem_of_mem_drop hx); omega)
        ((conv => whnf); repeat' ((first | (with_reducible first | apply a_ | apply b_ | apply c_) | ((with_reducible first | apply d_ | apply e_ | apply f_ | apply g_); focus first | omega | (simp only [q_] <;> omega)) | ((with_reducible first | apply i_ | apply h_); focus first | omega | (simp only [q_] <;> omega)) | ((with_reducible apply h_); focus first | decide | kernel_rfl) | refine BCase.t (by decide) ?_ | refine BCase.f (by decide) ?_ | (refine Idx.mapI j rfl q ?_) | (refine CallP.ret [(FK, 60)] _ _ _ _ _ _ _ pc rfl rfl rfl rfl ⟨rfl, trivial⟩ ?_) | refine CallP.pure _ rfl _ (pd) ?_ | (refine Need.by 8 rfl (by simp only [List.length_singleton]; omega) ?_) | with_reducible first | apply l_ | apply m_ | apply n_ | apply o_ | refine p_ (fun _ => ?_) (fun _ => ?_)) <;> (conv => whnf)))
        have hx1 : ∀ x ∈ st.drop (st.length - l[j].Kids.toNat), x ≤ j := fun x hx => i2 x (List.mem_of_mem_drop hx)
        have hx2 := maxL_le _ _ hx1
        refine ⟨(j + 1, st.take (st.length - l[j].Kids.toNat) ++ [maxL (st.drop (st.length - l[j].Kids.toNat)) + 1]), ⟨by show j + 1 ≤ _; omega, ?_, ?_, i3⟩, by show l.length - (j + 1) < l.length - j; omega, [(60, 54)], rfl, rfl, ⟨.inl rfl, .inl rfl, ⟨rfl, rfl, rfl, rfl, rfl, ?_⟩, .inl rfl, .inl rfl, PLe.int rfl, trivial⟩, ⟨rfl, rfl, rfl, ?_⟩, trivial⟩
        · show (st.take _ ++ [_]).length ≤ j + 1
          rw [List.length_append, List.length_take, List.length_singleton]; omega
        · intro x hx
          show x ≤ j + 1
          rcases List.mem_append.1 hx with hx | hx
          · have := i2 x (List.mem_of_mem_take hx); omega
          · rw [List.mem_singleton.1 hx]; omega
        · show _ = (st.take _ ++ [_]).length
          rw [List.length_append, List.length_take, List.length_singleton]; simp only [List.length_singleton]; omega
        · show _ = (st.take _ ++ [_]).map dC
          rw [List.map_append, List.map_take]
          have e1 : ((st.length : Int) - l[j].Kids).toNat = st.length - l[j].Kids.toNat := by omega
          show (st.map dC).take ((st.length : Int) - l[j].Kids).toNat ++ _ = _
          rw [e1]; rfl
    · rw [List.drop_of_length_le (by omega)] at i3
      have i3 : walkG deepF [] l = .ok st := i3
      rcases st with _ | ⟨x, _ | ⟨y, r⟩⟩
      · have hw : walkR deepF l = .error 1 := by unfold walkR; rw [i3]
        rw [hw]
        ((conv => whnf); repeat' ((first | (with_reducible first | apply a_ | apply b_ | apply c_) | ((with_reducible first | apply d_ | apply e_ | apply f_ | apply g_); focus first | omega | (simp only [q_] <;> omega)) | ((with_reducible first | apply i_ | apply h_); focus first | omega | (simp only [q_] <;> omega)) | ((with_reducible apply h_); focus first | decide | kernel_rfl) | refine BCase.t (by decide) ?_ | refine BCase.f (by decide) ?_ | with_reducible first | apply l_ | apply m_ | apply n_ | apply o_ | refine p_ (fun _ => ?_) (fun _ => ?_)) <;> (conv => whnf)))
        all_goals exact Ret.eq rfl
      · have hw : walkR deepF l = .ok x := by unfold walkR; rw [i3]
        rw [hw]
        ((conv => whnf); repeat' ((first | (with_reducible first | apply a_ | apply b_ | apply c_) | ((with_reducible first | apply d_ | apply e_ | apply f_ | apply g_); focus first | omega | (simp only [q_] <;> omega)) | ((with_reducible first | apply i_ | apply h_); focus first | omega | (simp only [q_] <;> omega)) | ((with_reducible apply h_); focus first | decide | kernel_rfl) | refine BCase.t (by decide) ?_ | refine BCase.f (by decide) ?_ | with_reducible first | apply l_ | apply m_ | apply n_ | apply o_ | refine p_ (fun _ => ?_) (fun _ => ?_)) <;> (conv => whnf)))
        refine Row.mk _ rfl ?_
        ((conv => whnf); repeat' ((first | (with_reducible first | apply a_ | apply b_ | apply c_) | ((with_reducible first | apply d_ | apply e_ | apply f_ | apply g_); focus first | omega | (simp only [q_] <;> omega)) | ((with_reducible first | apply i_ | apply h_); focus first | omega | (simp only [q_] <;> omega)) | ((with_reducible apply h_); focus first | decide | kernel_rfl) | refine BCase.t (by decide) ?_ | refine BCase.f (by decide) ?_ | with_reducible first | apply l_ | apply m_ | apply n_ | apply o_ | refine p_ (fun _ => ?_) (fun _ => ?_)) <;> (conv => whnf)))
        all_goals exact Ret.eq rfl
      · have hw : walkR deepF l = .error 1 := by unfold walkR; rw [i3]
        rw [hw]
        ((conv => whnf); repeat' ((first | (with_reducible first | apply a_ | apply b_ | apply c_) | ((with_reducible first | apply d_ | apply e_ | apply f_ | apply g_); focus first | omega | (simp only [q_] <;> omega)) | ((with_reducible first | apply i_ | apply h_); focus first | omega | (simp only [q_] <;> omega)) | ((with_reducible apply h_); focus first | decide | kernel_rfl) | refine BCase.t (by decide) ?_ | refine BCase.f (by decide) ?_ | with_reducible first | apply l_ | apply m_ | apply n_ | apply o_ | refine p_ (fun _ => ?_) (fun _ => ?_)) <;> (conv => whnf)))
        all_goals exact Ret.eq rfl
end Go.Proofs.YtmcmagfondjopaaDoor.Pm
end
section
namespace Go.Proofs.YtmcmagfondjopaaDoor.Pm
open Go.RowKit K
set_option linter.unusedVariables false
set_option linter.unusedSimpArgs false
set_option maxRecDepth 100000
theorem chk_ok {l : List NodeD} (h : chkO 0 l = 0) : walkR deepF l = .ok (depthE l) := by
  obtain ⟨x, hx⟩ := chk_walk (fun _ ks => maxL ks + 1) l [] h
  have hx : walkR deepF l = .ok x := by
    unfold walkR
    rw [show walkG deepF [] l = .ok [x] from hx]
  rw [hx]
  unfold depthE
  rw [hx]
theorem p_echeck (l : List NodeD) (hn : ∀ n ∈ l, okText n.Name) : Pure Tryd.prog 9 [slV 6 NodeD.c l] (pInt .i64 (checkF l)) := by
  refine pure_of Tryd.func9 (by rfl) rfl (by kernel_rfl) (by rfl) ?_
  by_cases h60 : 60 < l.length
  · rw [show checkF l = 2 from if_pos h60]
    ((conv => whnf); repeat' ((first | (with_reducible first | apply a_ | apply b_ | apply c_) | ((with_reducible first | apply d_ | apply e_ | apply f_ | apply g_); focus first | omega | (simp only [q_] <;> omega)) | ((with_reducible first | apply i_ | apply h_); focus first | omega | (simp only [q_] <;> omega)) | ((with_reducible apply h_); focus first | decide | kernel_rfl) | refine BCase.t (by decide) ?_ | refine BCase.f (by decide) ?_ | with_reducible first | apply l_ | apply m_ | apply n_ | apply o_ | refine p_ (fun _ => ?_) (fun _ => ?_)) <;> (conv => whnf)))
    exact Ret.int rfl
  · ((conv => whnf); repeat' ((first | (with_reducible first | apply a_ | apply b_ | apply c_) | ((with_reducible first | apply d_ | apply e_ | apply f_ | apply g_); focus first | omega | (simp only [q_] <;> omega)) | ((with_reducible first | apply i_ | apply h_); focus first | omega | (simp only [q_] <;> omega)) | ((with_reducible apply h_); focus first | decide | kernel_rfl) | refine BCase.t (by decide) ?_ | refine BCase.f (by decide) ?_ | with_reducible first | apply l_ | apply m_ | apply n_ | apply o_ | refine p_ (fun _ => ?_) (fun _ => ?_)) <;> (conv => whnf)))
    refine LoopC.mk (Nat × Nat) (fun s => [(0, slV 6 NodeD.c l), (3, pInt .i64 s.2), (12, slV 6 NodeD.c l), (13, pInt .i64 l.length), (14, pInt .i64 s.1)]) (fun _ => []) [] (fun s => s.1 ≤ l.length ∧ s.2 ≤ s.1 ∧ chkO 0 l = chkO s.2 (l.drop s.1)) (fun s => l.length - s.1) (0, 0) ⟨Nat.zero_le _, Nat.zero_le _, rfl⟩ ?start ?round
    case start => exact ⟨[], rfl, rfl, ⟨.inl rfl, .inl rfl, .inl rfl, PLe.int (by simp), .inl rfl, trivial⟩, trivial⟩
    case round =>
      rintro ⟨j, o⟩ ⟨hj, i1, i2⟩
      have hj : j ≤ l.length := hj
      have i1 : o ≤ j := i1
      have i2 : chkO 0 l = chkO o (l.drop j) := i2
      by_cases q : j < l.length
      · have hm := List.getElem_mem q
        have pa := p_alone l[j] (hn _ hm)
        rw [List.drop_eq_getElem_cons q, chkO_cons] at i2
        by_cases g : alF l[j] = 0
        · have hk := alF_kids g
          rw [if_neg (by rw [g]; decide)] at i2
          rw [g] at pa
          by_cases g2 : (o : Int) < l[j].Kids
          · rw [if_pos g2] at i2
            have hc : checkF l = 1 := by unfold checkF; rw [if_neg h60, if_pos (by rw [i2]; decide), i2]
            rw [hc]
            ((conv => whnf); repeat' ((first | (with_reducible first | apply a_ | apply b_ | apply c_) | ((with_reducible first | apply d_ | apply e_ | apply f_ | apply g_); focus first | omega | (simp only [q_] <;> omega)) | ((with_reducible first | apply i_ | apply h_); focus first | omega | (simp only [q_] <;> omega)) | ((with_reducible apply h_); focus first | decide | kernel_rfl) | refine BCase.t (by decide) ?_ | refine BCase.f (by decide) ?_ | (refine Idx.mapI j rfl q ?_) | refine CallP.pure _ rfl _ (pa) ?_ | with_reducible first | apply l_ | apply m_ | apply n_ | apply o_ | refine p_ (fun _ => ?_) (fun _ => ?_)) <;> (conv => whnf)))
            all_goals exact Ret.int rfl
          · rw [if_neg g2] at i2
            ((conv => whnf); repeat' ((first | (with_reducible first | apply a_ | apply b_ | apply c_) | ((with_reducible first | apply d_ | apply e_ | apply f_ | apply g_); focus first | omega | (simp only [q_] <;> omega)) | ((with_reducible first | apply i_ | apply h_); focus first | omega | (simp only [q_] <;> omega)) | ((with_reducible apply h_); focus first | decide | kernel_rfl) | refine BCase.t (by decide) ?_ | refine BCase.f (by decide) ?_ | (refine Idx.mapI j rfl q ?_) | refine CallP.pure _ rfl _ (pa) ?_ | with_reducible first | apply l_ | apply m_ | apply n_ | apply o_ | refine p_ (fun _ => ?_) (fun _ => ?_)) <;> (conv => whnf)))
            refine ⟨(j + 1, o + 1 - l[j].Kids.toNat), ⟨by show j + 1 ≤ _; omega, by show o + 1 - _ ≤ j + 1; omega, i2⟩, by show l.length - (j + 1) < l.length - j; omega, [], rfl, rfl, ⟨.inl rfl, PLe.int ?_, .inl rfl, .inl rfl, PLe.int rfl, trivial⟩, trivial⟩
            show _ = ((o + 1 - l[j].Kids.toNat : Nat) : Int)
            omega
        · rw [if_pos g] at i2
          have hc : checkF l = alF l[j] := by unfold checkF; rw [if_neg h60, if_pos (by rw [i2]; exact g), i2]
          rw [hc]
          ((conv => whnf); repeat' ((first | (with_reducible first | apply a_ | apply b_ | apply c_) | ((with_reducible first | apply d_ | apply e_ | apply f_ | apply g_); focus first | omega | (simp only [q_] <;> omega)) | ((with_reducible first | apply i_ | apply h_); focus first | omega | (simp only [q_] <;> omega)) | ((with_reducible apply h_); focus first | decide | kernel_rfl) | refine BCase.t (by decide) ?_ | refine BCase.f (by decide) ?_ | (refine Idx.mapI j rfl q ?_) | refine CallP.pure _ rfl _ (pa) ?_ | with_reducible first | apply l_ | apply m_ | apply n_ | apply o_ | refine p_ (fun _ => ?_) (fun _ => ?_)) <;> (conv => whnf)))
          all_goals exact Ret.int rfl
      · rw [List.drop_of_length_le (by omega)] at i2
        have i2 : chkO 0 l = if o ≠ 1 then 1 else 0 := i2
        by_cases g : o = 1
        · rw [if_neg (by omega)] at i2
          have pw := p_walki l (by omega)
          rw [chk_ok i2] at pw
          have pw : Pure _ _ _ (.tup [pInt .i64 (depthE l), pInt .i64 0]) := pw
          have hc : checkF l = if 12 < depthE l then 10 else 0 := by unfold checkF; rw [if_neg h60, if_neg (by rw [i2]; decide)]
          rw [hc]
          ((conv => whnf); repeat' ((first | (with_reducible first | apply a_ | apply b_ | apply c_) | ((with_reducible first | apply d_ | apply e_ | apply f_ | apply g_); focus first | omega | (simp only [q_] <;> omega)) | ((with_reducible first | apply i_ | apply h_); focus first | omega | (simp only [q_] <;> omega)) | ((with_reducible apply h_); focus first | decide | kernel_rfl) | refine BCase.t (by decide) ?_ | refine BCase.f (by decide) ?_ | refine CallP.pure _ rfl _ (pw) ?_ | with_reducible first | apply l_ | apply m_ | apply n_ | apply o_ | refine p_ (fun _ => ?_) (fun _ => ?_)) <;> (conv => whnf)))
          (all_goals (refine Ret.int ?_; ((repeat' split) <;> first | rfl | omega)))
        · rw [if_pos g] at i2
          have hc : checkF l = 1 := by unfold checkF; rw [if_neg h60, if_pos (by rw [i2]; decide), i2]
          rw [hc]
          ((conv => whnf); repeat' ((first | (with_reducible first | apply a_ | apply b_ | apply c_) | ((with_reducible first | apply d_ | apply e_ | apply f_ | apply g_); focus first | omega | (simp only [q_] <;> omega)) | ((with_reducible first | apply i_ | apply h_); focus first | omega | (simp only [q_] <;> omega)) | ((with_reducible apply h_); focus first | decide | kernel_rfl) | refine BCase.t (by decide) ?_ | refine BCase.f (by decide) ?_ | with_reducible first | apply l_ | apply m_ | apply n_ | apply o_ | refine p_ (fun _ => ?_) (fun _ => ?_)) <;> (conv => whnf)))
          all_goals exact Ret.int rfl
theorem drop_back {α : Type} (st : List α) (k : Nat) (h : k < st.length) : st.drop (st.length - (k + 1)) = st[st.length - (k + 1)] :: st.drop (st.length - k) := by
  rw [List.drop_eq_getElem_cons (by omega), show st.length - (k + 1) + 1 = st.length - k by omega]
theorem p_exprcheck (l : List NodeD) (hn : ∀ n ∈ l, okText n.Name) : Pure Tryd.prog 5 [slV 6 NodeD.c l] (pInt .i64 (checkF l)) := by
  refine pure_of Tryd.func5 (by rfl) rfl (by kernel_rfl) (by rfl) ?_
  rw [← checkR_eq]
  by_cases h60 : 60 < l.length
  · rw [if_pos h60]
    ((conv => whnf); repeat' ((first | (with_reducible first | apply a_ | apply b_ | apply c_) | ((with_reducible first | apply d_ | apply e_ | apply f_ | apply g_); focus first | omega | (simp only [q_] <;> omega)) | ((with_reducible first | apply i_ | apply h_); focus first | omega | (simp only [q_] <;> omega)) | ((with_reducible apply h_); focus first | decide | kernel_rfl) | refine BCase.t (by decide) ?_ | refine BCase.f (by decide) ?_ | with_reducible first | apply l_ | apply m_ | apply n_ | apply o_ | refine p_ (fun _ => ?_) (fun _ => ?_)) <;> (conv => whnf)))
    exact Ret.int rfl
  rw [if_neg h60]
  by_cases h00 : l.length = 0
  · rw [if_pos h00]
    ((conv => whnf); repeat' ((first | (with_reducible first | apply a_ | apply b_ | apply c_) | ((with_reducible first | apply d_ | apply e_ | apply f_ | apply g_); focus first | omega | (simp only [q_] <;> omega)) | ((with_reducible first | apply i_ | apply h_); focus first | omega | (simp only [q_] <;> omega)) | ((with_reducible apply h_); focus first | decide | kernel_rfl) | refine BCase.t (by decide) ?_ | refine BCase.f (by decide) ?_ | with_reducible first | apply l_ | apply m_ | apply n_ | apply o_ | refine p_ (fun _ => ?_) (fun _ => ?_)) <;> (conv => whnf)))
    all_goals exact Ret.int rfl
  rw [if_neg h00]
  ((conv => whnf); repeat' ((first | (with_reducible first | apply a_ | apply b_ | apply c_) | ((with_reducible first | apply d_ | apply e_ | apply f_ | apply g_); focus first | omega | (simp only [q_] <;> omega)) | ((with_reducible first | apply i_ | apply h_); focus first | omega | (simp only [q_] <;> omega)) | ((with_reducible apply h_); focus first | decide | kernel_rfl) | refine BCase.t (by decide) ?_ | refine BCase.f (by decide) ?_ | with_reducible first | apply l_ | apply m_ | apply n_ | apply o_ | refine p_ (fun _ => ?_) (fun _ => ?_)) <;> (conv => whnf)))
  refine LoopC.mk (Nat × List Nat) (fun s => [(0, slV 6 NodeD.c l), (3, .d (.arr 60 3 1 0 s.2.length)), (4, pInt .i64 s.1)]) (fun s => [(60, .arr 3 1 (s.2.map dC))]) [60] (fun s => s.1 ≤ l.length ∧ s.2.length ≤ s.1 ∧ (∀ x ∈ s.2, x ≤ s.1) ∧ chkR [] l = chkR s.2 (l.drop s.1)) (fun s => l.length - s.1) (0, []) ⟨Nat.zero_le _, Nat.zero_le _, by simp, rfl⟩ ?start ?round
  case start => exact ⟨[], rfl, rfl, ⟨.inl rfl, ⟨rfl, rfl, Nat.zero_lt_succ _, rfl, rfl⟩, .inl rfl, trivial⟩, ⟨rfl, Nat.zero_lt_succ _, rfl⟩, trivial⟩
  case round =>
    rintro ⟨j, st⟩ ⟨hj, i1, i2, i3⟩
    have hj : j ≤ l.length := hj
    have i1 : st.length ≤ j := i1
    have i2 : ∀ x ∈ st, x ≤ j := i2
    have i3 : chkR [] l = chkR st (l.drop j) := i3
    by_cases q : j < l.length
    · have hm := List.getElem_mem q
      have pa := p_nodecheck l[j] (hn _ hm)
      rw [List.drop_eq_getElem_cons q, chkR_cons] at i3
      by_cases g : alF l[j] = 0
      · have hk := alF_kids g
        rw [if_neg (by rw [g]; decide)] at i3
        rw [g] at pa
        by_cases g2 : (st.length : Int) < l[j].Kids
        · rw [if_pos g2] at i3
          rw [i3]
          ((conv => whnf); repeat' ((first | (with_reducible first | apply a_ | apply b_ | apply c_) | ((with_reducible first | apply d_ | apply e_ | apply f_ | apply g_); focus first | omega | (simp only [q_] <;> omega)) | ((with_reducible first | apply i_ | apply h_); focus first | omega | (simp only [q_] <;> omega)) | ((with_reducible apply h_); focus first | decide | kernel_rfl) | refine BCase.t (by decide) ?_ | refine BCase.f (by decide) ?_ | (refine Idx.mapI j rfl q ?_) | refine CallP.pure _ rfl _ (pa) ?_ | with_reducible first | apply l_ | apply m_ | apply n_ | apply o_ | refine p_ (fun _ => ?_) (fun _ => ?_)) <;> (conv => whnf)))
          all_goals exact Ret.int rfl
        · rw [if_neg g2] at i3
          ((conv => whnf); repeat' ((first | (with_reducible first | apply a_ | apply b_ | apply c_) | ((with_reducible first | apply d_ | apply e_ | apply f_ | apply g_); focus first | omega | (simp only [q_] <;> omega)) | ((with_reducible first | apply i_ | apply h_); focus first | omega | (simp only [q_] <;> omega)) | ((with_reducible apply h_); focus first | decide | kernel_rfl) | refine BCase.t (by decide) ?_ | refine BCase.f (by decide) ?_ | (refine Idx.mapI j rfl q ?_) | refine CallP.pure _ rfl _ (pa) ?_ | with_reducible first | apply l_ | apply m_ | apply n_ | apply o_ | refine p_ (fun _ => ?_) (fun _ => ?_)) <;> (conv => whnf)))
          refine LoopC.mk Nat (fun k => [(0, slV 6 NodeD.c l), (3, .d (.arr 60 3 1 0 (st.length - k))), (4, pInt .i64 j), (6, pInt .i64 (maxL (st.drop (st.length - k)))), (7, pInt .i64 k)]) (fun _ => [(60, .arr 3 1 (st.map dC))]) [60] (fun k => (k : Int) ≤ l[j].Kids) (fun k => l[j].Kids.toNat - k) 0 (by omega) ?s2 ?r2
          case s2 => exact ⟨[(60, 60)], rfl, rfl, ⟨.inl rfl, ⟨rfl, rfl, rfl, rfl, rfl, rfl⟩, .inl rfl, PLe.int (by rw [List.drop_of_length_le (by omega)]; rfl), .inl rfl, trivial⟩, ⟨rfl, rfl, rfl, rfl⟩, trivial⟩
          case r2 =>
            intro k hk2
            have hk2 : (k : Int) ≤ l[j].Kids := hk2
            have hx1 : ∀ x ∈ st.drop (st.length - k), x ≤ j := fun x hx => i2 x (List.mem_of_mem_drop hx)
            have hx2 := maxL_le _ _ hx1
            by_cases k1 : (k : Int) < l[j].Kids
            · have hkl : k < st.length := by omega
              have lR : ∀ n, n = st.length - (k + 1) → (st.map dC)[n]? = some (dC st[st.length - (k + 1)]) := by
                rintro n rfl
                rw [List.getElem?_map, List.getElem?_eq_getElem (by omega)]; rfl
              have hb := drop_back st k hkl
              ((conv => whnf); repeat' ((first | (with_reducible first | apply a_ | apply b_ | apply c_) | ((with_reducible first | apply d_ | apply e_ | apply f_ | apply g_); focus first | omega | (simp only [q_] <;> omega)) | ((with_reducible first | apply i_ | apply h_); focus first | omega | (simp only [q_] <;> omega)) | ((with_reducible apply h_); focus first | decide | kernel_rfl) | refine BCase.t (by decide) ?_ | refine BCase.f (by decide) ?_ | (refine Idx.mapI j rfl q ?_) | (refine Row.mk _ (lR _ (by omega)) ?_) | with_reducible first | apply l_ | apply m_ | apply n_ | apply o_ | refine p_ (fun _ => ?_) (fun _ => ?_)) <;> (conv => whnf)))
              all_goals
                refine ⟨k + 1, by omega, by omega, [(60, 60)], rfl, rfl, ⟨.inl rfl, ⟨rfl, rfl, rfl, rfl, rfl, ?_⟩, .inl rfl, PLe.int (by rw [hb, maxL]; omega), .inl rfl, trivial⟩, ⟨rfl, rfl, rfl, rfl⟩, trivial⟩
                omega
            · have ek : l[j].Kids = (k : Int) := by omega
              have ek2 : l[j].Kids.toNat = k := by omega
              rw [ek2] at i3
              ((conv => whnf); repeat' ((first | (with_reducible first | apply a_ | apply b_ | apply c_) | ((with_reducible first | apply d_ | apply e_ | apply f_ | apply g_); focus first | omega | (simp only [q_] <;> omega)) | ((with_reducible first | apply i_ | apply h_); focus first | omega | (simp only [q_] <;> omega)) | ((with_reducible apply h_); focus first | decide | kernel_rfl) | refine BCase.t (by decide) ?_ | refine BCase.f (by decide) ?_ | (refine Idx.mapI j rfl q ?_) | (refine Need.by 8 rfl (by simp only [List.length_singleton]; omega) ?_) | with_reducible first | apply l_ | apply m_ | apply n_ | apply o_ | refine p_ (fun _ => ?_) (fun _ => ?_)) <;> (conv => whnf)))
              refine ⟨(j + 1, st.take (st.length - k) ++ [maxL (st.drop (st.length - k)) + 1]), ⟨by show j + 1 ≤ _; omega, ?_, ?_, i3⟩, by show l.length - (j + 1) < l.length - j; omega, [(60, 65)], rfl, rfl, ⟨.inl rfl, ⟨rfl, rfl, rfl, rfl, rfl, ?_⟩, PLe.int rfl, trivial⟩, ⟨rfl, rfl, rfl, ?_⟩, trivial⟩
              · show (st.take _ ++ [_]).length ≤ j + 1
                rw [List.length_append, List.length_take, List.length_singleton]; omega
              · intro x hx
                show x ≤ j + 1
                rcases List.mem_append.1 hx with hx | hx
                · have := i2 x (List.mem_of_mem_take hx); omega
                · rw [List.mem_singleton.1 hx]; omega
              · show _ = (st.take _ ++ [_]).length
                rw [List.length_append, List.length_take, List.length_singleton]; simp only [List.length_singleton]; omega
              · show _ = (st.take _ ++ [_]).map dC
                rw [List.map_append, List.map_take]
                rfl
      · rw [if_pos g] at i3
        rw [i3]
        ((conv => whnf); repeat' ((first | (with_reducible first | apply a_ | apply b_ | apply c_) | ((with_reducible first | apply d_ | apply e_ | apply f_ | apply g_); focus first | omega | (simp only [q_] <;> omega)) | ((with_reducible first | apply i_ | apply h_); focus first | omega | (simp only [q_] <;> omega)) | ((with_reducible apply h_); focus first | decide | kernel_rfl) | refine BCase.t (by decide) ?_ | refine BCase.f (by decide) ?_ | (refine Idx.mapI j rfl q ?_) | refine CallP.pure _ rfl _ (pa) ?_ | with_reducible first | apply l_ | apply m_ | apply n_ | apply o_ | refine p_ (fun _ => ?_) (fun _ => ?_)) <;> (conv => whnf)))
        all_goals exact Ret.int rfl
    · rw [List.drop_of_length_le (by omega)] at i3
      have i3 : chkR [] l = if st.length ≠ 1 then 1 else if 12 < st.headD 0 then 10 else 0 := i3
      rw [i3]
      rcases st with _ | ⟨x, _ | ⟨y, r⟩⟩
      · ((conv => whnf); repeat' ((first | (with_reducible first | apply a_ | apply b_ | apply c_) | ((with_reducible first | apply d_ | apply e_ | apply f_ | apply g_); focus first | omega | (simp only [q_] <;> omega)) | ((with_reducible first | apply i_ | apply h_); focus first | omega | (simp only [q_] <;> omega)) | ((with_reducible apply h_); focus first | decide | kernel_rfl) | refine BCase.t (by decide) ?_ | refine BCase.f (by decide) ?_ | with_reducible first | apply l_ | apply m_ | apply n_ | apply o_ | refine p_ (fun _ => ?_) (fun _ => ?_)) <;> (conv => whnf)))
        all_goals exact Ret.int rfl
      · ((conv => whnf); repeat' ((first | (with_reducible first | apply a_ | apply b_ | apply c_) | ((with_reducible first | apply d_ | apply e_ | apply f_ | apply g_); focus first | omega | (simp only [q_] <;> omega)) | ((with_reducible first | apply i_ | apply h_); focus first | omega | (simp only [q_] <;> omega)) | ((with_reducible apply h_); focus first | decide | kernel_rfl) | refine BCase.t (by decide) ?_ | refine BCase.f (by decide) ?_ | with_reducible first | apply l_ | apply m_ | apply n_ | apply o_ | refine p_ (fun _ => ?_) (fun _ => ?_)) <;> (conv => whnf)))
        refine Row.mk _ rfl ?_
        rw [show (if [x].length ≠ 1 then (1 : Int) else if 12 < [x].headD 0 then 10 else 0) = if 12 < x then 10 else 0 from rfl]
        ((conv => whnf); repeat' ((first | (with_reducible first | apply a_ | apply b_ | apply c_) | ((with_reducible first | apply d_ | apply e_ | apply f_ | apply g_); focus first | omega | (simp only [q_] <;> omega)) | ((with_reducible first | apply i_ | apply h_); focus first | omega | (simp only [q_] <;> omega)) | ((with_reducible apply h_); focus first | decide | kernel_rfl) | refine BCase.t (by decide) ?_ | refine BCase.f (by decide) ?_ | with_reducible first | apply l_ | apply m_ | apply n_ | apply o_ | refine p_ (fun _ => ?_) (fun _ => ?_)) <;> (conv => whnf)))
        (all_goals (refine Ret.int ?_; ((repeat' split) <;> first | rfl | omega)))
      · rw [if_pos (by simp)]
        ((conv => whnf); repeat' ((first | (with_reducible first | apply a_ | apply b_ | apply c_) | ((with_reducible first | apply d_ | apply e_ | apply f_ | apply g_); focus first | omega | (simp only [q_] <;> omega)) | ((with_reducible first | apply i_ | apply h_); focus first | omega | (simp only [q_] <;> omega)) | ((with_reducible apply h_); focus first | decide | kernel_rfl) | refine BCase.t (by decide) ?_ | refine BCase.f (by decide) ?_ | with_reducible first | apply l_ | apply m_ | apply n_ | apply o_ | refine p_ (fun _ => ?_) (fun _ => ?_)) <;> (conv => whnf)))
        all_goals exact Ret.int rfl
end Go.Proofs.YtmcmagfondjopaaDoor.Pm
end
section
namespace Go.Proofs.YtmcmagfondjopaaDoor.Pm
open Go.RowKit K
set_option linter.unusedVariables false
set_option linter.unusedSimpArgs false
set_option maxRecDepth 100000
def prF (n : NodeD) (ks : List Prd) : Except Int Prd := .ok (prtN n ks)
def wgt : List Prd → Nat
  | [] => 0
  | k :: ks => k.1.length + 3 + wgt ks
theorem wgt_append : ∀ a b : List Prd, wgt (a ++ b) = wgt a + wgt b
  | [], b => by rw [List.nil_append, wgt, Nat.zero_add]
  | k :: a, b => by rw [List.cons_append, wgt, wgt, wgt_append a b]; omega
theorem wgt_mem : ∀ {ks : List Prd} {k : Prd}, k ∈ ks → k.1.length ≤ wgt ks
  | k :: ks, x, h => by
    rw [wgt]
    rcases List.mem_cons.1 h with rfl | h
    · omega
    · have := wgt_mem h; omega
theorem comT_wgt : ∀ ks : List Prd, (comT ks).length ≤ wgt ks
  | [] => Nat.le_refl _
  | k :: ks => by
    have := comT_wgt ks
    show (markT sCo :: k.1 ++ comT ks).length ≤ _
    rw [wgt, List.length_append, List.length_cons]; omega
theorem notT_len (op : Int) : (notT op).length ≤ 1 := by unfold notT; split <;> simp
theorem tokN_len (n : NodeD) (ks : List Prd) : (tokN n ks).length ≤ wgt ks + 4 := by
  have hn := notT_len n.Op
  unfold tokN
  split
  · simp
  split
  · simp
  split
  · rename_i _ a
    have h7 := at_len a 7
    have h3 := at_len a 3
    have h5 := at_len a 5
    rw [wgt, wgt]
    split
    · simp only [List.length_cons]; omega
    split
    · simp only [List.length_cons]; omega
    · simp only [List.length_append, List.length_cons, List.length_nil]; omega
  · rename_i _ a b ks
    have h5 := at_len a 5
    have g5 := at_len b 5
    have hL := at_len a (lvlF n.Op)
    have gL := at_len b (lvlF n.Op + 1)
    have hc := comT_wgt ks
    rw [wgt, wgt]
    split
    · simp only [List.length_append, List.length_cons, List.length_nil]; omega
    split
    · split
      · simp only [List.length_append, List.length_cons]; omega
      split
      · simp only [List.length_append, List.length_cons]; omega
      · simp only [List.length_append, List.length_cons]; omega
    · rename_i _ c ks'
      have c5 := at_len c 5
      rw [wgt]
      simp only [List.length_append, List.length_cons]; omega
  · simp
theorem opKids_of {n : NodeD} {k : Nat} (h : alF n = 0) (hk : n.Kids = (k : Int)) : opKids n k := by
  obtain ⟨h1, h2, h3, h4, h5, h6⟩ := alF_kids h
  unfold leastK at h3
  unfold mostK leastK at h4
  unfold opKids
  rw [hk] at h3 h4
  split at h3
  · rw [if_neg (by omega), if_pos (by assumption)] at h4; omega
  split at h3
  · rw [if_neg (by omega), if_neg (by assumption), if_pos (by assumption)] at h4; omega
  split at h3
  · rw [if_neg (by omega), if_neg (by assumption), if_neg (by assumption), if_pos (by assumption)] at h4; omega
  by_cases g : n.Op = 22 ∨ n.Op = 23
  · rw [if_pos g] at h4; omega
  · rw [if_neg g, if_neg (by assumption), if_neg (by assumption), if_neg (by assumption)] at h4; omega
theorem p_clonep (l : List Prd) (h : l.length ≤ 1000000) : Pure Tryd.prog 49 [slV 2 prC l] (slV 2 prC l) := by
  cases l with
  | nil =>
    refine pure_sl0 ?_ fun a cap => ?_
    · refine pure_of Tryd.func49 (by rfl) rfl (by kernel_rfl) (by rfl) ?_
      ((conv => whnf); repeat' ((first | (with_reducible first | apply a_ | apply b_ | apply c_) | ((with_reducible first | apply d_ | apply e_ | apply f_ | apply g_); focus first | omega | (simp only [q_] <;> omega)) | ((with_reducible first | apply i_ | apply h_); focus first | omega | (simp only [q_] <;> omega)) | ((with_reducible apply h_); focus first | decide | kernel_rfl) | refine BCase.t (by decide) ?_ | refine BCase.f (by decide) ?_ | with_reducible first | apply l_ | apply m_ | apply n_ | apply o_ | refine p_ (fun _ => ?_) (fun _ => ?_)) <;> (conv => whnf)))
      exact Ret.le (.inr ⟨⟨2, rfl⟩, .inl rfl⟩)
    · refine pure_of Tryd.func49 (by rfl) rfl (by kernel_rfl) (by rfl) ?_
      ((conv => whnf); repeat' ((first | (with_reducible first | apply a_ | apply b_ | apply c_) | ((with_reducible first | apply d_ | apply e_ | apply f_ | apply g_); focus first | omega | (simp only [q_] <;> omega)) | ((with_reducible first | apply i_ | apply h_); focus first | omega | (simp only [q_] <;> omega)) | ((with_reducible apply h_); focus first | decide | kernel_rfl) | refine BCase.t (by decide) ?_ | refine BCase.f (by decide) ?_ | with_reducible first | apply l_ | apply m_ | apply n_ | apply o_ | refine p_ (fun _ => ?_) (fun _ => ?_)) <;> (conv => whnf)))
      exact Ret.mk rfl
  | cons x l =>
    refine pure_of Tryd.func49 (by rfl) rfl (by kernel_rfl) (by rfl) ?_
    ((conv => whnf); repeat' ((first | (with_reducible first | apply a_ | apply b_ | apply c_) | ((with_reducible first | apply d_ | apply e_ | apply f_ | apply g_); focus first | omega | (simp only [q_] <;> omega)) | ((with_reducible first | apply i_ | apply h_); focus first | omega | (simp only [q_] <;> omega)) | ((with_reducible apply h_); focus first | decide | kernel_rfl) | refine BCase.t (by decide) ?_ | refine BCase.f (by decide) ?_ | (refine Need.mk (List.cons_ne_nil _ _) ?_) | (refine Need.by 32 rfl (by simp only [List.length_map, List.length_nil, Nat.zero_add]; omega) ?_) | with_reducible first | apply l_ | apply m_ | apply n_ | apply o_ | refine p_ (fun _ => ?_) (fun _ => ?_)) <;> (conv => whnf)))
    exact Ret.mk rfl
theorem s_clonep (l : List Prd) (lo n : Nat) (h : lo + n ≤ l.length) (hn : n ≠ 0) (hz : l.length ≤ 1000000) : CallS Tryd.prog 49 [.d (.arr FK 65 2 lo n)] [(FK, .arr 65 2 (l.map prC))] [] (slV 2 prC ((l.drop lo).take n)) [] := by
  refine callS_of Tryd.func49 (by rfl) rfl (by kernel_rfl) (by rfl) [FK] rfl ?_
  ((conv => whnf); repeat' ((first | (with_reducible first | apply a_ | apply b_ | apply c_) | ((with_reducible first | apply d_ | apply e_ | apply f_ | apply g_); focus first | omega | (simp only [q_] <;> omega)) | ((with_reducible first | apply i_ | apply h_); focus first | omega | (simp only [q_] <;> omega)) | ((with_reducible apply h_); focus first | decide | kernel_rfl) | refine BCase.t (by decide) ?_ | refine BCase.f (by decide) ?_ | (refine Need.mk hn ?_) | (refine Need.mk (by rw [List.length_map]; exact h) ?_) | (refine Need.by 32 rfl (by simp only [List.length_nil, Nat.zero_add]; omega) ?_) | with_reducible first | apply l_ | apply m_ | apply n_ | apply o_ | refine p_ (fun _ => ?_) (fun _ => ?_)) <;> (conv => whnf)))
  refine RetS.mk [(FK, FK)] [FK] rfl rfl ?_ ?_
  · show C.sl 2 _ = C.sl 2 _
    rw [List.map_take, List.map_drop]; rfl
  · exact ⟨⟨rfl, rfl, rfl, rfl⟩, trivial⟩
theorem s_lastp (st : List Prd) (K : Int) (h0 : 0 ≤ K) (h1 : K ≤ st.length) (hz : st.length ≤ 1000000) : CallS Tryd.prog 49 [.d (.arr FK 65 2 (0 + ((st.length : Int) - K).toNat) (((st.length : Nat) : Int).toNat - ((st.length : Int) - K).toNat))] [(FK, .arr 65 2 (st.map prC))] [] (slV 2 prC (st.drop (st.length - K.toNat))) [] := by
  have e1 : 0 + ((st.length : Int) - K).toNat = st.length - K.toNat := by omega
  have e2 : ((st.length : Nat) : Int).toNat - ((st.length : Int) - K).toNat = K.toNat := by omega
  rw [e1, e2]
  by_cases k0 : K = 0
  · subst k0
    rw [show st.drop (st.length - (0 : Int).toNat) = [] from List.drop_of_length_le (by simp)]
    exact (p_clonep [] (by simp)).empty1
  · have := s_clonep st (st.length - K.toNat) K.toNat (by omega) (by omega) hz
    rwa [List.take_of_length_le (by rw [List.length_drop]; omega)] at this
def wpE (l : List NodeD) (j : Nat) (st : List Prd) : List (Nat × PV) := [(1, fnV 36), (4, .d (.ptr 4 0)), (5, pInt .i64 0), (6, .d (.ptr 6 0)), (7, .d (.arr 60 65 2 0 st.length)), (13, slV 6 NodeD.c l), (14, pInt .i64 l.length), (15, pInt .i64 j)]
abbrev noPr : HB := .box 65 [.c (.v (.slice none 0 0)), .c (.v (.int .i64 0))]
theorem p_walkp (l : List NodeD) (x : Prd) (hl : l.length ≤ 60) (ha : ∀ n ∈ l, alF n = 0 ∧ okText n.Name) (hw : walkG prF [] l = .ok [x]) : Pure Tryd.prog 35 [slV 6 NodeD.c l, fnV 36] (.tup [prV x, pInt .i64 0]) := by
  refine pure_of Tryd.func35 (by rfl) rfl (by kernel_rfl) (by rfl) ?_
  ((conv => whnf); repeat' ((first | (with_reducible first | apply a_ | apply b_ | apply c_) | ((with_reducible first | apply d_ | apply e_ | apply f_ | apply g_); focus first | omega | (simp only [q_] <;> omega)) | ((with_reducible first | apply i_ | apply h_); focus first | omega | (simp only [q_] <;> omega)) | ((with_reducible apply h_); focus first | decide | kernel_rfl) | refine BCase.t (by decide) ?_ | refine BCase.f (by decide) ?_ | with_reducible first | apply l_ | apply m_ | apply n_ | apply o_ | refine p_ (fun _ => ?_) (fun _ => ?_)) <;> (conv => whnf)))
  refine LoopC.mk (Nat × List Prd) (fun s => wpE l s.1 s.2) (fun s => [(4, noPr), (6, noPr), (60, .arr 65 2 (s.2.map prC))]) [4, 6, 60] (fun s => s.1 ≤ l.length ∧ s.2.length ≤ s.1 ∧ wgt s.2 ≤ 8 * s.1 ∧ walkG prF s.2 (l.drop s.1) = .ok [x]) (fun s => l.length - s.1) (0, []) ⟨Nat.zero_le _, Nat.zero_le _, Nat.zero_le _, hw⟩ ?start ?round
  case start =>
    refine ⟨[(4, 4), (6, 6)], rfl, rfl, ⟨.inl rfl, ⟨rfl, rfl, rfl⟩, .inl rfl, ⟨rfl, rfl, rfl⟩, ⟨rfl, rfl, Nat.zero_lt_succ _, rfl, rfl⟩, .inl rfl, PLe.int (by simp), .inl rfl, trivial⟩, ⟨?_, ?_, ⟨rfl, Nat.zero_lt_succ _, rfl⟩, trivial⟩⟩ <;> (repeat' (first | exact rfl | exact trivial | exact Or.inl rfl | refine And.intro ?_ ?_))
  case round =>
    rintro ⟨j, st⟩ ⟨hj, i1, i2, i3⟩
    have hj : j ≤ l.length := hj
    have i1 : st.length ≤ j := i1
    have i2 : wgt st ≤ 8 * j := i2
    have i3 : walkG prF st (l.drop j) = .ok [x] := i3
    by_cases q : j < l.length
    · rw [List.drop_eq_getElem_cons q, walkG_cons] at i3
      split at i3
      · cases i3
      rename_i g
      have g1 : ¬ l[j].Kids < 0 := fun q => g (.inl q)
      have g2 : ¬ (st.length : Int) < l[j].Kids := fun q => g (.inr q)
      obtain ⟨al, an⟩ := ha _ (List.getElem_mem q)
      have pc := s_lastp st l[j].Kids (by omega) (by omega) (by omega)
      obtain ⟨ks, hks⟩ : ∃ ks, ks = st.drop (st.length - l[j].Kids.toNat) := ⟨_, rfl⟩
      have hkl : ks.length = l[j].Kids.toNat := by rw [hks, List.length_drop]; omega
      have hsp : wgt (st.take (st.length - l[j].Kids.toNat)) + wgt ks = wgt st := by rw [hks, ← wgt_append, List.take_append_drop]
      rw [← hks] at pc i3
      have pd := p_print l[j] ks (opKids_of al (by rw [hkl]; omega)) an (fun k hk => by have := wgt_mem hk; omega)
      have htl := tokN_len l[j] ks
      have i3 : walkG prF (st.take (st.length - l[j].Kids.toNat) ++ [prtN l[j] ks]) (l.drop (j + 1)) = .ok [x] := i3
      ((conv => whnf); repeat' ((first | (with_reducible first | apply a_ | apply b_ | apply c_) | ((with_reducible first | apply d_ | apply e_ | apply f_ | apply g_); focus first | omega | (simp only [q_] <;> omega)) | ((with_reducible first | apply i_ | apply h_); focus first | omega | (simp only [q_] <;> omega)) | ((with_reducible apply h_); focus first | decide | kernel_rfl) | refine BCase.t (by decide) ?_ | refine BCase.f (by decide) ?_ | (refine Idx.mapI j rfl q ?_) | (refine CallP.ret [(FK, 60)] _ _ _ _ _ _ _ pc rfl rfl rfl rfl ⟨rfl, trivial⟩ ?_) | refine CallP.pure _ rfl _ (pd) ?_ | (refine Need.by 32 rfl (by simp only [List.length_singleton]; omega) ?_) | with_reducible first | apply l_ | apply m_ | apply n_ | apply o_ | refine p_ (fun _ => ?_) (fun _ => ?_)) <;> (conv => whnf)))
      have hw2 : wgt (st.take (st.length - l[j].Kids.toNat) ++ [prtN l[j] ks]) ≤ 8 * (j + 1) := by
        rw [wgt_append, wgt, wgt]
        show _ + ((tokN l[j] ks).length + 3 + 0) ≤ _
        omega
      have hw3 : (st.take (st.length - l[j].Kids.toNat) ++ [prtN l[j] ks]).length ≤ j + 1 := by
        rw [List.length_append, List.length_take, List.length_singleton]; omega
      refine ⟨(j + 1, st.take (st.length - l[j].Kids.toNat) ++ [prtN l[j] ks]), ⟨q, hw3, hw2, i3⟩, by show l.length - (j + 1) < l.length - j; omega, [(4, 4), (6, 6), (60, 54)], rfl, rfl, ⟨.inl rfl, ⟨rfl, rfl, rfl⟩, .inl rfl, ⟨rfl, rfl, rfl⟩, ⟨rfl, rfl, rfl, rfl, rfl, ?_⟩, .inl rfl, .inl rfl, PLe.int rfl, trivial⟩, ?_, ?_, ⟨rfl, rfl, rfl, ?_⟩, trivial⟩
      · show _ = (st.take _ ++ [_]).length
        rw [List.length_append, List.length_take, List.length_singleton]; simp only [List.length_singleton]; omega
      · (repeat' (first | exact rfl | exact trivial | exact Or.inl rfl | refine And.intro ?_ ?_))
      · (repeat' (first | exact rfl | exact trivial | exact Or.inl rfl | refine And.intro ?_ ?_))
      · show _ = (st.take _ ++ [_]).map prC
        rw [List.map_append, List.map_take]
        have e1 : ((st.length : Int) - l[j].Kids).toNat = st.length - l[j].Kids.toNat := by omega
        show (st.map prC).take ((st.length : Int) - l[j].Kids).toNat ++ _ = _
        rw [e1]; rfl
    · rw [List.drop_of_length_le (by omega)] at i3
      have i3 : Except.ok st = (Except.ok [x] : Except Int (List Prd)) := i3
      cases i3
      ((conv => whnf); repeat' ((first | (with_reducible first | apply a_ | apply b_ | apply c_) | ((with_reducible first | apply d_ | apply e_ | apply f_ | apply g_); focus first | omega | (simp only [q_] <;> omega)) | ((with_reducible first | apply i_ | apply h_); focus first | omega | (simp only [q_] <;> omega)) | ((with_reducible apply h_); focus first | decide | kernel_rfl) | refine BCase.t (by decide) ?_ | refine BCase.f (by decide) ?_ | with_reducible first | apply l_ | apply m_ | apply n_ | apply o_ | refine p_ (fun _ => ?_) (fun _ => ?_)) <;> (conv => whnf)))
      refine Row.mk _ rfl ?_
      ((conv => whnf); repeat' ((first | (with_reducible first | apply a_ | apply b_ | apply c_) | ((with_reducible first | apply d_ | apply e_ | apply f_ | apply g_); focus first | omega | (simp only [q_] <;> omega)) | ((with_reducible first | apply i_ | apply h_); focus first | omega | (simp only [q_] <;> omega)) | ((with_reducible apply h_); focus first | decide | kernel_rfl) | refine BCase.t (by decide) ?_ | refine BCase.f (by decide) ?_ | with_reducible first | apply l_ | apply m_ | apply n_ | apply o_ | refine p_ (fun _ => ?_) (fun _ => ?_)) <;> (conv => whnf)))
      all_goals exact Ret.eq rfl
end Go.Proofs.YtmcmagfondjopaaDoor.Pm
end
section
namespace Go.Proofs.YtmcmagfondjopaaDoor.Pm
open Go.RowKit K
set_option linter.unusedVariables false
set_option linter.unusedSimpArgs false
set_option maxRecDepth 100000
mutual
def prtX : Ex → Prd
  | .mk n ks => prtN n (prtXs ks)
def prtXs : List Ex → List Prd
  | [] => []
  | t :: ts => prtX t :: prtXs ts
end
mutual
theorem foldX_prt : ∀ t : Ex, foldX prF t = .ok (prtX t)
  | .mk n ks => by rw [foldX, foldXs_prt ks, prtX]; rfl
theorem foldXs_prt : ∀ l : List Ex, foldXs prF l = .ok (prtXs l)
  | [] => by rw [foldXs, prtXs]
  | t :: l => by rw [foldXs, foldX_prt t, foldXs_prt l, prtXs]
end
theorem walk_prt {t : Ex} (hg : t.good) : walkG prF [] t.flat = .ok [prtX t] := by
  have := walk_fold prF t hg [] []
  rw [List.append_nil, foldX_prt] at this
  exact this
def prtL (e : List NodeD) : List TokenD :=
  match walkG prF [] e with
  | .ok [p] => p.1
  | _ => []
theorem prtL_flat {t : Ex} (hg : t.good) : prtL t.flat = (prtX t).1 := by unfold prtL; rw [walk_prt hg]
def tokensF (e : List NodeD) : List TokenD × Int :=
  if checkF e ≠ 0 then ([], checkF e) else if 120 < (prtL e).length then ([], 2) else (prtL e, 0)
theorem p_Print (t : Ex) (h : RightT t) (hn : ∀ n ∈ t.flat, okText n.Name) : Pure Tryd.prog 10 [slV 6 NodeD.c t.flat] (slV 4 TokenD.c (prtX t).1) := by
  have pw := p_walkp t.flat (prtX t) h.len (fun n hm => ⟨h.all n hm, hn n hm⟩) (walk_prt h.good)
  refine pure_of Tryd.func10 (by rfl) rfl (by kernel_rfl) (by rfl) ?_
  ((conv => whnf); repeat' ((first | (with_reducible first | apply a_ | apply b_ | apply c_) | ((with_reducible first | apply d_ | apply e_ | apply f_ | apply g_); focus first | omega | (simp only [q_] <;> omega)) | ((with_reducible first | apply i_ | apply h_); focus first | omega | (simp only [q_] <;> omega)) | ((with_reducible apply h_); focus first | decide | kernel_rfl) | refine BCase.t (by decide) ?_ | refine BCase.f (by decide) ?_ | refine CallP.pure _ rfl _ (pw) ?_ | with_reducible first | apply l_ | apply m_ | apply n_ | apply o_ | refine p_ (fun _ => ?_) (fun _ => ?_)) <;> (conv => whnf)))
  exact Ret.eq rfl
theorem p_Tokens (e : List NodeD) (hn : ∀ n ∈ e, okText n.Name) : Pure Tryd.prog 4 [slV 6 NodeD.c e] (.tup [slV 4 TokenD.c (tokensF e).1, pInt .i64 (tokensF e).2]) := by
  have pc := p_echeck e hn
  unfold tokensF
  by_cases hc : checkF e = 0
  · rw [if_neg (not_not_intro hc)]
    rw [hc] at pc
    obtain ⟨t, ht, rfl⟩ := right_of hc
    have pp := p_Print t ht hn
    rw [← prtL_flat ht.good] at pp
    have hml : ((prtL t.flat).map TokenD.c).length = (prtL t.flat).length := List.length_map _
    refine pure_of Tryd.func4 (by rfl) rfl (by kernel_rfl) (by rfl) ?_
    by_cases g : 120 < (prtL t.flat).length
    · rw [if_pos g]
      ((conv => whnf); repeat' ((first | (with_reducible first | apply a_ | apply b_ | apply c_) | ((with_reducible first | apply d_ | apply e_ | apply f_ | apply g_); focus first | omega | (simp only [q_] <;> omega)) | ((with_reducible first | apply i_ | apply h_); focus first | omega | (simp only [q_] <;> omega)) | ((with_reducible apply h_); focus first | decide | kernel_rfl) | refine BCase.t (by decide) ?_ | refine BCase.f (by decide) ?_ | refine CallP.pure _ rfl _ (pc) ?_ | refine CallP.pure _ rfl _ (pp) ?_ | with_reducible first | apply l_ | apply m_ | apply n_ | apply o_ | refine p_ (fun _ => ?_) (fun _ => ?_)) <;> (conv => whnf)))
      all_goals first | exact Ret.le ⟨.inr ⟨⟨4, rfl⟩, .inl rfl⟩, .inl rfl, rfl⟩ | (exfalso; omega)
    · rw [if_neg g]
      ((conv => whnf); repeat' ((first | (with_reducible first | apply a_ | apply b_ | apply c_) | ((with_reducible first | apply d_ | apply e_ | apply f_ | apply g_); focus first | omega | (simp only [q_] <;> omega)) | ((with_reducible first | apply i_ | apply h_); focus first | omega | (simp only [q_] <;> omega)) | ((with_reducible apply h_); focus first | decide | kernel_rfl) | refine BCase.t (by decide) ?_ | refine BCase.f (by decide) ?_ | refine CallP.pure _ rfl _ (pc) ?_ | refine CallP.pure _ rfl _ (pp) ?_ | with_reducible first | apply l_ | apply m_ | apply n_ | apply o_ | refine p_ (fun _ => ?_) (fun _ => ?_)) <;> (conv => whnf)))
      all_goals first | exact Ret.eq rfl | (exfalso; omega)
  · rw [if_pos hc]
    refine pure_of Tryd.func4 (by rfl) rfl (by kernel_rfl) (by rfl) ?_
    ((conv => whnf); repeat' ((first | (with_reducible first | apply a_ | apply b_ | apply c_) | ((with_reducible first | apply d_ | apply e_ | apply f_ | apply g_); focus first | omega | (simp only [q_] <;> omega)) | ((with_reducible first | apply i_ | apply h_); focus first | omega | (simp only [q_] <;> omega)) | ((with_reducible apply h_); focus first | decide | kernel_rfl) | refine BCase.t (by decide) ?_ | refine BCase.f (by decide) ?_ | refine CallP.pure _ rfl _ (pc) ?_ | with_reducible first | apply l_ | apply m_ | apply n_ | apply o_ | refine p_ (fun _ => ?_) (fun _ => ?_)) <;> (conv => whnf)))
    all_goals first | exact Ret.le ⟨.inr ⟨⟨4, rfl⟩, .inl rfl⟩, .inl rfl, rfl⟩ | (exfalso; omega)
end Go.Proofs.YtmcmagfondjopaaDoor.Pm
end
section
namespace Go.Proofs.YtmcmagfondjopaaDoor.Pm
open Go.RowKit K
set_option linter.unusedVariables false
set_option linter.unusedSimpArgs false
set_option maxRecDepth 100000
abbrev cmpL : List Int := [10, 11, 12, 13, 14, 15]
abbrev lvs : List (Nat × List Int) := [(1, [17]), (2, [16]), (5, [5, 6]), (6, [7, 8, 9])]
def NotQ (k : Nat) (q : List TokenD) : Prop := (k = 0 ∧ q = []) ∨ (k = 1 ∧ ∃ t, q = [t] ∧ isM t wNot = true)
abbrev Pc := TokenD × List TokenD × Ex
def pcsT (ps : List Pc) : List TokenD := ps.flatMap fun p => p.1 :: p.2.1
inductive RD : Nat → List TokenD → Ex → Prop
  | lit {t : TokenD} {n : NodeD} (h1 : isM t sLp = false) (h2 : litF t = some n) : RD 8 [t] (.mk n [])
  | par {o c : TokenD} {l : List TokenD} {t : Ex} (h1 : isM o sLp = true) (h2 : isM c sRp = true) (h : RD 1 l t) : RD 8 (o :: (l ++ [c])) t
  | up {k : Nat} {l : List TokenD} {t : Ex} (h1 : 1 ≤ k) (h8 : k < 8) (h : RD (k + 1) l t) : RD k l t
  | neg {o : TokenD} {l : List TokenD} {t : Ex} (h1 : isM o sMi = true) (h : RD 7 l t) : RD 7 (o :: l) (.mk (nOp 3 1) [t])
  | not {o : TokenD} {l : List TokenD} {t : Ex} (h1 : isM o wNot = true) (h : RD 3 l t) : RD 3 (o :: l) (.mk (nOp 4 1) [t])
  | bin {k : Nat} {ops : List Int} {op : Int} {o : TokenD} {l m : List TokenD} {a b : Ex} (hk : (k, ops) ∈ lvs) (ho : op ∈ ops) (h1 : isM o (sgn op) = true) (ha : RD k l a) (hb : RD (k + 1) m b) : RD k (l ++ o :: m) (.mk (nOp op 2) [a, b])
  | cmp {op : Int} {o : TokenD} {l m : List TokenD} {a b : Ex} (ho : op ∈ cmpL) (h1 : isM o (sgn op) = true) (ha : RD 5 l a) (hb : RD 5 m b) : RD 4 (l ++ o :: m) (.mk (nOp op 2) [a, b])
  | isn {i u : TokenD} {l : List TokenD} {a : Ex} (h1 : isM i wIs = true) (h2 : isM u wNull = true) (ha : RD 5 l a) : RD 4 (l ++ [i, u]) (.mk (nOp 18 1) [a])
  | isnn {i n u : TokenD} {l : List TokenD} {a : Ex} (h1 : isM i wIs = true) (h2 : isM n wNot = true) (h3 : isM u wNull = true) (ha : RD 5 l a) : RD 4 (l ++ [i, n, u]) (.mk (nOp 19 1) [a])
  | like {k : Nat} {q : List TokenD} {o : TokenD} {l m : List TokenD} {a b : Ex} (hq : NotQ k q) (h1 : isM o wLike = true) (ha : RD 5 l a) (hb : RD 5 m b) : RD 4 (l ++ (q ++ o :: m)) (.mk (nOp (20 + (k : Int)) 2) [a, b])
  | betw {k : Nat} {q : List TokenD} {o d : TokenD} {l m p : List TokenD} {a b c : Ex} (hq : NotQ k q) (h1 : isM o wBetw = true) (h2 : isM d wAnd = true) (ha : RD 5 l a) (hb : RD 5 m b) (hc : RD 5 p c) : RD 4 (l ++ (q ++ o :: (m ++ d :: p))) (.mk (nOp (24 + (k : Int)) 3) [a, b, c])
  | isin {k : Nat} {q : List TokenD} {o c : TokenD} {l : List TokenD} {a : Ex} {p0 : Pc} {ps : List Pc} (hq : NotQ k q) (h1 : isM o wIn = true) (h2 : isM p0.1 sLp = true) (h3 : ∀ p ∈ ps, isM p.1 sCo = true) (h4 : isM c sRp = true) (ha : RD 5 l a) (hp : ∀ p ∈ p0 :: ps, RD 1 p.2.1 p.2.2) :
      RD 4 (l ++ (q ++ o :: (pcsT (p0 :: ps) ++ [c]))) (.mk (nOp (22 + (k : Int)) ((ps.length : Int) + 2)) (a :: (p0 :: ps).map fun p => p.2.2))
def Snd (k : Nat) (f : List TokenD → PR) : Prop := ∀ l r ns, f l = some (r, ns) → ∃ pre t, l = pre ++ r ∧ RD k pre t ∧ ns = t.flat
theorem isH_cons {s : List UInt8} {l : List TokenD} (h : isH s l = true) : ∃ t, l = t :: l.drop 1 ∧ isM t s = true := by
  cases l with
  | nil => cases h
  | cons t r => exact ⟨t, rfl, h⟩
theorem flat_mk (n : NodeD) (ks : List Ex) : (Ex.mk n ks).flat = Ex.flats ks ++ [n] := by rw [Ex.flat]
theorem flats_two (a b : Ex) : Ex.flats [a, b] = a.flat ++ b.flat := by rw [Ex.flats, Ex.flats_one]
theorem snd_one {rec : List TokenD → PR} (h : Snd 1 rec) : Snd 8 (oneF rec) := by
  intro l r ns e
  cases l with
  | nil => cases e
  | cons t l =>
    rw [oneF] at e
    split at e
    · rename_i ht
      split at e
      · cases e
      · rename_i r2 ms e2
        split at e
        · rename_i g
          cases e
          obtain ⟨pre, x, h1, h2, h3⟩ := h _ _ _ e2
          obtain ⟨c, h4, h5⟩ := isH_cons g
          refine ⟨t :: (pre ++ [c]), x, ?_, .par ht h5 h2, h3⟩
          rw [h1, List.cons_append, List.append_assoc]
          conv => lhs; rw [h4]
          rfl
        · cases e
    · rename_i ht
      rw [Bool.not_eq_true] at ht
      split at e
      · cases e
      · rename_i n hn
        cases e
        exact ⟨[t], .mk n [], rfl, .lit ht hn, by rw [Ex.flat, Ex.flats]; rfl⟩
theorem heads_drop {s : List UInt8} : ∀ {l : List TokenD}, ∃ q : List TokenD, l = q ++ l.drop (heads s l) ∧ q.length = heads s l ∧ ∀ t ∈ q, isM t s = true
  | [] => ⟨[], rfl, rfl, fun t h => absurd h (List.not_mem_nil)⟩
  | t :: r => by
    obtain ⟨q, h1, h2, h3⟩ := heads_drop (s := s) (l := r)
    rw [heads]
    split
    · rename_i g
      refine ⟨t :: q, ?_, by rw [List.length_cons, h2], ?_⟩
      · rw [List.drop_succ_cons, List.cons_append, ← h1]
      · intro x hx
        rcases List.mem_cons.1 hx with rfl | hx
        · exact g
        · exact h3 x hx
    · exact ⟨[], rfl, rfl, fun t h => absurd h (List.not_mem_nil)⟩
theorem snd_pre {one : List TokenD → PR} {s : List UInt8} {op : Int} {k : Nat} (hk : 1 ≤ k) (hk8 : k < 8) (hs : ∀ {o : TokenD} {l : List TokenD} {t : Ex}, isM o s = true → RD k l t → RD k (o :: l) (.mk (nOp op 1) [t])) (h : Snd (k + 1) one) : Snd k (preF s op one) := by
  intro l r ns e
  unfold preF at e
  split at e
  · cases e
  rename_i r1 ns1 e1
  cases e
  obtain ⟨pre, x, h1, h2, h3⟩ := h _ _ _ e1
  obtain ⟨q, q1, q2, q3⟩ := heads_drop (s := s) (l := l)
  have key : ∀ (q : List TokenD), (∀ t ∈ q, isM t s = true) → ∃ y, RD k (q ++ pre) y ∧ y.flat = x.flat ++ List.replicate q.length (nOp op 1) := by
    intro q
    induction q with
    | nil => intro _; exact ⟨x, .up hk hk8 h2, by rw [List.length_nil, List.replicate_zero, List.append_nil]⟩
    | cons t q ih =>
      intro hq
      obtain ⟨y, y1, y2⟩ := ih fun z hz => hq z (List.mem_cons_of_mem _ hz)
      refine ⟨.mk (nOp op 1) [y], hs (hq t List.mem_cons_self) y1, ?_⟩
      rw [flat_mk, Ex.flats_one, y2, List.length_cons, List.replicate_succ', List.append_assoc]
  obtain ⟨y, y1, y2⟩ := key q q3
  refine ⟨q ++ pre, y, ?_, y1, ?_⟩
  · rw [List.append_assoc, ← h1]; exact q1
  · rw [y2, q2, h3]
theorem snd_chainR {one : List TokenD → PR} {ops : List Int} {k : Nat} (hk : (k, ops) ∈ lvs) (h : Snd (k + 1) one) : ∀ (n : Nat) (pre : List TokenD) (a : Ex) (l r : List TokenD) (ms : List NodeD), RD k pre a → chainR one ops n l = some (r, ms) → ∃ pre2 t, l = pre2 ++ r ∧ RD k (pre ++ pre2) t ∧ a.flat ++ ms = t.flat
  | 0, pre, a, l, r, ms, ha, e => by rw [chainR] at e; cases e; exact ⟨[], a, rfl, by rw [List.append_nil]; exact ha, by rw [List.append_nil]⟩
  | n + 1, pre, a, l, r, ms, ha, e => by
    rw [chainR] at e
    split at e
    · cases e; exact ⟨[], a, rfl, by rw [List.append_nil]; exact ha, by rw [List.append_nil]⟩
    · rename_i o ho
      obtain ⟨o1, o2⟩ := opAt_pos ho
      obtain ⟨t, t1, t2⟩ := isH_cons o1
      split at e
      · cases e
      · rename_i r1 ns e1
        obtain ⟨m, b, m1, m2, m3⟩ := h _ _ _ e1
        split at e
        · cases e
        · rename_i r2 ms2 e2
          cases e
          obtain ⟨p2, x, x1, x2, x3⟩ := snd_chainR hk h n (pre ++ t :: m) (.mk (nOp o 2) [a, b]) r1 r ms2 (.bin hk o2 t2 ha m2) e2
          refine ⟨t :: (m ++ p2), x, ?_, ?_, ?_⟩
          · conv => lhs; rw [t1, m1, x1]
            rw [List.cons_append, List.append_assoc]
          · rw [List.append_assoc] at x2; exact x2
          · rw [← x3, flat_mk, flats_two, m3, List.append_assoc, List.append_assoc]; rfl
theorem snd_chainF {one : List TokenD → PR} {ops : List Int} {k : Nat} (hk : (k, ops) ∈ lvs) (hk1 : 1 ≤ k) (hk8 : k < 8) (h : Snd (k + 1) one) : Snd k (chainF one ops) := by
  intro l r ns e
  unfold chainF at e
  split at e
  · cases e
  rename_i r1 ns1 e1
  obtain ⟨pre, a, a1, a2, a3⟩ := h _ _ _ e1
  split at e
  · cases e
  rename_i r2 ms e2
  cases e
  obtain ⟨p2, x, x1, x2, x3⟩ := snd_chainR hk h _ pre a r1 r ms (.up hk1 hk8 a2) e2
  exact ⟨pre ++ p2, x, by rw [a1, x1, List.append_assoc], x2, by rw [a3]; exact x3⟩
theorem snd_listR {rec : List TokenD → PR} (h : Snd 1 rec) : ∀ (n : Nat) (l r : List TokenD) (ms : List NodeD) (k : Nat), listR rec n l = some (r, ms, k) → ∃ ps : List Pc, l = pcsT ps ++ r ∧ (∀ p ∈ ps, isM p.1 sCo = true) ∧ (∀ p ∈ ps, RD 1 p.2.1 p.2.2) ∧ ms = Ex.flats (ps.map fun p => p.2.2) ∧ k = ps.length
  | 0, l, r, ms, k, e => by rw [listR] at e; cases e; exact ⟨[], rfl, fun p h => absurd h (List.not_mem_nil), fun p h => absurd h (List.not_mem_nil), by rw [List.map_nil, Ex.flats], rfl⟩
  | n + 1, l, r, ms, k, e => by
    rw [listR] at e
    split at e
    · rename_i g
      obtain ⟨t, t1, t2⟩ := isH_cons g
      split at e
      · cases e
      rename_i r1 ns e1
      obtain ⟨m, b, m1, m2, m3⟩ := h _ _ _ e1
      split at e
      · cases e
      rename_i r2 ms2 k2 e2
      cases e
      obtain ⟨ps, p1, p2, p3, p4, p5⟩ := snd_listR h n r1 r ms2 k2 e2
      refine ⟨(t, m, b) :: ps, ?_, ?_, ?_, ?_, ?_⟩
      · conv => lhs; rw [t1, m1, p1]
        show t :: (m ++ (pcsT ps ++ r)) = (t :: m ++ pcsT ps) ++ r
        rw [List.cons_append, List.cons_append, List.append_assoc]
      · intro p hp
        rcases List.mem_cons.1 hp with rfl | hp
        · exact t2
        · exact p2 p hp
      · intro p hp
        rcases List.mem_cons.1 hp with rfl | hp
        · exact m2
        · exact p3 p hp
      · rw [List.map_cons, Ex.flats, m3, p4]
      · rw [List.length_cons, p5]
    · cases e; exact ⟨[], rfl, fun p h => absurd h (List.not_mem_nil), fun p h => absurd h (List.not_mem_nil), by rw [List.map_nil, Ex.flats], rfl⟩
theorem snd_tail {rec : List TokenD → PR} (h : Snd 1 rec) (ha : Snd 5 (addF rec)) {k : Nat} {q l0 : List TokenD} {a : Ex} (hq : NotQ k q) (h0 : RD 5 l0 a) {l r : List TokenD} {ms : List NodeD} (e : tailF rec k l = some (r, ms)) : ∃ pre t, q ++ l = pre ++ r ∧ RD 4 (l0 ++ pre) t ∧ a.flat ++ ms = t.flat := by
  unfold tailF at e
  split at e
  · rename_i g
    obtain ⟨o, t1, t2⟩ := isH_cons g
    split at e
    · cases e
    rename_i r1 ns e1
    cases e
    obtain ⟨m, b, m1, m2, m3⟩ := ha _ _ _ e1
    refine ⟨q ++ o :: m, _, ?_, .like hq t2 h0 m2, ?_⟩
    · conv => lhs; rw [t1, m1]
      rw [List.append_assoc]; rfl
    · rw [flat_mk, flats_two, m3, List.append_assoc]
  · split at e
    · rename_i g
      obtain ⟨o, t1, t2⟩ := isH_cons g
      split at e
      · cases e
      rename_i r1 ns n e1
      cases e
      unfold listF at e1
      split at e1
      · rename_i g1
        obtain ⟨p, u1, u2⟩ := isH_cons g1
        split at e1
        · cases e1
        rename_i r2 ns2 e2
        obtain ⟨m, b, m1, m2, m3⟩ := h _ _ _ e2
        split at e1
        · cases e1
        rename_i r3 ms3 k3 e3
        obtain ⟨ps, p1, p2, p3, p4, p5⟩ := snd_listR h _ _ _ _ _ e3
        split at e1
        · rename_i g3
          obtain ⟨c, c1, c2⟩ := isH_cons g3
          cases e1
          refine ⟨q ++ o :: (pcsT ((p, m, b) :: ps) ++ [c]), _, ?_, .isin (p0 := (p, m, b)) (ps := ps) hq t2 u2 p2 c2 h0 ?_, ?_⟩
          · conv => lhs; rw [t1, u1, m1, p1, c1]
            show q ++ o :: (p :: (m ++ (pcsT ps ++ c :: List.drop 1 r3))) = (q ++ o :: ((p :: m ++ pcsT ps) ++ [c])) ++ List.drop 1 r3
            simp only [List.append_assoc, List.cons_append, List.nil_append]
          · intro z hz
            rcases List.mem_cons.1 hz with rfl | hz
            · exact m2
            · exact p3 z hz
          · rw [flat_mk, Ex.flats, List.map_cons, Ex.flats, m3, p4, p5]
            have : ((ps.length + 1 : Nat) : Int) + 1 = (ps.length : Int) + 2 := by omega
            rw [this]
            simp only [List.append_assoc]
        · cases e1
      · cases e1
    · split at e
      · rename_i g
        obtain ⟨o, t1, t2⟩ := isH_cons g
        split at e
        · cases e
        rename_i r1 ns e1
        cases e
        unfold twoF at e1
        split at e1
        · cases e1
        rename_i r2 ns2 e2
        obtain ⟨m, b, m1, m2, m3⟩ := ha _ _ _ e2
        split at e1
        · rename_i g2
          obtain ⟨d, d1, d2⟩ := isH_cons g2
          split at e1
          · cases e1
          rename_i r3 ns3 e3
          cases e1
          obtain ⟨p, c, c1, c2, c3⟩ := ha _ _ _ e3
          refine ⟨q ++ o :: (m ++ d :: p), _, ?_, .betw hq t2 d2 h0 m2 c2, ?_⟩
          · conv => lhs; rw [t1, m1, d1, c1]
            simp only [List.append_assoc, List.cons_append]
          · rw [flat_mk, Ex.flats, flats_two, m3, c3]
            simp only [List.append_assoc]
        · cases e1
      · split at e
        · cases e
        · rename_i g
          cases e
          obtain ⟨k0, q0⟩ | ⟨k1, _⟩ := hq
          · subst q0
            exact ⟨[], a, rfl, by rw [List.append_nil]; exact .up (by omega) (by omega) h0, by rw [List.append_nil]⟩
          · exact absurd k1 g
theorem snd_ask {rec : List TokenD → PR} (h : Snd 1 rec) (ha : Snd 5 (addF rec)) : Snd 4 (askF rec) := by
  intro l r ns e
  unfold askF at e
  split at e
  · cases e
  rename_i r1 ns1 e1
  obtain ⟨l0, a, a1, a2, a3⟩ := ha _ _ _ e1
  split at e
  · cases e
  rename_i r2 ms e2
  cases e
  subst a1 a3
  suffices ∃ pre t, r1 = pre ++ r ∧ RD 4 (l0 ++ pre) t ∧ a.flat ++ ms = t.flat by
    obtain ⟨pre, t, x1, x2, x3⟩ := this
    exact ⟨l0 ++ pre, t, by rw [x1, List.append_assoc], x2, x3⟩
  unfold moreF at e2
  split at e2
  · rename_i o ho
    obtain ⟨o1, o2⟩ := opAt_pos ho
    obtain ⟨t, t1, t2⟩ := isH_cons o1
    split at e2
    · cases e2
    rename_i r3 bs e3
    cases e2
    obtain ⟨m, b, m1, m2, m3⟩ := ha _ _ _ e3
    refine ⟨t :: m, _, ?_, .cmp o2 t2 a2 m2, ?_⟩
    · conv => lhs; rw [t1, m1]
      rfl
    · rw [flat_mk, flats_two, m3, List.append_assoc]
  · split at e2
    · rename_i g
      obtain ⟨i, i1, i2⟩ := isH_cons g
      unfold isF at e2
      split at e2
      · rename_i g2
        obtain ⟨n, n1, n2⟩ := isH_cons g2
        split at e2
        · rename_i g3
          obtain ⟨u, u1, u2⟩ := isH_cons g3
          cases e2
          refine ⟨[i, n, u], _, ?_, .isnn i2 n2 u2 a2, ?_⟩
          · conv => lhs; rw [i1, n1, u1]
            rw [List.drop_drop (l := List.drop 1 r1)]
            rfl
          · rw [flat_mk, Ex.flats_one]
        · cases e2
      · split at e2
        · rename_i g3
          obtain ⟨u, u1, u2⟩ := isH_cons g3
          cases e2
          refine ⟨[i, u], _, ?_, .isn i2 u2 a2, ?_⟩
          · conv => lhs; rw [i1, u1]
            rfl
          · rw [flat_mk, Ex.flats_one]
        · cases e2
    · split at e2
      · rename_i g
        obtain ⟨n, n1, n2⟩ := isH_cons g
        obtain ⟨pre, t, x1, x2, x3⟩ := snd_tail h ha (k := 1) (q := [n]) (.inr ⟨rfl, n, rfl, n2⟩) a2 e2
        exact ⟨pre, t, by rw [← x1]; exact n1, x2, x3⟩
      · exact snd_tail h ha (k := 0) (q := []) (.inl ⟨rfl, rfl⟩) a2 e2
theorem snd_pOr : ∀ n : Nat, Snd 1 (pOr n)
  | 0 => fun l r ns e => by cases e
  | n + 1 => by
    have ih := snd_pOr n
    have c1 := snd_one ih
    have c2 : Snd 7 (negF (pOr n)) := snd_pre (by omega) (by omega) (fun h1 h2 => .neg h1 h2) c1
    have c3 : Snd 6 (mulF (pOr n)) := snd_chainF (by decide) (by omega) (by omega) c2
    have c4 : Snd 5 (addF (pOr n)) := snd_chainF (by decide) (by omega) (by omega) c3
    have c5 := snd_ask ih c4
    have c6 : Snd 3 (notF (pOr n)) := snd_pre (by omega) (by omega) (fun h1 h2 => .not h1 h2) c5
    have c7 : Snd 2 (andF (pOr n)) := snd_chainF (by decide) (by omega) (by omega) c6
    exact snd_chainF (by decide) (by omega) (by omega) c7
end Go.Proofs.YtmcmagfondjopaaDoor.Pm
end
section
namespace Go.Proofs.YtmcmagfondjopaaDoor.Pm
open Go.RowKit K
set_option linter.unusedVariables false
set_option linter.unusedSimpArgs false
set_option maxRecDepth 100000
abbrev mk6 : List (List UInt8) := [[42], [47], [37]]
abbrev mk5 : List (List UInt8) := mk6 ++ [[43], [45]]
abbrev mk4 : List (List UInt8) := mk5 ++ ([[61], [60, 62], [60], [60, 61], [62], [62, 61]] ++ [wIs, wNot, wLike, wIn, wBetw])
abbrev mk2 : List (List UInt8) := mk4 ++ [wAnd]
abbrev mk1 : List (List UInt8) := mk2 ++ [wOr]
def marks : Nat → List (List UInt8)
  | 1 => mk1
  | 2 => mk2
  | 3 => mk4
  | 4 => mk4
  | 5 => mk5
  | 6 => mk6
  | _ => []
def Stp (k : Nat) (r : List TokenD) : Prop := ∀ s ∈ marks k, isH s r = false
theorem isM_iff {t : TokenD} {s : List UInt8} : isM t s = true ↔ (t.Kind = 1 ∨ t.Kind = 5) ∧ t.S = s := by unfold isM; exact decide_eq_true_iff
theorem isM_ne {t : TokenD} {a b : List UInt8} (h : isM t a = true) (hb : b ≠ a) : isM t b = false := by
  rw [isM_iff] at h
  unfold isM
  exact decide_eq_false fun x => hb (x.2.symm.trans h.2)
theorem st_of {k : Nat} {s : List UInt8} {x : TokenD} {r : List TokenD} (h : isM x s = true) (hd : ∀ m ∈ marks k, m ≠ s) : Stp k (x :: r) := fun m hm => isM_ne h (hd m hm)
theorem st_le {j k : Nat} {r : List TokenD} (h : Stp k r) (hs : ∀ m ∈ marks j, m ∈ marks k) : Stp j r := fun m hm => h m (hs m hm)
theorem opAt_no : ∀ {ops : List Int} {r : List TokenD}, (∀ o ∈ ops, isH (sgn o) r = false) → opAt ops r = none
  | [], _, _ => rfl
  | a :: os, r, h => by
    rw [opAt, if_neg (by rw [h a List.mem_cons_self]; decide)]
    exact opAt_no fun o ho => h o (List.mem_cons_of_mem _ ho)
theorem opAt_of : ∀ {ops : List Int} {r : List TokenD} {x : TokenD} {op : Int}, op ∈ ops → (∀ o ∈ ops, sgn o = sgn op → o = op) → isM x (sgn op) = true → opAt ops (x :: r) = some op
  | [], _, _, _, h, _, _ => absurd h (List.not_mem_nil)
  | a :: os, r, x, op, h, hu, hx => by
    rw [opAt]
    by_cases e : a = op
    · subst e
      rw [if_pos (show isH (sgn a) (x :: r) = true from hx)]
    · have : isH (sgn a) (x :: r) = false := isM_ne hx fun q => e (hu a List.mem_cons_self q)
      rw [if_neg (by rw [this]; decide)]
      rcases List.mem_cons.1 h with h | h
      · exact absurd h.symm e
      · exact opAt_of h (fun o ho => hu o (List.mem_cons_of_mem _ ho)) hx
def lvF (rec : List TokenD → PR) : Nat → List TokenD → PR
  | 1 => orF rec
  | 2 => andF rec
  | 3 => notF rec
  | 4 => askF rec
  | 5 => addF rec
  | 6 => mulF rec
  | 7 => negF rec
  | _ => oneF rec
theorem lvs_cases {k : Nat} {ops : List Int} (h : (k, ops) ∈ lvs) : (k = 1 ∧ ops = [17]) ∨ (k = 2 ∧ ops = [16]) ∨ (k = 5 ∧ ops = [5, 6]) ∨ (k = 6 ∧ ops = [7, 8, 9]) := by
  simp only [List.mem_cons, Prod.mk.injEq, List.not_mem_nil, or_false] at h
  exact h
theorem lvF_chain (rec : List TokenD → PR) {k : Nat} {ops : List Int} (h : (k, ops) ∈ lvs) : lvF rec k = chainF (lvF rec (k + 1)) ops := by
  rcases lvs_cases h with ⟨rfl, rfl⟩ | ⟨rfl, rfl⟩ | ⟨rfl, rfl⟩ | ⟨rfl, rfl⟩ <;> rfl
theorem lvs_marks : ∀ p ∈ lvs, ∀ op ∈ p.2, ∀ m ∈ marks (p.1 + 1), m ≠ sgn op := by decide +kernel
theorem lvs_in : ∀ p ∈ lvs, ∀ op ∈ p.2, sgn op ∈ marks p.1 := by decide +kernel
theorem lvs_sub : ∀ p ∈ lvs, ∀ m ∈ marks (p.1 + 1), m ∈ marks p.1 := by decide +kernel
theorem lvs_inj : ∀ p ∈ lvs, ∀ op ∈ p.2, ∀ o ∈ p.2, sgn o = sgn op → o = op := by decide +kernel
theorem cmp_inj : ∀ op ∈ cmpL, ∀ o ∈ cmpL, sgn o = sgn op → o = op := by decide +kernel
theorem cmp_marks : ∀ op ∈ cmpL, ∀ m ∈ marks 5, m ≠ sgn op := by decide +kernel
theorem cmp_in : ∀ op ∈ cmpL, sgn op ∈ marks 4 := by decide +kernel
theorem cmp_word : ∀ op ∈ cmpL, sgn op ≠ wIs ∧ sgn op ≠ wNot ∧ sgn op ≠ wLike ∧ sgn op ≠ wIn ∧ sgn op ≠ wBetw := by decide +kernel
theorem fit_lv (n : Nat) : ∀ (k : Nat) (l : List TokenD), fit 1 l (lvF (pOr n) k l) := by
  have h := fit_pOr n
  intro k
  match k with
  | 0 => exact fit_one h
  | 1 => exact fit_orF h
  | 2 => exact fit_and h
  | 3 => exact fit_not h
  | 4 => exact fit_ask h (fit_add h)
  | 5 => exact fit_add h
  | 6 => exact fit_mul h
  | 7 => exact fit_neg h
  | k + 8 => exact fit_one h
def chK (one : List TokenD → PR) (ops : List Int) (t : List NodeD) (r : List TokenD) : PR :=
  match chainR one ops (r.length + 1) r with
  | none => none
  | some (r2, ms) => some (r2, t ++ ms)
def Rds (k : Nat) (l : List TokenD) (t : Ex) : Prop := ∀ n, l.length ≤ n → (∀ r, Stp k r → lvF (pOr n) k (l ++ r) = some (r, t.flat)) ∧
  (∀ ops, (k, ops) ∈ lvs → ∀ r, Stp (k + 1) r → lvF (pOr n) k (l ++ r) = chK (lvF (pOr n) (k + 1)) ops t.flat r)
theorem rds_chain {k : Nat} {ops : List Int} {l : List TokenD} {t : Ex} (hk : (k, ops) ∈ lvs) (h : ∀ n, l.length ≤ n → ∀ r, Stp (k + 1) r → lvF (pOr n) k (l ++ r) = chK (lvF (pOr n) (k + 1)) ops t.flat r) : Rds k l t := by
  intro n hn
  refine ⟨fun r hr => ?_, fun ops' hk' r hr => ?_⟩
  · rw [h n hn r (st_le hr (lvs_sub _ hk))]
    have ho : opAt ops r = none := opAt_no fun o ho => hr _ (lvs_in _ hk o ho)
    unfold chK
    rw [chainR, ho]
    simp only [List.append_nil]
  · have : ops' = ops := by
      rcases lvs_cases hk with ⟨rfl, rfl⟩ | ⟨rfl, rfl⟩ | ⟨rfl, rfl⟩ | ⟨rfl, rfl⟩ <;> (rcases lvs_cases hk' with ⟨h1, h2⟩ | ⟨h1, h2⟩ | ⟨h1, h2⟩ | ⟨h1, h2⟩ <;> first | exact h2 | (exact absurd h1 (by decide)))
    subst this
    exact h n hn r hr
theorem rds_flat {k : Nat} {l : List TokenD} {t : Ex} (hk : ∀ ops, (k, ops) ∉ lvs) (h : ∀ n, l.length ≤ n → ∀ r, Stp k r → lvF (pOr n) k (l ++ r) = some (r, t.flat)) : Rds k l t :=
  fun n hn => ⟨h n hn, fun ops ho => absurd ho (hk ops)⟩
theorem no_lv {k : Nat} (h : k ≠ 1 ∧ k ≠ 2 ∧ k ≠ 5 ∧ k ≠ 6) : ∀ ops, (k, ops) ∉ lvs := by
  intro ops ho
  rcases lvs_cases ho with ⟨rfl, _⟩ | ⟨rfl, _⟩ | ⟨rfl, _⟩ | ⟨rfl, _⟩ <;> omega
theorem name_not {l : List UInt8} (h : nameB l = true) (hr : resB l = true) : False := by
  unfold nameB at h
  rw [hr] at h
  simp at h
theorem lit_head {t : TokenD} {n : NodeD} (h : litF t = some n) : isM t wNot = false ∧ isM t sMi = false := by
  unfold litF at h
  have two : ∀ s : List UInt8, s ≠ wNull → resB s = true ∨ wordB s = false → isM t s = false := by
    intro s hs hr
    cases e : isM t s with
    | false => rfl
    | true =>
      obtain ⟨e1, e2⟩ := isM_iff.1 e
      rw [if_neg (by omega), if_neg (by omega), if_neg (by omega), if_neg (by rw [isM_ne e (fun q => hs q.symm)]; decide)] at h
      split at h
      · rename_i g
        rw [e2] at g
        rcases hr with hr | hr
        · exact (name_not g.2 hr).elim
        · have := g.2; unfold nameB at this; rw [hr] at this; simp at this
      · cases h
  exact ⟨two wNot (by decide) (.inl (by decide +kernel)), two sMi (by decide) (.inr (by decide +kernel))⟩
theorem rd_head {k : Nat} {l : List TokenD} {t : Ex} (h : RD k l t) : ∃ x l', l = x :: l' ∧ (4 ≤ k → isM x wNot = false) ∧ (8 ≤ k → isM x sMi = false) := by
  induction h with
  | @lit t n h1 h2 => exact ⟨t, [], rfl, fun _ => (lit_head h2).1, fun _ => (lit_head h2).2⟩
  | @par o c l t h1 h2 h ih => exact ⟨o, _, rfl, fun _ => isM_ne h1 (by decide), fun _ => isM_ne h1 (by decide)⟩
  | up h1 h8 h ih => obtain ⟨x, l', e, a, b⟩ := ih; exact ⟨x, l', e, fun q => a (by omega), fun q => b (by omega)⟩
  | neg h1 h ih => exact ⟨_, _, rfl, fun _ => isM_ne h1 (by decide), fun q => absurd q (by decide)⟩
  | not h1 h ih => exact ⟨_, _, rfl, fun q => absurd q (by decide), fun q => absurd q (by decide)⟩
  | bin hk ho h1 ha hb iha ihb =>
    obtain ⟨x, l', e, a, b⟩ := iha
    subst e
    exact ⟨x, _, rfl, a, b⟩
  | cmp ho h1 ha hb iha ihb => obtain ⟨x, l', e, a, b⟩ := iha; subst e; exact ⟨x, _, rfl, fun q => a (by decide), fun q => absurd q (by decide)⟩
  | isn h1 h2 ha iha => obtain ⟨x, l', e, a, b⟩ := iha; subst e; exact ⟨x, _, rfl, fun q => a (by decide), fun q => absurd q (by decide)⟩
  | isnn h1 h2 h3 ha iha => obtain ⟨x, l', e, a, b⟩ := iha; subst e; exact ⟨x, _, rfl, fun q => a (by decide), fun q => absurd q (by decide)⟩
  | like hq h1 ha hb iha ihb => obtain ⟨x, l', e, a, b⟩ := iha; subst e; exact ⟨x, _, rfl, fun q => a (by decide), fun q => absurd q (by decide)⟩
  | betw hq h1 h2 ha hb hc iha ihb ihc => obtain ⟨x, l', e, a, b⟩ := iha; subst e; exact ⟨x, _, rfl, fun q => a (by decide), fun q => absurd q (by decide)⟩
  | isin hq h1 h2 h3 h4 ha hp iha ihp => obtain ⟨x, l', e, a, b⟩ := iha; subst e; exact ⟨x, _, rfl, fun q => a (by decide), fun q => absurd q (by decide)⟩
theorem preF_cons {one : List TokenD → PR} {s : List UInt8} {op : Int} {o : TokenD} {x r : List TokenD} {ns : List NodeD} (ho : isM o s = true) (h : preF s op one x = some (r, ns)) : preF s op one (o :: x) = some (r, ns ++ [nOp op 1]) := by
  unfold preF at h ⊢
  have e : heads s (o :: x) = heads s x + 1 := by rw [heads, if_pos ho]
  rw [e, List.drop_succ_cons]
  cases e1 : one (x.drop (heads s x)) with
  | none => rw [e1] at h; cases h
  | some y =>
    obtain ⟨r1, n1⟩ := y
    rw [e1] at h
    dsimp only at h ⊢
    cases h
    rw [List.replicate_succ', List.append_assoc]
theorem preF_zero {one : List TokenD → PR} {s : List UInt8} {op : Int} {x : TokenD} {l r : List TokenD} {ns : List NodeD} (hx : isM x s = false) (h : one (x :: l) = some (r, ns)) : preF s op one (x :: l) = some (r, ns) := by
  unfold preF
  have e : heads s (x :: l) = 0 := by rw [heads, if_neg (by rw [hx]; decide)]
  rw [e, List.drop_zero, h]
  simp only [List.replicate_zero, List.append_nil]
theorem ask_of {rec : List TokenD → PR} {l x r : List TokenD} {a ns : List NodeD} (h1 : addF rec (l ++ x) = some (x, a)) (h2 : moreF rec x = some (r, ns)) : askF rec (l ++ x) = some (r, a ++ ns) := by
  unfold askF
  rw [h1]
  dsimp only
  rw [h2]
theorem more_none {rec : List TokenD → PR} {r : List TokenD} (h : Stp 4 r) : moreF rec r = some (r, []) := by
  unfold moreF
  rw [opAt_no fun o ho => h _ (cmp_in o ho)]
  dsimp only
  rw [if_neg (by rw [h wIs (by decide)]; decide), if_neg (by rw [h wNot (by decide)]; decide)]
  unfold tailF
  rw [if_neg (by rw [h wLike (by decide)]; decide), if_neg (by rw [h wIn (by decide)]; decide), if_neg (by rw [h wBetw (by decide)]; decide), if_neg (by decide)]
theorem more_tail {rec : List TokenD → PR} {k : Nat} {q : List TokenD} {o : TokenD} {s : List UInt8} {x r : List TokenD} {ns : List NodeD} (hq : NotQ k q) (ho : isM o s = true) (hs : s = wLike ∨ s = wIn ∨ s = wBetw) (h : tailF rec k (o :: x) = some (r, ns)) : moreF rec (q ++ o :: x) = some (r, ns) := by
  unfold moreF
  rcases hq with ⟨rfl, rfl⟩ | ⟨rfl, t, rfl, ht⟩
  · have e : opAt cmpL (o :: x) = none := opAt_no fun p hp => isM_ne ho (by obtain ⟨_, _, a, b, c⟩ := cmp_word p hp; rcases hs with rfl | rfl | rfl <;> assumption)
    rw [List.nil_append, e]
    dsimp only
    rw [if_neg (show ¬ isH wIs (o :: x) = true by rw [show isH wIs (o :: x) = false from isM_ne ho (by rcases hs with rfl | rfl | rfl <;> decide)]; decide), if_neg (show ¬ isH wNot (o :: x) = true by rw [show isH wNot (o :: x) = false from isM_ne ho (by rcases hs with rfl | rfl | rfl <;> decide)]; decide)]
    exact h
  · have e : opAt cmpL (t :: o :: x) = none := opAt_no fun p hp => isM_ne ht (cmp_word p hp).2.1
    rw [List.singleton_append, e]
    dsimp only
    rw [if_neg (show ¬ isH wIs (t :: o :: x) = true by rw [show isH wIs (t :: o :: x) = false from isM_ne ht (by decide)]; decide), if_pos (show isH wNot (t :: o :: x) = true from ht)]
    exact h
theorem notq_st {k : Nat} {q : List TokenD} {o : TokenD} {s : List UInt8} {x : List TokenD} (hq : NotQ k q) (ho : isM o s = true) (hs : s = wLike ∨ s = wIn ∨ s = wBetw) : Stp 5 (q ++ o :: x) := by
  rcases hq with ⟨rfl, rfl⟩ | ⟨rfl, t, rfl, ht⟩
  · exact st_of ho (by rcases hs with rfl | rfl | rfl <;> decide)
  · exact st_of ht (by decide)
theorem list_of {rec : List TokenD → PR} (hf : ∀ l, fit 1 l (rec l)) : ∀ (ps : List Pc) (n : Nat) (r : List TokenD), (∀ p ∈ ps, isM p.1 sCo = true) → (∀ p ∈ ps, ∀ r, Stp 1 r → rec (p.2.1 ++ r) = some (r, p.2.2.flat)) → isH sRp r = true → Stp 1 r → isH sCo r = false → (pcsT ps ++ r).length < n → listR rec n (pcsT ps ++ r) = some (r, Ex.flats (ps.map fun p => p.2.2), ps.length)
  | [], 0, r, _, _, _, _, _, hn => absurd hn (Nat.not_lt_zero _)
  | [], n + 1, r, _, _, _, _, hc, hn => by
    show listR rec (n + 1) r = _
    rw [listR, if_neg (by rw [hc]; decide), List.map_nil, Ex.flats]
    rfl
  | p :: ps, 0, r, _, _, _, _, _, hn => absurd hn (Nat.not_lt_zero _)
  | p :: ps, n + 1, r, h1, h2, h3, h4, h5, hn => by
    have hx : pcsT (p :: ps) ++ r = p.1 :: (p.2.1 ++ (pcsT ps ++ r)) := by
      show (p.1 :: p.2.1 ++ pcsT ps) ++ r = _
      rw [List.cons_append, List.cons_append, List.append_assoc]
    rw [hx] at hn ⊢
    rw [List.length_cons, List.length_append] at hn
    rw [listR, if_pos (show isH sCo (p.1 :: _) = true from h1 p List.mem_cons_self)]
    have hst : Stp 1 (pcsT ps ++ r) := by
      cases ps with
      | nil => exact h4
      | cons p' ps => exact st_of (h1 p' (List.mem_cons_of_mem _ List.mem_cons_self)) (by decide)
    rw [List.drop_succ_cons, List.drop_zero, h2 p List.mem_cons_self _ hst]
    dsimp only
    rw [list_of hf ps n r (fun x hx => h1 x (List.mem_cons_of_mem _ hx)) (fun x hx => h2 x (List.mem_cons_of_mem _ hx)) h3 h4 h5 (by omega)]
    rfl
theorem rd_reads {k : Nat} {l : List TokenD} {t : Ex} (h : RD k l t) : Rds k l t := by
  induction h with
  | @lit t n h1 h2 =>
    refine rds_flat (no_lv (by omega)) fun m hm r hr => ?_
    show oneF (pOr m) (t :: r) = _
    rw [oneF, if_neg (by rw [h1]; decide), h2, Ex.flat, Ex.flats]
    rfl
  | @par o c l t h1 h2 h ih =>
    refine rds_flat (no_lv (by omega)) fun m hm r hr => ?_
    rw [List.length_cons, List.length_append, List.length_singleton] at hm
    obtain ⟨m, rfl⟩ : ∃ m', m = m' + 1 := ⟨m - 1, by omega⟩
    have e : (o :: (l ++ [c])) ++ r = o :: (l ++ c :: r) := by simp
    rw [e]
    show oneF (pOr (m + 1)) (o :: (l ++ c :: r)) = _
    have := (ih m (by omega)).1 (c :: r) (st_of h2 (by decide))
    have : pOr (m + 1) (l ++ c :: r) = some (c :: r, t.flat) := this
    rw [oneF, if_pos h1, this]
    dsimp only
    rw [if_pos (show isH sRp (c :: r) = true from h2)]
    rfl
  | @up k l t h1 h8 h ih =>
    by_cases hc : k = 1 ∨ k = 2 ∨ k = 5 ∨ k = 6
    · obtain ⟨ops, hk⟩ : ∃ ops, (k, ops) ∈ lvs := by
        rcases hc with rfl | rfl | rfl | rfl
        · exact ⟨[17], by decide⟩
        · exact ⟨[16], by decide⟩
        · exact ⟨[5, 6], by decide⟩
        · exact ⟨[7, 8, 9], by decide⟩
      refine rds_chain hk fun n hn r hr => ?_
      rw [lvF_chain _ hk]
      unfold chainF
      rw [(ih n hn).1 r hr]
      rfl
    · obtain ⟨x, l', e, n1, n2⟩ := rd_head h
      refine rds_flat (no_lv (by omega)) fun n hn r hr => ?_
      have hk : k = 3 ∨ k = 4 ∨ k = 7 := by omega
      rcases hk with rfl | rfl | rfl
      · have := (ih n hn).1 r hr
        subst e
        exact preF_zero (n1 (by omega)) this
      · have := (ih n hn).1 r (st_le hr (by decide))
        have := ask_of this (more_none hr)
        rw [List.append_nil] at this
        exact this
      · have := (ih n hn).1 r (st_le hr (by decide))
        subst e
        exact preF_zero (n2 (by omega)) this
  | @neg o l t h1 h ih =>
    refine rds_flat (no_lv (by omega)) fun n hn r hr => ?_
    rw [List.length_cons] at hn
    rw [flat_mk, Ex.flats_one]
    exact preF_cons h1 ((ih n (by omega)).1 r hr)
  | @not o l t h1 h ih =>
    refine rds_flat (no_lv (by omega)) fun n hn r hr => ?_
    rw [List.length_cons] at hn
    rw [flat_mk, Ex.flats_one]
    exact preF_cons h1 ((ih n (by omega)).1 r hr)
  | @bin k ops op o l m a b hk ho h1 ha hb iha ihb =>
    refine rds_chain hk fun n hn r hr => ?_
    rw [List.length_append, List.length_cons] at hn
    rw [List.append_assoc, List.cons_append, (iha n (by omega)).2 ops hk (o :: (m ++ r)) (st_of h1 (lvs_marks _ hk op ho))]
    have eo : opAt ops (o :: (m ++ r)) = some op := opAt_of ho (lvs_inj _ hk op ho) h1
    have eb := (ihb n (by omega)).1 r hr
    unfold chK
    rw [chainR, eo]
    dsimp only
    rw [List.drop_succ_cons, List.drop_zero, eb]
    dsimp only
    rw [chainR_fuel (fit_lv n (k + 1)) _ (r.length + 1) r (by rw [List.length_cons, List.length_append]; omega) (by omega)]
    cases chainR (lvF (pOr n) (k + 1)) ops (r.length + 1) r with
    | none => rfl
    | some y =>
      dsimp only
      rw [flat_mk, flats_two]
      simp only [List.append_assoc, List.cons_append, List.nil_append]
  | @cmp op o l m a b ho h1 ha hb iha ihb =>
    refine rds_flat (no_lv (by omega)) fun n hn r hr => ?_
    rw [List.length_append, List.length_cons] at hn
    have ea := (iha n (by omega)).1 (o :: (m ++ r)) (st_of h1 (cmp_marks op ho))
    have eb := (ihb n (by omega)).1 r (st_le hr (by decide))
    have eb : addF (pOr n) (m ++ r) = some (r, b.flat) := eb
    rw [List.append_assoc, List.cons_append]
    rw [flat_mk, flats_two, List.append_assoc]
    refine ask_of ea ?_
    unfold moreF
    rw [show opAt [10, 11, 12, 13, 14, 15] (o :: (m ++ r)) = some op from opAt_of ho (cmp_inj op ho) h1]
    dsimp only
    rw [List.drop_succ_cons, List.drop_zero, eb]
  | @isn i u l a h1 h2 ha iha =>
    refine rds_flat (no_lv (by omega)) fun n hn r hr => ?_
    rw [List.length_append] at hn
    have ea := (iha n (by omega)).1 (i :: u :: r) (st_of h1 (by decide))
    rw [List.append_assoc, show [i, u] ++ r = i :: u :: r from rfl]
    rw [flat_mk, Ex.flats_one]
    refine ask_of ea ?_
    unfold moreF
    rw [show opAt [10, 11, 12, 13, 14, 15] (i :: u :: r) = none from opAt_no fun p hp => isM_ne h1 (cmp_word p hp).1]
    dsimp only
    rw [if_pos (show isH wIs (i :: u :: r) = true from h1), List.drop_succ_cons, List.drop_zero]
    unfold isF
    rw [if_neg (show ¬ isH wNot (u :: r) = true by rw [show isH wNot (u :: r) = false from isM_ne h2 (by decide)]; decide), if_pos (show isH wNull (u :: r) = true from h2)]
    rfl
  | @isnn i q u l a h1 h2 h3 ha iha =>
    refine rds_flat (no_lv (by omega)) fun n hn r hr => ?_
    rw [List.length_append] at hn
    have ea := (iha n (by omega)).1 (i :: q :: u :: r) (st_of h1 (by decide))
    rw [List.append_assoc, show [i, q, u] ++ r = i :: q :: u :: r from rfl]
    rw [flat_mk, Ex.flats_one]
    refine ask_of ea ?_
    unfold moreF
    rw [show opAt [10, 11, 12, 13, 14, 15] (i :: q :: u :: r) = none from opAt_no fun p hp => isM_ne h1 (cmp_word p hp).1]
    dsimp only
    rw [if_pos (show isH wIs (i :: q :: u :: r) = true from h1), List.drop_succ_cons, List.drop_zero]
    unfold isF
    rw [if_pos (show isH wNot (q :: u :: r) = true from h2), List.drop_succ_cons, List.drop_zero, if_pos (show isH wNull (u :: r) = true from h3)]
    rfl
  | @like k q o l m a b hq h1 ha hb iha ihb =>
    refine rds_flat (no_lv (by omega)) fun n hn r hr => ?_
    simp only [List.length_append, List.length_cons] at hn
    have e : (l ++ (q ++ o :: m)) ++ r = l ++ (q ++ o :: (m ++ r)) := by simp
    rw [e]
    have ea := (iha n (by omega)).1 (q ++ o :: (m ++ r)) (notq_st hq h1 (.inl rfl))
    have eb : addF (pOr n) (m ++ r) = some (r, b.flat) := (ihb n (by omega)).1 r (st_le hr (by decide))
    rw [flat_mk, flats_two, List.append_assoc]
    refine ask_of ea (more_tail hq h1 (.inl rfl) ?_)
    unfold tailF
    rw [if_pos (show isH wLike (o :: (m ++ r)) = true from h1), List.drop_succ_cons, List.drop_zero, eb]
  | @betw k q o d l m p a b c hq h1 h2 ha hb hc iha ihb ihc =>
    refine rds_flat (no_lv (by omega)) fun n hn r hr => ?_
    simp only [List.length_append, List.length_cons] at hn
    have e : (l ++ (q ++ o :: (m ++ d :: p))) ++ r = l ++ (q ++ o :: (m ++ d :: (p ++ r))) := by simp
    rw [e]
    have ea := (iha n (by omega)).1 (q ++ o :: (m ++ d :: (p ++ r))) (notq_st hq h1 (.inr (.inr rfl)))
    have eb : addF (pOr n) (m ++ d :: (p ++ r)) = some (d :: (p ++ r), b.flat) := (ihb n (by omega)).1 _ (st_of h2 (by decide))
    have ec : addF (pOr n) (p ++ r) = some (r, c.flat) := (ihc n (by omega)).1 r (st_le hr (by decide))
    rw [flat_mk, Ex.flats, flats_two, List.append_assoc]
    refine ask_of ea (more_tail hq h1 (.inr (.inr rfl)) ?_)
    unfold tailF
    rw [if_neg (show ¬ isH wLike (o :: (m ++ d :: (p ++ r))) = true by rw [show isH wLike (o :: (m ++ d :: (p ++ r))) = false from isM_ne h1 (by decide)]; decide), if_neg (show ¬ isH wIn (o :: (m ++ d :: (p ++ r))) = true by rw [show isH wIn (o :: (m ++ d :: (p ++ r))) = false from isM_ne h1 (by decide)]; decide), if_pos (show isH wBetw (o :: (m ++ d :: (p ++ r))) = true from h1), List.drop_succ_cons, List.drop_zero]
    unfold twoF
    rw [eb]
    dsimp only
    rw [if_pos (show isH wAnd (d :: (p ++ r)) = true from h2), List.drop_succ_cons, List.drop_zero, ec]
  | @isin k q o c l a p0 ps hq h1 h2 h3 h4 ha hp iha ihp =>
    refine rds_flat (no_lv (by omega)) fun n hn r hr => ?_
    have hpt : pcsT (p0 :: ps) = p0.1 :: (p0.2.1 ++ pcsT ps) := rfl
    rw [hpt] at hn ⊢
    simp only [List.length_append, List.length_cons, List.length_nil] at hn
    have e : (l ++ (q ++ o :: ((p0.1 :: (p0.2.1 ++ pcsT ps)) ++ [c]))) ++ r = l ++ (q ++ o :: (p0.1 :: (p0.2.1 ++ (pcsT ps ++ c :: r)))) := by simp
    rw [e]
    have ea := (iha n (by omega)).1 (q ++ o :: (p0.1 :: (p0.2.1 ++ (pcsT ps ++ c :: r)))) (notq_st hq h1 (.inr (.inl rfl)))
    obtain ⟨m, rfl⟩ : ∃ m, n = m + 1 := ⟨n - 1, by omega⟩
    have hlen : ∀ p ∈ ps, p.2.1.length ≤ (pcsT ps).length := by
      intro p hp
      unfold pcsT
      obtain ⟨s, t, rfl⟩ := List.append_of_mem hp
      rw [List.flatMap_append, List.flatMap_cons, List.length_append, List.length_append, List.length_cons]
      omega
    have hc : Stp 1 (c :: r) := st_of h4 (by decide)
    have hst : Stp 1 (pcsT ps ++ c :: r) := by
      cases ps with
      | nil => exact hc
      | cons p' ps => exact st_of (h3 p' List.mem_cons_self) (by decide)
    have e0 : pOr (m + 1) (p0.2.1 ++ (pcsT ps ++ c :: r)) = some (pcsT ps ++ c :: r, p0.2.2.flat) := (ihp p0 List.mem_cons_self m (by omega)).1 _ hst
    have eL := list_of (fit_pOr (m + 1)) ps ((pcsT ps ++ c :: r).length + 1) (c :: r) h3 (fun p hp r hr => by
      have := hlen p hp
      exact (ihp p (List.mem_cons_of_mem _ hp) m (by omega)).1 r hr) h4 hc (isM_ne h4 (by decide)) (Nat.lt_succ_self _)
    rw [flat_mk, Ex.flats, List.append_assoc]
    refine ask_of ea (more_tail hq h1 (.inr (.inl rfl)) ?_)
    unfold tailF
    rw [if_neg (show ¬ isH wLike (o :: (p0.1 :: (p0.2.1 ++ (pcsT ps ++ c :: r)))) = true by rw [show isH wLike (o :: (p0.1 :: (p0.2.1 ++ (pcsT ps ++ c :: r)))) = false from isM_ne h1 (by decide)]; decide), if_pos (show isH wIn (o :: (p0.1 :: (p0.2.1 ++ (pcsT ps ++ c :: r)))) = true from h1), List.drop_succ_cons, List.drop_zero]
    unfold listF
    rw [if_pos (show isH sLp (p0.1 :: (p0.2.1 ++ (pcsT ps ++ c :: r))) = true from h2), List.drop_succ_cons, List.drop_zero, e0]
    dsimp only
    rw [eL]
    dsimp only
    rw [if_pos (show isH sRp (c :: r) = true from h4)]
    dsimp only
    rw [List.map_cons, Ex.flats, show ((ps.length + 1 : Nat) : Int) + 1 = (ps.length : Int) + 2 by omega]
    rfl
theorem rd_pOr {l : List TokenD} {t : Ex} (h : RD 1 l t) : pOr (l.length + 1) l = some ([], t.flat) := by
  have := (rd_reads h l.length (Nat.le_refl _)).1 [] (fun s _ => rfl)
  rw [List.append_nil] at this
  exact this
end Go.Proofs.YtmcmagfondjopaaDoor.Pm
end
section
namespace Go.Proofs.YtmcmagfondjopaaDoor.Pm
open Go.RowKit K
set_option linter.unusedVariables false
set_option linter.unusedSimpArgs false
set_option maxRecDepth 100000
theorem markT_is (s : List UInt8) : isM (markT s) s = true := by
  rw [isM_iff]
  unfold markT
  split <;> exact ⟨by simp, rfl⟩
theorem rd_up {j k : Nat} {l : List TokenD} {t : Ex} (h : RD j l t) (hk : 1 ≤ k) (hj : k ≤ j) (h8 : j ≤ 8) : RD k l t := by
  obtain ⟨d, rfl⟩ : ∃ d, j = k + d := ⟨j - k, by omega⟩
  induction d with
  | zero => exact h
  | succ d ih => exact ih (.up (by omega) (by omega) h) (by omega) (by omega)
theorem rd_at {l : List TokenD} {t : Ex} {L k : Int} (h : RD L.toNat l t) (hL : 1 ≤ L ∧ L ≤ 8) (hk : 1 ≤ k ∧ k ≤ 8) : RD k.toNat (atF (l, L) k) t := by
  unfold atF
  dsimp only
  split
  · exact rd_up h (by omega) (by omega) (by omega)
  · exact rd_up (.par (markT_is sLp) (markT_is sRp) (rd_up h (Nat.le_refl _) (by omega) (by omega))) (by omega) (by omega) (by omega)
theorem lvlF_in (op : Int) : 1 ≤ lvlF op ∧ lvlF op ≤ 8 := by
  unfold lvlF
  split
  · omega
  split
  · omega
  split
  · omega
  split
  · omega
  split
  · omega
  split
  · omega
  split <;> omega
theorem alF_shape {n : NodeD} (h : alF n = 0) : (n.Op ≠ 1 → n.V = noV) ∧ (n.Op ≠ 2 → n.Name = []) ∧ (n.Op = 1 → vChk n.V = 0 ∧ 0 ≤ n.V.N) ∧ (n.Op = 2 → nameB n.Name = true) := by
  unfold alF at h
  split at h
  · cases h
  split at h
  · cases h
  rename_i g
  have g3 : ¬ (n.Op ≠ 1 ∧ ValueD.eqB n.V noV = false) := fun q => g (.inr (.inr (.inl q)))
  have g4 : ¬ (n.Op ≠ 2 ∧ n.Name ≠ []) := fun q => g (.inr (.inr (.inr q)))
  refine ⟨fun q => ?_, fun q => Classical.byContradiction fun x => g4 ⟨q, x⟩, fun q => ?_, fun q => ?_⟩
  · have : ValueD.eqB n.V noV = true := by
      cases e : ValueD.eqB n.V noV with
      | true => rfl
      | false => exact absurd ⟨q, e⟩ g3
    exact (ValueD.eqB_iff _ _).1 this
  · rw [if_pos q] at h
    split at h
    · rename_i g; exact absurd h g
    · rename_i g5
      split at h
      · cases h
      · exact ⟨Classical.not_not.1 g5, by omega⟩
  · rw [if_neg (by omega)] at h
    split at h
    · cases h
    · rename_i g5
      cases e : nameB n.Name with
      | true => rfl
      | false => exact absurd ⟨q, e⟩ g5
theorem node_op {n : NodeD} (h : alF n = 0) (h1 : n.Op ≠ 1) (h2 : n.Op ≠ 2) : n = nOp n.Op n.Kids := by
  obtain ⟨a, b, _, _⟩ := alF_shape h
  obtain ⟨op, kids, v, nm⟩ := n
  have hv : v = noV := a h1
  have hn : nm = [] := b h2
  subst hv hn
  rfl
theorem null_mark : litF (markT wNull) = some ⟨1, 0, noV, []⟩ ∧ isM (markT wNull) sLp = false := by
  refine ⟨?_, isM_ne (markT_is wNull) (by decide)⟩
  have hm := markT_is wNull
  have hk := (isM_iff.1 hm).1
  unfold litF
  rw [if_neg (by omega), if_neg (by omega), if_neg (by omega), if_pos hm]
theorem lit_back {n : NodeD} (h : alF n = 0) (h1 : n.Op = 1) : litF (litT n.V) = some n ∧ isM (litT n.V) sLp = false := by
  obtain ⟨_, b, c, _⟩ := alF_shape h
  obtain ⟨k1, k2, k3, k4, _⟩ := alF_kids h
  obtain ⟨op, kids, ⟨vk, vn, vs⟩, nm⟩ := n
  have h1 : op = 1 := h1
  subst h1
  have hn : nm = [] := b (by simp)
  have hk0 : kids = 0 := by
    have : leastK 1 = 0 := rfl
    have : mostK 1 = 0 := rfl
    have k3 : leastK 1 ≤ kids := k3
    have k4 : kids ≤ mostK 1 := k4
    omega
  subst hn hk0
  obtain ⟨c1, c2⟩ := c rfl
  have c2 : 0 ≤ vn := c2
  unfold vChk at c1
  dsimp only at c1
  split at c1
  · cases c1
  rename_i g1
  split at c1
  · cases c1
  rename_i g2
  have g1 : ¬ (vk < 0 ∨ 3 < vk) := g1
  have hk : vk = 0 ∨ vk = 1 ∨ vk = 2 ∨ vk = 3 := by omega
  rcases hk with rfl | rfl | rfl | rfl
  · have e1 : vn = 0 := Classical.byContradiction fun x => g2 (.inl ⟨by decide, x⟩)
    have e2 : vs.length = 0 := Classical.byContradiction fun x => g2 (.inr ⟨by decide, x⟩)
    have e2 : vs = [] := List.eq_nil_of_length_eq_zero e2
    subst e1 e2
    exact null_mark
  · have e2 : vs.length = 0 := Classical.byContradiction fun x => g2 (.inr ⟨by decide, x⟩)
    have e2 : vs = [] := List.eq_nil_of_length_eq_zero e2
    subst e2
    exact ⟨rfl, by unfold isM; exact decide_eq_false fun x => by have := x.1; simp [litT] at this⟩
  · have e1 : vn = 0 := Classical.byContradiction fun x => g2 (.inl ⟨by decide, x⟩)
    subst e1
    exact ⟨rfl, by unfold isM; exact decide_eq_false fun x => by have := x.1; simp [litT] at this⟩
  · have e1 : vn = 0 := Classical.byContradiction fun x => g2 (.inl ⟨by decide, x⟩)
    subst e1
    exact ⟨rfl, by unfold isM; exact decide_eq_false fun x => by have := x.1; simp [litT] at this⟩
theorem name_back {n : NodeD} (h : alF n = 0) (h2 : n.Op = 2) : litF (markT n.Name) = some n ∧ isM (markT n.Name) sLp = false := by
  obtain ⟨a, _, _, d⟩ := alF_shape h
  obtain ⟨k1, k2, k3, k4, _⟩ := alF_kids h
  obtain ⟨op, kids, v, nm⟩ := n
  have h2 : op = 2 := h2
  subst h2
  have hv : v = noV := a (by simp)
  have hk0 : kids = 0 := by
    have : leastK 2 = 0 := rfl
    have : mostK 2 = 0 := rfl
    have k3 : leastK 2 ≤ kids := k3
    have k4 : kids ≤ mostK 2 := k4
    omega
  subst hv hk0
  have hn : nameB nm = true := d rfl
  have hw : wordB nm = true := by unfold nameB at hn; rw [Bool.and_eq_true] at hn; exact hn.1
  have e : markT nm = ⟨1, 0, 0, nm⟩ := by unfold markT; rw [if_pos hw]
  have hno : ∀ s, nameB s = false → isM (markT nm) s = false := fun s hs => isM_ne (markT_is nm) fun q => by rw [q, hn] at hs; cases hs
  refine ⟨?_, hno _ (by decide +kernel)⟩
  have hnull := hno wNull (by decide +kernel)
  rw [e] at hnull ⊢
  unfold litF
  rw [if_neg (by simp), if_neg (by simp), if_neg (by simp), if_neg (by rw [hnull]; decide), if_pos ⟨rfl, hn⟩]
end Go.Proofs.YtmcmagfondjopaaDoor.Pm
end
section
namespace Go.Proofs.YtmcmagfondjopaaDoor.Pm
open Go.RowKit K
set_option linter.unusedVariables false
set_option linter.unusedSimpArgs false
set_option maxRecDepth 100000
theorem notT_q (op : Int) (k : Nat) (h : (k = 1 ∧ (op = 19 ∨ op = 21 ∨ op = 23 ∨ op = 25)) ∨ (k = 0 ∧ ¬ (op = 19 ∨ op = 21 ∨ op = 23 ∨ op = 25))) : NotQ k (notT op) := by
  unfold notT
  rcases h with ⟨rfl, h⟩ | ⟨rfl, h⟩
  · rw [if_pos h]; exact .inr ⟨rfl, _, rfl, markT_is wNot⟩
  · rw [if_neg h]; exact .inl ⟨rfl, rfl⟩
def OkX (t : Ex) : Prop := RD (lvlF t.root.Op).toNat (prtX t).1 t ∧ (prtX t).2 = lvlF t.root.Op
theorem okx_at {t : Ex} (h : OkX t) {k : Int} (hk : 1 ≤ k ∧ k ≤ 8) : RD k.toNat (atF (prtX t) k) t := by
  have := rd_at (k := k) h.1 (lvlF_in _) hk
  rw [← h.2] at this
  exact this
theorem okx_1 {t : Ex} (h : OkX t) : RD 1 (prtX t).1 t := by
  have := lvlF_in t.root.Op
  exact rd_up h.1 (by omega) (by omega) (by omega)
theorem prtXs_map : ∀ l : List Ex, prtXs l = l.map prtX
  | [] => by rw [prtXs, List.map_nil]
  | t :: l => by rw [prtXs, List.map_cons, prtXs_map l]
theorem comT_pcs : ∀ ks : List Ex, comT (ks.map prtX) = pcsT (ks.map fun t => (markT sCo, (prtX t).1, t))
  | [] => rfl
  | t :: ks => by
    show markT sCo :: (prtX t).1 ++ comT (ks.map prtX) = (markT sCo :: (prtX t).1) ++ pcsT (ks.map fun t => (markT sCo, (prtX t).1, t))
    rw [comT_pcs ks]
theorem okx_node {n : NodeD} {ks : List Ex} (hk : opKids n ks.length) (ha : alF n = 0) (hkk : n.Kids = (ks.length : Int)) (h : ∀ t ∈ ks, OkX t) : OkX (.mk n ks) := by
  refine ⟨?_, by rw [prtX]; rfl⟩
  rw [prtX, prtXs_map]
  show RD (lvlF n.Op).toNat (tokN n (ks.map prtX)) (.mk n ks)
  unfold tokN
  by_cases h1 : n.Op = 1
  · obtain ⟨a, b⟩ := lit_back ha h1
    have e : ks = [] := List.eq_nil_of_length_eq_zero (by unfold opKids at hk; omega)
    subst e
    rw [if_pos h1, h1]
    exact .lit b a
  by_cases h2 : n.Op = 2
  · obtain ⟨a, b⟩ := name_back ha h2
    have e : ks = [] := List.eq_nil_of_length_eq_zero (by unfold opKids at hk; omega)
    subst e
    rw [if_neg h1, if_pos h2, h2]
    exact .lit b a
  have en := node_op ha h1 h2
  rw [if_neg h1, if_neg h2]
  obtain ⟨op, kids, v, nm⟩ := n
  have hkk : kids = (ks.length : Int) := hkk
  have h1 : ¬ op = 1 := h1
  have h2 : ¬ op = 2 := h2
  rw [en]
  dsimp only [nOp]
  rcases hk with ⟨hk, k0⟩ | ⟨hk, k1⟩ | ⟨hk, k2⟩ | ⟨hk, k3⟩ | ⟨hk, k4⟩
  · exact absurd hk (by rintro (x | x) <;> first | exact h1 x | exact h2 x)
  · obtain ⟨a, rfl⟩ := List.length_eq_one_iff.1 k1
    have oa := h a List.mem_cons_self
    have hkk : kids = 1 := hkk
    subst hkk
    have hk : op = 3 ∨ op = 4 ∨ op = 18 ∨ op = 19 := hk
    rcases hk with rfl | rfl | rfl | rfl
    · exact .neg (markT_is sMi) (okx_at oa (k := 7) (by omega))
    · exact .not (markT_is wNot) (okx_at oa (k := 3) (by omega))
    · exact .isn (markT_is wIs) (markT_is wNull) (okx_at oa (k := 5) (by omega))
    · exact .isnn (markT_is wIs) (markT_is wNot) (markT_is wNull) (okx_at oa (k := 5) (by omega))
  · obtain ⟨a, b, rfl⟩ := len_two k2
    have oa := h a List.mem_cons_self
    have ob := h b (by simp)
    have hkk : kids = 2 := hkk
    subst hkk
    have h5 : ∀ {t : Ex}, OkX t → RD 5 (atF (prtX t) 5) t := fun o => okx_at o (k := 5) (by omega)
    have hk : 5 ≤ op ∧ op ≤ 17 ∨ op = 20 ∨ op = 21 := hk
    have : op = 5 ∨ op = 6 ∨ op = 7 ∨ op = 8 ∨ op = 9 ∨ op = 10 ∨ op = 11 ∨ op = 12 ∨ op = 13 ∨ op = 14 ∨ op = 15 ∨ op = 16 ∨ op = 17 ∨ op = 20 ∨ op = 21 := by omega
    rcases this with rfl | rfl | rfl | rfl | rfl | rfl | rfl | rfl | rfl | rfl | rfl | rfl | rfl | rfl | rfl
    · exact .bin (k := 5) (ops := [5, 6]) (by decide) (by decide) (markT_is _) (h5 oa) (okx_at ob (k := 6) (by omega))
    · exact .bin (k := 5) (ops := [5, 6]) (by decide) (by decide) (markT_is _) (h5 oa) (okx_at ob (k := 6) (by omega))
    · exact .bin (k := 6) (ops := [7, 8, 9]) (by decide) (by decide) (markT_is _) (okx_at oa (k := 6) (by omega)) (okx_at ob (k := 7) (by omega))
    · exact .bin (k := 6) (ops := [7, 8, 9]) (by decide) (by decide) (markT_is _) (okx_at oa (k := 6) (by omega)) (okx_at ob (k := 7) (by omega))
    · exact .bin (k := 6) (ops := [7, 8, 9]) (by decide) (by decide) (markT_is _) (okx_at oa (k := 6) (by omega)) (okx_at ob (k := 7) (by omega))
    · exact .cmp (by decide) (markT_is _) (h5 oa) (h5 ob)
    · exact .cmp (by decide) (markT_is _) (h5 oa) (h5 ob)
    · exact .cmp (by decide) (markT_is _) (h5 oa) (h5 ob)
    · exact .cmp (by decide) (markT_is _) (h5 oa) (h5 ob)
    · exact .cmp (by decide) (markT_is _) (h5 oa) (h5 ob)
    · exact .cmp (by decide) (markT_is _) (h5 oa) (h5 ob)
    · exact .bin (k := 2) (ops := [16]) (by decide) (by decide) (markT_is _) (okx_at oa (k := 2) (by omega)) (okx_at ob (k := 3) (by omega))
    · exact .bin (k := 1) (ops := [17]) (by decide) (by decide) (markT_is _) (okx_at oa (k := 1) (by omega)) (okx_at ob (k := 2) (by omega))
    · exact .like (k := 0) (notT_q 20 0 (.inr ⟨rfl, by omega⟩)) (markT_is _) (h5 oa) (h5 ob)
    · exact .like (k := 1) (notT_q 21 1 (.inl ⟨rfl, by omega⟩)) (markT_is _) (h5 oa) (h5 ob)
  · obtain ⟨a, b, c, rfl⟩ := len_three k3
    have h5 : ∀ t ∈ [a, b, c], RD 5 (atF (prtX t) 5) t := fun t ht => okx_at (h t ht) (k := 5) (by omega)
    have hkk : kids = 3 := hkk
    subst hkk
    have hk : op = 24 ∨ op = 25 := hk
    rcases hk with rfl | rfl
    · exact .betw (k := 0) (notT_q 24 0 (.inr ⟨rfl, by omega⟩)) (markT_is _) (markT_is _) (h5 a (by simp)) (h5 b (by simp)) (h5 c (by simp))
    · exact .betw (k := 1) (notT_q 25 1 (.inl ⟨rfl, by omega⟩)) (markT_is _) (markT_is _) (h5 a (by simp)) (h5 b (by simp)) (h5 c (by simp))
  · have hk : op = 22 ∨ op = 23 := hk
    match ks, k4, h, hkk with
    | [], k4, _, _ => simp at k4
    | [a], k4, _, _ => simp at k4
    | a :: b :: ks, k4, h, hkk =>
      have key : ∀ k : Nat, op = 22 + (k : Int) → NotQ k (notT op) → RD 4 (atF (prtX a) 5 ++ (notT op ++ (markT wIn :: (markT sLp :: (prtX b).1 ++ comT (ks.map prtX) ++ [markT sRp])))) (.mk ⟨op, kids, noV, []⟩ (a :: b :: ks)) := by
        intro k ho hq
        have := RD.isin (k := k) (q := notT op) (o := markT wIn) (c := markT sRp) (l := atF (prtX a) 5) (a := a) (p0 := (markT sLp, (prtX b).1, b)) (ps := ks.map fun t => (markT sCo, (prtX t).1, t)) hq (markT_is _) (markT_is _) (by
          intro p hp
          obtain ⟨t, _, rfl⟩ := List.mem_map.1 hp
          exact markT_is _) (markT_is _) (okx_at (h a (by simp)) (k := 5) (by omega)) (by
          intro p hp
          rcases List.mem_cons.1 hp with rfl | hp
          · exact okx_1 (h b (by simp))
          · obtain ⟨t, ht, rfl⟩ := List.mem_map.1 hp
            exact okx_1 (h t (by simp [ht])))
        have e1 : pcsT ((markT sLp, (prtX b).1, b) :: ks.map fun t => (markT sCo, (prtX t).1, t)) = markT sLp :: (prtX b).1 ++ comT (ks.map prtX) := by rw [comT_pcs]; rfl
        have e2 : (((markT sLp, (prtX b).1, b) :: ks.map fun t => (markT sCo, (prtX t).1, t)) : List Pc).map (fun p => p.2.2) = b :: ks := by
          rw [List.map_cons, List.map_map]
          show b :: ks.map (fun t => t) = _
          rw [List.map_id']
        rw [e1, e2, List.length_map, ← ho] at this
        have e3 : kids = (ks.length : Int) + 2 := by rw [hkk, List.length_cons, List.length_cons]; omega
        rw [e3]
        exact this
      rcases hk with rfl | rfl
      · exact key 0 rfl (notT_q 22 0 (.inr ⟨rfl, by omega⟩))
      · exact key 1 rfl (notT_q 23 1 (.inl ⟨rfl, by omega⟩))
mutual
theorem okx_tree : ∀ t : Ex, t.good → (∀ n ∈ t.flat, alF n = 0) → OkX t
  | .mk n ks, hg, ha => by
    rw [Ex.good] at hg
    have hn : alF n = 0 := ha n (by rw [flat_mk]; simp)
    exact okx_node (opKids_of hn hg.1) hn hg.1 (okx_trees ks hg.2 fun m hm => ha m (by rw [flat_mk]; exact List.mem_append_left _ hm))
theorem okx_trees : ∀ l : List Ex, Ex.goods l → (∀ n ∈ Ex.flats l, alF n = 0) → ∀ t ∈ l, OkX t
  | [], _, _, t, h => absurd h (List.not_mem_nil)
  | x :: l, hg, ha, t, h => by
    rw [Ex.goods] at hg
    have hx := okx_tree x hg.1 fun n hn => ha n (by rw [Ex.flats]; exact List.mem_append_left _ hn)
    rcases List.mem_cons.1 h with h | h
    · rw [h]; exact hx
    · exact okx_trees l hg.2 (fun n hn => ha n (by rw [Ex.flats]; exact List.mem_append_right _ hn)) t h
end
theorem prt_rd {t : Ex} (h : RightT t) : RD 1 (prtX t).1 t := okx_1 (okx_tree t h.good h.all)
end Go.Proofs.YtmcmagfondjopaaDoor.Pm
end
section
namespace Go.Proofs.YtmcmagfondjopaaDoor.Pm
open Go.RowKit K
set_option linter.unusedVariables false
set_option linter.unusedSimpArgs false
set_option maxRecDepth 100000
theorem at_self {p : Prd} {k : Int} (h : k ≤ p.2) : atF p k = p.1 := by unfold atF; rw [if_pos h]
theorem at_mono (p : Prd) {j k : Int} (h : j ≤ k) : (atF p j).length ≤ (atF p k).length := by
  unfold atF
  split
  · split
    · exact Nat.le_refl _
    · rw [List.length_cons, List.length_append]; omega
  · rw [if_neg (by omega)]; exact Nat.le_refl _
theorem prt_lev (t : Ex) : (prtX t).2 = lvlF t.root.Op := by
  cases t with
  | mk n ks => rw [prtX]; rfl
theorem notq_len {k : Nat} {q : List TokenD} (h : NotQ k q) : q.length = k := by
  rcases h with ⟨rfl, rfl⟩ | ⟨rfl, _, rfl, _⟩ <;> rfl
theorem notq_lt {k : Nat} {q : List TokenD} (h : NotQ k q) : k = 0 ∨ k = 1 := h.imp And.left And.left
theorem comT_len : ∀ (ps : List Pc), (∀ p ∈ ps, (prtX p.2.2).1.length ≤ p.2.1.length) → (comT (ps.map fun p => prtX p.2.2)).length ≤ (pcsT ps).length
  | [], _ => Nat.le_refl _
  | p :: ps, h => by
    have h1 := h p List.mem_cons_self
    have h2 := comT_len ps fun x hx => h x (List.mem_cons_of_mem _ hx)
    show (markT sCo :: (prtX p.2.2).1 ++ comT (ps.map fun p => prtX p.2.2)).length ≤ (p.1 :: p.2.1 ++ pcsT ps).length
    simp only [List.length_append, List.length_cons]; omega
theorem prt_op (n : NodeD) (ks : List Ex) : prtX (.mk n ks) = (tokN n (ks.map prtX), lvlF n.Op) := by rw [prtX, prtXs_map]; rfl
theorem rd_least {k : Nat} {l : List TokenD} {t : Ex} (h : RD k l t) : (atF (prtX t) (k : Int)).length ≤ l.length := by
  induction h with
  | @lit x n h1 h2 =>
    rw [prt_op]
    have ho : n.Op = 1 ∨ n.Op = 2 := by
      unfold litF at h2
      split at h2
      · cases h2; exact .inl rfl
      split at h2
      · cases h2; exact .inl rfl
      split at h2
      · cases h2; exact .inl rfl
      split at h2
      · cases h2; exact .inl rfl
      split at h2
      · cases h2; exact .inr rfl
      · cases h2
    rw [at_self (show ((8 : Nat) : Int) ≤ lvlF n.Op by rcases ho with e | e <;> (rw [e]; decide))]
    show (tokN n []).length ≤ 1
    unfold tokN
    rcases ho with e | e
    · rw [if_pos e]; simp
    · rw [if_neg (by omega), if_pos e]; simp
  | @par o c l t h1 h2 h ih =>
    have hl := lvlF_in t.root.Op
    rw [at_self (by rw [prt_lev]; exact hl.1)] at ih
    have := at_len (prtX t) ((8 : Nat) : Int)
    rw [List.length_cons, List.length_append, List.length_singleton]; omega
  | @up k l t h1 h8 h ih => exact Nat.le_trans (at_mono _ (by omega)) ih
  | @neg o l t h1 h ih =>
    rw [prt_op, at_self (show ((7 : Nat) : Int) ≤ lvlF 3 by decide), List.length_cons]
    show (atF (prtX t) 7).length + 1 ≤ _
    exact Nat.succ_le_succ ih
  | @not o l t h1 h ih =>
    rw [prt_op, at_self (show ((3 : Nat) : Int) ≤ lvlF 4 by decide), List.length_cons]
    show (atF (prtX t) 3).length + 1 ≤ _
    exact Nat.succ_le_succ ih
  | @bin k ops op o l m a b hk ho h1 ha hb iha ihb =>
    have key : ∀ L : Nat, lvlF op = (L : Int) → L = k → tokN (nOp op 2) [prtX a, prtX b] = atF (prtX a) (lvlF op) ++ (markT (sgn op) :: atF (prtX b) (lvlF op + 1)) → (atF (prtX (.mk (nOp op 2) [a, b])) (k : Int)).length ≤ (l ++ o :: m).length := by
      rintro L e1 rfl e2
      rw [prt_op, at_self (show (L : Int) ≤ lvlF op by rw [e1]; exact Int.le_refl _)]
      show (tokN (nOp op 2) [prtX a, prtX b]).length ≤ _
      rw [e2, e1, List.length_append, List.length_cons, List.length_append, List.length_cons]
      have ihb : (atF (prtX b) ((L : Int) + 1)).length ≤ m.length := ihb
      omega
    rcases lvs_cases hk with ⟨rfl, rfl⟩ | ⟨rfl, rfl⟩ | ⟨rfl, rfl⟩ | ⟨rfl, rfl⟩ <;> simp only [List.mem_cons, List.not_mem_nil, or_false] at ho
    · subst ho; exact key 1 rfl rfl rfl
    · subst ho; exact key 2 rfl rfl rfl
    · rcases ho with rfl | rfl
      · exact key 5 rfl rfl rfl
      · exact key 5 rfl rfl rfl
    · rcases ho with rfl | rfl | rfl
      · exact key 6 rfl rfl rfl
      · exact key 6 rfl rfl rfl
      · exact key 6 rfl rfl rfl
  | @cmp op o l m a b ho h1 ha hb iha ihb =>
    have key : lvlF op = 4 → tokN (nOp op 2) [prtX a, prtX b] = atF (prtX a) 5 ++ (markT (sgn op) :: atF (prtX b) 5) → (atF (prtX (.mk (nOp op 2) [a, b])) ((4 : Nat) : Int)).length ≤ (l ++ o :: m).length := by
      intro e1 e2
      rw [prt_op, at_self (show ((4 : Nat) : Int) ≤ lvlF op by rw [e1]; decide)]
      show (tokN (nOp op 2) [prtX a, prtX b]).length ≤ _
      rw [e2, List.length_append, List.length_cons, List.length_append, List.length_cons]
      have iha : (atF (prtX a) 5).length ≤ l.length := iha
      have ihb : (atF (prtX b) 5).length ≤ m.length := ihb
      omega
    simp only [List.mem_cons, List.not_mem_nil, or_false] at ho
    rcases ho with rfl | rfl | rfl | rfl | rfl | rfl <;> exact key rfl rfl
  | @isn i u l a h1 h2 ha iha =>
    rw [prt_op, at_self (show ((4 : Nat) : Int) ≤ lvlF 18 by decide)]
    show (atF (prtX a) 5 ++ [markT wIs, markT wNull]).length ≤ _
    have iha : (atF (prtX a) 5).length ≤ l.length := iha
    simp only [List.length_append, List.length_cons, List.length_nil]; omega
  | @isnn i n u l a h1 h2 h3 ha iha =>
    rw [prt_op, at_self (show ((4 : Nat) : Int) ≤ lvlF 19 by decide)]
    show (atF (prtX a) 5 ++ [markT wIs, markT wNot, markT wNull]).length ≤ _
    have iha : (atF (prtX a) 5).length ≤ l.length := iha
    simp only [List.length_append, List.length_cons, List.length_nil]; omega
  | @like k q o l m a b hq h1 ha hb iha ihb =>
    have iha : (atF (prtX a) 5).length ≤ l.length := iha
    have ihb : (atF (prtX b) 5).length ≤ m.length := ihb
    have hql := notq_len hq
    rcases notq_lt hq with rfl | rfl
    · rw [prt_op, at_self (show ((4 : Nat) : Int) ≤ lvlF 20 by decide)]
      show (atF (prtX a) 5 ++ ([] ++ (markT wLike :: atF (prtX b) 5))).length ≤ _
      simp only [List.length_append, List.length_cons, List.length_nil]; omega
    · rw [prt_op, at_self (show ((4 : Nat) : Int) ≤ lvlF 21 by decide)]
      show (atF (prtX a) 5 ++ ([markT wNot] ++ (markT wLike :: atF (prtX b) 5))).length ≤ _
      simp only [List.length_append, List.length_cons, List.length_nil]; omega
  | @betw k q o d l m p a b c hq h1 h2 ha hb hc iha ihb ihc =>
    have iha : (atF (prtX a) 5).length ≤ l.length := iha
    have ihb : (atF (prtX b) 5).length ≤ m.length := ihb
    have ihc : (atF (prtX c) 5).length ≤ p.length := ihc
    have hql := notq_len hq
    rcases notq_lt hq with rfl | rfl
    · rw [prt_op, at_self (show ((4 : Nat) : Int) ≤ lvlF 24 by decide)]
      show (atF (prtX a) 5 ++ ([] ++ (markT wBetw :: (atF (prtX b) 5 ++ (markT wAnd :: atF (prtX c) 5))))).length ≤ _
      simp only [List.length_append, List.length_cons, List.length_nil]; omega
    · rw [prt_op, at_self (show ((4 : Nat) : Int) ≤ lvlF 25 by decide)]
      show (atF (prtX a) 5 ++ ([markT wNot] ++ (markT wBetw :: (atF (prtX b) 5 ++ (markT wAnd :: atF (prtX c) 5))))).length ≤ _
      simp only [List.length_append, List.length_cons, List.length_nil]; omega
  | @isin k q o c l a p0 ps hq h1 h2 h3 h4 ha hp iha ihp =>
    have iha : (atF (prtX a) 5).length ≤ l.length := iha
    have one : ∀ p ∈ p0 :: ps, (prtX p.2.2).1.length ≤ p.2.1.length := fun p hp => by
      have := ihp p hp
      rwa [at_self (by rw [prt_lev]; exact (lvlF_in _).1)] at this
    have i0 := one p0 List.mem_cons_self
    have ic := comT_len ps fun p hp => one p (List.mem_cons_of_mem _ hp)
    have hql := notq_len hq
    have em : (List.map prtX (a :: List.map (fun p : Pc => p.2.2) (p0 :: ps))) = prtX a :: prtX p0.2.2 :: ps.map (fun p : Pc => prtX p.2.2) := by
      rw [List.map_cons, List.map_cons, List.map_cons, List.map_map]; rfl
    have hpl : (pcsT (p0 :: ps)).length = 1 + p0.2.1.length + (pcsT ps).length := by
      show (p0.1 :: p0.2.1 ++ pcsT ps).length = _
      rw [List.length_append, List.length_cons]; omega
    rcases notq_lt hq with rfl | rfl
    · rw [prt_op, at_self (show ((4 : Nat) : Int) ≤ lvlF 22 by decide), em]
      show (atF (prtX a) 5 ++ ([] ++ (markT wIn :: (markT sLp :: (prtX p0.2.2).1 ++ comT (ps.map fun p : Pc => prtX p.2.2) ++ [markT sRp])))).length ≤ _
      simp only [List.length_append, List.length_cons, List.length_nil, hpl]; omega
    · rw [prt_op, at_self (show ((4 : Nat) : Int) ≤ lvlF 23 by decide), em]
      show (atF (prtX a) 5 ++ ([markT wNot] ++ (markT wIn :: (markT sLp :: (prtX p0.2.2).1 ++ comT (ps.map fun p : Pc => prtX p.2.2) ++ [markT sRp])))).length ≤ _
      simp only [List.length_append, List.length_cons, List.length_nil, hpl]; omega
end Go.Proofs.YtmcmagfondjopaaDoor.Pm
end
section
namespace Go.Proofs.YtmcmagfondjopaaDoor.Pm
open Go.RowKit K
set_option linter.unusedVariables false
set_option linter.unusedSimpArgs false
set_option maxRecDepth 100000
def okTs (l : List TokenD) : Prop := ∀ x ∈ l, tChk x = 0
theorem okTs_app {a b : List TokenD} (ha : okTs a) (hb : okTs b) : okTs (a ++ b) := fun x hx => (List.mem_append.1 hx).elim (ha x) (hb x)
theorem okTs_cons {x : TokenD} {a : List TokenD} (hx : tChk x = 0) (ha : okTs a) : okTs (x :: a) := fun y hy => (List.mem_cons.1 hy).elim (fun e => by rw [e]; exact hx) (ha y)
theorem okTs_nil : okTs [] := fun x hx => absurd hx (List.not_mem_nil)
theorem chk_words : ∀ w ∈ [wNot, wNull, wIs, wLike, wIn, wBetw, wAnd, wOr, sLp, sRp, sCo, sMi], tChk (markT w) = 0 := by decide +kernel
theorem chk_signs : ∀ op ∈ [3, 4, 5, 6, 7, 8, 9, 10, 11, 12, 13, 14, 15, 16, 17], tChk (markT (sgn op)) = 0 := by decide +kernel
theorem okTs_at {p : Prd} (h : okTs p.1) (k : Int) : okTs (atF p k) := by
  unfold atF
  split
  · exact h
  · exact okTs_cons (chk_words _ (by simp)) (okTs_app h (okTs_cons (chk_words _ (by simp)) okTs_nil))
theorem okTs_not (op : Int) : okTs (notT op) := by
  unfold notT
  split
  · exact okTs_cons (chk_words _ (by simp)) okTs_nil
  · exact okTs_nil
theorem okTs_com : ∀ ks : List Prd, (∀ k ∈ ks, okTs k.1) → okTs (comT ks)
  | [], _ => okTs_nil
  | k :: ks, h => by
    show okTs (markT sCo :: k.1 ++ comT ks)
    exact okTs_app (okTs_cons (chk_words _ (by simp)) (h k List.mem_cons_self)) (okTs_com ks fun x hx => h x (List.mem_cons_of_mem _ hx))
theorem chk_name {s : List UInt8} (h : nameB s = true) : tChk (markT s) = 0 := by
  unfold nameB at h
  simp only [Bool.and_eq_true, decide_eq_true_eq] at h
  obtain ⟨hw, hl, _⟩ := h
  unfold markT
  rw [if_pos hw]
  unfold tChk
  rw [if_neg (by simp)]
  rw [if_neg (show ¬ tFrm ⟨1, 0, 0, s⟩ by
    rintro (⟨x, _⟩ | ⟨_, x⟩ | ⟨_, x⟩ | ⟨x, _⟩)
    · simp at x
    · exact x rfl
    · have x : wordB s = false := x
      rw [hw] at x; cases x
    · simp at x)]
  rw [if_neg (show ¬ tLong ⟨1, 0, 0, s⟩ by
    rintro (⟨_, x⟩ | ⟨x, _⟩)
    · have x : 12 < s.length := x
      omega
    · simp at x)]
  rw [if_neg (by simp)]
theorem chk_lit {v : ValueD} (h : vChk v = 0) (hn : 0 ≤ v.N) : tChk (litT v) = 0 := by
  obtain ⟨vk, vn, vs⟩ := v
  have hn : 0 ≤ vn := hn
  unfold vChk at h
  dsimp only at h
  split at h
  · cases h
  rename_i g1
  split at h
  · cases h
  rename_i g2
  split at h
  · cases h
  rename_i g3
  have hk : vk = 0 ∨ vk = 1 ∨ vk = 2 ∨ vk = 3 := by omega
  rcases hk with rfl | rfl | rfl | rfl
  · exact chk_words wNull (by simp)
  · show tChk ⟨2, 0, vn, []⟩ = 0
    unfold tChk
    rw [if_neg (by simp), if_neg (show ¬ tFrm ⟨2, 0, vn, []⟩ by
      rintro (⟨_, x⟩ | ⟨x, _⟩ | ⟨x, _⟩ | ⟨x, _⟩)
      · exact x rfl
      · exact x rfl
      · simp at x
      · simp at x), if_neg (show ¬ tLong ⟨2, 0, vn, []⟩ by
      rintro (⟨x, _⟩ | ⟨x, _⟩)
      · simp at x
      · simp at x), if_neg (by show ¬ vn < 0; omega)]
  · have e1 : vn = 0 := Classical.byContradiction fun x => g2 (.inl ⟨by decide, x⟩)
    subst e1
    show tChk ⟨3, 0, 0, vs⟩ = 0
    unfold tChk
    rw [if_neg (by simp), if_neg (show ¬ tFrm ⟨3, 0, 0, vs⟩ by
      rintro (⟨x, _⟩ | ⟨_, x⟩ | ⟨x, _⟩ | ⟨x, _⟩)
      · simp at x
      · exact x rfl
      · simp at x
      · simp at x), if_neg (show ¬ tLong ⟨3, 0, 0, vs⟩ by
      rintro (⟨x, _⟩ | ⟨_, x⟩)
      · simp at x
      · exact g3 x), if_neg (by simp)]
  · have e1 : vn = 0 := Classical.byContradiction fun x => g2 (.inl ⟨by decide, x⟩)
    subst e1
    show tChk ⟨4, 0, 0, vs⟩ = 0
    unfold tChk
    rw [if_neg (by simp), if_neg (show ¬ tFrm ⟨4, 0, 0, vs⟩ by
      rintro (⟨x, _⟩ | ⟨_, x⟩ | ⟨x, _⟩ | ⟨x, _⟩)
      · simp at x
      · exact x rfl
      · simp at x
      · simp at x), if_neg (show ¬ tLong ⟨4, 0, 0, vs⟩ by
      rintro (⟨x, _⟩ | ⟨_, x⟩)
      · simp at x
      · exact g3 x), if_neg (by simp)]
theorem tokN_ok {n : NodeD} {ks : List Prd} (hk : opKids n ks.length) (ha : alF n = 0) (h : ∀ k ∈ ks, okTs k.1) : okTs (tokN n ks) := by
  obtain ⟨_, _, s3, s4⟩ := alF_shape ha
  have w : ∀ w ∈ [wNot, wNull, wIs, wLike, wIn, wBetw, wAnd, wOr, sLp, sRp, sCo, sMi], tChk (markT w) = 0 := chk_words
  unfold tokN
  split
  · rename_i g; exact okTs_cons (chk_lit (s3 g).1 (s3 g).2) okTs_nil
  split
  · rename_i g; exact okTs_cons (chk_name (s4 g)) okTs_nil
  rename_i g1 g2
  split
  · rename_i _ a
    have oa := h a List.mem_cons_self
    split
    · exact okTs_cons (w _ (by simp)) (okTs_at oa _)
    split
    · exact okTs_cons (w _ (by simp)) (okTs_at oa _)
    · exact okTs_app (okTs_at oa _) (okTs_cons (w _ (by simp)) (okTs_app (okTs_not _) (okTs_cons (w _ (by simp)) okTs_nil)))
  · rename_i _ a b ks
    have oa := h a List.mem_cons_self
    have ob := h b (by simp)
    split
    · exact okTs_app (okTs_at oa _) (okTs_app (okTs_not _) (okTs_cons (w _ (by simp)) (okTs_app (okTs_app (okTs_cons (w _ (by simp)) ob) (okTs_com _ fun k hk => h k (by simp [hk]))) (okTs_cons (w _ (by simp)) okTs_nil))))
    rename_i g3
    split
    · have hsg : n.Op = 20 ∨ n.Op = 21 ∨ tChk (markT (sgn n.Op)) = 0 := by
        unfold opKids at hk
        simp only [List.length_cons, List.length_nil] at hk
        by_cases g20 : n.Op = 20
        · exact .inl g20
        by_cases g21 : n.Op = 21
        · exact .inr (.inl g21)
        have : n.Op = 5 ∨ n.Op = 6 ∨ n.Op = 7 ∨ n.Op = 8 ∨ n.Op = 9 ∨ n.Op = 10 ∨ n.Op = 11 ∨ n.Op = 12 ∨ n.Op = 13 ∨ n.Op = 14 ∨ n.Op = 15 ∨ n.Op = 16 ∨ n.Op = 17 := by omega
        exact .inr (.inr (chk_signs _ (by rcases this with e | e | e | e | e | e | e | e | e | e | e | e | e <;> simp [e])))
      split
      · exact okTs_app (okTs_at oa _) (okTs_app (okTs_not _) (okTs_cons (w _ (by simp)) (okTs_at ob _)))
      rename_i g4
      have hs : tChk (markT (sgn n.Op)) = 0 := by
        rcases hsg with e | e | e
        · exact absurd (.inl e) g4
        · exact absurd (.inr e) g4
        · exact e
      split
      · exact okTs_app (okTs_at oa _) (okTs_cons hs (okTs_at ob _))
      · exact okTs_app (okTs_at oa _) (okTs_cons hs (okTs_at ob _))
    · rename_i _ c ks'
      have oc := h c (by simp)
      exact okTs_app (okTs_at oa _) (okTs_app (okTs_not _) (okTs_cons (w _ (by simp)) (okTs_app (okTs_at ob _) (okTs_cons (w _ (by simp)) (okTs_at oc _)))))
  · exact okTs_nil
mutual
theorem prt_ok : ∀ t : Ex, t.good → (∀ n ∈ t.flat, alF n = 0) → okTs (prtX t).1
  | .mk n ks, hg, ha => by
    rw [Ex.good] at hg
    have hn : alF n = 0 := ha n (by rw [flat_mk]; simp)
    have hks := prt_oks ks hg.2 fun m hm => ha m (by rw [flat_mk]; exact List.mem_append_left _ hm)
    rw [prt_op]
    refine tokN_ok (opKids_of hn (by rw [List.length_map]; exact hg.1)) hn fun k hk => ?_
    obtain ⟨t, ht, rfl⟩ := List.mem_map.1 hk
    exact hks t ht
theorem prt_oks : ∀ l : List Ex, Ex.goods l → (∀ n ∈ Ex.flats l, alF n = 0) → ∀ t ∈ l, okTs (prtX t).1
  | [], _, _, t, h => absurd h (List.not_mem_nil)
  | x :: l, hg, ha, t, h => by
    rw [Ex.goods] at hg
    have hx := prt_ok x hg.1 fun n hn => ha n (by rw [Ex.flats]; exact List.mem_append_left _ hn)
    rcases List.mem_cons.1 h with h | h
    · rw [h]; exact hx
    · exact prt_oks l hg.2 (fun n hn => ha n (by rw [Ex.flats]; exact List.mem_append_right _ hn)) t h
end
end Go.Proofs.YtmcmagfondjopaaDoor.Pm
end
section
namespace Go.Proofs.YtmcmagfondjopaaDoor.Pm
open Go.RowKit K
set_option linter.unusedVariables false
set_option linter.unusedSimpArgs false
set_option maxRecDepth 100000
theorem flat_le_flats : ∀ {l : List Ex} {t : Ex}, t ∈ l → t.flat.length ≤ (Ex.flats l).length
  | [], _, h => by cases h
  | x :: l, t, h => by
    rw [Ex.flats, List.length_append]
    rcases List.mem_cons.1 h with rfl | h
    · omega
    · have := flat_le_flats h; omega
theorem len_le_flats : ∀ (l : List Ex), l.length ≤ (Ex.flats l).length
  | [] => Nat.zero_le _
  | x :: l => by
    rw [Ex.flats, List.length_append, List.length_cons]
    have := x.flat_pos
    have := len_le_flats l
    omega
theorem flats_snoc {ks : List Ex} {i : Nat} (h : i < ks.length) : Ex.flats (ks.take (i + 1)) = Ex.flats (ks.take i) ++ ks[i].flat := by
  rw [take_snoc h, Ex.flats_append, Ex.flats_one]
theorem flats_part {ks : List Ex} {i : Nat} (h : i < ks.length) : Ex.flats ks = Ex.flats (ks.take i) ++ ks[i].flat ++ Ex.flats (ks.drop (i + 1)) := by
  rw [← flats_snoc h, ← Ex.flats_append, List.take_append_drop]
theorem root_at {n : NodeD} {ks : List Ex} {e pre post : List NodeD} (he : e = pre ++ (Ex.mk n ks).flat ++ post) : e = (pre ++ Ex.flats ks) ++ n :: post := by
  rw [he, Ex.flat]; simp
theorem root_get {n : NodeD} {a b e : List NodeD} (he : e = a ++ n :: b) : ∃ h : a.length < e.length, e[a.length] = n := by
  subst he
  exact ⟨by simp, by simp⟩
theorem p_exprbegin : ∀ (N : Nat) (t : Ex), t.flat.length ≤ N → t.good → ∀ (e pre post : List NodeD), e = pre ++ t.flat ++ post → e.length ≤ 1000000 → Pure Tryd.prog 40 [slV 6 NodeD.c e, pInt .i64 ((pre.length + t.flat.length : Nat) : Int)] (pInt .i64 pre.length)
  | 0, t, hN, hg, e, pre, post, he, hl => by have := t.flat_pos; omega
  | N + 1, .mk n ks, hN, hg, e, pre, post, he, hl => by
    rw [Ex.good] at hg
    obtain ⟨hk, hgs⟩ := hg
    have hlen : (Ex.mk n ks).flat.length = (Ex.flats ks).length + 1 := by rw [Ex.flat, List.length_append, List.length_singleton]
    have he2 := root_at he
    obtain ⟨hr1, hr2⟩ := root_get he2
    have hpl : (pre ++ Ex.flats ks).length = pre.length + (Ex.flats ks).length := List.length_append
    rw [hlen] at hN ⊢
    have hkb := len_le_flats ks
    refine pure_of Tryd.func40 (by rfl) rfl (by kernel_rfl) (by rfl) ?_
    ((conv => whnf); repeat' ((first | (with_reducible first | apply a_ | apply b_ | apply c_) | ((with_reducible first | apply d_ | apply e_ | apply f_ | apply g_); focus first | omega | (simp only [q_] <;> omega)) | ((with_reducible first | apply i_ | apply h_); focus first | omega | (simp only [q_] <;> omega)) | ((with_reducible apply h_); focus first | decide | kernel_rfl) | refine BCase.t (by decide) ?_ | refine BCase.f (by decide) ?_ | with_reducible first | apply l_ | apply m_ | apply n_ | apply o_ | refine p_ (fun _ => ?_) (fun _ => ?_)) <;> (conv => whnf)))
    refine LoopC.mk Nat (fun k => [(0, slV 6 NodeD.c e), (1, pInt .i64 ((pre.length + ((Ex.flats ks).length + 1) : Nat) : Int)), (5, pInt .i64 ((pre.length + (Ex.flats (ks.take (ks.length - k))).length : Nat) : Int)), (6, pInt .i64 k)]) (fun _ => []) [] (fun k => k ≤ ks.length) (fun k => ks.length - k) 0 (Nat.zero_le _) ?start ?round
    case start => exact ⟨[], rfl, rfl, ⟨.inl rfl, .inl rfl, PLe.int (by rw [List.take_of_length_le (by omega)]; omega), .inl rfl, trivial⟩, trivial⟩
    case round =>
      intro k hk2
      have hk2 : k ≤ ks.length := hk2
      by_cases q : k < ks.length
      · have hi : ks.length - (k + 1) < ks.length := by omega
        have hp := flats_part hi
        have hm := List.getElem_mem hi
        have hfl := flat_le_flats hm
        have hs := flats_snoc hi
        rw [show ks.length - (k + 1) + 1 = ks.length - k by omega] at hs hp
        have pb := p_exprbegin N ks[ks.length - (k + 1)] (by omega) (Ex.goods_mem hgs _ hm) e (pre ++ Ex.flats (ks.take (ks.length - (k + 1)))) (Ex.flats (ks.drop (ks.length - k)) ++ n :: post) (by rw [he2, hp]; simp) hl
        have e1 : (pre ++ Ex.flats (ks.take (ks.length - (k + 1)))).length + ks[ks.length - (k + 1)].flat.length = pre.length + (Ex.flats (ks.take (ks.length - k))).length := by rw [hs, List.length_append, List.length_append]; omega
        rw [e1] at pb
        ((conv => whnf); repeat' ((first | (with_reducible first | apply a_ | apply b_ | apply c_) | ((with_reducible first | apply d_ | apply e_ | apply f_ | apply g_); focus first | omega | (simp only [q_] <;> omega)) | ((with_reducible first | apply i_ | apply h_); focus first | omega | (simp only [q_] <;> omega)) | ((with_reducible apply h_); focus first | decide | kernel_rfl) | refine BCase.t (by decide) ?_ | refine BCase.f (by decide) ?_ | (refine Idx.mapE (pre ++ Ex.flats ks).length (by omega) hr1 hr2 ?_) | refine CallP.pure _ rfl _ (pb) ?_ | with_reducible first | apply l_ | apply m_ | apply n_ | apply o_ | refine p_ (fun _ => ?_) (fun _ => ?_)) <;> (conv => whnf)))
        exact ⟨k + 1, by show k + 1 ≤ _; omega, by omega, [], rfl, rfl, ⟨.inl rfl, .inl rfl, PLe.int (by rw [List.length_append]), PLe.int (by omega), trivial⟩, trivial⟩
      · ((conv => whnf); repeat' ((first | (with_reducible first | apply a_ | apply b_ | apply c_) | ((with_reducible first | apply d_ | apply e_ | apply f_ | apply g_); focus first | omega | (simp only [q_] <;> omega)) | ((with_reducible first | apply i_ | apply h_); focus first | omega | (simp only [q_] <;> omega)) | ((with_reducible apply h_); focus first | decide | kernel_rfl) | refine BCase.t (by decide) ?_ | refine BCase.f (by decide) ?_ | (refine Idx.mapE (pre ++ Ex.flats ks).length (by omega) hr1 hr2 ?_) | with_reducible first | apply l_ | apply m_ | apply n_ | apply o_ | refine p_ (fun _ => ?_) (fun _ => ?_)) <;> (conv => whnf)))
        refine Ret.int ?_
        rw [show ks.length - k = 0 by omega, List.take_zero, Ex.flats]; simp
def ek (x : List NodeD) : List C := [.sl 6 (x.map NodeD.c)]
theorem kid_slice {n : NodeD} {ks : List Ex} {i : Nat} (h : i < ks.length) {a b : Nat} (ha : a = (Ex.flats (ks.take i)).length) (hb : b = (Ex.flats (ks.take (i + 1))).length) : (((Ex.mk n ks).flat.map NodeD.c).drop a).take (b - a) = ks[i].flat.map NodeD.c := by
  have hp := flats_part h
  have hs := flats_snoc h
  subst ha hb
  rw [hs, List.length_append, Nat.add_sub_cancel_left, Ex.flat, hp, ← List.map_drop, ← List.map_take]
  congr 1
  rw [List.append_assoc, List.append_assoc, List.drop_left' rfl, List.take_left' rfl]
theorem p_exprkids (n : NodeD) (ks : List Ex) (hg : (Ex.mk n ks).good) (e : List NodeD) (he : (Ex.mk n ks).flat = e) (hl : e.length ≤ 1000) : Pure Tryd.prog 12 [slV 6 NodeD.c e] (.d (.c (.sl 1 (ks.map fun k => ek k.flat)))) := by
  have hg0 := hg
  rw [Ex.good] at hg0
  obtain ⟨hk, hgs⟩ := hg0
  have hlen : e.length = (Ex.flats ks).length + 1 := by rw [← he, Ex.flat, List.length_append, List.length_singleton]
  have hml : (e.map NodeD.c).length = (Ex.flats ks).length + 1 := by rw [List.length_map, hlen]
  have he2 := root_at (n := n) (ks := ks) (e := e) (pre := []) (post := []) (by rw [he]; simp)
  obtain ⟨hr1, hr2⟩ := root_get he2
  have hpl : ([] ++ Ex.flats ks).length = (Ex.flats ks).length := rfl
  have hkb := len_le_flats ks
  have hsp : Ex.flats ks = Ex.flats (ks.take ks.length) := by rw [List.take_length]
  refine pure_of Tryd.func12 (by rfl) rfl (by kernel_rfl) (by rfl) ?_
  ((conv => whnf); repeat' ((first | (with_reducible first | apply a_ | apply b_ | apply c_) | ((with_reducible first | apply d_ | apply e_ | apply f_ | apply g_); focus first | omega | (simp only [q_] <;> omega)) | ((with_reducible first | apply i_ | apply h_); focus first | omega | (simp only [q_] <;> omega)) | ((with_reducible apply h_); focus first | decide | kernel_rfl) | refine BCase.t (by decide) ?_ | refine BCase.f (by decide) ?_ | with_reducible first | apply l_ | apply m_ | apply n_ | apply o_ | refine p_ (fun _ => ?_) (fun _ => ?_)) <;> (conv => whnf)))
  refine LoopC.mk Nat (fun k => [(0, slV 6 NodeD.c e), (3, .d (.app 60 22 1 ((ks.drop (ks.length - k)).map fun k => ek k.flat))), (4, pInt .i64 ((Ex.flats (ks.take (ks.length - k))).length : Nat)), (5, pInt .i64 k)]) (fun _ => [(60, .tail 22 1)]) [60] (fun k => k ≤ ks.length) (fun k => ks.length - k) 0 (Nat.zero_le _) ?start ?round
  case start => exact ⟨[], rfl, rfl, ⟨.inl rfl, ⟨rfl, rfl, Nat.zero_lt_succ _, by rw [List.drop_of_length_le (by omega)]; rfl, rfl⟩, PLe.int (by rw [Nat.sub_zero, ← hsp]; omega), .inl rfl, trivial⟩, ⟨rfl, Nat.zero_lt_succ _⟩, trivial⟩
  case round =>
    intro k hk2
    have hk2 : k ≤ ks.length := hk2
    by_cases q : k < ks.length
    · have hi : ks.length - (k + 1) < ks.length := by omega
      have hp := flats_part hi
      have hm := List.getElem_mem hi
      have hfl := flat_le_flats hm
      have hs := flats_snoc hi
      have hks := kid_slice (n := n) hi rfl rfl
      rw [he] at hks
      rw [show ks.length - (k + 1) + 1 = ks.length - k by omega] at hs hp hks
      have hsl : (Ex.flats (ks.take (ks.length - k))).length ≤ (Ex.flats ks).length := by rw [hp, hs]; simp
      have hsl2 : (Ex.flats (ks.take (ks.length - (k + 1)))).length ≤ (Ex.flats (ks.take (ks.length - k))).length := by rw [hs]; simp
      have pb := p_exprbegin 1000 ks[ks.length - (k + 1)] (by omega) (Ex.goods_mem hgs _ hm) e (Ex.flats (ks.take (ks.length - (k + 1)))) (Ex.flats (ks.drop (ks.length - k)) ++ [n]) (by rw [he2, hp]; simp) (by omega)
      have e1 : (Ex.flats (ks.take (ks.length - (k + 1)))).length + ks[ks.length - (k + 1)].flat.length = (Ex.flats (ks.take (ks.length - k))).length := by rw [hs, List.length_append]
      rw [e1] at pb
      ((conv => whnf); repeat' ((first | (with_reducible first | apply a_ | apply b_ | apply c_) | ((with_reducible first | apply d_ | apply e_ | apply f_ | apply g_); focus first | omega | (simp only [q_] <;> omega)) | ((with_reducible first | apply i_ | apply h_); focus first | omega | (simp only [q_] <;> omega)) | ((with_reducible apply h_); focus first | decide | kernel_rfl) | refine BCase.t (by decide) ?_ | refine BCase.f (by decide) ?_ | (refine Idx.mapE ([] ++ Ex.flats ks).length (by omega) hr1 hr2 ?_) | refine CallP.pure _ rfl _ (pb) ?_ | (refine Need.by 24 rfl (by simp only [List.length_singleton, List.length_map, List.length_drop]; omega) ?_) | with_reducible first | apply l_ | apply m_ | apply n_ | apply o_ | refine p_ (fun _ => ?_) (fun _ => ?_)) <;> (conv => whnf)))
      refine ⟨k + 1, by show k + 1 ≤ _; omega, by omega, [(60, 30)], rfl, rfl, ⟨.inl rfl, ⟨rfl, rfl, rfl, rfl, ?_⟩, .inl rfl, PLe.int rfl, trivial⟩, ⟨rfl, rfl, rfl⟩, trivial⟩
      rw [List.drop_eq_getElem_cons (by omega : ks.length - (k + 1) < ks.length), show ks.length - (k + 1) + 1 = ks.length - k by omega, List.map_cons]
      show _ = ek _ :: _
      unfold ek
      rw [← hks]
      simp
    · ((conv => whnf); repeat' ((first | (with_reducible first | apply a_ | apply b_ | apply c_) | ((with_reducible first | apply d_ | apply e_ | apply f_ | apply g_); focus first | omega | (simp only [q_] <;> omega)) | ((with_reducible first | apply i_ | apply h_); focus first | omega | (simp only [q_] <;> omega)) | ((with_reducible apply h_); focus first | decide | kernel_rfl) | refine BCase.t (by decide) ?_ | refine BCase.f (by decide) ?_ | (refine Idx.mapE ([] ++ Ex.flats ks).length (by omega) hr1 hr2 ?_) | with_reducible first | apply l_ | apply m_ | apply n_ | apply o_ | refine p_ (fun _ => ?_) (fun _ => ?_)) <;> (conv => whnf)))
      refine Ret.eq ?_
      rw [show ks.length - k = 0 by omega, List.drop_zero]
end Go.Proofs.YtmcmagfondjopaaDoor.Pm
end
section
namespace Go.Proofs.YtmcmagfondjopaaDoor.Pm
open Go.RowKit K
set_option linter.unusedVariables false
set_option linter.unusedSimpArgs false
set_option maxRecDepth 100000
theorem p_samenodes (a b : List NodeD) (ha : a.length ≤ 140737488355328) : Pure Tryd.prog 31 [slV 6 NodeD.c a, slV 6 NodeD.c b] (pBool (listEqB NodeD.eqB a b)) := by
  refine pure_of Tryd.func31 (by rfl) rfl (by kernel_rfl) (by rfl) ?_
  by_cases hl : a.length = b.length
  · (((conv => whnf); repeat ((with_reducible first | refine BCase.tt ?_ | refine BCase.ff ?_); (conv => whnf))); repeat ((first | with_reducible refine Wr.u8 ?_ | ((with_reducible first | refine Wr.ci ?wxs ?_ | refine Wr.c3 ?wxs ?_ | refine Wr.c6 ?wxs ?_ | refine BCase.dt ?wxs ?_); case wxs => (first | omega | (simp only [lens, true_and, and_true]; (try omega); done))) | ((with_reducible refine BCase.df ?wxs ?_); case wxs => (first | omega | (simp only [lens, true_and, and_true]; (try omega); done))) | ((with_reducible refine Need.mk ?wxs ?_); case wxs => first | (first | omega | (simp only [lens, true_and, and_true]; (try omega); done)) | decide | kernel_rfl) | refine BCase.t (by decide) ?_ | refine BCase.f (by decide) ?_ | with_reducible (first | refine BCase.not ?_ | refine BCase.and ?_ | refine BCase.or ?_)); ((conv => whnf); repeat ((with_reducible first | refine BCase.tt ?_ | refine BCase.ff ?_); (conv => whnf)))))
    refine LoopC.mk Nat (fun k => [(0, slV 6 NodeD.c a), (1, slV 6 NodeD.c b), (5, pInt .i64 k)]) (fun _ => []) [] (fun k => k ≤ a.length ∧ listEqB NodeD.eqB (a.take k) (b.take k) = true) (fun k => a.length - k) 0 ⟨Nat.zero_le _, by simp [listEqB]⟩ ?start ?round
    case start => exact ⟨[], rfl, rfl, ⟨.inl rfl, .inl rfl, .inl rfl, trivial⟩, trivial⟩
    case round =>
      rintro k ⟨hk, hz⟩
      by_cases h1 : k < a.length
      · have h2 : k < b.length := by omega
        cases hx : NodeD.eqB a[k] b[k] with
        | true =>
          ((conv => whnf); repeat' ((first | (with_reducible first | apply a_ | apply b_ | apply c_) | ((with_reducible first | apply d_ | apply e_ | apply f_ | apply g_); focus first | omega | (simp only [q_] <;> omega)) | ((with_reducible first | apply i_ | apply h_); focus first | omega | (simp only [q_] <;> omega)) | ((with_reducible apply h_); focus first | decide | kernel_rfl) | refine BCase.t (by decide) ?_ | refine BCase.f (by decide) ?_ | (first | refine Idx.mapI (l := a) k rfl h1 ?_ | refine Idx.mapI (l := b) k rfl h2 ?_) | with_reducible first | apply l_ | apply m_ | apply n_ | apply o_ | refine p_ (fun _ => ?_) (fun _ => ?_)) <;> (conv => whnf)))
          all_goals first
            | exact ⟨k + 1, ⟨by omega, (listEqB_step hz h1 h2).trans hx⟩, by omega, [], rfl, rfl, ⟨.inl rfl, .inl rfl, PLe.int (by omega), trivial⟩, trivial⟩
            | (exfalso; have he := (NodeD.eqB_iff _ _).1 hx; rename_i z; exact z (by rw [he]))
        | false =>
          ((conv => whnf); repeat' ((first | (with_reducible first | apply a_ | apply b_ | apply c_) | ((with_reducible first | apply d_ | apply e_ | apply f_ | apply g_); focus first | omega | (simp only [q_] <;> omega)) | ((with_reducible first | apply i_ | apply h_); focus first | omega | (simp only [q_] <;> omega)) | ((with_reducible apply h_); focus first | decide | kernel_rfl) | refine BCase.t (by decide) ?_ | refine BCase.f (by decide) ?_ | (first | refine Idx.mapI (l := a) k rfl h1 ?_ | refine Idx.mapI (l := b) k rfl h2 ?_) | with_reducible first | apply l_ | apply m_ | apply n_ | apply o_ | refine p_ (fun _ => ?_) (fun _ => ?_)) <;> (conv => whnf)))
          all_goals first
            | exact Ret.bool (listEqB_stop h1 h2 hx).symm
            | (exfalso; rename_i e1 e2 e3 e4 e5 e6; have he : NodeD.eqB a[k] b[k] = true := by simp [NodeD.eqB, e1, e2, e3, e4, e5, e6]
               rw [he] at hx; cases hx)
      · ((conv => whnf); repeat' ((first | (with_reducible first | apply a_ | apply b_ | apply c_) | ((with_reducible first | apply d_ | apply e_ | apply f_ | apply g_); focus first | omega | (simp only [q_] <;> omega)) | ((with_reducible first | apply i_ | apply h_); focus first | omega | (simp only [q_] <;> omega)) | ((with_reducible apply h_); focus first | decide | kernel_rfl) | refine BCase.t (by decide) ?_ | refine BCase.f (by decide) ?_ | with_reducible first | apply l_ | apply m_ | apply n_ | apply o_ | refine p_ (fun _ => ?_) (fun _ => ?_)) <;> (conv => whnf)))
        exact Ret.bool (listEqB_all hz (by omega) (by omega)).symm
  · ((conv => whnf); repeat' ((first | (with_reducible first | apply a_ | apply b_ | apply c_) | ((with_reducible first | apply d_ | apply e_ | apply f_ | apply g_); focus first | omega | (simp only [q_] <;> omega)) | ((with_reducible first | apply i_ | apply h_); focus first | omega | (simp only [q_] <;> omega)) | ((with_reducible apply h_); focus first | decide | kernel_rfl) | refine BCase.t (by decide) ?_ | refine BCase.f (by decide) ?_ | with_reducible first | apply l_ | apply m_ | apply n_ | apply o_ | refine p_ (fun _ => ?_) (fun _ => ?_)) <;> (conv => whnf)))
    exact Ret.bool (listEqB_len hl).symm
def hasCols (l : List NodeD) : Bool := l.any fun n => decide (n.Op = 2)
end Go.Proofs.YtmcmagfondjopaaDoor.Pm
end
section
namespace Go.Proofs.YtmcmagfondjopaaDoor.Pm
open Go.RowKit K
set_option linter.unusedVariables false
set_option linter.unusedSimpArgs false
set_option maxRecDepth 100000
mutual
theorem kids_pos : ∀ (t : Ex), t.good → ∀ n ∈ t.flat, 0 ≤ n.Kids
  | .mk m ks, hg, n, hn => by
    rw [Ex.good] at hg
    rw [Ex.flat, List.mem_append] at hn
    rcases hn with hn | hn
    · exact kids_poss ks hg.2 n hn
    · rw [List.mem_singleton.1 hn, hg.1]; omega
theorem kids_poss : ∀ (l : List Ex), Ex.goods l → ∀ n ∈ Ex.flats l, 0 ≤ n.Kids
  | [], _, n, hn => by rw [Ex.flats] at hn; cases hn
  | t :: l, hg, n, hn => by
    rw [Ex.goods] at hg
    rw [Ex.flats, List.mem_append] at hn
    rcases hn with hn | hn
    · exact kids_pos t hg.1 n hn
    · exact kids_poss l hg.2 n hn
end
theorem bal_le : ∀ (l : List NodeD), (∀ n ∈ l, 0 ≤ n.Kids) → bal l ≤ l.length
  | [], _ => by simp [bal]
  | n :: l, h => by
    have h1 := h n (List.mem_cons_self ..)
    have h2 := bal_le l fun m hm => h m (List.mem_cons_of_mem _ hm)
    rw [bal, List.length_cons]; omega
theorem bal_step {l : List NodeD} {m : Nat} (h : m < l.length) : bal (l.take (m + 1)) = bal (l.take m) + 1 - l[m].Kids := by
  rw [take_snoc h, bal_app]
  simp only [bal]; omega
theorem bal_in {t : Ex} (ht : t.good) {m : Nat} (hm : m ≤ t.flat.length) : 0 ≤ bal (t.flat.take m) ∧ bal (t.flat.take m) ≤ m ∧ (0 < bal (t.flat.take m) ↔ 0 < m) := by
  have h1 := back_pos ht hm
  have h2 := bal_le (t.flat.take m) fun n hn => kids_pos t ht n (List.mem_of_mem_take hn)
  rw [List.length_take, Nat.min_eq_left hm] at h2
  refine ⟨?_, h2, h1⟩
  rcases Nat.eq_zero_or_pos m with rfl | h0
  · simp [bal]
  · have := h1.2 h0; omega
def nilR : List C := [.v (.slice none 0 0)]
def splR (ks : List Ex) (k : Nat) : List (List C) := List.replicate (ks.length - k) nilR ++ (ks.drop (ks.length - k)).map fun k => ek k.flat
theorem splR_step {ks : List Ex} {k : Nat} (h : k < ks.length) {r : List C} (hr : r = ek ks[ks.length - (k + 1)].flat) : (splR ks k).set (ks.length - (k + 1)) r = splR ks (k + 1) := by
  subst hr
  unfold splR
  rw [show ks.length - k = (ks.length - (k + 1)) + 1 by omega, List.replicate_succ', List.append_assoc, List.set_append_right _ _ (by simp), List.length_replicate, Nat.sub_self]
  conv => rhs; rw [List.drop_eq_getElem_cons (by omega : ks.length - (k + 1) < ks.length)]
  rfl
theorem splR_len (ks : List Ex) (k : Nat) (h : k ≤ ks.length) : (splR ks k).length = ks.length := by
  unfold splR
  rw [List.length_append, List.length_replicate, List.length_map, List.length_drop]; omega
theorem splR_row {ks : List Ex} {k : Nat} (h : k < ks.length) : (splR ks k)[ks.length - (k + 1)]? = some nilR := by
  unfold splR
  rw [List.getElem?_append_left (by rw [List.length_replicate]; omega), List.getElem?_replicate, if_pos (by omega)]
theorem p_split (n : NodeD) (ks : List Ex) (hg : (Ex.mk n ks).good) (e : List NodeD) (he : (Ex.mk n ks).flat = e) (hl : e.length ≤ 1000) : Pure Tryd.prog 43 [slV 6 NodeD.c e] (.d (.c (.sl 1 (ks.map fun k => ek k.flat)))) := by
  have hg0 := hg
  rw [Ex.good] at hg0
  obtain ⟨hk, hgs⟩ := hg0
  have hlen : e.length = (Ex.flats ks).length + 1 := by rw [← he, Ex.flat, List.length_append, List.length_singleton]
  have hml : (e.map NodeD.c).length = (Ex.flats ks).length + 1 := by rw [List.length_map, hlen]
  have he2 := root_at (n := n) (ks := ks) (e := e) (pre := []) (post := []) (by rw [he]; simp)
  obtain ⟨hr1, hr2⟩ := root_get he2
  have hpl : ([] ++ Ex.flats ks).length = (Ex.flats ks).length := rfl
  have hkb := len_le_flats ks
  have hsp : Ex.flats ks = Ex.flats (ks.take ks.length) := by rw [List.take_length]
  refine pure_of Tryd.func43 (by rfl) rfl (by kernel_rfl) (by rfl) ?_
  ((conv => whnf); repeat' ((first | (with_reducible first | apply a_ | apply b_ | apply c_) | ((with_reducible first | apply d_ | apply e_ | apply f_ | apply g_); focus first | omega | (simp only [q_] <;> omega)) | ((with_reducible first | apply i_ | apply h_); focus first | omega | (simp only [q_] <;> omega)) | ((with_reducible apply h_); focus first | decide | kernel_rfl) | refine BCase.t (by decide) ?_ | refine BCase.f (by decide) ?_ | (refine Idx.mapE ([] ++ Ex.flats ks).length (by omega) hr1 hr2 ?_) | with_reducible first | apply l_ | apply m_ | apply n_ | apply o_ | refine p_ (fun _ => ?_) (fun _ => ?_)) <;> (conv => whnf)))
  refine Need.mk ⟨by omega, rfl, (by show (24 : Int) * _ ≤ _; omega), by omega⟩ ?_
  ((conv => whnf); repeat' ((first | (with_reducible first | apply a_ | apply b_ | apply c_) | ((with_reducible first | apply d_ | apply e_ | apply f_ | apply g_); focus first | omega | (simp only [q_] <;> omega)) | ((with_reducible first | apply i_ | apply h_); focus first | omega | (simp only [q_] <;> omega)) | ((with_reducible apply h_); focus first | decide | kernel_rfl) | refine BCase.t (by decide) ?_ | refine BCase.f (by decide) ?_ | with_reducible first | apply l_ | apply m_ | apply n_ | apply o_ | refine p_ (fun _ => ?_) (fun _ => ?_)) <;> (conv => whnf)))
  refine LoopC.mk Nat (fun k => [(4, slV 6 NodeD.c (Ex.flats (ks.take (ks.length - k)))), (5, .d (.arr 60 22 1 0 ks.length)), (6, pInt .i64 ((ks.length : Int) - 1 - k))]) (fun k => [(60, .arr 22 1 (splR ks k))]) [60] (fun k => k ≤ ks.length) (fun k => ks.length - k) 0 (Nat.zero_le _) ?start ?round
  case start =>
    refine ⟨[(60, 22)], rfl, rfl, ⟨?_, ⟨rfl, rfl, rfl, rfl, rfl, ?_⟩, PLe.int (by omega), trivial⟩, ⟨rfl, rfl, rfl, ?_⟩, trivial⟩
    · have e1 : ((e.map NodeD.c).drop 0).take ((((e.map NodeD.c).length : Int) - 1).toNat - 0) = (Ex.flats ks).map NodeD.c := by
        rw [List.drop_zero, hml, show ((((Ex.flats ks).length + 1 : Nat) : Int) - 1).toNat - 0 = (Ex.flats ks).length by omega, he2, List.nil_append, List.map_append, List.take_left' (by rw [List.length_map])]
      exact .inl (congrArg (C.sl 6) (e1.trans (by rw [Nat.sub_zero, ← hsp])))
    · omega
    · show List.replicate _ nilR = _
      unfold splR
      rw [Nat.sub_zero, List.drop_length, List.map_nil, List.append_nil, show n.Kids.toNat = ks.length by omega]
  case round =>
    intro k hk2
    have hk2 : k ≤ ks.length := hk2
    by_cases q : k < ks.length
    · have hi : ks.length - (k + 1) < ks.length := by omega
      have hm := List.getElem_mem hi
      have hkg := Ex.goods_mem hgs _ hm
      have hfl := flat_le_flats hm
      have hs := flats_snoc hi
      rw [show ks.length - (k + 1) + 1 = ks.length - k by omega] at hs
      have hsl : (Ex.flats (ks.take (ks.length - k))).length ≤ (Ex.flats ks).length := by
        have := flats_part hi
        rw [show ks.length - (k + 1) + 1 = ks.length - k by omega] at this
        rw [this, hs]; simp
      obtain ⟨pre, hpre⟩ : ∃ R, R = Ex.flats (ks.take (ks.length - (k + 1))) := ⟨_, rfl⟩
      obtain ⟨t, ht⟩ : ∃ t, t = ks[ks.length - (k + 1)] := ⟨_, rfl⟩
      rw [← ht] at hs hkg hfl
      rw [← hpre] at hs
      have hRl : (Ex.flats (ks.take (ks.length - k))).length = pre.length + t.flat.length := by rw [hs, List.length_append]
      ((conv => whnf); repeat' ((first | (with_reducible first | apply a_ | apply b_ | apply c_) | ((with_reducible first | apply d_ | apply e_ | apply f_ | apply g_); focus first | omega | (simp only [q_] <;> omega)) | ((with_reducible first | apply i_ | apply h_); focus first | omega | (simp only [q_] <;> omega)) | ((with_reducible apply h_); focus first | decide | kernel_rfl) | refine BCase.t (by decide) ?_ | refine BCase.f (by decide) ?_ | with_reducible first | apply l_ | apply m_ | apply n_ | apply o_ | refine p_ (fun _ => ?_) (fun _ => ?_)) <;> (conv => whnf)))
      refine LoopC.mk Nat (fun r => [(4, slV 6 NodeD.c (Ex.flats (ks.take (ks.length - k)))), (5, .d (.arr 60 22 1 0 ks.length)), (6, pInt .i64 ((ks.length : Int) - 1 - k)), (7, pInt .i64 ((pre.length + (t.flat.length - r) : Nat) : Int)), (8, pInt .i64 (bal (t.flat.take (t.flat.length - r))))]) (fun _ => [(60, .arr 22 1 (splR ks k))]) [60] (fun r => r ≤ t.flat.length) (fun r => t.flat.length - r) 0 (Nat.zero_le _) ?s2 ?r2
      case s2 => exact ⟨[(60, 60)], rfl, rfl, ⟨.inl rfl, ⟨rfl, rfl, rfl, rfl, rfl, rfl⟩, .inl rfl, PLe.int (by simp only [List.length_map]; omega), PLe.int (by rw [Nat.sub_zero, List.take_length, bal_flat t hkg]), trivial⟩, ⟨rfl, rfl, rfl, rfl⟩, trivial⟩
      case r2 =>
        intro r hr
        have hr : r ≤ t.flat.length := hr
        by_cases q2 : r < t.flat.length
        · have hb1 := bal_in hkg (m := t.flat.length - r) (by omega)
          have hb2 := bal_in hkg (m := t.flat.length - (r + 1)) (by omega)
          have hb3 := bal_step (l := t.flat) (m := t.flat.length - (r + 1)) (by omega)
          rw [show t.flat.length - (r + 1) + 1 = t.flat.length - r by omega] at hb3
          have hb4 := hb1.2.2.2 (by omega)
          have hlt : pre.length + (t.flat.length - (r + 1)) < (Ex.flats (ks.take (ks.length - k))).length := by omega
          have hget : (Ex.flats (ks.take (ks.length - k)))[pre.length + (t.flat.length - (r + 1))] = t.flat[t.flat.length - (r + 1)] := by
            have : (Ex.flats (ks.take (ks.length - k)))[pre.length + (t.flat.length - (r + 1))]? = some t.flat[t.flat.length - (r + 1)] := by
              rw [hs, List.getElem?_append_right (by omega), Nat.add_sub_cancel_left, List.getElem?_eq_getElem (by omega)]
            rw [List.getElem?_eq_getElem hlt] at this
            exact Option.some.inj this
          ((conv => whnf); repeat' ((first | (with_reducible first | apply a_ | apply b_ | apply c_) | ((with_reducible first | apply d_ | apply e_ | apply f_ | apply g_); focus first | omega | (simp only [q_] <;> omega)) | ((with_reducible first | apply i_ | apply h_); focus first | omega | (simp only [q_] <;> omega)) | ((with_reducible apply h_); focus first | decide | kernel_rfl) | refine BCase.t (by decide) ?_ | refine BCase.f (by decide) ?_ | (refine Idx.mapE (pre.length + (t.flat.length - (r + 1))) (by omega) hlt hget ?_) | with_reducible first | apply l_ | apply m_ | apply n_ | apply o_ | refine p_ (fun _ => ?_) (fun _ => ?_)) <;> (conv => whnf)))
          exact ⟨r + 1, by show r + 1 ≤ _; omega, by omega, [(60, 60)], rfl, rfl, ⟨.inl rfl, ⟨rfl, rfl, rfl, rfl, rfl, rfl⟩, .inl rfl, PLe.int (by omega), PLe.int (by omega), trivial⟩, ⟨rfl, rfl, rfl, rfl⟩, trivial⟩
        · have er : t.flat.length - r = 0 := by omega
          have hb0 : bal (t.flat.take (t.flat.length - r)) = 0 := by rw [er, List.take_zero]; rfl
          have lR : ∀ n, n = ks.length - (k + 1) → (splR ks k)[n]? = some nilR := by
            rintro n rfl; exact splR_row q
          have lS : ∀ n v, n = ks.length - (k + 1) → v = ek t.flat → (splR ks k).set n v = splR ks (k + 1) := by
            rintro n v rfl hv
            exact splR_step q (by rw [hv, ht])
          ((conv => whnf); repeat' ((first | (with_reducible first | apply a_ | apply b_ | apply c_) | ((with_reducible first | apply d_ | apply e_ | apply f_ | apply g_); focus first | omega | (simp only [q_] <;> omega)) | ((with_reducible first | apply i_ | apply h_); focus first | omega | (simp only [q_] <;> omega)) | ((with_reducible apply h_); focus first | decide | kernel_rfl) | refine BCase.t (by decide) ?_ | refine BCase.f (by decide) ?_ | (refine Row.mk nilR (lR _ (by omega)) ?_) | with_reducible first | apply l_ | apply m_ | apply n_ | apply o_ | refine p_ (fun _ => ?_) (fun _ => ?_)) <;> (conv => whnf)))
          refine ⟨k + 1, by show k + 1 ≤ _; omega, by omega, [(60, 60)], rfl, rfl, ⟨.inl ?_, ⟨rfl, rfl, rfl, rfl, rfl, rfl⟩, PLe.int (by omega), trivial⟩, ⟨rfl, rfl, rfl, ?_⟩, trivial⟩
          · have e1 : (((Ex.flats (ks.take (ks.length - k))).map NodeD.c).drop 0).take ((pre.length + (t.flat.length - r) : Nat) : Int).toNat = pre.map NodeD.c := by
              rw [List.drop_zero, er, hs, List.map_append, show ((pre.length + 0 : Nat) : Int).toNat = pre.length by omega, List.take_left' (by rw [List.length_map])]
            exact congrArg (C.sl 6) (e1.trans (by rw [hpre]))
          · apply lS
            · omega
            · have e2 : (((Ex.flats (ks.take (ks.length - k))).map NodeD.c).drop ((pre.length + (t.flat.length - r) : Nat) : Int).toNat).take ((((Ex.flats (ks.take (ks.length - k))).map NodeD.c).length : Int).toNat - ((pre.length + (t.flat.length - r) : Nat) : Int).toNat) = t.flat.map NodeD.c := by
                rw [er, hs, List.map_append, show ((pre.length + 0 : Nat) : Int).toNat = pre.length by omega, List.drop_left' (by rw [List.length_map])]
                exact List.take_of_length_le (by rw [List.length_append, List.length_map, List.length_map]; omega)
              exact congrArg (fun x => [C.sl 6 x]) e2
    · ((conv => whnf); repeat' ((first | (with_reducible first | apply a_ | apply b_ | apply c_) | ((with_reducible first | apply d_ | apply e_ | apply f_ | apply g_); focus first | omega | (simp only [q_] <;> omega)) | ((with_reducible first | apply i_ | apply h_); focus first | omega | (simp only [q_] <;> omega)) | ((with_reducible apply h_); focus first | decide | kernel_rfl) | refine BCase.t (by decide) ?_ | refine BCase.f (by decide) ?_ | with_reducible first | apply l_ | apply m_ | apply n_ | apply o_ | refine p_ (fun _ => ?_) (fun _ => ?_)) <;> (conv => whnf)))
      refine Need.mk (by rw [splR_len _ _ hk2]; omega) ?_
      ((conv => whnf); repeat' ((first | (with_reducible first | apply a_ | apply b_ | apply c_) | ((with_reducible first | apply d_ | apply e_ | apply f_ | apply g_); focus first | omega | (simp only [q_] <;> omega)) | ((with_reducible first | apply i_ | apply h_); focus first | omega | (simp only [q_] <;> omega)) | ((with_reducible apply h_); focus first | decide | kernel_rfl) | refine BCase.t (by decide) ?_ | refine BCase.f (by decide) ?_ | with_reducible first | apply l_ | apply m_ | apply n_ | apply o_ | refine p_ (fun _ => ?_) (fun _ => ?_)) <;> (conv => whnf)))
      refine Ret.eq ?_
      have e1 : ((splR ks k).drop 0).take ks.length = ks.map fun k => ek k.flat := by
        rw [List.drop_zero, List.take_of_length_le (by rw [splR_len _ _ hk2]; omega)]
        unfold splR
        rw [show ks.length - k = 0 by omega]; rfl
      exact congrArg (fun x => PV.d (D.c (C.sl 1 x))) e1
end Go.Proofs.YtmcmagfondjopaaDoor.Pm
end
section
namespace Go.Proofs.YtmcmagfondjopaaDoor.Pm
open Go.RowKit K
set_option linter.unusedVariables false
set_option linter.unusedSimpArgs false
set_option maxRecDepth 100000
theorem s_split (n : NodeD) (ks : List Ex) (hg : (Ex.mk n ks).good) (e : List NodeD) (he : (Ex.mk n ks).flat = e) (hl : e.length ≤ 1000) : CallS Tryd.prog 43 [slV 6 NodeD.c e] [] [] (.d (.arr NK 22 1 0 ks.length)) [(NK, .arr 22 1 (ks.map fun k => ek k.flat))] := by
  have hg0 := hg
  rw [Ex.good] at hg0
  obtain ⟨hk, hgs⟩ := hg0
  have hlen : e.length = (Ex.flats ks).length + 1 := by rw [← he, Ex.flat, List.length_append, List.length_singleton]
  have hml : (e.map NodeD.c).length = (Ex.flats ks).length + 1 := by rw [List.length_map, hlen]
  have he2 := root_at (n := n) (ks := ks) (e := e) (pre := []) (post := []) (by rw [he]; simp)
  obtain ⟨hr1, hr2⟩ := root_get he2
  have hpl : ([] ++ Ex.flats ks).length = (Ex.flats ks).length := rfl
  have hkb := len_le_flats ks
  have hsp : Ex.flats ks = Ex.flats (ks.take ks.length) := by rw [List.take_length]
  refine callS_of Tryd.func43 (by rfl) rfl (by kernel_rfl) (by rfl) [] rfl ?_
  ((conv => whnf); repeat' ((first | (with_reducible first | apply a_ | apply b_ | apply c_) | ((with_reducible first | apply d_ | apply e_ | apply f_ | apply g_); focus first | omega | (simp only [q_] <;> omega)) | ((with_reducible first | apply i_ | apply h_); focus first | omega | (simp only [q_] <;> omega)) | ((with_reducible apply h_); focus first | decide | kernel_rfl) | refine BCase.t (by decide) ?_ | refine BCase.f (by decide) ?_ | (refine Idx.mapE ([] ++ Ex.flats ks).length (by omega) hr1 hr2 ?_) | with_reducible first | apply l_ | apply m_ | apply n_ | apply o_ | refine p_ (fun _ => ?_) (fun _ => ?_)) <;> (conv => whnf)))
  refine Need.mk ⟨by omega, rfl, (by show (24 : Int) * _ ≤ _; omega), by omega⟩ ?_
  ((conv => whnf); repeat' ((first | (with_reducible first | apply a_ | apply b_ | apply c_) | ((with_reducible first | apply d_ | apply e_ | apply f_ | apply g_); focus first | omega | (simp only [q_] <;> omega)) | ((with_reducible first | apply i_ | apply h_); focus first | omega | (simp only [q_] <;> omega)) | ((with_reducible apply h_); focus first | decide | kernel_rfl) | refine BCase.t (by decide) ?_ | refine BCase.f (by decide) ?_ | with_reducible first | apply l_ | apply m_ | apply n_ | apply o_ | refine p_ (fun _ => ?_) (fun _ => ?_)) <;> (conv => whnf)))
  refine LoopC.mk Nat (fun k => [(4, slV 6 NodeD.c (Ex.flats (ks.take (ks.length - k)))), (5, .d (.arr 60 22 1 0 ks.length)), (6, pInt .i64 ((ks.length : Int) - 1 - k))]) (fun k => [(60, .arr 22 1 (splR ks k))]) [60] (fun k => k ≤ ks.length) (fun k => ks.length - k) 0 (Nat.zero_le _) ?start ?round
  case start =>
    refine ⟨[(60, 22)], rfl, rfl, ⟨?_, ⟨rfl, rfl, rfl, rfl, rfl, ?_⟩, PLe.int (by omega), trivial⟩, ⟨rfl, rfl, rfl, ?_⟩, trivial⟩
    · have e1 : ((e.map NodeD.c).drop 0).take ((((e.map NodeD.c).length : Int) - 1).toNat - 0) = (Ex.flats ks).map NodeD.c := by
        rw [List.drop_zero, hml, show ((((Ex.flats ks).length + 1 : Nat) : Int) - 1).toNat - 0 = (Ex.flats ks).length by omega, he2, List.nil_append, List.map_append, List.take_left' (by rw [List.length_map])]
      exact .inl (congrArg (C.sl 6) (e1.trans (by rw [Nat.sub_zero, ← hsp])))
    · omega
    · show List.replicate _ nilR = _
      unfold splR
      rw [Nat.sub_zero, List.drop_length, List.map_nil, List.append_nil, show n.Kids.toNat = ks.length by omega]
  case round =>
    intro k hk2
    have hk2 : k ≤ ks.length := hk2
    by_cases q : k < ks.length
    · have hi : ks.length - (k + 1) < ks.length := by omega
      have hm := List.getElem_mem hi
      have hkg := Ex.goods_mem hgs _ hm
      have hfl := flat_le_flats hm
      have hs := flats_snoc hi
      rw [show ks.length - (k + 1) + 1 = ks.length - k by omega] at hs
      have hsl : (Ex.flats (ks.take (ks.length - k))).length ≤ (Ex.flats ks).length := by
        have := flats_part hi
        rw [show ks.length - (k + 1) + 1 = ks.length - k by omega] at this
        rw [this, hs]; simp
      obtain ⟨pre, hpre⟩ : ∃ R, R = Ex.flats (ks.take (ks.length - (k + 1))) := ⟨_, rfl⟩
      obtain ⟨t, ht⟩ : ∃ t, t = ks[ks.length - (k + 1)] := ⟨_, rfl⟩
      rw [← ht] at hs hkg hfl
      rw [← hpre] at hs
      have hRl : (Ex.flats (ks.take (ks.length - k))).length = pre.length + t.flat.length := by rw [hs, List.length_append]
      ((conv => whnf); repeat' ((first | (with_reducible first | apply a_ | apply b_ | apply c_) | ((with_reducible first | apply d_ | apply e_ | apply f_ | apply g_); focus first | omega | (simp only [q_] <;> omega)) | ((with_reducible first | apply i_ | apply h_); focus first | omega | (simp only [q_] <;> omega)) | ((with_reducible apply h_); focus first | decide | kernel_rfl) | refine BCase.t (by decide) ?_ | refine BCase.f (by decide) ?_ | with_reducible first | apply l_ | apply m_ | apply n_ | apply o_ | refine p_ (fun _ => ?_) (fun _ => ?_)) <;> (conv => whnf)))
      refine LoopC.mk Nat (fun r => [(4, slV 6 NodeD.c (Ex.flats (ks.take (ks.length - k)))), (5, .d (.arr 60 22 1 0 ks.length)), (6, pInt .i64 ((ks.length : Int) - 1 - k)), (7, pInt .i64 ((pre.length + (t.flat.length - r) : Nat) : Int)), (8, pInt .i64 (bal (t.flat.take (t.flat.length - r))))]) (fun _ => [(60, .arr 22 1 (splR ks k))]) [60] (fun r => r ≤ t.flat.length) (fun r => t.flat.length - r) 0 (Nat.zero_le _) ?s2 ?r2
      case s2 => exact ⟨[(60, 60)], rfl, rfl, ⟨.inl rfl, ⟨rfl, rfl, rfl, rfl, rfl, rfl⟩, .inl rfl, PLe.int (by simp only [List.length_map]; omega), PLe.int (by rw [Nat.sub_zero, List.take_length, bal_flat t hkg]), trivial⟩, ⟨rfl, rfl, rfl, rfl⟩, trivial⟩
      case r2 =>
        intro r hr
        have hr : r ≤ t.flat.length := hr
        by_cases q2 : r < t.flat.length
        · have hb1 := bal_in hkg (m := t.flat.length - r) (by omega)
          have hb2 := bal_in hkg (m := t.flat.length - (r + 1)) (by omega)
          have hb3 := bal_step (l := t.flat) (m := t.flat.length - (r + 1)) (by omega)
          rw [show t.flat.length - (r + 1) + 1 = t.flat.length - r by omega] at hb3
          have hb4 := hb1.2.2.2 (by omega)
          have hlt : pre.length + (t.flat.length - (r + 1)) < (Ex.flats (ks.take (ks.length - k))).length := by omega
          have hget : (Ex.flats (ks.take (ks.length - k)))[pre.length + (t.flat.length - (r + 1))] = t.flat[t.flat.length - (r + 1)] := by
            have : (Ex.flats (ks.take (ks.length - k)))[pre.length + (t.flat.length - (r + 1))]? = some t.flat[t.flat.length - (r + 1)] := by
              rw [hs, List.getElem?_append_right (by omega), Nat.add_sub_cancel_left, List.getElem?_eq_getElem (by omega)]
            rw [List.getElem?_eq_getElem hlt] at this
            exact Option.some.inj this
          ((conv => whnf); repeat' ((first | (with_reducible first | apply a_ | apply b_ | apply c_) | ((with_reducible first | apply d_ | apply e_ | apply f_ | apply g_); focus first | omega | (simp only [q_] <;> omega)) | ((with_reducible first | apply i_ | apply h_); focus first | omega | (simp only [q_] <;> omega)) | ((with_reducible apply h_); focus first | decide | kernel_rfl) | refine BCase.t (by decide) ?_ | refine BCase.f (by decide) ?_ | (refine Idx.mapE (pre.length + (t.flat.length - (r + 1))) (by omega) hlt hget ?_) | with_reducible first | apply l_ | apply m_ | apply n_ | apply o_ | refine p_ (fun _ => ?_) (fun _ => ?_)) <;> (conv => whnf)))
          exact ⟨r + 1, by show r + 1 ≤ _; omega, by omega, [(60, 60)], rfl, rfl, ⟨.inl rfl, ⟨rfl, rfl, rfl, rfl, rfl, rfl⟩, .inl rfl, PLe.int (by omega), PLe.int (by omega), trivial⟩, ⟨rfl, rfl, rfl, rfl⟩, trivial⟩
        · have er : t.flat.length - r = 0 := by omega
          have hb0 : bal (t.flat.take (t.flat.length - r)) = 0 := by rw [er, List.take_zero]; rfl
          have lR : ∀ n, n = ks.length - (k + 1) → (splR ks k)[n]? = some nilR := by
            rintro n rfl; exact splR_row q
          have lS : ∀ n v, n = ks.length - (k + 1) → v = ek t.flat → (splR ks k).set n v = splR ks (k + 1) := by
            rintro n v rfl hv
            exact splR_step q (by rw [hv, ht])
          ((conv => whnf); repeat' ((first | (with_reducible first | apply a_ | apply b_ | apply c_) | ((with_reducible first | apply d_ | apply e_ | apply f_ | apply g_); focus first | omega | (simp only [q_] <;> omega)) | ((with_reducible first | apply i_ | apply h_); focus first | omega | (simp only [q_] <;> omega)) | ((with_reducible apply h_); focus first | decide | kernel_rfl) | refine BCase.t (by decide) ?_ | refine BCase.f (by decide) ?_ | (refine Row.mk nilR (lR _ (by omega)) ?_) | with_reducible first | apply l_ | apply m_ | apply n_ | apply o_ | refine p_ (fun _ => ?_) (fun _ => ?_)) <;> (conv => whnf)))
          refine ⟨k + 1, by show k + 1 ≤ _; omega, by omega, [(60, 60)], rfl, rfl, ⟨.inl ?_, ⟨rfl, rfl, rfl, rfl, rfl, rfl⟩, PLe.int (by omega), trivial⟩, ⟨rfl, rfl, rfl, ?_⟩, trivial⟩
          · have e1 : (((Ex.flats (ks.take (ks.length - k))).map NodeD.c).drop 0).take ((pre.length + (t.flat.length - r) : Nat) : Int).toNat = pre.map NodeD.c := by
              rw [List.drop_zero, er, hs, List.map_append, show ((pre.length + 0 : Nat) : Int).toNat = pre.length by omega, List.take_left' (by rw [List.length_map])]
            exact congrArg (C.sl 6) (e1.trans (by rw [hpre]))
          · apply lS
            · omega
            · have e2 : (((Ex.flats (ks.take (ks.length - k))).map NodeD.c).drop ((pre.length + (t.flat.length - r) : Nat) : Int).toNat).take ((((Ex.flats (ks.take (ks.length - k))).map NodeD.c).length : Int).toNat - ((pre.length + (t.flat.length - r) : Nat) : Int).toNat) = t.flat.map NodeD.c := by
                rw [er, hs, List.map_append, show ((pre.length + 0 : Nat) : Int).toNat = pre.length by omega, List.drop_left' (by rw [List.length_map])]
                exact List.take_of_length_le (by rw [List.length_append, List.length_map, List.length_map]; omega)
              exact congrArg (fun x => [C.sl 6 x]) e2
    · ((conv => whnf); repeat' ((first | (with_reducible first | apply a_ | apply b_ | apply c_) | ((with_reducible first | apply d_ | apply e_ | apply f_ | apply g_); focus first | omega | (simp only [q_] <;> omega)) | ((with_reducible first | apply i_ | apply h_); focus first | omega | (simp only [q_] <;> omega)) | ((with_reducible apply h_); focus first | decide | kernel_rfl) | refine BCase.t (by decide) ?_ | refine BCase.f (by decide) ?_ | with_reducible first | apply l_ | apply m_ | apply n_ | apply o_ | refine p_ (fun _ => ?_) (fun _ => ?_)) <;> (conv => whnf)))
      refine RetS.mk [(NK, 60)] [NK] rfl rfl ⟨rfl, rfl, rfl, rfl, rfl, rfl⟩ ⟨⟨rfl, rfl, rfl, ?_⟩, trivial⟩
      show splR ks k = _
      unfold splR
      rw [show ks.length - k = 0 by omega]; rfl
theorem p_clonen (l : List NodeD) (h : l.length ≤ 1000000) : Pure Tryd.prog 44 [slV 6 NodeD.c l] (slV 6 NodeD.c l) := by
  cases l with
  | nil =>
    refine pure_sl0 ?_ fun a cap => ?_
    · refine pure_of Tryd.func44 (by rfl) rfl (by kernel_rfl) (by rfl) ?_
      ((conv => whnf); repeat' ((first | (with_reducible first | apply a_ | apply b_ | apply c_) | ((with_reducible first | apply d_ | apply e_ | apply f_ | apply g_); focus first | omega | (simp only [q_] <;> omega)) | ((with_reducible first | apply i_ | apply h_); focus first | omega | (simp only [q_] <;> omega)) | ((with_reducible apply h_); focus first | decide | kernel_rfl) | refine BCase.t (by decide) ?_ | refine BCase.f (by decide) ?_ | with_reducible first | apply l_ | apply m_ | apply n_ | apply o_ | refine p_ (fun _ => ?_) (fun _ => ?_)) <;> (conv => whnf)))
      exact Ret.le (.inr ⟨⟨6, rfl⟩, .inl rfl⟩)
    · refine pure_of Tryd.func44 (by rfl) rfl (by kernel_rfl) (by rfl) ?_
      ((conv => whnf); repeat' ((first | (with_reducible first | apply a_ | apply b_ | apply c_) | ((with_reducible first | apply d_ | apply e_ | apply f_ | apply g_); focus first | omega | (simp only [q_] <;> omega)) | ((with_reducible first | apply i_ | apply h_); focus first | omega | (simp only [q_] <;> omega)) | ((with_reducible apply h_); focus first | decide | kernel_rfl) | refine BCase.t (by decide) ?_ | refine BCase.f (by decide) ?_ | with_reducible first | apply l_ | apply m_ | apply n_ | apply o_ | refine p_ (fun _ => ?_) (fun _ => ?_)) <;> (conv => whnf)))
      exact Ret.mk rfl
  | cons x l =>
    refine pure_of Tryd.func44 (by rfl) rfl (by kernel_rfl) (by rfl) ?_
    ((conv => whnf); repeat' ((first | (with_reducible first | apply a_ | apply b_ | apply c_) | ((with_reducible first | apply d_ | apply e_ | apply f_ | apply g_); focus first | omega | (simp only [q_] <;> omega)) | ((with_reducible first | apply i_ | apply h_); focus first | omega | (simp only [q_] <;> omega)) | ((with_reducible apply h_); focus first | decide | kernel_rfl) | refine BCase.t (by decide) ?_ | refine BCase.f (by decide) ?_ | (refine Need.mk (List.cons_ne_nil _ _) ?_) | (refine Need.by 64 rfl (by simp only [List.length_map, List.length_nil, Nat.zero_add]; omega) ?_) | with_reducible first | apply l_ | apply m_ | apply n_ | apply o_ | refine p_ (fun _ => ?_) (fun _ => ?_)) <;> (conv => whnf)))
    exact Ret.mk rfl
theorem p_kids_bad (e : List NodeD) (hn : ∀ n ∈ e, okText n.Name) (h : checkF e ≠ 0) : Pure Tryd.prog 30 [slV 6 NodeD.c e] (.tup [.d (.c (.sl 1 [])), pInt .i64 (checkF e)]) := by
  have pc := p_echeck e hn
  refine pure_of Tryd.func30 (by rfl) rfl (by kernel_rfl) (by rfl) ?_
  ((conv => whnf); repeat' ((first | (with_reducible first | apply a_ | apply b_ | apply c_) | ((with_reducible first | apply d_ | apply e_ | apply f_ | apply g_); focus first | omega | (simp only [q_] <;> omega)) | ((with_reducible first | apply i_ | apply h_); focus first | omega | (simp only [q_] <;> omega)) | ((with_reducible apply h_); focus first | decide | kernel_rfl) | refine BCase.t (by decide) ?_ | refine BCase.f (by decide) ?_ | refine CallP.pure _ rfl _ (pc) ?_ | with_reducible first | apply l_ | apply m_ | apply n_ | apply o_ | refine p_ (fun _ => ?_) (fun _ => ?_)) <;> (conv => whnf)))
  all_goals first | exact Ret.le ⟨.inr ⟨⟨1, rfl⟩, .inl rfl⟩, .inl rfl, rfl⟩ | (exfalso; omega)
theorem p_kids (n : NodeD) (ks : List Ex) (ht : RightT (.mk n ks)) (e : List NodeD) (he : (Ex.mk n ks).flat = e) (hn : ∀ n ∈ e, okText n.Name) : Pure Tryd.prog 30 [slV 6 NodeD.c e] (.tup [.d (.c (.sl 1 (ks.map fun k => ek k.flat))), pInt .i64 0]) := by
  have hl := ht.len
  have pc := p_echeck e hn
  rw [← he, check_right ht, he] at pc
  rw [he] at hl
  have ps := s_split n ks ht.good e he (by omega)
  have hlen : e.length = (Ex.flats ks).length + 1 := by rw [← he, Ex.flat, List.length_append, List.length_singleton]
  have hkb := len_le_flats ks
  refine pure_of Tryd.func30 (by rfl) rfl (by kernel_rfl) (by rfl) ?_
  obtain ⟨rows, hrows⟩ : ∃ rows, rows = ks.map fun k => ek k.flat := ⟨_, rfl⟩
  have hrl : rows.length = ks.length := by rw [hrows, List.length_map]
  rw [← hrows] at ps ⊢
  ((conv => whnf); repeat' ((first | (with_reducible first | apply a_ | apply b_ | apply c_) | ((with_reducible first | apply d_ | apply e_ | apply f_ | apply g_); focus first | omega | (simp only [q_] <;> omega)) | ((with_reducible first | apply i_ | apply h_); focus first | omega | (simp only [q_] <;> omega)) | ((with_reducible apply h_); focus first | decide | kernel_rfl) | refine BCase.t (by decide) ?_ | refine BCase.f (by decide) ?_ | refine CallP.pure _ rfl _ (pc) ?_ | (refine CallP.ret [(NK, 14)] _ _ _ _ _ _ _ ps rfl rfl rfl rfl trivial ?_) | with_reducible first | apply l_ | apply m_ | apply n_ | apply o_ | refine p_ (fun _ => ?_) (fun _ => ?_)) <;> (conv => whnf)))
  refine LoopC.mk Nat (fun j => [(5, .d (.arr 60 22 1 0 ks.length)), (15, .d (.arr 60 22 1 0 ks.length)), (16, pInt .i64 ks.length), (17, pInt .i64 j)]) (fun _ => [(60, .arr 22 1 rows)]) [60] (fun j => j ≤ ks.length) (fun j => ks.length - j) 0 (Nat.zero_le _) ?start ?round
  case start => exact ⟨[(60, 14)], rfl, rfl, ⟨⟨rfl, rfl, rfl, rfl, rfl, rfl⟩, ⟨rfl, rfl, rfl, rfl, rfl, rfl⟩, PLe.int (by simp), .inl rfl, trivial⟩, ⟨rfl, rfl, rfl, rfl⟩, trivial⟩
  case round =>
    intro j hj
    have hj : j ≤ ks.length := hj
    by_cases q : j < ks.length
    · have hm := List.getElem_mem q
      have hfl := flat_le_flats hm
      have pk := p_clonen ks[j].flat (by omega)
      have lR : ∀ m, m = j → rows[m]? = some (ek ks[j].flat) := by
        rintro m rfl
        rw [hrows, List.getElem?_map, List.getElem?_eq_getElem q]; rfl
      have lS : ∀ m v, m = j → v = ek ks[j].flat → rows.set m v = rows := by
        rintro m v rfl rfl
        refine List.ext_getElem? fun i => ?_
        by_cases h : m = i
        · subst h
          rw [List.getElem?_set_self (by omega), lR m rfl]
        · rw [List.getElem?_set_ne h]
      ((conv => whnf); repeat' ((first | (with_reducible first | apply a_ | apply b_ | apply c_) | ((with_reducible first | apply d_ | apply e_ | apply f_ | apply g_); focus first | omega | (simp only [q_] <;> omega)) | ((with_reducible first | apply i_ | apply h_); focus first | omega | (simp only [q_] <;> omega)) | ((with_reducible apply h_); focus first | decide | kernel_rfl) | refine BCase.t (by decide) ?_ | refine BCase.f (by decide) ?_ | (refine Row.mk _ (lR _ (by omega)) ?_) | refine CallP.pure _ rfl _ (pk) ?_ | with_reducible first | apply l_ | apply m_ | apply n_ | apply o_ | refine p_ (fun _ => ?_) (fun _ => ?_)) <;> (conv => whnf)))
      refine ⟨j + 1, by show j + 1 ≤ _; omega, by omega, [(60, 60)], rfl, rfl, ⟨⟨rfl, rfl, rfl, rfl, rfl, rfl⟩, ⟨rfl, rfl, rfl, rfl, rfl, rfl⟩, .inl rfl, PLe.int rfl, trivial⟩, ⟨rfl, rfl, rfl, ?_⟩, trivial⟩
      exact lS _ _ (by omega) rfl
    · ((conv => whnf); repeat' ((first | (with_reducible first | apply a_ | apply b_ | apply c_) | ((with_reducible first | apply d_ | apply e_ | apply f_ | apply g_); focus first | omega | (simp only [q_] <;> omega)) | ((with_reducible first | apply i_ | apply h_); focus first | omega | (simp only [q_] <;> omega)) | ((with_reducible apply h_); focus first | decide | kernel_rfl) | refine BCase.t (by decide) ?_ | refine BCase.f (by decide) ?_ | with_reducible first | apply l_ | apply m_ | apply n_ | apply o_ | refine p_ (fun _ => ?_) (fun _ => ?_)) <;> (conv => whnf)))
      refine Ret.eq ?_
      show PV.tup [PV.d (D.c (C.sl 1 (List.take _ (List.drop 0 _)))), _] = _
      rw [List.drop_zero, List.take_of_length_le (by omega)]
end Go.Proofs.YtmcmagfondjopaaDoor.Pm
end
section
namespace Go.Proofs.YtmcmagfondjopaaDoor.Pm
open Go.RowKit K
set_option linter.unusedVariables false
set_option linter.unusedSimpArgs false
set_option maxRecDepth 100000
theorem chk_parts {e : List NodeD} (h : checkF e = 0) : e.length ≤ 60 ∧ chkO 0 e = 0 := by
  unfold checkF at h
  split at h
  · cases h
  · split at h
    · rename_i q; exact absurd h q
    · rename_i q; exact ⟨by omega, Decidable.of_not_not q⟩
def depthF (e : List NodeD) : Int := if checkF e ≠ 0 then 0 else (depthE e : Int)
theorem p_Depth (e : List NodeD) (hn : ∀ n ∈ e, okText n.Name) : Pure Tryd.prog 29 [slV 6 NodeD.c e] (.tup [pInt .i64 (depthF e), pInt .i64 (checkF e)]) := by
  have pc := p_echeck e hn
  refine pure_of Tryd.func29 (by rfl) rfl (by kernel_rfl) (by rfl) ?_
  unfold depthF
  by_cases hc : checkF e = 0
  · obtain ⟨h60, h0⟩ := chk_parts hc
    rw [hc] at pc
    have pw := p_walki e (by omega)
    rw [chk_ok h0] at pw
    have pw : Pure _ _ _ (.tup [pInt .i64 (depthE e), pInt .i64 0]) := pw
    rw [hc, if_neg (by decide)]
    ((conv => whnf); repeat' ((first | (with_reducible first | apply a_ | apply b_ | apply c_) | ((with_reducible first | apply d_ | apply e_ | apply f_ | apply g_); focus first | omega | (simp only [q_] <;> omega)) | ((with_reducible first | apply i_ | apply h_); focus first | omega | (simp only [q_] <;> omega)) | ((with_reducible apply h_); focus first | decide | kernel_rfl) | refine BCase.t (by decide) ?_ | refine BCase.f (by decide) ?_ | refine CallP.pure _ rfl _ (pc) ?_ | refine CallP.pure _ rfl _ (pw) ?_ | with_reducible first | apply l_ | apply m_ | apply n_ | apply o_ | refine p_ (fun _ => ?_) (fun _ => ?_)) <;> (conv => whnf)))
    all_goals first | exact Ret.eq rfl | (exfalso; omega)
  · rw [if_pos hc]
    ((conv => whnf); repeat' ((first | (with_reducible first | apply a_ | apply b_ | apply c_) | ((with_reducible first | apply d_ | apply e_ | apply f_ | apply g_); focus first | omega | (simp only [q_] <;> omega)) | ((with_reducible first | apply i_ | apply h_); focus first | omega | (simp only [q_] <;> omega)) | ((with_reducible apply h_); focus first | decide | kernel_rfl) | refine BCase.t (by decide) ?_ | refine BCase.f (by decide) ?_ | refine CallP.pure _ rfl _ (pc) ?_ | with_reducible first | apply l_ | apply m_ | apply n_ | apply o_ | refine p_ (fun _ => ?_) (fun _ => ?_)) <;> (conv => whnf)))
    all_goals first | exact Ret.eq rfl | (exfalso; omega)
theorem depths_snoc {ks : List Ex} {i : Nat} (h : i < ks.length) : Ex.depths (ks.take (i + 1)) = max (Ex.depths (ks.take i)) ks[i].depth := by
  rw [take_snoc h]
  generalize ks.take i = a
  induction a with
  | nil => simp [Ex.depths]
  | cons t a ih => rw [List.cons_append, Ex.depths, Ex.depths, ih]; omega
mutual
theorem depth_le : ∀ t : Ex, t.depth ≤ t.flat.length
  | .mk n ks => by
    rw [Ex.depth, Ex.flat, List.length_append, List.length_singleton]
    have := depths_le ks
    omega
theorem depths_le : ∀ l : List Ex, Ex.depths l ≤ (Ex.flats l).length
  | [] => by rw [Ex.depths]; omega
  | t :: l => by
    rw [Ex.depths, Ex.flats, List.length_append]
    have := depth_le t
    have := depths_le l
    omega
end
end Go.Proofs.YtmcmagfondjopaaDoor.Pm
end
section
namespace Go.Proofs.YtmcmagfondjopaaDoor.Pm
open Go.RowKit K
set_option linter.unusedVariables false
set_option linter.unusedSimpArgs false
set_option maxRecDepth 100000
def tkk (l : List TokenD) : List C := [.sl 4 (l.map TokenD.c)]
theorem flatten_take {α : Type} : ∀ (ps : List (List α)) (k : Nat), (ps.take k).flatten.length ≤ ps.flatten.length
  | [], k => by simp
  | p :: ps, 0 => by simp
  | p :: ps, k + 1 => by
    rw [List.take_succ_cons, List.flatten_cons, List.flatten_cons, List.length_append, List.length_append]
    have := flatten_take ps k
    omega
theorem flatten_snoc {α : Type} {ps : List (List α)} {k : Nat} (h : k < ps.length) : (ps.take (k + 1)).flatten = (ps.take k).flatten ++ ps[k] := by
  rw [take_snoc h, List.flatten_append, List.flatten_singleton]
theorem p_tkjoin (ps : List (List TokenD)) (x : List TokenD) (hx : ps.flatten = x) (hj : x.length ≤ 100000) (hl : ps.length ≤ 100000) : Pure Tryd.prog 14 [.d (.c (.sl 1 (ps.map tkk)))] (slV 4 TokenD.c x) := by
  subst hx
  refine pure_of Tryd.func14 (by rfl) rfl (by kernel_rfl) (by rfl) ?_
  ((conv => whnf); repeat' ((first | (with_reducible first | apply a_ | apply b_ | apply c_) | ((with_reducible first | apply d_ | apply e_ | apply f_ | apply g_); focus first | omega | (simp only [q_] <;> omega)) | ((with_reducible first | apply i_ | apply h_); focus first | omega | (simp only [q_] <;> omega)) | ((with_reducible apply h_); focus first | decide | kernel_rfl) | refine BCase.t (by decide) ?_ | refine BCase.f (by decide) ?_ | with_reducible first | apply l_ | apply m_ | apply n_ | apply o_ | refine p_ (fun _ => ?_) (fun _ => ?_)) <;> (conv => whnf)))
  refine LoopC.mk Nat (fun k => [(0, .d (.c (.sl 1 (ps.map tkk)))), (3, .d (.app 60 42 4 ((ps.take k).flatten.map TokenD.c))), (4, pInt .i64 (k : Int))]) (fun _ => [(60, .tail 42 4)]) [60] (fun k => k ≤ ps.length) (fun k => ps.length - k) 0 (Nat.zero_le _) ?start ?round
  case start => exact ⟨[], rfl, rfl, ⟨.inl rfl, ⟨rfl, rfl, Nat.zero_lt_succ _, rfl, rfl⟩, .inl rfl, trivial⟩, ⟨rfl, Nat.zero_lt_succ _⟩, trivial⟩
  case round =>
    intro k hk
    have hk : k ≤ ps.length := hk
    by_cases q : k < ps.length
    · have hs := flatten_snoc q
      have hle := flatten_take ps (k + 1)
      rw [hs, List.length_append] at hle
      ((conv => whnf); repeat' ((first | (with_reducible first | apply a_ | apply b_ | apply c_) | ((with_reducible first | apply d_ | apply e_ | apply f_ | apply g_); focus first | omega | (simp only [q_] <;> omega)) | ((with_reducible first | apply i_ | apply h_); focus first | omega | (simp only [q_] <;> omega)) | ((with_reducible apply h_); focus first | decide | kernel_rfl) | refine BCase.t (by decide) ?_ | refine BCase.f (by decide) ?_ | (refine Idx.mapI (f := tkk) k rfl q ?_) | (refine Need.by 40 rfl (by simp only [List.length_map]; omega) ?_) | with_reducible first | apply l_ | apply m_ | apply n_ | apply o_ | refine p_ (fun _ => ?_) (fun _ => ?_)) <;> (conv => whnf)))
      all_goals first
        | exact ⟨k + 1, by show k + 1 ≤ _; omega, by show ps.length - (k + 1) < ps.length - k; omega, [(60, 16)], rfl, rfl, ⟨.inl rfl, ⟨rfl, rfl, rfl, rfl, by rw [hs, List.map_append]⟩, PLe.int (by omega), trivial⟩, ⟨rfl, rfl, rfl⟩, trivial⟩
        | (exfalso; omega)
    · have e : ps.take k = ps := List.take_of_length_le (by omega)
      rw [e]
      ((conv => whnf); repeat' ((first | (with_reducible first | apply a_ | apply b_ | apply c_) | ((with_reducible first | apply d_ | apply e_ | apply f_ | apply g_); focus first | omega | (simp only [q_] <;> omega)) | ((with_reducible first | apply i_ | apply h_); focus first | omega | (simp only [q_] <;> omega)) | ((with_reducible apply h_); focus first | decide | kernel_rfl) | refine BCase.t (by decide) ?_ | refine BCase.f (by decide) ?_ | with_reducible first | apply l_ | apply m_ | apply n_ | apply o_ | refine p_ (fun _ => ?_) (fun _ => ?_)) <;> (conv => whnf)))
      exact Ret.mk rfl
theorem p_wtok (s : List UInt8) : Pure Tryd.prog 13 [pStr (tx s)] (slV 4 TokenD.c [⟨1, 0, 0, s⟩]) := by
  refine pure_of Tryd.func13 (by rfl) rfl (by kernel_rfl) (by rfl) ?_
  ((conv => whnf); repeat' ((first | (with_reducible first | apply a_ | apply b_ | apply c_) | ((with_reducible first | apply d_ | apply e_ | apply f_ | apply g_); focus first | omega | (simp only [q_] <;> omega)) | ((with_reducible first | apply i_ | apply h_); focus first | omega | (simp only [q_] <;> omega)) | ((with_reducible apply h_); focus first | decide | kernel_rfl) | refine BCase.t (by decide) ?_ | refine BCase.f (by decide) ?_ | with_reducible first | apply l_ | apply m_ | apply n_ | apply o_ | refine p_ (fun _ => ?_) (fun _ => ?_)) <;> (conv => whnf)))
  exact Ret.mk rfl
theorem p_stok (s : List UInt8) : Pure Tryd.prog 15 [pStr (tx s)] (slV 4 TokenD.c [⟨5, 0, 0, s⟩]) := by
  refine pure_of Tryd.func15 (by rfl) rfl (by kernel_rfl) (by rfl) ?_
  ((conv => whnf); repeat' ((first | (with_reducible first | apply a_ | apply b_ | apply c_) | ((with_reducible first | apply d_ | apply e_ | apply f_ | apply g_); focus first | omega | (simp only [q_] <;> omega)) | ((with_reducible first | apply i_ | apply h_); focus first | omega | (simp only [q_] <;> omega)) | ((with_reducible apply h_); focus first | decide | kernel_rfl) | refine BCase.t (by decide) ?_ | refine BCase.f (by decide) ?_ | with_reducible first | apply l_ | apply m_ | apply n_ | apply o_ | refine p_ (fun _ => ?_) (fun _ => ?_)) <;> (conv => whnf)))
  exact Ret.mk rfl
theorem p_bind (op : Int) (h : 1 ≤ op) : Pure Tryd.prog 17 [pInt .i64 op] (pInt .i64 (lvlF op)) := by
  refine pure_of Tryd.func17 (by rfl) rfl (by kernel_rfl) (by rfl) ?_
  by_cases g : op ≤ 17
  · have : op = 1 ∨ op = 2 ∨ op = 3 ∨ op = 4 ∨ op = 5 ∨ op = 6 ∨ op = 7 ∨ op = 8 ∨ op = 9 ∨ op = 10 ∨ op = 11 ∨ op = 12 ∨ op = 13 ∨ op = 14 ∨ op = 15 ∨ op = 16 ∨ op = 17 := by omega
    rcases this with rfl | rfl | rfl | rfl | rfl | rfl | rfl | rfl | rfl | rfl | rfl | rfl | rfl | rfl | rfl | rfl | rfl
    all_goals
      ((conv => whnf); repeat' ((first | (with_reducible first | apply a_ | apply b_ | apply c_) | ((with_reducible first | apply d_ | apply e_ | apply f_ | apply g_); focus first | omega | (simp only [q_] <;> omega)) | ((with_reducible first | apply i_ | apply h_); focus first | omega | (simp only [q_] <;> omega)) | ((with_reducible apply h_); focus first | decide | kernel_rfl) | refine BCase.t (by decide) ?_ | refine BCase.f (by decide) ?_ | with_reducible first | apply l_ | apply m_ | apply n_ | apply o_ | refine p_ (fun _ => ?_) (fun _ => ?_)) <;> (conv => whnf)))
      exact Ret.mk rfl
  · have e : lvlF op = 4 := by
      unfold lvlF
      rw [if_neg (by omega), if_neg (by omega), if_neg (by omega), if_neg (by omega), if_neg (by omega), if_neg (by omega), if_neg (by omega)]
    rw [e]
    ((conv => whnf); repeat' ((first | (with_reducible first | apply a_ | apply b_ | apply c_) | ((with_reducible first | apply d_ | apply e_ | apply f_ | apply g_); focus first | omega | (simp only [q_] <;> omega)) | ((with_reducible first | apply i_ | apply h_); focus first | omega | (simp only [q_] <;> omega)) | ((with_reducible apply h_); focus first | decide | kernel_rfl) | refine BCase.t (by decide) ?_ | refine BCase.f (by decide) ?_ | with_reducible first | apply l_ | apply m_ | apply n_ | apply o_ | refine p_ (fun _ => ?_) (fun _ => ?_)) <;> (conv => whnf)))
    all_goals first | exact Ret.mk rfl | (exfalso; omega)
theorem mark_signs : ∀ s ∈ [sLp, sRp, sCo, sMi, [43], [42], [47], [37], [61], [60, 62], [60], [60, 61], [62], [62, 61]], wordB s = false := by decide +kernel
theorem mark_words : ∀ s ∈ [wNot, wNull, wIs, wLike, wIn, wBetw, wAnd, wOr], wordB s = true := by decide +kernel
theorem mark_s {s : List UInt8} (h : wordB s = false) : markT s = ⟨5, 0, 0, s⟩ := by unfold markT; rw [h]; rfl
theorem mark_w {s : List UInt8} (h : wordB s = true) : markT s = ⟨1, 0, 0, s⟩ := by unfold markT; rw [h]; rfl
theorem p_midtok (op : Int) (h : 5 ≤ op ∧ op ≤ 17) : Pure Tryd.prog 18 [pInt .i64 op] (slV 4 TokenD.c [markT (sgn op)]) := by
  have hs := mark_signs
  have hw := mark_words
  have : op = 5 ∨ op = 6 ∨ op = 7 ∨ op = 8 ∨ op = 9 ∨ op = 10 ∨ op = 11 ∨ op = 12 ∨ op = 13 ∨ op = 14 ∨ op = 15 ∨ op = 16 ∨ op = 17 := by omega
  refine pure_of Tryd.func18 (by rfl) rfl (by kernel_rfl) (by rfl) ?_
  rcases this with rfl | rfl | rfl | rfl | rfl | rfl | rfl | rfl | rfl | rfl | rfl | rfl | rfl
  case inr.inr.inr.inr.inr.inr.inr.inr.inr.inr.inr.inl =>
    have p : Pure _ _ [pStr ⟨[97, 110, 100].toArray⟩] _ := p_wtok wAnd
    ((conv => whnf); repeat' ((first | (with_reducible first | apply a_ | apply b_ | apply c_) | ((with_reducible first | apply d_ | apply e_ | apply f_ | apply g_); focus first | omega | (simp only [q_] <;> omega)) | ((with_reducible first | apply i_ | apply h_); focus first | omega | (simp only [q_] <;> omega)) | ((with_reducible apply h_); focus first | decide | kernel_rfl) | refine BCase.t (by decide) ?_ | refine BCase.f (by decide) ?_ | (refine GLd.mk _ rfl ?_) | refine CallP.pure _ rfl _ (p) ?_ | with_reducible first | apply l_ | apply m_ | apply n_ | apply o_ | refine p_ (fun _ => ?_) (fun _ => ?_)) <;> (conv => whnf)))
    rw [mark_w (hw (sgn 16) (by decide))]
    exact Ret.mk rfl
  case inr.inr.inr.inr.inr.inr.inr.inr.inr.inr.inr.inr =>
    have p : Pure _ _ [pStr ⟨[111, 114].toArray⟩] _ := p_wtok wOr
    ((conv => whnf); repeat' ((first | (with_reducible first | apply a_ | apply b_ | apply c_) | ((with_reducible first | apply d_ | apply e_ | apply f_ | apply g_); focus first | omega | (simp only [q_] <;> omega)) | ((with_reducible first | apply i_ | apply h_); focus first | omega | (simp only [q_] <;> omega)) | ((with_reducible apply h_); focus first | decide | kernel_rfl) | refine BCase.t (by decide) ?_ | refine BCase.f (by decide) ?_ | (refine GLd.mk _ rfl ?_) | refine CallP.pure _ rfl _ (p) ?_ | with_reducible first | apply l_ | apply m_ | apply n_ | apply o_ | refine p_ (fun _ => ?_) (fun _ => ?_)) <;> (conv => whnf)))
    rw [mark_w (hw (sgn 17) (by decide))]
    exact Ret.mk rfl
  all_goals
    rw [mark_s (hs (sgn _) (by decide))]
    ((conv => whnf); repeat' ((first | (with_reducible first | apply a_ | apply b_ | apply c_) | ((with_reducible first | apply d_ | apply e_ | apply f_ | apply g_); focus first | omega | (simp only [q_] <;> omega)) | ((with_reducible first | apply i_ | apply h_); focus first | omega | (simp only [q_] <;> omega)) | ((with_reducible apply h_); focus first | decide | kernel_rfl) | refine BCase.t (by decide) ?_ | refine BCase.f (by decide) ?_ | (refine GLd.mk _ rfl ?_) | refine CallP.pure _ rfl _ (p_stok [43]) ?_ | refine CallP.pure _ rfl _ (p_stok [45]) ?_ | refine CallP.pure _ rfl _ (p_stok [42]) ?_ | refine CallP.pure _ rfl _ (p_stok [47]) ?_ | refine CallP.pure _ rfl _ (p_stok [37]) ?_ | refine CallP.pure _ rfl _ (p_stok [61]) ?_ | refine CallP.pure _ rfl _ (p_stok [60, 62]) ?_ | refine CallP.pure _ rfl _ (p_stok [60]) ?_ | refine CallP.pure _ rfl _ (p_stok [60, 61]) ?_ | refine CallP.pure _ rfl _ (p_stok [62]) ?_ | refine CallP.pure _ rfl _ (p_stok [62, 61]) ?_ | with_reducible first | apply l_ | apply m_ | apply n_ | apply o_ | refine p_ (fun _ => ?_) (fun _ => ?_)) <;> (conv => whnf)))
    exact Ret.mk rfl
end Go.Proofs.YtmcmagfondjopaaDoor.Pm
end
section
namespace Go.Proofs.YtmcmagfondjopaaDoor.Pm
open Go.RowKit K
set_option linter.unusedVariables false
set_option linter.unusedSimpArgs false
set_option maxRecDepth 100000
abbrev tPP : Nat := 90
abbrev oneI (o : Int) : List C := [C.v (.int .i64 o)]
abbrev opsV (ops : List Int) : PV := .d (.app FK3 3 1 (ops.map oneI))
abbrev opsH : Nat × HB := (FK3, .tail 3 1)
theorem s_chain1 (op : Int) (l : List TokenD) (hl : l.length ≤ 100000) (out : List NodeD) : CallS Tryd.prog 79 [pInt .i64 op, .d (.ptr FK2 0)] [(FK2, .box tPP [.ptr FK 0]), (FK1, pAr out)] [(FK, pBx FK1 l out.length)] (pBool (isH (sgn op) l)) [(FK, pBx FK1 (tkO (sgn op) l) out.length)] := by
  have ps := p_sign op
  have pt := s_take (sgn op) l hl out
  refine callS_of Tryd.func79 (by rfl) rfl (by kernel_rfl) (by rfl) [FK2, FK1, FK] rfl ?_
  ((conv => whnf); repeat' ((first | (with_reducible first | apply a_ | apply b_ | apply c_) | ((with_reducible first | apply d_ | apply e_ | apply f_ | apply g_); focus first | omega | (simp only [q_] <;> omega)) | ((with_reducible first | apply i_ | apply h_); focus first | omega | (simp only [q_] <;> omega)) | ((with_reducible apply h_); focus first | decide | kernel_rfl) | refine BCase.t (by decide) ?_ | refine BCase.f (by decide) ?_ | refine CallP.pure _ rfl _ (ps) ?_ | (refine CallP.ret [(FK, FK), (FK1, FK1)] _ _ _ _ _ _ _ pt rfl rfl rfl rfl ⟨rfl, rfl, trivial⟩ ?_) | with_reducible first | apply l_ | apply m_ | apply n_ | apply o_ | refine p_ (fun _ => ?_) (fun _ => ?_)) <;> (conv => whnf)))
  refine RetS.mk [(FK, FK), (FK1, FK1), (FK2, FK2)] [FK2, FK1, FK] rfl rfl (.inl rfl) ?_ <;> (repeat' (first | exact rfl | exact trivial | exact Or.inl rfl | refine And.intro ?_ ?_))
def ixN : List Int → List TokenD → Nat
  | [], _ => 0
  | o :: os, l => if isH (sgn o) l then 0 else ixN os l + 1
theorem ixN_le : ∀ (ops : List Int) (l : List TokenD), ixN ops l ≤ ops.length
  | [], l => Nat.le_refl _
  | o :: os, l => by
    have := ixN_le os l
    rw [ixN]
    split
    · omega
    · rw [List.length_cons]; omega
theorem ixN_at : ∀ (ops : List Int) (l : List TokenD) (j : Nat), j ≤ ops.length → (∀ i, i < j → ∀ h : i < ops.length, isH (sgn ops[i]) l = false) → (∀ h : j < ops.length, isH (sgn ops[j]) l = true) → ixN ops l = j
  | [], l, j, hj, _, _ => by rw [ixN]; have : j ≤ 0 := hj; omega
  | o :: os, l, 0, hj, _, h2 => by
    have h0 : isH (sgn o) l = true := h2 (by simp)
    rw [ixN, if_pos h0]
  | o :: os, l, j + 1, hj, h1, h2 => by
    have h0 := h1 0 (by omega) (by simp)
    have h0 : isH (sgn o) l = false := h0
    rw [ixN, if_neg (by rw [h0]; decide), ixN_at os l j (by simpa using hj) (fun i hi h => h1 (i + 1) (by omega) (by simpa using h)) (fun h => h2 (by simpa using h))]
theorem opAt_ix : ∀ (ops : List Int) (l : List TokenD), opAt ops l = ops[ixN ops l]?
  | [], l => rfl
  | o :: os, l => by
    rw [opAt, ixN]
    split
    · rfl
    · rw [opAt_ix os l]; rfl
def ixI (ops : List Int) (l : List TokenD) : Int := if ixN ops l < ops.length then (ixN ops l : Int) else -1
def opL (ops : List Int) (l : List TokenD) : List TokenD := if ixN ops l < ops.length then l.drop 1 else l
abbrev takeC (K : Nat) : PV := .d (.clo 79 [] [.ptr K 0])
theorem s_index (ops : List Int) (ho : ops.length ≤ 100000) (l : List TokenD) (hl : l.length ≤ 100000) (out : List NodeD) : CallS Tryd.prog 78 [opsV ops, takeC FK2] [(FK2, .box tPP [.ptr FK 0]), (FK1, pAr out), opsH] [(FK, pBx FK1 l out.length)] (pInt .i64 (ixI ops l)) [(FK, pBx FK1 (opL ops l) out.length)] := by
  have hml : (ops.map oneI).length = ops.length := List.length_map _
  refine callS_of Tryd.func78 (by rfl) rfl (by kernel_rfl) (by rfl) [FK2, FK1, FK3, FK] rfl ?_
  ((conv => whnf); repeat' ((first | (with_reducible first | apply a_ | apply b_ | apply c_) | ((with_reducible first | apply d_ | apply e_ | apply f_ | apply g_); focus first | omega | (simp only [q_] <;> omega)) | ((with_reducible first | apply i_ | apply h_); focus first | omega | (simp only [q_] <;> omega)) | ((with_reducible apply h_); focus first | decide | kernel_rfl) | refine BCase.t (by decide) ?_ | refine BCase.f (by decide) ?_ | with_reducible first | apply l_ | apply m_ | apply n_ | apply o_ | refine p_ (fun _ => ?_) (fun _ => ?_)) <;> (conv => whnf)))
  refine LoopC.mk Nat (fun j => [(0, opsV ops), (1, takeC FK2), (7, pInt .i64 ops.length), (8, pInt .i64 j)]) (fun j => [(FK2, .box tPP [.ptr FK 0]), (FK1, pAr out), opsH, (FK, pBx FK1 l out.length)]) [FK2, FK1, FK3, FK] (fun j => j ≤ ops.length ∧ ∀ i, i < j → ∀ h : i < ops.length, isH (sgn ops[i]) l = false) (fun j => ops.length - j) 0 ⟨Nat.zero_le _, fun i hi => absurd hi (by omega)⟩ ?start ?round
  case start =>
    refine ⟨[(FK, FK), (FK1, FK1), (FK2, FK2), (FK3, FK3)], rfl, rfl, ?_, ?_⟩ <;> (repeat' (first | exact rfl | exact trivial | exact Or.inl rfl | refine And.intro ?_ ?_))
    exact PLe.int (by rw [hml])
  case round =>
    intro j hj
    obtain ⟨hj, hall⟩ : j ≤ ops.length ∧ ∀ i, i < j → ∀ h : i < ops.length, isH (sgn ops[i]) l = false := hj
    by_cases q : j < ops.length
    · have pc := s_chain1 ops[j] l hl out
      cases hh : isH (sgn ops[j]) l with
      | true =>
        have e1 : ixN ops l = j := ixN_at ops l j hj hall (fun _ => hh)
        have e2 : ixI ops l = j := by unfold ixI; rw [e1, if_pos q]
        have e3 : opL ops l = tkO (sgn ops[j]) l := by unfold opL tkO; rw [e1, if_pos q, hh]; rfl
        rw [hh] at pc
        rw [e2, e3]
        ((conv => whnf); repeat' ((first | (with_reducible first | apply a_ | apply b_ | apply c_) | ((with_reducible first | apply d_ | apply e_ | apply f_ | apply g_); focus first | omega | (simp only [q_] <;> omega)) | ((with_reducible first | apply i_ | apply h_); focus first | omega | (simp only [q_] <;> omega)) | ((with_reducible apply h_); focus first | decide | kernel_rfl) | refine BCase.t (by decide) ?_ | refine BCase.f (by decide) ?_ | (refine Idx.mapI (f := oneI) j rfl q ?_) | (refine CallP.ret [(FK, FK), (FK1, FK1), (FK2, FK2)] _ _ _ _ _ _ _ pc rfl rfl rfl rfl ⟨rfl, rfl, rfl, trivial⟩ ?_) | with_reducible first | apply l_ | apply m_ | apply n_ | apply o_ | refine p_ (fun _ => ?_) (fun _ => ?_)) <;> (conv => whnf)))
        refine RetS.mk [(FK, FK), (FK1, FK1), (FK2, FK2), (FK3, FK3)] [FK2, FK1, FK3, FK] rfl rfl (.inl rfl) ?_ <;> (repeat' (first | exact rfl | exact trivial | exact Or.inl rfl | refine And.intro ?_ ?_))
      | false =>
        have e3 : tkO (sgn ops[j]) l = l := by unfold tkO; rw [hh]; rfl
        rw [hh, e3] at pc
        ((conv => whnf); repeat' ((first | (with_reducible first | apply a_ | apply b_ | apply c_) | ((with_reducible first | apply d_ | apply e_ | apply f_ | apply g_); focus first | omega | (simp only [q_] <;> omega)) | ((with_reducible first | apply i_ | apply h_); focus first | omega | (simp only [q_] <;> omega)) | ((with_reducible apply h_); focus first | decide | kernel_rfl) | refine BCase.t (by decide) ?_ | refine BCase.f (by decide) ?_ | (refine Idx.mapI (f := oneI) j rfl q ?_) | (refine CallP.ret [(FK, FK), (FK1, FK1), (FK2, FK2)] _ _ _ _ _ _ _ pc rfl rfl rfl rfl ⟨rfl, rfl, rfl, trivial⟩ ?_) | with_reducible first | apply l_ | apply m_ | apply n_ | apply o_ | refine p_ (fun _ => ?_) (fun _ => ?_)) <;> (conv => whnf)))
        refine ⟨j + 1, ⟨by omega, fun i hi h => ?_⟩, by show _ < _; omega, [(FK, FK), (FK1, FK1), (FK2, FK2), (FK3, FK3)], rfl, rfl, ?_, ?_⟩
        · rcases Nat.lt_succ_iff_lt_or_eq.1 hi with hi | hi
          · exact hall i hi h
          · subst hi; exact hh
        all_goals
          (repeat' (first | exact rfl | exact trivial | exact Or.inl rfl | refine And.intro ?_ ?_))
        all_goals exact PLe.int (by omega)
    · have e0 : j = ops.length := by omega
      have e1 : ixN ops l = j := ixN_at ops l j hj hall (fun h => absurd h q)
      have e2 : ixI ops l = -1 := by unfold ixI; rw [e1, if_neg q]
      have e3 : opL ops l = l := by unfold opL; rw [e1, if_neg q]
      rw [e2, e3]
      ((conv => whnf); repeat' ((first | (with_reducible first | apply a_ | apply b_ | apply c_) | ((with_reducible first | apply d_ | apply e_ | apply f_ | apply g_); focus first | omega | (simp only [q_] <;> omega)) | ((with_reducible first | apply i_ | apply h_); focus first | omega | (simp only [q_] <;> omega)) | ((with_reducible apply h_); focus first | decide | kernel_rfl) | refine BCase.t (by decide) ?_ | refine BCase.f (by decide) ?_ | with_reducible first | apply l_ | apply m_ | apply n_ | apply o_ | refine p_ (fun _ => ?_) (fun _ => ?_)) <;> (conv => whnf)))
      refine RetS.mk [(FK, FK), (FK1, FK1), (FK2, FK2), (FK3, FK3)] [FK2, FK1, FK3, FK] rfl rfl (.inl rfl) ?_ <;> (repeat' (first | exact rfl | exact trivial | exact Or.inl rfl | refine And.intro ?_ ?_))
end Go.Proofs.YtmcmagfondjopaaDoor.Pm
end
section
namespace Go.Proofs.YtmcmagfondjopaaDoor.Pm
open Go.RowKit K
set_option linter.unusedVariables false
set_option linter.unusedSimpArgs false
set_option maxRecDepth 100000
def okT (l : List TokenD) : Prop := ∀ t ∈ l, okText t.S
theorem okT.drop {l : List TokenD} (h : okT l) (k : Nat) : okT (l.drop k) := fun t ht => h t (List.mem_of_mem_drop ht)
def WalkOk (f : FuncId) (one : List TokenD → PR) (N : Nat) : Prop := ∀ (l : List TokenD), l.length ≤ N → okT l → ∀ out : List NodeD, out.length + l.length ≤ 90000 →
  (∀ r ns, one l = some (r, ns) → CallS Tryd.prog f [.d (.ptr FK 0)] [] (pb FK FK1 l out) (.tup []) (pb FK NK r (out ++ ns))) ∧
  (one l = none → CallX Tryd.prog f [.d (.ptr FK 0)] (pb FK FK1 l out) wrongV)
theorem chainR_step {one : List TokenD → PR} {ops : List Int} (h1 : ∀ l, fit 1 l (one l)) {l : List TokenD} {o : Int} (ho : opAt ops l = some o) : (one (l.drop 1) = none → chainR one ops (l.length + 1) l = none) ∧ (∀ r ns, one (l.drop 1) = some (r, ns) → chainR one ops (l.length + 1) l = match chainR one ops (r.length + 1) r with
        | none => none
        | some (r2, ms) => some (r2, ns ++ (nOp o 2 :: ms))) := by
  have hp := isH_pos (opAt_pos ho).1
  constructor
  · intro e
    rw [chainR, ho]
    simp only [e]
  · intro r ns e
    rw [chainR, ho]
    dsimp only
    rw [e]
    dsimp only
    obtain ⟨k1, a1, a2, a3, a4⟩ := fit_at hp (h1 _) e
    have hl : r.length + 2 ≤ l.length := by rw [a3, List.length_drop]; omega
    rw [chainR_fuel h1 l.length (r.length + 1) r (by omega) (by omega)]
    cases chainR one ops (r.length + 1) r <;> rfl
theorem chainR_stop {one : List TokenD → PR} {ops : List Int} {l : List TokenD} (ho : opAt ops l = none) (n : Nat) : chainR one ops (n + 1) l = some (l, []) := by
  rw [chainR, ho]
theorem ix_none {ops : List Int} {l : List TokenD} (h : opAt ops l = none) : ixI ops l = -1 ∧ opL ops l = l := by
  rw [opAt_ix, List.getElem?_eq_none_iff] at h
  unfold ixI opL
  rw [if_neg (by omega), if_neg (by omega)]
  exact ⟨rfl, rfl⟩
theorem ix_some {ops : List Int} {l : List TokenD} {o : Int} (h : opAt ops l = some o) : ∃ j, j < ops.length ∧ ops[j]? = some o ∧ ixI ops l = (j : Int) ∧ opL ops l = l.drop 1 := by
  rw [opAt_ix] at h
  have hj := (List.getElem?_eq_some_iff.1 h).1
  refine ⟨ixN ops l, hj, h, ?_, ?_⟩
  · unfold ixI; rw [if_pos hj]
  · unfold opL; rw [if_pos hj]
abbrev oneC (f : FuncId) : PV := .d (.clo f [.ptr FK 0] [])
abbrev chH (l : List TokenD) (o : List NodeD) : Rf := pb FK 60 l o ++ [(3, .box tPP [.ptr FK 0]), opsH]
theorem s_chain (f : FuncId) (one : List TokenD → PR) (N : Nat) (hN : N ≤ 50000) (h1 : ∀ l, fit 1 l (one l)) (hw : WalkOk f one N) (ops : List Int) (hops : ops.length ≤ 1000) (l : List TokenD) (hl : l.length ≤ N) (ht : okT l) (out : List NodeD) (ho : out.length + l.length ≤ 90000) {r : List TokenD} {ns : List NodeD} (hr : chainF one ops l = some (r, ns)) :
    CallS Tryd.prog 68 [.d (.ptr FK 0), oneC f, opsV ops] [opsH] (pb FK FK1 l out) (.tup []) (pb FK NK r (out ++ ns)) := by
  unfold chainF at hr
  split at hr
  · cases hr
  rename_i r1 ns1 e1
  obtain ⟨k1, a1, a2, a3, a4⟩ := h1 l r1 ns1 e1
  have hr1 : r1.length + k1 = l.length := by rw [a3, List.length_drop]; omega
  have c1 := (hw l hl ht out ho).1 r1 ns1 e1
  refine callS_of Tryd.func68 (by rfl) rfl (by kernel_rfl) (by rfl) [FK3, FK, FK1] rfl ?_
  ((conv => whnf); repeat' ((first | (with_reducible first | apply a_ | apply b_ | apply c_) | ((with_reducible first | apply d_ | apply e_ | apply f_ | apply g_); focus first | omega | (simp only [q_] <;> omega)) | ((with_reducible first | apply i_ | apply h_); focus first | omega | (simp only [q_] <;> omega)) | ((with_reducible apply h_); focus first | decide | kernel_rfl) | refine BCase.t (by decide) ?_ | refine BCase.f (by decide) ?_ | (refine CallP.ret [(FK, FK), (FK1, FK1), (NK, 8)] _ _ _ _ _ _ _ c1 rfl rfl rfl rfl ⟨rfl, rfl, trivial⟩ ?_) | with_reducible first | apply l_ | apply m_ | apply n_ | apply o_ | refine p_ (fun _ => ?_) (fun _ => ?_)) <;> (conv => whnf)))
  have f1 : r1.length ≤ N := by omega
  have f2 : okT r1 := by rw [a3]; exact ht.drop k1
  have f3 : (out ++ ns1).length + r1.length ≤ 90000 := by rw [List.length_append]; omega
  refine LoopC.mk (List TokenD × List NodeD) (fun s => [(2, opsV ops), (1, oneC f), (3, .d (.ptr 3 0))]) (fun s => chH s.1 s.2) [FK3, FK, FK1, 60, 3] (fun s => s.1.length ≤ N ∧ okT s.1 ∧ s.2.length + s.1.length ≤ 90000 ∧ ∃ ms, chainR one ops (s.1.length + 1) s.1 = some (r, ms) ∧ s.2 ++ ms = out ++ ns) (fun s => s.1.length) (r1, out ++ ns1) ⟨f1, f2, f3, ?inv⟩ ?start ?round
  case inv =>
    split at hr
    · cases hr
    · rename_i r2 ms e2
      cases hr
      exact ⟨ms, e2, by rw [List.append_assoc]⟩
  case start =>
    refine ⟨[(FK, FK), (FK1, FK1), (60, 8), (3, 3), (FK3, FK3)], rfl, rfl, ?_, ?_⟩ <;> (repeat' (first | exact rfl | exact trivial | exact Or.inl rfl | refine And.intro ?_ ?_))
  case round =>
    rintro ⟨l', o'⟩ ⟨b1, b2, b3, ms, b4, b5⟩
    dsimp only at b1 b2 b3 b4 b5
    have ci := s_index ops (by omega) l' (by omega) o'
    have hml : (ops.map oneI).length = ops.length := List.length_map _
    cases hoa : opAt ops l' with
    | none =>
      obtain ⟨i1, i2⟩ := ix_none hoa
      rw [i1, i2] at ci
      rw [chainR_stop hoa] at b4
      cases b4
      rw [List.append_nil] at b5
      ((conv => whnf); repeat' ((first | (with_reducible first | apply a_ | apply b_ | apply c_) | ((with_reducible first | apply d_ | apply e_ | apply f_ | apply g_); focus first | omega | (simp only [q_] <;> omega)) | ((with_reducible first | apply i_ | apply h_); focus first | omega | (simp only [q_] <;> omega)) | ((with_reducible apply h_); focus first | decide | kernel_rfl) | refine BCase.t (by decide) ?_ | refine BCase.f (by decide) ?_ | (refine CallP.ret [(FK, FK), (FK1, 60), (FK2, 3), (FK3, FK3)] _ _ _ _ _ _ _ ci rfl rfl rfl rfl ⟨rfl, rfl, rfl, rfl, trivial⟩ ?_) | with_reducible first | apply l_ | apply m_ | apply n_ | apply o_ | refine p_ (fun _ => ?_) (fun _ => ?_)) <;> (conv => whnf)))
      refine RetS.mk [(FK, FK), (FK1, FK1), (NK, 60), (FK3, FK3)] [FK3, FK, FK1, NK] rfl rfl rfl ?_
      rw [← b5]
      (repeat' (first | exact rfl | exact trivial | exact Or.inl rfl | refine And.intro ?_ ?_))
    | some o =>
      obtain ⟨j, j1, j2, j3, j4⟩ := ix_some hoa
      have hp := isH_pos (opAt_pos hoa).1
      rw [j3, j4] at ci
      obtain ⟨q1, q2⟩ := chainR_step h1 hoa
      cases eo : one (l'.drop 1) with
      | none => rw [q1 eo] at b4; cases b4
      | some x =>
        obtain ⟨r3, ns3⟩ := x
        rw [q2 r3 ns3 eo] at b4
        obtain ⟨k3, d1, d2, d3, d4⟩ := fit_at hp (h1 _) eo
        have hr3 : r3.length + k3 = l'.length := by rw [d3, List.length_drop]; omega
        have hd1 : (l'.drop 1).length + 1 = l'.length := by rw [List.length_drop]; omega
        have c3 := (hw (l'.drop 1) (by omega) (b2.drop 1) o' (by omega)).1 r3 ns3 eo
        have hlen : (o' ++ ns3).length = o'.length + ns3.length := List.length_append
        have cp := s_put o 2 r3 (o' ++ ns3) (by omega)
        ((conv => whnf); repeat' ((first | (with_reducible first | apply a_ | apply b_ | apply c_) | ((with_reducible first | apply d_ | apply e_ | apply f_ | apply g_); focus first | omega | (simp only [q_] <;> omega)) | ((with_reducible first | apply i_ | apply h_); focus first | omega | (simp only [q_] <;> omega)) | ((with_reducible apply h_); focus first | decide | kernel_rfl) | refine BCase.t (by decide) ?_ | refine BCase.f (by decide) ?_ | (refine CallP.ret [(FK, FK), (FK1, 60), (FK2, 3), (FK3, FK3)] _ _ _ _ _ _ _ ci rfl rfl rfl rfl ⟨rfl, rfl, rfl, rfl, trivial⟩ ?_) | (refine CallP.ret [(FK, FK), (FK1, 60), (NK, 15)] _ _ _ _ _ _ _ c3 rfl rfl rfl rfl ⟨rfl, rfl, trivial⟩ ?_) | (refine Idx.mapV (f := oneI) j rfl o j2 ?_) | (refine CallP.ret [(FK, FK), (FK1, 15), (NK, 21)] _ _ _ _ _ _ _ cp rfl rfl rfl rfl ⟨rfl, rfl, trivial⟩ ?_) | with_reducible first | apply l_ | apply m_ | apply n_ | apply o_ | refine p_ (fun _ => ?_) (fun _ => ?_)) <;> (conv => whnf)))
        have e5 : o' ++ ns3 ++ [nOp o 2] = o' ++ (ns3 ++ [nOp o 2]) := List.append_assoc _ _ _
        have hlen2 : (o' ++ ns3 ++ [nOp o 2]).length = o'.length + ns3.length + 1 := by rw [List.length_append, hlen, List.length_singleton]
        have g1 : r3.length ≤ N := by omega
        have g2 : okT r3 := by rw [d3]; exact b2.drop _
        have g3 : (o' ++ ns3 ++ [nOp o 2]).length + r3.length ≤ 90000 := by omega
        have g4 : r3.length < l'.length := by omega
        split at b4
        · cases b4
        rename_i r4 ms4 e4
        cases b4
        refine ⟨(r3, o' ++ ns3 ++ [nOp o 2]), ⟨g1, g2, g3, ms4, e4, ?_⟩, g4, [(FK, FK), (FK1, FK1), (60, 21), (3, 3), (FK3, FK3)], rfl, rfl, ?_, ?_⟩
        · rw [← b5, List.append_assoc, List.append_assoc]; rfl
        all_goals
          (repeat' (first | exact rfl | exact trivial | exact Or.inl rfl | refine And.intro ?_ ?_))
theorem x_chain (f : FuncId) (one : List TokenD → PR) (N : Nat) (hN : N ≤ 50000) (h1 : ∀ l, fit 1 l (one l)) (hw : WalkOk f one N) (ops : List Int) (hops : ops.length ≤ 1000) (l : List TokenD) (hl : l.length ≤ N) (ht : okT l) (out : List NodeD) (ho : out.length + l.length ≤ 90000) (hr : chainF one ops l = none) :
    CallX Tryd.prog 68 [.d (.ptr FK 0), oneC f, opsV ops] (opsH :: pb FK FK1 l out) wrongV := by
  refine callX_of Tryd.func68 (by rfl) rfl (by kernel_rfl) (by rfl) [FK3, FK, FK1] rfl ?_
  cases e1 : one l with
  | none =>
    ((conv => whnf); repeat' ((first | (with_reducible first | apply a_ | apply b_ | apply c_) | ((with_reducible first | apply d_ | apply e_ | apply f_ | apply g_); focus first | omega | (simp only [q_] <;> omega)) | ((with_reducible first | apply i_ | apply h_); focus first | omega | (simp only [q_] <;> omega)) | ((with_reducible apply h_); focus first | decide | kernel_rfl) | refine BCase.t (by decide) ?_ | refine BCase.f (by decide) ?_ | with_reducible first | apply l_ | apply m_ | apply n_ | apply o_ | refine p_ (fun _ => ?_) (fun _ => ?_)) <;> (conv => whnf)))
    exact CallP.pan [(FK, FK), (FK1, FK1)] _ _ _ _ ((hw l hl ht out ho).2 e1) rfl rfl rfl ⟨rfl, rfl, trivial⟩ rfl
  | some x =>
  obtain ⟨r1, ns1⟩ := x
  unfold chainF at hr
  rw [e1] at hr
  have hr : (match chainR one ops (r1.length + 1) r1 with
    | none => none
    | some (r2, ms) => some (r2, ns1 ++ ms)) = (none : PR) := hr
  have hr : chainR one ops (r1.length + 1) r1 = none := by
    cases hc : chainR one ops (r1.length + 1) r1 with
    | none => rfl
    | some y => rw [hc] at hr; cases hr
  obtain ⟨k1, a1, a2, a3, a4⟩ := h1 l r1 ns1 e1
  have hr1 : r1.length + k1 = l.length := by rw [a3, List.length_drop]; omega
  have c1 := (hw l hl ht out ho).1 r1 ns1 e1
  ((conv => whnf); repeat' ((first | (with_reducible first | apply a_ | apply b_ | apply c_) | ((with_reducible first | apply d_ | apply e_ | apply f_ | apply g_); focus first | omega | (simp only [q_] <;> omega)) | ((with_reducible first | apply i_ | apply h_); focus first | omega | (simp only [q_] <;> omega)) | ((with_reducible apply h_); focus first | decide | kernel_rfl) | refine BCase.t (by decide) ?_ | refine BCase.f (by decide) ?_ | (refine CallP.ret [(FK, FK), (FK1, FK1), (NK, 8)] _ _ _ _ _ _ _ c1 rfl rfl rfl rfl ⟨rfl, rfl, trivial⟩ ?_) | with_reducible first | apply l_ | apply m_ | apply n_ | apply o_ | refine p_ (fun _ => ?_) (fun _ => ?_)) <;> (conv => whnf)))
  have f1 : r1.length ≤ N := by omega
  have f2 : okT r1 := by rw [a3]; exact ht.drop k1
  have f3 : (out ++ ns1).length + r1.length ≤ 90000 := by rw [List.length_append]; omega
  refine LoopC.mk (List TokenD × List NodeD) (fun s => [(2, opsV ops), (1, oneC f), (3, .d (.ptr 3 0))]) (fun s => chH s.1 s.2) [FK3, FK, FK1, 60, 3] (fun s => s.1.length ≤ N ∧ okT s.1 ∧ s.2.length + s.1.length ≤ 90000 ∧ chainR one ops (s.1.length + 1) s.1 = none) (fun s => s.1.length) (r1, out ++ ns1) ⟨f1, f2, f3, hr⟩ ?start ?round
  case start =>
    refine ⟨[(FK, FK), (FK1, FK1), (60, 8), (3, 3), (FK3, FK3)], rfl, rfl, ?_, ?_⟩ <;> (repeat' (first | exact rfl | exact trivial | exact Or.inl rfl | refine And.intro ?_ ?_))
  case round =>
    rintro ⟨l', o'⟩ ⟨b1, b2, b3, b4⟩
    dsimp only at b1 b2 b3 b4
    have ci := s_index ops (by omega) l' (by omega) o'
    have hml : (ops.map oneI).length = ops.length := List.length_map _
    cases hoa : opAt ops l' with
    | none =>
      rw [chainR_stop hoa] at b4
      cases b4
    | some o =>
      obtain ⟨j, j1, j2, j3, j4⟩ := ix_some hoa
      have hp := isH_pos (opAt_pos hoa).1
      rw [j3, j4] at ci
      obtain ⟨q1, q2⟩ := chainR_step h1 hoa
      have hd1 : (l'.drop 1).length + 1 = l'.length := by rw [List.length_drop]; omega
      have cc := hw (l'.drop 1) (by omega) (b2.drop 1) o' (by omega)
      cases eo : one (l'.drop 1) with
      | none =>
        ((conv => whnf); repeat' ((first | (with_reducible first | apply a_ | apply b_ | apply c_) | ((with_reducible first | apply d_ | apply e_ | apply f_ | apply g_); focus first | omega | (simp only [q_] <;> omega)) | ((with_reducible first | apply i_ | apply h_); focus first | omega | (simp only [q_] <;> omega)) | ((with_reducible apply h_); focus first | decide | kernel_rfl) | refine BCase.t (by decide) ?_ | refine BCase.f (by decide) ?_ | (refine CallP.ret [(FK, FK), (FK1, 60), (FK2, 3), (FK3, FK3)] _ _ _ _ _ _ _ ci rfl rfl rfl rfl ⟨rfl, rfl, rfl, rfl, trivial⟩ ?_) | with_reducible first | apply l_ | apply m_ | apply n_ | apply o_ | refine p_ (fun _ => ?_) (fun _ => ?_)) <;> (conv => whnf)))
        exact CallP.pan [(FK, FK), (FK1, 60)] _ _ _ _ (cc.2 eo) rfl rfl rfl ⟨rfl, rfl, trivial⟩ rfl
      | some x =>
        obtain ⟨r3, ns3⟩ := x
        rw [q2 r3 ns3 eo] at b4
        obtain ⟨k3, d1, d2, d3, d4⟩ := fit_at hp (h1 _) eo
        have hr3 : r3.length + k3 = l'.length := by rw [d3, List.length_drop]; omega
        have c3 := cc.1 r3 ns3 eo
        have hlen : (o' ++ ns3).length = o'.length + ns3.length := List.length_append
        have cp := s_put o 2 r3 (o' ++ ns3) (by omega)
        ((conv => whnf); repeat' ((first | (with_reducible first | apply a_ | apply b_ | apply c_) | ((with_reducible first | apply d_ | apply e_ | apply f_ | apply g_); focus first | omega | (simp only [q_] <;> omega)) | ((with_reducible first | apply i_ | apply h_); focus first | omega | (simp only [q_] <;> omega)) | ((with_reducible apply h_); focus first | decide | kernel_rfl) | refine BCase.t (by decide) ?_ | refine BCase.f (by decide) ?_ | (refine CallP.ret [(FK, FK), (FK1, 60), (FK2, 3), (FK3, FK3)] _ _ _ _ _ _ _ ci rfl rfl rfl rfl ⟨rfl, rfl, rfl, rfl, trivial⟩ ?_) | (refine CallP.ret [(FK, FK), (FK1, 60), (NK, 15)] _ _ _ _ _ _ _ c3 rfl rfl rfl rfl ⟨rfl, rfl, trivial⟩ ?_) | (refine Idx.mapV (f := oneI) j rfl o j2 ?_) | (refine CallP.ret [(FK, FK), (FK1, 15), (NK, 21)] _ _ _ _ _ _ _ cp rfl rfl rfl rfl ⟨rfl, rfl, trivial⟩ ?_) | with_reducible first | apply l_ | apply m_ | apply n_ | apply o_ | refine p_ (fun _ => ?_) (fun _ => ?_)) <;> (conv => whnf)))
        have hlen2 : (o' ++ ns3 ++ [nOp o 2]).length = o'.length + ns3.length + 1 := by rw [List.length_append, hlen, List.length_singleton]
        have g1 : r3.length ≤ N := by omega
        have g2 : okT r3 := by rw [d3]; exact b2.drop _
        have g3 : (o' ++ ns3 ++ [nOp o 2]).length + r3.length ≤ 90000 := by omega
        have g4 : r3.length < l'.length := by omega
        have g5 : chainR one ops (r3.length + 1) r3 = none := by
          cases hc : chainR one ops (r3.length + 1) r3 with
          | none => rfl
          | some y => rw [hc] at b4; cases b4
        refine ⟨(r3, o' ++ ns3 ++ [nOp o 2]), ⟨g1, g2, g3, g5⟩, g4, [(FK, FK), (FK1, FK1), (60, 21), (3, 3), (FK3, FK3)], rfl, rfl, ?_, ?_⟩
        all_goals
          (repeat' (first | exact rfl | exact trivial | exact Or.inl rfl | refine And.intro ?_ ?_))
end Go.Proofs.YtmcmagfondjopaaDoor.Pm
end
