/- Parts of the proof, one behind the other: PnWalk4 PnWalk5 PnWalk6 PnWalk7 PmDefer PmNil2 PmDefer2 PnForm PnParse PnThm5 PkSame PxMk PnBegun PnLaws PnLaws2. Conditions: none beyond what each theorem says. -/
import Derived.Recover
import Derived.Test.YtmcmagfondjopaaDoorZ6
section
namespace Go.Proofs.YtmcmagfondjopaaDoor.Pm
open Go.RowKit K
set_option linter.unusedVariables false
set_option linter.unusedSimpArgs false
set_option maxRecDepth 100000
theorem w_or (one : List TokenD → PR) (N : Nat) (hN : N ≤ 50000) (h1 : ∀ l, fit 1 l (one l)) (hw : WalkOk 69 one N) : WalkOk 60 (chainF one [17]) N := fun l hl ht out ho => by
 constructor
 ·intro r ns e
  have cc := s_chain 69 one N hN h1 hw [17] (by decide) l hl ht out ho e
  refine callS_of Tryd.func60 (by rfl) rfl (by kernel_rfl) (by rfl) [FK, FK1] rfl ?_
  ((conv => whnf); repeat' ((first | (with_reducible first | apply a_ | apply b_ | apply c_) | ((with_reducible first | apply d_ | apply e_ | apply f_ | apply g_); focus first | omega | (simp only [q_] <;> omega)) | ((with_reducible first | apply i_ | apply h_); focus first | omega | (simp only [q_] <;> omega)) | ((with_reducible apply h_); focus first | decide | kernel_rfl) | refine BCase.t (by decide) ?_ | refine BCase.f (by decide) ?_ | (refine CallP.ret [(FK, FK), (FK1, FK1), (NK, 6), (FK3, 5)] _ _ _ _ _ _ _ cc rfl rfl rfl rfl ⟨rfl, rfl, rfl, trivial⟩ ?_) | with_reducible first | apply l_ | apply m_ | apply n_ | apply o_ | refine p_ (fun _ => ?_) (fun _ => ?_)) <;> (conv => whnf)))
  refine RetS.mk [(FK, FK), (FK1, FK1), (NK, 6)] [FK, FK1, NK] rfl rfl rfl ?_ <;> (repeat' (first | exact rfl | exact trivial | exact Or.inl rfl | refine And.intro ?_ ?_))
 ·intro e
  have cc := x_chain 69 one N hN h1 hw [17] (by decide) l hl ht out ho e
  refine callX_of Tryd.func60 (by rfl) rfl (by kernel_rfl) (by rfl) [FK, FK1] rfl ?_
  ((conv => whnf); repeat' ((first | (with_reducible first | apply a_ | apply b_ | apply c_) | ((with_reducible first | apply d_ | apply e_ | apply f_ | apply g_); focus first | omega | (simp only [q_] <;> omega)) | ((with_reducible first | apply i_ | apply h_); focus first | omega | (simp only [q_] <;> omega)) | ((with_reducible apply h_); focus first | decide | kernel_rfl) | refine BCase.t (by decide) ?_ | refine BCase.f (by decide) ?_ | with_reducible first | apply l_ | apply m_ | apply n_ | apply o_ | refine p_ (fun _ => ?_) (fun _ => ?_)) <;> (conv => whnf)))
  exact CallP.pan [(FK, FK), (FK1, FK1), (FK3, 5)] _ _ _ _ cc rfl rfl rfl ⟨rfl, rfl, rfl, trivial⟩ rfl
theorem w_and (one : List TokenD → PR) (N : Nat) (hN : N ≤ 50000) (h1 : ∀ l, fit 1 l (one l)) (hw : WalkOk 82 one N) : WalkOk 69 (chainF one [16]) N := fun l hl ht out ho => by
 constructor
 ·intro r ns e
  have cc := s_chain 82 one N hN h1 hw [16] (by decide) l hl ht out ho e
  refine callS_of Tryd.func69 (by rfl) rfl (by kernel_rfl) (by rfl) [FK, FK1] rfl ?_
  ((conv => whnf); repeat' ((first | (with_reducible first | apply a_ | apply b_ | apply c_) | ((with_reducible first | apply d_ | apply e_ | apply f_ | apply g_); focus first | omega | (simp only [q_] <;> omega)) | ((with_reducible first | apply i_ | apply h_); focus first | omega | (simp only [q_] <;> omega)) | ((with_reducible apply h_); focus first | decide | kernel_rfl) | refine BCase.t (by decide) ?_ | refine BCase.f (by decide) ?_ | (refine CallP.ret [(FK, FK), (FK1, FK1), (NK, 6), (FK3, 5)] _ _ _ _ _ _ _ cc rfl rfl rfl rfl ⟨rfl, rfl, rfl, trivial⟩ ?_) | with_reducible first | apply l_ | apply m_ | apply n_ | apply o_ | refine p_ (fun _ => ?_) (fun _ => ?_)) <;> (conv => whnf)))
  refine RetS.mk [(FK, FK), (FK1, FK1), (NK, 6)] [FK, FK1, NK] rfl rfl rfl ?_ <;> (repeat' (first | exact rfl | exact trivial | exact Or.inl rfl | refine And.intro ?_ ?_))
 ·intro e
  have cc := x_chain 82 one N hN h1 hw [16] (by decide) l hl ht out ho e
  refine callX_of Tryd.func69 (by rfl) rfl (by kernel_rfl) (by rfl) [FK, FK1] rfl ?_
  ((conv => whnf); repeat' ((first | (with_reducible first | apply a_ | apply b_ | apply c_) | ((with_reducible first | apply d_ | apply e_ | apply f_ | apply g_); focus first | omega | (simp only [q_] <;> omega)) | ((with_reducible first | apply i_ | apply h_); focus first | omega | (simp only [q_] <;> omega)) | ((with_reducible apply h_); focus first | decide | kernel_rfl) | refine BCase.t (by decide) ?_ | refine BCase.f (by decide) ?_ | with_reducible first | apply l_ | apply m_ | apply n_ | apply o_ | refine p_ (fun _ => ?_) (fun _ => ?_)) <;> (conv => whnf)))
  exact CallP.pan [(FK, FK), (FK1, FK1), (FK3, 5)] _ _ _ _ cc rfl rfl rfl ⟨rfl, rfl, rfl, trivial⟩ rfl
theorem w_add (one : List TokenD → PR) (N : Nat) (hN : N ≤ 50000) (h1 : ∀ l, fit 1 l (one l)) (hw : WalkOk 91 one N) : WalkOk 88 (chainF one [5, 6]) N := fun l hl ht out ho => by
 constructor
 ·intro r ns e
  have cc := s_chain 91 one N hN h1 hw [5, 6] (by decide) l hl ht out ho e
  refine callS_of Tryd.func88 (by rfl) rfl (by kernel_rfl) (by rfl) [FK, FK1] rfl ?_
  ((conv => whnf); repeat' ((first | (with_reducible first | apply a_ | apply b_ | apply c_) | ((with_reducible first | apply d_ | apply e_ | apply f_ | apply g_); focus first | omega | (simp only [q_] <;> omega)) | ((with_reducible first | apply i_ | apply h_); focus first | omega | (simp only [q_] <;> omega)) | ((with_reducible apply h_); focus first | decide | kernel_rfl) | refine BCase.t (by decide) ?_ | refine BCase.f (by decide) ?_ | (refine CallP.ret [(FK, FK), (FK1, FK1), (NK, 6), (FK3, 5)] _ _ _ _ _ _ _ cc rfl rfl rfl rfl ⟨rfl, rfl, rfl, trivial⟩ ?_) | with_reducible first | apply l_ | apply m_ | apply n_ | apply o_ | refine p_ (fun _ => ?_) (fun _ => ?_)) <;> (conv => whnf)))
  refine RetS.mk [(FK, FK), (FK1, FK1), (NK, 6)] [FK, FK1, NK] rfl rfl rfl ?_ <;> (repeat' (first | exact rfl | exact trivial | exact Or.inl rfl | refine And.intro ?_ ?_))
 ·intro e
  have cc := x_chain 91 one N hN h1 hw [5, 6] (by decide) l hl ht out ho e
  refine callX_of Tryd.func88 (by rfl) rfl (by kernel_rfl) (by rfl) [FK, FK1] rfl ?_
  ((conv => whnf); repeat' ((first | (with_reducible first | apply a_ | apply b_ | apply c_) | ((with_reducible first | apply d_ | apply e_ | apply f_ | apply g_); focus first | omega | (simp only [q_] <;> omega)) | ((with_reducible first | apply i_ | apply h_); focus first | omega | (simp only [q_] <;> omega)) | ((with_reducible apply h_); focus first | decide | kernel_rfl) | refine BCase.t (by decide) ?_ | refine BCase.f (by decide) ?_ | with_reducible first | apply l_ | apply m_ | apply n_ | apply o_ | refine p_ (fun _ => ?_) (fun _ => ?_)) <;> (conv => whnf)))
  exact CallP.pan [(FK, FK), (FK1, FK1), (FK3, 5)] _ _ _ _ cc rfl rfl rfl ⟨rfl, rfl, rfl, trivial⟩ rfl
theorem w_mul (one : List TokenD → PR) (N : Nat) (hN : N ≤ 50000) (h1 : ∀ l, fit 1 l (one l)) (hw : WalkOk 92 one N) : WalkOk 91 (chainF one [7, 8, 9]) N := fun l hl ht out ho => by
 constructor
 ·intro r ns e
  have cc := s_chain 92 one N hN h1 hw [7, 8, 9] (by decide) l hl ht out ho e
  refine callS_of Tryd.func91 (by rfl) rfl (by kernel_rfl) (by rfl) [FK, FK1] rfl ?_
  ((conv => whnf); repeat' ((first | (with_reducible first | apply a_ | apply b_ | apply c_) | ((with_reducible first | apply d_ | apply e_ | apply f_ | apply g_); focus first | omega | (simp only [q_] <;> omega)) | ((with_reducible first | apply i_ | apply h_); focus first | omega | (simp only [q_] <;> omega)) | ((with_reducible apply h_); focus first | decide | kernel_rfl) | refine BCase.t (by decide) ?_ | refine BCase.f (by decide) ?_ | (refine CallP.ret [(FK, FK), (FK1, FK1), (NK, 6), (FK3, 5)] _ _ _ _ _ _ _ cc rfl rfl rfl rfl ⟨rfl, rfl, rfl, trivial⟩ ?_) | with_reducible first | apply l_ | apply m_ | apply n_ | apply o_ | refine p_ (fun _ => ?_) (fun _ => ?_)) <;> (conv => whnf)))
  refine RetS.mk [(FK, FK), (FK1, FK1), (NK, 6)] [FK, FK1, NK] rfl rfl rfl ?_ <;> (repeat' (first | exact rfl | exact trivial | exact Or.inl rfl | refine And.intro ?_ ?_))
 ·intro e
  have cc := x_chain 92 one N hN h1 hw [7, 8, 9] (by decide) l hl ht out ho e
  refine callX_of Tryd.func91 (by rfl) rfl (by kernel_rfl) (by rfl) [FK, FK1] rfl ?_
  ((conv => whnf); repeat' ((first | (with_reducible first | apply a_ | apply b_ | apply c_) | ((with_reducible first | apply d_ | apply e_ | apply f_ | apply g_); focus first | omega | (simp only [q_] <;> omega)) | ((with_reducible first | apply i_ | apply h_); focus first | omega | (simp only [q_] <;> omega)) | ((with_reducible apply h_); focus first | decide | kernel_rfl) | refine BCase.t (by decide) ?_ | refine BCase.f (by decide) ?_ | with_reducible first | apply l_ | apply m_ | apply n_ | apply o_ | refine p_ (fun _ => ?_) (fun _ => ?_)) <;> (conv => whnf)))
  exact CallP.pan [(FK, FK), (FK1, FK1), (FK3, 5)] _ _ _ _ cc rfl rfl rfl ⟨rfl, rfl, rfl, trivial⟩ rfl
theorem heads_pos {s : List UInt8} : ∀ {l : List TokenD} {j : Nat}, j < heads s l → isH s (l.drop j) = true
 | [], j, h => absurd h (Nat.not_lt_zero _)
 | t :: r, 0, h => by
  rw [heads] at h
  split at h
  ·rename_i g; exact g
  ·exact absurd h (Nat.not_lt_zero _)
 | t :: r, j + 1, h => by
  rw [heads] at h
  split at h
  ·rw [List.drop_succ_cons]; exact heads_pos (by omega)
  ·exact absurd h (Nat.not_lt_zero _)
theorem heads_end (s : List UInt8) : ∀ l : List TokenD, isH s (l.drop (heads s l)) = false
 | [] => rfl
 | t :: r => by
  rw [heads]
  split
  ·rw [List.drop_succ_cons]; exact heads_end s r
  ·rename_i g; rw [Bool.not_eq_true] at g; exact g
theorem w_not (one : List TokenD → PR) (N : Nat) (hN : N ≤ 50000) (h1 : ∀ l, fit 1 l (one l)) (hw : WalkOk 86 one N) : WalkOk 82 (preF wNot 4 one) N := fun l hl ht out ho => by
 have hhl := heads_le wNot l
 obtain ⟨H, hH⟩ : ∃ H, H = heads wNot l := ⟨_, rfl⟩
 rw [← hH] at hhl
 have hdl : (l.drop H).length + H = l.length := by rw [List.length_drop]; omega
 have cc := hw (l.drop H) (by omega) (ht.drop H) out (by omega)
 have hpos : ∀ j, j < H → isH wNot (l.drop j) = true := fun j hj => heads_pos (by omega)
 have hend : isH wNot (l.drop H) = false := by rw [hH]; exact heads_end _ l
 constructor
 ·intro r ns e
  unfold preF at e
  rw [← hH] at e
  split at e
  ·cases e
  rename_i r1 ns1 e1
  cases e
  obtain ⟨k1, a1, a2, a3, a4⟩ := h1 _ _ _ e1
  have c1 := cc.1 r ns1 e1
  refine callS_of Tryd.func82 (by rfl) rfl (by kernel_rfl) (by rfl) [FK, FK1] rfl ?_
  ((conv => whnf); repeat' ((first | (with_reducible first | apply a_ | apply b_ | apply c_) | ((with_reducible first | apply d_ | apply e_ | apply f_ | apply g_); focus first | omega | (simp only [q_] <;> omega)) | ((with_reducible first | apply i_ | apply h_); focus first | omega | (simp only [q_] <;> omega)) | ((with_reducible apply h_); focus first | decide | kernel_rfl) | refine BCase.t (by decide) ?_ | refine BCase.f (by decide) ?_ | with_reducible first | apply l_ | apply m_ | apply n_ | apply o_ | refine p_ (fun _ => ?_) (fun _ => ?_)) <;> (conv => whnf)))
  refine LoopC.mk Nat (fun j => [(0, .d (.ptr FK 0)), (2, pInt .i64 j)]) (fun j => pb FK FK1 (l.drop j) out) [FK, FK1] (fun j => j ≤ H) (fun j => H - j) 0 (Nat.zero_le _) ?start ?round
  case start =>
   refine ⟨[(FK, FK), (FK1, FK1)], rfl, rfl, ?_, ?_⟩ <;> (repeat' (first | exact rfl | exact trivial | exact Or.inl rfl | refine And.intro ?_ ?_))
  case round =>
   intro j hj
   have hj : j ≤ H := hj
   have hlj : (l.drop j).length ≤ 100000 := by rw [List.length_drop]; omega
   have ct := s_take wNot (l.drop j) hlj out
   by_cases q : j < H
   ·have e2 : tkO wNot (l.drop j) = l.drop (j + 1) := by unfold tkO; rw [hpos j q, if_pos rfl, List.drop_drop]
    rw [hpos j q, e2] at ct
    ((conv => whnf); repeat' ((first | (with_reducible first | apply a_ | apply b_ | apply c_) | ((with_reducible first | apply d_ | apply e_ | apply f_ | apply g_); focus first | omega | (simp only [q_] <;> omega)) | ((with_reducible first | apply i_ | apply h_); focus first | omega | (simp only [q_] <;> omega)) | ((with_reducible apply h_); focus first | decide | kernel_rfl) | refine BCase.t (by decide) ?_ | refine BCase.f (by decide) ?_ | (refine CallP.ret [(FK, FK), (FK1, FK1)] _ _ _ _ _ _ _ ct rfl rfl rfl rfl ⟨rfl, rfl, trivial⟩ ?_) | with_reducible first | apply l_ | apply m_ | apply n_ | apply o_ | refine p_ (fun _ => ?_) (fun _ => ?_)) <;> (conv => whnf)))
    refine ⟨j + 1, q, by show _ < _; omega, [(FK, FK), (FK1, FK1)], rfl, rfl, ?_, ?_⟩
    all_goals
     (repeat' (first | exact rfl | exact trivial | exact Or.inl rfl | refine And.intro ?_ ?_))
    all_goals exact PLe.int (by omega)
   ·have e0 : j = H := by omega
    subst e0
    have e2 : tkO wNot (l.drop j) = l.drop j := by unfold tkO; rw [hend]; rfl
    rw [hend, e2] at ct
    ((conv => whnf); repeat' ((first | (with_reducible first | apply a_ | apply b_ | apply c_) | ((with_reducible first | apply d_ | apply e_ | apply f_ | apply g_); focus first | omega | (simp only [q_] <;> omega)) | ((with_reducible first | apply i_ | apply h_); focus first | omega | (simp only [q_] <;> omega)) | ((with_reducible apply h_); focus first | decide | kernel_rfl) | refine BCase.t (by decide) ?_ | refine BCase.f (by decide) ?_ | (refine CallP.ret [(FK, FK), (FK1, FK1)] _ _ _ _ _ _ _ ct rfl rfl rfl rfl ⟨rfl, rfl, trivial⟩ ?_) | (refine CallP.ret [(FK, FK), (FK1, FK1), (NK, 8)] _ _ _ _ _ _ _ c1 rfl rfl rfl rfl ⟨rfl, rfl, trivial⟩ ?_) | with_reducible first | apply l_ | apply m_ | apply n_ | apply o_ | refine p_ (fun _ => ?_) (fun _ => ?_)) <;> (conv => whnf)))
    refine LoopC.mk Nat (fun i => [(0, .d (.ptr FK 0)), (9, pInt .i64 j), (10, pInt .i64 i)]) (fun i => pb FK 60 r (out ++ (ns1 ++ List.replicate i (nOp 4 1)))) [FK, FK1, 60] (fun i => i ≤ j) (fun i => j - i) 0 (Nat.zero_le _) ?start2 ?round2
    case start2 =>
     have e3 : out ++ (ns1 ++ List.replicate 0 (nOp 4 1)) = out ++ ns1 := by rw [List.replicate_zero, List.append_nil]
     rw [e3]
     refine ⟨[(FK, FK), (FK1, FK1), (60, 8)], rfl, rfl, ?_, ?_⟩ <;> (repeat' (first | exact rfl | exact trivial | exact Or.inl rfl | refine And.intro ?_ ?_))
    case round2 =>
     intro i hi
     have hi : i ≤ j := hi
     by_cases q2 : i < j
     ·have hlen : (out ++ (ns1 ++ List.replicate i (nOp 4 1))).length = out.length + ns1.length + i := by rw [List.length_append, List.length_append, List.length_replicate]; omega
      have cp := s_put 4 1 r (out ++ (ns1 ++ List.replicate i (nOp 4 1))) (by omega)
      have e3 : out ++ (ns1 ++ List.replicate (i + 1) (nOp 4 1)) = out ++ (ns1 ++ List.replicate i (nOp 4 1)) ++ [nOp 4 1] := by rw [List.replicate_succ', List.append_assoc, List.append_assoc]
      rw [← e3] at cp
      ((conv => whnf); repeat' ((first | (with_reducible first | apply a_ | apply b_ | apply c_) | ((with_reducible first | apply d_ | apply e_ | apply f_ | apply g_); focus first | omega | (simp only [q_] <;> omega)) | ((with_reducible first | apply i_ | apply h_); focus first | omega | (simp only [q_] <;> omega)) | ((with_reducible apply h_); focus first | decide | kernel_rfl) | refine BCase.t (by decide) ?_ | refine BCase.f (by decide) ?_ | (refine CallP.ret [(FK, FK), (FK1, 60), (NK, 13)] _ _ _ _ _ _ _ cp rfl rfl rfl rfl ⟨rfl, rfl, trivial⟩ ?_) | with_reducible first | apply l_ | apply m_ | apply n_ | apply o_ | refine p_ (fun _ => ?_) (fun _ => ?_)) <;> (conv => whnf)))
      refine ⟨i + 1, q2, by show _ < _; omega, [(FK, FK), (FK1, FK1), (60, 13)], rfl, rfl, ?_, ?_⟩
      all_goals
       (repeat' (first | exact rfl | exact trivial | exact Or.inl rfl | refine And.intro ?_ ?_))
      all_goals exact PLe.int (by omega)
     ·have e0 : i = j := by omega
      subst e0
      ((conv => whnf); repeat' ((first | (with_reducible first | apply a_ | apply b_ | apply c_) | ((with_reducible first | apply d_ | apply e_ | apply f_ | apply g_); focus first | omega | (simp only [q_] <;> omega)) | ((with_reducible first | apply i_ | apply h_); focus first | omega | (simp only [q_] <;> omega)) | ((with_reducible apply h_); focus first | decide | kernel_rfl) | refine BCase.t (by decide) ?_ | refine BCase.f (by decide) ?_ | with_reducible first | apply l_ | apply m_ | apply n_ | apply o_ | refine p_ (fun _ => ?_) (fun _ => ?_)) <;> (conv => whnf)))
      refine RetS.mk [(FK, FK), (FK1, FK1), (NK, 60)] [FK, FK1, NK] rfl rfl rfl ?_ <;> (repeat' (first | exact rfl | exact trivial | exact Or.inl rfl | refine And.intro ?_ ?_))
 ·intro e
  have e1 : one (l.drop H) = none := by
   unfold preF at e
   rw [← hH] at e
   cases hc : one (l.drop H) with
   | none => rfl
   | some x => rw [hc] at e; cases e
  have c1 := cc.2 e1
  refine callX_of Tryd.func82 (by rfl) rfl (by kernel_rfl) (by rfl) [FK, FK1] rfl ?_
  ((conv => whnf); repeat' ((first | (with_reducible first | apply a_ | apply b_ | apply c_) | ((with_reducible first | apply d_ | apply e_ | apply f_ | apply g_); focus first | omega | (simp only [q_] <;> omega)) | ((with_reducible first | apply i_ | apply h_); focus first | omega | (simp only [q_] <;> omega)) | ((with_reducible apply h_); focus first | decide | kernel_rfl) | refine BCase.t (by decide) ?_ | refine BCase.f (by decide) ?_ | with_reducible first | apply l_ | apply m_ | apply n_ | apply o_ | refine p_ (fun _ => ?_) (fun _ => ?_)) <;> (conv => whnf)))
  refine LoopC.mk Nat (fun j => [(0, .d (.ptr FK 0)), (2, pInt .i64 j)]) (fun j => pb FK FK1 (l.drop j) out) [FK, FK1] (fun j => j ≤ H) (fun j => H - j) 0 (Nat.zero_le _) ?start ?round
  case start =>
   refine ⟨[(FK, FK), (FK1, FK1)], rfl, rfl, ?_, ?_⟩ <;> (repeat' (first | exact rfl | exact trivial | exact Or.inl rfl | refine And.intro ?_ ?_))
  case round =>
   intro j hj
   have hj : j ≤ H := hj
   have hlj : (l.drop j).length ≤ 100000 := by rw [List.length_drop]; omega
   have ct := s_take wNot (l.drop j) hlj out
   by_cases q : j < H
   ·have e2 : tkO wNot (l.drop j) = l.drop (j + 1) := by unfold tkO; rw [hpos j q, if_pos rfl, List.drop_drop]
    rw [hpos j q, e2] at ct
    ((conv => whnf); repeat' ((first | (with_reducible first | apply a_ | apply b_ | apply c_) | ((with_reducible first | apply d_ | apply e_ | apply f_ | apply g_); focus first | omega | (simp only [q_] <;> omega)) | ((with_reducible first | apply i_ | apply h_); focus first | omega | (simp only [q_] <;> omega)) | ((with_reducible apply h_); focus first | decide | kernel_rfl) | refine BCase.t (by decide) ?_ | refine BCase.f (by decide) ?_ | (refine CallP.ret [(FK, FK), (FK1, FK1)] _ _ _ _ _ _ _ ct rfl rfl rfl rfl ⟨rfl, rfl, trivial⟩ ?_) | with_reducible first | apply l_ | apply m_ | apply n_ | apply o_ | refine p_ (fun _ => ?_) (fun _ => ?_)) <;> (conv => whnf)))
    refine ⟨j + 1, q, by show _ < _; omega, [(FK, FK), (FK1, FK1)], rfl, rfl, ?_, ?_⟩
    all_goals
     (repeat' (first | exact rfl | exact trivial | exact Or.inl rfl | refine And.intro ?_ ?_))
    all_goals exact PLe.int (by omega)
   ·have e0 : j = H := by omega
    subst e0
    have e2 : tkO wNot (l.drop j) = l.drop j := by unfold tkO; rw [hend]; rfl
    rw [hend, e2] at ct
    ((conv => whnf); repeat' ((first | (with_reducible first | apply a_ | apply b_ | apply c_) | ((with_reducible first | apply d_ | apply e_ | apply f_ | apply g_); focus first | omega | (simp only [q_] <;> omega)) | ((with_reducible first | apply i_ | apply h_); focus first | omega | (simp only [q_] <;> omega)) | ((with_reducible apply h_); focus first | decide | kernel_rfl) | refine BCase.t (by decide) ?_ | refine BCase.f (by decide) ?_ | (refine CallP.ret [(FK, FK), (FK1, FK1)] _ _ _ _ _ _ _ ct rfl rfl rfl rfl ⟨rfl, rfl, trivial⟩ ?_) | with_reducible first | apply l_ | apply m_ | apply n_ | apply o_ | refine p_ (fun _ => ?_) (fun _ => ?_)) <;> (conv => whnf)))
    exact CallP.pan [(FK, FK), (FK1, FK1)] _ _ _ _ c1 rfl rfl rfl ⟨rfl, rfl, trivial⟩ rfl
theorem w_neg (one : List TokenD → PR) (N : Nat) (hN : N ≤ 50000) (h1 : ∀ l, fit 1 l (one l)) (hw : WalkOk 93 one N) : WalkOk 92 (preF sMi 3 one) N := fun l hl ht out ho => by
 have hhl := heads_le sMi l
 obtain ⟨H, hH⟩ : ∃ H, H = heads sMi l := ⟨_, rfl⟩
 rw [← hH] at hhl
 have hdl : (l.drop H).length + H = l.length := by rw [List.length_drop]; omega
 have cc := hw (l.drop H) (by omega) (ht.drop H) out (by omega)
 have hpos : ∀ j, j < H → isH sMi (l.drop j) = true := fun j hj => heads_pos (by omega)
 have hend : isH sMi (l.drop H) = false := by rw [hH]; exact heads_end _ l
 constructor
 ·intro r ns e
  unfold preF at e
  rw [← hH] at e
  split at e
  ·cases e
  rename_i r1 ns1 e1
  cases e
  obtain ⟨k1, a1, a2, a3, a4⟩ := h1 _ _ _ e1
  have c1 := cc.1 r ns1 e1
  refine callS_of Tryd.func92 (by rfl) rfl (by kernel_rfl) (by rfl) [FK, FK1] rfl ?_
  ((conv => whnf); repeat' ((first | (with_reducible first | apply a_ | apply b_ | apply c_) | ((with_reducible first | apply d_ | apply e_ | apply f_ | apply g_); focus first | omega | (simp only [q_] <;> omega)) | ((with_reducible first | apply i_ | apply h_); focus first | omega | (simp only [q_] <;> omega)) | ((with_reducible apply h_); focus first | decide | kernel_rfl) | refine BCase.t (by decide) ?_ | refine BCase.f (by decide) ?_ | with_reducible first | apply l_ | apply m_ | apply n_ | apply o_ | refine p_ (fun _ => ?_) (fun _ => ?_)) <;> (conv => whnf)))
  refine LoopC.mk Nat (fun j => [(0, .d (.ptr FK 0)), (2, pInt .i64 j)]) (fun j => pb FK FK1 (l.drop j) out) [FK, FK1] (fun j => j ≤ H) (fun j => H - j) 0 (Nat.zero_le _) ?start ?round
  case start =>
   refine ⟨[(FK, FK), (FK1, FK1)], rfl, rfl, ?_, ?_⟩ <;> (repeat' (first | exact rfl | exact trivial | exact Or.inl rfl | refine And.intro ?_ ?_))
  case round =>
   intro j hj
   have hj : j ≤ H := hj
   have hlj : (l.drop j).length ≤ 100000 := by rw [List.length_drop]; omega
   have ct := s_take sMi (l.drop j) hlj out
   by_cases q : j < H
   ·have e2 : tkO sMi (l.drop j) = l.drop (j + 1) := by unfold tkO; rw [hpos j q, if_pos rfl, List.drop_drop]
    rw [hpos j q, e2] at ct
    ((conv => whnf); repeat' ((first | (with_reducible first | apply a_ | apply b_ | apply c_) | ((with_reducible first | apply d_ | apply e_ | apply f_ | apply g_); focus first | omega | (simp only [q_] <;> omega)) | ((with_reducible first | apply i_ | apply h_); focus first | omega | (simp only [q_] <;> omega)) | ((with_reducible apply h_); focus first | decide | kernel_rfl) | refine BCase.t (by decide) ?_ | refine BCase.f (by decide) ?_ | (refine CallP.ret [(FK, FK), (FK1, FK1)] _ _ _ _ _ _ _ ct rfl rfl rfl rfl ⟨rfl, rfl, trivial⟩ ?_) | with_reducible first | apply l_ | apply m_ | apply n_ | apply o_ | refine p_ (fun _ => ?_) (fun _ => ?_)) <;> (conv => whnf)))
    refine ⟨j + 1, q, by show _ < _; omega, [(FK, FK), (FK1, FK1)], rfl, rfl, ?_, ?_⟩
    all_goals
     (repeat' (first | exact rfl | exact trivial | exact Or.inl rfl | refine And.intro ?_ ?_))
    all_goals exact PLe.int (by omega)
   ·have e0 : j = H := by omega
    subst e0
    have e2 : tkO sMi (l.drop j) = l.drop j := by unfold tkO; rw [hend]; rfl
    rw [hend, e2] at ct
    ((conv => whnf); repeat' ((first | (with_reducible first | apply a_ | apply b_ | apply c_) | ((with_reducible first | apply d_ | apply e_ | apply f_ | apply g_); focus first | omega | (simp only [q_] <;> omega)) | ((with_reducible first | apply i_ | apply h_); focus first | omega | (simp only [q_] <;> omega)) | ((with_reducible apply h_); focus first | decide | kernel_rfl) | refine BCase.t (by decide) ?_ | refine BCase.f (by decide) ?_ | (refine CallP.ret [(FK, FK), (FK1, FK1)] _ _ _ _ _ _ _ ct rfl rfl rfl rfl ⟨rfl, rfl, trivial⟩ ?_) | (refine CallP.ret [(FK, FK), (FK1, FK1), (NK, 8)] _ _ _ _ _ _ _ c1 rfl rfl rfl rfl ⟨rfl, rfl, trivial⟩ ?_) | with_reducible first | apply l_ | apply m_ | apply n_ | apply o_ | refine p_ (fun _ => ?_) (fun _ => ?_)) <;> (conv => whnf)))
    refine LoopC.mk Nat (fun i => [(0, .d (.ptr FK 0)), (9, pInt .i64 j), (10, pInt .i64 i)]) (fun i => pb FK 60 r (out ++ (ns1 ++ List.replicate i (nOp 3 1)))) [FK, FK1, 60] (fun i => i ≤ j) (fun i => j - i) 0 (Nat.zero_le _) ?start2 ?round2
    case start2 =>
     have e3 : out ++ (ns1 ++ List.replicate 0 (nOp 3 1)) = out ++ ns1 := by rw [List.replicate_zero, List.append_nil]
     rw [e3]
     refine ⟨[(FK, FK), (FK1, FK1), (60, 8)], rfl, rfl, ?_, ?_⟩ <;> (repeat' (first | exact rfl | exact trivial | exact Or.inl rfl | refine And.intro ?_ ?_))
    case round2 =>
     intro i hi
     have hi : i ≤ j := hi
     by_cases q2 : i < j
     ·have hlen : (out ++ (ns1 ++ List.replicate i (nOp 3 1))).length = out.length + ns1.length + i := by rw [List.length_append, List.length_append, List.length_replicate]; omega
      have cp := s_put 3 1 r (out ++ (ns1 ++ List.replicate i (nOp 3 1))) (by omega)
      have e3 : out ++ (ns1 ++ List.replicate (i + 1) (nOp 3 1)) = out ++ (ns1 ++ List.replicate i (nOp 3 1)) ++ [nOp 3 1] := by rw [List.replicate_succ', List.append_assoc, List.append_assoc]
      rw [← e3] at cp
      ((conv => whnf); repeat' ((first | (with_reducible first | apply a_ | apply b_ | apply c_) | ((with_reducible first | apply d_ | apply e_ | apply f_ | apply g_); focus first | omega | (simp only [q_] <;> omega)) | ((with_reducible first | apply i_ | apply h_); focus first | omega | (simp only [q_] <;> omega)) | ((with_reducible apply h_); focus first | decide | kernel_rfl) | refine BCase.t (by decide) ?_ | refine BCase.f (by decide) ?_ | (refine CallP.ret [(FK, FK), (FK1, 60), (NK, 13)] _ _ _ _ _ _ _ cp rfl rfl rfl rfl ⟨rfl, rfl, trivial⟩ ?_) | with_reducible first | apply l_ | apply m_ | apply n_ | apply o_ | refine p_ (fun _ => ?_) (fun _ => ?_)) <;> (conv => whnf)))
      refine ⟨i + 1, q2, by show _ < _; omega, [(FK, FK), (FK1, FK1), (60, 13)], rfl, rfl, ?_, ?_⟩
      all_goals
       (repeat' (first | exact rfl | exact trivial | exact Or.inl rfl | refine And.intro ?_ ?_))
      all_goals exact PLe.int (by omega)
     ·have e0 : i = j := by omega
      subst e0
      ((conv => whnf); repeat' ((first | (with_reducible first | apply a_ | apply b_ | apply c_) | ((with_reducible first | apply d_ | apply e_ | apply f_ | apply g_); focus first | omega | (simp only [q_] <;> omega)) | ((with_reducible first | apply i_ | apply h_); focus first | omega | (simp only [q_] <;> omega)) | ((with_reducible apply h_); focus first | decide | kernel_rfl) | refine BCase.t (by decide) ?_ | refine BCase.f (by decide) ?_ | with_reducible first | apply l_ | apply m_ | apply n_ | apply o_ | refine p_ (fun _ => ?_) (fun _ => ?_)) <;> (conv => whnf)))
      refine RetS.mk [(FK, FK), (FK1, FK1), (NK, 60)] [FK, FK1, NK] rfl rfl rfl ?_ <;> (repeat' (first | exact rfl | exact trivial | exact Or.inl rfl | refine And.intro ?_ ?_))
 ·intro e
  have e1 : one (l.drop H) = none := by
   unfold preF at e
   rw [← hH] at e
   cases hc : one (l.drop H) with
   | none => rfl
   | some x => rw [hc] at e; cases e
  have c1 := cc.2 e1
  refine callX_of Tryd.func92 (by rfl) rfl (by kernel_rfl) (by rfl) [FK, FK1] rfl ?_
  ((conv => whnf); repeat' ((first | (with_reducible first | apply a_ | apply b_ | apply c_) | ((with_reducible first | apply d_ | apply e_ | apply f_ | apply g_); focus first | omega | (simp only [q_] <;> omega)) | ((with_reducible first | apply i_ | apply h_); focus first | omega | (simp only [q_] <;> omega)) | ((with_reducible apply h_); focus first | decide | kernel_rfl) | refine BCase.t (by decide) ?_ | refine BCase.f (by decide) ?_ | with_reducible first | apply l_ | apply m_ | apply n_ | apply o_ | refine p_ (fun _ => ?_) (fun _ => ?_)) <;> (conv => whnf)))
  refine LoopC.mk Nat (fun j => [(0, .d (.ptr FK 0)), (2, pInt .i64 j)]) (fun j => pb FK FK1 (l.drop j) out) [FK, FK1] (fun j => j ≤ H) (fun j => H - j) 0 (Nat.zero_le _) ?start ?round
  case start =>
   refine ⟨[(FK, FK), (FK1, FK1)], rfl, rfl, ?_, ?_⟩ <;> (repeat' (first | exact rfl | exact trivial | exact Or.inl rfl | refine And.intro ?_ ?_))
  case round =>
   intro j hj
   have hj : j ≤ H := hj
   have hlj : (l.drop j).length ≤ 100000 := by rw [List.length_drop]; omega
   have ct := s_take sMi (l.drop j) hlj out
   by_cases q : j < H
   ·have e2 : tkO sMi (l.drop j) = l.drop (j + 1) := by unfold tkO; rw [hpos j q, if_pos rfl, List.drop_drop]
    rw [hpos j q, e2] at ct
    ((conv => whnf); repeat' ((first | (with_reducible first | apply a_ | apply b_ | apply c_) | ((with_reducible first | apply d_ | apply e_ | apply f_ | apply g_); focus first | omega | (simp only [q_] <;> omega)) | ((with_reducible first | apply i_ | apply h_); focus first | omega | (simp only [q_] <;> omega)) | ((with_reducible apply h_); focus first | decide | kernel_rfl) | refine BCase.t (by decide) ?_ | refine BCase.f (by decide) ?_ | (refine CallP.ret [(FK, FK), (FK1, FK1)] _ _ _ _ _ _ _ ct rfl rfl rfl rfl ⟨rfl, rfl, trivial⟩ ?_) | with_reducible first | apply l_ | apply m_ | apply n_ | apply o_ | refine p_ (fun _ => ?_) (fun _ => ?_)) <;> (conv => whnf)))
    refine ⟨j + 1, q, by show _ < _; omega, [(FK, FK), (FK1, FK1)], rfl, rfl, ?_, ?_⟩
    all_goals
     (repeat' (first | exact rfl | exact trivial | exact Or.inl rfl | refine And.intro ?_ ?_))
    all_goals exact PLe.int (by omega)
   ·have e0 : j = H := by omega
    subst e0
    have e2 : tkO sMi (l.drop j) = l.drop j := by unfold tkO; rw [hend]; rfl
    rw [hend, e2] at ct
    ((conv => whnf); repeat' ((first | (with_reducible first | apply a_ | apply b_ | apply c_) | ((with_reducible first | apply d_ | apply e_ | apply f_ | apply g_); focus first | omega | (simp only [q_] <;> omega)) | ((with_reducible first | apply i_ | apply h_); focus first | omega | (simp only [q_] <;> omega)) | ((with_reducible apply h_); focus first | decide | kernel_rfl) | refine BCase.t (by decide) ?_ | refine BCase.f (by decide) ?_ | (refine CallP.ret [(FK, FK), (FK1, FK1)] _ _ _ _ _ _ _ ct rfl rfl rfl rfl ⟨rfl, rfl, trivial⟩ ?_) | with_reducible first | apply l_ | apply m_ | apply n_ | apply o_ | refine p_ (fun _ => ?_) (fun _ => ?_)) <;> (conv => whnf)))
    exact CallP.pan [(FK, FK), (FK1, FK1)] _ _ _ _ c1 rfl rfl rfl ⟨rfl, rfl, trivial⟩ rfl
end Go.Proofs.YtmcmagfondjopaaDoor.Pm
end
section
namespace Go.Proofs.YtmcmagfondjopaaDoor.Pm
open Go.RowKit K
set_option linter.unusedVariables false
set_option linter.unusedSimpArgs false
set_option maxRecDepth 100000
theorem s_one_lit (t : TokenD) (r : List TokenD) (hl : r.length ≤ 90000) (ht : okText t.S) (out : List NodeD) (ho : out.length ≤ 90000) (hm : isM t sLp = false) {n : NodeD} (hn : litF t = some n) :
  CallS Tryd.prog 93 [.d (.ptr FK 0)] [] (pb FK FK1 (t :: r) out) (.tup []) (pb FK NK r (out ++ [n])) := by
 have hml : ((t :: r).map TokenD.c).length = r.length + 1 := by rw [List.length_map, List.length_cons]
 have hol : (out.map NodeD.c).length = out.length := List.length_map _
 have ct := s_take sLp (t :: r) (by rw [List.length_cons]; omega) out
 have eh : isH sLp (t :: r) = false := hm
 have e2 : tkO sLp (t :: r) = t :: r := by unfold tkO; rw [eh]; rfl
 rw [eh, e2] at ct
 have ci := s_is wNull (t :: r) (by rw [List.length_cons]; omega) out
 have eq : isH wNull (t :: r) = isM t wNull := rfl
 rw [eq] at ci
 have pn := p_isname t.S ht
 have ed : List.take ((((t :: r).map TokenD.c).length : Int).toNat - (1 : Int).toNat) (List.drop (1 : Int).toNat ((t :: r).map TokenD.c)) = r.map TokenD.c := cells_drop TokenD.c (t :: r) 1 rfl (z := 1) rfl
 have eo : ∀ x : NodeD, List.take out.length (out.map NodeD.c) ++ [x.c] = (out ++ [x]).map NodeD.c := fun x => by rw [List.take_of_length_le (by rw [hol]; exact Nat.le_refl _), List.map_append]; rfl
 have el : ∀ x : NodeD, out.length + 1 = (out ++ [x]).length := fun x => by rw [List.length_append]; rfl
 refine callS_of Tryd.func93 (by rfl) rfl (by kernel_rfl) (by rfl) [FK, FK1] rfl ?_
 unfold litF at hn
 have eon := eo n
 have eln := el n
 by_cases k2 : t.Kind = 2
 ·rw [if_pos k2] at hn
  cases hn
  ((conv => whnf); repeat' ((first | (with_reducible first | apply a_ | apply b_ | apply c_) | ((with_reducible first | apply d_ | apply e_ | apply f_ | apply g_); focus first | omega | (simp only [q_] <;> omega)) | ((with_reducible first | apply i_ | apply h_); focus first | omega | (simp only [q_] <;> omega)) | ((with_reducible apply h_); focus first | decide | kernel_rfl) | refine BCase.t (by decide) ?_ | refine BCase.f (by decide) ?_ | (refine CallP.ret [(FK, FK), (FK1, FK1)] _ _ _ _ _ _ _ ct rfl rfl rfl rfl ⟨rfl, rfl, trivial⟩ ?_) | (refine CallP.ret [(FK, FK), (FK1, FK1)] _ _ _ _ _ _ _ ci rfl rfl rfl rfl ⟨rfl, rfl, trivial⟩ ?_) | refine CallP.pure _ rfl _ (pn) ?_ | (refine Idx.mapV (f := TokenD.c) 0 rfl t rfl ?_) | (refine Need.by 64 rfl (by show (out.length + 1) * 64 ≤ _; omega) ?_) | with_reducible first | apply l_ | apply m_ | apply n_ | apply o_ | refine p_ (fun _ => ?_) (fun _ => ?_)) <;> (conv => whnf)))
  refine RetS.mk [(FK, FK), (FK1, FK1), (NK, 81)] [FK, FK1, NK] rfl rfl rfl ⟨⟨rfl, rfl, .inl (congrArg (C.sl 4) ed), ⟨rfl, rfl, rfl, rfl, rfl, eln⟩, rfl⟩, ⟨rfl, rfl, rfl, eon⟩, trivial⟩
 rw [if_neg k2] at hn
 by_cases k3 : t.Kind = 3
 ·rw [if_pos k3] at hn
  cases hn
  ((conv => whnf); repeat' ((first | (with_reducible first | apply a_ | apply b_ | apply c_) | ((with_reducible first | apply d_ | apply e_ | apply f_ | apply g_); focus first | omega | (simp only [q_] <;> omega)) | ((with_reducible first | apply i_ | apply h_); focus first | omega | (simp only [q_] <;> omega)) | ((with_reducible apply h_); focus first | decide | kernel_rfl) | refine BCase.t (by decide) ?_ | refine BCase.f (by decide) ?_ | (refine CallP.ret [(FK, FK), (FK1, FK1)] _ _ _ _ _ _ _ ct rfl rfl rfl rfl ⟨rfl, rfl, trivial⟩ ?_) | (refine CallP.ret [(FK, FK), (FK1, FK1)] _ _ _ _ _ _ _ ci rfl rfl rfl rfl ⟨rfl, rfl, trivial⟩ ?_) | refine CallP.pure _ rfl _ (pn) ?_ | (refine Idx.mapV (f := TokenD.c) 0 rfl t rfl ?_) | (refine Need.by 64 rfl (by show (out.length + 1) * 64 ≤ _; omega) ?_) | with_reducible first | apply l_ | apply m_ | apply n_ | apply o_ | refine p_ (fun _ => ?_) (fun _ => ?_)) <;> (conv => whnf)))
  all_goals first | refine RetS.mk [(FK, FK), (FK1, FK1), (NK, 81)] [FK, FK1, NK] rfl rfl rfl ⟨⟨rfl, rfl, .inl (congrArg (C.sl 4) ed), ⟨rfl, rfl, rfl, rfl, rfl, eln⟩, rfl⟩, ⟨rfl, rfl, rfl, eon⟩, trivial⟩ | (exfalso; omega)
 rw [if_neg k3] at hn
 by_cases k4 : t.Kind = 4
 ·rw [if_pos k4] at hn
  cases hn
  ((conv => whnf); repeat' ((first | (with_reducible first | apply a_ | apply b_ | apply c_) | ((with_reducible first | apply d_ | apply e_ | apply f_ | apply g_); focus first | omega | (simp only [q_] <;> omega)) | ((with_reducible first | apply i_ | apply h_); focus first | omega | (simp only [q_] <;> omega)) | ((with_reducible apply h_); focus first | decide | kernel_rfl) | refine BCase.t (by decide) ?_ | refine BCase.f (by decide) ?_ | (refine CallP.ret [(FK, FK), (FK1, FK1)] _ _ _ _ _ _ _ ct rfl rfl rfl rfl ⟨rfl, rfl, trivial⟩ ?_) | (refine CallP.ret [(FK, FK), (FK1, FK1)] _ _ _ _ _ _ _ ci rfl rfl rfl rfl ⟨rfl, rfl, trivial⟩ ?_) | refine CallP.pure _ rfl _ (pn) ?_ | (refine Idx.mapV (f := TokenD.c) 0 rfl t rfl ?_) | (refine Need.by 64 rfl (by show (out.length + 1) * 64 ≤ _; omega) ?_) | with_reducible first | apply l_ | apply m_ | apply n_ | apply o_ | refine p_ (fun _ => ?_) (fun _ => ?_)) <;> (conv => whnf)))
  all_goals first | refine RetS.mk [(FK, FK), (FK1, FK1), (NK, 81)] [FK, FK1, NK] rfl rfl rfl ⟨⟨rfl, rfl, .inl (congrArg (C.sl 4) ed), ⟨rfl, rfl, rfl, rfl, rfl, eln⟩, rfl⟩, ⟨rfl, rfl, rfl, eon⟩, trivial⟩ | (exfalso; omega)
 rw [if_neg k4] at hn
 cases hw : isM t wNull with
 | true =>
  rw [hw, if_pos rfl] at hn
  rw [hw] at ci
  cases hn
  ((conv => whnf); repeat' ((first | (with_reducible first | apply a_ | apply b_ | apply c_) | ((with_reducible first | apply d_ | apply e_ | apply f_ | apply g_); focus first | omega | (simp only [q_] <;> omega)) | ((with_reducible first | apply i_ | apply h_); focus first | omega | (simp only [q_] <;> omega)) | ((with_reducible apply h_); focus first | decide | kernel_rfl) | refine BCase.t (by decide) ?_ | refine BCase.f (by decide) ?_ | (refine CallP.ret [(FK, FK), (FK1, FK1)] _ _ _ _ _ _ _ ct rfl rfl rfl rfl ⟨rfl, rfl, trivial⟩ ?_) | (refine CallP.ret [(FK, FK), (FK1, FK1)] _ _ _ _ _ _ _ ci rfl rfl rfl rfl ⟨rfl, rfl, trivial⟩ ?_) | refine CallP.pure _ rfl _ (pn) ?_ | (refine Idx.mapV (f := TokenD.c) 0 rfl t rfl ?_) | (refine Need.by 64 rfl (by show (out.length + 1) * 64 ≤ _; omega) ?_) | with_reducible first | apply l_ | apply m_ | apply n_ | apply o_ | refine p_ (fun _ => ?_) (fun _ => ?_)) <;> (conv => whnf)))
  all_goals first | refine RetS.mk [(FK, FK), (FK1, FK1), (NK, 81)] [FK, FK1, NK] rfl rfl rfl ⟨⟨rfl, rfl, .inl (congrArg (C.sl 4) ed), ⟨rfl, rfl, rfl, rfl, rfl, eln⟩, rfl⟩, ⟨rfl, rfl, rfl, eon⟩, trivial⟩ | (exfalso; omega)
 | false =>
  rw [hw, if_neg (by decide)] at hn
  rw [hw] at ci
  by_cases k1 : t.Kind = 1 ∧ nameB t.S = true
  ·rw [if_pos k1] at hn
   obtain ⟨k1, kn⟩ := k1
   rw [kn] at pn
   cases hn
   ((conv => whnf); repeat' ((first | (with_reducible first | apply a_ | apply b_ | apply c_) | ((with_reducible first | apply d_ | apply e_ | apply f_ | apply g_); focus first | omega | (simp only [q_] <;> omega)) | ((with_reducible first | apply i_ | apply h_); focus first | omega | (simp only [q_] <;> omega)) | ((with_reducible apply h_); focus first | decide | kernel_rfl) | refine BCase.t (by decide) ?_ | refine BCase.f (by decide) ?_ | (refine CallP.ret [(FK, FK), (FK1, FK1)] _ _ _ _ _ _ _ ct rfl rfl rfl rfl ⟨rfl, rfl, trivial⟩ ?_) | (refine CallP.ret [(FK, FK), (FK1, FK1)] _ _ _ _ _ _ _ ci rfl rfl rfl rfl ⟨rfl, rfl, trivial⟩ ?_) | refine CallP.pure _ rfl _ (pn) ?_ | (refine Idx.mapV (f := TokenD.c) 0 rfl t rfl ?_) | (refine Need.by 64 rfl (by show (out.length + 1) * 64 ≤ _; omega) ?_) | with_reducible first | apply l_ | apply m_ | apply n_ | apply o_ | refine p_ (fun _ => ?_) (fun _ => ?_)) <;> (conv => whnf)))
   all_goals first | refine RetS.mk [(FK, FK), (FK1, FK1), (NK, 81)] [FK, FK1, NK] rfl rfl rfl ⟨⟨rfl, rfl, .inl (congrArg (C.sl 4) ed), ⟨rfl, rfl, rfl, rfl, rfl, eln⟩, rfl⟩, ⟨rfl, rfl, rfl, eon⟩, trivial⟩ | (exfalso; omega)
  ·rw [if_neg k1] at hn
   cases hn
theorem x_one_lit (t : TokenD) (r : List TokenD) (hl : r.length ≤ 90000) (ht : okText t.S) (out : List NodeD) (hm : isM t sLp = false) (hn : litF t = none) :
  CallX Tryd.prog 93 [.d (.ptr FK 0)] (pb FK FK1 (t :: r) out) wrongV := by
 have hml : ((t :: r).map TokenD.c).length = r.length + 1 := by rw [List.length_map, List.length_cons]
 have ct := s_take sLp (t :: r) (by rw [List.length_cons]; omega) out
 have eh : isH sLp (t :: r) = false := hm
 have e2 : tkO sLp (t :: r) = t :: r := by unfold tkO; rw [eh]; rfl
 rw [eh, e2] at ct
 have ci := s_is wNull (t :: r) (by rw [List.length_cons]; omega) out
 have eq : isH wNull (t :: r) = isM t wNull := rfl
 rw [eq] at ci
 have pn := p_isname t.S ht
 refine callX_of Tryd.func93 (by rfl) rfl (by kernel_rfl) (by rfl) [FK, FK1] rfl ?_
 unfold litF at hn
 by_cases k2 : t.Kind = 2
 ·rw [if_pos k2] at hn; cases hn
 rw [if_neg k2] at hn
 by_cases k3 : t.Kind = 3
 ·rw [if_pos k3] at hn; cases hn
 rw [if_neg k3] at hn
 by_cases k4 : t.Kind = 4
 ·rw [if_pos k4] at hn; cases hn
 rw [if_neg k4] at hn
 cases hw : isM t wNull with
 | true => rw [hw, if_pos rfl] at hn; cases hn
 | false =>
  rw [hw, if_neg (by decide)] at hn
  rw [hw] at ci
  by_cases k1 : t.Kind = 1 ∧ nameB t.S = true
  ·rw [if_pos k1] at hn; cases hn
  ·cases hnb : nameB t.S with
   | true =>
    have k1' : ¬ t.Kind = 1 := fun x => k1 ⟨x, hnb⟩
    rw [hnb] at pn
    ((conv => whnf); repeat' ((first | (with_reducible first | apply a_ | apply b_ | apply c_) | ((with_reducible first | apply d_ | apply e_ | apply f_ | apply g_); focus first | omega | (simp only [q_] <;> omega)) | ((with_reducible first | apply i_ | apply h_); focus first | omega | (simp only [q_] <;> omega)) | ((with_reducible apply h_); focus first | decide | kernel_rfl) | refine BCase.t (by decide) ?_ | refine BCase.f (by decide) ?_ | (refine CallP.ret [(FK, FK), (FK1, FK1)] _ _ _ _ _ _ _ ct rfl rfl rfl rfl ⟨rfl, rfl, trivial⟩ ?_) | (refine CallP.ret [(FK, FK), (FK1, FK1)] _ _ _ _ _ _ _ ci rfl rfl rfl rfl ⟨rfl, rfl, trivial⟩ ?_) | refine CallP.pure _ rfl _ (pn) ?_ | (refine Idx.mapV (f := TokenD.c) 0 rfl t rfl ?_) | with_reducible first | apply l_ | apply m_ | apply n_ | apply o_ | refine p_ (fun _ => ?_) (fun _ => ?_)) <;> (conv => whnf)))
    all_goals (exfalso; omega)
   | false =>
    rw [hnb] at pn
    ((conv => whnf); repeat' ((first | (with_reducible first | apply a_ | apply b_ | apply c_) | ((with_reducible first | apply d_ | apply e_ | apply f_ | apply g_); focus first | omega | (simp only [q_] <;> omega)) | ((with_reducible first | apply i_ | apply h_); focus first | omega | (simp only [q_] <;> omega)) | ((with_reducible apply h_); focus first | decide | kernel_rfl) | refine BCase.t (by decide) ?_ | refine BCase.f (by decide) ?_ | (refine CallP.ret [(FK, FK), (FK1, FK1)] _ _ _ _ _ _ _ ct rfl rfl rfl rfl ⟨rfl, rfl, trivial⟩ ?_) | (refine CallP.ret [(FK, FK), (FK1, FK1)] _ _ _ _ _ _ _ ci rfl rfl rfl rfl ⟨rfl, rfl, trivial⟩ ?_) | refine CallP.pure _ rfl _ (pn) ?_ | (refine Idx.mapV (f := TokenD.c) 0 rfl t rfl ?_) | with_reducible first | apply l_ | apply m_ | apply n_ | apply o_ | refine p_ (fun _ => ?_) (fun _ => ?_)) <;> (conv => whnf)))
    all_goals (exfalso; omega)
theorem w_one (rec : List TokenD → PR) (N : Nat) (hN : N ≤ 50000) (h1 : ∀ l, fit 1 l (rec l)) (hw : ∀ M, M < N → WalkOk 60 rec M) : WalkOk 93 (oneF rec) N := fun l hl ht out ho => by
 cases l with
 | nil =>
  refine ⟨fun r ns e => (by cases e), fun _ => ?_⟩
  have ct := s_take sLp [] (by simp) out
  have eh : isH sLp [] = false := rfl
  have e2 : tkO sLp [] = [] := rfl
  rw [eh, e2] at ct
  refine callX_of Tryd.func93 (by rfl) rfl (by kernel_rfl) (by rfl) [FK, FK1] rfl ?_
  ((conv => whnf); repeat' ((first | (with_reducible first | apply a_ | apply b_ | apply c_) | ((with_reducible first | apply d_ | apply e_ | apply f_ | apply g_); focus first | omega | (simp only [q_] <;> omega)) | ((with_reducible first | apply i_ | apply h_); focus first | omega | (simp only [q_] <;> omega)) | ((with_reducible apply h_); focus first | decide | kernel_rfl) | refine BCase.t (by decide) ?_ | refine BCase.f (by decide) ?_ | (refine CallP.ret [(FK, FK), (FK1, FK1)] _ _ _ _ _ _ _ ct rfl rfl rfl rfl ⟨rfl, rfl, trivial⟩ ?_) | with_reducible first | apply l_ | apply m_ | apply n_ | apply o_ | refine p_ (fun _ => ?_) (fun _ => ?_)) <;> (conv => whnf)))
 | cons t r =>
  rw [List.length_cons] at hl ho
  have ht1 : okText t.S := ht t List.mem_cons_self
  have htr : okT r := fun x hx => ht x (List.mem_cons_of_mem _ hx)
  cases hm : isM t sLp with
  | false =>
   have hne : ¬ (false = true) := by decide
   constructor
   ·intro r2 ns e
    rw [oneF, hm, if_neg hne] at e
    split at e
    ·cases e
    ·rename_i n hn
     cases e
     exact s_one_lit t r (by omega) ht1 out (by omega) hm hn
   ·intro e
    rw [oneF, hm, if_neg hne] at e
    split at e
    ·rename_i hn
     exact x_one_lit t r (by omega) ht1 out hm hn
    ·cases e
  | true =>
   have ct := s_take sLp (t :: r) (by rw [List.length_cons]; omega) out
   have eh : isH sLp (t :: r) = true := hm
   have e2 : tkO sLp (t :: r) = r := by unfold tkO; rw [eh]; rfl
   rw [eh, e2] at ct
   have cc := hw r.length (by omega) r (Nat.le_refl _) htr out (by omega)
   cases er : rec r with
   | none =>
    refine ⟨fun r2 ns e => (by rw [oneF, hm, if_pos rfl, er] at e; cases e), fun e => ?_⟩
    have c1 := cc.2 er
    refine callX_of Tryd.func93 (by rfl) rfl (by kernel_rfl) (by rfl) [FK, FK1] rfl ?_
    ((conv => whnf); repeat' ((first | (with_reducible first | apply a_ | apply b_ | apply c_) | ((with_reducible first | apply d_ | apply e_ | apply f_ | apply g_); focus first | omega | (simp only [q_] <;> omega)) | ((with_reducible first | apply i_ | apply h_); focus first | omega | (simp only [q_] <;> omega)) | ((with_reducible apply h_); focus first | decide | kernel_rfl) | refine BCase.t (by decide) ?_ | refine BCase.f (by decide) ?_ | (refine CallP.ret [(FK, FK), (FK1, FK1)] _ _ _ _ _ _ _ ct rfl rfl rfl rfl ⟨rfl, rfl, trivial⟩ ?_) | with_reducible first | apply l_ | apply m_ | apply n_ | apply o_ | refine p_ (fun _ => ?_) (fun _ => ?_)) <;> (conv => whnf)))
    exact CallP.pan [(FK, FK), (FK1, FK1)] _ _ _ _ c1 rfl rfl rfl ⟨rfl, rfl, trivial⟩ rfl
   | some x =>
    obtain ⟨r1, ns1⟩ := x
    obtain ⟨k1, a1, a2, a3, a4⟩ := h1 r r1 ns1 er
    have hr1 : r1.length + k1 = r.length := by rw [a3, List.length_drop]; omega
    have c1 := cc.1 r1 ns1 er
    cases hp : isH sRp r1 with
    | true =>
     refine ⟨fun r2 ns e => ?_, fun e => (by rw [oneF, hm, if_pos rfl, er] at e; dsimp only at e; rw [if_pos hp] at e; cases e)⟩
     rw [oneF, hm, if_pos rfl, er] at e
     dsimp only at e
     rw [if_pos hp] at e
     cases e
     have cm := s_must sRp r1 (by omega) (out ++ ns1) hp
     refine callS_of Tryd.func93 (by rfl) rfl (by kernel_rfl) (by rfl) [FK, FK1] rfl ?_
     ((conv => whnf); repeat' ((first | (with_reducible first | apply a_ | apply b_ | apply c_) | ((with_reducible first | apply d_ | apply e_ | apply f_ | apply g_); focus first | omega | (simp only [q_] <;> omega)) | ((with_reducible first | apply i_ | apply h_); focus first | omega | (simp only [q_] <;> omega)) | ((with_reducible apply h_); focus first | decide | kernel_rfl) | refine BCase.t (by decide) ?_ | refine BCase.f (by decide) ?_ | (refine CallP.ret [(FK, FK), (FK1, FK1)] _ _ _ _ _ _ _ ct rfl rfl rfl rfl ⟨rfl, rfl, trivial⟩ ?_) | (refine CallP.ret [(FK, FK), (FK1, FK1), (NK, 7)] _ _ _ _ _ _ _ c1 rfl rfl rfl rfl ⟨rfl, rfl, trivial⟩ ?_) | (refine CallP.ret [(FK, FK), (FK1, 7)] _ _ _ _ _ _ _ cm rfl rfl rfl rfl ⟨rfl, rfl, trivial⟩ ?_) | with_reducible first | apply l_ | apply m_ | apply n_ | apply o_ | refine p_ (fun _ => ?_) (fun _ => ?_)) <;> (conv => whnf)))
     refine RetS.mk [(FK, FK), (FK1, FK1), (NK, 7)] [FK, FK1, NK] rfl rfl rfl ?_ <;> (repeat' (first | exact rfl | exact trivial | exact Or.inl rfl | refine And.intro ?_ ?_))
    | false =>
     refine ⟨fun r2 ns e => (by rw [oneF, hm, if_pos rfl, er] at e; dsimp only at e; rw [hp] at e; cases e), fun e => ?_⟩
     have hlen : (out ++ ns1).length = out.length + ns1.length := List.length_append
     have cm := x_must sRp r1 (by omega) (out ++ ns1) hp
     refine callX_of Tryd.func93 (by rfl) rfl (by kernel_rfl) (by rfl) [FK, FK1] rfl ?_
     ((conv => whnf); repeat' ((first | (with_reducible first | apply a_ | apply b_ | apply c_) | ((with_reducible first | apply d_ | apply e_ | apply f_ | apply g_); focus first | omega | (simp only [q_] <;> omega)) | ((with_reducible first | apply i_ | apply h_); focus first | omega | (simp only [q_] <;> omega)) | ((with_reducible apply h_); focus first | decide | kernel_rfl) | refine BCase.t (by decide) ?_ | refine BCase.f (by decide) ?_ | (refine CallP.ret [(FK, FK), (FK1, FK1)] _ _ _ _ _ _ _ ct rfl rfl rfl rfl ⟨rfl, rfl, trivial⟩ ?_) | (refine CallP.ret [(FK, FK), (FK1, FK1), (NK, 7)] _ _ _ _ _ _ _ c1 rfl rfl rfl rfl ⟨rfl, rfl, trivial⟩ ?_) | with_reducible first | apply l_ | apply m_ | apply n_ | apply o_ | refine p_ (fun _ => ?_) (fun _ => ?_)) <;> (conv => whnf)))
     exact CallP.pan [(FK, FK), (FK1, 7)] _ _ _ _ cm rfl rfl rfl ⟨rfl, rfl, trivial⟩ rfl
end Go.Proofs.YtmcmagfondjopaaDoor.Pm
end
section
namespace Go.Proofs.YtmcmagfondjopaaDoor.Pm
open Go.RowKit K
set_option linter.unusedVariables false
set_option linter.unusedSimpArgs false
set_option maxRecDepth 100000
theorem listR_step {rec : List TokenD → PR} (h1 : ∀ l, fit 1 l (rec l)) {l : List TokenD} (ho : isH sCo l = true) : (rec (l.drop 1) = none → listR rec (l.length + 1) l = none) ∧ (∀ r ns, rec (l.drop 1) = some (r, ns) → listR rec (l.length + 1) l = match listR rec (r.length + 1) r with
    | none => none
    | some (r2, ms, k) => some (r2, ns ++ ms, k + 1)) := by
 have hp := isH_pos ho
 constructor
 ·intro e
  rw [listR, if_pos ho, e]
 ·intro r ns e
  rw [listR, if_pos ho, e]
  dsimp only
  obtain ⟨k1, a1, a2, a3, a4⟩ := fit_at hp (h1 _) e
  have hl : r.length + 2 ≤ l.length := by rw [a3, List.length_drop]; omega
  rw [listR_fuel h1 l.length (r.length + 1) r (by omega) (by omega)]
  cases listR rec (r.length + 1) r <;> rfl
theorem listR_stop {rec : List TokenD → PR} {l : List TokenD} (ho : isH sCo l = false) (n : Nat) : listR rec (n + 1) l = some (l, [], 0) := by
 rw [listR, if_neg (by rw [ho]; decide)]
theorem s_list (rec : List TokenD → PR) (N : Nat) (hN : N ≤ 50000) (h1 : ∀ l, fit 1 l (rec l)) (hw : ∀ M, M < N → WalkOk 60 rec M) (l : List TokenD) (hl : l.length ≤ N) (ht : okT l) (out : List NodeD) (ho : out.length + l.length ≤ 90000) {r : List TokenD} {ns : List NodeD} {n : Nat} (hr : listF rec l = some (r, ns, n)) :
  CallS Tryd.prog 90 [.d (.ptr FK 0)] [] (pb FK FK1 l out) (pInt .i64 (n : Int)) (pb FK NK r (out ++ ns)) := by
 unfold listF at hr
 split at hr
 case isFalse => cases hr
 rename_i hb
 have hp := isH_pos hb
 have hd1 : (l.drop 1).length + 1 = l.length := by rw [List.length_drop]; omega
 split at hr
 ·cases hr
 rename_i r1 ns1 e1
 obtain ⟨k1, a1, a2, a3, a4⟩ := fit_at hp (h1 _) e1
 have hr1 : r1.length + k1 = l.length := by rw [a3, List.length_drop]; omega
 split at hr
 ·cases hr
 rename_i r2 ms k e2
 split at hr
 case isFalse => cases hr
 rename_i hq
 cases hr
 have cm := s_must sLp l (by omega) out hb
 have c1 := (hw (l.drop 1).length (by omega) (l.drop 1) (Nat.le_refl _) (ht.drop 1) out (by omega)).1 r1 ns1 e1
 refine callS_of Tryd.func90 (by rfl) rfl (by kernel_rfl) (by rfl) [FK, FK1] rfl ?_
 ((conv => whnf); repeat' ((first | (with_reducible first | apply a_ | apply b_ | apply c_) | ((with_reducible first | apply d_ | apply e_ | apply f_ | apply g_); focus first | omega | (simp only [q_] <;> omega)) | ((with_reducible first | apply i_ | apply h_); focus first | omega | (simp only [q_] <;> omega)) | ((with_reducible apply h_); focus first | decide | kernel_rfl) | refine BCase.t (by decide) ?_ | refine BCase.f (by decide) ?_ | (refine CallP.ret [(FK, FK), (FK1, FK1)] _ _ _ _ _ _ _ cm rfl rfl rfl rfl ⟨rfl, rfl, trivial⟩ ?_) | (refine CallP.ret [(FK, FK), (FK1, FK1), (NK, 7)] _ _ _ _ _ _ _ c1 rfl rfl rfl rfl ⟨rfl, rfl, trivial⟩ ?_) | with_reducible first | apply l_ | apply m_ | apply n_ | apply o_ | refine p_ (fun _ => ?_) (fun _ => ?_)) <;> (conv => whnf)))
 have f1 : r1.length < N := by omega
 have f2 : okT r1 := by rw [a3]; exact ht.drop k1
 have f3 : (out ++ ns1).length + r1.length ≤ 90000 := by rw [List.length_append]; omega
 have f4 : (1 : Nat) + r1.length ≤ 90000 := by omega
 refine LoopC.mk (List TokenD × List NodeD × Nat) (fun s => [(0, .d (.ptr FK 0)), (3, pInt .i64 (s.2.2 : Int))]) (fun s => pb FK 90 s.1 s.2.1) [FK, FK1, 90] (fun s => s.1.length < N ∧ okT s.1 ∧ s.2.1.length + s.1.length ≤ 90000 ∧ s.2.2 + s.1.length ≤ 90000 ∧ ∃ ms' k', listR rec (s.1.length + 1) s.1 = some (r2, ms', k') ∧ s.2.1 ++ ms' = out ++ (ns1 ++ ms) ∧ s.2.2 + k' = k + 1) (fun s => s.1.length) (r1, out ++ ns1, 1) ⟨f1, f2, f3, f4, ms, k, e2, List.append_assoc _ _ _, Nat.add_comm _ _⟩ ?start ?round
 case start =>
  refine ⟨[(FK, FK), (FK1, FK1), (90, 7)], rfl, rfl, ?_, ?_⟩ <;> (repeat' (first | exact rfl | exact trivial | exact Or.inl rfl | refine And.intro ?_ ?_))
 case round =>
  rintro ⟨l', o', c'⟩ ⟨b1, b2, b3, b6, ms', k', b4, b5, b7⟩
  dsimp only at b1 b2 b3 b4 b5 b6 b7
  have ct := s_take sCo l' (by omega) o'
  cases hc : isH sCo l' with
  | false =>
   have e3 : tkO sCo l' = l' := by unfold tkO; rw [hc]; rfl
   rw [hc, e3] at ct
   rw [listR_stop hc] at b4
   cases b4
   rw [List.append_nil] at b5
   have cm2 := s_must sRp r2 (by omega) o' hq
   have h9 : c' = k + 1 := b7
   subst h9
   ((conv => whnf); repeat' ((first | (with_reducible first | apply a_ | apply b_ | apply c_) | ((with_reducible first | apply d_ | apply e_ | apply f_ | apply g_); focus first | omega | (simp only [q_] <;> omega)) | ((with_reducible first | apply i_ | apply h_); focus first | omega | (simp only [q_] <;> omega)) | ((with_reducible apply h_); focus first | decide | kernel_rfl) | refine BCase.t (by decide) ?_ | refine BCase.f (by decide) ?_ | (refine CallP.ret [(FK, FK), (FK1, 90)] _ _ _ _ _ _ _ ct rfl rfl rfl rfl ⟨rfl, rfl, trivial⟩ ?_) | (refine CallP.ret [(FK, FK), (FK1, 90)] _ _ _ _ _ _ _ cm2 rfl rfl rfl rfl ⟨rfl, rfl, trivial⟩ ?_) | with_reducible first | apply l_ | apply m_ | apply n_ | apply o_ | refine p_ (fun _ => ?_) (fun _ => ?_)) <;> (conv => whnf)))
   refine RetS.mk [(FK, FK), (FK1, FK1), (NK, 90)] [FK, FK1, NK] rfl rfl (.inl rfl) ?_
   rw [← b5]
   (repeat' (first | exact rfl | exact trivial | exact Or.inl rfl | refine And.intro ?_ ?_))
  | true =>
   have e3 : tkO sCo l' = l'.drop 1 := by unfold tkO; rw [hc]; rfl
   rw [hc, e3] at ct
   have hpc := isH_pos hc
   have hdc : (l'.drop 1).length + 1 = l'.length := by rw [List.length_drop]; omega
   have cw := hw (l'.drop 1).length (by omega) (l'.drop 1) (Nat.le_refl _) (b2.drop 1) o' (by omega)
   obtain ⟨q1, q2⟩ := listR_step h1 hc
   cases er : rec (l'.drop 1) with
   | none => rw [q1 er] at b4; cases b4
   | some x =>
    obtain ⟨r3, ns3⟩ := x
    rw [q2 r3 ns3 er] at b4
    obtain ⟨k3, d1, d2, d3, d4⟩ := fit_at hpc (h1 _) er
    have hr3 : r3.length + k3 = l'.length := by rw [d3, List.length_drop]; omega
    have c3 := cw.1 r3 ns3 er
    ((conv => whnf); repeat' ((first | (with_reducible first | apply a_ | apply b_ | apply c_) | ((with_reducible first | apply d_ | apply e_ | apply f_ | apply g_); focus first | omega | (simp only [q_] <;> omega)) | ((with_reducible first | apply i_ | apply h_); focus first | omega | (simp only [q_] <;> omega)) | ((with_reducible apply h_); focus first | decide | kernel_rfl) | refine BCase.t (by decide) ?_ | refine BCase.f (by decide) ?_ | (refine CallP.ret [(FK, FK), (FK1, 90)] _ _ _ _ _ _ _ ct rfl rfl rfl rfl ⟨rfl, rfl, trivial⟩ ?_) | (refine CallP.ret [(FK, FK), (FK1, 90), (NK, 13)] _ _ _ _ _ _ _ c3 rfl rfl rfl rfl ⟨rfl, rfl, trivial⟩ ?_) | with_reducible first | apply l_ | apply m_ | apply n_ | apply o_ | refine p_ (fun _ => ?_) (fun _ => ?_)) <;> (conv => whnf)))
    have hlen : (o' ++ ns3).length = o'.length + ns3.length := List.length_append
    have g1 : r3.length < N := by omega
    have g2 : okT r3 := by rw [d3]; exact b2.drop _
    have g3 : (o' ++ ns3).length + r3.length ≤ 90000 := by omega
    have g4 : r3.length < l'.length := by omega
    have g6 : c' + 1 + r3.length ≤ 90000 := by omega
    split at b4
    ·cases b4
    rename_i r4 ms4 k4 e4
    cases b4
    have g8 : c' + 1 + k4 = k + 1 := by omega
    refine ⟨(r3, o' ++ ns3, c' + 1), ⟨g1, g2, g3, g6, ms4, k4, e4, ?_, g8⟩, g4, [(FK, FK), (FK1, FK1), (90, 13)], rfl, rfl, ?_, ?_⟩
    ·rw [← b5, List.append_assoc]
    all_goals
     (repeat' (first | exact rfl | exact trivial | exact Or.inl rfl | refine And.intro ?_ ?_))
    all_goals exact PLe.int (by omega)
theorem x_list (rec : List TokenD → PR) (N : Nat) (hN : N ≤ 50000) (h1 : ∀ l, fit 1 l (rec l)) (hw : ∀ M, M < N → WalkOk 60 rec M) (l : List TokenD) (hl : l.length ≤ N) (ht : okT l) (out : List NodeD) (ho : out.length + l.length ≤ 90000) (hr : listF rec l = none) :
  CallX Tryd.prog 90 [.d (.ptr FK 0)] (pb FK FK1 l out) wrongV := by
 refine callX_of Tryd.func90 (by rfl) rfl (by kernel_rfl) (by rfl) [FK, FK1] rfl ?_
 cases hb : isH sLp l with
 | false =>
  have cm := x_must sLp l (by omega) out hb
  ((conv => whnf); repeat' ((first | (with_reducible first | apply a_ | apply b_ | apply c_) | ((with_reducible first | apply d_ | apply e_ | apply f_ | apply g_); focus first | omega | (simp only [q_] <;> omega)) | ((with_reducible first | apply i_ | apply h_); focus first | omega | (simp only [q_] <;> omega)) | ((with_reducible apply h_); focus first | decide | kernel_rfl) | refine BCase.t (by decide) ?_ | refine BCase.f (by decide) ?_ | with_reducible first | apply l_ | apply m_ | apply n_ | apply o_ | refine p_ (fun _ => ?_) (fun _ => ?_)) <;> (conv => whnf)))
  exact CallP.pan [(FK, FK), (FK1, FK1)] _ _ _ _ cm rfl rfl rfl ⟨rfl, rfl, trivial⟩ rfl
 | true =>
 unfold listF at hr
 rw [if_pos hb] at hr
 have hp := isH_pos hb
 have hd1 : (l.drop 1).length + 1 = l.length := by rw [List.length_drop]; omega
 have cm := s_must sLp l (by omega) out hb
 have cw := hw (l.drop 1).length (by omega) (l.drop 1) (Nat.le_refl _) (ht.drop 1) out (by omega)
 cases e1 : rec (l.drop 1) with
 | none =>
  have c1 := cw.2 e1
  ((conv => whnf); repeat' ((first | (with_reducible first | apply a_ | apply b_ | apply c_) | ((with_reducible first | apply d_ | apply e_ | apply f_ | apply g_); focus first | omega | (simp only [q_] <;> omega)) | ((with_reducible first | apply i_ | apply h_); focus first | omega | (simp only [q_] <;> omega)) | ((with_reducible apply h_); focus first | decide | kernel_rfl) | refine BCase.t (by decide) ?_ | refine BCase.f (by decide) ?_ | (refine CallP.ret [(FK, FK), (FK1, FK1)] _ _ _ _ _ _ _ cm rfl rfl rfl rfl ⟨rfl, rfl, trivial⟩ ?_) | with_reducible first | apply l_ | apply m_ | apply n_ | apply o_ | refine p_ (fun _ => ?_) (fun _ => ?_)) <;> (conv => whnf)))
  exact CallP.pan [(FK, FK), (FK1, FK1)] _ _ _ _ c1 rfl rfl rfl ⟨rfl, rfl, trivial⟩ rfl
 | some x =>
 obtain ⟨r1, ns1⟩ := x
 rw [e1] at hr
 dsimp only at hr
 obtain ⟨k1, a1, a2, a3, a4⟩ := fit_at hp (h1 _) e1
 have hr1 : r1.length + k1 = l.length := by rw [a3, List.length_drop]; omega
 have c1 := cw.1 r1 ns1 e1
 have hq : ∀ r2 ms k, listR rec (r1.length + 1) r1 = some (r2, ms, k) → isH sRp r2 = false := by
  intro r2 ms k e2
  rw [e2] at hr
  dsimp only at hr
  split at hr
  ·cases hr
  ·rename_i g; rwa [Bool.not_eq_true] at g
 ((conv => whnf); repeat' ((first | (with_reducible first | apply a_ | apply b_ | apply c_) | ((with_reducible first | apply d_ | apply e_ | apply f_ | apply g_); focus first | omega | (simp only [q_] <;> omega)) | ((with_reducible first | apply i_ | apply h_); focus first | omega | (simp only [q_] <;> omega)) | ((with_reducible apply h_); focus first | decide | kernel_rfl) | refine BCase.t (by decide) ?_ | refine BCase.f (by decide) ?_ | (refine CallP.ret [(FK, FK), (FK1, FK1)] _ _ _ _ _ _ _ cm rfl rfl rfl rfl ⟨rfl, rfl, trivial⟩ ?_) | (refine CallP.ret [(FK, FK), (FK1, FK1), (NK, 7)] _ _ _ _ _ _ _ c1 rfl rfl rfl rfl ⟨rfl, rfl, trivial⟩ ?_) | with_reducible first | apply l_ | apply m_ | apply n_ | apply o_ | refine p_ (fun _ => ?_) (fun _ => ?_)) <;> (conv => whnf)))
 have f1 : r1.length < N := by omega
 have f2 : okT r1 := by rw [a3]; exact ht.drop k1
 have f3 : (out ++ ns1).length + r1.length ≤ 90000 := by rw [List.length_append]; omega
 have f4 : (1 : Nat) + r1.length ≤ 90000 := by omega
 refine LoopC.mk (List TokenD × List NodeD × Nat) (fun s => [(0, .d (.ptr FK 0)), (3, pInt .i64 (s.2.2 : Int))]) (fun s => pb FK 90 s.1 s.2.1) [FK, FK1, 90] (fun s => s.1.length < N ∧ okT s.1 ∧ s.2.1.length + s.1.length ≤ 90000 ∧ s.2.2 + s.1.length ≤ 90000 ∧ ∀ r2 ms k, listR rec (s.1.length + 1) s.1 = some (r2, ms, k) → isH sRp r2 = false) (fun s => s.1.length) (r1, out ++ ns1, 1) ⟨f1, f2, f3, f4, hq⟩ ?start ?round
 case start =>
  refine ⟨[(FK, FK), (FK1, FK1), (90, 7)], rfl, rfl, ?_, ?_⟩ <;> (repeat' (first | exact rfl | exact trivial | exact Or.inl rfl | refine And.intro ?_ ?_))
 case round =>
  rintro ⟨l', o', c'⟩ ⟨b1, b2, b3, b6, b4⟩
  dsimp only at b1 b2 b3 b4 b6
  have ct := s_take sCo l' (by omega) o'
  cases hc : isH sCo l' with
  | false =>
   have b5 := b4 _ _ _ (listR_stop hc _)
   have e3 : tkO sCo l' = l' := by unfold tkO; rw [hc]; rfl
   rw [hc, e3] at ct
   have cm2 := x_must sRp l' (by omega) o' b5
   ((conv => whnf); repeat' ((first | (with_reducible first | apply a_ | apply b_ | apply c_) | ((with_reducible first | apply d_ | apply e_ | apply f_ | apply g_); focus first | omega | (simp only [q_] <;> omega)) | ((with_reducible first | apply i_ | apply h_); focus first | omega | (simp only [q_] <;> omega)) | ((with_reducible apply h_); focus first | decide | kernel_rfl) | refine BCase.t (by decide) ?_ | refine BCase.f (by decide) ?_ | (refine CallP.ret [(FK, FK), (FK1, 90)] _ _ _ _ _ _ _ ct rfl rfl rfl rfl ⟨rfl, rfl, trivial⟩ ?_) | with_reducible first | apply l_ | apply m_ | apply n_ | apply o_ | refine p_ (fun _ => ?_) (fun _ => ?_)) <;> (conv => whnf)))
   exact CallP.pan [(FK, FK), (FK1, 90)] _ _ _ _ cm2 rfl rfl rfl ⟨rfl, rfl, trivial⟩ rfl
  | true =>
   have e3 : tkO sCo l' = l'.drop 1 := by unfold tkO; rw [hc]; rfl
   rw [hc, e3] at ct
   have hpc := isH_pos hc
   have hdc : (l'.drop 1).length + 1 = l'.length := by rw [List.length_drop]; omega
   have cw := hw (l'.drop 1).length (by omega) (l'.drop 1) (Nat.le_refl _) (b2.drop 1) o' (by omega)
   obtain ⟨q1, q2⟩ := listR_step h1 hc
   cases er : rec (l'.drop 1) with
   | none =>
    have c3 := cw.2 er
    ((conv => whnf); repeat' ((first | (with_reducible first | apply a_ | apply b_ | apply c_) | ((with_reducible first | apply d_ | apply e_ | apply f_ | apply g_); focus first | omega | (simp only [q_] <;> omega)) | ((with_reducible first | apply i_ | apply h_); focus first | omega | (simp only [q_] <;> omega)) | ((with_reducible apply h_); focus first | decide | kernel_rfl) | refine BCase.t (by decide) ?_ | refine BCase.f (by decide) ?_ | (refine CallP.ret [(FK, FK), (FK1, 90)] _ _ _ _ _ _ _ ct rfl rfl rfl rfl ⟨rfl, rfl, trivial⟩ ?_) | with_reducible first | apply l_ | apply m_ | apply n_ | apply o_ | refine p_ (fun _ => ?_) (fun _ => ?_)) <;> (conv => whnf)))
    exact CallP.pan [(FK, FK), (FK1, 90)] _ _ _ _ c3 rfl rfl rfl ⟨rfl, rfl, trivial⟩ rfl
   | some x =>
    obtain ⟨r3, ns3⟩ := x
    obtain ⟨k3, d1, d2, d3, d4⟩ := fit_at hpc (h1 _) er
    have hr3 : r3.length + k3 = l'.length := by rw [d3, List.length_drop]; omega
    have c3 := cw.1 r3 ns3 er
    ((conv => whnf); repeat' ((first | (with_reducible first | apply a_ | apply b_ | apply c_) | ((with_reducible first | apply d_ | apply e_ | apply f_ | apply g_); focus first | omega | (simp only [q_] <;> omega)) | ((with_reducible first | apply i_ | apply h_); focus first | omega | (simp only [q_] <;> omega)) | ((with_reducible apply h_); focus first | decide | kernel_rfl) | refine BCase.t (by decide) ?_ | refine BCase.f (by decide) ?_ | (refine CallP.ret [(FK, FK), (FK1, 90)] _ _ _ _ _ _ _ ct rfl rfl rfl rfl ⟨rfl, rfl, trivial⟩ ?_) | (refine CallP.ret [(FK, FK), (FK1, 90), (NK, 13)] _ _ _ _ _ _ _ c3 rfl rfl rfl rfl ⟨rfl, rfl, trivial⟩ ?_) | with_reducible first | apply l_ | apply m_ | apply n_ | apply o_ | refine p_ (fun _ => ?_) (fun _ => ?_)) <;> (conv => whnf)))
    have hlen : (o' ++ ns3).length = o'.length + ns3.length := List.length_append
    have g1 : r3.length < N := by omega
    have g2 : okT r3 := by rw [d3]; exact b2.drop _
    have g3 : (o' ++ ns3).length + r3.length ≤ 90000 := by omega
    have g4 : r3.length < l'.length := by omega
    have g6 : c' + 1 + r3.length ≤ 90000 := by omega
    have g7 : ∀ r2 ms k, listR rec (r3.length + 1) r3 = some (r2, ms, k) → isH sRp r2 = false := fun r2 ms k e4 => b4 r2 (ns3 ++ ms) (k + 1) (by rw [q2 r3 ns3 er, e4])
    refine ⟨(r3, o' ++ ns3, c' + 1), ⟨g1, g2, g3, g6, g7⟩, g4, [(FK, FK), (FK1, FK1), (90, 13)], rfl, rfl, ?_, ?_⟩
    all_goals
     (repeat' (first | exact rfl | exact trivial | exact Or.inl rfl | refine And.intro ?_ ?_))
    all_goals exact PLe.int (by omega)
end Go.Proofs.YtmcmagfondjopaaDoor.Pm
end
section
namespace Go.Proofs.YtmcmagfondjopaaDoor.Pm
open Go.RowKit K
set_option linter.unusedVariables false
set_option linter.unusedSimpArgs false
set_option maxRecDepth 100000
theorem s_take_f (s : List UInt8) (l : List TokenD) (hl : l.length ≤ 100000) (out : List NodeD) (h : isH s l = false) : CallS Tryd.prog 80 [.d (.ptr FK 0), pStr (tx s)] [(FK1, pAr out)] [(FK, pBx FK1 l out.length)] (pBool false) [(FK, pBx FK1 l out.length)] := by
 have ct := s_take s l hl out
 have e2 : tkO s l = l := by unfold tkO; rw [h]; rfl
 rw [h, e2] at ct
 exact ct
theorem s_take_t (s : List UInt8) (l : List TokenD) (hl : l.length ≤ 100000) (out : List NodeD) (h : isH s l = true) : CallS Tryd.prog 80 [.d (.ptr FK 0), pStr (tx s)] [(FK1, pAr out)] [(FK, pBx FK1 l out.length)] (pBool true) [(FK, pBx FK1 (l.drop 1) out.length)] := by
 have ct := s_take s l hl out
 have e2 : tkO s l = l.drop 1 := by unfold tkO; rw [h]; rfl
 rw [h, e2] at ct
 exact ct
abbrev cmps : List Int := [10, 11, 12, 13, 14, 15]
theorem ixN_spec : ∀ (ops : List Int) (l : List TokenD), (∀ i, i < ixN ops l → ∀ h : i < ops.length, isH (sgn ops[i]) l = false) ∧ (∀ h : ixN ops l < ops.length, isH (sgn ops[ixN ops l]) l = true)
 | [], l => ⟨fun i _ h => absurd h (Nat.not_lt_zero _), fun h => absurd h (Nat.not_lt_zero _)⟩
 | o :: os, l => by
  obtain ⟨a, b⟩ := ixN_spec os l
  cases hh : isH (sgn o) l with
  | true =>
   have e : ixN (o :: os) l = 0 := by rw [ixN, if_pos hh]
   refine ⟨fun i hi => absurd hi (by omega), fun h => ?_⟩
   have : ∀ n, n = 0 → ∀ h : n < (o :: os).length, isH (sgn (o :: os)[n]) l = true := by
    rintro n rfl h; exact hh
   exact this _ e h
  | false =>
   have e : ixN (o :: os) l = ixN os l + 1 := by rw [ixN, if_neg (by rw [hh]; decide)]
   constructor
   ·intro i hi h
    cases i with
    | zero => exact hh
    | succ i => exact a i (by omega) (by simpa using h)
   ·have : ∀ n, n = ixN os l + 1 → ∀ h : n < (o :: os).length, isH (sgn (o :: os)[n]) l = true := by
     rintro n rfl h; exact b (by simpa using h)
    exact fun h => this _ e h
theorem cmps_at : ∀ (i : Nat) (h : i < cmps.length), cmps[i] = 10 + (i : Int)
 | 0, _ => rfl
 | 1, _ => rfl
 | 2, _ => rfl
 | 3, _ => rfl
 | 4, _ => rfl
 | 5, _ => rfl
 | n + 6, h => absurd h (by show ¬ n + 6 < 6; omega)
theorem cmp_spec (l : List TokenD) : ∃ J : Nat, J ≤ 6 ∧ (∀ i : Nat, i < J → isH (sgn (10 + (i : Int))) l = false) ∧ ((J < 6 ∧ isH (sgn (10 + (J : Int))) l = true ∧ opAt cmps l = some (10 + (J : Int))) ∨ (J = 6 ∧ opAt cmps l = none)) := by
 obtain ⟨a, b⟩ := ixN_spec cmps l
 have hle : ixN cmps l ≤ 6 := ixN_le cmps l
 have hoa := opAt_ix cmps l
 refine ⟨ixN cmps l, hle, fun i hi => ?_, ?_⟩
 ·have h6 : i < cmps.length := by show i < 6; omega
  have := a i hi h6
  rwa [cmps_at i h6] at this
 ·by_cases q : ixN cmps l < 6
  ·have h6 : ixN cmps l < cmps.length := q
   have h := b h6
   rw [cmps_at _ h6] at h
   exact .inl ⟨q, h, by rw [hoa, List.getElem?_eq_getElem h6, cmps_at _ h6]⟩
  ·exact .inr ⟨by omega, by rw [hoa, List.getElem?_eq_none_iff]; exact Nat.not_lt.1 q⟩
theorem s_ask (rec : List TokenD → PR) (N : Nat) (hN : N ≤ 50000) (h1 : ∀ l, fit 1 l (rec l)) (hw : ∀ M, M < N → WalkOk 60 rec M) (hA : WalkOk 88 (addF rec) N) (l : List TokenD) (hl : l.length ≤ N) (ht : okT l) (out : List NodeD) (ho : out.length + l.length ≤ 90000) {r : List TokenD} {ns : List NodeD} (hr : askF rec l = some (r, ns)) :
  CallS Tryd.prog 86 [.d (.ptr FK 0)] [] (pb FK FK1 l out) (.tup []) (pb FK NK r (out ++ ns)) := by
 have ha := fit_add h1
 unfold askF at hr
 split at hr
 ·cases hr
 rename_i r1 fs e1
 obtain ⟨k1, a1, a2, a3, a4⟩ := ha l r1 fs e1
 have hr1 : r1.length + k1 = l.length := by rw [a3, List.length_drop]; omega
 split at hr
 ·cases hr
 rename_i r2 ms e2
 cases hr
 have c1 := (hA l hl ht out ho).1 r1 fs e1
 have f1 : r1.length < l.length := by omega
 have f2 : okT r1 := by rw [a3]; exact ht.drop k1
 obtain ⟨o1, ho1⟩ : ∃ o1, o1 = out ++ fs := ⟨_, rfl⟩
 have f3 : o1.length + r1.length ≤ 90000 := by rw [ho1, List.length_append]; omega
 rw [← ho1] at c1
 obtain ⟨J, hJ, j1, j2⟩ := cmp_spec r1
 rw [← List.append_assoc, ← ho1]
 refine callS_of Tryd.func86 (by rfl) rfl (by kernel_rfl) (by rfl) [FK, FK1] rfl ?_
 ((conv => whnf); repeat' ((first | (with_reducible first | apply a_ | apply b_ | apply c_) | ((with_reducible first | apply d_ | apply e_ | apply f_ | apply g_); focus first | omega | (simp only [q_] <;> omega)) | ((with_reducible first | apply i_ | apply h_); focus first | omega | (simp only [q_] <;> omega)) | ((with_reducible apply h_); focus first | decide | kernel_rfl) | refine BCase.t (by decide) ?_ | refine BCase.f (by decide) ?_ | (refine CallP.ret [(FK, FK), (FK1, FK1), (NK, 7)] _ _ _ _ _ _ _ c1 rfl rfl rfl rfl ⟨rfl, rfl, trivial⟩ ?_) | with_reducible first | apply l_ | apply m_ | apply n_ | apply o_ | refine p_ (fun _ => ?_) (fun _ => ?_)) <;> (conv => whnf)))
 unfold moreF at e2
 refine LoopC.mk Nat (fun j => [(0, .d (.ptr FK 0)), (2, pInt .i64 (10 + (j : Int)))]) (fun j => pb FK 90 r1 o1) [FK, FK1, 90] (fun j => j ≤ J) (fun j => J - j) 0 (Nat.zero_le _) ?start ?round
 case start =>
  refine ⟨[(FK, FK), (FK1, FK1), (90, 7)], rfl, rfl, ?_, ?_⟩ <;> (repeat' (first | exact rfl | exact trivial | exact Or.inl rfl | refine And.intro ?_ ?_))
 case round =>
  intro j hj
  have hj : j ≤ J := hj
  by_cases q : j < J
  ·have ct := s_take_f (sgn (10 + (j : Int))) r1 (by omega) o1 (j1 j q)
   have ps := p_sign (10 + (j : Int))
   ((conv => whnf); repeat' ((first | (with_reducible first | apply a_ | apply b_ | apply c_) | ((with_reducible first | apply d_ | apply e_ | apply f_ | apply g_); focus first | omega | (simp only [q_] <;> omega)) | ((with_reducible first | apply i_ | apply h_); focus first | omega | (simp only [q_] <;> omega)) | ((with_reducible apply h_); focus first | decide | kernel_rfl) | refine BCase.t (by decide) ?_ | refine BCase.f (by decide) ?_ | refine CallP.pure _ rfl _ (ps) ?_ | (refine CallP.ret [(FK, FK), (FK1, 90)] _ _ _ _ _ _ _ ct rfl rfl rfl rfl ⟨rfl, rfl, trivial⟩ ?_) | with_reducible first | apply l_ | apply m_ | apply n_ | apply o_ | refine p_ (fun _ => ?_) (fun _ => ?_)) <;> (conv => whnf)))
   refine ⟨j + 1, q, by show _ < _; omega, [(FK, FK), (FK1, FK1), (90, 90)], rfl, rfl, ?_, ?_⟩
   all_goals
    (repeat' (first | exact rfl | exact trivial | exact Or.inl rfl | refine And.intro ?_ ?_))
   all_goals exact PLe.int (by omega)
  have e0 : j = J := by omega
  subst e0
  have ps := p_sign (10 + (j : Int))
  rcases j2 with ⟨j3, j4, j5⟩ | ⟨j3, j5⟩
  ·rw [j5] at e2
   dsimp only at e2
   have hp := isH_pos j4
   have hd1 : (r1.drop 1).length + 1 = r1.length := by rw [List.length_drop]; omega
   split at e2
   ·cases e2
   rename_i r3 bs e3
   cases e2
   obtain ⟨k3, d1, d2, d3, d4⟩ := ha _ _ _ e3
   have hr3 : r.length + k3 = (r1.drop 1).length := by rw [d3, List.length_drop]; omega
   have hlb : (o1 ++ bs).length = o1.length + bs.length := List.length_append
   have ct := s_take_t (sgn (10 + (j : Int))) r1 (by omega) o1 j4
   have c3 := (hA (r1.drop 1) (by omega) (f2.drop 1) o1 (by omega)).1 r bs e3
   have cp := s_put (10 + (j : Int)) 2 r (o1 ++ bs) (by omega)
   rw [List.append_assoc] at cp
   ((conv => whnf); repeat' ((first | (with_reducible first | apply a_ | apply b_ | apply c_) | ((with_reducible first | apply d_ | apply e_ | apply f_ | apply g_); focus first | omega | (simp only [q_] <;> omega)) | ((with_reducible first | apply i_ | apply h_); focus first | omega | (simp only [q_] <;> omega)) | ((with_reducible apply h_); focus first | decide | kernel_rfl) | refine BCase.t (by decide) ?_ | refine BCase.f (by decide) ?_ | refine CallP.pure _ rfl _ (ps) ?_ | (refine CallP.ret [(FK, FK), (FK1, 90)] _ _ _ _ _ _ _ ct rfl rfl rfl rfl ⟨rfl, rfl, trivial⟩ ?_) | (refine CallP.ret [(FK, FK), (FK1, 90), (NK, 17)] _ _ _ _ _ _ _ c3 rfl rfl rfl rfl ⟨rfl, rfl, trivial⟩ ?_) | (refine CallP.ret [(FK, FK), (FK1, 17), (NK, 20)] _ _ _ _ _ _ _ cp rfl rfl rfl rfl ⟨rfl, rfl, trivial⟩ ?_) | with_reducible first | apply l_ | apply m_ | apply n_ | apply o_ | refine p_ (fun _ => ?_) (fun _ => ?_)) <;> (conv => whnf)))
   refine RetS.mk [(FK, FK), (FK1, FK1), (NK, 20)] [FK, FK1, NK] rfl rfl rfl ?_ <;> (repeat' (first | exact rfl | exact trivial | exact Or.inl rfl | refine And.intro ?_ ?_))
  rw [j5] at e2
  dsimp only at e2
  subst j3
  cases hi : isH wIs r1 with
  | true =>
   rw [if_pos hi] at e2
   have hp := isH_pos hi
   have hd1 : (r1.drop 1).length + 1 = r1.length := by rw [List.length_drop]; omega
   have ci := s_take_t wIs r1 (by omega) o1 hi
   unfold isF at e2
   cases hn : isH wNot (r1.drop 1) with
   | true =>
    rw [if_pos hn] at e2
    have hp2 := isH_pos hn
    have hd2 : ((r1.drop 1).drop 1).length + 1 = (r1.drop 1).length := by rw [List.length_drop]; omega
    split at e2
    case isFalse => cases e2
    rename_i hu
    cases e2
    have cn := s_take_t wNot (r1.drop 1) (by omega) o1 hn
    have cm := s_must wNull ((r1.drop 1).drop 1) (by omega) o1 hu
    have ed : ((r1.drop 1).drop 1).drop 1 = (r1.drop 1).drop 2 := by rw [List.drop_drop (l := r1.drop 1)]
    rw [ed] at cm
    have cp := s_put 19 1 ((r1.drop 1).drop 2) o1 (by omega)
    ((conv => whnf); repeat' ((first | (with_reducible first | apply a_ | apply b_ | apply c_) | ((with_reducible first | apply d_ | apply e_ | apply f_ | apply g_); focus first | omega | (simp only [q_] <;> omega)) | ((with_reducible first | apply i_ | apply h_); focus first | omega | (simp only [q_] <;> omega)) | ((with_reducible apply h_); focus first | decide | kernel_rfl) | refine BCase.t (by decide) ?_ | refine BCase.f (by decide) ?_ | refine CallP.pure _ rfl _ (ps) ?_ | (refine CallP.ret [(FK, FK), (FK1, 90)] _ _ _ _ _ _ _ ci rfl rfl rfl rfl ⟨rfl, rfl, trivial⟩ ?_) | (refine CallP.ret [(FK, FK), (FK1, 90)] _ _ _ _ _ _ _ cn rfl rfl rfl rfl ⟨rfl, rfl, trivial⟩ ?_) | (refine CallP.ret [(FK, FK), (FK1, 90)] _ _ _ _ _ _ _ cm rfl rfl rfl rfl ⟨rfl, rfl, trivial⟩ ?_) | (refine CallP.ret [(FK, FK), (FK1, 90), (NK, 29)] _ _ _ _ _ _ _ cp rfl rfl rfl rfl ⟨rfl, rfl, trivial⟩ ?_) | with_reducible first | apply l_ | apply m_ | apply n_ | apply o_ | refine p_ (fun _ => ?_) (fun _ => ?_)) <;> (conv => whnf)))
    refine RetS.mk [(FK, FK), (FK1, FK1), (NK, 29)] [FK, FK1, NK] rfl rfl rfl ?_ <;> (repeat' (first | exact rfl | exact trivial | exact Or.inl rfl | refine And.intro ?_ ?_))
   | false =>
    rw [if_neg (by rw [hn]; decide)] at e2
    split at e2
    case isFalse => cases e2
    rename_i hu
    cases e2
    have cn := s_take_f wNot (r1.drop 1) (by omega) o1 hn
    have cm := s_must wNull (r1.drop 1) (by omega) o1 hu
    have cp := s_put 18 1 ((r1.drop 1).drop 1) o1 (by omega)
    ((conv => whnf); repeat' ((first | (with_reducible first | apply a_ | apply b_ | apply c_) | ((with_reducible first | apply d_ | apply e_ | apply f_ | apply g_); focus first | omega | (simp only [q_] <;> omega)) | ((with_reducible first | apply i_ | apply h_); focus first | omega | (simp only [q_] <;> omega)) | ((with_reducible apply h_); focus first | decide | kernel_rfl) | refine BCase.t (by decide) ?_ | refine BCase.f (by decide) ?_ | refine CallP.pure _ rfl _ (ps) ?_ | (refine CallP.ret [(FK, FK), (FK1, 90)] _ _ _ _ _ _ _ ci rfl rfl rfl rfl ⟨rfl, rfl, trivial⟩ ?_) | (refine CallP.ret [(FK, FK), (FK1, 90)] _ _ _ _ _ _ _ cn rfl rfl rfl rfl ⟨rfl, rfl, trivial⟩ ?_) | (refine CallP.ret [(FK, FK), (FK1, 90)] _ _ _ _ _ _ _ cm rfl rfl rfl rfl ⟨rfl, rfl, trivial⟩ ?_) | (refine CallP.ret [(FK, FK), (FK1, 90), (NK, 29)] _ _ _ _ _ _ _ cp rfl rfl rfl rfl ⟨rfl, rfl, trivial⟩ ?_) | with_reducible first | apply l_ | apply m_ | apply n_ | apply o_ | refine p_ (fun _ => ?_) (fun _ => ?_)) <;> (conv => whnf)))
    refine RetS.mk [(FK, FK), (FK1, FK1), (NK, 29)] [FK, FK1, NK] rfl rfl rfl ?_ <;> (repeat' (first | exact rfl | exact trivial | exact Or.inl rfl | refine And.intro ?_ ?_))
  | false =>
   rw [if_neg (by rw [hi]; decide)] at e2
   have ci := s_take_f wIs r1 (by omega) o1 hi
   cases hn : isH wNot r1 with
   | true =>
    rw [if_pos hn] at e2
    have cn := s_take_t wNot r1 (by omega) o1 hn
    have hp := isH_pos hn
    have hrr : (r1.drop 1).length + 1 = r1.length := by rw [List.length_drop]; omega
    obtain ⟨rr, err⟩ : ∃ rr, rr = r1.drop 1 := ⟨_, rfl⟩
    have frr : okT rr := by rw [err]; exact f2.drop 1
    rw [← err] at e2 cn hrr
    have hrl : rr.length ≤ r1.length := by omega
    unfold tailF at e2
    cases hk : isH wLike rr with
    | true =>
     rw [if_pos hk] at e2
     have hp2 := isH_pos hk
     have hd2 : (rr.drop 1).length + 1 = rr.length := by rw [List.length_drop]; omega
     split at e2
     ·cases e2
     rename_i r3 bs e3
     cases e2
     obtain ⟨k3, d1, d2, d3, d4⟩ := ha _ _ _ e3
     have hr3 : r.length + k3 = (rr.drop 1).length := by rw [d3, List.length_drop]; omega
     have hlb : (o1 ++ bs).length = o1.length + bs.length := List.length_append
     have ck := s_take_t wLike rr (by omega) o1 hk
     have c3 := (hA (rr.drop 1) (by omega) (frr.drop 1) o1 (by omega)).1 r bs e3
     have cp := s_put (20 + ((1 : Nat) : Int)) 2 r (o1 ++ bs) (by omega)
     rw [List.append_assoc] at cp
     ((conv => whnf); repeat' ((first | (with_reducible first | apply a_ | apply b_ | apply c_) | ((with_reducible first | apply d_ | apply e_ | apply f_ | apply g_); focus first | omega | (simp only [q_] <;> omega)) | ((with_reducible first | apply i_ | apply h_); focus first | omega | (simp only [q_] <;> omega)) | ((with_reducible apply h_); focus first | decide | kernel_rfl) | refine BCase.t (by decide) ?_ | refine BCase.f (by decide) ?_ | refine CallP.pure _ rfl _ (ps) ?_ | (refine CallP.ret [(FK, FK), (FK1, 90)] _ _ _ _ _ _ _ ci rfl rfl rfl rfl ⟨rfl, rfl, trivial⟩ ?_) | (refine CallP.ret [(FK, FK), (FK1, 90)] _ _ _ _ _ _ _ cn rfl rfl rfl rfl ⟨rfl, rfl, trivial⟩ ?_) | (refine CallP.ret [(FK, FK), (FK1, 90)] _ _ _ _ _ _ _ ck rfl rfl rfl rfl ⟨rfl, rfl, trivial⟩ ?_) | (refine CallP.ret [(FK, FK), (FK1, 90), (NK, 36)] _ _ _ _ _ _ _ c3 rfl rfl rfl rfl ⟨rfl, rfl, trivial⟩ ?_) | (refine CallP.ret [(FK, FK), (FK1, 36), (NK, 40)] _ _ _ _ _ _ _ cp rfl rfl rfl rfl ⟨rfl, rfl, trivial⟩ ?_) | with_reducible first | apply l_ | apply m_ | apply n_ | apply o_ | refine p_ (fun _ => ?_) (fun _ => ?_)) <;> (conv => whnf)))
     refine RetS.mk [(FK, FK), (FK1, FK1), (NK, 40)] [FK, FK1, NK] rfl rfl rfl ?_ <;> (repeat' (first | exact rfl | exact trivial | exact Or.inl rfl | refine And.intro ?_ ?_))
    | false =>
     rw [if_neg (by rw [hk]; decide)] at e2
     have ck := s_take_f wLike rr (by omega) o1 hk
     cases hin : isH wIn rr with
     | true =>
      rw [if_pos hin] at e2
      have hp2 := isH_pos hin
      have hd2 : (rr.drop 1).length + 1 = rr.length := by rw [List.length_drop]; omega
      split at e2
      ·cases e2
      rename_i r3 bs n e3
      cases e2
      obtain ⟨k3, d1, d2, d3, d4, d5⟩ := fit_list h1 _ _ _ _ e3
      have hr3 : r.length + k3 = (rr.drop 1).length := by rw [d3, List.length_drop]; omega
      have hlb : (o1 ++ bs).length = o1.length + bs.length := List.length_append
      have cin := s_take_t wIn rr (by omega) o1 hin
      have c3 := s_list rec N hN h1 hw (rr.drop 1) (by omega) (frr.drop 1) o1 (by omega) e3
      have cp := s_put (22 + ((1 : Nat) : Int)) ((n : Int) + 1) r (o1 ++ bs) (by omega)
      rw [List.append_assoc] at cp
      ((conv => whnf); repeat' ((first | (with_reducible first | apply a_ | apply b_ | apply c_) | ((with_reducible first | apply d_ | apply e_ | apply f_ | apply g_); focus first | omega | (simp only [q_] <;> omega)) | ((with_reducible first | apply i_ | apply h_); focus first | omega | (simp only [q_] <;> omega)) | ((with_reducible apply h_); focus first | decide | kernel_rfl) | refine BCase.t (by decide) ?_ | refine BCase.f (by decide) ?_ | refine CallP.pure _ rfl _ (ps) ?_ | (refine CallP.ret [(FK, FK), (FK1, 90)] _ _ _ _ _ _ _ ci rfl rfl rfl rfl ⟨rfl, rfl, trivial⟩ ?_) | (refine CallP.ret [(FK, FK), (FK1, 90)] _ _ _ _ _ _ _ cn rfl rfl rfl rfl ⟨rfl, rfl, trivial⟩ ?_) | (refine CallP.ret [(FK, FK), (FK1, 90)] _ _ _ _ _ _ _ ck rfl rfl rfl rfl ⟨rfl, rfl, trivial⟩ ?_) | (refine CallP.ret [(FK, FK), (FK1, 90)] _ _ _ _ _ _ _ cin rfl rfl rfl rfl ⟨rfl, rfl, trivial⟩ ?_) | (refine CallP.ret [(FK, FK), (FK1, 90), (NK, 45)] _ _ _ _ _ _ _ c3 rfl rfl rfl rfl ⟨rfl, rfl, trivial⟩ ?_) | (refine CallP.ret [(FK, FK), (FK1, 45), (NK, 51)] _ _ _ _ _ _ _ cp rfl rfl rfl rfl ⟨rfl, rfl, trivial⟩ ?_) | with_reducible first | apply l_ | apply m_ | apply n_ | apply o_ | refine p_ (fun _ => ?_) (fun _ => ?_)) <;> (conv => whnf)))
      refine RetS.mk [(FK, FK), (FK1, FK1), (NK, 51)] [FK, FK1, NK] rfl rfl rfl ?_ <;> (repeat' (first | exact rfl | exact trivial | exact Or.inl rfl | refine And.intro ?_ ?_))
     | false =>
      rw [if_neg (by rw [hin]; decide)] at e2
      have cin := s_take_f wIn rr (by omega) o1 hin
      cases hb : isH wBetw rr with
      | true =>
       rw [if_pos hb] at e2
       have hp2 := isH_pos hb
       have hd2 : (rr.drop 1).length + 1 = rr.length := by rw [List.length_drop]; omega
       unfold twoF at e2
       cases e3 : addF rec (rr.drop 1) with
       | none => rw [e3] at e2; cases e2
       | some x =>
        obtain ⟨r3, bs⟩ := x
        rw [e3] at e2
        dsimp only at e2
        obtain ⟨k3, d1, d2, d3, d4⟩ := ha _ _ _ e3
        have hr3 : r3.length + k3 = (rr.drop 1).length := by rw [d3, List.length_drop]; omega
        cases hand : isH wAnd r3 with
        | false => rw [if_neg (by rw [hand]; decide)] at e2; cases e2
        | true =>
         rw [if_pos hand] at e2
         have hp3 := isH_pos hand
         have hd3 : (r3.drop 1).length + 1 = r3.length := by rw [List.length_drop]; omega
         have fr3 : okT r3 := by rw [d3]; exact (frr.drop 1).drop _
         cases e4 : addF rec (r3.drop 1) with
         | none => rw [e4] at e2; cases e2
         | some y =>
          obtain ⟨r4, cs⟩ := y
          rw [e4] at e2
          dsimp only at e2
          cases e2
          obtain ⟨k4, b1, b2, b3, b4⟩ := ha _ _ _ e4
          have hr4 : r.length + k4 = (r3.drop 1).length := by rw [b3, List.length_drop]; omega
          have hlb : (o1 ++ bs).length = o1.length + bs.length := List.length_append
          have hlc : (o1 ++ bs ++ cs).length = (o1 ++ bs).length + cs.length := List.length_append
          have cb := s_take_t wBetw rr (by omega) o1 hb
          have c3 := (hA (rr.drop 1) (by omega) (frr.drop 1) o1 (by omega)).1 r3 bs e3
          have cm := s_must wAnd r3 (by omega) (o1 ++ bs) hand
          have c4 := (hA (r3.drop 1) (by omega) (fr3.drop 1) (o1 ++ bs) (by omega)).1 r cs e4
          have cp := s_put (24 + ((1 : Nat) : Int)) 3 r (o1 ++ bs ++ cs) (by omega)
          have eq3 : o1 ++ bs ++ cs ++ [nOp (24 + ((1 : Nat) : Int)) 3] = o1 ++ (bs ++ cs ++ [nOp (24 + ((1 : Nat) : Int)) 3]) := by rw [List.append_assoc, List.append_assoc, List.append_assoc]
          rw [eq3] at cp
          ((conv => whnf); repeat' ((first | (with_reducible first | apply a_ | apply b_ | apply c_) | ((with_reducible first | apply d_ | apply e_ | apply f_ | apply g_); focus first | omega | (simp only [q_] <;> omega)) | ((with_reducible first | apply i_ | apply h_); focus first | omega | (simp only [q_] <;> omega)) | ((with_reducible apply h_); focus first | decide | kernel_rfl) | refine BCase.t (by decide) ?_ | refine BCase.f (by decide) ?_ | refine CallP.pure _ rfl _ (ps) ?_ | (refine CallP.ret [(FK, FK), (FK1, 90)] _ _ _ _ _ _ _ ci rfl rfl rfl rfl ⟨rfl, rfl, trivial⟩ ?_) | (refine CallP.ret [(FK, FK), (FK1, 90)] _ _ _ _ _ _ _ cn rfl rfl rfl rfl ⟨rfl, rfl, trivial⟩ ?_) | (refine CallP.ret [(FK, FK), (FK1, 90)] _ _ _ _ _ _ _ ck rfl rfl rfl rfl ⟨rfl, rfl, trivial⟩ ?_) | (refine CallP.ret [(FK, FK), (FK1, 90)] _ _ _ _ _ _ _ cin rfl rfl rfl rfl ⟨rfl, rfl, trivial⟩ ?_) | (refine CallP.ret [(FK, FK), (FK1, 90)] _ _ _ _ _ _ _ cb rfl rfl rfl rfl ⟨rfl, rfl, trivial⟩ ?_) | (refine CallP.ret [(FK, FK), (FK1, 90), (NK, 56)] _ _ _ _ _ _ _ c3 rfl rfl rfl rfl ⟨rfl, rfl, trivial⟩ ?_) | (refine CallP.ret [(FK, FK), (FK1, 56)] _ _ _ _ _ _ _ cm rfl rfl rfl rfl ⟨rfl, rfl, trivial⟩ ?_) | (refine CallP.ret [(FK, FK), (FK1, 56), (NK, 60)] _ _ _ _ _ _ _ c4 rfl rfl rfl rfl ⟨rfl, rfl, trivial⟩ ?_) | (refine CallP.ret [(FK, FK), (FK1, 60), (NK, 64)] _ _ _ _ _ _ _ cp rfl rfl rfl rfl ⟨rfl, rfl, trivial⟩ ?_) | with_reducible first | apply l_ | apply m_ | apply n_ | apply o_ | refine p_ (fun _ => ?_) (fun _ => ?_)) <;> (conv => whnf)))
          refine RetS.mk [(FK, FK), (FK1, FK1), (NK, 64)] [FK, FK1, NK] rfl rfl rfl ?_ <;> (repeat' (first | exact rfl | exact trivial | exact Or.inl rfl | refine And.intro ?_ ?_))
      | false =>
       rw [if_neg (by rw [hb]; decide)] at e2
       have cb := s_take_f wBetw rr (by omega) o1 hb
       rw [if_pos rfl] at e2
       cases e2
   | false =>
    rw [if_neg (by rw [hn]; decide)] at e2
    have cn := s_take_f wNot r1 (by omega) o1 hn
    obtain ⟨rr, err⟩ : ∃ rr, rr = r1 := ⟨_, rfl⟩
    have frr : okT rr := by rw [err]; exact f2
    rw [← err] at e2 cn
    rw [← err] at ci
    have hrl : rr.length ≤ r1.length := by rw [err]; exact Nat.le_refl _
    rw [← err]
    unfold tailF at e2
    cases hk : isH wLike rr with
    | true =>
     rw [if_pos hk] at e2
     have hp2 := isH_pos hk
     have hd2 : (rr.drop 1).length + 1 = rr.length := by rw [List.length_drop]; omega
     split at e2
     ·cases e2
     rename_i r3 bs e3
     cases e2
     obtain ⟨k3, d1, d2, d3, d4⟩ := ha _ _ _ e3
     have hr3 : r.length + k3 = (rr.drop 1).length := by rw [d3, List.length_drop]; omega
     have hlb : (o1 ++ bs).length = o1.length + bs.length := List.length_append
     have ck := s_take_t wLike rr (by omega) o1 hk
     have c3 := (hA (rr.drop 1) (by omega) (frr.drop 1) o1 (by omega)).1 r bs e3
     have cp := s_put (20 + ((0 : Nat) : Int)) 2 r (o1 ++ bs) (by omega)
     rw [List.append_assoc] at cp
     ((conv => whnf); repeat' ((first | (with_reducible first | apply a_ | apply b_ | apply c_) | ((with_reducible first | apply d_ | apply e_ | apply f_ | apply g_); focus first | omega | (simp only [q_] <;> omega)) | ((with_reducible first | apply i_ | apply h_); focus first | omega | (simp only [q_] <;> omega)) | ((with_reducible apply h_); focus first | decide | kernel_rfl) | refine BCase.t (by decide) ?_ | refine BCase.f (by decide) ?_ | refine CallP.pure _ rfl _ (ps) ?_ | (refine CallP.ret [(FK, FK), (FK1, 90)] _ _ _ _ _ _ _ ci rfl rfl rfl rfl ⟨rfl, rfl, trivial⟩ ?_) | (refine CallP.ret [(FK, FK), (FK1, 90)] _ _ _ _ _ _ _ cn rfl rfl rfl rfl ⟨rfl, rfl, trivial⟩ ?_) | (refine CallP.ret [(FK, FK), (FK1, 90)] _ _ _ _ _ _ _ ck rfl rfl rfl rfl ⟨rfl, rfl, trivial⟩ ?_) | (refine CallP.ret [(FK, FK), (FK1, 90), (NK, 36)] _ _ _ _ _ _ _ c3 rfl rfl rfl rfl ⟨rfl, rfl, trivial⟩ ?_) | (refine CallP.ret [(FK, FK), (FK1, 36), (NK, 40)] _ _ _ _ _ _ _ cp rfl rfl rfl rfl ⟨rfl, rfl, trivial⟩ ?_) | with_reducible first | apply l_ | apply m_ | apply n_ | apply o_ | refine p_ (fun _ => ?_) (fun _ => ?_)) <;> (conv => whnf)))
     refine RetS.mk [(FK, FK), (FK1, FK1), (NK, 40)] [FK, FK1, NK] rfl rfl rfl ?_ <;> (repeat' (first | exact rfl | exact trivial | exact Or.inl rfl | refine And.intro ?_ ?_))
    | false =>
     rw [if_neg (by rw [hk]; decide)] at e2
     have ck := s_take_f wLike rr (by omega) o1 hk
     cases hin : isH wIn rr with
     | true =>
      rw [if_pos hin] at e2
      have hp2 := isH_pos hin
      have hd2 : (rr.drop 1).length + 1 = rr.length := by rw [List.length_drop]; omega
      split at e2
      ·cases e2
      rename_i r3 bs n e3
      cases e2
      obtain ⟨k3, d1, d2, d3, d4, d5⟩ := fit_list h1 _ _ _ _ e3
      have hr3 : r.length + k3 = (rr.drop 1).length := by rw [d3, List.length_drop]; omega
      have hlb : (o1 ++ bs).length = o1.length + bs.length := List.length_append
      have cin := s_take_t wIn rr (by omega) o1 hin
      have c3 := s_list rec N hN h1 hw (rr.drop 1) (by omega) (frr.drop 1) o1 (by omega) e3
      have cp := s_put (22 + ((0 : Nat) : Int)) ((n : Int) + 1) r (o1 ++ bs) (by omega)
      rw [List.append_assoc] at cp
      ((conv => whnf); repeat' ((first | (with_reducible first | apply a_ | apply b_ | apply c_) | ((with_reducible first | apply d_ | apply e_ | apply f_ | apply g_); focus first | omega | (simp only [q_] <;> omega)) | ((with_reducible first | apply i_ | apply h_); focus first | omega | (simp only [q_] <;> omega)) | ((with_reducible apply h_); focus first | decide | kernel_rfl) | refine BCase.t (by decide) ?_ | refine BCase.f (by decide) ?_ | refine CallP.pure _ rfl _ (ps) ?_ | (refine CallP.ret [(FK, FK), (FK1, 90)] _ _ _ _ _ _ _ ci rfl rfl rfl rfl ⟨rfl, rfl, trivial⟩ ?_) | (refine CallP.ret [(FK, FK), (FK1, 90)] _ _ _ _ _ _ _ cn rfl rfl rfl rfl ⟨rfl, rfl, trivial⟩ ?_) | (refine CallP.ret [(FK, FK), (FK1, 90)] _ _ _ _ _ _ _ ck rfl rfl rfl rfl ⟨rfl, rfl, trivial⟩ ?_) | (refine CallP.ret [(FK, FK), (FK1, 90)] _ _ _ _ _ _ _ cin rfl rfl rfl rfl ⟨rfl, rfl, trivial⟩ ?_) | (refine CallP.ret [(FK, FK), (FK1, 90), (NK, 45)] _ _ _ _ _ _ _ c3 rfl rfl rfl rfl ⟨rfl, rfl, trivial⟩ ?_) | (refine CallP.ret [(FK, FK), (FK1, 45), (NK, 51)] _ _ _ _ _ _ _ cp rfl rfl rfl rfl ⟨rfl, rfl, trivial⟩ ?_) | with_reducible first | apply l_ | apply m_ | apply n_ | apply o_ | refine p_ (fun _ => ?_) (fun _ => ?_)) <;> (conv => whnf)))
      refine RetS.mk [(FK, FK), (FK1, FK1), (NK, 51)] [FK, FK1, NK] rfl rfl rfl ?_ <;> (repeat' (first | exact rfl | exact trivial | exact Or.inl rfl | refine And.intro ?_ ?_))
     | false =>
      rw [if_neg (by rw [hin]; decide)] at e2
      have cin := s_take_f wIn rr (by omega) o1 hin
      cases hb : isH wBetw rr with
      | true =>
       rw [if_pos hb] at e2
       have hp2 := isH_pos hb
       have hd2 : (rr.drop 1).length + 1 = rr.length := by rw [List.length_drop]; omega
       unfold twoF at e2
       cases e3 : addF rec (rr.drop 1) with
       | none => rw [e3] at e2; cases e2
       | some x =>
        obtain ⟨r3, bs⟩ := x
        rw [e3] at e2
        dsimp only at e2
        obtain ⟨k3, d1, d2, d3, d4⟩ := ha _ _ _ e3
        have hr3 : r3.length + k3 = (rr.drop 1).length := by rw [d3, List.length_drop]; omega
        cases hand : isH wAnd r3 with
        | false => rw [if_neg (by rw [hand]; decide)] at e2; cases e2
        | true =>
         rw [if_pos hand] at e2
         have hp3 := isH_pos hand
         have hd3 : (r3.drop 1).length + 1 = r3.length := by rw [List.length_drop]; omega
         have fr3 : okT r3 := by rw [d3]; exact (frr.drop 1).drop _
         cases e4 : addF rec (r3.drop 1) with
         | none => rw [e4] at e2; cases e2
         | some y =>
          obtain ⟨r4, cs⟩ := y
          rw [e4] at e2
          dsimp only at e2
          cases e2
          obtain ⟨k4, b1, b2, b3, b4⟩ := ha _ _ _ e4
          have hr4 : r.length + k4 = (r3.drop 1).length := by rw [b3, List.length_drop]; omega
          have hlb : (o1 ++ bs).length = o1.length + bs.length := List.length_append
          have hlc : (o1 ++ bs ++ cs).length = (o1 ++ bs).length + cs.length := List.length_append
          have cb := s_take_t wBetw rr (by omega) o1 hb
          have c3 := (hA (rr.drop 1) (by omega) (frr.drop 1) o1 (by omega)).1 r3 bs e3
          have cm := s_must wAnd r3 (by omega) (o1 ++ bs) hand
          have c4 := (hA (r3.drop 1) (by omega) (fr3.drop 1) (o1 ++ bs) (by omega)).1 r cs e4
          have cp := s_put (24 + ((0 : Nat) : Int)) 3 r (o1 ++ bs ++ cs) (by omega)
          have eq3 : o1 ++ bs ++ cs ++ [nOp (24 + ((0 : Nat) : Int)) 3] = o1 ++ (bs ++ cs ++ [nOp (24 + ((0 : Nat) : Int)) 3]) := by rw [List.append_assoc, List.append_assoc, List.append_assoc]
          rw [eq3] at cp
          ((conv => whnf); repeat' ((first | (with_reducible first | apply a_ | apply b_ | apply c_) | ((with_reducible first | apply d_ | apply e_ | apply f_ | apply g_); focus first | omega | (simp only [q_] <;> omega)) | ((with_reducible first | apply i_ | apply h_); focus first | omega | (simp only [q_] <;> omega)) | ((with_reducible apply h_); focus first | decide | kernel_rfl) | refine BCase.t (by decide) ?_ | refine BCase.f (by decide) ?_ | refine CallP.pure _ rfl _ (ps) ?_ | (refine CallP.ret [(FK, FK), (FK1, 90)] _ _ _ _ _ _ _ ci rfl rfl rfl rfl ⟨rfl, rfl, trivial⟩ ?_) | (refine CallP.ret [(FK, FK), (FK1, 90)] _ _ _ _ _ _ _ cn rfl rfl rfl rfl ⟨rfl, rfl, trivial⟩ ?_) | (refine CallP.ret [(FK, FK), (FK1, 90)] _ _ _ _ _ _ _ ck rfl rfl rfl rfl ⟨rfl, rfl, trivial⟩ ?_) | (refine CallP.ret [(FK, FK), (FK1, 90)] _ _ _ _ _ _ _ cin rfl rfl rfl rfl ⟨rfl, rfl, trivial⟩ ?_) | (refine CallP.ret [(FK, FK), (FK1, 90)] _ _ _ _ _ _ _ cb rfl rfl rfl rfl ⟨rfl, rfl, trivial⟩ ?_) | (refine CallP.ret [(FK, FK), (FK1, 90), (NK, 56)] _ _ _ _ _ _ _ c3 rfl rfl rfl rfl ⟨rfl, rfl, trivial⟩ ?_) | (refine CallP.ret [(FK, FK), (FK1, 56)] _ _ _ _ _ _ _ cm rfl rfl rfl rfl ⟨rfl, rfl, trivial⟩ ?_) | (refine CallP.ret [(FK, FK), (FK1, 56), (NK, 60)] _ _ _ _ _ _ _ c4 rfl rfl rfl rfl ⟨rfl, rfl, trivial⟩ ?_) | (refine CallP.ret [(FK, FK), (FK1, 60), (NK, 64)] _ _ _ _ _ _ _ cp rfl rfl rfl rfl ⟨rfl, rfl, trivial⟩ ?_) | with_reducible first | apply l_ | apply m_ | apply n_ | apply o_ | refine p_ (fun _ => ?_) (fun _ => ?_)) <;> (conv => whnf)))
          refine RetS.mk [(FK, FK), (FK1, FK1), (NK, 64)] [FK, FK1, NK] rfl rfl rfl ?_ <;> (repeat' (first | exact rfl | exact trivial | exact Or.inl rfl | refine And.intro ?_ ?_))
      | false =>
       rw [if_neg (by rw [hb]; decide)] at e2
       have cb := s_take_f wBetw rr (by omega) o1 hb
       rw [if_neg (by decide)] at e2
       cases e2
       rw [List.append_nil]
       ((conv => whnf); repeat' ((first | (with_reducible first | apply a_ | apply b_ | apply c_) | ((with_reducible first | apply d_ | apply e_ | apply f_ | apply g_); focus first | omega | (simp only [q_] <;> omega)) | ((with_reducible first | apply i_ | apply h_); focus first | omega | (simp only [q_] <;> omega)) | ((with_reducible apply h_); focus first | decide | kernel_rfl) | refine BCase.t (by decide) ?_ | refine BCase.f (by decide) ?_ | refine CallP.pure _ rfl _ (ps) ?_ | (refine CallP.ret [(FK, FK), (FK1, 90)] _ _ _ _ _ _ _ ci rfl rfl rfl rfl ⟨rfl, rfl, trivial⟩ ?_) | (refine CallP.ret [(FK, FK), (FK1, 90)] _ _ _ _ _ _ _ cn rfl rfl rfl rfl ⟨rfl, rfl, trivial⟩ ?_) | (refine CallP.ret [(FK, FK), (FK1, 90)] _ _ _ _ _ _ _ ck rfl rfl rfl rfl ⟨rfl, rfl, trivial⟩ ?_) | (refine CallP.ret [(FK, FK), (FK1, 90)] _ _ _ _ _ _ _ cin rfl rfl rfl rfl ⟨rfl, rfl, trivial⟩ ?_) | (refine CallP.ret [(FK, FK), (FK1, 90)] _ _ _ _ _ _ _ cb rfl rfl rfl rfl ⟨rfl, rfl, trivial⟩ ?_) | with_reducible first | apply l_ | apply m_ | apply n_ | apply o_ | refine p_ (fun _ => ?_) (fun _ => ?_)) <;> (conv => whnf)))
       refine RetS.mk [(FK, FK), (FK1, FK1), (NK, 90)] [FK, FK1, NK] rfl rfl rfl ?_ <;> (repeat' (first | exact rfl | exact trivial | exact Or.inl rfl | refine And.intro ?_ ?_))
theorem x_ask (rec : List TokenD → PR) (N : Nat) (hN : N ≤ 50000) (h1 : ∀ l, fit 1 l (rec l)) (hw : ∀ M, M < N → WalkOk 60 rec M) (hA : WalkOk 88 (addF rec) N) (l : List TokenD) (hl : l.length ≤ N) (ht : okT l) (out : List NodeD) (ho : out.length + l.length ≤ 90000) (hr : askF rec l = none) :
  CallX Tryd.prog 86 [.d (.ptr FK 0)] (pb FK FK1 l out) wrongV := by
 have ha := fit_add h1
 refine callX_of Tryd.func86 (by rfl) rfl (by kernel_rfl) (by rfl) [FK, FK1] rfl ?_
 cases e1 : addF rec l with
 | none =>
  have c1 := (hA l hl ht out ho).2 e1
  ((conv => whnf); repeat' ((first | (with_reducible first | apply a_ | apply b_ | apply c_) | ((with_reducible first | apply d_ | apply e_ | apply f_ | apply g_); focus first | omega | (simp only [q_] <;> omega)) | ((with_reducible first | apply i_ | apply h_); focus first | omega | (simp only [q_] <;> omega)) | ((with_reducible apply h_); focus first | decide | kernel_rfl) | refine BCase.t (by decide) ?_ | refine BCase.f (by decide) ?_ | with_reducible first | apply l_ | apply m_ | apply n_ | apply o_ | refine p_ (fun _ => ?_) (fun _ => ?_)) <;> (conv => whnf)))
  exact CallP.pan [(FK, FK), (FK1, FK1)] _ _ _ _ c1 rfl rfl rfl ⟨rfl, rfl, trivial⟩ rfl
 | some x =>
 obtain ⟨r1, fs⟩ := x
 unfold askF at hr
 rw [e1] at hr
 dsimp only at hr
 obtain ⟨k1, a1, a2, a3, a4⟩ := ha l r1 fs e1
 have hr1 : r1.length + k1 = l.length := by rw [a3, List.length_drop]; omega
 have c1 := (hA l hl ht out ho).1 r1 fs e1
 have e2 : moreF rec r1 = none := by
  cases e2 : moreF rec r1 with
  | none => rfl
  | some y => rw [e2] at hr; cases hr
 have f1 : r1.length < l.length := by omega
 have f2 : okT r1 := by rw [a3]; exact ht.drop k1
 obtain ⟨o1, ho1⟩ : ∃ o1, o1 = out ++ fs := ⟨_, rfl⟩
 have f3 : o1.length + r1.length ≤ 90000 := by rw [ho1, List.length_append]; omega
 rw [← ho1] at c1
 obtain ⟨J, hJ, j1, j2⟩ := cmp_spec r1
 ((conv => whnf); repeat' ((first | (with_reducible first | apply a_ | apply b_ | apply c_) | ((with_reducible first | apply d_ | apply e_ | apply f_ | apply g_); focus first | omega | (simp only [q_] <;> omega)) | ((with_reducible first | apply i_ | apply h_); focus first | omega | (simp only [q_] <;> omega)) | ((with_reducible apply h_); focus first | decide | kernel_rfl) | refine BCase.t (by decide) ?_ | refine BCase.f (by decide) ?_ | (refine CallP.ret [(FK, FK), (FK1, FK1), (NK, 7)] _ _ _ _ _ _ _ c1 rfl rfl rfl rfl ⟨rfl, rfl, trivial⟩ ?_) | with_reducible first | apply l_ | apply m_ | apply n_ | apply o_ | refine p_ (fun _ => ?_) (fun _ => ?_)) <;> (conv => whnf)))
 unfold moreF at e2
 refine LoopC.mk Nat (fun j => [(0, .d (.ptr FK 0)), (2, pInt .i64 (10 + (j : Int)))]) (fun j => pb FK 90 r1 o1) [FK, FK1, 90] (fun j => j ≤ J) (fun j => J - j) 0 (Nat.zero_le _) ?start ?round
 case start =>
  refine ⟨[(FK, FK), (FK1, FK1), (90, 7)], rfl, rfl, ?_, ?_⟩ <;> (repeat' (first | exact rfl | exact trivial | exact Or.inl rfl | refine And.intro ?_ ?_))
 case round =>
  intro j hj
  have hj : j ≤ J := hj
  by_cases q : j < J
  ·have ct := s_take_f (sgn (10 + (j : Int))) r1 (by omega) o1 (j1 j q)
   have ps := p_sign (10 + (j : Int))
   ((conv => whnf); repeat' ((first | (with_reducible first | apply a_ | apply b_ | apply c_) | ((with_reducible first | apply d_ | apply e_ | apply f_ | apply g_); focus first | omega | (simp only [q_] <;> omega)) | ((with_reducible first | apply i_ | apply h_); focus first | omega | (simp only [q_] <;> omega)) | ((with_reducible apply h_); focus first | decide | kernel_rfl) | refine BCase.t (by decide) ?_ | refine BCase.f (by decide) ?_ | refine CallP.pure _ rfl _ (ps) ?_ | (refine CallP.ret [(FK, FK), (FK1, 90)] _ _ _ _ _ _ _ ct rfl rfl rfl rfl ⟨rfl, rfl, trivial⟩ ?_) | with_reducible first | apply l_ | apply m_ | apply n_ | apply o_ | refine p_ (fun _ => ?_) (fun _ => ?_)) <;> (conv => whnf)))
   refine ⟨j + 1, q, by show _ < _; omega, [(FK, FK), (FK1, FK1), (90, 90)], rfl, rfl, ?_, ?_⟩
   all_goals
    (repeat' (first | exact rfl | exact trivial | exact Or.inl rfl | refine And.intro ?_ ?_))
   all_goals exact PLe.int (by omega)
  have e0 : j = J := by omega
  subst e0
  have ps := p_sign (10 + (j : Int))
  rcases j2 with ⟨j3, j4, j5⟩ | ⟨j3, j5⟩
  ·rw [j5] at e2
   dsimp only at e2
   have hp := isH_pos j4
   have hd1 : (r1.drop 1).length + 1 = r1.length := by rw [List.length_drop]; omega
   have e3 : addF rec (r1.drop 1) = none := by
    cases e3 : addF rec (r1.drop 1) with
    | none => rfl
    | some y => rw [e3] at e2; cases e2
   have ct := s_take_t (sgn (10 + (j : Int))) r1 (by omega) o1 j4
   have c3 := (hA (r1.drop 1) (by omega) (f2.drop 1) o1 (by omega)).2 e3
   ((conv => whnf); repeat' ((first | (with_reducible first | apply a_ | apply b_ | apply c_) | ((with_reducible first | apply d_ | apply e_ | apply f_ | apply g_); focus first | omega | (simp only [q_] <;> omega)) | ((with_reducible first | apply i_ | apply h_); focus first | omega | (simp only [q_] <;> omega)) | ((with_reducible apply h_); focus first | decide | kernel_rfl) | refine BCase.t (by decide) ?_ | refine BCase.f (by decide) ?_ | refine CallP.pure _ rfl _ (ps) ?_ | (refine CallP.ret [(FK, FK), (FK1, 90)] _ _ _ _ _ _ _ ct rfl rfl rfl rfl ⟨rfl, rfl, trivial⟩ ?_) | with_reducible first | apply l_ | apply m_ | apply n_ | apply o_ | refine p_ (fun _ => ?_) (fun _ => ?_)) <;> (conv => whnf)))
   exact CallP.pan [(FK, FK), (FK1, 90)] _ _ _ _ c3 rfl rfl rfl ⟨rfl, rfl, trivial⟩ rfl
  rw [j5] at e2
  dsimp only at e2
  subst j3
  cases hi : isH wIs r1 with
  | true =>
   rw [if_pos hi] at e2
   have hp := isH_pos hi
   have hd1 : (r1.drop 1).length + 1 = r1.length := by rw [List.length_drop]; omega
   have ci := s_take_t wIs r1 (by omega) o1 hi
   unfold isF at e2
   cases hn : isH wNot (r1.drop 1) with
   | true =>
    rw [if_pos hn] at e2
    have hp2 := isH_pos hn
    have hd2 : ((r1.drop 1).drop 1).length + 1 = (r1.drop 1).length := by rw [List.length_drop]; omega
    split at e2
    ·cases e2
    rename_i hu
    rw [Bool.not_eq_true] at hu
    have cn := s_take_t wNot (r1.drop 1) (by omega) o1 hn
    have cm := x_must wNull ((r1.drop 1).drop 1) (by omega) o1 hu
    ((conv => whnf); repeat' ((first | (with_reducible first | apply a_ | apply b_ | apply c_) | ((with_reducible first | apply d_ | apply e_ | apply f_ | apply g_); focus first | omega | (simp only [q_] <;> omega)) | ((with_reducible first | apply i_ | apply h_); focus first | omega | (simp only [q_] <;> omega)) | ((with_reducible apply h_); focus first | decide | kernel_rfl) | refine BCase.t (by decide) ?_ | refine BCase.f (by decide) ?_ | refine CallP.pure _ rfl _ (ps) ?_ | (refine CallP.ret [(FK, FK), (FK1, 90)] _ _ _ _ _ _ _ ci rfl rfl rfl rfl ⟨rfl, rfl, trivial⟩ ?_) | (refine CallP.ret [(FK, FK), (FK1, 90)] _ _ _ _ _ _ _ cn rfl rfl rfl rfl ⟨rfl, rfl, trivial⟩ ?_) | with_reducible first | apply l_ | apply m_ | apply n_ | apply o_ | refine p_ (fun _ => ?_) (fun _ => ?_)) <;> (conv => whnf)))
    exact CallP.pan [(FK, FK), (FK1, 90)] _ _ _ _ cm rfl rfl rfl ⟨rfl, rfl, trivial⟩ rfl
   | false =>
    rw [if_neg (by rw [hn]; decide)] at e2
    split at e2
    ·cases e2
    rename_i hu
    rw [Bool.not_eq_true] at hu
    have cn := s_take_f wNot (r1.drop 1) (by omega) o1 hn
    have cm := x_must wNull (r1.drop 1) (by omega) o1 hu
    ((conv => whnf); repeat' ((first | (with_reducible first | apply a_ | apply b_ | apply c_) | ((with_reducible first | apply d_ | apply e_ | apply f_ | apply g_); focus first | omega | (simp only [q_] <;> omega)) | ((with_reducible first | apply i_ | apply h_); focus first | omega | (simp only [q_] <;> omega)) | ((with_reducible apply h_); focus first | decide | kernel_rfl) | refine BCase.t (by decide) ?_ | refine BCase.f (by decide) ?_ | refine CallP.pure _ rfl _ (ps) ?_ | (refine CallP.ret [(FK, FK), (FK1, 90)] _ _ _ _ _ _ _ ci rfl rfl rfl rfl ⟨rfl, rfl, trivial⟩ ?_) | (refine CallP.ret [(FK, FK), (FK1, 90)] _ _ _ _ _ _ _ cn rfl rfl rfl rfl ⟨rfl, rfl, trivial⟩ ?_) | with_reducible first | apply l_ | apply m_ | apply n_ | apply o_ | refine p_ (fun _ => ?_) (fun _ => ?_)) <;> (conv => whnf)))
    exact CallP.pan [(FK, FK), (FK1, 90)] _ _ _ _ cm rfl rfl rfl ⟨rfl, rfl, trivial⟩ rfl
  | false =>
   rw [if_neg (by rw [hi]; decide)] at e2
   have ci := s_take_f wIs r1 (by omega) o1 hi
   cases hn : isH wNot r1 with
   | true =>
    rw [if_pos hn] at e2
    have cn := s_take_t wNot r1 (by omega) o1 hn
    have hp := isH_pos hn
    have hrr : (r1.drop 1).length + 1 = r1.length := by rw [List.length_drop]; omega
    obtain ⟨rr, err⟩ : ∃ rr, rr = r1.drop 1 := ⟨_, rfl⟩
    have frr : okT rr := by rw [err]; exact f2.drop 1
    rw [← err] at e2 cn hrr
    have hrl : rr.length ≤ r1.length := by omega
    unfold tailF at e2
    cases hk : isH wLike rr with
    | true =>
     rw [if_pos hk] at e2
     have hp2 := isH_pos hk
     have hd2 : (rr.drop 1).length + 1 = rr.length := by rw [List.length_drop]; omega
     have e3 : addF rec (rr.drop 1) = none := by
      cases e3 : addF rec (rr.drop 1) with
      | none => rfl
      | some y => rw [e3] at e2; cases e2
     have ck := s_take_t wLike rr (by omega) o1 hk
     have c3 := (hA (rr.drop 1) (by omega) (frr.drop 1) o1 (by omega)).2 e3
     ((conv => whnf); repeat' ((first | (with_reducible first | apply a_ | apply b_ | apply c_) | ((with_reducible first | apply d_ | apply e_ | apply f_ | apply g_); focus first | omega | (simp only [q_] <;> omega)) | ((with_reducible first | apply i_ | apply h_); focus first | omega | (simp only [q_] <;> omega)) | ((with_reducible apply h_); focus first | decide | kernel_rfl) | refine BCase.t (by decide) ?_ | refine BCase.f (by decide) ?_ | refine CallP.pure _ rfl _ (ps) ?_ | (refine CallP.ret [(FK, FK), (FK1, 90)] _ _ _ _ _ _ _ ci rfl rfl rfl rfl ⟨rfl, rfl, trivial⟩ ?_) | (refine CallP.ret [(FK, FK), (FK1, 90)] _ _ _ _ _ _ _ cn rfl rfl rfl rfl ⟨rfl, rfl, trivial⟩ ?_) | (refine CallP.ret [(FK, FK), (FK1, 90)] _ _ _ _ _ _ _ ck rfl rfl rfl rfl ⟨rfl, rfl, trivial⟩ ?_) | with_reducible first | apply l_ | apply m_ | apply n_ | apply o_ | refine p_ (fun _ => ?_) (fun _ => ?_)) <;> (conv => whnf)))
     exact CallP.pan [(FK, FK), (FK1, 90)] _ _ _ _ c3 rfl rfl rfl ⟨rfl, rfl, trivial⟩ rfl
    | false =>
     rw [if_neg (by rw [hk]; decide)] at e2
     have ck := s_take_f wLike rr (by omega) o1 hk
     cases hin : isH wIn rr with
     | true =>
      rw [if_pos hin] at e2
      have hp2 := isH_pos hin
      have hd2 : (rr.drop 1).length + 1 = rr.length := by rw [List.length_drop]; omega
      have e3 : listF rec (rr.drop 1) = none := by
       cases e3 : listF rec (rr.drop 1) with
       | none => rfl
       | some y => rw [e3] at e2; cases e2
      have cin := s_take_t wIn rr (by omega) o1 hin
      have c3 := x_list rec N hN h1 hw (rr.drop 1) (by omega) (frr.drop 1) o1 (by omega) e3
      ((conv => whnf); repeat' ((first | (with_reducible first | apply a_ | apply b_ | apply c_) | ((with_reducible first | apply d_ | apply e_ | apply f_ | apply g_); focus first | omega | (simp only [q_] <;> omega)) | ((with_reducible first | apply i_ | apply h_); focus first | omega | (simp only [q_] <;> omega)) | ((with_reducible apply h_); focus first | decide | kernel_rfl) | refine BCase.t (by decide) ?_ | refine BCase.f (by decide) ?_ | refine CallP.pure _ rfl _ (ps) ?_ | (refine CallP.ret [(FK, FK), (FK1, 90)] _ _ _ _ _ _ _ ci rfl rfl rfl rfl ⟨rfl, rfl, trivial⟩ ?_) | (refine CallP.ret [(FK, FK), (FK1, 90)] _ _ _ _ _ _ _ cn rfl rfl rfl rfl ⟨rfl, rfl, trivial⟩ ?_) | (refine CallP.ret [(FK, FK), (FK1, 90)] _ _ _ _ _ _ _ ck rfl rfl rfl rfl ⟨rfl, rfl, trivial⟩ ?_) | (refine CallP.ret [(FK, FK), (FK1, 90)] _ _ _ _ _ _ _ cin rfl rfl rfl rfl ⟨rfl, rfl, trivial⟩ ?_) | with_reducible first | apply l_ | apply m_ | apply n_ | apply o_ | refine p_ (fun _ => ?_) (fun _ => ?_)) <;> (conv => whnf)))
      exact CallP.pan [(FK, FK), (FK1, 90)] _ _ _ _ c3 rfl rfl rfl ⟨rfl, rfl, trivial⟩ rfl
     | false =>
      rw [if_neg (by rw [hin]; decide)] at e2
      have cin := s_take_f wIn rr (by omega) o1 hin
      cases hb : isH wBetw rr with
      | true =>
       rw [if_pos hb] at e2
       have hp2 := isH_pos hb
       have hd2 : (rr.drop 1).length + 1 = rr.length := by rw [List.length_drop]; omega
       have cb := s_take_t wBetw rr (by omega) o1 hb
       have cA := hA (rr.drop 1) (by omega) (frr.drop 1) o1 (by omega)
       unfold twoF at e2
       cases e3 : addF rec (rr.drop 1) with
       | none =>
        have c3 := cA.2 e3
        ((conv => whnf); repeat' ((first | (with_reducible first | apply a_ | apply b_ | apply c_) | ((with_reducible first | apply d_ | apply e_ | apply f_ | apply g_); focus first | omega | (simp only [q_] <;> omega)) | ((with_reducible first | apply i_ | apply h_); focus first | omega | (simp only [q_] <;> omega)) | ((with_reducible apply h_); focus first | decide | kernel_rfl) | refine BCase.t (by decide) ?_ | refine BCase.f (by decide) ?_ | refine CallP.pure _ rfl _ (ps) ?_ | (refine CallP.ret [(FK, FK), (FK1, 90)] _ _ _ _ _ _ _ ci rfl rfl rfl rfl ⟨rfl, rfl, trivial⟩ ?_) | (refine CallP.ret [(FK, FK), (FK1, 90)] _ _ _ _ _ _ _ cn rfl rfl rfl rfl ⟨rfl, rfl, trivial⟩ ?_) | (refine CallP.ret [(FK, FK), (FK1, 90)] _ _ _ _ _ _ _ ck rfl rfl rfl rfl ⟨rfl, rfl, trivial⟩ ?_) | (refine CallP.ret [(FK, FK), (FK1, 90)] _ _ _ _ _ _ _ cin rfl rfl rfl rfl ⟨rfl, rfl, trivial⟩ ?_) | (refine CallP.ret [(FK, FK), (FK1, 90)] _ _ _ _ _ _ _ cb rfl rfl rfl rfl ⟨rfl, rfl, trivial⟩ ?_) | with_reducible first | apply l_ | apply m_ | apply n_ | apply o_ | refine p_ (fun _ => ?_) (fun _ => ?_)) <;> (conv => whnf)))
        exact CallP.pan [(FK, FK), (FK1, 90)] _ _ _ _ c3 rfl rfl rfl ⟨rfl, rfl, trivial⟩ rfl
       | some x =>
        obtain ⟨r3, bs⟩ := x
        rw [e3] at e2
        dsimp only at e2
        obtain ⟨k3, d1, d2, d3, d4⟩ := ha _ _ _ e3
        have hr3 : r3.length + k3 = (rr.drop 1).length := by rw [d3, List.length_drop]; omega
        have hlb : (o1 ++ bs).length = o1.length + bs.length := List.length_append
        have c3 := cA.1 r3 bs e3
        cases hand : isH wAnd r3 with
        | false =>
         have cm := x_must wAnd r3 (by omega) (o1 ++ bs) hand
         ((conv => whnf); repeat' ((first | (with_reducible first | apply a_ | apply b_ | apply c_) | ((with_reducible first | apply d_ | apply e_ | apply f_ | apply g_); focus first | omega | (simp only [q_] <;> omega)) | ((with_reducible first | apply i_ | apply h_); focus first | omega | (simp only [q_] <;> omega)) | ((with_reducible apply h_); focus first | decide | kernel_rfl) | refine BCase.t (by decide) ?_ | refine BCase.f (by decide) ?_ | refine CallP.pure _ rfl _ (ps) ?_ | (refine CallP.ret [(FK, FK), (FK1, 90)] _ _ _ _ _ _ _ ci rfl rfl rfl rfl ⟨rfl, rfl, trivial⟩ ?_) | (refine CallP.ret [(FK, FK), (FK1, 90)] _ _ _ _ _ _ _ cn rfl rfl rfl rfl ⟨rfl, rfl, trivial⟩ ?_) | (refine CallP.ret [(FK, FK), (FK1, 90)] _ _ _ _ _ _ _ ck rfl rfl rfl rfl ⟨rfl, rfl, trivial⟩ ?_) | (refine CallP.ret [(FK, FK), (FK1, 90)] _ _ _ _ _ _ _ cin rfl rfl rfl rfl ⟨rfl, rfl, trivial⟩ ?_) | (refine CallP.ret [(FK, FK), (FK1, 90)] _ _ _ _ _ _ _ cb rfl rfl rfl rfl ⟨rfl, rfl, trivial⟩ ?_) | (refine CallP.ret [(FK, FK), (FK1, 90), (NK, 56)] _ _ _ _ _ _ _ c3 rfl rfl rfl rfl ⟨rfl, rfl, trivial⟩ ?_) | with_reducible first | apply l_ | apply m_ | apply n_ | apply o_ | refine p_ (fun _ => ?_) (fun _ => ?_)) <;> (conv => whnf)))
         exact CallP.pan [(FK, FK), (FK1, 56)] _ _ _ _ cm rfl rfl rfl ⟨rfl, rfl, trivial⟩ rfl
        | true =>
         rw [if_pos hand] at e2
         have hp3 := isH_pos hand
         have hd3 : (r3.drop 1).length + 1 = r3.length := by rw [List.length_drop]; omega
         have fr3 : okT r3 := by rw [d3]; exact (frr.drop 1).drop _
         have e4 : addF rec (r3.drop 1) = none := by
          cases e4 : addF rec (r3.drop 1) with
          | none => rfl
          | some y => rw [e4] at e2; cases e2
         have cm := s_must wAnd r3 (by omega) (o1 ++ bs) hand
         have c4 := (hA (r3.drop 1) (by omega) (fr3.drop 1) (o1 ++ bs) (by omega)).2 e4
         ((conv => whnf); repeat' ((first | (with_reducible first | apply a_ | apply b_ | apply c_) | ((with_reducible first | apply d_ | apply e_ | apply f_ | apply g_); focus first | omega | (simp only [q_] <;> omega)) | ((with_reducible first | apply i_ | apply h_); focus first | omega | (simp only [q_] <;> omega)) | ((with_reducible apply h_); focus first | decide | kernel_rfl) | refine BCase.t (by decide) ?_ | refine BCase.f (by decide) ?_ | refine CallP.pure _ rfl _ (ps) ?_ | (refine CallP.ret [(FK, FK), (FK1, 90)] _ _ _ _ _ _ _ ci rfl rfl rfl rfl ⟨rfl, rfl, trivial⟩ ?_) | (refine CallP.ret [(FK, FK), (FK1, 90)] _ _ _ _ _ _ _ cn rfl rfl rfl rfl ⟨rfl, rfl, trivial⟩ ?_) | (refine CallP.ret [(FK, FK), (FK1, 90)] _ _ _ _ _ _ _ ck rfl rfl rfl rfl ⟨rfl, rfl, trivial⟩ ?_) | (refine CallP.ret [(FK, FK), (FK1, 90)] _ _ _ _ _ _ _ cin rfl rfl rfl rfl ⟨rfl, rfl, trivial⟩ ?_) | (refine CallP.ret [(FK, FK), (FK1, 90)] _ _ _ _ _ _ _ cb rfl rfl rfl rfl ⟨rfl, rfl, trivial⟩ ?_) | (refine CallP.ret [(FK, FK), (FK1, 90), (NK, 56)] _ _ _ _ _ _ _ c3 rfl rfl rfl rfl ⟨rfl, rfl, trivial⟩ ?_) | (refine CallP.ret [(FK, FK), (FK1, 56)] _ _ _ _ _ _ _ cm rfl rfl rfl rfl ⟨rfl, rfl, trivial⟩ ?_) | with_reducible first | apply l_ | apply m_ | apply n_ | apply o_ | refine p_ (fun _ => ?_) (fun _ => ?_)) <;> (conv => whnf)))
         exact CallP.pan [(FK, FK), (FK1, 56)] _ _ _ _ c4 rfl rfl rfl ⟨rfl, rfl, trivial⟩ rfl
      | false =>
       rw [if_neg (by rw [hb]; decide)] at e2
       have cb := s_take_f wBetw rr (by omega) o1 hb
       ((conv => whnf); repeat' ((first | (with_reducible first | apply a_ | apply b_ | apply c_) | ((with_reducible first | apply d_ | apply e_ | apply f_ | apply g_); focus first | omega | (simp only [q_] <;> omega)) | ((with_reducible first | apply i_ | apply h_); focus first | omega | (simp only [q_] <;> omega)) | ((with_reducible apply h_); focus first | decide | kernel_rfl) | refine BCase.t (by decide) ?_ | refine BCase.f (by decide) ?_ | refine CallP.pure _ rfl _ (ps) ?_ | (refine CallP.ret [(FK, FK), (FK1, 90)] _ _ _ _ _ _ _ ci rfl rfl rfl rfl ⟨rfl, rfl, trivial⟩ ?_) | (refine CallP.ret [(FK, FK), (FK1, 90)] _ _ _ _ _ _ _ cn rfl rfl rfl rfl ⟨rfl, rfl, trivial⟩ ?_) | (refine CallP.ret [(FK, FK), (FK1, 90)] _ _ _ _ _ _ _ ck rfl rfl rfl rfl ⟨rfl, rfl, trivial⟩ ?_) | (refine CallP.ret [(FK, FK), (FK1, 90)] _ _ _ _ _ _ _ cin rfl rfl rfl rfl ⟨rfl, rfl, trivial⟩ ?_) | (refine CallP.ret [(FK, FK), (FK1, 90)] _ _ _ _ _ _ _ cb rfl rfl rfl rfl ⟨rfl, rfl, trivial⟩ ?_) | with_reducible first | apply l_ | apply m_ | apply n_ | apply o_ | refine p_ (fun _ => ?_) (fun _ => ?_)) <;> (conv => whnf)))
   | false =>
    rw [if_neg (by rw [hn]; decide)] at e2
    have cn := s_take_f wNot r1 (by omega) o1 hn
    obtain ⟨rr, err⟩ : ∃ rr, rr = r1 := ⟨_, rfl⟩
    have frr : okT rr := by rw [err]; exact f2
    rw [← err] at e2 cn
    rw [← err] at ci
    have hrl : rr.length ≤ r1.length := by rw [err]; exact Nat.le_refl _
    rw [← err]
    unfold tailF at e2
    cases hk : isH wLike rr with
    | true =>
     rw [if_pos hk] at e2
     have hp2 := isH_pos hk
     have hd2 : (rr.drop 1).length + 1 = rr.length := by rw [List.length_drop]; omega
     have e3 : addF rec (rr.drop 1) = none := by
      cases e3 : addF rec (rr.drop 1) with
      | none => rfl
      | some y => rw [e3] at e2; cases e2
     have ck := s_take_t wLike rr (by omega) o1 hk
     have c3 := (hA (rr.drop 1) (by omega) (frr.drop 1) o1 (by omega)).2 e3
     ((conv => whnf); repeat' ((first | (with_reducible first | apply a_ | apply b_ | apply c_) | ((with_reducible first | apply d_ | apply e_ | apply f_ | apply g_); focus first | omega | (simp only [q_] <;> omega)) | ((with_reducible first | apply i_ | apply h_); focus first | omega | (simp only [q_] <;> omega)) | ((with_reducible apply h_); focus first | decide | kernel_rfl) | refine BCase.t (by decide) ?_ | refine BCase.f (by decide) ?_ | refine CallP.pure _ rfl _ (ps) ?_ | (refine CallP.ret [(FK, FK), (FK1, 90)] _ _ _ _ _ _ _ ci rfl rfl rfl rfl ⟨rfl, rfl, trivial⟩ ?_) | (refine CallP.ret [(FK, FK), (FK1, 90)] _ _ _ _ _ _ _ cn rfl rfl rfl rfl ⟨rfl, rfl, trivial⟩ ?_) | (refine CallP.ret [(FK, FK), (FK1, 90)] _ _ _ _ _ _ _ ck rfl rfl rfl rfl ⟨rfl, rfl, trivial⟩ ?_) | with_reducible first | apply l_ | apply m_ | apply n_ | apply o_ | refine p_ (fun _ => ?_) (fun _ => ?_)) <;> (conv => whnf)))
     exact CallP.pan [(FK, FK), (FK1, 90)] _ _ _ _ c3 rfl rfl rfl ⟨rfl, rfl, trivial⟩ rfl
    | false =>
     rw [if_neg (by rw [hk]; decide)] at e2
     have ck := s_take_f wLike rr (by omega) o1 hk
     cases hin : isH wIn rr with
     | true =>
      rw [if_pos hin] at e2
      have hp2 := isH_pos hin
      have hd2 : (rr.drop 1).length + 1 = rr.length := by rw [List.length_drop]; omega
      have e3 : listF rec (rr.drop 1) = none := by
       cases e3 : listF rec (rr.drop 1) with
       | none => rfl
       | some y => rw [e3] at e2; cases e2
      have cin := s_take_t wIn rr (by omega) o1 hin
      have c3 := x_list rec N hN h1 hw (rr.drop 1) (by omega) (frr.drop 1) o1 (by omega) e3
      ((conv => whnf); repeat' ((first | (with_reducible first | apply a_ | apply b_ | apply c_) | ((with_reducible first | apply d_ | apply e_ | apply f_ | apply g_); focus first | omega | (simp only [q_] <;> omega)) | ((with_reducible first | apply i_ | apply h_); focus first | omega | (simp only [q_] <;> omega)) | ((with_reducible apply h_); focus first | decide | kernel_rfl) | refine BCase.t (by decide) ?_ | refine BCase.f (by decide) ?_ | refine CallP.pure _ rfl _ (ps) ?_ | (refine CallP.ret [(FK, FK), (FK1, 90)] _ _ _ _ _ _ _ ci rfl rfl rfl rfl ⟨rfl, rfl, trivial⟩ ?_) | (refine CallP.ret [(FK, FK), (FK1, 90)] _ _ _ _ _ _ _ cn rfl rfl rfl rfl ⟨rfl, rfl, trivial⟩ ?_) | (refine CallP.ret [(FK, FK), (FK1, 90)] _ _ _ _ _ _ _ ck rfl rfl rfl rfl ⟨rfl, rfl, trivial⟩ ?_) | (refine CallP.ret [(FK, FK), (FK1, 90)] _ _ _ _ _ _ _ cin rfl rfl rfl rfl ⟨rfl, rfl, trivial⟩ ?_) | with_reducible first | apply l_ | apply m_ | apply n_ | apply o_ | refine p_ (fun _ => ?_) (fun _ => ?_)) <;> (conv => whnf)))
      exact CallP.pan [(FK, FK), (FK1, 90)] _ _ _ _ c3 rfl rfl rfl ⟨rfl, rfl, trivial⟩ rfl
     | false =>
      rw [if_neg (by rw [hin]; decide)] at e2
      have cin := s_take_f wIn rr (by omega) o1 hin
      cases hb : isH wBetw rr with
      | true =>
       rw [if_pos hb] at e2
       have hp2 := isH_pos hb
       have hd2 : (rr.drop 1).length + 1 = rr.length := by rw [List.length_drop]; omega
       have cb := s_take_t wBetw rr (by omega) o1 hb
       have cA := hA (rr.drop 1) (by omega) (frr.drop 1) o1 (by omega)
       unfold twoF at e2
       cases e3 : addF rec (rr.drop 1) with
       | none =>
        have c3 := cA.2 e3
        ((conv => whnf); repeat' ((first | (with_reducible first | apply a_ | apply b_ | apply c_) | ((with_reducible first | apply d_ | apply e_ | apply f_ | apply g_); focus first | omega | (simp only [q_] <;> omega)) | ((with_reducible first | apply i_ | apply h_); focus first | omega | (simp only [q_] <;> omega)) | ((with_reducible apply h_); focus first | decide | kernel_rfl) | refine BCase.t (by decide) ?_ | refine BCase.f (by decide) ?_ | refine CallP.pure _ rfl _ (ps) ?_ | (refine CallP.ret [(FK, FK), (FK1, 90)] _ _ _ _ _ _ _ ci rfl rfl rfl rfl ⟨rfl, rfl, trivial⟩ ?_) | (refine CallP.ret [(FK, FK), (FK1, 90)] _ _ _ _ _ _ _ cn rfl rfl rfl rfl ⟨rfl, rfl, trivial⟩ ?_) | (refine CallP.ret [(FK, FK), (FK1, 90)] _ _ _ _ _ _ _ ck rfl rfl rfl rfl ⟨rfl, rfl, trivial⟩ ?_) | (refine CallP.ret [(FK, FK), (FK1, 90)] _ _ _ _ _ _ _ cin rfl rfl rfl rfl ⟨rfl, rfl, trivial⟩ ?_) | (refine CallP.ret [(FK, FK), (FK1, 90)] _ _ _ _ _ _ _ cb rfl rfl rfl rfl ⟨rfl, rfl, trivial⟩ ?_) | with_reducible first | apply l_ | apply m_ | apply n_ | apply o_ | refine p_ (fun _ => ?_) (fun _ => ?_)) <;> (conv => whnf)))
        exact CallP.pan [(FK, FK), (FK1, 90)] _ _ _ _ c3 rfl rfl rfl ⟨rfl, rfl, trivial⟩ rfl
       | some x =>
        obtain ⟨r3, bs⟩ := x
        rw [e3] at e2
        dsimp only at e2
        obtain ⟨k3, d1, d2, d3, d4⟩ := ha _ _ _ e3
        have hr3 : r3.length + k3 = (rr.drop 1).length := by rw [d3, List.length_drop]; omega
        have hlb : (o1 ++ bs).length = o1.length + bs.length := List.length_append
        have c3 := cA.1 r3 bs e3
        cases hand : isH wAnd r3 with
        | false =>
         have cm := x_must wAnd r3 (by omega) (o1 ++ bs) hand
         ((conv => whnf); repeat' ((first | (with_reducible first | apply a_ | apply b_ | apply c_) | ((with_reducible first | apply d_ | apply e_ | apply f_ | apply g_); focus first | omega | (simp only [q_] <;> omega)) | ((with_reducible first | apply i_ | apply h_); focus first | omega | (simp only [q_] <;> omega)) | ((with_reducible apply h_); focus first | decide | kernel_rfl) | refine BCase.t (by decide) ?_ | refine BCase.f (by decide) ?_ | refine CallP.pure _ rfl _ (ps) ?_ | (refine CallP.ret [(FK, FK), (FK1, 90)] _ _ _ _ _ _ _ ci rfl rfl rfl rfl ⟨rfl, rfl, trivial⟩ ?_) | (refine CallP.ret [(FK, FK), (FK1, 90)] _ _ _ _ _ _ _ cn rfl rfl rfl rfl ⟨rfl, rfl, trivial⟩ ?_) | (refine CallP.ret [(FK, FK), (FK1, 90)] _ _ _ _ _ _ _ ck rfl rfl rfl rfl ⟨rfl, rfl, trivial⟩ ?_) | (refine CallP.ret [(FK, FK), (FK1, 90)] _ _ _ _ _ _ _ cin rfl rfl rfl rfl ⟨rfl, rfl, trivial⟩ ?_) | (refine CallP.ret [(FK, FK), (FK1, 90)] _ _ _ _ _ _ _ cb rfl rfl rfl rfl ⟨rfl, rfl, trivial⟩ ?_) | (refine CallP.ret [(FK, FK), (FK1, 90), (NK, 56)] _ _ _ _ _ _ _ c3 rfl rfl rfl rfl ⟨rfl, rfl, trivial⟩ ?_) | with_reducible first | apply l_ | apply m_ | apply n_ | apply o_ | refine p_ (fun _ => ?_) (fun _ => ?_)) <;> (conv => whnf)))
         exact CallP.pan [(FK, FK), (FK1, 56)] _ _ _ _ cm rfl rfl rfl ⟨rfl, rfl, trivial⟩ rfl
        | true =>
         rw [if_pos hand] at e2
         have hp3 := isH_pos hand
         have hd3 : (r3.drop 1).length + 1 = r3.length := by rw [List.length_drop]; omega
         have fr3 : okT r3 := by rw [d3]; exact (frr.drop 1).drop _
         have e4 : addF rec (r3.drop 1) = none := by
          cases e4 : addF rec (r3.drop 1) with
          | none => rfl
          | some y => rw [e4] at e2; cases e2
         have cm := s_must wAnd r3 (by omega) (o1 ++ bs) hand
         have c4 := (hA (r3.drop 1) (by omega) (fr3.drop 1) (o1 ++ bs) (by omega)).2 e4
         ((conv => whnf); repeat' ((first | (with_reducible first | apply a_ | apply b_ | apply c_) | ((with_reducible first | apply d_ | apply e_ | apply f_ | apply g_); focus first | omega | (simp only [q_] <;> omega)) | ((with_reducible first | apply i_ | apply h_); focus first | omega | (simp only [q_] <;> omega)) | ((with_reducible apply h_); focus first | decide | kernel_rfl) | refine BCase.t (by decide) ?_ | refine BCase.f (by decide) ?_ | refine CallP.pure _ rfl _ (ps) ?_ | (refine CallP.ret [(FK, FK), (FK1, 90)] _ _ _ _ _ _ _ ci rfl rfl rfl rfl ⟨rfl, rfl, trivial⟩ ?_) | (refine CallP.ret [(FK, FK), (FK1, 90)] _ _ _ _ _ _ _ cn rfl rfl rfl rfl ⟨rfl, rfl, trivial⟩ ?_) | (refine CallP.ret [(FK, FK), (FK1, 90)] _ _ _ _ _ _ _ ck rfl rfl rfl rfl ⟨rfl, rfl, trivial⟩ ?_) | (refine CallP.ret [(FK, FK), (FK1, 90)] _ _ _ _ _ _ _ cin rfl rfl rfl rfl ⟨rfl, rfl, trivial⟩ ?_) | (refine CallP.ret [(FK, FK), (FK1, 90)] _ _ _ _ _ _ _ cb rfl rfl rfl rfl ⟨rfl, rfl, trivial⟩ ?_) | (refine CallP.ret [(FK, FK), (FK1, 90), (NK, 56)] _ _ _ _ _ _ _ c3 rfl rfl rfl rfl ⟨rfl, rfl, trivial⟩ ?_) | (refine CallP.ret [(FK, FK), (FK1, 56)] _ _ _ _ _ _ _ cm rfl rfl rfl rfl ⟨rfl, rfl, trivial⟩ ?_) | with_reducible first | apply l_ | apply m_ | apply n_ | apply o_ | refine p_ (fun _ => ?_) (fun _ => ?_)) <;> (conv => whnf)))
         exact CallP.pan [(FK, FK), (FK1, 56)] _ _ _ _ c4 rfl rfl rfl ⟨rfl, rfl, trivial⟩ rfl
      | false =>
       rw [if_neg (by rw [hb]; decide)] at e2
       have cb := s_take_f wBetw rr (by omega) o1 hb
       rw [if_neg (by decide)] at e2
       cases e2
theorem w_ask (rec : List TokenD → PR) (N : Nat) (hN : N ≤ 50000) (h1 : ∀ l, fit 1 l (rec l)) (hw : ∀ M, M < N → WalkOk 60 rec M) (hA : WalkOk 88 (addF rec) N) : WalkOk 86 (askF rec) N := fun l hl ht out ho =>
 ⟨fun r ns e => s_ask rec N hN h1 hw hA l hl ht out ho e, fun e => x_ask rec N hN h1 hw hA l hl ht out ho e⟩
theorem w_pOr : ∀ (n : Nat), n ≤ 50000 → ∀ M, M < n → WalkOk 60 (pOr n) M
 | 0, _, M, h => absurd h (Nat.not_lt_zero _)
 | n + 1, hn, M, h => by
  have ih := w_pOr n (by omega)
  have h1 := fit_pOr n
  have hM : M ≤ 50000 := by omega
  have ih' : ∀ M', M' < M → WalkOk 60 (pOr n) M' := fun M' h' => ih M' (by omega)
  have c1 := w_one (pOr n) M hM h1 ih'
  have c2 := w_neg (oneF (pOr n)) M hM (fit_one h1) c1
  have c3 := w_mul (negF (pOr n)) M hM (fit_neg h1) c2
  have c4 := w_add (mulF (pOr n)) M hM (fit_mul h1) c3
  have c5 := w_ask (pOr n) M hM h1 ih' c4
  have c6 := w_not (askF (pOr n)) M hM (fit_ask h1 (fit_add h1)) c5
  have c7 := w_and (notF (pOr n)) M hM (fit_not h1) c6
  exact w_or (andF (pOr n)) M hM (fit_and h1) c7
end Go.Proofs.YtmcmagfondjopaaDoor.Pm
end
section
namespace Go.Proofs.YtmcmagfondjopaaDoor.Pm
open Go.RowKit
set_option linter.unusedVariables false
set_option linter.unusedSimpArgs false
def seqs : List Code → Code → Code
 | [], t => t
 | c :: l, t => .seq c (seqs l t)
noncomputable def vcPre (P : Program) (nt : Nat) (fk : List Nat) (X : XT) : List Code → (Env → Hp → List Nat → Prop) → Cont → Env → Hp → List Nat → Prop
 | [], N, _, e, h, n => N e h n
 | c :: l, N, Q, e, h, n => vc P nt fk X c e h n (seqK (fun e h n => vcPre P nt fk X l N Q e h n) Q)
def cloK (P : Program) (G : Func) (t1 t2 : Nat) (rest : Code) (cap : List D) (r : PV) (h : Hp) (n : List Nat) (K : Hp → Prop) : Prop :=
 vc P G.ntmps n (fun _ _ _ _ => False) rest (upd (upd (argsE (pds cap)) t1 r) t2 r) h n fun x _ h _ => match x with
  | .normal => K h
  | .ret => K h
  | _ => False
def resC (P : Program) (h : Hp) (e : Env) : List ResultVar → (List PV → Prop) → Prop
 | [], K => K []
 | .cell t ty :: rs, K => match e t with
  | .d (.ptr k o) => loadP P h ty (.d (.ptr k o)) fun v _ => resC P h e rs fun vs => K (v :: vs)
  | _ => False
 | .tmp _ :: _, _ => False
def ptrs : List D → Bool
 | [] => true
 | .ptr _ _ :: l => ptrs l
 | _ => false
def deferP (P : Program) (fn G : Func) (t1 t2 : Nat) (rest post : Code) (cap : List D) (Fin : Hp → List PV → Prop) (e : Env) (h : Hp) (n : List Nat) : Prop :=
 vc P fn.ntmps n (fun v e h n => v.oneCell' = true ∧ cloK P G t1 t2 rest cap (.d (.c (.v v))) h n fun h2 => resC P h2 e fn.results.toList fun vs => Fin h2 vs) post e h n fun x e h n => match x with
  | .normal => cloK P G t1 t2 rest cap (.d (.c (.v .nilIface))) h n fun h2 => resC P h2 e fn.results.toList fun vs => Fin h2 vs
  | .ret => cloK P G t1 t2 rest cap (.d (.c (.v .nilIface))) h n fun h2 => resC P h2 e fn.results.toList fun vs => Fin h2 vs
  | _ => False
section
variable {P : Program}
theorem sw_df {c : Ctx} {σ : Sg} {h : Hp} {w : World} (hs : SW c σ h w) (d : List Deferred) (s : Sg) (hsg : ∀ k x, s k = some x → σ k = some x) : SW { c with df := d, σ0 := s } σ h w :=
 ⟨hs.os, hs.tape, hs.output, hs.size, hs.block, hs.hp, hs.inj, hs.kept, hs.shape, hsg⟩
theorem ctx_df {c : Ctx} (hc : c.Ok) (d : List Deferred) (s : Sg) : Ctx.Ok { c with df := d, σ0 := s } := ⟨hc.fz, hc.gl, hc.gb⟩
theorem ptrs_rep {σ σ' : Sg} {F F' : Fzn} {w w' : World} (hsg : ∀ k x, σ k = some x → σ' k = some x) : ∀ {l : List D} {us : List Value}, ptrs l = true → DsRep σ F w l us → DsRep σ' F' w' l us
 | [], _, _, hr => by rw [dsRep_nil_inv hr]; exact dsRep_nil
 | x :: xs, _, h, hr => by
  obtain ⟨u, vs, rfl, h1, h2⟩ := dsRep_inv hr
  unfold ptrs at h
  split at h
  ·cases ‹_ :: _ = []›
  ·rename_i k o l he
   cases he
   refine dsRep_cons ?_ (ptrs_rep hsg h h2)
   unfold DRep at h1 ⊢
   obtain ⟨g, m, q1, q2⟩ := h1
   exact ⟨g, m, hsg _ _ q1, q2⟩
  ·cases h
theorem resC_out {c c' : Ctx} {nt : Nat} {σ σ' : Sg} {e : Env} {h h' : Hp} {a : Act} {w w' : World} (hs : St c nt σ e h a w) (hsg : ∀ k x, σ k = some x → σ' k = some x) (hs' : SW c' σ' h' w') : ∀ {rs : List ResultVar} {K : List PV → Prop}, resC P h' e rs K →
  ∃ vs us, K vs ∧ (rs.mapM (resF a.tmps)).run P w' = .ok us w' ∧ PsRep σ' (fz c' σ' h' w') w' vs us
 | [], K, hv => ⟨[], [], hv, by simp, by unfold PsRep; trivial⟩
 | .cell t ty :: rs, K, hv => by
  unfold resC at hv
  split at hv
  ·rename_i k o he
   have h1 := hs.env t
   rw [he] at h1
   have h2 : PRep σ' (fz c' σ' h' w') w' (.d (.ptr k o)) (a.tmps.getD t undef) := by
    unfold PRep DRep at h1 ⊢
    obtain ⟨g, m, q1, q2⟩ := h1
    exact ⟨g, m, hsg _ _ q1, q2⟩
   obtain ⟨v, z, _, g1, g2, ⟨ad, g3⟩, g4⟩ := loadP_run hv hs' h2
   obtain ⟨vs, us, h3, h4, h5⟩ := resC_out hs hsg hs' g1
   refine ⟨v :: vs, z :: us, h3, ?_, by unfold PsRep; exact ⟨g4, h5⟩⟩
   rw [g3] at g2
   have g5 : (loadVar ty ad).run P w' = .ok z w' := by simpa [Instr.loadAt, Instr.sureAddr] using g2
   simp only [List.mapM_cons, resF, Sem.run_bind, Sem.run_pure, Result.andThen_ok, h4, g3, asAddr, g5]
  ·exact hv.elim
 | .tmp t :: rs, K, hv => by unfold resC at hv; exact hv.elim
theorem clo_run {g : FuncId} {G : Func} {t1 t2 : Nat} {id : Nat} {ops : Array Oper} {rest : Code} {cap : List D} {r : Value} {u u' : FrameMode} {K : Hp → Prop} {c : Ctx} {σ : Sg} {h : Hp} {n : List Nat} {w : World} {us : List Value}
  (hg : P.funcs[g]? = some G) (hb : G.body = some (.seq (.region id ops false) rest)) (hres : G.results = #[]) (hm : P.follows .mixedOrders = true) (hn2 : Nat.blt t1 G.ntmps = true ∧ Nat.blt t2 G.ntmps = true) (hlen : us.length ≤ G.ntmps)
  (hreg : ∀ (a : Act) (c₀ : Frame) (cs : List Frame) (w : World) (Q : Exit → Act → List Frame → World → Prop), c₀.mode = u → t1 < a.tmps.size → Q .normal ((a.put (some t1) r).put (some t2) r) ({ c₀ with mode := u' } :: cs) w → wpOpsS P ops Q (List.range ops.size) a (c₀ :: cs) w)
  (hc : c.Ok) (hs : SW c σ h w) (hf : ∀ k, k ∉ n → σ k = none) (hcap : PsRep σ (fz c σ h w) w (pds cap) us) (hr : r.oneCell' = true)
  (hv : cloK P G t1 t2 rest cap (.d (.c (.v r))) h n K) :
  CallsD P g us.toArray u w fun e v w' => e = .returned (.tuple #[]) ∧ v = u' ∧ ∃ σ' h', K h' ∧ SW { c with df := [], σ0 := σ } σ' h' w' := by
 refine callsD_of_wpS hg hb fun c₀ cs hu => ?_
 obtain ⟨hb1, hb2⟩ := hn2
 have hsz : t1 < (us.toArray ++ Array.replicate (G.ntmps - us.toArray.size) undef).size := by
  have l1 : t1 < G.ntmps := by simpa using hb1
  simp; omega
 refine wpS_seq (wpS_region (hreg _ c₀ cs w _ hu hsz ?_))
 show Code.wpS P rest _ _ _ _
 have hst : St { c with df := [], σ0 := σ } G.ntmps σ (argsE (pds cap)) h { tmps := us.toArray ++ Array.replicate (G.ntmps - us.toArray.size) undef, defers := [] } w := by
  refine ⟨sw_df hs [] σ (fun _ _ h => h), fun t => ?_, rfl, by simp; omega⟩
  have q := psRep_get t hcap
  show PRep _ _ _ _ ((us.toArray ++ Array.replicate (G.ntmps - us.toArray.size) undef).getD t undef)
  rw [getD_args]; exact q
 have hpr : PRep σ (fz { c with df := [], σ0 := σ } σ h w) w (.d (.c (.v r))) r := by unfold PRep DRep CRep; exact ⟨rfl, hr⟩
 have l1 : t1 < G.ntmps := by simpa using hb1
 have l2 : t2 < G.ntmps := by simpa using hb2
 have h1 := st_put (d := some t1) (v := .d (.c (.v r))) (u := r) hst Evo.refl hst.toSW hpr (fun t' ht => by cases ht; exact l1)
 have h2 := st_put (d := some t2) (v := .d (.c (.v r))) (u := r) h1 Evo.refl h1.toSW hpr (fun t' ht => by cases ht; exact l2)
 refine wpS_of_wp (wp_mono (vc_out (fun k hk => Classical.byContradiction fun hn => hk (hf k hn)) (ctx_df hc [] σ) hm rest _ _ _ _ σ _ w hv h2 hf) ?_)
 intro x a' w' hq
 have fin : ∀ (e' : Env) (h' : Hp) (σ' : Sg), K h' → St { c with df := [], σ0 := σ } G.ntmps σ' e' h' a' w' → a'.defers = [] ∧ ∃ u'', ({ c₀ with mode := u' } : Frame) :: cs = { c₀ with mode := u'' } :: cs ∧ ∃ v, (results G a'.tmps).run P w' = .ok v w' ∧
   (Ending.returned v = .returned (.tuple #[]) ∧ u'' = u' ∧ ∃ σ' h', K h' ∧ SW { c with df := [], σ0 := σ } σ' h' w') := by
  intro e' h' σ' hk hs'
  refine ⟨hs'.defers, u', rfl, .tuple #[], ?_, rfl, rfl, σ', h', hk, hs'.toSW⟩
  unfold results
  simp [hres]
 cases x with
 | normal => obtain ⟨e', h', n', σ', hq, hs', _⟩ := hq; exact fin _ _ _ hq hs'
 | ret => obtain ⟨e', h', n', σ', hq, hs', _⟩ := hq; exact fin _ _ _ hq hs'
 | exit id => obtain ⟨e', h', n', σ', hq, hs', _⟩ := hq; exact hq.elim
 | goto l => obtain ⟨e', h', n', σ', hq, hs', _⟩ := hq; exact hq.elim
 | panic ch => obtain ⟨v, _, e', h', n', σ', hq, _⟩ := hq; exact hq.elim
 | outgrown => obtain ⟨e', h', n', σ', hq, hs', _⟩ := hq; exact hq.elim
def deferK (P : Program) (fn G : Func) (g : FuncId) (t t1 t2 : Nat) (caps : List Operand) (rest post : Code) (Fin : Hp → List PV → Prop) (e : Env) (h : Hp) (n : List Nat) : Prop :=
 mapE (ev e) caps fun ys => dsOf ys fun cap => Need (ptrs cap = true) (deferP P fn G t1 t2 rest post cap Fin (upd e t (.d (.clo g [] cap))) h n)
structure Recovers (P : Program) (ops : Array Oper) (t1 t2 : Nat) : Prop where
 ret : ∀ (a : Act) (c₀ : Frame) (cs : List Frame) (w : World) (Q : Exit → Act → List Frame → World → Prop), c₀.mode = .returning → t1 < a.tmps.size → Q .normal ((a.put (some t1) .nilIface).put (some t2) .nilIface) ({ c₀ with mode := .returning } :: cs) w → wpOpsS P ops Q (List.range ops.size) a (c₀ :: cs) w
 pan : ∀ (v : Value) (a : Act) (c₀ : Frame) (cs : List Frame) (w : World) (Q : Exit → Act → List Frame → World → Prop), c₀.mode = .panicking [{ v := v, recovered := false }] → t1 < a.tmps.size → Q .normal ((a.put (some t1) v).put (some t2) v) ({ c₀ with mode := .panicking [{ v := v, recovered := true }] } :: cs) w →
  wpOpsS P ops Q (List.range ops.size) a (c₀ :: cs) w
theorem recovers_two {ops : Array Oper} {t1 t2 : Nat} {o1 o2 : Oper} (hops : ops = #[o1, o2]) (h1 : o1.op = .call { callee := .builtin .recover, args := #[], argTypes := #[] }) (h1d : o1.dst = some t1) (h1g : o1.guard = none) (h2 : o2.op = .assign (.tmp t1)) (h2d : o2.dst = some t2) (h2g : o2.guard = none) : Recovers P ops t1 t2 := by
 subst hops
 have hr : List.range (#[o1, o2] : Array Oper).size = [0, 1] := rfl
 have get : ∀ (a : Act) (v : Value), t1 < a.tmps.size → (a.put (some t1) v).eval (.tmp t1) = v := fun a v h => by simp [Act.eval, Act.put, h]
 constructor
 ·intro a c₀ cs w Q hm ht hq
  rw [hr]
  have e2 : ∀ w : World, (execOp (a.put (some t1) .nilIface).eval o2).run P w = .ok (.value .nilIface) w := fun w => by simp [execOp, h2, get a .nilIface ht]
  have e1 : (execOp a.eval o1).run P w = .ok .recover w := by simp [execOp, h1, resolve, invoke]; rfl
  have ec : recoverD (c₀ :: cs) = none := by simp [recoverD, hm]
  have e3 : c₀ = { c₀ with mode := .returning } := by rw [← hm]
  simp only [wpOpsS, Region.wanted, h1g, h2g, e1, e2, ec, h1d, h2d, List.getElem?_toArray, List.getElem?_cons_zero, List.getElem?_cons_succ, if_true, Oper.upon]
  rw [e3]; exact hq
 ·intro v a c₀ cs w Q hm ht hq
  rw [hr]
  have e2 : ∀ w : World, (execOp (a.put (some t1) v).eval o2).run P w = .ok (.value v) w := fun w => by simp [execOp, h2, get a v ht]
  have e1 : (execOp a.eval o1).run P w = .ok .recover w := by simp [execOp, h1, resolve, invoke]; rfl
  have ec : recoverD (c₀ :: cs) = some (v, { c₀ with mode := .panicking [{ v := v, recovered := true }] } :: cs) := by simp [recoverD, hm]
  simp only [wpOpsS, Region.wanted, h1g, h2g, e1, e2, ec, h1d, h2d, List.getElem?_toArray, List.getElem?_cons_zero, List.getElem?_cons_succ, if_true, Oper.upon]
  exact hq
theorem wp_defer {g : FuncId} {fn G : Func} {t t1 t2 id id1 : Nat} {ops ops1 : Array Oper} {o1 o2 : Oper} {caps : List Operand} {rest post : Code} {Fin : Hp → List PV → Prop} {c : Ctx} {fk : List Nat} {R : Ending → World → Prop}
  (hops : ops1.toList = [o1, o2]) (h1 : o1.op = .makeFunc (.func g) #[] caps.toArray) (h1d : o1.dst = some t) (h1g : o1.guard = none) (h2 : o2.op = .defer { callee := .value (.tmp t), args := #[], argTypes := #[] }) (h2d : o2.dst = none) (h2g : o2.guard = none) (ht : Nat.blt t fn.ntmps = true)
  (hg : P.funcs[g]? = some G) (hgn : (G.name == "runtime.NumGoroutine") = false) (hb : G.body = some (.seq (.region id ops false) rest)) (hres : G.results = #[]) (hm : P.follows .mixedOrders = true) (hn2 : Nat.blt t1 G.ntmps = true ∧ Nat.blt t2 G.ntmps = true) (hlen : Nat.ble caps.length G.ntmps = true)
  (hrec : Recovers P ops t1 t2) (hc : c.Ok) (hdf : c.df = []) (hfk : ∀ k, c.σ0 k ≠ none → k ∈ fk)
  (hfin : ∀ σ h w vs us, Fin h vs → SW c σ h w → PsRep σ (fz c σ h w) w vs us → R (.returned (if hx : us.toArray.size = 1 then us.toArray[0] else .tuple us.toArray)) w) :
  ∀ (pre : List Code) (e : Env) (h : Hp) (n : List Nat) (σ : Sg) (a : Act) (w : World), vcPre P fn.ntmps fk (fun _ _ _ _ => False) pre (deferK P fn G g t t1 t2 caps rest post Fin) (fun x e h _ => match x with | .ret => resP P h e fn.results.toList fun vs => Fin h vs | _ => False) e h n →
   St c fn.ntmps σ e h a w → (∀ k, k ∉ n → σ k = none) → (seqs pre (.seq (.region id1 ops1 false) post)).wp P (bodyPostD P fn R) a w
 | [], e, h, n, σ, a, w, hv, hs, hf => by
  have hv : deferK P fn G g t t1 t2 caps rest post Fin e h n := hv
  unfold deferK at hv
  obtain ⟨ys, hv, hys⟩ := mapE_out hv
  obtain ⟨cap, ⟨hptr, hv⟩, hcap⟩ := dsOf_out hv
  have hcv : DsRep σ (fz c σ h w) w cap (caps.map a.eval) := hcap _ _ _ _ (hys σ (fz c σ h w) w a.eval fun x _ => rep_ev hs x)
  have htl : t < fn.ntmps := by simpa using ht
  have hclo : PRep σ (fz c σ h w) w (.d (.clo g [] cap)) (.func (.func g) #[] (caps.map a.eval).toArray) := by
   unfold PRep DRep
   exact ⟨[], caps.map a.eval, by simp, dsRep_nil, hcv⟩
  obtain ⟨d, hd⟩ : ∃ d : Deferred, d = { target := .fn (.func g) (caps.map a.eval).toArray, args := #[] } := ⟨_, rfl⟩
  have hs1 := st_put (d := some t) (v := .d (.clo g [] cap)) (u := .func (.func g) #[] (caps.map a.eval).toArray) hs Evo.refl hs.toSW hclo (fun t' ht' => by cases ht'; exact htl)
  have hev : (a.put (some t) (.func (.func g) #[] (caps.map a.eval).toArray)).eval (.tmp t) = .func (.func g) #[] (caps.map a.eval).toArray := by
   simp [Act.eval, Act.put, hs.nt, htl]
  have hs2 : St { c with df := [d], σ0 := σ } fn.ntmps σ (upd e t (.d (.clo g [] cap))) h { a.put (some t) (.func (.func g) #[] (caps.map a.eval).toArray) with defers := [d] } w := by
   refine ⟨sw_df hs.toSW [d] σ (fun _ _ h => h), hs1.env, rfl, hs1.nt⟩
  refine wp_seq (wp_region_list ?_)
  rw [hops]
  unfold wpList
  rw [if_pos (by unfold Region.wanted; rw [h1g])]
  refine .inl ?_
  unfold Oper.wp
  have e1 : (execOp a.eval o1).run P w = .ok (.value (.func (.func g) #[] (caps.map a.eval).toArray)) w := by simp [execOp, h1, Instr.makeFunc]
  rw [e1]
  show wpList P ops1 _ [o2] (a.put o1.dst _) w
  rw [h1d]
  unfold wpList
  rw [if_pos (by unfold Region.wanted; rw [h2g])]
  refine .inl ?_
  unfold Oper.wp
  have e2 : (execOp (a.put (some t) (.func (.func g) #[] (caps.map a.eval).toArray)).eval o2).run P w = .ok (.defer d) w := by
   simp [execOp, h2, resolve, hev, Deferred.ofValue, hd]
  rw [e2]
  have hdz : (a.put (some t) (.func (.func g) #[] (caps.map a.eval).toArray)).defers = [] := by rw [show (a.put (some t) (.func (.func g) #[] (caps.map a.eval).toArray)).defers = a.defers from rfl, hs.defers, hdf]
  have up : ∀ (A : Act), A.defers = [] → ∀ (N : Act → World → Prop) (Q : Exit → Act → World → Prop), N ({ tmps := A.tmps, defers := [d] } : Act) w → Oper.upon P o2 A N Q (.ok (.defer d) w) := by
   intro A hA N Q hN
   simp only [Oper.upon, h2d, Act.put, hA]
   exact hN
  refine up _ hdz _ _ ?_
  unfold wpList
  show post.wp P _ { a.put (some t) (.func (.func g) #[] (caps.map a.eval).toArray) with defers := [d] } w
  refine wp_mono (vc_out (fun k hk => Classical.byContradiction fun hn => hk (hf k hn)) (ctx_df hc [d] σ) hm post _ _ _ _ σ _ w hv hs2 hf) ?_
  have hinv : ∀ w : World, (invoke (.fn (.func g) (caps.map a.eval).toArray) #[]).run P w = .ok (.enter g (caps.map a.eval).toArray) w := fun w => by
   have p2' : ¬ G.name = "runtime.NumGoroutine" := by simpa using hgn
   simp [invoke, callFunc, hg, p2', hb]
  have hlen' : (caps.map a.eval).length ≤ G.ntmps := by rw [List.length_map]; exact Nat.le_of_ble_eq_true hlen
  have leave : ∀ (u u' : FrameMode) (r : Value) (e' : Env) (h' : Hp) (n' : List Nat) (σ' : Sg) (a' : Act) (w' : World), u ≠ .run → settle u' = .returning →
    (∀ (a : Act) (c₀ : Frame) (cs : List Frame) (w : World) (Q : Exit → Act → List Frame → World → Prop), c₀.mode = u → t1 < a.tmps.size → Q .normal ((a.put (some t1) r).put (some t2) r) ({ c₀ with mode := u' } :: cs) w → wpOpsS P ops Q (List.range ops.size) a (c₀ :: cs) w) →
    r.oneCell' = true → cloK P G t1 t2 rest cap (.d (.c (.v r))) h' n' (fun h2 => resC P h2 e' fn.results.toList fun vs => Fin h2 vs) → St { c with df := [d], σ0 := σ } fn.ntmps σ' e' h' a' w' → (∀ k, k ∉ n' → σ' k = none) → Leaves P fn a'.tmps R a'.defers u w' := by
   intro u u' r e' h' n' σ' a' w' hu hset hreg hr1 hclo hs' hf'
   rw [show a'.defers = [d] from hs'.defers, hd]
   refine leaves_cons hu (hinv w') ?_
   have hc2 : PsRep σ' (fz { c with df := [d], σ0 := σ } σ' h' w') w' (pds cap) (caps.map a.eval) := psRep_pds (ptrs_rep (fun k x hk => hs'.sg0 k x hk) hptr hcv)
   refine (clo_run hg hb hres hm hn2 hlen' hreg (ctx_df hc [d] σ) hs'.toSW hf' hc2 hr1 hclo).mono ?_
   rintro en v w'' ⟨rfl, hvu, σ'', h'', hk, hs''⟩
   show Leaves P fn a'.tmps R [] (settle v) w''
   rw [hvu, hset]
   have hback : SW c σ'' h'' w'' := sw_df hs'' c.df c.σ0 (fun k x hk => hs''.sg0 k x (hs'.sg0 k x (hs.sg0 k x hk)))
   obtain ⟨vs, us, g1, g2, g3⟩ := resC_out hs' (fun k x hk => hs''.sg0 k x hk) hback hk
   refine ⟨_, ?_, hfin σ'' h'' w'' vs us g1 hback g3⟩
   have he : results fn a'.tmps = (do let vs ← fn.results.mapM (resF a'.tmps); pure (if h : vs.size = 1 then vs[0] else .tuple vs)) := by
    unfold results
    congr 1
   rw [he, Array.mapM_eq_mapM_toList]
   simp only [Sem.run_bind, map_eq_pure_bind, bind_assoc, pure_bind, g2, Result.andThen_ok, Sem.run_pure]
  intro x a' w' hq
  cases x with
  | normal => obtain ⟨e', h', n', σ', hq, hs', hf'⟩ := hq; exact leave .returning .returning .nilIface e' h' n' σ' a' w' (by simp) rfl hrec.ret rfl hq hs' hf'
  | ret => obtain ⟨e', h', n', σ', hq, hs', hf'⟩ := hq; exact leave .returning .returning .nilIface e' h' n' σ' a' w' (by simp) rfl hrec.ret rfl hq hs' hf'
  | exit id => obtain ⟨e', h', n', σ', hq, hs', _⟩ := hq; exact hq.elim
  | goto l => obtain ⟨e', h', n', σ', hq, hs', _⟩ := hq; exact hq.elim
  | panic ch =>
   obtain ⟨v, rfl, e', h', n', σ', ⟨hq1, hq⟩, hs', hf'⟩ := hq
   exact leave _ (.panicking [{ v := v, recovered := true }]) v e' h' n' σ' a' w' (by simp) rfl (hrec.pan v) hq1 hq hs' hf'
  | outgrown => obtain ⟨e', h', n', σ', hq, hs', _⟩ := hq; exact hq.elim
 | cd :: pre, e, h, n, σ, a, w, hv, hs, hf => by
  refine wp_seq (wp_mono (vc_out hfk hc hm cd e h n _ σ a w hv hs hf) ?_)
  intro x a' w' hq
  cases x with
  | normal =>
   obtain ⟨e', h', n', σ', hq, hs', hf'⟩ := hq
   exact wp_defer hops h1 h1d h1g h2 h2d h2g ht hg hgn hb hres hm hn2 hlen hrec hc hdf hfk hfin pre e' h' n' σ' a' w' hq hs' hf'
  | ret =>
   obtain ⟨e', h', n', σ', hq, hs', hf'⟩ := hq
   obtain ⟨vs, us, g1, g2, g3⟩ := results_run hs' hq
   show Leaves P fn a'.tmps R a'.defers .returning w'
   rw [hs'.defers, hdf]
   exact ⟨_, g2, hfin σ' h' w' vs us g1 hs'.toSW g3⟩
  | exit id => obtain ⟨e', h', n', σ', hq, hs', _⟩ := hq; exact hq.elim
  | goto l => obtain ⟨e', h', n', σ', hq, hs', _⟩ := hq; exact hq.elim
  | panic ch => obtain ⟨v, _, e', h', n', σ', hq, _⟩ := hq; exact hq.elim
  | outgrown => obtain ⟨e', h', n', σ', hq, hs', _⟩ := hq; exact hq.elim
theorem callS_defer {f g : FuncId} {fn G : Func} {t t1 t2 id id1 : Nat} {ops ops1 : Array Oper} {o1 o2 : Oper} {caps : List Operand} {pre : List Code} {rest post : Code} {args : List PV} {res : PV} {rd rf out : Rf}
  (hf : P.funcs[f]? = some fn) (hn : (fn.name == "runtime.NumGoroutine") = false) (hbody : fn.body = some (seqs pre (.seq (.region id1 ops1 false) post)))
  (hops : ops1.toList = [o1, o2]) (h1 : o1.op = .makeFunc (.func g) #[] caps.toArray) (h1d : o1.dst = some t) (h1g : o1.guard = none) (h2 : o2.op = .defer { callee := .value (.tmp t), args := #[], argTypes := #[] }) (h2d : o2.dst = none) (h2g : o2.guard = none) (ht : Nat.blt t fn.ntmps = true)
  (hg : P.funcs[g]? = some G) (hgn : (G.name == "runtime.NumGoroutine") = false) (hb : G.body = some (.seq (.region id ops false) rest)) (hres : G.results = #[]) (hm : P.follows .mixedOrders = true) (hn2 : Nat.blt t1 G.ntmps = true ∧ Nat.blt t2 G.ntmps = true) (hlen : Nat.ble caps.length G.ntmps = true)
  (hrec : Recovers P ops t1 t2) (ha : Nat.ble args.length fn.ntmps = true) (fk : List Nat) (hfk : fk = (rd ++ rf).map Prod.fst)
  (hv : vcPre P fn.ntmps fk (fun _ _ _ _ => False) pre (deferK P fn G g t t1 t2 caps rest post fun h vs => tupOf vs fun v => RetS fk h res (rd ++ out) v) (fun x e h _ => match x with | .ret => resP P h e fn.results.toList fun vs => tupOf vs fun v => RetS fk h res (rd ++ out) v | _ => False) (argsE args) (hpL (rd ++ rf)) fk) :
  CallS P f args rd rf res out := by
 refine ⟨⟨fn, hf, hn, by rw [hbody]; rfl⟩, fun c vs hc hdf hfr hs hargs => ?_⟩
 have hst := st_begin hs hargs (Nat.le_of_ble_eq_true ha) hdf
 have hfr' : ∀ k, k ∉ fk → c.σ0 k = none := fun k hk => hfr k (by rw [← hfk]; exact hk)
 have hfk' : ∀ k, c.σ0 k ≠ none → k ∈ fk := fun k hk => Classical.byContradiction fun h => hk (hfr' k h)
 refine calls_of_wp_defers hf hbody (wp_defer hops h1 h1d h1g h2 h2d h2g ht hg hgn hb hres hm hn2 hlen hrec hc hdf hfk' ?_ pre _ _ _ _ _ _ hv hst hfr')
 intro σ' h' w' ps us h1 hs' h3
 obtain ⟨v, h5, h6⟩ := tup_out h1 h3
 obtain ⟨g, n, q1, q2, q3, q4⟩ := h5
 obtain ⟨hk, hsw⟩ := sw_wk hfk' hs' q1 q2 q4
 exact ⟨_, _, rfl, hsw, prep_wk hk _ _ _ q3 h6⟩
end
end Go.Proofs.YtmcmagfondjopaaDoor.Pm
end
section
namespace Go.Proofs.YtmcmagfondjopaaDoor.Pm
open Go.RowKit
set_option linter.unusedVariables false
set_option linter.unusedSimpArgs false
theorem CallS.nil_arr2 {P : Program} {f : FuncId} {args : List PV} {K K' T e sz : Nat} {x0 : D} {l : List D} {out : Rf} {res : PV} (hz : 0 < sz) (hne : K ≠ K')
  (h1 : CallS P f args [] [(K, .box T (x0 :: .arr K' e sz 0 0 :: l)), (K', .arr e sz [])] res out) :
  CallS P f args [] [(K, .box T (x0 :: nilSl :: l))] res out := by
 refine ⟨h1.1, fun c vs hc hdf hf hs ha => ?_⟩
 simp only [List.nil_append] at hs ha hf
 have hn : c.σ0 K' = none := hf K' (by simp only [List.map_cons, List.map_nil, List.mem_singleton]; exact fun x => hne x.symm)
 have hK : hpL [(K, HB.box T (x0 :: nilSl :: l))] K = some (.box T (x0 :: nilSl :: l)) := by unfold hpL; simp
 obtain ⟨g, n, cs, e1, e2, e3, e4⟩ := hs.hp K _ hK
 obtain ⟨σ', hσ'⟩ : ∃ σ', σ' = upd c.σ0 K' (some ((none : Option Nat), 0)) := ⟨_, rfl⟩
 have hsg : ∀ k x, c.σ0 k = some x → σ' k = some x := by
  intro k x hx
  rw [hσ', upd_ne]
  ·exact hx
  ·rintro rfl; rw [hn] at hx; cases hx
 have hsK : σ' K = c.σ0 K := by rw [hσ', upd_ne _ _ hne]
 have hsK' : σ' K' = some (none, 0) := by rw [hσ', upd_same]
 let c' : Ctx := { c with σ0 := σ' }
 have hc' : c'.Ok := ⟨hc.fz, hc.gl, hc.gb⟩
 obtain ⟨H, hH⟩ : ∃ H, H = hpL [(K, HB.box T (x0 :: .arr K' e sz 0 0 :: l)), (K', HB.arr e sz [])] := ⟨_, rfl⟩
 have hHK : H K = some (.box T (x0 :: .arr K' e sz 0 0 :: l)) := by rw [hH]; unfold hpL; simp
 have hHK' : H K' = some (.arr e sz []) := by
  rw [hH]
  have : Nat.beq K' K = false := by rw [Bool.eq_false_iff]; intro x; exact hne (Nat.eq_of_beq_eq_true x).symm
  unfold hpL
  rw [this, cond_false]
  unfold hpL; simp
 have hfz : ∀ S b o, Fz c c.σ0 (hpL [(K, HB.box T (x0 :: nilSl :: l))]) S b o ↔ Fz c' σ' H S b o := by
  intro S b o
  constructor
  ·rintro (q | ⟨q1, q2, q3⟩)
   ·exact .inl q
   ·refine .inr ⟨q1, q2, fun k m hb hk hσ => ?_⟩
    rw [hH] at hk
    rcases hpL_two hk with ⟨rfl, rfl⟩ | ⟨rfl, rfl⟩
    ·exact (q3 k m _ hK (by rw [← hsK]; exact hσ)).elim
    ·rw [hsK'] at hσ; cases hσ
  ·rintro (q | ⟨q1, q2, q3⟩)
   ·exact .inl q
   ·refine .inr ⟨q1, q2, fun k m hb hk hσ => ?_⟩
    obtain ⟨rfl, rfl⟩ := hpL_one hk
    exact (q3 k m _ hHK (by rw [hsK]; exact hσ)).elim
 have hke : Keeps (fz c c.σ0 (hpL [(K, HB.box T (x0 :: nilSl :: l))]) c.w0) (fz c' σ' H c.w0) c.w0 c.w0 := ⟨fun b o q => (hfz _ b o).1 q, fun _ _ _ => rfl⟩
 have hev : Evo c.σ0 σ' (fz c c.σ0 (hpL [(K, HB.box T (x0 :: nilSl :: l))]) c.w0) (fz c' σ' H c.w0) c.w0 c.w0 := ⟨hsg, hke, Shape.refl _⟩
 have hbox : HbOk σ' (fz c' σ' H c.w0) c.w0 c'.own K (.box T (x0 :: .arr K' e sz 0 0 :: l)) := by
  refine ⟨g, n, cs, by rw [hsK]; exact e1, e2, e3, ?_⟩
  rw [show cs.toList = cs.toList from rfl] at e4 ⊢
  obtain ⟨u0, us0, ec0, e40, e41⟩ := dsRep_inv e4
  obtain ⟨u, us, ec1, e42, e5⟩ := dsRep_inv e41
  rw [ec0, ec1]
  refine dsRep_cons (DRep.evo hev _ _ e40) (dsRep_cons ?_ (DsRep.evo hev l us e5))
  unfold DRep CRep at e42
  unfold DRep
  exact ⟨hz, .inl ⟨0, hsK', rfl, none, e42.1⟩⟩
 have hsw : SW c' c'.σ0 H c'.w0 := by
  refine ⟨hs.os, hs.tape, hs.output, hs.size, hs.block, fun k hb hk => ?_, fun k k' g n n' q1 q2 q3 q4 => ?_, ⟨fun b o q => (hfz _ b o).1 (hs.kept.le b o q), hs.kept.cell⟩, hs.shape, fun k x q => q⟩
  ·rw [hH] at hk
   rcases hpL_two hk with ⟨rfl, rfl⟩ | ⟨rfl, rfl⟩
   ·exact hbox
   ·refine ⟨hz, (fun r hr => absurd hr (List.not_mem_nil)), none, 0, hsK', rfl⟩
  ·have one : ∀ k g n, H k ≠ none → σ' k = some (some g, n) → k = K := by
    intro k g n q r
    cases hx : H k with
    | none => exact absurd hx q
    | some x =>
     rw [hH] at hx
     rcases hpL_two hx with ⟨rfl, _⟩ | ⟨rfl, _⟩
     ·rfl
     ·rw [hsK'] at r; cases r
   rw [one k g n q1 q3, one k' g n' q2 q4]
 have hk' : ∀ k, k ∉ (([] : Rf) ++ [(K, HB.box T (x0 :: .arr K' e sz 0 0 :: l)), (K', HB.arr e sz [])]).map Prod.fst → c'.σ0 k = none := by
  intro k hk
  simp only [List.nil_append, List.map_cons, List.map_nil, List.mem_cons, List.not_mem_nil, or_false, not_or] at hk
  show σ' k = none
  rw [hσ', upd_ne _ _ hk.2]
  exact hf k (by simp only [List.map_cons, List.map_nil, List.mem_singleton]; exact hk.1)
 have := h1.2 c' vs hc' hdf hk' (by rw [List.nil_append, ← hH]; exact hsw) (by rw [List.nil_append, ← hH]; exact PsRep.evo hev _ _ ha)
 refine this.mono ?_
 rintro en w' ⟨v, τ, rfl, q1, q2⟩
 exact ⟨v, τ, rfl, ⟨q1.os, q1.tape, q1.output, q1.size, q1.block, q1.hp, q1.inj, q1.kept, q1.shape, fun k x q => q1.sg0 k x (hsg k x q)⟩, q2⟩
theorem CallX.nil_arr2 {P : Program} {f : FuncId} {args : List PV} {K K' T e sz : Nat} {x0 : D} {l : List D} {x : Value} (hz : 0 < sz) (hne : K ≠ K')
  (h1 : CallX P f args [(K, .box T (x0 :: .arr K' e sz 0 0 :: l)), (K', .arr e sz [])] x) :
  CallX P f args [(K, .box T (x0 :: nilSl :: l))] x := by
 refine ⟨h1.1, fun c vs hc hdf hf hs ha => ?_⟩
 have hn : c.σ0 K' = none := hf K' (by simp only [List.map_cons, List.map_nil, List.mem_singleton]; exact fun x => hne x.symm)
 have hK : hpL [(K, HB.box T (x0 :: nilSl :: l))] K = some (.box T (x0 :: nilSl :: l)) := by unfold hpL; simp
 obtain ⟨g, n, cs, e1, e2, e3, e4⟩ := hs.hp K _ hK
 obtain ⟨σ', hσ'⟩ : ∃ σ', σ' = upd c.σ0 K' (some ((none : Option Nat), 0)) := ⟨_, rfl⟩
 have hsg : ∀ k x, c.σ0 k = some x → σ' k = some x := by
  intro k x hx
  rw [hσ', upd_ne]
  ·exact hx
  ·rintro rfl; rw [hn] at hx; cases hx
 have hsK : σ' K = c.σ0 K := by rw [hσ', upd_ne _ _ hne]
 have hsK' : σ' K' = some (none, 0) := by rw [hσ', upd_same]
 let c' : Ctx := { c with σ0 := σ' }
 have hc' : c'.Ok := ⟨hc.fz, hc.gl, hc.gb⟩
 obtain ⟨H, hH⟩ : ∃ H, H = hpL [(K, HB.box T (x0 :: .arr K' e sz 0 0 :: l)), (K', HB.arr e sz [])] := ⟨_, rfl⟩
 have hHK : H K = some (.box T (x0 :: .arr K' e sz 0 0 :: l)) := by rw [hH]; unfold hpL; simp
 have hHK' : H K' = some (.arr e sz []) := by
  rw [hH]
  have : Nat.beq K' K = false := by rw [Bool.eq_false_iff]; intro x; exact hne (Nat.eq_of_beq_eq_true x).symm
  unfold hpL
  rw [this, cond_false]
  unfold hpL; simp
 have hfz : ∀ S b o, Fz c c.σ0 (hpL [(K, HB.box T (x0 :: nilSl :: l))]) S b o ↔ Fz c' σ' H S b o := by
  intro S b o
  constructor
  ·rintro (q | ⟨q1, q2, q3⟩)
   ·exact .inl q
   ·refine .inr ⟨q1, q2, fun k m hb hk hσ => ?_⟩
    rw [hH] at hk
    rcases hpL_two hk with ⟨rfl, rfl⟩ | ⟨rfl, rfl⟩
    ·exact (q3 k m _ hK (by rw [← hsK]; exact hσ)).elim
    ·rw [hsK'] at hσ; cases hσ
  ·rintro (q | ⟨q1, q2, q3⟩)
   ·exact .inl q
   ·refine .inr ⟨q1, q2, fun k m hb hk hσ => ?_⟩
    obtain ⟨rfl, rfl⟩ := hpL_one hk
    exact (q3 k m _ hHK (by rw [hsK]; exact hσ)).elim
 have hke : Keeps (fz c c.σ0 (hpL [(K, HB.box T (x0 :: nilSl :: l))]) c.w0) (fz c' σ' H c.w0) c.w0 c.w0 := ⟨fun b o q => (hfz _ b o).1 q, fun _ _ _ => rfl⟩
 have hev : Evo c.σ0 σ' (fz c c.σ0 (hpL [(K, HB.box T (x0 :: nilSl :: l))]) c.w0) (fz c' σ' H c.w0) c.w0 c.w0 := ⟨hsg, hke, Shape.refl _⟩
 have hbox : HbOk σ' (fz c' σ' H c.w0) c.w0 c'.own K (.box T (x0 :: .arr K' e sz 0 0 :: l)) := by
  refine ⟨g, n, cs, by rw [hsK]; exact e1, e2, e3, ?_⟩
  rw [show cs.toList = cs.toList from rfl] at e4 ⊢
  obtain ⟨u0, us0, ec0, e40, e41⟩ := dsRep_inv e4
  obtain ⟨u, us, ec1, e42, e5⟩ := dsRep_inv e41
  rw [ec0, ec1]
  refine dsRep_cons (DRep.evo hev _ _ e40) (dsRep_cons ?_ (DsRep.evo hev l us e5))
  unfold DRep CRep at e42
  unfold DRep
  exact ⟨hz, .inl ⟨0, hsK', rfl, none, e42.1⟩⟩
 have hsw : SW c' c'.σ0 H c'.w0 := by
  refine ⟨hs.os, hs.tape, hs.output, hs.size, hs.block, fun k hb hk => ?_, fun k k' g n n' q1 q2 q3 q4 => ?_, ⟨fun b o q => (hfz _ b o).1 (hs.kept.le b o q), hs.kept.cell⟩, hs.shape, fun k x q => q⟩
  ·rw [hH] at hk
   rcases hpL_two hk with ⟨rfl, rfl⟩ | ⟨rfl, rfl⟩
   ·exact hbox
   ·refine ⟨hz, (fun r hr => absurd hr (List.not_mem_nil)), none, 0, hsK', rfl⟩
  ·have one : ∀ k g n, H k ≠ none → σ' k = some (some g, n) → k = K := by
    intro k g n q r
    cases hx : H k with
    | none => exact absurd hx q
    | some x =>
     rw [hH] at hx
     rcases hpL_two hx with ⟨rfl, _⟩ | ⟨rfl, _⟩
     ·rfl
     ·rw [hsK'] at r; cases r
   rw [one k g n q1 q3, one k' g n' q2 q4]
 have hk' : ∀ k, k ∉ [(K, HB.box T (x0 :: .arr K' e sz 0 0 :: l)), (K', HB.arr e sz [])].map Prod.fst → c'.σ0 k = none := by
  intro k hk
  simp only [List.map_cons, List.map_nil, List.mem_cons, List.not_mem_nil, or_false, not_or] at hk
  show σ' k = none
  rw [hσ', upd_ne _ _ hk.2]
  exact hf k (by simp only [List.map_cons, List.map_nil, List.mem_singleton]; exact hk.1)
 have := h1.2 c' vs hc' hdf hk' (by rw [← hH]; exact hsw) (by rw [← hH]; exact PsRep.evo hev _ _ ha)
 refine this.mono ?_
 rintro en w' ⟨q0, τ, q1⟩
 exact ⟨q0, τ, q1.os, q1.tape, q1.output, q1.size, q1.block, q1.hp, q1.inj, q1.kept, q1.shape, fun k x q => q1.sg0 k x (hsg k x q)⟩
theorem recovers_one {P : Program} {ops : Array Oper} {t1 : Nat} {o1 : Oper} (hops : ops = #[o1]) (h1 : o1.op = .call { callee := .builtin .recover, args := #[], argTypes := #[] }) (h1d : o1.dst = some t1) (h1g : o1.guard = none) : Recovers P ops t1 t1 := by
 subst hops
 have hr : List.range (#[o1] : Array Oper).size = [0] := rfl
 have pp : ∀ (a : Act) (v : Value), (a.put (some t1) v).put (some t1) v = a.put (some t1) v := fun a v => by simp [Act.put]
 constructor
 ·intro a c₀ cs w Q hm ht hq
  rw [hr]
  rw [pp] at hq
  have e1 : (execOp a.eval o1).run P w = .ok .recover w := by simp [execOp, h1, resolve, invoke]; rfl
  have ec : recoverD (c₀ :: cs) = none := by simp [recoverD, hm]
  have e3 : c₀ = { c₀ with mode := .returning } := by rw [← hm]
  simp only [wpOpsS, Region.wanted, h1g, e1, ec, h1d, List.getElem?_toArray, List.getElem?_cons_zero, List.getElem?_cons_succ, if_true, Oper.upon]
  rw [e3]; exact hq
 ·intro v a c₀ cs w Q hm ht hq
  rw [hr]
  rw [pp] at hq
  have e1 : (execOp a.eval o1).run P w = .ok .recover w := by simp [execOp, h1, resolve, invoke]; rfl
  have ec : recoverD (c₀ :: cs) = some (v, { c₀ with mode := .panicking [{ v := v, recovered := true }] } :: cs) := by simp [recoverD, hm]
  simp only [wpOpsS, Region.wanted, h1g, e1, ec, h1d, List.getElem?_toArray, List.getElem?_cons_zero, List.getElem?_cons_succ, if_true, Oper.upon]
  exact hq
end Go.Proofs.YtmcmagfondjopaaDoor.Pm
end
section
namespace Go.Proofs.YtmcmagfondjopaaDoor.Pm
open Go.RowKit
set_option linter.unusedVariables false
set_option linter.unusedSimpArgs false
def wkK (fk : List Nat) (K : Env → Hp → List Nat → Prop) (e : Env) (h : Hp) (n : List Nat) : Prop := ∃ le lh n', Wk fk e h le lh n' ∧ K (ofL le) (hpL lh) n'
section
variable {P : Program}
theorem wp_deferW {g : FuncId} {fn G : Func} {t t1 t2 id id1 : Nat} {ops ops1 : Array Oper} {o1 o2 : Oper} {caps : List Operand} {rest post : Code} {Fin : Hp → List PV → Prop} {c : Ctx} {fk : List Nat} {R : Ending → World → Prop}
  (hops : ops1.toList = [o1, o2]) (h1 : o1.op = .makeFunc (.func g) #[] caps.toArray) (h1d : o1.dst = some t) (h1g : o1.guard = none) (h2 : o2.op = .defer { callee := .value (.tmp t), args := #[], argTypes := #[] }) (h2d : o2.dst = none) (h2g : o2.guard = none) (ht : Nat.blt t fn.ntmps = true)
  (hg : P.funcs[g]? = some G) (hgn : (G.name == "runtime.NumGoroutine") = false) (hb : G.body = some (.seq (.region id ops false) rest)) (hres : G.results = #[]) (hm : P.follows .mixedOrders = true) (hn2 : Nat.blt t1 G.ntmps = true ∧ Nat.blt t2 G.ntmps = true) (hlen : Nat.ble caps.length G.ntmps = true)
  (hrec : Recovers P ops t1 t2) (hc : c.Ok) (hdf : c.df = []) (hfk : ∀ k, c.σ0 k ≠ none → k ∈ fk)
  (hfin : ∀ σ h w vs us, Fin h vs → SW c σ h w → PsRep σ (fz c σ h w) w vs us → R (.returned (if hx : us.toArray.size = 1 then us.toArray[0] else .tuple us.toArray)) w) :
  ∀ (pre : List Code) (e : Env) (h : Hp) (n : List Nat) (σ : Sg) (a : Act) (w : World), vcPre P fn.ntmps fk (fun _ _ _ _ => False) pre (wkK fk (deferK P fn G g t t1 t2 caps rest post Fin)) (fun x e h _ => match x with | .ret => resP P h e fn.results.toList fun vs => Fin h vs | _ => False) e h n →
   St c fn.ntmps σ e h a w → (∀ k, k ∉ n → σ k = none) → (seqs pre (.seq (.region id1 ops1 false) post)).wp P (bodyPostD P fn R) a w
 | [], e, h, n, σ, a, w, hv, hs, hf => by
  obtain ⟨le, lh, n', hw, hv⟩ := hv
  obtain ⟨σ', hs', hf'⟩ := st_wk hfk hs hw
  exact wp_defer hops h1 h1d h1g h2 h2d h2g ht hg hgn hb hres hm hn2 hlen hrec hc hdf hfk hfin [] _ _ _ σ' a w hv hs' hf'
 | cd :: pre, e, h, n, σ, a, w, hv, hs, hf => by
  refine wp_seq (wp_mono (vc_out hfk hc hm cd e h n _ σ a w hv hs hf) ?_)
  intro x a' w' hq
  cases x with
  | normal =>
   obtain ⟨e', h', n', σ', hq, hs', hf'⟩ := hq
   exact wp_deferW hops h1 h1d h1g h2 h2d h2g ht hg hgn hb hres hm hn2 hlen hrec hc hdf hfk hfin pre e' h' n' σ' a' w' hq hs' hf'
  | ret =>
   obtain ⟨e', h', n', σ', hq, hs', hf'⟩ := hq
   obtain ⟨vs, us, g1, g2, g3⟩ := results_run hs' hq
   show Leaves P fn a'.tmps R a'.defers .returning w'
   rw [hs'.defers, hdf]
   exact ⟨_, g2, hfin σ' h' w' vs us g1 hs'.toSW g3⟩
  | exit id => obtain ⟨e', h', n', σ', hq, hs', _⟩ := hq; exact hq.elim
  | goto l => obtain ⟨e', h', n', σ', hq, hs', _⟩ := hq; exact hq.elim
  | panic ch => obtain ⟨v, _, e', h', n', σ', hq, _⟩ := hq; exact hq.elim
  | outgrown => obtain ⟨e', h', n', σ', hq, hs', _⟩ := hq; exact hq.elim
theorem callS_deferW {f g : FuncId} {fn G : Func} {t t1 t2 id id1 : Nat} {ops ops1 : Array Oper} {o1 o2 : Oper} {caps : List Operand} {pre : List Code} {rest post : Code} {args : List PV} {res : PV} {rd rf out : Rf}
  (hf : P.funcs[f]? = some fn) (hn : (fn.name == "runtime.NumGoroutine") = false) (hbody : fn.body = some (seqs pre (.seq (.region id1 ops1 false) post)))
  (hops : ops1.toList = [o1, o2]) (h1 : o1.op = .makeFunc (.func g) #[] caps.toArray) (h1d : o1.dst = some t) (h1g : o1.guard = none) (h2 : o2.op = .defer { callee := .value (.tmp t), args := #[], argTypes := #[] }) (h2d : o2.dst = none) (h2g : o2.guard = none) (ht : Nat.blt t fn.ntmps = true)
  (hg : P.funcs[g]? = some G) (hgn : (G.name == "runtime.NumGoroutine") = false) (hb : G.body = some (.seq (.region id ops false) rest)) (hres : G.results = #[]) (hm : P.follows .mixedOrders = true) (hn2 : Nat.blt t1 G.ntmps = true ∧ Nat.blt t2 G.ntmps = true) (hlen : Nat.ble caps.length G.ntmps = true)
  (hrec : Recovers P ops t1 t2) (ha : Nat.ble args.length fn.ntmps = true) (fk : List Nat) (hfk : fk = (rd ++ rf).map Prod.fst)
  (hv : vcPre P fn.ntmps fk (fun _ _ _ _ => False) pre (wkK fk (deferK P fn G g t t1 t2 caps rest post fun h vs => tupOf vs fun v => RetS fk h res (rd ++ out) v)) (fun x e h _ => match x with | .ret => resP P h e fn.results.toList fun vs => tupOf vs fun v => RetS fk h res (rd ++ out) v | _ => False) (argsE args) (hpL (rd ++ rf)) fk) :
  CallS P f args rd rf res out := by
 refine ⟨⟨fn, hf, hn, by rw [hbody]; rfl⟩, fun c vs hc hdf hfr hs hargs => ?_⟩
 have hst := st_begin hs hargs (Nat.le_of_ble_eq_true ha) hdf
 have hfr' : ∀ k, k ∉ fk → c.σ0 k = none := fun k hk => hfr k (by rw [← hfk]; exact hk)
 have hfk' : ∀ k, c.σ0 k ≠ none → k ∈ fk := fun k hk => Classical.byContradiction fun h => hk (hfr' k h)
 refine calls_of_wp_defers hf hbody (wp_deferW hops h1 h1d h1g h2 h2d h2g ht hg hgn hb hres hm hn2 hlen hrec hc hdf hfk' ?_ pre _ _ _ _ _ _ hv hst hfr')
 intro σ' h' w' ps us h1 hs' h3
 obtain ⟨v, h5, h6⟩ := tup_out h1 h3
 obtain ⟨g, n, q1, q2, q3, q4⟩ := h5
 obtain ⟨hk, hsw⟩ := sw_wk hfk' hs' q1 q2 q4
 exact ⟨_, _, rfl, hsw, prep_wk hk _ _ _ q3 h6⟩
end
end Go.Proofs.YtmcmagfondjopaaDoor.Pm
end
section
namespace Go.Proofs.YtmcmagfondjopaaDoor.Pm
open Go.RowKit K
set_option linter.unusedVariables false
set_option linter.unusedSimpArgs false
set_option maxRecDepth 100000
def formF (l : List TokenD) : Option (List NodeD) :=
 match pOr (l.length + 1) l with
 | some ([], ns) => some ns
 | _ => none
abbrev pBn (l : List TokenD) : HB := .box tParser [.c (.sl 4 (l.map TokenD.c)), nilSl]
theorem s_or0 {l r : List TokenD} {ns : List NodeD} (hl : l.length ≤ 1000) (ht : okT l) (h : pOr (l.length + 1) l = some (r, ns)) : CallS Tryd.prog 60 [.d (.ptr FK 0)] [] [(FK, pBn l)] (.tup []) (pb FK NK r ns) :=
 CallS.nil_arr2 (K' := FK1) (by decide) (by decide) ((w_pOr (l.length + 1) (by omega) l.length (by omega) l (Nat.le_refl _) ht [] (by rw [List.length_nil]; omega)).1 r ns h)
theorem x_or0 {l : List TokenD} (hl : l.length ≤ 1000) (ht : okT l) (h : pOr (l.length + 1) l = none) : CallX Tryd.prog 60 [.d (.ptr FK 0)] [(FK, pBn l)] wrongV :=
 CallX.nil_arr2 (K' := FK1) (by decide) (by decide) ((w_pOr (l.length + 1) (by omega) l.length (by omega) l (Nat.le_refl _) ht [] (by rw [List.length_nil]; omega)).2 h)
theorem s_form {l : List TokenD} {ns : List NodeD} (hl : l.length ≤ 1000) (ht : okT l) (h : formF l = some ns) : CallS Tryd.prog 42 [slV 4 TokenD.c l] [] [] (.tup [.d (.arr NK tNodeT 6 0 ns.length), pInt .i64 0]) [(NK, pAr ns)] := by
 have h : pOr (l.length + 1) l = some ([], ns) := by
  unfold formF at h
  split at h
  ·rename_i e; cases h; exact e
  ·cases h
 have c1 := s_or0 hl ht h
 refine callS_defer (caps := [.tmp 2, .tmp 3]) (pre := [_]) (t1 := 5) (t2 := 5) Tryd.func42 (by rfl) rfl rfl rfl rfl rfl rfl rfl rfl (by rfl) Tryd.func59 (by rfl) rfl rfl (by kernel_rfl) (by exact ⟨rfl, rfl⟩) (by rfl) ?hrec (by rfl) [] rfl ?_
 case hrec => exact recovers_one rfl rfl rfl rfl
 ((conv => whnf); repeat' ((first | (with_reducible first | apply a_ | apply b_ | apply c_) | ((with_reducible first | apply d_ | apply e_ | apply f_ | apply g_); focus first | omega | (simp only [q_] <;> omega)) | ((with_reducible first | apply i_ | apply h_); focus first | omega | (simp only [q_] <;> omega)) | ((with_reducible apply h_); focus first | decide | kernel_rfl) | refine BCase.t (by decide) ?_ | refine BCase.f (by decide) ?_ | (refine CallP.ret [(FK, 8), (NK, 10)] _ _ _ _ _ _ _ c1 rfl rfl rfl rfl ⟨rfl, trivial⟩ ?_) | with_reducible first | apply l_ | apply m_ | apply n_ | apply o_ | refine p_ (fun _ => ?_) (fun _ => ?_)) <;> (conv => whnf)))
 refine RetS.mk [(NK, 10)] [NK] rfl rfl ?_ ?_ <;> (repeat' (first | exact rfl | exact trivial | exact Or.inl rfl | refine And.intro ?_ ?_))
theorem s_form_no {l : List TokenD} (hl : l.length ≤ 1000) (ht : okT l) (h : formF l = none) : CallS Tryd.prog 42 [slV 4 TokenD.c l] [] [] (.tup [.d (.c (.v (.slice none 0 0))), pInt .i64 1]) [] := by
 refine callS_deferW (caps := [.tmp 2, .tmp 3]) (pre := [_]) (t1 := 5) (t2 := 5) Tryd.func42 (by rfl) rfl rfl rfl rfl rfl rfl rfl rfl (by rfl) Tryd.func59 (by rfl) rfl rfl (by kernel_rfl) (by exact ⟨rfl, rfl⟩) (by rfl) ?hrec (by rfl) [] rfl ?_
 case hrec => exact recovers_one rfl rfl rfl rfl
 ((conv => whnf); repeat' ((first | (with_reducible first | apply a_ | apply b_ | apply c_) | ((with_reducible first | apply d_ | apply e_ | apply f_ | apply g_); focus first | omega | (simp only [q_] <;> omega)) | ((with_reducible first | apply i_ | apply h_); focus first | omega | (simp only [q_] <;> omega)) | ((with_reducible apply h_); focus first | decide | kernel_rfl) | refine BCase.t (by decide) ?_ | refine BCase.f (by decide) ?_ | with_reducible first | apply l_ | apply m_ | apply n_ | apply o_ | refine p_ (fun _ => ?_) (fun _ => ?_)) <;> (conv => whnf)))
 refine ⟨[(0, slV 4 TokenD.c l), (2, .d (.ptr 102 0)), (3, .d (.ptr 103 0))], [(102, .box 22 [nilSl]), (103, .box 24 [.c (.v (.int .i64 0))])], [102, 103], ⟨[(102, 2), (103, 3)], rfl, rfl, ?_, ?_⟩, ?_⟩
 ·(repeat' (first | exact rfl | exact trivial | exact Or.inl rfl | refine And.intro ?_ ?_))
 ·(repeat' (first | exact rfl | exact trivial | exact Or.inl rfl | refine And.intro ?_ ?_))
 cases e1 : pOr (l.length + 1) l with
 | none =>
  ((conv => whnf); repeat' ((first | (with_reducible first | apply a_ | apply b_ | apply c_) | ((with_reducible first | apply d_ | apply e_ | apply f_ | apply g_); focus first | omega | (simp only [q_] <;> omega)) | ((with_reducible first | apply i_ | apply h_); focus first | omega | (simp only [q_] <;> omega)) | ((with_reducible apply h_); focus first | decide | kernel_rfl) | refine BCase.t (by decide) ?_ | refine BCase.f (by decide) ?_ | with_reducible first | apply l_ | apply m_ | apply n_ | apply o_ | refine p_ (fun _ => ?_) (fun _ => ?_)) <;> (conv => whnf)))
  refine CallP.pan [(FK, 8)] _ _ _ _ (x_or0 hl ht e1) rfl rfl rfl ⟨rfl, trivial⟩ ⟨rfl, ?_⟩
  ((conv => whnf); repeat' ((first | (with_reducible first | apply a_ | apply b_ | apply c_) | ((with_reducible first | apply d_ | apply e_ | apply f_ | apply g_); focus first | omega | (simp only [q_] <;> omega)) | ((with_reducible first | apply i_ | apply h_); focus first | omega | (simp only [q_] <;> omega)) | ((with_reducible apply h_); focus first | decide | kernel_rfl) | refine BCase.t (by decide) ?_ | refine BCase.f (by decide) ?_ | with_reducible first | apply l_ | apply m_ | apply n_ | apply o_ | refine p_ (fun _ => ?_) (fun _ => ?_)) <;> (conv => whnf)))
  refine RetS.mk [] [] rfl rfl ?_ ?_ <;> (repeat' (first | exact rfl | exact trivial | exact Or.inl rfl | refine And.intro ?_ ?_))
 | some x =>
  obtain ⟨r, ns⟩ := x
  have c1 := s_or0 hl ht e1
  obtain ⟨k1, a1, a2, a3, a4⟩ := fit_pOr _ l r ns e1
  have hrl : r.length ≤ l.length := by rw [a3, List.length_drop]; omega
  have hr : 0 < r.length := by
   cases r with
   | nil => unfold formF at h; rw [e1] at h; cases h
   | cons _ _ => simp
  ((conv => whnf); repeat' ((first | (with_reducible first | apply a_ | apply b_ | apply c_) | ((with_reducible first | apply d_ | apply e_ | apply f_ | apply g_); focus first | omega | (simp only [q_] <;> omega)) | ((with_reducible first | apply i_ | apply h_); focus first | omega | (simp only [q_] <;> omega)) | ((with_reducible apply h_); focus first | decide | kernel_rfl) | refine BCase.t (by decide) ?_ | refine BCase.f (by decide) ?_ | (refine CallP.ret [(FK, 8), (NK, 10)] _ _ _ _ _ _ _ c1 rfl rfl rfl rfl ⟨rfl, trivial⟩ ?_) | with_reducible first | apply l_ | apply m_ | apply n_ | apply o_ | refine p_ (fun _ => ?_) (fun _ => ?_)) <;> (conv => whnf)))
  refine ⟨rfl, ?_⟩
  ((conv => whnf); repeat' ((first | (with_reducible first | apply a_ | apply b_ | apply c_) | ((with_reducible first | apply d_ | apply e_ | apply f_ | apply g_); focus first | omega | (simp only [q_] <;> omega)) | ((with_reducible first | apply i_ | apply h_); focus first | omega | (simp only [q_] <;> omega)) | ((with_reducible apply h_); focus first | decide | kernel_rfl) | refine BCase.t (by decide) ?_ | refine BCase.f (by decide) ?_ | with_reducible first | apply l_ | apply m_ | apply n_ | apply o_ | refine p_ (fun _ => ?_) (fun _ => ?_)) <;> (conv => whnf)))
  refine RetS.mk [] [] rfl rfl ?_ ?_ <;> (repeat' (first | exact rfl | exact trivial | exact Or.inl rfl | refine And.intro ?_ ?_))
end Go.Proofs.YtmcmagfondjopaaDoor.Pm
end
section
namespace Go.Proofs.YtmcmagfondjopaaDoor.Pm
open Go.RowKit K
set_option linter.unusedVariables false
set_option linter.unusedSimpArgs false
set_option maxRecDepth 100000
theorem form_iff (l : List TokenD) (ns : List NodeD) : formF l = some ns ↔ ∃ t, RD 1 l t ∧ ns = t.flat := by
 constructor
 ·intro h
  unfold formF at h
  split at h
  ·rename_i ns' e
   cases h
   obtain ⟨pre, t, e1, e2, e3⟩ := snd_pOr _ _ _ _ e
   rw [List.append_nil] at e1
   subst e1
   exact ⟨t, e2, e3⟩
  ·cases h
 ·rintro ⟨t, h, rfl⟩
  unfold formF
  rw [rd_pOr h]
theorem flats_all {P : NodeD → Prop} : ∀ {ts : List Ex}, (∀ t ∈ ts, ∀ n ∈ t.flat, P n) → ∀ n ∈ Ex.flats ts, P n
 | [], _, n, h => by rw [Ex.flats] at h; cases h
 | t :: ts, ht, n, h => by
  rw [Ex.flats, List.mem_append] at h
  rcases h with h | h
  ·exact ht t List.mem_cons_self n h
  ·exact flats_all (fun x hx => ht x (List.mem_cons_of_mem _ hx)) n h
theorem rd_names {k : Nat} {l : List TokenD} {t : Ex} (h : RD k l t) (hl : okT l) : ∀ n ∈ t.flat, okText n.Name := by
 have e0 : okText ([] : List UInt8) := by unfold okText; decide
 have sub : ∀ {a b : List TokenD}, okT b → (∀ x ∈ a, x ∈ b) → okT a := fun h hs t ht => h t (hs t ht)
 have node : ∀ {op kids : Int} {ts : List Ex}, (∀ t ∈ ts, ∀ n ∈ t.flat, okText n.Name) → ∀ n ∈ (Ex.mk (nOp op kids) ts).flat, okText n.Name := by
  intro op kids ts hts n hn
  rw [flat_mk, List.mem_append] at hn
  rcases hn with hn | hn
  ·exact flats_all hts n hn
  ·rw [List.mem_singleton] at hn; subst hn; exact e0
 induction h with
 | @lit t n h1 h2 =>
  intro m hm
  rw [Ex.flat, Ex.flats, List.nil_append, List.mem_singleton] at hm
  subst hm
  unfold litF at h2
  split at h2
  ·cases h2; exact e0
  split at h2
  ·cases h2; exact e0
  split at h2
  ·cases h2; exact e0
  split at h2
  ·cases h2; exact e0
  split at h2
  ·cases h2; exact hl _ List.mem_cons_self
  ·cases h2
 | par h1 h2 h ih => exact ih (sub hl fun x hx => by simp [hx])
 | up h1 h8 h ih => exact ih hl
 | neg h1 h ih => exact node fun t ht => by rw [List.mem_singleton] at ht; subst ht; exact ih (sub hl fun x hx => by simp [hx])
 | not h1 h ih => exact node fun t ht => by rw [List.mem_singleton] at ht; subst ht; exact ih (sub hl fun x hx => by simp [hx])
 | bin hk ho h1 ha hb iha ihb =>
  exact node fun t ht => by
   simp only [List.mem_cons, List.not_mem_nil, or_false] at ht
   rcases ht with rfl | rfl
   ·exact iha (sub hl fun x hx => by simp [hx])
   ·exact ihb (sub hl fun x hx => by simp [hx])
 | cmp ho h1 ha hb iha ihb =>
  exact node fun t ht => by
   simp only [List.mem_cons, List.not_mem_nil, or_false] at ht
   rcases ht with rfl | rfl
   ·exact iha (sub hl fun x hx => by simp [hx])
   ·exact ihb (sub hl fun x hx => by simp [hx])
 | isn h1 h2 ha iha => exact node fun t ht => by rw [List.mem_singleton] at ht; subst ht; exact iha (sub hl fun x hx => by simp [hx])
 | isnn h1 h2 h3 ha iha => exact node fun t ht => by rw [List.mem_singleton] at ht; subst ht; exact iha (sub hl fun x hx => by simp [hx])
 | like hq h1 ha hb iha ihb =>
  exact node fun t ht => by
   simp only [List.mem_cons, List.not_mem_nil, or_false] at ht
   rcases ht with rfl | rfl
   ·exact iha (sub hl fun x hx => by simp [hx])
   ·exact ihb (sub hl fun x hx => by simp [hx])
 | betw hq h1 h2 ha hb hc iha ihb ihc =>
  exact node fun t ht => by
   simp only [List.mem_cons, List.not_mem_nil, or_false] at ht
   rcases ht with rfl | rfl | rfl
   ·exact iha (sub hl fun x hx => by simp [hx])
   ·exact ihb (sub hl fun x hx => by simp [hx])
   ·exact ihc (sub hl fun x hx => by simp [hx])
 | @isin k q o c l a p0 ps hq h1 h2 h3 h4 ha hp iha ihp =>
  exact node fun t ht => by
   rw [List.mem_cons] at ht
   rcases ht with rfl | ht
   ·exact iha (sub hl fun x hx => by simp [hx])
   ·rw [List.mem_map] at ht
    obtain ⟨p, hp1, rfl⟩ := ht
    refine ihp p hp1 (sub hl fun x hx => ?_)
    have : x ∈ pcsT (p0 :: ps) := by
     unfold pcsT
     rw [List.mem_flatMap]
     exact ⟨p, hp1, List.mem_cons_of_mem _ hx⟩
    simp [this]
def parseF (l : List TokenD) : List NodeD × Int :=
 if tAllE l ≠ 0 then ([], tAllE l) else
 match formF l with
 | none => ([], 1)
 | some e => if checkF e ≠ 0 then ([], checkF e) else (e, 0)
theorem p_Parse (l : List TokenD) (hl : l.length ≤ 140737488355328) (ht : okT l) : Pure Tryd.prog 28 [slV 4 TokenD.c l] (.tup [slV 6 NodeD.c (parseF l).1, pInt .i64 (parseF l).2]) := by
 have pa := p_tcheckall l hl ht
 refine pure_of Tryd.func28 (by rfl) rfl (by kernel_rfl) (by rfl) ?_
 unfold parseF
 by_cases ha : tAllE l = 0
 ·rw [if_neg (not_not_intro ha)]
  rw [ha] at pa
  have h120 : l.length ≤ 120 := by
   unfold tAllE at ha
   split at ha
   ·exact absurd ha (by decide)
   ·omega
  cases hf : formF l with
  | none =>
   have cf := s_form_no (by omega) ht hf
   ((conv => whnf); repeat' ((first | (with_reducible first | apply a_ | apply b_ | apply c_) | ((with_reducible first | apply d_ | apply e_ | apply f_ | apply g_); focus first | omega | (simp only [q_] <;> omega)) | ((with_reducible first | apply i_ | apply h_); focus first | omega | (simp only [q_] <;> omega)) | ((with_reducible apply h_); focus first | decide | kernel_rfl) | refine BCase.t (by decide) ?_ | refine BCase.f (by decide) ?_ | refine CallP.pure _ rfl _ (pa) ?_ | (refine CallP.ret [] _ _ _ _ _ _ _ cf rfl rfl rfl rfl trivial ?_) | with_reducible first | apply l_ | apply m_ | apply n_ | apply o_ | refine p_ (fun _ => ?_) (fun _ => ?_)) <;> (conv => whnf)))
   exact Ret.le ⟨.inr ⟨⟨6, rfl⟩, .inl rfl⟩, .inl rfl, rfl⟩
  | some e =>
   obtain ⟨t, t1, t2⟩ := (form_iff l e).1 hf
   have cf := s_form (by omega) ht hf
   have hn : ∀ n ∈ e, okText n.Name := by rw [t2]; exact rd_names t1 ht
   have pk := p_echeck e hn
   have pk' := pk.lend (rd := [(FK, .arr 37 6 (e.map NodeD.c))]) (args := [.d (.arr FK 37 6 0 e.length)]) rfl (by
    refine ⟨by simp, ?_⟩
    show [PV.d (D.c (C.sl 6 (List.take _ (List.drop 0 _))))] = _
    rw [List.drop_zero, List.take_of_length_le (by simp)])
   dsimp only
   by_cases hc : checkF e = 0
   ·rw [if_neg (not_not_intro hc)]
    rw [hc] at pk'
    ((conv => whnf); repeat' ((first | (with_reducible first | apply a_ | apply b_ | apply c_) | ((with_reducible first | apply d_ | apply e_ | apply f_ | apply g_); focus first | omega | (simp only [q_] <;> omega)) | ((with_reducible first | apply i_ | apply h_); focus first | omega | (simp only [q_] <;> omega)) | ((with_reducible apply h_); focus first | decide | kernel_rfl) | refine BCase.t (by decide) ?_ | refine BCase.f (by decide) ?_ | refine CallP.pure _ rfl _ (pa) ?_ | (refine CallP.ret [(NK, 6)] _ _ _ _ _ _ _ cf rfl rfl rfl rfl trivial ?_) | (refine CallP.ret [(FK, 6)] _ _ _ _ _ _ _ pk' rfl rfl rfl rfl ⟨rfl, trivial⟩ ?_) | with_reducible first | apply l_ | apply m_ | apply n_ | apply o_ | refine p_ (fun _ => ?_) (fun _ => ?_)) <;> (conv => whnf)))
    refine Ret.eq ?_
    show PV.tup [PV.d (D.c (C.sl 6 (List.take _ (List.drop 0 _)))), _] = _
    rw [List.drop_zero, List.take_of_length_le (by simp)]
   ·rw [if_pos hc]
    ((conv => whnf); repeat' ((first | (with_reducible first | apply a_ | apply b_ | apply c_) | ((with_reducible first | apply d_ | apply e_ | apply f_ | apply g_); focus first | omega | (simp only [q_] <;> omega)) | ((with_reducible first | apply i_ | apply h_); focus first | omega | (simp only [q_] <;> omega)) | ((with_reducible apply h_); focus first | decide | kernel_rfl) | refine BCase.t (by decide) ?_ | refine BCase.f (by decide) ?_ | refine CallP.pure _ rfl _ (pa) ?_ | (refine CallP.ret [(NK, 6)] _ _ _ _ _ _ _ cf rfl rfl rfl rfl trivial ?_) | (refine CallP.ret [(FK, 6)] _ _ _ _ _ _ _ pk' rfl rfl rfl rfl ⟨rfl, trivial⟩ ?_) | with_reducible first | apply l_ | apply m_ | apply n_ | apply o_ | refine p_ (fun _ => ?_) (fun _ => ?_)) <;> (conv => whnf)))
    all_goals first | exact Ret.le ⟨.inr ⟨⟨6, rfl⟩, .inl rfl⟩, .inl rfl, rfl⟩ | (exfalso; omega)
 ·rw [if_pos ha]
  ((conv => whnf); repeat' ((first | (with_reducible first | apply a_ | apply b_ | apply c_) | ((with_reducible first | apply d_ | apply e_ | apply f_ | apply g_); focus first | omega | (simp only [q_] <;> omega)) | ((with_reducible first | apply i_ | apply h_); focus first | omega | (simp only [q_] <;> omega)) | ((with_reducible apply h_); focus first | decide | kernel_rfl) | refine BCase.t (by decide) ?_ | refine BCase.f (by decide) ?_ | refine CallP.pure _ rfl _ (pa) ?_ | with_reducible first | apply l_ | apply m_ | apply n_ | apply o_ | refine p_ (fun _ => ?_) (fun _ => ?_)) <;> (conv => whnf)))
  all_goals first | exact Ret.le ⟨.inr ⟨⟨6, rfl⟩, .inl rfl⟩, .inl rfl, rfl⟩ | (exfalso; omega)
end Go.Proofs.YtmcmagfondjopaaDoor.Pm
end
section
namespace Go.Proofs.YtmcmagfondjopaaDoor.Pm
open Go.RowKit K
set_option linter.unusedVariables false
set_option linter.unusedSimpArgs false
set_option maxRecDepth 100000
theorem goods_of : ∀ {l : List Ex}, (∀ t ∈ l, t.good) → Ex.goods l
 | [], _ => by rw [Ex.goods]; trivial
 | t :: l, h => by rw [Ex.goods]; exact ⟨h t List.mem_cons_self, goods_of fun x hx => h x (List.mem_cons_of_mem _ hx)⟩
theorem litF_kids {t : TokenD} {n : NodeD} (h : litF t = some n) : n.Kids = 0 := by
 unfold litF at h
 split at h
 ·cases h; rfl
 split at h
 ·cases h; rfl
 split at h
 ·cases h; rfl
 split at h
 ·cases h; rfl
 split at h
 ·cases h; rfl
 ·cases h
theorem rd_good {k : Nat} {l : List TokenD} {t : Ex} (h : RD k l t) : t.good := by
 have node : ∀ {n : NodeD} {ts : List Ex}, n.Kids = (ts.length : Int) → (∀ t ∈ ts, t.good) → (Ex.mk n ts).good := fun e h => by rw [Ex.good]; exact ⟨e, goods_of h⟩
 induction h with
 | lit h1 h2 => exact node (litF_kids h2) fun t ht => absurd ht List.not_mem_nil
 | par h1 h2 h ih => exact ih
 | up h1 h8 h ih => exact ih
 | neg h1 h ih => exact node rfl fun t ht => by rw [List.mem_singleton] at ht; subst ht; exact ih
 | not h1 h ih => exact node rfl fun t ht => by rw [List.mem_singleton] at ht; subst ht; exact ih
 | bin hk ho h1 ha hb iha ihb =>
  exact node rfl fun t ht => by
   simp only [List.mem_cons, List.not_mem_nil, or_false] at ht
   rcases ht with rfl | rfl <;> assumption
 | cmp ho h1 ha hb iha ihb =>
  exact node rfl fun t ht => by
   simp only [List.mem_cons, List.not_mem_nil, or_false] at ht
   rcases ht with rfl | rfl <;> assumption
 | isn h1 h2 ha iha => exact node rfl fun t ht => by rw [List.mem_singleton] at ht; subst ht; exact iha
 | isnn h1 h2 h3 ha iha => exact node rfl fun t ht => by rw [List.mem_singleton] at ht; subst ht; exact iha
 | like hq h1 ha hb iha ihb =>
  exact node rfl fun t ht => by
   simp only [List.mem_cons, List.not_mem_nil, or_false] at ht
   rcases ht with rfl | rfl <;> assumption
 | betw hq h1 h2 ha hb hc iha ihb ihc =>
  exact node rfl fun t ht => by
   simp only [List.mem_cons, List.not_mem_nil, or_false] at ht
   rcases ht with rfl | rfl | rfl <;> assumption
 | @isin k q o c l a p0 ps hq h1 h2 h3 h4 ha hp iha ihp =>
  refine node ?_ fun t ht => ?_
  ·rw [List.length_cons, List.length_map, List.length_cons]
   show (ps.length : Int) + 2 = _
   omega
  ·rw [List.mem_cons] at ht
   rcases ht with rfl | ht
   ·exact iha
   ·rw [List.mem_map] at ht
    obtain ⟨p, hp1, rfl⟩ := ht
    exact ihp p hp1
theorem tAllE_of {l : List TokenD} (hl : l.length ≤ 120) (h : okTs l) : tAllE l = 0 := by
 unfold tAllE
 rw [if_neg (by omega)]
 exact tChkAll_ok.2 h
theorem parse_of {l : List TokenD} {t : Ex} (h : RD 1 l t) (hl : l.length ≤ 120) (ho : okTs l) : parseF l = if checkF t.flat ≠ 0 then ([], checkF t.flat) else (t.flat, 0) := by
 unfold parseF
 rw [if_neg (not_not_intro (tAllE_of hl ho)), (form_iff l t.flat).2 ⟨t, h, rfl⟩]
theorem parse_right {l : List TokenD} {t : Ex} (h : RD 1 l t) (hl : l.length ≤ 120) (ho : okTs l) (hr : RightT t) : parseF l = (t.flat, 0) := by
 rw [parse_of h hl ho, check_right hr, if_neg (by decide)]
theorem parse_ok {l : List TokenD} (h : (parseF l).2 = 0) : ∃ t, RD 1 l t ∧ RightT t ∧ parseF l = (t.flat, 0) ∧ l.length ≤ 120 ∧ okTs l := by
 have h0 := h
 unfold parseF at h
 split at h
 ·rename_i q; exact absurd h q
 ·rename_i q
  have q := Decidable.of_not_not q
  have hs : l.length ≤ 120 ∧ okTs l := by
   unfold tAllE at q
   split at q
   ·cases q
   ·exact ⟨by omega, tChkAll_ok.1 q⟩
  split at h
  ·cases h
  ·rename_i e he
   split at h
   ·rename_i g; exact absurd h g
   ·rename_i g
    have g := Decidable.of_not_not g
    obtain ⟨t, h1, h2⟩ := (form_iff l e).1 he
    obtain ⟨u, h3, h4⟩ := right_of g
    have hu : u = t := flat_inj h3.good (rd_good h1) (by rw [h4, h2])
    subst hu
    exact ⟨u, h1, h3, parse_right h1 hs.1 hs.2 h3, hs.1, hs.2⟩
theorem parse_bad {l : List TokenD} (h : (parseF l).2 ≠ 0) : (parseF l).1 = [] := by
 unfold parseF at h ⊢
 split
 ·rfl
 ·rename_i q
  rw [if_neg q] at h
  split
  ·rfl
  ·rename_i e he
   rw [he] at h
   dsimp only at h
   split
   ·rfl
   ·rename_i g; rw [if_neg g] at h; exact absurd rfl h
theorem tokens_flat {t : Ex} (ht : RightT t) : tokensF t.flat = if 120 < (prtX t).1.length then ([], 2) else ((prtX t).1, 0) := by
 unfold tokensF
 rw [check_right ht, if_neg (by decide), prtL_flat ht.good]
theorem tokens_bad {e : List NodeD} (h : (tokensF e).2 ≠ 0) : (tokensF e).1 = [] := by
 unfold tokensF at h ⊢
 split
 ·rfl
 ·rename_i q
  rw [if_neg q] at h
  split
  ·rfl
  ·rename_i g; rw [if_neg g] at h; exact absurd rfl h
theorem tokens_ok {e : List NodeD} (h : (tokensF e).2 = 0) : ∃ t, RightT t ∧ e = t.flat ∧ tokensF e = ((prtX t).1, 0) ∧ (prtX t).1.length ≤ 120 := by
 have hc : checkF e = 0 := by
  unfold tokensF at h
  split at h
  ·rename_i q; exact absurd h q
  ·rename_i q; exact Decidable.of_not_not q
 obtain ⟨t, ht, rfl⟩ := right_of hc
 have e1 := tokens_flat ht
 by_cases g : 120 < (prtX t).1.length
 ·rw [e1, if_pos g] at h; cases h
 ·rw [if_neg g] at e1
  exact ⟨t, ht, rfl, e1, by omega⟩
theorem back {t : Ex} (ht : RightT t) (h : (prtX t).1.length ≤ 120) : parseF (prtX t).1 = (t.flat, 0) :=
 parse_right (prt_rd ht) h (prt_ok t ht.good ht.all) ht
theorem least {l : List TokenD} {t : Ex} (h : RD 1 l t) : (prtX t).1.length ≤ l.length := by
 have := rd_least h
 rwa [at_self (by rw [prt_lev]; exact (lvlF_in _).1)] at this
def tLp : TokenD := ⟨5, 0, 0, [40]⟩
def tRp : TokenD := ⟨5, 0, 0, [41]⟩
def tMi : TokenD := ⟨5, 0, 0, [45]⟩
def tNo : TokenD := ⟨1, 0, 0, [110, 111, 116]⟩
def inL (l : List TokenD) : List TokenD := tLp :: (l ++ [tRp])
theorem in_len (l : List TokenD) : (inL l).length = l.length + 2 := by unfold inL; rw [List.length_cons, List.length_append]; rfl
theorem in_rd {l : List TokenD} {t : Ex} (h : RD 1 l t) : RD 8 (inL l) t := .par (by decide) (by decide) h
theorem br_chk : ∀ x ∈ [tLp, tRp, tMi, tNo], tChk x = 0 := by decide +kernel
theorem in_ok {l : List TokenD} (h : okTs l) : okTs (inL l) := okTs_cons (br_chk _ (by simp)) (okTs_app h (okTs_cons (br_chk _ (by simp)) okTs_nil))
theorem up_flat (op : Int) (t : Ex) : (Ex.mk (nOp op 1) [t]).flat = t.flat ++ [nOp op 1] := by rw [flat_mk, Ex.flats_one]
theorem up_good {op : Int} {t : Ex} (h : t.good) : (Ex.mk (nOp op 1) [t]).good := by
 rw [Ex.good]; exact ⟨rfl, goods_of fun x hx => by rw [List.mem_singleton] at hx; subst hx; exact h⟩
theorem up_depth (op : Int) (t : Ex) : (Ex.mk (nOp op 1) [t]).depth = t.depth + 1 := by
 rw [Ex.depth, Ex.depths, Ex.depths]; omega
theorem up_check {op : Int} (ho : op = 3 ∨ op = 4) {t : Ex} (ht : RightT t) (hl : t.flat.length < 60) : checkF (t.flat ++ [nOp op 1]) = if t.depth = 12 then 10 else 0 := by
 have ha : ∀ n ∈ (Ex.mk (nOp op 1) [t]).flat, alF n = 0 := fun n hn => by
  rw [up_flat, List.mem_append] at hn
  rcases hn with hn | hn
  ·exact ht.all n hn
  ·rw [List.mem_singleton] at hn; subst hn
   rcases ho with rfl | rfl <;> decide
 rw [← up_flat]
 unfold checkF
 have hd := ht.deep
 rw [if_neg (by rw [up_flat, List.length_append, List.length_singleton]; omega), chkO_flat (up_good ht.good) ha, if_neg (by decide), depthE_flat (up_good ht.good), up_depth]
 split <;> split <;> first | rfl | omega
theorem brackets_in {l : List TokenD} {t : Ex} (h : RD 1 l t) (ho : okTs l) (hl : l.length ≤ 110) (ht : RightT t) : parseF (inL l) = (t.flat, 0) :=
 parse_right (rd_up (in_rd h) (Nat.le_refl _) (by omega) (Nat.le_refl _)) (by rw [in_len]; omega) (in_ok ho) ht
theorem brackets_up {l : List TokenD} {t : Ex} (h : RD 1 l t) (ho : okTs l) (hl : l.length ≤ 110) (ht : RightT t) (h60 : t.flat.length < 60) {x : TokenD} {op : Int} (hx : (x = tMi ∧ op = 3) ∨ (x = tNo ∧ op = 4)) : parseF (x :: inL l) = if t.depth = 12 then ([], 10) else (t.flat ++ [nOp op 1], 0) := by
 have hr : RD 1 (x :: inL l) (.mk (nOp op 1) [t]) := by
  rcases hx with ⟨rfl, rfl⟩ | ⟨rfl, rfl⟩
  ·exact rd_up (.neg (by decide) (rd_up (in_rd h) (by omega) (by omega) (by omega))) (by omega) (by omega) (by omega)
  ·exact rd_up (.not (by decide) (rd_up (in_rd h) (by omega) (by omega) (by omega))) (by omega) (by omega) (by omega)
 have hc : tChk x = 0 := by
  rcases hx with ⟨rfl, _⟩ | ⟨rfl, _⟩
  ·exact br_chk _ (by simp)
  ·exact br_chk _ (by simp)
 rw [parse_of hr (by rw [List.length_cons, in_len]; omega) (okTs_cons hc (in_ok ho)), up_flat, up_check (by rcases hx with ⟨_, rfl⟩ | ⟨_, rfl⟩ <;> simp) ht h60]
 split
 ·rw [if_pos (by decide)]
 ·rw [if_neg (by decide)]
end Go.Proofs.YtmcmagfondjopaaDoor.Pm
end
section
namespace Go.Proofs.YtmcmagfondjopaaDoor.Pm
open Go.RowKit K
set_option linter.unusedVariables false
set_option linter.unusedSimpArgs false
set_option maxRecDepth 100000
def bare (t : TokenD) : Tk := (t.Kind, t.N, t.S)
instance : DecidableEq TokenD := fun x y => decidable_of_iff (TokenD.eqB x y = true) (TokenD.eqB_iff x y)
def sameB (a b : List TokenD) : Bool := decide (a.map bare = b.map bare)
theorem p_sametokens (a b : List TokenD) (ha : a.length ≤ 140737488355328) : Pure Tryd.prog 8 [slV 4 TokenD.c a, slV 4 TokenD.c b] (pBool (sameB a b)) := by
 refine pure_of Tryd.func8 (by rfl) rfl (by kernel_rfl) (by rfl) ?_
 unfold sameB
 by_cases hl : a.length = b.length
 ·((conv => whnf); repeat' ((first | (with_reducible first | apply a_ | apply b_ | apply c_) | ((with_reducible first | apply d_ | apply e_ | apply f_ | apply g_); focus first | omega | (simp only [q_] <;> omega)) | ((with_reducible first | apply i_ | apply h_); focus first | omega | (simp only [q_] <;> omega)) | ((with_reducible apply h_); focus first | decide | kernel_rfl) | refine BCase.t (by decide) ?_ | refine BCase.f (by decide) ?_ | with_reducible first | apply l_ | apply m_ | apply n_ | apply o_ | refine p_ (fun _ => ?_) (fun _ => ?_)) <;> (conv => whnf)))
  refine LoopC.mk Nat (fun j => [(0, slV 4 TokenD.c a), (1, slV 4 TokenD.c b), (5, pInt .i64 (j : Int))]) (fun j => []) [] (fun j => j ≤ a.length ∧ (a.take j).map bare = (b.take j).map bare) (fun j => a.length - j) 0 ⟨Nat.zero_le _, by simp⟩ ?start ?round
  case start => exact ⟨[], rfl, rfl, ⟨.inl rfl, .inl rfl, .inl rfl, trivial⟩, trivial⟩
  case round =>
   rintro j ⟨hj, he⟩
   have hj : j ≤ a.length := hj
   have he : (a.take j).map bare = (b.take j).map bare := he
   by_cases q : j < a.length
   ·have q2 : j < b.length := by omega
    have ex : (tx a[j].S = tx b[j].S) ↔ a[j].S = b[j].S := tx_eq
    have iff : bare a[j] = bare b[j] ↔ a[j].Kind = b[j].Kind ∧ a[j].N = b[j].N ∧ a[j].S = b[j].S := by unfold bare; simp
    have bad : ¬ (a[j].Kind = b[j].Kind ∧ a[j].N = b[j].N ∧ a[j].S = b[j].S) → decide (a.map bare = b.map bare) = false := by
     intro hx
     refine decide_eq_false fun e => hx (iff.1 ?_)
     have h1 := congrArg (fun l => l[j]?) e
     simp only [List.getElem?_map, List.getElem?_eq_getElem q, List.getElem?_eq_getElem q2, Option.map_some] at h1
     exact Option.some.inj h1
    by_cases h1 : a[j].Kind = b[j].Kind
    ·by_cases h2 : a[j].N = b[j].N
     ·by_cases h3 : a[j].S = b[j].S
      ·have h3' : ¬ ¬ tx a[j].S = tx b[j].S := not_not_intro (ex.2 h3)
       ((conv => whnf); repeat' ((first | (with_reducible first | apply a_ | apply b_ | apply c_) | ((with_reducible first | apply d_ | apply e_ | apply f_ | apply g_); focus first | omega | (simp only [q_] <;> omega)) | ((with_reducible first | apply i_ | apply h_); focus first | omega | (simp only [q_] <;> omega)) | ((with_reducible apply h_); focus first | decide | kernel_rfl) | refine BCase.t (by decide) ?_ | refine BCase.f (by decide) ?_ | (first | refine Idx.mapI j rfl q ?_ | refine Idx.mapI j rfl q2 ?_) | (refine BCase.df h3' ?_) | with_reducible first | apply l_ | apply m_ | apply n_ | apply o_ | refine p_ (fun _ => ?_) (fun _ => ?_)) <;> (conv => whnf)))
       all_goals first
        | (exfalso; omega)
        | skip
       refine ⟨j + 1, ⟨by omega, ?_⟩, by omega, [], rfl, rfl, ⟨.inl rfl, .inl rfl, PLe.int (by omega), trivial⟩, trivial⟩
       show (a.take (j + 1)).map bare = (b.take (j + 1)).map bare
       rw [take_snoc q, take_snoc q2, List.map_append, List.map_append, he, List.map_singleton, List.map_singleton, iff.2 ⟨h1, h2, h3⟩]
      ·have h3' : ¬ tx a[j].S = tx b[j].S := fun x => h3 (ex.1 x)
       rw [bad (fun x => h3 x.2.2)]
       ((conv => whnf); repeat' ((first | (with_reducible first | apply a_ | apply b_ | apply c_) | ((with_reducible first | apply d_ | apply e_ | apply f_ | apply g_); focus first | omega | (simp only [q_] <;> omega)) | ((with_reducible first | apply i_ | apply h_); focus first | omega | (simp only [q_] <;> omega)) | ((with_reducible apply h_); focus first | decide | kernel_rfl) | refine BCase.t (by decide) ?_ | refine BCase.f (by decide) ?_ | (first | refine Idx.mapI j rfl q ?_ | refine Idx.mapI j rfl q2 ?_) | (refine BCase.dt h3' ?_) | with_reducible first | apply l_ | apply m_ | apply n_ | apply o_ | refine p_ (fun _ => ?_) (fun _ => ?_)) <;> (conv => whnf)))
       all_goals first | exact Ret.bool rfl | (exfalso; omega)
     ·rw [bad (fun x => h2 x.2.1)]
      ((conv => whnf); repeat' ((first | (with_reducible first | apply a_ | apply b_ | apply c_) | ((with_reducible first | apply d_ | apply e_ | apply f_ | apply g_); focus first | omega | (simp only [q_] <;> omega)) | ((with_reducible first | apply i_ | apply h_); focus first | omega | (simp only [q_] <;> omega)) | ((with_reducible apply h_); focus first | decide | kernel_rfl) | refine BCase.t (by decide) ?_ | refine BCase.f (by decide) ?_ | (first | refine Idx.mapI j rfl q ?_ | refine Idx.mapI j rfl q2 ?_) | with_reducible first | apply l_ | apply m_ | apply n_ | apply o_ | refine p_ (fun _ => ?_) (fun _ => ?_)) <;> (conv => whnf)))
      all_goals first | exact Ret.bool rfl | (exfalso; omega)
    ·rw [bad (fun x => h1 x.1)]
     ((conv => whnf); repeat' ((first | (with_reducible first | apply a_ | apply b_ | apply c_) | ((with_reducible first | apply d_ | apply e_ | apply f_ | apply g_); focus first | omega | (simp only [q_] <;> omega)) | ((with_reducible first | apply i_ | apply h_); focus first | omega | (simp only [q_] <;> omega)) | ((with_reducible apply h_); focus first | decide | kernel_rfl) | refine BCase.t (by decide) ?_ | refine BCase.f (by decide) ?_ | (first | refine Idx.mapI j rfl q ?_ | refine Idx.mapI j rfl q2 ?_) | with_reducible first | apply l_ | apply m_ | apply n_ | apply o_ | refine p_ (fun _ => ?_) (fun _ => ?_)) <;> (conv => whnf)))
     all_goals first | exact Ret.bool rfl | (exfalso; omega)
   ·rw [List.take_of_length_le (by omega), List.take_of_length_le (by omega)] at he
    rw [decide_eq_true he]
    ((conv => whnf); repeat' ((first | (with_reducible first | apply a_ | apply b_ | apply c_) | ((with_reducible first | apply d_ | apply e_ | apply f_ | apply g_); focus first | omega | (simp only [q_] <;> omega)) | ((with_reducible first | apply i_ | apply h_); focus first | omega | (simp only [q_] <;> omega)) | ((with_reducible apply h_); focus first | decide | kernel_rfl) | refine BCase.t (by decide) ?_ | refine BCase.f (by decide) ?_ | with_reducible first | apply l_ | apply m_ | apply n_ | apply o_ | refine p_ (fun _ => ?_) (fun _ => ?_)) <;> (conv => whnf)))
    exact Ret.bool rfl
 ·rw [decide_eq_false (fun e => hl (by have := congrArg List.length e; rwa [List.length_map, List.length_map] at this))]
  ((conv => whnf); repeat' ((first | (with_reducible first | apply a_ | apply b_ | apply c_) | ((with_reducible first | apply d_ | apply e_ | apply f_ | apply g_); focus first | omega | (simp only [q_] <;> omega)) | ((with_reducible first | apply i_ | apply h_); focus first | omega | (simp only [q_] <;> omega)) | ((with_reducible apply h_); focus first | decide | kernel_rfl) | refine BCase.t (by decide) ?_ | refine BCase.f (by decide) ?_ | with_reducible first | apply l_ | apply m_ | apply n_ | apply o_ | refine p_ (fun _ => ?_) (fun _ => ?_)) <;> (conv => whnf)))
  all_goals first | exact Ret.bool rfl | (exfalso; simp only [List.length_map] at *; omega)
end Go.Proofs.YtmcmagfondjopaaDoor.Pm
end
section
namespace Go.Proofs.YtmcmagfondjopaaDoor.Pm
open Go.RowKit K
set_option linter.unusedVariables false
set_option linter.unusedSimpArgs false
set_option maxRecDepth 100000
def litN (v : ValueD) : NodeD := ⟨1, 0, v, []⟩
theorem p_nodes (l : List NodeD) : Pure Tryd.prog 19 [slV 6 NodeD.c l] (slV 6 NodeD.c l) := by
 refine pure_of Tryd.func19 (by rfl) rfl (by kernel_rfl) (by rfl) ?_
 ((conv => whnf); repeat' ((first | (with_reducible first | apply a_ | apply b_ | apply c_) | ((with_reducible first | apply d_ | apply e_ | apply f_ | apply g_); focus first | omega | (simp only [q_] <;> omega)) | ((with_reducible first | apply i_ | apply h_); focus first | omega | (simp only [q_] <;> omega)) | ((with_reducible apply h_); focus first | decide | kernel_rfl) | refine BCase.t (by decide) ?_ | refine BCase.f (by decide) ?_ | with_reducible first | apply l_ | apply m_ | apply n_ | apply o_ | refine p_ (fun _ => ?_) (fun _ => ?_)) <;> (conv => whnf)))
 exact Ret.eq rfl
def colN (s : List UInt8) : NodeD := ⟨2, 0, noV, s⟩
def opsN (op k : Int) : NodeD := ⟨op, k, noV, []⟩
theorem p_ncol (s : List UInt8) : Pure Tryd.prog 20 [pStr (tx s)] (nV (colN s)) := by
 refine pure_of Tryd.func20 (by rfl) rfl (by kernel_rfl) (by rfl) ?_
 ((conv => whnf); repeat' ((first | (with_reducible first | apply a_ | apply b_ | apply c_) | ((with_reducible first | apply d_ | apply e_ | apply f_ | apply g_); focus first | omega | (simp only [q_] <;> omega)) | ((with_reducible first | apply i_ | apply h_); focus first | omega | (simp only [q_] <;> omega)) | ((with_reducible apply h_); focus first | decide | kernel_rfl) | refine BCase.t (by decide) ?_ | refine BCase.f (by decide) ?_ | with_reducible first | apply l_ | apply m_ | apply n_ | apply o_ | refine p_ (fun _ => ?_) (fun _ => ?_)) <;> (conv => whnf)))
 exact Ret.eq rfl
theorem p_nlit (v : ValueD) : Pure Tryd.prog 21 [vV v] (nV (litN v)) := by
 refine pure_of Tryd.func21 (by rfl) rfl (by kernel_rfl) (by rfl) ?_
 ((conv => whnf); repeat' ((first | (with_reducible first | apply a_ | apply b_ | apply c_) | ((with_reducible first | apply d_ | apply e_ | apply f_ | apply g_); focus first | omega | (simp only [q_] <;> omega)) | ((with_reducible first | apply i_ | apply h_); focus first | omega | (simp only [q_] <;> omega)) | ((with_reducible apply h_); focus first | decide | kernel_rfl) | refine BCase.t (by decide) ?_ | refine BCase.f (by decide) ?_ | with_reducible first | apply l_ | apply m_ | apply n_ | apply o_ | refine p_ (fun _ => ?_) (fun _ => ?_)) <;> (conv => whnf)))
 exact Ret.eq rfl
theorem p_nop (op k : Int) : Pure Tryd.prog 23 [pInt .i64 op, pInt .i64 k] (nV (opsN op k)) := by
 refine pure_of Tryd.func23 (by rfl) rfl (by kernel_rfl) (by rfl) ?_
 ((conv => whnf); repeat' ((first | (with_reducible first | apply a_ | apply b_ | apply c_) | ((with_reducible first | apply d_ | apply e_ | apply f_ | apply g_); focus first | omega | (simp only [q_] <;> omega)) | ((with_reducible first | apply i_ | apply h_); focus first | omega | (simp only [q_] <;> omega)) | ((with_reducible apply h_); focus first | decide | kernel_rfl) | refine BCase.t (by decide) ?_ | refine BCase.f (by decide) ?_ | with_reducible first | apply l_ | apply m_ | apply n_ | apply o_ | refine p_ (fun _ => ?_) (fun _ => ?_)) <;> (conv => whnf)))
 exact Ret.eq rfl
theorem p_vI (n : Int) : Pure Tryd.prog 22 [pInt .i64 n] (vV ⟨1, n, []⟩) := by
 refine pure_of Tryd.func22 (by rfl) rfl (by kernel_rfl) (by rfl) ?_
 ((conv => whnf); repeat' ((first | (with_reducible first | apply a_ | apply b_ | apply c_) | ((with_reducible first | apply d_ | apply e_ | apply f_ | apply g_); focus first | omega | (simp only [q_] <;> omega)) | ((with_reducible first | apply i_ | apply h_); focus first | omega | (simp only [q_] <;> omega)) | ((with_reducible apply h_); focus first | decide | kernel_rfl) | refine BCase.t (by decide) ?_ | refine BCase.f (by decide) ?_ | with_reducible first | apply l_ | apply m_ | apply n_ | apply o_ | refine p_ (fun _ => ?_) (fun _ => ?_)) <;> (conv => whnf)))
 exact Ret.eq rfl
theorem p_nodes0 : Pure Tryd.prog 19 [.d (.c (.v (.slice none 0 0)))] (.d (.c (.v (.slice none 0 0)))) := by
 refine pure_of Tryd.func19 (by rfl) rfl (by kernel_rfl) (by rfl) ?_
 ((conv => whnf); repeat' ((first | (with_reducible first | apply a_ | apply b_ | apply c_) | ((with_reducible first | apply d_ | apply e_ | apply f_ | apply g_); focus first | omega | (simp only [q_] <;> omega)) | ((with_reducible first | apply i_ | apply h_); focus first | omega | (simp only [q_] <;> omega)) | ((with_reducible apply h_); focus first | decide | kernel_rfl) | refine BCase.t (by decide) ?_ | refine BCase.f (by decide) ?_ | with_reducible first | apply l_ | apply m_ | apply n_ | apply o_ | refine p_ (fun _ => ?_) (fun _ => ?_)) <;> (conv => whnf)))
 exact Ret.eq rfl
end Go.Proofs.YtmcmagfondjopaaDoor.Pm
end
section
namespace Go.Proofs.YtmcmagfondjopaaDoor.Pm
open Go.RowKit K
set_option linter.unusedVariables false
set_option linter.unusedSimpArgs false
set_option maxRecDepth 100000
theorem listEq_refl (l : List NodeD) : listEqB NodeD.eqB l l = true := by
 induction l with
 | nil => rfl
 | cons x l ih =>
  have := (NodeD.eqB_iff x x).2 rfl
  first
   | (rw [listEqB, this, ih]; rfl)
   | (unfold listEqB at ih ⊢; simp [this] at ih ⊢; done)
theorem sameB_refl (l : List TokenD) : sameB l l = true := decide_eq_true rfl
def wT (s : List UInt8) : TokenD := ⟨1, 0, 0, s⟩
def sT (s : List UInt8) : TokenD := ⟨5, 0, 0, s⟩
def nT (n : Int) : TokenD := ⟨2, 0, n, []⟩
theorem p_tword (s : List UInt8) : Pure Tryd.prog 25 [pStr (tx s)] (tV (wT s)) := by
 refine pure_of Tryd.func25 (by rfl) rfl (by kernel_rfl) (by rfl) ?_
 ((conv => whnf); repeat' ((first | (with_reducible first | apply a_ | apply b_ | apply c_) | ((with_reducible first | apply d_ | apply e_ | apply f_ | apply g_); focus first | omega | (simp only [q_] <;> omega)) | ((with_reducible first | apply i_ | apply h_); focus first | omega | (simp only [q_] <;> omega)) | ((with_reducible apply h_); focus first | decide | kernel_rfl) | refine BCase.t (by decide) ?_ | refine BCase.f (by decide) ?_ | with_reducible first | apply l_ | apply m_ | apply n_ | apply o_ | refine p_ (fun _ => ?_) (fun _ => ?_)) <;> (conv => whnf)))
 exact Ret.eq rfl
theorem p_tsign (s : List UInt8) : Pure Tryd.prog 26 [pStr (tx s)] (tV (sT s)) := by
 refine pure_of Tryd.func26 (by rfl) rfl (by kernel_rfl) (by rfl) ?_
 ((conv => whnf); repeat' ((first | (with_reducible first | apply a_ | apply b_ | apply c_) | ((with_reducible first | apply d_ | apply e_ | apply f_ | apply g_); focus first | omega | (simp only [q_] <;> omega)) | ((with_reducible first | apply i_ | apply h_); focus first | omega | (simp only [q_] <;> omega)) | ((with_reducible apply h_); focus first | decide | kernel_rfl) | refine BCase.t (by decide) ?_ | refine BCase.f (by decide) ?_ | with_reducible first | apply l_ | apply m_ | apply n_ | apply o_ | refine p_ (fun _ => ?_) (fun _ => ?_)) <;> (conv => whnf)))
 exact Ret.eq rfl
theorem p_tnumber (n : Int) : Pure Tryd.prog 27 [pInt .i64 n] (tV (nT n)) := by
 refine pure_of Tryd.func27 (by rfl) rfl (by kernel_rfl) (by rfl) ?_
 ((conv => whnf); repeat' ((first | (with_reducible first | apply a_ | apply b_ | apply c_) | ((with_reducible first | apply d_ | apply e_ | apply f_ | apply g_); focus first | omega | (simp only [q_] <;> omega)) | ((with_reducible first | apply i_ | apply h_); focus first | omega | (simp only [q_] <;> omega)) | ((with_reducible apply h_); focus first | decide | kernel_rfl) | refine BCase.t (by decide) ?_ | refine BCase.f (by decide) ?_ | with_reducible first | apply l_ | apply m_ | apply n_ | apply o_ | refine p_ (fun _ => ?_) (fun _ => ?_)) <;> (conv => whnf)))
 exact Ret.eq rfl
theorem p_tokens (l : List TokenD) : Pure Tryd.prog 24 [slV 4 TokenD.c l] (slV 4 TokenD.c l) := by
 refine pure_of Tryd.func24 (by rfl) rfl (by kernel_rfl) (by rfl) ?_
 ((conv => whnf); repeat' ((first | (with_reducible first | apply a_ | apply b_ | apply c_) | ((with_reducible first | apply d_ | apply e_ | apply f_ | apply g_); focus first | omega | (simp only [q_] <;> omega)) | ((with_reducible first | apply i_ | apply h_); focus first | omega | (simp only [q_] <;> omega)) | ((with_reducible apply h_); focus first | decide | kernel_rfl) | refine BCase.t (by decide) ?_ | refine BCase.f (by decide) ?_ | with_reducible first | apply l_ | apply m_ | apply n_ | apply o_ | refine p_ (fun _ => ?_) (fun _ => ?_)) <;> (conv => whnf)))
 exact Ret.eq rfl
instance : DecidableEq NodeD := fun x y => decidable_of_iff (NodeD.eqB x y = true) (NodeD.eqB_iff x y)
def xE : List NodeD := [colN [97], litN ⟨1, 1, []⟩, colN [98], opsN 6 2, opsN 6 2]
def xK : List NodeD := [litN ⟨1, 1, []⟩, colN [98], opsN 6 2]
def xA : Ex := .mk (colN [97]) []
def xB : Ex := .mk (opsN 6 2) [.mk (litN ⟨1, 1, []⟩) [], .mk (colN [98]) []]
def xL : List TokenD := [wT [97], sT [45], sT [40], nT 1, sT [45], wT [98], sT [41]]
def xM : List TokenD := [nT 1, sT [45], wT [98]]
def xN : List TokenD := [wT [97], sT [45]]
theorem y1 : tokensF xE = (xL, 0) := by decide +kernel
theorem y2 : parseF xL = (xE, 0) := by decide +kernel
theorem y3 : parseF xM = (xK, 0) := by decide +kernel
theorem y4 : parseF xN = ([], 1) := by decide +kernel
theorem y5 : depthF xE = 3 ∧ checkF xE = 0 := by decide +kernel
theorem y6 : checkF (xE.take 4) = 1 := by decide +kernel
def xT : Ex := .mk (opsN 6 2) [xA, xB]
theorem xT_right : RightT xT := by
 obtain ⟨t, ht, hf⟩ := right_of y5.2
 have hg : xT.good := by unfold xT xA xB; simp [Ex.good, Ex.goods, opsN, colN, litN]
 have e : xT.flat = xE := by rfl
 rw [← flat_inj ht.good hg (by rw [hf, e])]; exact ht
theorem xE_names : ∀ n ∈ xE, okText n.Name := by unfold okText; decide
theorem p_exprbegun : Pure Tryd.prog 7 [] (pBool true) := by
 have okT0 : ∀ l : List TokenD, (∀ t ∈ l, t.S.length ≤ 10) → okT l := fun l h t ht => by have := h t ht; unfold okText; omega
 have q1 := p_Tokens xE xE_names
 have q2 := p_Parse xL (by decide) (okT0 _ (by decide))
 have q3 := p_Parse xM (by decide) (okT0 _ (by decide))
 have q4 := p_Parse xN (by decide) (okT0 _ (by decide))
 have q5 := p_Depth xE xE_names
 have q6 := p_kids (opsN 6 2) [xA, xB] xT_right xE rfl xE_names
 have q7 := p_echeck (xE.take 4) (fun n hn => xE_names n (List.mem_of_mem_take hn))
 rw [y1] at q1
 rw [y2] at q2
 rw [y3] at q3
 rw [y4] at q4
 rw [y5.1, y5.2] at q5
 rw [y6] at q7
 have s1 := p_sametokens xL xL (by decide)
 rw [sameB_refl] at s1
 have s2 := p_samenodes xE xE (by decide)
 rw [listEq_refl] at s2
 have s3 := p_samenodes xK xK (by decide)
 rw [listEq_refl] at s3
 have ca : Pure _ _ [pStr ⟨#[97]⟩] _ := p_ncol [97]
 have cb : Pure _ _ [pStr ⟨#[98]⟩] _ := p_ncol [98]
 have wa' : Pure _ _ [pStr ⟨#[97]⟩] _ := p_tword [97]
 have wb : Pure _ _ [pStr ⟨#[98]⟩] _ := p_tword [98]
 have z1 : Pure _ _ [pStr ⟨#[45]⟩] _ := p_tsign [45]
 have z2 : Pure _ _ [pStr ⟨#[40]⟩] _ := p_tsign [40]
 have z3 : Pure _ _ [pStr ⟨#[41]⟩] _ := p_tsign [41]
 have nE := p_nodes xE
 have nL := p_tokens xL
 refine pure_of Tryd.func7 (by rfl) rfl (by kernel_rfl) (by rfl) ?_
 ((conv => whnf); repeat' ((first | (with_reducible first | apply a_ | apply b_ | apply c_) | ((with_reducible first | apply d_ | apply e_ | apply f_ | apply g_); focus first | omega | (simp only [q_] <;> omega)) | ((with_reducible first | apply i_ | apply h_); focus first | omega | (simp only [q_] <;> omega)) | ((with_reducible apply h_); focus first | decide | kernel_rfl) | refine BCase.t (by decide) ?_ | refine BCase.f (by decide) ?_ | refine CallP.pure _ rfl _ (ca) ?_ | refine CallP.pure _ rfl _ (cb) ?_ | refine CallP.pure _ rfl _ (p_vI _) ?_ | refine CallP.pure _ rfl _ (p_nlit ⟨1, _, []⟩) ?_ | refine CallP.pure _ rfl _ (p_nop _ _) ?_ | refine CallP.pure _ rfl _ (nE) ?_ | refine CallP.pure _ rfl _ (wa') ?_ | refine CallP.pure _ rfl _ (wb) ?_ | refine CallP.pure _ rfl _ (z1) ?_ | refine CallP.pure _ rfl _ (z2) ?_ | refine CallP.pure _ rfl _ (z3) ?_ | refine CallP.pure _ rfl _ (p_tnumber _) ?_ | refine CallP.pure _ rfl _ (nL) ?_ | refine CallP.pure _ rfl _ (q1) ?_ | refine CallP.pure _ rfl _ (q2) ?_ | refine CallP.pure _ rfl _ (q3) ?_ | refine CallP.pure _ rfl _ (q4) ?_ | refine CallP.pure _ rfl _ (q5) ?_ | refine CallP.pure _ rfl _ (q6) ?_ | refine CallP.pure _ rfl _ (q7) ?_ | refine CallP.pure _ rfl _ (s1) ?_ | refine CallP.pure _ rfl _ (s2) ?_ | refine CallP.pure _ rfl _ (s3) ?_ | (refine Idx.mapI (f := fun k => ek k.flat) (l := [xA, xB]) 1 rfl (Nat.lt_succ_self 1) ?_) | with_reducible first | apply l_ | apply m_ | apply n_ | apply o_ | refine p_ (fun _ => ?_) (fun _ => ?_)) <;> (conv => whnf)))
 first | exact Ret.bool rfl | exact Ret.bool (by decide) | exact Ret.bool (by kernel_rfl) | (refine Ret.bool ?_; kernel_rfl)
end Go.Proofs.YtmcmagfondjopaaDoor.Pm
end
section
namespace Go.Proofs.YtmcmagfondjopaaDoor.Pm
open Go.RowKit K
set_option linter.unusedVariables false
set_option linter.unusedSimpArgs false
set_option maxRecDepth 100000
abbrev okNd (e : List NodeD) : Prop := okSl (Tryd.prog.bytesOf 37) NodeD.ok e
theorem okNd_names {e : List NodeD} (h : okNd e) : ∀ n ∈ e, okText n.Name := fun n hn => (h.2 n hn).2.2.2
theorem okNd_len {e : List NodeD} (h : okNd e) : e.length ≤ 140737488355328 := by
 have h1 := h.1
 rw [show Tryd.prog.bytesOf 37 = 64 by kernel_rfl] at h1
 omega
theorem okTk_T {l : List TokenD} (h : okTk l) : okT l := fun t ht => (h.2 t ht).2.2.2
theorem okTs_T {l : List TokenD} (h : okTs l) : okT l := fun t ht => by have := tS_len (h t ht); unfold okText; omega
theorem parse_len (l : List TokenD) : (parseF l).1.length ≤ 60 := by
 by_cases h : (parseF l).2 = 0
 ·obtain ⟨t, _, h2, h3, _⟩ := parse_ok h
  rw [h3]; exact h2.len
 ·rw [parse_bad h]; decide
theorem s_tokens (t : TokenD) : CallS Tryd.prog 24 [.d (.app FK 42 4 [t.c])] [] [(FK, .tail 42 4)] (.d (.app FK 42 4 [t.c])) [(FK, .tail 42 4)] := by
 refine callS_of Tryd.func24 (by rfl) rfl (by kernel_rfl) (by rfl) [FK] rfl ?_
 ((conv => whnf); repeat' ((first | (with_reducible first | apply a_ | apply b_ | apply c_) | ((with_reducible first | apply d_ | apply e_ | apply f_ | apply g_); focus first | omega | (simp only [q_] <;> omega)) | ((with_reducible first | apply i_ | apply h_); focus first | omega | (simp only [q_] <;> omega)) | ((with_reducible apply h_); focus first | decide | kernel_rfl) | refine BCase.t (by decide) ?_ | refine BCase.f (by decide) ?_ | with_reducible first | apply l_ | apply m_ | apply n_ | apply o_ | refine p_ (fun _ => ?_) (fun _ => ?_)) <;> (conv => whnf)))
 refine RetS.mk [(FK, FK)] [FK] rfl rfl ?_ ?_ <;> (repeat' (first | exact rfl | exact trivial | exact Or.inl rfl | refine And.intro ?_ ?_))
end Go.Proofs.YtmcmagfondjopaaDoor.Pm
end
section
namespace Go.Proofs.YtmcmagfondjopaaDoor.Pm
open Go.RowKit K
set_option linter.unusedVariables false
set_option linter.unusedSimpArgs false
set_option maxRecDepth 100000
theorem depthF_bad {e : List NodeD} (h : checkF e ≠ 0) : depthF e = 0 := by unfold depthF; rw [if_pos h]
theorem depthF_flat {t : Ex} (h : RightT t) : depthF t.flat = (t.depth : Int) := by unfold depthF; rw [check_right h, if_neg (by decide), depthE_flat h.good]
theorem kids_right {n : NodeD} {ks : List Ex} (h : RightT (.mk n ks)) {k : Ex} (hk : k ∈ ks) : RightT k := by
 have hg := h.good
 rw [Ex.good] at hg
 have hm : ∀ m ∈ k.flat, m ∈ Ex.flats ks := fun m hm => by
  clear h hg
  induction ks with
  | nil => cases hk
  | cons x l ih =>
   rw [Ex.flats, List.mem_append]
   rcases List.mem_cons.1 hk with rfl | hk
   ·exact .inl hm
   ·exact .inr (ih hk)
 refine ⟨Ex.goods_mem hg.2 k hk, fun m h2 => h.all m (by rw [Ex.flat]; exact List.mem_append_left _ (hm m h2)), ?_, ?_⟩
 ·have h1 := h.deep
  have h2 := Ex.depths_mem k hk
  rw [Ex.depth] at h1
  omega
 ·have h1 := h.len
  have h2 := flat_le_flats hk
  rw [Ex.flat, List.length_append] at h1
  omega
end Go.Proofs.YtmcmagfondjopaaDoor.Pm
end
