/- Parts of the proof, one behind the other: PnLaws2. Conditions: none beyond what each theorem says. -/
import Derived.Test.YtmcmagfondjopaaZ7
section
namespace Go.Proofs.Ytmcmagfondjopaa.Pm
open Go.RowKit K
set_option linter.unusedVariables false
set_option linter.unusedSimpArgs false
set_option maxRecDepth 100000
theorem depthF_bad {e : List NodeD} (h : checkF e ≠ 0) : depthF e = 0 := by unfold depthF; rw [if_pos h]
theorem depthF_flat {t : Ex} (h : RightT t) : depthF t.flat = (t.depth : Int) := by unfold depthF; rw [check_right h, if_neg (by decide), depthE_flat h.good]
theorem kids_right {n : NodeD} {ks : List Ex} (h : RightT (.mk n ks)) {k : Ex} (hk : k ∈ ks) : RightT k := by
 have hg := h.good
 rw [Ex.good] at hg
 have hm : ∀ m ∈ k.flat, m ∈ Ex.flats ks := fun m hm => by
  clear h hg
  induction ks with
  | nil => cases hk
  | cons x l ih =>
   rw [Ex.flats, List.mem_append]
   rcases List.mem_cons.1 hk with rfl | hk
   ·exact .inl hm
   ·exact .inr (ih hk)
 refine ⟨Ex.goods_mem hg.2 k hk, fun m h2 => h.all m (by rw [Ex.flat]; exact List.mem_append_left _ (hm m h2)), ?_, ?_⟩
 ·have h1 := h.deep
  have h2 := Ex.depths_mem k hk
  rw [Ex.depth] at h1
  omega
 ·have h1 := h.len
  have h2 := flat_le_flats hk
  rw [Ex.flat, List.length_append] at h1
  omega
theorem law_ExprTells (e : List NodeD) (he : okNd e) : Pure Try.prog 3 [slV 6 NodeD.c e] (pBool true) := by
 have hn := okNd_names he
 have p1 := p_Depth e hn
 have p3 := p_exprcheck e hn
 have p4 := p_echeck e hn
 by_cases h : checkF e = 0
 ·obtain ⟨⟨n, ks⟩, ht, hf⟩ := right_of h
  have p2 := p_kids n ks ht e hf hn
  have p5 := p_exprkids n ks ht.good e hf (by rw [← hf]; have := ht.len; omega)
  have p6 := p_exprdepth _ (.mk n ks) (Nat.le_refl _) ht.good (by have := ht.len; omega) e hf.symm
  rw [← hf, depthF_flat ht, hf, h] at p1
  rw [h] at p3 p4
  have hd12 := ht.deep
  have hk60 := len_le_flats ks
  have hlen := ht.len
  rw [Ex.flat, List.length_append, List.length_singleton] at hlen
  have hgs := ht.good
  rw [Ex.good] at hgs
  refine pure_of Try.func3 (by rfl) rfl (by kernel_rfl) (by rfl) ?_
  ((conv => whnf); repeat' ((first | (with_reducible first | apply a_ | apply b_ | apply c_) | ((with_reducible first | apply d_ | apply e_ | apply f_ | apply g_); focus first | omega | (simp only [q_] <;> omega)) | ((with_reducible first | apply i_ | apply h_); focus first | omega | (simp only [q_] <;> omega)) | ((with_reducible apply h_); focus first | decide | kernel_rfl) | refine BCase.t (by decide) ?_ | refine BCase.f (by decide) ?_ | refine CallP.pure _ rfl _ (p1) ?_ | refine CallP.pure _ rfl _ (p2) ?_ | refine CallP.pure _ rfl _ (p3) ?_ | refine CallP.pure _ rfl _ (p4) ?_ | refine CallP.pure _ rfl _ (p_exprbegun) ?_ | refine CallP.pure _ rfl _ (p5) ?_ | with_reducible first | apply l_ | apply m_ | apply n_ | apply o_ | refine p_ (fun _ => ?_) (fun _ => ?_)) <;> (conv => whnf)))
  refine LoopC.mk Nat (fun k => [(0, slV 6 NodeD.c e), (3, pInt .i64 ((Ex.mk n ks).depth : Int)), (5, .d (.c (.sl 1 (ks.map fun k => ek k.flat)))), (8, .d (.c (.sl 1 (ks.map fun k => ek k.flat)))), (9, pInt .i64 (k : Int))]) (fun _ => []) [] (fun k => k ≤ ks.length) (fun k => ks.length - k) 0 (Nat.zero_le _) ?start ?round
  case start => exact ⟨[], rfl, rfl, ⟨.inl rfl, .inl rfl, .inl rfl, .inl rfl, .inl rfl, trivial⟩, trivial⟩
  case round =>
   intro k hk
   have hk : k ≤ ks.length := hk
   by_cases q : k < ks.length
   ·have hkl := (kids_right ht (List.getElem_mem q)).len
    have ps := p_samenodes ks[k].flat ks[k].flat (by omega)
    rw [listEq_refl] at ps
    ((conv => whnf); repeat' ((first | (with_reducible first | apply a_ | apply b_ | apply c_) | ((with_reducible first | apply d_ | apply e_ | apply f_ | apply g_); focus first | omega | (simp only [q_] <;> omega)) | ((with_reducible first | apply i_ | apply h_); focus first | omega | (simp only [q_] <;> omega)) | ((with_reducible apply h_); focus first | decide | kernel_rfl) | refine BCase.t (by decide) ?_ | refine BCase.f (by decide) ?_ | (refine Idx.mapI (f := fun k => ek k.flat) k rfl q ?_) | refine CallP.pure _ rfl _ (ps) ?_ | with_reducible first | apply l_ | apply m_ | apply n_ | apply o_ | refine p_ (fun _ => ?_) (fun _ => ?_)) <;> (conv => whnf)))
    all_goals first
     | exact ⟨k + 1, by show k + 1 ≤ _; omega, by show ks.length - (k + 1) < ks.length - k; omega, [], rfl, rfl, ⟨.inl rfl, .inl rfl, .inl rfl, .inl rfl, PLe.int (by omega), trivial⟩, trivial⟩
     | (exfalso; omega)
   ·((conv => whnf); repeat' ((first | (with_reducible first | apply a_ | apply b_ | apply c_) | ((with_reducible first | apply d_ | apply e_ | apply f_ | apply g_); focus first | omega | (simp only [q_] <;> omega)) | ((with_reducible first | apply i_ | apply h_); focus first | omega | (simp only [q_] <;> omega)) | ((with_reducible apply h_); focus first | decide | kernel_rfl) | refine BCase.t (by decide) ?_ | refine BCase.f (by decide) ?_ | refine CallP.pure _ rfl _ (p6) ?_ | with_reducible first | apply l_ | apply m_ | apply n_ | apply o_ | refine p_ (fun _ => ?_) (fun _ => ?_)) <;> (conv => whnf)))
    all_goals first | exact Ret.bool rfl | exact Ret.bool (by simp; done) | (exfalso; omega)
 ·have p2 := p_kids_bad e hn h
  rw [depthF_bad h] at p1
  refine pure_of Try.func3 (by rfl) rfl (by kernel_rfl) (by rfl) ?_
  ((conv => whnf); repeat' ((first | (with_reducible first | apply a_ | apply b_ | apply c_) | ((with_reducible first | apply d_ | apply e_ | apply f_ | apply g_); focus first | omega | (simp only [q_] <;> omega)) | ((with_reducible first | apply i_ | apply h_); focus first | omega | (simp only [q_] <;> omega)) | ((with_reducible apply h_); focus first | decide | kernel_rfl) | refine BCase.t (by decide) ?_ | refine BCase.f (by decide) ?_ | refine CallP.pure _ rfl _ (p1) ?_ | refine CallP.pure _ rfl _ (p2) ?_ | refine CallP.pure _ rfl _ (p3) ?_ | refine CallP.pure _ rfl _ (p4) ?_ | refine CallP.pure _ rfl _ (p_exprbegun) ?_ | with_reducible first | apply l_ | apply m_ | apply n_ | apply o_ | refine p_ (fun _ => ?_) (fun _ => ?_)) <;> (conv => whnf)))
  all_goals first | exact Ret.bool rfl | exact Ret.bool (by simp; done) | (exfalso; omega)
theorem law_ExprWhole (e : List NodeD) (he : okNd e) : Pure Try.prog 4 [slV 6 NodeD.c e] (pBool true) := by
 have hn := okNd_names he
 have p1 := p_Depth e hn
 by_cases h : checkF e = 0
 ·obtain ⟨⟨n, ks⟩, ht, hf⟩ := right_of h
  have p2 := p_kids n ks ht e hf hn
  rw [← hf, depthF_flat ht, hf, h] at p1
  have hd12 := ht.deep
  have hdep : (Ex.mk n ks).depth = Ex.depths ks + 1 := by rw [Ex.depth]
  have hflat : (Ex.mk n ks).flat = Ex.flats ks ++ [n] := by rw [Ex.flat]
  have hlen := ht.len
  have hel : e.length = (Ex.flats ks).length + 1 := by rw [← hf, hflat, List.length_append, List.length_singleton]
  have hml : (e.map NodeD.c).length = (Ex.flats ks).length + 1 := by rw [List.length_map, hel]
  have hr1 : (Ex.flats ks).length < e.length := by omega
  have hr2 : e[(Ex.flats ks).length] = n := by
   have : e[(Ex.flats ks).length]? = some n := by rw [← hf, hflat, List.getElem?_append_right (Nat.le_refl _), Nat.sub_self]; rfl
   rw [List.getElem?_eq_getElem hr1] at this
   exact Option.some.inj this
  have ps := p_samenodes e e (by rw [← hf]; omega)
  rw [listEq_refl] at ps
  have em : e.map NodeD.c = (Ex.flats ks).map NodeD.c ++ [n.c] := by rw [← hf, hflat, List.map_append]; rfl
  have ps := (show Pure _ _ [.d (.c (.sl 6 (e.map NodeD.c))), slV 6 NodeD.c e] _ from ps)
  rw [em] at ps
  have hfl : (Ex.flats ks).length ≤ 60 := by rw [hflat, List.length_append] at hlen; omega
  refine pure_of Try.func4 (by rfl) rfl (by kernel_rfl) (by rfl) ?_
  ((conv => whnf); repeat' ((first | (with_reducible first | apply a_ | apply b_ | apply c_) | ((with_reducible first | apply d_ | apply e_ | apply f_ | apply g_); focus first | omega | (simp only [q_] <;> omega)) | ((with_reducible first | apply i_ | apply h_); focus first | omega | (simp only [q_] <;> omega)) | ((with_reducible apply h_); focus first | decide | kernel_rfl) | refine BCase.t (by decide) ?_ | refine BCase.f (by decide) ?_ | refine CallP.pure _ rfl _ (p1) ?_ | refine CallP.pure _ rfl _ (p2) ?_ | refine CallP.pure _ rfl _ (p_exprbegun) ?_ | with_reducible first | apply l_ | apply m_ | apply n_ | apply o_ | refine p_ (fun _ => ?_) (fun _ => ?_)) <;> (conv => whnf)))
  refine LoopC.mk Nat (fun k => [(0, slV 6 NodeD.c e), (3, .d (.c (.sl 1 (ks.map fun k => ek k.flat)))), (5, pInt .i64 ((Ex.mk n ks).depth : Int)), (7, .d (.app 60 38 6 ((Ex.flats (ks.take k)).map NodeD.c))), (8, pInt .i64 (Ex.depths (ks.take k) : Int)), (9, pInt .i64 (k : Int))]) (fun _ => [(60, .tail 38 6)]) [60] (fun k => k ≤ ks.length) (fun k => ks.length - k) 0 (Nat.zero_le _) ?start ?round
  case start => exact ⟨[], rfl, rfl, ⟨.inl rfl, .inl rfl, .inl rfl, ⟨rfl, rfl, Nat.zero_lt_succ _, rfl, rfl⟩, PLe.int (by rw [List.take_zero, Ex.depths]; rfl), .inl rfl, trivial⟩, ⟨rfl, Nat.zero_lt_succ _⟩, trivial⟩
  case round =>
   intro k hk
   have hk : k ≤ ks.length := hk
   have hk60 := len_le_flats ks
   have htf : (Ex.flats (ks.take k)).length ≤ (Ex.flats ks).length := by
    have := congrArg List.length (Ex.flats_append (ks.take k) (ks.drop k))
    rw [List.take_append_drop, List.length_append] at this
    omega
   by_cases q : k < ks.length
   ·have hm := List.getElem_mem q
    have hr := kids_right ht hm
    have hkl := hr.len
    have hkd := Ex.depths_mem _ hm
    have hs := depths_snoc q
    have hfs := flats_snoc q
    have hkn : ∀ m ∈ ks[k].flat, okText m.Name := fun m hm2 => hn m (by
     rw [← hf, hflat]
     refine List.mem_append_left _ ?_
     rw [flats_part q]
     simp [hm2])
    have pd := p_Depth ks[k].flat hkn
    rw [depthF_flat hr, check_right hr] at pd
    by_cases g : Ex.depths (ks.take k) < ks[k].depth
    ·((conv => whnf); repeat' ((first | (with_reducible first | apply a_ | apply b_ | apply c_) | ((with_reducible first | apply d_ | apply e_ | apply f_ | apply g_); focus first | omega | (simp only [q_] <;> omega)) | ((with_reducible first | apply i_ | apply h_); focus first | omega | (simp only [q_] <;> omega)) | ((with_reducible apply h_); focus first | decide | kernel_rfl) | refine BCase.t (by decide) ?_ | refine BCase.f (by decide) ?_ | (refine Idx.mapI (f := fun k => ek k.flat) k rfl q ?_) | refine CallP.pure _ rfl _ (pd) ?_ | (refine Need.by 64 rfl (by simp only [List.length_map]; omega) ?_) | with_reducible first | apply l_ | apply m_ | apply n_ | apply o_ | refine p_ (fun _ => ?_) (fun _ => ?_)) <;> (conv => whnf)))
     all_goals first
      | exact ⟨k + 1, by show k + 1 ≤ _; omega, by show ks.length - (k + 1) < ks.length - k; omega, [(60, 64)], rfl, rfl, ⟨.inl rfl, .inl rfl, .inl rfl, ⟨rfl, rfl, rfl, rfl, by rw [hfs, List.map_append]⟩, PLe.int (by rw [hs]; omega), PLe.int (by omega), trivial⟩, ⟨rfl, rfl, rfl⟩, trivial⟩
      | (exfalso; omega)
    ·((conv => whnf); repeat' ((first | (with_reducible first | apply a_ | apply b_ | apply c_) | ((with_reducible first | apply d_ | apply e_ | apply f_ | apply g_); focus first | omega | (simp only [q_] <;> omega)) | ((with_reducible first | apply i_ | apply h_); focus first | omega | (simp only [q_] <;> omega)) | ((with_reducible apply h_); focus first | decide | kernel_rfl) | refine BCase.t (by decide) ?_ | refine BCase.f (by decide) ?_ | (refine Idx.mapI (f := fun k => ek k.flat) k rfl q ?_) | refine CallP.pure _ rfl _ (pd) ?_ | (refine Need.by 64 rfl (by simp only [List.length_map]; omega) ?_) | with_reducible first | apply l_ | apply m_ | apply n_ | apply o_ | refine p_ (fun _ => ?_) (fun _ => ?_)) <;> (conv => whnf)))
     all_goals first
      | exact ⟨k + 1, by show k + 1 ≤ _; omega, by show ks.length - (k + 1) < ks.length - k; omega, [(60, 64)], rfl, rfl, ⟨.inl rfl, .inl rfl, .inl rfl, ⟨rfl, rfl, rfl, rfl, by rw [hfs, List.map_append]⟩, PLe.int (by rw [hs]; omega), PLe.int (by omega), trivial⟩, ⟨rfl, rfl, rfl⟩, trivial⟩
      | (exfalso; omega)
   ·have e1 : ks.take k = ks := List.take_of_length_le (by omega)
    rw [e1]
    ((conv => whnf); repeat' ((first | (with_reducible first | apply a_ | apply b_ | apply c_) | ((with_reducible first | apply d_ | apply e_ | apply f_ | apply g_); focus first | omega | (simp only [q_] <;> omega)) | ((with_reducible first | apply i_ | apply h_); focus first | omega | (simp only [q_] <;> omega)) | ((with_reducible apply h_); focus first | decide | kernel_rfl) | refine BCase.t (by decide) ?_ | refine BCase.f (by decide) ?_ | (refine Idx.mapE (Ex.flats ks).length (by omega) hr1 hr2 ?_) | (refine Need.by 64 rfl (by simp only [List.length_map, List.length_singleton]; omega) ?_) | refine CallP.pure _ rfl _ (ps) ?_ | with_reducible first | apply l_ | apply m_ | apply n_ | apply o_ | refine p_ (fun _ => ?_) (fun _ => ?_)) <;> (conv => whnf)))
    all_goals first | exact Ret.bool rfl | exact Ret.bool (by simp; done) | (exfalso; omega)
 ·have p2 := p_kids_bad e hn h
  rw [depthF_bad h] at p1
  refine pure_of Try.func4 (by rfl) rfl (by kernel_rfl) (by rfl) ?_
  ((conv => whnf); repeat' ((first | (with_reducible first | apply a_ | apply b_ | apply c_) | ((with_reducible first | apply d_ | apply e_ | apply f_ | apply g_); focus first | omega | (simp only [q_] <;> omega)) | ((with_reducible first | apply i_ | apply h_); focus first | omega | (simp only [q_] <;> omega)) | ((with_reducible apply h_); focus first | decide | kernel_rfl) | refine BCase.t (by decide) ?_ | refine BCase.f (by decide) ?_ | refine CallP.pure _ rfl _ (p1) ?_ | refine CallP.pure _ rfl _ (p2) ?_ | refine CallP.pure _ rfl _ (p_exprbegun) ?_ | with_reducible first | apply l_ | apply m_ | apply n_ | apply o_ | refine p_ (fun _ => ?_) (fun _ => ?_)) <;> (conv => whnf)))
  all_goals first | exact Ret.bool rfl | exact Ret.bool (by simp; done) | (exfalso; omega)
end Go.Proofs.Ytmcmagfondjopaa.Pm
end
