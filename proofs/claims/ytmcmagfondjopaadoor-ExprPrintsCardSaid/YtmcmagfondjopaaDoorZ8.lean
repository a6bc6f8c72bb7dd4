/- Parts of the proof, one behind the other: PnToks2 PnLaws3. Conditions: none beyond what each theorem says. -/
import Derived.Test.YtmcmagfondjopaaDoorZ7
section
namespace Go.Proofs.YtmcmagfondjopaaDoor.Pm
open Go.RowKit K
set_option linter.unusedVariables false
set_option linter.unusedSimpArgs false
set_option maxRecDepth 100000
set_option maxHeartbeats 2000000
mutual
theorem prt_bound : ∀ t : Ex, (prtX t).1.length + 4 ≤ 8 * t.flat.length
 | .mk n ks => by
  have h1 := prt_bounds ks
  have h2 := tokN_len n (prtXs ks)
  rw [prtX, Ex.flat, List.length_append, List.length_singleton]
  show (tokN n (prtXs ks)).length + 4 ≤ _
  omega
theorem prt_bounds : ∀ l : List Ex, wgt (prtXs l) ≤ 8 * (Ex.flats l).length
 | [] => by rw [prtXs, wgt]; omega
 | t :: l => by
  have h1 := prt_bound t
  have h2 := prt_bounds l
  rw [prtXs, wgt, Ex.flats, List.length_append]
  omega
end
theorem prtX_2 (t : Ex) : (prtX t).2 = lvlF t.root.Op := by
 cases t with
 | mk n ks => rw [prtX]; rfl
theorem p_bound (t : Ex) (hr : RightT t) (ih : ∀ e, e = t.flat → Pure Tryd.prog 6 [slV 6 NodeD.c e] (slV 4 TokenD.c (prtX t).1)) (k : Int) : Pure Tryd.prog 16 [slV 6 NodeD.c t.flat, pInt .i64 k] (slV 4 TokenD.c (atF (prtX t) k)) := by
 have h2 := prtX_2 t
 obtain ⟨n, ks⟩ := t
 have hal := alF_kids (hr.all n (by rw [Ex.flat]; simp))
 have hb := prt_bound (.mk n ks)
 have hl := hr.len
 have hl0 := hr.len
 have hflat : (Ex.mk n ks).flat = Ex.flats ks ++ [n] := by rw [Ex.flat]
 obtain ⟨e, hee⟩ : ∃ e, e = (Ex.mk n ks).flat := ⟨_, rfl⟩
 have ih := ih e hee
 have hel : e.length = (Ex.flats ks).length + 1 := by rw [hee, hflat, List.length_append, List.length_singleton]
 have hml : (e.map NodeD.c).length = (Ex.flats ks).length + 1 := by rw [List.length_map, hel]
 have hr1 : (Ex.flats ks).length < e.length := by omega
 have hr2 : e[(Ex.flats ks).length] = n := by
  have : e[(Ex.flats ks).length]? = some n := by rw [hee, hflat, List.getElem?_append_right (Nat.le_refl _), Nat.sub_self]; rfl
  rw [List.getElem?_eq_getElem hr1] at this
  exact Option.some.inj this
 rw [← hee]
 rw [← hee] at hl
 have pb := p_bind n.Op hal.2.2.2.2.1
 have h2 : (prtX (.mk n ks)).2 = lvlF n.Op := h2
 have pL : Pure _ _ [pStr ⟨#[40]⟩] _ := p_stok sLp
 have pR : Pure _ _ [pStr ⟨#[41]⟩] _ := p_stok sRp
 unfold atF
 rw [h2]
 refine pure_of Tryd.func16 (by rfl) rfl (by kernel_rfl) (by rfl) ?_
 by_cases g : k ≤ lvlF n.Op
 ·rw [if_pos g]
  ((conv => whnf); repeat' ((first | (with_reducible first | apply a_ | apply b_ | apply c_) | ((with_reducible first | apply d_ | apply e_ | apply f_ | apply g_); focus first | omega | (simp only [q_] <;> omega)) | ((with_reducible first | apply i_ | apply h_); focus first | omega | (simp only [q_] <;> omega)) | ((with_reducible apply h_); focus first | decide | kernel_rfl) | refine BCase.t (by decide) ?_ | refine BCase.f (by decide) ?_ | refine CallP.pure _ rfl _ (ih) ?_ | (refine Idx.mapE (Ex.flats ks).length (by omega) hr1 hr2 ?_) | refine CallP.pure _ rfl _ (pb) ?_ | with_reducible first | apply l_ | apply m_ | apply n_ | apply o_ | refine p_ (fun _ => ?_) (fun _ => ?_)) <;> (conv => whnf)))
  all_goals first | exact Ret.mk rfl | (exfalso; omega)
 ·rw [if_neg g]
  have pj := p_tkjoin [[⟨5, 0, 0, sLp⟩], (prtX (.mk n ks)).1, [⟨5, 0, 0, sRp⟩]] (markT sLp :: ((prtX (.mk n ks)).1 ++ [markT sRp])) (by rw [mark_s (mark_signs sLp (by simp)), mark_s (mark_signs sRp (by simp))]; simp) (by rw [List.length_cons, List.length_append, List.length_singleton]; omega) (by simp)
  ((conv => whnf); repeat' ((first | (with_reducible first | apply a_ | apply b_ | apply c_) | ((with_reducible first | apply d_ | apply e_ | apply f_ | apply g_); focus first | omega | (simp only [q_] <;> omega)) | ((with_reducible first | apply i_ | apply h_); focus first | omega | (simp only [q_] <;> omega)) | ((with_reducible apply h_); focus first | decide | kernel_rfl) | refine BCase.t (by decide) ?_ | refine BCase.f (by decide) ?_ | refine CallP.pure _ rfl _ (ih) ?_ | (refine Idx.mapE (Ex.flats ks).length (by omega) hr1 hr2 ?_) | refine CallP.pure _ rfl _ (pb) ?_ | refine CallP.pure _ rfl _ (pL) ?_ | refine CallP.pure _ rfl _ (pR) ?_ | refine CallP.pure _ rfl _ (pj) ?_ | with_reducible first | apply l_ | apply m_ | apply n_ | apply o_ | refine p_ (fun _ => ?_) (fun _ => ?_)) <;> (conv => whnf)))
  all_goals first | exact Ret.mk rfl | (exfalso; omega)
theorem lit_tok {v : ValueD} (h : vChk v = 0) (h0 : v.Kind ≠ 0) : litT v = ⟨v.Kind + 1, 0, v.N, v.S⟩ ∧ 1 ≤ v.Kind ∧ v.Kind ≤ 3 := by
 obtain ⟨vk, vn, vs⟩ := v
 have h0 : vk ≠ 0 := h0
 unfold vChk at h
 dsimp only at h
 split at h
 ·cases h
 rename_i g1
 split at h
 ·cases h
 rename_i g2
 have hk : vk = 1 ∨ vk = 2 ∨ vk = 3 := by omega
 rcases hk with rfl | rfl | rfl
 ·have e1 : vs = [] := Classical.byContradiction fun x => g2 (.inr ⟨by decide, fun y => x (List.eq_nil_of_length_eq_zero y)⟩)
  subst e1
  exact ⟨rfl, Int.le_refl _, by show (1 : Int) ≤ 3; decide⟩
 ·have e1 : vn = 0 := Classical.byContradiction fun x => g2 (.inl ⟨by decide, x⟩)
  subst e1
  exact ⟨rfl, by show (1 : Int) ≤ 2; decide, by show (2 : Int) ≤ 3; decide⟩
 ·have e1 : vn = 0 := Classical.byContradiction fun x => g2 (.inl ⟨by decide, x⟩)
  subst e1
  exact ⟨rfl, by show (1 : Int) ≤ 3; decide, Int.le_refl _⟩
theorem ek_row {n : NodeD} {ks : List Ex} {k : Nat} (h : k < ks.length) : (ks.map fun k => ek k.flat)[k]? = some (ek ks[k].flat) := by rw [List.getElem?_map, List.getElem?_eq_getElem h]; rfl
theorem p_exprtoks : ∀ (N : Nat) (t : Ex), t.flat.length ≤ N → RightT t → ∀ e, e = t.flat → Pure Tryd.prog 6 [slV 6 NodeD.c e] (slV 4 TokenD.c (prtX t).1)
 | 0, t, hN, hr, e, he => by have := t.flat_pos; omega
 | N + 1, .mk n ks, hN, hr, e, he => by
  have hg := hr.good
  rw [Ex.good] at hg
  have hn0 := hr.all n (by rw [Ex.flat]; simp)
  have hal := alF_kids hn0
  have hop := opKids_of hn0 hg.1
  have hsh := alF_shape hn0
  have hl := hr.len
  have hbd := prt_bound (.mk n ks)
  have hflat : (Ex.mk n ks).flat = Ex.flats ks ++ [n] := by rw [Ex.flat]
  have hlen : (Ex.mk n ks).flat.length = (Ex.flats ks).length + 1 := by rw [hflat, List.length_append, List.length_singleton]
  have pk := p_exprkids n ks hr.good e he.symm (by rw [he]; omega)
  have hel : e.length = (Ex.flats ks).length + 1 := by rw [he, hlen]
  have hml : (e.map NodeD.c).length = (Ex.flats ks).length + 1 := by rw [List.length_map, hel]
  have hr1 : (Ex.flats ks).length < e.length := by omega
  have hr2 : e[(Ex.flats ks).length] = n := by
   have : e[(Ex.flats ks).length]? = some n := by rw [he, hflat, List.getElem?_append_right (Nat.le_refl _), Nat.sub_self]; rfl
   rw [List.getElem?_eq_getElem hr1] at this
   exact Option.some.inj this
  have ih : ∀ k ∈ ks, ∀ e, e = k.flat → Pure Tryd.prog 6 [slV 6 NodeD.c e] (slV 4 TokenD.c (prtX k).1) := fun k hk => p_exprtoks N k (by have := flat_le_flats hk; omega) (kids_right hr hk)
  have pbd : ∀ k ∈ ks, ∀ j : Int, Pure Tryd.prog 16 [slV 6 NodeD.c k.flat, pInt .i64 j] (slV 4 TokenD.c (atF (prtX k) j)) := fun k hk j => p_bound k (kids_right hr hk) (ih k hk) j
  rw [prt_op] at hbd ⊢
  have hbd : (tokN n (ks.map prtX)).length + 4 ≤ 8 * (Ex.mk n ks).flat.length := hbd
  show Pure _ _ _ (slV 4 TokenD.c (tokN n (ks.map prtX)))
  have wd : ∀ s ∈ [wNot, wNull, wIs, wLike, wIn, wBetw, wAnd, wOr], markT s = ⟨1, 0, 0, s⟩ := fun s h => mark_w (mark_words s h)
  have sg : ∀ s ∈ [sLp, sRp, sCo, sMi], markT s = ⟨5, 0, 0, s⟩ := fun s h => mark_s (mark_signs s (by simp only [List.mem_cons, List.not_mem_nil, or_false] at h ⊢; rcases h with rfl | rfl | rfl | rfl <;> simp))
  rcases hop with ⟨h, hk⟩ | ⟨h, hk⟩ | ⟨h, hk⟩ | ⟨h, hk⟩ | ⟨h, hk⟩
  ·
   obtain ⟨op, kids, v, nm⟩ := n
   have h : op = 1 ∨ op = 2 := h
   rcases h with rfl | rfl
   ·have hv := (hsh.2.2.1 rfl).1
    have hv : vChk v = 0 := hv
    have pn : Pure _ _ [pStr ⟨#[110, 117, 108, 108]⟩] _ := p_wtok wNull
    show Pure _ _ _ (slV 4 TokenD.c [litT v])
    refine pure_of Tryd.func6 (by rfl) rfl (by kernel_rfl) (by rfl) ?_
    by_cases k0 : v.Kind = 0
    ·have e1 : litT v = ⟨1, 0, 0, wNull⟩ := by
      unfold litT
      rw [if_neg (by omega), if_neg (by omega), if_neg (by omega)]
      exact wd wNull (by simp)
     rw [e1]
     ((conv => whnf); repeat' ((first | (with_reducible first | apply a_ | apply b_ | apply c_) | ((with_reducible first | apply d_ | apply e_ | apply f_ | apply g_); focus first | omega | (simp only [q_] <;> omega)) | ((with_reducible first | apply i_ | apply h_); focus first | omega | (simp only [q_] <;> omega)) | ((with_reducible apply h_); focus first | decide | kernel_rfl) | refine BCase.t (by decide) ?_ | refine BCase.f (by decide) ?_ | refine CallP.pure _ rfl _ (pk) ?_ | (refine Idx.mapE (Ex.flats ks).length (by omega) hr1 hr2 ?_) | refine CallP.pure _ rfl _ (pn) ?_ | with_reducible first | apply l_ | apply m_ | apply n_ | apply o_ | refine p_ (fun _ => ?_) (fun _ => ?_)) <;> (conv => whnf)))
     all_goals first | exact Ret.mk rfl | (exfalso; omega)
    ·obtain ⟨e1, e2, e3⟩ := lit_tok hv k0
     rw [e1]
     ((conv => whnf); repeat' ((first | (with_reducible first | apply a_ | apply b_ | apply c_) | ((with_reducible first | apply d_ | apply e_ | apply f_ | apply g_); focus first | omega | (simp only [q_] <;> omega)) | ((with_reducible first | apply i_ | apply h_); focus first | omega | (simp only [q_] <;> omega)) | ((with_reducible apply h_); focus first | decide | kernel_rfl) | refine BCase.t (by decide) ?_ | refine BCase.f (by decide) ?_ | refine CallP.pure _ rfl _ (pk) ?_ | (refine Idx.mapE (Ex.flats ks).length (by omega) hr1 hr2 ?_) | with_reducible first | apply l_ | apply m_ | apply n_ | apply o_ | refine p_ (fun _ => ?_) (fun _ => ?_)) <;> (conv => whnf)))
     all_goals first | exact Ret.mk rfl | (exfalso; omega)
   ·have hv := hsh.2.2.2 rfl
    have hv : nameB nm = true := hv
    unfold nameB at hv
    simp only [Bool.and_eq_true, decide_eq_true_eq] at hv
    have e1 : markT nm = ⟨1, 0, 0, nm⟩ := mark_w hv.1
    have pn := p_wtok nm
    show Pure _ _ _ (slV 4 TokenD.c [markT nm])
    rw [e1]
    refine pure_of Tryd.func6 (by rfl) rfl (by kernel_rfl) (by rfl) ?_
    ((conv => whnf); repeat' ((first | (with_reducible first | apply a_ | apply b_ | apply c_) | ((with_reducible first | apply d_ | apply e_ | apply f_ | apply g_); focus first | omega | (simp only [q_] <;> omega)) | ((with_reducible first | apply i_ | apply h_); focus first | omega | (simp only [q_] <;> omega)) | ((with_reducible apply h_); focus first | decide | kernel_rfl) | refine BCase.t (by decide) ?_ | refine BCase.f (by decide) ?_ | refine CallP.pure _ rfl _ (pk) ?_ | (refine Idx.mapE (Ex.flats ks).length (by omega) hr1 hr2 ?_) | refine CallP.pure _ rfl _ (pn) ?_ | with_reducible first | apply l_ | apply m_ | apply n_ | apply o_ | refine p_ (fun _ => ?_) (fun _ => ?_)) <;> (conv => whnf)))
    all_goals first | exact Ret.mk rfl | (exfalso; omega)
  ·
   obtain ⟨a, rfl⟩ := List.length_eq_one_iff.1 hk
   have ba := pbd a List.mem_cons_self
   have pM : Pure _ _ [pStr ⟨#[45]⟩] _ := p_stok sMi
   have pN : Pure _ _ [pStr ⟨#[110, 111, 116]⟩] _ := p_wtok wNot
   have pI : Pure _ _ [pStr ⟨#[105, 115]⟩] _ := p_wtok wIs
   have pU : Pure _ _ [pStr ⟨#[110, 117, 108, 108]⟩] _ := p_wtok wNull
   obtain ⟨op, kids, v, nm⟩ := n
   have h : op = 3 ∨ op = 4 ∨ op = 18 ∨ op = 19 := h
   rcases h with rfl | rfl | rfl | rfl
   ·have hx : tokN ⟨3, kids, v, nm⟩ ([a].map prtX) = markT sMi :: atF (prtX a) 7 := rfl
    rw [hx] at hbd ⊢
    have pj := p_tkjoin [[⟨5, 0, 0, sMi⟩], atF (prtX a) 7] (markT sMi :: atF (prtX a) 7) (by rw [sg sMi (by simp)]; simp) (by omega) (by simp)
    refine pure_of Tryd.func6 (by rfl) rfl (by kernel_rfl) (by rfl) ?_
    ((conv => whnf); repeat' ((first | (with_reducible first | apply a_ | apply b_ | apply c_) | ((with_reducible first | apply d_ | apply e_ | apply f_ | apply g_); focus first | omega | (simp only [q_] <;> omega)) | ((with_reducible first | apply i_ | apply h_); focus first | omega | (simp only [q_] <;> omega)) | ((with_reducible apply h_); focus first | decide | kernel_rfl) | refine BCase.t (by decide) ?_ | refine BCase.f (by decide) ?_ | refine CallP.pure _ rfl _ (pk) ?_ | (refine Idx.mapE (Ex.flats [a]).length (by omega) hr1 hr2 ?_) | (refine Idx.lit rfl rfl ?_) | refine CallP.pure _ rfl _ (ba 7) ?_ | refine CallP.pure _ rfl _ (pM) ?_ | refine CallP.pure _ rfl _ (pj) ?_ | with_reducible first | apply l_ | apply m_ | apply n_ | apply o_ | refine p_ (fun _ => ?_) (fun _ => ?_)) <;> (conv => whnf)))
    all_goals first | exact Ret.mk rfl | (exfalso; omega)
   ·have hx : tokN ⟨4, kids, v, nm⟩ ([a].map prtX) = markT wNot :: atF (prtX a) 3 := rfl
    rw [hx] at hbd ⊢
    have pj := p_tkjoin [[⟨1, 0, 0, wNot⟩], atF (prtX a) 3] (markT wNot :: atF (prtX a) 3) (by rw [wd wNot (by simp)]; simp) (by omega) (by simp)
    refine pure_of Tryd.func6 (by rfl) rfl (by kernel_rfl) (by rfl) ?_
    ((conv => whnf); repeat' ((first | (with_reducible first | apply a_ | apply b_ | apply c_) | ((with_reducible first | apply d_ | apply e_ | apply f_ | apply g_); focus first | omega | (simp only [q_] <;> omega)) | ((with_reducible first | apply i_ | apply h_); focus first | omega | (simp only [q_] <;> omega)) | ((with_reducible apply h_); focus first | decide | kernel_rfl) | refine BCase.t (by decide) ?_ | refine BCase.f (by decide) ?_ | refine CallP.pure _ rfl _ (pk) ?_ | (refine Idx.mapE (Ex.flats [a]).length (by omega) hr1 hr2 ?_) | (refine Idx.lit rfl rfl ?_) | refine CallP.pure _ rfl _ (ba 3) ?_ | refine CallP.pure _ rfl _ (pN) ?_ | refine CallP.pure _ rfl _ (pj) ?_ | with_reducible first | apply l_ | apply m_ | apply n_ | apply o_ | refine p_ (fun _ => ?_) (fun _ => ?_)) <;> (conv => whnf)))
    all_goals first | exact Ret.mk rfl | (exfalso; omega)
   ·have hx : tokN ⟨18, kids, v, nm⟩ ([a].map prtX) = atF (prtX a) 5 ++ [markT wIs, markT wNull] := rfl
    rw [hx] at hbd ⊢
    have pj := p_tkjoin [atF (prtX a) 5, [⟨1, 0, 0, wIs⟩], [⟨1, 0, 0, wNull⟩]] (atF (prtX a) 5 ++ [markT wIs, markT wNull]) (by rw [wd wIs (by simp), wd wNull (by simp)]; simp) (by omega) (by simp)
    refine pure_of Tryd.func6 (by rfl) rfl (by kernel_rfl) (by rfl) ?_
    ((conv => whnf); repeat' ((first | (with_reducible first | apply a_ | apply b_ | apply c_) | ((with_reducible first | apply d_ | apply e_ | apply f_ | apply g_); focus first | omega | (simp only [q_] <;> omega)) | ((with_reducible first | apply i_ | apply h_); focus first | omega | (simp only [q_] <;> omega)) | ((with_reducible apply h_); focus first | decide | kernel_rfl) | refine BCase.t (by decide) ?_ | refine BCase.f (by decide) ?_ | refine CallP.pure _ rfl _ (pk) ?_ | (refine Idx.mapE (Ex.flats [a]).length (by omega) hr1 hr2 ?_) | (refine Idx.lit rfl rfl ?_) | refine CallP.pure _ rfl _ (ba 5) ?_ | refine CallP.pure _ rfl _ (pI) ?_ | refine CallP.pure _ rfl _ (pU) ?_ | refine CallP.pure _ rfl _ (pj) ?_ | with_reducible first | apply l_ | apply m_ | apply n_ | apply o_ | refine p_ (fun _ => ?_) (fun _ => ?_)) <;> (conv => whnf)))
    all_goals first | exact Ret.mk rfl | (exfalso; omega)
   ·have hx : tokN ⟨19, kids, v, nm⟩ ([a].map prtX) = atF (prtX a) 5 ++ [markT wIs, markT wNot, markT wNull] := rfl
    rw [hx] at hbd ⊢
    have pj := p_tkjoin [atF (prtX a) 5, [⟨1, 0, 0, wIs⟩], [⟨1, 0, 0, wNot⟩], [⟨1, 0, 0, wNull⟩]] (atF (prtX a) 5 ++ [markT wIs, markT wNot, markT wNull]) (by rw [wd wIs (by simp), wd wNull (by simp), wd wNot (by simp)]; simp) (by omega) (by simp)
    refine pure_of Tryd.func6 (by rfl) rfl (by kernel_rfl) (by rfl) ?_
    ((conv => whnf); repeat' ((first | (with_reducible first | apply a_ | apply b_ | apply c_) | ((with_reducible first | apply d_ | apply e_ | apply f_ | apply g_); focus first | omega | (simp only [q_] <;> omega)) | ((with_reducible first | apply i_ | apply h_); focus first | omega | (simp only [q_] <;> omega)) | ((with_reducible apply h_); focus first | decide | kernel_rfl) | refine BCase.t (by decide) ?_ | refine BCase.f (by decide) ?_ | refine CallP.pure _ rfl _ (pk) ?_ | (refine Idx.mapE (Ex.flats [a]).length (by omega) hr1 hr2 ?_) | (refine Idx.lit rfl rfl ?_) | refine CallP.pure _ rfl _ (ba 5) ?_ | refine CallP.pure _ rfl _ (pI) ?_ | refine CallP.pure _ rfl _ (pU) ?_ | refine CallP.pure _ rfl _ (pN) ?_ | refine CallP.pure _ rfl _ (pj) ?_ | with_reducible first | apply l_ | apply m_ | apply n_ | apply o_ | refine p_ (fun _ => ?_) (fun _ => ?_)) <;> (conv => whnf)))
    all_goals first | exact Ret.mk rfl | (exfalso; omega)
  ·
   obtain ⟨a, b, rfl⟩ := len_two hk
   have ba := pbd a List.mem_cons_self
   have bb := pbd b (by simp)
   have pN : Pure _ _ [pStr ⟨#[110, 111, 116]⟩] _ := p_wtok wNot
   have pLk : Pure _ _ [pStr ⟨#[108, 105, 107, 101]⟩] _ := p_wtok wLike
   obtain ⟨op, kids, v, nm⟩ := n
   have h : 5 ≤ op ∧ op ≤ 17 ∨ op = 20 ∨ op = 21 := h
   by_cases h17 : op ≤ 17
   ·have hL := lvlF_in op
    have pm := p_midtok op (by omega)
    have pb := p_bind op (by omega)
    by_cases h4 : 10 ≤ op ∧ op ≤ 15
    ·have e4 : lvlF op = 4 := by
      unfold lvlF
      rw [if_neg (by omega), if_neg (by omega), if_neg (by omega), if_neg (by omega), if_neg (by omega), if_neg (by omega), if_neg (by omega)]
     have hx : tokN ⟨op, kids, v, nm⟩ ([a, b].map prtX) = atF (prtX a) 5 ++ (markT (sgn op) :: atF (prtX b) 5) := by
      show tokN ⟨op, kids, v, nm⟩ [prtX a, prtX b] = _
      unfold tokN
      dsimp only
      rw [if_neg (by omega), if_neg (by omega), if_neg (by omega), if_neg (by omega), if_pos h4]
     rw [hx] at hbd ⊢
     rw [e4] at pb
     have pj := p_tkjoin [atF (prtX a) 5, [markT (sgn op)], atF (prtX b) 5] (atF (prtX a) 5 ++ (markT (sgn op) :: atF (prtX b) 5)) (by simp) (by omega) (by simp)
     refine pure_of Tryd.func6 (by rfl) rfl (by kernel_rfl) (by rfl) ?_
     ((conv => whnf); repeat' ((first | (with_reducible first | apply a_ | apply b_ | apply c_) | ((with_reducible first | apply d_ | apply e_ | apply f_ | apply g_); focus first | omega | (simp only [q_] <;> omega)) | ((with_reducible first | apply i_ | apply h_); focus first | omega | (simp only [q_] <;> omega)) | ((with_reducible apply h_); focus first | decide | kernel_rfl) | refine BCase.t (by decide) ?_ | refine BCase.f (by decide) ?_ | refine CallP.pure _ rfl _ (pk) ?_ | (refine Idx.mapE (Ex.flats [a, b]).length (by omega) hr1 hr2 ?_) | (refine Idx.lit rfl rfl ?_) | refine CallP.pure _ rfl _ (ba 5) ?_ | refine CallP.pure _ rfl _ (bb 5) ?_ | refine CallP.pure _ rfl _ (pb) ?_ | refine CallP.pure _ rfl _ (pm) ?_ | refine CallP.pure _ rfl _ (pj) ?_ | with_reducible first | apply l_ | apply m_ | apply n_ | apply o_ | refine p_ (fun _ => ?_) (fun _ => ?_)) <;> (conv => whnf)))
     all_goals first | exact Ret.mk rfl | (exfalso; omega)
    ·have e4 : lvlF op ≠ 4 := by
      have : op = 5 ∨ op = 6 ∨ op = 7 ∨ op = 8 ∨ op = 9 ∨ op = 16 ∨ op = 17 := by omega
      rcases this with rfl | rfl | rfl | rfl | rfl | rfl | rfl <;> decide
     have hx : tokN ⟨op, kids, v, nm⟩ ([a, b].map prtX) = atF (prtX a) (lvlF op) ++ (markT (sgn op) :: atF (prtX b) (lvlF op + 1)) := by
      show tokN ⟨op, kids, v, nm⟩ [prtX a, prtX b] = _
      unfold tokN
      dsimp only
      rw [if_neg (by omega), if_neg (by omega), if_neg (by omega), if_neg (by omega), if_neg h4]
     rw [hx] at hbd ⊢
     have pj := p_tkjoin [atF (prtX a) (lvlF op), [markT (sgn op)], atF (prtX b) (lvlF op + 1)] (atF (prtX a) (lvlF op) ++ (markT (sgn op) :: atF (prtX b) (lvlF op + 1))) (by simp) (by omega) (by simp)
     refine pure_of Tryd.func6 (by rfl) rfl (by kernel_rfl) (by rfl) ?_
     ((conv => whnf); repeat' ((first | (with_reducible first | apply a_ | apply b_ | apply c_) | ((with_reducible first | apply d_ | apply e_ | apply f_ | apply g_); focus first | omega | (simp only [q_] <;> omega)) | ((with_reducible first | apply i_ | apply h_); focus first | omega | (simp only [q_] <;> omega)) | ((with_reducible apply h_); focus first | decide | kernel_rfl) | refine BCase.t (by decide) ?_ | refine BCase.f (by decide) ?_ | refine CallP.pure _ rfl _ (pk) ?_ | (refine Idx.mapE (Ex.flats [a, b]).length (by omega) hr1 hr2 ?_) | (refine Idx.lit rfl rfl ?_) | refine CallP.pure _ rfl _ (ba (lvlF op)) ?_ | refine CallP.pure _ rfl _ (bb (lvlF op + 1)) ?_ | refine CallP.pure _ rfl _ (pb) ?_ | refine CallP.pure _ rfl _ (pm) ?_ | refine CallP.pure _ rfl _ (pj) ?_ | with_reducible first | apply l_ | apply m_ | apply n_ | apply o_ | refine p_ (fun _ => ?_) (fun _ => ?_)) <;> (conv => whnf)))
     all_goals first | exact Ret.mk rfl | (exfalso; omega)
   ·have h : op = 20 ∨ op = 21 := by omega
    rcases h with rfl | rfl
    ·have hx : tokN ⟨20, kids, v, nm⟩ ([a, b].map prtX) = atF (prtX a) 5 ++ (markT wLike :: atF (prtX b) 5) := rfl
     rw [hx] at hbd ⊢
     have pj := p_tkjoin [atF (prtX a) 5, [⟨1, 0, 0, wLike⟩], atF (prtX b) 5] (atF (prtX a) 5 ++ (markT wLike :: atF (prtX b) 5)) (by rw [wd wLike (by simp)]; simp) (by omega) (by simp)
     refine pure_of Tryd.func6 (by rfl) rfl (by kernel_rfl) (by rfl) ?_
     ((conv => whnf); repeat' ((first | (with_reducible first | apply a_ | apply b_ | apply c_) | ((with_reducible first | apply d_ | apply e_ | apply f_ | apply g_); focus first | omega | (simp only [q_] <;> omega)) | ((with_reducible first | apply i_ | apply h_); focus first | omega | (simp only [q_] <;> omega)) | ((with_reducible apply h_); focus first | decide | kernel_rfl) | refine BCase.t (by decide) ?_ | refine BCase.f (by decide) ?_ | refine CallP.pure _ rfl _ (pk) ?_ | (refine Idx.mapE (Ex.flats [a, b]).length (by omega) hr1 hr2 ?_) | (refine Idx.lit rfl rfl ?_) | refine CallP.pure _ rfl _ (ba 5) ?_ | refine CallP.pure _ rfl _ (bb 5) ?_ | refine CallP.pure _ rfl _ (pLk) ?_ | refine CallP.pure _ rfl _ (pj) ?_ | with_reducible first | apply l_ | apply m_ | apply n_ | apply o_ | refine p_ (fun _ => ?_) (fun _ => ?_)) <;> (conv => whnf)))
     all_goals first | exact Ret.mk rfl | (exfalso; omega) | (rename_i q; exact absurd q (show ¬ ((20 : Int).tmod 2 = 1) by decide))
    ·have hx : tokN ⟨21, kids, v, nm⟩ ([a, b].map prtX) = atF (prtX a) 5 ++ (markT wNot :: markT wLike :: atF (prtX b) 5) := rfl
     rw [hx] at hbd ⊢
     have hbd2 := hbd
     rw [List.length_append] at hbd2
     have pq := p_tkjoin [atF (prtX a) 5, [⟨1, 0, 0, wNot⟩]] (atF (prtX a) 5 ++ [markT wNot]) (by rw [wd wNot (by simp)]; simp) (by rw [List.length_append, List.length_singleton]; omega) (by simp)
     have pj := p_tkjoin [atF (prtX a) 5 ++ [markT wNot], [⟨1, 0, 0, wLike⟩], atF (prtX b) 5] (atF (prtX a) 5 ++ (markT wNot :: markT wLike :: atF (prtX b) 5)) (by rw [wd wLike (by simp)]; simp) (by omega) (by simp)
     refine pure_of Tryd.func6 (by rfl) rfl (by kernel_rfl) (by rfl) ?_
     ((conv => whnf); repeat' ((first | (with_reducible first | apply a_ | apply b_ | apply c_) | ((with_reducible first | apply d_ | apply e_ | apply f_ | apply g_); focus first | omega | (simp only [q_] <;> omega)) | ((with_reducible first | apply i_ | apply h_); focus first | omega | (simp only [q_] <;> omega)) | ((with_reducible apply h_); focus first | decide | kernel_rfl) | refine BCase.t (by decide) ?_ | refine BCase.f (by decide) ?_ | refine CallP.pure _ rfl _ (pk) ?_ | (refine Idx.mapE (Ex.flats [a, b]).length (by omega) hr1 hr2 ?_) | (refine Idx.lit rfl rfl ?_) | refine CallP.pure _ rfl _ (ba 5) ?_ | refine CallP.pure _ rfl _ (bb 5) ?_ | refine CallP.pure _ rfl _ (pLk) ?_ | refine CallP.pure _ rfl _ (pN) ?_ | refine CallP.pure _ rfl _ (pq) ?_ | refine CallP.pure _ rfl _ (pj) ?_ | with_reducible first | apply l_ | apply m_ | apply n_ | apply o_ | refine p_ (fun _ => ?_) (fun _ => ?_)) <;> (conv => whnf)))
     all_goals first | exact Ret.mk rfl | (exfalso; omega) | (rename_i q; exact absurd (show (21 : Int).tmod 2 = 1 by decide) q)
  ·
   obtain ⟨a, b, c, rfl⟩ := len_three hk
   have ba := pbd a List.mem_cons_self
   have bb := pbd b (by simp)
   have bc := pbd c (by simp)
   have pN : Pure _ _ [pStr ⟨#[110, 111, 116]⟩] _ := p_wtok wNot
   have pB : Pure _ _ [pStr ⟨#[98, 101, 116, 119, 101, 101, 110]⟩] _ := p_wtok wBetw
   have pA : Pure _ _ [pStr ⟨#[97, 110, 100]⟩] _ := p_wtok wAnd
   obtain ⟨op, kids, v, nm⟩ := n
   have h : op = 24 ∨ op = 25 := h
   rcases h with rfl | rfl
   ·have hx : tokN ⟨24, kids, v, nm⟩ ([a, b, c].map prtX) = atF (prtX a) 5 ++ (markT wBetw :: (atF (prtX b) 5 ++ (markT wAnd :: atF (prtX c) 5))) := rfl
    rw [hx] at hbd ⊢
    have pj := p_tkjoin [atF (prtX a) 5, [⟨1, 0, 0, wBetw⟩], atF (prtX b) 5, [⟨1, 0, 0, wAnd⟩], atF (prtX c) 5] (atF (prtX a) 5 ++ (markT wBetw :: (atF (prtX b) 5 ++ (markT wAnd :: atF (prtX c) 5)))) (by rw [wd wBetw (by simp), wd wAnd (by simp)]; simp) (by omega) (by simp)
    refine pure_of Tryd.func6 (by rfl) rfl (by kernel_rfl) (by rfl) ?_
    ((conv => whnf); repeat' ((first | (with_reducible first | apply a_ | apply b_ | apply c_) | ((with_reducible first | apply d_ | apply e_ | apply f_ | apply g_); focus first | omega | (simp only [q_] <;> omega)) | ((with_reducible first | apply i_ | apply h_); focus first | omega | (simp only [q_] <;> omega)) | ((with_reducible apply h_); focus first | decide | kernel_rfl) | refine BCase.t (by decide) ?_ | refine BCase.f (by decide) ?_ | refine CallP.pure _ rfl _ (pk) ?_ | (refine Idx.mapE (Ex.flats [a, b, c]).length (by omega) hr1 hr2 ?_) | (refine Idx.lit rfl rfl ?_) | refine CallP.pure _ rfl _ (ba 5) ?_ | refine CallP.pure _ rfl _ (bb 5) ?_ | refine CallP.pure _ rfl _ (bc 5) ?_ | refine CallP.pure _ rfl _ (pB) ?_ | refine CallP.pure _ rfl _ (pA) ?_ | refine CallP.pure _ rfl _ (pj) ?_ | with_reducible first | apply l_ | apply m_ | apply n_ | apply o_ | refine p_ (fun _ => ?_) (fun _ => ?_)) <;> (conv => whnf)))
    all_goals first | exact Ret.mk rfl | (exfalso; omega) | (rename_i q; exact absurd q (show ¬ ((24 : Int).tmod 2 = 1) by decide))
   ·have hx : tokN ⟨25, kids, v, nm⟩ ([a, b, c].map prtX) = atF (prtX a) 5 ++ (markT wNot :: markT wBetw :: (atF (prtX b) 5 ++ (markT wAnd :: atF (prtX c) 5))) := rfl
    rw [hx] at hbd ⊢
    have hbd2 := hbd
    rw [List.length_append] at hbd2
    have pq := p_tkjoin [atF (prtX a) 5, [⟨1, 0, 0, wNot⟩]] (atF (prtX a) 5 ++ [markT wNot]) (by rw [wd wNot (by simp)]; simp) (by rw [List.length_append, List.length_singleton]; omega) (by simp)
    have pj := p_tkjoin [atF (prtX a) 5 ++ [markT wNot], [⟨1, 0, 0, wBetw⟩], atF (prtX b) 5, [⟨1, 0, 0, wAnd⟩], atF (prtX c) 5] (atF (prtX a) 5 ++ (markT wNot :: markT wBetw :: (atF (prtX b) 5 ++ (markT wAnd :: atF (prtX c) 5)))) (by rw [wd wBetw (by simp), wd wAnd (by simp)]; simp) (by omega) (by simp)
    refine pure_of Tryd.func6 (by rfl) rfl (by kernel_rfl) (by rfl) ?_
    ((conv => whnf); repeat' ((first | (with_reducible first | apply a_ | apply b_ | apply c_) | ((with_reducible first | apply d_ | apply e_ | apply f_ | apply g_); focus first | omega | (simp only [q_] <;> omega)) | ((with_reducible first | apply i_ | apply h_); focus first | omega | (simp only [q_] <;> omega)) | ((with_reducible apply h_); focus first | decide | kernel_rfl) | refine BCase.t (by decide) ?_ | refine BCase.f (by decide) ?_ | refine CallP.pure _ rfl _ (pk) ?_ | (refine Idx.mapE (Ex.flats [a, b, c]).length (by omega) hr1 hr2 ?_) | (refine Idx.lit rfl rfl ?_) | refine CallP.pure _ rfl _ (ba 5) ?_ | refine CallP.pure _ rfl _ (bb 5) ?_ | refine CallP.pure _ rfl _ (bc 5) ?_ | refine CallP.pure _ rfl _ (pB) ?_ | refine CallP.pure _ rfl _ (pA) ?_ | refine CallP.pure _ rfl _ (pN) ?_ | refine CallP.pure _ rfl _ (pq) ?_ | refine CallP.pure _ rfl _ (pj) ?_ | with_reducible first | apply l_ | apply m_ | apply n_ | apply o_ | refine p_ (fun _ => ?_) (fun _ => ?_)) <;> (conv => whnf)))
    all_goals first | exact Ret.mk rfl | (exfalso; omega) | (rename_i q; exact absurd (show (25 : Int).tmod 2 = 1 by decide) q)
  ·
   obtain ⟨a, b, cs, rfl⟩ : ∃ a b cs, ks = a :: b :: cs := by
    match ks, hk with
    | a :: b :: cs, _ => exact ⟨a, b, cs, rfl⟩
    | [], hk => simp at hk
    | [_], hk => simp at hk
   have ba := pbd a List.mem_cons_self
   have ib := ih b (by simp) _ rfl
   have pN : Pure _ _ [pStr ⟨#[110, 111, 116]⟩] _ := p_wtok wNot
   have pI : Pure _ _ [pStr ⟨#[105, 110]⟩] _ := p_wtok wIn
   have pL : Pure _ _ [pStr ⟨#[40]⟩] _ := p_stok sLp
   have pR : Pure _ _ [pStr ⟨#[41]⟩] _ := p_stok sRp
   have pC : Pure _ _ [pStr ⟨#[44]⟩] _ := p_stok sCo
   have hkl : (a :: b :: cs).length ≤ 7 := hk.2
   obtain ⟨op, kids, v, nm⟩ := n
   obtain ⟨q, hq⟩ : ∃ q, q = notT op := ⟨_, rfl⟩
   have hx : tokN ⟨op, kids, v, nm⟩ ((a :: b :: cs).map prtX) = (atF (prtX a) 5 ++ (q ++ (markT wIn :: markT sLp :: (prtX b).1))) ++ (comT (cs.map prtX) ++ [markT sRp]) := by
    show tokN ⟨op, kids, v, nm⟩ (prtX a :: prtX b :: cs.map prtX) = _
    have h : op = 22 ∨ op = 23 := h
    unfold tokN
    dsimp only
    rw [if_neg (by omega), if_neg (by omega), if_pos h, hq]
    simp
   rw [hx] at hbd ⊢
   have hbd2 := hbd
   rw [List.length_append] at hbd2
   have hbd3 : (comT (cs.map prtX) ++ [markT sRp]).length = (comT (cs.map prtX)).length + 1 := by rw [List.length_append]; rfl
   have pq := p_tkjoin [atF (prtX a) 5, [⟨1, 0, 0, wNot⟩]] (atF (prtX a) 5 ++ [markT wNot]) (by rw [wd wNot (by simp)]; simp) (by have := at_len (prtX a) 5; have := prt_bound a; have := flat_le_flats (l := a :: b :: cs) List.mem_cons_self; rw [List.length_append, List.length_singleton]; omega) (by simp)
   have p1 := p_tkjoin [atF (prtX a) 5 ++ q, [⟨1, 0, 0, wIn⟩], [⟨5, 0, 0, sLp⟩], (prtX b).1] (atF (prtX a) 5 ++ (q ++ (markT wIn :: markT sLp :: (prtX b).1))) (by rw [wd wIn (by simp), sg sLp (by simp)]; simp) (by omega) (by simp)
   generalize hX : atF (prtX a) 5 ++ (q ++ (markT wIn :: markT sLp :: (prtX b).1)) = X at *
   obtain ⟨ps, hps⟩ : ∃ ps, ps = cs.map prtX := ⟨_, rfl⟩
   have hpl : ps.length = cs.length := by rw [hps, List.length_map]
   rw [← hps] at hbd hbd2 hbd3 ⊢
   have comk : ∀ k, (comT (ps.take k)).length ≤ (comT ps).length := by
    intro k
    have : comT ps = comT (ps.take k) ++ comT (ps.drop k) := by
     unfold comT
     rw [← List.flatMap_append, List.take_append_drop]
    rw [this, List.length_append]; omega
   have comj : ∀ j (hj : j < cs.length), Pure Tryd.prog 14 [.d (.c (.sl 1 [tkk (X ++ comT (ps.take j)), tkk [⟨5, 0, 0, sCo⟩], tkk (prtX cs[j]).1]))] (slV 4 TokenD.c (X ++ comT (ps.take (j + 1)))) := by
    intro j hj
    have hj2 : j < ps.length := by omega
    have e := comT_snoc hj2
    have e2 : ps[j] = prtX cs[j] := by subst hps; rw [List.getElem_map]
    have hk := comk (j + 1)
    exact p_tkjoin [X ++ comT (ps.take j), [⟨5, 0, 0, sCo⟩], (prtX cs[j]).1] _ (by rw [e, e2, sg sCo (by simp)]; simp) (by rw [List.length_append]; omega) (by simp)
   have pE := p_tkjoin [X ++ comT ps, [⟨5, 0, 0, sRp⟩]] (X ++ (comT ps ++ [markT sRp])) (by rw [sg sRp (by simp)]; simp) (by omega) (by simp)
   have h : op = 22 ∨ op = 23 := h
   refine pure_of Tryd.func6 (by rfl) rfl (by kernel_rfl) (by rfl) ?_
   have fin (x : List TokenD) : True := trivial
   rcases h with rfl | rfl
   ·have hq0 : q = [] := hq
    subst hq0
    rw [List.append_nil] at p1
    ((conv => whnf); repeat' ((first | (with_reducible first | apply a_ | apply b_ | apply c_) | ((with_reducible first | apply d_ | apply e_ | apply f_ | apply g_); focus first | omega | (simp only [q_] <;> omega)) | ((with_reducible first | apply i_ | apply h_); focus first | omega | (simp only [q_] <;> omega)) | ((with_reducible apply h_); focus first | decide | kernel_rfl) | refine BCase.t (by decide) ?_ | refine BCase.f (by decide) ?_ | refine CallP.pure _ rfl _ (pk) ?_ | (refine Idx.mapE (Ex.flats (a :: b :: cs)).length (by omega) hr1 hr2 ?_) | (refine Idx.lit rfl rfl ?_) | refine CallP.pure _ rfl _ (ba 5) ?_ | refine CallP.pure _ rfl _ (ib) ?_ | refine CallP.pure _ rfl _ (pI) ?_ | refine CallP.pure _ rfl _ (pL) ?_ | refine CallP.pure _ rfl _ (p1) ?_ | (refine BCase.df (show ¬ ((22 : Int).tmod 2 = 1) by decide) ?_) | with_reducible first | apply l_ | apply m_ | apply n_ | apply o_ | refine p_ (fun _ => ?_) (fun _ => ?_)) <;> (conv => whnf)))
    refine LoopC.mk Nat (fun j => [(4, .d (.c (.sl 1 ((a :: b :: cs).map fun k => ek k.flat)))), (8, slV 4 TokenD.c (X ++ comT (ps.take j))), (9, pInt .i64 ((j + 2 : Nat) : Int))]) (fun _ => []) [] (fun j => j ≤ cs.length) (fun j => cs.length - j) 0 (Nat.zero_le _) ?start ?round
    case start => exact ⟨[], rfl, rfl, ⟨.inl rfl, PLe.c (by rw [List.take_zero, show comT [] = [] from rfl, List.append_nil]), .inl rfl, trivial⟩, trivial⟩
    case round =>
     intro j hj
     have hj : j ≤ cs.length := hj
     have hc2 : (a :: b :: cs).length = cs.length + 2 := rfl
     by_cases g : j < cs.length
     ·have hjk : j + 2 < (a :: b :: cs).length := by omega
      have pe := ih cs[j] (by simp) ((a :: b :: cs)[j + 2]).flat rfl
      have pj := comj j g
      ((conv => whnf); repeat' ((first | (with_reducible first | apply a_ | apply b_ | apply c_) | ((with_reducible first | apply d_ | apply e_ | apply f_ | apply g_); focus first | omega | (simp only [q_] <;> omega)) | ((with_reducible first | apply i_ | apply h_); focus first | omega | (simp only [q_] <;> omega)) | ((with_reducible apply h_); focus first | decide | kernel_rfl) | refine BCase.t (by decide) ?_ | refine BCase.f (by decide) ?_ | (refine Idx.mapI (f := fun k => ek k.flat) (j + 2) rfl hjk ?_) | refine CallP.pure _ rfl _ (pe) ?_ | refine CallP.pure _ rfl _ (pC) ?_ | refine CallP.pure _ rfl _ (pj) ?_ | with_reducible first | apply l_ | apply m_ | apply n_ | apply o_ | refine p_ (fun _ => ?_) (fun _ => ?_)) <;> (conv => whnf)))
      all_goals first
       | exact ⟨j + 1, by show j + 1 ≤ _; omega, by show cs.length - (j + 1) < cs.length - j; omega, [], rfl, rfl, ⟨.inl rfl, .inl rfl, PLe.int (by omega), trivial⟩, trivial⟩
       | (exfalso; omega)
     ·have e : ps.take j = ps := List.take_of_length_le (by omega)
      rw [e]
      ((conv => whnf); repeat' ((first | (with_reducible first | apply a_ | apply b_ | apply c_) | ((with_reducible first | apply d_ | apply e_ | apply f_ | apply g_); focus first | omega | (simp only [q_] <;> omega)) | ((with_reducible first | apply i_ | apply h_); focus first | omega | (simp only [q_] <;> omega)) | ((with_reducible apply h_); focus first | decide | kernel_rfl) | refine BCase.t (by decide) ?_ | refine BCase.f (by decide) ?_ | refine CallP.pure _ rfl _ (pR) ?_ | refine CallP.pure _ rfl _ (pE) ?_ | with_reducible first | apply l_ | apply m_ | apply n_ | apply o_ | refine p_ (fun _ => ?_) (fun _ => ?_)) <;> (conv => whnf)))
      all_goals first | exact Ret.mk rfl | (exfalso; omega)
   ·have hq0 : q = [markT wNot] := hq
    subst hq0
    ((conv => whnf); repeat' ((first | (with_reducible first | apply a_ | apply b_ | apply c_) | ((with_reducible first | apply d_ | apply e_ | apply f_ | apply g_); focus first | omega | (simp only [q_] <;> omega)) | ((with_reducible first | apply i_ | apply h_); focus first | omega | (simp only [q_] <;> omega)) | ((with_reducible apply h_); focus first | decide | kernel_rfl) | refine BCase.t (by decide) ?_ | refine BCase.f (by decide) ?_ | refine CallP.pure _ rfl _ (pk) ?_ | (refine Idx.mapE (Ex.flats (a :: b :: cs)).length (by omega) hr1 hr2 ?_) | (refine Idx.lit rfl rfl ?_) | refine CallP.pure _ rfl _ (ba 5) ?_ | refine CallP.pure _ rfl _ (ib) ?_ | refine CallP.pure _ rfl _ (pI) ?_ | refine CallP.pure _ rfl _ (pL) ?_ | refine CallP.pure _ rfl _ (pN) ?_ | refine CallP.pure _ rfl _ (pq) ?_ | refine CallP.pure _ rfl _ (p1) ?_ | (refine BCase.dt (show ((23 : Int).tmod 2 = 1) by decide) ?_) | with_reducible first | apply l_ | apply m_ | apply n_ | apply o_ | refine p_ (fun _ => ?_) (fun _ => ?_)) <;> (conv => whnf)))
    refine LoopC.mk Nat (fun j => [(4, .d (.c (.sl 1 ((a :: b :: cs).map fun k => ek k.flat)))), (8, slV 4 TokenD.c (X ++ comT (ps.take j))), (9, pInt .i64 ((j + 2 : Nat) : Int))]) (fun _ => []) [] (fun j => j ≤ cs.length) (fun j => cs.length - j) 0 (Nat.zero_le _) ?start ?round
    case start => exact ⟨[], rfl, rfl, ⟨.inl rfl, PLe.c (by rw [List.take_zero, show comT [] = [] from rfl, List.append_nil]), .inl rfl, trivial⟩, trivial⟩
    case round =>
     intro j hj
     have hj : j ≤ cs.length := hj
     have hc2 : (a :: b :: cs).length = cs.length + 2 := rfl
     by_cases g : j < cs.length
     ·have hjk : j + 2 < (a :: b :: cs).length := by omega
      have pe := ih cs[j] (by simp) ((a :: b :: cs)[j + 2]).flat rfl
      have pj := comj j g
      ((conv => whnf); repeat' ((first | (with_reducible first | apply a_ | apply b_ | apply c_) | ((with_reducible first | apply d_ | apply e_ | apply f_ | apply g_); focus first | omega | (simp only [q_] <;> omega)) | ((with_reducible first | apply i_ | apply h_); focus first | omega | (simp only [q_] <;> omega)) | ((with_reducible apply h_); focus first | decide | kernel_rfl) | refine BCase.t (by decide) ?_ | refine BCase.f (by decide) ?_ | (refine Idx.mapI (f := fun k => ek k.flat) (j + 2) rfl hjk ?_) | refine CallP.pure _ rfl _ (pe) ?_ | refine CallP.pure _ rfl _ (pC) ?_ | refine CallP.pure _ rfl _ (pj) ?_ | with_reducible first | apply l_ | apply m_ | apply n_ | apply o_ | refine p_ (fun _ => ?_) (fun _ => ?_)) <;> (conv => whnf)))
      all_goals first
       | exact ⟨j + 1, by show j + 1 ≤ _; omega, by show cs.length - (j + 1) < cs.length - j; omega, [], rfl, rfl, ⟨.inl rfl, .inl rfl, PLe.int (by omega), trivial⟩, trivial⟩
       | (exfalso; omega)
     ·have e : ps.take j = ps := List.take_of_length_le (by omega)
      rw [e]
      ((conv => whnf); repeat' ((first | (with_reducible first | apply a_ | apply b_ | apply c_) | ((with_reducible first | apply d_ | apply e_ | apply f_ | apply g_); focus first | omega | (simp only [q_] <;> omega)) | ((with_reducible first | apply i_ | apply h_); focus first | omega | (simp only [q_] <;> omega)) | ((with_reducible apply h_); focus first | decide | kernel_rfl) | refine BCase.t (by decide) ?_ | refine BCase.f (by decide) ?_ | refine CallP.pure _ rfl _ (pR) ?_ | refine CallP.pure _ rfl _ (pE) ?_ | with_reducible first | apply l_ | apply m_ | apply n_ | apply o_ | refine p_ (fun _ => ?_) (fun _ => ?_)) <;> (conv => whnf)))
      all_goals first | exact Ret.mk rfl | (exfalso; omega)
end Go.Proofs.YtmcmagfondjopaaDoor.Pm
end
section
namespace Go.Proofs.YtmcmagfondjopaaDoor.Pm
open Go.RowKit K
set_option linter.unusedVariables false
set_option linter.unusedSimpArgs false
set_option maxRecDepth 100000
theorem law_ExprPrints (e : List NodeD) (he : okNd e) : Pure Tryd.prog 3 [slV 6 NodeD.c e] (pBool true) := by
 have hn := okNd_names he
 have p1 := p_Tokens e hn
 have p2 := p_exprcheck e hn
 have s0 := p_sametokens [] [] (by decide)
 rw [sameB_refl] at s0
 have s0 := s0.le (args' := [slV 4 TokenD.c [], .d (.c (.v (.slice none 0 0)))]) ⟨.inl rfl, .inr ⟨⟨4, rfl⟩, .inl rfl⟩, rfl⟩
 refine pure_of Tryd.func3 (by rfl) rfl (by kernel_rfl) (by rfl) ?_
 by_cases h : checkF e = 0
 ·obtain ⟨t, ht, rfl⟩ := right_of h
  have hb := prt_bound t
  have hl := ht.len
  have p3 := p_exprtoks _ t (Nat.le_refl _) ht _ rfl
  rw [tokens_flat ht] at p1
  rw [h] at p2
  have hml : ((prtX t).1.map TokenD.c).length = (prtX t).1.length := List.length_map _
  by_cases g : 120 < (prtX t).1.length
  ·rw [if_pos g] at p1
   ((conv => whnf); repeat' ((first | (with_reducible first | apply a_ | apply b_ | apply c_) | ((with_reducible first | apply d_ | apply e_ | apply f_ | apply g_); focus first | omega | (simp only [q_] <;> omega)) | ((with_reducible first | apply i_ | apply h_); focus first | omega | (simp only [q_] <;> omega)) | ((with_reducible apply h_); focus first | decide | kernel_rfl) | refine BCase.t (by decide) ?_ | refine BCase.f (by decide) ?_ | refine CallP.pure _ rfl _ (p1) ?_ | refine CallP.pure _ rfl _ (p2) ?_ | refine CallP.pure _ rfl _ (p3) ?_ | refine CallP.pure _ rfl _ (p_exprbegun) ?_ | refine CallP.pure _ rfl _ (s0) ?_ | with_reducible first | apply l_ | apply m_ | apply n_ | apply o_ | refine p_ (fun _ => ?_) (fun _ => ?_)) <;> (conv => whnf)))
   all_goals first | exact Ret.bool rfl | exact Ret.bool (by simp; done) | (exfalso; omega)
  ·rw [if_neg g] at p1
   have s1 := p_sametokens (prtX t).1 (prtX t).1 (by omega)
   rw [sameB_refl] at s1
   ((conv => whnf); repeat' ((first | (with_reducible first | apply a_ | apply b_ | apply c_) | ((with_reducible first | apply d_ | apply e_ | apply f_ | apply g_); focus first | omega | (simp only [q_] <;> omega)) | ((with_reducible first | apply i_ | apply h_); focus first | omega | (simp only [q_] <;> omega)) | ((with_reducible apply h_); focus first | decide | kernel_rfl) | refine BCase.t (by decide) ?_ | refine BCase.f (by decide) ?_ | refine CallP.pure _ rfl _ (p1) ?_ | refine CallP.pure _ rfl _ (p2) ?_ | refine CallP.pure _ rfl _ (p3) ?_ | refine CallP.pure _ rfl _ (p_exprbegun) ?_ | refine CallP.pure _ rfl _ (s1) ?_ | with_reducible first | apply l_ | apply m_ | apply n_ | apply o_ | refine p_ (fun _ => ?_) (fun _ => ?_)) <;> (conv => whnf)))
   all_goals first | exact Ret.bool rfl | exact Ret.bool (by simp; done) | (exfalso; omega)
 ·have e1 : tokensF e = ([], checkF e) := by unfold tokensF; rw [if_pos h]
  rw [e1] at p1
  ((conv => whnf); repeat' ((first | (with_reducible first | apply a_ | apply b_ | apply c_) | ((with_reducible first | apply d_ | apply e_ | apply f_ | apply g_); focus first | omega | (simp only [q_] <;> omega)) | ((with_reducible first | apply i_ | apply h_); focus first | omega | (simp only [q_] <;> omega)) | ((with_reducible apply h_); focus first | decide | kernel_rfl) | refine BCase.t (by decide) ?_ | refine BCase.f (by decide) ?_ | refine CallP.pure _ rfl _ (p1) ?_ | refine CallP.pure _ rfl _ (p2) ?_ | refine CallP.pure _ rfl _ (p_exprbegun) ?_ | refine CallP.pure _ rfl _ (s0) ?_ | with_reducible first | apply l_ | apply m_ | apply n_ | apply o_ | refine p_ (fun _ => ?_) (fun _ => ?_)) <;> (conv => whnf)))
  all_goals first | exact Ret.bool rfl | exact Ret.bool (by simp; done) | (exfalso; omega)
end Go.Proofs.YtmcmagfondjopaaDoor.Pm
end
