/- journal: PlayParts and what is committed -/
import Derived.Test.YtohlkegmmbdlaaaPjPlain4
import Derived.Test.YtohlkegmmbdlaaaPjData
namespace Go.Proofs.Ytohlkegmmbdlaaa.Pm
open Go.RowKit K DiskP
set_option linter.unusedVariables false
set_option linter.unusedSimpArgs false
set_option maxRecDepth 100000

theorem p_dcrash' (x : Dk) (m : Int) (hm : 0 ≤ m ∧ m ≤ 18446744073709551615) : Pure Try.prog 27 [dkV x, pInt .u64 m] (.tup [dkV (crashP x.1 x.2 m, []), pInt .i64 (check x.1 x.2)]) := by
  have := p_dcrash x m hm.1 hm.2
  rwa [settleP_crash x.1 x.2 (bitAt m) m (fun i _ => rfl)] at this
theorem playR_zero {s : Str} {ops : List Opr} (h : (playR s ops).2 ≠ 0) : (playR s ops).1 = zeroS := by
  unfold playR at h ⊢
  by_cases c : playE s ops = 0
  · rw [if_neg (not_not_intro c)] at h ⊢; exact playG_bad h
  · rw [if_pos c]
theorem zero_same : Pure Try.prog 19 [stV zeroS, .agg [.c (.v (.slice none 0 0)), .c (.v (.slice none 0 0)), .c (.v (.slice none 0 0)), .c (.v (.slice none 0 0))]] (pBool true) := by
  have p6 := p_samestore zeroS zeroS
  rw [sameD_self] at p6
  exact p6.le ⟨⟨.inl rfl, .inl rfl, .inl rfl, .inl rfl, rfl⟩, ⟨.inr ⟨⟨1, rfl⟩, .inl rfl⟩, .inr ⟨⟨2, rfl⟩, .inl rfl⟩, .inr ⟨⟨1, rfl⟩, .inl rfl⟩, .inr ⟨⟨2, rfl⟩, .inl rfl⟩, rfl⟩, rfl⟩
theorem take_rows (l : List Opr) (k : Nat) : ((l.map encO).drop (0 : Int).toNat).take ((k : Int).toNat - (0 : Int).toNat) = (l.take k).map encO := by
  rw [show (0 : Int).toNat = 0 from rfl, List.drop_zero, Nat.sub_zero, Int.toNat_natCast, List.map_take]
theorem drop_rows (l : List Opr) (k : Nat) : ((l.map encO).drop (k : Int).toNat).take (((l.map encO).length : Int).toNat - (k : Int).toNat) = (l.drop k).map encO := by
  rw [Int.toNat_natCast, Int.toNat_natCast, List.map_drop]
  exact List.take_of_length_le (by rw [List.length_drop]; exact Nat.le_refl _)
theorem same_self (s : Str) : Pure Try.prog 19 [stV s, stV s] (pBool true) := by
  have := p_samestore s s
  rwa [sameD_self, sameD_self] at this
theorem law_PlayParts (x : StoreD) (hx : x.ok) (y : List OpD) (hy : hOp y) (k : Int) (hk : -9223372036854775808 ≤ k ∧ k ≤ 9223372036854775807) : Pure Try.prog 5 [.agg (x.c.map D.c), slV 3 OpD.c y, pInt .i64 k] (pBool true) := by
  have h3 := hOp_of hy
  rw [store_v, ops_v]
  generalize toS x = s at *
  generalize y.map toO = l at *
  have p1 := p_play s l h3
  have lm : (l.map encO).length = l.length := List.length_map ..
  refine pure_of Try.func5 (by rfl) rfl (by kernel_rfl) (by rfl) ?_
  by_cases h : (playR s l).2 = 0
  · by_cases hr : 0 ≤ k ∧ k ≤ l.length
    · obtain ⟨n, rfl⟩ : ∃ n : Nat, k = n := ⟨k.toNat, by omega⟩
      obtain ⟨q1, q2⟩ := playR_parts h n
      have p2 := (p_play s (l.take n) (by rw [List.length_take]; omega)).to (args' := [stV s, .d (.c (.sl 3 (((l.map encO).drop (0 : Int).toNat).take ((n : Int).toNat - (0 : Int).toNat))))]) (by rw [take_rows]) rfl
      have p3 := (p_play (playR s (l.take n)).1 (l.drop n) (by rw [List.length_drop]; omega)).to (args' := [stV (playR s (l.take n)).1, .d (.c (.sl 3 (((l.map encO).drop (n : Int).toNat).take (((l.map encO).length : Int).toNat - (n : Int).toNat))))]) (by rw [drop_rows]) rfl
      rw [q1] at p2
      rw [q2] at p3
      have p4 := same_self (playR s l).1
      rw [h] at p1 p3
      (((conv => whnf); repeat ((first | with_reducible refine BCase.tt ?_ | with_reducible refine BCase.ff ?_); (conv => whnf))); repeat' (first | ((first | with_reducible refine Wr.u8 ?_ | ((first | with_reducible refine Wr.ci ?wxs ?_ | with_reducible refine Wr.c3 ?wxs ?_ | with_reducible refine Wr.c6 ?wxs ?_ | with_reducible refine BCase.dt ?wxs ?_); case wxs => (first | omega | (simp only [lens, true_and, and_true]; (try omega); done))) | (with_reducible refine BCase.df ?wxs ?_; case wxs => (first | omega | (simp only [lens, true_and, and_true]; (try omega); done))) | (with_reducible refine Need.mk ?wxs ?_; case wxs => first | (first | omega | (simp only [lens, true_and, and_true]; (try omega); done)) | decide | kernel_rfl) | refine BCase.t (by decide) ?_ | refine BCase.f (by decide) ?_); ((conv => whnf); repeat ((first | with_reducible refine BCase.tt ?_ | with_reducible refine BCase.ff ?_); (conv => whnf)))) | ((refine CallP.pure _ rfl _ (p1) ?_); ((conv => whnf); repeat ((first | with_reducible refine BCase.tt ?_ | with_reducible refine BCase.ff ?_); (conv => whnf)))) | ((refine CallP.pure _ rfl _ (p_jbegun) ?_); ((conv => whnf); repeat ((first | with_reducible refine BCase.tt ?_ | with_reducible refine BCase.ff ?_); (conv => whnf)))) | ((refine CallP.pure _ rfl _ (p2) ?_); ((conv => whnf); repeat ((first | with_reducible refine BCase.tt ?_ | with_reducible refine BCase.ff ?_); (conv => whnf)))) | ((refine CallP.pure _ rfl _ (p3) ?_); ((conv => whnf); repeat ((first | with_reducible refine BCase.tt ?_ | with_reducible refine BCase.ff ?_); (conv => whnf)))) | ((refine CallP.pure _ rfl _ (p4) ?_); ((conv => whnf); repeat ((first | with_reducible refine BCase.tt ?_ | with_reducible refine BCase.ff ?_); (conv => whnf)))) | ((with_reducible refine EmpOr.app ?_); ((conv => whnf); repeat ((first | with_reducible refine BCase.tt ?_ | with_reducible refine BCase.ff ?_); (conv => whnf)))) | (first | with_reducible refine BCase.not ?_ | with_reducible refine BCase.and ?_ | with_reducible refine BCase.or ?_) | ((with_reducible refine BCase.d (fun _ => ?_) (fun _ => ?_)) <;> ((conv => whnf); repeat ((first | with_reducible refine BCase.tt ?_ | with_reducible refine BCase.ff ?_); (conv => whnf))))))
      all_goals exact Ret.bool (by first | rfl | simp)
    · rw [h] at p1
      by_cases hk0 : k < 0
      · (((conv => whnf); repeat ((first | with_reducible refine BCase.tt ?_ | with_reducible refine BCase.ff ?_); (conv => whnf))); repeat' (first | ((first | with_reducible refine Wr.u8 ?_ | ((first | with_reducible refine Wr.ci ?wxs ?_ | with_reducible refine Wr.c3 ?wxs ?_ | with_reducible refine Wr.c6 ?wxs ?_ | with_reducible refine BCase.dt ?wxs ?_); case wxs => (first | omega | (simp only [lens, true_and, and_true]; (try omega); done))) | (with_reducible refine BCase.df ?wxs ?_; case wxs => (first | omega | (simp only [lens, true_and, and_true]; (try omega); done))) | (with_reducible refine Need.mk ?wxs ?_; case wxs => first | (first | omega | (simp only [lens, true_and, and_true]; (try omega); done)) | decide | kernel_rfl) | refine BCase.t (by decide) ?_ | refine BCase.f (by decide) ?_); ((conv => whnf); repeat ((first | with_reducible refine BCase.tt ?_ | with_reducible refine BCase.ff ?_); (conv => whnf)))) | ((refine CallP.pure _ rfl _ (p1) ?_); ((conv => whnf); repeat ((first | with_reducible refine BCase.tt ?_ | with_reducible refine BCase.ff ?_); (conv => whnf)))) | ((refine CallP.pure _ rfl _ (p_jbegun) ?_); ((conv => whnf); repeat ((first | with_reducible refine BCase.tt ?_ | with_reducible refine BCase.ff ?_); (conv => whnf)))) | ((with_reducible refine EmpOr.app ?_); ((conv => whnf); repeat ((first | with_reducible refine BCase.tt ?_ | with_reducible refine BCase.ff ?_); (conv => whnf)))) | (first | with_reducible refine BCase.not ?_ | with_reducible refine BCase.and ?_ | with_reducible refine BCase.or ?_) | ((with_reducible refine BCase.d (fun _ => ?_) (fun _ => ?_)) <;> ((conv => whnf); repeat ((first | with_reducible refine BCase.tt ?_ | with_reducible refine BCase.ff ?_); (conv => whnf))))))
        all_goals exact Ret.bool (by first | rfl | simp)
      · (((conv => whnf); repeat ((first | with_reducible refine BCase.tt ?_ | with_reducible refine BCase.ff ?_); (conv => whnf))); repeat' (first | ((first | with_reducible refine Wr.u8 ?_ | ((first | with_reducible refine Wr.ci ?wxs ?_ | with_reducible refine Wr.c3 ?wxs ?_ | with_reducible refine Wr.c6 ?wxs ?_ | with_reducible refine BCase.dt ?wxs ?_); case wxs => (first | omega | (simp only [lens, true_and, and_true]; (try omega); done))) | (with_reducible refine BCase.df ?wxs ?_; case wxs => (first | omega | (simp only [lens, true_and, and_true]; (try omega); done))) | (with_reducible refine Need.mk ?wxs ?_; case wxs => first | (first | omega | (simp only [lens, true_and, and_true]; (try omega); done)) | decide | kernel_rfl) | refine BCase.t (by decide) ?_ | refine BCase.f (by decide) ?_); ((conv => whnf); repeat ((first | with_reducible refine BCase.tt ?_ | with_reducible refine BCase.ff ?_); (conv => whnf)))) | ((refine CallP.pure _ rfl _ (p1) ?_); ((conv => whnf); repeat ((first | with_reducible refine BCase.tt ?_ | with_reducible refine BCase.ff ?_); (conv => whnf)))) | ((refine CallP.pure _ rfl _ (p_jbegun) ?_); ((conv => whnf); repeat ((first | with_reducible refine BCase.tt ?_ | with_reducible refine BCase.ff ?_); (conv => whnf)))) | ((with_reducible refine EmpOr.app ?_); ((conv => whnf); repeat ((first | with_reducible refine BCase.tt ?_ | with_reducible refine BCase.ff ?_); (conv => whnf)))) | (first | with_reducible refine BCase.not ?_ | with_reducible refine BCase.and ?_ | with_reducible refine BCase.or ?_) | ((with_reducible refine BCase.d (fun _ => ?_) (fun _ => ?_)) <;> ((conv => whnf); repeat ((first | with_reducible refine BCase.tt ?_ | with_reducible refine BCase.ff ?_); (conv => whnf))))))
        all_goals exact Ret.bool (by first | rfl | simp)
  · rw [playR_zero h] at p1
    (((conv => whnf); repeat ((first | with_reducible refine BCase.tt ?_ | with_reducible refine BCase.ff ?_); (conv => whnf))); repeat' (first | ((first | with_reducible refine Wr.u8 ?_ | ((first | with_reducible refine Wr.ci ?wxs ?_ | with_reducible refine Wr.c3 ?wxs ?_ | with_reducible refine Wr.c6 ?wxs ?_ | with_reducible refine BCase.dt ?wxs ?_); case wxs => (first | omega | (simp only [lens, true_and, and_true]; (try omega); done))) | (with_reducible refine BCase.df ?wxs ?_; case wxs => (first | omega | (simp only [lens, true_and, and_true]; (try omega); done))) | (with_reducible refine Need.mk ?wxs ?_; case wxs => first | (first | omega | (simp only [lens, true_and, and_true]; (try omega); done)) | decide | kernel_rfl) | refine BCase.t (by decide) ?_ | refine BCase.f (by decide) ?_); ((conv => whnf); repeat ((first | with_reducible refine BCase.tt ?_ | with_reducible refine BCase.ff ?_); (conv => whnf)))) | ((refine CallP.pure _ rfl _ (p1) ?_); ((conv => whnf); repeat ((first | with_reducible refine BCase.tt ?_ | with_reducible refine BCase.ff ?_); (conv => whnf)))) | ((refine CallP.pure _ rfl _ (p_jbegun) ?_); ((conv => whnf); repeat ((first | with_reducible refine BCase.tt ?_ | with_reducible refine BCase.ff ?_); (conv => whnf)))) | ((refine CallP.pure _ rfl _ (zero_same) ?_); ((conv => whnf); repeat ((first | with_reducible refine BCase.tt ?_ | with_reducible refine BCase.ff ?_); (conv => whnf)))) | ((with_reducible refine EmpOr.app ?_); ((conv => whnf); repeat ((first | with_reducible refine BCase.tt ?_ | with_reducible refine BCase.ff ?_); (conv => whnf)))) | (first | with_reducible refine BCase.not ?_ | with_reducible refine BCase.and ?_ | with_reducible refine BCase.or ?_) | ((with_reducible refine BCase.d (fun _ => ?_) (fun _ => ?_)) <;> ((conv => whnf); repeat ((first | with_reducible refine BCase.tt ?_ | with_reducible refine BCase.ff ?_); (conv => whnf))))))
    all_goals exact Ret.bool (by first | rfl | simp)
theorem settled_new {p j : List ByteArray} {l : List DiskP.Wr} (h : StepsOk p j l) : settled p l all1 = crashP p l all1 := (if_pos h.clAll).symm
theorem stepsR_len {s : Str} {l : List DiskP.Wr} (h : stepsE s l = 0) : stepsR s l = stepsO s.1.1 l ∧ (stepsR s l).length = 2 * l.length + 6 ∧ (stepsR s l).length ≤ 100 := by
  obtain ⟨_, _, _, _, g, _⟩ := stepsE_ok h
  have e : stepsR s l = stepsO s.1.1 l := if_pos h
  have hl : (stepsO s.1.1 l).length = 2 * l.length + 6 := by
    unfold stepsO dEnts jHot endO
    simp only [List.length_append, jEnts_len, List.length_map, List.length_cons, List.length_nil]; omega
  rw [e]
  exact ⟨rfl, hl, by omega⟩
theorem law_CommitDone (x : StoreD) (hx : x.ok) (y : List WriteD) (hy : hWr y) : Pure Try.prog 7 [.agg (x.c.map D.c), slV 2 WriteD.c y] (pBool true) := by
  obtain ⟨h1, h2⟩ := hStore_of hx
  obtain ⟨h3, h4⟩ := hWr_of hy
  rw [store_v, writes_v]
  generalize toS x = s at *
  generalize y.map toW = l at *
  have p1 := p_steps s l h1 h2 h3 h4
  refine pure_of Try.func7 (by rfl) rfl (by kernel_rfl) (by rfl) ?_
  by_cases h : stepsE s l = 0
  · obtain ⟨ok, es⟩ := stepsOk h
    obtain ⟨q1, q2, q3⟩ := stepsR_len h
    have hk : (stepsO s.1.1 l).length ≤ (stepsO s.1.1 l).length := Nat.le_refl _
    obtain ⟨t, t1, t2⟩ := steps_part ok _ hk
    rw [List.take_length, ← es, ← q1] at t1
    have hcalm := ((t2 0 0).2 rfl).2
    have p2 := p_play s (stepsR s l) (by omega)
    rw [playR_ok (stepsE_ok h).1 q3, t1] at p2
    have p3 := p_plainend t
    rw [hcalm.plain] at p3
    have p4 := p_settled s.1.1 l all1 (by decide) (by decide)
    rw [settled_new ok] at p4
    have p5 := p_sametexts t.1.1 (crashP s.1.1 l all1)
    rw [decide_eq_true (show t.1.1 = crashP s.1.1 l all1 by rw [hcalm.d])] at p5
    rw [h] at p1
    (((conv => whnf); repeat ((first | with_reducible refine BCase.tt ?_ | with_reducible refine BCase.ff ?_); (conv => whnf))); repeat' (first | ((first | with_reducible refine Wr.u8 ?_ | ((first | with_reducible refine Wr.ci ?wxs ?_ | with_reducible refine Wr.c3 ?wxs ?_ | with_reducible refine Wr.c6 ?wxs ?_ | with_reducible refine BCase.dt ?wxs ?_); case wxs => (first | omega | (simp only [lens, true_and, and_true]; (try omega); done))) | (with_reducible refine BCase.df ?wxs ?_; case wxs => (first | omega | (simp only [lens, true_and, and_true]; (try omega); done))) | (with_reducible refine Need.mk ?wxs ?_; case wxs => first | (first | omega | (simp only [lens, true_and, and_true]; (try omega); done)) | decide | kernel_rfl) | refine BCase.t (by decide) ?_ | refine BCase.f (by decide) ?_); ((conv => whnf); repeat ((first | with_reducible refine BCase.tt ?_ | with_reducible refine BCase.ff ?_); (conv => whnf)))) | ((refine CallP.pure _ rfl _ (p1) ?_); ((conv => whnf); repeat ((first | with_reducible refine BCase.tt ?_ | with_reducible refine BCase.ff ?_); (conv => whnf)))) | ((refine CallP.pure _ rfl _ (p_jbegun) ?_); ((conv => whnf); repeat ((first | with_reducible refine BCase.tt ?_ | with_reducible refine BCase.ff ?_); (conv => whnf)))) | ((refine CallP.pure _ rfl _ (p2) ?_); ((conv => whnf); repeat ((first | with_reducible refine BCase.tt ?_ | with_reducible refine BCase.ff ?_); (conv => whnf)))) | ((refine CallP.pure _ rfl _ (p3) ?_); ((conv => whnf); repeat ((first | with_reducible refine BCase.tt ?_ | with_reducible refine BCase.ff ?_); (conv => whnf)))) | ((refine CallP.pure _ rfl _ (p4) ?_); ((conv => whnf); repeat ((first | with_reducible refine BCase.tt ?_ | with_reducible refine BCase.ff ?_); (conv => whnf)))) | ((refine CallP.pure _ rfl _ (p5) ?_); ((conv => whnf); repeat ((first | with_reducible refine BCase.tt ?_ | with_reducible refine BCase.ff ?_); (conv => whnf)))) | ((with_reducible refine EmpOr.app ?_); ((conv => whnf); repeat ((first | with_reducible refine BCase.tt ?_ | with_reducible refine BCase.ff ?_); (conv => whnf)))) | (first | with_reducible refine BCase.not ?_ | with_reducible refine BCase.and ?_ | with_reducible refine BCase.or ?_) | ((with_reducible refine BCase.d (fun _ => ?_) (fun _ => ?_)) <;> ((conv => whnf); repeat ((first | with_reducible refine BCase.tt ?_ | with_reducible refine BCase.ff ?_); (conv => whnf))))))
    all_goals exact Ret.bool (by first | rfl | simp)
  · have e : stepsR s l = [] := if_neg h
    rw [e] at p1
    (((conv => whnf); repeat ((first | with_reducible refine BCase.tt ?_ | with_reducible refine BCase.ff ?_); (conv => whnf))); repeat' (first | ((first | with_reducible refine Wr.u8 ?_ | ((first | with_reducible refine Wr.ci ?wxs ?_ | with_reducible refine Wr.c3 ?wxs ?_ | with_reducible refine Wr.c6 ?wxs ?_ | with_reducible refine BCase.dt ?wxs ?_); case wxs => (first | omega | (simp only [lens, true_and, and_true]; (try omega); done))) | (with_reducible refine BCase.df ?wxs ?_; case wxs => (first | omega | (simp only [lens, true_and, and_true]; (try omega); done))) | (with_reducible refine Need.mk ?wxs ?_; case wxs => first | (first | omega | (simp only [lens, true_and, and_true]; (try omega); done)) | decide | kernel_rfl) | refine BCase.t (by decide) ?_ | refine BCase.f (by decide) ?_); ((conv => whnf); repeat ((first | with_reducible refine BCase.tt ?_ | with_reducible refine BCase.ff ?_); (conv => whnf)))) | ((refine CallP.pure _ rfl _ (p1) ?_); ((conv => whnf); repeat ((first | with_reducible refine BCase.tt ?_ | with_reducible refine BCase.ff ?_); (conv => whnf)))) | ((refine CallP.pure _ rfl _ (p_jbegun) ?_); ((conv => whnf); repeat ((first | with_reducible refine BCase.tt ?_ | with_reducible refine BCase.ff ?_); (conv => whnf)))) | ((with_reducible refine EmpOr.app ?_); ((conv => whnf); repeat ((first | with_reducible refine BCase.tt ?_ | with_reducible refine BCase.ff ?_); (conv => whnf)))) | (first | with_reducible refine BCase.not ?_ | with_reducible refine BCase.and ?_ | with_reducible refine BCase.or ?_) | ((with_reducible refine BCase.d (fun _ => ?_) (fun _ => ?_)) <;> ((conv => whnf); repeat ((first | with_reducible refine BCase.tt ?_ | with_reducible refine BCase.ff ?_); (conv => whnf))))))
    all_goals exact Ret.bool (by first | rfl | simp)
theorem law_CommitStill (x : StoreD) (hx : x.ok) (y : List WriteD) (hy : hWr y) : Pure Try.prog 8 [.agg (x.c.map D.c), slV 2 WriteD.c y] (pBool true) := by
  obtain ⟨h1, h2⟩ := hStore_of hx
  obtain ⟨h3, h4⟩ := hWr_of hy
  rw [store_v, writes_v]
  generalize toS x = s at *
  generalize y.map toW = l at *
  have p1 := p_recover s h1 h2
  refine pure_of Try.func8 (by rfl) rfl (by kernel_rfl) (by rfl) ?_
  by_cases h : (recoverR s).2 = 0
  · obtain ⟨R, hc⟩ := recover_calm h
    rw [h] at p1
    generalize (recoverR s).1 = t at *
    obtain ⟨g1, g2, _, _⟩ := quiet (e := []) (.inl hc)
    have p2 := p_recover t g1 g2
    rw [hc.recover] at p2
    have p3 := p_plainend t
    rw [hc.plain] at p3
    have p4 := p_steps t l g1 g2 h3 h4
    have p5 := p_stepscheck t l g1 g2 h3 h4
    have p6 := same_self t
    (((conv => whnf); repeat ((first | with_reducible refine BCase.tt ?_ | with_reducible refine BCase.ff ?_); (conv => whnf))); repeat' (first | ((first | with_reducible refine Wr.u8 ?_ | ((first | with_reducible refine Wr.ci ?wxs ?_ | with_reducible refine Wr.c3 ?wxs ?_ | with_reducible refine Wr.c6 ?wxs ?_ | with_reducible refine BCase.dt ?wxs ?_); case wxs => (first | omega | (simp only [lens, true_and, and_true]; (try omega); done))) | (with_reducible refine BCase.df ?wxs ?_; case wxs => (first | omega | (simp only [lens, true_and, and_true]; (try omega); done))) | (with_reducible refine Need.mk ?wxs ?_; case wxs => first | (first | omega | (simp only [lens, true_and, and_true]; (try omega); done)) | decide | kernel_rfl) | refine BCase.t (by decide) ?_ | refine BCase.f (by decide) ?_); ((conv => whnf); repeat ((first | with_reducible refine BCase.tt ?_ | with_reducible refine BCase.ff ?_); (conv => whnf)))) | ((refine CallP.pure _ rfl _ (p1) ?_); ((conv => whnf); repeat ((first | with_reducible refine BCase.tt ?_ | with_reducible refine BCase.ff ?_); (conv => whnf)))) | ((refine CallP.pure _ rfl _ (p_jbegun) ?_); ((conv => whnf); repeat ((first | with_reducible refine BCase.tt ?_ | with_reducible refine BCase.ff ?_); (conv => whnf)))) | ((refine CallP.pure _ rfl _ (p2) ?_); ((conv => whnf); repeat ((first | with_reducible refine BCase.tt ?_ | with_reducible refine BCase.ff ?_); (conv => whnf)))) | ((refine CallP.pure _ rfl _ (p3) ?_); ((conv => whnf); repeat ((first | with_reducible refine BCase.tt ?_ | with_reducible refine BCase.ff ?_); (conv => whnf)))) | ((refine CallP.pure _ rfl _ (p4) ?_); ((conv => whnf); repeat ((first | with_reducible refine BCase.tt ?_ | with_reducible refine BCase.ff ?_); (conv => whnf)))) | ((refine CallP.pure _ rfl _ (p5) ?_); ((conv => whnf); repeat ((first | with_reducible refine BCase.tt ?_ | with_reducible refine BCase.ff ?_); (conv => whnf)))) | ((refine CallP.pure _ rfl _ (p6) ?_); ((conv => whnf); repeat ((first | with_reducible refine BCase.tt ?_ | with_reducible refine BCase.ff ?_); (conv => whnf)))) | ((with_reducible refine EmpOr.app ?_); ((conv => whnf); repeat ((first | with_reducible refine BCase.tt ?_ | with_reducible refine BCase.ff ?_); (conv => whnf)))) | (first | with_reducible refine BCase.not ?_ | with_reducible refine BCase.and ?_ | with_reducible refine BCase.or ?_) | ((with_reducible refine BCase.d (fun _ => ?_) (fun _ => ?_)) <;> ((conv => whnf); repeat ((first | with_reducible refine BCase.tt ?_ | with_reducible refine BCase.ff ?_); (conv => whnf))))))
    all_goals exact Ret.bool (by first | rfl | simp)
  · have e : (recoverR s).1 = zeroS := by
      unfold recoverR at h ⊢
      by_cases c : (undoR s).2 = 0
      · rw [if_neg (not_not_intro c)] at h ⊢; exact playR_zero h
      · rw [if_pos c]
    rw [e] at p1
    (((conv => whnf); repeat ((first | with_reducible refine BCase.tt ?_ | with_reducible refine BCase.ff ?_); (conv => whnf))); repeat' (first | ((first | with_reducible refine Wr.u8 ?_ | ((first | with_reducible refine Wr.ci ?wxs ?_ | with_reducible refine Wr.c3 ?wxs ?_ | with_reducible refine Wr.c6 ?wxs ?_ | with_reducible refine BCase.dt ?wxs ?_); case wxs => (first | omega | (simp only [lens, true_and, and_true]; (try omega); done))) | (with_reducible refine BCase.df ?wxs ?_; case wxs => (first | omega | (simp only [lens, true_and, and_true]; (try omega); done))) | (with_reducible refine Need.mk ?wxs ?_; case wxs => first | (first | omega | (simp only [lens, true_and, and_true]; (try omega); done)) | decide | kernel_rfl) | refine BCase.t (by decide) ?_ | refine BCase.f (by decide) ?_); ((conv => whnf); repeat ((first | with_reducible refine BCase.tt ?_ | with_reducible refine BCase.ff ?_); (conv => whnf)))) | ((refine CallP.pure _ rfl _ (p1) ?_); ((conv => whnf); repeat ((first | with_reducible refine BCase.tt ?_ | with_reducible refine BCase.ff ?_); (conv => whnf)))) | ((refine CallP.pure _ rfl _ (p_jbegun) ?_); ((conv => whnf); repeat ((first | with_reducible refine BCase.tt ?_ | with_reducible refine BCase.ff ?_); (conv => whnf)))) | ((refine CallP.pure _ rfl _ (zero_same) ?_); ((conv => whnf); repeat ((first | with_reducible refine BCase.tt ?_ | with_reducible refine BCase.ff ?_); (conv => whnf)))) | ((with_reducible refine EmpOr.app ?_); ((conv => whnf); repeat ((first | with_reducible refine BCase.tt ?_ | with_reducible refine BCase.ff ?_); (conv => whnf)))) | (first | with_reducible refine BCase.not ?_ | with_reducible refine BCase.and ?_ | with_reducible refine BCase.or ?_) | ((with_reducible refine BCase.d (fun _ => ?_) (fun _ => ?_)) <;> ((conv => whnf); repeat ((first | with_reducible refine BCase.tt ?_ | with_reducible refine BCase.ff ?_); (conv => whnf))))))
    all_goals exact Ret.bool (by first | rfl | simp)
end Go.Proofs.Ytohlkegmmbdlaaa.Pm
