/- Parts of the proof, one behind the other: PjWhole. Conditions: none beyond what each theorem says. -/
import Derived.Test.YtohlkegmmbdlaaaZ5
section
namespace Go.Proofs.Ytohlkegmmbdlaaa.Pm
open Go.RowKit K DiskP
set_option linter.unusedVariables false
set_option linter.unusedSimpArgs false
set_option maxRecDepth 100000
set_option pp.deepTerms false
set_option pp.deepTerms.threshold 4

abbrev hU (a : Int) : Prop := 0 ≤ a ∧ a ≤ 18446744073709551615
theorem law_CommitWhole (x : StoreD) (hx : x.ok) (y : List WriteD) (hy : hWr y) (k : Int) (hk : -9223372036854775808 ≤ k ∧ k ≤ 9223372036854775807) (a : Int) (ha : hU a) (b : Int) (hb : hU b) : Pure Try.prog 9 [.agg (x.c.map D.c), slV 2 WriteD.c y, pInt .i64 k, pInt .u64 a, pInt .u64 b] (pBool true) := by
  obtain ⟨h1, h2⟩ := hStore_of hx
  obtain ⟨h3, h4⟩ := hWr_of hy
  rw [store_v, writes_v]
  generalize toS x = s at *
  generalize y.map toW = l at *
  have p1 := p_steps s l h1 h2 h3 h4
  have lm : ((stepsR s l).map encO).length = (stepsR s l).length := List.length_map ..
  have lw : (l.map encW).length = l.length := List.length_map ..
  refine pure_of Try.func9 (by rfl) rfl (by kernel_rfl) (by rfl) ?_
  by_cases h : stepsE s l = 0
  · obtain ⟨ok, es⟩ := stepsOk h
    obtain ⟨q1, q2, q3⟩ := stepsR_len h
    rw [h] at p1
    by_cases hr : 0 ≤ k ∧ k ≤ (stepsR s l).length
    · obtain ⟨n, rfl⟩ : ∃ n : Nat, k = n := ⟨k.toNat, by omega⟩
      have hn : n ≤ (stepsO s.1.1 l).length := by rw [← q1]; omega
      obtain ⟨t, t1, t2⟩ := steps_part ok n hn
      obtain ⟨f1, f2⟩ := t2 a b
      rw [← es, ← q1] at t1
      rw [← q1] at f2
      have hst : playR s ((stepsR s l).take n) = (t, 0) := by rw [playR_ok (stepsE_ok h).1 (by rw [List.length_take]; omega), t1]
      have hct : storeChk t = 0 := by
        have := playG_ok (ops := (stepsR s l).take n) (stepsE_ok h).1 (by rw [t1])
        rwa [t1] at this
      obtain ⟨c1, c2⟩ := storeChk_ok hct
      have p2 := (p_play s ((stepsR s l).take n) (by rw [List.length_take]; omega)).to (args' := [stV s, .d (.c (.sl 3 ((((stepsR s l).map encO).drop (0 : Int).toNat).take ((n : Int).toNat - (0 : Int).toNat))))]) (by rw [take_rows]) rfl
      rw [hst] at p2
      have p3 := p_dcrash' t.1 a ha
      have p4 := p_dcrash' t.2 b hb
      rw [c1] at p3
      rw [c2] at p4
      -- what is recovered
      have main : ∃ R u, recoverR (crashS t a b) = (u, 0) ∧ plainE u = true ∧ u.1.1 = R ∧ (crashS t a b).1.2.length ≤ 140737488355328 ∧ (crashS t a b).2.2.length ≤ 140737488355328 ∧
          ((R = s.1.1 ∧ n < (stepsR s l).length) ∨ (R = crashP s.1.1 l all1 ∧ l.length + 2 < n)) := by
        by_cases e : n = (stepsR s l).length
        · have hc := (f2 e).1
          obtain ⟨u, u1, u2, u3⟩ := recovered (e := []) (.inl hc)
          obtain ⟨z1, z2, _, _⟩ := quiet (e := []) (.inl hc)
          exact ⟨_, u, u1, u2, u3, z1, z2, .inr ⟨rfl, by omega⟩⟩
        · rcases f1 with hc | hc | ⟨hgt, hc⟩
          · obtain ⟨u, u1, u2, u3⟩ := recovered (e := []) (.inl hc)
            obtain ⟨z1, z2, _, _⟩ := quiet (e := []) (.inl hc)
            exact ⟨_, u, u1, u2, u3, z1, z2, .inl ⟨rfl, by omega⟩⟩
          · obtain ⟨u, u1, u2, u3⟩ := recovered (.inr hc)
            obtain ⟨z1, z2, _, _⟩ := quiet (.inr hc)
            exact ⟨_, u, u1, u2, u3, z1, z2, .inl ⟨rfl, by omega⟩⟩
          · obtain ⟨u, u1, u2, u3⟩ := recovered (e := []) (.inl hc)
            obtain ⟨z1, z2, _, _⟩ := quiet (e := []) (.inl hc)
            exact ⟨_, u, u1, u2, u3, z1, z2, .inr ⟨rfl, by omega⟩⟩
      obtain ⟨R, u, u1, u2, u3, z1, z2, hR⟩ := main
      have p5 := p_recover (crashS t a b) z1 z2
      rw [u1] at p5
      have p6 := p_plainend u
      rw [u2] at p6
      have p7 := p_settled s.1.1 l all1 (by decide) (by decide)
      rw [settled_new ok] at p7
      have p8 := p_sametexts u.1.1 s.1.1
      have p9 := p_sametexts u.1.1 (crashP s.1.1 l all1)
      have hl31 := ok.len
      have hn2 : n ≤ 68 := by omega
      rcases hR with ⟨r1, r2⟩ | ⟨r1, r2⟩
      · rw [decide_eq_true (u3.trans r1)] at p8
        have hlt : (n : Int) < (((stepsR s l).map encO).length : Int) := by rw [lm]; omega
        (((conv => whnf); repeat ((with_reducible first | refine BCase.tt ?_ | refine BCase.ff ?_); (conv => whnf))); repeat' ((first | with_reducible refine Wr.u8 ?_ | ((with_reducible first | refine Wr.ci ?wxs ?_ | refine Wr.c3 ?wxs ?_ | refine Wr.c6 ?wxs ?_ | refine BCase.dt ?wxs ?_); case wxs => (first | omega | (simp only [lens, true_and, and_true]; (try omega); done))) | ((with_reducible refine BCase.df ?wxs ?_); case wxs => (first | omega | (simp only [lens, true_and, and_true]; (try omega); done))) | ((with_reducible refine Need.mk ?wxs ?_); case wxs => first | (first | omega | (simp only [lens, true_and, and_true]; (try omega); done)) | decide | kernel_rfl) | refine BCase.t (by decide) ?_ | refine BCase.f (by decide) ?_ | refine CallP.pure _ rfl _ (p1) ?_ | refine CallP.pure _ rfl _ (p_jbegun) ?_ | refine CallP.pure _ rfl _ (p2) ?_ | refine CallP.pure _ rfl _ (p3) ?_ | refine CallP.pure _ rfl _ (p4) ?_ | refine CallP.pure _ rfl _ (p5) ?_ | refine CallP.pure _ rfl _ (p6) ?_ | refine CallP.pure _ rfl _ (p7) ?_ | refine CallP.pure _ rfl _ (p8) ?_ | refine CallP.pure _ rfl _ (p9) ?_ | with_reducible (first | refine EmpOr.app ?_ | refine BCase.not ?_ | refine BCase.and ?_ | refine BCase.or ?_ | refine BCase.d (fun _ => ?_) (fun _ => ?_))) <;> ((conv => whnf); repeat ((with_reducible first | refine BCase.tt ?_ | refine BCase.ff ?_); (conv => whnf)))))
        all_goals exact Ret.bool (by first | rfl | simp)
      · rw [decide_eq_true (u3.trans r1)] at p9
        have hlt : ¬ (n : Int) < ((l.map encW).length : Int) + 2 := by rw [lw]; omega
        (((conv => whnf); repeat ((with_reducible first | refine BCase.tt ?_ | refine BCase.ff ?_); (conv => whnf))); repeat' ((first | with_reducible refine Wr.u8 ?_ | ((with_reducible first | refine Wr.ci ?wxs ?_ | refine Wr.c3 ?wxs ?_ | refine Wr.c6 ?wxs ?_ | refine BCase.dt ?wxs ?_); case wxs => (first | omega | (simp only [lens, true_and, and_true]; (try omega); done))) | ((with_reducible refine BCase.df ?wxs ?_); case wxs => (first | omega | (simp only [lens, true_and, and_true]; (try omega); done))) | ((with_reducible refine Need.mk ?wxs ?_); case wxs => first | (first | omega | (simp only [lens, true_and, and_true]; (try omega); done)) | decide | kernel_rfl) | refine BCase.t (by decide) ?_ | refine BCase.f (by decide) ?_ | refine CallP.pure _ rfl _ (p1) ?_ | refine CallP.pure _ rfl _ (p_jbegun) ?_ | refine CallP.pure _ rfl _ (p2) ?_ | refine CallP.pure _ rfl _ (p3) ?_ | refine CallP.pure _ rfl _ (p4) ?_ | refine CallP.pure _ rfl _ (p5) ?_ | refine CallP.pure _ rfl _ (p6) ?_ | refine CallP.pure _ rfl _ (p7) ?_ | refine CallP.pure _ rfl _ (p8) ?_ | refine CallP.pure _ rfl _ (p9) ?_ | with_reducible (first | refine EmpOr.app ?_ | refine BCase.not ?_ | refine BCase.and ?_ | refine BCase.or ?_ | refine BCase.d (fun _ => ?_) (fun _ => ?_))) <;> ((conv => whnf); repeat ((with_reducible first | refine BCase.tt ?_ | refine BCase.ff ?_); (conv => whnf)))))
        all_goals exact Ret.bool (by first | rfl | simp)
    · by_cases hk0 : k < 0
      · (((conv => whnf); repeat ((with_reducible first | refine BCase.tt ?_ | refine BCase.ff ?_); (conv => whnf))); repeat' ((first | with_reducible refine Wr.u8 ?_ | ((with_reducible first | refine Wr.ci ?wxs ?_ | refine Wr.c3 ?wxs ?_ | refine Wr.c6 ?wxs ?_ | refine BCase.dt ?wxs ?_); case wxs => (first | omega | (simp only [lens, true_and, and_true]; (try omega); done))) | ((with_reducible refine BCase.df ?wxs ?_); case wxs => (first | omega | (simp only [lens, true_and, and_true]; (try omega); done))) | ((with_reducible refine Need.mk ?wxs ?_); case wxs => first | (first | omega | (simp only [lens, true_and, and_true]; (try omega); done)) | decide | kernel_rfl) | refine BCase.t (by decide) ?_ | refine BCase.f (by decide) ?_ | refine CallP.pure _ rfl _ (p1) ?_ | refine CallP.pure _ rfl _ (p_jbegun) ?_ | with_reducible (first | refine EmpOr.app ?_ | refine BCase.not ?_ | refine BCase.and ?_ | refine BCase.or ?_ | refine BCase.d (fun _ => ?_) (fun _ => ?_))) <;> ((conv => whnf); repeat ((with_reducible first | refine BCase.tt ?_ | refine BCase.ff ?_); (conv => whnf)))))
        all_goals exact Ret.bool (by first | rfl | simp)
      · (((conv => whnf); repeat ((with_reducible first | refine BCase.tt ?_ | refine BCase.ff ?_); (conv => whnf))); repeat' ((first | with_reducible refine Wr.u8 ?_ | ((with_reducible first | refine Wr.ci ?wxs ?_ | refine Wr.c3 ?wxs ?_ | refine Wr.c6 ?wxs ?_ | refine BCase.dt ?wxs ?_); case wxs => (first | omega | (simp only [lens, true_and, and_true]; (try omega); done))) | ((with_reducible refine BCase.df ?wxs ?_); case wxs => (first | omega | (simp only [lens, true_and, and_true]; (try omega); done))) | ((with_reducible refine Need.mk ?wxs ?_); case wxs => first | (first | omega | (simp only [lens, true_and, and_true]; (try omega); done)) | decide | kernel_rfl) | refine BCase.t (by decide) ?_ | refine BCase.f (by decide) ?_ | refine CallP.pure _ rfl _ (p1) ?_ | refine CallP.pure _ rfl _ (p_jbegun) ?_ | with_reducible (first | refine EmpOr.app ?_ | refine BCase.not ?_ | refine BCase.and ?_ | refine BCase.or ?_ | refine BCase.d (fun _ => ?_) (fun _ => ?_))) <;> ((conv => whnf); repeat ((with_reducible first | refine BCase.tt ?_ | refine BCase.ff ?_); (conv => whnf)))))
        all_goals exact Ret.bool (by first | rfl | simp)
  · (((conv => whnf); repeat ((with_reducible first | refine BCase.tt ?_ | refine BCase.ff ?_); (conv => whnf))); repeat' ((first | with_reducible refine Wr.u8 ?_ | ((with_reducible first | refine Wr.ci ?wxs ?_ | refine Wr.c3 ?wxs ?_ | refine Wr.c6 ?wxs ?_ | refine BCase.dt ?wxs ?_); case wxs => (first | omega | (simp only [lens, true_and, and_true]; (try omega); done))) | ((with_reducible refine BCase.df ?wxs ?_); case wxs => (first | omega | (simp only [lens, true_and, and_true]; (try omega); done))) | ((with_reducible refine Need.mk ?wxs ?_); case wxs => first | (first | omega | (simp only [lens, true_and, and_true]; (try omega); done)) | decide | kernel_rfl) | refine BCase.t (by decide) ?_ | refine BCase.f (by decide) ?_ | refine CallP.pure _ rfl _ (p1) ?_ | refine CallP.pure _ rfl _ (p_jbegun) ?_ | with_reducible (first | refine EmpOr.app ?_ | refine BCase.not ?_ | refine BCase.and ?_ | refine BCase.or ?_ | refine BCase.d (fun _ => ?_) (fun _ => ?_))) <;> ((conv => whnf); repeat ((with_reducible first | refine BCase.tt ?_ | refine BCase.ff ?_); (conv => whnf)))))
    all_goals exact Ret.bool (by first | rfl | simp)
theorem law_CommitTwice (x : StoreD) (hx : x.ok) (y : List WriteD) (hy : hWr y) (k : Int) (hk : -9223372036854775808 ≤ k ∧ k ≤ 9223372036854775807) (j : Int) (hj : -9223372036854775808 ≤ j ∧ j ≤ 9223372036854775807) (a : Int) (ha : hU a) (b : Int) (hb : hU b) (c : Int) (hc : hU c) (d : Int) (hd : hU d) : Pure Try.prog 10 [.agg (x.c.map D.c), slV 2 WriteD.c y, pInt .i64 k, pInt .i64 j, pInt .u64 a, pInt .u64 b, pInt .u64 c, pInt .u64 d] (pBool true) := by
  obtain ⟨h1, h2⟩ := hStore_of hx
  obtain ⟨h3, h4⟩ := hWr_of hy
  rw [store_v, writes_v]
  generalize toS x = s at *
  generalize y.map toW = l at *
  have p1 := p_steps s l h1 h2 h3 h4
  have lm : ((stepsR s l).map encO).length = (stepsR s l).length := List.length_map ..
  have lw : (l.map encW).length = l.length := List.length_map ..
  refine pure_of Try.func10 (by rfl) rfl (by kernel_rfl) (by rfl) ?_
  by_cases h : stepsE s l = 0
  · obtain ⟨ok, es⟩ := stepsOk h
    obtain ⟨q1, q2, q3⟩ := stepsR_len h
    rw [h] at p1
    by_cases hr : 0 ≤ k ∧ k ≤ (stepsR s l).length
    · obtain ⟨n, rfl⟩ : ∃ n : Nat, k = n := ⟨k.toNat, by omega⟩
      have hn : n ≤ (stepsO s.1.1 l).length := by rw [← q1]; omega
      obtain ⟨t, t1, t2⟩ := steps_part ok n hn
      obtain ⟨f1, f2⟩ := t2 a b
      rw [← es, ← q1] at t1
      rw [← q1] at f2
      have hst : playR s ((stepsR s l).take n) = (t, 0) := by rw [playR_ok (stepsE_ok h).1 (by rw [List.length_take]; omega), t1]
      have hct : storeChk t = 0 := by
        have := playG_ok (ops := (stepsR s l).take n) (stepsE_ok h).1 (by rw [t1])
        rwa [t1] at this
      obtain ⟨c1, c2⟩ := storeChk_ok hct
      have p2 := (p_play s ((stepsR s l).take n) (by rw [List.length_take]; omega)).to (args' := [stV s, .d (.c (.sl 3 ((((stepsR s l).map encO).drop (0 : Int).toNat).take ((n : Int).toNat - (0 : Int).toNat))))]) (by rw [take_rows]) rfl
      rw [hst] at p2
      have p3 := p_dcrash' t.1 a ha
      have p4 := p_dcrash' t.2 b hb
      rw [c1] at p3
      rw [c2] at p4
      have main : ∃ R e, Calm R (crashS t a b) ∨ Hot R e (crashS t a b) := by
        rcases f1 with hc | hc | ⟨hgt, hc⟩
        · exact ⟨_, [], .inl hc⟩
        · exact ⟨_, _, .inr hc⟩
        · exact ⟨_, [], .inl hc⟩
      obtain ⟨R, e, hR⟩ := main
      obtain ⟨z1, z2, z3, z4⟩ := quiet hR
      obtain ⟨u, u1, u2, u3⟩ := recovered hR
      have hl31 := ok.len
      have hn2 : n ≤ 68 := by omega
      have p5 := p_undo (crashS t a b) z1 z2
      rw [z4] at p5
      have hul := undoR_len (crashS t a b)
      have lu : (((undoR (crashS t a b)).1).map encO).length = (undoR (crashS t a b)).1.length := List.length_map ..
      by_cases hjr : 0 ≤ j ∧ j ≤ (undoR (crashS t a b)).1.length
      · obtain ⟨i, rfl⟩ : ∃ i : Nat, j = i := ⟨j.toNat, by omega⟩
        obtain ⟨v, v1, v2⟩ := twice hR i (by omega)
        have hR2 := v2 c d
        obtain ⟨w, w1, w2, w3⟩ := recovered hR2
        obtain ⟨y1, y2, y3, y4⟩ := quiet hR2
        have hi2 : i ≤ 34 := by omega
        have p6 := (p_play (crashS t a b) ((undoR (crashS t a b)).1.take i) (by rw [List.length_take]; omega)).to (args' := [stV (crashS t a b), .d (.c (.sl 3 ((((undoR (crashS t a b)).1.map encO).drop (0 : Int).toNat).take ((i : Int).toNat - (0 : Int).toNat))))]) (by rw [take_rows]) rfl
        rw [v1] at p6
        have hcv : storeChk v = 0 := by
          have e1 : playR (crashS t a b) ((undoR (crashS t a b)).1.take i) = playG (crashS t a b) ((undoR (crashS t a b)).1.take i) := playR_ok z3 (by rw [List.length_take]; omega)
          rw [e1] at v1
          have := playG_ok (ops := (undoR (crashS t a b)).1.take i) z3 (by rw [v1])
          rwa [v1] at this
        obtain ⟨d1, d2⟩ := storeChk_ok hcv
        have p7 := p_dcrash' v.1 c (by assumption)
        have p8 := p_dcrash' v.2 d (by assumption)
        rw [d1] at p7
        rw [d2] at p8
        have p9 := p_recover (crashS v c d) y1 y2
        rw [w1] at p9
        have p10 := p_recover (crashS t a b) z1 z2
        rw [u1] at p10
        have p11 := p_plainend w
        rw [w2] at p11
        have p12 := p_sametexts w.1.1 u.1.1
        rw [decide_eq_true (w3.trans u3.symm)] at p12
        (((conv => whnf); repeat ((with_reducible first | refine BCase.tt ?_ | refine BCase.ff ?_); (conv => whnf))); repeat' ((first | with_reducible refine Wr.u8 ?_ | ((with_reducible first | refine Wr.ci ?wxs ?_ | refine Wr.c3 ?wxs ?_ | refine Wr.c6 ?wxs ?_ | refine BCase.dt ?wxs ?_); case wxs => (first | omega | (simp only [lens, true_and, and_true]; (try omega); done))) | ((with_reducible refine BCase.df ?wxs ?_); case wxs => (first | omega | (simp only [lens, true_and, and_true]; (try omega); done))) | ((with_reducible refine Need.mk ?wxs ?_); case wxs => first | (first | omega | (simp only [lens, true_and, and_true]; (try omega); done)) | decide | kernel_rfl) | refine BCase.t (by decide) ?_ | refine BCase.f (by decide) ?_ | refine CallP.pure _ rfl _ (p1) ?_ | refine CallP.pure _ rfl _ (p_jbegun) ?_ | refine CallP.pure _ rfl _ (p2) ?_ | refine CallP.pure _ rfl _ (p3) ?_ | refine CallP.pure _ rfl _ (p4) ?_ | refine CallP.pure _ rfl _ (p5) ?_ | refine CallP.pure _ rfl _ (p6) ?_ | refine CallP.pure _ rfl _ (p7) ?_ | refine CallP.pure _ rfl _ (p8) ?_ | refine CallP.pure _ rfl _ (p9) ?_ | refine CallP.pure _ rfl _ (p10) ?_ | refine CallP.pure _ rfl _ (p11) ?_ | refine CallP.pure _ rfl _ (p12) ?_ | with_reducible (first | refine EmpOr.app ?_ | refine BCase.not ?_ | refine BCase.and ?_ | refine BCase.or ?_ | refine BCase.d (fun _ => ?_) (fun _ => ?_))) <;> ((conv => whnf); repeat ((with_reducible first | refine BCase.tt ?_ | refine BCase.ff ?_); (conv => whnf)))))
        all_goals exact Ret.bool (by first | rfl | simp)
      · by_cases hj0 : j < 0
        · (((conv => whnf); repeat ((with_reducible first | refine BCase.tt ?_ | refine BCase.ff ?_); (conv => whnf))); repeat' ((first | with_reducible refine Wr.u8 ?_ | ((with_reducible first | refine Wr.ci ?wxs ?_ | refine Wr.c3 ?wxs ?_ | refine Wr.c6 ?wxs ?_ | refine BCase.dt ?wxs ?_); case wxs => (first | omega | (simp only [lens, true_and, and_true]; (try omega); done))) | ((with_reducible refine BCase.df ?wxs ?_); case wxs => (first | omega | (simp only [lens, true_and, and_true]; (try omega); done))) | ((with_reducible refine Need.mk ?wxs ?_); case wxs => first | (first | omega | (simp only [lens, true_and, and_true]; (try omega); done)) | decide | kernel_rfl) | refine BCase.t (by decide) ?_ | refine BCase.f (by decide) ?_ | refine CallP.pure _ rfl _ (p1) ?_ | refine CallP.pure _ rfl _ (p_jbegun) ?_ | refine CallP.pure _ rfl _ (p2) ?_ | refine CallP.pure _ rfl _ (p3) ?_ | refine CallP.pure _ rfl _ (p4) ?_ | refine CallP.pure _ rfl _ (p5) ?_ | with_reducible (first | refine EmpOr.app ?_ | refine BCase.not ?_ | refine BCase.and ?_ | refine BCase.or ?_ | refine BCase.d (fun _ => ?_) (fun _ => ?_))) <;> ((conv => whnf); repeat ((with_reducible first | refine BCase.tt ?_ | refine BCase.ff ?_); (conv => whnf)))))
          all_goals exact Ret.bool (by first | rfl | simp)
        · (((conv => whnf); repeat ((with_reducible first | refine BCase.tt ?_ | refine BCase.ff ?_); (conv => whnf))); repeat' ((first | with_reducible refine Wr.u8 ?_ | ((with_reducible first | refine Wr.ci ?wxs ?_ | refine Wr.c3 ?wxs ?_ | refine Wr.c6 ?wxs ?_ | refine BCase.dt ?wxs ?_); case wxs => (first | omega | (simp only [lens, true_and, and_true]; (try omega); done))) | ((with_reducible refine BCase.df ?wxs ?_); case wxs => (first | omega | (simp only [lens, true_and, and_true]; (try omega); done))) | ((with_reducible refine Need.mk ?wxs ?_); case wxs => first | (first | omega | (simp only [lens, true_and, and_true]; (try omega); done)) | decide | kernel_rfl) | refine BCase.t (by decide) ?_ | refine BCase.f (by decide) ?_ | refine CallP.pure _ rfl _ (p1) ?_ | refine CallP.pure _ rfl _ (p_jbegun) ?_ | refine CallP.pure _ rfl _ (p2) ?_ | refine CallP.pure _ rfl _ (p3) ?_ | refine CallP.pure _ rfl _ (p4) ?_ | refine CallP.pure _ rfl _ (p5) ?_ | with_reducible (first | refine EmpOr.app ?_ | refine BCase.not ?_ | refine BCase.and ?_ | refine BCase.or ?_ | refine BCase.d (fun _ => ?_) (fun _ => ?_))) <;> ((conv => whnf); repeat ((with_reducible first | refine BCase.tt ?_ | refine BCase.ff ?_); (conv => whnf)))))
          all_goals exact Ret.bool (by first | rfl | simp)
    · by_cases hk0 : k < 0
      · (((conv => whnf); repeat ((with_reducible first | refine BCase.tt ?_ | refine BCase.ff ?_); (conv => whnf))); repeat' ((first | with_reducible refine Wr.u8 ?_ | ((with_reducible first | refine Wr.ci ?wxs ?_ | refine Wr.c3 ?wxs ?_ | refine Wr.c6 ?wxs ?_ | refine BCase.dt ?wxs ?_); case wxs => (first | omega | (simp only [lens, true_and, and_true]; (try omega); done))) | ((with_reducible refine BCase.df ?wxs ?_); case wxs => (first | omega | (simp only [lens, true_and, and_true]; (try omega); done))) | ((with_reducible refine Need.mk ?wxs ?_); case wxs => first | (first | omega | (simp only [lens, true_and, and_true]; (try omega); done)) | decide | kernel_rfl) | refine BCase.t (by decide) ?_ | refine BCase.f (by decide) ?_ | refine CallP.pure _ rfl _ (p1) ?_ | refine CallP.pure _ rfl _ (p_jbegun) ?_ | with_reducible (first | refine EmpOr.app ?_ | refine BCase.not ?_ | refine BCase.and ?_ | refine BCase.or ?_ | refine BCase.d (fun _ => ?_) (fun _ => ?_))) <;> ((conv => whnf); repeat ((with_reducible first | refine BCase.tt ?_ | refine BCase.ff ?_); (conv => whnf)))))
        all_goals exact Ret.bool (by first | rfl | simp)
      · (((conv => whnf); repeat ((with_reducible first | refine BCase.tt ?_ | refine BCase.ff ?_); (conv => whnf))); repeat' ((first | with_reducible refine Wr.u8 ?_ | ((with_reducible first | refine Wr.ci ?wxs ?_ | refine Wr.c3 ?wxs ?_ | refine Wr.c6 ?wxs ?_ | refine BCase.dt ?wxs ?_); case wxs => (first | omega | (simp only [lens, true_and, and_true]; (try omega); done))) | ((with_reducible refine BCase.df ?wxs ?_); case wxs => (first | omega | (simp only [lens, true_and, and_true]; (try omega); done))) | ((with_reducible refine Need.mk ?wxs ?_); case wxs => first | (first | omega | (simp only [lens, true_and, and_true]; (try omega); done)) | decide | kernel_rfl) | refine BCase.t (by decide) ?_ | refine BCase.f (by decide) ?_ | refine CallP.pure _ rfl _ (p1) ?_ | refine CallP.pure _ rfl _ (p_jbegun) ?_ | with_reducible (first | refine EmpOr.app ?_ | refine BCase.not ?_ | refine BCase.and ?_ | refine BCase.or ?_ | refine BCase.d (fun _ => ?_) (fun _ => ?_))) <;> ((conv => whnf); repeat ((with_reducible first | refine BCase.tt ?_ | refine BCase.ff ?_); (conv => whnf)))))
        all_goals exact Ret.bool (by first | rfl | simp)
  · (((conv => whnf); repeat ((with_reducible first | refine BCase.tt ?_ | refine BCase.ff ?_); (conv => whnf))); repeat' ((first | with_reducible refine Wr.u8 ?_ | ((with_reducible first | refine Wr.ci ?wxs ?_ | refine Wr.c3 ?wxs ?_ | refine Wr.c6 ?wxs ?_ | refine BCase.dt ?wxs ?_); case wxs => (first | omega | (simp only [lens, true_and, and_true]; (try omega); done))) | ((with_reducible refine BCase.df ?wxs ?_); case wxs => (first | omega | (simp only [lens, true_and, and_true]; (try omega); done))) | ((with_reducible refine Need.mk ?wxs ?_); case wxs => first | (first | omega | (simp only [lens, true_and, and_true]; (try omega); done)) | decide | kernel_rfl) | refine BCase.t (by decide) ?_ | refine BCase.f (by decide) ?_ | refine CallP.pure _ rfl _ (p1) ?_ | refine CallP.pure _ rfl _ (p_jbegun) ?_ | with_reducible (first | refine EmpOr.app ?_ | refine BCase.not ?_ | refine BCase.and ?_ | refine BCase.or ?_ | refine BCase.d (fun _ => ?_) (fun _ => ?_))) <;> ((conv => whnf); repeat ((with_reducible first | refine BCase.tt ?_ | refine BCase.ff ?_); (conv => whnf)))))
    all_goals exact Ret.bool (by first | rfl | simp)
end Go.Proofs.Ytohlkegmmbdlaaa.Pm
end
