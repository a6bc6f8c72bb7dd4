/- leaf: FillAll, given what Fill does -/
import Derived.Test.YtcecopdkaalfkaaPlNext
import Derived.Test.YtcecopdkaalfkaaPlFill
namespace Go.Proofs.Ytcecopdkaalfkaa.Pm
open Go.RowKit K NumP NumW NumRd NumZ NumL
set_option linter.unusedVariables false
set_option linter.unusedSimpArgs false
set_option maxRecDepth 100000

theorem flat_take {α : Type} {B : List (List α)} {j : Nat} (h : j < B.length) : (B.take (j + 1)).flatten = (B.take j).flatten ++ B[j] := by
  rw [take_snoc h, List.flatten_append]; simp
theorem flat_le {α : Type} (B : List (List α)) (j : Nat) : (B.take j).flatten.length ≤ B.flatten.length := by
  have : B.flatten = (B.take j).flatten ++ (B.drop j).flatten := by rw [← List.flatten_append, List.take_append_drop]
  rw [this, List.length_append]; omega
set_option maxHeartbeats 1000000 in
theorem law_FillAll_of (pb : Pure Try.prog 13 [] (pBool true)) (pf : FillGoes) (l : List EntryD) (hl : hEntL l) : Pure Try.prog 7 [slV 2 EntryD.c l] (pBool true) := by
  obtain ⟨h1, h2, h3⟩ := hEntL_of hl
  have pf := pf l hl
  refine pure_of Try.func7 (by rfl) rfl (by kernel_rfl) (by rfl) ?_
  by_cases h : entChk l = 0
  · obtain ⟨h40, hrw, hg⟩ := entChk_ok h
    rw [show fillR l = fillD l from if_pos h, h] at pf
    have hm := fillF_mem l.length l
    have hbl := fillF_len l.length l
    rw [show fillF l.length l = fillD l from rfl] at hm hbl
    have hpk := fun j hj => part_pack (l := l) h j hj
    have hfl := (fillD_parts h).2
    generalize fillD l = B at *
    have sr := sameEnt_refl l h1 h2
    have sr' := sr.lend (rd := [(FK, .tail 43 2)]) (args := [.d (.app FK 43 2 (B.flatten.map EntryD.c)), slV 2 EntryD.c l]) rfl (by show [PV.d (D.c (C.sl 2 _)), _] = _; rw [hfl])
    (((conv => whnf); repeat ((first | with_reducible refine BCase.tt ?_ | with_reducible refine BCase.ff ?_); (conv => whnf))); repeat' (first | ((first | with_reducible refine Wr.u8 ?_ | ((first | with_reducible refine Wr.ci ?s ?_ | with_reducible refine Wr.c3 ?s ?_ | with_reducible refine Wr.c6 ?s ?_ | with_reducible refine BCase.dt ?s ?_); case s => (first | omega | (simp only [lens, true_and, and_true]; (try omega); done))) | (with_reducible refine BCase.df ?s ?_; case s => (first | omega | (simp only [lens, true_and, and_true]; (try omega); done))) | (with_reducible refine Need.mk ?s ?_; case s => first | (first | omega | (simp only [lens, true_and, and_true]; (try omega); done)) | decide | kernel_rfl) | refine BCase.t (by decide) ?_ | refine BCase.f (by decide) ?_); ((conv => whnf); repeat ((first | with_reducible refine BCase.tt ?_ | with_reducible refine BCase.ff ?_); (conv => whnf)))) | ((refine CallP.pure _ rfl _ (pf) ?_); ((conv => whnf); repeat ((first | with_reducible refine BCase.tt ?_ | with_reducible refine BCase.ff ?_); (conv => whnf)))) | ((refine CallP.pure _ rfl _ (pb) ?_); ((conv => whnf); repeat ((first | with_reducible refine BCase.tt ?_ | with_reducible refine BCase.ff ?_); (conv => whnf)))) | ((with_reducible refine EmpOr.app ?_); ((conv => whnf); repeat ((first | with_reducible refine BCase.tt ?_ | with_reducible refine BCase.ff ?_); (conv => whnf)))) | (first | with_reducible refine BCase.not ?_ | with_reducible refine BCase.and ?_ | with_reducible refine BCase.or ?_) | ((with_reducible refine BCase.d (fun _ => ?_) (fun _ => ?_)) <;> ((conv => whnf); repeat ((first | with_reducible refine BCase.tt ?_ | with_reducible refine BCase.ff ?_); (conv => whnf))))))
    refine LoopC.mk Nat (fun j => [(0, slV 2 EntryD.c l), (3, slV 1 entsC B), (5, .d (.app 60 43 2 ((B.take j).flatten.map EntryD.c))), (6, pInt .i64 j)]) (fun _ => [(60, .tail 43 2)]) [60] (fun j => j ≤ B.length) (fun j => B.length - j) 0 (Nat.zero_le _) ?start ?round
    case start => exact ⟨[], rfl, rfl, ⟨.inl rfl, .inl rfl, ⟨rfl, rfl, Nat.zero_lt_succ _, rfl, rfl⟩, .inl rfl, trivial⟩, ⟨rfl, Nat.zero_lt_succ _⟩, trivial⟩
    case round =>
      intro j hj
      have lB : (B.map entsC).length = B.length := List.length_map ..
      have lf := flat_le B j
      rw [hfl] at lf
      have lfm : ((B.take j).flatten.map EntryD.c).length = (B.take j).flatten.length := List.length_map ..
      by_cases q : j < B.length
      · obtain ⟨m1, m2⟩ := hm B[j] (List.getElem_mem q)
        obtain ⟨p1, p2, p3⟩ := hpk j q
        have lj : (B[j].map EntryD.c).length = B[j].length := List.length_map ..
        have pp := p_pack B[j] (by omega) (fun x hx => h2 x (m2 x hx)) (fun x hx => h3 x (m2 x hx))
        rw [p2] at pp
        have n0 : ¬ ((B[j].map EntryD.c).length : Int) = 0 := by
          have : 0 < B[j].length := List.length_pos_iff.2 p1
          omega
        by_cases q2 : j + 1 < B.length
        · obtain ⟨k1, k2, k3⟩ := hpk (j + 1) q2
          obtain ⟨n1, n2⟩ := hm B[j + 1] (List.getElem_mem q2)
          obtain ⟨y, ys, hy⟩ : ∃ y ys, B[j + 1] = y :: ys := by
            cases e : B[j + 1] with
            | nil => exact absurd e k1
            | cons y ys => exact ⟨y, ys, rfl⟩
          have hyl : y ∈ l := n2 y (by rw [hy]; exact List.mem_cons_self ..)
          have e2 := p3 q2 y ys hy
          have hin : ∀ x ∈ B[j] ++ [y], x ∈ l := by
            intro x hx
            rcases List.mem_append.1 hx with hx | hx
            · exact m2 x hx
            · rw [List.mem_singleton.1 hx]; exact hyl
          have pk := p_pack (B[j] ++ [y]) (by rw [List.length_append, List.length_singleton]; omega) (fun x hx => h2 x (hin x hx)) (fun x hx => h3 x (hin x hx))
          rw [show packR (B[j] ++ [y]) = [] from if_neg (by rw [e2]; decide), e2] at pk
          have pk' := pk.lend (rd := [(FK, .tail 43 2)]) (args := [.d (.app FK 43 2 ([] ++ B[j].map EntryD.c ++ [y.c]))]) rfl (by show [PV.d (D.c (C.sl 2 _))] = _; unfold slV; rw [List.map_append]; rfl)
          have ly : 0 < B[j + 1].length := by rw [hy]; simp
          (((conv => whnf); repeat ((first | with_reducible refine BCase.tt ?_ | with_reducible refine BCase.ff ?_); (conv => whnf))); repeat' (first | ((first | with_reducible refine Wr.u8 ?_ | ((first | with_reducible refine Wr.ci ?s ?_ | with_reducible refine Wr.c3 ?s ?_ | with_reducible refine Wr.c6 ?s ?_ | with_reducible refine BCase.dt ?s ?_); case s => (first | omega | (simp only [lens, true_and, and_true]; (try omega); done))) | (with_reducible refine BCase.df ?s ?_; case s => (first | omega | (simp only [lens, true_and, and_true]; (try omega); done))) | (with_reducible refine Need.mk ?s ?_; case s => first | (first | omega | (simp only [lens, true_and, and_true]; (try omega); done)) | decide | kernel_rfl) | refine BCase.t (by decide) ?_ | refine BCase.f (by decide) ?_); ((conv => whnf); repeat ((first | with_reducible refine BCase.tt ?_ | with_reducible refine BCase.ff ?_); (conv => whnf)))) | (( first | refine Idx.mapI (l := B) j rfl q ?_ | refine Idx.mapI (l := B) (j + 1) (by omega) q2 ?_ | refine Idx.mapE (l := B[j + 1]) 0 rfl ly (x := y) (by simp [hy]) ?_); ((conv => whnf); repeat ((first | with_reducible refine BCase.tt ?_ | with_reducible refine BCase.ff ?_); (conv => whnf)))) | ((refine CallP.pure _ rfl _ (pp) ?_); ((conv => whnf); repeat ((first | with_reducible refine BCase.tt ?_ | with_reducible refine BCase.ff ?_); (conv => whnf)))) | (( refine BCase.df n0 ?_); ((conv => whnf); repeat ((first | with_reducible refine BCase.tt ?_ | with_reducible refine BCase.ff ?_); (conv => whnf)))) | (( refine CallP.ret [(FK, 67)] _ _ _ _ _ _ _ pk' rfl rfl rfl rfl ⟨rfl, trivial⟩ ?_); ((conv => whnf); repeat ((first | with_reducible refine BCase.tt ?_ | with_reducible refine BCase.ff ?_); (conv => whnf)))) | (( refine Need.by 32 rfl (by simp only [List.length_append, List.length_nil, List.length_singleton, lj, lfm]; omega) ?_); ((conv => whnf); repeat ((first | with_reducible refine BCase.tt ?_ | with_reducible refine BCase.ff ?_); (conv => whnf)))) | (( first | refine Need.mk (by omega) ?_ | refine BCase.dt (by omega) ?_ | refine BCase.df (by omega) ?_ | refine Wr.ci (by omega) ?_); ((conv => whnf); repeat ((first | with_reducible refine BCase.tt ?_ | with_reducible refine BCase.ff ?_); (conv => whnf)))) | ((with_reducible refine EmpOr.app ?_); ((conv => whnf); repeat ((first | with_reducible refine BCase.tt ?_ | with_reducible refine BCase.ff ?_); (conv => whnf)))) | (first | with_reducible refine BCase.not ?_ | with_reducible refine BCase.and ?_ | with_reducible refine BCase.or ?_) | ((with_reducible refine BCase.d (fun _ => ?_) (fun _ => ?_)) <;> ((conv => whnf); repeat ((first | with_reducible refine BCase.tt ?_ | with_reducible refine BCase.ff ?_); (conv => whnf))))))
          refine ⟨j + 1, by omega, by omega, [(60, 78)], rfl, rfl, ⟨.inl rfl, .inl rfl, ⟨rfl, rfl, rfl, rfl, ?_⟩, PLe.int (by omega), trivial⟩, ⟨rfl, rfl, rfl⟩, trivial⟩
          rw [flat_take q, List.map_append]
        · (((conv => whnf); repeat ((first | with_reducible refine BCase.tt ?_ | with_reducible refine BCase.ff ?_); (conv => whnf))); repeat' (first | ((first | with_reducible refine Wr.u8 ?_ | ((first | with_reducible refine Wr.ci ?s ?_ | with_reducible refine Wr.c3 ?s ?_ | with_reducible refine Wr.c6 ?s ?_ | with_reducible refine BCase.dt ?s ?_); case s => (first | omega | (simp only [lens, true_and, and_true]; (try omega); done))) | (with_reducible refine BCase.df ?s ?_; case s => (first | omega | (simp only [lens, true_and, and_true]; (try omega); done))) | (with_reducible refine Need.mk ?s ?_; case s => first | (first | omega | (simp only [lens, true_and, and_true]; (try omega); done)) | decide | kernel_rfl) | refine BCase.t (by decide) ?_ | refine BCase.f (by decide) ?_); ((conv => whnf); repeat ((first | with_reducible refine BCase.tt ?_ | with_reducible refine BCase.ff ?_); (conv => whnf)))) | (( refine Idx.mapI (l := B) j rfl q ?_); ((conv => whnf); repeat ((first | with_reducible refine BCase.tt ?_ | with_reducible refine BCase.ff ?_); (conv => whnf)))) | ((refine CallP.pure _ rfl _ (pp) ?_); ((conv => whnf); repeat ((first | with_reducible refine BCase.tt ?_ | with_reducible refine BCase.ff ?_); (conv => whnf)))) | (( refine BCase.df n0 ?_); ((conv => whnf); repeat ((first | with_reducible refine BCase.tt ?_ | with_reducible refine BCase.ff ?_); (conv => whnf)))) | (( refine Need.by 32 rfl (by simp only [List.length_append, List.length_nil, List.length_singleton, lj, lfm]; omega) ?_); ((conv => whnf); repeat ((first | with_reducible refine BCase.tt ?_ | with_reducible refine BCase.ff ?_); (conv => whnf)))) | (( first | refine Need.mk (by omega) ?_ | refine BCase.dt (by omega) ?_ | refine BCase.df (by omega) ?_ | refine Wr.ci (by omega) ?_); ((conv => whnf); repeat ((first | with_reducible refine BCase.tt ?_ | with_reducible refine BCase.ff ?_); (conv => whnf)))) | ((with_reducible refine EmpOr.app ?_); ((conv => whnf); repeat ((first | with_reducible refine BCase.tt ?_ | with_reducible refine BCase.ff ?_); (conv => whnf)))) | (first | with_reducible refine BCase.not ?_ | with_reducible refine BCase.and ?_ | with_reducible refine BCase.or ?_) | ((with_reducible refine BCase.d (fun _ => ?_) (fun _ => ?_)) <;> ((conv => whnf); repeat ((first | with_reducible refine BCase.tt ?_ | with_reducible refine BCase.ff ?_); (conv => whnf))))))
          refine ⟨j + 1, by omega, by omega, [(60, 78)], rfl, rfl, ⟨.inl rfl, .inl rfl, ⟨rfl, rfl, rfl, rfl, ?_⟩, PLe.int (by omega), trivial⟩, ⟨rfl, rfl, rfl⟩, trivial⟩
          rw [flat_take q, List.map_append]
      · have ht : B.take j = B := List.take_of_length_le (by omega)
        rw [ht]
        (((conv => whnf); repeat ((first | with_reducible refine BCase.tt ?_ | with_reducible refine BCase.ff ?_); (conv => whnf))); repeat' (first | ((first | with_reducible refine Wr.u8 ?_ | ((first | with_reducible refine Wr.ci ?s ?_ | with_reducible refine Wr.c3 ?s ?_ | with_reducible refine Wr.c6 ?s ?_ | with_reducible refine BCase.dt ?s ?_); case s => (first | omega | (simp only [lens, true_and, and_true]; (try omega); done))) | (with_reducible refine BCase.df ?s ?_; case s => (first | omega | (simp only [lens, true_and, and_true]; (try omega); done))) | (with_reducible refine Need.mk ?s ?_; case s => first | (first | omega | (simp only [lens, true_and, and_true]; (try omega); done)) | decide | kernel_rfl) | refine BCase.t (by decide) ?_ | refine BCase.f (by decide) ?_); ((conv => whnf); repeat ((first | with_reducible refine BCase.tt ?_ | with_reducible refine BCase.ff ?_); (conv => whnf)))) | (( refine CallP.ret [(FK, 60)] _ _ _ _ _ _ _ sr' rfl rfl rfl rfl ⟨rfl, trivial⟩ ?_); ((conv => whnf); repeat ((first | with_reducible refine BCase.tt ?_ | with_reducible refine BCase.ff ?_); (conv => whnf)))) | (( first | refine Need.mk (by omega) ?_ | refine BCase.dt (by omega) ?_ | refine BCase.df (by omega) ?_ | refine Wr.ci (by omega) ?_); ((conv => whnf); repeat ((first | with_reducible refine BCase.tt ?_ | with_reducible refine BCase.ff ?_); (conv => whnf)))) | ((with_reducible refine EmpOr.app ?_); ((conv => whnf); repeat ((first | with_reducible refine BCase.tt ?_ | with_reducible refine BCase.ff ?_); (conv => whnf)))) | (first | with_reducible refine BCase.not ?_ | with_reducible refine BCase.and ?_ | with_reducible refine BCase.or ?_) | ((with_reducible refine BCase.d (fun _ => ?_) (fun _ => ?_)) <;> ((conv => whnf); repeat ((first | with_reducible refine BCase.tt ?_ | with_reducible refine BCase.ff ?_); (conv => whnf))))))
        all_goals exact Ret.bool rfl
  · rw [show fillR l = [] from if_neg h] at pf
    (((conv => whnf); repeat ((first | with_reducible refine BCase.tt ?_ | with_reducible refine BCase.ff ?_); (conv => whnf))); repeat' (first | ((first | with_reducible refine Wr.u8 ?_ | ((first | with_reducible refine Wr.ci ?s ?_ | with_reducible refine Wr.c3 ?s ?_ | with_reducible refine Wr.c6 ?s ?_ | with_reducible refine BCase.dt ?s ?_); case s => (first | omega | (simp only [lens, true_and, and_true]; (try omega); done))) | (with_reducible refine BCase.df ?s ?_; case s => (first | omega | (simp only [lens, true_and, and_true]; (try omega); done))) | (with_reducible refine Need.mk ?s ?_; case s => first | (first | omega | (simp only [lens, true_and, and_true]; (try omega); done)) | decide | kernel_rfl) | refine BCase.t (by decide) ?_ | refine BCase.f (by decide) ?_); ((conv => whnf); repeat ((first | with_reducible refine BCase.tt ?_ | with_reducible refine BCase.ff ?_); (conv => whnf)))) | ((refine CallP.pure _ rfl _ (pf) ?_); ((conv => whnf); repeat ((first | with_reducible refine BCase.tt ?_ | with_reducible refine BCase.ff ?_); (conv => whnf)))) | ((refine CallP.pure _ rfl _ (pb) ?_); ((conv => whnf); repeat ((first | with_reducible refine BCase.tt ?_ | with_reducible refine BCase.ff ?_); (conv => whnf)))) | (( first | refine Need.mk (by omega) ?_ | refine BCase.dt (by omega) ?_ | refine BCase.df (by omega) ?_ | refine Wr.ci (by omega) ?_); ((conv => whnf); repeat ((first | with_reducible refine BCase.tt ?_ | with_reducible refine BCase.ff ?_); (conv => whnf)))) | ((with_reducible refine EmpOr.app ?_); ((conv => whnf); repeat ((first | with_reducible refine BCase.tt ?_ | with_reducible refine BCase.ff ?_); (conv => whnf)))) | (first | with_reducible refine BCase.not ?_ | with_reducible refine BCase.and ?_ | with_reducible refine BCase.or ?_) | ((with_reducible refine BCase.d (fun _ => ?_) (fun _ => ?_)) <;> ((conv => whnf); repeat ((first | with_reducible refine BCase.tt ?_ | with_reducible refine BCase.ff ?_); (conv => whnf))))))
    all_goals exact Ret.bool (by first | rfl | simp)
end Go.Proofs.Ytcecopdkaalfkaa.Pm
