/- leaf: the document's filling -/
import Derived.Test.YtcecopdkaalfkaaPlPack
namespace Go.Proofs.Ytcecopdkaalfkaa.Pm
open Go.RowKit K NumP NumW NumRd NumZ NumL
set_option linter.unusedVariables false
set_option linter.unusedSimpArgs false
set_option maxRecDepth 100000

theorem entGo_eq (last : Int) (x : EntryD) (l : List EntryD) : entGo last (x :: l) = if riseE x.Id last ≠ 0 then riseE x.Id last else if rowChk x.Row ≠ 0 then rowChk x.Row else entGo x.Id l := rfl
theorem entGo_parts {last : Int} {x : EntryD} {l : List EntryD} (h : entGo last (x :: l) = 0) : riseE x.Id last = 0 ∧ rowChk x.Row = 0 ∧ entGo x.Id l = 0 := by
  rw [entGo_eq] at h
  split at h
  · rename_i q; exact absurd h q
  · split at h
    · rename_i q; exact absurd h q
    · rename_i q1 q2
      exact ⟨by simpa using q1, by simpa using q2, h⟩
theorem entGo_mk {last : Int} {x : EntryD} {l : List EntryD} (h1 : riseE x.Id last = 0) (h2 : rowChk x.Row = 0) (h3 : entGo x.Id l = 0) : entGo last (x :: l) = 0 := by
  rw [entGo_eq, if_neg (not_not_intro h1), if_neg (not_not_intro h2), h3]
theorem entGo_take : ∀ {l : List EntryD} {last : Int} (n : Nat), entGo last l = 0 → entGo last (l.take n) = 0
  | [], _, n, _ => by simp [entGo]
  | x :: l, last, 0, _ => rfl
  | x :: l, last, n + 1, h => by
    obtain ⟨h1, h2, h3⟩ := entGo_parts h
    exact entGo_mk h1 h2 (entGo_take n h3)
theorem rise_low {id last : Int} (h : riseE id last = 0) : riseE id 0 = 0 := by
  unfold riseE at h ⊢
  split at h
  · cases h
  · split at h
    · cases h
    · rw [if_neg (by omega), if_neg (by omega)]
theorem entGo_drop : ∀ {l : List EntryD} {last : Int} (n : Nat), entGo last l = 0 → entGo 0 (l.drop n) = 0
  | [], _, n, _ => by simp [entGo]
  | x :: l, last, 0, h => by
    obtain ⟨h1, h2, h3⟩ := entGo_parts h
    exact entGo_mk (rise_low h1) h2 h3
  | x :: l, last, n + 1, h => entGo_drop n (entGo_parts h).2.2
theorem entChk_take {l : List EntryD} (n : Nat) (h : entChk l = 0) : entChk (l.take n) = 0 := by
  obtain ⟨h1, h2, h3⟩ := entChk_ok h
  unfold entChk
  rw [if_neg (by rw [List.length_take]; omega)]
  exact entGo_take n h3
theorem entChk_drop {l : List EntryD} (n : Nat) (h : entChk l = 0) : entChk (l.drop n) = 0 := by
  obtain ⟨h1, h2, h3⟩ := entChk_ok h
  unfold entChk
  rw [if_neg (by rw [List.length_drop]; omega)]
  exact entGo_drop n h3
def fitN (l : List EntryD) : Nat → Nat
  | 0 => 0
  | 1 => 1
  | n + 2 => if 245 < (entW (l.take (n + 2))).length then fitN l (n + 1) else n + 2
theorem fitN_eq (l : List EntryD) (n : Nat) : fitN l (n + 2) = if 245 < (entW (l.take (n + 2))).length then fitN l (n + 1) else n + 2 := rfl
theorem fitN_le (l : List EntryD) : ∀ n, fitN l n ≤ n
  | 0 => Nat.le_refl _
  | 1 => Nat.le_refl _
  | n + 2 => by
    have := fitN_le l (n + 1)
    rw [fitN_eq]
    split <;> omega
theorem fitN_pos (l : List EntryD) : ∀ n, 1 ≤ n → 1 ≤ fitN l n
  | 0, h => by omega
  | 1, _ => Nat.le_refl _
  | n + 2, _ => by
    have := fitN_pos l (n + 1) (by omega)
    rw [fitN_eq]
    split <;> omega
def fillF : Nat → List EntryD → List (List EntryD)
  | 0, _ => []
  | f + 1, l => if l = [] then [] else l.take (fitN l l.length) :: fillF f (l.drop (fitN l l.length))
def fillD (l : List EntryD) : List (List EntryD) := fillF l.length l
theorem fillF_eq (f : Nat) (l : List EntryD) : fillF (f + 1) l = if l = [] then [] else l.take (fitN l l.length) :: fillF f (l.drop (fitN l l.length)) := rfl
theorem fillF_len : ∀ (f : Nat) (l : List EntryD), (fillF f l).length ≤ f
  | 0, _ => Nat.le_refl _
  | f + 1, l => by
    have := fillF_len f (l.drop (fitN l l.length))
    rw [fillF_eq]
    split
    · simp
    · rw [List.length_cons]; omega
abbrev entsC (l : List EntryD) : List C := [C.sl 2 (l.map EntryD.c)]
theorem p_fillof : ∀ (f : Nat) (l : List EntryD), f ≤ 40 → l.length ≤ f → entChk l = 0 → entOk l → Pure Try.prog 18 [slV 2 EntryD.c l] (slV 1 entsC (fillF f l))
  | f, [], _, _, _, _ => by
    refine pure_of Try.func18 (by rfl) rfl (by kernel_rfl) (by rfl) ?_
    rw [show fillF f [] = [] by cases f <;> rfl]
    (((conv => whnf); repeat ((first | with_reducible refine BCase.tt ?_ | with_reducible refine BCase.ff ?_); (conv => whnf))); repeat' (first | ((first | with_reducible refine Wr.u8 ?_ | ((first | with_reducible refine Wr.ci ?s ?_ | with_reducible refine Wr.c3 ?s ?_ | with_reducible refine Wr.c6 ?s ?_ | with_reducible refine BCase.dt ?s ?_); case s => (first | omega | (simp only [lens, true_and, and_true]; (try omega); done))) | (with_reducible refine BCase.df ?s ?_; case s => (first | omega | (simp only [lens, true_and, and_true]; (try omega); done))) | (with_reducible refine Need.mk ?s ?_; case s => first | (first | omega | (simp only [lens, true_and, and_true]; (try omega); done)) | decide | kernel_rfl) | refine BCase.t (by decide) ?_ | refine BCase.f (by decide) ?_); ((conv => whnf); repeat ((first | with_reducible refine BCase.tt ?_ | with_reducible refine BCase.ff ?_); (conv => whnf)))) | ((with_reducible refine EmpOr.app ?_); ((conv => whnf); repeat ((first | with_reducible refine BCase.tt ?_ | with_reducible refine BCase.ff ?_); (conv => whnf)))) | (first | with_reducible refine BCase.not ?_ | with_reducible refine BCase.and ?_ | with_reducible refine BCase.or ?_) | ((with_reducible refine BCase.d (fun _ => ?_) (fun _ => ?_)) <;> ((conv => whnf); repeat ((first | with_reducible refine BCase.tt ?_ | with_reducible refine BCase.ff ?_); (conv => whnf))))))
    exact Ret.le (.inr ⟨⟨1, rfl⟩, .inl rfl⟩)
  | 0, x :: l, _, h, _, _ => by simp at h
  | f + 1, x :: l, hf, h, hc, hok => by
    have hne : x :: l ≠ [] := by simp
    rw [fillF_eq, if_neg hne]
    generalize hL : x :: l = L at *
    have hl0 : 1 ≤ L.length := by rw [← hL]; simp
    obtain ⟨h40, hrw, hg⟩ := entChk_ok hc
    have hm : (L.map EntryD.c).length = L.length := List.length_map ..
    refine pure_of Try.func18 (by rfl) rfl (by kernel_rfl) (by rfl) ?_
    (((conv => whnf); repeat ((first | with_reducible refine BCase.tt ?_ | with_reducible refine BCase.ff ?_); (conv => whnf))); repeat' (first | ((first | with_reducible refine Wr.u8 ?_ | ((first | with_reducible refine Wr.ci ?s ?_ | with_reducible refine Wr.c3 ?s ?_ | with_reducible refine Wr.c6 ?s ?_ | with_reducible refine BCase.dt ?s ?_); case s => (first | omega | (simp only [lens, true_and, and_true]; (try omega); done))) | (with_reducible refine BCase.df ?s ?_; case s => (first | omega | (simp only [lens, true_and, and_true]; (try omega); done))) | (with_reducible refine Need.mk ?s ?_; case s => first | (first | omega | (simp only [lens, true_and, and_true]; (try omega); done)) | decide | kernel_rfl) | refine BCase.t (by decide) ?_ | refine BCase.f (by decide) ?_); ((conv => whnf); repeat ((first | with_reducible refine BCase.tt ?_ | with_reducible refine BCase.ff ?_); (conv => whnf)))) | ((with_reducible refine EmpOr.app ?_); ((conv => whnf); repeat ((first | with_reducible refine BCase.tt ?_ | with_reducible refine BCase.ff ?_); (conv => whnf)))) | (first | with_reducible refine BCase.not ?_ | with_reducible refine BCase.and ?_ | with_reducible refine BCase.or ?_) | ((with_reducible refine BCase.d (fun _ => ?_) (fun _ => ?_)) <;> ((conv => whnf); repeat ((first | with_reducible refine BCase.tt ?_ | with_reducible refine BCase.ff ?_); (conv => whnf))))))
    refine LoopC.mk Nat (fun n => [(0, slV 2 EntryD.c L), (3, pInt .i64 n)]) (fun n => []) [] (fun n => 1 ≤ n ∧ n ≤ L.length ∧ fitN L L.length = fitN L n) (fun n => n) L.length ⟨hl0, Nat.le_refl _, rfl⟩ ?start ?round
    case start => exact ⟨[], rfl, rfl, ⟨.inl rfl, PLe.int (by simp), trivial⟩, trivial⟩
    case round =>
      rintro n ⟨hn1, hn, hz⟩
      have tz := tx_size (entW (L.take n))
      have pe := p_entriesbytes (L.take n) (entChk_take n hc) (fun y hy => hok y (List.mem_of_mem_take hy))
      have em : ((L.map EntryD.c).drop (0 : Int).toNat).take ((n : Int).toNat - (0 : Int).toNat) = (L.take n).map EntryD.c := by
        rw [show (0 : Int).toNat = 0 from rfl, List.drop_zero, Nat.sub_zero, Int.toNat_natCast, List.map_take]
      have pe' := pe.to (args' := [.d (.c (.sl 2 (((L.map EntryD.c).drop (0 : Int).toNat).take ((n : Int).toNat - (0 : Int).toNat))))]) (by rw [em]) rfl
      have ed : ((L.map EntryD.c).drop (n : Int).toNat).take (((L.map EntryD.c).length : Int).toNat - (n : Int).toNat) = (L.drop n).map EntryD.c := by
        rw [Int.toNat_natCast, Int.toNat_natCast, List.map_drop]
        exact List.take_of_length_le (by rw [List.length_drop]; exact Nat.le_refl _)
      have pr := (p_fillof f (L.drop n) (by omega) (by rw [List.length_drop]; omega) (entChk_drop n hc) (fun y hy => hok y (List.mem_of_mem_drop hy))).to (args' := [.d (.c (.sl 2 (((L.map EntryD.c).drop (n : Int).toNat).take (((L.map EntryD.c).length : Int).toNat - (n : Int).toNat))))]) (by rw [ed]) rfl
      have hfl := fillF_len f (L.drop n)
      have hfm : ((fillF f (L.drop n)).map entsC).length = (fillF f (L.drop n)).length := List.length_map ..
      have fin : fitN L n = n → Ret (.d (.c (.sl 1 ([] ++ [[C.sl 2 (((L.map EntryD.c).drop (0 : Int).toNat).take ((n : Int).toNat - (0 : Int).toNat))]] ++ (fillF f (L.drop n)).map entsC)))) (slV 1 entsC (L.take (fitN L L.length) :: fillF f (L.drop (fitN L L.length)))) := by
        intro hfn
        rw [hz, hfn, em]
        exact Ret.mk rfl
      by_cases h1 : n = 1
      · subst h1
        (((conv => whnf); repeat ((first | with_reducible refine BCase.tt ?_ | with_reducible refine BCase.ff ?_); (conv => whnf))); repeat' (first | ((first | with_reducible refine Wr.u8 ?_ | ((first | with_reducible refine Wr.ci ?s ?_ | with_reducible refine Wr.c3 ?s ?_ | with_reducible refine Wr.c6 ?s ?_ | with_reducible refine BCase.dt ?s ?_); case s => (first | omega | (simp only [lens, true_and, and_true]; (try omega); done))) | (with_reducible refine BCase.df ?s ?_; case s => (first | omega | (simp only [lens, true_and, and_true]; (try omega); done))) | (with_reducible refine Need.mk ?s ?_; case s => first | (first | omega | (simp only [lens, true_and, and_true]; (try omega); done)) | decide | kernel_rfl) | refine BCase.t (by decide) ?_ | refine BCase.f (by decide) ?_); ((conv => whnf); repeat ((first | with_reducible refine BCase.tt ?_ | with_reducible refine BCase.ff ?_); (conv => whnf)))) | ((refine CallP.pure _ rfl _ (pe') ?_); ((conv => whnf); repeat ((first | with_reducible refine BCase.tt ?_ | with_reducible refine BCase.ff ?_); (conv => whnf)))) | ((refine CallP.pure _ rfl _ (pr) ?_); ((conv => whnf); repeat ((first | with_reducible refine BCase.tt ?_ | with_reducible refine BCase.ff ?_); (conv => whnf)))) | (( refine Need.by 24 rfl (by simp only [List.length_map, List.length_singleton, List.length_nil, List.length_append, List.length_cons]; omega) ?_); ((conv => whnf); repeat ((first | with_reducible refine BCase.tt ?_ | with_reducible refine BCase.ff ?_); (conv => whnf)))) | ((with_reducible refine EmpOr.app ?_); ((conv => whnf); repeat ((first | with_reducible refine BCase.tt ?_ | with_reducible refine BCase.ff ?_); (conv => whnf)))) | (first | with_reducible refine BCase.not ?_ | with_reducible refine BCase.and ?_ | with_reducible refine BCase.or ?_) | ((with_reducible refine BCase.d (fun _ => ?_) (fun _ => ?_)) <;> ((conv => whnf); repeat ((first | with_reducible refine BCase.tt ?_ | with_reducible refine BCase.ff ?_); (conv => whnf))))))
        all_goals exact fin rfl
      · obtain ⟨m, rfl⟩ : ∃ m, n = m + 2 := ⟨n - 2, by omega⟩
        by_cases h2 : 245 < (entW (L.take (m + 2))).length
        · (((conv => whnf); repeat ((first | with_reducible refine BCase.tt ?_ | with_reducible refine BCase.ff ?_); (conv => whnf))); repeat' (first | ((first | with_reducible refine Wr.u8 ?_ | ((first | with_reducible refine Wr.ci ?s ?_ | with_reducible refine Wr.c3 ?s ?_ | with_reducible refine Wr.c6 ?s ?_ | with_reducible refine BCase.dt ?s ?_); case s => (first | omega | (simp only [lens, true_and, and_true]; (try omega); done))) | (with_reducible refine BCase.df ?s ?_; case s => (first | omega | (simp only [lens, true_and, and_true]; (try omega); done))) | (with_reducible refine Need.mk ?s ?_; case s => first | (first | omega | (simp only [lens, true_and, and_true]; (try omega); done)) | decide | kernel_rfl) | refine BCase.t (by decide) ?_ | refine BCase.f (by decide) ?_); ((conv => whnf); repeat ((first | with_reducible refine BCase.tt ?_ | with_reducible refine BCase.ff ?_); (conv => whnf)))) | ((refine CallP.pure _ rfl _ (pe') ?_); ((conv => whnf); repeat ((first | with_reducible refine BCase.tt ?_ | with_reducible refine BCase.ff ?_); (conv => whnf)))) | ((with_reducible refine EmpOr.app ?_); ((conv => whnf); repeat ((first | with_reducible refine BCase.tt ?_ | with_reducible refine BCase.ff ?_); (conv => whnf)))) | (first | with_reducible refine BCase.not ?_ | with_reducible refine BCase.and ?_ | with_reducible refine BCase.or ?_) | ((with_reducible refine BCase.d (fun _ => ?_) (fun _ => ?_)) <;> ((conv => whnf); repeat ((first | with_reducible refine BCase.tt ?_ | with_reducible refine BCase.ff ?_); (conv => whnf))))))
          refine ⟨m + 1, ⟨by omega, by omega, ?_⟩, by omega, [], rfl, rfl, ⟨.inl rfl, PLe.int (by omega), trivial⟩, trivial⟩
          rw [hz, fitN_eq, if_pos h2]
        · (((conv => whnf); repeat ((first | with_reducible refine BCase.tt ?_ | with_reducible refine BCase.ff ?_); (conv => whnf))); repeat' (first | ((first | with_reducible refine Wr.u8 ?_ | ((first | with_reducible refine Wr.ci ?s ?_ | with_reducible refine Wr.c3 ?s ?_ | with_reducible refine Wr.c6 ?s ?_ | with_reducible refine BCase.dt ?s ?_); case s => (first | omega | (simp only [lens, true_and, and_true]; (try omega); done))) | (with_reducible refine BCase.df ?s ?_; case s => (first | omega | (simp only [lens, true_and, and_true]; (try omega); done))) | (with_reducible refine Need.mk ?s ?_; case s => first | (first | omega | (simp only [lens, true_and, and_true]; (try omega); done)) | decide | kernel_rfl) | refine BCase.t (by decide) ?_ | refine BCase.f (by decide) ?_); ((conv => whnf); repeat ((first | with_reducible refine BCase.tt ?_ | with_reducible refine BCase.ff ?_); (conv => whnf)))) | ((refine CallP.pure _ rfl _ (pe') ?_); ((conv => whnf); repeat ((first | with_reducible refine BCase.tt ?_ | with_reducible refine BCase.ff ?_); (conv => whnf)))) | ((refine CallP.pure _ rfl _ (pr) ?_); ((conv => whnf); repeat ((first | with_reducible refine BCase.tt ?_ | with_reducible refine BCase.ff ?_); (conv => whnf)))) | (( refine Need.by 24 rfl (by simp only [List.length_map, List.length_singleton, List.length_nil, List.length_append, List.length_cons]; omega) ?_); ((conv => whnf); repeat ((first | with_reducible refine BCase.tt ?_ | with_reducible refine BCase.ff ?_); (conv => whnf)))) | ((with_reducible refine EmpOr.app ?_); ((conv => whnf); repeat ((first | with_reducible refine BCase.tt ?_ | with_reducible refine BCase.ff ?_); (conv => whnf)))) | (first | with_reducible refine BCase.not ?_ | with_reducible refine BCase.and ?_ | with_reducible refine BCase.or ?_) | ((with_reducible refine BCase.d (fun _ => ?_) (fun _ => ?_)) <;> ((conv => whnf); repeat ((first | with_reducible refine BCase.tt ?_ | with_reducible refine BCase.ff ?_); (conv => whnf))))))
          all_goals exact fin (by rw [fitN_eq, if_neg h2])
end Go.Proofs.Ytcecopdkaalfkaa.Pm
