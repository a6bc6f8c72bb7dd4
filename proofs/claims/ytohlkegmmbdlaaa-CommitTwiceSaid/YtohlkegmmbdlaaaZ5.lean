/- Parts of the proof, one behind the other: PjPlay PjPlay2 PjUndo PjUndo2 PjBegun PjPlain PjPlain2 PjPlain3 PjPlain4 PjData PjLaws. Conditions: none beyond what each theorem says. -/
import Derived.Test.YtohlkegmmbdlaaaZ4
section
namespace Go.Proofs.Ytohlkegmmbdlaaa.Pm
open Go.RowKit K DiskP
set_option linter.unusedVariables false
set_option linter.unusedSimpArgs false
set_option maxRecDepth 100000

def opR (s : Str) (o : Opr) : Str × Int :=
  if o.1 = 1 then (((writeP s.1.1 s.1.2 o.2.1 o.2.2, writeQ s.1.1 s.1.2 o.2.1 o.2.2), s.2), writeE s.1.1 s.1.2 o.2.1 o.2.2)
  else if o.1 = 2 then ((s.1, (writeP s.2.1 s.2.2 o.2.1 o.2.2, writeQ s.2.1 s.2.2 o.2.1 o.2.2)), writeE s.2.1 s.2.2 o.2.1 o.2.2)
  else if o.1 = 3 then (((crashP s.1.1 s.1.2 all1, []), s.2), check s.1.1 s.1.2)
  else if o.1 = 4 then ((s.1, (crashP s.2.1 s.2.2 all1, [])), check s.2.1 s.2.2)
  else (s, 7)
abbrev zeroS : Str := (([], []), ([], []))
def playG : Str → List Opr → Str × Int
  | s, [] => (s, 0)
  | s, o :: r => if (opR s o).2 = 0 then playG (opR s o).1 r else (zeroS, (opR s o).2)
theorem playG_cons (s : Str) (o : Opr) (r : List Opr) : playG s (o :: r) = if (opR s o).2 = 0 then playG (opR s o).1 r else (zeroS, (opR s o).2) := rfl
def playE (s : Str) (ops : List Opr) : Int := if storeChk s ≠ 0 then storeChk s else if 100 < ops.length then 2 else 0
def playR (s : Str) (ops : List Opr) : Str × Int := if playE s ops ≠ 0 then (zeroS, playE s ops) else playG s ops
def opEqB (x y : Opr) : Bool := decide (x.1 = y.1) && (decide (x.2.1 = y.2.1) && (decide (x.2.2 = y.2.2) && true))
theorem opEqB_iff (x y : Opr) : opEqB x y = true ↔ x = y := by
  obtain ⟨a, b, c⟩ := x
  obtain ⟨a', b', c'⟩ := y
  simp [opEqB]
theorem p_sameops (a b : List Opr) (ha : a.length ≤ 140737488355328) : Pure Try.prog 16 [.d (.c (opsC a)), .d (.c (opsC b))] (pBool (listEqB opEqB a b)) := by
  refine pure_of Try.func16 (by rfl) rfl (by kernel_rfl) (by rfl) ?_
  by_cases hl : a.length = b.length
  · (((conv => whnf); repeat ((with_reducible first | refine BCase.tt ?_ | refine BCase.ff ?_); (conv => whnf))); repeat ((first | with_reducible refine Wr.u8 ?_ | ((with_reducible first | refine Wr.ci ?wxs ?_ | refine Wr.c3 ?wxs ?_ | refine Wr.c6 ?wxs ?_ | refine BCase.dt ?wxs ?_); case wxs => (first | omega | (simp only [lens, true_and, and_true]; (try omega); done))) | ((with_reducible refine BCase.df ?wxs ?_); case wxs => (first | omega | (simp only [lens, true_and, and_true]; (try omega); done))) | ((with_reducible refine Need.mk ?wxs ?_); case wxs => first | (first | omega | (simp only [lens, true_and, and_true]; (try omega); done)) | decide | kernel_rfl) | refine BCase.t (by decide) ?_ | refine BCase.f (by decide) ?_ | with_reducible (first | refine BCase.not ?_ | refine BCase.and ?_ | refine BCase.or ?_)); ((conv => whnf); repeat ((with_reducible first | refine BCase.tt ?_ | refine BCase.ff ?_); (conv => whnf)))))
    refine LoopC.mk Nat (fun k => [(0, .d (.c (opsC a))), (1, .d (.c (opsC b))), (5, pInt .i64 k)]) (fun _ => []) [] (fun k => k ≤ a.length ∧ listEqB opEqB (a.take k) (b.take k) = true) (fun k => a.length - k) 0 ⟨Nat.zero_le _, by simp [listEqB]⟩ ?start ?round
    case start => exact ⟨[], rfl, rfl, ⟨.inl rfl, .inl rfl, .inl rfl, trivial⟩, trivial⟩
    case round =>
      rintro k ⟨hk, hz⟩
      by_cases h1 : k < a.length
      · have h2 : k < b.length := by omega
        cases hx : opEqB a[k] b[k] with
        | true =>
          (((conv => whnf); repeat ((with_reducible first | refine BCase.tt ?_ | refine BCase.ff ?_); (conv => whnf))); repeat' ((first | with_reducible refine Wr.u8 ?_ | ((with_reducible first | refine Wr.ci ?wxs ?_ | refine Wr.c3 ?wxs ?_ | refine Wr.c6 ?wxs ?_ | refine BCase.dt ?wxs ?_); case wxs => (first | omega | (simp only [lens, true_and, and_true]; (try omega); done))) | ((with_reducible refine BCase.df ?wxs ?_); case wxs => (first | omega | (simp only [lens, true_and, and_true]; (try omega); done))) | ((with_reducible refine Need.mk ?wxs ?_); case wxs => first | (first | omega | (simp only [lens, true_and, and_true]; (try omega); done)) | decide | kernel_rfl) | refine BCase.t (by decide) ?_ | refine BCase.f (by decide) ?_ | (first | refine Idx.mapI (l := a) k rfl h1 ?_ | refine Idx.mapI (l := b) k rfl h2 ?_) | (refine BCase.f (congrArg not hx) ?_) | with_reducible (first | refine EmpOr.app ?_ | refine BCase.not ?_ | refine BCase.and ?_ | refine BCase.or ?_ | refine BCase.d (fun _ => ?_) (fun _ => ?_))) <;> ((conv => whnf); repeat ((with_reducible first | refine BCase.tt ?_ | refine BCase.ff ?_); (conv => whnf)))))
          exact ⟨k + 1, ⟨by omega, (listEqB_step hz h1 h2).trans hx⟩, by omega, [], rfl, rfl, ⟨.inl rfl, .inl rfl, PLe.int (by omega), trivial⟩, trivial⟩
        | false =>
          (((conv => whnf); repeat ((with_reducible first | refine BCase.tt ?_ | refine BCase.ff ?_); (conv => whnf))); repeat' ((first | with_reducible refine Wr.u8 ?_ | ((with_reducible first | refine Wr.ci ?wxs ?_ | refine Wr.c3 ?wxs ?_ | refine Wr.c6 ?wxs ?_ | refine BCase.dt ?wxs ?_); case wxs => (first | omega | (simp only [lens, true_and, and_true]; (try omega); done))) | ((with_reducible refine BCase.df ?wxs ?_); case wxs => (first | omega | (simp only [lens, true_and, and_true]; (try omega); done))) | ((with_reducible refine Need.mk ?wxs ?_); case wxs => first | (first | omega | (simp only [lens, true_and, and_true]; (try omega); done)) | decide | kernel_rfl) | refine BCase.t (by decide) ?_ | refine BCase.f (by decide) ?_ | (first | refine Idx.mapI (l := a) k rfl h1 ?_ | refine Idx.mapI (l := b) k rfl h2 ?_) | (refine BCase.t (congrArg not hx) ?_) | with_reducible (first | refine EmpOr.app ?_ | refine BCase.not ?_ | refine BCase.and ?_ | refine BCase.or ?_ | refine BCase.d (fun _ => ?_) (fun _ => ?_))) <;> ((conv => whnf); repeat ((with_reducible first | refine BCase.tt ?_ | refine BCase.ff ?_); (conv => whnf)))))
          exact Ret.bool (listEqB_stop h1 h2 hx).symm
      · (((conv => whnf); repeat ((with_reducible first | refine BCase.tt ?_ | refine BCase.ff ?_); (conv => whnf))); repeat' ((first | with_reducible refine Wr.u8 ?_ | ((with_reducible first | refine Wr.ci ?wxs ?_ | refine Wr.c3 ?wxs ?_ | refine Wr.c6 ?wxs ?_ | refine BCase.dt ?wxs ?_); case wxs => (first | omega | (simp only [lens, true_and, and_true]; (try omega); done))) | ((with_reducible refine BCase.df ?wxs ?_); case wxs => (first | omega | (simp only [lens, true_and, and_true]; (try omega); done))) | ((with_reducible refine Need.mk ?wxs ?_); case wxs => first | (first | omega | (simp only [lens, true_and, and_true]; (try omega); done)) | decide | kernel_rfl) | refine BCase.t (by decide) ?_ | refine BCase.f (by decide) ?_ | with_reducible (first | refine EmpOr.app ?_ | refine BCase.not ?_ | refine BCase.and ?_ | refine BCase.or ?_ | refine BCase.d (fun _ => ?_) (fun _ => ?_))) <;> ((conv => whnf); repeat ((with_reducible first | refine BCase.tt ?_ | refine BCase.ff ?_); (conv => whnf)))))
        exact Ret.bool (listEqB_all hz (by omega) (by omega)).symm
  · (((conv => whnf); repeat ((with_reducible first | refine BCase.tt ?_ | refine BCase.ff ?_); (conv => whnf))); repeat' ((first | with_reducible refine Wr.u8 ?_ | ((with_reducible first | refine Wr.ci ?wxs ?_ | refine Wr.c3 ?wxs ?_ | refine Wr.c6 ?wxs ?_ | refine BCase.dt ?wxs ?_); case wxs => (first | omega | (simp only [lens, true_and, and_true]; (try omega); done))) | ((with_reducible refine BCase.df ?wxs ?_); case wxs => (first | omega | (simp only [lens, true_and, and_true]; (try omega); done))) | ((with_reducible refine Need.mk ?wxs ?_); case wxs => first | (first | omega | (simp only [lens, true_and, and_true]; (try omega); done)) | decide | kernel_rfl) | refine BCase.t (by decide) ?_ | refine BCase.f (by decide) ?_ | with_reducible (first | refine EmpOr.app ?_ | refine BCase.not ?_ | refine BCase.and ?_ | refine BCase.or ?_ | refine BCase.d (fun _ => ?_) (fun _ => ?_))) <;> ((conv => whnf); repeat ((with_reducible first | refine BCase.tt ?_ | refine BCase.ff ?_); (conv => whnf)))))
    exact Ret.bool (listEqB_len hl).symm
theorem p_samestore (s t : Str) : Pure Try.prog 19 [stV s, stV t] (pBool (sameD s.1 t.1 && sameD s.2 t.2)) := by
  have p1 := p_samedisk s.1 t.1
  have p2 := p_samedisk s.2 t.2
  refine pure_of Try.func19 (by rfl) rfl (by kernel_rfl) (by rfl) ?_
  cases h : sameD s.1 t.1 <;> rw [h] at p1
  all_goals
    (((conv => whnf); repeat ((with_reducible first | refine BCase.tt ?_ | refine BCase.ff ?_); (conv => whnf))); repeat' ((first | with_reducible refine Wr.u8 ?_ | ((with_reducible first | refine Wr.ci ?wxs ?_ | refine Wr.c3 ?wxs ?_ | refine Wr.c6 ?wxs ?_ | refine BCase.dt ?wxs ?_); case wxs => (first | omega | (simp only [lens, true_and, and_true]; (try omega); done))) | ((with_reducible refine BCase.df ?wxs ?_); case wxs => (first | omega | (simp only [lens, true_and, and_true]; (try omega); done))) | ((with_reducible refine Need.mk ?wxs ?_); case wxs => first | (first | omega | (simp only [lens, true_and, and_true]; (try omega); done)) | decide | kernel_rfl) | refine BCase.t (by decide) ?_ | refine BCase.f (by decide) ?_ | refine CallP.pure _ rfl _ (p1) ?_ | refine CallP.pure _ rfl _ (p2) ?_ | with_reducible (first | refine EmpOr.app ?_ | refine BCase.not ?_ | refine BCase.and ?_ | refine BCase.or ?_ | refine BCase.d (fun _ => ?_) (fun _ => ?_))) <;> ((conv => whnf); repeat ((with_reducible first | refine BCase.tt ?_ | refine BCase.ff ?_); (conv => whnf)))))
    exact Ret.bool (by simp)
theorem p_writeof (x : Dk) (n : Int) (s : ByteArray) : Pure Try.prog 65 [dkV x, pInt .i64 n, pStr s] (.tup [dkV (writeP x.1 x.2 n s, writeQ x.1 x.2 n s), pInt .i64 (writeE x.1 x.2 n s)]) := by
  have pc := p_dcheckref x
  have bad : ∀ e, writeE x.1 x.2 n s = e → e ≠ 0 → Ret (.tup [.agg ((dkC (([] : List ByteArray), ([] : List DiskP.Wr))).map D.c), pInt .i64 e]) (.tup [dkV (writeP x.1 x.2 n s, writeQ x.1 x.2 n s), pInt .i64 (writeE x.1 x.2 n s)]) := by
    intro e he h0
    obtain ⟨a, b⟩ := writeP_no (p := x.1) (q := x.2) (n := n) (s := s) (by rw [he]; exact h0)
    rw [a, b, he]
    exact Ret.mk rfl
  have bad2 : ∀ e, writeE x.1 x.2 n s = e → e ≠ 0 → Ret (.tup [.agg [.c (.v (.slice none 0 0)), .c (.v (.slice none 0 0))], pInt .i64 e]) (.tup [dkV (writeP x.1 x.2 n s, writeQ x.1 x.2 n s), pInt .i64 (writeE x.1 x.2 n s)]) := by
    intro e he h0
    obtain ⟨a, b⟩ := writeP_no (p := x.1) (q := x.2) (n := n) (s := s) (by rw [he]; exact h0)
    rw [a, b, he]
    exact Ret.le ⟨⟨.inr ⟨⟨1, rfl⟩, .inl rfl⟩, .inr ⟨⟨2, rfl⟩, .inl rfl⟩, rfl⟩, .inl rfl, rfl⟩
  refine pure_of Try.func65 (by rfl) rfl (by kernel_rfl) (by rfl) ?_
  by_cases hc : check x.1 x.2 = 0
  · have hE : writeE x.1 x.2 n s = if inPlace n = false then 3 else if tooLong s = true ∨ x.2.length = 48 then 2 else 0 := by
      unfold writeE; rw [if_neg (not_not_intro hc)]
    rw [hc] at pc
    have h48 := (check_ok _ _ hc).2.2.2.1
    by_cases hp : 0 ≤ n ∧ n < 32
    · obtain ⟨hp0, hp1⟩ := hp
      rw [if_neg (by rw [inPlace_t ⟨hp0, hp1⟩]; decide)] at hE
      by_cases ht : 260 < s.size
      · rw [if_pos (.inl (by unfold tooLong; exact decide_eq_true ht))] at hE
        (((conv => whnf); repeat ((with_reducible first | refine BCase.tt ?_ | refine BCase.ff ?_); (conv => whnf))); repeat' ((first | with_reducible refine Wr.u8 ?_ | ((with_reducible first | refine Wr.ci ?wxs ?_ | refine Wr.c3 ?wxs ?_ | refine Wr.c6 ?wxs ?_ | refine BCase.dt ?wxs ?_); case wxs => (first | omega | (simp only [lens, true_and, and_true]; (try omega); done))) | ((with_reducible refine BCase.df ?wxs ?_); case wxs => (first | omega | (simp only [lens, true_and, and_true]; (try omega); done))) | ((with_reducible refine Need.mk ?wxs ?_); case wxs => first | (first | omega | (simp only [lens, true_and, and_true]; (try omega); done)) | decide | kernel_rfl) | refine BCase.t (by decide) ?_ | refine BCase.f (by decide) ?_ | refine CallP.pure _ rfl _ (pc) ?_ | with_reducible (first | refine EmpOr.app ?_ | refine BCase.not ?_ | refine BCase.and ?_ | refine BCase.or ?_ | refine BCase.d (fun _ => ?_) (fun _ => ?_))) <;> ((conv => whnf); repeat ((with_reducible first | refine BCase.tt ?_ | refine BCase.ff ?_); (conv => whnf)))))
        all_goals exact bad2 2 hE (by decide)
      · have htl : tooLong s = false := by unfold tooLong; exact decide_eq_false ht
        by_cases hq : x.2.length = 48
        · rw [if_pos (.inr hq)] at hE
          (((conv => whnf); repeat ((with_reducible first | refine BCase.tt ?_ | refine BCase.ff ?_); (conv => whnf))); repeat' ((first | with_reducible refine Wr.u8 ?_ | ((with_reducible first | refine Wr.ci ?wxs ?_ | refine Wr.c3 ?wxs ?_ | refine Wr.c6 ?wxs ?_ | refine BCase.dt ?wxs ?_); case wxs => (first | omega | (simp only [lens, true_and, and_true]; (try omega); done))) | ((with_reducible refine BCase.df ?wxs ?_); case wxs => (first | omega | (simp only [lens, true_and, and_true]; (try omega); done))) | ((with_reducible refine Need.mk ?wxs ?_); case wxs => first | (first | omega | (simp only [lens, true_and, and_true]; (try omega); done)) | decide | kernel_rfl) | refine BCase.t (by decide) ?_ | refine BCase.f (by decide) ?_ | refine CallP.pure _ rfl _ (pc) ?_ | with_reducible (first | refine EmpOr.app ?_ | refine BCase.not ?_ | refine BCase.and ?_ | refine BCase.or ?_ | refine BCase.d (fun _ => ?_) (fun _ => ?_))) <;> ((conv => whnf); repeat ((with_reducible first | refine BCase.tt ?_ | refine BCase.ff ?_); (conv => whnf)))))
          all_goals exact bad2 2 hE (by decide)
        · have hE := hE.trans (if_neg (by rw [htl]; rintro (e | e); cases e; exact hq e))
          obtain ⟨a, b⟩ := writeP_yes hE
          rw [a, b, hE]
          (((conv => whnf); repeat ((with_reducible first | refine BCase.tt ?_ | refine BCase.ff ?_); (conv => whnf))); repeat' ((first | with_reducible refine Wr.u8 ?_ | ((with_reducible first | refine Wr.ci ?wxs ?_ | refine Wr.c3 ?wxs ?_ | refine Wr.c6 ?wxs ?_ | refine BCase.dt ?wxs ?_); case wxs => (first | omega | (simp only [lens, true_and, and_true]; (try omega); done))) | ((with_reducible refine BCase.df ?wxs ?_); case wxs => (first | omega | (simp only [lens, true_and, and_true]; (try omega); done))) | ((with_reducible refine Need.mk ?wxs ?_); case wxs => first | (first | omega | (simp only [lens, true_and, and_true]; (try omega); done)) | decide | kernel_rfl) | refine BCase.t (by decide) ?_ | refine BCase.f (by decide) ?_ | refine CallP.pure _ rfl _ (pc) ?_ | (refine Need.by 24 rfl (by simp only [List.length_map, List.length_nil, List.length_append, List.length_singleton]; omega) ?_) | with_reducible (first | refine EmpOr.app ?_ | refine BCase.not ?_ | refine BCase.and ?_ | refine BCase.or ?_ | refine BCase.d (fun _ => ?_) (fun _ => ?_))) <;> ((conv => whnf); repeat ((with_reducible first | refine BCase.tt ?_ | refine BCase.ff ?_); (conv => whnf)))))
          refine Ret.eq ?_
          show _ = PV.tup [.agg [.c (pgsC x.1), .c (.sl 2 ((x.2 ++ [(n, s)]).map encW))], _]
          rw [List.map_append]
          rfl
    · rw [if_pos (inPlace_f hp)] at hE
      by_cases hp0 : n < 0
      · (((conv => whnf); repeat ((with_reducible first | refine BCase.tt ?_ | refine BCase.ff ?_); (conv => whnf))); repeat' ((first | with_reducible refine Wr.u8 ?_ | ((with_reducible first | refine Wr.ci ?wxs ?_ | refine Wr.c3 ?wxs ?_ | refine Wr.c6 ?wxs ?_ | refine BCase.dt ?wxs ?_); case wxs => (first | omega | (simp only [lens, true_and, and_true]; (try omega); done))) | ((with_reducible refine BCase.df ?wxs ?_); case wxs => (first | omega | (simp only [lens, true_and, and_true]; (try omega); done))) | ((with_reducible refine Need.mk ?wxs ?_); case wxs => first | (first | omega | (simp only [lens, true_and, and_true]; (try omega); done)) | decide | kernel_rfl) | refine BCase.t (by decide) ?_ | refine BCase.f (by decide) ?_ | refine CallP.pure _ rfl _ (pc) ?_ | with_reducible (first | refine EmpOr.app ?_ | refine BCase.not ?_ | refine BCase.and ?_ | refine BCase.or ?_ | refine BCase.d (fun _ => ?_) (fun _ => ?_))) <;> ((conv => whnf); repeat ((with_reducible first | refine BCase.tt ?_ | refine BCase.ff ?_); (conv => whnf)))))
        all_goals exact bad2 3 hE (by decide)
      · (((conv => whnf); repeat ((with_reducible first | refine BCase.tt ?_ | refine BCase.ff ?_); (conv => whnf))); repeat' ((first | with_reducible refine Wr.u8 ?_ | ((with_reducible first | refine Wr.ci ?wxs ?_ | refine Wr.c3 ?wxs ?_ | refine Wr.c6 ?wxs ?_ | refine BCase.dt ?wxs ?_); case wxs => (first | omega | (simp only [lens, true_and, and_true]; (try omega); done))) | ((with_reducible refine BCase.df ?wxs ?_); case wxs => (first | omega | (simp only [lens, true_and, and_true]; (try omega); done))) | ((with_reducible refine Need.mk ?wxs ?_); case wxs => first | (first | omega | (simp only [lens, true_and, and_true]; (try omega); done)) | decide | kernel_rfl) | refine BCase.t (by decide) ?_ | refine BCase.f (by decide) ?_ | refine CallP.pure _ rfl _ (pc) ?_ | with_reducible (first | refine EmpOr.app ?_ | refine BCase.not ?_ | refine BCase.and ?_ | refine BCase.or ?_ | refine BCase.d (fun _ => ?_) (fun _ => ?_))) <;> ((conv => whnf); repeat ((with_reducible first | refine BCase.tt ?_ | refine BCase.ff ?_); (conv => whnf)))))
        all_goals exact bad2 3 hE (by decide)
  · have hE : writeE x.1 x.2 n s = check x.1 x.2 := by unfold writeE; exact if_pos hc
    (((conv => whnf); repeat ((with_reducible first | refine BCase.tt ?_ | refine BCase.ff ?_); (conv => whnf))); repeat' ((first | with_reducible refine Wr.u8 ?_ | ((with_reducible first | refine Wr.ci ?wxs ?_ | refine Wr.c3 ?wxs ?_ | refine Wr.c6 ?wxs ?_ | refine BCase.dt ?wxs ?_); case wxs => (first | omega | (simp only [lens, true_and, and_true]; (try omega); done))) | ((with_reducible refine BCase.df ?wxs ?_); case wxs => (first | omega | (simp only [lens, true_and, and_true]; (try omega); done))) | ((with_reducible refine Need.mk ?wxs ?_); case wxs => first | (first | omega | (simp only [lens, true_and, and_true]; (try omega); done)) | decide | kernel_rfl) | refine BCase.t (by decide) ?_ | refine BCase.f (by decide) ?_ | refine CallP.pure _ rfl _ (pc) ?_ | with_reducible (first | refine EmpOr.app ?_ | refine BCase.not ?_ | refine BCase.and ?_ | refine BCase.or ?_ | refine BCase.d (fun _ => ?_) (fun _ => ?_))) <;> ((conv => whnf); repeat ((with_reducible first | refine BCase.tt ?_ | refine BCase.ff ?_); (conv => whnf)))))
    all_goals exact bad2 _ hE hc
theorem p_opof (s : Str) (o : Opr) : Pure Try.prog 43 [stV s, .agg ((encO o).map D.c)] (.tup [stV (opR s o).1, pInt .i64 (opR s o).2]) := by
  have pw1 := p_writeof s.1 o.2.1 o.2.2
  have pw2 := p_writeof s.2 o.2.1 o.2.2
  have pc1 := p_dcrashof s.1 all1 (by decide) (by decide)
  have pc2 := p_dcrashof s.2 all1 (by decide) (by decide)
  refine pure_of Try.func43 (by rfl) rfl (by kernel_rfl) (by rfl) ?_
  unfold opR
  by_cases h1 : o.1 = 1
  · rw [if_pos h1]
    (((conv => whnf); repeat ((with_reducible first | refine BCase.tt ?_ | refine BCase.ff ?_); (conv => whnf))); repeat' ((first | with_reducible refine Wr.u8 ?_ | ((with_reducible first | refine Wr.ci ?wxs ?_ | refine Wr.c3 ?wxs ?_ | refine Wr.c6 ?wxs ?_ | refine BCase.dt ?wxs ?_); case wxs => (first | omega | (simp only [lens, true_and, and_true]; (try omega); done))) | ((with_reducible refine BCase.df ?wxs ?_); case wxs => (first | omega | (simp only [lens, true_and, and_true]; (try omega); done))) | ((with_reducible refine Need.mk ?wxs ?_); case wxs => first | (first | omega | (simp only [lens, true_and, and_true]; (try omega); done)) | decide | kernel_rfl) | refine BCase.t (by decide) ?_ | refine BCase.f (by decide) ?_ | refine CallP.pure _ rfl _ (pw1) ?_ | with_reducible (first | refine EmpOr.app ?_ | refine BCase.not ?_ | refine BCase.and ?_ | refine BCase.or ?_ | refine BCase.d (fun _ => ?_) (fun _ => ?_))) <;> ((conv => whnf); repeat ((with_reducible first | refine BCase.tt ?_ | refine BCase.ff ?_); (conv => whnf)))))
    exact Ret.mk rfl
  · rw [if_neg h1]
    by_cases h2 : o.1 = 2
    · rw [if_pos h2]
      (((conv => whnf); repeat ((with_reducible first | refine BCase.tt ?_ | refine BCase.ff ?_); (conv => whnf))); repeat' ((first | with_reducible refine Wr.u8 ?_ | ((with_reducible first | refine Wr.ci ?wxs ?_ | refine Wr.c3 ?wxs ?_ | refine Wr.c6 ?wxs ?_ | refine BCase.dt ?wxs ?_); case wxs => (first | omega | (simp only [lens, true_and, and_true]; (try omega); done))) | ((with_reducible refine BCase.df ?wxs ?_); case wxs => (first | omega | (simp only [lens, true_and, and_true]; (try omega); done))) | ((with_reducible refine Need.mk ?wxs ?_); case wxs => first | (first | omega | (simp only [lens, true_and, and_true]; (try omega); done)) | decide | kernel_rfl) | refine BCase.t (by decide) ?_ | refine BCase.f (by decide) ?_ | refine CallP.pure _ rfl _ (pw2) ?_ | with_reducible (first | refine EmpOr.app ?_ | refine BCase.not ?_ | refine BCase.and ?_ | refine BCase.or ?_ | refine BCase.d (fun _ => ?_) (fun _ => ?_))) <;> ((conv => whnf); repeat ((with_reducible first | refine BCase.tt ?_ | refine BCase.ff ?_); (conv => whnf)))))
      exact Ret.mk rfl
    · rw [if_neg h2]
      by_cases h3 : o.1 = 3
      · rw [if_pos h3]
        (((conv => whnf); repeat ((with_reducible first | refine BCase.tt ?_ | refine BCase.ff ?_); (conv => whnf))); repeat' ((first | with_reducible refine Wr.u8 ?_ | ((with_reducible first | refine Wr.ci ?wxs ?_ | refine Wr.c3 ?wxs ?_ | refine Wr.c6 ?wxs ?_ | refine BCase.dt ?wxs ?_); case wxs => (first | omega | (simp only [lens, true_and, and_true]; (try omega); done))) | ((with_reducible refine BCase.df ?wxs ?_); case wxs => (first | omega | (simp only [lens, true_and, and_true]; (try omega); done))) | ((with_reducible refine Need.mk ?wxs ?_); case wxs => first | (first | omega | (simp only [lens, true_and, and_true]; (try omega); done)) | decide | kernel_rfl) | refine BCase.t (by decide) ?_ | refine BCase.f (by decide) ?_ | refine CallP.pure _ rfl _ (pc1) ?_ | with_reducible (first | refine EmpOr.app ?_ | refine BCase.not ?_ | refine BCase.and ?_ | refine BCase.or ?_ | refine BCase.d (fun _ => ?_) (fun _ => ?_))) <;> ((conv => whnf); repeat ((with_reducible first | refine BCase.tt ?_ | refine BCase.ff ?_); (conv => whnf)))))
        exact Ret.mk rfl
      · rw [if_neg h3]
        by_cases h4 : o.1 = 4
        · rw [if_pos h4]
          (((conv => whnf); repeat ((with_reducible first | refine BCase.tt ?_ | refine BCase.ff ?_); (conv => whnf))); repeat' ((first | with_reducible refine Wr.u8 ?_ | ((with_reducible first | refine Wr.ci ?wxs ?_ | refine Wr.c3 ?wxs ?_ | refine Wr.c6 ?wxs ?_ | refine BCase.dt ?wxs ?_); case wxs => (first | omega | (simp only [lens, true_and, and_true]; (try omega); done))) | ((with_reducible refine BCase.df ?wxs ?_); case wxs => (first | omega | (simp only [lens, true_and, and_true]; (try omega); done))) | ((with_reducible refine Need.mk ?wxs ?_); case wxs => first | (first | omega | (simp only [lens, true_and, and_true]; (try omega); done)) | decide | kernel_rfl) | refine BCase.t (by decide) ?_ | refine BCase.f (by decide) ?_ | refine CallP.pure _ rfl _ (pc2) ?_ | with_reducible (first | refine EmpOr.app ?_ | refine BCase.not ?_ | refine BCase.and ?_ | refine BCase.or ?_ | refine BCase.d (fun _ => ?_) (fun _ => ?_))) <;> ((conv => whnf); repeat ((with_reducible first | refine BCase.tt ?_ | refine BCase.ff ?_); (conv => whnf)))))
          exact Ret.mk rfl
        · rw [if_neg h4]
          (((conv => whnf); repeat ((with_reducible first | refine BCase.tt ?_ | refine BCase.ff ?_); (conv => whnf))); repeat' ((first | with_reducible refine Wr.u8 ?_ | ((with_reducible first | refine Wr.ci ?wxs ?_ | refine Wr.c3 ?wxs ?_ | refine Wr.c6 ?wxs ?_ | refine BCase.dt ?wxs ?_); case wxs => (first | omega | (simp only [lens, true_and, and_true]; (try omega); done))) | ((with_reducible refine BCase.df ?wxs ?_); case wxs => (first | omega | (simp only [lens, true_and, and_true]; (try omega); done))) | ((with_reducible refine Need.mk ?wxs ?_); case wxs => first | (first | omega | (simp only [lens, true_and, and_true]; (try omega); done)) | decide | kernel_rfl) | refine BCase.t (by decide) ?_ | refine BCase.f (by decide) ?_ | with_reducible (first | refine EmpOr.app ?_ | refine BCase.not ?_ | refine BCase.and ?_ | refine BCase.or ?_ | refine BCase.d (fun _ => ?_) (fun _ => ?_))) <;> ((conv => whnf); repeat ((with_reducible first | refine BCase.tt ?_ | refine BCase.ff ?_); (conv => whnf)))))
          exact Ret.mk rfl
end Go.Proofs.Ytohlkegmmbdlaaa.Pm
end

section
namespace Go.Proofs.Ytohlkegmmbdlaaa.Pm
open Go.RowKit K DiskP
set_option linter.unusedVariables false
set_option linter.unusedSimpArgs false
set_option maxRecDepth 100000

theorem playE_cases (s : Str) (ops : List Opr) : (storeChk s ≠ 0 ∧ playE s ops = storeChk s) ∨ (storeChk s = 0 ∧ 100 < ops.length ∧ playE s ops = 2) ∨ (storeChk s = 0 ∧ ops.length ≤ 100 ∧ playE s ops = 0) := by
  unfold playE
  by_cases h : storeChk s = 0
  · rw [if_neg (not_not_intro h)]
    by_cases h1 : 100 < ops.length
    · exact .inr (.inl ⟨h, h1, if_pos h1⟩)
    · exact .inr (.inr ⟨h, by omega, if_neg h1⟩)
  · exact .inl ⟨h, if_pos h⟩
theorem p_playof (s : Str) (ops : List Opr) (hl : ops.length ≤ 140737488355328) : Pure Try.prog 18 [stV s, .d (.c (opsC ops))] (.tup [stV (playR s ops).1, pInt .i64 (playR s ops).2]) := by
  have pc := p_scheckref s
  have zero : ∀ e, playR s ops = (zeroS, e) → Ret (.tup [.agg [.c (.v (.slice none 0 0)), .c (.v (.slice none 0 0)), .c (.v (.slice none 0 0)), .c (.v (.slice none 0 0))], pInt .i64 e]) (.tup [stV (playR s ops).1, pInt .i64 (playR s ops).2]) := by
    intro e he
    rw [he]
    exact Ret.le ⟨⟨.inr ⟨⟨1, rfl⟩, .inl rfl⟩, .inr ⟨⟨2, rfl⟩, .inl rfl⟩, .inr ⟨⟨1, rfl⟩, .inl rfl⟩, .inr ⟨⟨2, rfl⟩, .inl rfl⟩, rfl⟩, .inl rfl, rfl⟩
  refine pure_of Try.func18 (by rfl) rfl (by kernel_rfl) (by rfl) ?_
  -- the loop, whatever is wrong ahead
  rcases playE_cases s ops with ⟨h, hE⟩ | ⟨h, h1, hE⟩ | ⟨h, h1, hE⟩
  · have hz : playR s ops = (zeroS, storeChk s) := by unfold playR; rw [hE, if_pos h]
    (((conv => whnf); repeat ((with_reducible first | refine BCase.tt ?_ | refine BCase.ff ?_); (conv => whnf))); repeat' ((first | with_reducible refine Wr.u8 ?_ | ((with_reducible first | refine Wr.ci ?wxs ?_ | refine Wr.c3 ?wxs ?_ | refine Wr.c6 ?wxs ?_ | refine BCase.dt ?wxs ?_); case wxs => (first | omega | (simp only [lens, true_and, and_true]; (try omega); done))) | ((with_reducible refine BCase.df ?wxs ?_); case wxs => (first | omega | (simp only [lens, true_and, and_true]; (try omega); done))) | ((with_reducible refine Need.mk ?wxs ?_); case wxs => first | (first | omega | (simp only [lens, true_and, and_true]; (try omega); done)) | decide | kernel_rfl) | refine BCase.t (by decide) ?_ | refine BCase.f (by decide) ?_ | refine CallP.pure _ rfl _ (pc) ?_ | with_reducible (first | refine EmpOr.app ?_ | refine BCase.not ?_ | refine BCase.and ?_ | refine BCase.or ?_ | refine BCase.d (fun _ => ?_) (fun _ => ?_))) <;> ((conv => whnf); repeat ((with_reducible first | refine BCase.tt ?_ | refine BCase.ff ?_); (conv => whnf)))))
    refine LoopC.mk Unit (fun _ => [(1, .d (.c (opsC ops))), (2, .d (.ptr 2 0)), (4, .d (.ptr 4 0)), (6, pInt .i64 (storeChk s)), (7, pInt .i64 0)]) (fun _ => [(2, storeBox s), (4, storeBox zeroS)]) [2, 4] (fun _ => True) (fun _ => 0) () trivial ?start1 ?round1
    case start1 => exact ⟨[(2, 2), (4, 4)], rfl, rfl, ⟨.inl rfl, ⟨rfl, rfl, rfl⟩, ⟨rfl, rfl, rfl⟩, .inl rfl, .inl rfl, trivial⟩, ⟨rfl, rfl, .inl rfl, .inl rfl, .inl rfl, .inl rfl, rfl⟩, ⟨rfl, rfl, .inr ⟨⟨1, rfl⟩, .inl rfl⟩, .inr ⟨⟨2, rfl⟩, .inl rfl⟩, .inr ⟨⟨1, rfl⟩, .inl rfl⟩, .inr ⟨⟨2, rfl⟩, .inl rfl⟩, rfl⟩, trivial⟩
    case round1 =>
      intro _ _
      (((conv => whnf); repeat ((with_reducible first | refine BCase.tt ?_ | refine BCase.ff ?_); (conv => whnf))); repeat' ((first | with_reducible refine Wr.u8 ?_ | ((with_reducible first | refine Wr.ci ?wxs ?_ | refine Wr.c3 ?wxs ?_ | refine Wr.c6 ?wxs ?_ | refine BCase.dt ?wxs ?_); case wxs => (first | omega | (simp only [lens, true_and, and_true]; (try omega); done))) | ((with_reducible refine BCase.df ?wxs ?_); case wxs => (first | omega | (simp only [lens, true_and, and_true]; (try omega); done))) | ((with_reducible refine Need.mk ?wxs ?_); case wxs => first | (first | omega | (simp only [lens, true_and, and_true]; (try omega); done)) | decide | kernel_rfl) | refine BCase.t (by decide) ?_ | refine BCase.f (by decide) ?_ | with_reducible (first | refine EmpOr.app ?_ | refine BCase.not ?_ | refine BCase.and ?_ | refine BCase.or ?_ | refine BCase.d (fun _ => ?_) (fun _ => ?_))) <;> ((conv => whnf); repeat ((with_reducible first | refine BCase.tt ?_ | refine BCase.ff ?_); (conv => whnf)))))
      all_goals exact zero _ hz
  · have hz : playR s ops = (zeroS, 2) := by unfold playR; rw [hE, if_pos (by decide)]
    rw [h] at pc
    (((conv => whnf); repeat ((with_reducible first | refine BCase.tt ?_ | refine BCase.ff ?_); (conv => whnf))); repeat' ((first | with_reducible refine Wr.u8 ?_ | ((with_reducible first | refine Wr.ci ?wxs ?_ | refine Wr.c3 ?wxs ?_ | refine Wr.c6 ?wxs ?_ | refine BCase.dt ?wxs ?_); case wxs => (first | omega | (simp only [lens, true_and, and_true]; (try omega); done))) | ((with_reducible refine BCase.df ?wxs ?_); case wxs => (first | omega | (simp only [lens, true_and, and_true]; (try omega); done))) | ((with_reducible refine Need.mk ?wxs ?_); case wxs => first | (first | omega | (simp only [lens, true_and, and_true]; (try omega); done)) | decide | kernel_rfl) | refine BCase.t (by decide) ?_ | refine BCase.f (by decide) ?_ | refine CallP.pure _ rfl _ (pc) ?_ | with_reducible (first | refine EmpOr.app ?_ | refine BCase.not ?_ | refine BCase.and ?_ | refine BCase.or ?_ | refine BCase.d (fun _ => ?_) (fun _ => ?_))) <;> ((conv => whnf); repeat ((with_reducible first | refine BCase.tt ?_ | refine BCase.ff ?_); (conv => whnf)))))
    refine LoopC.mk Unit (fun _ => [(1, .d (.c (opsC ops))), (2, .d (.ptr 2 0)), (4, .d (.ptr 4 0)), (6, pInt .i64 2), (7, pInt .i64 0)]) (fun _ => [(2, storeBox s), (4, storeBox zeroS)]) [2, 4] (fun _ => True) (fun _ => 0) () trivial ?start2 ?round2
    case start2 => exact ⟨[(2, 2), (4, 4)], rfl, rfl, ⟨.inl rfl, ⟨rfl, rfl, rfl⟩, ⟨rfl, rfl, rfl⟩, .inl rfl, .inl rfl, trivial⟩, ⟨rfl, rfl, .inl rfl, .inl rfl, .inl rfl, .inl rfl, rfl⟩, ⟨rfl, rfl, .inr ⟨⟨1, rfl⟩, .inl rfl⟩, .inr ⟨⟨2, rfl⟩, .inl rfl⟩, .inr ⟨⟨1, rfl⟩, .inl rfl⟩, .inr ⟨⟨2, rfl⟩, .inl rfl⟩, rfl⟩, trivial⟩
    case round2 =>
      intro _ _
      (((conv => whnf); repeat ((with_reducible first | refine BCase.tt ?_ | refine BCase.ff ?_); (conv => whnf))); repeat' ((first | with_reducible refine Wr.u8 ?_ | ((with_reducible first | refine Wr.ci ?wxs ?_ | refine Wr.c3 ?wxs ?_ | refine Wr.c6 ?wxs ?_ | refine BCase.dt ?wxs ?_); case wxs => (first | omega | (simp only [lens, true_and, and_true]; (try omega); done))) | ((with_reducible refine BCase.df ?wxs ?_); case wxs => (first | omega | (simp only [lens, true_and, and_true]; (try omega); done))) | ((with_reducible refine Need.mk ?wxs ?_); case wxs => first | (first | omega | (simp only [lens, true_and, and_true]; (try omega); done)) | decide | kernel_rfl) | refine BCase.t (by decide) ?_ | refine BCase.f (by decide) ?_ | with_reducible (first | refine EmpOr.app ?_ | refine BCase.not ?_ | refine BCase.and ?_ | refine BCase.or ?_ | refine BCase.d (fun _ => ?_) (fun _ => ?_))) <;> ((conv => whnf); repeat ((with_reducible first | refine BCase.tt ?_ | refine BCase.ff ?_); (conv => whnf)))))
      all_goals exact zero _ hz
  · have hz : playR s ops = playG s ops := by unfold playR; rw [hE, if_neg (by decide)]
    rw [h] at pc
    (((conv => whnf); repeat ((with_reducible first | refine BCase.tt ?_ | refine BCase.ff ?_); (conv => whnf))); repeat' ((first | with_reducible refine Wr.u8 ?_ | ((with_reducible first | refine Wr.ci ?wxs ?_ | refine Wr.c3 ?wxs ?_ | refine Wr.c6 ?wxs ?_ | refine BCase.dt ?wxs ?_); case wxs => (first | omega | (simp only [lens, true_and, and_true]; (try omega); done))) | ((with_reducible refine BCase.df ?wxs ?_); case wxs => (first | omega | (simp only [lens, true_and, and_true]; (try omega); done))) | ((with_reducible refine Need.mk ?wxs ?_); case wxs => first | (first | omega | (simp only [lens, true_and, and_true]; (try omega); done)) | decide | kernel_rfl) | refine BCase.t (by decide) ?_ | refine BCase.f (by decide) ?_ | refine CallP.pure _ rfl _ (pc) ?_ | with_reducible (first | refine EmpOr.app ?_ | refine BCase.not ?_ | refine BCase.and ?_ | refine BCase.or ?_ | refine BCase.d (fun _ => ?_) (fun _ => ?_))) <;> ((conv => whnf); repeat ((with_reducible first | refine BCase.tt ?_ | refine BCase.ff ?_); (conv => whnf)))))
    refine LoopC.mk (Nat × Str × Int) (fun x => [(1, .d (.c (opsC ops))), (2, .d (.ptr 2 0)), (4, .d (.ptr 4 0)), (6, pInt .i64 x.2.2), (7, pInt .i64 x.1)]) (fun x => [(2, storeBox x.2.1), (4, storeBox zeroS)]) [2, 4] (fun x => x.1 ≤ ops.length ∧ (x.2.2 = 0 → playG s ops = playG x.2.1 (ops.drop x.1)) ∧ (x.2.2 ≠ 0 → playG s ops = (zeroS, x.2.2))) (fun x => ops.length - x.1) (0, s, 0) ⟨Nat.zero_le _, fun _ => rfl, fun q => absurd rfl q⟩ ?start3 ?round3
    case start3 => exact ⟨[(2, 2), (4, 4)], rfl, rfl, ⟨.inl rfl, ⟨rfl, rfl, rfl⟩, ⟨rfl, rfl, rfl⟩, .inl rfl, .inl rfl, trivial⟩, ⟨rfl, rfl, .inl rfl, .inl rfl, .inl rfl, .inl rfl, rfl⟩, ⟨rfl, rfl, .inr ⟨⟨1, rfl⟩, .inl rfl⟩, .inr ⟨⟨2, rfl⟩, .inl rfl⟩, .inr ⟨⟨1, rfl⟩, .inl rfl⟩, .inr ⟨⟨2, rfl⟩, .inl rfl⟩, rfl⟩, trivial⟩
    case round3 =>
      rintro ⟨j, t, e⟩ ⟨hj, hi⟩
      simp only at hj hi ⊢
      by_cases he : e = 0
      · subst he
        have hi := hi.1 rfl
        by_cases q : j < ops.length
        · have po := p_opof t ops[j]
          rw [List.drop_eq_getElem_cons q, playG_cons] at hi
          have hi := Lib.hid hi
          (((conv => whnf); repeat ((with_reducible first | refine BCase.tt ?_ | refine BCase.ff ?_); (conv => whnf))); repeat' ((first | with_reducible refine Wr.u8 ?_ | ((with_reducible first | refine Wr.ci ?wxs ?_ | refine Wr.c3 ?wxs ?_ | refine Wr.c6 ?wxs ?_ | refine BCase.dt ?wxs ?_); case wxs => (first | omega | (simp only [lens, true_and, and_true]; (try omega); done))) | ((with_reducible refine BCase.df ?wxs ?_); case wxs => (first | omega | (simp only [lens, true_and, and_true]; (try omega); done))) | ((with_reducible refine Need.mk ?wxs ?_); case wxs => first | (first | omega | (simp only [lens, true_and, and_true]; (try omega); done)) | decide | kernel_rfl) | refine BCase.t (by decide) ?_ | refine BCase.f (by decide) ?_ | (refine Idx.mapI j rfl q ?_) | refine CallP.pure _ rfl _ (po) ?_ | with_reducible (first | refine EmpOr.app ?_ | refine BCase.not ?_ | refine BCase.and ?_ | refine BCase.or ?_ | refine BCase.d (fun _ => ?_) (fun _ => ?_))) <;> ((conv => whnf); repeat ((with_reducible first | refine BCase.tt ?_ | refine BCase.ff ?_); (conv => whnf)))))
          refine ⟨(j + 1, opR t ops[j]), ⟨by show j + 1 ≤ _; omega, ?_⟩, by show ops.length - (j + 1) < ops.length - j; omega, [(2, 2), (4, 4)], rfl, rfl, ⟨.inl rfl, ⟨rfl, rfl, rfl⟩, ⟨rfl, rfl, rfl⟩, .inl rfl, PLe.int (by show ((j : Int) + 1) = ((j + 1 : Nat) : Int); omega), trivial⟩, ⟨rfl, rfl, .inl rfl, .inl rfl, .inl rfl, .inl rfl, rfl⟩, ⟨rfl, rfl, .inl rfl, .inl rfl, .inl rfl, .inl rfl, rfl⟩, trivial⟩
          exact ⟨fun h0 => hi.out.trans (if_pos h0), fun h0 => hi.out.trans (if_neg h0)⟩
        · rw [List.drop_of_length_le (by omega)] at hi
          (((conv => whnf); repeat ((with_reducible first | refine BCase.tt ?_ | refine BCase.ff ?_); (conv => whnf))); repeat' ((first | with_reducible refine Wr.u8 ?_ | ((with_reducible first | refine Wr.ci ?wxs ?_ | refine Wr.c3 ?wxs ?_ | refine Wr.c6 ?wxs ?_ | refine BCase.dt ?wxs ?_); case wxs => (first | omega | (simp only [lens, true_and, and_true]; (try omega); done))) | ((with_reducible refine BCase.df ?wxs ?_); case wxs => (first | omega | (simp only [lens, true_and, and_true]; (try omega); done))) | ((with_reducible refine Need.mk ?wxs ?_); case wxs => first | (first | omega | (simp only [lens, true_and, and_true]; (try omega); done)) | decide | kernel_rfl) | refine BCase.t (by decide) ?_ | refine BCase.f (by decide) ?_ | with_reducible (first | refine EmpOr.app ?_ | refine BCase.not ?_ | refine BCase.and ?_ | refine BCase.or ?_ | refine BCase.d (fun _ => ?_) (fun _ => ?_))) <;> ((conv => whnf); repeat ((with_reducible first | refine BCase.tt ?_ | refine BCase.ff ?_); (conv => whnf)))))
          refine Ret.eq ?_
          rw [hz, hi]; rfl
      · have hi := hi.2 he
        by_cases q : j < ops.length
        · (((conv => whnf); repeat ((with_reducible first | refine BCase.tt ?_ | refine BCase.ff ?_); (conv => whnf))); repeat' ((first | with_reducible refine Wr.u8 ?_ | ((with_reducible first | refine Wr.ci ?wxs ?_ | refine Wr.c3 ?wxs ?_ | refine Wr.c6 ?wxs ?_ | refine BCase.dt ?wxs ?_); case wxs => (first | omega | (simp only [lens, true_and, and_true]; (try omega); done))) | ((with_reducible refine BCase.df ?wxs ?_); case wxs => (first | omega | (simp only [lens, true_and, and_true]; (try omega); done))) | ((with_reducible refine Need.mk ?wxs ?_); case wxs => first | (first | omega | (simp only [lens, true_and, and_true]; (try omega); done)) | decide | kernel_rfl) | refine BCase.t (by decide) ?_ | refine BCase.f (by decide) ?_ | with_reducible (first | refine EmpOr.app ?_ | refine BCase.not ?_ | refine BCase.and ?_ | refine BCase.or ?_ | refine BCase.d (fun _ => ?_) (fun _ => ?_))) <;> ((conv => whnf); repeat ((with_reducible first | refine BCase.tt ?_ | refine BCase.ff ?_); (conv => whnf)))))
          exact zero e (hz.trans hi)
        · (((conv => whnf); repeat ((with_reducible first | refine BCase.tt ?_ | refine BCase.ff ?_); (conv => whnf))); repeat' ((first | with_reducible refine Wr.u8 ?_ | ((with_reducible first | refine Wr.ci ?wxs ?_ | refine Wr.c3 ?wxs ?_ | refine Wr.c6 ?wxs ?_ | refine BCase.dt ?wxs ?_); case wxs => (first | omega | (simp only [lens, true_and, and_true]; (try omega); done))) | ((with_reducible refine BCase.df ?wxs ?_); case wxs => (first | omega | (simp only [lens, true_and, and_true]; (try omega); done))) | ((with_reducible refine Need.mk ?wxs ?_); case wxs => first | (first | omega | (simp only [lens, true_and, and_true]; (try omega); done)) | decide | kernel_rfl) | refine BCase.t (by decide) ?_ | refine BCase.f (by decide) ?_ | with_reducible (first | refine EmpOr.app ?_ | refine BCase.not ?_ | refine BCase.and ?_ | refine BCase.or ?_ | refine BCase.d (fun _ => ?_) (fun _ => ?_))) <;> ((conv => whnf); repeat ((with_reducible first | refine BCase.tt ?_ | refine BCase.ff ?_); (conv => whnf)))))
          exact zero e (hz.trans hi)
/-! ### Play -/
abbrev fnV (f : FuncId) : PV := .d (.c (.v (.func (.func f) #[] #[])))
abbrev nilF : PV := .d (.c (.v .nilFunc))
def ofF (k : Int) : PV := if k = 1 then fnV 59 else if k = 2 then fnV 60 else if k = 3 then fnV 59 else if k = 4 then fnV 60 else nilF
def doF (k : Int) : PV := if k = 1 then fnV 61 else if k = 2 then fnV 61 else if k = 3 then fnV 63 else if k = 4 then fnV 63 else nilF
theorem p_doer (k : Int) : Pure Try.prog 42 [pInt .i64 k] (.tup [ofF k, doF k]) := by
  refine pure_of Try.func42 (by rfl) rfl (by kernel_rfl) (by rfl) ?_
  unfold ofF doF
  by_cases h1 : k = 1
  · rw [if_pos h1, if_pos h1]
    (((conv => whnf); repeat ((with_reducible first | refine BCase.tt ?_ | refine BCase.ff ?_); (conv => whnf))); repeat' ((first | with_reducible refine Wr.u8 ?_ | ((with_reducible first | refine Wr.ci ?wxs ?_ | refine Wr.c3 ?wxs ?_ | refine Wr.c6 ?wxs ?_ | refine BCase.dt ?wxs ?_); case wxs => (first | omega | (simp only [lens, true_and, and_true]; (try omega); done))) | ((with_reducible refine BCase.df ?wxs ?_); case wxs => (first | omega | (simp only [lens, true_and, and_true]; (try omega); done))) | ((with_reducible refine Need.mk ?wxs ?_); case wxs => first | (first | omega | (simp only [lens, true_and, and_true]; (try omega); done)) | decide | kernel_rfl) | refine BCase.t (by decide) ?_ | refine BCase.f (by decide) ?_ | with_reducible (first | refine EmpOr.app ?_ | refine BCase.not ?_ | refine BCase.and ?_ | refine BCase.or ?_ | refine BCase.d (fun _ => ?_) (fun _ => ?_))) <;> ((conv => whnf); repeat ((with_reducible first | refine BCase.tt ?_ | refine BCase.ff ?_); (conv => whnf)))))
    exact Ret.mk rfl
  · rw [if_neg h1, if_neg h1]
    by_cases h2 : k = 2
    · rw [if_pos h2, if_pos h2]
      (((conv => whnf); repeat ((with_reducible first | refine BCase.tt ?_ | refine BCase.ff ?_); (conv => whnf))); repeat' ((first | with_reducible refine Wr.u8 ?_ | ((with_reducible first | refine Wr.ci ?wxs ?_ | refine Wr.c3 ?wxs ?_ | refine Wr.c6 ?wxs ?_ | refine BCase.dt ?wxs ?_); case wxs => (first | omega | (simp only [lens, true_and, and_true]; (try omega); done))) | ((with_reducible refine BCase.df ?wxs ?_); case wxs => (first | omega | (simp only [lens, true_and, and_true]; (try omega); done))) | ((with_reducible refine Need.mk ?wxs ?_); case wxs => first | (first | omega | (simp only [lens, true_and, and_true]; (try omega); done)) | decide | kernel_rfl) | refine BCase.t (by decide) ?_ | refine BCase.f (by decide) ?_ | with_reducible (first | refine EmpOr.app ?_ | refine BCase.not ?_ | refine BCase.and ?_ | refine BCase.or ?_ | refine BCase.d (fun _ => ?_) (fun _ => ?_))) <;> ((conv => whnf); repeat ((with_reducible first | refine BCase.tt ?_ | refine BCase.ff ?_); (conv => whnf)))))
      exact Ret.mk rfl
    · rw [if_neg h2, if_neg h2]
      by_cases h3 : k = 3
      · rw [if_pos h3, if_pos h3]
        (((conv => whnf); repeat ((with_reducible first | refine BCase.tt ?_ | refine BCase.ff ?_); (conv => whnf))); repeat' ((first | with_reducible refine Wr.u8 ?_ | ((with_reducible first | refine Wr.ci ?wxs ?_ | refine Wr.c3 ?wxs ?_ | refine Wr.c6 ?wxs ?_ | refine BCase.dt ?wxs ?_); case wxs => (first | omega | (simp only [lens, true_and, and_true]; (try omega); done))) | ((with_reducible refine BCase.df ?wxs ?_); case wxs => (first | omega | (simp only [lens, true_and, and_true]; (try omega); done))) | ((with_reducible refine Need.mk ?wxs ?_); case wxs => first | (first | omega | (simp only [lens, true_and, and_true]; (try omega); done)) | decide | kernel_rfl) | refine BCase.t (by decide) ?_ | refine BCase.f (by decide) ?_ | with_reducible (first | refine EmpOr.app ?_ | refine BCase.not ?_ | refine BCase.and ?_ | refine BCase.or ?_ | refine BCase.d (fun _ => ?_) (fun _ => ?_))) <;> ((conv => whnf); repeat ((with_reducible first | refine BCase.tt ?_ | refine BCase.ff ?_); (conv => whnf)))))
        exact Ret.mk rfl
      · rw [if_neg h3, if_neg h3]
        by_cases h4 : k = 4
        · rw [if_pos h4, if_pos h4]
          (((conv => whnf); repeat ((with_reducible first | refine BCase.tt ?_ | refine BCase.ff ?_); (conv => whnf))); repeat' ((first | with_reducible refine Wr.u8 ?_ | ((with_reducible first | refine Wr.ci ?wxs ?_ | refine Wr.c3 ?wxs ?_ | refine Wr.c6 ?wxs ?_ | refine BCase.dt ?wxs ?_); case wxs => (first | omega | (simp only [lens, true_and, and_true]; (try omega); done))) | ((with_reducible refine BCase.df ?wxs ?_); case wxs => (first | omega | (simp only [lens, true_and, and_true]; (try omega); done))) | ((with_reducible refine Need.mk ?wxs ?_); case wxs => first | (first | omega | (simp only [lens, true_and, and_true]; (try omega); done)) | decide | kernel_rfl) | refine BCase.t (by decide) ?_ | refine BCase.f (by decide) ?_ | with_reducible (first | refine EmpOr.app ?_ | refine BCase.not ?_ | refine BCase.and ?_ | refine BCase.or ?_ | refine BCase.d (fun _ => ?_) (fun _ => ?_))) <;> ((conv => whnf); repeat ((with_reducible first | refine BCase.tt ?_ | refine BCase.ff ?_); (conv => whnf)))))
          exact Ret.mk rfl
        · rw [if_neg h4, if_neg h4]
          (((conv => whnf); repeat ((with_reducible first | refine BCase.tt ?_ | refine BCase.ff ?_); (conv => whnf))); repeat' ((first | with_reducible refine Wr.u8 ?_ | ((with_reducible first | refine Wr.ci ?wxs ?_ | refine Wr.c3 ?wxs ?_ | refine Wr.c6 ?wxs ?_ | refine BCase.dt ?wxs ?_); case wxs => (first | omega | (simp only [lens, true_and, and_true]; (try omega); done))) | ((with_reducible refine BCase.df ?wxs ?_); case wxs => (first | omega | (simp only [lens, true_and, and_true]; (try omega); done))) | ((with_reducible refine Need.mk ?wxs ?_); case wxs => first | (first | omega | (simp only [lens, true_and, and_true]; (try omega); done)) | decide | kernel_rfl) | refine BCase.t (by decide) ?_ | refine BCase.f (by decide) ?_ | with_reducible (first | refine EmpOr.app ?_ | refine BCase.not ?_ | refine BCase.and ?_ | refine BCase.or ?_ | refine BCase.d (fun _ => ?_) (fun _ => ?_))) <;> ((conv => whnf); repeat ((with_reducible first | refine BCase.tt ?_ | refine BCase.ff ?_); (conv => whnf)))))
          exact Ret.mk rfl
theorem s_of1 (s : Str) : CallS Try.prog 59 [.d (.ptr FK 0)] [(FK, storeBox s)] [] (.d (.ptr FK 0)) [] := by
  refine callS_of Try.func59 (by rfl) rfl (by kernel_rfl) (by rfl) [FK] rfl ?_
  (((conv => whnf); repeat ((with_reducible first | refine BCase.tt ?_ | refine BCase.ff ?_); (conv => whnf))); repeat' ((first | with_reducible refine Wr.u8 ?_ | ((with_reducible first | refine Wr.ci ?wxs ?_ | refine Wr.c3 ?wxs ?_ | refine Wr.c6 ?wxs ?_ | refine BCase.dt ?wxs ?_); case wxs => (first | omega | (simp only [lens, true_and, and_true]; (try omega); done))) | ((with_reducible refine BCase.df ?wxs ?_); case wxs => (first | omega | (simp only [lens, true_and, and_true]; (try omega); done))) | ((with_reducible refine Need.mk ?wxs ?_); case wxs => first | (first | omega | (simp only [lens, true_and, and_true]; (try omega); done)) | decide | kernel_rfl) | refine BCase.t (by decide) ?_ | refine BCase.f (by decide) ?_ | with_reducible (first | refine EmpOr.app ?_ | refine BCase.not ?_ | refine BCase.and ?_ | refine BCase.or ?_ | refine BCase.d (fun _ => ?_) (fun _ => ?_))) <;> ((conv => whnf); repeat ((with_reducible first | refine BCase.tt ?_ | refine BCase.ff ?_); (conv => whnf)))))
  exact RetS.mk [(FK, FK)] [FK] rfl rfl ⟨rfl, rfl, rfl⟩ ⟨⟨rfl, rfl, .inl rfl, .inl rfl, .inl rfl, .inl rfl, rfl⟩, trivial⟩
theorem s_of2 (s : Str) : CallS Try.prog 60 [.d (.ptr FK 0)] [(FK, storeBox s)] [] (.d (.ptr FK 2)) [] := by
  refine callS_of Try.func60 (by rfl) rfl (by kernel_rfl) (by rfl) [FK] rfl ?_
  (((conv => whnf); repeat ((with_reducible first | refine BCase.tt ?_ | refine BCase.ff ?_); (conv => whnf))); repeat' ((first | with_reducible refine Wr.u8 ?_ | ((with_reducible first | refine Wr.ci ?wxs ?_ | refine Wr.c3 ?wxs ?_ | refine Wr.c6 ?wxs ?_ | refine BCase.dt ?wxs ?_); case wxs => (first | omega | (simp only [lens, true_and, and_true]; (try omega); done))) | ((with_reducible refine BCase.df ?wxs ?_); case wxs => (first | omega | (simp only [lens, true_and, and_true]; (try omega); done))) | ((with_reducible refine Need.mk ?wxs ?_); case wxs => first | (first | omega | (simp only [lens, true_and, and_true]; (try omega); done)) | decide | kernel_rfl) | refine BCase.t (by decide) ?_ | refine BCase.f (by decide) ?_ | with_reducible (first | refine EmpOr.app ?_ | refine BCase.not ?_ | refine BCase.and ?_ | refine BCase.or ?_ | refine BCase.d (fun _ => ?_) (fun _ => ?_))) <;> ((conv => whnf); repeat ((with_reducible first | refine BCase.tt ?_ | refine BCase.ff ?_); (conv => whnf)))))
  exact RetS.mk [(FK, FK)] [FK] rfl rfl ⟨rfl, rfl, rfl⟩ ⟨⟨rfl, rfl, .inl rfl, .inl rfl, .inl rfl, .inl rfl, rfl⟩, trivial⟩
theorem p_do3 (x : Dk) (o : Opr) : Pure Try.prog 61 [dkV x, .agg ((encO o).map D.c)] (.tup [dkV (writeP x.1 x.2 o.2.1 o.2.2, writeQ x.1 x.2 o.2.1 o.2.2), pInt .i64 (writeE x.1 x.2 o.2.1 o.2.2)]) := by
  have pw := p_dwrite x o.2.1 o.2.2
  refine pure_of Try.func61 (by rfl) rfl (by kernel_rfl) (by rfl) ?_
  (((conv => whnf); repeat ((with_reducible first | refine BCase.tt ?_ | refine BCase.ff ?_); (conv => whnf))); repeat' ((first | with_reducible refine Wr.u8 ?_ | ((with_reducible first | refine Wr.ci ?wxs ?_ | refine Wr.c3 ?wxs ?_ | refine Wr.c6 ?wxs ?_ | refine BCase.dt ?wxs ?_); case wxs => (first | omega | (simp only [lens, true_and, and_true]; (try omega); done))) | ((with_reducible refine BCase.df ?wxs ?_); case wxs => (first | omega | (simp only [lens, true_and, and_true]; (try omega); done))) | ((with_reducible refine Need.mk ?wxs ?_); case wxs => first | (first | omega | (simp only [lens, true_and, and_true]; (try omega); done)) | decide | kernel_rfl) | refine BCase.t (by decide) ?_ | refine BCase.f (by decide) ?_ | refine CallP.pure _ rfl _ (pw) ?_ | with_reducible (first | refine EmpOr.app ?_ | refine BCase.not ?_ | refine BCase.and ?_ | refine BCase.or ?_ | refine BCase.d (fun _ => ?_) (fun _ => ?_))) <;> ((conv => whnf); repeat ((with_reducible first | refine BCase.tt ?_ | refine BCase.ff ?_); (conv => whnf)))))
  exact Ret.mk rfl
theorem settle_all (x : Dk) : settleP x.1 x.2 (fun _ => true) = crashP x.1 x.2 all1 := settleP_crash x.1 x.2 (fun _ => true) all1 fun i hi => (bitAt_all i (by omega)).symm
theorem p_do4 (x : Dk) (o : Opr) : Pure Try.prog 63 [dkV x, .agg ((encO o).map D.c)] (.tup [dkV (crashP x.1 x.2 all1, []), pInt .i64 (check x.1 x.2)]) := by
  have pw := p_dsync x
  rw [settle_all] at pw
  refine pure_of Try.func63 (by rfl) rfl (by kernel_rfl) (by rfl) ?_
  (((conv => whnf); repeat ((with_reducible first | refine BCase.tt ?_ | refine BCase.ff ?_); (conv => whnf))); repeat' ((first | with_reducible refine Wr.u8 ?_ | ((with_reducible first | refine Wr.ci ?wxs ?_ | refine Wr.c3 ?wxs ?_ | refine Wr.c6 ?wxs ?_ | refine BCase.dt ?wxs ?_); case wxs => (first | omega | (simp only [lens, true_and, and_true]; (try omega); done))) | ((with_reducible refine BCase.df ?wxs ?_); case wxs => (first | omega | (simp only [lens, true_and, and_true]; (try omega); done))) | ((with_reducible refine Need.mk ?wxs ?_); case wxs => first | (first | omega | (simp only [lens, true_and, and_true]; (try omega); done)) | decide | kernel_rfl) | refine BCase.t (by decide) ?_ | refine BCase.f (by decide) ?_ | refine CallP.pure _ rfl _ (pw) ?_ | with_reducible (first | refine EmpOr.app ?_ | refine BCase.not ?_ | refine BCase.and ?_ | refine BCase.or ?_ | refine BCase.d (fun _ => ?_) (fun _ => ?_))) <;> ((conv => whnf); repeat ((with_reducible first | refine BCase.tt ?_ | refine BCase.ff ?_); (conv => whnf)))))
  exact Ret.mk rfl
theorem p_play (s : Str) (ops : List Opr) (hl : ops.length ≤ 140737488355328) : Pure Try.prog 17 [stV s, .d (.c (opsC ops))] (.tup [stV (playR s ops).1, pInt .i64 (playR s ops).2]) := by
  have pc := p_scheck s
  have zero : ∀ e, playR s ops = (zeroS, e) → Ret (.tup [.agg [.c (.v (.slice none 0 0)), .c (.v (.slice none 0 0)), .c (.v (.slice none 0 0)), .c (.v (.slice none 0 0))], pInt .i64 e]) (.tup [stV (playR s ops).1, pInt .i64 (playR s ops).2]) := by
    intro e he
    rw [he]
    exact Ret.le ⟨⟨.inr ⟨⟨1, rfl⟩, .inl rfl⟩, .inr ⟨⟨2, rfl⟩, .inl rfl⟩, .inr ⟨⟨1, rfl⟩, .inl rfl⟩, .inr ⟨⟨2, rfl⟩, .inl rfl⟩, rfl⟩, .inl rfl, rfl⟩
  refine pure_of Try.func17 (by rfl) rfl (by kernel_rfl) (by rfl) ?_
  rcases playE_cases s ops with ⟨h, hE⟩ | ⟨h, h1, hE⟩ | ⟨h, h1, hE⟩
  · have hz : playR s ops = (zeroS, storeChk s) := by unfold playR; rw [hE, if_pos h]
    (((conv => whnf); repeat ((with_reducible first | refine BCase.tt ?_ | refine BCase.ff ?_); (conv => whnf))); repeat' ((first | with_reducible refine Wr.u8 ?_ | ((with_reducible first | refine Wr.ci ?wxs ?_ | refine Wr.c3 ?wxs ?_ | refine Wr.c6 ?wxs ?_ | refine BCase.dt ?wxs ?_); case wxs => (first | omega | (simp only [lens, true_and, and_true]; (try omega); done))) | ((with_reducible refine BCase.df ?wxs ?_); case wxs => (first | omega | (simp only [lens, true_and, and_true]; (try omega); done))) | ((with_reducible refine Need.mk ?wxs ?_); case wxs => first | (first | omega | (simp only [lens, true_and, and_true]; (try omega); done)) | decide | kernel_rfl) | refine BCase.t (by decide) ?_ | refine BCase.f (by decide) ?_ | refine CallP.pure _ rfl _ (pc) ?_ | with_reducible (first | refine EmpOr.app ?_ | refine BCase.not ?_ | refine BCase.and ?_ | refine BCase.or ?_ | refine BCase.d (fun _ => ?_) (fun _ => ?_))) <;> ((conv => whnf); repeat ((with_reducible first | refine BCase.tt ?_ | refine BCase.ff ?_); (conv => whnf)))))
    all_goals exact zero _ hz
  · have hz : playR s ops = (zeroS, 2) := by unfold playR; rw [hE, if_pos (by decide)]
    rw [h] at pc
    (((conv => whnf); repeat ((with_reducible first | refine BCase.tt ?_ | refine BCase.ff ?_); (conv => whnf))); repeat' ((first | with_reducible refine Wr.u8 ?_ | ((with_reducible first | refine Wr.ci ?wxs ?_ | refine Wr.c3 ?wxs ?_ | refine Wr.c6 ?wxs ?_ | refine BCase.dt ?wxs ?_); case wxs => (first | omega | (simp only [lens, true_and, and_true]; (try omega); done))) | ((with_reducible refine BCase.df ?wxs ?_); case wxs => (first | omega | (simp only [lens, true_and, and_true]; (try omega); done))) | ((with_reducible refine Need.mk ?wxs ?_); case wxs => first | (first | omega | (simp only [lens, true_and, and_true]; (try omega); done)) | decide | kernel_rfl) | refine BCase.t (by decide) ?_ | refine BCase.f (by decide) ?_ | refine CallP.pure _ rfl _ (pc) ?_ | with_reducible (first | refine EmpOr.app ?_ | refine BCase.not ?_ | refine BCase.and ?_ | refine BCase.or ?_ | refine BCase.d (fun _ => ?_) (fun _ => ?_))) <;> ((conv => whnf); repeat ((with_reducible first | refine BCase.tt ?_ | refine BCase.ff ?_); (conv => whnf)))))
    all_goals exact zero _ hz
  · have hz : playR s ops = playG s ops := by unfold playR; rw [hE, if_neg (by decide)]
    obtain ⟨k1, k2⟩ := storeChk_ok h
    have o1 := p_down s.1 (by have := (check_ok _ _ k1).1; omega) (by have := (check_ok _ _ k1).2.2.2.1; omega)
    have o2 := p_down s.2 (by have := (check_ok _ _ k2).1; omega) (by have := (check_ok _ _ k2).2.2.2.1; omega)
    rw [h] at pc
    (((conv => whnf); repeat ((with_reducible first | refine BCase.tt ?_ | refine BCase.ff ?_); (conv => whnf))); repeat' ((first | with_reducible refine Wr.u8 ?_ | ((with_reducible first | refine Wr.ci ?wxs ?_ | refine Wr.c3 ?wxs ?_ | refine Wr.c6 ?wxs ?_ | refine BCase.dt ?wxs ?_); case wxs => (first | omega | (simp only [lens, true_and, and_true]; (try omega); done))) | ((with_reducible refine BCase.df ?wxs ?_); case wxs => (first | omega | (simp only [lens, true_and, and_true]; (try omega); done))) | ((with_reducible refine Need.mk ?wxs ?_); case wxs => first | (first | omega | (simp only [lens, true_and, and_true]; (try omega); done)) | decide | kernel_rfl) | refine BCase.t (by decide) ?_ | refine BCase.f (by decide) ?_ | refine CallP.pure _ rfl _ (pc) ?_ | refine CallP.pure _ rfl _ (o1) ?_ | refine CallP.pure _ rfl _ (o2) ?_ | with_reducible (first | refine EmpOr.app ?_ | refine BCase.not ?_ | refine BCase.and ?_ | refine BCase.or ?_ | refine BCase.d (fun _ => ?_) (fun _ => ?_))) <;> ((conv => whnf); repeat ((with_reducible first | refine BCase.tt ?_ | refine BCase.ff ?_); (conv => whnf)))))
    refine LoopC.mk (Nat × Str) (fun x => [(2, .d (.ptr 2 0)), (4, .d (.ptr 4 0)), (33, .d (.c (opsC ops))), (34, pInt .i64 ops.length), (35, pInt .i64 x.1)]) (fun x => [(2, storeBox x.2), (4, storeBox zeroS)]) [2, 4] (fun x => x.1 ≤ ops.length ∧ playG s ops = playG x.2 (ops.drop x.1)) (fun x => ops.length - x.1) (0, s) ⟨Nat.zero_le _, rfl⟩ ?start3 ?round3
    case start3 => exact ⟨[(2, 2), (4, 4)], rfl, rfl, ⟨⟨rfl, rfl, rfl⟩, ⟨rfl, rfl, rfl⟩, .inl rfl, PLe.int (by simp), .inl rfl, trivial⟩, ⟨rfl, rfl, .inl rfl, .inl rfl, .inl rfl, .inl rfl, rfl⟩, ⟨rfl, rfl, .inr ⟨⟨1, rfl⟩, .inl rfl⟩, .inr ⟨⟨2, rfl⟩, .inl rfl⟩, .inr ⟨⟨1, rfl⟩, .inl rfl⟩, .inr ⟨⟨2, rfl⟩, .inl rfl⟩, rfl⟩, trivial⟩
    case round3 =>
      rintro ⟨j, t⟩ ⟨hj, hi⟩
      simp only at hj hi ⊢
      by_cases q : j < ops.length
      · have pd := p_doer ops[j].1
        rw [List.drop_eq_getElem_cons q, playG_cons] at hi
        have hi := Lib.hid hi
        have next : ∀ x, opR t ops[j] = x → Hid (playG s ops = if x.2 = 0 then playG x.1 (ops.drop (j + 1)) else (zeroS, x.2)) := by
          rintro x rfl; exact hi
        clear hi
        unfold opR at next
        unfold ofF doF at pd
        by_cases c1 : ops[j].1 = 1
        · have next := next _ (if_pos c1)
          rw [if_pos c1, if_pos c1] at pd
          have d3 := p_do3 t.1 ops[j]
          by_cases e0 : writeE t.1.1 t.1.2 ops[j].2.1 ops[j].2.2 = 0
          · have next := next.out.trans (if_pos e0)
            rw [e0] at d3
            (((conv => whnf); repeat ((with_reducible first | refine BCase.tt ?_ | refine BCase.ff ?_); (conv => whnf))); repeat' ((first | with_reducible refine Wr.u8 ?_ | ((with_reducible first | refine Wr.ci ?wxs ?_ | refine Wr.c3 ?wxs ?_ | refine Wr.c6 ?wxs ?_ | refine BCase.dt ?wxs ?_); case wxs => (first | omega | (simp only [lens, true_and, and_true]; (try omega); done))) | ((with_reducible refine BCase.df ?wxs ?_); case wxs => (first | omega | (simp only [lens, true_and, and_true]; (try omega); done))) | ((with_reducible refine Need.mk ?wxs ?_); case wxs => first | (first | omega | (simp only [lens, true_and, and_true]; (try omega); done)) | decide | kernel_rfl) | refine BCase.t (by decide) ?_ | refine BCase.f (by decide) ?_ | (refine Idx.mapI j rfl q ?_) | refine CallP.pure _ rfl _ (pd) ?_ | refine CallP.pure _ rfl _ (d3) ?_ | (refine CallP.ret [(FK, 2)] _ _ _ _ _ _ _ (s_of1 t) rfl rfl rfl rfl ⟨rfl, trivial⟩ ?_) | with_reducible (first | refine EmpOr.app ?_ | refine BCase.not ?_ | refine BCase.and ?_ | refine BCase.or ?_ | refine BCase.d (fun _ => ?_) (fun _ => ?_))) <;> ((conv => whnf); repeat ((with_reducible first | refine BCase.tt ?_ | refine BCase.ff ?_); (conv => whnf)))))
            exact ⟨(j + 1, ((writeP t.1.1 t.1.2 ops[j].2.1 ops[j].2.2, writeQ t.1.1 t.1.2 ops[j].2.1 ops[j].2.2), t.2)), ⟨by show j + 1 ≤ _; omega, next⟩, by show ops.length - (j + 1) < ops.length - j; omega, [(2, 2), (4, 4)], rfl, rfl, ⟨⟨rfl, rfl, rfl⟩, ⟨rfl, rfl, rfl⟩, .inl rfl, .inl rfl, PLe.int (by show ((j : Int) + 1) = ((j + 1 : Nat) : Int); omega), trivial⟩, ⟨rfl, rfl, .inl rfl, .inl rfl, .inl rfl, .inl rfl, rfl⟩, ⟨rfl, rfl, .inl rfl, .inl rfl, .inl rfl, .inl rfl, rfl⟩, trivial⟩
          · have next := next.out.trans (if_neg e0)
            (((conv => whnf); repeat ((with_reducible first | refine BCase.tt ?_ | refine BCase.ff ?_); (conv => whnf))); repeat' ((first | with_reducible refine Wr.u8 ?_ | ((with_reducible first | refine Wr.ci ?wxs ?_ | refine Wr.c3 ?wxs ?_ | refine Wr.c6 ?wxs ?_ | refine BCase.dt ?wxs ?_); case wxs => (first | omega | (simp only [lens, true_and, and_true]; (try omega); done))) | ((with_reducible refine BCase.df ?wxs ?_); case wxs => (first | omega | (simp only [lens, true_and, and_true]; (try omega); done))) | ((with_reducible refine Need.mk ?wxs ?_); case wxs => first | (first | omega | (simp only [lens, true_and, and_true]; (try omega); done)) | decide | kernel_rfl) | refine BCase.t (by decide) ?_ | refine BCase.f (by decide) ?_ | (refine Idx.mapI j rfl q ?_) | refine CallP.pure _ rfl _ (pd) ?_ | refine CallP.pure _ rfl _ (d3) ?_ | (refine CallP.ret [(FK, 2)] _ _ _ _ _ _ _ (s_of1 t) rfl rfl rfl rfl ⟨rfl, trivial⟩ ?_) | with_reducible (first | refine EmpOr.app ?_ | refine BCase.not ?_ | refine BCase.and ?_ | refine BCase.or ?_ | refine BCase.d (fun _ => ?_) (fun _ => ?_))) <;> ((conv => whnf); repeat ((with_reducible first | refine BCase.tt ?_ | refine BCase.ff ?_); (conv => whnf)))))
            exact zero _ (hz.trans next)
        · -- another kind
          by_cases c2 : ops[j].1 = 2
          · have next := next _ ((if_neg c1).trans (if_pos c2))
            rw [if_neg c1, if_neg c1, if_pos c2, if_pos c2] at pd
            have d3 := p_do3 t.2 ops[j]
            by_cases e0 : writeE t.2.1 t.2.2 ops[j].2.1 ops[j].2.2 = 0
            · have next := next.out.trans (if_pos e0)
              rw [e0] at d3
              (((conv => whnf); repeat ((with_reducible first | refine BCase.tt ?_ | refine BCase.ff ?_); (conv => whnf))); repeat' ((first | with_reducible refine Wr.u8 ?_ | ((with_reducible first | refine Wr.ci ?wxs ?_ | refine Wr.c3 ?wxs ?_ | refine Wr.c6 ?wxs ?_ | refine BCase.dt ?wxs ?_); case wxs => (first | omega | (simp only [lens, true_and, and_true]; (try omega); done))) | ((with_reducible refine BCase.df ?wxs ?_); case wxs => (first | omega | (simp only [lens, true_and, and_true]; (try omega); done))) | ((with_reducible refine Need.mk ?wxs ?_); case wxs => first | (first | omega | (simp only [lens, true_and, and_true]; (try omega); done)) | decide | kernel_rfl) | refine BCase.t (by decide) ?_ | refine BCase.f (by decide) ?_ | (refine Idx.mapI j rfl q ?_) | refine CallP.pure _ rfl _ (pd) ?_ | refine CallP.pure _ rfl _ (d3) ?_ | (refine CallP.ret [(FK, 2)] _ _ _ _ _ _ _ (s_of2 t) rfl rfl rfl rfl ⟨rfl, trivial⟩ ?_) | with_reducible (first | refine EmpOr.app ?_ | refine BCase.not ?_ | refine BCase.and ?_ | refine BCase.or ?_ | refine BCase.d (fun _ => ?_) (fun _ => ?_))) <;> ((conv => whnf); repeat ((with_reducible first | refine BCase.tt ?_ | refine BCase.ff ?_); (conv => whnf)))))
              exact ⟨(j + 1, (t.1, (writeP t.2.1 t.2.2 ops[j].2.1 ops[j].2.2, writeQ t.2.1 t.2.2 ops[j].2.1 ops[j].2.2))), ⟨by show j + 1 ≤ _; omega, next⟩, by show ops.length - (j + 1) < ops.length - j; omega, [(2, 2), (4, 4)], rfl, rfl, ⟨⟨rfl, rfl, rfl⟩, ⟨rfl, rfl, rfl⟩, .inl rfl, .inl rfl, PLe.int (by show ((j : Int) + 1) = ((j + 1 : Nat) : Int); omega), trivial⟩, ⟨rfl, rfl, .inl rfl, .inl rfl, .inl rfl, .inl rfl, rfl⟩, ⟨rfl, rfl, .inl rfl, .inl rfl, .inl rfl, .inl rfl, rfl⟩, trivial⟩
            · have next := next.out.trans (if_neg e0)
              (((conv => whnf); repeat ((with_reducible first | refine BCase.tt ?_ | refine BCase.ff ?_); (conv => whnf))); repeat' ((first | with_reducible refine Wr.u8 ?_ | ((with_reducible first | refine Wr.ci ?wxs ?_ | refine Wr.c3 ?wxs ?_ | refine Wr.c6 ?wxs ?_ | refine BCase.dt ?wxs ?_); case wxs => (first | omega | (simp only [lens, true_and, and_true]; (try omega); done))) | ((with_reducible refine BCase.df ?wxs ?_); case wxs => (first | omega | (simp only [lens, true_and, and_true]; (try omega); done))) | ((with_reducible refine Need.mk ?wxs ?_); case wxs => first | (first | omega | (simp only [lens, true_and, and_true]; (try omega); done)) | decide | kernel_rfl) | refine BCase.t (by decide) ?_ | refine BCase.f (by decide) ?_ | (refine Idx.mapI j rfl q ?_) | refine CallP.pure _ rfl _ (pd) ?_ | refine CallP.pure _ rfl _ (d3) ?_ | (refine CallP.ret [(FK, 2)] _ _ _ _ _ _ _ (s_of2 t) rfl rfl rfl rfl ⟨rfl, trivial⟩ ?_) | with_reducible (first | refine EmpOr.app ?_ | refine BCase.not ?_ | refine BCase.and ?_ | refine BCase.or ?_ | refine BCase.d (fun _ => ?_) (fun _ => ?_))) <;> ((conv => whnf); repeat ((with_reducible first | refine BCase.tt ?_ | refine BCase.ff ?_); (conv => whnf)))))
              exact zero _ (hz.trans next)
          · -- another kind
            by_cases c3 : ops[j].1 = 3
            · have next := next _ ((if_neg c1).trans ((if_neg c2).trans (if_pos c3)))
              rw [if_neg c1, if_neg c1, if_neg c2, if_neg c2, if_pos c3, if_pos c3] at pd
              have d3 := p_do4 t.1 ops[j]
              by_cases e0 : check t.1.1 t.1.2 = 0
              · have next := next.out.trans (if_pos e0)
                rw [e0] at d3
                (((conv => whnf); repeat ((with_reducible first | refine BCase.tt ?_ | refine BCase.ff ?_); (conv => whnf))); repeat' ((first | with_reducible refine Wr.u8 ?_ | ((with_reducible first | refine Wr.ci ?wxs ?_ | refine Wr.c3 ?wxs ?_ | refine Wr.c6 ?wxs ?_ | refine BCase.dt ?wxs ?_); case wxs => (first | omega | (simp only [lens, true_and, and_true]; (try omega); done))) | ((with_reducible refine BCase.df ?wxs ?_); case wxs => (first | omega | (simp only [lens, true_and, and_true]; (try omega); done))) | ((with_reducible refine Need.mk ?wxs ?_); case wxs => first | (first | omega | (simp only [lens, true_and, and_true]; (try omega); done)) | decide | kernel_rfl) | refine BCase.t (by decide) ?_ | refine BCase.f (by decide) ?_ | (refine Idx.mapI j rfl q ?_) | refine CallP.pure _ rfl _ (pd) ?_ | refine CallP.pure _ rfl _ (d3) ?_ | (refine CallP.ret [(FK, 2)] _ _ _ _ _ _ _ (s_of1 t) rfl rfl rfl rfl ⟨rfl, trivial⟩ ?_) | with_reducible (first | refine EmpOr.app ?_ | refine BCase.not ?_ | refine BCase.and ?_ | refine BCase.or ?_ | refine BCase.d (fun _ => ?_) (fun _ => ?_))) <;> ((conv => whnf); repeat ((with_reducible first | refine BCase.tt ?_ | refine BCase.ff ?_); (conv => whnf)))))
                exact ⟨(j + 1, ((crashP t.1.1 t.1.2 all1, []), t.2)), ⟨by show j + 1 ≤ _; omega, next⟩, by show ops.length - (j + 1) < ops.length - j; omega, [(2, 2), (4, 4)], rfl, rfl, ⟨⟨rfl, rfl, rfl⟩, ⟨rfl, rfl, rfl⟩, .inl rfl, .inl rfl, PLe.int (by show ((j : Int) + 1) = ((j + 1 : Nat) : Int); omega), trivial⟩, ⟨rfl, rfl, .inl rfl, .inl rfl, .inl rfl, .inl rfl, rfl⟩, ⟨rfl, rfl, .inl rfl, .inl rfl, .inl rfl, .inl rfl, rfl⟩, trivial⟩
              · have next := next.out.trans (if_neg e0)
                (((conv => whnf); repeat ((with_reducible first | refine BCase.tt ?_ | refine BCase.ff ?_); (conv => whnf))); repeat' ((first | with_reducible refine Wr.u8 ?_ | ((with_reducible first | refine Wr.ci ?wxs ?_ | refine Wr.c3 ?wxs ?_ | refine Wr.c6 ?wxs ?_ | refine BCase.dt ?wxs ?_); case wxs => (first | omega | (simp only [lens, true_and, and_true]; (try omega); done))) | ((with_reducible refine BCase.df ?wxs ?_); case wxs => (first | omega | (simp only [lens, true_and, and_true]; (try omega); done))) | ((with_reducible refine Need.mk ?wxs ?_); case wxs => first | (first | omega | (simp only [lens, true_and, and_true]; (try omega); done)) | decide | kernel_rfl) | refine BCase.t (by decide) ?_ | refine BCase.f (by decide) ?_ | (refine Idx.mapI j rfl q ?_) | refine CallP.pure _ rfl _ (pd) ?_ | refine CallP.pure _ rfl _ (d3) ?_ | (refine CallP.ret [(FK, 2)] _ _ _ _ _ _ _ (s_of1 t) rfl rfl rfl rfl ⟨rfl, trivial⟩ ?_) | with_reducible (first | refine EmpOr.app ?_ | refine BCase.not ?_ | refine BCase.and ?_ | refine BCase.or ?_ | refine BCase.d (fun _ => ?_) (fun _ => ?_))) <;> ((conv => whnf); repeat ((with_reducible first | refine BCase.tt ?_ | refine BCase.ff ?_); (conv => whnf)))))
                exact zero _ (hz.trans next)
            · -- another kind
              by_cases c4 : ops[j].1 = 4
              · have next := next _ ((if_neg c1).trans ((if_neg c2).trans ((if_neg c3).trans (if_pos c4))))
                rw [if_neg c1, if_neg c1, if_neg c2, if_neg c2, if_neg c3, if_neg c3, if_pos c4, if_pos c4] at pd
                have d3 := p_do4 t.2 ops[j]
                by_cases e0 : check t.2.1 t.2.2 = 0
                · have next := next.out.trans (if_pos e0)
                  rw [e0] at d3
                  (((conv => whnf); repeat ((with_reducible first | refine BCase.tt ?_ | refine BCase.ff ?_); (conv => whnf))); repeat' ((first | with_reducible refine Wr.u8 ?_ | ((with_reducible first | refine Wr.ci ?wxs ?_ | refine Wr.c3 ?wxs ?_ | refine Wr.c6 ?wxs ?_ | refine BCase.dt ?wxs ?_); case wxs => (first | omega | (simp only [lens, true_and, and_true]; (try omega); done))) | ((with_reducible refine BCase.df ?wxs ?_); case wxs => (first | omega | (simp only [lens, true_and, and_true]; (try omega); done))) | ((with_reducible refine Need.mk ?wxs ?_); case wxs => first | (first | omega | (simp only [lens, true_and, and_true]; (try omega); done)) | decide | kernel_rfl) | refine BCase.t (by decide) ?_ | refine BCase.f (by decide) ?_ | (refine Idx.mapI j rfl q ?_) | refine CallP.pure _ rfl _ (pd) ?_ | refine CallP.pure _ rfl _ (d3) ?_ | (refine CallP.ret [(FK, 2)] _ _ _ _ _ _ _ (s_of2 t) rfl rfl rfl rfl ⟨rfl, trivial⟩ ?_) | with_reducible (first | refine EmpOr.app ?_ | refine BCase.not ?_ | refine BCase.and ?_ | refine BCase.or ?_ | refine BCase.d (fun _ => ?_) (fun _ => ?_))) <;> ((conv => whnf); repeat ((with_reducible first | refine BCase.tt ?_ | refine BCase.ff ?_); (conv => whnf)))))
                  exact ⟨(j + 1, (t.1, (crashP t.2.1 t.2.2 all1, []))), ⟨by show j + 1 ≤ _; omega, next⟩, by show ops.length - (j + 1) < ops.length - j; omega, [(2, 2), (4, 4)], rfl, rfl, ⟨⟨rfl, rfl, rfl⟩, ⟨rfl, rfl, rfl⟩, .inl rfl, .inl rfl, PLe.int (by show ((j : Int) + 1) = ((j + 1 : Nat) : Int); omega), trivial⟩, ⟨rfl, rfl, .inl rfl, .inl rfl, .inl rfl, .inl rfl, rfl⟩, ⟨rfl, rfl, .inl rfl, .inl rfl, .inl rfl, .inl rfl, rfl⟩, trivial⟩
                · have next := next.out.trans (if_neg e0)
                  (((conv => whnf); repeat ((with_reducible first | refine BCase.tt ?_ | refine BCase.ff ?_); (conv => whnf))); repeat' ((first | with_reducible refine Wr.u8 ?_ | ((with_reducible first | refine Wr.ci ?wxs ?_ | refine Wr.c3 ?wxs ?_ | refine Wr.c6 ?wxs ?_ | refine BCase.dt ?wxs ?_); case wxs => (first | omega | (simp only [lens, true_and, and_true]; (try omega); done))) | ((with_reducible refine BCase.df ?wxs ?_); case wxs => (first | omega | (simp only [lens, true_and, and_true]; (try omega); done))) | ((with_reducible refine Need.mk ?wxs ?_); case wxs => first | (first | omega | (simp only [lens, true_and, and_true]; (try omega); done)) | decide | kernel_rfl) | refine BCase.t (by decide) ?_ | refine BCase.f (by decide) ?_ | (refine Idx.mapI j rfl q ?_) | refine CallP.pure _ rfl _ (pd) ?_ | refine CallP.pure _ rfl _ (d3) ?_ | (refine CallP.ret [(FK, 2)] _ _ _ _ _ _ _ (s_of2 t) rfl rfl rfl rfl ⟨rfl, trivial⟩ ?_) | with_reducible (first | refine EmpOr.app ?_ | refine BCase.not ?_ | refine BCase.and ?_ | refine BCase.or ?_ | refine BCase.d (fun _ => ?_) (fun _ => ?_))) <;> ((conv => whnf); repeat ((with_reducible first | refine BCase.tt ?_ | refine BCase.ff ?_); (conv => whnf)))))
                  exact zero _ (hz.trans next)
              · -- another kind
                have next := next _ ((if_neg c1).trans ((if_neg c2).trans ((if_neg c3).trans (if_neg c4))))
                rw [if_neg c1, if_neg c1, if_neg c2, if_neg c2, if_neg c3, if_neg c3, if_neg c4, if_neg c4] at pd
                have next := next.out.trans (if_neg (show ¬ (7 : Int) = 0 by decide))
                (((conv => whnf); repeat ((with_reducible first | refine BCase.tt ?_ | refine BCase.ff ?_); (conv => whnf))); repeat' ((first | with_reducible refine Wr.u8 ?_ | ((with_reducible first | refine Wr.ci ?wxs ?_ | refine Wr.c3 ?wxs ?_ | refine Wr.c6 ?wxs ?_ | refine BCase.dt ?wxs ?_); case wxs => (first | omega | (simp only [lens, true_and, and_true]; (try omega); done))) | ((with_reducible refine BCase.df ?wxs ?_); case wxs => (first | omega | (simp only [lens, true_and, and_true]; (try omega); done))) | ((with_reducible refine Need.mk ?wxs ?_); case wxs => first | (first | omega | (simp only [lens, true_and, and_true]; (try omega); done)) | decide | kernel_rfl) | refine BCase.t (by decide) ?_ | refine BCase.f (by decide) ?_ | (refine Idx.mapI j rfl q ?_) | refine CallP.pure _ rfl _ (pd) ?_ | with_reducible (first | refine EmpOr.app ?_ | refine BCase.not ?_ | refine BCase.and ?_ | refine BCase.or ?_ | refine BCase.d (fun _ => ?_) (fun _ => ?_))) <;> ((conv => whnf); repeat ((with_reducible first | refine BCase.tt ?_ | refine BCase.ff ?_); (conv => whnf)))))
                exact zero _ (hz.trans next)
      · rw [List.drop_of_length_le (by omega)] at hi
        (((conv => whnf); repeat ((with_reducible first | refine BCase.tt ?_ | refine BCase.ff ?_); (conv => whnf))); repeat' ((first | with_reducible refine Wr.u8 ?_ | ((with_reducible first | refine Wr.ci ?wxs ?_ | refine Wr.c3 ?wxs ?_ | refine Wr.c6 ?wxs ?_ | refine BCase.dt ?wxs ?_); case wxs => (first | omega | (simp only [lens, true_and, and_true]; (try omega); done))) | ((with_reducible refine BCase.df ?wxs ?_); case wxs => (first | omega | (simp only [lens, true_and, and_true]; (try omega); done))) | ((with_reducible refine Need.mk ?wxs ?_); case wxs => first | (first | omega | (simp only [lens, true_and, and_true]; (try omega); done)) | decide | kernel_rfl) | refine BCase.t (by decide) ?_ | refine BCase.f (by decide) ?_ | with_reducible (first | refine EmpOr.app ?_ | refine BCase.not ?_ | refine BCase.and ?_ | refine BCase.or ?_ | refine BCase.d (fun _ => ?_) (fun _ => ?_))) <;> ((conv => whnf); repeat ((with_reducible first | refine BCase.tt ?_ | refine BCase.ff ?_); (conv => whnf)))))
        refine Ret.eq ?_
        rw [hz, hi]; rfl
end Go.Proofs.Ytohlkegmmbdlaaa.Pm
end

section
namespace Go.Proofs.Ytohlkegmmbdlaaa.Pm
open Go.RowKit K DiskP
set_option linter.unusedVariables false
set_option linter.unusedSimpArgs false
set_option maxRecDepth 100000

def recL : List UInt8 → Option Opr
  | a :: b :: r => if a.toNat = 0 ∧ b.toNat < 32 then some (1, (b.toNat : Int), tx r) else none
  | _ => none
def recR (p : ByteArray) : Option Opr := recL p.data.toList
theorem recL_two (a b : UInt8) (r : List UInt8) : recL (a :: b :: r) = if a.toNat = 0 ∧ b.toNat < 32 then some (1, (b.toNat : Int), tx r) else none := rfl
theorem recR_tx (l : List UInt8) : recR (tx l) = recL l := rfl
/-- what the records from i on say, n of them -/
def undoL (f : Nat → ByteArray) : Nat → Nat → Option (List Opr)
  | _, 0 => some []
  | i, n + 1 => match recR (f i) with
    | none => none
    | some o => (undoL f (i + 1) n).map fun r => o :: r
theorem undoL_succ (f : Nat → ByteArray) (i n : Nat) : undoL f i (n + 1) = match recR (f i) with
    | none => none
    | some o => (undoL f (i + 1) n).map fun r => o :: r := rfl
def headN (p : ByteArray) : Option Nat := match p.data.toList with
  | [_, b] => if b.toNat ≤ 31 then some b.toNat else none
  | _ => none
def undoR (s : Str) : List Opr × Int :=
  if storeChk s ≠ 0 then ([], storeChk s) else if waitsR s = true then ([], 4) else if hotR s = false then ([], 0) else
  match headN (pageAt s.2.1 0) with
  | none => ([], 1)
  | some n => match undoL (fun i => pageAt s.2.1 (i : Int)) 1 n with
    | none => ([], 1)
    | some l => (l ++ endO, 0)
theorem extract_from (l : List UInt8) (k : Nat) : (tx l).extract k (tx l).size = tx (l.drop k) := by
  rw [extract_tx, tx_size, List.take_of_length_le (by rw [List.length_drop]; exact Nat.le_refl _)]
theorem p_record (l : List UInt8) (hl : l.length ≤ 1000) : ∃ no old, Pure Try.prog 47 [pStr (tx l)] (.tup [pInt .i64 no, pStr old, pBool (recL l).isSome]) ∧ ∀ o, recL l = some o → o = (1, no, old) := by
  have tz := tx_size l
  match l, hl, tz with
  | [], hl, tz =>
    refine ⟨0, ⟨#[]⟩, ?_, fun o ho => by cases ho⟩
    refine pure_of Try.func47 (by rfl) rfl (by kernel_rfl) (by rfl) ?_
    (((conv => whnf); repeat ((with_reducible first | refine BCase.tt ?_ | refine BCase.ff ?_); (conv => whnf))); repeat' ((first | with_reducible refine Wr.u8 ?_ | ((with_reducible first | refine Wr.ci ?wxs ?_ | refine Wr.c3 ?wxs ?_ | refine Wr.c6 ?wxs ?_ | refine BCase.dt ?wxs ?_); case wxs => (first | omega | (simp only [lens, true_and, and_true]; (try omega); done))) | ((with_reducible refine BCase.df ?wxs ?_); case wxs => (first | omega | (simp only [lens, true_and, and_true]; (try omega); done))) | ((with_reducible refine Need.mk ?wxs ?_); case wxs => first | (first | omega | (simp only [lens, true_and, and_true]; (try omega); done)) | decide | kernel_rfl) | refine BCase.t (by decide) ?_ | refine BCase.f (by decide) ?_ | with_reducible (first | refine EmpOr.app ?_ | refine BCase.not ?_ | refine BCase.and ?_ | refine BCase.or ?_ | refine BCase.d (fun _ => ?_) (fun _ => ?_))) <;> ((conv => whnf); repeat ((with_reducible first | refine BCase.tt ?_ | refine BCase.ff ?_); (conv => whnf)))))
    exact Ret.mk rfl
  | [a], hl, tz =>
    refine ⟨0, ⟨#[]⟩, ?_, fun o ho => by cases ho⟩
    rw [List.length_singleton] at tz
    refine pure_of Try.func47 (by rfl) rfl (by kernel_rfl) (by rfl) ?_
    (((conv => whnf); repeat ((with_reducible first | refine BCase.tt ?_ | refine BCase.ff ?_); (conv => whnf))); repeat' ((first | with_reducible refine Wr.u8 ?_ | ((with_reducible first | refine Wr.ci ?wxs ?_ | refine Wr.c3 ?wxs ?_ | refine Wr.c6 ?wxs ?_ | refine BCase.dt ?wxs ?_); case wxs => (first | omega | (simp only [lens, true_and, and_true]; (try omega); done))) | ((with_reducible refine BCase.df ?wxs ?_); case wxs => (first | omega | (simp only [lens, true_and, and_true]; (try omega); done))) | ((with_reducible refine Need.mk ?wxs ?_); case wxs => first | (first | omega | (simp only [lens, true_and, and_true]; (try omega); done)) | decide | kernel_rfl) | refine BCase.t (by decide) ?_ | refine BCase.f (by decide) ?_ | with_reducible (first | refine EmpOr.app ?_ | refine BCase.not ?_ | refine BCase.and ?_ | refine BCase.or ?_ | refine BCase.d (fun _ => ?_) (fun _ => ?_))) <;> ((conv => whnf); repeat ((with_reducible first | refine BCase.tt ?_ | refine BCase.ff ?_); (conv => whnf)))))
    exact Ret.mk rfl
  | a :: b :: r, hl, tz =>
    rw [List.length_cons, List.length_cons] at tz
    have ha := a.toNat_lt
    have hb := b.toNat_lt
    refine ⟨(a.toNat : Int) * 256 + b.toNat, tx r, ?_, fun o ho => ?_⟩
    · refine pure_of Try.func47 (by rfl) rfl (by kernel_rfl) (by rfl) ?_
      (((conv => whnf); repeat ((with_reducible first | refine BCase.tt ?_ | refine BCase.ff ?_); (conv => whnf))); repeat ((first | with_reducible refine Wr.u8 ?_ | ((with_reducible first | refine Wr.ci ?wxs ?_ | refine Wr.c3 ?wxs ?_ | refine Wr.c6 ?wxs ?_ | refine BCase.dt ?wxs ?_); case wxs => (first | omega | (simp only [lens, true_and, and_true]; (try omega); done))) | ((with_reducible refine BCase.df ?wxs ?_); case wxs => (first | omega | (simp only [lens, true_and, and_true]; (try omega); done))) | ((with_reducible refine Need.mk ?wxs ?_); case wxs => first | (first | omega | (simp only [lens, true_and, and_true]; (try omega); done)) | decide | kernel_rfl) | refine BCase.t (by decide) ?_ | refine BCase.f (by decide) ?_ | with_reducible (first | refine BCase.not ?_ | refine BCase.and ?_ | refine BCase.or ?_)); ((conv => whnf); repeat ((with_reducible first | refine BCase.tt ?_ | refine BCase.ff ?_); (conv => whnf)))))
      refine SIdx.mk a (by decide) rfl ?_
      (((conv => whnf); repeat ((with_reducible first | refine BCase.tt ?_ | refine BCase.ff ?_); (conv => whnf))); repeat ((first | with_reducible refine Wr.u8 ?_ | ((with_reducible first | refine Wr.ci ?wxs ?_ | refine Wr.c3 ?wxs ?_ | refine Wr.c6 ?wxs ?_ | refine BCase.dt ?wxs ?_); case wxs => (first | omega | (simp only [lens, true_and, and_true]; (try omega); done))) | ((with_reducible refine BCase.df ?wxs ?_); case wxs => (first | omega | (simp only [lens, true_and, and_true]; (try omega); done))) | ((with_reducible refine Need.mk ?wxs ?_); case wxs => first | (first | omega | (simp only [lens, true_and, and_true]; (try omega); done)) | decide | kernel_rfl) | refine BCase.t (by decide) ?_ | refine BCase.f (by decide) ?_ | with_reducible (first | refine BCase.not ?_ | refine BCase.and ?_ | refine BCase.or ?_)); ((conv => whnf); repeat ((with_reducible first | refine BCase.tt ?_ | refine BCase.ff ?_); (conv => whnf)))))
      refine Wr.i64 (by show _ ≤ _ * 256; omega) (by show _ * 256 ≤ _; omega) ?_
      (((conv => whnf); repeat ((with_reducible first | refine BCase.tt ?_ | refine BCase.ff ?_); (conv => whnf))); repeat ((first | with_reducible refine Wr.u8 ?_ | ((with_reducible first | refine Wr.ci ?wxs ?_ | refine Wr.c3 ?wxs ?_ | refine Wr.c6 ?wxs ?_ | refine BCase.dt ?wxs ?_); case wxs => (first | omega | (simp only [lens, true_and, and_true]; (try omega); done))) | ((with_reducible refine BCase.df ?wxs ?_); case wxs => (first | omega | (simp only [lens, true_and, and_true]; (try omega); done))) | ((with_reducible refine Need.mk ?wxs ?_); case wxs => first | (first | omega | (simp only [lens, true_and, and_true]; (try omega); done)) | decide | kernel_rfl) | refine BCase.t (by decide) ?_ | refine BCase.f (by decide) ?_ | with_reducible (first | refine BCase.not ?_ | refine BCase.and ?_ | refine BCase.or ?_)); ((conv => whnf); repeat ((with_reducible first | refine BCase.tt ?_ | refine BCase.ff ?_); (conv => whnf)))))
      refine SIdx.mk b (by decide) rfl ?_
      (((conv => whnf); repeat ((with_reducible first | refine BCase.tt ?_ | refine BCase.ff ?_); (conv => whnf))); repeat ((first | with_reducible refine Wr.u8 ?_ | ((with_reducible first | refine Wr.ci ?wxs ?_ | refine Wr.c3 ?wxs ?_ | refine Wr.c6 ?wxs ?_ | refine BCase.dt ?wxs ?_); case wxs => (first | omega | (simp only [lens, true_and, and_true]; (try omega); done))) | ((with_reducible refine BCase.df ?wxs ?_); case wxs => (first | omega | (simp only [lens, true_and, and_true]; (try omega); done))) | ((with_reducible refine Need.mk ?wxs ?_); case wxs => first | (first | omega | (simp only [lens, true_and, and_true]; (try omega); done)) | decide | kernel_rfl) | refine BCase.t (by decide) ?_ | refine BCase.f (by decide) ?_ | with_reducible (first | refine BCase.not ?_ | refine BCase.and ?_ | refine BCase.or ?_)); ((conv => whnf); repeat ((with_reducible first | refine BCase.tt ?_ | refine BCase.ff ?_); (conv => whnf)))))
      rw [show ((BitVec.ofInt IntKind.i64.bits (a.toNat * 2 ^ min (8 : Int).toNat IntKind.i64.bits) ||| BitVec.ofInt IntKind.i64.bits b.toNat).toNat : Int) = _ from or_byte a b]
      (((conv => whnf); repeat ((with_reducible first | refine BCase.tt ?_ | refine BCase.ff ?_); (conv => whnf))); repeat ((first | with_reducible refine Wr.u8 ?_ | ((with_reducible first | refine Wr.ci ?wxs ?_ | refine Wr.c3 ?wxs ?_ | refine Wr.c6 ?wxs ?_ | refine BCase.dt ?wxs ?_); case wxs => (first | omega | (simp only [lens, true_and, and_true]; (try omega); done))) | ((with_reducible refine BCase.df ?wxs ?_); case wxs => (first | omega | (simp only [lens, true_and, and_true]; (try omega); done))) | ((with_reducible refine Need.mk ?wxs ?_); case wxs => first | (first | omega | (simp only [lens, true_and, and_true]; (try omega); done)) | decide | kernel_rfl) | refine BCase.t (by decide) ?_ | refine BCase.f (by decide) ?_ | with_reducible (first | refine BCase.not ?_ | refine BCase.and ?_ | refine BCase.or ?_)); ((conv => whnf); repeat ((with_reducible first | refine BCase.tt ?_ | refine BCase.ff ?_); (conv => whnf)))))
      refine Ret.eq ?_
      have e1 : (tx (a :: b :: r)).extract (2 : Int).toNat ((tx (a :: b :: r)).size : Int).toNat = tx r := by
        rw [Int.toNat_natCast]
        show (tx (a :: b :: r)).extract 2 _ = _
        rw [extract_from]; rfl
      rw [e1]
      have e2 : (recL (a :: b :: r)).isSome = decide ((a.toNat : Int) * 256 + b.toNat < 32) := by
        rw [recL_two]
        by_cases h : a.toNat = 0 ∧ b.toNat < 32
        · rw [if_pos h]
          exact (decide_eq_true (by omega)).symm
        · rw [if_neg h]
          exact (decide_eq_false (by omega)).symm
      rw [e2]
    · rw [recL_two] at ho
      by_cases h : a.toNat = 0 ∧ b.toNat < 32
      · rw [if_pos h] at ho
        cases ho
        rw [h.1]; simp
      · rw [if_neg h] at ho; cases ho
theorem hot_head {s : Str} (h : storeChk s = 0) (hw : waitsR s = false) : hotR s = isJ (pageAt s.2.1 0) ∧ s.1.2 = [] ∧ s.2.2 = [] := by
  unfold waitsR at hw
  have := of_decide_eq_false hw
  have e1 : s.1.2 = [] := List.eq_nil_of_length_eq_zero (by omega)
  have e2 : s.2.2 = [] := List.eq_nil_of_length_eq_zero (by omega)
  refine ⟨?_, e1, e2⟩
  unfold hotR
  rw [e2]; rfl
theorem undoL_len (f : Nat → ByteArray) : ∀ (n i : Nat) (l : List Opr), undoL f i n = some l → l.length = n
  | 0, i, l, h => by cases h; rfl
  | n + 1, i, l, h => by
    rw [undoL_succ] at h
    split at h
    · cases h
    · rename_i o ho
      cases hq : undoL f (i + 1) n with
      | none => rw [hq] at h; cases h
      | some r =>
        rw [hq] at h
        cases h
        rw [List.length_cons, undoL_len f n (i + 1) r hq]
theorem pageAt_size {p : List ByteArray} (h : p.any tooLong = false) (n : Int) : (pageAt p n).size ≤ 260 := by
  rcases pageAt_mem p n with e | e
  · rw [e]; decide
  · have := List.any_eq_false.1 h _ e
    unfold tooLong at this
    simpa using this
/-- what is known of the records read so far -/
def UndoI (s : Str) (n k : Nat) (l : List Opr) : Prop :=
  undoL (fun i => pageAt s.2.1 (i : Int)) 1 n = (undoL (fun i => pageAt s.2.1 (i : Int)) (k + 1) (n - k)).map fun r => l ++ r
theorem UndoI.next {s : Str} {n k : Nat} {l : List Opr} {o : Opr} (h : UndoI s n k l) (hk : k < n) (ho : recR (pageAt s.2.1 ((k + 1 : Nat) : Int)) = some o) : UndoI s n (k + 1) (l ++ [o]) := by
  unfold UndoI at h ⊢
  rw [h, show n - k = (n - (k + 1)) + 1 by omega, undoL_succ]
  simp only [ho]
  rw [Option.map_map]
  congr 1
  funext r
  simp
theorem UndoI.bad {s : Str} {n k : Nat} {l : List Opr} (h : UndoI s n k l) (hk : k < n) (ho : recR (pageAt s.2.1 ((k + 1 : Nat) : Int)) = none) : undoL (fun i => pageAt s.2.1 (i : Int)) 1 n = none := by
  unfold UndoI at h
  rw [h, show n - k = (n - (k + 1)) + 1 by omega, undoL_succ]
  simp only [ho]; rfl
theorem UndoI.done {s : Str} {n : Nat} {l : List Opr} (h : UndoI s n n l) : undoL (fun i => pageAt s.2.1 (i : Int)) 1 n = some l := by
  unfold UndoI at h
  rw [h, Nat.sub_self]
  show some (l ++ []) = _
  rw [List.append_nil]
theorem headN_two (a b : UInt8) : headN (tx [a, b]) = if b.toNat ≤ 31 then some b.toNat else none := rfl
theorem p_undo (s : Str) (h1 : s.1.2.length ≤ 140737488355328) (h2 : s.2.2.length ≤ 140737488355328) : Pure Try.prog 20 [stV s] (.tup [.d (.c (opsC (undoR s).1)), pInt .i64 (undoR s).2]) := by
  have pc := p_scheck s
  have pw := p_waits s h1 h2
  have ph := p_hot s
  have bad : ∀ e, undoR s = ([], e) → Ret (.tup [.d (.c (.v (.slice none 0 0))), pInt .i64 e]) (.tup [.d (.c (opsC (undoR s).1)), pInt .i64 (undoR s).2]) := by
    intro e he
    rw [he]
    exact Ret.le ⟨.inr ⟨⟨3, rfl⟩, .inl rfl⟩, .inl rfl, rfl⟩
  refine pure_of Try.func20 (by rfl) rfl (by kernel_rfl) (by rfl) ?_
  by_cases h : storeChk s = 0
  · have hR : undoR s = if waitsR s = true then ([], 4) else if hotR s = false then ([], 0) else _ := if_neg (not_not_intro h)
    rw [h] at pc
    rw [hot_eq h] at ph
    cases hw : waitsR s with
    | true =>
      rw [hw, if_pos rfl] at hR
      rw [hw] at pw
      (((conv => whnf); repeat ((with_reducible first | refine BCase.tt ?_ | refine BCase.ff ?_); (conv => whnf))); repeat' ((first | with_reducible refine Wr.u8 ?_ | ((with_reducible first | refine Wr.ci ?wxs ?_ | refine Wr.c3 ?wxs ?_ | refine Wr.c6 ?wxs ?_ | refine BCase.dt ?wxs ?_); case wxs => (first | omega | (simp only [lens, true_and, and_true]; (try omega); done))) | ((with_reducible refine BCase.df ?wxs ?_); case wxs => (first | omega | (simp only [lens, true_and, and_true]; (try omega); done))) | ((with_reducible refine Need.mk ?wxs ?_); case wxs => first | (first | omega | (simp only [lens, true_and, and_true]; (try omega); done)) | decide | kernel_rfl) | refine BCase.t (by decide) ?_ | refine BCase.f (by decide) ?_ | refine CallP.pure _ rfl _ (pc) ?_ | refine CallP.pure _ rfl _ (pw) ?_ | with_reducible (first | refine EmpOr.app ?_ | refine BCase.not ?_ | refine BCase.and ?_ | refine BCase.or ?_ | refine BCase.d (fun _ => ?_) (fun _ => ?_))) <;> ((conv => whnf); repeat ((with_reducible first | refine BCase.tt ?_ | refine BCase.ff ?_); (conv => whnf)))))
      exact bad 4 hR
    | false =>
      rw [hw, if_neg (by decide)] at hR
      rw [hw] at pw
      obtain ⟨e1, e2, e3⟩ := hot_head h hw
      cases hh : hotR s with
      | false =>
        rw [hh, if_pos rfl] at hR
        rw [hh] at ph
        (((conv => whnf); repeat ((with_reducible first | refine BCase.tt ?_ | refine BCase.ff ?_); (conv => whnf))); repeat' ((first | with_reducible refine Wr.u8 ?_ | ((with_reducible first | refine Wr.ci ?wxs ?_ | refine Wr.c3 ?wxs ?_ | refine Wr.c6 ?wxs ?_ | refine BCase.dt ?wxs ?_); case wxs => (first | omega | (simp only [lens, true_and, and_true]; (try omega); done))) | ((with_reducible refine BCase.df ?wxs ?_); case wxs => (first | omega | (simp only [lens, true_and, and_true]; (try omega); done))) | ((with_reducible refine Need.mk ?wxs ?_); case wxs => first | (first | omega | (simp only [lens, true_and, and_true]; (try omega); done)) | decide | kernel_rfl) | refine BCase.t (by decide) ?_ | refine BCase.f (by decide) ?_ | refine CallP.pure _ rfl _ (pc) ?_ | refine CallP.pure _ rfl _ (pw) ?_ | refine CallP.pure _ rfl _ (ph) ?_ | with_reducible (first | refine EmpOr.app ?_ | refine BCase.not ?_ | refine BCase.and ?_ | refine BCase.or ?_ | refine BCase.d (fun _ => ?_) (fun _ => ?_))) <;> ((conv => whnf); repeat ((with_reducible first | refine BCase.tt ?_ | refine BCase.ff ?_); (conv => whnf)))))
        exact bad 0 hR
      | true =>
        rw [hh, if_neg (by decide)] at hR
        rw [hh] at ph
        obtain ⟨k1, k2⟩ := storeChk_ok h
        rw [e3] at k2
        have hsz := pageAt_size (check_ok _ _ k2).2.1
        have pd0 := p_dread s.2 0
        rw [e3, read_bare k2 (by decide)] at pd0
        have pd : ∀ n : Nat, n ≤ 31 → Pure Try.prog 29 [dkV s.2, pInt .i64 n] (.tup [pStr (pageAt s.2.1 n), pInt .i64 0]) := by
          intro n hn
          have := p_dread s.2 n
          rwa [e3, read_bare k2 (inPlace_t ⟨by omega, by omega⟩)] at this
        obtain ⟨hd, ehd⟩ : ∃ l, pageAt s.2.1 0 = tx l := ⟨_, (tx_list _).symm⟩
        rw [ehd] at hR pd0
        have thd := tx_size hd
        have twoCase : (∃ a b, hd = [a, b]) ∨ hd.length ≠ 2 := by
          by_cases q : hd.length = 2
          · left
            match hd, q with
            | [a, b], _ => exact ⟨a, b, rfl⟩
          · exact .inr q
        rcases twoCase with ⟨a, b, rfl⟩ | q
        · have hb := b.toNat_lt
          rw [headN_two] at hR
          have hl2 : (tx [a, b]).size = 2 := rfl
          by_cases q : b.toNat ≤ 31
          · rw [if_pos q] at hR
            simp only at hR
            have hR := Lib.hid hR
            (((conv => whnf); repeat ((with_reducible first | refine BCase.tt ?_ | refine BCase.ff ?_); (conv => whnf))); repeat' ((first | with_reducible refine Wr.u8 ?_ | ((with_reducible first | refine Wr.ci ?wxs ?_ | refine Wr.c3 ?wxs ?_ | refine Wr.c6 ?wxs ?_ | refine BCase.dt ?wxs ?_); case wxs => (first | omega | (simp only [lens, true_and, and_true]; (try omega); done))) | ((with_reducible refine BCase.df ?wxs ?_); case wxs => (first | omega | (simp only [lens, true_and, and_true]; (try omega); done))) | ((with_reducible refine Need.mk ?wxs ?_); case wxs => first | (first | omega | (simp only [lens, true_and, and_true]; (try omega); done)) | decide | kernel_rfl) | refine BCase.t (by decide) ?_ | refine BCase.f (by decide) ?_ | refine CallP.pure _ rfl _ (pc) ?_ | refine CallP.pure _ rfl _ (pw) ?_ | refine CallP.pure _ rfl _ (ph) ?_ | refine CallP.pure _ rfl _ (pd0) ?_ | (refine SIdx.mk b (by decide) rfl ?_) | with_reducible (first | refine EmpOr.app ?_ | refine BCase.not ?_ | refine BCase.and ?_ | refine BCase.or ?_ | refine BCase.d (fun _ => ?_) (fun _ => ?_))) <;> ((conv => whnf); repeat ((with_reducible first | refine BCase.tt ?_ | refine BCase.ff ?_); (conv => whnf)))))
            refine LoopC.mk (Nat × List Opr) (fun x => [(1, .d (.ptr 1 0)), (7, .d (.ptr 41 0)), (44, pInt .i64 b.toNat), (45, pInt .i64 x.1)]) (fun x => [(1, storeBox s), (41, listBox 90 x.2), (90, opT)]) [1, 41, 90] (fun x => x.1 ≤ b.toNat ∧ x.2.length = x.1 ∧ UndoI s b.toNat x.1 x.2) (fun x => b.toNat - x.1) (0, []) ⟨Nat.zero_le _, rfl, ?init⟩ ?start ?round
            case init =>
              show undoL _ 1 b.toNat = (undoL _ 1 b.toNat).map fun r => [] ++ r
              simp
            case start => exact ⟨[(1, 1), (41, 41)], rfl, rfl, ⟨⟨rfl, rfl, rfl⟩, ⟨rfl, rfl, rfl⟩, .inl rfl, .inl rfl, trivial⟩, ⟨rfl, rfl, .inl rfl, .inl rfl, .inl rfl, .inl rfl, rfl⟩, ⟨rfl, rfl, ⟨rfl, rfl, Nat.zero_lt_succ _, rfl, rfl⟩, rfl⟩, ⟨rfl, Nat.zero_lt_succ _⟩, trivial⟩
            case round =>
              rintro ⟨k, l⟩ ⟨hk, hl, hI⟩
              simp only at hk hl hI ⊢
              by_cases hkb : k < b.toNat
              · have pr := pd (k + 1) (by omega)
                obtain ⟨m, em⟩ : ∃ m, pageAt s.2.1 ((k + 1 : Nat) : Int) = tx m := ⟨_, (tx_list _).symm⟩
                have hm := hsz ((k + 1 : Nat) : Int)
                rw [em] at pr hm
                rw [tx_size] at hm
                obtain ⟨no, old, pq, ho⟩ := p_record m (by omega)
                cases hrec : recL m with
                | none =>
                  have hbad := hI.bad hkb (by rw [em]; exact hrec)
                  rw [hrec] at pq
                  (((conv => whnf); repeat ((with_reducible first | refine BCase.tt ?_ | refine BCase.ff ?_); (conv => whnf))); repeat' ((first | with_reducible refine Wr.u8 ?_ | ((with_reducible first | refine Wr.ci ?wxs ?_ | refine Wr.c3 ?wxs ?_ | refine Wr.c6 ?wxs ?_ | refine BCase.dt ?wxs ?_); case wxs => (first | omega | (simp only [lens, true_and, and_true]; (try omega); done))) | ((with_reducible refine BCase.df ?wxs ?_); case wxs => (first | omega | (simp only [lens, true_and, and_true]; (try omega); done))) | ((with_reducible refine Need.mk ?wxs ?_); case wxs => first | (first | omega | (simp only [lens, true_and, and_true]; (try omega); done)) | decide | kernel_rfl) | refine BCase.t (by decide) ?_ | refine BCase.f (by decide) ?_ | refine CallP.pure _ rfl _ (pr) ?_ | refine CallP.pure _ rfl _ (pq) ?_ | with_reducible (first | refine EmpOr.app ?_ | refine BCase.not ?_ | refine BCase.and ?_ | refine BCase.or ?_ | refine BCase.d (fun _ => ?_) (fun _ => ?_))) <;> ((conv => whnf); repeat ((with_reducible first | refine BCase.tt ?_ | refine BCase.ff ?_); (conv => whnf)))))
                  exact bad 1 (by rw [hR.out, hbad])
                | some o =>
                  obtain rfl := ho o hrec
                  have hn := hI.next hkb (by rw [em]; exact hrec)
                  rw [hrec, Option.isSome_some] at pq
                  (((conv => whnf); repeat ((with_reducible first | refine BCase.tt ?_ | refine BCase.ff ?_); (conv => whnf))); repeat' ((first | with_reducible refine Wr.u8 ?_ | ((with_reducible first | refine Wr.ci ?wxs ?_ | refine Wr.c3 ?wxs ?_ | refine Wr.c6 ?wxs ?_ | refine BCase.dt ?wxs ?_); case wxs => (first | omega | (simp only [lens, true_and, and_true]; (try omega); done))) | ((with_reducible refine BCase.df ?wxs ?_); case wxs => (first | omega | (simp only [lens, true_and, and_true]; (try omega); done))) | ((with_reducible refine Need.mk ?wxs ?_); case wxs => first | (first | omega | (simp only [lens, true_and, and_true]; (try omega); done)) | decide | kernel_rfl) | refine BCase.t (by decide) ?_ | refine BCase.f (by decide) ?_ | refine CallP.pure _ rfl _ (pr) ?_ | refine CallP.pure _ rfl _ (pq) ?_ | (refine CallP.ret [(FK, 41), (FK1, 90), (NK, 67)] _ _ _ _ _ _ _ (s_data l no old (by omega)) rfl rfl rfl rfl ⟨rfl, rfl, trivial⟩ ?_) | with_reducible (first | refine EmpOr.app ?_ | refine BCase.not ?_ | refine BCase.and ?_ | refine BCase.or ?_ | refine BCase.d (fun _ => ?_) (fun _ => ?_))) <;> ((conv => whnf); repeat ((with_reducible first | refine BCase.tt ?_ | refine BCase.ff ?_); (conv => whnf)))))
                  exact ⟨(k + 1, l ++ [(1, no, old)]), ⟨by show k + 1 ≤ _; omega, by simp; omega, hn⟩, by show b.toNat - (k + 1) < b.toNat - k; omega, [(1, 1), (41, 41), (90, 67)], rfl, rfl, ⟨⟨rfl, rfl, rfl⟩, ⟨rfl, rfl, rfl⟩, .inl rfl, PLe.int (by show ((k : Int) + 1) = ((k + 1 : Nat) : Int); omega), trivial⟩, ⟨rfl, rfl, .inl rfl, .inl rfl, .inl rfl, .inl rfl, rfl⟩, ⟨rfl, rfl, ⟨rfl, rfl, rfl, rfl, rfl⟩, rfl⟩, ⟨rfl, rfl, rfl⟩, trivial⟩
              · obtain rfl : k = b.toNat := by omega
                have hdone := hI.done
                (((conv => whnf); repeat ((with_reducible first | refine BCase.tt ?_ | refine BCase.ff ?_); (conv => whnf))); repeat' ((first | with_reducible refine Wr.u8 ?_ | ((with_reducible first | refine Wr.ci ?wxs ?_ | refine Wr.c3 ?wxs ?_ | refine Wr.c6 ?wxs ?_ | refine BCase.dt ?wxs ?_); case wxs => (first | omega | (simp only [lens, true_and, and_true]; (try omega); done))) | ((with_reducible refine BCase.df ?wxs ?_); case wxs => (first | omega | (simp only [lens, true_and, and_true]; (try omega); done))) | ((with_reducible refine Need.mk ?wxs ?_); case wxs => first | (first | omega | (simp only [lens, true_and, and_true]; (try omega); done)) | decide | kernel_rfl) | refine BCase.t (by decide) ?_ | refine BCase.f (by decide) ?_ | (refine CallP.ret [(FK, 41), (FK1, 90), (NK, 70)] _ _ _ _ _ _ _ (s_cold l (by omega)) rfl rfl rfl rfl ⟨rfl, rfl, trivial⟩ ?_) | with_reducible (first | refine EmpOr.app ?_ | refine BCase.not ?_ | refine BCase.and ?_ | refine BCase.or ?_ | refine BCase.d (fun _ => ?_) (fun _ => ?_))) <;> ((conv => whnf); repeat ((with_reducible first | refine BCase.tt ?_ | refine BCase.ff ?_); (conv => whnf)))))
                refine Ret.eq ?_
                rw [hR.out, hdone]
          · rw [if_neg q] at hR
            (((conv => whnf); repeat ((with_reducible first | refine BCase.tt ?_ | refine BCase.ff ?_); (conv => whnf))); repeat' ((first | with_reducible refine Wr.u8 ?_ | ((with_reducible first | refine Wr.ci ?wxs ?_ | refine Wr.c3 ?wxs ?_ | refine Wr.c6 ?wxs ?_ | refine BCase.dt ?wxs ?_); case wxs => (first | omega | (simp only [lens, true_and, and_true]; (try omega); done))) | ((with_reducible refine BCase.df ?wxs ?_); case wxs => (first | omega | (simp only [lens, true_and, and_true]; (try omega); done))) | ((with_reducible refine Need.mk ?wxs ?_); case wxs => first | (first | omega | (simp only [lens, true_and, and_true]; (try omega); done)) | decide | kernel_rfl) | refine BCase.t (by decide) ?_ | refine BCase.f (by decide) ?_ | refine CallP.pure _ rfl _ (pc) ?_ | refine CallP.pure _ rfl _ (pw) ?_ | refine CallP.pure _ rfl _ (ph) ?_ | refine CallP.pure _ rfl _ (pd0) ?_ | (refine SIdx.mk b (by decide) rfl ?_) | with_reducible (first | refine EmpOr.app ?_ | refine BCase.not ?_ | refine BCase.and ?_ | refine BCase.or ?_ | refine BCase.d (fun _ => ?_) (fun _ => ?_))) <;> ((conv => whnf); repeat ((with_reducible first | refine BCase.tt ?_ | refine BCase.ff ?_); (conv => whnf)))))
            exact bad 1 hR
        · have hn : headN (tx hd) = none := by
            show headN ⟨hd.toArray⟩ = none
            unfold headN
            match hd, q with
            | [], _ => rfl
            | [_], _ => rfl
            | [_, _], q => exact absurd rfl q
            | _ :: _ :: _ :: _, _ => rfl
          rw [hn] at hR
          (((conv => whnf); repeat ((with_reducible first | refine BCase.tt ?_ | refine BCase.ff ?_); (conv => whnf))); repeat' ((first | with_reducible refine Wr.u8 ?_ | ((with_reducible first | refine Wr.ci ?wxs ?_ | refine Wr.c3 ?wxs ?_ | refine Wr.c6 ?wxs ?_ | refine BCase.dt ?wxs ?_); case wxs => (first | omega | (simp only [lens, true_and, and_true]; (try omega); done))) | ((with_reducible refine BCase.df ?wxs ?_); case wxs => (first | omega | (simp only [lens, true_and, and_true]; (try omega); done))) | ((with_reducible refine Need.mk ?wxs ?_); case wxs => first | (first | omega | (simp only [lens, true_and, and_true]; (try omega); done)) | decide | kernel_rfl) | refine BCase.t (by decide) ?_ | refine BCase.f (by decide) ?_ | refine CallP.pure _ rfl _ (pc) ?_ | refine CallP.pure _ rfl _ (pw) ?_ | refine CallP.pure _ rfl _ (ph) ?_ | refine CallP.pure _ rfl _ (pd0) ?_ | with_reducible (first | refine EmpOr.app ?_ | refine BCase.not ?_ | refine BCase.and ?_ | refine BCase.or ?_ | refine BCase.d (fun _ => ?_) (fun _ => ?_))) <;> ((conv => whnf); repeat ((with_reducible first | refine BCase.tt ?_ | refine BCase.ff ?_); (conv => whnf)))))
          exact bad 1 hR
  · have hR : undoR s = ([], storeChk s) := if_pos h
    (((conv => whnf); repeat ((with_reducible first | refine BCase.tt ?_ | refine BCase.ff ?_); (conv => whnf))); repeat' ((first | with_reducible refine Wr.u8 ?_ | ((with_reducible first | refine Wr.ci ?wxs ?_ | refine Wr.c3 ?wxs ?_ | refine Wr.c6 ?wxs ?_ | refine BCase.dt ?wxs ?_); case wxs => (first | omega | (simp only [lens, true_and, and_true]; (try omega); done))) | ((with_reducible refine BCase.df ?wxs ?_); case wxs => (first | omega | (simp only [lens, true_and, and_true]; (try omega); done))) | ((with_reducible refine Need.mk ?wxs ?_); case wxs => first | (first | omega | (simp only [lens, true_and, and_true]; (try omega); done)) | decide | kernel_rfl) | refine BCase.t (by decide) ?_ | refine BCase.f (by decide) ?_ | refine CallP.pure _ rfl _ (pc) ?_ | with_reducible (first | refine EmpOr.app ?_ | refine BCase.not ?_ | refine BCase.and ?_ | refine BCase.or ?_ | refine BCase.d (fun _ => ?_) (fun _ => ?_))) <;> ((conv => whnf); repeat ((with_reducible first | refine BCase.tt ?_ | refine BCase.ff ?_); (conv => whnf)))))
    exact bad _ hR
end Go.Proofs.Ytohlkegmmbdlaaa.Pm
end

section
namespace Go.Proofs.Ytohlkegmmbdlaaa.Pm
open Go.RowKit K DiskP
set_option linter.unusedVariables false
set_option linter.unusedSimpArgs false
set_option maxRecDepth 100000

theorem first_row {p : List ByteArray} {l : List UInt8} (h : pageAt p 0 = tx l) (hl : l ≠ []) : (p.map encS)[(0 : Int).toNat]? = some [C.v (.string (tx l))] := by
  cases p with
  | nil =>
    exfalso
    have : (⟨#[]⟩ : ByteArray) = tx l := h
    have : tx l = tx [] := this.symm
    exact hl (tx_eq.1 this)
  | cons x p =>
    have : x = tx l := h
    rw [this]; rfl
theorem recL_cases (m : List UInt8) : (m.length < 2 ∧ recL m = none) ∨ ∃ a b r, m = a :: b :: r := by
  match m with
  | [] => exact .inl ⟨by simp, rfl⟩
  | [a] => exact .inl ⟨by simp, rfl⟩
  | a :: b :: r => exact .inr ⟨a, b, r, rfl⟩
theorem p_undoof (s : Str) : Pure Try.prog 22 [stV s] (.tup [.d (.c (opsC (undoR s).1)), pInt .i64 (undoR s).2]) := by
  have pc := p_scheckref s
  have ph := p_ishot s
  have bad : ∀ e, undoR s = ([], e) → Ret (.tup [.d (.c (.v (.slice none 0 0))), pInt .i64 e]) (.tup [.d (.c (opsC (undoR s).1)), pInt .i64 (undoR s).2]) := by
    intro e he
    rw [he]
    exact Ret.le ⟨.inr ⟨⟨3, rfl⟩, .inl rfl⟩, .inl rfl, rfl⟩
  refine pure_of Try.func22 (by rfl) rfl (by kernel_rfl) (by rfl) ?_
  by_cases h : storeChk s = 0
  · have hR : undoR s = if waitsR s = true then ([], 4) else if hotR s = false then ([], 0) else _ := if_neg (not_not_intro h)
    rw [h] at pc
    cases hw : waitsR s with
    | true =>
      rw [hw, if_pos rfl] at hR
      have hw' : 0 < s.1.2.length + s.2.2.length := by unfold waitsR at hw; exact of_decide_eq_true hw
      by_cases w1 : 0 < s.1.2.length
      · (((conv => whnf); repeat ((with_reducible first | refine BCase.tt ?_ | refine BCase.ff ?_); (conv => whnf))); repeat' ((first | with_reducible refine Wr.u8 ?_ | ((with_reducible first | refine Wr.ci ?wxs ?_ | refine Wr.c3 ?wxs ?_ | refine Wr.c6 ?wxs ?_ | refine BCase.dt ?wxs ?_); case wxs => (first | omega | (simp only [lens, true_and, and_true]; (try omega); done))) | ((with_reducible refine BCase.df ?wxs ?_); case wxs => (first | omega | (simp only [lens, true_and, and_true]; (try omega); done))) | ((with_reducible refine Need.mk ?wxs ?_); case wxs => first | (first | omega | (simp only [lens, true_and, and_true]; (try omega); done)) | decide | kernel_rfl) | refine BCase.t (by decide) ?_ | refine BCase.f (by decide) ?_ | refine CallP.pure _ rfl _ (pc) ?_ | with_reducible (first | refine EmpOr.app ?_ | refine BCase.not ?_ | refine BCase.and ?_ | refine BCase.or ?_ | refine BCase.d (fun _ => ?_) (fun _ => ?_))) <;> ((conv => whnf); repeat ((with_reducible first | refine BCase.tt ?_ | refine BCase.ff ?_); (conv => whnf)))))
        exact bad 4 hR
      · (((conv => whnf); repeat ((with_reducible first | refine BCase.tt ?_ | refine BCase.ff ?_); (conv => whnf))); repeat' ((first | with_reducible refine Wr.u8 ?_ | ((with_reducible first | refine Wr.ci ?wxs ?_ | refine Wr.c3 ?wxs ?_ | refine Wr.c6 ?wxs ?_ | refine BCase.dt ?wxs ?_); case wxs => (first | omega | (simp only [lens, true_and, and_true]; (try omega); done))) | ((with_reducible refine BCase.df ?wxs ?_); case wxs => (first | omega | (simp only [lens, true_and, and_true]; (try omega); done))) | ((with_reducible refine Need.mk ?wxs ?_); case wxs => first | (first | omega | (simp only [lens, true_and, and_true]; (try omega); done)) | decide | kernel_rfl) | refine BCase.t (by decide) ?_ | refine BCase.f (by decide) ?_ | refine CallP.pure _ rfl _ (pc) ?_ | with_reducible (first | refine EmpOr.app ?_ | refine BCase.not ?_ | refine BCase.and ?_ | refine BCase.or ?_ | refine BCase.d (fun _ => ?_) (fun _ => ?_))) <;> ((conv => whnf); repeat ((with_reducible first | refine BCase.tt ?_ | refine BCase.ff ?_); (conv => whnf)))))
        exact bad 4 hR
    | false =>
      rw [hw, if_neg (by decide)] at hR
      obtain ⟨e1, e2, e3⟩ := hot_head h hw
      have w1 : s.1.2.length = 0 := by rw [e2]; rfl
      have w2 : s.2.2.length = 0 := by rw [e3]; rfl
      cases hh : hotR s with
      | false =>
        rw [hh, if_pos rfl] at hR
        rw [hh] at ph
        (((conv => whnf); repeat ((with_reducible first | refine BCase.tt ?_ | refine BCase.ff ?_); (conv => whnf))); repeat' ((first | with_reducible refine Wr.u8 ?_ | ((with_reducible first | refine Wr.ci ?wxs ?_ | refine Wr.c3 ?wxs ?_ | refine Wr.c6 ?wxs ?_ | refine BCase.dt ?wxs ?_); case wxs => (first | omega | (simp only [lens, true_and, and_true]; (try omega); done))) | ((with_reducible refine BCase.df ?wxs ?_); case wxs => (first | omega | (simp only [lens, true_and, and_true]; (try omega); done))) | ((with_reducible refine Need.mk ?wxs ?_); case wxs => first | (first | omega | (simp only [lens, true_and, and_true]; (try omega); done)) | decide | kernel_rfl) | refine BCase.t (by decide) ?_ | refine BCase.f (by decide) ?_ | refine CallP.pure _ rfl _ (pc) ?_ | refine CallP.pure _ rfl _ (ph) ?_ | with_reducible (first | refine EmpOr.app ?_ | refine BCase.not ?_ | refine BCase.and ?_ | refine BCase.or ?_ | refine BCase.d (fun _ => ?_) (fun _ => ?_))) <;> ((conv => whnf); repeat ((with_reducible first | refine BCase.tt ?_ | refine BCase.ff ?_); (conv => whnf)))))
        exact bad 0 hR
      | true =>
        rw [hh, if_neg (by decide)] at hR
        rw [hh] at ph e1
        obtain ⟨k1, k2⟩ := storeChk_ok h
        rw [e3] at k2
        have hsz := pageAt_size (check_ok _ _ k2).2.1
        obtain ⟨hd, ehd⟩ : ∃ l, pageAt s.2.1 0 = tx l := ⟨_, (tx_list _).symm⟩
        rw [ehd] at hR e1
        have hne : hd ≠ [] := by rintro rfl; cases e1
        have hrow := first_row ehd hne
        have thd := tx_size hd
        have twoCase : (∃ a b, hd = [a, b]) ∨ hd.length ≠ 2 := by
          by_cases q : hd.length = 2
          · left
            match hd, q with
            | [a, b], _ => exact ⟨a, b, rfl⟩
          · exact .inr q
        rcases twoCase with ⟨a, b, rfl⟩ | q
        · have hb := b.toNat_lt
          rw [headN_two] at hR
          have hl2 : (tx [a, b]).size = 2 := rfl
          by_cases q : b.toNat ≤ 31
          · rw [if_pos q] at hR
            simp only at hR
            have hR := Lib.hid hR
            (((conv => whnf); repeat ((with_reducible first | refine BCase.tt ?_ | refine BCase.ff ?_); (conv => whnf))); repeat' ((first | with_reducible refine Wr.u8 ?_ | ((with_reducible first | refine Wr.ci ?wxs ?_ | refine Wr.c3 ?wxs ?_ | refine Wr.c6 ?wxs ?_ | refine BCase.dt ?wxs ?_); case wxs => (first | omega | (simp only [lens, true_and, and_true]; (try omega); done))) | ((with_reducible refine BCase.df ?wxs ?_); case wxs => (first | omega | (simp only [lens, true_and, and_true]; (try omega); done))) | ((with_reducible refine Need.mk ?wxs ?_); case wxs => first | (first | omega | (simp only [lens, true_and, and_true]; (try omega); done)) | decide | kernel_rfl) | refine BCase.t (by decide) ?_ | refine BCase.f (by decide) ?_ | refine CallP.pure _ rfl _ (pc) ?_ | refine CallP.pure _ rfl _ (ph) ?_ | (first | refine Idx.mk _ (by decide) hrow ?_ | refine SIdx.mk b (by decide) rfl ?_) | with_reducible (first | refine EmpOr.app ?_ | refine BCase.not ?_ | refine BCase.and ?_ | refine BCase.or ?_ | refine BCase.d (fun _ => ?_) (fun _ => ?_))) <;> ((conv => whnf); repeat ((with_reducible first | refine BCase.tt ?_ | refine BCase.ff ?_); (conv => whnf)))))
            refine LoopC.mk (Nat × List Opr) (fun x => [(1, .d (.ptr 1 0)), (5, .d (.c (pgsC s.2.1))), (6, .d (.app 90 67 3 (x.2.map encO))), (7, pInt .i64 (x.1 + 1 : Nat))]) (fun x => [(1, storeBox s), (90, opT)]) [1, 90] (fun x => x.1 ≤ b.toNat ∧ x.2.length = x.1 ∧ UndoI s b.toNat x.1 x.2) (fun x => b.toNat - x.1) (0, []) ⟨Nat.zero_le _, rfl, ?init⟩ ?start ?round
            case init =>
              show undoL _ 1 b.toNat = (undoL _ 1 b.toNat).map fun r => [] ++ r
              simp
            case start => exact ⟨[(1, 1)], rfl, rfl, ⟨⟨rfl, rfl, rfl⟩, .inl rfl, ⟨rfl, rfl, Nat.zero_lt_succ _, rfl, rfl⟩, .inl rfl, trivial⟩, ⟨rfl, rfl, .inl rfl, .inl rfl, .inl rfl, .inl rfl, rfl⟩, ⟨rfl, Nat.zero_lt_succ _⟩, trivial⟩
            case round =>
              rintro ⟨k, l⟩ ⟨hk, hl, hI⟩
              simp only at hk hl hI ⊢
              have ll : (l.map encO).length = k := by rw [List.length_map, hl]
              by_cases hkb : k < b.toNat
              · have pp := p_pageat s.2.1 ((k + 1 : Nat) : Int)
                obtain ⟨m, em⟩ : ∃ m, pageAt s.2.1 ((k + 1 : Nat) : Int) = tx m := ⟨_, (tx_list _).symm⟩
                have hm := hsz ((k + 1 : Nat) : Int)
                rw [em] at pp hm
                rw [tx_size] at hm
                have tm := tx_size m
                rcases recL_cases m with ⟨g1, g2⟩ | ⟨x, y, r, rfl⟩
                · have hbad := hI.bad hkb (by rw [em]; exact g2)
                  (((conv => whnf); repeat ((with_reducible first | refine BCase.tt ?_ | refine BCase.ff ?_); (conv => whnf))); repeat' ((first | with_reducible refine Wr.u8 ?_ | ((with_reducible first | refine Wr.ci ?wxs ?_ | refine Wr.c3 ?wxs ?_ | refine Wr.c6 ?wxs ?_ | refine BCase.dt ?wxs ?_); case wxs => (first | omega | (simp only [lens, true_and, and_true]; (try omega); done))) | ((with_reducible refine BCase.df ?wxs ?_); case wxs => (first | omega | (simp only [lens, true_and, and_true]; (try omega); done))) | ((with_reducible refine Need.mk ?wxs ?_); case wxs => first | (first | omega | (simp only [lens, true_and, and_true]; (try omega); done)) | decide | kernel_rfl) | refine BCase.t (by decide) ?_ | refine BCase.f (by decide) ?_ | refine CallP.pure _ rfl _ (pp) ?_ | (first | refine Idx.mk _ (by decide) hrow ?_ | refine SIdx.mk b (by decide) rfl ?_) | with_reducible (first | refine EmpOr.app ?_ | refine BCase.not ?_ | refine BCase.and ?_ | refine BCase.or ?_ | refine BCase.d (fun _ => ?_) (fun _ => ?_))) <;> ((conv => whnf); repeat ((with_reducible first | refine BCase.tt ?_ | refine BCase.ff ?_); (conv => whnf)))))
                  exact bad 1 (by rw [hR.out, hbad])
                · have hx := x.toNat_lt
                  have hy := y.toNat_lt
                  rw [List.length_cons, List.length_cons] at tm
                  by_cases gx : x.toNat = 0
                  · by_cases gy : y.toNat < 32
                    · have hn := hI.next hkb (by rw [em]; exact (recL_two x y r).trans (if_pos ⟨gx, gy⟩))
                      have e1 : (tx (x :: y :: r)).extract (2 : Int).toNat ((tx (x :: y :: r)).size : Int).toNat = tx r := by
                        rw [Int.toNat_natCast]
                        show (tx (x :: y :: r)).extract 2 _ = _
                        rw [extract_from]; rfl
                      (((conv => whnf); repeat ((with_reducible first | refine BCase.tt ?_ | refine BCase.ff ?_); (conv => whnf))); repeat' ((first | with_reducible refine Wr.u8 ?_ | ((with_reducible first | refine Wr.ci ?wxs ?_ | refine Wr.c3 ?wxs ?_ | refine Wr.c6 ?wxs ?_ | refine BCase.dt ?wxs ?_); case wxs => (first | omega | (simp only [lens, true_and, and_true]; (try omega); done))) | ((with_reducible refine BCase.df ?wxs ?_); case wxs => (first | omega | (simp only [lens, true_and, and_true]; (try omega); done))) | ((with_reducible refine Need.mk ?wxs ?_); case wxs => first | (first | omega | (simp only [lens, true_and, and_true]; (try omega); done)) | decide | kernel_rfl) | refine BCase.t (by decide) ?_ | refine BCase.f (by decide) ?_ | refine CallP.pure _ rfl _ (pp) ?_ | (first | refine Idx.mk _ (by decide) hrow ?_ | refine SIdx.mk (s := tx [a, b]) b (by decide) rfl ?_ | refine SIdx.mk (s := tx (x :: y :: r)) (n := 0) x (by decide) rfl ?_ | refine SIdx.mk (s := tx (x :: y :: r)) (n := 1) y (by decide) rfl ?_) | (refine Need.by 32 rfl (by rw [ll]; simp only [List.length_singleton]; omega) ?_) | with_reducible (first | refine EmpOr.app ?_ | refine BCase.not ?_ | refine BCase.and ?_ | refine BCase.or ?_ | refine BCase.d (fun _ => ?_) (fun _ => ?_))) <;> ((conv => whnf); repeat ((with_reducible first | refine BCase.tt ?_ | refine BCase.ff ?_); (conv => whnf)))))
                      exact ⟨(k + 1, l ++ [(1, (y.toNat : Int), tx r)]), ⟨by show k + 1 ≤ _; omega, by simp; omega, hn⟩, by show b.toNat - (k + 1) < b.toNat - k; omega, [(1, 1), (90, 83)], rfl, rfl, ⟨⟨rfl, rfl, rfl⟩, .inl rfl, ⟨rfl, rfl, rfl, rfl, by rw [e1, List.map_append]; rfl⟩, PLe.int (by omega), trivial⟩, ⟨rfl, rfl, .inl rfl, .inl rfl, .inl rfl, .inl rfl, rfl⟩, ⟨rfl, rfl, rfl⟩, trivial⟩
                    · have hbad := hI.bad hkb (by rw [em]; exact (recL_two x y r).trans (if_neg fun e => gy e.2))
                      (((conv => whnf); repeat ((with_reducible first | refine BCase.tt ?_ | refine BCase.ff ?_); (conv => whnf))); repeat' ((first | with_reducible refine Wr.u8 ?_ | ((with_reducible first | refine Wr.ci ?wxs ?_ | refine Wr.c3 ?wxs ?_ | refine Wr.c6 ?wxs ?_ | refine BCase.dt ?wxs ?_); case wxs => (first | omega | (simp only [lens, true_and, and_true]; (try omega); done))) | ((with_reducible refine BCase.df ?wxs ?_); case wxs => (first | omega | (simp only [lens, true_and, and_true]; (try omega); done))) | ((with_reducible refine Need.mk ?wxs ?_); case wxs => first | (first | omega | (simp only [lens, true_and, and_true]; (try omega); done)) | decide | kernel_rfl) | refine BCase.t (by decide) ?_ | refine BCase.f (by decide) ?_ | refine CallP.pure _ rfl _ (pp) ?_ | (first | refine Idx.mk _ (by decide) hrow ?_ | refine SIdx.mk (s := tx [a, b]) b (by decide) rfl ?_ | refine SIdx.mk (s := tx (x :: y :: r)) (n := 0) x (by decide) rfl ?_ | refine SIdx.mk (s := tx (x :: y :: r)) (n := 1) y (by decide) rfl ?_) | with_reducible (first | refine EmpOr.app ?_ | refine BCase.not ?_ | refine BCase.and ?_ | refine BCase.or ?_ | refine BCase.d (fun _ => ?_) (fun _ => ?_))) <;> ((conv => whnf); repeat ((with_reducible first | refine BCase.tt ?_ | refine BCase.ff ?_); (conv => whnf)))))
                      exact bad 1 (by rw [hR.out, hbad])
                  · have hbad := hI.bad hkb (by rw [em]; exact (recL_two x y r).trans (if_neg fun e => gx e.1))
                    (((conv => whnf); repeat ((with_reducible first | refine BCase.tt ?_ | refine BCase.ff ?_); (conv => whnf))); repeat' ((first | with_reducible refine Wr.u8 ?_ | ((with_reducible first | refine Wr.ci ?wxs ?_ | refine Wr.c3 ?wxs ?_ | refine Wr.c6 ?wxs ?_ | refine BCase.dt ?wxs ?_); case wxs => (first | omega | (simp only [lens, true_and, and_true]; (try omega); done))) | ((with_reducible refine BCase.df ?wxs ?_); case wxs => (first | omega | (simp only [lens, true_and, and_true]; (try omega); done))) | ((with_reducible refine Need.mk ?wxs ?_); case wxs => first | (first | omega | (simp only [lens, true_and, and_true]; (try omega); done)) | decide | kernel_rfl) | refine BCase.t (by decide) ?_ | refine BCase.f (by decide) ?_ | refine CallP.pure _ rfl _ (pp) ?_ | (first | refine Idx.mk _ (by decide) hrow ?_ | refine SIdx.mk (s := tx [a, b]) b (by decide) rfl ?_ | refine SIdx.mk (s := tx (x :: y :: r)) (n := 0) x (by decide) rfl ?_ | refine SIdx.mk (s := tx (x :: y :: r)) (n := 1) y (by decide) rfl ?_) | with_reducible (first | refine EmpOr.app ?_ | refine BCase.not ?_ | refine BCase.and ?_ | refine BCase.or ?_ | refine BCase.d (fun _ => ?_) (fun _ => ?_))) <;> ((conv => whnf); repeat ((with_reducible first | refine BCase.tt ?_ | refine BCase.ff ?_); (conv => whnf)))))
                    exact bad 1 (by rw [hR.out, hbad])
              · obtain rfl : k = b.toNat := by omega
                have hdone := hI.done
                (((conv => whnf); repeat ((with_reducible first | refine BCase.tt ?_ | refine BCase.ff ?_); (conv => whnf))); repeat' ((first | with_reducible refine Wr.u8 ?_ | ((with_reducible first | refine Wr.ci ?wxs ?_ | refine Wr.c3 ?wxs ?_ | refine Wr.c6 ?wxs ?_ | refine BCase.dt ?wxs ?_); case wxs => (first | omega | (simp only [lens, true_and, and_true]; (try omega); done))) | ((with_reducible refine BCase.df ?wxs ?_); case wxs => (first | omega | (simp only [lens, true_and, and_true]; (try omega); done))) | ((with_reducible refine Need.mk ?wxs ?_); case wxs => first | (first | omega | (simp only [lens, true_and, and_true]; (try omega); done)) | decide | kernel_rfl) | refine BCase.t (by decide) ?_ | refine BCase.f (by decide) ?_ | refine CallP.pure _ rfl _ (p_endops) ?_ | (first | refine Idx.mk _ (by decide) hrow ?_ | refine SIdx.mk b (by decide) rfl ?_) | (refine Need.by 32 rfl (by rw [ll]; simp only [List.length_map, endO, List.length_cons, List.length_nil]; omega) ?_) | with_reducible (first | refine EmpOr.app ?_ | refine BCase.not ?_ | refine BCase.and ?_ | refine BCase.or ?_ | refine BCase.d (fun _ => ?_) (fun _ => ?_))) <;> ((conv => whnf); repeat ((with_reducible first | refine BCase.tt ?_ | refine BCase.ff ?_); (conv => whnf)))))
                refine Ret.eq ?_
                rw [hR.out, hdone]
                have em := List.map_append (f := encO) (l₁ := l) (l₂ := endO)
                show _ = PV.tup [.d (.c (.sl 3 (List.map encO (l ++ endO)))), _]
                rw [em]
          · rw [if_neg q] at hR
            (((conv => whnf); repeat ((with_reducible first | refine BCase.tt ?_ | refine BCase.ff ?_); (conv => whnf))); repeat' ((first | with_reducible refine Wr.u8 ?_ | ((with_reducible first | refine Wr.ci ?wxs ?_ | refine Wr.c3 ?wxs ?_ | refine Wr.c6 ?wxs ?_ | refine BCase.dt ?wxs ?_); case wxs => (first | omega | (simp only [lens, true_and, and_true]; (try omega); done))) | ((with_reducible refine BCase.df ?wxs ?_); case wxs => (first | omega | (simp only [lens, true_and, and_true]; (try omega); done))) | ((with_reducible refine Need.mk ?wxs ?_); case wxs => first | (first | omega | (simp only [lens, true_and, and_true]; (try omega); done)) | decide | kernel_rfl) | refine BCase.t (by decide) ?_ | refine BCase.f (by decide) ?_ | refine CallP.pure _ rfl _ (pc) ?_ | refine CallP.pure _ rfl _ (ph) ?_ | (first | refine Idx.mk _ (by decide) hrow ?_ | refine SIdx.mk b (by decide) rfl ?_) | with_reducible (first | refine EmpOr.app ?_ | refine BCase.not ?_ | refine BCase.and ?_ | refine BCase.or ?_ | refine BCase.d (fun _ => ?_) (fun _ => ?_))) <;> ((conv => whnf); repeat ((with_reducible first | refine BCase.tt ?_ | refine BCase.ff ?_); (conv => whnf)))))
            exact bad 1 hR
        · have hn : headN (tx hd) = none := by
            show headN ⟨hd.toArray⟩ = none
            unfold headN
            match hd, q with
            | [], _ => rfl
            | [_], _ => rfl
            | [_, _], q => exact absurd rfl q
            | _ :: _ :: _ :: _, _ => rfl
          rw [hn] at hR
          (((conv => whnf); repeat ((with_reducible first | refine BCase.tt ?_ | refine BCase.ff ?_); (conv => whnf))); repeat' ((first | with_reducible refine Wr.u8 ?_ | ((with_reducible first | refine Wr.ci ?wxs ?_ | refine Wr.c3 ?wxs ?_ | refine Wr.c6 ?wxs ?_ | refine BCase.dt ?wxs ?_); case wxs => (first | omega | (simp only [lens, true_and, and_true]; (try omega); done))) | ((with_reducible refine BCase.df ?wxs ?_); case wxs => (first | omega | (simp only [lens, true_and, and_true]; (try omega); done))) | ((with_reducible refine Need.mk ?wxs ?_); case wxs => first | (first | omega | (simp only [lens, true_and, and_true]; (try omega); done)) | decide | kernel_rfl) | refine BCase.t (by decide) ?_ | refine BCase.f (by decide) ?_ | refine CallP.pure _ rfl _ (pc) ?_ | refine CallP.pure _ rfl _ (ph) ?_ | (refine Idx.mk _ (by decide) hrow ?_) | with_reducible (first | refine EmpOr.app ?_ | refine BCase.not ?_ | refine BCase.and ?_ | refine BCase.or ?_ | refine BCase.d (fun _ => ?_) (fun _ => ?_))) <;> ((conv => whnf); repeat ((with_reducible first | refine BCase.tt ?_ | refine BCase.ff ?_); (conv => whnf)))))
          exact bad 1 hR
  · have hR : undoR s = ([], storeChk s) := if_pos h
    (((conv => whnf); repeat ((with_reducible first | refine BCase.tt ?_ | refine BCase.ff ?_); (conv => whnf))); repeat' ((first | with_reducible refine Wr.u8 ?_ | ((with_reducible first | refine Wr.ci ?wxs ?_ | refine Wr.c3 ?wxs ?_ | refine Wr.c6 ?wxs ?_ | refine BCase.dt ?wxs ?_); case wxs => (first | omega | (simp only [lens, true_and, and_true]; (try omega); done))) | ((with_reducible refine BCase.df ?wxs ?_); case wxs => (first | omega | (simp only [lens, true_and, and_true]; (try omega); done))) | ((with_reducible refine Need.mk ?wxs ?_); case wxs => first | (first | omega | (simp only [lens, true_and, and_true]; (try omega); done)) | decide | kernel_rfl) | refine BCase.t (by decide) ?_ | refine BCase.f (by decide) ?_ | refine CallP.pure _ rfl _ (pc) ?_ | with_reducible (first | refine EmpOr.app ?_ | refine BCase.not ?_ | refine BCase.and ?_ | refine BCase.or ?_ | refine BCase.d (fun _ => ?_) (fun _ => ?_))) <;> ((conv => whnf); repeat ((with_reducible first | refine BCase.tt ?_ | refine BCase.ff ?_); (conv => whnf)))))
    exact bad _ hR
theorem undoR_len (s : Str) : (undoR s).1.length ≤ 34 := by
  unfold undoR
  split
  · simp
  · split
    · simp
    · split
      · simp
      · split
        · simp
        · rename_i n hn
          split
          · simp
          · rename_i l hl
            have := undoL_len _ _ _ _ hl
            have hn31 : n ≤ 31 := by
              unfold headN at hn
              split at hn
              · split at hn
                · cases hn; assumption
                · cases hn
              · cases hn
            rw [List.length_append]
            show l.length + 3 ≤ 34
            omega
def recoverR (s : Str) : Str × Int := if (undoR s).2 ≠ 0 then (zeroS, (undoR s).2) else playR s (undoR s).1
theorem p_recover (s : Str) (h1 : s.1.2.length ≤ 140737488355328) (h2 : s.2.2.length ≤ 140737488355328) : Pure Try.prog 21 [stV s] (.tup [stV (recoverR s).1, pInt .i64 (recoverR s).2]) := by
  have pu := p_undo s h1 h2
  have pp := p_play s (undoR s).1 (by have := undoR_len s; omega)
  unfold recoverR
  refine pure_of Try.func21 (by rfl) rfl (by kernel_rfl) (by rfl) ?_
  by_cases h : (undoR s).2 = 0
  · rw [if_neg (not_not_intro h)]
    rw [h] at pu
    (((conv => whnf); repeat ((with_reducible first | refine BCase.tt ?_ | refine BCase.ff ?_); (conv => whnf))); repeat' ((first | with_reducible refine Wr.u8 ?_ | ((with_reducible first | refine Wr.ci ?wxs ?_ | refine Wr.c3 ?wxs ?_ | refine Wr.c6 ?wxs ?_ | refine BCase.dt ?wxs ?_); case wxs => (first | omega | (simp only [lens, true_and, and_true]; (try omega); done))) | ((with_reducible refine BCase.df ?wxs ?_); case wxs => (first | omega | (simp only [lens, true_and, and_true]; (try omega); done))) | ((with_reducible refine Need.mk ?wxs ?_); case wxs => first | (first | omega | (simp only [lens, true_and, and_true]; (try omega); done)) | decide | kernel_rfl) | refine BCase.t (by decide) ?_ | refine BCase.f (by decide) ?_ | refine CallP.pure _ rfl _ (pu) ?_ | refine CallP.pure _ rfl _ (pp) ?_ | with_reducible (first | refine EmpOr.app ?_ | refine BCase.not ?_ | refine BCase.and ?_ | refine BCase.or ?_ | refine BCase.d (fun _ => ?_) (fun _ => ?_))) <;> ((conv => whnf); repeat ((with_reducible first | refine BCase.tt ?_ | refine BCase.ff ?_); (conv => whnf)))))
    exact Ret.mk rfl
  · rw [if_pos h]
    (((conv => whnf); repeat ((with_reducible first | refine BCase.tt ?_ | refine BCase.ff ?_); (conv => whnf))); repeat' ((first | with_reducible refine Wr.u8 ?_ | ((with_reducible first | refine Wr.ci ?wxs ?_ | refine Wr.c3 ?wxs ?_ | refine Wr.c6 ?wxs ?_ | refine BCase.dt ?wxs ?_); case wxs => (first | omega | (simp only [lens, true_and, and_true]; (try omega); done))) | ((with_reducible refine BCase.df ?wxs ?_); case wxs => (first | omega | (simp only [lens, true_and, and_true]; (try omega); done))) | ((with_reducible refine Need.mk ?wxs ?_); case wxs => first | (first | omega | (simp only [lens, true_and, and_true]; (try omega); done)) | decide | kernel_rfl) | refine BCase.t (by decide) ?_ | refine BCase.f (by decide) ?_ | refine CallP.pure _ rfl _ (pu) ?_ | refine CallP.pure _ rfl _ (pp) ?_ | with_reducible (first | refine EmpOr.app ?_ | refine BCase.not ?_ | refine BCase.and ?_ | refine BCase.or ?_ | refine BCase.d (fun _ => ?_) (fun _ => ?_))) <;> ((conv => whnf); repeat ((with_reducible first | refine BCase.tt ?_ | refine BCase.ff ?_); (conv => whnf)))))
    exact Ret.le ⟨⟨.inr ⟨⟨1, rfl⟩, .inl rfl⟩, .inr ⟨⟨2, rfl⟩, .inl rfl⟩, .inr ⟨⟨1, rfl⟩, .inl rfl⟩, .inr ⟨⟨2, rfl⟩, .inl rfl⟩, rfl⟩, .inl rfl, rfl⟩
end Go.Proofs.Ytohlkegmmbdlaaa.Pm
end

section
namespace Go.Proofs.Ytohlkegmmbdlaaa.Pm
open Go.RowKit K DiskP
set_option linter.unusedVariables false
set_option linter.unusedSimpArgs false
set_option maxRecDepth 100000

def plainE (s : Str) : Bool := decide (s.1.2 = []) && decide (s.2.2 = []) && !hotR s
theorem p_plainend (s : Str) : Pure Try.prog 23 [stV s] (pBool (plainE s)) := by
  have ph := p_ishot s
  refine pure_of Try.func23 (by rfl) rfl (by kernel_rfl) (by rfl) ?_
  unfold plainE
  by_cases h1 : s.1.2 = []
  · have e1 : s.1.2.length = 0 := by rw [h1]; rfl
    by_cases h2 : s.2.2 = []
    · have e2 : s.2.2.length = 0 := by rw [h2]; rfl
      (((conv => whnf); repeat ((with_reducible first | refine BCase.tt ?_ | refine BCase.ff ?_); (conv => whnf))); repeat' ((first | with_reducible refine Wr.u8 ?_ | ((with_reducible first | refine Wr.ci ?wxs ?_ | refine Wr.c3 ?wxs ?_ | refine Wr.c6 ?wxs ?_ | refine BCase.dt ?wxs ?_); case wxs => (first | omega | (simp only [lens, true_and, and_true]; (try omega); done))) | ((with_reducible refine BCase.df ?wxs ?_); case wxs => (first | omega | (simp only [lens, true_and, and_true]; (try omega); done))) | ((with_reducible refine Need.mk ?wxs ?_); case wxs => first | (first | omega | (simp only [lens, true_and, and_true]; (try omega); done)) | decide | kernel_rfl) | refine BCase.t (by decide) ?_ | refine BCase.f (by decide) ?_ | refine CallP.pure _ rfl _ (ph) ?_ | with_reducible (first | refine EmpOr.app ?_ | refine BCase.not ?_ | refine BCase.and ?_ | refine BCase.or ?_ | refine BCase.d (fun _ => ?_) (fun _ => ?_))) <;> ((conv => whnf); repeat ((with_reducible first | refine BCase.tt ?_ | refine BCase.ff ?_); (conv => whnf)))))
      all_goals exact Ret.bool (by simp [h1, h2])
    · have e2 : s.2.2.length ≠ 0 := by rw [Ne, List.length_eq_zero_iff]; exact h2
      (((conv => whnf); repeat ((with_reducible first | refine BCase.tt ?_ | refine BCase.ff ?_); (conv => whnf))); repeat' ((first | with_reducible refine Wr.u8 ?_ | ((with_reducible first | refine Wr.ci ?wxs ?_ | refine Wr.c3 ?wxs ?_ | refine Wr.c6 ?wxs ?_ | refine BCase.dt ?wxs ?_); case wxs => (first | omega | (simp only [lens, true_and, and_true]; (try omega); done))) | ((with_reducible refine BCase.df ?wxs ?_); case wxs => (first | omega | (simp only [lens, true_and, and_true]; (try omega); done))) | ((with_reducible refine Need.mk ?wxs ?_); case wxs => first | (first | omega | (simp only [lens, true_and, and_true]; (try omega); done)) | decide | kernel_rfl) | refine BCase.t (by decide) ?_ | refine BCase.f (by decide) ?_ | refine CallP.pure _ rfl _ (ph) ?_ | with_reducible (first | refine EmpOr.app ?_ | refine BCase.not ?_ | refine BCase.and ?_ | refine BCase.or ?_ | refine BCase.d (fun _ => ?_) (fun _ => ?_))) <;> ((conv => whnf); repeat ((with_reducible first | refine BCase.tt ?_ | refine BCase.ff ?_); (conv => whnf)))))
      exact Ret.bool (by simp [h1, h2])
  · have e1 : s.1.2.length ≠ 0 := by rw [Ne, List.length_eq_zero_iff]; exact h1
    (((conv => whnf); repeat ((with_reducible first | refine BCase.tt ?_ | refine BCase.ff ?_); (conv => whnf))); repeat' ((first | with_reducible refine Wr.u8 ?_ | ((with_reducible first | refine Wr.ci ?wxs ?_ | refine Wr.c3 ?wxs ?_ | refine Wr.c6 ?wxs ?_ | refine BCase.dt ?wxs ?_); case wxs => (first | omega | (simp only [lens, true_and, and_true]; (try omega); done))) | ((with_reducible refine BCase.df ?wxs ?_); case wxs => (first | omega | (simp only [lens, true_and, and_true]; (try omega); done))) | ((with_reducible refine Need.mk ?wxs ?_); case wxs => first | (first | omega | (simp only [lens, true_and, and_true]; (try omega); done)) | decide | kernel_rfl) | refine BCase.t (by decide) ?_ | refine BCase.f (by decide) ?_ | refine CallP.pure _ rfl _ (ph) ?_ | with_reducible (first | refine EmpOr.app ?_ | refine BCase.not ?_ | refine BCase.and ?_ | refine BCase.or ?_ | refine BCase.d (fun _ => ?_) (fun _ => ?_))) <;> ((conv => whnf); repeat ((with_reducible first | refine BCase.tt ?_ | refine BCase.ff ?_); (conv => whnf)))))
    exact Ret.bool (by simp [h1])
theorem p_writelaw (n : Int) (s : ByteArray) : Pure Try.prog 38 [pInt .i64 n, pStr s] (.agg ((encW (n, s)).map D.c)) := by
  refine pure_of Try.func38 (by rfl) rfl (by kernel_rfl) (by rfl) ?_
  (((conv => whnf); repeat ((with_reducible first | refine BCase.tt ?_ | refine BCase.ff ?_); (conv => whnf))); repeat' ((first | with_reducible refine Wr.u8 ?_ | ((with_reducible first | refine Wr.ci ?wxs ?_ | refine Wr.c3 ?wxs ?_ | refine Wr.c6 ?wxs ?_ | refine BCase.dt ?wxs ?_); case wxs => (first | omega | (simp only [lens, true_and, and_true]; (try omega); done))) | ((with_reducible refine BCase.df ?wxs ?_); case wxs => (first | omega | (simp only [lens, true_and, and_true]; (try omega); done))) | ((with_reducible refine Need.mk ?wxs ?_); case wxs => first | (first | omega | (simp only [lens, true_and, and_true]; (try omega); done)) | decide | kernel_rfl) | refine BCase.t (by decide) ?_ | refine BCase.f (by decide) ?_ | with_reducible (first | refine EmpOr.app ?_ | refine BCase.not ?_ | refine BCase.and ?_ | refine BCase.or ?_ | refine BCase.d (fun _ => ?_) (fun _ => ?_))) <;> ((conv => whnf); repeat ((with_reducible first | refine BCase.tt ?_ | refine BCase.ff ?_); (conv => whnf)))))
  exact Ret.mk rfl
def bS : Str := (([⟨#[97]⟩, ⟨#[98]⟩], []), ([], []))
def bL : List DiskP.Wr := [(1, ⟨#[66]⟩), (3, ⟨#[68]⟩)]
def bO : List Opr := [(2, 1, ⟨#[0, 1, 98]⟩), (2, 2, ⟨#[0, 3]⟩), (4, 0, ⟨#[]⟩), (2, 0, ⟨#[74, 2]⟩), (4, 0, ⟨#[]⟩), (1, 1, ⟨#[66]⟩), (1, 3, ⟨#[68]⟩), (3, 0, ⟨#[]⟩), (2, 0, ⟨#[45]⟩), (4, 0, ⟨#[]⟩)]
def bT : Str := (([⟨#[97]⟩, ⟨#[98]⟩], []), ([⟨#[74, 2]⟩, ⟨#[0, 1, 98]⟩, ⟨#[0, 3]⟩], []))
def bU : Str := (([⟨#[97]⟩, ⟨#[66]⟩], []), ([⟨#[74, 2]⟩, ⟨#[0, 1, 98]⟩, ⟨#[0, 3]⟩], []))
def bR : Str := (([⟨#[97]⟩, ⟨#[98]⟩], []), ([⟨#[45]⟩, ⟨#[0, 1, 98]⟩, ⟨#[0, 3]⟩], []))
def bV : Str := (([⟨#[97]⟩, ⟨#[66]⟩, ⟨#[]⟩, ⟨#[68]⟩], []), ([⟨#[45]⟩, ⟨#[0, 1, 98]⟩, ⟨#[0, 3]⟩], []))
theorem b1 : stepsE bS bL = 0 := by decide +kernel
theorem b2 : stepsR bS bL = bO := by decide +kernel
theorem b3 : playR bS (bO.take 5) = (bT, 0) := by decide +kernel
theorem b4 : recoverR bU = (bR, 0) := by decide +kernel
theorem b5 : playR bS bO = (bV, 0) := by decide +kernel
theorem b6 : plainE bV = true := by decide +kernel
theorem p_jbegun : Pure Try.prog 13 [] (pBool true) := by
  have q1 := p_steps bS bL (by decide) (by decide) (by decide) (by unfold okInt; decide)
  rw [b1, b2] at q1
  have q2 := p_play bS (bO.take 5) (by decide)
  rw [b3] at q2
  have q3 := p_recover bU (by decide) (by decide)
  rw [b4] at q3
  have q4 := p_play bS bO (by decide)
  rw [b5] at q4
  have q5 := p_plainend bV
  rw [b6] at q5
  have s1 := p_sametexts [⟨#[74, 2]⟩, ⟨#[0, 1, 98]⟩, ⟨#[0, 3]⟩] [⟨#[74, 2]⟩, ⟨#[0, 1, 98]⟩, ⟨#[0, 3]⟩]
  have s2 := p_sametexts [⟨#[97]⟩, ⟨#[98]⟩] [⟨#[97]⟩, ⟨#[98]⟩]
  have s3 := p_sametexts [⟨#[97]⟩, ⟨#[66]⟩, ⟨#[]⟩, ⟨#[68]⟩] [⟨#[97]⟩, ⟨#[66]⟩, ⟨#[]⟩, ⟨#[68]⟩]
  rw [decide_eq_true rfl] at s1 s2 s3
  have q1 := q1.le (args' := [.agg [.c (pgsC bS.1.1), .c (.v (.slice none 0 0)), .c (.v (.slice none 0 0)), .c (.v (.slice none 0 0))], .d (.c (wrsC bL))]) ⟨⟨.inl rfl, .inr ⟨⟨2, rfl⟩, .inl rfl⟩, .inr ⟨⟨1, rfl⟩, .inl rfl⟩, .inr ⟨⟨2, rfl⟩, .inl rfl⟩, rfl⟩, .inl rfl, rfl⟩
  have q2 := q2.le (args' := [.agg [.c (pgsC bS.1.1), .c (.v (.slice none 0 0)), .c (.v (.slice none 0 0)), .c (.v (.slice none 0 0))], .d (.c (opsC (bO.take 5)))]) ⟨⟨.inl rfl, .inr ⟨⟨2, rfl⟩, .inl rfl⟩, .inr ⟨⟨1, rfl⟩, .inl rfl⟩, .inr ⟨⟨2, rfl⟩, .inl rfl⟩, rfl⟩, .inl rfl, rfl⟩
  have q4 := q4.le (args' := [.agg [.c (pgsC bS.1.1), .c (.v (.slice none 0 0)), .c (.v (.slice none 0 0)), .c (.v (.slice none 0 0))], .d (.c (opsC bO))]) ⟨⟨.inl rfl, .inr ⟨⟨2, rfl⟩, .inl rfl⟩, .inr ⟨⟨1, rfl⟩, .inl rfl⟩, .inr ⟨⟨2, rfl⟩, .inl rfl⟩, rfl⟩, .inl rfl, rfl⟩
  have q3 := q3.le (args' := [.agg [.c (pgsC bU.1.1), .c (.v (.slice none 0 0)), .c (pgsC bU.2.1), .c (wrsC bU.2.2)]]) ⟨⟨.inl rfl, .inr ⟨⟨2, rfl⟩, .inl rfl⟩, .inl rfl, .inl rfl, rfl⟩, rfl⟩
  refine pure_of Try.func13 (by rfl) rfl (by kernel_rfl) (by rfl) ?_
  (((conv => whnf); repeat ((with_reducible first | refine BCase.tt ?_ | refine BCase.ff ?_); (conv => whnf))); repeat' ((first | with_reducible refine Wr.u8 ?_ | ((with_reducible first | refine Wr.ci ?wxs ?_ | refine Wr.c3 ?wxs ?_ | refine Wr.c6 ?wxs ?_ | refine BCase.dt ?wxs ?_); case wxs => (first | omega | (simp only [lens, true_and, and_true]; (try omega); done))) | ((with_reducible refine BCase.df ?wxs ?_); case wxs => (first | omega | (simp only [lens, true_and, and_true]; (try omega); done))) | ((with_reducible refine Need.mk ?wxs ?_); case wxs => first | (first | omega | (simp only [lens, true_and, and_true]; (try omega); done)) | decide | kernel_rfl) | refine BCase.t (by decide) ?_ | refine BCase.f (by decide) ?_ | refine CallP.pure _ rfl _ (p_writelaw 1 ⟨#[66]⟩) ?_ | refine CallP.pure _ rfl _ (p_writelaw 3 ⟨#[68]⟩) ?_ | refine CallP.pure _ rfl _ (q1) ?_ | refine CallP.pure _ rfl _ (q2) ?_ | refine CallP.pure _ rfl _ (q3) ?_ | refine CallP.pure _ rfl _ (q4) ?_ | refine CallP.pure _ rfl _ (q5) ?_ | refine CallP.pure _ rfl _ (s1) ?_ | refine CallP.pure _ rfl _ (s2) ?_ | refine CallP.pure _ rfl _ (s3) ?_ | (refine Idx.mk (encO (2, 1, ⟨#[0, 1, 98]⟩)) (by decide) rfl ?_) | with_reducible (first | refine EmpOr.app ?_ | refine BCase.not ?_ | refine BCase.and ?_ | refine BCase.or ?_ | refine BCase.d (fun _ => ?_) (fun _ => ?_))) <;> ((conv => whnf); repeat ((with_reducible first | refine BCase.tt ?_ | refine BCase.ff ?_); (conv => whnf)))))
  exact Ret.mk rfl
end Go.Proofs.Ytohlkegmmbdlaaa.Pm
end

section
namespace Go.Proofs.Ytohlkegmmbdlaaa.Pm
open Go.RowKit K DiskP
set_option linter.unusedVariables false
set_option linter.unusedSimpArgs false
set_option maxRecDepth 100000

/-! ### playing -/
theorem opR_ok {s : Str} {o : Opr} (hs : storeChk s = 0) (h : (opR s o).2 = 0) : storeChk (opR s o).1 = 0 := by
  obtain ⟨h1, h2⟩ := storeChk_ok hs
  have mk : ∀ {t : Str}, check t.1.1 t.1.2 = 0 → check t.2.1 t.2.2 = 0 → storeChk t = 0 := by
    intro t a b
    unfold storeChk
    rw [if_neg (not_not_intro a)]; exact b
  unfold opR at h ⊢
  by_cases c1 : o.1 = 1
  · rw [if_pos c1] at h ⊢
    obtain ⟨a, b⟩ := writeP_yes h
    refine mk ?_ h2
    show check (writeP _ _ _ _) (writeQ _ _ _ _) = 0
    rw [a, b]; exact write_check h
  · rw [if_neg c1] at h ⊢
    by_cases c2 : o.1 = 2
    · rw [if_pos c2] at h ⊢
      obtain ⟨a, b⟩ := writeP_yes h
      refine mk h1 ?_
      show check (writeP _ _ _ _) (writeQ _ _ _ _) = 0
      rw [a, b]; exact write_check h
    · rw [if_neg c2] at h ⊢
      by_cases c3 : o.1 = 3
      · rw [if_pos c3] at h ⊢
        exact mk (settleP_pages h1) h2
      · rw [if_neg c3] at h ⊢
        by_cases c4 : o.1 = 4
        · rw [if_pos c4] at h ⊢
          exact mk h1 (settleP_pages h2)
        · rw [if_neg c4] at h
          exact absurd h (show ¬ (7 : Int) = 0 by decide)
theorem playG_bad : ∀ {ops : List Opr} {s : Str}, (playG s ops).2 ≠ 0 → (playG s ops).1 = zeroS
  | [], s, h => absurd rfl h
  | o :: r, s, h => by
    rw [playG_cons] at h ⊢
    by_cases c : (opR s o).2 = 0
    · rw [if_pos c] at h ⊢; exact playG_bad h
    · rw [if_neg c]
theorem playG_ok : ∀ {ops : List Opr} {s : Str}, storeChk s = 0 → (playG s ops).2 = 0 → storeChk (playG s ops).1 = 0
  | [], s, hs, _ => hs
  | o :: r, s, hs, h => by
    rw [playG_cons] at h ⊢
    by_cases c : (opR s o).2 = 0
    · rw [if_pos c] at h ⊢; exact playG_ok (opR_ok hs c) h
    · rw [if_neg c] at h; exact absurd h c
theorem playG_app : ∀ {a b : List Opr} {s : Str}, (playG s a).2 = 0 → playG s (a ++ b) = playG (playG s a).1 b
  | [], b, s, _ => rfl
  | o :: r, b, s, h => by
    rw [playG_cons] at h ⊢
    rw [List.cons_append, playG_cons]
    by_cases c : (opR s o).2 = 0
    · rw [if_pos c] at h ⊢; rw [if_pos c]; exact playG_app h
    · rw [if_neg c] at h; exact absurd h c
theorem playG_app_bad : ∀ {a b : List Opr} {s : Str}, (playG s a).2 ≠ 0 → playG s (a ++ b) = playG s a
  | [], b, s, h => absurd rfl h
  | o :: r, b, s, h => by
    rw [playG_cons] at h ⊢
    rw [List.cons_append, playG_cons]
    by_cases c : (opR s o).2 = 0
    · rw [if_pos c] at h ⊢; rw [if_pos c]; exact playG_app_bad h
    · rw [if_neg c, if_neg c]
theorem playR_ok {s : Str} {ops : List Opr} (hs : storeChk s = 0) (hl : ops.length ≤ 100) : playR s ops = playG s ops := by
  unfold playR playE
  rw [if_neg (not_not_intro hs), if_neg (show ¬ 100 < ops.length by omega)]
  exact if_neg (not_not_intro rfl)
theorem playR_fine {s : Str} {ops : List Opr} (h : (playR s ops).2 = 0) : storeChk s = 0 ∧ ops.length ≤ 100 ∧ playR s ops = playG s ops := by
  unfold playR at h
  by_cases c : playE s ops = 0
  · unfold playE at c
    by_cases c1 : storeChk s = 0
    · rw [if_neg (not_not_intro c1)] at c
      by_cases c2 : 100 < ops.length
      · rw [if_pos c2] at c; cases c
      · exact ⟨c1, by omega, playR_ok c1 (by omega)⟩
    · rw [if_pos c1] at c; exact absurd c c1
  · rw [if_pos c] at h; exact absurd h c
/-- ops in two parts -/
theorem playR_parts {s : Str} {ops : List Opr} (h : (playR s ops).2 = 0) (k : Nat) : (playR s (ops.take k)).2 = 0 ∧ playR (playR s (ops.take k)).1 (ops.drop k) = playR s ops := by
  obtain ⟨h1, h2, h3⟩ := playR_fine h
  rw [h3] at h ⊢
  have e1 : playR s (ops.take k) = playG s (ops.take k) := playR_ok h1 (by rw [List.length_take]; omega)
  rw [e1]
  have c : (playG s (ops.take k)).2 = 0 := by
    refine Classical.byContradiction fun q => ?_
    have := playG_app_bad (b := ops.drop k) q
    rw [List.take_append_drop] at this
    rw [this] at h
    exact q h
  refine ⟨c, ?_⟩
  rw [playR_ok (playG_ok h1 c) (by rw [List.length_drop]; omega), ← playG_app c, List.take_append_drop]

/-! ### pages -/
theorem pages_ext {p q : List ByteArray} (hp : lastBlank p = false) (hq : lastBlank q = false) (h : ∀ n : Nat, pageAt p n = pageAt q n) : p = q := by
  rw [← trim_id p hp, ← trim_id q hq]
  exact trim_ext p q h
theorem pageAt_far {p : List ByteArray} (h : p.length ≤ 32) {n : Nat} (hn : 32 ≤ n) : pageAt p (n : Int) = ⟨#[]⟩ := by
  unfold pageAt
  rw [if_pos (by omega), Int.toNat_natCast, List.getD_eq_getElem?_getD, List.getElem?_eq_none (by omega)]; rfl
/-- what has landed of a list of writes -/
theorem pageAt_crash {p : List ByteArray} {q : List DiskP.Wr} (h : check p q = 0) (m : Int) (n : Nat) : pageAt (crashP p q m) n = if n < 32 then lastOn (pageAt p n) (kept (bitAt m) q) n else ⟨#[]⟩ := by
  have hS : crashP p q m = settled p q m := if_pos h
  rw [hS, pageAt_settled, lastOf_kept]
  by_cases c : n < 32
  · rw [if_pos ⟨by omega, by omega⟩, if_pos c]
  · rw [if_neg (by omega), if_neg c]
theorem crash_bare {p : List ByteArray} (h : check p [] = 0) (m : Int) : crashP p [] m = p := by
  have h2 := check_ok _ _ (settleP_pages (m := m) h)
  have h1 := check_ok _ _ h
  refine pages_ext h2.2.2.1 h1.2.2.1 fun n => ?_
  rw [pageAt_crash h]
  by_cases c : n < 32
  · rw [if_pos c]; rfl
  · rw [if_neg c, pageAt_far h1.1 (by omega)]
theorem lastOn_all {s : ByteArray} {q : List DiskP.Wr} {n : Int} {v : ByteArray} (h : ∀ x ∈ q, x.1 = n → x.2 = v) (hs : s = v ∨ ∃ x ∈ q, x.1 = n) : lastOn s q n = v := by
  rcases lastOn_either s q n with e | ⟨x, hx, h1, h2⟩
  · rcases hs with hs | ⟨x, hx, h1⟩
    · rw [e, hs]
    · -- the last of those that hit
      induction q generalizing s with
      | nil => cases hx
      | cons y q ih =>
        show lastOn (if (y.1 == n) = true then y.2 else s) q n = v
        by_cases hy : y.1 = n
        · rw [if_pos (by simpa using hy)]
          rcases lastOn_either y.2 q n with e2 | ⟨z, hz, h3, h4⟩
          · rw [e2]; exact h y (List.mem_cons_self ..) hy
          · rw [h4]; exact h z (List.mem_cons_of_mem _ hz) h3
        · rw [if_neg (by simpa using hy)]
          rcases List.mem_cons.1 hx with rfl | hx
          · exact absurd h1 hy
          · rcases lastOn_either s q n with e2 | ⟨z, hz, h3, h4⟩
            · exact ih (fun z hz => h z (List.mem_cons_of_mem _ hz)) e2 hx
            · rw [h4]; exact h z (List.mem_cons_of_mem _ hz) h3
  · rw [h2]; exact h x hx h1
end Go.Proofs.Ytohlkegmmbdlaaa.Pm
end

section
namespace Go.Proofs.Ytohlkegmmbdlaaa.Pm
open Go.RowKit K DiskP
set_option linter.unusedVariables false
set_option linter.unusedSimpArgs false
set_option maxRecDepth 100000

def dOps (q : List DiskP.Wr) : List Opr := q.map fun w => (1, w.1, w.2)
def jOps (q : List DiskP.Wr) : List Opr := q.map fun w => (2, w.1, w.2)
def okW (x : DiskP.Wr) : Prop := inPlace x.1 = true ∧ tooLong x.2 = false
theorem check_more {p : List ByteArray} {q r : List DiskP.Wr} (h : check p q = 0) (hl : (q ++ r).length ≤ 48) (hr : ∀ x ∈ r, okW x) : check p (q ++ r) = 0 := by
  obtain ⟨a, b, c, d, e⟩ := check_ok p q h
  exact check_of _ _ a b c hl fun x hx => (List.mem_append.1 hx).elim (e x) (hr x)
theorem writeE_of {p : List ByteArray} {q : List DiskP.Wr} {x : DiskP.Wr} (h : check p q = 0) (hl : q.length < 48) (hx : okW x) : writeE p q x.1 x.2 = 0 := by
  unfold writeE
  rw [if_neg (not_not_intro h), if_neg (by rw [hx.1]; decide), if_neg]
  rintro (e | e)
  · rw [hx.2] at e; cases e
  · omega
/-- writes that wait -/
theorem play_dOps : ∀ {r q : List DiskP.Wr} {p : List ByteArray} {J : Dk}, check p q = 0 → (q ++ r).length ≤ 48 → (∀ x ∈ r, okW x) → playG ((p, q), J) (dOps r) = (((p, q ++ r), J), 0)
  | [], q, p, J, h, hl, hr => by rw [List.append_nil]; rfl
  | x :: r, q, p, J, h, hl, hr => by
    have hx := hr x (List.mem_cons_self ..)
    rw [List.length_append, List.length_cons] at hl
    have he := writeE_of h (by omega) hx
    have e : opR ((p, q), J) (1, x.1, x.2) = (((p, q ++ [x]), J), 0) := by
      unfold opR
      rw [if_pos rfl]
      obtain ⟨a, b⟩ := writeP_yes he
      show (((writeP p q x.1 x.2, writeQ p q x.1 x.2), J), writeE p q x.1 x.2) = _
      rw [a, b, he]
    show playG ((p, q), J) ((1, x.1, x.2) :: dOps r) = _
    rw [playG_cons, e]
    show (if (0 : Int) = 0 then playG ((p, q ++ [x]), J) (dOps r) else _) = _
    rw [if_pos rfl, play_dOps (check_more h (by rw [List.length_append, List.length_singleton]; omega) (by simpa using hx)) (by rw [List.append_assoc]; simp; omega) (fun y hy => hr y (List.mem_cons_of_mem _ hy)), List.append_assoc]
    rfl
theorem play_jOps : ∀ {r q : List DiskP.Wr} {p : List ByteArray} {D : Dk}, check p q = 0 → (q ++ r).length ≤ 48 → (∀ x ∈ r, okW x) → playG (D, (p, q)) (jOps r) = ((D, (p, q ++ r)), 0)
  | [], q, p, D, h, hl, hr => by rw [List.append_nil]; rfl
  | x :: r, q, p, D, h, hl, hr => by
    have hx := hr x (List.mem_cons_self ..)
    rw [List.length_append, List.length_cons] at hl
    have he := writeE_of h (by omega) hx
    have e : opR (D, (p, q)) (2, x.1, x.2) = ((D, (p, q ++ [x])), 0) := by
      unfold opR
      rw [if_neg (show ¬ (2 : Int) = 1 by decide), if_pos rfl]
      obtain ⟨a, b⟩ := writeP_yes he
      show ((D, (writeP p q x.1 x.2, writeQ p q x.1 x.2)), writeE p q x.1 x.2) = _
      rw [a, b, he]
    show playG (D, (p, q)) ((2, x.1, x.2) :: jOps r) = _
    rw [playG_cons, e]
    show (if (0 : Int) = 0 then playG (D, (p, q ++ [x])) (jOps r) else _) = _
    rw [if_pos rfl, play_jOps (check_more h (by rw [List.length_append, List.length_singleton]; omega) (by simpa using hx)) (by rw [List.append_assoc]; simp; omega) (fun y hy => hr y (List.mem_cons_of_mem _ hy)), List.append_assoc]
    rfl
theorem opR_syncD {p : List ByteArray} {q : List DiskP.Wr} {J : Dk} (h : check p q = 0) (n : Int) (s : ByteArray) : opR ((p, q), J) (3, n, s) = (((crashP p q all1, []), J), 0) := by
  unfold opR
  rw [if_neg (show ¬ (3 : Int) = 1 by decide), if_neg (show ¬ (3 : Int) = 2 by decide), if_pos rfl, h]
theorem opR_syncJ {p : List ByteArray} {q : List DiskP.Wr} {D : Dk} (h : check p q = 0) (n : Int) (s : ByteArray) : opR (D, (p, q)) (4, n, s) = ((D, (crashP p q all1, [])), 0) := by
  unfold opR
  rw [if_neg (show ¬ (4 : Int) = 1 by decide), if_neg (show ¬ (4 : Int) = 2 by decide), if_neg (show ¬ (4 : Int) = 3 by decide), if_pos rfl, h]

/-- one write that has landed, or not -/
theorem crash_one {p : List ByteArray} (h : check p [] = 0) {x : DiskP.Wr} (hx : okW x) (m : Int) : crashP p [x] m = p ∨ ∀ n : Nat, pageAt (crashP p [x] m) n = if (n : Int) = x.1 then x.2 else pageAt p n := by
  have hc : check p [x] = 0 := check_more h (by simp) (by simpa using hx)
  have h2 := check_ok _ _ (settleP_pages (m := m) hc)
  have h1 := check_ok _ _ h
  obtain ⟨hx0, hx1⟩ := inPlace_lt hx.1
  cases hb : bitAt m 0 with
  | false =>
    left
    refine pages_ext h2.2.2.1 h1.2.2.1 fun n => ?_
    rw [pageAt_crash hc, kept_none [x] (bitAt m) (fun i hi => by simp at hi; subst hi; exact hb)]
    by_cases c : n < 32
    · rw [if_pos c]; rfl
    · rw [if_neg c, pageAt_far h1.1 (by omega)]
  | true =>
    right
    intro n
    rw [pageAt_crash hc, kept_all [x] (bitAt m) (fun i hi => by simp at hi; subst hi; exact hb)]
    by_cases c : n < 32
    · rw [if_pos c]
      show (if (x.1 == (n : Int)) = true then x.2 else pageAt p n) = _
      by_cases e : (n : Int) = x.1
      · rw [if_pos e, if_pos (by simpa using e.symm)]
      · rw [if_neg e, if_neg (by simpa using fun q => e q.symm)]
    · rw [if_neg c, if_neg (by omega), pageAt_far h1.1 (by omega)]
theorem crash_one_all {p : List ByteArray} (h : check p [] = 0) {x : DiskP.Wr} (hx : okW x) (n : Nat) : pageAt (crashP p [x] all1) n = if (n : Int) = x.1 then x.2 else pageAt p n := by
  have hc : check p [x] = 0 := check_more h (by simp) (by simpa using hx)
  obtain ⟨hx0, hx1⟩ := inPlace_lt hx.1
  rw [pageAt_crash hc, allOn [x] (by simp)]
  by_cases c : n < 32
  · rw [if_pos c]
    show (if (x.1 == (n : Int)) = true then x.2 else pageAt p n) = _
    by_cases e : (n : Int) = x.1
    · rw [if_pos e, if_pos (by simpa using e.symm)]
    · rw [if_neg e, if_neg (by simpa using fun q => e q.symm)]
  · rw [if_neg c, if_neg (by omega), pageAt_far (check_ok _ _ h).1 (by omega)]

/-! ### calm and hot -/
/-- nothing waits, the journal is not hot, the pages are R -/
structure Calm (R : List ByteArray) (u : Str) : Prop where
  d : u.1 = (R, [])
  j : u.2.2 = []
  cd : check R [] = 0
  cj : check u.2.1 [] = 0
  cold : isJ (pageAt u.2.1 0) = false
/-- nothing waits, the journal is hot and says what pages R had where they may differ -/
structure Hot (R : List ByteArray) (e : List DiskP.Wr) (u : Str) : Prop where
  dq : u.1.2 = []
  jq : u.2.2 = []
  cR : check R [] = 0
  cd : check u.1.1 [] = 0
  cj : check u.2.1 [] = 0
  len : e.length ≤ 31
  ok : ∀ x ∈ e, inPlace x.1 = true ∧ x.2.size ≤ 256 ∧ x.2 = pageAt R x.1
  head : pageAt u.2.1 0 = jHead e.length
  ents : ∀ i (h : i < e.length), pageAt u.2.1 ((i + 1 : Nat) : Int) = twoB e[i].1 ++ e[i].2
  rest : ∀ n : Nat, (∀ x ∈ e, x.1 ≠ (n : Int)) → pageAt u.1.1 n = pageAt R n
theorem recR_ent {n : Int} {s : ByteArray} (h : inPlace n = true) : recR (twoB n ++ s) = some (1, n, s) := by
  obtain ⟨h0, h1⟩ := inPlace_lt h
  obtain ⟨l, rfl⟩ : ∃ l, s = tx l := ⟨_, (tx_list s).symm⟩
  have e1 : by1 (n / 256) = 0 := by
    unfold by1
    rw [show n / 256 = 0 by omega]; rfl
  have e2 : ((by1 n).toNat : Int) = n := by
    unfold by1
    rw [show (n % 256).toNat = n.toNat by omega, UInt8.toNat_ofNat']
    omega
  unfold twoB
  rw [tx_append, recR_tx]
  show recL (by1 (n / 256) :: by1 n :: l) = _
  rw [recL_two, e1, if_pos ⟨rfl, by omega⟩, e2]
theorem undoL_ents {f : Nat → ByteArray} : ∀ {e : List DiskP.Wr} {i : Nat}, (∀ x ∈ e, inPlace x.1 = true) → (∀ k (h : k < e.length), f (i + k) = twoB e[k].1 ++ e[k].2) → undoL f i e.length = some (dOps e)
  | [], i, _, _ => rfl
  | x :: e, i, hp, he => by
    rw [List.length_cons, undoL_succ]
    have h0 := he 0 (by simp)
    rw [Nat.add_zero] at h0
    rw [h0]
    show (match recR (twoB x.1 ++ x.2) with | none => none | some o => _) = _
    rw [recR_ent (hp x (List.mem_cons_self ..))]
    show (undoL f (i + 1) e.length).map _ = _
    rw [undoL_ents (e := e) (fun y hy => hp y (List.mem_cons_of_mem _ hy)) (fun k hk => by
      have := he (k + 1) (by simpa using hk)
      rw [show i + 1 + k = i + (k + 1) by omega]
      simpa using this)]
    rfl
theorem Calm.chk {R : List ByteArray} {u : Str} (h : Calm R u) : storeChk u = 0 ∧ waitsR u = false ∧ hotR u = false := by
  obtain ⟨⟨p, q⟩, j, q'⟩ := u
  obtain ⟨h1, h2, h3, h4, h5⟩ := h
  cases h1
  simp only at h2 h4 h5
  subst h2
  refine ⟨?_, rfl, ?_⟩
  · unfold storeChk; rw [if_neg (not_not_intro h3)]; exact h4
  · exact h5
theorem Calm.undo {R : List ByteArray} {u : Str} (h : Calm R u) : undoR u = ([], 0) := by
  obtain ⟨h1, h2, h3⟩ := h.chk
  unfold undoR
  rw [if_neg (not_not_intro h1), if_neg (by rw [h2]; decide), if_pos h3]
theorem Calm.recover {R : List ByteArray} {u : Str} (h : Calm R u) : recoverR u = (u, 0) := by
  unfold recoverR
  rw [h.undo, if_neg (by decide)]
  exact playR_ok h.chk.1 (by simp)
theorem Calm.plain {R : List ByteArray} {u : Str} (h : Calm R u) : plainE u = true := by
  have h3 := h.chk.2.2
  unfold plainE
  rw [h3, h.j, h.d]; rfl
theorem jHead_hot (m : Nat) : isJ (jHead m) = true := rfl
theorem headN_head {m : Nat} (h : m ≤ 31) : headN (jHead m) = some m := by
  have e : (by1 (m : Int)).toNat = m := by
    unfold by1
    rw [show ((m : Int) % 256).toNat = m by omega, UInt8.toNat_ofNat']
    omega
  show (if (by1 (m : Int)).toNat ≤ 31 then some (by1 (m : Int)).toNat else none) = _
  rw [e, if_pos h]
theorem Hot.chk {R : List ByteArray} {e : List DiskP.Wr} {u : Str} (h : Hot R e u) : storeChk u = 0 ∧ waitsR u = false ∧ hotR u = true := by
  refine ⟨?_, ?_, ?_⟩
  · unfold storeChk; rw [h.dq, h.jq, if_neg (not_not_intro h.cd)]; exact h.cj
  · unfold waitsR; rw [h.dq, h.jq]; rfl
  · unfold hotR
    rw [h.jq]
    show isJ (pageAt u.2.1 0) = true
    rw [h.head]; rfl
theorem Hot.undo {R : List ByteArray} {e : List DiskP.Wr} {u : Str} (h : Hot R e u) : undoR u = (dOps e ++ endO, 0) := by
  obtain ⟨h1, h2, h3⟩ := h.chk
  unfold undoR
  rw [if_neg (not_not_intro h1), if_neg (by rw [h2]; decide), if_neg (by rw [h3]; decide), h.head, headN_head h.len]
  simp only
  rw [undoL_ents (fun x hx => (h.ok x hx).1) (fun k hk => by rw [Nat.add_comm]; exact h.ents k hk)]
end Go.Proofs.Ytohlkegmmbdlaaa.Pm
end

section
namespace Go.Proofs.Ytohlkegmmbdlaaa.Pm
open Go.RowKit K DiskP
set_option linter.unusedVariables false
set_option linter.unusedSimpArgs false
set_option maxRecDepth 100000

def crashS (v : Str) (c d : Int) : Str := ((crashP v.1.1 v.1.2 c, []), (crashP v.2.1 v.2.2 d, []))
theorem Hot.okW {R : List ByteArray} {e : List DiskP.Wr} {u : Str} (h : Hot R e u) : ∀ x ∈ e, okW x := fun x hx => ⟨(h.ok x hx).1, by
  have := (h.ok x hx).2.1
  unfold tooLong
  exact decide_eq_false (by omega)⟩
theorem dash_ok : okW ((0 : Int), (⟨#[45]⟩ : ByteArray)) := ⟨by decide, by decide⟩
theorem far_eq {p q : List ByteArray} (hp : check p [] = 0) (hq : check q [] = 0) {n : Nat} (h : 32 ≤ n) : pageAt p n = pageAt q n := by
  rw [pageAt_far (check_ok _ _ hp).1 h, pageAt_far (check_ok _ _ hq).1 h]
/-- the pages as they were, once all that the journal says is there -/
theorem Hot.back {R : List ByteArray} {e : List DiskP.Wr} {u : Str} (h : Hot R e u) : check u.1.1 e = 0 ∧ crashP u.1.1 e all1 = R := by
  have hc : check u.1.1 e = 0 := by
    have := check_more (q := []) (r := e) h.cd (by have := h.len; simp; omega) h.okW
    simpa using this
  refine ⟨hc, pages_ext (check_ok _ _ (settleP_pages hc)).2.2.1 (check_ok _ _ h.cR).2.2.1 fun n => ?_⟩
  rw [pageAt_crash hc, allOn e (by have := h.len; omega)]
  by_cases c : n < 32
  · rw [if_pos c]
    refine lastOn_all (fun x hx hn => by rw [(h.ok x hx).2.2, hn]) ?_
    by_cases q : ∃ x ∈ e, x.1 = (n : Int)
    · exact .inr q
    · left
      exact h.rest n fun x hx hn => q ⟨x, hx, hn⟩
  · rw [if_neg c, pageAt_far (check_ok _ _ h.cR).1 (by omega)]
theorem calm_dash {R Q : List ByteArray} {d : Int} (hR : check R [] = 0) (hQ : check Q [] = 0) (h : ∀ n : Nat, pageAt (crashP Q [(0, ⟨#[45]⟩)] d) n = if (n : Int) = 0 then ⟨#[45]⟩ else pageAt Q n) : Calm R ((R, []), (crashP Q [(0, ⟨#[45]⟩)] d, [])) := by
  have hc : check Q [((0 : Int), (⟨#[45]⟩ : ByteArray))] = 0 := check_more hQ (by simp) (by simpa using dash_ok)
  refine ⟨rfl, rfl, hR, settleP_pages hc, ?_⟩
  have := (h 0).trans (if_pos (show ((0 : Nat) : Int) = 0 from rfl))
  show isJ (pageAt _ ((0 : Nat) : Int)) = false
  rw [this]; rfl
theorem play_end {D : Dk} {p Q : List ByteArray} {q : List DiskP.Wr} (hD : check p q = 0) (hQ : check Q [] = 0) :
    playG ((p, q), (Q, [])) endO = (((crashP p q all1, []), (crashP Q [(0, ⟨#[45]⟩)] all1, [])), 0) := by
  have hc : check Q [((0 : Int), (⟨#[45]⟩ : ByteArray))] = 0 := check_more hQ (by simp) (by simpa using dash_ok)
  unfold endO
  rw [playG_cons, opR_syncD hD]
  show playG ((crashP p q all1, []), (Q, [])) (jOps [(0, ⟨#[45]⟩)] ++ [(4, 0, ⟨#[]⟩)]) = _
  rw [playG_app (by rw [play_jOps hQ (by simp) (by simpa using dash_ok)]), play_jOps hQ (by simp) (by simpa using dash_ok)]
  show playG ((crashP p q all1, []), (Q, [(0, ⟨#[45]⟩)])) [(4, 0, ⟨#[]⟩)] = _
  rw [playG_cons, opR_syncJ hc]
  rfl
theorem Hot.recover {R : List ByteArray} {e : List DiskP.Wr} {u : Str} (h : Hot R e u) : ∃ t, recoverR u = (t, 0) ∧ Calm R t := by
  obtain ⟨hb1, hb2⟩ := h.back
  have hlen : (dOps e ++ endO).length ≤ 100 := by
    have := h.len
    unfold dOps endO
    simp only [List.length_append, List.length_map, List.length_cons, List.length_nil]; omega
  have hchk := h.chk.1
  obtain ⟨⟨p, q⟩, Q, q'⟩ := u
  have hq : q = [] := h.dq
  have hq' : q' = [] := h.jq
  subst hq hq'
  have hd : playG ((p, []), (Q, [])) (dOps e) = (((p, e), (Q, [])), 0) := by
    have := play_dOps (J := (Q, [])) (r := e) h.cd (by have := h.len; simp; omega) h.okW
    simpa using this
  refine ⟨((R, []), (crashP Q [(0, ⟨#[45]⟩)] all1, [])), ?_, calm_dash h.cR h.cj fun n => crash_one_all h.cj dash_ok n⟩
  unfold recoverR
  rw [h.undo, if_neg (not_not_intro (show ((dOps e ++ endO, (0 : Int)) : List Opr × Int).2 = 0 from rfl))]
  show playR _ (dOps e ++ endO) = _
  rw [playR_ok hchk hlen, playG_app (by rw [hd]), hd]
  show playG ((p, e), (Q, [])) endO = _
  rw [play_end (D := (Q, [])) hb1 h.cj]
  show (((crashP p e all1, []), _), (0 : Int)) = _
  rw [show crashP p e all1 = R from hb2]
/-- what has landed of writes that the journal speaks of -/
theorem Hot.crash {R : List ByteArray} {e : List DiskP.Wr} {P Q : List ByteArray} {q : List DiskP.Wr} (h : Hot R e ((P, []), (Q, []))) (hq : check P q = 0) (hin : ∀ x ∈ q, ∃ y ∈ e, y.1 = x.1) (c d : Int) : Hot R e ((crashP P q c, []), (crashP Q [] d, [])) := by
  rw [crash_bare h.cj]
  have hcP : check (crashP P q c) [] = 0 := settleP_pages hq
  refine ⟨rfl, rfl, h.cR, hcP, h.cj, h.len, h.ok, h.head, h.ents, fun n hn => ?_⟩
  show pageAt (crashP P q c) n = _
  by_cases hlt : n < 32
  · rw [pageAt_crash hq, if_pos hlt]
    have hr : pageAt P n = pageAt R n := h.rest n hn
    rcases lastOn_either (pageAt P n) (kept (bitAt c) q) n with e1 | ⟨x, hx, h1, h2⟩
    · rw [e1]; exact hr
    · obtain ⟨y, hy, hyx⟩ := hin x (kept_mem _ _ _ hx)
      exact absurd (hyx.trans h1) (hn y hy)
  · exact far_eq hcP h.cR (by omega)
theorem take_two {α : Type} (A B : List α) (k : Nat) : (k ≤ A.length ∧ (A ++ B).take k = A.take k) ∨ (A.length ≤ k ∧ (A ++ B).take k = A ++ B.take (k - A.length)) := by
  by_cases h : k ≤ A.length
  · exact .inl ⟨h, List.take_append_of_le_length h⟩
  · exact .inr ⟨by omega, by rw [List.take_append, List.take_of_length_le (by omega)]⟩
theorem dOps_take (q : List DiskP.Wr) (k : Nat) : (dOps q).take k = dOps (q.take k) := by unfold dOps; rw [List.map_take]
theorem jOps_take (q : List DiskP.Wr) (k : Nat) : (jOps q).take k = jOps (q.take k) := by unfold jOps; rw [List.map_take]
theorem dOps_len (q : List DiskP.Wr) : (dOps q).length = q.length := List.length_map ..
theorem jOps_len (q : List DiskP.Wr) : (jOps q).length = q.length := List.length_map ..
/-- the end of steps, or of undoing, cut off: what may have become of the store -/
theorem end_part {R : List ByteArray} {e : List DiskP.Wr} {N Q : List ByteArray} (hN : Hot R e ((N, []), (Q, []))) (hcN : check N [] = 0) {P : List ByteArray} {q : List DiskP.Wr} (hP : Hot R e ((P, []), (Q, []))) (hq : check P q = 0) (hin : ∀ x ∈ q, ∃ y ∈ e, y.1 = x.1) (hN2 : crashP P q all1 = N) (j : Nat) (hj : j ≤ 3) :
    ∃ v, playG ((P, q), (Q, [])) (endO.take j) = (v, 0) ∧ ∀ c d, Hot R e (crashS v c d) ∨ (2 ≤ j ∧ Calm N (crashS v c d)) := by
  have hQ : check Q [] = 0 := hN.cj
  have hc : check Q [((0 : Int), (⟨#[45]⟩ : ByteArray))] = 0 := check_more hQ (by simp) (by simpa using dash_ok)
  have e1 : playG ((P, q), (Q, [])) [(3, 0, ⟨#[]⟩)] = (((N, []), (Q, [])), 0) := by rw [playG_cons, opR_syncD hq, hN2]; rfl
  have e2 : playG ((N, []), (Q, [])) (jOps [(0, ⟨#[45]⟩)]) = (((N, []), (Q, [(0, ⟨#[45]⟩)])), 0) := play_jOps hQ (by simp) (by simpa using dash_ok)
  match j, hj with
  | 0, _ => exact ⟨((P, q), (Q, [])), rfl, fun c d => .inl (hP.crash hq hin c d)⟩
  | 1, _ =>
    refine ⟨((N, []), (Q, [])), e1, fun c d => .inl ?_⟩
    exact hN.crash (q := []) hcN (by simp) c d
  | 2, _ =>
    refine ⟨((N, []), (Q, [(0, ⟨#[45]⟩)])), ?_, fun c d => ?_⟩
    · show playG _ ([(3, 0, ⟨#[]⟩)] ++ jOps [(0, ⟨#[45]⟩)]) = _
      rw [playG_app (by rw [e1]), e1]
      exact e2
    · unfold crashS
      simp only
      rw [crash_bare hcN]
      rcases crash_one hQ dash_ok d with h1 | h1
      · rw [h1]; exact .inl hN
      · exact .inr ⟨Nat.le_refl _, calm_dash hcN hQ h1⟩
  | 3, _ =>
    refine ⟨_, play_end (D := (Q, [])) hq hQ, fun c d => .inr ⟨by omega, ?_⟩⟩
    have hcalm := calm_dash (R := N) (d := all1) hcN hQ fun n => crash_one_all hQ dash_ok n
    unfold crashS
    simp only
    rw [hN2, crash_bare hcN, crash_bare hcalm.cj]
    exact hcalm
/-- undoing, cut off -/
theorem Hot.part {R : List ByteArray} {e : List DiskP.Wr} {u : Str} (h : Hot R e u) (j : Nat) (hj : j ≤ (undoR u).1.length) : ∃ v, playR u ((undoR u).1.take j) = (v, 0) ∧ ∀ c d, Calm R (crashS v c d) ∨ Hot R e (crashS v c d) := by
  obtain ⟨hb1, hb2⟩ := h.back
  rw [h.undo] at hj ⊢
  simp only at hj ⊢
  have hlen : ((dOps e ++ endO).take j).length ≤ 100 := by
    have := h.len
    rw [List.length_take, List.length_append, dOps_len]
    show min j (e.length + 3) ≤ 100
    omega
  rw [playR_ok h.chk.1 hlen]
  obtain ⟨⟨P, q⟩, Q, q'⟩ := u
  have hq : q = [] := h.dq
  have hq' : q' = [] := h.jq
  subst hq hq'
  have hd : ∀ r, r.length ≤ 31 → (∀ x ∈ r, Pm.okW x) → playG ((P, []), (Q, [])) (dOps r) = (((P, r), (Q, [])), 0) ∧ check P r = 0 := by
    intro r hr hr2
    have h1 := play_dOps (J := (Q, [])) (r := r) h.cd (by simp; omega) hr2
    have h2 := check_more (q := []) (r := r) h.cd (by simp; omega) hr2
    exact ⟨by simpa using h1, by simpa using h2⟩
  have hRR : Hot R e ((R, []), (Q, [])) := ⟨rfl, rfl, h.cR, h.cR, h.cj, h.len, h.ok, h.head, h.ents, fun n _ => rfl⟩
  rcases take_two (dOps e) endO j with ⟨g1, g2⟩ | ⟨g1, g2⟩
  · rw [g2, dOps_take]
    rw [dOps_len] at g1
    obtain ⟨k1, k2⟩ := hd (e.take j) (by rw [List.length_take]; have := h.len; omega) (fun x hx => h.okW x (List.mem_of_mem_take hx))
    refine ⟨_, k1, fun c d => .inr ?_⟩
    exact h.crash k2 (fun x hx => ⟨x, List.mem_of_mem_take hx, rfl⟩) c d
  · rw [g2]
    rw [dOps_len] at g1
    obtain ⟨k1, k2⟩ := hd e h.len h.okW
    rw [playG_app (by rw [k1]), k1, dOps_len]
    have hj3 : j - e.length ≤ 3 := by
      rw [List.length_append, dOps_len] at hj
      have : endO.length = 3 := rfl
      omega
    obtain ⟨v, v1, v2⟩ := end_part hRR h.cR h k2 (fun x hx => ⟨x, hx, rfl⟩) hb2 (j - e.length) hj3
    exact ⟨v, v1, fun c d => (v2 c d).elim .inr fun q => .inl q.2⟩
end Go.Proofs.Ytohlkegmmbdlaaa.Pm
end

section
namespace Go.Proofs.Ytohlkegmmbdlaaa.Pm
open Go.RowKit K DiskP
set_option linter.unusedVariables false
set_option linter.unusedSimpArgs false
set_option maxRecDepth 100000

def jW (p : List ByteArray) (l : List DiskP.Wr) : List DiskP.Wr := l.mapIdx fun i w => ((i : Int) + 1, twoB w.1 ++ pageAt p w.1)
theorem jEnts_ops (p : List ByteArray) (l : List DiskP.Wr) : jEnts p l = jOps (jW p l) := by
  unfold jEnts jOps jW
  exact List.ext_getElem (by simp) fun i h1 h2 => by simp
theorem jW_len (p : List ByteArray) (l : List DiskP.Wr) : (jW p l).length = l.length := List.length_mapIdx
theorem jW_mem {p : List ByteArray} {l : List DiskP.Wr} {x : DiskP.Wr} (h : x ∈ jW p l) : ∃ i, ∃ hi : i < l.length, x = ((i : Int) + 1, twoB l[i].1 ++ pageAt p l[i].1) := by
  unfold jW at h
  rw [List.mem_mapIdx] at h
  obtain ⟨i, hi, e⟩ := h
  exact ⟨i, hi, e.symm⟩
theorem jW_at {p : List ByteArray} {l : List DiskP.Wr} {i : Nat} (hi : i < l.length) : ((i : Int) + 1, twoB l[i].1 ++ pageAt p l[i].1) ∈ jW p l := by
  unfold jW
  rw [List.mem_mapIdx]
  exact ⟨i, hi, rfl⟩
def undoW (p : List ByteArray) (l : List DiskP.Wr) : List DiskP.Wr := l.map fun w => (w.1, pageAt p w.1)
theorem twoB_size (n : Int) : (twoB n).size = 2 := rfl
structure StepsOk (p j : List ByteArray) (l : List DiskP.Wr) : Prop where
  cp : check p [] = 0
  cj : check j [] = 0
  cold : isJ (pageAt j 0) = false
  len : l.length ≤ 31
  ok : ∀ w ∈ l, inPlace w.1 = true ∧ w.2.size ≤ 256 ∧ (pageAt p w.1).size ≤ 256
theorem stepsOk {s : Str} {l : List DiskP.Wr} (h : stepsE s l = 0) : StepsOk s.1.1 s.2.1 l ∧ s = ((s.1.1, []), (s.2.1, [])) := by
  obtain ⟨h1, h2, h3, h4, h5, h6⟩ := stepsE_ok h
  obtain ⟨k1, k2⟩ := storeChk_ok h1
  obtain ⟨⟨p, q⟩, j, q'⟩ := s
  simp only at h2 h3
  subst h2 h3
  refine ⟨⟨k1, k2, ?_, h5, badWr_ok h6⟩, rfl⟩
  rw [hot_eq h1] at h4
  exact h4
section
variable {p j : List ByteArray} {l : List DiskP.Wr}
theorem StepsOk.jok (h : StepsOk p j l) : ∀ x ∈ jW p l, okW x := by
  intro x hx
  obtain ⟨i, hi, rfl⟩ := jW_mem hx
  have hl := h.len
  obtain ⟨a, b, c⟩ := h.ok _ (List.getElem_mem hi)
  refine ⟨inPlace_t ⟨by simp only; omega, by simp only; omega⟩, ?_⟩
  unfold tooLong
  refine decide_eq_false ?_
  rw [ByteArray.size_append, twoB_size]
  omega
theorem StepsOk.lok (h : StepsOk p j l) : ∀ x ∈ l, okW x := fun x hx => by
  obtain ⟨a, b, c⟩ := h.ok x hx
  refine ⟨a, ?_⟩
  unfold tooLong
  exact decide_eq_false (by omega)
theorem StepsOk.uok (h : StepsOk p j l) : ∀ x ∈ undoW p l, inPlace x.1 = true ∧ x.2.size ≤ 256 ∧ x.2 = pageAt p x.1 := by
  intro x hx
  obtain ⟨w, hw, rfl⟩ := List.mem_map.1 hx
  obtain ⟨a, b, c⟩ := h.ok w hw
  exact ⟨a, c, rfl⟩
theorem headOk {m : Nat} : okW ((0 : Int), jHead m) := ⟨show inPlace 0 = true by decide, by unfold tooLong; exact decide_eq_false (by show ¬ 260 < 2; decide)⟩
/-- the journal behind its records, and behind its head -/
def J1 (p j : List ByteArray) (l : List DiskP.Wr) : List ByteArray := crashP j (jW p l) all1
def J2 (p j : List ByteArray) (l : List DiskP.Wr) : List ByteArray := crashP (J1 p j l) [(0, jHead l.length)] all1
theorem StepsOk.cw (h : StepsOk p j l) (k : Nat) : check j ((jW p l).take k) = 0 := by
  have := check_more (q := []) (r := (jW p l).take k) h.cj (by have := h.len; have := jW_len p l; simp; omega) (fun x hx => h.jok x (List.mem_of_mem_take hx))
  simpa using this
theorem StepsOk.cwAll (h : StepsOk p j l) : check j (jW p l) = 0 := by
  have := h.cw (jW p l).length
  rwa [List.take_length] at this
theorem StepsOk.cJ1 (h : StepsOk p j l) : check (J1 p j l) [] = 0 := settleP_pages h.cwAll
/-- the journal's page 0 is as it was, whatever of the records has landed -/
theorem StepsOk.zero (h : StepsOk p j l) (k : Nat) (b : Int) : pageAt (crashP j ((jW p l).take k) b) 0 = pageAt j 0 := by
  have := pageAt_crash (h.cw k) b 0
  rw [if_pos (by decide)] at this
  refine this.trans ?_
  rcases lastOn_either (pageAt j 0) (kept (bitAt b) ((jW p l).take k)) 0 with e | ⟨x, hx, h1, h2⟩
  · exact e
  · obtain ⟨i, hi, rfl⟩ := jW_mem (List.mem_of_mem_take (kept_mem _ _ _ hx))
    simp only at h1
    omega
theorem StepsOk.ent (h : StepsOk p j l) {i : Nat} (hi : i < l.length) : pageAt (J1 p j l) ((i + 1 : Nat) : Int) = twoB l[i].1 ++ pageAt p l[i].1 := by
  have hl := h.len
  unfold J1
  rw [pageAt_crash h.cwAll, if_pos (by omega), allOn _ (by rw [jW_len]; omega)]
  refine lastOn_all (fun x hx hn => ?_) (.inr ⟨_, jW_at (p := p) hi, by simp⟩)
  obtain ⟨k, hk, rfl⟩ := jW_mem hx
  simp only at hn ⊢
  have : k = i := by omega
  subst this
  rfl
theorem StepsOk.cHead (h : StepsOk p j l) : check (J1 p j l) [(0, jHead l.length)] = 0 := by
  have := check_more (q := []) (r := [((0 : Int), jHead l.length)]) h.cJ1 (by simp) (by simpa using headOk)
  simpa using this
/-- a journal that has the head, and the records -/
theorem StepsOk.hot (h : StepsOk p j l) {Q : List ByteArray} (cQ : check Q [] = 0) (hQ : ∀ n : Nat, pageAt Q n = if (n : Int) = 0 then jHead l.length else pageAt (J1 p j l) n) {P : List ByteArray} (cP : check P [] = 0) (hP : ∀ n : Nat, (∀ x ∈ l, x.1 ≠ (n : Int)) → pageAt P n = pageAt p n) : Hot p (undoW p l) ((P, []), (Q, [])) := by
  have hul : (undoW p l).length = l.length := List.length_map ..
  refine ⟨rfl, rfl, h.cp, cP, cQ, by rw [hul]; exact h.len, h.uok, ?_, fun i hi => ?_, fun n hn => hP n fun x hx e => ?_⟩
  · rw [hul]
    exact (hQ 0).trans (if_pos rfl)
  · have hi' : i < l.length := by rw [hul] at hi; exact hi
    refine (hQ (i + 1)).trans ?_
    have eu : (undoW p l)[i] = (l[i].1, pageAt p l[i].1) := by simp [undoW]
    rw [if_neg (by omega), h.ent hi', eu]
  · exact hn (x.1, pageAt p x.1) (List.mem_map.2 ⟨x, hx, rfl⟩) e
theorem StepsOk.cJ2 (h : StepsOk p j l) : check (J2 p j l) [] = 0 := settleP_pages h.cHead
theorem StepsOk.hot2 (h : StepsOk p j l) {P : List ByteArray} (cP : check P [] = 0) (hP : ∀ n : Nat, (∀ x ∈ l, x.1 ≠ (n : Int)) → pageAt P n = pageAt p n) : Hot p (undoW p l) ((P, []), (J2 p j l, [])) :=
  h.hot h.cJ2 (fun n => crash_one_all h.cJ1 headOk n) cP hP
theorem StepsOk.cl (h : StepsOk p j l) (k : Nat) : check p (l.take k) = 0 := by
  have := check_more (q := []) (r := l.take k) h.cp (by have := h.len; simp; omega) (fun x hx => h.lok x (List.mem_of_mem_take hx))
  simpa using this
theorem StepsOk.clAll (h : StepsOk p j l) : check p l = 0 := by
  have := h.cl l.length
  rwa [List.take_length] at this
theorem StepsOk.others (h : StepsOk p j l) (m : Int) : check (crashP p l m) [] = 0 ∧ ∀ n : Nat, (∀ x ∈ l, x.1 ≠ (n : Int)) → pageAt (crashP p l m) n = pageAt p n := by
  have hc : check (crashP p l m) [] = 0 := settleP_pages h.clAll
  refine ⟨hc, fun n hn => ?_⟩
  by_cases q : n < 32
  · rw [pageAt_crash h.clAll, if_pos q]
    rcases lastOn_either (pageAt p n) (kept (bitAt m) l) n with e1 | ⟨x, hx, h1, h2⟩
    · exact e1
    · exact absurd h1 (hn x (kept_mem _ _ _ hx))
  · exact far_eq hc h.cp (by omega)
theorem calm_of {R Q : List ByteArray} (cR : check R [] = 0) (cQ : check Q [] = 0) (h : isJ (pageAt Q 0) = false) : Calm R ((R, []), (Q, [])) := ⟨rfl, rfl, cR, cQ, h⟩
/-- what may have become of a store whose steps were cut off -/
theorem steps_part (h : StepsOk p j l) (k : Nat) (hk : k ≤ (stepsO p l).length) : ∃ t, playG ((p, []), (j, [])) ((stepsO p l).take k) = (t, 0) ∧
    ∀ a b, (Calm p (crashS t a b) ∨ Hot p (undoW p l) (crashS t a b) ∨ (k > l.length + 2 ∧ Calm (crashP p l all1) (crashS t a b))) ∧ (k = (stepsO p l).length → Calm (crashP p l all1) (crashS t a b) ∧ Calm (crashP p l all1) t) := by
  have hl := h.len
  have lj : (jOps (jW p l)).length = l.length := by rw [jOps_len, jW_len]
  have lh : (jHot l.length).length = 3 := rfl
  have ld : (dOps l).length = l.length := dOps_len l
  have le : endO.length = 3 := rfl
  have hO : stepsO p l = jOps (jW p l) ++ (jHot l.length ++ (dOps l ++ endO)) := by
    unfold stepsO
    rw [jEnts_ops]
    show jOps (jW p l) ++ jHot l.length ++ dOps l ++ endO = _
    simp only [List.append_assoc]
  have hlen : (stepsO p l).length = l.length + (3 + (l.length + 3)) := by
    rw [hO]; simp only [List.length_append, lj, lh, ld, le]
  -- the parts
  have s1 : ∀ k, playG ((p, []), (j, [])) (jOps ((jW p l).take k)) = (((p, []), (j, (jW p l).take k)), 0) := by
    intro k
    have := play_jOps (D := (p, [])) (q := []) (r := (jW p l).take k) h.cj (by have := jW_len p l; simp; omega) (fun x hx => h.jok x (List.mem_of_mem_take hx))
    simpa using this
  have s1' : playG ((p, []), (j, [])) (jOps (jW p l)) = (((p, []), (j, jW p l)), 0) := by
    have := s1 (jW p l).length
    rwa [List.take_length] at this
  have s2 : playG ((p, []), (j, jW p l)) [(4, 0, ⟨#[]⟩)] = (((p, []), (J1 p j l, [])), 0) := by rw [playG_cons, opR_syncJ h.cwAll]; rfl
  have s3 : playG ((p, []), (J1 p j l, [])) (jOps [(0, jHead l.length)]) = (((p, []), (J1 p j l, [(0, jHead l.length)])), 0) := play_jOps h.cJ1 (by simp) (by simpa using headOk)
  have s4 : playG ((p, []), (J1 p j l, [(0, jHead l.length)])) [(4, 0, ⟨#[]⟩)] = (((p, []), (J2 p j l, [])), 0) := by rw [playG_cons, opR_syncJ h.cHead]; rfl
  have s5 : ∀ k, playG ((p, []), (J2 p j l, [])) (dOps (l.take k)) = (((p, l.take k), (J2 p j l, [])), 0) := by
    intro k
    have := play_dOps (J := (J2 p j l, [])) (q := []) (r := l.take k) h.cp (by simp; omega) (fun x hx => h.lok x (List.mem_of_mem_take hx))
    simpa using this
  have s5' : playG ((p, []), (J2 p j l, [])) (dOps l) = (((p, l), (J2 p j l, [])), 0) := by
    have := s5 l.length
    rwa [List.take_length] at this
  have z1 : pageAt (J1 p j l) 0 = pageAt j 0 := by
    have := h.zero (jW p l).length all1
    rwa [List.take_length] at this
  have cold1 : isJ (pageAt (J1 p j l) 0) = false := by rw [z1]; exact h.cold
  have hotp : Hot p (undoW p l) ((p, []), (J2 p j l, [])) := h.hot2 h.cp fun n _ => rfl
  have old : ∀ {t : Str} {k : Nat}, k < (stepsO p l).length → (∀ a b, Calm p (crashS t a b) ∨ Hot p (undoW p l) (crashS t a b)) → ∀ a b, (Calm p (crashS t a b) ∨ Hot p (undoW p l) (crashS t a b) ∨ (k > l.length + 2 ∧ Calm (crashP p l all1) (crashS t a b))) ∧ (k = (stepsO p l).length → Calm (crashP p l all1) (crashS t a b) ∧ Calm (crashP p l all1) t) :=
    fun hlt hab a b => ⟨(hab a b).imp id .inl, fun e => by omega⟩
  rw [hO]
  rcases take_two (jOps (jW p l)) (jHot l.length ++ (dOps l ++ endO)) k with ⟨g1, g2⟩ | ⟨g1, g2⟩
  · -- among the records
    rw [g2, jOps_take]
    rw [lj] at g1
    refine ⟨_, s1 k, ?_⟩
    rw [← hO]
    refine old (by omega) fun a b => .inl ?_
    unfold crashS
    simp only
    rw [crash_bare h.cp]
    exact calm_of h.cp (settleP_pages (h.cw k)) (by rw [h.zero k b]; exact h.cold)
  · rw [g2, playG_app (by rw [s1']), s1', lj]
    rw [lj] at g1
    show ∃ t, playG ((p, []), (j, jW p l)) _ = _ ∧ _
    rw [← hO]
    rcases take_two (jHot l.length) (dOps l ++ endO) (k - l.length) with ⟨f1, f2⟩ | ⟨f1, f2⟩
    · -- among the head's ops
      rw [f2]
      rw [lh] at f1
      obtain ⟨i, hi⟩ : ∃ i, k = l.length + i := ⟨k - l.length, by omega⟩
      rw [hi, Nat.add_sub_cancel_left] at f1 ⊢
      match i, f1 with
      | 0, _ =>
        refine ⟨_, rfl, old (by omega) fun a b => .inl ?_⟩
        unfold crashS
        simp only
        rw [crash_bare h.cp]
        have := h.zero (jW p l).length b
        rw [List.take_length] at this
        exact calm_of h.cp (settleP_pages h.cwAll) (by rw [this]; exact h.cold)
      | 1, _ =>
        refine ⟨_, s2, old (by omega) fun a b => .inl ?_⟩
        unfold crashS
        simp only
        rw [crash_bare h.cp, crash_bare h.cJ1]
        exact calm_of h.cp h.cJ1 cold1
      | 2, _ =>
        refine ⟨((p, []), (J1 p j l, [(0, jHead l.length)])), ?_, old (by omega) fun a b => ?_⟩
        · show playG _ ([(4, 0, ⟨#[]⟩)] ++ jOps [(0, jHead l.length)]) = _
          rw [playG_app (by rw [s2]), s2]
          exact s3
        · unfold crashS
          simp only
          rw [crash_bare h.cp]
          rcases crash_one h.cJ1 (headOk (m := l.length)) b with q | q
          · rw [q]; exact .inl (calm_of h.cp h.cJ1 cold1)
          · exact .inr (h.hot (settleP_pages h.cHead) q h.cp fun n _ => rfl)
      | 3, _ =>
        refine ⟨((p, []), (J2 p j l, [])), ?_, old (by omega) fun a b => .inr ?_⟩
        · show playG _ ([(4, 0, ⟨#[]⟩)] ++ (jOps [(0, jHead l.length)] ++ [(4, 0, ⟨#[]⟩)])) = _
          rw [playG_app (by rw [s2]), s2]
          show playG ((p, []), (J1 p j l, [])) _ = _
          rw [playG_app (by rw [s3]), s3]
          exact s4
        · exact hotp.crash (q := []) h.cp (by simp) a b
    · rw [f2, lh]
      rw [lh] at f1
      have s234 : playG ((p, []), (j, jW p l)) (jHot l.length) = (((p, []), (J2 p j l, [])), 0) := by
        show playG _ ([(4, 0, ⟨#[]⟩)] ++ (jOps [(0, jHead l.length)] ++ [(4, 0, ⟨#[]⟩)])) = _
        rw [playG_app (by rw [s2]), s2]
        show playG ((p, []), (J1 p j l, [])) _ = _
        rw [playG_app (by rw [s3]), s3]
        exact s4
      rw [playG_app (by rw [s234]), s234]
      show ∃ t, playG ((p, []), (J2 p j l, [])) _ = _ ∧ _
      have uin : ∀ x ∈ l, ∃ y ∈ undoW p l, y.1 = x.1 := fun x hx => ⟨(x.1, pageAt p x.1), List.mem_map.2 ⟨x, hx, rfl⟩, rfl⟩
      rcases take_two (dOps l) endO (k - l.length - 3) with ⟨e1, e2⟩ | ⟨e1, e2⟩
      · -- among the pages
        rw [e2, dOps_take]
        rw [ld] at e1
        refine ⟨_, s5 _, old (by omega) fun a b => .inr ?_⟩
        exact hotp.crash (h.cl _) (fun x hx => uin x (List.mem_of_mem_take hx)) a b
      · rw [e2, ld, playG_app (by rw [s5']), s5']
        rw [ld] at e1
        show ∃ t, playG ((p, l), (J2 p j l, [])) _ = _ ∧ _
        obtain ⟨o1, o2⟩ := h.others all1
        have hotN : Hot p (undoW p l) ((crashP p l all1, []), (J2 p j l, [])) := h.hot2 o1 o2
        obtain ⟨i, hi⟩ : ∃ i, k = l.length + 3 + l.length + i := ⟨k - l.length - 3 - l.length, by omega⟩
        have hi3 : i ≤ 3 := by omega
        rw [show k - l.length - 3 - l.length = i by omega]
        obtain ⟨v, v1, v2⟩ := end_part hotN o1 hotp h.clAll uin rfl i hi3
        refine ⟨v, v1, fun a b => ⟨?_, fun e => ?_⟩⟩
        · rcases v2 a b with q | ⟨_, q⟩
          · exact .inr (.inl q)
          · exact .inr (.inr ⟨by omega, q⟩)
        · obtain rfl : i = 3 := by omega
          -- all ops: the journal is cold
          have c3 : check (J2 p j l) [((0 : Int), (⟨#[45]⟩ : ByteArray))] = 0 := check_more h.cJ2 (by simp) (by simpa using dash_ok)
          have hv : playG ((p, l), (J2 p j l, [])) endO = (((crashP p l all1, []), (crashP (J2 p j l) [(0, ⟨#[45]⟩)] all1, [])), 0) := play_end (D := (J2 p j l, [])) h.clAll h.cJ2
          have e3 : endO.take 3 = endO := rfl
          rw [e3, hv] at v1
          cases v1
          have hcalm := calm_dash (R := crashP p l all1) (d := all1) o1 h.cJ2 fun n => crash_one_all h.cJ2 dash_ok n
          refine ⟨?_, hcalm⟩
          unfold crashS
          simp only
          rw [crash_bare o1, crash_bare hcalm.cj]
          exact hcalm
end
/-- what recovering makes of a store that is calm or hot -/
theorem recovered {R : List ByteArray} {e : List DiskP.Wr} {u : Str} (h : Calm R u ∨ Hot R e u) : ∃ t, recoverR u = (t, 0) ∧ plainE t = true ∧ t.1.1 = R := by
  rcases h with h | h
  · exact ⟨u, h.recover, h.plain, by rw [h.d]⟩
  · obtain ⟨t, h1, h2⟩ := h.recover
    exact ⟨t, h1, h2.plain, by rw [h2.d]⟩
theorem quiet {R : List ByteArray} {e : List DiskP.Wr} {u : Str} (h : Calm R u ∨ Hot R e u) : u.1.2.length ≤ 140737488355328 ∧ u.2.2.length ≤ 140737488355328 ∧ storeChk u = 0 ∧ (undoR u).2 = 0 := by
  rcases h with h | h
  · exact ⟨by rw [h.d]; exact Nat.zero_le _, by rw [h.j]; exact Nat.zero_le _, h.chk.1, by rw [h.undo]⟩
  · exact ⟨by rw [h.dq]; exact Nat.zero_le _, by rw [h.jq]; exact Nat.zero_le _, h.chk.1, by rw [h.undo]⟩
theorem twice {R : List ByteArray} {e : List DiskP.Wr} {u : Str} (h : Calm R u ∨ Hot R e u) (j : Nat) (hj : j ≤ (undoR u).1.length) : ∃ v, playR u ((undoR u).1.take j) = (v, 0) ∧ ∀ c d, Calm R (crashS v c d) ∨ Hot R e (crashS v c d) := by
  rcases h with h | h
  · rw [h.undo]
    refine ⟨u, by rw [List.take_nil]; exact playR_ok h.chk.1 (by simp), fun c d => .inl ?_⟩
    obtain ⟨⟨P, q⟩, Q, q'⟩ := u
    have h1 := h.d
    have h2 := h.j
    simp only at h1 h2
    cases h1
    subst h2
    unfold crashS
    simp only
    rw [crash_bare h.cd, crash_bare h.cj]
    exact h
  · exact h.part j hj
/-! ### who is recovered is recovered -/
theorem opR_data {s : Str} {o : Opr} (h : o.1 = 1) : (opR s o).1.2 = s.2 := by
  unfold opR
  rw [if_pos h]
theorem playG_data : ∀ {ops : List Opr} {s : Str}, (∀ o ∈ ops, o.1 = 1) → (playG s ops).2 = 0 → (playG s ops).1.2 = s.2
  | [], s, _, _ => rfl
  | o :: r, s, hk, h => by
    rw [playG_cons] at h ⊢
    by_cases c : (opR s o).2 = 0
    · rw [if_pos c] at h ⊢
      rw [playG_data (fun x hx => hk x (List.mem_cons_of_mem _ hx)) h]
      exact opR_data (hk o (List.mem_cons_self ..))
    · rw [if_neg c] at h; exact absurd h c
theorem recL_kind {l : List UInt8} {o : Opr} (h : recL l = some o) : o.1 = 1 := by
  rcases recL_cases l with ⟨_, g⟩ | ⟨a, b, r, rfl⟩
  · rw [g] at h; cases h
  · rw [recL_two] at h
    by_cases c : a.toNat = 0 ∧ b.toNat < 32
    · rw [if_pos c] at h; cases h; rfl
    · rw [if_neg c] at h; cases h
theorem undoL_kind (f : Nat → ByteArray) : ∀ (n i : Nat) (l : List Opr), undoL f i n = some l → ∀ o ∈ l, o.1 = 1
  | 0, i, l, h, o, ho => by cases h; cases ho
  | n + 1, i, l, h, o, ho => by
    rw [undoL_succ] at h
    split at h
    · cases h
    · rename_i q hq
      cases hu : undoL f (i + 1) n with
      | none => rw [hu] at h; cases h
      | some r =>
        rw [hu] at h
        cases h
        rcases List.mem_cons.1 ho with rfl | ho
        · exact recL_kind hq
        · exact undoL_kind f n (i + 1) r hu o ho
theorem undo_cases {s : Str} (h : (undoR s).2 = 0) : storeChk s = 0 ∧ waitsR s = false ∧ ((hotR s = false ∧ (undoR s).1 = []) ∨ ∃ l, (undoR s).1 = l ++ endO ∧ ∀ o ∈ l, o.1 = 1) := by
  by_cases h1 : storeChk s = 0
  · have e1 : undoR s = if waitsR s = true then ([], 4) else if hotR s = false then ([], 0) else _ := if_neg (not_not_intro h1)
    cases h2 : waitsR s with
    | true => rw [e1, if_pos h2] at h; exact absurd h (by decide)
    | false =>
      rw [if_neg (by rw [h2]; decide)] at e1
      refine ⟨h1, rfl, ?_⟩
      cases h3 : hotR s with
      | false => rw [if_pos h3] at e1; exact .inl ⟨rfl, by rw [e1]⟩
      | true =>
        rw [if_neg (by rw [h3]; decide)] at e1
        right
        cases h4 : headN (pageAt s.2.1 0) with
        | none => rw [h4] at e1; rw [e1] at h; exact absurd (show (1 : Int) = 0 from h) (by decide)
        | some n =>
          rw [h4] at e1
          simp only at e1
          cases h5 : undoL (fun i => pageAt s.2.1 (i : Int)) 1 n with
          | none => rw [h5] at e1; rw [e1] at h; exact absurd (show (1 : Int) = 0 from h) (by decide)
          | some l =>
            rw [h5] at e1
            exact ⟨l, by rw [e1], undoL_kind _ _ _ _ h5⟩
  · have e1 : undoR s = ([], storeChk s) := if_pos h1
    rw [e1] at h
    exact absurd h h1
theorem recover_calm {s : Str} (h : (recoverR s).2 = 0) : ∃ R, Calm R (recoverR s).1 := by
  have hu : (undoR s).2 = 0 := by
    refine Classical.byContradiction fun q => ?_
    have e : recoverR s = (zeroS, (undoR s).2) := if_pos q
    rw [e] at h
    exact q h
  have e : recoverR s = playR s (undoR s).1 := if_neg (not_not_intro hu)
  rw [e] at h ⊢
  obtain ⟨h1, h2, h3⟩ := undo_cases hu
  obtain ⟨k1, k2, k3⟩ := playR_fine h
  obtain ⟨c1, c2⟩ := storeChk_ok h1
  obtain ⟨p1, p2, p3⟩ := hot_head h1 h2
  rw [k3] at h ⊢
  obtain ⟨⟨P, q⟩, Q, q'⟩ := s
  simp only at p2 p3
  subst p2 p3
  rcases h3 with ⟨g1, g2⟩ | ⟨l, g1, g2⟩
  · rw [g2]
    exact ⟨P, rfl, rfl, c1, c2, by rw [g1] at p1; exact p1.symm⟩
  · rw [g1] at h ⊢
    have hl : (playG ((P, []), (Q, [])) l).2 = 0 := by
      refine Classical.byContradiction fun c => ?_
      rw [playG_app_bad c] at h
      exact c h
    rw [playG_app hl] at h ⊢
    have hj := playG_data g2 hl
    have hck := playG_ok h1 hl
    generalize (playG ((P, []), (Q, [])) l).1 = t at *
    obtain ⟨⟨P1, q1⟩, J⟩ := t
    simp only at hj
    subst hj
    obtain ⟨d1, d2⟩ := storeChk_ok hck
    rw [play_end (D := (Q, [])) d1 d2]
    exact ⟨crashP P1 q1 all1, calm_dash (settleP_pages d1) d2 fun n => crash_one_all d2 dash_ok n⟩
end Go.Proofs.Ytohlkegmmbdlaaa.Pm
end

section
namespace Go.Proofs.Ytohlkegmmbdlaaa.Pm
open Go.RowKit K DiskP
set_option linter.unusedVariables false
set_option linter.unusedSimpArgs false
set_option maxRecDepth 100000

structure WriteD where
  No : Int
  Text : List UInt8
def WriteD.c (x : WriteD) : List C := [.v (.int .i64 x.No), .v (.string (tx x.Text))]
def WriteD.ok (x : WriteD) : Prop := okInt x.No ∧ okText x.Text
theorem openC_Write : OpensC Try.prog 56 2 WriteD.c WriteD.ok := by
  refine ⟨by kernel_rfl, by decide, ?_⟩
  intro H enc w spare held fuel cs x h hl
  have ht : Try.prog.underlying 56 = some (.struct (Try.prog.fieldsOf 56)) := by kernel_rfl
  have hlen := struct_len ht h
  rw [show Try.prog.cellsOf 56 = 2 by kernel_rfl] at hlen
  obtain ⟨a0, e0, k0⟩ := field_of ht h hl 0 3 0 1 (by kernel_rfl) (openC_int Try.underlying3 (by kernel_rfl))
  obtain ⟨a1, e1, k1⟩ := field_of ht h hl 1 9 1 1 (by kernel_rfl) (openC_text Try.underlying9 (by kernel_rfl))
  have hall : CsRep (FW w) w (eInt a0 ++ (eText a1 ++ [])) (cs.drop 0) := (cs_field e0 (cs_field e1 (cs_end hlen)))
  rw [List.drop_zero] at hall
  exact ⟨hlen, ⟨a0, a1⟩, hall, ⟨k0, k1⟩⟩
def WriteD.eqB (x y : WriteD) : Bool := (decide (x.No = y.No) && (decide (tx x.Text = tx y.Text) && true))
theorem WriteD.eqB_iff (x y : WriteD) : WriteD.eqB x y = true ↔ x = y := by
  cases x; cases y
  simp [WriteD.eqB, tx_eq]

structure OpD where
  Kind : Int
  No : Int
  Text : List UInt8
def OpD.c (x : OpD) : List C := [.v (.int .i64 x.Kind), .v (.int .i64 x.No), .v (.string (tx x.Text))]
def OpD.ok (x : OpD) : Prop := okInt x.Kind ∧ okInt x.No ∧ okText x.Text
theorem openC_Op : OpensC Try.prog 67 3 OpD.c OpD.ok := by
  refine ⟨by kernel_rfl, by decide, ?_⟩
  intro H enc w spare held fuel cs x h hl
  have ht : Try.prog.underlying 67 = some (.struct (Try.prog.fieldsOf 67)) := by kernel_rfl
  have hlen := struct_len ht h
  rw [show Try.prog.cellsOf 67 = 3 by kernel_rfl] at hlen
  obtain ⟨a0, e0, k0⟩ := field_of ht h hl 0 3 0 1 (by kernel_rfl) (openC_int Try.underlying3 (by kernel_rfl))
  obtain ⟨a1, e1, k1⟩ := field_of ht h hl 1 3 1 1 (by kernel_rfl) (openC_int Try.underlying3 (by kernel_rfl))
  obtain ⟨a2, e2, k2⟩ := field_of ht h hl 2 9 2 1 (by kernel_rfl) (openC_text Try.underlying9 (by kernel_rfl))
  have hall : CsRep (FW w) w (eInt a0 ++ (eInt a1 ++ (eText a2 ++ []))) (cs.drop 0) := (cs_field e0 (cs_field e1 (cs_field e2 (cs_end hlen))))
  rw [List.drop_zero] at hall
  exact ⟨hlen, ⟨a0, a1, a2⟩, hall, ⟨k0, k1, k2⟩⟩
def OpD.eqB (x y : OpD) : Bool := (decide (x.Kind = y.Kind) && (decide (x.No = y.No) && (decide (tx x.Text = tx y.Text) && true)))
theorem OpD.eqB_iff (x y : OpD) : OpD.eqB x y = true ↔ x = y := by
  cases x; cases y
  simp [OpD.eqB, tx_eq]

structure DiskD where
  Pages : List (List UInt8)
  Waiting : List WriteD
def DiskD.c (x : DiskD) : List C := [.sl 1 (x.Pages.map eText), .sl 2 (x.Waiting.map WriteD.c)]
def DiskD.ok (x : DiskD) : Prop := (okSl (Try.prog.bytesOf 9) okText) x.Pages ∧ (okSl (Try.prog.bytesOf 56) WriteD.ok) x.Waiting
theorem openC_Disk : OpensC Try.prog 25 2 DiskD.c DiskD.ok := by
  refine ⟨by kernel_rfl, by decide, ?_⟩
  intro H enc w spare held fuel cs x h hl
  have ht : Try.prog.underlying 25 = some (.struct (Try.prog.fieldsOf 25)) := by kernel_rfl
  have hlen := struct_len ht h
  rw [show Try.prog.cellsOf 25 = 2 by kernel_rfl] at hlen
  obtain ⟨a0, e0, k0⟩ := field_of ht h hl 0 22 0 1 (by kernel_rfl) (openC_slice (sz := 1) (enc := eText) Try.underlying22 (by kernel_rfl) (fun _ => rfl) (openC_text Try.underlying9 (by kernel_rfl)))
  obtain ⟨a1, e1, k1⟩ := field_of ht h hl 1 23 1 1 (by kernel_rfl) (openC_slice (sz := 2) (enc := WriteD.c) Try.underlying23 (by kernel_rfl) (fun _ => rfl) openC_Write)
  have hall : CsRep (FW w) w ((eSl 1 eText) a0 ++ ((eSl 2 WriteD.c) a1 ++ [])) (cs.drop 0) := (cs_field e0 (cs_field e1 (cs_end hlen)))
  rw [List.drop_zero] at hall
  exact ⟨hlen, ⟨a0, a1⟩, hall, ⟨k0, k1⟩⟩

structure StoreD where
  Data : DiskD
  Journal : DiskD
def StoreD.c (x : StoreD) : List C := DiskD.c x.Data ++ DiskD.c x.Journal
def StoreD.ok (x : StoreD) : Prop := DiskD.ok x.Data ∧ DiskD.ok x.Journal
theorem openC_Store : OpensC Try.prog 27 4 StoreD.c StoreD.ok := by
  refine ⟨by kernel_rfl, by decide, ?_⟩
  intro H enc w spare held fuel cs x h hl
  have ht : Try.prog.underlying 27 = some (.struct (Try.prog.fieldsOf 27)) := by kernel_rfl
  have hlen := struct_len ht h
  rw [show Try.prog.cellsOf 27 = 4 by kernel_rfl] at hlen
  obtain ⟨a0, e0, k0⟩ := field_of ht h hl 0 25 0 2 (by kernel_rfl) openC_Disk
  obtain ⟨a1, e1, k1⟩ := field_of ht h hl 1 25 2 2 (by kernel_rfl) openC_Disk
  have hall : CsRep (FW w) w (DiskD.c a0 ++ (DiskD.c a1 ++ [])) (cs.drop 0) := (cs_field e0 (cs_field e1 (cs_end hlen)))
  rw [List.drop_zero] at hall
  exact ⟨hlen, ⟨a0, a1⟩, hall, ⟨k0, k1⟩⟩

def toW (x : WriteD) : DiskP.Wr := (x.No, tx x.Text)
def toO (x : OpD) : Opr := (x.Kind, x.No, tx x.Text)
def toD (x : DiskD) : Dk := (x.Pages.map tx, x.Waiting.map toW)
def toS (x : StoreD) : Str := (toD x.Data, toD x.Journal)
theorem pgs_map (l : List (List UInt8)) : (l.map tx).map encS = l.map eText := by rw [List.map_map]; rfl
theorem wrs_map (l : List WriteD) : (l.map toW).map encW = l.map WriteD.c := by rw [List.map_map]; rfl
theorem ops_map (l : List OpD) : (l.map toO).map encO = l.map OpD.c := by rw [List.map_map]; rfl
theorem store_v (x : StoreD) : PV.agg (x.c.map D.c) = stV (toS x) := by
  show PV.agg [.c (.sl 1 (x.Data.Pages.map eText)), .c (.sl 2 (x.Data.Waiting.map WriteD.c)), .c (.sl 1 (x.Journal.Pages.map eText)), .c (.sl 2 (x.Journal.Waiting.map WriteD.c))] = _
  rw [← pgs_map, ← wrs_map, ← pgs_map, ← wrs_map]; rfl
theorem writes_v (l : List WriteD) : slV 2 WriteD.c l = .d (.c (wrsC (l.map toW))) := by unfold slV wrsC; rw [wrs_map]
theorem ops_v (l : List OpD) : slV 3 OpD.c l = .d (.c (opsC (l.map toO))) := by unfold slV opsC; rw [ops_map]
abbrev hWr (l : List WriteD) : Prop := okSl (Try.prog.bytesOf 56) WriteD.ok l
abbrev hOp (l : List OpD) : Prop := okSl (Try.prog.bytesOf 67) OpD.ok l
theorem hWr_of {l : List WriteD} (h : hWr l) : (l.map toW).length ≤ 140737488355328 ∧ ∀ w ∈ l.map toW, okInt w.1 := by
  obtain ⟨h1, h2⟩ := h
  rw [show Try.prog.bytesOf 56 = 24 by kernel_rfl] at h1
  refine ⟨by rw [List.length_map]; omega, fun w hw => ?_⟩
  obtain ⟨x, hx, rfl⟩ := List.mem_map.1 hw
  exact (h2 x hx).1
theorem hOp_of {l : List OpD} (h : hOp l) : (l.map toO).length ≤ 140737488355328 := by
  obtain ⟨h1, h2⟩ := h
  rw [show Try.prog.bytesOf 67 = 32 by kernel_rfl] at h1
  rw [List.length_map]; omega
theorem hStore_of {x : StoreD} (h : x.ok) : (toS x).1.2.length ≤ 140737488355328 ∧ (toS x).2.2.length ≤ 140737488355328 := ⟨(hWr_of h.1.2).1, (hWr_of h.2.2).1⟩
theorem law_StepsTells (x : StoreD) (hx : x.ok) (y : List WriteD) (hy : hWr y) : Pure Try.prog 3 [.agg (x.c.map D.c), slV 2 WriteD.c y] (pBool true) := by
  obtain ⟨h1, h2⟩ := hStore_of hx
  obtain ⟨h3, h4⟩ := hWr_of hy
  rw [store_v, writes_v]
  generalize toS x = s at *
  generalize y.map toW = l at *
  have p1 := p_steps s l h1 h2 h3 h4
  have p2 := p_stepsof s l h1 h2 h3 h4
  have p3 := p_scheck s
  have p4 := p_scheckref s
  have hlen : (stepsR s l).length ≤ 140737488355328 := by
    unfold stepsR
    split
    · rename_i h
      obtain ⟨_, _, _, _, g, _⟩ := stepsE_ok h
      unfold stepsO dEnts jHot endO
      simp only [List.length_append, jEnts_len, List.length_map, List.length_cons, List.length_nil]
      omega
    · simp
  have p5 := p_sameops (stepsR s l) (stepsR s l) hlen
  rw [listEqB_refl fun x => (opEqB_iff x x).2 rfl] at p5
  refine pure_of Try.func3 (by rfl) rfl (by kernel_rfl) (by rfl) ?_
  (((conv => whnf); repeat ((with_reducible first | refine BCase.tt ?_ | refine BCase.ff ?_); (conv => whnf))); repeat' ((first | with_reducible refine Wr.u8 ?_ | ((with_reducible first | refine Wr.ci ?wxs ?_ | refine Wr.c3 ?wxs ?_ | refine Wr.c6 ?wxs ?_ | refine BCase.dt ?wxs ?_); case wxs => (first | omega | (simp only [lens, true_and, and_true]; (try omega); done))) | ((with_reducible refine BCase.df ?wxs ?_); case wxs => (first | omega | (simp only [lens, true_and, and_true]; (try omega); done))) | ((with_reducible refine Need.mk ?wxs ?_); case wxs => first | (first | omega | (simp only [lens, true_and, and_true]; (try omega); done)) | decide | kernel_rfl) | refine BCase.t (by decide) ?_ | refine BCase.f (by decide) ?_ | refine CallP.pure _ rfl _ (p1) ?_ | refine CallP.pure _ rfl _ (p2) ?_ | refine CallP.pure _ rfl _ (p_jbegun) ?_ | refine CallP.pure _ rfl _ (p3) ?_ | refine CallP.pure _ rfl _ (p4) ?_ | refine CallP.pure _ rfl _ (p5) ?_ | with_reducible (first | refine EmpOr.app ?_ | refine BCase.not ?_ | refine BCase.and ?_ | refine BCase.or ?_ | refine BCase.d (fun _ => ?_) (fun _ => ?_))) <;> ((conv => whnf); repeat ((with_reducible first | refine BCase.tt ?_ | refine BCase.ff ?_); (conv => whnf)))))
  all_goals exact Ret.bool (by first | rfl | simp)
theorem law_PlayTells (x : StoreD) (hx : x.ok) (y : List OpD) (hy : hOp y) : Pure Try.prog 4 [.agg (x.c.map D.c), slV 3 OpD.c y] (pBool true) := by
  have h3 := hOp_of hy
  rw [store_v, ops_v]
  generalize toS x = s at *
  generalize y.map toO = l at *
  have p1 := p_play s l h3
  have p2 := p_playof s l h3
  have p3 := p_samestore (playR s l).1 (playR s l).1
  rw [sameD_self, sameD_self] at p3
  refine pure_of Try.func4 (by rfl) rfl (by kernel_rfl) (by rfl) ?_
  (((conv => whnf); repeat ((with_reducible first | refine BCase.tt ?_ | refine BCase.ff ?_); (conv => whnf))); repeat' ((first | with_reducible refine Wr.u8 ?_ | ((with_reducible first | refine Wr.ci ?wxs ?_ | refine Wr.c3 ?wxs ?_ | refine Wr.c6 ?wxs ?_ | refine BCase.dt ?wxs ?_); case wxs => (first | omega | (simp only [lens, true_and, and_true]; (try omega); done))) | ((with_reducible refine BCase.df ?wxs ?_); case wxs => (first | omega | (simp only [lens, true_and, and_true]; (try omega); done))) | ((with_reducible refine Need.mk ?wxs ?_); case wxs => first | (first | omega | (simp only [lens, true_and, and_true]; (try omega); done)) | decide | kernel_rfl) | refine BCase.t (by decide) ?_ | refine BCase.f (by decide) ?_ | refine CallP.pure _ rfl _ (p1) ?_ | refine CallP.pure _ rfl _ (p2) ?_ | refine CallP.pure _ rfl _ (p_jbegun) ?_ | refine CallP.pure _ rfl _ (p3) ?_ | with_reducible (first | refine EmpOr.app ?_ | refine BCase.not ?_ | refine BCase.and ?_ | refine BCase.or ?_ | refine BCase.d (fun _ => ?_) (fun _ => ?_))) <;> ((conv => whnf); repeat ((with_reducible first | refine BCase.tt ?_ | refine BCase.ff ?_); (conv => whnf)))))
  all_goals exact Ret.bool (by first | rfl | simp)
theorem law_UndoTells (x : StoreD) (hx : x.ok) : Pure Try.prog 6 [.agg (x.c.map D.c)] (pBool true) := by
  obtain ⟨h1, h2⟩ := hStore_of hx
  rw [store_v]
  generalize toS x = s at *
  have p1 := p_undo s h1 h2
  have p2 := p_recover s h1 h2
  have p3 := p_undoof s
  have hlen := undoR_len s
  have p4 := p_playof s (undoR s).1 (by omega)
  have p5 := p_sameops (undoR s).1 (undoR s).1 (by omega)
  rw [listEqB_refl fun x => (opEqB_iff x x).2 rfl] at p5
  refine pure_of Try.func6 (by rfl) rfl (by kernel_rfl) (by rfl) ?_
  by_cases h : (undoR s).2 = 0
  · have hr : recoverR s = playR s (undoR s).1 := if_neg (not_not_intro h)
    rw [hr] at p2
    rw [h] at p1 p3
    have p6 := p_samestore (playR s (undoR s).1).1 (playR s (undoR s).1).1
    rw [sameD_self, sameD_self] at p6
    (((conv => whnf); repeat ((with_reducible first | refine BCase.tt ?_ | refine BCase.ff ?_); (conv => whnf))); repeat' ((first | with_reducible refine Wr.u8 ?_ | ((with_reducible first | refine Wr.ci ?wxs ?_ | refine Wr.c3 ?wxs ?_ | refine Wr.c6 ?wxs ?_ | refine BCase.dt ?wxs ?_); case wxs => (first | omega | (simp only [lens, true_and, and_true]; (try omega); done))) | ((with_reducible refine BCase.df ?wxs ?_); case wxs => (first | omega | (simp only [lens, true_and, and_true]; (try omega); done))) | ((with_reducible refine Need.mk ?wxs ?_); case wxs => first | (first | omega | (simp only [lens, true_and, and_true]; (try omega); done)) | decide | kernel_rfl) | refine BCase.t (by decide) ?_ | refine BCase.f (by decide) ?_ | refine CallP.pure _ rfl _ (p1) ?_ | refine CallP.pure _ rfl _ (p2) ?_ | refine CallP.pure _ rfl _ (p3) ?_ | refine CallP.pure _ rfl _ (p4) ?_ | refine CallP.pure _ rfl _ (p5) ?_ | refine CallP.pure _ rfl _ (p_jbegun) ?_ | refine CallP.pure _ rfl _ (p6) ?_ | with_reducible (first | refine EmpOr.app ?_ | refine BCase.not ?_ | refine BCase.and ?_ | refine BCase.or ?_ | refine BCase.d (fun _ => ?_) (fun _ => ?_))) <;> ((conv => whnf); repeat ((with_reducible first | refine BCase.tt ?_ | refine BCase.ff ?_); (conv => whnf)))))
    all_goals exact Ret.bool (by first | rfl | simp)
  · have hr : recoverR s = (zeroS, (undoR s).2) := if_pos h
    rw [hr] at p2
    have p6 := p_samestore zeroS zeroS
    rw [sameD_self] at p6
    have p6 := p6.le (args' := [stV zeroS, .agg [.c (.v (.slice none 0 0)), .c (.v (.slice none 0 0)), .c (.v (.slice none 0 0)), .c (.v (.slice none 0 0))]]) ⟨⟨.inl rfl, .inl rfl, .inl rfl, .inl rfl, rfl⟩, ⟨.inr ⟨⟨1, rfl⟩, .inl rfl⟩, .inr ⟨⟨2, rfl⟩, .inl rfl⟩, .inr ⟨⟨1, rfl⟩, .inl rfl⟩, .inr ⟨⟨2, rfl⟩, .inl rfl⟩, rfl⟩, rfl⟩
    (((conv => whnf); repeat ((with_reducible first | refine BCase.tt ?_ | refine BCase.ff ?_); (conv => whnf))); repeat' ((first | with_reducible refine Wr.u8 ?_ | ((with_reducible first | refine Wr.ci ?wxs ?_ | refine Wr.c3 ?wxs ?_ | refine Wr.c6 ?wxs ?_ | refine BCase.dt ?wxs ?_); case wxs => (first | omega | (simp only [lens, true_and, and_true]; (try omega); done))) | ((with_reducible refine BCase.df ?wxs ?_); case wxs => (first | omega | (simp only [lens, true_and, and_true]; (try omega); done))) | ((with_reducible refine Need.mk ?wxs ?_); case wxs => first | (first | omega | (simp only [lens, true_and, and_true]; (try omega); done)) | decide | kernel_rfl) | refine BCase.t (by decide) ?_ | refine BCase.f (by decide) ?_ | refine CallP.pure _ rfl _ (p1) ?_ | refine CallP.pure _ rfl _ (p2) ?_ | refine CallP.pure _ rfl _ (p3) ?_ | refine CallP.pure _ rfl _ (p5) ?_ | refine CallP.pure _ rfl _ (p_jbegun) ?_ | refine CallP.pure _ rfl _ (p6) ?_ | with_reducible (first | refine EmpOr.app ?_ | refine BCase.not ?_ | refine BCase.and ?_ | refine BCase.or ?_ | refine BCase.d (fun _ => ?_) (fun _ => ?_))) <;> ((conv => whnf); repeat ((with_reducible first | refine BCase.tt ?_ | refine BCase.ff ?_); (conv => whnf)))))
    all_goals exact Ret.bool (by first | rfl | simp)
end Go.Proofs.Ytohlkegmmbdlaaa.Pm
end

section
namespace Go.Proofs.Ytohlkegmmbdlaaa.Pm
open Go.RowKit K DiskP
set_option linter.unusedVariables false
set_option linter.unusedSimpArgs false
set_option maxRecDepth 100000

theorem p_dcrash' (x : Dk) (m : Int) (hm : 0 ≤ m ∧ m ≤ 18446744073709551615) : Pure Try.prog 27 [dkV x, pInt .u64 m] (.tup [dkV (crashP x.1 x.2 m, []), pInt .i64 (check x.1 x.2)]) := by
  have := p_dcrash x m hm.1 hm.2
  rwa [settleP_crash x.1 x.2 (bitAt m) m (fun i _ => rfl)] at this
theorem playR_zero {s : Str} {ops : List Opr} (h : (playR s ops).2 ≠ 0) : (playR s ops).1 = zeroS := by
  unfold playR at h ⊢
  by_cases c : playE s ops = 0
  · rw [if_neg (not_not_intro c)] at h ⊢; exact playG_bad h
  · rw [if_pos c]
theorem zero_same : Pure Try.prog 19 [stV zeroS, .agg [.c (.v (.slice none 0 0)), .c (.v (.slice none 0 0)), .c (.v (.slice none 0 0)), .c (.v (.slice none 0 0))]] (pBool true) := by
  have p6 := p_samestore zeroS zeroS
  rw [sameD_self] at p6
  exact p6.le ⟨⟨.inl rfl, .inl rfl, .inl rfl, .inl rfl, rfl⟩, ⟨.inr ⟨⟨1, rfl⟩, .inl rfl⟩, .inr ⟨⟨2, rfl⟩, .inl rfl⟩, .inr ⟨⟨1, rfl⟩, .inl rfl⟩, .inr ⟨⟨2, rfl⟩, .inl rfl⟩, rfl⟩, rfl⟩
theorem take_rows (l : List Opr) (k : Nat) : ((l.map encO).drop (0 : Int).toNat).take ((k : Int).toNat - (0 : Int).toNat) = (l.take k).map encO := by
  rw [show (0 : Int).toNat = 0 from rfl, List.drop_zero, Nat.sub_zero, Int.toNat_natCast, List.map_take]
theorem drop_rows (l : List Opr) (k : Nat) : ((l.map encO).drop (k : Int).toNat).take (((l.map encO).length : Int).toNat - (k : Int).toNat) = (l.drop k).map encO := by
  rw [Int.toNat_natCast, Int.toNat_natCast, List.map_drop]
  exact List.take_of_length_le (by rw [List.length_drop]; exact Nat.le_refl _)
theorem same_self (s : Str) : Pure Try.prog 19 [stV s, stV s] (pBool true) := by
  have := p_samestore s s
  rwa [sameD_self, sameD_self] at this
theorem law_PlayParts (x : StoreD) (hx : x.ok) (y : List OpD) (hy : hOp y) (k : Int) (hk : -9223372036854775808 ≤ k ∧ k ≤ 9223372036854775807) : Pure Try.prog 5 [.agg (x.c.map D.c), slV 3 OpD.c y, pInt .i64 k] (pBool true) := by
  have h3 := hOp_of hy
  rw [store_v, ops_v]
  generalize toS x = s at *
  generalize y.map toO = l at *
  have p1 := p_play s l h3
  have lm : (l.map encO).length = l.length := List.length_map ..
  refine pure_of Try.func5 (by rfl) rfl (by kernel_rfl) (by rfl) ?_
  by_cases h : (playR s l).2 = 0
  · by_cases hr : 0 ≤ k ∧ k ≤ l.length
    · obtain ⟨n, rfl⟩ : ∃ n : Nat, k = n := ⟨k.toNat, by omega⟩
      obtain ⟨q1, q2⟩ := playR_parts h n
      have p2 := (p_play s (l.take n) (by rw [List.length_take]; omega)).to (args' := [stV s, .d (.c (.sl 3 (((l.map encO).drop (0 : Int).toNat).take ((n : Int).toNat - (0 : Int).toNat))))]) (by rw [take_rows]) rfl
      have p3 := (p_play (playR s (l.take n)).1 (l.drop n) (by rw [List.length_drop]; omega)).to (args' := [stV (playR s (l.take n)).1, .d (.c (.sl 3 (((l.map encO).drop (n : Int).toNat).take (((l.map encO).length : Int).toNat - (n : Int).toNat))))]) (by rw [drop_rows]) rfl
      rw [q1] at p2
      rw [q2] at p3
      have p4 := same_self (playR s l).1
      rw [h] at p1 p3
      (((conv => whnf); repeat ((with_reducible first | refine BCase.tt ?_ | refine BCase.ff ?_); (conv => whnf))); repeat' ((first | with_reducible refine Wr.u8 ?_ | ((with_reducible first | refine Wr.ci ?wxs ?_ | refine Wr.c3 ?wxs ?_ | refine Wr.c6 ?wxs ?_ | refine BCase.dt ?wxs ?_); case wxs => (first | omega | (simp only [lens, true_and, and_true]; (try omega); done))) | ((with_reducible refine BCase.df ?wxs ?_); case wxs => (first | omega | (simp only [lens, true_and, and_true]; (try omega); done))) | ((with_reducible refine Need.mk ?wxs ?_); case wxs => first | (first | omega | (simp only [lens, true_and, and_true]; (try omega); done)) | decide | kernel_rfl) | refine BCase.t (by decide) ?_ | refine BCase.f (by decide) ?_ | refine CallP.pure _ rfl _ (p1) ?_ | refine CallP.pure _ rfl _ (p_jbegun) ?_ | refine CallP.pure _ rfl _ (p2) ?_ | refine CallP.pure _ rfl _ (p3) ?_ | refine CallP.pure _ rfl _ (p4) ?_ | with_reducible (first | refine EmpOr.app ?_ | refine BCase.not ?_ | refine BCase.and ?_ | refine BCase.or ?_ | refine BCase.d (fun _ => ?_) (fun _ => ?_))) <;> ((conv => whnf); repeat ((with_reducible first | refine BCase.tt ?_ | refine BCase.ff ?_); (conv => whnf)))))
      all_goals exact Ret.bool (by first | rfl | simp)
    · rw [h] at p1
      by_cases hk0 : k < 0
      · (((conv => whnf); repeat ((with_reducible first | refine BCase.tt ?_ | refine BCase.ff ?_); (conv => whnf))); repeat' ((first | with_reducible refine Wr.u8 ?_ | ((with_reducible first | refine Wr.ci ?wxs ?_ | refine Wr.c3 ?wxs ?_ | refine Wr.c6 ?wxs ?_ | refine BCase.dt ?wxs ?_); case wxs => (first | omega | (simp only [lens, true_and, and_true]; (try omega); done))) | ((with_reducible refine BCase.df ?wxs ?_); case wxs => (first | omega | (simp only [lens, true_and, and_true]; (try omega); done))) | ((with_reducible refine Need.mk ?wxs ?_); case wxs => first | (first | omega | (simp only [lens, true_and, and_true]; (try omega); done)) | decide | kernel_rfl) | refine BCase.t (by decide) ?_ | refine BCase.f (by decide) ?_ | refine CallP.pure _ rfl _ (p1) ?_ | refine CallP.pure _ rfl _ (p_jbegun) ?_ | with_reducible (first | refine EmpOr.app ?_ | refine BCase.not ?_ | refine BCase.and ?_ | refine BCase.or ?_ | refine BCase.d (fun _ => ?_) (fun _ => ?_))) <;> ((conv => whnf); repeat ((with_reducible first | refine BCase.tt ?_ | refine BCase.ff ?_); (conv => whnf)))))
        all_goals exact Ret.bool (by first | rfl | simp)
      · (((conv => whnf); repeat ((with_reducible first | refine BCase.tt ?_ | refine BCase.ff ?_); (conv => whnf))); repeat' ((first | with_reducible refine Wr.u8 ?_ | ((with_reducible first | refine Wr.ci ?wxs ?_ | refine Wr.c3 ?wxs ?_ | refine Wr.c6 ?wxs ?_ | refine BCase.dt ?wxs ?_); case wxs => (first | omega | (simp only [lens, true_and, and_true]; (try omega); done))) | ((with_reducible refine BCase.df ?wxs ?_); case wxs => (first | omega | (simp only [lens, true_and, and_true]; (try omega); done))) | ((with_reducible refine Need.mk ?wxs ?_); case wxs => first | (first | omega | (simp only [lens, true_and, and_true]; (try omega); done)) | decide | kernel_rfl) | refine BCase.t (by decide) ?_ | refine BCase.f (by decide) ?_ | refine CallP.pure _ rfl _ (p1) ?_ | refine CallP.pure _ rfl _ (p_jbegun) ?_ | with_reducible (first | refine EmpOr.app ?_ | refine BCase.not ?_ | refine BCase.and ?_ | refine BCase.or ?_ | refine BCase.d (fun _ => ?_) (fun _ => ?_))) <;> ((conv => whnf); repeat ((with_reducible first | refine BCase.tt ?_ | refine BCase.ff ?_); (conv => whnf)))))
        all_goals exact Ret.bool (by first | rfl | simp)
  · rw [playR_zero h] at p1
    (((conv => whnf); repeat ((with_reducible first | refine BCase.tt ?_ | refine BCase.ff ?_); (conv => whnf))); repeat' ((first | with_reducible refine Wr.u8 ?_ | ((with_reducible first | refine Wr.ci ?wxs ?_ | refine Wr.c3 ?wxs ?_ | refine Wr.c6 ?wxs ?_ | refine BCase.dt ?wxs ?_); case wxs => (first | omega | (simp only [lens, true_and, and_true]; (try omega); done))) | ((with_reducible refine BCase.df ?wxs ?_); case wxs => (first | omega | (simp only [lens, true_and, and_true]; (try omega); done))) | ((with_reducible refine Need.mk ?wxs ?_); case wxs => first | (first | omega | (simp only [lens, true_and, and_true]; (try omega); done)) | decide | kernel_rfl) | refine BCase.t (by decide) ?_ | refine BCase.f (by decide) ?_ | refine CallP.pure _ rfl _ (p1) ?_ | refine CallP.pure _ rfl _ (p_jbegun) ?_ | refine CallP.pure _ rfl _ (zero_same) ?_ | with_reducible (first | refine EmpOr.app ?_ | refine BCase.not ?_ | refine BCase.and ?_ | refine BCase.or ?_ | refine BCase.d (fun _ => ?_) (fun _ => ?_))) <;> ((conv => whnf); repeat ((with_reducible first | refine BCase.tt ?_ | refine BCase.ff ?_); (conv => whnf)))))
    all_goals exact Ret.bool (by first | rfl | simp)
theorem settled_new {p j : List ByteArray} {l : List DiskP.Wr} (h : StepsOk p j l) : settled p l all1 = crashP p l all1 := (if_pos h.clAll).symm
theorem stepsR_len {s : Str} {l : List DiskP.Wr} (h : stepsE s l = 0) : stepsR s l = stepsO s.1.1 l ∧ (stepsR s l).length = 2 * l.length + 6 ∧ (stepsR s l).length ≤ 100 := by
  obtain ⟨_, _, _, _, g, _⟩ := stepsE_ok h
  have e : stepsR s l = stepsO s.1.1 l := if_pos h
  have hl : (stepsO s.1.1 l).length = 2 * l.length + 6 := by
    unfold stepsO dEnts jHot endO
    simp only [List.length_append, jEnts_len, List.length_map, List.length_cons, List.length_nil]; omega
  rw [e]
  exact ⟨rfl, hl, by omega⟩
theorem law_CommitDone (x : StoreD) (hx : x.ok) (y : List WriteD) (hy : hWr y) : Pure Try.prog 7 [.agg (x.c.map D.c), slV 2 WriteD.c y] (pBool true) := by
  obtain ⟨h1, h2⟩ := hStore_of hx
  obtain ⟨h3, h4⟩ := hWr_of hy
  rw [store_v, writes_v]
  generalize toS x = s at *
  generalize y.map toW = l at *
  have p1 := p_steps s l h1 h2 h3 h4
  refine pure_of Try.func7 (by rfl) rfl (by kernel_rfl) (by rfl) ?_
  by_cases h : stepsE s l = 0
  · obtain ⟨ok, es⟩ := stepsOk h
    obtain ⟨q1, q2, q3⟩ := stepsR_len h
    have hk : (stepsO s.1.1 l).length ≤ (stepsO s.1.1 l).length := Nat.le_refl _
    obtain ⟨t, t1, t2⟩ := steps_part ok _ hk
    rw [List.take_length, ← es, ← q1] at t1
    have hcalm := ((t2 0 0).2 rfl).2
    have p2 := p_play s (stepsR s l) (by omega)
    rw [playR_ok (stepsE_ok h).1 q3, t1] at p2
    have p3 := p_plainend t
    rw [hcalm.plain] at p3
    have p4 := p_settled s.1.1 l all1 (by decide) (by decide)
    rw [settled_new ok] at p4
    have p5 := p_sametexts t.1.1 (crashP s.1.1 l all1)
    rw [decide_eq_true (show t.1.1 = crashP s.1.1 l all1 by rw [hcalm.d])] at p5
    rw [h] at p1
    (((conv => whnf); repeat ((with_reducible first | refine BCase.tt ?_ | refine BCase.ff ?_); (conv => whnf))); repeat' ((first | with_reducible refine Wr.u8 ?_ | ((with_reducible first | refine Wr.ci ?wxs ?_ | refine Wr.c3 ?wxs ?_ | refine Wr.c6 ?wxs ?_ | refine BCase.dt ?wxs ?_); case wxs => (first | omega | (simp only [lens, true_and, and_true]; (try omega); done))) | ((with_reducible refine BCase.df ?wxs ?_); case wxs => (first | omega | (simp only [lens, true_and, and_true]; (try omega); done))) | ((with_reducible refine Need.mk ?wxs ?_); case wxs => first | (first | omega | (simp only [lens, true_and, and_true]; (try omega); done)) | decide | kernel_rfl) | refine BCase.t (by decide) ?_ | refine BCase.f (by decide) ?_ | refine CallP.pure _ rfl _ (p1) ?_ | refine CallP.pure _ rfl _ (p_jbegun) ?_ | refine CallP.pure _ rfl _ (p2) ?_ | refine CallP.pure _ rfl _ (p3) ?_ | refine CallP.pure _ rfl _ (p4) ?_ | refine CallP.pure _ rfl _ (p5) ?_ | with_reducible (first | refine EmpOr.app ?_ | refine BCase.not ?_ | refine BCase.and ?_ | refine BCase.or ?_ | refine BCase.d (fun _ => ?_) (fun _ => ?_))) <;> ((conv => whnf); repeat ((with_reducible first | refine BCase.tt ?_ | refine BCase.ff ?_); (conv => whnf)))))
    all_goals exact Ret.bool (by first | rfl | simp)
  · have e : stepsR s l = [] := if_neg h
    rw [e] at p1
    (((conv => whnf); repeat ((with_reducible first | refine BCase.tt ?_ | refine BCase.ff ?_); (conv => whnf))); repeat' ((first | with_reducible refine Wr.u8 ?_ | ((with_reducible first | refine Wr.ci ?wxs ?_ | refine Wr.c3 ?wxs ?_ | refine Wr.c6 ?wxs ?_ | refine BCase.dt ?wxs ?_); case wxs => (first | omega | (simp only [lens, true_and, and_true]; (try omega); done))) | ((with_reducible refine BCase.df ?wxs ?_); case wxs => (first | omega | (simp only [lens, true_and, and_true]; (try omega); done))) | ((with_reducible refine Need.mk ?wxs ?_); case wxs => first | (first | omega | (simp only [lens, true_and, and_true]; (try omega); done)) | decide | kernel_rfl) | refine BCase.t (by decide) ?_ | refine BCase.f (by decide) ?_ | refine CallP.pure _ rfl _ (p1) ?_ | refine CallP.pure _ rfl _ (p_jbegun) ?_ | with_reducible (first | refine EmpOr.app ?_ | refine BCase.not ?_ | refine BCase.and ?_ | refine BCase.or ?_ | refine BCase.d (fun _ => ?_) (fun _ => ?_))) <;> ((conv => whnf); repeat ((with_reducible first | refine BCase.tt ?_ | refine BCase.ff ?_); (conv => whnf)))))
    all_goals exact Ret.bool (by first | rfl | simp)
theorem law_CommitStill (x : StoreD) (hx : x.ok) (y : List WriteD) (hy : hWr y) : Pure Try.prog 8 [.agg (x.c.map D.c), slV 2 WriteD.c y] (pBool true) := by
  obtain ⟨h1, h2⟩ := hStore_of hx
  obtain ⟨h3, h4⟩ := hWr_of hy
  rw [store_v, writes_v]
  generalize toS x = s at *
  generalize y.map toW = l at *
  have p1 := p_recover s h1 h2
  refine pure_of Try.func8 (by rfl) rfl (by kernel_rfl) (by rfl) ?_
  by_cases h : (recoverR s).2 = 0
  · obtain ⟨R, hc⟩ := recover_calm h
    rw [h] at p1
    generalize (recoverR s).1 = t at *
    obtain ⟨g1, g2, _, _⟩ := quiet (e := []) (.inl hc)
    have p2 := p_recover t g1 g2
    rw [hc.recover] at p2
    have p3 := p_plainend t
    rw [hc.plain] at p3
    have p4 := p_steps t l g1 g2 h3 h4
    have p5 := p_stepscheck t l g1 g2 h3 h4
    have p6 := same_self t
    (((conv => whnf); repeat ((with_reducible first | refine BCase.tt ?_ | refine BCase.ff ?_); (conv => whnf))); repeat' ((first | with_reducible refine Wr.u8 ?_ | ((with_reducible first | refine Wr.ci ?wxs ?_ | refine Wr.c3 ?wxs ?_ | refine Wr.c6 ?wxs ?_ | refine BCase.dt ?wxs ?_); case wxs => (first | omega | (simp only [lens, true_and, and_true]; (try omega); done))) | ((with_reducible refine BCase.df ?wxs ?_); case wxs => (first | omega | (simp only [lens, true_and, and_true]; (try omega); done))) | ((with_reducible refine Need.mk ?wxs ?_); case wxs => first | (first | omega | (simp only [lens, true_and, and_true]; (try omega); done)) | decide | kernel_rfl) | refine BCase.t (by decide) ?_ | refine BCase.f (by decide) ?_ | refine CallP.pure _ rfl _ (p1) ?_ | refine CallP.pure _ rfl _ (p_jbegun) ?_ | refine CallP.pure _ rfl _ (p2) ?_ | refine CallP.pure _ rfl _ (p3) ?_ | refine CallP.pure _ rfl _ (p4) ?_ | refine CallP.pure _ rfl _ (p5) ?_ | refine CallP.pure _ rfl _ (p6) ?_ | with_reducible (first | refine EmpOr.app ?_ | refine BCase.not ?_ | refine BCase.and ?_ | refine BCase.or ?_ | refine BCase.d (fun _ => ?_) (fun _ => ?_))) <;> ((conv => whnf); repeat ((with_reducible first | refine BCase.tt ?_ | refine BCase.ff ?_); (conv => whnf)))))
    all_goals exact Ret.bool (by first | rfl | simp)
  · have e : (recoverR s).1 = zeroS := by
      unfold recoverR at h ⊢
      by_cases c : (undoR s).2 = 0
      · rw [if_neg (not_not_intro c)] at h ⊢; exact playR_zero h
      · rw [if_pos c]
    rw [e] at p1
    (((conv => whnf); repeat ((with_reducible first | refine BCase.tt ?_ | refine BCase.ff ?_); (conv => whnf))); repeat' ((first | with_reducible refine Wr.u8 ?_ | ((with_reducible first | refine Wr.ci ?wxs ?_ | refine Wr.c3 ?wxs ?_ | refine Wr.c6 ?wxs ?_ | refine BCase.dt ?wxs ?_); case wxs => (first | omega | (simp only [lens, true_and, and_true]; (try omega); done))) | ((with_reducible refine BCase.df ?wxs ?_); case wxs => (first | omega | (simp only [lens, true_and, and_true]; (try omega); done))) | ((with_reducible refine Need.mk ?wxs ?_); case wxs => first | (first | omega | (simp only [lens, true_and, and_true]; (try omega); done)) | decide | kernel_rfl) | refine BCase.t (by decide) ?_ | refine BCase.f (by decide) ?_ | refine CallP.pure _ rfl _ (p1) ?_ | refine CallP.pure _ rfl _ (p_jbegun) ?_ | refine CallP.pure _ rfl _ (zero_same) ?_ | with_reducible (first | refine EmpOr.app ?_ | refine BCase.not ?_ | refine BCase.and ?_ | refine BCase.or ?_ | refine BCase.d (fun _ => ?_) (fun _ => ?_))) <;> ((conv => whnf); repeat ((with_reducible first | refine BCase.tt ?_ | refine BCase.ff ?_); (conv => whnf)))))
    all_goals exact Ret.bool (by first | rfl | simp)
end Go.Proofs.Ytohlkegmmbdlaaa.Pm
end
