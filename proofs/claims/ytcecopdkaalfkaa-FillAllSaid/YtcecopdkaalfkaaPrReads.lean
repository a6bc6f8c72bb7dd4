/- record.Reads, record.Read -/
import Derived.Test.YtcecopdkaalfkaaPrRow
namespace Go.Proofs.Ytcecopdkaalfkaa.Pm
open Go.RowKit K NumP NumW NumRd NumZ NumL
set_option linter.unusedVariables false
set_option linter.unusedSimpArgs false
set_option maxRecDepth 100000

abbrev readF : PV := .d (.clo 59 [] [.ptr FK 0])
theorem fin_fail {vs : List ValueD} {at_ : Nat} {z : List ValueD × Nat × Int} (h : (fin vs at_ z).2.2 ≠ 0) : (fin vs at_ z).1 = [] ∧ (fin vs at_ z).2.1 = 0 := by
  unfold fin at *
  split
  · exact ⟨rfl, rfl⟩
  · rename_i g; rw [if_neg g] at h; exact absurd rfl h
theorem rowR_fail {l : List UInt8} (h : (rowR l).2.2 ≠ 0) : (rowR l).1 = [] ∧ (rowR l).2.1 = 0 := by
  unfold rowR at *
  split
  · exact ⟨rfl, rfl⟩
  · rename_i g1
    rw [if_neg g1] at h
    split
    · exact ⟨rfl, rfl⟩
    · rename_i g2
      rw [if_neg g2] at h
      exact fin_fail h
theorem s_reads (l : List UInt8) (hl : okLong l) {vs : List ValueD} {k : Nat} (hv : rowR l = (vs, k, 0)) : CallS Try.prog 58 [pStr (tx l), readF] [] [(FK, oBox (.c (.v (.slice none 0 0))))] (.tup [pInt .i64 (k : Int), pInt .i64 0]) [(FK, oBox (.c (.sl 3 (vs.map ValueD.c))))] := by
  refine callS_defer (caps := [.tmp 4, .tmp 5]) (pre := [_]) (t1 := 5) (t2 := 2) Try.func58 (by rfl) rfl rfl rfl rfl rfl rfl rfl rfl (by rfl) Try.func63 (by rfl) rfl rfl (by kernel_rfl) (by exact ⟨rfl, rfl⟩) (by rfl) ?hrec (by rfl) [FK] rfl ?_
  case hrec => exact recovers_two rfl rfl rfl rfl rfl rfl rfl
  (((conv => whnf); repeat ((first | with_reducible refine BCase.tt ?_ | with_reducible refine BCase.ff ?_); (conv => whnf))); repeat' (first | ((first | with_reducible refine Wr.u8 ?_ | ((first | with_reducible refine Wr.ci ?s ?_ | with_reducible refine Wr.c3 ?s ?_ | with_reducible refine Wr.c6 ?s ?_ | with_reducible refine BCase.dt ?s ?_); case s => (first | omega | (simp only [lens, true_and, and_true]; (try omega); done))) | (with_reducible refine BCase.df ?s ?_; case s => (first | omega | (simp only [lens, true_and, and_true]; (try omega); done))) | (with_reducible refine Need.mk ?s ?_; case s => first | (first | omega | (simp only [lens, true_and, and_true]; (try omega); done)) | decide | kernel_rfl) | refine BCase.t (by decide) ?_ | refine BCase.f (by decide) ?_); ((conv => whnf); repeat ((first | with_reducible refine BCase.tt ?_ | with_reducible refine BCase.ff ?_); (conv => whnf)))) | (( refine CallP.ret [(FK, 10), (FK1, FK)] _ _ _ _ _ _ _ (s_read1 l hl hv) rfl rfl rfl rfl ⟨rfl, rfl, trivial⟩ ?_); ((conv => whnf); repeat ((first | with_reducible refine BCase.tt ?_ | with_reducible refine BCase.ff ?_); (conv => whnf)))) | ((with_reducible refine EmpOr.app ?_); ((conv => whnf); repeat ((first | with_reducible refine BCase.tt ?_ | with_reducible refine BCase.ff ?_); (conv => whnf)))) | (first | with_reducible refine BCase.not ?_ | with_reducible refine BCase.and ?_ | with_reducible refine BCase.or ?_) | ((with_reducible refine BCase.d (fun _ => ?_) (fun _ => ?_)) <;> ((conv => whnf); repeat ((first | with_reducible refine BCase.tt ?_ | with_reducible refine BCase.ff ?_); (conv => whnf))))))
  refine RetS.mk [(FK, FK)] [FK] rfl rfl ?_ ?_
  · exact ⟨.inl rfl, .inl rfl, rfl⟩
  · exact ⟨⟨rfl, rfl, .inl rfl, rfl⟩, trivial⟩
theorem s_reads_no (l : List UInt8) (hl : okLong l) (hv : (rowR l).2.2 ≠ 0) : CallS Try.prog 58 [pStr (tx l), readF] [] [(FK, oBox (.c (.v (.slice none 0 0))))] (.tup [pInt .i64 0, pInt .i64 (rowR l).2.2]) [] := by
  refine callS_defer (caps := [.tmp 4, .tmp 5]) (pre := [_]) (t1 := 5) (t2 := 2) Try.func58 (by rfl) rfl rfl rfl rfl rfl rfl rfl rfl (by rfl) Try.func63 (by rfl) rfl rfl (by kernel_rfl) (by exact ⟨rfl, rfl⟩) (by rfl) ?hrec (by rfl) [FK] rfl ?_
  case hrec => exact recovers_two rfl rfl rfl rfl rfl rfl rfl
  (((conv => whnf); repeat ((first | with_reducible refine BCase.tt ?_ | with_reducible refine BCase.ff ?_); (conv => whnf))); repeat' (first | ((first | with_reducible refine Wr.u8 ?_ | ((first | with_reducible refine Wr.ci ?s ?_ | with_reducible refine Wr.c3 ?s ?_ | with_reducible refine Wr.c6 ?s ?_ | with_reducible refine BCase.dt ?s ?_); case s => (first | omega | (simp only [lens, true_and, and_true]; (try omega); done))) | (with_reducible refine BCase.df ?s ?_; case s => (first | omega | (simp only [lens, true_and, and_true]; (try omega); done))) | (with_reducible refine Need.mk ?s ?_; case s => first | (first | omega | (simp only [lens, true_and, and_true]; (try omega); done)) | decide | kernel_rfl) | refine BCase.t (by decide) ?_ | refine BCase.f (by decide) ?_); ((conv => whnf); repeat ((first | with_reducible refine BCase.tt ?_ | with_reducible refine BCase.ff ?_); (conv => whnf)))) | ((with_reducible refine EmpOr.app ?_); ((conv => whnf); repeat ((first | with_reducible refine BCase.tt ?_ | with_reducible refine BCase.ff ?_); (conv => whnf)))) | (first | with_reducible refine BCase.not ?_ | with_reducible refine BCase.and ?_ | with_reducible refine BCase.or ?_) | ((with_reducible refine BCase.d (fun _ => ?_) (fun _ => ?_)) <;> ((conv => whnf); repeat ((first | with_reducible refine BCase.tt ?_ | with_reducible refine BCase.ff ?_); (conv => whnf))))))
  refine CallP.pan [(FK, 10), (FK1, FK)] _ _ _ _ (x_read1 l hl hv) rfl rfl rfl ⟨rfl, rfl, trivial⟩ ⟨rfl, ?_⟩
  (((conv => whnf); repeat ((first | with_reducible refine BCase.tt ?_ | with_reducible refine BCase.ff ?_); (conv => whnf))); repeat' (first | ((first | with_reducible refine Wr.u8 ?_ | ((first | with_reducible refine Wr.ci ?s ?_ | with_reducible refine Wr.c3 ?s ?_ | with_reducible refine Wr.c6 ?s ?_ | with_reducible refine BCase.dt ?s ?_); case s => (first | omega | (simp only [lens, true_and, and_true]; (try omega); done))) | (with_reducible refine BCase.df ?s ?_; case s => (first | omega | (simp only [lens, true_and, and_true]; (try omega); done))) | (with_reducible refine Need.mk ?s ?_; case s => first | (first | omega | (simp only [lens, true_and, and_true]; (try omega); done)) | decide | kernel_rfl) | refine BCase.t (by decide) ?_ | refine BCase.f (by decide) ?_); ((conv => whnf); repeat ((first | with_reducible refine BCase.tt ?_ | with_reducible refine BCase.ff ?_); (conv => whnf)))) | ((with_reducible refine EmpOr.app ?_); ((conv => whnf); repeat ((first | with_reducible refine BCase.tt ?_ | with_reducible refine BCase.ff ?_); (conv => whnf)))) | (first | with_reducible refine BCase.not ?_ | with_reducible refine BCase.and ?_ | with_reducible refine BCase.or ?_) | ((with_reducible refine BCase.d (fun _ => ?_) (fun _ => ?_)) <;> ((conv => whnf); repeat ((first | with_reducible refine BCase.tt ?_ | with_reducible refine BCase.ff ?_); (conv => whnf))))))
  refine RetS.mk [(FK, FK)] [FK] rfl rfl ?_ ?_
  · exact ⟨.inl rfl, .inl rfl, rfl⟩
  · exact trivial
theorem p_recread (l : List UInt8) (hl : okLong l) : Pure Try.prog 47 [pStr (tx l)] (.tup [slV 3 ValueD.c (rowR l).1, pInt .i64 ((rowR l).2.1 : Int), pInt .i64 (rowR l).2.2]) := by
  refine pure_of Try.func47 (by rfl) rfl (by kernel_rfl) (by rfl) ?_
  by_cases h : (rowR l).2.2 = 0
  · obtain ⟨vs, k, e⟩ : ∃ vs k, rowR l = (vs, k, 0) := ⟨(rowR l).1, (rowR l).2.1, by rw [← h]⟩
    rw [e]
    (((conv => whnf); repeat ((first | with_reducible refine BCase.tt ?_ | with_reducible refine BCase.ff ?_); (conv => whnf))); repeat' (first | ((first | with_reducible refine Wr.u8 ?_ | ((first | with_reducible refine Wr.ci ?s ?_ | with_reducible refine Wr.c3 ?s ?_ | with_reducible refine Wr.c6 ?s ?_ | with_reducible refine BCase.dt ?s ?_); case s => (first | omega | (simp only [lens, true_and, and_true]; (try omega); done))) | (with_reducible refine BCase.df ?s ?_; case s => (first | omega | (simp only [lens, true_and, and_true]; (try omega); done))) | (with_reducible refine Need.mk ?s ?_; case s => first | (first | omega | (simp only [lens, true_and, and_true]; (try omega); done)) | decide | kernel_rfl) | refine BCase.t (by decide) ?_ | refine BCase.f (by decide) ?_); ((conv => whnf); repeat ((first | with_reducible refine BCase.tt ?_ | with_reducible refine BCase.ff ?_); (conv => whnf)))) | (( refine CallP.ret [(FK, 5)] _ _ _ _ _ _ _ (s_reads l hl e) rfl rfl rfl rfl ⟨rfl, trivial⟩ ?_); ((conv => whnf); repeat ((first | with_reducible refine BCase.tt ?_ | with_reducible refine BCase.ff ?_); (conv => whnf)))) | ((with_reducible refine EmpOr.app ?_); ((conv => whnf); repeat ((first | with_reducible refine BCase.tt ?_ | with_reducible refine BCase.ff ?_); (conv => whnf)))) | (first | with_reducible refine BCase.not ?_ | with_reducible refine BCase.and ?_ | with_reducible refine BCase.or ?_) | ((with_reducible refine BCase.d (fun _ => ?_) (fun _ => ?_)) <;> ((conv => whnf); repeat ((first | with_reducible refine BCase.tt ?_ | with_reducible refine BCase.ff ?_); (conv => whnf))))))
    exact Ret.mk rfl
  · have e1 : (rowR l).1 = [] ∧ (rowR l).2.1 = 0 := rowR_fail h
    rw [e1.1, e1.2]
    (((conv => whnf); repeat ((first | with_reducible refine BCase.tt ?_ | with_reducible refine BCase.ff ?_); (conv => whnf))); repeat' (first | ((first | with_reducible refine Wr.u8 ?_ | ((first | with_reducible refine Wr.ci ?s ?_ | with_reducible refine Wr.c3 ?s ?_ | with_reducible refine Wr.c6 ?s ?_ | with_reducible refine BCase.dt ?s ?_); case s => (first | omega | (simp only [lens, true_and, and_true]; (try omega); done))) | (with_reducible refine BCase.df ?s ?_; case s => (first | omega | (simp only [lens, true_and, and_true]; (try omega); done))) | (with_reducible refine Need.mk ?s ?_; case s => first | (first | omega | (simp only [lens, true_and, and_true]; (try omega); done)) | decide | kernel_rfl) | refine BCase.t (by decide) ?_ | refine BCase.f (by decide) ?_); ((conv => whnf); repeat ((first | with_reducible refine BCase.tt ?_ | with_reducible refine BCase.ff ?_); (conv => whnf)))) | (( refine CallP.ret [(FK, 5)] _ _ _ _ _ _ _ (s_reads_no l hl h) rfl rfl rfl rfl ⟨rfl, trivial⟩ ?_); ((conv => whnf); repeat ((first | with_reducible refine BCase.tt ?_ | with_reducible refine BCase.ff ?_); (conv => whnf)))) | ((with_reducible refine EmpOr.app ?_); ((conv => whnf); repeat ((first | with_reducible refine BCase.tt ?_ | with_reducible refine BCase.ff ?_); (conv => whnf)))) | (first | with_reducible refine BCase.not ?_ | with_reducible refine BCase.and ?_ | with_reducible refine BCase.or ?_) | ((with_reducible refine BCase.d (fun _ => ?_) (fun _ => ?_)) <;> ((conv => whnf); repeat ((first | with_reducible refine BCase.tt ?_ | with_reducible refine BCase.ff ?_); (conv => whnf))))))
    exact Ret.le ⟨.inr ⟨⟨3, rfl⟩, .inl rfl⟩, .inl rfl, .inl rfl, rfl⟩
end Go.Proofs.Ytcecopdkaalfkaa.Pm
