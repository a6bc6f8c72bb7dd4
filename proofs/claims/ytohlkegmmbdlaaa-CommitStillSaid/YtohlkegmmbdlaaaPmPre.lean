/- strings.HasPrefix -/
import Derived.Test.YtohlkegmmbdlaaaPdList
namespace Go.Proofs.Ytohlkegmmbdlaaa.Pm
open Go.RowKit K
set_option linter.unusedVariables false
set_option linter.unusedSimpArgs false
set_option maxRecDepth 100000

def hasPre (l m : List UInt8) : Bool := decide (l.take m.length = m)
theorem p_haspre0 (l m : List UInt8) : Pure Try.prog 73 [pStr (tx l), pStr (tx m)] (pBool (hasPre l m)) := by
  have tl := tx_size l
  have tm := tx_size m
  refine pure_of Try.func73 (by rfl) rfl (by kernel_rfl) (by rfl) ?_
  by_cases h : m.length ≤ l.length
  · have e : (tx l).extract (0 : Int).toNat ((tx m).size : Int).toNat = tx (l.take m.length) := by
      rw [extract_tx, Int.toNat_natCast, tm]; rfl
    (((conv => whnf); repeat ((first | with_reducible refine BCase.tt ?_ | with_reducible refine BCase.ff ?_); (conv => whnf))); repeat' (first | ((first | with_reducible refine Wr.u8 ?_ | ((first | with_reducible refine Wr.ci ?wxs ?_ | with_reducible refine Wr.c3 ?wxs ?_ | with_reducible refine Wr.c6 ?wxs ?_ | with_reducible refine BCase.dt ?wxs ?_); case wxs => (first | omega | (simp only [lens, true_and, and_true]; (try omega); done))) | (with_reducible refine BCase.df ?wxs ?_; case wxs => (first | omega | (simp only [lens, true_and, and_true]; (try omega); done))) | (with_reducible refine Need.mk ?wxs ?_; case wxs => first | (first | omega | (simp only [lens, true_and, and_true]; (try omega); done)) | decide | kernel_rfl) | refine BCase.t (by decide) ?_ | refine BCase.f (by decide) ?_); ((conv => whnf); repeat ((first | with_reducible refine BCase.tt ?_ | with_reducible refine BCase.ff ?_); (conv => whnf)))) | ((with_reducible refine EmpOr.app ?_); ((conv => whnf); repeat ((first | with_reducible refine BCase.tt ?_ | with_reducible refine BCase.ff ?_); (conv => whnf)))) | (first | with_reducible refine BCase.not ?_ | with_reducible refine BCase.and ?_ | with_reducible refine BCase.or ?_) | ((with_reducible refine BCase.d (fun _ => ?_) (fun _ => ?_)) <;> ((conv => whnf); repeat ((first | with_reducible refine BCase.tt ?_ | with_reducible refine BCase.ff ?_); (conv => whnf))))))
    refine Ret.bool ?_
    unfold hasPre
    rw [e]
    exact decide_eq_decide.2 tx_eq
  · (((conv => whnf); repeat ((first | with_reducible refine BCase.tt ?_ | with_reducible refine BCase.ff ?_); (conv => whnf))); repeat' (first | ((first | with_reducible refine Wr.u8 ?_ | ((first | with_reducible refine Wr.ci ?wxs ?_ | with_reducible refine Wr.c3 ?wxs ?_ | with_reducible refine Wr.c6 ?wxs ?_ | with_reducible refine BCase.dt ?wxs ?_); case wxs => (first | omega | (simp only [lens, true_and, and_true]; (try omega); done))) | (with_reducible refine BCase.df ?wxs ?_; case wxs => (first | omega | (simp only [lens, true_and, and_true]; (try omega); done))) | (with_reducible refine Need.mk ?wxs ?_; case wxs => first | (first | omega | (simp only [lens, true_and, and_true]; (try omega); done)) | decide | kernel_rfl) | refine BCase.t (by decide) ?_ | refine BCase.f (by decide) ?_); ((conv => whnf); repeat ((first | with_reducible refine BCase.tt ?_ | with_reducible refine BCase.ff ?_); (conv => whnf)))) | ((with_reducible refine EmpOr.app ?_); ((conv => whnf); repeat ((first | with_reducible refine BCase.tt ?_ | with_reducible refine BCase.ff ?_); (conv => whnf)))) | (first | with_reducible refine BCase.not ?_ | with_reducible refine BCase.and ?_ | with_reducible refine BCase.or ?_) | ((with_reducible refine BCase.d (fun _ => ?_) (fun _ => ?_)) <;> ((conv => whnf); repeat ((first | with_reducible refine BCase.tt ?_ | with_reducible refine BCase.ff ?_); (conv => whnf))))))
    refine Ret.bool ?_
    unfold hasPre
    rw [eq_comm, decide_eq_false_iff_not]
    intro q
    have := congrArg List.length q
    rw [List.length_take] at this
    omega
theorem p_haspre (l m : List UInt8) : Pure Try.prog 68 [pStr (tx l), pStr (tx m)] (pBool (hasPre l m)) := by
  refine pure_of Try.func68 (by rfl) rfl (by kernel_rfl) (by rfl) ?_
  (((conv => whnf); repeat ((first | with_reducible refine BCase.tt ?_ | with_reducible refine BCase.ff ?_); (conv => whnf))); repeat' (first | ((first | with_reducible refine Wr.u8 ?_ | ((first | with_reducible refine Wr.ci ?wxs ?_ | with_reducible refine Wr.c3 ?wxs ?_ | with_reducible refine Wr.c6 ?wxs ?_ | with_reducible refine BCase.dt ?wxs ?_); case wxs => (first | omega | (simp only [lens, true_and, and_true]; (try omega); done))) | (with_reducible refine BCase.df ?wxs ?_; case wxs => (first | omega | (simp only [lens, true_and, and_true]; (try omega); done))) | (with_reducible refine Need.mk ?wxs ?_; case wxs => first | (first | omega | (simp only [lens, true_and, and_true]; (try omega); done)) | decide | kernel_rfl) | refine BCase.t (by decide) ?_ | refine BCase.f (by decide) ?_); ((conv => whnf); repeat ((first | with_reducible refine BCase.tt ?_ | with_reducible refine BCase.ff ?_); (conv => whnf)))) | ((refine CallP.pure _ rfl _ (p_haspre0 l m) ?_); ((conv => whnf); repeat ((first | with_reducible refine BCase.tt ?_ | with_reducible refine BCase.ff ?_); (conv => whnf)))) | ((with_reducible refine EmpOr.app ?_); ((conv => whnf); repeat ((first | with_reducible refine BCase.tt ?_ | with_reducible refine BCase.ff ?_); (conv => whnf)))) | (first | with_reducible refine BCase.not ?_ | with_reducible refine BCase.and ?_ | with_reducible refine BCase.or ?_) | ((with_reducible refine BCase.d (fun _ => ?_) (fun _ => ?_)) <;> ((conv => whnf); repeat ((first | with_reducible refine BCase.tt ?_ | with_reducible refine BCase.ff ?_); (conv => whnf))))))
  exact Ret.mk rfl
end Go.Proofs.Ytohlkegmmbdlaaa.Pm
