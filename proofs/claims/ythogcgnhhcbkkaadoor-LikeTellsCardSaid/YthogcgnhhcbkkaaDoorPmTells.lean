/- starlinglaw.LikeTells -/
import Derived.Test.YthogcgnhhcbkkaaDoorPmBegun
import Derived.Test.YthogcgnhhcbkkaaDoorPmMatchOf
namespace Go.Proofs.YthogcgnhhcbkkaaDoor.Pm
open Go.RowKit LikeP
set_option linter.unusedVariables false
theorem law_tells (p s : ByteArray) : Pure Tryd.prog 3 [pStr p, pStr s] (pBool true) := by
  refine pure_of Tryd.func3 (by rfl) rfl (by kernel_rfl) (by rfl) ?_
  ((conv => whnf); repeat ((first | with_reducible refine BCase.tt ?_ | with_reducible refine BCase.ff ?_); (conv => whnf)))
  refine CallP.pure _ rfl _ (p_match p s) ?_
  ((conv => whnf); repeat ((first | with_reducible refine BCase.tt ?_ | with_reducible refine BCase.ff ?_); (conv => whnf)))
  refine CallP.pure _ rfl _ (p_check p) ?_
  ((conv => whnf); repeat ((first | with_reducible refine BCase.tt ?_ | with_reducible refine BCase.ff ?_); (conv => whnf)))
  refine BCase.d (fun h0 => ?_) (fun h0 => ?_)
  · ((conv => whnf); repeat ((first | with_reducible refine BCase.tt ?_ | with_reducible refine BCase.ff ?_); (conv => whnf)))
    refine BCase.d (fun h1 => ?_) (fun h1 => ?_)
    · have hE : matE p s = 2 := by unfold matE; rw [if_neg (by omega), if_pos (by omega)]
      have hB : matB p s = false := by rw [matB_eq, hE]; rfl
      ((conv => whnf); repeat ((first | with_reducible refine BCase.tt ?_ | with_reducible refine BCase.ff ?_); (conv => whnf)))
      rw [hE, hB]
      refine CallP.pure _ rfl _ p_begun ?_
      ((conv => whnf); repeat ((first | with_reducible refine BCase.tt ?_ | with_reducible refine BCase.ff ?_); (conv => whnf)))
      (repeat ((first | refine BCase.t (by decide) ?_ | refine BCase.f (by decide) ?_); ((conv => whnf); repeat ((first | with_reducible refine BCase.tt ?_ | with_reducible refine BCase.ff ?_); (conv => whnf)))))
      exact Ret.mk rfl
    · have hE : matE p s = 0 := by unfold matE; rw [if_neg (by omega), if_neg (by omega)]
      ((conv => whnf); repeat ((first | with_reducible refine BCase.tt ?_ | with_reducible refine BCase.ff ?_); (conv => whnf)))
      refine CallP.pure _ rfl _ p_begun ?_
      ((conv => whnf); repeat ((first | with_reducible refine BCase.tt ?_ | with_reducible refine BCase.ff ?_); (conv => whnf)))
      rw [hE, h0]
      (repeat ((first | refine BCase.t (by decide) ?_ | refine BCase.f (by decide) ?_); ((conv => whnf); repeat ((first | with_reducible refine BCase.tt ?_ | with_reducible refine BCase.ff ?_); (conv => whnf)))))
      refine CallP.pure _ rfl _ (p_matchof p s h0 (by omega)) ?_
      ((conv => whnf); repeat ((first | with_reducible refine BCase.tt ?_ | with_reducible refine BCase.ff ?_); (conv => whnf)))
      refine Ret.mk ?_
      simp
  · have hE : matE p s = patE p := by unfold matE; rw [if_pos h0]
    have hB : matB p s = false := by rw [matB_eq, hE, decide_eq_false h0]; rfl
    ((conv => whnf); repeat ((first | with_reducible refine BCase.tt ?_ | with_reducible refine BCase.ff ?_); (conv => whnf)))
    refine CallP.pure _ rfl _ p_begun ?_
    ((conv => whnf); repeat ((first | with_reducible refine BCase.tt ?_ | with_reducible refine BCase.ff ?_); (conv => whnf)))
    rw [hE, hB]
    refine BCase.dt rfl ?_
    ((conv => whnf); repeat ((first | with_reducible refine BCase.tt ?_ | with_reducible refine BCase.ff ?_); (conv => whnf)))
    refine BCase.df h0 ?_
    ((conv => whnf); repeat ((first | with_reducible refine BCase.tt ?_ | with_reducible refine BCase.ff ?_); (conv => whnf)))
    exact Ret.mk rfl
end Go.Proofs.YthogcgnhhcbkkaaDoor.Pm
