/- try -/
import Derived.Test.YthogcgnhhcbkkaaDoorPmHand
import Derived.Test.YthogcgnhhcbkkaaDoorLikePure
namespace Go.Proofs.YthogcgnhhcbkkaaDoor.Pm
open Go.RowKit LikeP

set_option maxRecDepth 100000 in
theorem patternends (p : List ByteArray) (hp : p.length ≤ 1000) : Pure Tryd.prog 26 [.d (.c (.sl 1 (p.map encS)))] (pBool (openE false p)) := by
  refine pure_of Tryd.func26 (by rfl) rfl (by kernel_rfl) (by rfl) ?_
  conv => whnf
  refine LoopC.mk Nat (fun k => [(0, .d (.c (.sl 1 (p.map encS)))), (3, pBool (openE false (p.take k))), (4, pInt .i64 k)]) (fun _ => []) [] (fun k => k ≤ p.length) (fun k => p.length - k) 0 (Nat.zero_le _) ?start ?round
  case start => exact ⟨[], rfl, rfl, ⟨.inl rfl, .inl rfl, .inl rfl, trivial⟩, trivial⟩
  case round =>
    intro k hk
    conv => whnf
    rw [List.length_map]
    refine BCase.d (fun h => ?_) (fun h => ?_)
    · have h : k < p.length := by omega
      have hs : openE false (p.take (k + 1)) = (!openE false (p.take k) && decide (p[k] = backslash)) := by
        rw [List.take_succ_eq_append_getElem h, openE_append]; rfl
      conv => whnf
      refine BCase.mk (fun h => ?_) (fun h => ?_)
      · conv => whnf
        refine Idx.map (by omega) ?_
        conv => whnf
        refine Wr.i64 (by omega) (by omega) ?_
        conv => whnf
        exact ⟨k + 1, by omega, by omega, [], rfl, rfl, ⟨.inl rfl, PLe.c (by rw [hs, h]; rfl), PLe.int (by omega), trivial⟩, trivial⟩
      · conv => whnf
        refine Wr.i64 (by omega) (by omega) ?_
        conv => whnf
        exact ⟨k + 1, by omega, by omega, [], rfl, rfl, ⟨.inl rfl, PLe.c (by rw [hs, h]; rfl), PLe.int (by omega), trivial⟩, trivial⟩
    · conv => whnf
      refine Ret.mk ?_
      rw [List.take_of_length_le (by omega)]
end Go.Proofs.YthogcgnhhcbkkaaDoor.Pm
