/- starlinglaw.LikeFirst -/
import Derived.Test.YthogcgnhhcbkkaaDoorPmBegun
namespace Go.Proofs.YthogcgnhhcbkkaaDoor.Pm
open Go.RowKit LikeP
set_option linter.unusedVariables false
def joined (t : List ByteArray) : List UInt8 := t.flatMap fun x => x.data.toList
theorem joined_pcs (s : ByteArray) : joined (pcs s) = s.data.toList := by
  unfold joined pcs
  rw [List.flatMap_map]
  have : (pieces s.data.toList).flatMap (fun x => (bs x).data.toList) = (pieces s.data.toList).flatten := by
    rw [List.flatMap_def]
    congr 1
    rw [show (fun x => (bs x).data.toList) = id by funext x; exact list_bs x, List.map_id]
  rw [this, pieces_join]
theorem glob_pre : ∀ (l : List LikeP.Part) (t : List ByteArray), glob l t → ∃ rest, joined t = (preL l).1 ++ rest ∧ ((preL l).2 = true → rest = [])
  | [], t, h => by
    obtain rfl : t = [] := h
    exact ⟨[], rfl, fun _ => rfl⟩
  | p :: l, t, h => by
    by_cases hp : p.1 = 0
    · rw [glob_one (by rw [hp]; decide)] at h
      obtain ⟨x, r, rfl, h1, h2⟩ := h
      obtain ⟨rest, e1, e2⟩ := glob_pre l r h2
      have hx : p.2 = x := by
        unfold stands at h1
        rw [hp] at h1
        simpa using h1
      have hj : joined (x :: r) = x.data.toList ++ joined r := by unfold joined; rw [List.flatMap_cons]
      refine ⟨rest, ?_, ?_⟩
      · rw [hj, e1, preL, if_pos hp, hx, List.append_assoc]
      · rw [preL, if_pos hp]; exact e2
    · refine ⟨joined t, ?_, ?_⟩
      · rw [preL, if_neg hp]; rfl
      · rw [preL, if_neg hp]; intro e; cases e
theorem match_pre {p s : ByteArray} (h : matB p s = true) : (preS (pat p)).size ≤ s.size ∧ s.extract 0 (preS (pat p)).size = preS (pat p) ∧ (preB (pat p) = true → s = preS (pat p)) := by
  obtain ⟨rest, e1, e2⟩ := glob_pre _ _ ((matB_iff p s).1 h).2
  rw [joined_pcs] at e1
  have hz : s.size = (preL (pat p)).1.length + rest.length := by rw [← size_list, e1, List.length_append]
  refine ⟨by unfold preS; rw [bs_size]; omega, ?_, fun hb => ?_⟩
  · unfold preS
    rw [extract_bs, e1, bs_size, List.drop_zero, Nat.sub_zero, List.take_append_of_le_length (Nat.le_refl _), List.take_length]
  · rw [← bs_list s, e1, e2 hb, List.append_nil]; rfl
theorem law_first (p s : ByteArray) (hs : s.size ≤ 140737488351232) : Pure Tryd.prog 7 [pStr p, pStr s] (pBool true) := by
  refine pure_of Tryd.func7 (by rfl) rfl (by kernel_rfl) (by rfl) ?_
  ((conv => whnf); repeat ((first | with_reducible refine BCase.tt ?_ | with_reducible refine BCase.ff ?_); (conv => whnf)))
  refine CallP.pure _ rfl _ (p_match p s) ?_
  ((conv => whnf); repeat ((first | with_reducible refine BCase.tt ?_ | with_reducible refine BCase.ff ?_); (conv => whnf)))
  by_cases h0 : patE p = 0
  · refine CallP.pure _ rfl _ (p_prefix p h0) ?_
    ((conv => whnf); repeat ((first | with_reducible refine BCase.tt ?_ | with_reducible refine BCase.ff ?_); (conv => whnf)))
    refine CallP.pure _ rfl _ p_begun ?_
    ((conv => whnf); repeat ((first | with_reducible refine BCase.tt ?_ | with_reducible refine BCase.ff ?_); (conv => whnf)))
    (repeat ((first | refine BCase.t (by decide) ?_ | refine BCase.f (by decide) ?_); ((conv => whnf); repeat ((first | with_reducible refine BCase.tt ?_ | with_reducible refine BCase.ff ?_); (conv => whnf)))))
    refine BCase.d (fun h1 => ?_) (fun h1 => ?_)
    · have hB : matB p s = false := by rw [matB_eq, decide_eq_false h1]; rfl
      ((conv => whnf); repeat ((first | with_reducible refine BCase.tt ?_ | with_reducible refine BCase.ff ?_); (conv => whnf)))
      refine Ret.mk ?_
      rw [hB]; rfl
    · ((conv => whnf); repeat ((first | with_reducible refine BCase.tt ?_ | with_reducible refine BCase.ff ?_); (conv => whnf)))
      (repeat ((first | refine BCase.t (by decide) ?_ | refine BCase.f (by decide) ?_); ((conv => whnf); repeat ((first | with_reducible refine BCase.tt ?_ | with_reducible refine BCase.ff ?_); (conv => whnf)))))
      refine BCase.mk (fun h2 => ?_) (fun h2 => ?_)
      · ((conv => whnf); repeat ((first | with_reducible refine BCase.tt ?_ | with_reducible refine BCase.ff ?_); (conv => whnf)))
        exact Ret.mk rfl
      · have hB : matB p s = true := by simpa using h2
        obtain ⟨g1, g2, g3⟩ := match_pre hB
        ((conv => whnf); repeat ((first | with_reducible refine BCase.tt ?_ | with_reducible refine BCase.ff ?_); (conv => whnf)))
        refine BCase.dt (by omega) ?_
        ((conv => whnf); repeat ((first | with_reducible refine BCase.tt ?_ | with_reducible refine BCase.ff ?_); (conv => whnf)))
        refine Need.mk (by omega) ?_
        rw [show s.extract (0 : Int).toNat (((preS (pat p)).size : Int)).toNat = preS (pat p) from g2]
        ((conv => whnf); repeat ((first | with_reducible refine BCase.tt ?_ | with_reducible refine BCase.ff ?_); (conv => whnf)))
        refine BCase.t (decide_eq_true rfl) ?_
        ((conv => whnf); repeat ((first | with_reducible refine BCase.tt ?_ | with_reducible refine BCase.ff ?_); (conv => whnf)))
        refine BCase.mk (fun h3 => ?_) (fun h3 => ?_)
        · ((conv => whnf); repeat ((first | with_reducible refine BCase.tt ?_ | with_reducible refine BCase.ff ?_); (conv => whnf)))
          exact Ret.mk rfl
        · ((conv => whnf); repeat ((first | with_reducible refine BCase.tt ?_ | with_reducible refine BCase.ff ?_); (conv => whnf)))
          refine Ret.mk ?_
          rw [decide_eq_true (g3 (by simpa using h3))]
  · have hE : matE p s = patE p := by unfold matE; rw [if_pos h0]
    have hB : matB p s = false := by rw [matB_eq, hE, decide_eq_false h0]; rfl
    refine CallP.pure _ rfl _ (p_prefix_no p h0) ?_
    ((conv => whnf); repeat ((first | with_reducible refine BCase.tt ?_ | with_reducible refine BCase.ff ?_); (conv => whnf)))
    refine CallP.pure _ rfl _ p_begun ?_
    ((conv => whnf); repeat ((first | with_reducible refine BCase.tt ?_ | with_reducible refine BCase.ff ?_); (conv => whnf)))
    (repeat ((first | refine BCase.t (by decide) ?_ | refine BCase.f (by decide) ?_); ((conv => whnf); repeat ((first | with_reducible refine BCase.tt ?_ | with_reducible refine BCase.ff ?_); (conv => whnf)))))
    rw [hE]
    refine BCase.dt h0 ?_
    ((conv => whnf); repeat ((first | with_reducible refine BCase.tt ?_ | with_reducible refine BCase.ff ?_); (conv => whnf)))
    refine Ret.mk ?_
    rw [hB]; rfl
end Go.Proofs.YthogcgnhhcbkkaaDoor.Pm
