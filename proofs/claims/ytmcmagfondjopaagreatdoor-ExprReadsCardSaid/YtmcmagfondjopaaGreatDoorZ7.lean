/- Parts of the proof, one behind the other: PnAsked PnNode PxChk PnWalkP PnTokens PnThm PnThm2 PnThm3 PnThm4 PnWalk2 PnWalk3 PnWalk4 PnWalk5 PnWalk6 PnWalk7. Conditions: none beyond what each theorem says. -/
import Derived.Test.YtmcmagfondjopaaGreatDoorZ6
set_option linter.unusedVariables false
set_option linter.unusedSimpArgs false
namespace Go.Proofs.YtmcmagfondjopaaGreatDoor.Pm
section
open Go.RowKit K
set_option maxRecDepth 100000
abbrev kidV (kids : List Prd) : PV := .d (.c (.sl 2 (kids.map prC)))
def notT (op : Int) : List TokenD := if op = 19 ∨ op = 21 ∨ op = 23 ∨ op = 25 then [markT wNot] else []
theorem joinF_cons (p : JPart) (ps : List JPart) : joinF (p :: ps) = p.l ++ joinF ps := rfl
theorem joinF_nil : joinF [] = [] := rfl
theorem at_len (p : Prd) (k : Int) : (atF p k).length ≤ p.1.length + 2 := by
 unfold atF
 split
 ·omega
 ·rw [List.length_cons, List.length_append, List.length_singleton]; omega
theorem p_joinL (ps : List JPart) (x : List TokenD) (hk : ∀ p ∈ ps, p.ok) (hl : ps.length ≤ 100000) (hx : joinF ps = x) (hj : x.length ≤ 100000) : Pure Tryz.prog 80 [.d (.c (.sl 1 (ps.map JPart.c)))] (slV 4 TokenD.c x) := by
 subst hx; exact p_join ps hk hl hj
theorem p_asked1 (n : NodeD) (k0 : Prd) (hop : n.Op = 18 ∨ n.Op = 19) (h0 : k0.1.length ≤ 1000) : Pure Tryz.prog 83 [nV n, kidV [k0]] (slV 4 TokenD.c (atF k0 5 ++ (markT wIs :: (notT n.Op ++ [markT wNull])))) := by
 have pa := p_at k0 5 (by omega)
 have ha := at_len k0 5
 have pn := p_joinL [.str wNot] [markT wNot] (by intro p hp; rw [List.mem_singleton] at hp; subst hp; exact ok_small (by decide)) (by decide) rfl (by simp)
 refine pure_of Tryz.func83 (by rfl) rfl (by kernel_rfl) (by rfl) ?_
 rcases hop with g | g
 ·have en : notT n.Op = [] := by unfold notT; rw [if_neg (by omega)]
  rw [en]
  have pj := p_joinL [.toks (atF k0 5), .str wIs, .toks [], .str wNull] (atF k0 5 ++ (markT wIs :: ([] ++ [markT wNull]))) (by intro p hp; simp only [List.mem_cons, List.not_mem_nil, or_false] at hp; rcases hp with rfl | rfl | rfl | rfl <;> first | trivial | exact ok_small (by decide)) (by simp) (by simp [joinF_cons, joinF_nil, JPart.l]) (by simp; omega)
  ((conv => whnf);repeat' ((first|(with_reducible first|apply a_|apply b_|apply c_)|((with_reducible first|apply d_|apply e_|apply f_|apply g_);focus first|omega|(simp only [q_]<;>omega))|((with_reducible first|apply i_|apply h_);focus first|omega|(simp only [q_]<;>omega))|((with_reducible apply h_);focus first|decide|kernel_rfl)|refine s_ (by decide) ?_|refine t_ (by decide) ?_|refine r_ pa rfl ?_|refine r_ pn rfl ?_|refine r_ pj rfl ?_|(refine Idx.lit rfl rfl ?_)|with_reducible first|apply l_|apply m_|apply n_|apply o_|refine p_ (fun _ => ?_) (fun _ => ?_))<;>(conv => whnf)))
  all_goals first | exact Ret.eq rfl | (exfalso; omega)
 ·have en : notT n.Op = [markT wNot] := by unfold notT; rw [if_pos (by omega)]
  rw [en]
  have pj := p_joinL [.toks (atF k0 5), .str wIs, .toks [markT wNot], .str wNull] (atF k0 5 ++ (markT wIs :: ([markT wNot] ++ [markT wNull]))) (by intro p hp; simp only [List.mem_cons, List.not_mem_nil, or_false] at hp; rcases hp with rfl | rfl | rfl | rfl <;> first | trivial | exact ok_small (by decide)) (by simp) (by simp [joinF_cons, joinF_nil, JPart.l]) (by simp; omega)
  ((conv => whnf);repeat' ((first|(with_reducible first|apply a_|apply b_|apply c_)|((with_reducible first|apply d_|apply e_|apply f_|apply g_);focus first|omega|(simp only [q_]<;>omega))|((with_reducible first|apply i_|apply h_);focus first|omega|(simp only [q_]<;>omega))|((with_reducible apply h_);focus first|decide|kernel_rfl)|refine s_ (by decide) ?_|refine t_ (by decide) ?_|refine r_ pa rfl ?_|refine r_ pn rfl ?_|refine r_ pj rfl ?_|(refine Idx.lit rfl rfl ?_)|with_reducible first|apply l_|apply m_|apply n_|apply o_|refine p_ (fun _ => ?_) (fun _ => ?_))<;>(conv => whnf)))
  all_goals first | exact Ret.eq rfl | (exfalso; omega)
theorem p_asked2 (n : NodeD) (k0 k1 : Prd) (hop : n.Op = 20 ∨ n.Op = 21) (h0 : k0.1.length ≤ 1000) (h1 : k1.1.length ≤ 1000) : Pure Tryz.prog 83 [nV n, kidV [k0, k1]] (slV 4 TokenD.c (atF k0 5 ++ (notT n.Op ++ (markT wLike :: atF k1 5)))) := by
 have pa := p_at k0 5 (by omega)
 have ha := at_len k0 5
 have pb := p_at k1 5 (by omega)
 have hb := at_len k1 5
 have pn := p_joinL [.str wNot] [markT wNot] (by intro p hp; rw [List.mem_singleton] at hp; subst hp; exact ok_small (by decide)) (by decide) rfl (by simp)
 refine pure_of Tryz.func83 (by rfl) rfl (by kernel_rfl) (by rfl) ?_
 rcases hop with g | g
 ·have en : notT n.Op = [] := by unfold notT; rw [if_neg (by omega)]
  rw [en]
  have pj := p_joinL [.toks (atF k0 5), .toks [], .str wLike, .toks (atF k1 5)] (atF k0 5 ++ ([] ++ (markT wLike :: atF k1 5))) (by intro p hp; simp only [List.mem_cons, List.not_mem_nil, or_false] at hp; rcases hp with rfl | rfl | rfl | rfl <;> first | trivial | exact ok_small (by decide)) (by simp) (by simp [joinF_cons, joinF_nil, JPart.l]) (by simp; omega)
  ((conv => whnf);repeat' ((first|(with_reducible first|apply a_|apply b_|apply c_)|((with_reducible first|apply d_|apply e_|apply f_|apply g_);focus first|omega|(simp only [q_]<;>omega))|((with_reducible first|apply i_|apply h_);focus first|omega|(simp only [q_]<;>omega))|((with_reducible apply h_);focus first|decide|kernel_rfl)|refine s_ (by decide) ?_|refine t_ (by decide) ?_|refine r_ pa rfl ?_|refine r_ pb rfl ?_|refine r_ pn rfl ?_|refine r_ pj rfl ?_|(refine Idx.lit rfl rfl ?_)|with_reducible first|apply l_|apply m_|apply n_|apply o_|refine p_ (fun _ => ?_) (fun _ => ?_))<;>(conv => whnf)))
  all_goals first | exact Ret.eq rfl | (exfalso; omega)
 ·have en : notT n.Op = [markT wNot] := by unfold notT; rw [if_pos (by omega)]
  rw [en]
  have pj := p_joinL [.toks (atF k0 5), .toks [markT wNot], .str wLike, .toks (atF k1 5)] (atF k0 5 ++ ([markT wNot] ++ (markT wLike :: atF k1 5))) (by intro p hp; simp only [List.mem_cons, List.not_mem_nil, or_false] at hp; rcases hp with rfl | rfl | rfl | rfl <;> first | trivial | exact ok_small (by decide)) (by simp) (by simp [joinF_cons, joinF_nil, JPart.l]) (by simp; omega)
  ((conv => whnf);repeat' ((first|(with_reducible first|apply a_|apply b_|apply c_)|((with_reducible first|apply d_|apply e_|apply f_|apply g_);focus first|omega|(simp only [q_]<;>omega))|((with_reducible first|apply i_|apply h_);focus first|omega|(simp only [q_]<;>omega))|((with_reducible apply h_);focus first|decide|kernel_rfl)|refine s_ (by decide) ?_|refine t_ (by decide) ?_|refine r_ pa rfl ?_|refine r_ pb rfl ?_|refine r_ pn rfl ?_|refine r_ pj rfl ?_|(refine Idx.lit rfl rfl ?_)|with_reducible first|apply l_|apply m_|apply n_|apply o_|refine p_ (fun _ => ?_) (fun _ => ?_))<;>(conv => whnf)))
  all_goals first | exact Ret.eq rfl | (exfalso; omega)
theorem sgn_len (op : Int) : (sgn op).length ≤ 3 := by
 by_cases h : 3 ≤ op ∧ op ≤ 17
 ·have : op = 3 ∨ op = 4 ∨ op = 5 ∨ op = 6 ∨ op = 7 ∨ op = 8 ∨ op = 9 ∨ op = 10 ∨ op = 11 ∨ op = 12 ∨ op = 13 ∨ op = 14 ∨ op = 15 ∨ op = 16 ∨ op = 17 := by omega
  rcases this with rfl | rfl | rfl | rfl | rfl | rfl | rfl | rfl | rfl | rfl | rfl | rfl | rfl | rfl | rfl <;> decide
 ·have e : sgn op = [] := by
   unfold sgn
   rw [if_neg (by omega), if_neg (by omega), if_neg (by omega), if_neg (by omega), if_neg (by omega), if_neg (by omega), if_neg (by omega), if_neg (by omega), if_neg (by omega), if_neg (by omega), if_neg (by omega), if_neg (by omega), if_neg (by omega), if_neg (by omega)]
  rw [e]; decide
theorem p_asked4 (n : NodeD) (k0 k1 : Prd) (hop : 10 ≤ n.Op ∧ n.Op ≤ 15) (h0 : k0.1.length ≤ 1000) (h1 : k1.1.length ≤ 1000) : Pure Tryz.prog 83 [nV n, kidV [k0, k1]] (slV 4 TokenD.c (atF k0 5 ++ (markT (sgn n.Op) :: atF k1 5))) := by
 have pa := p_at k0 5 (by omega)
 have ha := at_len k0 5
 have pb := p_at k1 5 (by omega)
 have hb := at_len k1 5
 have ps := p_sign n.Op
 have hs := sgn_len n.Op
 have pj := p_joinL [.toks (atF k0 5), .str (sgn n.Op), .toks (atF k1 5)] (atF k0 5 ++ (markT (sgn n.Op) :: atF k1 5)) (by intro p hp; simp only [List.mem_cons, List.not_mem_nil, or_false] at hp; rcases hp with rfl | rfl | rfl <;> first | trivial | exact ok_small (by omega)) (by simp) (by simp [joinF_cons, joinF_nil, JPart.l]) (by simp; omega)
 refine pure_of Tryz.func83 (by rfl) rfl (by kernel_rfl) (by rfl) ?_
 ((conv => whnf);repeat' ((first|(with_reducible first|apply a_|apply b_|apply c_)|((with_reducible first|apply d_|apply e_|apply f_|apply g_);focus first|omega|(simp only [q_]<;>omega))|((with_reducible first|apply i_|apply h_);focus first|omega|(simp only [q_]<;>omega))|((with_reducible apply h_);focus first|decide|kernel_rfl)|refine s_ (by decide) ?_|refine t_ (by decide) ?_|refine r_ pa rfl ?_|refine r_ pb rfl ?_|refine r_ ps rfl ?_|refine r_ pj rfl ?_|(refine Idx.lit rfl rfl ?_)|with_reducible first|apply l_|apply m_|apply n_|apply o_|refine p_ (fun _ => ?_) (fun _ => ?_))<;>(conv => whnf)))
 all_goals first | exact Ret.eq rfl | (exfalso; omega)
theorem p_asked3 (n : NodeD) (k0 k1 k2 : Prd) (hop : n.Op = 24 ∨ n.Op = 25) (h0 : k0.1.length ≤ 1000) (h1 : k1.1.length ≤ 1000) (h2 : k2.1.length ≤ 1000) : Pure Tryz.prog 83 [nV n, kidV [k0, k1, k2]] (slV 4 TokenD.c (atF k0 5 ++ (notT n.Op ++ (markT wBetw :: (atF k1 5 ++ (markT wAnd :: atF k2 5)))))) := by
 have pa := p_at k0 5 (by omega)
 have ha := at_len k0 5
 have pb := p_at k1 5 (by omega)
 have hb := at_len k1 5
 have pc := p_at k2 5 (by omega)
 have hc := at_len k2 5
 have pn := p_joinL [.str wNot] [markT wNot] (by intro p hp; rw [List.mem_singleton] at hp; subst hp; exact ok_small (by decide)) (by decide) rfl (by simp)
 refine pure_of Tryz.func83 (by rfl) rfl (by kernel_rfl) (by rfl) ?_
 rcases hop with g | g
 ·have en : notT n.Op = [] := by unfold notT; rw [if_neg (by omega)]
  rw [en]
  have pj := p_joinL [.toks (atF k0 5), .toks [], .str wBetw, .toks (atF k1 5), .str wAnd, .toks (atF k2 5)] (atF k0 5 ++ ([] ++ (markT wBetw :: (atF k1 5 ++ (markT wAnd :: atF k2 5))))) (by intro p hp; simp only [List.mem_cons, List.not_mem_nil, or_false] at hp; rcases hp with rfl | rfl | rfl | rfl | rfl | rfl <;> first | trivial | exact ok_small (by decide)) (by simp) (by simp [joinF_cons, joinF_nil, JPart.l]) (by simp; omega)
  ((conv => whnf);repeat' ((first|(with_reducible first|apply a_|apply b_|apply c_)|((with_reducible first|apply d_|apply e_|apply f_|apply g_);focus first|omega|(simp only [q_]<;>omega))|((with_reducible first|apply i_|apply h_);focus first|omega|(simp only [q_]<;>omega))|((with_reducible apply h_);focus first|decide|kernel_rfl)|refine s_ (by decide) ?_|refine t_ (by decide) ?_|refine r_ pa rfl ?_|refine r_ pb rfl ?_|refine r_ pc rfl ?_|refine r_ pn rfl ?_|refine r_ pj rfl ?_|(refine Idx.lit rfl rfl ?_)|with_reducible first|apply l_|apply m_|apply n_|apply o_|refine p_ (fun _ => ?_) (fun _ => ?_))<;>(conv => whnf)))
  all_goals first | exact Ret.eq rfl | (exfalso; omega)
 ·have en : notT n.Op = [markT wNot] := by unfold notT; rw [if_pos (by omega)]
  rw [en]
  have pj := p_joinL [.toks (atF k0 5), .toks [markT wNot], .str wBetw, .toks (atF k1 5), .str wAnd, .toks (atF k2 5)] (atF k0 5 ++ ([markT wNot] ++ (markT wBetw :: (atF k1 5 ++ (markT wAnd :: atF k2 5))))) (by intro p hp; simp only [List.mem_cons, List.not_mem_nil, or_false] at hp; rcases hp with rfl | rfl | rfl | rfl | rfl | rfl <;> first | trivial | exact ok_small (by decide)) (by simp) (by simp [joinF_cons, joinF_nil, JPart.l]) (by simp; omega)
  ((conv => whnf);repeat' ((first|(with_reducible first|apply a_|apply b_|apply c_)|((with_reducible first|apply d_|apply e_|apply f_|apply g_);focus first|omega|(simp only [q_]<;>omega))|((with_reducible first|apply i_|apply h_);focus first|omega|(simp only [q_]<;>omega))|((with_reducible apply h_);focus first|decide|kernel_rfl)|refine s_ (by decide) ?_|refine t_ (by decide) ?_|refine r_ pa rfl ?_|refine r_ pb rfl ?_|refine r_ pc rfl ?_|refine r_ pn rfl ?_|refine r_ pj rfl ?_|(refine Idx.lit rfl rfl ?_)|with_reducible first|apply l_|apply m_|apply n_|apply o_|refine p_ (fun _ => ?_) (fun _ => ?_))<;>(conv => whnf)))
  all_goals first | exact Ret.eq rfl | (exfalso; omega)
def comT (ks : List Prd) : List TokenD := ks.flatMap fun k => markT sCo :: k.1
theorem comT_snoc {ks : List Prd} {j : Nat} (h : j < ks.length) : comT (ks.take (j + 1)) = comT (ks.take j) ++ (markT sCo :: (ks[j]).1) := by
 unfold comT
 rw [← List.take_append_getElem h, List.flatMap_append]
 simp
theorem comT_le : ∀ (ks : List Prd), (∀ k ∈ ks, k.1.length ≤ 1000) → (comT ks).length ≤ ks.length * 1001
 | [], _ => Nat.le_refl _
 | k :: ks, h => by
  have h1 := h k List.mem_cons_self
  have h2 := comT_le ks fun x hx => h x (List.mem_cons_of_mem _ hx)
  show (markT sCo :: k.1 ++ comT ks).length ≤ _
  rw [List.length_append, List.length_cons, List.length_cons]; omega
theorem p_asked_in (n : NodeD) (k0 k1 : Prd) (ks : List Prd) (hop : n.Op = 22 ∨ n.Op = 23) (h0 : k0.1.length ≤ 1000) (h1 : k1.1.length ≤ 1000) (hks : ks.length ≤ 10) (hk : ∀ k ∈ ks, k.1.length ≤ 1000) :
  Pure Tryz.prog 83 [nV n, kidV (k0 :: k1 :: ks)] (slV 4 TokenD.c (atF k0 5 ++ (notT n.Op ++ (markT wIn :: (markT sLp :: k1.1 ++ comT ks ++ [markT sRp]))))) := by
 have pa := p_at k0 5 (by omega)
 have ha := at_len k0 5
 have pn := p_joinL [.str wNot] [markT wNot] (by intro p hp; rw [List.mem_singleton] at hp; subst hp; exact ok_small (by decide)) (by decide) rfl (by simp)
 have hcl := comT_le ks hk
 obtain ⟨nt, hnt⟩ : ∃ nt, nt = notT n.Op := ⟨_, rfl⟩
 have hntl : nt.length ≤ 1 := by rw [hnt]; unfold notT; split <;> simp
 obtain ⟨x0, hx0⟩ : ∃ x0, x0 = atF k0 5 ++ (nt ++ (markT wIn :: (markT sLp :: k1.1))) := ⟨_, rfl⟩
 have hx0l : x0.length ≤ 2100 := by rw [hx0]; simp; omega
 have ex : atF k0 5 ++ (nt ++ (markT wIn :: (markT sLp :: k1.1 ++ comT ks ++ [markT sRp]))) = x0 ++ comT ks ++ [markT sRp] := by rw [hx0]; simp
 have pj := p_joinL [.toks (atF k0 5), .toks nt, .str wIn, .str sLp, .toks k1.1] x0 (by intro p hp; simp only [List.mem_cons, List.not_mem_nil, or_false] at hp; rcases hp with rfl | rfl | rfl | rfl | rfl <;> first | trivial | exact ok_small (by decide)) (by simp) (by rw [hx0]; simp [joinF_cons, joinF_nil, JPart.l]) (by omega)
 have pe := p_joinL [.toks (x0 ++ comT ks), .str sRp] (x0 ++ comT ks ++ [markT sRp]) (by intro p hp; simp only [List.mem_cons, List.not_mem_nil, or_false] at hp; rcases hp with rfl | rfl <;> first | trivial | exact ok_small (by decide)) (by simp) (by simp [joinF_cons, joinF_nil, JPart.l]) (by simp; omega)
 have hlen : ((k0 :: k1 :: ks).map prC).length = ks.length + 2 := by simp
 have hls : (ks.map prC).length = ks.length := List.length_map _
 rw [← hnt, ex]
 refine pure_of Tryz.func83 (by rfl) rfl (by kernel_rfl) (by rfl) ?_
 rcases hop with g | g
 ·have en : nt = [] := by rw [hnt]; unfold notT; rw [if_neg (by omega)]
  rw [en] at pj
  ((conv => whnf);repeat' ((first|(with_reducible first|apply a_|apply b_|apply c_)|((with_reducible first|apply d_|apply e_|apply f_|apply g_);focus first|omega|(simp only [q_]<;>omega))|((with_reducible first|apply i_|apply h_);focus first|omega|(simp only [q_]<;>omega))|((with_reducible apply h_);focus first|decide|kernel_rfl)|refine s_ (by decide) ?_|refine t_ (by decide) ?_|refine r_ pa rfl ?_|refine r_ pn rfl ?_|refine r_ pj rfl ?_|(refine Idx.lit rfl rfl ?_)|with_reducible first|apply l_|apply m_|apply n_|apply o_|refine p_ (fun _ => ?_) (fun _ => ?_))<;>(conv => whnf)))
  refine LoopC.mk Nat (fun j => [(7, slV 4 TokenD.c (x0 ++ comT (ks.take j))), (91, kidV ks), (92, pInt .i64 ks.length), (93, pInt .i64 j)]) (fun _ => []) [] (fun j => j ≤ ks.length) (fun j => ks.length - j) 0 (Nat.zero_le _) ?start ?round
  case start =>
   refine ⟨[], rfl, rfl, ⟨?_, ?_, ?_, .inl rfl, trivial⟩, trivial⟩
   ·exact PLe.c (by rw [List.take_zero, show comT [] = [] from rfl, List.append_nil])
   ·exact PLe.c (congrArg (C.sl 2) (cells_drop prC (k0 :: k1 :: ks) 2 rfl (z := 2) rfl))
   ·exact PLe.int (by rw [List.length_take, List.length_drop, hlen]; omega)
  case round =>
   intro j hj
   have hj : j ≤ ks.length := hj
   by_cases q : j < ks.length
   ·have hkj := hk _ (List.getElem_mem q)
    have hct := comT_le (ks.take (j + 1)) fun k h => hk k (List.mem_of_mem_take h)
    have ec := comT_snoc q
    have hcl2 := congrArg List.length ec
    rw [List.length_append] at hcl2
    have htl : (ks.take (j + 1)).length ≤ 10 := by rw [List.length_take]; omega
    have hget : ks[j]? = some ks[j] := List.getElem?_eq_getElem q
    have pr := p_joinL [.toks (x0 ++ comT (ks.take j)), .str sCo, .toks ks[j].1] (x0 ++ comT (ks.take (j + 1))) (by intro p hp; simp only [List.mem_cons, List.not_mem_nil, or_false] at hp; rcases hp with rfl | rfl | rfl <;> first | trivial | exact ok_small (by decide)) (by simp) (by rw [ec]; simp [joinF_cons, joinF_nil, JPart.l]) (by rw [List.length_append]; omega)
    ((conv => whnf);repeat' ((first|(with_reducible first|apply a_|apply b_|apply c_)|((with_reducible first|apply d_|apply e_|apply f_|apply g_);focus first|omega|(simp only [q_]<;>omega))|((with_reducible first|apply i_|apply h_);focus first|omega|(simp only [q_]<;>omega))|((with_reducible apply h_);focus first|decide|kernel_rfl)|refine s_ (by decide) ?_|refine t_ (by decide) ?_|refine r_ pr rfl ?_|(refine Idx.mapV (f := prC) j rfl _ hget ?_)|with_reducible first|apply l_|apply m_|apply n_|apply o_|refine p_ (fun _ => ?_) (fun _ => ?_))<;>(conv => whnf)))
    refine ⟨j + 1, q, by show _ < _; omega, [], rfl, rfl, ⟨.inl rfl, .inl rfl, .inl rfl, PLe.int (by omega), trivial⟩, trivial⟩
   ·have e0 : j = ks.length := by omega
    subst e0
    rw [List.take_length]
    ((conv => whnf);repeat' ((first|(with_reducible first|apply a_|apply b_|apply c_)|((with_reducible first|apply d_|apply e_|apply f_|apply g_);focus first|omega|(simp only [q_]<;>omega))|((with_reducible first|apply i_|apply h_);focus first|omega|(simp only [q_]<;>omega))|((with_reducible apply h_);focus first|decide|kernel_rfl)|refine s_ (by decide) ?_|refine t_ (by decide) ?_|refine r_ pe rfl ?_|with_reducible first|apply l_|apply m_|apply n_|apply o_|refine p_ (fun _ => ?_) (fun _ => ?_))<;>(conv => whnf)))
    exact Ret.eq rfl
 ·have en : nt = [markT wNot] := by rw [hnt]; unfold notT; rw [if_pos (by omega)]
  rw [en] at pj
  ((conv => whnf);repeat' ((first|(with_reducible first|apply a_|apply b_|apply c_)|((with_reducible first|apply d_|apply e_|apply f_|apply g_);focus first|omega|(simp only [q_]<;>omega))|((with_reducible first|apply i_|apply h_);focus first|omega|(simp only [q_]<;>omega))|((with_reducible apply h_);focus first|decide|kernel_rfl)|refine s_ (by decide) ?_|refine t_ (by decide) ?_|refine r_ pa rfl ?_|refine r_ pn rfl ?_|refine r_ pj rfl ?_|(refine Idx.lit rfl rfl ?_)|with_reducible first|apply l_|apply m_|apply n_|apply o_|refine p_ (fun _ => ?_) (fun _ => ?_))<;>(conv => whnf)))
  refine LoopC.mk Nat (fun j => [(7, slV 4 TokenD.c (x0 ++ comT (ks.take j))), (91, kidV ks), (92, pInt .i64 ks.length), (93, pInt .i64 j)]) (fun _ => []) [] (fun j => j ≤ ks.length) (fun j => ks.length - j) 0 (Nat.zero_le _) ?start ?round
  case start =>
   refine ⟨[], rfl, rfl, ⟨?_, ?_, ?_, .inl rfl, trivial⟩, trivial⟩
   ·exact PLe.c (by rw [List.take_zero, show comT [] = [] from rfl, List.append_nil])
   ·exact PLe.c (congrArg (C.sl 2) (cells_drop prC (k0 :: k1 :: ks) 2 rfl (z := 2) rfl))
   ·exact PLe.int (by rw [List.length_take, List.length_drop, hlen]; omega)
  case round =>
   intro j hj
   have hj : j ≤ ks.length := hj
   by_cases q : j < ks.length
   ·have hkj := hk _ (List.getElem_mem q)
    have hct := comT_le (ks.take (j + 1)) fun k h => hk k (List.mem_of_mem_take h)
    have ec := comT_snoc q
    have hcl2 := congrArg List.length ec
    rw [List.length_append] at hcl2
    have htl : (ks.take (j + 1)).length ≤ 10 := by rw [List.length_take]; omega
    have hget : ks[j]? = some ks[j] := List.getElem?_eq_getElem q
    have pr := p_joinL [.toks (x0 ++ comT (ks.take j)), .str sCo, .toks ks[j].1] (x0 ++ comT (ks.take (j + 1))) (by intro p hp; simp only [List.mem_cons, List.not_mem_nil, or_false] at hp; rcases hp with rfl | rfl | rfl <;> first | trivial | exact ok_small (by decide)) (by simp) (by rw [ec]; simp [joinF_cons, joinF_nil, JPart.l]) (by rw [List.length_append]; omega)
    ((conv => whnf);repeat' ((first|(with_reducible first|apply a_|apply b_|apply c_)|((with_reducible first|apply d_|apply e_|apply f_|apply g_);focus first|omega|(simp only [q_]<;>omega))|((with_reducible first|apply i_|apply h_);focus first|omega|(simp only [q_]<;>omega))|((with_reducible apply h_);focus first|decide|kernel_rfl)|refine s_ (by decide) ?_|refine t_ (by decide) ?_|refine r_ pr rfl ?_|(refine Idx.mapV (f := prC) j rfl _ hget ?_)|with_reducible first|apply l_|apply m_|apply n_|apply o_|refine p_ (fun _ => ?_) (fun _ => ?_))<;>(conv => whnf)))
    refine ⟨j + 1, q, by show _ < _; omega, [], rfl, rfl, ⟨.inl rfl, .inl rfl, .inl rfl, PLe.int (by omega), trivial⟩, trivial⟩
   ·have e0 : j = ks.length := by omega
    subst e0
    rw [List.take_length]
    ((conv => whnf);repeat' ((first|(with_reducible first|apply a_|apply b_|apply c_)|((with_reducible first|apply d_|apply e_|apply f_|apply g_);focus first|omega|(simp only [q_]<;>omega))|((with_reducible first|apply i_|apply h_);focus first|omega|(simp only [q_]<;>omega))|((with_reducible apply h_);focus first|decide|kernel_rfl)|refine s_ (by decide) ?_|refine t_ (by decide) ?_|refine r_ pe rfl ?_|with_reducible first|apply l_|apply m_|apply n_|apply o_|refine p_ (fun _ => ?_) (fun _ => ?_))<;>(conv => whnf)))
    exact Ret.eq rfl
end
section
open Go.RowKit K
set_option maxRecDepth 100000
def tokN (n : NodeD) (ks : List Prd) : List TokenD :=
 if n.Op = 1 then [litT n.V] else if n.Op = 2 then [markT n.Name] else
 match ks with
 | [a] => if n.Op = 3 then markT sMi :: atF a 7 else if n.Op = 4 then markT wNot :: atF a 3 else atF a 5 ++ (markT wIs :: (notT n.Op ++ [markT wNull]))
 | a :: b :: ks => if n.Op = 22 ∨ n.Op = 23 then atF a 5 ++ (notT n.Op ++ (markT wIn :: (markT sLp :: b.1 ++ comT ks ++ [markT sRp]))) else
  match ks with
  | [] => if n.Op = 20 ∨ n.Op = 21 then atF a 5 ++ (notT n.Op ++ (markT wLike :: atF b 5)) else if 10 ≤ n.Op ∧ n.Op ≤ 15 then atF a 5 ++ (markT (sgn n.Op) :: atF b 5) else atF a (lvlF n.Op) ++ (markT (sgn n.Op) :: atF b (lvlF n.Op + 1))
  | c :: _ => atF a 5 ++ (notT n.Op ++ (markT wBetw :: (atF b 5 ++ (markT wAnd :: atF c 5))))
 | [] => []
def prtN (n : NodeD) (ks : List Prd) : Prd := (tokN n ks, lvlF n.Op)
def opKids (n : NodeD) (k : Nat) : Prop :=
 ((n.Op = 1 ∨ n.Op = 2) ∧ k = 0) ∨ ((n.Op = 3 ∨ n.Op = 4 ∨ n.Op = 18 ∨ n.Op = 19) ∧ k = 1) ∨ ((5 ≤ n.Op ∧ n.Op ≤ 17 ∨ n.Op = 20 ∨ n.Op = 21) ∧ k = 2) ∨ ((n.Op = 24 ∨ n.Op = 25) ∧ k = 3) ∨ ((n.Op = 22 ∨ n.Op = 23) ∧ 2 ≤ k ∧ k ≤ 7)
theorem len_two {α : Type} : ∀ {l : List α}, l.length = 2 → ∃ a b, l = [a, b]
 | [a, b], _ => ⟨a, b, rfl⟩
 | [], h => by simp at h
 | [_], h => by simp at h
 | _ :: _ :: _ :: _, h => by simp at h
theorem len_three {α : Type} : ∀ {l : List α}, l.length = 3 → ∃ a b c, l = [a, b, c]
 | [a, b, c], _ => ⟨a, b, c, rfl⟩
 | [], h => by simp at h
 | [_], h => by simp at h
 | [_, _], h => by simp at h
 | _ :: _ :: _ :: _ :: _, h => by simp at h
theorem p_print (n : NodeD) (ks : List Prd) (hk : opKids n ks.length) (hn : okText n.Name) (hl : ∀ k ∈ ks, k.1.length ≤ 1000) : Pure Tryz.prog 53 [nV n, kidV ks] (.tup [prV (prtN n ks), pInt .i64 0]) := by
 obtain ⟨op, kids, v, nm⟩ := n
 unfold prtN tokN
 dsimp only at hn ⊢
 rcases hk with ⟨h, k0⟩ | ⟨h, k1⟩ | ⟨h, k2⟩ | ⟨h, k3⟩ | ⟨h, k4⟩
 ·have h : op = 1 ∨ op = 2 := h
  rcases h with rfl | rfl
  ·have pl := p_level 1
   have plit := p_literal v
   have pj := p_joinL [.tok (litT v)] [litT v] (by intro p hp; rw [List.mem_singleton] at hp; subst hp; trivial) (by simp) rfl (by simp)
   refine pure_of Tryz.func53 (by rfl) rfl (by kernel_rfl) (by rfl) ?_
   ((conv => whnf);repeat' ((first|(with_reducible first|apply a_|apply b_|apply c_)|((with_reducible first|apply d_|apply e_|apply f_|apply g_);focus first|omega|(simp only [q_]<;>omega))|((with_reducible first|apply i_|apply h_);focus first|omega|(simp only [q_]<;>omega))|((with_reducible apply h_);focus first|decide|kernel_rfl)|refine s_ (by decide) ?_|refine t_ (by decide) ?_|refine r_ pl rfl ?_|refine r_ plit rfl ?_|refine r_ pj rfl ?_|with_reducible first|apply l_|apply m_|apply n_|apply o_|refine p_ (fun _ => ?_) (fun _ => ?_))<;>(conv => whnf)))
   exact Ret.eq rfl
  ·have pl := p_level 2
   have pj := p_joinL [.str nm] [markT nm] (by intro p hp; rw [List.mem_singleton] at hp; subst hp; exact hn) (by simp) rfl (by simp)
   refine pure_of Tryz.func53 (by rfl) rfl (by kernel_rfl) (by rfl) ?_
   ((conv => whnf);repeat' ((first|(with_reducible first|apply a_|apply b_|apply c_)|((with_reducible first|apply d_|apply e_|apply f_|apply g_);focus first|omega|(simp only [q_]<;>omega))|((with_reducible first|apply i_|apply h_);focus first|omega|(simp only [q_]<;>omega))|((with_reducible apply h_);focus first|decide|kernel_rfl)|refine s_ (by decide) ?_|refine t_ (by decide) ?_|refine r_ pl rfl ?_|refine r_ pj rfl ?_|with_reducible first|apply l_|apply m_|apply n_|apply o_|refine p_ (fun _ => ?_) (fun _ => ?_))<;>(conv => whnf)))
   exact Ret.eq rfl
 ·obtain ⟨a, rfl⟩ := List.length_eq_one_iff.1 k1
  have ha := hl a List.mem_cons_self
  have h : op = 3 ∨ op = 4 ∨ op = 18 ∨ op = 19 := h
  rcases h with rfl | rfl | rfl | rfl
  ·have pl := p_level 3
   have ps := p_sign 3
   have pa := p_at a 7 (by omega)
   have la := at_len a 7
   have pj := p_joinL [.str sMi, .toks (atF a 7)] (markT sMi :: atF a 7) (by intro p hp; simp only [List.mem_cons, List.not_mem_nil, or_false] at hp; rcases hp with rfl | rfl <;> first | trivial | exact ok_small (by decide)) (by simp) (by simp [joinF_cons, joinF_nil, JPart.l]) (by simp; omega)
   refine pure_of Tryz.func53 (by rfl) rfl (by kernel_rfl) (by rfl) ?_
   ((conv => whnf);repeat' ((first|(with_reducible first|apply a_|apply b_|apply c_)|((with_reducible first|apply d_|apply e_|apply f_|apply g_);focus first|omega|(simp only [q_]<;>omega))|((with_reducible first|apply i_|apply h_);focus first|omega|(simp only [q_]<;>omega))|((with_reducible apply h_);focus first|decide|kernel_rfl)|refine s_ (by decide) ?_|refine t_ (by decide) ?_|refine r_ pl rfl ?_|refine r_ ps rfl ?_|refine r_ pa rfl ?_|refine r_ pj rfl ?_|(refine Idx.lit rfl rfl ?_)|with_reducible first|apply l_|apply m_|apply n_|apply o_|refine p_ (fun _ => ?_) (fun _ => ?_))<;>(conv => whnf)))
   exact Ret.eq rfl
  ·have pl := p_level 4
   have ps := p_sign 4
   have pa := p_at a 3 (by omega)
   have la := at_len a 3
   have pj := p_joinL [.str wNot, .toks (atF a 3)] (markT wNot :: atF a 3) (by intro p hp; simp only [List.mem_cons, List.not_mem_nil, or_false] at hp; rcases hp with rfl | rfl <;> first | trivial | exact ok_small (by decide)) (by simp) (by simp [joinF_cons, joinF_nil, JPart.l]) (by simp; omega)
   refine pure_of Tryz.func53 (by rfl) rfl (by kernel_rfl) (by rfl) ?_
   ((conv => whnf);repeat' ((first|(with_reducible first|apply a_|apply b_|apply c_)|((with_reducible first|apply d_|apply e_|apply f_|apply g_);focus first|omega|(simp only [q_]<;>omega))|((with_reducible first|apply i_|apply h_);focus first|omega|(simp only [q_]<;>omega))|((with_reducible apply h_);focus first|decide|kernel_rfl)|refine s_ (by decide) ?_|refine t_ (by decide) ?_|refine r_ pl rfl ?_|refine r_ ps rfl ?_|refine r_ pa rfl ?_|refine r_ pj rfl ?_|(refine Idx.lit rfl rfl ?_)|with_reducible first|apply l_|apply m_|apply n_|apply o_|refine p_ (fun _ => ?_) (fun _ => ?_))<;>(conv => whnf)))
   exact Ret.eq rfl
  all_goals
   have pl := p_level 18
   have pl' := p_level 19
   have pq := p_asked1 ⟨18, kids, v, nm⟩ a (.inl rfl) ha
   have pq' := p_asked1 ⟨19, kids, v, nm⟩ a (.inr rfl) ha
   refine pure_of Tryz.func53 (by rfl) rfl (by kernel_rfl) (by rfl) ?_
   ((conv => whnf);repeat' ((first|(with_reducible first|apply a_|apply b_|apply c_)|((with_reducible first|apply d_|apply e_|apply f_|apply g_);focus first|omega|(simp only [q_]<;>omega))|((with_reducible first|apply i_|apply h_);focus first|omega|(simp only [q_]<;>omega))|((with_reducible apply h_);focus first|decide|kernel_rfl)|refine s_ (by decide) ?_|refine t_ (by decide) ?_|refine r_ pl rfl ?_|refine r_ pl' rfl ?_|refine r_ pq rfl ?_|refine r_ pq' rfl ?_|with_reducible first|apply l_|apply m_|apply n_|apply o_|refine p_ (fun _ => ?_) (fun _ => ?_))<;>(conv => whnf)))
   exact Ret.eq rfl
 ·obtain ⟨a, b, rfl⟩ := len_two k2
  have ha := hl a List.mem_cons_self
  have hb := hl b (List.mem_cons_of_mem _ List.mem_cons_self)
  have h : 5 ≤ op ∧ op ≤ 17 ∨ op = 20 ∨ op = 21 := h
  by_cases h4 : 10 ≤ op ∧ op ≤ 15
  ·have pq := p_asked4 ⟨op, kids, v, nm⟩ a b h4 ha hb
   have pl := p_level op
   have e4 : lvlF op = 4 := by
    unfold lvlF
    rw [if_neg (by omega), if_neg (by omega), if_neg (by omega), if_neg (by omega), if_neg (by omega), if_neg (by omega), if_neg (by omega)]
   rw [if_neg (by omega), if_neg (by omega)]
   dsimp only
   rw [if_neg (by omega), if_neg (by omega), if_pos h4, e4]
   rw [e4] at pl
   refine pure_of Tryz.func53 (by rfl) rfl (by kernel_rfl) (by rfl) ?_
   ((conv => whnf);repeat' ((first|(with_reducible first|apply a_|apply b_|apply c_)|((with_reducible first|apply d_|apply e_|apply f_|apply g_);focus first|omega|(simp only [q_]<;>omega))|((with_reducible first|apply i_|apply h_);focus first|omega|(simp only [q_]<;>omega))|((with_reducible apply h_);focus first|decide|kernel_rfl)|refine s_ (by decide) ?_|refine t_ (by decide) ?_|refine r_ pl rfl ?_|refine r_ pq rfl ?_|with_reducible first|apply l_|apply m_|apply n_|apply o_|refine p_ (fun _ => ?_) (fun _ => ?_))<;>(conv => whnf)))
   all_goals first | exact Ret.eq rfl | (exfalso; omega)
  by_cases h2 : op = 20 ∨ op = 21
  ·have pq := p_asked2 ⟨op, kids, v, nm⟩ a b h2 ha hb
   have pl := p_level op
   have e4 : lvlF op = 4 := by
    unfold lvlF
    rw [if_neg (by omega), if_neg (by omega), if_neg (by omega), if_neg (by omega), if_neg (by omega), if_neg (by omega), if_neg (by omega)]
   rw [if_neg (by omega), if_neg (by omega)]
   dsimp only
   rw [if_neg (by omega), if_pos h2, e4]
   rw [e4] at pl
   refine pure_of Tryz.func53 (by rfl) rfl (by kernel_rfl) (by rfl) ?_
   ((conv => whnf);repeat' ((first|(with_reducible first|apply a_|apply b_|apply c_)|((with_reducible first|apply d_|apply e_|apply f_|apply g_);focus first|omega|(simp only [q_]<;>omega))|((with_reducible first|apply i_|apply h_);focus first|omega|(simp only [q_]<;>omega))|((with_reducible apply h_);focus first|decide|kernel_rfl)|refine s_ (by decide) ?_|refine t_ (by decide) ?_|refine r_ pl rfl ?_|refine r_ pq rfl ?_|with_reducible first|apply l_|apply m_|apply n_|apply o_|refine p_ (fun _ => ?_) (fun _ => ?_))<;>(conv => whnf)))
   all_goals first | exact Ret.eq rfl | (exfalso; omega)
  have pl := p_level op
  have ps := p_sign op
  have hs := sgn_len op
  have pa := p_at a (lvlF op) (by omega)
  have la := at_len a (lvlF op)
  have pb := p_at b (lvlF op + 1) (by omega)
  have lb := at_len b (lvlF op + 1)
  have pj := p_joinL [.toks (atF a (lvlF op)), .str (sgn op), .toks (atF b (lvlF op + 1))] (atF a (lvlF op) ++ (markT (sgn op) :: atF b (lvlF op + 1))) (by intro p hp; simp only [List.mem_cons, List.not_mem_nil, or_false] at hp; rcases hp with rfl | rfl | rfl <;> first | trivial | exact ok_small (by omega)) (by simp) (by simp [joinF_cons, joinF_nil, JPart.l]) (by simp; omega)
  have hlv : lvlF op = 1 ∨ lvlF op = 2 ∨ lvlF op = 5 ∨ lvlF op = 6 := by
   have : op = 5 ∨ op = 6 ∨ op = 7 ∨ op = 8 ∨ op = 9 ∨ op = 16 ∨ op = 17 := by omega
   rcases this with rfl | rfl | rfl | rfl | rfl | rfl | rfl <;> decide
  rw [if_neg (by omega), if_neg (by omega)]
  dsimp only
  rw [if_neg (by omega), if_neg (by omega), if_neg (by omega)]
  obtain ⟨L, hL⟩ : ∃ L, L = lvlF op := ⟨_, rfl⟩
  rw [← hL] at pl pa pb pj hlv ⊢
  refine pure_of Tryz.func53 (by rfl) rfl (by kernel_rfl) (by rfl) ?_
  ((conv => whnf);repeat' ((first|(with_reducible first|apply a_|apply b_|apply c_)|((with_reducible first|apply d_|apply e_|apply f_|apply g_);focus first|omega|(simp only [q_]<;>omega))|((with_reducible first|apply i_|apply h_);focus first|omega|(simp only [q_]<;>omega))|((with_reducible apply h_);focus first|decide|kernel_rfl)|refine s_ (by decide) ?_|refine t_ (by decide) ?_|refine r_ pl rfl ?_|refine r_ ps rfl ?_|refine r_ pa rfl ?_|refine r_ pb rfl ?_|refine r_ pj rfl ?_|(refine Idx.lit rfl rfl ?_)|with_reducible first|apply l_|apply m_|apply n_|apply o_|refine p_ (fun _ => ?_) (fun _ => ?_))<;>(conv => whnf)))
  all_goals first | exact Ret.eq rfl | (exfalso; omega)
 ·obtain ⟨a, b, c, rfl⟩ := len_three k3
  have h : op = 24 ∨ op = 25 := h
  have pq := p_asked3 ⟨op, kids, v, nm⟩ a b c h (hl a (by simp)) (hl b (by simp)) (hl c (by simp))
  have pl := p_level op
  have e4 : lvlF op = 4 := by
   unfold lvlF
   rw [if_neg (by omega), if_neg (by omega), if_neg (by omega), if_neg (by omega), if_neg (by omega), if_neg (by omega), if_neg (by omega)]
  rw [if_neg (by omega), if_neg (by omega)]
  dsimp only
  rw [if_neg (by omega), e4]
  rw [e4] at pl
  refine pure_of Tryz.func53 (by rfl) rfl (by kernel_rfl) (by rfl) ?_
  ((conv => whnf);repeat' ((first|(with_reducible first|apply a_|apply b_|apply c_)|((with_reducible first|apply d_|apply e_|apply f_|apply g_);focus first|omega|(simp only [q_]<;>omega))|((with_reducible first|apply i_|apply h_);focus first|omega|(simp only [q_]<;>omega))|((with_reducible apply h_);focus first|decide|kernel_rfl)|refine s_ (by decide) ?_|refine t_ (by decide) ?_|refine r_ pl rfl ?_|refine r_ pq rfl ?_|with_reducible first|apply l_|apply m_|apply n_|apply o_|refine p_ (fun _ => ?_) (fun _ => ?_))<;>(conv => whnf)))
  all_goals first | exact Ret.eq rfl | (exfalso; omega)
 ·have h : op = 22 ∨ op = 23 := h
  match ks, k4, hl with
  | a :: b :: ks, k4, hl =>
   have pq := p_asked_in ⟨op, kids, v, nm⟩ a b ks h (hl a (by simp)) (hl b (by simp)) (by simp at k4; omega) (fun k hk => hl k (by simp [hk]))
   have pl := p_level op
   have e4 : lvlF op = 4 := by
    unfold lvlF
    rw [if_neg (by omega), if_neg (by omega), if_neg (by omega), if_neg (by omega), if_neg (by omega), if_neg (by omega), if_neg (by omega)]
   rw [if_neg (by omega), if_neg (by omega)]
   dsimp only
   rw [if_pos h, e4]
   rw [e4] at pl
   refine pure_of Tryz.func53 (by rfl) rfl (by kernel_rfl) (by rfl) ?_
   ((conv => whnf);repeat' ((first|(with_reducible first|apply a_|apply b_|apply c_)|((with_reducible first|apply d_|apply e_|apply f_|apply g_);focus first|omega|(simp only [q_]<;>omega))|((with_reducible first|apply i_|apply h_);focus first|omega|(simp only [q_]<;>omega))|((with_reducible apply h_);focus first|decide|kernel_rfl)|refine s_ (by decide) ?_|refine t_ (by decide) ?_|refine r_ pl rfl ?_|refine r_ pq rfl ?_|with_reducible first|apply l_|apply m_|apply n_|apply o_|refine p_ (fun _ => ?_) (fun _ => ?_))<;>(conv => whnf)))
   all_goals first | exact Ret.eq rfl | (exfalso; omega)
  | [a], k4, _ => simp at k4
  | [], k4, _ => simp at k4
end
section
open Go.RowKit K
set_option maxRecDepth 100000
theorem chk_ok {l : List NodeD} (h : chkO 0 l = 0) : walkR deepF l = .ok (depthE l) := by
 obtain ⟨x, hx⟩ := chk_walk (fun _ ks => maxL ks + 1) l [] h
 have hx : walkR deepF l = .ok x := by
  unfold walkR
  rw [show walkG deepF [] l = .ok [x] from hx]
 rw [hx]
 unfold depthE
 rw [hx]
theorem p_echeck (l : List NodeD) (hn : ∀ n ∈ l, okText n.Name) : Pure Tryz.prog 10 [slV 6 NodeD.c l] (pInt .i64 (checkF l)) := by
 refine pure_of Tryz.func10 (by rfl) rfl (by kernel_rfl) (by rfl) ?_
 by_cases h60 : 60 < l.length
 ·rw [show checkF l = 2 from if_pos h60]
  ((conv => whnf);repeat' ((first|(with_reducible first|apply a_|apply b_|apply c_)|((with_reducible first|apply d_|apply e_|apply f_|apply g_);focus first|omega|(simp only [q_]<;>omega))|((with_reducible first|apply i_|apply h_);focus first|omega|(simp only [q_]<;>omega))|((with_reducible apply h_);focus first|decide|kernel_rfl)|refine s_ (by decide) ?_|refine t_ (by decide) ?_|with_reducible first|apply l_|apply m_|apply n_|apply o_|refine p_ (fun _ => ?_) (fun _ => ?_))<;>(conv => whnf)))
  exact Ret.int rfl
 ·((conv => whnf);repeat' ((first|(with_reducible first|apply a_|apply b_|apply c_)|((with_reducible first|apply d_|apply e_|apply f_|apply g_);focus first|omega|(simp only [q_]<;>omega))|((with_reducible first|apply i_|apply h_);focus first|omega|(simp only [q_]<;>omega))|((with_reducible apply h_);focus first|decide|kernel_rfl)|refine s_ (by decide) ?_|refine t_ (by decide) ?_|with_reducible first|apply l_|apply m_|apply n_|apply o_|refine p_ (fun _ => ?_) (fun _ => ?_))<;>(conv => whnf)))
  refine LoopC.mk (Nat × Nat) (fun s => [(0, slV 6 NodeD.c l), (3, pInt .i64 s.2), (12, slV 6 NodeD.c l), (13, pInt .i64 l.length), (14, pInt .i64 s.1)]) (fun _ => []) [] (fun s => s.1 ≤ l.length ∧ s.2 ≤ s.1 ∧ chkO 0 l = chkO s.2 (l.drop s.1)) (fun s => l.length - s.1) (0, 0) ⟨Nat.zero_le _, Nat.zero_le _, rfl⟩ ?start ?round
  case start => exact ⟨[], rfl, rfl, ⟨.inl rfl, .inl rfl, .inl rfl, PLe.int (by simp), .inl rfl, trivial⟩, trivial⟩
  case round =>
   rintro ⟨j, o⟩ ⟨hj, i1, i2⟩
   have hj : j ≤ l.length := hj
   have i1 : o ≤ j := i1
   have i2 : chkO 0 l = chkO o (l.drop j) := i2
   by_cases q : j < l.length
   ·have hm := List.getElem_mem q
    have pa := p_alone l[j] (hn _ hm)
    rw [List.drop_eq_getElem_cons q, chkO_cons] at i2
    by_cases g : alF l[j] = 0
    ·have hk := alF_kids g
     rw [if_neg (by rw [g]; decide)] at i2
     rw [g] at pa
     by_cases g2 : (o : Int) < l[j].Kids
     ·rw [if_pos g2] at i2
      have hc : checkF l = 1 := by unfold checkF; rw [if_neg h60, if_pos (by rw [i2]; decide), i2]
      rw [hc]
      ((conv => whnf);repeat' ((first|(with_reducible first|apply a_|apply b_|apply c_)|((with_reducible first|apply d_|apply e_|apply f_|apply g_);focus first|omega|(simp only [q_]<;>omega))|((with_reducible first|apply i_|apply h_);focus first|omega|(simp only [q_]<;>omega))|((with_reducible apply h_);focus first|decide|kernel_rfl)|refine s_ (by decide) ?_|refine t_ (by decide) ?_|(refine Idx.mapI j rfl q ?_)|refine r_ pa rfl ?_|with_reducible first|apply l_|apply m_|apply n_|apply o_|refine p_ (fun _ => ?_) (fun _ => ?_))<;>(conv => whnf)))
      all_goals exact Ret.int rfl
     ·rw [if_neg g2] at i2
      ((conv => whnf);repeat' ((first|(with_reducible first|apply a_|apply b_|apply c_)|((with_reducible first|apply d_|apply e_|apply f_|apply g_);focus first|omega|(simp only [q_]<;>omega))|((with_reducible first|apply i_|apply h_);focus first|omega|(simp only [q_]<;>omega))|((with_reducible apply h_);focus first|decide|kernel_rfl)|refine s_ (by decide) ?_|refine t_ (by decide) ?_|(refine Idx.mapI j rfl q ?_)|refine r_ pa rfl ?_|with_reducible first|apply l_|apply m_|apply n_|apply o_|refine p_ (fun _ => ?_) (fun _ => ?_))<;>(conv => whnf)))
      refine ⟨(j + 1, o + 1 - l[j].Kids.toNat), ⟨by show j + 1 ≤ _; omega, by show o + 1 - _ ≤ j + 1; omega, i2⟩, by show l.length - (j + 1) < l.length - j; omega, [], rfl, rfl, ⟨.inl rfl, PLe.int ?_, .inl rfl, .inl rfl, PLe.int rfl, trivial⟩, trivial⟩
      show _ = ((o + 1 - l[j].Kids.toNat : Nat) : Int)
      omega
    ·rw [if_pos g] at i2
     have hc : checkF l = alF l[j] := by unfold checkF; rw [if_neg h60, if_pos (by rw [i2]; exact g), i2]
     rw [hc]
     ((conv => whnf);repeat' ((first|(with_reducible first|apply a_|apply b_|apply c_)|((with_reducible first|apply d_|apply e_|apply f_|apply g_);focus first|omega|(simp only [q_]<;>omega))|((with_reducible first|apply i_|apply h_);focus first|omega|(simp only [q_]<;>omega))|((with_reducible apply h_);focus first|decide|kernel_rfl)|refine s_ (by decide) ?_|refine t_ (by decide) ?_|(refine Idx.mapI j rfl q ?_)|refine r_ pa rfl ?_|with_reducible first|apply l_|apply m_|apply n_|apply o_|refine p_ (fun _ => ?_) (fun _ => ?_))<;>(conv => whnf)))
     all_goals exact Ret.int rfl
   ·rw [List.drop_of_length_le (by omega)] at i2
    have i2 : chkO 0 l = if o ≠ 1 then 1 else 0 := i2
    by_cases g : o = 1
    ·rw [if_neg (by omega)] at i2
     have pw := p_walki l (by omega)
     rw [chk_ok i2] at pw
     have pw : Pure _ _ _ (.tup [pInt .i64 (depthE l), pInt .i64 0]) := pw
     have hc : checkF l = if 12 < depthE l then 10 else 0 := by unfold checkF; rw [if_neg h60, if_neg (by rw [i2]; decide)]
     rw [hc]
     ((conv => whnf);repeat' ((first|(with_reducible first|apply a_|apply b_|apply c_)|((with_reducible first|apply d_|apply e_|apply f_|apply g_);focus first|omega|(simp only [q_]<;>omega))|((with_reducible first|apply i_|apply h_);focus first|omega|(simp only [q_]<;>omega))|((with_reducible apply h_);focus first|decide|kernel_rfl)|refine s_ (by decide) ?_|refine t_ (by decide) ?_|refine r_ pw rfl ?_|with_reducible first|apply l_|apply m_|apply n_|apply o_|refine p_ (fun _ => ?_) (fun _ => ?_))<;>(conv => whnf)))
     (all_goals (refine Ret.int ?_; ((repeat' split) <;> first | rfl | omega)))
    ·rw [if_pos g] at i2
     have hc : checkF l = 1 := by unfold checkF; rw [if_neg h60, if_pos (by rw [i2]; decide), i2]
     rw [hc]
     ((conv => whnf);repeat' ((first|(with_reducible first|apply a_|apply b_|apply c_)|((with_reducible first|apply d_|apply e_|apply f_|apply g_);focus first|omega|(simp only [q_]<;>omega))|((with_reducible first|apply i_|apply h_);focus first|omega|(simp only [q_]<;>omega))|((with_reducible apply h_);focus first|decide|kernel_rfl)|refine s_ (by decide) ?_|refine t_ (by decide) ?_|with_reducible first|apply l_|apply m_|apply n_|apply o_|refine p_ (fun _ => ?_) (fun _ => ?_))<;>(conv => whnf)))
     all_goals exact Ret.int rfl
theorem drop_back {α : Type} (st : List α) (k : Nat) (h : k < st.length) : st.drop (st.length - (k + 1)) = st[st.length - (k + 1)] :: st.drop (st.length - k) := by
 rw [List.drop_eq_getElem_cons (by omega), show st.length - (k + 1) + 1 = st.length - k by omega]
theorem p_exprcheck (l : List NodeD) (hn : ∀ n ∈ l, okText n.Name) : Pure Tryz.prog 34 [slV 6 NodeD.c l] (pInt .i64 (checkF l)) := by
 refine pure_of Tryz.func34 (by rfl) rfl (by kernel_rfl) (by rfl) ?_
 rw [← checkR_eq]
 by_cases h60 : 60 < l.length
 ·rw [if_pos h60]
  ((conv => whnf);repeat' ((first|(with_reducible first|apply a_|apply b_|apply c_)|((with_reducible first|apply d_|apply e_|apply f_|apply g_);focus first|omega|(simp only [q_]<;>omega))|((with_reducible first|apply i_|apply h_);focus first|omega|(simp only [q_]<;>omega))|((with_reducible apply h_);focus first|decide|kernel_rfl)|refine s_ (by decide) ?_|refine t_ (by decide) ?_|with_reducible first|apply l_|apply m_|apply n_|apply o_|refine p_ (fun _ => ?_) (fun _ => ?_))<;>(conv => whnf)))
  exact Ret.int rfl
 rw [if_neg h60]
 by_cases h00 : l.length = 0
 ·rw [if_pos h00]
  ((conv => whnf);repeat' ((first|(with_reducible first|apply a_|apply b_|apply c_)|((with_reducible first|apply d_|apply e_|apply f_|apply g_);focus first|omega|(simp only [q_]<;>omega))|((with_reducible first|apply i_|apply h_);focus first|omega|(simp only [q_]<;>omega))|((with_reducible apply h_);focus first|decide|kernel_rfl)|refine s_ (by decide) ?_|refine t_ (by decide) ?_|with_reducible first|apply l_|apply m_|apply n_|apply o_|refine p_ (fun _ => ?_) (fun _ => ?_))<;>(conv => whnf)))
  all_goals exact Ret.int rfl
 rw [if_neg h00]
 ((conv => whnf);repeat' ((first|(with_reducible first|apply a_|apply b_|apply c_)|((with_reducible first|apply d_|apply e_|apply f_|apply g_);focus first|omega|(simp only [q_]<;>omega))|((with_reducible first|apply i_|apply h_);focus first|omega|(simp only [q_]<;>omega))|((with_reducible apply h_);focus first|decide|kernel_rfl)|refine s_ (by decide) ?_|refine t_ (by decide) ?_|with_reducible first|apply l_|apply m_|apply n_|apply o_|refine p_ (fun _ => ?_) (fun _ => ?_))<;>(conv => whnf)))
 refine LoopC.mk (Nat × List Nat) (fun s => [(0, slV 6 NodeD.c l), (3, .d (.arr 60 3 1 0 s.2.length)), (4, pInt .i64 s.1)]) (fun s => [(60, .arr 3 1 (s.2.map dC))]) [60] (fun s => s.1 ≤ l.length ∧ s.2.length ≤ s.1 ∧ (∀ x ∈ s.2, x ≤ s.1) ∧ chkR [] l = chkR s.2 (l.drop s.1)) (fun s => l.length - s.1) (0, []) ⟨Nat.zero_le _, Nat.zero_le _, by simp, rfl⟩ ?start ?round
 case start => exact ⟨[], rfl, rfl, ⟨.inl rfl, ⟨rfl, rfl, Nat.zero_lt_succ _, rfl, rfl⟩, .inl rfl, trivial⟩, ⟨rfl, Nat.zero_lt_succ _, rfl⟩, trivial⟩
 case round =>
  rintro ⟨j, st⟩ ⟨hj, i1, i2, i3⟩
  have hj : j ≤ l.length := hj
  have i1 : st.length ≤ j := i1
  have i2 : ∀ x ∈ st, x ≤ j := i2
  have i3 : chkR [] l = chkR st (l.drop j) := i3
  by_cases q : j < l.length
  ·have hm := List.getElem_mem q
   have pa := p_nodecheck l[j] (hn _ hm)
   rw [List.drop_eq_getElem_cons q, chkR_cons] at i3
   by_cases g : alF l[j] = 0
   ·have hk := alF_kids g
    rw [if_neg (by rw [g]; decide)] at i3
    rw [g] at pa
    by_cases g2 : (st.length : Int) < l[j].Kids
    ·rw [if_pos g2] at i3
     rw [i3]
     ((conv => whnf);repeat' ((first|(with_reducible first|apply a_|apply b_|apply c_)|((with_reducible first|apply d_|apply e_|apply f_|apply g_);focus first|omega|(simp only [q_]<;>omega))|((with_reducible first|apply i_|apply h_);focus first|omega|(simp only [q_]<;>omega))|((with_reducible apply h_);focus first|decide|kernel_rfl)|refine s_ (by decide) ?_|refine t_ (by decide) ?_|(refine Idx.mapI j rfl q ?_)|refine r_ pa rfl ?_|with_reducible first|apply l_|apply m_|apply n_|apply o_|refine p_ (fun _ => ?_) (fun _ => ?_))<;>(conv => whnf)))
     all_goals exact Ret.int rfl
    ·rw [if_neg g2] at i3
     ((conv => whnf);repeat' ((first|(with_reducible first|apply a_|apply b_|apply c_)|((with_reducible first|apply d_|apply e_|apply f_|apply g_);focus first|omega|(simp only [q_]<;>omega))|((with_reducible first|apply i_|apply h_);focus first|omega|(simp only [q_]<;>omega))|((with_reducible apply h_);focus first|decide|kernel_rfl)|refine s_ (by decide) ?_|refine t_ (by decide) ?_|(refine Idx.mapI j rfl q ?_)|refine r_ pa rfl ?_|with_reducible first|apply l_|apply m_|apply n_|apply o_|refine p_ (fun _ => ?_) (fun _ => ?_))<;>(conv => whnf)))
     refine LoopC.mk Nat (fun k => [(0, slV 6 NodeD.c l), (3, .d (.arr 60 3 1 0 (st.length - k))), (4, pInt .i64 j), (6, pInt .i64 (maxL (st.drop (st.length - k)))), (7, pInt .i64 k)]) (fun _ => [(60, .arr 3 1 (st.map dC))]) [60] (fun k => (k : Int) ≤ l[j].Kids) (fun k => l[j].Kids.toNat - k) 0 (by omega) ?s2 ?r2
     case s2 => exact ⟨[(60, 60)], rfl, rfl, ⟨.inl rfl, ⟨rfl, rfl, rfl, rfl, rfl, rfl⟩, .inl rfl, PLe.int (by rw [List.drop_of_length_le (by omega)]; rfl), .inl rfl, trivial⟩, ⟨rfl, rfl, rfl, rfl⟩, trivial⟩
     case r2 =>
      intro k hk2
      have hk2 : (k : Int) ≤ l[j].Kids := hk2
      have hx1 : ∀ x ∈ st.drop (st.length - k), x ≤ j := fun x hx => i2 x (List.mem_of_mem_drop hx)
      have hx2 := maxL_le _ _ hx1
      by_cases k1 : (k : Int) < l[j].Kids
      ·have hkl : k < st.length := by omega
       have lR : ∀ n, n = st.length - (k + 1) → (st.map dC)[n]? = some (dC st[st.length - (k + 1)]) := by
        rintro n rfl
        rw [List.getElem?_map, List.getElem?_eq_getElem (by omega)]; rfl
       have hb := drop_back st k hkl
       ((conv => whnf);repeat' ((first|(with_reducible first|apply a_|apply b_|apply c_)|((with_reducible first|apply d_|apply e_|apply f_|apply g_);focus first|omega|(simp only [q_]<;>omega))|((with_reducible first|apply i_|apply h_);focus first|omega|(simp only [q_]<;>omega))|((with_reducible apply h_);focus first|decide|kernel_rfl)|refine s_ (by decide) ?_|refine t_ (by decide) ?_|(refine Idx.mapI j rfl q ?_)|(refine Row.mk _ (lR _ (by omega)) ?_)|with_reducible first|apply l_|apply m_|apply n_|apply o_|refine p_ (fun _ => ?_) (fun _ => ?_))<;>(conv => whnf)))
       all_goals
        refine ⟨k + 1, by omega, by omega, [(60, 60)], rfl, rfl, ⟨.inl rfl, ⟨rfl, rfl, rfl, rfl, rfl, ?_⟩, .inl rfl, PLe.int (by rw [hb, maxL]; omega), .inl rfl, trivial⟩, ⟨rfl, rfl, rfl, rfl⟩, trivial⟩
        omega
      ·have ek : l[j].Kids = (k : Int) := by omega
       have ek2 : l[j].Kids.toNat = k := by omega
       rw [ek2] at i3
       ((conv => whnf);repeat' ((first|(with_reducible first|apply a_|apply b_|apply c_)|((with_reducible first|apply d_|apply e_|apply f_|apply g_);focus first|omega|(simp only [q_]<;>omega))|((with_reducible first|apply i_|apply h_);focus first|omega|(simp only [q_]<;>omega))|((with_reducible apply h_);focus first|decide|kernel_rfl)|refine s_ (by decide) ?_|refine t_ (by decide) ?_|(refine Idx.mapI j rfl q ?_)|(refine Need.by 8 rfl (by simp only [List.length_singleton];omega) ?_)|with_reducible first|apply l_|apply m_|apply n_|apply o_|refine p_ (fun _ => ?_) (fun _ => ?_))<;>(conv => whnf)))
       refine ⟨(j + 1, st.take (st.length - k) ++ [maxL (st.drop (st.length - k)) + 1]), ⟨by show j + 1 ≤ _; omega, ?_, ?_, i3⟩, by show l.length - (j + 1) < l.length - j; omega, [(60, 65)], rfl, rfl, ⟨.inl rfl, ⟨rfl, rfl, rfl, rfl, rfl, ?_⟩, PLe.int rfl, trivial⟩, ⟨rfl, rfl, rfl, ?_⟩, trivial⟩
       ·show (st.take _ ++ [_]).length ≤ j + 1
        rw [List.length_append, List.length_take, List.length_singleton]; omega
       ·intro x hx
        show x ≤ j + 1
        rcases List.mem_append.1 hx with hx | hx
        ·have := i2 x (List.mem_of_mem_take hx); omega
        ·rw [List.mem_singleton.1 hx]; omega
       ·show _ = (st.take _ ++ [_]).length
        rw [List.length_append, List.length_take, List.length_singleton]; simp only [List.length_singleton]; omega
       ·show _ = (st.take _ ++ [_]).map dC
        rw [List.map_append, List.map_take]
        rfl
   ·rw [if_pos g] at i3
    rw [i3]
    ((conv => whnf);repeat' ((first|(with_reducible first|apply a_|apply b_|apply c_)|((with_reducible first|apply d_|apply e_|apply f_|apply g_);focus first|omega|(simp only [q_]<;>omega))|((with_reducible first|apply i_|apply h_);focus first|omega|(simp only [q_]<;>omega))|((with_reducible apply h_);focus first|decide|kernel_rfl)|refine s_ (by decide) ?_|refine t_ (by decide) ?_|(refine Idx.mapI j rfl q ?_)|refine r_ pa rfl ?_|with_reducible first|apply l_|apply m_|apply n_|apply o_|refine p_ (fun _ => ?_) (fun _ => ?_))<;>(conv => whnf)))
    all_goals exact Ret.int rfl
  ·rw [List.drop_of_length_le (by omega)] at i3
   have i3 : chkR [] l = if st.length ≠ 1 then 1 else if 12 < st.headD 0 then 10 else 0 := i3
   rw [i3]
   rcases st with _ | ⟨x, _ | ⟨y, r⟩⟩
   ·((conv => whnf);repeat' ((first|(with_reducible first|apply a_|apply b_|apply c_)|((with_reducible first|apply d_|apply e_|apply f_|apply g_);focus first|omega|(simp only [q_]<;>omega))|((with_reducible first|apply i_|apply h_);focus first|omega|(simp only [q_]<;>omega))|((with_reducible apply h_);focus first|decide|kernel_rfl)|refine s_ (by decide) ?_|refine t_ (by decide) ?_|with_reducible first|apply l_|apply m_|apply n_|apply o_|refine p_ (fun _ => ?_) (fun _ => ?_))<;>(conv => whnf)))
    all_goals exact Ret.int rfl
   ·((conv => whnf);repeat' ((first|(with_reducible first|apply a_|apply b_|apply c_)|((with_reducible first|apply d_|apply e_|apply f_|apply g_);focus first|omega|(simp only [q_]<;>omega))|((with_reducible first|apply i_|apply h_);focus first|omega|(simp only [q_]<;>omega))|((with_reducible apply h_);focus first|decide|kernel_rfl)|refine s_ (by decide) ?_|refine t_ (by decide) ?_|with_reducible first|apply l_|apply m_|apply n_|apply o_|refine p_ (fun _ => ?_) (fun _ => ?_))<;>(conv => whnf)))
    refine Row.mk _ rfl ?_
    rw [show (if [x].length ≠ 1 then (1 : Int) else if 12 < [x].headD 0 then 10 else 0) = if 12 < x then 10 else 0 from rfl]
    ((conv => whnf);repeat' ((first|(with_reducible first|apply a_|apply b_|apply c_)|((with_reducible first|apply d_|apply e_|apply f_|apply g_);focus first|omega|(simp only [q_]<;>omega))|((with_reducible first|apply i_|apply h_);focus first|omega|(simp only [q_]<;>omega))|((with_reducible apply h_);focus first|decide|kernel_rfl)|refine s_ (by decide) ?_|refine t_ (by decide) ?_|with_reducible first|apply l_|apply m_|apply n_|apply o_|refine p_ (fun _ => ?_) (fun _ => ?_))<;>(conv => whnf)))
    (all_goals (refine Ret.int ?_; ((repeat' split) <;> first | rfl | omega)))
   ·rw [if_pos (by simp)]
    ((conv => whnf);repeat' ((first|(with_reducible first|apply a_|apply b_|apply c_)|((with_reducible first|apply d_|apply e_|apply f_|apply g_);focus first|omega|(simp only [q_]<;>omega))|((with_reducible first|apply i_|apply h_);focus first|omega|(simp only [q_]<;>omega))|((with_reducible apply h_);focus first|decide|kernel_rfl)|refine s_ (by decide) ?_|refine t_ (by decide) ?_|with_reducible first|apply l_|apply m_|apply n_|apply o_|refine p_ (fun _ => ?_) (fun _ => ?_))<;>(conv => whnf)))
    all_goals exact Ret.int rfl
end
section
open Go.RowKit K
set_option maxRecDepth 100000
def prF (n : NodeD) (ks : List Prd) : Except Int Prd := .ok (prtN n ks)
def wgt : List Prd → Nat
 | [] => 0
 | k :: ks => k.1.length + 3 + wgt ks
theorem wgt_append : ∀ a b : List Prd, wgt (a ++ b) = wgt a + wgt b
 | [], b => by rw [List.nil_append, wgt, Nat.zero_add]
 | k :: a, b => by rw [List.cons_append, wgt, wgt, wgt_append a b]; omega
theorem wgt_mem : ∀ {ks : List Prd} {k : Prd}, k ∈ ks → k.1.length ≤ wgt ks
 | k :: ks, x, h => by
  rw [wgt]
  rcases List.mem_cons.1 h with rfl | h
  ·omega
  ·have := wgt_mem h; omega
theorem comT_wgt : ∀ ks : List Prd, (comT ks).length ≤ wgt ks
 | [] => Nat.le_refl _
 | k :: ks => by
  have := comT_wgt ks
  show (markT sCo :: k.1 ++ comT ks).length ≤ _
  rw [wgt, List.length_append, List.length_cons]; omega
theorem notT_len (op : Int) : (notT op).length ≤ 1 := by unfold notT; split <;> simp
theorem tokN_len (n : NodeD) (ks : List Prd) : (tokN n ks).length ≤ wgt ks + 4 := by
 have hn := notT_len n.Op
 unfold tokN
 split
 ·simp
 split
 ·simp
 split
 ·rename_i _ a
  have h7 := at_len a 7
  have h3 := at_len a 3
  have h5 := at_len a 5
  rw [wgt, wgt]
  split
  ·simp only [List.length_cons]; omega
  split
  ·simp only [List.length_cons]; omega
  ·simp only [List.length_append, List.length_cons, List.length_nil]; omega
 ·rename_i _ a b ks
  have h5 := at_len a 5
  have g5 := at_len b 5
  have hL := at_len a (lvlF n.Op)
  have gL := at_len b (lvlF n.Op + 1)
  have hc := comT_wgt ks
  rw [wgt, wgt]
  split
  ·simp only [List.length_append, List.length_cons, List.length_nil]; omega
  split
  ·split
   ·simp only [List.length_append, List.length_cons]; omega
   split
   ·simp only [List.length_append, List.length_cons]; omega
   ·simp only [List.length_append, List.length_cons]; omega
  ·rename_i _ c ks'
   have c5 := at_len c 5
   rw [wgt]
   simp only [List.length_append, List.length_cons]; omega
 ·simp
theorem opKids_of {n : NodeD} {k : Nat} (h : alF n = 0) (hk : n.Kids = (k : Int)) : opKids n k := by
 obtain ⟨h1, h2, h3, h4, h5, h6⟩ := alF_kids h
 unfold leastK at h3
 unfold mostK leastK at h4
 unfold opKids
 rw [hk] at h3 h4
 split at h3
 ·rw [if_neg (by omega), if_pos (by assumption)] at h4; omega
 split at h3
 ·rw [if_neg (by omega), if_neg (by assumption), if_pos (by assumption)] at h4; omega
 split at h3
 ·rw [if_neg (by omega), if_neg (by assumption), if_neg (by assumption), if_pos (by assumption)] at h4; omega
 by_cases g : n.Op = 22 ∨ n.Op = 23
 ·rw [if_pos g] at h4; omega
 ·rw [if_neg g, if_neg (by assumption), if_neg (by assumption), if_neg (by assumption)] at h4; omega
theorem p_clonep (l : List Prd) (h : l.length ≤ 1000000) : Pure Tryz.prog 78 [slV 2 prC l] (slV 2 prC l) := by
 cases l with
 | nil =>
  refine pure_sl0 ?_ fun a cap => ?_
  ·refine pure_of Tryz.func78 (by rfl) rfl (by kernel_rfl) (by rfl) ?_
   ((conv => whnf);repeat' ((first|(with_reducible first|apply a_|apply b_|apply c_)|((with_reducible first|apply d_|apply e_|apply f_|apply g_);focus first|omega|(simp only [q_]<;>omega))|((with_reducible first|apply i_|apply h_);focus first|omega|(simp only [q_]<;>omega))|((with_reducible apply h_);focus first|decide|kernel_rfl)|refine s_ (by decide) ?_|refine t_ (by decide) ?_|with_reducible first|apply l_|apply m_|apply n_|apply o_|refine p_ (fun _ => ?_) (fun _ => ?_))<;>(conv => whnf)))
   exact Ret.le (.inr ⟨⟨2, rfl⟩, .inl rfl⟩)
  ·refine pure_of Tryz.func78 (by rfl) rfl (by kernel_rfl) (by rfl) ?_
   ((conv => whnf);repeat' ((first|(with_reducible first|apply a_|apply b_|apply c_)|((with_reducible first|apply d_|apply e_|apply f_|apply g_);focus first|omega|(simp only [q_]<;>omega))|((with_reducible first|apply i_|apply h_);focus first|omega|(simp only [q_]<;>omega))|((with_reducible apply h_);focus first|decide|kernel_rfl)|refine s_ (by decide) ?_|refine t_ (by decide) ?_|with_reducible first|apply l_|apply m_|apply n_|apply o_|refine p_ (fun _ => ?_) (fun _ => ?_))<;>(conv => whnf)))
   exact Ret.mk rfl
 | cons x l =>
  refine pure_of Tryz.func78 (by rfl) rfl (by kernel_rfl) (by rfl) ?_
  ((conv => whnf);repeat' ((first|(with_reducible first|apply a_|apply b_|apply c_)|((with_reducible first|apply d_|apply e_|apply f_|apply g_);focus first|omega|(simp only [q_]<;>omega))|((with_reducible first|apply i_|apply h_);focus first|omega|(simp only [q_]<;>omega))|((with_reducible apply h_);focus first|decide|kernel_rfl)|refine s_ (by decide) ?_|refine t_ (by decide) ?_|(refine Need.mk (List.cons_ne_nil _ _) ?_)|(refine Need.by 32 rfl (by simp only [List.length_map, List.length_nil, Nat.zero_add];omega) ?_)|with_reducible first|apply l_|apply m_|apply n_|apply o_|refine p_ (fun _ => ?_) (fun _ => ?_))<;>(conv => whnf)))
  exact Ret.mk rfl
theorem s_clonep (l : List Prd) (lo n : Nat) (h : lo + n ≤ l.length) (hn : n ≠ 0) (hz : l.length ≤ 1000000) : CallS Tryz.prog 78 [.d (.arr FK 81 2 lo n)] [(FK, .arr 81 2 (l.map prC))] [] (slV 2 prC ((l.drop lo).take n)) [] := by
 refine callS_of Tryz.func78 (by rfl) rfl (by kernel_rfl) (by rfl) [FK] rfl ?_
 ((conv => whnf);repeat' ((first|(with_reducible first|apply a_|apply b_|apply c_)|((with_reducible first|apply d_|apply e_|apply f_|apply g_);focus first|omega|(simp only [q_]<;>omega))|((with_reducible first|apply i_|apply h_);focus first|omega|(simp only [q_]<;>omega))|((with_reducible apply h_);focus first|decide|kernel_rfl)|refine s_ (by decide) ?_|refine t_ (by decide) ?_|(refine Need.mk hn ?_)|(refine Need.mk (by rw [List.length_map];exact h) ?_)|(refine Need.by 32 rfl (by simp only [List.length_nil, Nat.zero_add];omega) ?_)|with_reducible first|apply l_|apply m_|apply n_|apply o_|refine p_ (fun _ => ?_) (fun _ => ?_))<;>(conv => whnf)))
 refine RetS.mk [(FK, FK)] [FK] rfl rfl ?_ ?_
 ·show C.sl 2 _ = C.sl 2 _
  rw [List.map_take, List.map_drop]; rfl
 ·exact ⟨⟨rfl, rfl, rfl, rfl⟩, trivial⟩
theorem s_lastp (st : List Prd) (K : Int) (h0 : 0 ≤ K) (h1 : K ≤ st.length) (hz : st.length ≤ 1000000) : CallS Tryz.prog 78 [.d (.arr FK 81 2 (0 + ((st.length : Int) - K).toNat) (((st.length : Nat) : Int).toNat - ((st.length : Int) - K).toNat))] [(FK, .arr 81 2 (st.map prC))] [] (slV 2 prC (st.drop (st.length - K.toNat))) [] := by
 have e1 : 0 + ((st.length : Int) - K).toNat = st.length - K.toNat := by omega
 have e2 : ((st.length : Nat) : Int).toNat - ((st.length : Int) - K).toNat = K.toNat := by omega
 rw [e1, e2]
 by_cases k0 : K = 0
 ·subst k0
  rw [show st.drop (st.length - (0 : Int).toNat) = [] from List.drop_of_length_le (by simp)]
  exact (p_clonep [] (by simp)).empty1
 ·have := s_clonep st (st.length - K.toNat) K.toNat (by omega) (by omega) hz
  rwa [List.take_of_length_le (by rw [List.length_drop]; omega)] at this
def wpE (l : List NodeD) (j : Nat) (st : List Prd) : List (Nat × PV) := [(1, fnV 53), (4, .d (.ptr 4 0)), (5, pInt .i64 0), (6, .d (.ptr 6 0)), (7, .d (.arr 60 81 2 0 st.length)), (13, slV 6 NodeD.c l), (14, pInt .i64 l.length), (15, pInt .i64 j)]
abbrev noPr : HB := .box 81 [.c (.v (.slice none 0 0)), .c (.v (.int .i64 0))]
theorem p_walkp (l : List NodeD) (x : Prd) (hl : l.length ≤ 60) (ha : ∀ n ∈ l, alF n = 0 ∧ okText n.Name) (hw : walkG prF [] l = .ok [x]) : Pure Tryz.prog 52 [slV 6 NodeD.c l, fnV 53] (.tup [prV x, pInt .i64 0]) := by
 refine pure_of Tryz.func52 (by rfl) rfl (by kernel_rfl) (by rfl) ?_
 ((conv => whnf);repeat' ((first|(with_reducible first|apply a_|apply b_|apply c_)|((with_reducible first|apply d_|apply e_|apply f_|apply g_);focus first|omega|(simp only [q_]<;>omega))|((with_reducible first|apply i_|apply h_);focus first|omega|(simp only [q_]<;>omega))|((with_reducible apply h_);focus first|decide|kernel_rfl)|refine s_ (by decide) ?_|refine t_ (by decide) ?_|with_reducible first|apply l_|apply m_|apply n_|apply o_|refine p_ (fun _ => ?_) (fun _ => ?_))<;>(conv => whnf)))
 refine LoopC.mk (Nat × List Prd) (fun s => wpE l s.1 s.2) (fun s => [(4, noPr), (6, noPr), (60, .arr 81 2 (s.2.map prC))]) [4, 6, 60] (fun s => s.1 ≤ l.length ∧ s.2.length ≤ s.1 ∧ wgt s.2 ≤ 8 * s.1 ∧ walkG prF s.2 (l.drop s.1) = .ok [x]) (fun s => l.length - s.1) (0, []) ⟨Nat.zero_le _, Nat.zero_le _, Nat.zero_le _, hw⟩ ?start ?round
 case start =>
  refine ⟨[(4, 4), (6, 6)], rfl, rfl, ⟨.inl rfl, ⟨rfl, rfl, rfl⟩, .inl rfl, ⟨rfl, rfl, rfl⟩, ⟨rfl, rfl, Nat.zero_lt_succ _, rfl, rfl⟩, .inl rfl, PLe.int (by simp), .inl rfl, trivial⟩, ⟨?_, ?_, ⟨rfl, Nat.zero_lt_succ _, rfl⟩, trivial⟩⟩ <;> (repeat' (first | exact rfl | exact trivial | exact Or.inl rfl | refine And.intro ?_ ?_))
 case round =>
  rintro ⟨j, st⟩ ⟨hj, i1, i2, i3⟩
  have hj : j ≤ l.length := hj
  have i1 : st.length ≤ j := i1
  have i2 : wgt st ≤ 8 * j := i2
  have i3 : walkG prF st (l.drop j) = .ok [x] := i3
  by_cases q : j < l.length
  ·rw [List.drop_eq_getElem_cons q, walkG_cons] at i3
   split at i3
   ·cases i3
   rename_i g
   have g1 : ¬ l[j].Kids < 0 := fun q => g (.inl q)
   have g2 : ¬ (st.length : Int) < l[j].Kids := fun q => g (.inr q)
   obtain ⟨al, an⟩ := ha _ (List.getElem_mem q)
   have pc := s_lastp st l[j].Kids (by omega) (by omega) (by omega)
   obtain ⟨ks, hks⟩ : ∃ ks, ks = st.drop (st.length - l[j].Kids.toNat) := ⟨_, rfl⟩
   have hkl : ks.length = l[j].Kids.toNat := by rw [hks, List.length_drop]; omega
   have hsp : wgt (st.take (st.length - l[j].Kids.toNat)) + wgt ks = wgt st := by rw [hks, ← wgt_append, List.take_append_drop]
   rw [← hks] at pc i3
   have pd := p_print l[j] ks (opKids_of al (by rw [hkl]; omega)) an (fun k hk => by have := wgt_mem hk; omega)
   have htl := tokN_len l[j] ks
   have i3 : walkG prF (st.take (st.length - l[j].Kids.toNat) ++ [prtN l[j] ks]) (l.drop (j + 1)) = .ok [x] := i3
   ((conv => whnf);repeat' ((first|(with_reducible first|apply a_|apply b_|apply c_)|((with_reducible first|apply d_|apply e_|apply f_|apply g_);focus first|omega|(simp only [q_]<;>omega))|((with_reducible first|apply i_|apply h_);focus first|omega|(simp only [q_]<;>omega))|((with_reducible apply h_);focus first|decide|kernel_rfl)|refine s_ (by decide) ?_|refine t_ (by decide) ?_|(refine Idx.mapI j rfl q ?_)|(refine CallP.ret [(FK, 60)] _ _ _ _ _ _ _ pc rfl rfl rfl rfl ⟨rfl, trivial⟩ ?_)|refine r_ pd rfl ?_|(refine Need.by 32 rfl (by simp only [List.length_singleton];omega) ?_)|with_reducible first|apply l_|apply m_|apply n_|apply o_|refine p_ (fun _ => ?_) (fun _ => ?_))<;>(conv => whnf)))
   have hw2 : wgt (st.take (st.length - l[j].Kids.toNat) ++ [prtN l[j] ks]) ≤ 8 * (j + 1) := by
    rw [wgt_append, wgt, wgt]
    show _ + ((tokN l[j] ks).length + 3 + 0) ≤ _
    omega
   have hw3 : (st.take (st.length - l[j].Kids.toNat) ++ [prtN l[j] ks]).length ≤ j + 1 := by
    rw [List.length_append, List.length_take, List.length_singleton]; omega
   refine ⟨(j + 1, st.take (st.length - l[j].Kids.toNat) ++ [prtN l[j] ks]), ⟨q, hw3, hw2, i3⟩, by show l.length - (j + 1) < l.length - j; omega, [(4, 4), (6, 6), (60, 54)], rfl, rfl, ⟨.inl rfl, ⟨rfl, rfl, rfl⟩, .inl rfl, ⟨rfl, rfl, rfl⟩, ⟨rfl, rfl, rfl, rfl, rfl, ?_⟩, .inl rfl, .inl rfl, PLe.int rfl, trivial⟩, ?_, ?_, ⟨rfl, rfl, rfl, ?_⟩, trivial⟩
   ·show _ = (st.take _ ++ [_]).length
    rw [List.length_append, List.length_take, List.length_singleton]; simp only [List.length_singleton]; omega
   ·(repeat' (first | exact rfl | exact trivial | exact Or.inl rfl | refine And.intro ?_ ?_))
   ·(repeat' (first | exact rfl | exact trivial | exact Or.inl rfl | refine And.intro ?_ ?_))
   ·show _ = (st.take _ ++ [_]).map prC
    rw [List.map_append, List.map_take]
    have e1 : ((st.length : Int) - l[j].Kids).toNat = st.length - l[j].Kids.toNat := by omega
    show (st.map prC).take ((st.length : Int) - l[j].Kids).toNat ++ _ = _
    rw [e1]; rfl
  ·rw [List.drop_of_length_le (by omega)] at i3
   have i3 : Except.ok st = (Except.ok [x] : Except Int (List Prd)) := i3
   cases i3
   ((conv => whnf);repeat' ((first|(with_reducible first|apply a_|apply b_|apply c_)|((with_reducible first|apply d_|apply e_|apply f_|apply g_);focus first|omega|(simp only [q_]<;>omega))|((with_reducible first|apply i_|apply h_);focus first|omega|(simp only [q_]<;>omega))|((with_reducible apply h_);focus first|decide|kernel_rfl)|refine s_ (by decide) ?_|refine t_ (by decide) ?_|with_reducible first|apply l_|apply m_|apply n_|apply o_|refine p_ (fun _ => ?_) (fun _ => ?_))<;>(conv => whnf)))
   refine Row.mk _ rfl ?_
   ((conv => whnf);repeat' ((first|(with_reducible first|apply a_|apply b_|apply c_)|((with_reducible first|apply d_|apply e_|apply f_|apply g_);focus first|omega|(simp only [q_]<;>omega))|((with_reducible first|apply i_|apply h_);focus first|omega|(simp only [q_]<;>omega))|((with_reducible apply h_);focus first|decide|kernel_rfl)|refine s_ (by decide) ?_|refine t_ (by decide) ?_|with_reducible first|apply l_|apply m_|apply n_|apply o_|refine p_ (fun _ => ?_) (fun _ => ?_))<;>(conv => whnf)))
   all_goals exact Ret.eq rfl
end
section
open Go.RowKit K
set_option maxRecDepth 100000
mutual
def prtX : Ex → Prd
 | .mk n ks => prtN n (prtXs ks)
def prtXs : List Ex → List Prd
 | [] => []
 | t :: ts => prtX t :: prtXs ts
end
mutual
theorem foldX_prt : ∀ t : Ex, foldX prF t = .ok (prtX t)
 | .mk n ks => by rw [foldX, foldXs_prt ks, prtX]; rfl
theorem foldXs_prt : ∀ l : List Ex, foldXs prF l = .ok (prtXs l)
 | [] => by rw [foldXs, prtXs]
 | t :: l => by rw [foldXs, foldX_prt t, foldXs_prt l, prtXs]
end
theorem walk_prt {t : Ex} (hg : t.good) : walkG prF [] t.flat = .ok [prtX t] := by
 have := walk_fold prF t hg [] []
 rw [List.append_nil, foldX_prt] at this
 exact this
def prtL (e : List NodeD) : List TokenD :=
 match walkG prF [] e with
 | .ok [p] => p.1
 | _ => []
theorem prtL_flat {t : Ex} (hg : t.good) : prtL t.flat = (prtX t).1 := by unfold prtL; rw [walk_prt hg]
def tokensF (e : List NodeD) : List TokenD × Int :=
 if checkF e ≠ 0 then ([], checkF e) else if 120 < (prtL e).length then ([], 2) else (prtL e, 0)
theorem p_Print (t : Ex) (h : RightT t) (hn : ∀ n ∈ t.flat, okText n.Name) : Pure Tryz.prog 35 [slV 6 NodeD.c t.flat] (slV 4 TokenD.c (prtX t).1) := by
 have pw := p_walkp t.flat (prtX t) h.len (fun n hm => ⟨h.all n hm, hn n hm⟩) (walk_prt h.good)
 refine pure_of Tryz.func35 (by rfl) rfl (by kernel_rfl) (by rfl) ?_
 ((conv => whnf);repeat' ((first|(with_reducible first|apply a_|apply b_|apply c_)|((with_reducible first|apply d_|apply e_|apply f_|apply g_);focus first|omega|(simp only [q_]<;>omega))|((with_reducible first|apply i_|apply h_);focus first|omega|(simp only [q_]<;>omega))|((with_reducible apply h_);focus first|decide|kernel_rfl)|refine s_ (by decide) ?_|refine t_ (by decide) ?_|refine r_ pw rfl ?_|with_reducible first|apply l_|apply m_|apply n_|apply o_|refine p_ (fun _ => ?_) (fun _ => ?_))<;>(conv => whnf)))
 exact Ret.eq rfl
theorem p_Tokens (e : List NodeD) (hn : ∀ n ∈ e, okText n.Name) : Pure Tryz.prog 22 [slV 6 NodeD.c e] (.tup [slV 4 TokenD.c (tokensF e).1, pInt .i64 (tokensF e).2]) := by
 have pc := p_echeck e hn
 unfold tokensF
 by_cases hc : checkF e = 0
 ·rw [if_neg (not_not_intro hc)]
  rw [hc] at pc
  obtain ⟨t, ht, rfl⟩ := right_of hc
  have pp := p_Print t ht hn
  rw [← prtL_flat ht.good] at pp
  have hml : ((prtL t.flat).map TokenD.c).length = (prtL t.flat).length := List.length_map _
  refine pure_of Tryz.func22 (by rfl) rfl (by kernel_rfl) (by rfl) ?_
  by_cases g : 120 < (prtL t.flat).length
  ·rw [if_pos g]
   ((conv => whnf);repeat' ((first|(with_reducible first|apply a_|apply b_|apply c_)|((with_reducible first|apply d_|apply e_|apply f_|apply g_);focus first|omega|(simp only [q_]<;>omega))|((with_reducible first|apply i_|apply h_);focus first|omega|(simp only [q_]<;>omega))|((with_reducible apply h_);focus first|decide|kernel_rfl)|refine s_ (by decide) ?_|refine t_ (by decide) ?_|refine r_ pc rfl ?_|refine r_ pp rfl ?_|with_reducible first|apply l_|apply m_|apply n_|apply o_|refine p_ (fun _ => ?_) (fun _ => ?_))<;>(conv => whnf)))
   all_goals first | exact Ret.le ⟨.inr ⟨⟨4, rfl⟩, .inl rfl⟩, .inl rfl, rfl⟩ | (exfalso; omega)
  ·rw [if_neg g]
   ((conv => whnf);repeat' ((first|(with_reducible first|apply a_|apply b_|apply c_)|((with_reducible first|apply d_|apply e_|apply f_|apply g_);focus first|omega|(simp only [q_]<;>omega))|((with_reducible first|apply i_|apply h_);focus first|omega|(simp only [q_]<;>omega))|((with_reducible apply h_);focus first|decide|kernel_rfl)|refine s_ (by decide) ?_|refine t_ (by decide) ?_|refine r_ pc rfl ?_|refine r_ pp rfl ?_|with_reducible first|apply l_|apply m_|apply n_|apply o_|refine p_ (fun _ => ?_) (fun _ => ?_))<;>(conv => whnf)))
   all_goals first | exact Ret.eq rfl | (exfalso; omega)
 ·rw [if_pos hc]
  refine pure_of Tryz.func22 (by rfl) rfl (by kernel_rfl) (by rfl) ?_
  ((conv => whnf);repeat' ((first|(with_reducible first|apply a_|apply b_|apply c_)|((with_reducible first|apply d_|apply e_|apply f_|apply g_);focus first|omega|(simp only [q_]<;>omega))|((with_reducible first|apply i_|apply h_);focus first|omega|(simp only [q_]<;>omega))|((with_reducible apply h_);focus first|decide|kernel_rfl)|refine s_ (by decide) ?_|refine t_ (by decide) ?_|refine r_ pc rfl ?_|with_reducible first|apply l_|apply m_|apply n_|apply o_|refine p_ (fun _ => ?_) (fun _ => ?_))<;>(conv => whnf)))
  all_goals first | exact Ret.le ⟨.inr ⟨⟨4, rfl⟩, .inl rfl⟩, .inl rfl, rfl⟩ | (exfalso; omega)
end
section
open Go.RowKit K
set_option maxRecDepth 100000
end
section
open Go.RowKit K
set_option maxRecDepth 100000
end
section
open Go.RowKit K
set_option maxRecDepth 100000
end
section
open Go.RowKit K
set_option maxRecDepth 100000
def okTs (l : List TokenD) : Prop := ∀ x ∈ l, tChk x = 0
end
section
open Go.RowKit K
set_option maxRecDepth 100000
abbrev tPP : Nat := 57
abbrev oneI (o : Int) : List C := [C.v (.int .i64 o)]
abbrev opsV (ops : List Int) : PV := .d (.app FK3 3 1 (ops.map oneI))
abbrev opsH : Nat × HB := (FK3, .tail 3 1)
theorem s_chain1 (op : Int) (l : List TokenD) (hl : l.length ≤ 100000) (out : List NodeD) : CallS Tryz.prog 61 [pInt .i64 op, .d (.ptr FK2 0)] [(FK2, .box tPP [.ptr FK 0]), (FK1, pAr out)] [(FK, pBx FK1 l out.length)] (pBool (isH (sgn op) l)) [(FK, pBx FK1 (tkO (sgn op) l) out.length)] := by
 have ps := p_sign op
 have pt := s_take (sgn op) l hl out
 refine callS_of Tryz.func61 (by rfl) rfl (by kernel_rfl) (by rfl) [FK2, FK1, FK] rfl ?_
 ((conv => whnf);repeat' ((first|(with_reducible first|apply a_|apply b_|apply c_)|((with_reducible first|apply d_|apply e_|apply f_|apply g_);focus first|omega|(simp only [q_]<;>omega))|((with_reducible first|apply i_|apply h_);focus first|omega|(simp only [q_]<;>omega))|((with_reducible apply h_);focus first|decide|kernel_rfl)|refine s_ (by decide) ?_|refine t_ (by decide) ?_|refine r_ ps rfl ?_|(refine CallP.ret [(FK, FK), (FK1, FK1)] _ _ _ _ _ _ _ pt rfl rfl rfl rfl ⟨rfl, rfl, trivial⟩ ?_)|with_reducible first|apply l_|apply m_|apply n_|apply o_|refine p_ (fun _ => ?_) (fun _ => ?_))<;>(conv => whnf)))
 refine RetS.mk [(FK, FK), (FK1, FK1), (FK2, FK2)] [FK2, FK1, FK] rfl rfl (.inl rfl) ?_ <;> (repeat' (first | exact rfl | exact trivial | exact Or.inl rfl | refine And.intro ?_ ?_))
def ixN : List Int → List TokenD → Nat
 | [], _ => 0
 | o :: os, l => if isH (sgn o) l then 0 else ixN os l + 1
theorem ixN_le : ∀ (ops : List Int) (l : List TokenD), ixN ops l ≤ ops.length
 | [], l => Nat.le_refl _
 | o :: os, l => by
  have := ixN_le os l
  rw [ixN]
  split
  ·omega
  ·rw [List.length_cons]; omega
theorem ixN_at : ∀ (ops : List Int) (l : List TokenD) (j : Nat), j ≤ ops.length → (∀ i, i < j → ∀ h : i < ops.length, isH (sgn ops[i]) l = false) → (∀ h : j < ops.length, isH (sgn ops[j]) l = true) → ixN ops l = j
 | [], l, j, hj, _, _ => by rw [ixN]; have : j ≤ 0 := hj; omega
 | o :: os, l, 0, hj, _, h2 => by
  have h0 : isH (sgn o) l = true := h2 (by simp)
  rw [ixN, if_pos h0]
 | o :: os, l, j + 1, hj, h1, h2 => by
  have h0 := h1 0 (by omega) (by simp)
  have h0 : isH (sgn o) l = false := h0
  rw [ixN, if_neg (by rw [h0]; decide), ixN_at os l j (by simpa using hj) (fun i hi h => h1 (i + 1) (by omega) (by simpa using h)) (fun h => h2 (by simpa using h))]
theorem opAt_ix : ∀ (ops : List Int) (l : List TokenD), opAt ops l = ops[ixN ops l]?
 | [], l => rfl
 | o :: os, l => by
  rw [opAt, ixN]
  split
  ·rfl
  ·rw [opAt_ix os l]; rfl
def ixI (ops : List Int) (l : List TokenD) : Int := if ixN ops l < ops.length then (ixN ops l : Int) else -1
def opL (ops : List Int) (l : List TokenD) : List TokenD := if ixN ops l < ops.length then l.drop 1 else l
abbrev takeC (K : Nat) : PV := .d (.clo 61 [] [.ptr K 0])
theorem s_index (ops : List Int) (ho : ops.length ≤ 100000) (l : List TokenD) (hl : l.length ≤ 100000) (out : List NodeD) : CallS Tryz.prog 60 [opsV ops, takeC FK2] [(FK2, .box tPP [.ptr FK 0]), (FK1, pAr out), opsH] [(FK, pBx FK1 l out.length)] (pInt .i64 (ixI ops l)) [(FK, pBx FK1 (opL ops l) out.length)] := by
 have hml : (ops.map oneI).length = ops.length := List.length_map _
 refine callS_of Tryz.func60 (by rfl) rfl (by kernel_rfl) (by rfl) [FK2, FK1, FK3, FK] rfl ?_
 ((conv => whnf);repeat' ((first|(with_reducible first|apply a_|apply b_|apply c_)|((with_reducible first|apply d_|apply e_|apply f_|apply g_);focus first|omega|(simp only [q_]<;>omega))|((with_reducible first|apply i_|apply h_);focus first|omega|(simp only [q_]<;>omega))|((with_reducible apply h_);focus first|decide|kernel_rfl)|refine s_ (by decide) ?_|refine t_ (by decide) ?_|with_reducible first|apply l_|apply m_|apply n_|apply o_|refine p_ (fun _ => ?_) (fun _ => ?_))<;>(conv => whnf)))
 refine LoopC.mk Nat (fun j => [(0, opsV ops), (1, takeC FK2), (7, pInt .i64 ops.length), (8, pInt .i64 j)]) (fun j => [(FK2, .box tPP [.ptr FK 0]), (FK1, pAr out), opsH, (FK, pBx FK1 l out.length)]) [FK2, FK1, FK3, FK] (fun j => j ≤ ops.length ∧ ∀ i, i < j → ∀ h : i < ops.length, isH (sgn ops[i]) l = false) (fun j => ops.length - j) 0 ⟨Nat.zero_le _, fun i hi => absurd hi (by omega)⟩ ?start ?round
 case start =>
  refine ⟨[(FK, FK), (FK1, FK1), (FK2, FK2), (FK3, FK3)], rfl, rfl, ?_, ?_⟩ <;> (repeat' (first | exact rfl | exact trivial | exact Or.inl rfl | refine And.intro ?_ ?_))
  exact PLe.int (by rw [hml])
 case round =>
  intro j hj
  obtain ⟨hj, hall⟩ : j ≤ ops.length ∧ ∀ i, i < j → ∀ h : i < ops.length, isH (sgn ops[i]) l = false := hj
  by_cases q : j < ops.length
  ·have pc := s_chain1 ops[j] l hl out
   cases hh : isH (sgn ops[j]) l with
   | true =>
    have e1 : ixN ops l = j := ixN_at ops l j hj hall (fun _ => hh)
    have e2 : ixI ops l = j := by unfold ixI; rw [e1, if_pos q]
    have e3 : opL ops l = tkO (sgn ops[j]) l := by unfold opL tkO; rw [e1, if_pos q, hh]; rfl
    rw [hh] at pc
    rw [e2, e3]
    ((conv => whnf);repeat' ((first|(with_reducible first|apply a_|apply b_|apply c_)|((with_reducible first|apply d_|apply e_|apply f_|apply g_);focus first|omega|(simp only [q_]<;>omega))|((with_reducible first|apply i_|apply h_);focus first|omega|(simp only [q_]<;>omega))|((with_reducible apply h_);focus first|decide|kernel_rfl)|refine s_ (by decide) ?_|refine t_ (by decide) ?_|(refine Idx.mapI (f := oneI) j rfl q ?_)|(refine CallP.ret [(FK, FK), (FK1, FK1), (FK2, FK2)] _ _ _ _ _ _ _ pc rfl rfl rfl rfl ⟨rfl, rfl, rfl, trivial⟩ ?_)|with_reducible first|apply l_|apply m_|apply n_|apply o_|refine p_ (fun _ => ?_) (fun _ => ?_))<;>(conv => whnf)))
    refine RetS.mk [(FK, FK), (FK1, FK1), (FK2, FK2), (FK3, FK3)] [FK2, FK1, FK3, FK] rfl rfl (.inl rfl) ?_ <;> (repeat' (first | exact rfl | exact trivial | exact Or.inl rfl | refine And.intro ?_ ?_))
   | false =>
    have e3 : tkO (sgn ops[j]) l = l := by unfold tkO; rw [hh]; rfl
    rw [hh, e3] at pc
    ((conv => whnf);repeat' ((first|(with_reducible first|apply a_|apply b_|apply c_)|((with_reducible first|apply d_|apply e_|apply f_|apply g_);focus first|omega|(simp only [q_]<;>omega))|((with_reducible first|apply i_|apply h_);focus first|omega|(simp only [q_]<;>omega))|((with_reducible apply h_);focus first|decide|kernel_rfl)|refine s_ (by decide) ?_|refine t_ (by decide) ?_|(refine Idx.mapI (f := oneI) j rfl q ?_)|(refine CallP.ret [(FK, FK), (FK1, FK1), (FK2, FK2)] _ _ _ _ _ _ _ pc rfl rfl rfl rfl ⟨rfl, rfl, rfl, trivial⟩ ?_)|with_reducible first|apply l_|apply m_|apply n_|apply o_|refine p_ (fun _ => ?_) (fun _ => ?_))<;>(conv => whnf)))
    refine ⟨j + 1, ⟨by omega, fun i hi h => ?_⟩, by show _ < _; omega, [(FK, FK), (FK1, FK1), (FK2, FK2), (FK3, FK3)], rfl, rfl, ?_, ?_⟩
    ·rcases Nat.lt_succ_iff_lt_or_eq.1 hi with hi | hi
     ·exact hall i hi h
     ·subst hi; exact hh
    all_goals
     (repeat' (first | exact rfl | exact trivial | exact Or.inl rfl | refine And.intro ?_ ?_))
    all_goals exact PLe.int (by omega)
  ·have e0 : j = ops.length := by omega
   have e1 : ixN ops l = j := ixN_at ops l j hj hall (fun h => absurd h q)
   have e2 : ixI ops l = -1 := by unfold ixI; rw [e1, if_neg q]
   have e3 : opL ops l = l := by unfold opL; rw [e1, if_neg q]
   rw [e2, e3]
   ((conv => whnf);repeat' ((first|(with_reducible first|apply a_|apply b_|apply c_)|((with_reducible first|apply d_|apply e_|apply f_|apply g_);focus first|omega|(simp only [q_]<;>omega))|((with_reducible first|apply i_|apply h_);focus first|omega|(simp only [q_]<;>omega))|((with_reducible apply h_);focus first|decide|kernel_rfl)|refine s_ (by decide) ?_|refine t_ (by decide) ?_|with_reducible first|apply l_|apply m_|apply n_|apply o_|refine p_ (fun _ => ?_) (fun _ => ?_))<;>(conv => whnf)))
   refine RetS.mk [(FK, FK), (FK1, FK1), (FK2, FK2), (FK3, FK3)] [FK2, FK1, FK3, FK] rfl rfl (.inl rfl) ?_ <;> (repeat' (first | exact rfl | exact trivial | exact Or.inl rfl | refine And.intro ?_ ?_))
end
section
open Go.RowKit K
set_option maxRecDepth 100000
def okT (l : List TokenD) : Prop := ∀ t ∈ l, okText t.S
theorem okT.drop {l : List TokenD} (h : okT l) (k : Nat) : okT (l.drop k) := fun t ht => h t (List.mem_of_mem_drop ht)
def WalkOk (f : FuncId) (one : List TokenD → PR) (N : Nat) : Prop := ∀ (l : List TokenD), l.length ≤ N → okT l → ∀ out : List NodeD, out.length + l.length ≤ 90000 →
 (∀ r ns, one l = some (r, ns) → CallS Tryz.prog f [.d (.ptr FK 0)] [] (pb FK FK1 l out) (.tup []) (pb FK NK r (out ++ ns))) ∧
 (one l = none → CallX Tryz.prog f [.d (.ptr FK 0)] (pb FK FK1 l out) wrongV)
theorem chainR_step {one : List TokenD → PR} {ops : List Int} (h1 : ∀ l, fit 1 l (one l)) {l : List TokenD} {o : Int} (ho : opAt ops l = some o) : (one (l.drop 1) = none → chainR one ops (l.length + 1) l = none) ∧ (∀ r ns, one (l.drop 1) = some (r, ns) → chainR one ops (l.length + 1) l = match chainR one ops (r.length + 1) r with
    | none => none
    | some (r2, ms) => some (r2, ns ++ (nOp o 2 :: ms))) := by
 have hp := isH_pos (opAt_pos ho).1
 constructor
 ·intro e
  rw [chainR, ho]
  simp only [e]
 ·intro r ns e
  rw [chainR, ho]
  dsimp only
  rw [e]
  dsimp only
  obtain ⟨k1, a1, a2, a3, a4⟩ := fit_at hp (h1 _) e
  have hl : r.length + 2 ≤ l.length := by rw [a3, List.length_drop]; omega
  rw [chainR_fuel h1 l.length (r.length + 1) r (by omega) (by omega)]
  cases chainR one ops (r.length + 1) r <;> rfl
theorem chainR_stop {one : List TokenD → PR} {ops : List Int} {l : List TokenD} (ho : opAt ops l = none) (n : Nat) : chainR one ops (n + 1) l = some (l, []) := by
 rw [chainR, ho]
theorem ix_none {ops : List Int} {l : List TokenD} (h : opAt ops l = none) : ixI ops l = -1 ∧ opL ops l = l := by
 rw [opAt_ix, List.getElem?_eq_none_iff] at h
 unfold ixI opL
 rw [if_neg (by omega), if_neg (by omega)]
 exact ⟨rfl, rfl⟩
theorem ix_some {ops : List Int} {l : List TokenD} {o : Int} (h : opAt ops l = some o) : ∃ j, j < ops.length ∧ ops[j]? = some o ∧ ixI ops l = (j : Int) ∧ opL ops l = l.drop 1 := by
 rw [opAt_ix] at h
 have hj := (List.getElem?_eq_some_iff.1 h).1
 refine ⟨ixN ops l, hj, h, ?_, ?_⟩
 ·unfold ixI; rw [if_pos hj]
 ·unfold opL; rw [if_pos hj]
abbrev oneC (f : FuncId) : PV := .d (.clo f [.ptr FK 0] [])
abbrev chH (l : List TokenD) (o : List NodeD) : Rf := pb FK 60 l o ++ [(3, .box tPP [.ptr FK 0]), opsH]
theorem s_chain (f : FuncId) (one : List TokenD → PR) (N : Nat) (hN : N ≤ 50000) (h1 : ∀ l, fit 1 l (one l)) (hw : WalkOk f one N) (ops : List Int) (hops : ops.length ≤ 1000) (l : List TokenD) (hl : l.length ≤ N) (ht : okT l) (out : List NodeD) (ho : out.length + l.length ≤ 90000) {r : List TokenD} {ns : List NodeD} (hr : chainF one ops l = some (r, ns)) :
  CallS Tryz.prog 40 [.d (.ptr FK 0), oneC f, opsV ops] [opsH] (pb FK FK1 l out) (.tup []) (pb FK NK r (out ++ ns)) := by
 unfold chainF at hr
 split at hr
 ·cases hr
 rename_i r1 ns1 e1
 obtain ⟨k1, a1, a2, a3, a4⟩ := h1 l r1 ns1 e1
 have hr1 : r1.length + k1 = l.length := by rw [a3, List.length_drop]; omega
 have c1 := (hw l hl ht out ho).1 r1 ns1 e1
 refine callS_of Tryz.func40 (by rfl) rfl (by kernel_rfl) (by rfl) [FK3, FK, FK1] rfl ?_
 ((conv => whnf);repeat' ((first|(with_reducible first|apply a_|apply b_|apply c_)|((with_reducible first|apply d_|apply e_|apply f_|apply g_);focus first|omega|(simp only [q_]<;>omega))|((with_reducible first|apply i_|apply h_);focus first|omega|(simp only [q_]<;>omega))|((with_reducible apply h_);focus first|decide|kernel_rfl)|refine s_ (by decide) ?_|refine t_ (by decide) ?_|(refine CallP.ret [(FK, FK), (FK1, FK1), (NK, 8)] _ _ _ _ _ _ _ c1 rfl rfl rfl rfl ⟨rfl, rfl, trivial⟩ ?_)|with_reducible first|apply l_|apply m_|apply n_|apply o_|refine p_ (fun _ => ?_) (fun _ => ?_))<;>(conv => whnf)))
 have f1 : r1.length ≤ N := by omega
 have f2 : okT r1 := by rw [a3]; exact ht.drop k1
 have f3 : (out ++ ns1).length + r1.length ≤ 90000 := by rw [List.length_append]; omega
 refine LoopC.mk (List TokenD × List NodeD) (fun s => [(2, opsV ops), (1, oneC f), (3, .d (.ptr 3 0))]) (fun s => chH s.1 s.2) [FK3, FK, FK1, 60, 3] (fun s => s.1.length ≤ N ∧ okT s.1 ∧ s.2.length + s.1.length ≤ 90000 ∧ ∃ ms, chainR one ops (s.1.length + 1) s.1 = some (r, ms) ∧ s.2 ++ ms = out ++ ns) (fun s => s.1.length) (r1, out ++ ns1) ⟨f1, f2, f3, ?inv⟩ ?start ?round
 case inv =>
  split at hr
  ·cases hr
  ·rename_i r2 ms e2
   cases hr
   exact ⟨ms, e2, by rw [List.append_assoc]⟩
 case start =>
  refine ⟨[(FK, FK), (FK1, FK1), (60, 8), (3, 3), (FK3, FK3)], rfl, rfl, ?_, ?_⟩ <;> (repeat' (first | exact rfl | exact trivial | exact Or.inl rfl | refine And.intro ?_ ?_))
 case round =>
  rintro ⟨l', o'⟩ ⟨b1, b2, b3, ms, b4, b5⟩
  dsimp only at b1 b2 b3 b4 b5
  have ci := s_index ops (by omega) l' (by omega) o'
  have hml : (ops.map oneI).length = ops.length := List.length_map _
  cases hoa : opAt ops l' with
  | none =>
   obtain ⟨i1, i2⟩ := ix_none hoa
   rw [i1, i2] at ci
   rw [chainR_stop hoa] at b4
   cases b4
   rw [List.append_nil] at b5
   ((conv => whnf);repeat' ((first|(with_reducible first|apply a_|apply b_|apply c_)|((with_reducible first|apply d_|apply e_|apply f_|apply g_);focus first|omega|(simp only [q_]<;>omega))|((with_reducible first|apply i_|apply h_);focus first|omega|(simp only [q_]<;>omega))|((with_reducible apply h_);focus first|decide|kernel_rfl)|refine s_ (by decide) ?_|refine t_ (by decide) ?_|(refine CallP.ret [(FK, FK), (FK1, 60), (FK2, 3), (FK3, FK3)] _ _ _ _ _ _ _ ci rfl rfl rfl rfl ⟨rfl, rfl, rfl, rfl, trivial⟩ ?_)|with_reducible first|apply l_|apply m_|apply n_|apply o_|refine p_ (fun _ => ?_) (fun _ => ?_))<;>(conv => whnf)))
   refine RetS.mk [(FK, FK), (FK1, FK1), (NK, 60), (FK3, FK3)] [FK3, FK, FK1, NK] rfl rfl rfl ?_
   rw [← b5]
   (repeat' (first | exact rfl | exact trivial | exact Or.inl rfl | refine And.intro ?_ ?_))
  | some o =>
   obtain ⟨j, j1, j2, j3, j4⟩ := ix_some hoa
   have hp := isH_pos (opAt_pos hoa).1
   rw [j3, j4] at ci
   obtain ⟨q1, q2⟩ := chainR_step h1 hoa
   cases eo : one (l'.drop 1) with
   | none => rw [q1 eo] at b4; cases b4
   | some x =>
    obtain ⟨r3, ns3⟩ := x
    rw [q2 r3 ns3 eo] at b4
    obtain ⟨k3, d1, d2, d3, d4⟩ := fit_at hp (h1 _) eo
    have hr3 : r3.length + k3 = l'.length := by rw [d3, List.length_drop]; omega
    have hd1 : (l'.drop 1).length + 1 = l'.length := by rw [List.length_drop]; omega
    have c3 := (hw (l'.drop 1) (by omega) (b2.drop 1) o' (by omega)).1 r3 ns3 eo
    have hlen : (o' ++ ns3).length = o'.length + ns3.length := List.length_append
    have cp := s_put o 2 r3 (o' ++ ns3) (by omega)
    ((conv => whnf);repeat' ((first|(with_reducible first|apply a_|apply b_|apply c_)|((with_reducible first|apply d_|apply e_|apply f_|apply g_);focus first|omega|(simp only [q_]<;>omega))|((with_reducible first|apply i_|apply h_);focus first|omega|(simp only [q_]<;>omega))|((with_reducible apply h_);focus first|decide|kernel_rfl)|refine s_ (by decide) ?_|refine t_ (by decide) ?_|(refine CallP.ret [(FK, FK), (FK1, 60), (FK2, 3), (FK3, FK3)] _ _ _ _ _ _ _ ci rfl rfl rfl rfl ⟨rfl, rfl, rfl, rfl, trivial⟩ ?_)|(refine CallP.ret [(FK, FK), (FK1, 60), (NK, 15)] _ _ _ _ _ _ _ c3 rfl rfl rfl rfl ⟨rfl, rfl, trivial⟩ ?_)|(refine Idx.mapV (f := oneI) j rfl o j2 ?_)|(refine CallP.ret [(FK, FK), (FK1, 15), (NK, 21)] _ _ _ _ _ _ _ cp rfl rfl rfl rfl ⟨rfl, rfl, trivial⟩ ?_)|with_reducible first|apply l_|apply m_|apply n_|apply o_|refine p_ (fun _ => ?_) (fun _ => ?_))<;>(conv => whnf)))
    have e5 : o' ++ ns3 ++ [nOp o 2] = o' ++ (ns3 ++ [nOp o 2]) := List.append_assoc _ _ _
    have hlen2 : (o' ++ ns3 ++ [nOp o 2]).length = o'.length + ns3.length + 1 := by rw [List.length_append, hlen, List.length_singleton]
    have g1 : r3.length ≤ N := by omega
    have g2 : okT r3 := by rw [d3]; exact b2.drop _
    have g3 : (o' ++ ns3 ++ [nOp o 2]).length + r3.length ≤ 90000 := by omega
    have g4 : r3.length < l'.length := by omega
    split at b4
    ·cases b4
    rename_i r4 ms4 e4
    cases b4
    refine ⟨(r3, o' ++ ns3 ++ [nOp o 2]), ⟨g1, g2, g3, ms4, e4, ?_⟩, g4, [(FK, FK), (FK1, FK1), (60, 21), (3, 3), (FK3, FK3)], rfl, rfl, ?_, ?_⟩
    ·rw [← b5, List.append_assoc, List.append_assoc]; rfl
    all_goals
     (repeat' (first | exact rfl | exact trivial | exact Or.inl rfl | refine And.intro ?_ ?_))
theorem x_chain (f : FuncId) (one : List TokenD → PR) (N : Nat) (hN : N ≤ 50000) (h1 : ∀ l, fit 1 l (one l)) (hw : WalkOk f one N) (ops : List Int) (hops : ops.length ≤ 1000) (l : List TokenD) (hl : l.length ≤ N) (ht : okT l) (out : List NodeD) (ho : out.length + l.length ≤ 90000) (hr : chainF one ops l = none) :
  CallX Tryz.prog 40 [.d (.ptr FK 0), oneC f, opsV ops] (opsH :: pb FK FK1 l out) wrongV := by
 refine callX_of Tryz.func40 (by rfl) rfl (by kernel_rfl) (by rfl) [FK3, FK, FK1] rfl ?_
 cases e1 : one l with
 | none =>
  ((conv => whnf);repeat' ((first|(with_reducible first|apply a_|apply b_|apply c_)|((with_reducible first|apply d_|apply e_|apply f_|apply g_);focus first|omega|(simp only [q_]<;>omega))|((with_reducible first|apply i_|apply h_);focus first|omega|(simp only [q_]<;>omega))|((with_reducible apply h_);focus first|decide|kernel_rfl)|refine s_ (by decide) ?_|refine t_ (by decide) ?_|with_reducible first|apply l_|apply m_|apply n_|apply o_|refine p_ (fun _ => ?_) (fun _ => ?_))<;>(conv => whnf)))
  exact CallP.pan [(FK, FK), (FK1, FK1)] _ _ _ _ ((hw l hl ht out ho).2 e1) rfl rfl rfl ⟨rfl, rfl, trivial⟩ rfl
 | some x =>
 obtain ⟨r1, ns1⟩ := x
 unfold chainF at hr
 rw [e1] at hr
 have hr : (match chainR one ops (r1.length + 1) r1 with
  | none => none
  | some (r2, ms) => some (r2, ns1 ++ ms)) = (none : PR) := hr
 have hr : chainR one ops (r1.length + 1) r1 = none := by
  cases hc : chainR one ops (r1.length + 1) r1 with
  | none => rfl
  | some y => rw [hc] at hr; cases hr
 obtain ⟨k1, a1, a2, a3, a4⟩ := h1 l r1 ns1 e1
 have hr1 : r1.length + k1 = l.length := by rw [a3, List.length_drop]; omega
 have c1 := (hw l hl ht out ho).1 r1 ns1 e1
 ((conv => whnf);repeat' ((first|(with_reducible first|apply a_|apply b_|apply c_)|((with_reducible first|apply d_|apply e_|apply f_|apply g_);focus first|omega|(simp only [q_]<;>omega))|((with_reducible first|apply i_|apply h_);focus first|omega|(simp only [q_]<;>omega))|((with_reducible apply h_);focus first|decide|kernel_rfl)|refine s_ (by decide) ?_|refine t_ (by decide) ?_|(refine CallP.ret [(FK, FK), (FK1, FK1), (NK, 8)] _ _ _ _ _ _ _ c1 rfl rfl rfl rfl ⟨rfl, rfl, trivial⟩ ?_)|with_reducible first|apply l_|apply m_|apply n_|apply o_|refine p_ (fun _ => ?_) (fun _ => ?_))<;>(conv => whnf)))
 have f1 : r1.length ≤ N := by omega
 have f2 : okT r1 := by rw [a3]; exact ht.drop k1
 have f3 : (out ++ ns1).length + r1.length ≤ 90000 := by rw [List.length_append]; omega
 refine LoopC.mk (List TokenD × List NodeD) (fun s => [(2, opsV ops), (1, oneC f), (3, .d (.ptr 3 0))]) (fun s => chH s.1 s.2) [FK3, FK, FK1, 60, 3] (fun s => s.1.length ≤ N ∧ okT s.1 ∧ s.2.length + s.1.length ≤ 90000 ∧ chainR one ops (s.1.length + 1) s.1 = none) (fun s => s.1.length) (r1, out ++ ns1) ⟨f1, f2, f3, hr⟩ ?start ?round
 case start =>
  refine ⟨[(FK, FK), (FK1, FK1), (60, 8), (3, 3), (FK3, FK3)], rfl, rfl, ?_, ?_⟩ <;> (repeat' (first | exact rfl | exact trivial | exact Or.inl rfl | refine And.intro ?_ ?_))
 case round =>
  rintro ⟨l', o'⟩ ⟨b1, b2, b3, b4⟩
  dsimp only at b1 b2 b3 b4
  have ci := s_index ops (by omega) l' (by omega) o'
  have hml : (ops.map oneI).length = ops.length := List.length_map _
  cases hoa : opAt ops l' with
  | none =>
   rw [chainR_stop hoa] at b4
   cases b4
  | some o =>
   obtain ⟨j, j1, j2, j3, j4⟩ := ix_some hoa
   have hp := isH_pos (opAt_pos hoa).1
   rw [j3, j4] at ci
   obtain ⟨q1, q2⟩ := chainR_step h1 hoa
   have hd1 : (l'.drop 1).length + 1 = l'.length := by rw [List.length_drop]; omega
   have cc := hw (l'.drop 1) (by omega) (b2.drop 1) o' (by omega)
   cases eo : one (l'.drop 1) with
   | none =>
    ((conv => whnf);repeat' ((first|(with_reducible first|apply a_|apply b_|apply c_)|((with_reducible first|apply d_|apply e_|apply f_|apply g_);focus first|omega|(simp only [q_]<;>omega))|((with_reducible first|apply i_|apply h_);focus first|omega|(simp only [q_]<;>omega))|((with_reducible apply h_);focus first|decide|kernel_rfl)|refine s_ (by decide) ?_|refine t_ (by decide) ?_|(refine CallP.ret [(FK, FK), (FK1, 60), (FK2, 3), (FK3, FK3)] _ _ _ _ _ _ _ ci rfl rfl rfl rfl ⟨rfl, rfl, rfl, rfl, trivial⟩ ?_)|with_reducible first|apply l_|apply m_|apply n_|apply o_|refine p_ (fun _ => ?_) (fun _ => ?_))<;>(conv => whnf)))
    exact CallP.pan [(FK, FK), (FK1, 60)] _ _ _ _ (cc.2 eo) rfl rfl rfl ⟨rfl, rfl, trivial⟩ rfl
   | some x =>
    obtain ⟨r3, ns3⟩ := x
    rw [q2 r3 ns3 eo] at b4
    obtain ⟨k3, d1, d2, d3, d4⟩ := fit_at hp (h1 _) eo
    have hr3 : r3.length + k3 = l'.length := by rw [d3, List.length_drop]; omega
    have c3 := cc.1 r3 ns3 eo
    have hlen : (o' ++ ns3).length = o'.length + ns3.length := List.length_append
    have cp := s_put o 2 r3 (o' ++ ns3) (by omega)
    ((conv => whnf);repeat' ((first|(with_reducible first|apply a_|apply b_|apply c_)|((with_reducible first|apply d_|apply e_|apply f_|apply g_);focus first|omega|(simp only [q_]<;>omega))|((with_reducible first|apply i_|apply h_);focus first|omega|(simp only [q_]<;>omega))|((with_reducible apply h_);focus first|decide|kernel_rfl)|refine s_ (by decide) ?_|refine t_ (by decide) ?_|(refine CallP.ret [(FK, FK), (FK1, 60), (FK2, 3), (FK3, FK3)] _ _ _ _ _ _ _ ci rfl rfl rfl rfl ⟨rfl, rfl, rfl, rfl, trivial⟩ ?_)|(refine CallP.ret [(FK, FK), (FK1, 60), (NK, 15)] _ _ _ _ _ _ _ c3 rfl rfl rfl rfl ⟨rfl, rfl, trivial⟩ ?_)|(refine Idx.mapV (f := oneI) j rfl o j2 ?_)|(refine CallP.ret [(FK, FK), (FK1, 15), (NK, 21)] _ _ _ _ _ _ _ cp rfl rfl rfl rfl ⟨rfl, rfl, trivial⟩ ?_)|with_reducible first|apply l_|apply m_|apply n_|apply o_|refine p_ (fun _ => ?_) (fun _ => ?_))<;>(conv => whnf)))
    have hlen2 : (o' ++ ns3 ++ [nOp o 2]).length = o'.length + ns3.length + 1 := by rw [List.length_append, hlen, List.length_singleton]
    have g1 : r3.length ≤ N := by omega
    have g2 : okT r3 := by rw [d3]; exact b2.drop _
    have g3 : (o' ++ ns3 ++ [nOp o 2]).length + r3.length ≤ 90000 := by omega
    have g4 : r3.length < l'.length := by omega
    have g5 : chainR one ops (r3.length + 1) r3 = none := by
     cases hc : chainR one ops (r3.length + 1) r3 with
     | none => rfl
     | some y => rw [hc] at b4; cases b4
    refine ⟨(r3, o' ++ ns3 ++ [nOp o 2]), ⟨g1, g2, g3, g5⟩, g4, [(FK, FK), (FK1, FK1), (60, 21), (3, 3), (FK3, FK3)], rfl, rfl, ?_, ?_⟩
    all_goals
     (repeat' (first | exact rfl | exact trivial | exact Or.inl rfl | refine And.intro ?_ ?_))
end
section
open Go.RowKit K
set_option maxRecDepth 100000
theorem w_or (one : List TokenD → PR) (N : Nat) (hN : N ≤ 50000) (h1 : ∀ l, fit 1 l (one l)) (hw : WalkOk 41 one N) : WalkOk 28 (chainF one [17]) N := fun l hl ht out ho => by
 constructor
 ·intro r ns e
  have cc := s_chain 41 one N hN h1 hw [17] (by decide) l hl ht out ho e
  refine callS_of Tryz.func28 (by rfl) rfl (by kernel_rfl) (by rfl) [FK, FK1] rfl ?_
  ((conv => whnf);repeat' ((first|(with_reducible first|apply a_|apply b_|apply c_)|((with_reducible first|apply d_|apply e_|apply f_|apply g_);focus first|omega|(simp only [q_]<;>omega))|((with_reducible first|apply i_|apply h_);focus first|omega|(simp only [q_]<;>omega))|((with_reducible apply h_);focus first|decide|kernel_rfl)|refine s_ (by decide) ?_|refine t_ (by decide) ?_|(refine CallP.ret [(FK, FK), (FK1, FK1), (NK, 6), (FK3, 5)] _ _ _ _ _ _ _ cc rfl rfl rfl rfl ⟨rfl, rfl, rfl, trivial⟩ ?_)|with_reducible first|apply l_|apply m_|apply n_|apply o_|refine p_ (fun _ => ?_) (fun _ => ?_))<;>(conv => whnf)))
  refine RetS.mk [(FK, FK), (FK1, FK1), (NK, 6)] [FK, FK1, NK] rfl rfl rfl ?_ <;> (repeat' (first | exact rfl | exact trivial | exact Or.inl rfl | refine And.intro ?_ ?_))
 ·intro e
  have cc := x_chain 41 one N hN h1 hw [17] (by decide) l hl ht out ho e
  refine callX_of Tryz.func28 (by rfl) rfl (by kernel_rfl) (by rfl) [FK, FK1] rfl ?_
  ((conv => whnf);repeat' ((first|(with_reducible first|apply a_|apply b_|apply c_)|((with_reducible first|apply d_|apply e_|apply f_|apply g_);focus first|omega|(simp only [q_]<;>omega))|((with_reducible first|apply i_|apply h_);focus first|omega|(simp only [q_]<;>omega))|((with_reducible apply h_);focus first|decide|kernel_rfl)|refine s_ (by decide) ?_|refine t_ (by decide) ?_|with_reducible first|apply l_|apply m_|apply n_|apply o_|refine p_ (fun _ => ?_) (fun _ => ?_))<;>(conv => whnf)))
  exact CallP.pan [(FK, FK), (FK1, FK1), (FK3, 5)] _ _ _ _ cc rfl rfl rfl ⟨rfl, rfl, rfl, trivial⟩ rfl
theorem w_and (one : List TokenD → PR) (N : Nat) (hN : N ≤ 50000) (h1 : ∀ l, fit 1 l (one l)) (hw : WalkOk 65 one N) : WalkOk 41 (chainF one [16]) N := fun l hl ht out ho => by
 constructor
 ·intro r ns e
  have cc := s_chain 65 one N hN h1 hw [16] (by decide) l hl ht out ho e
  refine callS_of Tryz.func41 (by rfl) rfl (by kernel_rfl) (by rfl) [FK, FK1] rfl ?_
  ((conv => whnf);repeat' ((first|(with_reducible first|apply a_|apply b_|apply c_)|((with_reducible first|apply d_|apply e_|apply f_|apply g_);focus first|omega|(simp only [q_]<;>omega))|((with_reducible first|apply i_|apply h_);focus first|omega|(simp only [q_]<;>omega))|((with_reducible apply h_);focus first|decide|kernel_rfl)|refine s_ (by decide) ?_|refine t_ (by decide) ?_|(refine CallP.ret [(FK, FK), (FK1, FK1), (NK, 6), (FK3, 5)] _ _ _ _ _ _ _ cc rfl rfl rfl rfl ⟨rfl, rfl, rfl, trivial⟩ ?_)|with_reducible first|apply l_|apply m_|apply n_|apply o_|refine p_ (fun _ => ?_) (fun _ => ?_))<;>(conv => whnf)))
  refine RetS.mk [(FK, FK), (FK1, FK1), (NK, 6)] [FK, FK1, NK] rfl rfl rfl ?_ <;> (repeat' (first | exact rfl | exact trivial | exact Or.inl rfl | refine And.intro ?_ ?_))
 ·intro e
  have cc := x_chain 65 one N hN h1 hw [16] (by decide) l hl ht out ho e
  refine callX_of Tryz.func41 (by rfl) rfl (by kernel_rfl) (by rfl) [FK, FK1] rfl ?_
  ((conv => whnf);repeat' ((first|(with_reducible first|apply a_|apply b_|apply c_)|((with_reducible first|apply d_|apply e_|apply f_|apply g_);focus first|omega|(simp only [q_]<;>omega))|((with_reducible first|apply i_|apply h_);focus first|omega|(simp only [q_]<;>omega))|((with_reducible apply h_);focus first|decide|kernel_rfl)|refine s_ (by decide) ?_|refine t_ (by decide) ?_|with_reducible first|apply l_|apply m_|apply n_|apply o_|refine p_ (fun _ => ?_) (fun _ => ?_))<;>(conv => whnf)))
  exact CallP.pan [(FK, FK), (FK1, FK1), (FK3, 5)] _ _ _ _ cc rfl rfl rfl ⟨rfl, rfl, rfl, trivial⟩ rfl
theorem w_add (one : List TokenD → PR) (N : Nat) (hN : N ≤ 50000) (h1 : ∀ l, fit 1 l (one l)) (hw : WalkOk 100 one N) : WalkOk 94 (chainF one [5, 6]) N := fun l hl ht out ho => by
 constructor
 ·intro r ns e
  have cc := s_chain 100 one N hN h1 hw [5, 6] (by decide) l hl ht out ho e
  refine callS_of Tryz.func94 (by rfl) rfl (by kernel_rfl) (by rfl) [FK, FK1] rfl ?_
  ((conv => whnf);repeat' ((first|(with_reducible first|apply a_|apply b_|apply c_)|((with_reducible first|apply d_|apply e_|apply f_|apply g_);focus first|omega|(simp only [q_]<;>omega))|((with_reducible first|apply i_|apply h_);focus first|omega|(simp only [q_]<;>omega))|((with_reducible apply h_);focus first|decide|kernel_rfl)|refine s_ (by decide) ?_|refine t_ (by decide) ?_|(refine CallP.ret [(FK, FK), (FK1, FK1), (NK, 6), (FK3, 5)] _ _ _ _ _ _ _ cc rfl rfl rfl rfl ⟨rfl, rfl, rfl, trivial⟩ ?_)|with_reducible first|apply l_|apply m_|apply n_|apply o_|refine p_ (fun _ => ?_) (fun _ => ?_))<;>(conv => whnf)))
  refine RetS.mk [(FK, FK), (FK1, FK1), (NK, 6)] [FK, FK1, NK] rfl rfl rfl ?_ <;> (repeat' (first | exact rfl | exact trivial | exact Or.inl rfl | refine And.intro ?_ ?_))
 ·intro e
  have cc := x_chain 100 one N hN h1 hw [5, 6] (by decide) l hl ht out ho e
  refine callX_of Tryz.func94 (by rfl) rfl (by kernel_rfl) (by rfl) [FK, FK1] rfl ?_
  ((conv => whnf);repeat' ((first|(with_reducible first|apply a_|apply b_|apply c_)|((with_reducible first|apply d_|apply e_|apply f_|apply g_);focus first|omega|(simp only [q_]<;>omega))|((with_reducible first|apply i_|apply h_);focus first|omega|(simp only [q_]<;>omega))|((with_reducible apply h_);focus first|decide|kernel_rfl)|refine s_ (by decide) ?_|refine t_ (by decide) ?_|with_reducible first|apply l_|apply m_|apply n_|apply o_|refine p_ (fun _ => ?_) (fun _ => ?_))<;>(conv => whnf)))
  exact CallP.pan [(FK, FK), (FK1, FK1), (FK3, 5)] _ _ _ _ cc rfl rfl rfl ⟨rfl, rfl, rfl, trivial⟩ rfl
theorem w_mul (one : List TokenD → PR) (N : Nat) (hN : N ≤ 50000) (h1 : ∀ l, fit 1 l (one l)) (hw : WalkOk 102 one N) : WalkOk 100 (chainF one [7, 8, 9]) N := fun l hl ht out ho => by
 constructor
 ·intro r ns e
  have cc := s_chain 102 one N hN h1 hw [7, 8, 9] (by decide) l hl ht out ho e
  refine callS_of Tryz.func100 (by rfl) rfl (by kernel_rfl) (by rfl) [FK, FK1] rfl ?_
  ((conv => whnf);repeat' ((first|(with_reducible first|apply a_|apply b_|apply c_)|((with_reducible first|apply d_|apply e_|apply f_|apply g_);focus first|omega|(simp only [q_]<;>omega))|((with_reducible first|apply i_|apply h_);focus first|omega|(simp only [q_]<;>omega))|((with_reducible apply h_);focus first|decide|kernel_rfl)|refine s_ (by decide) ?_|refine t_ (by decide) ?_|(refine CallP.ret [(FK, FK), (FK1, FK1), (NK, 6), (FK3, 5)] _ _ _ _ _ _ _ cc rfl rfl rfl rfl ⟨rfl, rfl, rfl, trivial⟩ ?_)|with_reducible first|apply l_|apply m_|apply n_|apply o_|refine p_ (fun _ => ?_) (fun _ => ?_))<;>(conv => whnf)))
  refine RetS.mk [(FK, FK), (FK1, FK1), (NK, 6)] [FK, FK1, NK] rfl rfl rfl ?_ <;> (repeat' (first | exact rfl | exact trivial | exact Or.inl rfl | refine And.intro ?_ ?_))
 ·intro e
  have cc := x_chain 102 one N hN h1 hw [7, 8, 9] (by decide) l hl ht out ho e
  refine callX_of Tryz.func100 (by rfl) rfl (by kernel_rfl) (by rfl) [FK, FK1] rfl ?_
  ((conv => whnf);repeat' ((first|(with_reducible first|apply a_|apply b_|apply c_)|((with_reducible first|apply d_|apply e_|apply f_|apply g_);focus first|omega|(simp only [q_]<;>omega))|((with_reducible first|apply i_|apply h_);focus first|omega|(simp only [q_]<;>omega))|((with_reducible apply h_);focus first|decide|kernel_rfl)|refine s_ (by decide) ?_|refine t_ (by decide) ?_|with_reducible first|apply l_|apply m_|apply n_|apply o_|refine p_ (fun _ => ?_) (fun _ => ?_))<;>(conv => whnf)))
  exact CallP.pan [(FK, FK), (FK1, FK1), (FK3, 5)] _ _ _ _ cc rfl rfl rfl ⟨rfl, rfl, rfl, trivial⟩ rfl
theorem heads_pos {s : List UInt8} : ∀ {l : List TokenD} {j : Nat}, j < heads s l → isH s (l.drop j) = true
 | [], j, h => absurd h (Nat.not_lt_zero _)
 | t :: r, 0, h => by
  rw [heads] at h
  split at h
  ·rename_i g; exact g
  ·exact absurd h (Nat.not_lt_zero _)
 | t :: r, j + 1, h => by
  rw [heads] at h
  split at h
  ·rw [List.drop_succ_cons]; exact heads_pos (by omega)
  ·exact absurd h (Nat.not_lt_zero _)
theorem heads_end (s : List UInt8) : ∀ l : List TokenD, isH s (l.drop (heads s l)) = false
 | [] => rfl
 | t :: r => by
  rw [heads]
  split
  ·rw [List.drop_succ_cons]; exact heads_end s r
  ·rename_i g; rw [Bool.not_eq_true] at g; exact g
theorem w_not (one : List TokenD → PR) (N : Nat) (hN : N ≤ 50000) (h1 : ∀ l, fit 1 l (one l)) (hw : WalkOk 87 one N) : WalkOk 65 (preF wNot 4 one) N := fun l hl ht out ho => by
 have hhl := heads_le wNot l
 obtain ⟨H, hH⟩ : ∃ H, H = heads wNot l := ⟨_, rfl⟩
 rw [← hH] at hhl
 have hdl : (l.drop H).length + H = l.length := by rw [List.length_drop]; omega
 have cc := hw (l.drop H) (by omega) (ht.drop H) out (by omega)
 have hpos : ∀ j, j < H → isH wNot (l.drop j) = true := fun j hj => heads_pos (by omega)
 have hend : isH wNot (l.drop H) = false := by rw [hH]; exact heads_end _ l
 constructor
 ·intro r ns e
  unfold preF at e
  rw [← hH] at e
  split at e
  ·cases e
  rename_i r1 ns1 e1
  cases e
  obtain ⟨k1, a1, a2, a3, a4⟩ := h1 _ _ _ e1
  have c1 := cc.1 r ns1 e1
  refine callS_of Tryz.func65 (by rfl) rfl (by kernel_rfl) (by rfl) [FK, FK1] rfl ?_
  ((conv => whnf);repeat' ((first|(with_reducible first|apply a_|apply b_|apply c_)|((with_reducible first|apply d_|apply e_|apply f_|apply g_);focus first|omega|(simp only [q_]<;>omega))|((with_reducible first|apply i_|apply h_);focus first|omega|(simp only [q_]<;>omega))|((with_reducible apply h_);focus first|decide|kernel_rfl)|refine s_ (by decide) ?_|refine t_ (by decide) ?_|with_reducible first|apply l_|apply m_|apply n_|apply o_|refine p_ (fun _ => ?_) (fun _ => ?_))<;>(conv => whnf)))
  refine LoopC.mk Nat (fun j => [(0, .d (.ptr FK 0)), (2, pInt .i64 j)]) (fun j => pb FK FK1 (l.drop j) out) [FK, FK1] (fun j => j ≤ H) (fun j => H - j) 0 (Nat.zero_le _) ?start ?round
  case start =>
   refine ⟨[(FK, FK), (FK1, FK1)], rfl, rfl, ?_, ?_⟩ <;> (repeat' (first | exact rfl | exact trivial | exact Or.inl rfl | refine And.intro ?_ ?_))
  case round =>
   intro j hj
   have hj : j ≤ H := hj
   have hlj : (l.drop j).length ≤ 100000 := by rw [List.length_drop]; omega
   have ct := s_take wNot (l.drop j) hlj out
   by_cases q : j < H
   ·have e2 : tkO wNot (l.drop j) = l.drop (j + 1) := by unfold tkO; rw [hpos j q, if_pos rfl, List.drop_drop]
    rw [hpos j q, e2] at ct
    ((conv => whnf);repeat' ((first|(with_reducible first|apply a_|apply b_|apply c_)|((with_reducible first|apply d_|apply e_|apply f_|apply g_);focus first|omega|(simp only [q_]<;>omega))|((with_reducible first|apply i_|apply h_);focus first|omega|(simp only [q_]<;>omega))|((with_reducible apply h_);focus first|decide|kernel_rfl)|refine s_ (by decide) ?_|refine t_ (by decide) ?_|(refine CallP.ret [(FK, FK), (FK1, FK1)] _ _ _ _ _ _ _ ct rfl rfl rfl rfl ⟨rfl, rfl, trivial⟩ ?_)|with_reducible first|apply l_|apply m_|apply n_|apply o_|refine p_ (fun _ => ?_) (fun _ => ?_))<;>(conv => whnf)))
    refine ⟨j + 1, q, by show _ < _; omega, [(FK, FK), (FK1, FK1)], rfl, rfl, ?_, ?_⟩
    all_goals
     (repeat' (first | exact rfl | exact trivial | exact Or.inl rfl | refine And.intro ?_ ?_))
    all_goals exact PLe.int (by omega)
   ·have e0 : j = H := by omega
    subst e0
    have e2 : tkO wNot (l.drop j) = l.drop j := by unfold tkO; rw [hend]; rfl
    rw [hend, e2] at ct
    ((conv => whnf);repeat' ((first|(with_reducible first|apply a_|apply b_|apply c_)|((with_reducible first|apply d_|apply e_|apply f_|apply g_);focus first|omega|(simp only [q_]<;>omega))|((with_reducible first|apply i_|apply h_);focus first|omega|(simp only [q_]<;>omega))|((with_reducible apply h_);focus first|decide|kernel_rfl)|refine s_ (by decide) ?_|refine t_ (by decide) ?_|(refine CallP.ret [(FK, FK), (FK1, FK1)] _ _ _ _ _ _ _ ct rfl rfl rfl rfl ⟨rfl, rfl, trivial⟩ ?_)|(refine CallP.ret [(FK, FK), (FK1, FK1), (NK, 8)] _ _ _ _ _ _ _ c1 rfl rfl rfl rfl ⟨rfl, rfl, trivial⟩ ?_)|with_reducible first|apply l_|apply m_|apply n_|apply o_|refine p_ (fun _ => ?_) (fun _ => ?_))<;>(conv => whnf)))
    refine LoopC.mk Nat (fun i => [(0, .d (.ptr FK 0)), (9, pInt .i64 j), (10, pInt .i64 i)]) (fun i => pb FK 60 r (out ++ (ns1 ++ List.replicate i (nOp 4 1)))) [FK, FK1, 60] (fun i => i ≤ j) (fun i => j - i) 0 (Nat.zero_le _) ?start2 ?round2
    case start2 =>
     have e3 : out ++ (ns1 ++ List.replicate 0 (nOp 4 1)) = out ++ ns1 := by rw [List.replicate_zero, List.append_nil]
     rw [e3]
     refine ⟨[(FK, FK), (FK1, FK1), (60, 8)], rfl, rfl, ?_, ?_⟩ <;> (repeat' (first | exact rfl | exact trivial | exact Or.inl rfl | refine And.intro ?_ ?_))
    case round2 =>
     intro i hi
     have hi : i ≤ j := hi
     by_cases q2 : i < j
     ·have hlen : (out ++ (ns1 ++ List.replicate i (nOp 4 1))).length = out.length + ns1.length + i := by rw [List.length_append, List.length_append, List.length_replicate]; omega
      have cp := s_put 4 1 r (out ++ (ns1 ++ List.replicate i (nOp 4 1))) (by omega)
      have e3 : out ++ (ns1 ++ List.replicate (i + 1) (nOp 4 1)) = out ++ (ns1 ++ List.replicate i (nOp 4 1)) ++ [nOp 4 1] := by rw [List.replicate_succ', List.append_assoc, List.append_assoc]
      rw [← e3] at cp
      ((conv => whnf);repeat' ((first|(with_reducible first|apply a_|apply b_|apply c_)|((with_reducible first|apply d_|apply e_|apply f_|apply g_);focus first|omega|(simp only [q_]<;>omega))|((with_reducible first|apply i_|apply h_);focus first|omega|(simp only [q_]<;>omega))|((with_reducible apply h_);focus first|decide|kernel_rfl)|refine s_ (by decide) ?_|refine t_ (by decide) ?_|(refine CallP.ret [(FK, FK), (FK1, 60), (NK, 13)] _ _ _ _ _ _ _ cp rfl rfl rfl rfl ⟨rfl, rfl, trivial⟩ ?_)|with_reducible first|apply l_|apply m_|apply n_|apply o_|refine p_ (fun _ => ?_) (fun _ => ?_))<;>(conv => whnf)))
      refine ⟨i + 1, q2, by show _ < _; omega, [(FK, FK), (FK1, FK1), (60, 13)], rfl, rfl, ?_, ?_⟩
      all_goals
       (repeat' (first | exact rfl | exact trivial | exact Or.inl rfl | refine And.intro ?_ ?_))
      all_goals exact PLe.int (by omega)
     ·have e0 : i = j := by omega
      subst e0
      ((conv => whnf);repeat' ((first|(with_reducible first|apply a_|apply b_|apply c_)|((with_reducible first|apply d_|apply e_|apply f_|apply g_);focus first|omega|(simp only [q_]<;>omega))|((with_reducible first|apply i_|apply h_);focus first|omega|(simp only [q_]<;>omega))|((with_reducible apply h_);focus first|decide|kernel_rfl)|refine s_ (by decide) ?_|refine t_ (by decide) ?_|with_reducible first|apply l_|apply m_|apply n_|apply o_|refine p_ (fun _ => ?_) (fun _ => ?_))<;>(conv => whnf)))
      refine RetS.mk [(FK, FK), (FK1, FK1), (NK, 60)] [FK, FK1, NK] rfl rfl rfl ?_ <;> (repeat' (first | exact rfl | exact trivial | exact Or.inl rfl | refine And.intro ?_ ?_))
 ·intro e
  have e1 : one (l.drop H) = none := by
   unfold preF at e
   rw [← hH] at e
   cases hc : one (l.drop H) with
   | none => rfl
   | some x => rw [hc] at e; cases e
  have c1 := cc.2 e1
  refine callX_of Tryz.func65 (by rfl) rfl (by kernel_rfl) (by rfl) [FK, FK1] rfl ?_
  ((conv => whnf);repeat' ((first|(with_reducible first|apply a_|apply b_|apply c_)|((with_reducible first|apply d_|apply e_|apply f_|apply g_);focus first|omega|(simp only [q_]<;>omega))|((with_reducible first|apply i_|apply h_);focus first|omega|(simp only [q_]<;>omega))|((with_reducible apply h_);focus first|decide|kernel_rfl)|refine s_ (by decide) ?_|refine t_ (by decide) ?_|with_reducible first|apply l_|apply m_|apply n_|apply o_|refine p_ (fun _ => ?_) (fun _ => ?_))<;>(conv => whnf)))
  refine LoopC.mk Nat (fun j => [(0, .d (.ptr FK 0)), (2, pInt .i64 j)]) (fun j => pb FK FK1 (l.drop j) out) [FK, FK1] (fun j => j ≤ H) (fun j => H - j) 0 (Nat.zero_le _) ?start ?round
  case start =>
   refine ⟨[(FK, FK), (FK1, FK1)], rfl, rfl, ?_, ?_⟩ <;> (repeat' (first | exact rfl | exact trivial | exact Or.inl rfl | refine And.intro ?_ ?_))
  case round =>
   intro j hj
   have hj : j ≤ H := hj
   have hlj : (l.drop j).length ≤ 100000 := by rw [List.length_drop]; omega
   have ct := s_take wNot (l.drop j) hlj out
   by_cases q : j < H
   ·have e2 : tkO wNot (l.drop j) = l.drop (j + 1) := by unfold tkO; rw [hpos j q, if_pos rfl, List.drop_drop]
    rw [hpos j q, e2] at ct
    ((conv => whnf);repeat' ((first|(with_reducible first|apply a_|apply b_|apply c_)|((with_reducible first|apply d_|apply e_|apply f_|apply g_);focus first|omega|(simp only [q_]<;>omega))|((with_reducible first|apply i_|apply h_);focus first|omega|(simp only [q_]<;>omega))|((with_reducible apply h_);focus first|decide|kernel_rfl)|refine s_ (by decide) ?_|refine t_ (by decide) ?_|(refine CallP.ret [(FK, FK), (FK1, FK1)] _ _ _ _ _ _ _ ct rfl rfl rfl rfl ⟨rfl, rfl, trivial⟩ ?_)|with_reducible first|apply l_|apply m_|apply n_|apply o_|refine p_ (fun _ => ?_) (fun _ => ?_))<;>(conv => whnf)))
    refine ⟨j + 1, q, by show _ < _; omega, [(FK, FK), (FK1, FK1)], rfl, rfl, ?_, ?_⟩
    all_goals
     (repeat' (first | exact rfl | exact trivial | exact Or.inl rfl | refine And.intro ?_ ?_))
    all_goals exact PLe.int (by omega)
   ·have e0 : j = H := by omega
    subst e0
    have e2 : tkO wNot (l.drop j) = l.drop j := by unfold tkO; rw [hend]; rfl
    rw [hend, e2] at ct
    ((conv => whnf);repeat' ((first|(with_reducible first|apply a_|apply b_|apply c_)|((with_reducible first|apply d_|apply e_|apply f_|apply g_);focus first|omega|(simp only [q_]<;>omega))|((with_reducible first|apply i_|apply h_);focus first|omega|(simp only [q_]<;>omega))|((with_reducible apply h_);focus first|decide|kernel_rfl)|refine s_ (by decide) ?_|refine t_ (by decide) ?_|(refine CallP.ret [(FK, FK), (FK1, FK1)] _ _ _ _ _ _ _ ct rfl rfl rfl rfl ⟨rfl, rfl, trivial⟩ ?_)|with_reducible first|apply l_|apply m_|apply n_|apply o_|refine p_ (fun _ => ?_) (fun _ => ?_))<;>(conv => whnf)))
    exact CallP.pan [(FK, FK), (FK1, FK1)] _ _ _ _ c1 rfl rfl rfl ⟨rfl, rfl, trivial⟩ rfl
theorem w_neg (one : List TokenD → PR) (N : Nat) (hN : N ≤ 50000) (h1 : ∀ l, fit 1 l (one l)) (hw : WalkOk 104 one N) : WalkOk 102 (preF sMi 3 one) N := fun l hl ht out ho => by
 have hhl := heads_le sMi l
 obtain ⟨H, hH⟩ : ∃ H, H = heads sMi l := ⟨_, rfl⟩
 rw [← hH] at hhl
 have hdl : (l.drop H).length + H = l.length := by rw [List.length_drop]; omega
 have cc := hw (l.drop H) (by omega) (ht.drop H) out (by omega)
 have hpos : ∀ j, j < H → isH sMi (l.drop j) = true := fun j hj => heads_pos (by omega)
 have hend : isH sMi (l.drop H) = false := by rw [hH]; exact heads_end _ l
 constructor
 ·intro r ns e
  unfold preF at e
  rw [← hH] at e
  split at e
  ·cases e
  rename_i r1 ns1 e1
  cases e
  obtain ⟨k1, a1, a2, a3, a4⟩ := h1 _ _ _ e1
  have c1 := cc.1 r ns1 e1
  refine callS_of Tryz.func102 (by rfl) rfl (by kernel_rfl) (by rfl) [FK, FK1] rfl ?_
  ((conv => whnf);repeat' ((first|(with_reducible first|apply a_|apply b_|apply c_)|((with_reducible first|apply d_|apply e_|apply f_|apply g_);focus first|omega|(simp only [q_]<;>omega))|((with_reducible first|apply i_|apply h_);focus first|omega|(simp only [q_]<;>omega))|((with_reducible apply h_);focus first|decide|kernel_rfl)|refine s_ (by decide) ?_|refine t_ (by decide) ?_|with_reducible first|apply l_|apply m_|apply n_|apply o_|refine p_ (fun _ => ?_) (fun _ => ?_))<;>(conv => whnf)))
  refine LoopC.mk Nat (fun j => [(0, .d (.ptr FK 0)), (2, pInt .i64 j)]) (fun j => pb FK FK1 (l.drop j) out) [FK, FK1] (fun j => j ≤ H) (fun j => H - j) 0 (Nat.zero_le _) ?start ?round
  case start =>
   refine ⟨[(FK, FK), (FK1, FK1)], rfl, rfl, ?_, ?_⟩ <;> (repeat' (first | exact rfl | exact trivial | exact Or.inl rfl | refine And.intro ?_ ?_))
  case round =>
   intro j hj
   have hj : j ≤ H := hj
   have hlj : (l.drop j).length ≤ 100000 := by rw [List.length_drop]; omega
   have ct := s_take sMi (l.drop j) hlj out
   by_cases q : j < H
   ·have e2 : tkO sMi (l.drop j) = l.drop (j + 1) := by unfold tkO; rw [hpos j q, if_pos rfl, List.drop_drop]
    rw [hpos j q, e2] at ct
    ((conv => whnf);repeat' ((first|(with_reducible first|apply a_|apply b_|apply c_)|((with_reducible first|apply d_|apply e_|apply f_|apply g_);focus first|omega|(simp only [q_]<;>omega))|((with_reducible first|apply i_|apply h_);focus first|omega|(simp only [q_]<;>omega))|((with_reducible apply h_);focus first|decide|kernel_rfl)|refine s_ (by decide) ?_|refine t_ (by decide) ?_|(refine CallP.ret [(FK, FK), (FK1, FK1)] _ _ _ _ _ _ _ ct rfl rfl rfl rfl ⟨rfl, rfl, trivial⟩ ?_)|with_reducible first|apply l_|apply m_|apply n_|apply o_|refine p_ (fun _ => ?_) (fun _ => ?_))<;>(conv => whnf)))
    refine ⟨j + 1, q, by show _ < _; omega, [(FK, FK), (FK1, FK1)], rfl, rfl, ?_, ?_⟩
    all_goals
     (repeat' (first | exact rfl | exact trivial | exact Or.inl rfl | refine And.intro ?_ ?_))
    all_goals exact PLe.int (by omega)
   ·have e0 : j = H := by omega
    subst e0
    have e2 : tkO sMi (l.drop j) = l.drop j := by unfold tkO; rw [hend]; rfl
    rw [hend, e2] at ct
    ((conv => whnf);repeat' ((first|(with_reducible first|apply a_|apply b_|apply c_)|((with_reducible first|apply d_|apply e_|apply f_|apply g_);focus first|omega|(simp only [q_]<;>omega))|((with_reducible first|apply i_|apply h_);focus first|omega|(simp only [q_]<;>omega))|((with_reducible apply h_);focus first|decide|kernel_rfl)|refine s_ (by decide) ?_|refine t_ (by decide) ?_|(refine CallP.ret [(FK, FK), (FK1, FK1)] _ _ _ _ _ _ _ ct rfl rfl rfl rfl ⟨rfl, rfl, trivial⟩ ?_)|(refine CallP.ret [(FK, FK), (FK1, FK1), (NK, 8)] _ _ _ _ _ _ _ c1 rfl rfl rfl rfl ⟨rfl, rfl, trivial⟩ ?_)|with_reducible first|apply l_|apply m_|apply n_|apply o_|refine p_ (fun _ => ?_) (fun _ => ?_))<;>(conv => whnf)))
    refine LoopC.mk Nat (fun i => [(0, .d (.ptr FK 0)), (9, pInt .i64 j), (10, pInt .i64 i)]) (fun i => pb FK 60 r (out ++ (ns1 ++ List.replicate i (nOp 3 1)))) [FK, FK1, 60] (fun i => i ≤ j) (fun i => j - i) 0 (Nat.zero_le _) ?start2 ?round2
    case start2 =>
     have e3 : out ++ (ns1 ++ List.replicate 0 (nOp 3 1)) = out ++ ns1 := by rw [List.replicate_zero, List.append_nil]
     rw [e3]
     refine ⟨[(FK, FK), (FK1, FK1), (60, 8)], rfl, rfl, ?_, ?_⟩ <;> (repeat' (first | exact rfl | exact trivial | exact Or.inl rfl | refine And.intro ?_ ?_))
    case round2 =>
     intro i hi
     have hi : i ≤ j := hi
     by_cases q2 : i < j
     ·have hlen : (out ++ (ns1 ++ List.replicate i (nOp 3 1))).length = out.length + ns1.length + i := by rw [List.length_append, List.length_append, List.length_replicate]; omega
      have cp := s_put 3 1 r (out ++ (ns1 ++ List.replicate i (nOp 3 1))) (by omega)
      have e3 : out ++ (ns1 ++ List.replicate (i + 1) (nOp 3 1)) = out ++ (ns1 ++ List.replicate i (nOp 3 1)) ++ [nOp 3 1] := by rw [List.replicate_succ', List.append_assoc, List.append_assoc]
      rw [← e3] at cp
      ((conv => whnf);repeat' ((first|(with_reducible first|apply a_|apply b_|apply c_)|((with_reducible first|apply d_|apply e_|apply f_|apply g_);focus first|omega|(simp only [q_]<;>omega))|((with_reducible first|apply i_|apply h_);focus first|omega|(simp only [q_]<;>omega))|((with_reducible apply h_);focus first|decide|kernel_rfl)|refine s_ (by decide) ?_|refine t_ (by decide) ?_|(refine CallP.ret [(FK, FK), (FK1, 60), (NK, 13)] _ _ _ _ _ _ _ cp rfl rfl rfl rfl ⟨rfl, rfl, trivial⟩ ?_)|with_reducible first|apply l_|apply m_|apply n_|apply o_|refine p_ (fun _ => ?_) (fun _ => ?_))<;>(conv => whnf)))
      refine ⟨i + 1, q2, by show _ < _; omega, [(FK, FK), (FK1, FK1), (60, 13)], rfl, rfl, ?_, ?_⟩
      all_goals
       (repeat' (first | exact rfl | exact trivial | exact Or.inl rfl | refine And.intro ?_ ?_))
      all_goals exact PLe.int (by omega)
     ·have e0 : i = j := by omega
      subst e0
      ((conv => whnf);repeat' ((first|(with_reducible first|apply a_|apply b_|apply c_)|((with_reducible first|apply d_|apply e_|apply f_|apply g_);focus first|omega|(simp only [q_]<;>omega))|((with_reducible first|apply i_|apply h_);focus first|omega|(simp only [q_]<;>omega))|((with_reducible apply h_);focus first|decide|kernel_rfl)|refine s_ (by decide) ?_|refine t_ (by decide) ?_|with_reducible first|apply l_|apply m_|apply n_|apply o_|refine p_ (fun _ => ?_) (fun _ => ?_))<;>(conv => whnf)))
      refine RetS.mk [(FK, FK), (FK1, FK1), (NK, 60)] [FK, FK1, NK] rfl rfl rfl ?_ <;> (repeat' (first | exact rfl | exact trivial | exact Or.inl rfl | refine And.intro ?_ ?_))
 ·intro e
  have e1 : one (l.drop H) = none := by
   unfold preF at e
   rw [← hH] at e
   cases hc : one (l.drop H) with
   | none => rfl
   | some x => rw [hc] at e; cases e
  have c1 := cc.2 e1
  refine callX_of Tryz.func102 (by rfl) rfl (by kernel_rfl) (by rfl) [FK, FK1] rfl ?_
  ((conv => whnf);repeat' ((first|(with_reducible first|apply a_|apply b_|apply c_)|((with_reducible first|apply d_|apply e_|apply f_|apply g_);focus first|omega|(simp only [q_]<;>omega))|((with_reducible first|apply i_|apply h_);focus first|omega|(simp only [q_]<;>omega))|((with_reducible apply h_);focus first|decide|kernel_rfl)|refine s_ (by decide) ?_|refine t_ (by decide) ?_|with_reducible first|apply l_|apply m_|apply n_|apply o_|refine p_ (fun _ => ?_) (fun _ => ?_))<;>(conv => whnf)))
  refine LoopC.mk Nat (fun j => [(0, .d (.ptr FK 0)), (2, pInt .i64 j)]) (fun j => pb FK FK1 (l.drop j) out) [FK, FK1] (fun j => j ≤ H) (fun j => H - j) 0 (Nat.zero_le _) ?start ?round
  case start =>
   refine ⟨[(FK, FK), (FK1, FK1)], rfl, rfl, ?_, ?_⟩ <;> (repeat' (first | exact rfl | exact trivial | exact Or.inl rfl | refine And.intro ?_ ?_))
  case round =>
   intro j hj
   have hj : j ≤ H := hj
   have hlj : (l.drop j).length ≤ 100000 := by rw [List.length_drop]; omega
   have ct := s_take sMi (l.drop j) hlj out
   by_cases q : j < H
   ·have e2 : tkO sMi (l.drop j) = l.drop (j + 1) := by unfold tkO; rw [hpos j q, if_pos rfl, List.drop_drop]
    rw [hpos j q, e2] at ct
    ((conv => whnf);repeat' ((first|(with_reducible first|apply a_|apply b_|apply c_)|((with_reducible first|apply d_|apply e_|apply f_|apply g_);focus first|omega|(simp only [q_]<;>omega))|((with_reducible first|apply i_|apply h_);focus first|omega|(simp only [q_]<;>omega))|((with_reducible apply h_);focus first|decide|kernel_rfl)|refine s_ (by decide) ?_|refine t_ (by decide) ?_|(refine CallP.ret [(FK, FK), (FK1, FK1)] _ _ _ _ _ _ _ ct rfl rfl rfl rfl ⟨rfl, rfl, trivial⟩ ?_)|with_reducible first|apply l_|apply m_|apply n_|apply o_|refine p_ (fun _ => ?_) (fun _ => ?_))<;>(conv => whnf)))
    refine ⟨j + 1, q, by show _ < _; omega, [(FK, FK), (FK1, FK1)], rfl, rfl, ?_, ?_⟩
    all_goals
     (repeat' (first | exact rfl | exact trivial | exact Or.inl rfl | refine And.intro ?_ ?_))
    all_goals exact PLe.int (by omega)
   ·have e0 : j = H := by omega
    subst e0
    have e2 : tkO sMi (l.drop j) = l.drop j := by unfold tkO; rw [hend]; rfl
    rw [hend, e2] at ct
    ((conv => whnf);repeat' ((first|(with_reducible first|apply a_|apply b_|apply c_)|((with_reducible first|apply d_|apply e_|apply f_|apply g_);focus first|omega|(simp only [q_]<;>omega))|((with_reducible first|apply i_|apply h_);focus first|omega|(simp only [q_]<;>omega))|((with_reducible apply h_);focus first|decide|kernel_rfl)|refine s_ (by decide) ?_|refine t_ (by decide) ?_|(refine CallP.ret [(FK, FK), (FK1, FK1)] _ _ _ _ _ _ _ ct rfl rfl rfl rfl ⟨rfl, rfl, trivial⟩ ?_)|with_reducible first|apply l_|apply m_|apply n_|apply o_|refine p_ (fun _ => ?_) (fun _ => ?_))<;>(conv => whnf)))
    exact CallP.pan [(FK, FK), (FK1, FK1)] _ _ _ _ c1 rfl rfl rfl ⟨rfl, rfl, trivial⟩ rfl
end
section
open Go.RowKit K
set_option maxRecDepth 100000
theorem s_one_lit (t : TokenD) (r : List TokenD) (hl : r.length ≤ 90000) (ht : okText t.S) (out : List NodeD) (ho : out.length ≤ 90000) (hm : isM t sLp = false) {n : NodeD} (hn : litF t = some n) :
  CallS Tryz.prog 104 [.d (.ptr FK 0)] [] (pb FK FK1 (t :: r) out) (.tup []) (pb FK NK r (out ++ [n])) := by
 have hml : ((t :: r).map TokenD.c).length = r.length + 1 := by rw [List.length_map, List.length_cons]
 have hol : (out.map NodeD.c).length = out.length := List.length_map _
 have ct := s_take sLp (t :: r) (by rw [List.length_cons]; omega) out
 have eh : isH sLp (t :: r) = false := hm
 have e2 : tkO sLp (t :: r) = t :: r := by unfold tkO; rw [eh]; rfl
 rw [eh, e2] at ct
 have ci := s_is wNull (t :: r) (by rw [List.length_cons]; omega) out
 have eq : isH wNull (t :: r) = isM t wNull := rfl
 rw [eq] at ci
 have pn := p_isname t.S ht
 have ed : List.take ((((t :: r).map TokenD.c).length : Int).toNat - (1 : Int).toNat) (List.drop (1 : Int).toNat ((t :: r).map TokenD.c)) = r.map TokenD.c := cells_drop TokenD.c (t :: r) 1 rfl (z := 1) rfl
 have eo : ∀ x : NodeD, List.take out.length (out.map NodeD.c) ++ [x.c] = (out ++ [x]).map NodeD.c := fun x => by rw [List.take_of_length_le (by rw [hol]; exact Nat.le_refl _), List.map_append]; rfl
 have el : ∀ x : NodeD, out.length + 1 = (out ++ [x]).length := fun x => by rw [List.length_append]; rfl
 refine callS_of Tryz.func104 (by rfl) rfl (by kernel_rfl) (by rfl) [FK, FK1] rfl ?_
 unfold litF at hn
 have eon := eo n
 have eln := el n
 by_cases k2 : t.Kind = 2
 ·rw [if_pos k2] at hn
  cases hn
  ((conv => whnf);repeat' ((first|(with_reducible first|apply a_|apply b_|apply c_)|((with_reducible first|apply d_|apply e_|apply f_|apply g_);focus first|omega|(simp only [q_]<;>omega))|((with_reducible first|apply i_|apply h_);focus first|omega|(simp only [q_]<;>omega))|((with_reducible apply h_);focus first|decide|kernel_rfl)|refine s_ (by decide) ?_|refine t_ (by decide) ?_|(refine CallP.ret [(FK, FK), (FK1, FK1)] _ _ _ _ _ _ _ ct rfl rfl rfl rfl ⟨rfl, rfl, trivial⟩ ?_)|(refine CallP.ret [(FK, FK), (FK1, FK1)] _ _ _ _ _ _ _ ci rfl rfl rfl rfl ⟨rfl, rfl, trivial⟩ ?_)|refine r_ pn rfl ?_|(refine Idx.mapV (f := TokenD.c) 0 rfl t rfl ?_)|(refine Need.by 64 rfl (by show (out.length + 1) * 64 ≤ _;omega) ?_)|with_reducible first|apply l_|apply m_|apply n_|apply o_|refine p_ (fun _ => ?_) (fun _ => ?_))<;>(conv => whnf)))
  refine RetS.mk [(FK, FK), (FK1, FK1), (NK, 81)] [FK, FK1, NK] rfl rfl rfl ⟨⟨rfl, rfl, .inl (congrArg (C.sl 4) ed), ⟨rfl, rfl, rfl, rfl, rfl, eln⟩, rfl⟩, ⟨rfl, rfl, rfl, eon⟩, trivial⟩
 rw [if_neg k2] at hn
 by_cases k3 : t.Kind = 3
 ·rw [if_pos k3] at hn
  cases hn
  ((conv => whnf);repeat' ((first|(with_reducible first|apply a_|apply b_|apply c_)|((with_reducible first|apply d_|apply e_|apply f_|apply g_);focus first|omega|(simp only [q_]<;>omega))|((with_reducible first|apply i_|apply h_);focus first|omega|(simp only [q_]<;>omega))|((with_reducible apply h_);focus first|decide|kernel_rfl)|refine s_ (by decide) ?_|refine t_ (by decide) ?_|(refine CallP.ret [(FK, FK), (FK1, FK1)] _ _ _ _ _ _ _ ct rfl rfl rfl rfl ⟨rfl, rfl, trivial⟩ ?_)|(refine CallP.ret [(FK, FK), (FK1, FK1)] _ _ _ _ _ _ _ ci rfl rfl rfl rfl ⟨rfl, rfl, trivial⟩ ?_)|refine r_ pn rfl ?_|(refine Idx.mapV (f := TokenD.c) 0 rfl t rfl ?_)|(refine Need.by 64 rfl (by show (out.length + 1) * 64 ≤ _;omega) ?_)|with_reducible first|apply l_|apply m_|apply n_|apply o_|refine p_ (fun _ => ?_) (fun _ => ?_))<;>(conv => whnf)))
  all_goals first | refine RetS.mk [(FK, FK), (FK1, FK1), (NK, 81)] [FK, FK1, NK] rfl rfl rfl ⟨⟨rfl, rfl, .inl (congrArg (C.sl 4) ed), ⟨rfl, rfl, rfl, rfl, rfl, eln⟩, rfl⟩, ⟨rfl, rfl, rfl, eon⟩, trivial⟩ | (exfalso; omega)
 rw [if_neg k3] at hn
 by_cases k4 : t.Kind = 4
 ·rw [if_pos k4] at hn
  cases hn
  ((conv => whnf);repeat' ((first|(with_reducible first|apply a_|apply b_|apply c_)|((with_reducible first|apply d_|apply e_|apply f_|apply g_);focus first|omega|(simp only [q_]<;>omega))|((with_reducible first|apply i_|apply h_);focus first|omega|(simp only [q_]<;>omega))|((with_reducible apply h_);focus first|decide|kernel_rfl)|refine s_ (by decide) ?_|refine t_ (by decide) ?_|(refine CallP.ret [(FK, FK), (FK1, FK1)] _ _ _ _ _ _ _ ct rfl rfl rfl rfl ⟨rfl, rfl, trivial⟩ ?_)|(refine CallP.ret [(FK, FK), (FK1, FK1)] _ _ _ _ _ _ _ ci rfl rfl rfl rfl ⟨rfl, rfl, trivial⟩ ?_)|refine r_ pn rfl ?_|(refine Idx.mapV (f := TokenD.c) 0 rfl t rfl ?_)|(refine Need.by 64 rfl (by show (out.length + 1) * 64 ≤ _;omega) ?_)|with_reducible first|apply l_|apply m_|apply n_|apply o_|refine p_ (fun _ => ?_) (fun _ => ?_))<;>(conv => whnf)))
  all_goals first | refine RetS.mk [(FK, FK), (FK1, FK1), (NK, 81)] [FK, FK1, NK] rfl rfl rfl ⟨⟨rfl, rfl, .inl (congrArg (C.sl 4) ed), ⟨rfl, rfl, rfl, rfl, rfl, eln⟩, rfl⟩, ⟨rfl, rfl, rfl, eon⟩, trivial⟩ | (exfalso; omega)
 rw [if_neg k4] at hn
 cases hw : isM t wNull with
 | true =>
  rw [hw, if_pos rfl] at hn
  rw [hw] at ci
  cases hn
  ((conv => whnf);repeat' ((first|(with_reducible first|apply a_|apply b_|apply c_)|((with_reducible first|apply d_|apply e_|apply f_|apply g_);focus first|omega|(simp only [q_]<;>omega))|((with_reducible first|apply i_|apply h_);focus first|omega|(simp only [q_]<;>omega))|((with_reducible apply h_);focus first|decide|kernel_rfl)|refine s_ (by decide) ?_|refine t_ (by decide) ?_|(refine CallP.ret [(FK, FK), (FK1, FK1)] _ _ _ _ _ _ _ ct rfl rfl rfl rfl ⟨rfl, rfl, trivial⟩ ?_)|(refine CallP.ret [(FK, FK), (FK1, FK1)] _ _ _ _ _ _ _ ci rfl rfl rfl rfl ⟨rfl, rfl, trivial⟩ ?_)|refine r_ pn rfl ?_|(refine Idx.mapV (f := TokenD.c) 0 rfl t rfl ?_)|(refine Need.by 64 rfl (by show (out.length + 1) * 64 ≤ _;omega) ?_)|with_reducible first|apply l_|apply m_|apply n_|apply o_|refine p_ (fun _ => ?_) (fun _ => ?_))<;>(conv => whnf)))
  all_goals first | refine RetS.mk [(FK, FK), (FK1, FK1), (NK, 81)] [FK, FK1, NK] rfl rfl rfl ⟨⟨rfl, rfl, .inl (congrArg (C.sl 4) ed), ⟨rfl, rfl, rfl, rfl, rfl, eln⟩, rfl⟩, ⟨rfl, rfl, rfl, eon⟩, trivial⟩ | (exfalso; omega)
 | false =>
  rw [hw, if_neg (by decide)] at hn
  rw [hw] at ci
  by_cases k1 : t.Kind = 1 ∧ nameB t.S = true
  ·rw [if_pos k1] at hn
   obtain ⟨k1, kn⟩ := k1
   rw [kn] at pn
   cases hn
   ((conv => whnf);repeat' ((first|(with_reducible first|apply a_|apply b_|apply c_)|((with_reducible first|apply d_|apply e_|apply f_|apply g_);focus first|omega|(simp only [q_]<;>omega))|((with_reducible first|apply i_|apply h_);focus first|omega|(simp only [q_]<;>omega))|((with_reducible apply h_);focus first|decide|kernel_rfl)|refine s_ (by decide) ?_|refine t_ (by decide) ?_|(refine CallP.ret [(FK, FK), (FK1, FK1)] _ _ _ _ _ _ _ ct rfl rfl rfl rfl ⟨rfl, rfl, trivial⟩ ?_)|(refine CallP.ret [(FK, FK), (FK1, FK1)] _ _ _ _ _ _ _ ci rfl rfl rfl rfl ⟨rfl, rfl, trivial⟩ ?_)|refine r_ pn rfl ?_|(refine Idx.mapV (f := TokenD.c) 0 rfl t rfl ?_)|(refine Need.by 64 rfl (by show (out.length + 1) * 64 ≤ _;omega) ?_)|with_reducible first|apply l_|apply m_|apply n_|apply o_|refine p_ (fun _ => ?_) (fun _ => ?_))<;>(conv => whnf)))
   all_goals first | refine RetS.mk [(FK, FK), (FK1, FK1), (NK, 81)] [FK, FK1, NK] rfl rfl rfl ⟨⟨rfl, rfl, .inl (congrArg (C.sl 4) ed), ⟨rfl, rfl, rfl, rfl, rfl, eln⟩, rfl⟩, ⟨rfl, rfl, rfl, eon⟩, trivial⟩ | (exfalso; omega)
  ·rw [if_neg k1] at hn
   cases hn
theorem x_one_lit (t : TokenD) (r : List TokenD) (hl : r.length ≤ 90000) (ht : okText t.S) (out : List NodeD) (hm : isM t sLp = false) (hn : litF t = none) :
  CallX Tryz.prog 104 [.d (.ptr FK 0)] (pb FK FK1 (t :: r) out) wrongV := by
 have hml : ((t :: r).map TokenD.c).length = r.length + 1 := by rw [List.length_map, List.length_cons]
 have ct := s_take sLp (t :: r) (by rw [List.length_cons]; omega) out
 have eh : isH sLp (t :: r) = false := hm
 have e2 : tkO sLp (t :: r) = t :: r := by unfold tkO; rw [eh]; rfl
 rw [eh, e2] at ct
 have ci := s_is wNull (t :: r) (by rw [List.length_cons]; omega) out
 have eq : isH wNull (t :: r) = isM t wNull := rfl
 rw [eq] at ci
 have pn := p_isname t.S ht
 refine callX_of Tryz.func104 (by rfl) rfl (by kernel_rfl) (by rfl) [FK, FK1] rfl ?_
 unfold litF at hn
 by_cases k2 : t.Kind = 2
 ·rw [if_pos k2] at hn; cases hn
 rw [if_neg k2] at hn
 by_cases k3 : t.Kind = 3
 ·rw [if_pos k3] at hn; cases hn
 rw [if_neg k3] at hn
 by_cases k4 : t.Kind = 4
 ·rw [if_pos k4] at hn; cases hn
 rw [if_neg k4] at hn
 cases hw : isM t wNull with
 | true => rw [hw, if_pos rfl] at hn; cases hn
 | false =>
  rw [hw, if_neg (by decide)] at hn
  rw [hw] at ci
  by_cases k1 : t.Kind = 1 ∧ nameB t.S = true
  ·rw [if_pos k1] at hn; cases hn
  ·cases hnb : nameB t.S with
   | true =>
    have k1' : ¬ t.Kind = 1 := fun x => k1 ⟨x, hnb⟩
    rw [hnb] at pn
    ((conv => whnf);repeat' ((first|(with_reducible first|apply a_|apply b_|apply c_)|((with_reducible first|apply d_|apply e_|apply f_|apply g_);focus first|omega|(simp only [q_]<;>omega))|((with_reducible first|apply i_|apply h_);focus first|omega|(simp only [q_]<;>omega))|((with_reducible apply h_);focus first|decide|kernel_rfl)|refine s_ (by decide) ?_|refine t_ (by decide) ?_|(refine CallP.ret [(FK, FK), (FK1, FK1)] _ _ _ _ _ _ _ ct rfl rfl rfl rfl ⟨rfl, rfl, trivial⟩ ?_)|(refine CallP.ret [(FK, FK), (FK1, FK1)] _ _ _ _ _ _ _ ci rfl rfl rfl rfl ⟨rfl, rfl, trivial⟩ ?_)|refine r_ pn rfl ?_|(refine Idx.mapV (f := TokenD.c) 0 rfl t rfl ?_)|with_reducible first|apply l_|apply m_|apply n_|apply o_|refine p_ (fun _ => ?_) (fun _ => ?_))<;>(conv => whnf)))
    all_goals (exfalso; omega)
   | false =>
    rw [hnb] at pn
    ((conv => whnf);repeat' ((first|(with_reducible first|apply a_|apply b_|apply c_)|((with_reducible first|apply d_|apply e_|apply f_|apply g_);focus first|omega|(simp only [q_]<;>omega))|((with_reducible first|apply i_|apply h_);focus first|omega|(simp only [q_]<;>omega))|((with_reducible apply h_);focus first|decide|kernel_rfl)|refine s_ (by decide) ?_|refine t_ (by decide) ?_|(refine CallP.ret [(FK, FK), (FK1, FK1)] _ _ _ _ _ _ _ ct rfl rfl rfl rfl ⟨rfl, rfl, trivial⟩ ?_)|(refine CallP.ret [(FK, FK), (FK1, FK1)] _ _ _ _ _ _ _ ci rfl rfl rfl rfl ⟨rfl, rfl, trivial⟩ ?_)|refine r_ pn rfl ?_|(refine Idx.mapV (f := TokenD.c) 0 rfl t rfl ?_)|with_reducible first|apply l_|apply m_|apply n_|apply o_|refine p_ (fun _ => ?_) (fun _ => ?_))<;>(conv => whnf)))
    all_goals (exfalso; omega)
theorem w_one (rec : List TokenD → PR) (N : Nat) (hN : N ≤ 50000) (h1 : ∀ l, fit 1 l (rec l)) (hw : ∀ M, M < N → WalkOk 28 rec M) : WalkOk 104 (oneF rec) N := fun l hl ht out ho => by
 cases l with
 | nil =>
  refine ⟨fun r ns e => (by cases e), fun _ => ?_⟩
  have ct := s_take sLp [] (by simp) out
  have eh : isH sLp [] = false := rfl
  have e2 : tkO sLp [] = [] := rfl
  rw [eh, e2] at ct
  refine callX_of Tryz.func104 (by rfl) rfl (by kernel_rfl) (by rfl) [FK, FK1] rfl ?_
  ((conv => whnf);repeat' ((first|(with_reducible first|apply a_|apply b_|apply c_)|((with_reducible first|apply d_|apply e_|apply f_|apply g_);focus first|omega|(simp only [q_]<;>omega))|((with_reducible first|apply i_|apply h_);focus first|omega|(simp only [q_]<;>omega))|((with_reducible apply h_);focus first|decide|kernel_rfl)|refine s_ (by decide) ?_|refine t_ (by decide) ?_|(refine CallP.ret [(FK, FK), (FK1, FK1)] _ _ _ _ _ _ _ ct rfl rfl rfl rfl ⟨rfl, rfl, trivial⟩ ?_)|with_reducible first|apply l_|apply m_|apply n_|apply o_|refine p_ (fun _ => ?_) (fun _ => ?_))<;>(conv => whnf)))
 | cons t r =>
  rw [List.length_cons] at hl ho
  have ht1 : okText t.S := ht t List.mem_cons_self
  have htr : okT r := fun x hx => ht x (List.mem_cons_of_mem _ hx)
  cases hm : isM t sLp with
  | false =>
   have hne : ¬ (false = true) := by decide
   constructor
   ·intro r2 ns e
    rw [oneF, hm, if_neg hne] at e
    split at e
    ·cases e
    ·rename_i n hn
     cases e
     exact s_one_lit t r (by omega) ht1 out (by omega) hm hn
   ·intro e
    rw [oneF, hm, if_neg hne] at e
    split at e
    ·rename_i hn
     exact x_one_lit t r (by omega) ht1 out hm hn
    ·cases e
  | true =>
   have ct := s_take sLp (t :: r) (by rw [List.length_cons]; omega) out
   have eh : isH sLp (t :: r) = true := hm
   have e2 : tkO sLp (t :: r) = r := by unfold tkO; rw [eh]; rfl
   rw [eh, e2] at ct
   have cc := hw r.length (by omega) r (Nat.le_refl _) htr out (by omega)
   cases er : rec r with
   | none =>
    refine ⟨fun r2 ns e => (by rw [oneF, hm, if_pos rfl, er] at e; cases e), fun e => ?_⟩
    have c1 := cc.2 er
    refine callX_of Tryz.func104 (by rfl) rfl (by kernel_rfl) (by rfl) [FK, FK1] rfl ?_
    ((conv => whnf);repeat' ((first|(with_reducible first|apply a_|apply b_|apply c_)|((with_reducible first|apply d_|apply e_|apply f_|apply g_);focus first|omega|(simp only [q_]<;>omega))|((with_reducible first|apply i_|apply h_);focus first|omega|(simp only [q_]<;>omega))|((with_reducible apply h_);focus first|decide|kernel_rfl)|refine s_ (by decide) ?_|refine t_ (by decide) ?_|(refine CallP.ret [(FK, FK), (FK1, FK1)] _ _ _ _ _ _ _ ct rfl rfl rfl rfl ⟨rfl, rfl, trivial⟩ ?_)|with_reducible first|apply l_|apply m_|apply n_|apply o_|refine p_ (fun _ => ?_) (fun _ => ?_))<;>(conv => whnf)))
    exact CallP.pan [(FK, FK), (FK1, FK1)] _ _ _ _ c1 rfl rfl rfl ⟨rfl, rfl, trivial⟩ rfl
   | some x =>
    obtain ⟨r1, ns1⟩ := x
    obtain ⟨k1, a1, a2, a3, a4⟩ := h1 r r1 ns1 er
    have hr1 : r1.length + k1 = r.length := by rw [a3, List.length_drop]; omega
    have c1 := cc.1 r1 ns1 er
    cases hp : isH sRp r1 with
    | true =>
     refine ⟨fun r2 ns e => ?_, fun e => (by rw [oneF, hm, if_pos rfl, er] at e; dsimp only at e; rw [if_pos hp] at e; cases e)⟩
     rw [oneF, hm, if_pos rfl, er] at e
     dsimp only at e
     rw [if_pos hp] at e
     cases e
     have cm := s_must sRp r1 (by omega) (out ++ ns1) hp
     refine callS_of Tryz.func104 (by rfl) rfl (by kernel_rfl) (by rfl) [FK, FK1] rfl ?_
     ((conv => whnf);repeat' ((first|(with_reducible first|apply a_|apply b_|apply c_)|((with_reducible first|apply d_|apply e_|apply f_|apply g_);focus first|omega|(simp only [q_]<;>omega))|((with_reducible first|apply i_|apply h_);focus first|omega|(simp only [q_]<;>omega))|((with_reducible apply h_);focus first|decide|kernel_rfl)|refine s_ (by decide) ?_|refine t_ (by decide) ?_|(refine CallP.ret [(FK, FK), (FK1, FK1)] _ _ _ _ _ _ _ ct rfl rfl rfl rfl ⟨rfl, rfl, trivial⟩ ?_)|(refine CallP.ret [(FK, FK), (FK1, FK1), (NK, 7)] _ _ _ _ _ _ _ c1 rfl rfl rfl rfl ⟨rfl, rfl, trivial⟩ ?_)|(refine CallP.ret [(FK, FK), (FK1, 7)] _ _ _ _ _ _ _ cm rfl rfl rfl rfl ⟨rfl, rfl, trivial⟩ ?_)|with_reducible first|apply l_|apply m_|apply n_|apply o_|refine p_ (fun _ => ?_) (fun _ => ?_))<;>(conv => whnf)))
     refine RetS.mk [(FK, FK), (FK1, FK1), (NK, 7)] [FK, FK1, NK] rfl rfl rfl ?_ <;> (repeat' (first | exact rfl | exact trivial | exact Or.inl rfl | refine And.intro ?_ ?_))
    | false =>
     refine ⟨fun r2 ns e => (by rw [oneF, hm, if_pos rfl, er] at e; dsimp only at e; rw [hp] at e; cases e), fun e => ?_⟩
     have hlen : (out ++ ns1).length = out.length + ns1.length := List.length_append
     have cm := x_must sRp r1 (by omega) (out ++ ns1) hp
     refine callX_of Tryz.func104 (by rfl) rfl (by kernel_rfl) (by rfl) [FK, FK1] rfl ?_
     ((conv => whnf);repeat' ((first|(with_reducible first|apply a_|apply b_|apply c_)|((with_reducible first|apply d_|apply e_|apply f_|apply g_);focus first|omega|(simp only [q_]<;>omega))|((with_reducible first|apply i_|apply h_);focus first|omega|(simp only [q_]<;>omega))|((with_reducible apply h_);focus first|decide|kernel_rfl)|refine s_ (by decide) ?_|refine t_ (by decide) ?_|(refine CallP.ret [(FK, FK), (FK1, FK1)] _ _ _ _ _ _ _ ct rfl rfl rfl rfl ⟨rfl, rfl, trivial⟩ ?_)|(refine CallP.ret [(FK, FK), (FK1, FK1), (NK, 7)] _ _ _ _ _ _ _ c1 rfl rfl rfl rfl ⟨rfl, rfl, trivial⟩ ?_)|with_reducible first|apply l_|apply m_|apply n_|apply o_|refine p_ (fun _ => ?_) (fun _ => ?_))<;>(conv => whnf)))
     exact CallP.pan [(FK, FK), (FK1, 7)] _ _ _ _ cm rfl rfl rfl ⟨rfl, rfl, trivial⟩ rfl
end
section
open Go.RowKit K
set_option maxRecDepth 100000
theorem listR_step {rec : List TokenD → PR} (h1 : ∀ l, fit 1 l (rec l)) {l : List TokenD} (ho : isH sCo l = true) : (rec (l.drop 1) = none → listR rec (l.length + 1) l = none) ∧ (∀ r ns, rec (l.drop 1) = some (r, ns) → listR rec (l.length + 1) l = match listR rec (r.length + 1) r with
    | none => none
    | some (r2, ms, k) => some (r2, ns ++ ms, k + 1)) := by
 have hp := isH_pos ho
 constructor
 ·intro e
  rw [listR, if_pos ho, e]
 ·intro r ns e
  rw [listR, if_pos ho, e]
  dsimp only
  obtain ⟨k1, a1, a2, a3, a4⟩ := fit_at hp (h1 _) e
  have hl : r.length + 2 ≤ l.length := by rw [a3, List.length_drop]; omega
  rw [listR_fuel h1 l.length (r.length + 1) r (by omega) (by omega)]
  cases listR rec (r.length + 1) r <;> rfl
theorem listR_stop {rec : List TokenD → PR} {l : List TokenD} (ho : isH sCo l = false) (n : Nat) : listR rec (n + 1) l = some (l, [], 0) := by
 rw [listR, if_neg (by rw [ho]; decide)]
theorem s_list (rec : List TokenD → PR) (N : Nat) (hN : N ≤ 50000) (h1 : ∀ l, fit 1 l (rec l)) (hw : ∀ M, M < N → WalkOk 28 rec M) (l : List TokenD) (hl : l.length ≤ N) (ht : okT l) (out : List NodeD) (ho : out.length + l.length ≤ 90000) {r : List TokenD} {ns : List NodeD} {n : Nat} (hr : listF rec l = some (r, ns, n)) :
  CallS Tryz.prog 96 [.d (.ptr FK 0)] [] (pb FK FK1 l out) (pInt .i64 (n : Int)) (pb FK NK r (out ++ ns)) := by
 unfold listF at hr
 split at hr
 case isFalse => cases hr
 rename_i hb
 have hp := isH_pos hb
 have hd1 : (l.drop 1).length + 1 = l.length := by rw [List.length_drop]; omega
 split at hr
 ·cases hr
 rename_i r1 ns1 e1
 obtain ⟨k1, a1, a2, a3, a4⟩ := fit_at hp (h1 _) e1
 have hr1 : r1.length + k1 = l.length := by rw [a3, List.length_drop]; omega
 split at hr
 ·cases hr
 rename_i r2 ms k e2
 split at hr
 case isFalse => cases hr
 rename_i hq
 cases hr
 have cm := s_must sLp l (by omega) out hb
 have c1 := (hw (l.drop 1).length (by omega) (l.drop 1) (Nat.le_refl _) (ht.drop 1) out (by omega)).1 r1 ns1 e1
 refine callS_of Tryz.func96 (by rfl) rfl (by kernel_rfl) (by rfl) [FK, FK1] rfl ?_
 ((conv => whnf);repeat' ((first|(with_reducible first|apply a_|apply b_|apply c_)|((with_reducible first|apply d_|apply e_|apply f_|apply g_);focus first|omega|(simp only [q_]<;>omega))|((with_reducible first|apply i_|apply h_);focus first|omega|(simp only [q_]<;>omega))|((with_reducible apply h_);focus first|decide|kernel_rfl)|refine s_ (by decide) ?_|refine t_ (by decide) ?_|(refine CallP.ret [(FK, FK), (FK1, FK1)] _ _ _ _ _ _ _ cm rfl rfl rfl rfl ⟨rfl, rfl, trivial⟩ ?_)|(refine CallP.ret [(FK, FK), (FK1, FK1), (NK, 7)] _ _ _ _ _ _ _ c1 rfl rfl rfl rfl ⟨rfl, rfl, trivial⟩ ?_)|with_reducible first|apply l_|apply m_|apply n_|apply o_|refine p_ (fun _ => ?_) (fun _ => ?_))<;>(conv => whnf)))
 have f1 : r1.length < N := by omega
 have f2 : okT r1 := by rw [a3]; exact ht.drop k1
 have f3 : (out ++ ns1).length + r1.length ≤ 90000 := by rw [List.length_append]; omega
 have f4 : (1 : Nat) + r1.length ≤ 90000 := by omega
 refine LoopC.mk (List TokenD × List NodeD × Nat) (fun s => [(0, .d (.ptr FK 0)), (3, pInt .i64 (s.2.2 : Int))]) (fun s => pb FK 90 s.1 s.2.1) [FK, FK1, 90] (fun s => s.1.length < N ∧ okT s.1 ∧ s.2.1.length + s.1.length ≤ 90000 ∧ s.2.2 + s.1.length ≤ 90000 ∧ ∃ ms' k', listR rec (s.1.length + 1) s.1 = some (r2, ms', k') ∧ s.2.1 ++ ms' = out ++ (ns1 ++ ms) ∧ s.2.2 + k' = k + 1) (fun s => s.1.length) (r1, out ++ ns1, 1) ⟨f1, f2, f3, f4, ms, k, e2, List.append_assoc _ _ _, Nat.add_comm _ _⟩ ?start ?round
 case start =>
  refine ⟨[(FK, FK), (FK1, FK1), (90, 7)], rfl, rfl, ?_, ?_⟩ <;> (repeat' (first | exact rfl | exact trivial | exact Or.inl rfl | refine And.intro ?_ ?_))
 case round =>
  rintro ⟨l', o', c'⟩ ⟨b1, b2, b3, b6, ms', k', b4, b5, b7⟩
  dsimp only at b1 b2 b3 b4 b5 b6 b7
  have ct := s_take sCo l' (by omega) o'
  cases hc : isH sCo l' with
  | false =>
   have e3 : tkO sCo l' = l' := by unfold tkO; rw [hc]; rfl
   rw [hc, e3] at ct
   rw [listR_stop hc] at b4
   cases b4
   rw [List.append_nil] at b5
   have cm2 := s_must sRp r2 (by omega) o' hq
   have h9 : c' = k + 1 := b7
   subst h9
   ((conv => whnf);repeat' ((first|(with_reducible first|apply a_|apply b_|apply c_)|((with_reducible first|apply d_|apply e_|apply f_|apply g_);focus first|omega|(simp only [q_]<;>omega))|((with_reducible first|apply i_|apply h_);focus first|omega|(simp only [q_]<;>omega))|((with_reducible apply h_);focus first|decide|kernel_rfl)|refine s_ (by decide) ?_|refine t_ (by decide) ?_|(refine CallP.ret [(FK, FK), (FK1, 90)] _ _ _ _ _ _ _ ct rfl rfl rfl rfl ⟨rfl, rfl, trivial⟩ ?_)|(refine CallP.ret [(FK, FK), (FK1, 90)] _ _ _ _ _ _ _ cm2 rfl rfl rfl rfl ⟨rfl, rfl, trivial⟩ ?_)|with_reducible first|apply l_|apply m_|apply n_|apply o_|refine p_ (fun _ => ?_) (fun _ => ?_))<;>(conv => whnf)))
   refine RetS.mk [(FK, FK), (FK1, FK1), (NK, 90)] [FK, FK1, NK] rfl rfl (.inl rfl) ?_
   rw [← b5]
   (repeat' (first | exact rfl | exact trivial | exact Or.inl rfl | refine And.intro ?_ ?_))
  | true =>
   have e3 : tkO sCo l' = l'.drop 1 := by unfold tkO; rw [hc]; rfl
   rw [hc, e3] at ct
   have hpc := isH_pos hc
   have hdc : (l'.drop 1).length + 1 = l'.length := by rw [List.length_drop]; omega
   have cw := hw (l'.drop 1).length (by omega) (l'.drop 1) (Nat.le_refl _) (b2.drop 1) o' (by omega)
   obtain ⟨q1, q2⟩ := listR_step h1 hc
   cases er : rec (l'.drop 1) with
   | none => rw [q1 er] at b4; cases b4
   | some x =>
    obtain ⟨r3, ns3⟩ := x
    rw [q2 r3 ns3 er] at b4
    obtain ⟨k3, d1, d2, d3, d4⟩ := fit_at hpc (h1 _) er
    have hr3 : r3.length + k3 = l'.length := by rw [d3, List.length_drop]; omega
    have c3 := cw.1 r3 ns3 er
    ((conv => whnf);repeat' ((first|(with_reducible first|apply a_|apply b_|apply c_)|((with_reducible first|apply d_|apply e_|apply f_|apply g_);focus first|omega|(simp only [q_]<;>omega))|((with_reducible first|apply i_|apply h_);focus first|omega|(simp only [q_]<;>omega))|((with_reducible apply h_);focus first|decide|kernel_rfl)|refine s_ (by decide) ?_|refine t_ (by decide) ?_|(refine CallP.ret [(FK, FK), (FK1, 90)] _ _ _ _ _ _ _ ct rfl rfl rfl rfl ⟨rfl, rfl, trivial⟩ ?_)|(refine CallP.ret [(FK, FK), (FK1, 90), (NK, 13)] _ _ _ _ _ _ _ c3 rfl rfl rfl rfl ⟨rfl, rfl, trivial⟩ ?_)|with_reducible first|apply l_|apply m_|apply n_|apply o_|refine p_ (fun _ => ?_) (fun _ => ?_))<;>(conv => whnf)))
    have hlen : (o' ++ ns3).length = o'.length + ns3.length := List.length_append
    have g1 : r3.length < N := by omega
    have g2 : okT r3 := by rw [d3]; exact b2.drop _
    have g3 : (o' ++ ns3).length + r3.length ≤ 90000 := by omega
    have g4 : r3.length < l'.length := by omega
    have g6 : c' + 1 + r3.length ≤ 90000 := by omega
    split at b4
    ·cases b4
    rename_i r4 ms4 k4 e4
    cases b4
    have g8 : c' + 1 + k4 = k + 1 := by omega
    refine ⟨(r3, o' ++ ns3, c' + 1), ⟨g1, g2, g3, g6, ms4, k4, e4, ?_, g8⟩, g4, [(FK, FK), (FK1, FK1), (90, 13)], rfl, rfl, ?_, ?_⟩
    ·rw [← b5, List.append_assoc]
    all_goals
     (repeat' (first | exact rfl | exact trivial | exact Or.inl rfl | refine And.intro ?_ ?_))
    all_goals exact PLe.int (by omega)
theorem x_list (rec : List TokenD → PR) (N : Nat) (hN : N ≤ 50000) (h1 : ∀ l, fit 1 l (rec l)) (hw : ∀ M, M < N → WalkOk 28 rec M) (l : List TokenD) (hl : l.length ≤ N) (ht : okT l) (out : List NodeD) (ho : out.length + l.length ≤ 90000) (hr : listF rec l = none) :
  CallX Tryz.prog 96 [.d (.ptr FK 0)] (pb FK FK1 l out) wrongV := by
 refine callX_of Tryz.func96 (by rfl) rfl (by kernel_rfl) (by rfl) [FK, FK1] rfl ?_
 cases hb : isH sLp l with
 | false =>
  have cm := x_must sLp l (by omega) out hb
  ((conv => whnf);repeat' ((first|(with_reducible first|apply a_|apply b_|apply c_)|((with_reducible first|apply d_|apply e_|apply f_|apply g_);focus first|omega|(simp only [q_]<;>omega))|((with_reducible first|apply i_|apply h_);focus first|omega|(simp only [q_]<;>omega))|((with_reducible apply h_);focus first|decide|kernel_rfl)|refine s_ (by decide) ?_|refine t_ (by decide) ?_|with_reducible first|apply l_|apply m_|apply n_|apply o_|refine p_ (fun _ => ?_) (fun _ => ?_))<;>(conv => whnf)))
  exact CallP.pan [(FK, FK), (FK1, FK1)] _ _ _ _ cm rfl rfl rfl ⟨rfl, rfl, trivial⟩ rfl
 | true =>
 unfold listF at hr
 rw [if_pos hb] at hr
 have hp := isH_pos hb
 have hd1 : (l.drop 1).length + 1 = l.length := by rw [List.length_drop]; omega
 have cm := s_must sLp l (by omega) out hb
 have cw := hw (l.drop 1).length (by omega) (l.drop 1) (Nat.le_refl _) (ht.drop 1) out (by omega)
 cases e1 : rec (l.drop 1) with
 | none =>
  have c1 := cw.2 e1
  ((conv => whnf);repeat' ((first|(with_reducible first|apply a_|apply b_|apply c_)|((with_reducible first|apply d_|apply e_|apply f_|apply g_);focus first|omega|(simp only [q_]<;>omega))|((with_reducible first|apply i_|apply h_);focus first|omega|(simp only [q_]<;>omega))|((with_reducible apply h_);focus first|decide|kernel_rfl)|refine s_ (by decide) ?_|refine t_ (by decide) ?_|(refine CallP.ret [(FK, FK), (FK1, FK1)] _ _ _ _ _ _ _ cm rfl rfl rfl rfl ⟨rfl, rfl, trivial⟩ ?_)|with_reducible first|apply l_|apply m_|apply n_|apply o_|refine p_ (fun _ => ?_) (fun _ => ?_))<;>(conv => whnf)))
  exact CallP.pan [(FK, FK), (FK1, FK1)] _ _ _ _ c1 rfl rfl rfl ⟨rfl, rfl, trivial⟩ rfl
 | some x =>
 obtain ⟨r1, ns1⟩ := x
 rw [e1] at hr
 dsimp only at hr
 obtain ⟨k1, a1, a2, a3, a4⟩ := fit_at hp (h1 _) e1
 have hr1 : r1.length + k1 = l.length := by rw [a3, List.length_drop]; omega
 have c1 := cw.1 r1 ns1 e1
 have hq : ∀ r2 ms k, listR rec (r1.length + 1) r1 = some (r2, ms, k) → isH sRp r2 = false := by
  intro r2 ms k e2
  rw [e2] at hr
  dsimp only at hr
  split at hr
  ·cases hr
  ·rename_i g; rwa [Bool.not_eq_true] at g
 ((conv => whnf);repeat' ((first|(with_reducible first|apply a_|apply b_|apply c_)|((with_reducible first|apply d_|apply e_|apply f_|apply g_);focus first|omega|(simp only [q_]<;>omega))|((with_reducible first|apply i_|apply h_);focus first|omega|(simp only [q_]<;>omega))|((with_reducible apply h_);focus first|decide|kernel_rfl)|refine s_ (by decide) ?_|refine t_ (by decide) ?_|(refine CallP.ret [(FK, FK), (FK1, FK1)] _ _ _ _ _ _ _ cm rfl rfl rfl rfl ⟨rfl, rfl, trivial⟩ ?_)|(refine CallP.ret [(FK, FK), (FK1, FK1), (NK, 7)] _ _ _ _ _ _ _ c1 rfl rfl rfl rfl ⟨rfl, rfl, trivial⟩ ?_)|with_reducible first|apply l_|apply m_|apply n_|apply o_|refine p_ (fun _ => ?_) (fun _ => ?_))<;>(conv => whnf)))
 have f1 : r1.length < N := by omega
 have f2 : okT r1 := by rw [a3]; exact ht.drop k1
 have f3 : (out ++ ns1).length + r1.length ≤ 90000 := by rw [List.length_append]; omega
 have f4 : (1 : Nat) + r1.length ≤ 90000 := by omega
 refine LoopC.mk (List TokenD × List NodeD × Nat) (fun s => [(0, .d (.ptr FK 0)), (3, pInt .i64 (s.2.2 : Int))]) (fun s => pb FK 90 s.1 s.2.1) [FK, FK1, 90] (fun s => s.1.length < N ∧ okT s.1 ∧ s.2.1.length + s.1.length ≤ 90000 ∧ s.2.2 + s.1.length ≤ 90000 ∧ ∀ r2 ms k, listR rec (s.1.length + 1) s.1 = some (r2, ms, k) → isH sRp r2 = false) (fun s => s.1.length) (r1, out ++ ns1, 1) ⟨f1, f2, f3, f4, hq⟩ ?start ?round
 case start =>
  refine ⟨[(FK, FK), (FK1, FK1), (90, 7)], rfl, rfl, ?_, ?_⟩ <;> (repeat' (first | exact rfl | exact trivial | exact Or.inl rfl | refine And.intro ?_ ?_))
 case round =>
  rintro ⟨l', o', c'⟩ ⟨b1, b2, b3, b6, b4⟩
  dsimp only at b1 b2 b3 b4 b6
  have ct := s_take sCo l' (by omega) o'
  cases hc : isH sCo l' with
  | false =>
   have b5 := b4 _ _ _ (listR_stop hc _)
   have e3 : tkO sCo l' = l' := by unfold tkO; rw [hc]; rfl
   rw [hc, e3] at ct
   have cm2 := x_must sRp l' (by omega) o' b5
   ((conv => whnf);repeat' ((first|(with_reducible first|apply a_|apply b_|apply c_)|((with_reducible first|apply d_|apply e_|apply f_|apply g_);focus first|omega|(simp only [q_]<;>omega))|((with_reducible first|apply i_|apply h_);focus first|omega|(simp only [q_]<;>omega))|((with_reducible apply h_);focus first|decide|kernel_rfl)|refine s_ (by decide) ?_|refine t_ (by decide) ?_|(refine CallP.ret [(FK, FK), (FK1, 90)] _ _ _ _ _ _ _ ct rfl rfl rfl rfl ⟨rfl, rfl, trivial⟩ ?_)|with_reducible first|apply l_|apply m_|apply n_|apply o_|refine p_ (fun _ => ?_) (fun _ => ?_))<;>(conv => whnf)))
   exact CallP.pan [(FK, FK), (FK1, 90)] _ _ _ _ cm2 rfl rfl rfl ⟨rfl, rfl, trivial⟩ rfl
  | true =>
   have e3 : tkO sCo l' = l'.drop 1 := by unfold tkO; rw [hc]; rfl
   rw [hc, e3] at ct
   have hpc := isH_pos hc
   have hdc : (l'.drop 1).length + 1 = l'.length := by rw [List.length_drop]; omega
   have cw := hw (l'.drop 1).length (by omega) (l'.drop 1) (Nat.le_refl _) (b2.drop 1) o' (by omega)
   obtain ⟨q1, q2⟩ := listR_step h1 hc
   cases er : rec (l'.drop 1) with
   | none =>
    have c3 := cw.2 er
    ((conv => whnf);repeat' ((first|(with_reducible first|apply a_|apply b_|apply c_)|((with_reducible first|apply d_|apply e_|apply f_|apply g_);focus first|omega|(simp only [q_]<;>omega))|((with_reducible first|apply i_|apply h_);focus first|omega|(simp only [q_]<;>omega))|((with_reducible apply h_);focus first|decide|kernel_rfl)|refine s_ (by decide) ?_|refine t_ (by decide) ?_|(refine CallP.ret [(FK, FK), (FK1, 90)] _ _ _ _ _ _ _ ct rfl rfl rfl rfl ⟨rfl, rfl, trivial⟩ ?_)|with_reducible first|apply l_|apply m_|apply n_|apply o_|refine p_ (fun _ => ?_) (fun _ => ?_))<;>(conv => whnf)))
    exact CallP.pan [(FK, FK), (FK1, 90)] _ _ _ _ c3 rfl rfl rfl ⟨rfl, rfl, trivial⟩ rfl
   | some x =>
    obtain ⟨r3, ns3⟩ := x
    obtain ⟨k3, d1, d2, d3, d4⟩ := fit_at hpc (h1 _) er
    have hr3 : r3.length + k3 = l'.length := by rw [d3, List.length_drop]; omega
    have c3 := cw.1 r3 ns3 er
    ((conv => whnf);repeat' ((first|(with_reducible first|apply a_|apply b_|apply c_)|((with_reducible first|apply d_|apply e_|apply f_|apply g_);focus first|omega|(simp only [q_]<;>omega))|((with_reducible first|apply i_|apply h_);focus first|omega|(simp only [q_]<;>omega))|((with_reducible apply h_);focus first|decide|kernel_rfl)|refine s_ (by decide) ?_|refine t_ (by decide) ?_|(refine CallP.ret [(FK, FK), (FK1, 90)] _ _ _ _ _ _ _ ct rfl rfl rfl rfl ⟨rfl, rfl, trivial⟩ ?_)|(refine CallP.ret [(FK, FK), (FK1, 90), (NK, 13)] _ _ _ _ _ _ _ c3 rfl rfl rfl rfl ⟨rfl, rfl, trivial⟩ ?_)|with_reducible first|apply l_|apply m_|apply n_|apply o_|refine p_ (fun _ => ?_) (fun _ => ?_))<;>(conv => whnf)))
    have hlen : (o' ++ ns3).length = o'.length + ns3.length := List.length_append
    have g1 : r3.length < N := by omega
    have g2 : okT r3 := by rw [d3]; exact b2.drop _
    have g3 : (o' ++ ns3).length + r3.length ≤ 90000 := by omega
    have g4 : r3.length < l'.length := by omega
    have g6 : c' + 1 + r3.length ≤ 90000 := by omega
    have g7 : ∀ r2 ms k, listR rec (r3.length + 1) r3 = some (r2, ms, k) → isH sRp r2 = false := fun r2 ms k e4 => b4 r2 (ns3 ++ ms) (k + 1) (by rw [q2 r3 ns3 er, e4])
    refine ⟨(r3, o' ++ ns3, c' + 1), ⟨g1, g2, g3, g6, g7⟩, g4, [(FK, FK), (FK1, FK1), (90, 13)], rfl, rfl, ?_, ?_⟩
    all_goals
     (repeat' (first | exact rfl | exact trivial | exact Or.inl rfl | refine And.intro ?_ ?_))
    all_goals exact PLe.int (by omega)
end
section
open Go.RowKit K
set_option maxRecDepth 100000
theorem s_take_f (s : List UInt8) (l : List TokenD) (hl : l.length ≤ 100000) (out : List NodeD) (h : isH s l = false) : CallS Tryz.prog 62 [.d (.ptr FK 0), pStr (tx s)] [(FK1, pAr out)] [(FK, pBx FK1 l out.length)] (pBool false) [(FK, pBx FK1 l out.length)] := by
 have ct := s_take s l hl out
 have e2 : tkO s l = l := by unfold tkO; rw [h]; rfl
 rw [h, e2] at ct
 exact ct
theorem s_take_t (s : List UInt8) (l : List TokenD) (hl : l.length ≤ 100000) (out : List NodeD) (h : isH s l = true) : CallS Tryz.prog 62 [.d (.ptr FK 0), pStr (tx s)] [(FK1, pAr out)] [(FK, pBx FK1 l out.length)] (pBool true) [(FK, pBx FK1 (l.drop 1) out.length)] := by
 have ct := s_take s l hl out
 have e2 : tkO s l = l.drop 1 := by unfold tkO; rw [h]; rfl
 rw [h, e2] at ct
 exact ct
abbrev cmps : List Int := [10, 11, 12, 13, 14, 15]
theorem ixN_spec : ∀ (ops : List Int) (l : List TokenD), (∀ i, i < ixN ops l → ∀ h : i < ops.length, isH (sgn ops[i]) l = false) ∧ (∀ h : ixN ops l < ops.length, isH (sgn ops[ixN ops l]) l = true)
 | [], l => ⟨fun i _ h => absurd h (Nat.not_lt_zero _), fun h => absurd h (Nat.not_lt_zero _)⟩
 | o :: os, l => by
  obtain ⟨a, b⟩ := ixN_spec os l
  cases hh : isH (sgn o) l with
  | true =>
   have e : ixN (o :: os) l = 0 := by rw [ixN, if_pos hh]
   refine ⟨fun i hi => absurd hi (by omega), fun h => ?_⟩
   have : ∀ n, n = 0 → ∀ h : n < (o :: os).length, isH (sgn (o :: os)[n]) l = true := by
    rintro n rfl h; exact hh
   exact this _ e h
  | false =>
   have e : ixN (o :: os) l = ixN os l + 1 := by rw [ixN, if_neg (by rw [hh]; decide)]
   constructor
   ·intro i hi h
    cases i with
    | zero => exact hh
    | succ i => exact a i (by omega) (by simpa using h)
   ·have : ∀ n, n = ixN os l + 1 → ∀ h : n < (o :: os).length, isH (sgn (o :: os)[n]) l = true := by
     rintro n rfl h; exact b (by simpa using h)
    exact fun h => this _ e h
theorem cmps_at : ∀ (i : Nat) (h : i < cmps.length), cmps[i] = 10 + (i : Int)
 | 0, _ => rfl
 | 1, _ => rfl
 | 2, _ => rfl
 | 3, _ => rfl
 | 4, _ => rfl
 | 5, _ => rfl
 | n + 6, h => absurd h (by show ¬ n + 6 < 6; omega)
theorem cmp_spec (l : List TokenD) : ∃ J : Nat, J ≤ 6 ∧ (∀ i : Nat, i < J → isH (sgn (10 + (i : Int))) l = false) ∧ ((J < 6 ∧ isH (sgn (10 + (J : Int))) l = true ∧ opAt cmps l = some (10 + (J : Int))) ∨ (J = 6 ∧ opAt cmps l = none)) := by
 obtain ⟨a, b⟩ := ixN_spec cmps l
 have hle : ixN cmps l ≤ 6 := ixN_le cmps l
 have hoa := opAt_ix cmps l
 refine ⟨ixN cmps l, hle, fun i hi => ?_, ?_⟩
 ·have h6 : i < cmps.length := by show i < 6; omega
  have := a i hi h6
  rwa [cmps_at i h6] at this
 ·by_cases q : ixN cmps l < 6
  ·have h6 : ixN cmps l < cmps.length := q
   have h := b h6
   rw [cmps_at _ h6] at h
   exact .inl ⟨q, h, by rw [hoa, List.getElem?_eq_getElem h6, cmps_at _ h6]⟩
  ·exact .inr ⟨by omega, by rw [hoa, List.getElem?_eq_none_iff]; exact Nat.not_lt.1 q⟩
theorem s_ask (rec : List TokenD → PR) (N : Nat) (hN : N ≤ 50000) (h1 : ∀ l, fit 1 l (rec l)) (hw : ∀ M, M < N → WalkOk 28 rec M) (hA : WalkOk 94 (addF rec) N) (l : List TokenD) (hl : l.length ≤ N) (ht : okT l) (out : List NodeD) (ho : out.length + l.length ≤ 90000) {r : List TokenD} {ns : List NodeD} (hr : askF rec l = some (r, ns)) :
  CallS Tryz.prog 87 [.d (.ptr FK 0)] [] (pb FK FK1 l out) (.tup []) (pb FK NK r (out ++ ns)) := by
 have ha := fit_add h1
 unfold askF at hr
 split at hr
 ·cases hr
 rename_i r1 fs e1
 obtain ⟨k1, a1, a2, a3, a4⟩ := ha l r1 fs e1
 have hr1 : r1.length + k1 = l.length := by rw [a3, List.length_drop]; omega
 split at hr
 ·cases hr
 rename_i r2 ms e2
 cases hr
 have c1 := (hA l hl ht out ho).1 r1 fs e1
 have f1 : r1.length < l.length := by omega
 have f2 : okT r1 := by rw [a3]; exact ht.drop k1
 obtain ⟨o1, ho1⟩ : ∃ o1, o1 = out ++ fs := ⟨_, rfl⟩
 have f3 : o1.length + r1.length ≤ 90000 := by rw [ho1, List.length_append]; omega
 rw [← ho1] at c1
 obtain ⟨J, hJ, j1, j2⟩ := cmp_spec r1
 rw [← List.append_assoc, ← ho1]
 refine callS_of Tryz.func87 (by rfl) rfl (by kernel_rfl) (by rfl) [FK, FK1] rfl ?_
 ((conv => whnf);repeat' ((first|(with_reducible first|apply a_|apply b_|apply c_)|((with_reducible first|apply d_|apply e_|apply f_|apply g_);focus first|omega|(simp only [q_]<;>omega))|((with_reducible first|apply i_|apply h_);focus first|omega|(simp only [q_]<;>omega))|((with_reducible apply h_);focus first|decide|kernel_rfl)|refine s_ (by decide) ?_|refine t_ (by decide) ?_|(refine CallP.ret [(FK, FK), (FK1, FK1), (NK, 7)] _ _ _ _ _ _ _ c1 rfl rfl rfl rfl ⟨rfl, rfl, trivial⟩ ?_)|with_reducible first|apply l_|apply m_|apply n_|apply o_|refine p_ (fun _ => ?_) (fun _ => ?_))<;>(conv => whnf)))
 unfold moreF at e2
 refine LoopC.mk Nat (fun j => [(0, .d (.ptr FK 0)), (2, pInt .i64 (10 + (j : Int)))]) (fun j => pb FK 90 r1 o1) [FK, FK1, 90] (fun j => j ≤ J) (fun j => J - j) 0 (Nat.zero_le _) ?start ?round
 case start =>
  refine ⟨[(FK, FK), (FK1, FK1), (90, 7)], rfl, rfl, ?_, ?_⟩ <;> (repeat' (first | exact rfl | exact trivial | exact Or.inl rfl | refine And.intro ?_ ?_))
 case round =>
  intro j hj
  have hj : j ≤ J := hj
  by_cases q : j < J
  ·have ct := s_take_f (sgn (10 + (j : Int))) r1 (by omega) o1 (j1 j q)
   have ps := p_sign (10 + (j : Int))
   ((conv => whnf);repeat' ((first|(with_reducible first|apply a_|apply b_|apply c_)|((with_reducible first|apply d_|apply e_|apply f_|apply g_);focus first|omega|(simp only [q_]<;>omega))|((with_reducible first|apply i_|apply h_);focus first|omega|(simp only [q_]<;>omega))|((with_reducible apply h_);focus first|decide|kernel_rfl)|refine s_ (by decide) ?_|refine t_ (by decide) ?_|refine r_ ps rfl ?_|(refine CallP.ret [(FK, FK), (FK1, 90)] _ _ _ _ _ _ _ ct rfl rfl rfl rfl ⟨rfl, rfl, trivial⟩ ?_)|with_reducible first|apply l_|apply m_|apply n_|apply o_|refine p_ (fun _ => ?_) (fun _ => ?_))<;>(conv => whnf)))
   refine ⟨j + 1, q, by show _ < _; omega, [(FK, FK), (FK1, FK1), (90, 90)], rfl, rfl, ?_, ?_⟩
   all_goals
    (repeat' (first | exact rfl | exact trivial | exact Or.inl rfl | refine And.intro ?_ ?_))
   all_goals exact PLe.int (by omega)
  have e0 : j = J := by omega
  subst e0
  have ps := p_sign (10 + (j : Int))
  rcases j2 with ⟨j3, j4, j5⟩ | ⟨j3, j5⟩
  ·rw [j5] at e2
   dsimp only at e2
   have hp := isH_pos j4
   have hd1 : (r1.drop 1).length + 1 = r1.length := by rw [List.length_drop]; omega
   split at e2
   ·cases e2
   rename_i r3 bs e3
   cases e2
   obtain ⟨k3, d1, d2, d3, d4⟩ := ha _ _ _ e3
   have hr3 : r.length + k3 = (r1.drop 1).length := by rw [d3, List.length_drop]; omega
   have hlb : (o1 ++ bs).length = o1.length + bs.length := List.length_append
   have ct := s_take_t (sgn (10 + (j : Int))) r1 (by omega) o1 j4
   have c3 := (hA (r1.drop 1) (by omega) (f2.drop 1) o1 (by omega)).1 r bs e3
   have cp := s_put (10 + (j : Int)) 2 r (o1 ++ bs) (by omega)
   rw [List.append_assoc] at cp
   ((conv => whnf);repeat' ((first|(with_reducible first|apply a_|apply b_|apply c_)|((with_reducible first|apply d_|apply e_|apply f_|apply g_);focus first|omega|(simp only [q_]<;>omega))|((with_reducible first|apply i_|apply h_);focus first|omega|(simp only [q_]<;>omega))|((with_reducible apply h_);focus first|decide|kernel_rfl)|refine s_ (by decide) ?_|refine t_ (by decide) ?_|refine r_ ps rfl ?_|(refine CallP.ret [(FK, FK), (FK1, 90)] _ _ _ _ _ _ _ ct rfl rfl rfl rfl ⟨rfl, rfl, trivial⟩ ?_)|(refine CallP.ret [(FK, FK), (FK1, 90), (NK, 17)] _ _ _ _ _ _ _ c3 rfl rfl rfl rfl ⟨rfl, rfl, trivial⟩ ?_)|(refine CallP.ret [(FK, FK), (FK1, 17), (NK, 20)] _ _ _ _ _ _ _ cp rfl rfl rfl rfl ⟨rfl, rfl, trivial⟩ ?_)|with_reducible first|apply l_|apply m_|apply n_|apply o_|refine p_ (fun _ => ?_) (fun _ => ?_))<;>(conv => whnf)))
   refine RetS.mk [(FK, FK), (FK1, FK1), (NK, 20)] [FK, FK1, NK] rfl rfl rfl ?_ <;> (repeat' (first | exact rfl | exact trivial | exact Or.inl rfl | refine And.intro ?_ ?_))
  rw [j5] at e2
  dsimp only at e2
  subst j3
  cases hi : isH wIs r1 with
  | true =>
   rw [if_pos hi] at e2
   have hp := isH_pos hi
   have hd1 : (r1.drop 1).length + 1 = r1.length := by rw [List.length_drop]; omega
   have ci := s_take_t wIs r1 (by omega) o1 hi
   unfold isF at e2
   cases hn : isH wNot (r1.drop 1) with
   | true =>
    rw [if_pos hn] at e2
    have hp2 := isH_pos hn
    have hd2 : ((r1.drop 1).drop 1).length + 1 = (r1.drop 1).length := by rw [List.length_drop]; omega
    split at e2
    case isFalse => cases e2
    rename_i hu
    cases e2
    have cn := s_take_t wNot (r1.drop 1) (by omega) o1 hn
    have cm := s_must wNull ((r1.drop 1).drop 1) (by omega) o1 hu
    have ed : ((r1.drop 1).drop 1).drop 1 = (r1.drop 1).drop 2 := by rw [List.drop_drop (l := r1.drop 1)]
    rw [ed] at cm
    have cp := s_put 19 1 ((r1.drop 1).drop 2) o1 (by omega)
    ((conv => whnf);repeat' ((first|(with_reducible first|apply a_|apply b_|apply c_)|((with_reducible first|apply d_|apply e_|apply f_|apply g_);focus first|omega|(simp only [q_]<;>omega))|((with_reducible first|apply i_|apply h_);focus first|omega|(simp only [q_]<;>omega))|((with_reducible apply h_);focus first|decide|kernel_rfl)|refine s_ (by decide) ?_|refine t_ (by decide) ?_|refine r_ ps rfl ?_|(refine CallP.ret [(FK, FK), (FK1, 90)] _ _ _ _ _ _ _ ci rfl rfl rfl rfl ⟨rfl, rfl, trivial⟩ ?_)|(refine CallP.ret [(FK, FK), (FK1, 90)] _ _ _ _ _ _ _ cn rfl rfl rfl rfl ⟨rfl, rfl, trivial⟩ ?_)|(refine CallP.ret [(FK, FK), (FK1, 90)] _ _ _ _ _ _ _ cm rfl rfl rfl rfl ⟨rfl, rfl, trivial⟩ ?_)|(refine CallP.ret [(FK, FK), (FK1, 90), (NK, 29)] _ _ _ _ _ _ _ cp rfl rfl rfl rfl ⟨rfl, rfl, trivial⟩ ?_)|with_reducible first|apply l_|apply m_|apply n_|apply o_|refine p_ (fun _ => ?_) (fun _ => ?_))<;>(conv => whnf)))
    refine RetS.mk [(FK, FK), (FK1, FK1), (NK, 29)] [FK, FK1, NK] rfl rfl rfl ?_ <;> (repeat' (first | exact rfl | exact trivial | exact Or.inl rfl | refine And.intro ?_ ?_))
   | false =>
    rw [if_neg (by rw [hn]; decide)] at e2
    split at e2
    case isFalse => cases e2
    rename_i hu
    cases e2
    have cn := s_take_f wNot (r1.drop 1) (by omega) o1 hn
    have cm := s_must wNull (r1.drop 1) (by omega) o1 hu
    have cp := s_put 18 1 ((r1.drop 1).drop 1) o1 (by omega)
    ((conv => whnf);repeat' ((first|(with_reducible first|apply a_|apply b_|apply c_)|((with_reducible first|apply d_|apply e_|apply f_|apply g_);focus first|omega|(simp only [q_]<;>omega))|((with_reducible first|apply i_|apply h_);focus first|omega|(simp only [q_]<;>omega))|((with_reducible apply h_);focus first|decide|kernel_rfl)|refine s_ (by decide) ?_|refine t_ (by decide) ?_|refine r_ ps rfl ?_|(refine CallP.ret [(FK, FK), (FK1, 90)] _ _ _ _ _ _ _ ci rfl rfl rfl rfl ⟨rfl, rfl, trivial⟩ ?_)|(refine CallP.ret [(FK, FK), (FK1, 90)] _ _ _ _ _ _ _ cn rfl rfl rfl rfl ⟨rfl, rfl, trivial⟩ ?_)|(refine CallP.ret [(FK, FK), (FK1, 90)] _ _ _ _ _ _ _ cm rfl rfl rfl rfl ⟨rfl, rfl, trivial⟩ ?_)|(refine CallP.ret [(FK, FK), (FK1, 90), (NK, 29)] _ _ _ _ _ _ _ cp rfl rfl rfl rfl ⟨rfl, rfl, trivial⟩ ?_)|with_reducible first|apply l_|apply m_|apply n_|apply o_|refine p_ (fun _ => ?_) (fun _ => ?_))<;>(conv => whnf)))
    refine RetS.mk [(FK, FK), (FK1, FK1), (NK, 29)] [FK, FK1, NK] rfl rfl rfl ?_ <;> (repeat' (first | exact rfl | exact trivial | exact Or.inl rfl | refine And.intro ?_ ?_))
  | false =>
   rw [if_neg (by rw [hi]; decide)] at e2
   have ci := s_take_f wIs r1 (by omega) o1 hi
   cases hn : isH wNot r1 with
   | true =>
    rw [if_pos hn] at e2
    have cn := s_take_t wNot r1 (by omega) o1 hn
    have hp := isH_pos hn
    have hrr : (r1.drop 1).length + 1 = r1.length := by rw [List.length_drop]; omega
    obtain ⟨rr, err⟩ : ∃ rr, rr = r1.drop 1 := ⟨_, rfl⟩
    have frr : okT rr := by rw [err]; exact f2.drop 1
    rw [← err] at e2 cn hrr
    have hrl : rr.length ≤ r1.length := by omega
    unfold tailF at e2
    cases hk : isH wLike rr with
    | true =>
     rw [if_pos hk] at e2
     have hp2 := isH_pos hk
     have hd2 : (rr.drop 1).length + 1 = rr.length := by rw [List.length_drop]; omega
     split at e2
     ·cases e2
     rename_i r3 bs e3
     cases e2
     obtain ⟨k3, d1, d2, d3, d4⟩ := ha _ _ _ e3
     have hr3 : r.length + k3 = (rr.drop 1).length := by rw [d3, List.length_drop]; omega
     have hlb : (o1 ++ bs).length = o1.length + bs.length := List.length_append
     have ck := s_take_t wLike rr (by omega) o1 hk
     have c3 := (hA (rr.drop 1) (by omega) (frr.drop 1) o1 (by omega)).1 r bs e3
     have cp := s_put (20 + ((1 : Nat) : Int)) 2 r (o1 ++ bs) (by omega)
     rw [List.append_assoc] at cp
     ((conv => whnf);repeat' ((first|(with_reducible first|apply a_|apply b_|apply c_)|((with_reducible first|apply d_|apply e_|apply f_|apply g_);focus first|omega|(simp only [q_]<;>omega))|((with_reducible first|apply i_|apply h_);focus first|omega|(simp only [q_]<;>omega))|((with_reducible apply h_);focus first|decide|kernel_rfl)|refine s_ (by decide) ?_|refine t_ (by decide) ?_|refine r_ ps rfl ?_|(refine CallP.ret [(FK, FK), (FK1, 90)] _ _ _ _ _ _ _ ci rfl rfl rfl rfl ⟨rfl, rfl, trivial⟩ ?_)|(refine CallP.ret [(FK, FK), (FK1, 90)] _ _ _ _ _ _ _ cn rfl rfl rfl rfl ⟨rfl, rfl, trivial⟩ ?_)|(refine CallP.ret [(FK, FK), (FK1, 90)] _ _ _ _ _ _ _ ck rfl rfl rfl rfl ⟨rfl, rfl, trivial⟩ ?_)|(refine CallP.ret [(FK, FK), (FK1, 90), (NK, 36)] _ _ _ _ _ _ _ c3 rfl rfl rfl rfl ⟨rfl, rfl, trivial⟩ ?_)|(refine CallP.ret [(FK, FK), (FK1, 36), (NK, 40)] _ _ _ _ _ _ _ cp rfl rfl rfl rfl ⟨rfl, rfl, trivial⟩ ?_)|with_reducible first|apply l_|apply m_|apply n_|apply o_|refine p_ (fun _ => ?_) (fun _ => ?_))<;>(conv => whnf)))
     refine RetS.mk [(FK, FK), (FK1, FK1), (NK, 40)] [FK, FK1, NK] rfl rfl rfl ?_ <;> (repeat' (first | exact rfl | exact trivial | exact Or.inl rfl | refine And.intro ?_ ?_))
    | false =>
     rw [if_neg (by rw [hk]; decide)] at e2
     have ck := s_take_f wLike rr (by omega) o1 hk
     cases hin : isH wIn rr with
     | true =>
      rw [if_pos hin] at e2
      have hp2 := isH_pos hin
      have hd2 : (rr.drop 1).length + 1 = rr.length := by rw [List.length_drop]; omega
      split at e2
      ·cases e2
      rename_i r3 bs n e3
      cases e2
      obtain ⟨k3, d1, d2, d3, d4, d5⟩ := fit_list h1 _ _ _ _ e3
      have hr3 : r.length + k3 = (rr.drop 1).length := by rw [d3, List.length_drop]; omega
      have hlb : (o1 ++ bs).length = o1.length + bs.length := List.length_append
      have cin := s_take_t wIn rr (by omega) o1 hin
      have c3 := s_list rec N hN h1 hw (rr.drop 1) (by omega) (frr.drop 1) o1 (by omega) e3
      have cp := s_put (22 + ((1 : Nat) : Int)) ((n : Int) + 1) r (o1 ++ bs) (by omega)
      rw [List.append_assoc] at cp
      ((conv => whnf);repeat' ((first|(with_reducible first|apply a_|apply b_|apply c_)|((with_reducible first|apply d_|apply e_|apply f_|apply g_);focus first|omega|(simp only [q_]<;>omega))|((with_reducible first|apply i_|apply h_);focus first|omega|(simp only [q_]<;>omega))|((with_reducible apply h_);focus first|decide|kernel_rfl)|refine s_ (by decide) ?_|refine t_ (by decide) ?_|refine r_ ps rfl ?_|(refine CallP.ret [(FK, FK), (FK1, 90)] _ _ _ _ _ _ _ ci rfl rfl rfl rfl ⟨rfl, rfl, trivial⟩ ?_)|(refine CallP.ret [(FK, FK), (FK1, 90)] _ _ _ _ _ _ _ cn rfl rfl rfl rfl ⟨rfl, rfl, trivial⟩ ?_)|(refine CallP.ret [(FK, FK), (FK1, 90)] _ _ _ _ _ _ _ ck rfl rfl rfl rfl ⟨rfl, rfl, trivial⟩ ?_)|(refine CallP.ret [(FK, FK), (FK1, 90)] _ _ _ _ _ _ _ cin rfl rfl rfl rfl ⟨rfl, rfl, trivial⟩ ?_)|(refine CallP.ret [(FK, FK), (FK1, 90), (NK, 45)] _ _ _ _ _ _ _ c3 rfl rfl rfl rfl ⟨rfl, rfl, trivial⟩ ?_)|(refine CallP.ret [(FK, FK), (FK1, 45), (NK, 51)] _ _ _ _ _ _ _ cp rfl rfl rfl rfl ⟨rfl, rfl, trivial⟩ ?_)|with_reducible first|apply l_|apply m_|apply n_|apply o_|refine p_ (fun _ => ?_) (fun _ => ?_))<;>(conv => whnf)))
      refine RetS.mk [(FK, FK), (FK1, FK1), (NK, 51)] [FK, FK1, NK] rfl rfl rfl ?_ <;> (repeat' (first | exact rfl | exact trivial | exact Or.inl rfl | refine And.intro ?_ ?_))
     | false =>
      rw [if_neg (by rw [hin]; decide)] at e2
      have cin := s_take_f wIn rr (by omega) o1 hin
      cases hb : isH wBetw rr with
      | true =>
       rw [if_pos hb] at e2
       have hp2 := isH_pos hb
       have hd2 : (rr.drop 1).length + 1 = rr.length := by rw [List.length_drop]; omega
       unfold twoF at e2
       cases e3 : addF rec (rr.drop 1) with
       | none => rw [e3] at e2; cases e2
       | some x =>
        obtain ⟨r3, bs⟩ := x
        rw [e3] at e2
        dsimp only at e2
        obtain ⟨k3, d1, d2, d3, d4⟩ := ha _ _ _ e3
        have hr3 : r3.length + k3 = (rr.drop 1).length := by rw [d3, List.length_drop]; omega
        cases hand : isH wAnd r3 with
        | false => rw [if_neg (by rw [hand]; decide)] at e2; cases e2
        | true =>
         rw [if_pos hand] at e2
         have hp3 := isH_pos hand
         have hd3 : (r3.drop 1).length + 1 = r3.length := by rw [List.length_drop]; omega
         have fr3 : okT r3 := by rw [d3]; exact (frr.drop 1).drop _
         cases e4 : addF rec (r3.drop 1) with
         | none => rw [e4] at e2; cases e2
         | some y =>
          obtain ⟨r4, cs⟩ := y
          rw [e4] at e2
          dsimp only at e2
          cases e2
          obtain ⟨k4, b1, b2, b3, b4⟩ := ha _ _ _ e4
          have hr4 : r.length + k4 = (r3.drop 1).length := by rw [b3, List.length_drop]; omega
          have hlb : (o1 ++ bs).length = o1.length + bs.length := List.length_append
          have hlc : (o1 ++ bs ++ cs).length = (o1 ++ bs).length + cs.length := List.length_append
          have cb := s_take_t wBetw rr (by omega) o1 hb
          have c3 := (hA (rr.drop 1) (by omega) (frr.drop 1) o1 (by omega)).1 r3 bs e3
          have cm := s_must wAnd r3 (by omega) (o1 ++ bs) hand
          have c4 := (hA (r3.drop 1) (by omega) (fr3.drop 1) (o1 ++ bs) (by omega)).1 r cs e4
          have cp := s_put (24 + ((1 : Nat) : Int)) 3 r (o1 ++ bs ++ cs) (by omega)
          have eq3 : o1 ++ bs ++ cs ++ [nOp (24 + ((1 : Nat) : Int)) 3] = o1 ++ (bs ++ cs ++ [nOp (24 + ((1 : Nat) : Int)) 3]) := by rw [List.append_assoc, List.append_assoc, List.append_assoc]
          rw [eq3] at cp
          ((conv => whnf);repeat' ((first|(with_reducible first|apply a_|apply b_|apply c_)|((with_reducible first|apply d_|apply e_|apply f_|apply g_);focus first|omega|(simp only [q_]<;>omega))|((with_reducible first|apply i_|apply h_);focus first|omega|(simp only [q_]<;>omega))|((with_reducible apply h_);focus first|decide|kernel_rfl)|refine s_ (by decide) ?_|refine t_ (by decide) ?_|refine r_ ps rfl ?_|(refine CallP.ret [(FK, FK), (FK1, 90)] _ _ _ _ _ _ _ ci rfl rfl rfl rfl ⟨rfl, rfl, trivial⟩ ?_)|(refine CallP.ret [(FK, FK), (FK1, 90)] _ _ _ _ _ _ _ cn rfl rfl rfl rfl ⟨rfl, rfl, trivial⟩ ?_)|(refine CallP.ret [(FK, FK), (FK1, 90)] _ _ _ _ _ _ _ ck rfl rfl rfl rfl ⟨rfl, rfl, trivial⟩ ?_)|(refine CallP.ret [(FK, FK), (FK1, 90)] _ _ _ _ _ _ _ cin rfl rfl rfl rfl ⟨rfl, rfl, trivial⟩ ?_)|(refine CallP.ret [(FK, FK), (FK1, 90)] _ _ _ _ _ _ _ cb rfl rfl rfl rfl ⟨rfl, rfl, trivial⟩ ?_)|(refine CallP.ret [(FK, FK), (FK1, 90), (NK, 56)] _ _ _ _ _ _ _ c3 rfl rfl rfl rfl ⟨rfl, rfl, trivial⟩ ?_)|(refine CallP.ret [(FK, FK), (FK1, 56)] _ _ _ _ _ _ _ cm rfl rfl rfl rfl ⟨rfl, rfl, trivial⟩ ?_)|(refine CallP.ret [(FK, FK), (FK1, 56), (NK, 60)] _ _ _ _ _ _ _ c4 rfl rfl rfl rfl ⟨rfl, rfl, trivial⟩ ?_)|(refine CallP.ret [(FK, FK), (FK1, 60), (NK, 64)] _ _ _ _ _ _ _ cp rfl rfl rfl rfl ⟨rfl, rfl, trivial⟩ ?_)|with_reducible first|apply l_|apply m_|apply n_|apply o_|refine p_ (fun _ => ?_) (fun _ => ?_))<;>(conv => whnf)))
          refine RetS.mk [(FK, FK), (FK1, FK1), (NK, 64)] [FK, FK1, NK] rfl rfl rfl ?_ <;> (repeat' (first | exact rfl | exact trivial | exact Or.inl rfl | refine And.intro ?_ ?_))
      | false =>
       rw [if_neg (by rw [hb]; decide)] at e2
       have cb := s_take_f wBetw rr (by omega) o1 hb
       rw [if_pos rfl] at e2
       cases e2
   | false =>
    rw [if_neg (by rw [hn]; decide)] at e2
    have cn := s_take_f wNot r1 (by omega) o1 hn
    obtain ⟨rr, err⟩ : ∃ rr, rr = r1 := ⟨_, rfl⟩
    have frr : okT rr := by rw [err]; exact f2
    rw [← err] at e2 cn
    rw [← err] at ci
    have hrl : rr.length ≤ r1.length := by rw [err]; exact Nat.le_refl _
    rw [← err]
    unfold tailF at e2
    cases hk : isH wLike rr with
    | true =>
     rw [if_pos hk] at e2
     have hp2 := isH_pos hk
     have hd2 : (rr.drop 1).length + 1 = rr.length := by rw [List.length_drop]; omega
     split at e2
     ·cases e2
     rename_i r3 bs e3
     cases e2
     obtain ⟨k3, d1, d2, d3, d4⟩ := ha _ _ _ e3
     have hr3 : r.length + k3 = (rr.drop 1).length := by rw [d3, List.length_drop]; omega
     have hlb : (o1 ++ bs).length = o1.length + bs.length := List.length_append
     have ck := s_take_t wLike rr (by omega) o1 hk
     have c3 := (hA (rr.drop 1) (by omega) (frr.drop 1) o1 (by omega)).1 r bs e3
     have cp := s_put (20 + ((0 : Nat) : Int)) 2 r (o1 ++ bs) (by omega)
     rw [List.append_assoc] at cp
     ((conv => whnf);repeat' ((first|(with_reducible first|apply a_|apply b_|apply c_)|((with_reducible first|apply d_|apply e_|apply f_|apply g_);focus first|omega|(simp only [q_]<;>omega))|((with_reducible first|apply i_|apply h_);focus first|omega|(simp only [q_]<;>omega))|((with_reducible apply h_);focus first|decide|kernel_rfl)|refine s_ (by decide) ?_|refine t_ (by decide) ?_|refine r_ ps rfl ?_|(refine CallP.ret [(FK, FK), (FK1, 90)] _ _ _ _ _ _ _ ci rfl rfl rfl rfl ⟨rfl, rfl, trivial⟩ ?_)|(refine CallP.ret [(FK, FK), (FK1, 90)] _ _ _ _ _ _ _ cn rfl rfl rfl rfl ⟨rfl, rfl, trivial⟩ ?_)|(refine CallP.ret [(FK, FK), (FK1, 90)] _ _ _ _ _ _ _ ck rfl rfl rfl rfl ⟨rfl, rfl, trivial⟩ ?_)|(refine CallP.ret [(FK, FK), (FK1, 90), (NK, 36)] _ _ _ _ _ _ _ c3 rfl rfl rfl rfl ⟨rfl, rfl, trivial⟩ ?_)|(refine CallP.ret [(FK, FK), (FK1, 36), (NK, 40)] _ _ _ _ _ _ _ cp rfl rfl rfl rfl ⟨rfl, rfl, trivial⟩ ?_)|with_reducible first|apply l_|apply m_|apply n_|apply o_|refine p_ (fun _ => ?_) (fun _ => ?_))<;>(conv => whnf)))
     refine RetS.mk [(FK, FK), (FK1, FK1), (NK, 40)] [FK, FK1, NK] rfl rfl rfl ?_ <;> (repeat' (first | exact rfl | exact trivial | exact Or.inl rfl | refine And.intro ?_ ?_))
    | false =>
     rw [if_neg (by rw [hk]; decide)] at e2
     have ck := s_take_f wLike rr (by omega) o1 hk
     cases hin : isH wIn rr with
     | true =>
      rw [if_pos hin] at e2
      have hp2 := isH_pos hin
      have hd2 : (rr.drop 1).length + 1 = rr.length := by rw [List.length_drop]; omega
      split at e2
      ·cases e2
      rename_i r3 bs n e3
      cases e2
      obtain ⟨k3, d1, d2, d3, d4, d5⟩ := fit_list h1 _ _ _ _ e3
      have hr3 : r.length + k3 = (rr.drop 1).length := by rw [d3, List.length_drop]; omega
      have hlb : (o1 ++ bs).length = o1.length + bs.length := List.length_append
      have cin := s_take_t wIn rr (by omega) o1 hin
      have c3 := s_list rec N hN h1 hw (rr.drop 1) (by omega) (frr.drop 1) o1 (by omega) e3
      have cp := s_put (22 + ((0 : Nat) : Int)) ((n : Int) + 1) r (o1 ++ bs) (by omega)
      rw [List.append_assoc] at cp
      ((conv => whnf);repeat' ((first|(with_reducible first|apply a_|apply b_|apply c_)|((with_reducible first|apply d_|apply e_|apply f_|apply g_);focus first|omega|(simp only [q_]<;>omega))|((with_reducible first|apply i_|apply h_);focus first|omega|(simp only [q_]<;>omega))|((with_reducible apply h_);focus first|decide|kernel_rfl)|refine s_ (by decide) ?_|refine t_ (by decide) ?_|refine r_ ps rfl ?_|(refine CallP.ret [(FK, FK), (FK1, 90)] _ _ _ _ _ _ _ ci rfl rfl rfl rfl ⟨rfl, rfl, trivial⟩ ?_)|(refine CallP.ret [(FK, FK), (FK1, 90)] _ _ _ _ _ _ _ cn rfl rfl rfl rfl ⟨rfl, rfl, trivial⟩ ?_)|(refine CallP.ret [(FK, FK), (FK1, 90)] _ _ _ _ _ _ _ ck rfl rfl rfl rfl ⟨rfl, rfl, trivial⟩ ?_)|(refine CallP.ret [(FK, FK), (FK1, 90)] _ _ _ _ _ _ _ cin rfl rfl rfl rfl ⟨rfl, rfl, trivial⟩ ?_)|(refine CallP.ret [(FK, FK), (FK1, 90), (NK, 45)] _ _ _ _ _ _ _ c3 rfl rfl rfl rfl ⟨rfl, rfl, trivial⟩ ?_)|(refine CallP.ret [(FK, FK), (FK1, 45), (NK, 51)] _ _ _ _ _ _ _ cp rfl rfl rfl rfl ⟨rfl, rfl, trivial⟩ ?_)|with_reducible first|apply l_|apply m_|apply n_|apply o_|refine p_ (fun _ => ?_) (fun _ => ?_))<;>(conv => whnf)))
      refine RetS.mk [(FK, FK), (FK1, FK1), (NK, 51)] [FK, FK1, NK] rfl rfl rfl ?_ <;> (repeat' (first | exact rfl | exact trivial | exact Or.inl rfl | refine And.intro ?_ ?_))
     | false =>
      rw [if_neg (by rw [hin]; decide)] at e2
      have cin := s_take_f wIn rr (by omega) o1 hin
      cases hb : isH wBetw rr with
      | true =>
       rw [if_pos hb] at e2
       have hp2 := isH_pos hb
       have hd2 : (rr.drop 1).length + 1 = rr.length := by rw [List.length_drop]; omega
       unfold twoF at e2
       cases e3 : addF rec (rr.drop 1) with
       | none => rw [e3] at e2; cases e2
       | some x =>
        obtain ⟨r3, bs⟩ := x
        rw [e3] at e2
        dsimp only at e2
        obtain ⟨k3, d1, d2, d3, d4⟩ := ha _ _ _ e3
        have hr3 : r3.length + k3 = (rr.drop 1).length := by rw [d3, List.length_drop]; omega
        cases hand : isH wAnd r3 with
        | false => rw [if_neg (by rw [hand]; decide)] at e2; cases e2
        | true =>
         rw [if_pos hand] at e2
         have hp3 := isH_pos hand
         have hd3 : (r3.drop 1).length + 1 = r3.length := by rw [List.length_drop]; omega
         have fr3 : okT r3 := by rw [d3]; exact (frr.drop 1).drop _
         cases e4 : addF rec (r3.drop 1) with
         | none => rw [e4] at e2; cases e2
         | some y =>
          obtain ⟨r4, cs⟩ := y
          rw [e4] at e2
          dsimp only at e2
          cases e2
          obtain ⟨k4, b1, b2, b3, b4⟩ := ha _ _ _ e4
          have hr4 : r.length + k4 = (r3.drop 1).length := by rw [b3, List.length_drop]; omega
          have hlb : (o1 ++ bs).length = o1.length + bs.length := List.length_append
          have hlc : (o1 ++ bs ++ cs).length = (o1 ++ bs).length + cs.length := List.length_append
          have cb := s_take_t wBetw rr (by omega) o1 hb
          have c3 := (hA (rr.drop 1) (by omega) (frr.drop 1) o1 (by omega)).1 r3 bs e3
          have cm := s_must wAnd r3 (by omega) (o1 ++ bs) hand
          have c4 := (hA (r3.drop 1) (by omega) (fr3.drop 1) (o1 ++ bs) (by omega)).1 r cs e4
          have cp := s_put (24 + ((0 : Nat) : Int)) 3 r (o1 ++ bs ++ cs) (by omega)
          have eq3 : o1 ++ bs ++ cs ++ [nOp (24 + ((0 : Nat) : Int)) 3] = o1 ++ (bs ++ cs ++ [nOp (24 + ((0 : Nat) : Int)) 3]) := by rw [List.append_assoc, List.append_assoc, List.append_assoc]
          rw [eq3] at cp
          ((conv => whnf);repeat' ((first|(with_reducible first|apply a_|apply b_|apply c_)|((with_reducible first|apply d_|apply e_|apply f_|apply g_);focus first|omega|(simp only [q_]<;>omega))|((with_reducible first|apply i_|apply h_);focus first|omega|(simp only [q_]<;>omega))|((with_reducible apply h_);focus first|decide|kernel_rfl)|refine s_ (by decide) ?_|refine t_ (by decide) ?_|refine r_ ps rfl ?_|(refine CallP.ret [(FK, FK), (FK1, 90)] _ _ _ _ _ _ _ ci rfl rfl rfl rfl ⟨rfl, rfl, trivial⟩ ?_)|(refine CallP.ret [(FK, FK), (FK1, 90)] _ _ _ _ _ _ _ cn rfl rfl rfl rfl ⟨rfl, rfl, trivial⟩ ?_)|(refine CallP.ret [(FK, FK), (FK1, 90)] _ _ _ _ _ _ _ ck rfl rfl rfl rfl ⟨rfl, rfl, trivial⟩ ?_)|(refine CallP.ret [(FK, FK), (FK1, 90)] _ _ _ _ _ _ _ cin rfl rfl rfl rfl ⟨rfl, rfl, trivial⟩ ?_)|(refine CallP.ret [(FK, FK), (FK1, 90)] _ _ _ _ _ _ _ cb rfl rfl rfl rfl ⟨rfl, rfl, trivial⟩ ?_)|(refine CallP.ret [(FK, FK), (FK1, 90), (NK, 56)] _ _ _ _ _ _ _ c3 rfl rfl rfl rfl ⟨rfl, rfl, trivial⟩ ?_)|(refine CallP.ret [(FK, FK), (FK1, 56)] _ _ _ _ _ _ _ cm rfl rfl rfl rfl ⟨rfl, rfl, trivial⟩ ?_)|(refine CallP.ret [(FK, FK), (FK1, 56), (NK, 60)] _ _ _ _ _ _ _ c4 rfl rfl rfl rfl ⟨rfl, rfl, trivial⟩ ?_)|(refine CallP.ret [(FK, FK), (FK1, 60), (NK, 64)] _ _ _ _ _ _ _ cp rfl rfl rfl rfl ⟨rfl, rfl, trivial⟩ ?_)|with_reducible first|apply l_|apply m_|apply n_|apply o_|refine p_ (fun _ => ?_) (fun _ => ?_))<;>(conv => whnf)))
          refine RetS.mk [(FK, FK), (FK1, FK1), (NK, 64)] [FK, FK1, NK] rfl rfl rfl ?_ <;> (repeat' (first | exact rfl | exact trivial | exact Or.inl rfl | refine And.intro ?_ ?_))
      | false =>
       rw [if_neg (by rw [hb]; decide)] at e2
       have cb := s_take_f wBetw rr (by omega) o1 hb
       rw [if_neg (by decide)] at e2
       cases e2
       rw [List.append_nil]
       ((conv => whnf);repeat' ((first|(with_reducible first|apply a_|apply b_|apply c_)|((with_reducible first|apply d_|apply e_|apply f_|apply g_);focus first|omega|(simp only [q_]<;>omega))|((with_reducible first|apply i_|apply h_);focus first|omega|(simp only [q_]<;>omega))|((with_reducible apply h_);focus first|decide|kernel_rfl)|refine s_ (by decide) ?_|refine t_ (by decide) ?_|refine r_ ps rfl ?_|(refine CallP.ret [(FK, FK), (FK1, 90)] _ _ _ _ _ _ _ ci rfl rfl rfl rfl ⟨rfl, rfl, trivial⟩ ?_)|(refine CallP.ret [(FK, FK), (FK1, 90)] _ _ _ _ _ _ _ cn rfl rfl rfl rfl ⟨rfl, rfl, trivial⟩ ?_)|(refine CallP.ret [(FK, FK), (FK1, 90)] _ _ _ _ _ _ _ ck rfl rfl rfl rfl ⟨rfl, rfl, trivial⟩ ?_)|(refine CallP.ret [(FK, FK), (FK1, 90)] _ _ _ _ _ _ _ cin rfl rfl rfl rfl ⟨rfl, rfl, trivial⟩ ?_)|(refine CallP.ret [(FK, FK), (FK1, 90)] _ _ _ _ _ _ _ cb rfl rfl rfl rfl ⟨rfl, rfl, trivial⟩ ?_)|with_reducible first|apply l_|apply m_|apply n_|apply o_|refine p_ (fun _ => ?_) (fun _ => ?_))<;>(conv => whnf)))
       refine RetS.mk [(FK, FK), (FK1, FK1), (NK, 90)] [FK, FK1, NK] rfl rfl rfl ?_ <;> (repeat' (first | exact rfl | exact trivial | exact Or.inl rfl | refine And.intro ?_ ?_))
theorem x_ask (rec : List TokenD → PR) (N : Nat) (hN : N ≤ 50000) (h1 : ∀ l, fit 1 l (rec l)) (hw : ∀ M, M < N → WalkOk 28 rec M) (hA : WalkOk 94 (addF rec) N) (l : List TokenD) (hl : l.length ≤ N) (ht : okT l) (out : List NodeD) (ho : out.length + l.length ≤ 90000) (hr : askF rec l = none) :
  CallX Tryz.prog 87 [.d (.ptr FK 0)] (pb FK FK1 l out) wrongV := by
 have ha := fit_add h1
 refine callX_of Tryz.func87 (by rfl) rfl (by kernel_rfl) (by rfl) [FK, FK1] rfl ?_
 cases e1 : addF rec l with
 | none =>
  have c1 := (hA l hl ht out ho).2 e1
  ((conv => whnf);repeat' ((first|(with_reducible first|apply a_|apply b_|apply c_)|((with_reducible first|apply d_|apply e_|apply f_|apply g_);focus first|omega|(simp only [q_]<;>omega))|((with_reducible first|apply i_|apply h_);focus first|omega|(simp only [q_]<;>omega))|((with_reducible apply h_);focus first|decide|kernel_rfl)|refine s_ (by decide) ?_|refine t_ (by decide) ?_|with_reducible first|apply l_|apply m_|apply n_|apply o_|refine p_ (fun _ => ?_) (fun _ => ?_))<;>(conv => whnf)))
  exact CallP.pan [(FK, FK), (FK1, FK1)] _ _ _ _ c1 rfl rfl rfl ⟨rfl, rfl, trivial⟩ rfl
 | some x =>
 obtain ⟨r1, fs⟩ := x
 unfold askF at hr
 rw [e1] at hr
 dsimp only at hr
 obtain ⟨k1, a1, a2, a3, a4⟩ := ha l r1 fs e1
 have hr1 : r1.length + k1 = l.length := by rw [a3, List.length_drop]; omega
 have c1 := (hA l hl ht out ho).1 r1 fs e1
 have e2 : moreF rec r1 = none := by
  cases e2 : moreF rec r1 with
  | none => rfl
  | some y => rw [e2] at hr; cases hr
 have f1 : r1.length < l.length := by omega
 have f2 : okT r1 := by rw [a3]; exact ht.drop k1
 obtain ⟨o1, ho1⟩ : ∃ o1, o1 = out ++ fs := ⟨_, rfl⟩
 have f3 : o1.length + r1.length ≤ 90000 := by rw [ho1, List.length_append]; omega
 rw [← ho1] at c1
 obtain ⟨J, hJ, j1, j2⟩ := cmp_spec r1
 ((conv => whnf);repeat' ((first|(with_reducible first|apply a_|apply b_|apply c_)|((with_reducible first|apply d_|apply e_|apply f_|apply g_);focus first|omega|(simp only [q_]<;>omega))|((with_reducible first|apply i_|apply h_);focus first|omega|(simp only [q_]<;>omega))|((with_reducible apply h_);focus first|decide|kernel_rfl)|refine s_ (by decide) ?_|refine t_ (by decide) ?_|(refine CallP.ret [(FK, FK), (FK1, FK1), (NK, 7)] _ _ _ _ _ _ _ c1 rfl rfl rfl rfl ⟨rfl, rfl, trivial⟩ ?_)|with_reducible first|apply l_|apply m_|apply n_|apply o_|refine p_ (fun _ => ?_) (fun _ => ?_))<;>(conv => whnf)))
 unfold moreF at e2
 refine LoopC.mk Nat (fun j => [(0, .d (.ptr FK 0)), (2, pInt .i64 (10 + (j : Int)))]) (fun j => pb FK 90 r1 o1) [FK, FK1, 90] (fun j => j ≤ J) (fun j => J - j) 0 (Nat.zero_le _) ?start ?round
 case start =>
  refine ⟨[(FK, FK), (FK1, FK1), (90, 7)], rfl, rfl, ?_, ?_⟩ <;> (repeat' (first | exact rfl | exact trivial | exact Or.inl rfl | refine And.intro ?_ ?_))
 case round =>
  intro j hj
  have hj : j ≤ J := hj
  by_cases q : j < J
  ·have ct := s_take_f (sgn (10 + (j : Int))) r1 (by omega) o1 (j1 j q)
   have ps := p_sign (10 + (j : Int))
   ((conv => whnf);repeat' ((first|(with_reducible first|apply a_|apply b_|apply c_)|((with_reducible first|apply d_|apply e_|apply f_|apply g_);focus first|omega|(simp only [q_]<;>omega))|((with_reducible first|apply i_|apply h_);focus first|omega|(simp only [q_]<;>omega))|((with_reducible apply h_);focus first|decide|kernel_rfl)|refine s_ (by decide) ?_|refine t_ (by decide) ?_|refine r_ ps rfl ?_|(refine CallP.ret [(FK, FK), (FK1, 90)] _ _ _ _ _ _ _ ct rfl rfl rfl rfl ⟨rfl, rfl, trivial⟩ ?_)|with_reducible first|apply l_|apply m_|apply n_|apply o_|refine p_ (fun _ => ?_) (fun _ => ?_))<;>(conv => whnf)))
   refine ⟨j + 1, q, by show _ < _; omega, [(FK, FK), (FK1, FK1), (90, 90)], rfl, rfl, ?_, ?_⟩
   all_goals
    (repeat' (first | exact rfl | exact trivial | exact Or.inl rfl | refine And.intro ?_ ?_))
   all_goals exact PLe.int (by omega)
  have e0 : j = J := by omega
  subst e0
  have ps := p_sign (10 + (j : Int))
  rcases j2 with ⟨j3, j4, j5⟩ | ⟨j3, j5⟩
  ·rw [j5] at e2
   dsimp only at e2
   have hp := isH_pos j4
   have hd1 : (r1.drop 1).length + 1 = r1.length := by rw [List.length_drop]; omega
   have e3 : addF rec (r1.drop 1) = none := by
    cases e3 : addF rec (r1.drop 1) with
    | none => rfl
    | some y => rw [e3] at e2; cases e2
   have ct := s_take_t (sgn (10 + (j : Int))) r1 (by omega) o1 j4
   have c3 := (hA (r1.drop 1) (by omega) (f2.drop 1) o1 (by omega)).2 e3
   ((conv => whnf);repeat' ((first|(with_reducible first|apply a_|apply b_|apply c_)|((with_reducible first|apply d_|apply e_|apply f_|apply g_);focus first|omega|(simp only [q_]<;>omega))|((with_reducible first|apply i_|apply h_);focus first|omega|(simp only [q_]<;>omega))|((with_reducible apply h_);focus first|decide|kernel_rfl)|refine s_ (by decide) ?_|refine t_ (by decide) ?_|refine r_ ps rfl ?_|(refine CallP.ret [(FK, FK), (FK1, 90)] _ _ _ _ _ _ _ ct rfl rfl rfl rfl ⟨rfl, rfl, trivial⟩ ?_)|with_reducible first|apply l_|apply m_|apply n_|apply o_|refine p_ (fun _ => ?_) (fun _ => ?_))<;>(conv => whnf)))
   exact CallP.pan [(FK, FK), (FK1, 90)] _ _ _ _ c3 rfl rfl rfl ⟨rfl, rfl, trivial⟩ rfl
  rw [j5] at e2
  dsimp only at e2
  subst j3
  cases hi : isH wIs r1 with
  | true =>
   rw [if_pos hi] at e2
   have hp := isH_pos hi
   have hd1 : (r1.drop 1).length + 1 = r1.length := by rw [List.length_drop]; omega
   have ci := s_take_t wIs r1 (by omega) o1 hi
   unfold isF at e2
   cases hn : isH wNot (r1.drop 1) with
   | true =>
    rw [if_pos hn] at e2
    have hp2 := isH_pos hn
    have hd2 : ((r1.drop 1).drop 1).length + 1 = (r1.drop 1).length := by rw [List.length_drop]; omega
    split at e2
    ·cases e2
    rename_i hu
    rw [Bool.not_eq_true] at hu
    have cn := s_take_t wNot (r1.drop 1) (by omega) o1 hn
    have cm := x_must wNull ((r1.drop 1).drop 1) (by omega) o1 hu
    ((conv => whnf);repeat' ((first|(with_reducible first|apply a_|apply b_|apply c_)|((with_reducible first|apply d_|apply e_|apply f_|apply g_);focus first|omega|(simp only [q_]<;>omega))|((with_reducible first|apply i_|apply h_);focus first|omega|(simp only [q_]<;>omega))|((with_reducible apply h_);focus first|decide|kernel_rfl)|refine s_ (by decide) ?_|refine t_ (by decide) ?_|refine r_ ps rfl ?_|(refine CallP.ret [(FK, FK), (FK1, 90)] _ _ _ _ _ _ _ ci rfl rfl rfl rfl ⟨rfl, rfl, trivial⟩ ?_)|(refine CallP.ret [(FK, FK), (FK1, 90)] _ _ _ _ _ _ _ cn rfl rfl rfl rfl ⟨rfl, rfl, trivial⟩ ?_)|with_reducible first|apply l_|apply m_|apply n_|apply o_|refine p_ (fun _ => ?_) (fun _ => ?_))<;>(conv => whnf)))
    exact CallP.pan [(FK, FK), (FK1, 90)] _ _ _ _ cm rfl rfl rfl ⟨rfl, rfl, trivial⟩ rfl
   | false =>
    rw [if_neg (by rw [hn]; decide)] at e2
    split at e2
    ·cases e2
    rename_i hu
    rw [Bool.not_eq_true] at hu
    have cn := s_take_f wNot (r1.drop 1) (by omega) o1 hn
    have cm := x_must wNull (r1.drop 1) (by omega) o1 hu
    ((conv => whnf);repeat' ((first|(with_reducible first|apply a_|apply b_|apply c_)|((with_reducible first|apply d_|apply e_|apply f_|apply g_);focus first|omega|(simp only [q_]<;>omega))|((with_reducible first|apply i_|apply h_);focus first|omega|(simp only [q_]<;>omega))|((with_reducible apply h_);focus first|decide|kernel_rfl)|refine s_ (by decide) ?_|refine t_ (by decide) ?_|refine r_ ps rfl ?_|(refine CallP.ret [(FK, FK), (FK1, 90)] _ _ _ _ _ _ _ ci rfl rfl rfl rfl ⟨rfl, rfl, trivial⟩ ?_)|(refine CallP.ret [(FK, FK), (FK1, 90)] _ _ _ _ _ _ _ cn rfl rfl rfl rfl ⟨rfl, rfl, trivial⟩ ?_)|with_reducible first|apply l_|apply m_|apply n_|apply o_|refine p_ (fun _ => ?_) (fun _ => ?_))<;>(conv => whnf)))
    exact CallP.pan [(FK, FK), (FK1, 90)] _ _ _ _ cm rfl rfl rfl ⟨rfl, rfl, trivial⟩ rfl
  | false =>
   rw [if_neg (by rw [hi]; decide)] at e2
   have ci := s_take_f wIs r1 (by omega) o1 hi
   cases hn : isH wNot r1 with
   | true =>
    rw [if_pos hn] at e2
    have cn := s_take_t wNot r1 (by omega) o1 hn
    have hp := isH_pos hn
    have hrr : (r1.drop 1).length + 1 = r1.length := by rw [List.length_drop]; omega
    obtain ⟨rr, err⟩ : ∃ rr, rr = r1.drop 1 := ⟨_, rfl⟩
    have frr : okT rr := by rw [err]; exact f2.drop 1
    rw [← err] at e2 cn hrr
    have hrl : rr.length ≤ r1.length := by omega
    unfold tailF at e2
    cases hk : isH wLike rr with
    | true =>
     rw [if_pos hk] at e2
     have hp2 := isH_pos hk
     have hd2 : (rr.drop 1).length + 1 = rr.length := by rw [List.length_drop]; omega
     have e3 : addF rec (rr.drop 1) = none := by
      cases e3 : addF rec (rr.drop 1) with
      | none => rfl
      | some y => rw [e3] at e2; cases e2
     have ck := s_take_t wLike rr (by omega) o1 hk
     have c3 := (hA (rr.drop 1) (by omega) (frr.drop 1) o1 (by omega)).2 e3
     ((conv => whnf);repeat' ((first|(with_reducible first|apply a_|apply b_|apply c_)|((with_reducible first|apply d_|apply e_|apply f_|apply g_);focus first|omega|(simp only [q_]<;>omega))|((with_reducible first|apply i_|apply h_);focus first|omega|(simp only [q_]<;>omega))|((with_reducible apply h_);focus first|decide|kernel_rfl)|refine s_ (by decide) ?_|refine t_ (by decide) ?_|refine r_ ps rfl ?_|(refine CallP.ret [(FK, FK), (FK1, 90)] _ _ _ _ _ _ _ ci rfl rfl rfl rfl ⟨rfl, rfl, trivial⟩ ?_)|(refine CallP.ret [(FK, FK), (FK1, 90)] _ _ _ _ _ _ _ cn rfl rfl rfl rfl ⟨rfl, rfl, trivial⟩ ?_)|(refine CallP.ret [(FK, FK), (FK1, 90)] _ _ _ _ _ _ _ ck rfl rfl rfl rfl ⟨rfl, rfl, trivial⟩ ?_)|with_reducible first|apply l_|apply m_|apply n_|apply o_|refine p_ (fun _ => ?_) (fun _ => ?_))<;>(conv => whnf)))
     exact CallP.pan [(FK, FK), (FK1, 90)] _ _ _ _ c3 rfl rfl rfl ⟨rfl, rfl, trivial⟩ rfl
    | false =>
     rw [if_neg (by rw [hk]; decide)] at e2
     have ck := s_take_f wLike rr (by omega) o1 hk
     cases hin : isH wIn rr with
     | true =>
      rw [if_pos hin] at e2
      have hp2 := isH_pos hin
      have hd2 : (rr.drop 1).length + 1 = rr.length := by rw [List.length_drop]; omega
      have e3 : listF rec (rr.drop 1) = none := by
       cases e3 : listF rec (rr.drop 1) with
       | none => rfl
       | some y => rw [e3] at e2; cases e2
      have cin := s_take_t wIn rr (by omega) o1 hin
      have c3 := x_list rec N hN h1 hw (rr.drop 1) (by omega) (frr.drop 1) o1 (by omega) e3
      ((conv => whnf);repeat' ((first|(with_reducible first|apply a_|apply b_|apply c_)|((with_reducible first|apply d_|apply e_|apply f_|apply g_);focus first|omega|(simp only [q_]<;>omega))|((with_reducible first|apply i_|apply h_);focus first|omega|(simp only [q_]<;>omega))|((with_reducible apply h_);focus first|decide|kernel_rfl)|refine s_ (by decide) ?_|refine t_ (by decide) ?_|refine r_ ps rfl ?_|(refine CallP.ret [(FK, FK), (FK1, 90)] _ _ _ _ _ _ _ ci rfl rfl rfl rfl ⟨rfl, rfl, trivial⟩ ?_)|(refine CallP.ret [(FK, FK), (FK1, 90)] _ _ _ _ _ _ _ cn rfl rfl rfl rfl ⟨rfl, rfl, trivial⟩ ?_)|(refine CallP.ret [(FK, FK), (FK1, 90)] _ _ _ _ _ _ _ ck rfl rfl rfl rfl ⟨rfl, rfl, trivial⟩ ?_)|(refine CallP.ret [(FK, FK), (FK1, 90)] _ _ _ _ _ _ _ cin rfl rfl rfl rfl ⟨rfl, rfl, trivial⟩ ?_)|with_reducible first|apply l_|apply m_|apply n_|apply o_|refine p_ (fun _ => ?_) (fun _ => ?_))<;>(conv => whnf)))
      exact CallP.pan [(FK, FK), (FK1, 90)] _ _ _ _ c3 rfl rfl rfl ⟨rfl, rfl, trivial⟩ rfl
     | false =>
      rw [if_neg (by rw [hin]; decide)] at e2
      have cin := s_take_f wIn rr (by omega) o1 hin
      cases hb : isH wBetw rr with
      | true =>
       rw [if_pos hb] at e2
       have hp2 := isH_pos hb
       have hd2 : (rr.drop 1).length + 1 = rr.length := by rw [List.length_drop]; omega
       have cb := s_take_t wBetw rr (by omega) o1 hb
       have cA := hA (rr.drop 1) (by omega) (frr.drop 1) o1 (by omega)
       unfold twoF at e2
       cases e3 : addF rec (rr.drop 1) with
       | none =>
        have c3 := cA.2 e3
        ((conv => whnf);repeat' ((first|(with_reducible first|apply a_|apply b_|apply c_)|((with_reducible first|apply d_|apply e_|apply f_|apply g_);focus first|omega|(simp only [q_]<;>omega))|((with_reducible first|apply i_|apply h_);focus first|omega|(simp only [q_]<;>omega))|((with_reducible apply h_);focus first|decide|kernel_rfl)|refine s_ (by decide) ?_|refine t_ (by decide) ?_|refine r_ ps rfl ?_|(refine CallP.ret [(FK, FK), (FK1, 90)] _ _ _ _ _ _ _ ci rfl rfl rfl rfl ⟨rfl, rfl, trivial⟩ ?_)|(refine CallP.ret [(FK, FK), (FK1, 90)] _ _ _ _ _ _ _ cn rfl rfl rfl rfl ⟨rfl, rfl, trivial⟩ ?_)|(refine CallP.ret [(FK, FK), (FK1, 90)] _ _ _ _ _ _ _ ck rfl rfl rfl rfl ⟨rfl, rfl, trivial⟩ ?_)|(refine CallP.ret [(FK, FK), (FK1, 90)] _ _ _ _ _ _ _ cin rfl rfl rfl rfl ⟨rfl, rfl, trivial⟩ ?_)|(refine CallP.ret [(FK, FK), (FK1, 90)] _ _ _ _ _ _ _ cb rfl rfl rfl rfl ⟨rfl, rfl, trivial⟩ ?_)|with_reducible first|apply l_|apply m_|apply n_|apply o_|refine p_ (fun _ => ?_) (fun _ => ?_))<;>(conv => whnf)))
        exact CallP.pan [(FK, FK), (FK1, 90)] _ _ _ _ c3 rfl rfl rfl ⟨rfl, rfl, trivial⟩ rfl
       | some x =>
        obtain ⟨r3, bs⟩ := x
        rw [e3] at e2
        dsimp only at e2
        obtain ⟨k3, d1, d2, d3, d4⟩ := ha _ _ _ e3
        have hr3 : r3.length + k3 = (rr.drop 1).length := by rw [d3, List.length_drop]; omega
        have hlb : (o1 ++ bs).length = o1.length + bs.length := List.length_append
        have c3 := cA.1 r3 bs e3
        cases hand : isH wAnd r3 with
        | false =>
         have cm := x_must wAnd r3 (by omega) (o1 ++ bs) hand
         ((conv => whnf);repeat' ((first|(with_reducible first|apply a_|apply b_|apply c_)|((with_reducible first|apply d_|apply e_|apply f_|apply g_);focus first|omega|(simp only [q_]<;>omega))|((with_reducible first|apply i_|apply h_);focus first|omega|(simp only [q_]<;>omega))|((with_reducible apply h_);focus first|decide|kernel_rfl)|refine s_ (by decide) ?_|refine t_ (by decide) ?_|refine r_ ps rfl ?_|(refine CallP.ret [(FK, FK), (FK1, 90)] _ _ _ _ _ _ _ ci rfl rfl rfl rfl ⟨rfl, rfl, trivial⟩ ?_)|(refine CallP.ret [(FK, FK), (FK1, 90)] _ _ _ _ _ _ _ cn rfl rfl rfl rfl ⟨rfl, rfl, trivial⟩ ?_)|(refine CallP.ret [(FK, FK), (FK1, 90)] _ _ _ _ _ _ _ ck rfl rfl rfl rfl ⟨rfl, rfl, trivial⟩ ?_)|(refine CallP.ret [(FK, FK), (FK1, 90)] _ _ _ _ _ _ _ cin rfl rfl rfl rfl ⟨rfl, rfl, trivial⟩ ?_)|(refine CallP.ret [(FK, FK), (FK1, 90)] _ _ _ _ _ _ _ cb rfl rfl rfl rfl ⟨rfl, rfl, trivial⟩ ?_)|(refine CallP.ret [(FK, FK), (FK1, 90), (NK, 56)] _ _ _ _ _ _ _ c3 rfl rfl rfl rfl ⟨rfl, rfl, trivial⟩ ?_)|with_reducible first|apply l_|apply m_|apply n_|apply o_|refine p_ (fun _ => ?_) (fun _ => ?_))<;>(conv => whnf)))
         exact CallP.pan [(FK, FK), (FK1, 56)] _ _ _ _ cm rfl rfl rfl ⟨rfl, rfl, trivial⟩ rfl
        | true =>
         rw [if_pos hand] at e2
         have hp3 := isH_pos hand
         have hd3 : (r3.drop 1).length + 1 = r3.length := by rw [List.length_drop]; omega
         have fr3 : okT r3 := by rw [d3]; exact (frr.drop 1).drop _
         have e4 : addF rec (r3.drop 1) = none := by
          cases e4 : addF rec (r3.drop 1) with
          | none => rfl
          | some y => rw [e4] at e2; cases e2
         have cm := s_must wAnd r3 (by omega) (o1 ++ bs) hand
         have c4 := (hA (r3.drop 1) (by omega) (fr3.drop 1) (o1 ++ bs) (by omega)).2 e4
         ((conv => whnf);repeat' ((first|(with_reducible first|apply a_|apply b_|apply c_)|((with_reducible first|apply d_|apply e_|apply f_|apply g_);focus first|omega|(simp only [q_]<;>omega))|((with_reducible first|apply i_|apply h_);focus first|omega|(simp only [q_]<;>omega))|((with_reducible apply h_);focus first|decide|kernel_rfl)|refine s_ (by decide) ?_|refine t_ (by decide) ?_|refine r_ ps rfl ?_|(refine CallP.ret [(FK, FK), (FK1, 90)] _ _ _ _ _ _ _ ci rfl rfl rfl rfl ⟨rfl, rfl, trivial⟩ ?_)|(refine CallP.ret [(FK, FK), (FK1, 90)] _ _ _ _ _ _ _ cn rfl rfl rfl rfl ⟨rfl, rfl, trivial⟩ ?_)|(refine CallP.ret [(FK, FK), (FK1, 90)] _ _ _ _ _ _ _ ck rfl rfl rfl rfl ⟨rfl, rfl, trivial⟩ ?_)|(refine CallP.ret [(FK, FK), (FK1, 90)] _ _ _ _ _ _ _ cin rfl rfl rfl rfl ⟨rfl, rfl, trivial⟩ ?_)|(refine CallP.ret [(FK, FK), (FK1, 90)] _ _ _ _ _ _ _ cb rfl rfl rfl rfl ⟨rfl, rfl, trivial⟩ ?_)|(refine CallP.ret [(FK, FK), (FK1, 90), (NK, 56)] _ _ _ _ _ _ _ c3 rfl rfl rfl rfl ⟨rfl, rfl, trivial⟩ ?_)|(refine CallP.ret [(FK, FK), (FK1, 56)] _ _ _ _ _ _ _ cm rfl rfl rfl rfl ⟨rfl, rfl, trivial⟩ ?_)|with_reducible first|apply l_|apply m_|apply n_|apply o_|refine p_ (fun _ => ?_) (fun _ => ?_))<;>(conv => whnf)))
         exact CallP.pan [(FK, FK), (FK1, 56)] _ _ _ _ c4 rfl rfl rfl ⟨rfl, rfl, trivial⟩ rfl
      | false =>
       rw [if_neg (by rw [hb]; decide)] at e2
       have cb := s_take_f wBetw rr (by omega) o1 hb
       ((conv => whnf);repeat' ((first|(with_reducible first|apply a_|apply b_|apply c_)|((with_reducible first|apply d_|apply e_|apply f_|apply g_);focus first|omega|(simp only [q_]<;>omega))|((with_reducible first|apply i_|apply h_);focus first|omega|(simp only [q_]<;>omega))|((with_reducible apply h_);focus first|decide|kernel_rfl)|refine s_ (by decide) ?_|refine t_ (by decide) ?_|refine r_ ps rfl ?_|(refine CallP.ret [(FK, FK), (FK1, 90)] _ _ _ _ _ _ _ ci rfl rfl rfl rfl ⟨rfl, rfl, trivial⟩ ?_)|(refine CallP.ret [(FK, FK), (FK1, 90)] _ _ _ _ _ _ _ cn rfl rfl rfl rfl ⟨rfl, rfl, trivial⟩ ?_)|(refine CallP.ret [(FK, FK), (FK1, 90)] _ _ _ _ _ _ _ ck rfl rfl rfl rfl ⟨rfl, rfl, trivial⟩ ?_)|(refine CallP.ret [(FK, FK), (FK1, 90)] _ _ _ _ _ _ _ cin rfl rfl rfl rfl ⟨rfl, rfl, trivial⟩ ?_)|(refine CallP.ret [(FK, FK), (FK1, 90)] _ _ _ _ _ _ _ cb rfl rfl rfl rfl ⟨rfl, rfl, trivial⟩ ?_)|with_reducible first|apply l_|apply m_|apply n_|apply o_|refine p_ (fun _ => ?_) (fun _ => ?_))<;>(conv => whnf)))
   | false =>
    rw [if_neg (by rw [hn]; decide)] at e2
    have cn := s_take_f wNot r1 (by omega) o1 hn
    obtain ⟨rr, err⟩ : ∃ rr, rr = r1 := ⟨_, rfl⟩
    have frr : okT rr := by rw [err]; exact f2
    rw [← err] at e2 cn
    rw [← err] at ci
    have hrl : rr.length ≤ r1.length := by rw [err]; exact Nat.le_refl _
    rw [← err]
    unfold tailF at e2
    cases hk : isH wLike rr with
    | true =>
     rw [if_pos hk] at e2
     have hp2 := isH_pos hk
     have hd2 : (rr.drop 1).length + 1 = rr.length := by rw [List.length_drop]; omega
     have e3 : addF rec (rr.drop 1) = none := by
      cases e3 : addF rec (rr.drop 1) with
      | none => rfl
      | some y => rw [e3] at e2; cases e2
     have ck := s_take_t wLike rr (by omega) o1 hk
     have c3 := (hA (rr.drop 1) (by omega) (frr.drop 1) o1 (by omega)).2 e3
     ((conv => whnf);repeat' ((first|(with_reducible first|apply a_|apply b_|apply c_)|((with_reducible first|apply d_|apply e_|apply f_|apply g_);focus first|omega|(simp only [q_]<;>omega))|((with_reducible first|apply i_|apply h_);focus first|omega|(simp only [q_]<;>omega))|((with_reducible apply h_);focus first|decide|kernel_rfl)|refine s_ (by decide) ?_|refine t_ (by decide) ?_|refine r_ ps rfl ?_|(refine CallP.ret [(FK, FK), (FK1, 90)] _ _ _ _ _ _ _ ci rfl rfl rfl rfl ⟨rfl, rfl, trivial⟩ ?_)|(refine CallP.ret [(FK, FK), (FK1, 90)] _ _ _ _ _ _ _ cn rfl rfl rfl rfl ⟨rfl, rfl, trivial⟩ ?_)|(refine CallP.ret [(FK, FK), (FK1, 90)] _ _ _ _ _ _ _ ck rfl rfl rfl rfl ⟨rfl, rfl, trivial⟩ ?_)|with_reducible first|apply l_|apply m_|apply n_|apply o_|refine p_ (fun _ => ?_) (fun _ => ?_))<;>(conv => whnf)))
     exact CallP.pan [(FK, FK), (FK1, 90)] _ _ _ _ c3 rfl rfl rfl ⟨rfl, rfl, trivial⟩ rfl
    | false =>
     rw [if_neg (by rw [hk]; decide)] at e2
     have ck := s_take_f wLike rr (by omega) o1 hk
     cases hin : isH wIn rr with
     | true =>
      rw [if_pos hin] at e2
      have hp2 := isH_pos hin
      have hd2 : (rr.drop 1).length + 1 = rr.length := by rw [List.length_drop]; omega
      have e3 : listF rec (rr.drop 1) = none := by
       cases e3 : listF rec (rr.drop 1) with
       | none => rfl
       | some y => rw [e3] at e2; cases e2
      have cin := s_take_t wIn rr (by omega) o1 hin
      have c3 := x_list rec N hN h1 hw (rr.drop 1) (by omega) (frr.drop 1) o1 (by omega) e3
      ((conv => whnf);repeat' ((first|(with_reducible first|apply a_|apply b_|apply c_)|((with_reducible first|apply d_|apply e_|apply f_|apply g_);focus first|omega|(simp only [q_]<;>omega))|((with_reducible first|apply i_|apply h_);focus first|omega|(simp only [q_]<;>omega))|((with_reducible apply h_);focus first|decide|kernel_rfl)|refine s_ (by decide) ?_|refine t_ (by decide) ?_|refine r_ ps rfl ?_|(refine CallP.ret [(FK, FK), (FK1, 90)] _ _ _ _ _ _ _ ci rfl rfl rfl rfl ⟨rfl, rfl, trivial⟩ ?_)|(refine CallP.ret [(FK, FK), (FK1, 90)] _ _ _ _ _ _ _ cn rfl rfl rfl rfl ⟨rfl, rfl, trivial⟩ ?_)|(refine CallP.ret [(FK, FK), (FK1, 90)] _ _ _ _ _ _ _ ck rfl rfl rfl rfl ⟨rfl, rfl, trivial⟩ ?_)|(refine CallP.ret [(FK, FK), (FK1, 90)] _ _ _ _ _ _ _ cin rfl rfl rfl rfl ⟨rfl, rfl, trivial⟩ ?_)|with_reducible first|apply l_|apply m_|apply n_|apply o_|refine p_ (fun _ => ?_) (fun _ => ?_))<;>(conv => whnf)))
      exact CallP.pan [(FK, FK), (FK1, 90)] _ _ _ _ c3 rfl rfl rfl ⟨rfl, rfl, trivial⟩ rfl
     | false =>
      rw [if_neg (by rw [hin]; decide)] at e2
      have cin := s_take_f wIn rr (by omega) o1 hin
      cases hb : isH wBetw rr with
      | true =>
       rw [if_pos hb] at e2
       have hp2 := isH_pos hb
       have hd2 : (rr.drop 1).length + 1 = rr.length := by rw [List.length_drop]; omega
       have cb := s_take_t wBetw rr (by omega) o1 hb
       have cA := hA (rr.drop 1) (by omega) (frr.drop 1) o1 (by omega)
       unfold twoF at e2
       cases e3 : addF rec (rr.drop 1) with
       | none =>
        have c3 := cA.2 e3
        ((conv => whnf);repeat' ((first|(with_reducible first|apply a_|apply b_|apply c_)|((with_reducible first|apply d_|apply e_|apply f_|apply g_);focus first|omega|(simp only [q_]<;>omega))|((with_reducible first|apply i_|apply h_);focus first|omega|(simp only [q_]<;>omega))|((with_reducible apply h_);focus first|decide|kernel_rfl)|refine s_ (by decide) ?_|refine t_ (by decide) ?_|refine r_ ps rfl ?_|(refine CallP.ret [(FK, FK), (FK1, 90)] _ _ _ _ _ _ _ ci rfl rfl rfl rfl ⟨rfl, rfl, trivial⟩ ?_)|(refine CallP.ret [(FK, FK), (FK1, 90)] _ _ _ _ _ _ _ cn rfl rfl rfl rfl ⟨rfl, rfl, trivial⟩ ?_)|(refine CallP.ret [(FK, FK), (FK1, 90)] _ _ _ _ _ _ _ ck rfl rfl rfl rfl ⟨rfl, rfl, trivial⟩ ?_)|(refine CallP.ret [(FK, FK), (FK1, 90)] _ _ _ _ _ _ _ cin rfl rfl rfl rfl ⟨rfl, rfl, trivial⟩ ?_)|(refine CallP.ret [(FK, FK), (FK1, 90)] _ _ _ _ _ _ _ cb rfl rfl rfl rfl ⟨rfl, rfl, trivial⟩ ?_)|with_reducible first|apply l_|apply m_|apply n_|apply o_|refine p_ (fun _ => ?_) (fun _ => ?_))<;>(conv => whnf)))
        exact CallP.pan [(FK, FK), (FK1, 90)] _ _ _ _ c3 rfl rfl rfl ⟨rfl, rfl, trivial⟩ rfl
       | some x =>
        obtain ⟨r3, bs⟩ := x
        rw [e3] at e2
        dsimp only at e2
        obtain ⟨k3, d1, d2, d3, d4⟩ := ha _ _ _ e3
        have hr3 : r3.length + k3 = (rr.drop 1).length := by rw [d3, List.length_drop]; omega
        have hlb : (o1 ++ bs).length = o1.length + bs.length := List.length_append
        have c3 := cA.1 r3 bs e3
        cases hand : isH wAnd r3 with
        | false =>
         have cm := x_must wAnd r3 (by omega) (o1 ++ bs) hand
         ((conv => whnf);repeat' ((first|(with_reducible first|apply a_|apply b_|apply c_)|((with_reducible first|apply d_|apply e_|apply f_|apply g_);focus first|omega|(simp only [q_]<;>omega))|((with_reducible first|apply i_|apply h_);focus first|omega|(simp only [q_]<;>omega))|((with_reducible apply h_);focus first|decide|kernel_rfl)|refine s_ (by decide) ?_|refine t_ (by decide) ?_|refine r_ ps rfl ?_|(refine CallP.ret [(FK, FK), (FK1, 90)] _ _ _ _ _ _ _ ci rfl rfl rfl rfl ⟨rfl, rfl, trivial⟩ ?_)|(refine CallP.ret [(FK, FK), (FK1, 90)] _ _ _ _ _ _ _ cn rfl rfl rfl rfl ⟨rfl, rfl, trivial⟩ ?_)|(refine CallP.ret [(FK, FK), (FK1, 90)] _ _ _ _ _ _ _ ck rfl rfl rfl rfl ⟨rfl, rfl, trivial⟩ ?_)|(refine CallP.ret [(FK, FK), (FK1, 90)] _ _ _ _ _ _ _ cin rfl rfl rfl rfl ⟨rfl, rfl, trivial⟩ ?_)|(refine CallP.ret [(FK, FK), (FK1, 90)] _ _ _ _ _ _ _ cb rfl rfl rfl rfl ⟨rfl, rfl, trivial⟩ ?_)|(refine CallP.ret [(FK, FK), (FK1, 90), (NK, 56)] _ _ _ _ _ _ _ c3 rfl rfl rfl rfl ⟨rfl, rfl, trivial⟩ ?_)|with_reducible first|apply l_|apply m_|apply n_|apply o_|refine p_ (fun _ => ?_) (fun _ => ?_))<;>(conv => whnf)))
         exact CallP.pan [(FK, FK), (FK1, 56)] _ _ _ _ cm rfl rfl rfl ⟨rfl, rfl, trivial⟩ rfl
        | true =>
         rw [if_pos hand] at e2
         have hp3 := isH_pos hand
         have hd3 : (r3.drop 1).length + 1 = r3.length := by rw [List.length_drop]; omega
         have fr3 : okT r3 := by rw [d3]; exact (frr.drop 1).drop _
         have e4 : addF rec (r3.drop 1) = none := by
          cases e4 : addF rec (r3.drop 1) with
          | none => rfl
          | some y => rw [e4] at e2; cases e2
         have cm := s_must wAnd r3 (by omega) (o1 ++ bs) hand
         have c4 := (hA (r3.drop 1) (by omega) (fr3.drop 1) (o1 ++ bs) (by omega)).2 e4
         ((conv => whnf);repeat' ((first|(with_reducible first|apply a_|apply b_|apply c_)|((with_reducible first|apply d_|apply e_|apply f_|apply g_);focus first|omega|(simp only [q_]<;>omega))|((with_reducible first|apply i_|apply h_);focus first|omega|(simp only [q_]<;>omega))|((with_reducible apply h_);focus first|decide|kernel_rfl)|refine s_ (by decide) ?_|refine t_ (by decide) ?_|refine r_ ps rfl ?_|(refine CallP.ret [(FK, FK), (FK1, 90)] _ _ _ _ _ _ _ ci rfl rfl rfl rfl ⟨rfl, rfl, trivial⟩ ?_)|(refine CallP.ret [(FK, FK), (FK1, 90)] _ _ _ _ _ _ _ cn rfl rfl rfl rfl ⟨rfl, rfl, trivial⟩ ?_)|(refine CallP.ret [(FK, FK), (FK1, 90)] _ _ _ _ _ _ _ ck rfl rfl rfl rfl ⟨rfl, rfl, trivial⟩ ?_)|(refine CallP.ret [(FK, FK), (FK1, 90)] _ _ _ _ _ _ _ cin rfl rfl rfl rfl ⟨rfl, rfl, trivial⟩ ?_)|(refine CallP.ret [(FK, FK), (FK1, 90)] _ _ _ _ _ _ _ cb rfl rfl rfl rfl ⟨rfl, rfl, trivial⟩ ?_)|(refine CallP.ret [(FK, FK), (FK1, 90), (NK, 56)] _ _ _ _ _ _ _ c3 rfl rfl rfl rfl ⟨rfl, rfl, trivial⟩ ?_)|(refine CallP.ret [(FK, FK), (FK1, 56)] _ _ _ _ _ _ _ cm rfl rfl rfl rfl ⟨rfl, rfl, trivial⟩ ?_)|with_reducible first|apply l_|apply m_|apply n_|apply o_|refine p_ (fun _ => ?_) (fun _ => ?_))<;>(conv => whnf)))
         exact CallP.pan [(FK, FK), (FK1, 56)] _ _ _ _ c4 rfl rfl rfl ⟨rfl, rfl, trivial⟩ rfl
      | false =>
       rw [if_neg (by rw [hb]; decide)] at e2
       have cb := s_take_f wBetw rr (by omega) o1 hb
       rw [if_neg (by decide)] at e2
       cases e2
theorem w_ask (rec : List TokenD → PR) (N : Nat) (hN : N ≤ 50000) (h1 : ∀ l, fit 1 l (rec l)) (hw : ∀ M, M < N → WalkOk 28 rec M) (hA : WalkOk 94 (addF rec) N) : WalkOk 87 (askF rec) N := fun l hl ht out ho =>
 ⟨fun r ns e => s_ask rec N hN h1 hw hA l hl ht out ho e, fun e => x_ask rec N hN h1 hw hA l hl ht out ho e⟩
theorem w_pOr : ∀ (n : Nat), n ≤ 50000 → ∀ M, M < n → WalkOk 28 (pOr n) M
 | 0, _, M, h => absurd h (Nat.not_lt_zero _)
 | n + 1, hn, M, h => by
  have ih := w_pOr n (by omega)
  have h1 := fit_pOr n
  have hM : M ≤ 50000 := by omega
  have ih' : ∀ M', M' < M → WalkOk 28 (pOr n) M' := fun M' h' => ih M' (by omega)
  have c1 := w_one (pOr n) M hM h1 ih'
  have c2 := w_neg (oneF (pOr n)) M hM (fit_one h1) c1
  have c3 := w_mul (negF (pOr n)) M hM (fit_neg h1) c2
  have c4 := w_add (mulF (pOr n)) M hM (fit_mul h1) c3
  have c5 := w_ask (pOr n) M hM h1 ih' c4
  have c6 := w_not (askF (pOr n)) M hM (fit_ask h1 (fit_add h1)) c5
  have c7 := w_and (notF (pOr n)) M hM (fit_not h1) c6
  exact w_or (andF (pOr n)) M hM (fit_and h1) c7
end
end Go.Proofs.YtmcmagfondjopaaGreatDoor.Pm
