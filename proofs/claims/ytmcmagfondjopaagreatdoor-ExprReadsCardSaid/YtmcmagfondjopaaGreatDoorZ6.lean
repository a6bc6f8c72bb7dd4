/- Parts of the proof, one behind the other: PnRd3 PnRd4 PnRd5 PnRd6 PnRd7 PnRd8 PnJoin PmNil PnWalk PnPrint. Conditions: none beyond what each theorem says. -/
import Derived.Test.YtmcmagfondjopaaGreatDoorZ5
set_option linter.unusedVariables false
set_option linter.unusedSimpArgs false
namespace Go.Proofs.YtmcmagfondjopaaGreatDoor.Pm
section
open Go.RowKit K
set_option maxRecDepth 100000
set_option maxHeartbeats 1000000
def opC (o : Int) : List C := [.v (.string (tx (sgn o)))]
def atI : Option Nat → Int
 | none => -1
 | some j => (j : Int)
abbrev sc0 : Sc := ⟨0, 0, false, 0, none⟩
theorem sc_snoc {ops : List Int} {l : List TokenD} {i : Nat} (h : i < l.length) : scF ops sc0 (l.take (i + 1)) = scS ops (scF ops sc0 (l.take i)) l[i] := by
 rw [take_snoc h, scF_append]; rfl
theorem sc_inv (ops : List Int) (l : List TokenD) (h : dEnd 0 l = some 0) : ∀ i, i ≤ l.length → (scF ops sc0 (l.take i)).i = i ∧ (scF ops sc0 (l.take i)).bt ≤ i ∧ dEnd 0 (l.take i) = some (scF ops sc0 (l.take i)).d ∧ (∀ j, (scF ops sc0 (l.take i)).at_ = some j → j < i)
 | 0, _ => by rw [List.take_zero]; exact ⟨rfl, Nat.le_refl _, rfl, fun j hj => by cases hj⟩
 | i + 1, hi => by
  have hi : i < l.length := hi
  obtain ⟨h1, h2, h3, h4⟩ := sc_inv ops l h i (by omega)
  rw [sc_snoc hi]
  generalize scF ops sc0 (l.take i) = S at *
  refine ⟨by show S.i + 1 = _; omega, ?_, ?_, ?_⟩
  ·show (if recD S.d l[i] = 0 then (if isM l[i] wBetw then S.bt + 1 else if isM l[i] wAnd then S.bt - 1 else S.bt) else S.bt) ≤ i + 1
   split
   ·split
    ·omega
    ·split <;> omega
   ·omega
  ·have hfull := dEnd_at h3
   rw [List.drop_eq_getElem_cons hi, h] at hfull
   have hs : ¬ (isM l[i] sRp = true ∧ S.d = 0) := by
    rintro ⟨a, b⟩
    rw [b, dEnd_stop a] at hfull
    cases hfull
   rw [take_snoc hi, dEnd_append _ _ 0 S.d h3, dEnd_one hs]
   rfl
  ·intro j hj
   have hj : (if recD S.d l[i] = 0 ∧ isM l[i] wBetw = false ∧ ¬ (isM l[i] wAnd = true ∧ 0 < S.bt) ∧ S.pe = true ∧ (ops.any fun o => isM l[i] (sgn o)) = true then some S.i else S.at_) = some j := hj
   split at hj
   ·cases hj; omega
   ·have := h4 j hj; omega
theorem sc_pe (ops : List Int) (l : List TokenD) {i : Nat} (h : i < l.length) : (scF ops sc0 (l.take (i + 1))).pe = endB l[i] := by rw [sc_snoc h]; rfl
theorem depV_at {l : List TokenD} {i d e : Nat} (h : dEnd 0 (l.take i) = some d) (hi : i < l.length) (h2 : i < (depV 0 l).length) : (depV 0 l)[i] = recD d l[i] := by
 have e1 : depV 0 l = depV 0 (l.take i) ++ depV d (l.drop i) := by
  rw [← depV_app _ _ 0 d h, List.take_append_drop]
 have e2 : (depV 0 l)[i]? = some (recD d l[i]) := by
  rw [e1, List.getElem?_append_right (by rw [depV_len, List.length_take]; omega), depV_len, List.length_take, Nat.min_eq_left (by omega), Nat.sub_self, List.drop_eq_getElem_cons hi]
  rfl
 rw [List.getElem?_eq_getElem h2] at e2
 exact Option.some.inj e2
theorem p_lastof (l : List TokenD) (hl : l.length ≤ 100000) (ht : ∀ t ∈ l, okText t.S) (ops : List Int) (ho : ops.length ≤ 1000) : Pure Tryz.prog 48 [slV 4 TokenD.c l, .d (.c (.sl 1 (ops.map opC)))] (pInt .i64 (atI (lastF ops l))) := by
 have pd := p_depthsof l hl
 refine pure_of Tryz.func48 (by rfl) rfl (by kernel_rfl) (by rfl) ?_
 unfold lastF
 by_cases h0 : dEnd 0 l = some 0
 ·have hr : depR l = (depV 0 l, true) := by unfold depR; rw [h0]; rfl
  rw [hr] at pd
  rw [if_pos h0]
  have pd : Pure _ _ _ (.tup [slV 1 dC (depV 0 l), pBool true]) := pd
  ((conv => whnf);repeat' ((first|(with_reducible first|apply a_|apply b_|apply c_)|((with_reducible first|apply d_|apply e_|apply f_|apply g_);focus first|omega|(simp only [q_]<;>omega))|((with_reducible first|apply i_|apply h_);focus first|omega|(simp only [q_]<;>omega))|((with_reducible apply h_);focus first|decide|kernel_rfl)|refine s_ (by decide) ?_|refine t_ (by decide) ?_|refine r_ pd rfl ?_|with_reducible first|apply l_|apply m_|apply n_|apply o_|refine p_ (fun _ => ?_) (fun _ => ?_))<;>(conv => whnf)))
  refine LoopC.mk Nat (fun i => [(0, slV 4 TokenD.c l), (1, .d (.c (.sl 1 (ops.map opC)))), (5, slV 1 dC (depV 0 l)), (7, pInt .i64 (atI (scF ops sc0 (l.take i)).at_)), (8, pInt .i64 ((scF ops sc0 (l.take i)).bt : Int)), (9, pInt .i64 (i : Int))]) (fun _ => []) [] (fun i => i ≤ l.length) (fun i => l.length - i) 0 (Nat.zero_le _) ?start ?round
  case start => exact ⟨[], rfl, rfl, ⟨.inl rfl, .inl rfl, .inl rfl, PLe.int (by rw [List.take_zero]; rfl), PLe.int (by rw [List.take_zero]; rfl), .inl rfl, trivial⟩, trivial⟩
  case round =>
   intro i hi
   have hi : i ≤ l.length := hi
   obtain ⟨i1, i2, i3, i4⟩ := sc_inv ops l h0 i hi
   by_cases q : i < l.length
   ·have hlt : i < (depV 0 l).length := by rw [depV_len]; exact q
    have hdv := depV_at (e := 0) i3 q hlt
    have es := sc_snoc (ops := ops) q
    have p1 : Pure _ _ [tV l[i], pStr ⟨#[98, 101, 116, 119, 101, 101, 110]⟩] _ := p_ismark l[i] wBetw
    have p2 : Pure _ _ [tV l[i], pStr ⟨#[97, 110, 100]⟩] _ := p_ismark l[i] wAnd
    have pk (s : List UInt8) := p_ismark l[i] s
    obtain ⟨S, hS⟩ : ∃ S, S = scF ops sc0 (l.take i) := ⟨_, rfl⟩
    rw [← hS] at i1 i2 i3 i4 es hdv ⊢
    have eb : (scF ops sc0 (l.take (i + 1))).bt = if recD S.d l[i] = 0 then (if isM l[i] wBetw then S.bt + 1 else if isM l[i] wAnd then S.bt - 1 else S.bt) else S.bt := by rw [es]; rfl
    have ea : (scF ops sc0 (l.take (i + 1))).at_ = if recD S.d l[i] = 0 ∧ isM l[i] wBetw = false ∧ ¬ (isM l[i] wAnd = true ∧ 0 < S.bt) ∧ S.pe = true ∧ (ops.any fun o => isM l[i] (sgn o)) = true then some S.i else S.at_ := by rw [es]; rfl
    generalize hr : recD S.d l[i] = r at *
    by_cases r0 : r = 0
    ·subst r0
     rw [if_pos rfl] at eb
     cases hb : isM l[i] wBetw with
     | true =>
      rw [hb] at p1
      rw [hb, if_pos rfl] at eb
      rw [if_neg (by rw [hb]; rintro ⟨_, x, _⟩; cases x)] at ea
      ((conv => whnf);repeat' ((first|(with_reducible first|apply a_|apply b_|apply c_)|((with_reducible first|apply d_|apply e_|apply f_|apply g_);focus first|omega|(simp only [q_]<;>omega))|((with_reducible first|apply i_|apply h_);focus first|omega|(simp only [q_]<;>omega))|((with_reducible apply h_);focus first|decide|kernel_rfl)|refine s_ (by decide) ?_|refine t_ (by decide) ?_|(first|refine Idx.mapE (f := dC) i rfl hlt hdv ?_|refine Idx.mapI (f := TokenD.c) i rfl q ?_)|refine r_ p1 rfl ?_|with_reducible first|apply l_|apply m_|apply n_|apply o_|refine p_ (fun _ => ?_) (fun _ => ?_))<;>(conv => whnf)))
      all_goals first
       | exact ⟨i + 1, by show i + 1 ≤ _; omega, by show l.length - (i + 1) < l.length - i; omega, [], rfl, rfl, ⟨.inl rfl, .inl rfl, .inl rfl, PLe.int (by rw [ea]), PLe.int (by rw [eb]; omega), PLe.int (by omega), trivial⟩, trivial⟩
       | (exfalso; omega)
     | false =>
      rw [hb] at p1
      rw [hb, if_neg (by decide)] at eb
      by_cases ha : isM l[i] wAnd = true ∧ 0 < S.bt
      ·have ha2 := ha.2
       rw [ha.1] at p2
       rw [if_pos ha.1] at eb
       rw [if_neg (by rintro ⟨_, _, x, _⟩; exact x ha)] at ea
       ((conv => whnf);repeat' ((first|(with_reducible first|apply a_|apply b_|apply c_)|((with_reducible first|apply d_|apply e_|apply f_|apply g_);focus first|omega|(simp only [q_]<;>omega))|((with_reducible first|apply i_|apply h_);focus first|omega|(simp only [q_]<;>omega))|((with_reducible apply h_);focus first|decide|kernel_rfl)|refine s_ (by decide) ?_|refine t_ (by decide) ?_|(first|refine Idx.mapE (f := dC) i rfl hlt hdv ?_|refine Idx.mapI (f := TokenD.c) i rfl q ?_)|refine r_ p1 rfl ?_|refine r_ p2 rfl ?_|with_reducible first|apply l_|apply m_|apply n_|apply o_|refine p_ (fun _ => ?_) (fun _ => ?_))<;>(conv => whnf)))
       all_goals first
        | exact ⟨i + 1, by show i + 1 ≤ _; omega, by show l.length - (i + 1) < l.length - i; omega, [], rfl, rfl, ⟨.inl rfl, .inl rfl, .inl rfl, PLe.int (by rw [ea]), PLe.int (by rw [eb]; omega), PLe.int (by omega), trivial⟩, trivial⟩
        | (exfalso; omega)
      ·have eb2 : (scF ops sc0 (l.take (i + 1))).bt = S.bt := by
        rw [eb]
        split
        ·rename_i x
         have : ¬ 0 < S.bt := fun y => ha ⟨x, y⟩
         omega
        ·rfl
       have hbt : isM l[i] wAnd = false ∨ ¬ 0 < S.bt := by
        cases hx : isM l[i] wAnd with
        | true => exact .inr fun y => ha ⟨hx, y⟩
        | false => exact .inl rfl
       by_cases hpe : 0 < i ∧ S.pe = true
       ·obtain ⟨hi0, hpe⟩ := hpe
        have q1 : i - 1 < l.length := by omega
        have c1 : ((i : Int) - 1) = ((i - 1 : Nat) : Int) := by omega
        have hend : endB l[i - 1] = true := by
         have := sc_pe ops l q1
         rw [show i - 1 + 1 = i by omega, ← hS, hpe] at this
         exact this.symm
        have pe := p_ends l[i - 1] (ht _ (List.getElem_mem q1))
        rw [hend] at pe
        have ea2 : (scF ops sc0 (l.take (i + 1))).at_ = if (ops.any fun o => isM l[i] (sgn o)) = true then some i else S.at_ := by
         rw [ea]
         by_cases hx : (ops.any fun o => isM l[i] (sgn o)) = true
         ·rw [if_pos ⟨rfl, hb, ha, hpe, hx⟩, if_pos hx, i1]
         ·rw [if_neg (fun x => hx x.2.2.2.2), if_neg hx]
        cases hA : isM l[i] wAnd
        ·rw [hA] at p2
         ((conv => whnf);repeat' ((first|(with_reducible first|apply a_|apply b_|apply c_)|((with_reducible first|apply d_|apply e_|apply f_|apply g_);focus first|omega|(simp only [q_]<;>omega))|((with_reducible first|apply i_|apply h_);focus first|omega|(simp only [q_]<;>omega))|((with_reducible apply h_);focus first|decide|kernel_rfl)|refine s_ (by decide) ?_|refine t_ (by decide) ?_|(first|refine Idx.mapE (f := dC) i rfl hlt hdv ?_|refine Idx.mapI (f := TokenD.c) i rfl q ?_|refine Idx.mapI (f := TokenD.c) (i - 1) c1 q1 ?_)|refine r_ p1 rfl ?_|refine r_ p2 rfl ?_|refine r_ pe rfl ?_|with_reducible first|apply l_|apply m_|apply n_|apply o_|refine p_ (fun _ => ?_) (fun _ => ?_))<;>(conv => whnf)))
         refine LoopC.mk Nat (fun k => [(0, slV 4 TokenD.c l), (1, .d (.c (.sl 1 (ops.map opC)))), (5, slV 1 dC (depV 0 l)), (7, pInt .i64 (if ((ops.take k).any fun o => isM l[i] (sgn o)) = true then (i : Int) else atI S.at_)), (8, pInt .i64 (S.bt : Int)), (9, pInt .i64 (i : Int)), (10, pInt .i64 (k : Int))]) (fun _ => []) [] (fun k => k ≤ ops.length) (fun k => ops.length - k) 0 (Nat.zero_le _) ?start2 ?round2
         case start2 => exact ⟨[], rfl, rfl, ⟨.inl rfl, .inl rfl, .inl rfl, PLe.int (by rw [List.take_zero]; rfl), .inl rfl, .inl rfl, .inl rfl, trivial⟩, trivial⟩
         case round2 =>
          intro k hk
          have hk : k ≤ ops.length := hk
          by_cases qk : k < ops.length
          ·have pm := pk (sgn ops[k])
           have hany : ((ops.take (k + 1)).any fun o => isM l[i] (sgn o)) = (((ops.take k).any fun o => isM l[i] (sgn o)) || isM l[i] (sgn ops[k])) := by
            rw [take_snoc qk, List.any_append]; simp
           cases hm : isM l[i] (sgn ops[k]) with
           | true =>
            rw [hm] at pm
            rw [hm, Bool.or_true] at hany
            ((conv => whnf);repeat' ((first|(with_reducible first|apply a_|apply b_|apply c_)|((with_reducible first|apply d_|apply e_|apply f_|apply g_);focus first|omega|(simp only [q_]<;>omega))|((with_reducible first|apply i_|apply h_);focus first|omega|(simp only [q_]<;>omega))|((with_reducible apply h_);focus first|decide|kernel_rfl)|refine s_ (by decide) ?_|refine t_ (by decide) ?_|(first|refine Idx.mapI (f := opC) k rfl qk ?_|refine Idx.mapI (f := TokenD.c) i rfl q ?_)|refine r_ pm rfl ?_|with_reducible first|apply l_|apply m_|apply n_|apply o_|refine p_ (fun _ => ?_) (fun _ => ?_))<;>(conv => whnf)))
            all_goals first
             | exact ⟨k + 1, by show k + 1 ≤ _; omega, by show ops.length - (k + 1) < ops.length - k; omega, [], rfl, rfl, ⟨.inl rfl, .inl rfl, .inl rfl, PLe.int (by rw [hany, if_pos rfl]), .inl rfl, .inl rfl, PLe.int (by omega), trivial⟩, trivial⟩
             | (exfalso; omega)
           | false =>
            rw [hm] at pm
            rw [hm, Bool.or_false] at hany
            ((conv => whnf);repeat' ((first|(with_reducible first|apply a_|apply b_|apply c_)|((with_reducible first|apply d_|apply e_|apply f_|apply g_);focus first|omega|(simp only [q_]<;>omega))|((with_reducible first|apply i_|apply h_);focus first|omega|(simp only [q_]<;>omega))|((with_reducible apply h_);focus first|decide|kernel_rfl)|refine s_ (by decide) ?_|refine t_ (by decide) ?_|(first|refine Idx.mapI (f := opC) k rfl qk ?_|refine Idx.mapI (f := TokenD.c) i rfl q ?_)|refine r_ pm rfl ?_|with_reducible first|apply l_|apply m_|apply n_|apply o_|refine p_ (fun _ => ?_) (fun _ => ?_))<;>(conv => whnf)))
            all_goals first
             | exact ⟨k + 1, by show k + 1 ≤ _; omega, by show ops.length - (k + 1) < ops.length - k; omega, [], rfl, rfl, ⟨.inl rfl, .inl rfl, .inl rfl, PLe.int (by rw [hany]), .inl rfl, .inl rfl, PLe.int (by omega), trivial⟩, trivial⟩
             | (exfalso; omega)
          ·have eo : ops.take k = ops := List.take_of_length_le (by omega)
           rw [eo]
           have efin : (if (ops.any fun o => isM l[i] (sgn o)) = true then (i : Int) else atI S.at_) = atI (scF ops sc0 (l.take (i + 1))).at_ := by
            rw [ea2]
            split <;> rfl
           rw [efin]
           ((conv => whnf);repeat' ((first|(with_reducible first|apply a_|apply b_|apply c_)|((with_reducible first|apply d_|apply e_|apply f_|apply g_);focus first|omega|(simp only [q_]<;>omega))|((with_reducible first|apply i_|apply h_);focus first|omega|(simp only [q_]<;>omega))|((with_reducible apply h_);focus first|decide|kernel_rfl)|refine s_ (by decide) ?_|refine t_ (by decide) ?_|with_reducible first|apply l_|apply m_|apply n_|apply o_|refine p_ (fun _ => ?_) (fun _ => ?_))<;>(conv => whnf)))
           all_goals first
            | exact ⟨i + 1, by show i + 1 ≤ _; omega, by show l.length - (i + 1) < l.length - i; omega, [], rfl, rfl, ⟨.inl rfl, .inl rfl, .inl rfl, .inl rfl, PLe.int (by rw [eb2]), PLe.int (by omega), trivial⟩, trivial⟩
            | (exfalso; omega)
        ·rw [hA] at p2
         have hb0 : ¬ 0 < S.bt := fun y => ha ⟨hA, y⟩
         ((conv => whnf);repeat' ((first|(with_reducible first|apply a_|apply b_|apply c_)|((with_reducible first|apply d_|apply e_|apply f_|apply g_);focus first|omega|(simp only [q_]<;>omega))|((with_reducible first|apply i_|apply h_);focus first|omega|(simp only [q_]<;>omega))|((with_reducible apply h_);focus first|decide|kernel_rfl)|refine s_ (by decide) ?_|refine t_ (by decide) ?_|(first|refine Idx.mapE (f := dC) i rfl hlt hdv ?_|refine Idx.mapI (f := TokenD.c) i rfl q ?_|refine Idx.mapI (f := TokenD.c) (i - 1) c1 q1 ?_)|refine r_ p1 rfl ?_|refine r_ p2 rfl ?_|refine r_ pe rfl ?_|with_reducible first|apply l_|apply m_|apply n_|apply o_|refine p_ (fun _ => ?_) (fun _ => ?_))<;>(conv => whnf)))
         refine LoopC.mk Nat (fun k => [(0, slV 4 TokenD.c l), (1, .d (.c (.sl 1 (ops.map opC)))), (5, slV 1 dC (depV 0 l)), (7, pInt .i64 (if ((ops.take k).any fun o => isM l[i] (sgn o)) = true then (i : Int) else atI S.at_)), (8, pInt .i64 (S.bt : Int)), (9, pInt .i64 (i : Int)), (10, pInt .i64 (k : Int))]) (fun _ => []) [] (fun k => k ≤ ops.length) (fun k => ops.length - k) 0 (Nat.zero_le _) ?start2 ?round2
         case start2 => exact ⟨[], rfl, rfl, ⟨.inl rfl, .inl rfl, .inl rfl, PLe.int (by rw [List.take_zero]; rfl), .inl rfl, .inl rfl, .inl rfl, trivial⟩, trivial⟩
         case round2 =>
          intro k hk
          have hk : k ≤ ops.length := hk
          by_cases qk : k < ops.length
          ·have pm := pk (sgn ops[k])
           have hany : ((ops.take (k + 1)).any fun o => isM l[i] (sgn o)) = (((ops.take k).any fun o => isM l[i] (sgn o)) || isM l[i] (sgn ops[k])) := by
            rw [take_snoc qk, List.any_append]; simp
           cases hm : isM l[i] (sgn ops[k]) with
           | true =>
            rw [hm] at pm
            rw [hm, Bool.or_true] at hany
            ((conv => whnf);repeat' ((first|(with_reducible first|apply a_|apply b_|apply c_)|((with_reducible first|apply d_|apply e_|apply f_|apply g_);focus first|omega|(simp only [q_]<;>omega))|((with_reducible first|apply i_|apply h_);focus first|omega|(simp only [q_]<;>omega))|((with_reducible apply h_);focus first|decide|kernel_rfl)|refine s_ (by decide) ?_|refine t_ (by decide) ?_|(first|refine Idx.mapI (f := opC) k rfl qk ?_|refine Idx.mapI (f := TokenD.c) i rfl q ?_)|refine r_ pm rfl ?_|with_reducible first|apply l_|apply m_|apply n_|apply o_|refine p_ (fun _ => ?_) (fun _ => ?_))<;>(conv => whnf)))
            all_goals first
             | exact ⟨k + 1, by show k + 1 ≤ _; omega, by show ops.length - (k + 1) < ops.length - k; omega, [], rfl, rfl, ⟨.inl rfl, .inl rfl, .inl rfl, PLe.int (by rw [hany, if_pos rfl]), .inl rfl, .inl rfl, PLe.int (by omega), trivial⟩, trivial⟩
             | (exfalso; omega)
           | false =>
            rw [hm] at pm
            rw [hm, Bool.or_false] at hany
            ((conv => whnf);repeat' ((first|(with_reducible first|apply a_|apply b_|apply c_)|((with_reducible first|apply d_|apply e_|apply f_|apply g_);focus first|omega|(simp only [q_]<;>omega))|((with_reducible first|apply i_|apply h_);focus first|omega|(simp only [q_]<;>omega))|((with_reducible apply h_);focus first|decide|kernel_rfl)|refine s_ (by decide) ?_|refine t_ (by decide) ?_|(first|refine Idx.mapI (f := opC) k rfl qk ?_|refine Idx.mapI (f := TokenD.c) i rfl q ?_)|refine r_ pm rfl ?_|with_reducible first|apply l_|apply m_|apply n_|apply o_|refine p_ (fun _ => ?_) (fun _ => ?_))<;>(conv => whnf)))
            all_goals first
             | exact ⟨k + 1, by show k + 1 ≤ _; omega, by show ops.length - (k + 1) < ops.length - k; omega, [], rfl, rfl, ⟨.inl rfl, .inl rfl, .inl rfl, PLe.int (by rw [hany]), .inl rfl, .inl rfl, PLe.int (by omega), trivial⟩, trivial⟩
             | (exfalso; omega)
          ·have eo : ops.take k = ops := List.take_of_length_le (by omega)
           rw [eo]
           have efin : (if (ops.any fun o => isM l[i] (sgn o)) = true then (i : Int) else atI S.at_) = atI (scF ops sc0 (l.take (i + 1))).at_ := by
            rw [ea2]
            split <;> rfl
           rw [efin]
           ((conv => whnf);repeat' ((first|(with_reducible first|apply a_|apply b_|apply c_)|((with_reducible first|apply d_|apply e_|apply f_|apply g_);focus first|omega|(simp only [q_]<;>omega))|((with_reducible first|apply i_|apply h_);focus first|omega|(simp only [q_]<;>omega))|((with_reducible apply h_);focus first|decide|kernel_rfl)|refine s_ (by decide) ?_|refine t_ (by decide) ?_|with_reducible first|apply l_|apply m_|apply n_|apply o_|refine p_ (fun _ => ?_) (fun _ => ?_))<;>(conv => whnf)))
           all_goals first
            | exact ⟨i + 1, by show i + 1 ≤ _; omega, by show l.length - (i + 1) < l.length - i; omega, [], rfl, rfl, ⟨.inl rfl, .inl rfl, .inl rfl, .inl rfl, PLe.int (by rw [eb2]), PLe.int (by omega), trivial⟩, trivial⟩
            | (exfalso; omega)
       ·have ea2 : (scF ops sc0 (l.take (i + 1))).at_ = S.at_ := by
         rw [ea, if_neg]
         rintro ⟨_, _, _, x, _⟩
         refine hpe ⟨?_, x⟩
         rcases Nat.eq_zero_or_pos i with rfl | y
         ·rw [hS, List.take_zero] at x; cases x
         ·exact y
        have hpe2 : ∀ (h : i - 1 < l.length), 0 < i → endB l[i - 1] = false := by
         intro h hi0
         have := sc_pe ops l h
         rw [show i - 1 + 1 = i by omega, ← hS] at this
         rw [← this]
         cases hx : S.pe with
         | true => exact absurd ⟨hi0, hx⟩ hpe
         | false => rfl
        by_cases hi0 : 0 < i
        ·have q1 : i - 1 < l.length := by omega
         have c1 : ((i : Int) - 1) = ((i - 1 : Nat) : Int) := by omega
         have pe := p_ends l[i - 1] (ht _ (List.getElem_mem q1))
         rw [hpe2 q1 hi0] at pe
         cases hA : isM l[i] wAnd
         ·rw [hA] at p2
          ((conv => whnf);repeat' ((first|(with_reducible first|apply a_|apply b_|apply c_)|((with_reducible first|apply d_|apply e_|apply f_|apply g_);focus first|omega|(simp only [q_]<;>omega))|((with_reducible first|apply i_|apply h_);focus first|omega|(simp only [q_]<;>omega))|((with_reducible apply h_);focus first|decide|kernel_rfl)|refine s_ (by decide) ?_|refine t_ (by decide) ?_|(first|refine Idx.mapE (f := dC) i rfl hlt hdv ?_|refine Idx.mapI (f := TokenD.c) i rfl q ?_|refine Idx.mapI (f := TokenD.c) (i - 1) c1 q1 ?_)|refine r_ p1 rfl ?_|refine r_ p2 rfl ?_|refine r_ pe rfl ?_|with_reducible first|apply l_|apply m_|apply n_|apply o_|refine p_ (fun _ => ?_) (fun _ => ?_))<;>(conv => whnf)))
          all_goals first
          | exact ⟨i + 1, by show i + 1 ≤ _; omega, by show l.length - (i + 1) < l.length - i; omega, [], rfl, rfl, ⟨.inl rfl, .inl rfl, .inl rfl, PLe.int (by rw [ea2]), PLe.int (by rw [eb2]), PLe.int (by omega), trivial⟩, trivial⟩
          | (exfalso; omega)
         ·rw [hA] at p2
          have hb0 : ¬ 0 < S.bt := fun y => ha ⟨hA, y⟩
          ((conv => whnf);repeat' ((first|(with_reducible first|apply a_|apply b_|apply c_)|((with_reducible first|apply d_|apply e_|apply f_|apply g_);focus first|omega|(simp only [q_]<;>omega))|((with_reducible first|apply i_|apply h_);focus first|omega|(simp only [q_]<;>omega))|((with_reducible apply h_);focus first|decide|kernel_rfl)|refine s_ (by decide) ?_|refine t_ (by decide) ?_|(first|refine Idx.mapE (f := dC) i rfl hlt hdv ?_|refine Idx.mapI (f := TokenD.c) i rfl q ?_|refine Idx.mapI (f := TokenD.c) (i - 1) c1 q1 ?_)|refine r_ p1 rfl ?_|refine r_ p2 rfl ?_|refine r_ pe rfl ?_|with_reducible first|apply l_|apply m_|apply n_|apply o_|refine p_ (fun _ => ?_) (fun _ => ?_))<;>(conv => whnf)))
          all_goals first
          | exact ⟨i + 1, by show i + 1 ≤ _; omega, by show l.length - (i + 1) < l.length - i; omega, [], rfl, rfl, ⟨.inl rfl, .inl rfl, .inl rfl, PLe.int (by rw [ea2]), PLe.int (by rw [eb2]), PLe.int (by omega), trivial⟩, trivial⟩
          | (exfalso; omega)
        ·cases hA : isM l[i] wAnd
         ·rw [hA] at p2
          ((conv => whnf);repeat' ((first|(with_reducible first|apply a_|apply b_|apply c_)|((with_reducible first|apply d_|apply e_|apply f_|apply g_);focus first|omega|(simp only [q_]<;>omega))|((with_reducible first|apply i_|apply h_);focus first|omega|(simp only [q_]<;>omega))|((with_reducible apply h_);focus first|decide|kernel_rfl)|refine s_ (by decide) ?_|refine t_ (by decide) ?_|(first|refine Idx.mapE (f := dC) i rfl hlt hdv ?_|refine Idx.mapI (f := TokenD.c) i rfl q ?_)|refine r_ p1 rfl ?_|refine r_ p2 rfl ?_|with_reducible first|apply l_|apply m_|apply n_|apply o_|refine p_ (fun _ => ?_) (fun _ => ?_))<;>(conv => whnf)))
          all_goals first
          | exact ⟨i + 1, by show i + 1 ≤ _; omega, by show l.length - (i + 1) < l.length - i; omega, [], rfl, rfl, ⟨.inl rfl, .inl rfl, .inl rfl, PLe.int (by rw [ea2]), PLe.int (by rw [eb2]), PLe.int (by omega), trivial⟩, trivial⟩
          | (exfalso; omega)
         ·rw [hA] at p2
          have hb0 : ¬ 0 < S.bt := fun y => ha ⟨hA, y⟩
          ((conv => whnf);repeat' ((first|(with_reducible first|apply a_|apply b_|apply c_)|((with_reducible first|apply d_|apply e_|apply f_|apply g_);focus first|omega|(simp only [q_]<;>omega))|((with_reducible first|apply i_|apply h_);focus first|omega|(simp only [q_]<;>omega))|((with_reducible apply h_);focus first|decide|kernel_rfl)|refine s_ (by decide) ?_|refine t_ (by decide) ?_|(first|refine Idx.mapE (f := dC) i rfl hlt hdv ?_|refine Idx.mapI (f := TokenD.c) i rfl q ?_)|refine r_ p1 rfl ?_|refine r_ p2 rfl ?_|with_reducible first|apply l_|apply m_|apply n_|apply o_|refine p_ (fun _ => ?_) (fun _ => ?_))<;>(conv => whnf)))
          all_goals first
          | exact ⟨i + 1, by show i + 1 ≤ _; omega, by show l.length - (i + 1) < l.length - i; omega, [], rfl, rfl, ⟨.inl rfl, .inl rfl, .inl rfl, PLe.int (by rw [ea2]), PLe.int (by rw [eb2]), PLe.int (by omega), trivial⟩, trivial⟩
          | (exfalso; omega)
    ·rw [if_neg r0] at eb
     rw [if_neg (fun x => r0 x.1)] at ea
     ((conv => whnf);repeat' ((first|(with_reducible first|apply a_|apply b_|apply c_)|((with_reducible first|apply d_|apply e_|apply f_|apply g_);focus first|omega|(simp only [q_]<;>omega))|((with_reducible first|apply i_|apply h_);focus first|omega|(simp only [q_]<;>omega))|((with_reducible apply h_);focus first|decide|kernel_rfl)|refine s_ (by decide) ?_|refine t_ (by decide) ?_|(first|refine Idx.mapE (f := dC) i rfl hlt hdv ?_|refine Idx.mapI (f := TokenD.c) i rfl q ?_)|with_reducible first|apply l_|apply m_|apply n_|apply o_|refine p_ (fun _ => ?_) (fun _ => ?_))<;>(conv => whnf)))
     all_goals first
      | exact ⟨i + 1, by show i + 1 ≤ _; omega, by show l.length - (i + 1) < l.length - i; omega, [], rfl, rfl, ⟨.inl rfl, .inl rfl, .inl rfl, PLe.int (by rw [ea]), PLe.int (by rw [eb]), PLe.int (by omega), trivial⟩, trivial⟩
      | (exfalso; omega)
   ·have e : l.take i = l := List.take_of_length_le (by omega)
    rw [e]
    ((conv => whnf);repeat' ((first|(with_reducible first|apply a_|apply b_|apply c_)|((with_reducible first|apply d_|apply e_|apply f_|apply g_);focus first|omega|(simp only [q_]<;>omega))|((with_reducible first|apply i_|apply h_);focus first|omega|(simp only [q_]<;>omega))|((with_reducible apply h_);focus first|decide|kernel_rfl)|refine s_ (by decide) ?_|refine t_ (by decide) ?_|with_reducible first|apply l_|apply m_|apply n_|apply o_|refine p_ (fun _ => ?_) (fun _ => ?_))<;>(conv => whnf)))
    all_goals first | exact Ret.mk rfl | (exfalso; omega)
 ·have hr : (depR l).2 = false := by
   unfold depR
   split
   ·rfl
   ·rename_i e he
    exact decide_eq_false fun x => h0 (by rw [he, x])
  rw [hr] at pd
  rw [if_neg h0]
  ((conv => whnf);repeat' ((first|(with_reducible first|apply a_|apply b_|apply c_)|((with_reducible first|apply d_|apply e_|apply f_|apply g_);focus first|omega|(simp only [q_]<;>omega))|((with_reducible first|apply i_|apply h_);focus first|omega|(simp only [q_]<;>omega))|((with_reducible apply h_);focus first|decide|kernel_rfl)|refine s_ (by decide) ?_|refine t_ (by decide) ?_|refine r_ pd rfl ?_|with_reducible first|apply l_|apply m_|apply n_|apply o_|refine p_ (fun _ => ?_) (fun _ => ?_))<;>(conv => whnf)))
  all_goals first | exact Ret.mk rfl | (exfalso; omega)
end
section
open Go.RowKit K
set_option maxRecDepth 100000
set_option maxHeartbeats 1000000
theorem depR_ok {l : List TokenD} (h : dEnd 0 l = some 0) : depR l = (depV 0 l, true) := by unfold depR; rw [h]; rfl
theorem depR_no {l : List TokenD} (h : dEnd 0 l ≠ some 0) : (depR l).2 = false := by
 unfold depR
 split
 ·rfl
 ·rename_i e he
  exact decide_eq_false fun x => h (by rw [he, x])
theorem first_step {W : List (List UInt8)} {l : List TokenD} {i d : Nat} (hn : firstAt W 0 (l.take i) = none) (hd : dEnd 0 (l.take i) = some d) (hi : i < l.length) : (recD d l[i] = 0 ∧ anyM W l[i] = true → firstAt W 0 l = some i) ∧ (¬ (recD d l[i] = 0 ∧ anyM W l[i] = true) → firstAt W 0 (l.take (i + 1)) = none) := by
 have hl : (l.take i).length = i := by rw [List.length_take]; omega
 constructor
 ·intro h
  have := first_app W (l.take i) (l.drop i) 0 d hn hd
  rw [List.take_append_drop, List.drop_eq_getElem_cons hi, hl] at this
  rw [this, firstAt, if_pos h]
  simp
 ·intro h
  have := first_app W (l.take i) [l[i]] 0 d hn hd
  rw [take_snoc hi, this, firstAt, if_neg h]; rfl
theorem p_askat (l : List TokenD) (hl : l.length ≤ 100000) : Pure Tryz.prog 97 [slV 4 TokenD.c l] (pInt .i64 (askN l : Int)) := by
 have pd := p_depthsof l hl
 refine pure_of Tryz.func97 (by rfl) rfl (by kernel_rfl) (by rfl) ?_
 have hml : (l.map TokenD.c).length = l.length := List.length_map _
 unfold askN
 by_cases h0 : dEnd 0 l = some 0
 ·rw [depR_ok h0] at pd
  have pd : Pure _ _ _ (.tup [slV 1 dC (depV 0 l), pBool true]) := pd
  rw [if_pos h0]
  ((conv => whnf);repeat' ((first|(with_reducible first|apply a_|apply b_|apply c_)|((with_reducible first|apply d_|apply e_|apply f_|apply g_);focus first|omega|(simp only [q_]<;>omega))|((with_reducible first|apply i_|apply h_);focus first|omega|(simp only [q_]<;>omega))|((with_reducible apply h_);focus first|decide|kernel_rfl)|refine s_ (by decide) ?_|refine t_ (by decide) ?_|refine r_ pd rfl ?_|with_reducible first|apply l_|apply m_|apply n_|apply o_|refine p_ (fun _ => ?_) (fun _ => ?_))<;>(conv => whnf)))
  refine LoopC.mk Nat (fun i => [(0, slV 4 TokenD.c l), (3, slV 1 dC (depV 0 l)), (5, .d (.app 60 9 1 (askW.map eText))), (6, pInt .i64 (i : Int))]) (fun _ => [(60, .tail 9 1)]) [60] (fun i => i ≤ l.length ∧ firstAt askW 0 (l.take i) = none) (fun i => l.length - i) 0 ⟨Nat.zero_le _, by rw [List.take_zero]; rfl⟩ ?start ?round
  case start => exact ⟨[(60, 17)], rfl, rfl, ⟨.inl rfl, .inl rfl, ⟨rfl, rfl, rfl, rfl, rfl⟩, .inl rfl, trivial⟩, ⟨rfl, rfl, rfl⟩, trivial⟩
  case round =>
   rintro i ⟨hi, hn⟩
   have hi : i ≤ l.length := hi
   have hn : firstAt askW 0 (l.take i) = none := hn
   obtain ⟨_, _, i3, _⟩ := sc_inv [] l h0 i hi
   generalize (scF [] sc0 (l.take i)).d = d at i3
   by_cases q : i < l.length
   ·have hlt : i < (depV 0 l).length := by rw [depV_len]; exact q
    have hdv := depV_at (e := 0) i3 q hlt
    have hst := first_step hn i3 q
    have pk (s : List UInt8) := p_ismark l[i] s
    generalize hr : recD d l[i] = r at *
    ((conv => whnf);repeat' ((first|(with_reducible first|apply a_|apply b_|apply c_)|((with_reducible first|apply d_|apply e_|apply f_|apply g_);focus first|omega|(simp only [q_]<;>omega))|((with_reducible first|apply i_|apply h_);focus first|omega|(simp only [q_]<;>omega))|((with_reducible apply h_);focus first|decide|kernel_rfl)|refine s_ (by decide) ?_|refine t_ (by decide) ?_|with_reducible first|apply l_|apply m_|apply n_|apply o_|refine p_ (fun _ => ?_) (fun _ => ?_))<;>(conv => whnf)))
    refine LoopC.mk Nat (fun k => [(0, slV 4 TokenD.c l), (3, slV 1 dC (depV 0 l)), (5, .d (.app 60 9 1 (askW.map eText))), (6, pInt .i64 (i : Int)), (7, pInt .i64 (k : Int))]) (fun _ => [(60, .tail 9 1)]) [60] (fun k => k ≤ askW.length ∧ ¬ (r = 0 ∧ ((askW.take k).any fun w => isM l[i] w) = true)) (fun k => askW.length - k) 0 ⟨Nat.zero_le _, by rw [List.take_zero]; rintro ⟨_, x⟩; cases x⟩ ?start2 ?round2
    case start2 => exact ⟨[(60, 60)], rfl, rfl, ⟨.inl rfl, .inl rfl, ⟨rfl, rfl, rfl, rfl, rfl⟩, .inl rfl, .inl rfl, trivial⟩, ⟨rfl, rfl, rfl⟩, trivial⟩
    case round2 =>
     rintro k ⟨hk, hno⟩
     have hk : k ≤ askW.length := hk
     have hno : ¬ (r = 0 ∧ ((askW.take k).any fun w => isM l[i] w) = true) := hno
     have hwl : askW.length = 11 := rfl
     by_cases qk : k < askW.length
     ·have pm := pk askW[k]
      have hany : ((askW.take (k + 1)).any fun w => isM l[i] w) = (((askW.take k).any fun w => isM l[i] w) || isM l[i] askW[k]) := by
       rw [take_snoc qk, List.any_append]; simp
      by_cases r0 : r = 0
      ·subst r0
       cases hm : isM l[i] askW[k] with
       | true =>
        rw [hm] at pm
        have hf := hst.1 ⟨rfl, anyM_of hm (List.getElem_mem qk)⟩
        rw [hf]
        ((conv => whnf);repeat' ((first|(with_reducible first|apply a_|apply b_|apply c_)|((with_reducible first|apply d_|apply e_|apply f_|apply g_);focus first|omega|(simp only [q_]<;>omega))|((with_reducible first|apply i_|apply h_);focus first|omega|(simp only [q_]<;>omega))|((with_reducible apply h_);focus first|decide|kernel_rfl)|refine s_ (by decide) ?_|refine t_ (by decide) ?_|(first|refine Idx.mapE (f := dC) i rfl hlt hdv ?_|refine Idx.mapI (f := eText) (l := askW) k rfl qk ?_|refine Idx.mapI (f := TokenD.c) i rfl q ?_)|refine r_ pm rfl ?_|with_reducible first|apply l_|apply m_|apply n_|apply o_|refine p_ (fun _ => ?_) (fun _ => ?_))<;>(conv => whnf)))
        all_goals first | exact Ret.mk rfl | (exfalso; omega)
       | false =>
        rw [hm] at pm
        rw [hm, Bool.or_false] at hany
        ((conv => whnf);repeat' ((first|(with_reducible first|apply a_|apply b_|apply c_)|((with_reducible first|apply d_|apply e_|apply f_|apply g_);focus first|omega|(simp only [q_]<;>omega))|((with_reducible first|apply i_|apply h_);focus first|omega|(simp only [q_]<;>omega))|((with_reducible apply h_);focus first|decide|kernel_rfl)|refine s_ (by decide) ?_|refine t_ (by decide) ?_|(first|refine Idx.mapE (f := dC) i rfl hlt hdv ?_|refine Idx.mapI (f := eText) (l := askW) k rfl qk ?_|refine Idx.mapI (f := TokenD.c) i rfl q ?_)|refine r_ pm rfl ?_|with_reducible first|apply l_|apply m_|apply n_|apply o_|refine p_ (fun _ => ?_) (fun _ => ?_))<;>(conv => whnf)))
        all_goals first
         | exact ⟨k + 1, ⟨by show k + 1 ≤ _; omega, by rw [hany]; exact hno⟩, by show askW.length - (k + 1) < askW.length - k; omega, [(60, 60)], rfl, rfl, ⟨.inl rfl, .inl rfl, ⟨rfl, rfl, rfl, rfl, rfl⟩, .inl rfl, PLe.int (by omega), trivial⟩, ⟨rfl, rfl, rfl⟩, trivial⟩
         | (exfalso; omega)
      ·((conv => whnf);repeat' ((first|(with_reducible first|apply a_|apply b_|apply c_)|((with_reducible first|apply d_|apply e_|apply f_|apply g_);focus first|omega|(simp only [q_]<;>omega))|((with_reducible first|apply i_|apply h_);focus first|omega|(simp only [q_]<;>omega))|((with_reducible apply h_);focus first|decide|kernel_rfl)|refine s_ (by decide) ?_|refine t_ (by decide) ?_|(first|refine Idx.mapE (f := dC) i rfl hlt hdv ?_|refine Idx.mapI (f := eText) (l := askW) k rfl qk ?_|refine Idx.mapI (f := TokenD.c) i rfl q ?_)|with_reducible first|apply l_|apply m_|apply n_|apply o_|refine p_ (fun _ => ?_) (fun _ => ?_))<;>(conv => whnf)))
       all_goals first
        | exact ⟨k + 1, ⟨by show k + 1 ≤ _; omega, fun x => r0 x.1⟩, by show askW.length - (k + 1) < askW.length - k; omega, [(60, 60)], rfl, rfl, ⟨.inl rfl, .inl rfl, ⟨rfl, rfl, rfl, rfl, rfl⟩, .inl rfl, PLe.int (by omega), trivial⟩, ⟨rfl, rfl, rfl⟩, trivial⟩
        | (exfalso; omega)
     ·have ek : askW.take k = askW := List.take_of_length_le (by omega)
      rw [ek] at hno
      have hnx := hst.2 hno
      ((conv => whnf);repeat' ((first|(with_reducible first|apply a_|apply b_|apply c_)|((with_reducible first|apply d_|apply e_|apply f_|apply g_);focus first|omega|(simp only [q_]<;>omega))|((with_reducible first|apply i_|apply h_);focus first|omega|(simp only [q_]<;>omega))|((with_reducible apply h_);focus first|decide|kernel_rfl)|refine s_ (by decide) ?_|refine t_ (by decide) ?_|with_reducible first|apply l_|apply m_|apply n_|apply o_|refine p_ (fun _ => ?_) (fun _ => ?_))<;>(conv => whnf)))
      all_goals first
       | exact ⟨i + 1, ⟨by show i + 1 ≤ _; omega, hnx⟩, by show l.length - (i + 1) < l.length - i; omega, [(60, 60)], rfl, rfl, ⟨.inl rfl, .inl rfl, ⟨rfl, rfl, rfl, rfl, rfl⟩, PLe.int (by omega), trivial⟩, ⟨rfl, rfl, rfl⟩, trivial⟩
       | (exfalso; omega)
   ·have e : l.take i = l := List.take_of_length_le (by omega)
    rw [e] at hn
    rw [hn]
    ((conv => whnf);repeat' ((first|(with_reducible first|apply a_|apply b_|apply c_)|((with_reducible first|apply d_|apply e_|apply f_|apply g_);focus first|omega|(simp only [q_]<;>omega))|((with_reducible first|apply i_|apply h_);focus first|omega|(simp only [q_]<;>omega))|((with_reducible apply h_);focus first|decide|kernel_rfl)|refine s_ (by decide) ?_|refine t_ (by decide) ?_|with_reducible first|apply l_|apply m_|apply n_|apply o_|refine p_ (fun _ => ?_) (fun _ => ?_))<;>(conv => whnf)))
    all_goals first | exact Ret.int (by show _ = (l.length : Int); omega) | exact Ret.mk rfl | (exfalso; omega)
 ·have hr := depR_no h0
  rw [hr] at pd
  rw [if_neg h0]
  ((conv => whnf);repeat' ((first|(with_reducible first|apply a_|apply b_|apply c_)|((with_reducible first|apply d_|apply e_|apply f_|apply g_);focus first|omega|(simp only [q_]<;>omega))|((with_reducible first|apply i_|apply h_);focus first|omega|(simp only [q_]<;>omega))|((with_reducible apply h_);focus first|decide|kernel_rfl)|refine s_ (by decide) ?_|refine t_ (by decide) ?_|refine r_ pd rfl ?_|with_reducible first|apply l_|apply m_|apply n_|apply o_|refine p_ (fun _ => ?_) (fun _ => ?_))<;>(conv => whnf)))
  all_goals first | exact Ret.int (by omega) | exact Ret.mk rfl | (exfalso; omega)
def optN (x : Option (List NodeD)) : PV := .tup [slV 6 NodeD.c (x.getD []), pBool x.isSome]
theorem p_both (x y : Option (List NodeD)) (op : Int) (h : (x.getD []).length + (y.getD []).length ≤ 100000) : Pure Tryz.prog 50 [slV 6 NodeD.c (x.getD []), slV 6 NodeD.c (y.getD []), pBool x.isSome, pBool y.isSome, pInt .i64 op] (optN (bothF x y op)) := by
 cases x with
 | none =>
  show Pure _ _ [slV 6 NodeD.c [], slV 6 NodeD.c (y.getD []), pBool false, pBool y.isSome, pInt .i64 op] (.tup [slV 6 NodeD.c [], pBool false])
  refine pure_of Tryz.func50 (by rfl) rfl (by kernel_rfl) (by rfl) ?_
  ((conv => whnf);repeat' ((first|(with_reducible first|apply a_|apply b_|apply c_)|((with_reducible first|apply d_|apply e_|apply f_|apply g_);focus first|omega|(simp only [q_]<;>omega))|((with_reducible first|apply i_|apply h_);focus first|omega|(simp only [q_]<;>omega))|((with_reducible apply h_);focus first|decide|kernel_rfl)|refine s_ (by decide) ?_|refine t_ (by decide) ?_|with_reducible first|apply l_|apply m_|apply n_|apply o_|refine p_ (fun _ => ?_) (fun _ => ?_))<;>(conv => whnf)))
  all_goals first | exact Ret.le ⟨.inr ⟨⟨6, rfl⟩, .inl rfl⟩, .inl rfl, rfl⟩ | (exfalso; omega)
 | some a =>
  cases y with
  | none =>
   show Pure _ _ [slV 6 NodeD.c a, slV 6 NodeD.c [], pBool true, pBool false, pInt .i64 op] (.tup [slV 6 NodeD.c [], pBool false])
   refine pure_of Tryz.func50 (by rfl) rfl (by kernel_rfl) (by rfl) ?_
   ((conv => whnf);repeat' ((first|(with_reducible first|apply a_|apply b_|apply c_)|((with_reducible first|apply d_|apply e_|apply f_|apply g_);focus first|omega|(simp only [q_]<;>omega))|((with_reducible first|apply i_|apply h_);focus first|omega|(simp only [q_]<;>omega))|((with_reducible apply h_);focus first|decide|kernel_rfl)|refine s_ (by decide) ?_|refine t_ (by decide) ?_|with_reducible first|apply l_|apply m_|apply n_|apply o_|refine p_ (fun _ => ?_) (fun _ => ?_))<;>(conv => whnf)))
   all_goals first | exact Ret.le ⟨.inr ⟨⟨6, rfl⟩, .inl rfl⟩, .inl rfl, rfl⟩ | (exfalso; omega)
  | some b =>
   have h : a.length + b.length ≤ 100000 := h
   have e : (a ++ b ++ [nOp op 2]).map NodeD.c = [] ++ a.map NodeD.c ++ b.map NodeD.c ++ [(nOp op 2).c] := by rw [List.map_append, List.map_append]; rfl
   show Pure _ _ [slV 6 NodeD.c a, slV 6 NodeD.c b, pBool true, pBool true, pInt .i64 op] (.tup [.d (.c (.sl 6 ((a ++ b ++ [nOp op 2]).map NodeD.c))), pBool true])
   rw [e]
   refine pure_of Tryz.func50 (by rfl) rfl (by kernel_rfl) (by rfl) ?_
   ((conv => whnf);repeat' ((first|(with_reducible first|apply a_|apply b_|apply c_)|((with_reducible first|apply d_|apply e_|apply f_|apply g_);focus first|omega|(simp only [q_]<;>omega))|((with_reducible first|apply i_|apply h_);focus first|omega|(simp only [q_]<;>omega))|((with_reducible apply h_);focus first|decide|kernel_rfl)|refine s_ (by decide) ?_|refine t_ (by decide) ?_|(refine Need.by 64 rfl (by simp only [List.length_append, List.length_map, List.length_cons, List.length_nil];omega) ?_)|with_reducible first|apply l_|apply m_|apply n_|apply o_|refine p_ (fun _ => ?_) (fun _ => ?_))<;>(conv => whnf)))
   all_goals first | exact Ret.eq rfl | (exfalso; omega)
theorem p_above (a : List NodeD) (ok : Bool) (op : Int) (h : a.length ≤ 100000) : Pure Tryz.prog 89 [slV 6 NodeD.c a, pBool ok, pInt .i64 op] (optN (if ok = true then some (a ++ [nOp op 1]) else none)) := by
 refine pure_of Tryz.func89 (by rfl) rfl (by kernel_rfl) (by rfl) ?_
 cases ok with
 | false =>
  show vc _ _ _ _ _ _ _ _ (retQ _ _ (.tup [slV 6 NodeD.c [], pBool false]))
  ((conv => whnf);repeat' ((first|(with_reducible first|apply a_|apply b_|apply c_)|((with_reducible first|apply d_|apply e_|apply f_|apply g_);focus first|omega|(simp only [q_]<;>omega))|((with_reducible first|apply i_|apply h_);focus first|omega|(simp only [q_]<;>omega))|((with_reducible apply h_);focus first|decide|kernel_rfl)|refine s_ (by decide) ?_|refine t_ (by decide) ?_|with_reducible first|apply l_|apply m_|apply n_|apply o_|refine p_ (fun _ => ?_) (fun _ => ?_))<;>(conv => whnf)))
  all_goals first | exact Ret.le ⟨.inr ⟨⟨6, rfl⟩, .inl rfl⟩, .inl rfl, rfl⟩ | (exfalso; omega)
 | true =>
  have e : (a ++ [nOp op 1]).map NodeD.c = [] ++ a.map NodeD.c ++ [(nOp op 1).c] := by rw [List.map_append]; rfl
  show vc _ _ _ _ _ _ _ _ (retQ _ _ (.tup [.d (.c (.sl 6 ((a ++ [nOp op 1]).map NodeD.c))), pBool true]))
  rw [e]
  ((conv => whnf);repeat' ((first|(with_reducible first|apply a_|apply b_|apply c_)|((with_reducible first|apply d_|apply e_|apply f_|apply g_);focus first|omega|(simp only [q_]<;>omega))|((with_reducible first|apply i_|apply h_);focus first|omega|(simp only [q_]<;>omega))|((with_reducible apply h_);focus first|decide|kernel_rfl)|refine s_ (by decide) ?_|refine t_ (by decide) ?_|(refine Need.by 64 rfl (by simp only [List.length_append, List.length_map, List.length_cons, List.length_nil];omega) ?_)|with_reducible first|apply l_|apply m_|apply n_|apply o_|refine p_ (fun _ => ?_) (fun _ => ?_))<;>(conv => whnf)))
  all_goals first | exact Ret.eq rfl | (exfalso; omega)
end
section
open Go.RowKit K
set_option maxRecDepth 100000
set_option maxHeartbeats 1000000
abbrev okTx (l : List TokenD) : Prop := ∀ t ∈ l, tChk t = 0 ∧ okText t.S
def RdOk (f : FuncId) (k N : Nat) : Prop := ∀ l : List TokenD, l.length ≤ N → okTx l → Pure Tryz.prog f [slV 4 TokenD.c l] (optN (pK k l))
theorem RdOk.le {f : FuncId} {k M N : Nat} (h : RdOk f k N) (hm : M ≤ N) : RdOk f k M := fun l hl ht => h l (by omega) ht
theorem Pure.cut {f : FuncId} {R : PV} (l : List TokenD) (a b : Nat) {lo hi : Int} {x : List TokenD} (ha : lo = (a : Int)) (hb : hi = (b : Int)) (hx : (l.drop a).take (b - a) = x) (h : Pure Tryz.prog f [slV 4 TokenD.c x] R) : Pure Tryz.prog f [.d (.c (.sl 4 (((l.map TokenD.c).drop lo.toNat).take (hi.toNat - lo.toNat))))] R := by
 subst ha hb hx
 rw [Int.toNat_natCast, Int.toNat_natCast, ← List.map_drop, ← List.map_take]
 exact h
theorem pK_len (k : Nat) (l : List TokenD) : ((pK k l).getD []).length ≤ l.length := by
 unfold pK
 split
 ·rename_i ns h
  obtain ⟨j, h1, h2, h3, h4⟩ := fit_lv l.length k l _ _ h
  show ns.length ≤ _
  omega
 ·exact Nat.zero_le _
theorem okTx_take {l : List TokenD} (h : okTx l) (n : Nat) : okTx (l.take n) := fun t ht => h t (List.mem_of_mem_take ht)
theorem okTx_drop {l : List TokenD} (h : okTx l) (n : Nat) : okTx (l.drop n) := fun t ht => h t (List.mem_of_mem_drop ht)
theorem parts_at {l l1 l2 : List TokenD} {o : TokenD} (e : l = l1 ++ o :: l2) : l.take l1.length = l1 ∧ l.drop (l1.length + 1) = l2 ∧ l1.length < l.length ∧ ∀ h : l1.length < l.length, l[l1.length] = o := by
 subst e
 refine ⟨List.take_left' rfl, ?_, by simp, fun h => by simp⟩
 rw [List.drop_append, List.drop_of_length_le (by omega), List.nil_append]
 simp
theorem p_reador {N : Nat} (hN : N ≤ 100000) (h2 : RdOk 49 2 N) (h1 : ∀ M, M < N → RdOk 33 1 M) : RdOk 33 1 N := by
 intro l hl ht
 have pl := p_lastof l (by omega) (fun t h => (ht t h).2) [17] (by decide)
 have hml : (l.map TokenD.c).length = l.length := List.length_map _
 cases hj : lastF [17] l with
 | none =>
  rw [hj] at pl
  have pl : Pure _ _ _ (pInt .i64 (-1)) := pl
  have pa := h2 l hl ht
  rw [(ref_chain (k := 1) (ops := [17]) (by decide) l).1 hj]
  refine pure_of Tryz.func33 (by rfl) rfl (by kernel_rfl) (by rfl) ?_
  ((conv => whnf);repeat' ((first|(with_reducible first|apply a_|apply b_|apply c_)|((with_reducible first|apply d_|apply e_|apply f_|apply g_);focus first|omega|(simp only [q_]<;>omega))|((with_reducible first|apply i_|apply h_);focus first|omega|(simp only [q_]<;>omega))|((with_reducible apply h_);focus first|decide|kernel_rfl)|refine s_ (by decide) ?_|refine t_ (by decide) ?_|refine r_ pl rfl ?_|refine r_ pa rfl ?_|with_reducible first|apply l_|apply m_|apply n_|apply o_|refine p_ (fun _ => ?_) (fun _ => ?_))<;>(conv => whnf)))
  all_goals first | exact Ret.eq rfl | (exfalso; omega)
 | some j =>
  rw [hj] at pl
  have pl : Pure _ _ _ (pInt .i64 (j : Int)) := pl
  obtain ⟨l1, o, l2, el, hlen, op, hop, hm⟩ := last_found hj
  subst hlen
  obtain ⟨e1, e2, e3, e4⟩ := parts_at el
  rw [List.mem_singleton] at hop
  subst hop
  have hr := (ref_chain (k := 1) (ops := [17]) (by decide) l).2 l1 o l2 17 el hj (by simp) hm
  rw [hr]
  have hll : l1.length + 1 + l2.length = l.length := by rw [el, List.length_append, List.length_cons]; omega
  have pa := Pure.cut l 0 l1.length (lo := 0) (hi := (l1.length : Int)) rfl rfl (by rw [List.drop_zero, Nat.sub_zero]; exact e1) (h1 l1.length (by omega) l1 (Nat.le_refl _) (by rw [← e1]; exact okTx_take ht _))
  have pb := Pure.cut l (l1.length + 1) l.length (lo := (l1.length : Int) + 1) (hi := (((l.map TokenD.c).length : Nat) : Int)) (by omega) (by omega) (by rw [e2, List.take_of_length_le (by omega)]) (h2 l2 (by omega) (by rw [← e2]; exact okTx_drop ht _))
  have k1 := pK_len 1 l1
  have k2 := pK_len 2 l2
  have pc := p_both (pK 1 l1) (pK 2 l2) 17 (by omega)
  refine pure_of Tryz.func33 (by rfl) rfl (by kernel_rfl) (by rfl) ?_
  ((conv => whnf);repeat' ((first|(with_reducible first|apply a_|apply b_|apply c_)|((with_reducible first|apply d_|apply e_|apply f_|apply g_);focus first|omega|(simp only [q_]<;>omega))|((with_reducible first|apply i_|apply h_);focus first|omega|(simp only [q_]<;>omega))|((with_reducible apply h_);focus first|decide|kernel_rfl)|refine s_ (by decide) ?_|refine t_ (by decide) ?_|refine r_ pl rfl ?_|refine r_ pa rfl ?_|refine r_ pb rfl ?_|refine r_ pc rfl ?_|with_reducible first|apply l_|apply m_|apply n_|apply o_|refine p_ (fun _ => ?_) (fun _ => ?_))<;>(conv => whnf)))
  all_goals first | exact Ret.eq rfl | (exfalso; omega)
theorem p_readand {N : Nat} (hN : N ≤ 100000) (h2 : RdOk 74 3 N) (h1 : ∀ M, M < N → RdOk 49 2 M) : RdOk 49 2 N := by
 intro l hl ht
 have pl := p_lastof l (by omega) (fun t h => (ht t h).2) [16] (by decide)
 have hml : (l.map TokenD.c).length = l.length := List.length_map _
 cases hj : lastF [16] l with
 | none =>
  rw [hj] at pl
  have pl : Pure _ _ _ (pInt .i64 (-1)) := pl
  have pa := h2 l hl ht
  rw [(ref_chain (k := 2) (ops := [16]) (by decide) l).1 hj]
  refine pure_of Tryz.func49 (by rfl) rfl (by kernel_rfl) (by rfl) ?_
  ((conv => whnf);repeat' ((first|(with_reducible first|apply a_|apply b_|apply c_)|((with_reducible first|apply d_|apply e_|apply f_|apply g_);focus first|omega|(simp only [q_]<;>omega))|((with_reducible first|apply i_|apply h_);focus first|omega|(simp only [q_]<;>omega))|((with_reducible apply h_);focus first|decide|kernel_rfl)|refine s_ (by decide) ?_|refine t_ (by decide) ?_|refine r_ pl rfl ?_|refine r_ pa rfl ?_|with_reducible first|apply l_|apply m_|apply n_|apply o_|refine p_ (fun _ => ?_) (fun _ => ?_))<;>(conv => whnf)))
  all_goals first | exact Ret.eq rfl | (exfalso; omega)
 | some j =>
  rw [hj] at pl
  have pl : Pure _ _ _ (pInt .i64 (j : Int)) := pl
  obtain ⟨l1, o, l2, el, hlen, op, hop, hm⟩ := last_found hj
  subst hlen
  obtain ⟨e1, e2, e3, e4⟩ := parts_at el
  rw [List.mem_singleton] at hop
  subst hop
  have hr := (ref_chain (k := 2) (ops := [16]) (by decide) l).2 l1 o l2 16 el hj (by simp) hm
  rw [hr]
  have hll : l1.length + 1 + l2.length = l.length := by rw [el, List.length_append, List.length_cons]; omega
  have pa := Pure.cut l 0 l1.length (lo := 0) (hi := (l1.length : Int)) rfl rfl (by rw [List.drop_zero, Nat.sub_zero]; exact e1) (h1 l1.length (by omega) l1 (Nat.le_refl _) (by rw [← e1]; exact okTx_take ht _))
  have pb := Pure.cut l (l1.length + 1) l.length (lo := (l1.length : Int) + 1) (hi := (((l.map TokenD.c).length : Nat) : Int)) (by omega) (by omega) (by rw [e2, List.take_of_length_le (by omega)]) (h2 l2 (by omega) (by rw [← e2]; exact okTx_drop ht _))
  have k1 := pK_len 2 l1
  have k2 := pK_len 3 l2
  have pc := p_both (pK 2 l1) (pK 3 l2) 16 (by omega)
  refine pure_of Tryz.func49 (by rfl) rfl (by kernel_rfl) (by rfl) ?_
  ((conv => whnf);repeat' ((first|(with_reducible first|apply a_|apply b_|apply c_)|((with_reducible first|apply d_|apply e_|apply f_|apply g_);focus first|omega|(simp only [q_]<;>omega))|((with_reducible first|apply i_|apply h_);focus first|omega|(simp only [q_]<;>omega))|((with_reducible apply h_);focus first|decide|kernel_rfl)|refine s_ (by decide) ?_|refine t_ (by decide) ?_|refine r_ pl rfl ?_|refine r_ pa rfl ?_|refine r_ pb rfl ?_|refine r_ pc rfl ?_|with_reducible first|apply l_|apply m_|apply n_|apply o_|refine p_ (fun _ => ?_) (fun _ => ?_))<;>(conv => whnf)))
  all_goals first | exact Ret.eq rfl | (exfalso; omega)
theorem p_readadd {N : Nat} (hN : N ≤ 100000) (h2 : RdOk 101 6 N) (h1 : ∀ M, M < N → RdOk 98 5 M) : RdOk 98 5 N := by
 intro l hl ht
 have pl := p_lastof l (by omega) (fun t h => (ht t h).2) [5, 6] (by decide)
 have hml : (l.map TokenD.c).length = l.length := List.length_map _
 cases hj : lastF [5, 6] l with
 | none =>
  rw [hj] at pl
  have pl : Pure _ _ _ (pInt .i64 (-1)) := pl
  have pa := h2 l hl ht
  rw [(ref_chain (k := 5) (ops := [5, 6]) (by decide) l).1 hj]
  refine pure_of Tryz.func98 (by rfl) rfl (by kernel_rfl) (by rfl) ?_
  ((conv => whnf);repeat' ((first|(with_reducible first|apply a_|apply b_|apply c_)|((with_reducible first|apply d_|apply e_|apply f_|apply g_);focus first|omega|(simp only [q_]<;>omega))|((with_reducible first|apply i_|apply h_);focus first|omega|(simp only [q_]<;>omega))|((with_reducible apply h_);focus first|decide|kernel_rfl)|refine s_ (by decide) ?_|refine t_ (by decide) ?_|refine r_ pl rfl ?_|refine r_ pa rfl ?_|with_reducible first|apply l_|apply m_|apply n_|apply o_|refine p_ (fun _ => ?_) (fun _ => ?_))<;>(conv => whnf)))
  all_goals first | exact Ret.eq rfl | (exfalso; omega)
 | some j =>
  rw [hj] at pl
  have pl : Pure _ _ _ (pInt .i64 (j : Int)) := pl
  obtain ⟨l1, o, l2, el, hlen, op, hop, hm⟩ := last_found hj
  subst hlen
  obtain ⟨e1, e2, e3, e4⟩ := parts_at el
  have e4 := e4 e3
  have hr := (ref_chain (k := 5) (ops := [5, 6]) (by decide) l).2 l1 o l2 op el hj hop hm
  rw [hr]
  have hll : l1.length + 1 + l2.length = l.length := by rw [el, List.length_append, List.length_cons]; omega
  have pa := Pure.cut l 0 l1.length (lo := 0) (hi := (l1.length : Int)) rfl rfl (by rw [List.drop_zero, Nat.sub_zero]; exact e1) (h1 l1.length (by omega) l1 (Nat.le_refl _) (by rw [← e1]; exact okTx_take ht _))
  have pb := Pure.cut l (l1.length + 1) l.length (lo := (l1.length : Int) + 1) (hi := (((l.map TokenD.c).length : Nat) : Int)) (by omega) (by omega) (by rw [e2, List.take_of_length_le (by omega)]) (h2 l2 (by omega) (by rw [← e2]; exact okTx_drop ht _))
  have k1 := pK_len 5 l1
  have k2 := pK_len 6 l2
  have pm : Pure _ _ [tV o, pStr ⟨#[45]⟩] _ := p_ismark o sMi
  simp only [List.mem_cons, List.not_mem_nil, or_false] at hop
  rcases hop with rfl | rfl
  ·have pc := p_both (pK 5 l1) (pK 6 l2) 5 (by omega)
   rw [isM_ne hm (by decide)] at pm
   refine pure_of Tryz.func98 (by rfl) rfl (by kernel_rfl) (by rfl) ?_
   ((conv => whnf);repeat' ((first|(with_reducible first|apply a_|apply b_|apply c_)|((with_reducible first|apply d_|apply e_|apply f_|apply g_);focus first|omega|(simp only [q_]<;>omega))|((with_reducible first|apply i_|apply h_);focus first|omega|(simp only [q_]<;>omega))|((with_reducible apply h_);focus first|decide|kernel_rfl)|refine s_ (by decide) ?_|refine t_ (by decide) ?_|refine r_ pl rfl ?_|refine r_ pa rfl ?_|refine r_ pb rfl ?_|refine r_ pc rfl ?_|refine r_ pm rfl ?_|(refine Idx.mapE (f := TokenD.c) l1.length rfl e3 e4 ?_)|with_reducible first|apply l_|apply m_|apply n_|apply o_|refine p_ (fun _ => ?_) (fun _ => ?_))<;>(conv => whnf)))
   all_goals first | exact Ret.eq rfl | (exfalso; omega)
  ·have pc := p_both (pK 5 l1) (pK 6 l2) 6 (by omega)
   rw [show isM o sMi = true from hm] at pm
   refine pure_of Tryz.func98 (by rfl) rfl (by kernel_rfl) (by rfl) ?_
   ((conv => whnf);repeat' ((first|(with_reducible first|apply a_|apply b_|apply c_)|((with_reducible first|apply d_|apply e_|apply f_|apply g_);focus first|omega|(simp only [q_]<;>omega))|((with_reducible first|apply i_|apply h_);focus first|omega|(simp only [q_]<;>omega))|((with_reducible apply h_);focus first|decide|kernel_rfl)|refine s_ (by decide) ?_|refine t_ (by decide) ?_|refine r_ pl rfl ?_|refine r_ pa rfl ?_|refine r_ pb rfl ?_|refine r_ pc rfl ?_|refine r_ pm rfl ?_|(refine Idx.mapE (f := TokenD.c) l1.length rfl e3 e4 ?_)|with_reducible first|apply l_|apply m_|apply n_|apply o_|refine p_ (fun _ => ?_) (fun _ => ?_))<;>(conv => whnf)))
   all_goals first | exact Ret.eq rfl | (exfalso; omega)
theorem p_readmul {N : Nat} (hN : N ≤ 100000) (h2 : RdOk 103 7 N) (h1 : ∀ M, M < N → RdOk 101 6 M) : RdOk 101 6 N := by
 intro l hl ht
 have pl := p_lastof l (by omega) (fun t h => (ht t h).2) [7, 8, 9] (by decide)
 have hml : (l.map TokenD.c).length = l.length := List.length_map _
 cases hj : lastF [7, 8, 9] l with
 | none =>
  rw [hj] at pl
  have pl : Pure _ _ _ (pInt .i64 (-1)) := pl
  have pa := h2 l hl ht
  rw [(ref_chain (k := 6) (ops := [7, 8, 9]) (by decide) l).1 hj]
  refine pure_of Tryz.func101 (by rfl) rfl (by kernel_rfl) (by rfl) ?_
  ((conv => whnf);repeat' ((first|(with_reducible first|apply a_|apply b_|apply c_)|((with_reducible first|apply d_|apply e_|apply f_|apply g_);focus first|omega|(simp only [q_]<;>omega))|((with_reducible first|apply i_|apply h_);focus first|omega|(simp only [q_]<;>omega))|((with_reducible apply h_);focus first|decide|kernel_rfl)|refine s_ (by decide) ?_|refine t_ (by decide) ?_|refine r_ pl rfl ?_|refine r_ pa rfl ?_|with_reducible first|apply l_|apply m_|apply n_|apply o_|refine p_ (fun _ => ?_) (fun _ => ?_))<;>(conv => whnf)))
  all_goals first | exact Ret.eq rfl | (exfalso; omega)
 | some j =>
  rw [hj] at pl
  have pl : Pure _ _ _ (pInt .i64 (j : Int)) := pl
  obtain ⟨l1, o, l2, el, hlen, op, hop, hm⟩ := last_found hj
  subst hlen
  obtain ⟨e1, e2, e3, e4⟩ := parts_at el
  have e4 := e4 e3
  have hr := (ref_chain (k := 6) (ops := [7, 8, 9]) (by decide) l).2 l1 o l2 op el hj hop hm
  rw [hr]
  have hll : l1.length + 1 + l2.length = l.length := by rw [el, List.length_append, List.length_cons]; omega
  have pa := Pure.cut l 0 l1.length (lo := 0) (hi := (l1.length : Int)) rfl rfl (by rw [List.drop_zero, Nat.sub_zero]; exact e1) (h1 l1.length (by omega) l1 (Nat.le_refl _) (by rw [← e1]; exact okTx_take ht _))
  have pb := Pure.cut l (l1.length + 1) l.length (lo := (l1.length : Int) + 1) (hi := (((l.map TokenD.c).length : Nat) : Int)) (by omega) (by omega) (by rw [e2, List.take_of_length_le (by omega)]) (h2 l2 (by omega) (by rw [← e2]; exact okTx_drop ht _))
  have k1 := pK_len 6 l1
  have k2 := pK_len 7 l2
  have pc := p_both (pK 6 l1) (pK 7 l2) op (by omega)
  have pm (k : Int) := p_ismark o (sgn k)
  have hop2 : op = 7 ∨ op = 8 ∨ op = 9 := by simpa using hop
  refine pure_of Tryz.func101 (by rfl) rfl (by kernel_rfl) (by rfl) ?_
  ((conv => whnf);repeat' ((first|(with_reducible first|apply a_|apply b_|apply c_)|((with_reducible first|apply d_|apply e_|apply f_|apply g_);focus first|omega|(simp only [q_]<;>omega))|((with_reducible first|apply i_|apply h_);focus first|omega|(simp only [q_]<;>omega))|((with_reducible apply h_);focus first|decide|kernel_rfl)|refine s_ (by decide) ?_|refine t_ (by decide) ?_|refine r_ pl rfl ?_|refine r_ pa rfl ?_|refine r_ pb rfl ?_|with_reducible first|apply l_|apply m_|apply n_|apply o_|refine p_ (fun _ => ?_) (fun _ => ?_))<;>(conv => whnf)))
  refine LoopC.mk Nat (fun k => [(0, slV 4 TokenD.c l), (4, pInt .i64 (l1.length : Int)), (5, slV 6 NodeD.c ((pK 6 l1).getD [])), (6, pBool (pK 6 l1).isSome), (7, slV 6 NodeD.c ((pK 7 l2).getD [])), (8, pBool (pK 7 l2).isSome), (9, pInt .i64 ((7 + k : Nat) : Int))]) (fun _ => []) [] (fun k => ((7 + k : Nat) : Int) ≤ op) (fun k => 10 - k) 0 (by omega) ?start ?round
  case start => exact ⟨[], rfl, rfl, ⟨.inl rfl, .inl rfl, .inl rfl, .inl rfl, .inl rfl, .inl rfl, .inl rfl, trivial⟩, trivial⟩
  case round =>
   intro k hk
   have hk : ((7 + k : Nat) : Int) ≤ op := hk
   by_cases g : ((7 + k : Nat) : Int) = op
   ·have pmk := pm op
    rw [hm] at pmk
    have hkk : k = 0 ∨ k = 1 ∨ k = 2 := by omega
    rcases hkk with rfl | rfl | rfl
    all_goals
     have g := g
     subst g
     have pmk : Pure _ _ [tV o, pStr ⟨[_].toArray⟩] _ := pmk
     ((conv => whnf);repeat' ((first|(with_reducible first|apply a_|apply b_|apply c_)|((with_reducible first|apply d_|apply e_|apply f_|apply g_);focus first|omega|(simp only [q_]<;>omega))|((with_reducible first|apply i_|apply h_);focus first|omega|(simp only [q_]<;>omega))|((with_reducible apply h_);focus first|decide|kernel_rfl)|refine s_ (by decide) ?_|refine t_ (by decide) ?_|(refine Idx.mapE (f := TokenD.c) l1.length rfl e3 e4 ?_)|(refine GLd.mk _ rfl ?_)|refine r_ pmk rfl ?_|refine r_ pc rfl ?_|with_reducible first|apply l_|apply m_|apply n_|apply o_|refine p_ (fun _ => ?_) (fun _ => ?_))<;>(conv => whnf)))
     all_goals first | exact Ret.eq rfl | (exfalso; omega)
   ·have hkk : k = 0 ∨ k = 1 := by omega
    rcases hkk with rfl | rfl
    ·have pmk := pm 7
     rw [isM_ne hm (by rcases hop2 with rfl | rfl | rfl <;> first | decide | (exfalso; exact g rfl))] at pmk
     have pmk : Pure _ _ [tV o, pStr ⟨[42].toArray⟩] _ := pmk
     ((conv => whnf);repeat' ((first|(with_reducible first|apply a_|apply b_|apply c_)|((with_reducible first|apply d_|apply e_|apply f_|apply g_);focus first|omega|(simp only [q_]<;>omega))|((with_reducible first|apply i_|apply h_);focus first|omega|(simp only [q_]<;>omega))|((with_reducible apply h_);focus first|decide|kernel_rfl)|refine s_ (by decide) ?_|refine t_ (by decide) ?_|(refine Idx.mapE (f := TokenD.c) l1.length rfl e3 e4 ?_)|(refine GLd.mk _ rfl ?_)|refine r_ pmk rfl ?_|with_reducible first|apply l_|apply m_|apply n_|apply o_|refine p_ (fun _ => ?_) (fun _ => ?_))<;>(conv => whnf)))
     all_goals first
      | exact ⟨1, by show ((7 + 1 : Nat) : Int) ≤ op; omega, by decide, [], rfl, rfl, ⟨.inl rfl, .inl rfl, .inl rfl, .inl rfl, .inl rfl, .inl rfl, .inl rfl, trivial⟩, trivial⟩
      | (exfalso; omega)
    ·have pmk := pm 8
     rw [isM_ne hm (by rcases hop2 with rfl | rfl | rfl <;> first | decide | (exfalso; exact g rfl))] at pmk
     have pmk : Pure _ _ [tV o, pStr ⟨[47].toArray⟩] _ := pmk
     ((conv => whnf);repeat' ((first|(with_reducible first|apply a_|apply b_|apply c_)|((with_reducible first|apply d_|apply e_|apply f_|apply g_);focus first|omega|(simp only [q_]<;>omega))|((with_reducible first|apply i_|apply h_);focus first|omega|(simp only [q_]<;>omega))|((with_reducible apply h_);focus first|decide|kernel_rfl)|refine s_ (by decide) ?_|refine t_ (by decide) ?_|(refine Idx.mapE (f := TokenD.c) l1.length rfl e3 e4 ?_)|(refine GLd.mk _ rfl ?_)|refine r_ pmk rfl ?_|with_reducible first|apply l_|apply m_|apply n_|apply o_|refine p_ (fun _ => ?_) (fun _ => ?_))<;>(conv => whnf)))
     all_goals first
      | exact ⟨2, by show ((7 + 2 : Nat) : Int) ≤ op; omega, by decide, [], rfl, rfl, ⟨.inl rfl, .inl rfl, .inl rfl, .inl rfl, .inl rfl, .inl rfl, .inl rfl, trivial⟩, trivial⟩
      | (exfalso; omega)
theorem aboveF_eq (x : Option (List NodeD)) (op : Int) : (if x.isSome = true then some (x.getD [] ++ [nOp op 1]) else none) = aboveF x op := by
 cases x <;> rfl
theorem isH_at {s : List UInt8} {l : List TokenD} (h : 0 < l.length) : isH s l = isM l[0] s := by
 cases l with
 | nil => cases h
 | cons t r => rfl
theorem p_readnot {N : Nat} (hN : N ≤ 100000) (h2 : RdOk 90 4 N) (h1 : ∀ M, M < N → RdOk 74 3 M) : RdOk 74 3 N := by
 intro l hl ht
 have hml : (l.map TokenD.c).length = l.length := List.length_map _
 rw [ref_not]
 by_cases h0 : 0 < l.length
 ·have pm : Pure _ _ [tV l[0], pStr ⟨#[110, 111, 116]⟩] _ := p_ismark l[0] wNot
  rw [isH_at h0]
  cases hm : isM l[0] wNot with
  | true =>
   rw [hm] at pm
   rw [if_pos rfl]
   have pb := Pure.cut l 1 l.length (lo := 1) (hi := (((l.map TokenD.c).length : Nat) : Int)) rfl (by omega) (by rw [List.take_of_length_le (by rw [List.length_drop]; omega)]) (h1 (l.length - 1) (by omega) (l.drop 1) (by rw [List.length_drop]; omega) (okTx_drop ht _))
   have k1 := pK_len 3 (l.drop 1)
   rw [List.length_drop] at k1
   have pc := p_above ((pK 3 (l.drop 1)).getD []) (pK 3 (l.drop 1)).isSome 4 (by omega)
   rw [aboveF_eq] at pc
   refine pure_of Tryz.func74 (by rfl) rfl (by kernel_rfl) (by rfl) ?_
   ((conv => whnf);repeat' ((first|(with_reducible first|apply a_|apply b_|apply c_)|((with_reducible first|apply d_|apply e_|apply f_|apply g_);focus first|omega|(simp only [q_]<;>omega))|((with_reducible first|apply i_|apply h_);focus first|omega|(simp only [q_]<;>omega))|((with_reducible apply h_);focus first|decide|kernel_rfl)|refine s_ (by decide) ?_|refine t_ (by decide) ?_|(refine Idx.mapI (f := TokenD.c) 0 rfl h0 ?_)|refine r_ pm rfl ?_|refine r_ pb rfl ?_|refine r_ pc rfl ?_|with_reducible first|apply l_|apply m_|apply n_|apply o_|refine p_ (fun _ => ?_) (fun _ => ?_))<;>(conv => whnf)))
   all_goals first | exact Ret.eq rfl | (exfalso; omega)
  | false =>
   rw [hm] at pm
   rw [if_neg (by decide)]
   have pa := h2 l hl ht
   refine pure_of Tryz.func74 (by rfl) rfl (by kernel_rfl) (by rfl) ?_
   ((conv => whnf);repeat' ((first|(with_reducible first|apply a_|apply b_|apply c_)|((with_reducible first|apply d_|apply e_|apply f_|apply g_);focus first|omega|(simp only [q_]<;>omega))|((with_reducible first|apply i_|apply h_);focus first|omega|(simp only [q_]<;>omega))|((with_reducible apply h_);focus first|decide|kernel_rfl)|refine s_ (by decide) ?_|refine t_ (by decide) ?_|(refine Idx.mapI (f := TokenD.c) 0 rfl h0 ?_)|refine r_ pm rfl ?_|refine r_ pa rfl ?_|with_reducible first|apply l_|apply m_|apply n_|apply o_|refine p_ (fun _ => ?_) (fun _ => ?_))<;>(conv => whnf)))
   all_goals first | exact Ret.eq rfl | (exfalso; omega)
 ·have e : l = [] := List.eq_nil_of_length_eq_zero (by omega)
  have hh : isH wNot l = false := by rw [e]; rfl
  rw [hh, if_neg (by decide)]
  have pa := h2 l hl ht
  refine pure_of Tryz.func74 (by rfl) rfl (by kernel_rfl) (by rfl) ?_
  ((conv => whnf);repeat' ((first|(with_reducible first|apply a_|apply b_|apply c_)|((with_reducible first|apply d_|apply e_|apply f_|apply g_);focus first|omega|(simp only [q_]<;>omega))|((with_reducible first|apply i_|apply h_);focus first|omega|(simp only [q_]<;>omega))|((with_reducible apply h_);focus first|decide|kernel_rfl)|refine s_ (by decide) ?_|refine t_ (by decide) ?_|refine r_ pa rfl ?_|with_reducible first|apply l_|apply m_|apply n_|apply o_|refine p_ (fun _ => ?_) (fun _ => ?_))<;>(conv => whnf)))
  all_goals first | exact Ret.eq rfl | (exfalso; omega)
theorem p_readneg {N : Nat} (hN : N ≤ 100000) (h2 : RdOk 105 8 N) (h1 : ∀ M, M < N → RdOk 103 7 M) : RdOk 103 7 N := by
 intro l hl ht
 have hml : (l.map TokenD.c).length = l.length := List.length_map _
 rw [ref_neg]
 by_cases h0 : 0 < l.length
 ·have pm : Pure _ _ [tV l[0], pStr ⟨#[45]⟩] _ := p_ismark l[0] sMi
  rw [isH_at h0]
  cases hm : isM l[0] sMi with
  | true =>
   rw [hm] at pm
   rw [if_pos rfl]
   have pb := Pure.cut l 1 l.length (lo := 1) (hi := (((l.map TokenD.c).length : Nat) : Int)) rfl (by omega) (by rw [List.take_of_length_le (by rw [List.length_drop]; omega)]) (h1 (l.length - 1) (by omega) (l.drop 1) (by rw [List.length_drop]; omega) (okTx_drop ht _))
   have k1 := pK_len 7 (l.drop 1)
   rw [List.length_drop] at k1
   have pc := p_above ((pK 7 (l.drop 1)).getD []) (pK 7 (l.drop 1)).isSome 3 (by omega)
   rw [aboveF_eq] at pc
   refine pure_of Tryz.func103 (by rfl) rfl (by kernel_rfl) (by rfl) ?_
   ((conv => whnf);repeat' ((first|(with_reducible first|apply a_|apply b_|apply c_)|((with_reducible first|apply d_|apply e_|apply f_|apply g_);focus first|omega|(simp only [q_]<;>omega))|((with_reducible first|apply i_|apply h_);focus first|omega|(simp only [q_]<;>omega))|((with_reducible apply h_);focus first|decide|kernel_rfl)|refine s_ (by decide) ?_|refine t_ (by decide) ?_|(refine Idx.mapI (f := TokenD.c) 0 rfl h0 ?_)|refine r_ pm rfl ?_|refine r_ pb rfl ?_|refine r_ pc rfl ?_|with_reducible first|apply l_|apply m_|apply n_|apply o_|refine p_ (fun _ => ?_) (fun _ => ?_))<;>(conv => whnf)))
   all_goals first | exact Ret.eq rfl | (exfalso; omega)
  | false =>
   rw [hm] at pm
   rw [if_neg (by decide)]
   have pa := h2 l hl ht
   refine pure_of Tryz.func103 (by rfl) rfl (by kernel_rfl) (by rfl) ?_
   ((conv => whnf);repeat' ((first|(with_reducible first|apply a_|apply b_|apply c_)|((with_reducible first|apply d_|apply e_|apply f_|apply g_);focus first|omega|(simp only [q_]<;>omega))|((with_reducible first|apply i_|apply h_);focus first|omega|(simp only [q_]<;>omega))|((with_reducible apply h_);focus first|decide|kernel_rfl)|refine s_ (by decide) ?_|refine t_ (by decide) ?_|(refine Idx.mapI (f := TokenD.c) 0 rfl h0 ?_)|refine r_ pm rfl ?_|refine r_ pa rfl ?_|with_reducible first|apply l_|apply m_|apply n_|apply o_|refine p_ (fun _ => ?_) (fun _ => ?_))<;>(conv => whnf)))
   all_goals first | exact Ret.eq rfl | (exfalso; omega)
 ·have e : l = [] := List.eq_nil_of_length_eq_zero (by omega)
  have hh : isH sMi l = false := by rw [e]; rfl
  rw [hh, if_neg (by decide)]
  have pa := h2 l hl ht
  refine pure_of Tryz.func103 (by rfl) rfl (by kernel_rfl) (by rfl) ?_
  ((conv => whnf);repeat' ((first|(with_reducible first|apply a_|apply b_|apply c_)|((with_reducible first|apply d_|apply e_|apply f_|apply g_);focus first|omega|(simp only [q_]<;>omega))|((with_reducible first|apply i_|apply h_);focus first|omega|(simp only [q_]<;>omega))|((with_reducible apply h_);focus first|decide|kernel_rfl)|refine s_ (by decide) ?_|refine t_ (by decide) ?_|refine r_ pa rfl ?_|with_reducible first|apply l_|apply m_|apply n_|apply o_|refine p_ (fun _ => ?_) (fun _ => ?_))<;>(conv => whnf)))
  all_goals first | exact Ret.eq rfl | (exfalso; omega)
end
section
open Go.RowKit K
set_option maxRecDepth 100000
set_option maxHeartbeats 1000000
theorem pK8_nil : pK 8 [] = none := ref_none (fun o m c h => by cases h) (fun x h => by cases h)
theorem pK8_many {l : List TokenD} (h2 : 2 ≤ l.length) (h : ¬ (isM (l[0]'(by omega)) sLp = true ∧ isM (l[l.length - 1]'(by omega)) sRp = true)) : pK 8 l = none := by
 refine ref_none (fun o m c e a b => h ?_) (fun x e => by rw [e] at h2; simp at h2)
 subst e
 refine ⟨a, ?_⟩
 have : (o :: (m ++ [c]))[(o :: (m ++ [c])).length - 1] = c := by
  simp
 rw [this]; exact b
theorem pK8_br {l : List TokenD} (h2 : 2 ≤ l.length) (a : isM (l[0]'(by omega)) sLp = true) (b : isM (l[l.length - 1]'(by omega)) sRp = true) : pK 8 l = pK 1 ((l.drop 1).take (l.length - 2)) := by
 have e : l = l[0] :: ((l.drop 1).take (l.length - 2) ++ [l[l.length - 1]]) := by
  have e1 : l = l[0] :: l.drop 1 := by rw [List.getElem_cons_drop]; rfl
  have e2 : l.drop 1 = (l.drop 1).take (l.length - 2) ++ [l[l.length - 1]] := by
   have h3 : l.length - 2 < (l.drop 1).length := by rw [List.length_drop]; omega
   have e5 : (l.drop 1)[l.length - 2] = l[l.length - 1] := by
    apply Option.some.inj
    rw [← List.getElem?_eq_getElem, ← List.getElem?_eq_getElem, List.getElem?_drop]
    congr 1; omega
   have e3 := take_snoc h3
   rw [List.take_of_length_le (by rw [List.length_drop]; omega), e5] at e3
   exact e3
  rw [← e2]; exact e1
 conv => lhs; rw [e]
 exact ref_par a b
theorem lit_cases {x : TokenD} (hc : tChk x = 0) (hL : isM x sLp = false) :
  (endB x = true ∧ isM x sRp = false ∧ ((isM x wNull = true ∧ litF x = some ⟨1, 0, noV, []⟩) ∨ (isM x wNull = false ∧ x.Kind = 1 ∧ litF x = some ⟨2, 0, noV, x.S⟩) ∨ (isM x wNull = false ∧ x.Kind ≠ 1 ∧ 2 ≤ x.Kind ∧ x.Kind ≤ 4 ∧ litF x = some ⟨1, 0, ⟨x.Kind - 1, x.N, x.S⟩, []⟩))) ∨ (litF x = none ∧ (endB x = false ∨ (endB x = true ∧ isM x sRp = true))) := by
 obtain ⟨hk, hf, _, _⟩ := tChk_ok hc
 by_cases h24 : 2 ≤ x.Kind ∧ x.Kind ≤ 4
 ·have hm : ∀ s, isM x s = false := fun s => by
   rw [Bool.eq_false_iff]; intro y
   have := (isM_iff.1 y).1
   omega
  refine .inl ⟨by unfold endB; rw [decide_eq_true h24]; rfl, hm _, .inr (.inr ⟨hm _, by omega, h24.1, h24.2, ?_⟩)⟩
  unfold litF
  have : x.Kind = 2 ∨ x.Kind = 3 ∨ x.Kind = 4 := by omega
  rcases this with e | e | e
  ·have hs : x.S = [] := Decidable.of_not_not fun y => hf (.inl ⟨e, y⟩)
   rw [if_pos e, e, hs]; rfl
  ·have hn : x.N = 0 := Decidable.of_not_not fun y => hf (.inr (.inl ⟨by omega, y⟩))
   rw [if_neg (by omega), if_pos e, e, hn]; rfl
  ·have hn : x.N = 0 := Decidable.of_not_not fun y => hf (.inr (.inl ⟨by omega, y⟩))
   rw [if_neg (by omega), if_neg (by omega), if_pos e, e, hn]; rfl
 ·have e24 : decide (2 ≤ x.Kind ∧ x.Kind ≤ 4) = false := decide_eq_false h24
  have hl : litF x = if isM x wNull then some ⟨1, 0, noV, []⟩ else if x.Kind = 1 ∧ nameB x.S = true then some ⟨2, 0, noV, x.S⟩ else none := by
   unfold litF
   rw [if_neg (by omega), if_neg (by omega), if_neg (by omega)]
  have he : endB x = (isM x sRp || (isM x wNull || (decide (x.Kind = 1) && nameB x.S))) := by unfold endB; rw [e24]; rfl
  cases hR : isM x sRp with
  | true =>
   have h1 : isM x wNull = false := isM_ne hR (by decide)
   have h2 : ¬ (x.Kind = 1 ∧ nameB x.S = true) := fun y => by
    rw [(isM_iff.1 hR).2] at y
    exact absurd y.2 (by decide)
   refine .inr ⟨by rw [hl, h1, if_neg (by decide), if_neg h2], .inr ⟨by rw [he, hR]; rfl, rfl⟩⟩
  | false =>
   rw [hR, Bool.false_or] at he
   cases hN : isM x wNull with
   | true =>
    rw [hN, Bool.true_or] at he
    exact .inl ⟨he, rfl, .inl ⟨rfl, by rw [hl, hN, if_pos rfl]⟩⟩
   | false =>
    rw [hN, Bool.false_or] at he
    rw [hN, if_neg (by decide)] at hl
    by_cases hB : x.Kind = 1 ∧ nameB x.S = true
    ·rw [if_pos hB] at hl
     exact .inl ⟨by rw [he, decide_eq_true hB.1, hB.2]; rfl, rfl, .inr (.inl ⟨rfl, hB.1, hl⟩)⟩
    ·rw [if_neg hB] at hl
     refine .inr ⟨hl, .inl ?_⟩
     rw [he, Bool.eq_false_iff]
     intro y
     simp only [Bool.and_eq_true, decide_eq_true_eq] at y
     exact hB y
theorem p_readone {N : Nat} (hN : N ≤ 100000) (h1 : ∀ M, M < N → RdOk 33 1 M) : RdOk 105 8 N := by
 intro l hl ht
 have hml : (l.map TokenD.c).length = l.length := List.length_map _
 by_cases h2 : 2 ≤ l.length
 ·have q0 : 0 < l.length := by omega
  have q1 : l.length - 1 < l.length := by omega
  have c1 : (((l.map TokenD.c).length : Nat) : Int) - 1 = ((l.length - 1 : Nat) : Int) := by omega
  have p1 : Pure _ _ [tV l[0], pStr ⟨#[40]⟩] _ := p_ismark l[0] sLp
  have p2 : Pure _ _ [tV l[l.length - 1], pStr ⟨#[41]⟩] _ := p_ismark l[l.length - 1] sRp
  by_cases hb : isM l[0] sLp = true ∧ isM l[l.length - 1] sRp = true
  ·rw [hb.1] at p1
   rw [hb.2] at p2
   rw [pK8_br h2 hb.1 hb.2]
   have pa := Pure.cut l 1 (l.length - 1) (lo := 1) (hi := (((l.map TokenD.c).length : Nat) : Int) - 1) rfl c1 (by rw [Nat.sub_sub]) (h1 (l.length - 2) (by omega) ((l.drop 1).take (l.length - 2)) (by rw [List.length_take]; omega) (okTx_take (okTx_drop ht _) _))
   refine pure_of Tryz.func105 (by rfl) rfl (by kernel_rfl) (by rfl) ?_
   ((conv => whnf);repeat' ((first|(with_reducible first|apply a_|apply b_|apply c_)|((with_reducible first|apply d_|apply e_|apply f_|apply g_);focus first|omega|(simp only [q_]<;>omega))|((with_reducible first|apply i_|apply h_);focus first|omega|(simp only [q_]<;>omega))|((with_reducible apply h_);focus first|decide|kernel_rfl)|refine s_ (by decide) ?_|refine t_ (by decide) ?_|(first|refine Idx.mapI (f := TokenD.c) 0 rfl q0 ?_|refine Idx.mapI (f := TokenD.c) (l.length - 1) c1 q1 ?_)|refine r_ p1 rfl ?_|refine r_ p2 rfl ?_|refine r_ pa rfl ?_|with_reducible first|apply l_|apply m_|apply n_|apply o_|refine p_ (fun _ => ?_) (fun _ => ?_))<;>(conv => whnf)))
   all_goals first | exact Ret.eq rfl | (exfalso; omega)
  ·rw [pK8_many h2 hb]
   show Pure _ _ _ (.tup [slV 6 NodeD.c [], pBool false])
   refine pure_of Tryz.func105 (by rfl) rfl (by kernel_rfl) (by rfl) ?_
   cases hm : isM l[0] sLp with
   | true =>
    have hr : isM l[l.length - 1] sRp = false := by
     rw [Bool.eq_false_iff]; exact fun y => hb ⟨hm, y⟩
    rw [hm] at p1
    rw [hr] at p2
    ((conv => whnf);repeat' ((first|(with_reducible first|apply a_|apply b_|apply c_)|((with_reducible first|apply d_|apply e_|apply f_|apply g_);focus first|omega|(simp only [q_]<;>omega))|((with_reducible first|apply i_|apply h_);focus first|omega|(simp only [q_]<;>omega))|((with_reducible apply h_);focus first|decide|kernel_rfl)|refine s_ (by decide) ?_|refine t_ (by decide) ?_|(first|refine Idx.mapI (f := TokenD.c) 0 rfl q0 ?_|refine Idx.mapI (f := TokenD.c) (l.length - 1) c1 q1 ?_)|refine r_ p1 rfl ?_|refine r_ p2 rfl ?_|with_reducible first|apply l_|apply m_|apply n_|apply o_|refine p_ (fun _ => ?_) (fun _ => ?_))<;>(conv => whnf)))
    all_goals first | exact Ret.le ⟨.inr ⟨⟨6, rfl⟩, .inl rfl⟩, .inl rfl, rfl⟩ | (exfalso; omega)
   | false =>
    rw [hm] at p1
    ((conv => whnf);repeat' ((first|(with_reducible first|apply a_|apply b_|apply c_)|((with_reducible first|apply d_|apply e_|apply f_|apply g_);focus first|omega|(simp only [q_]<;>omega))|((with_reducible first|apply i_|apply h_);focus first|omega|(simp only [q_]<;>omega))|((with_reducible apply h_);focus first|decide|kernel_rfl)|refine s_ (by decide) ?_|refine t_ (by decide) ?_|(first|refine Idx.mapI (f := TokenD.c) 0 rfl q0 ?_|refine Idx.mapI (f := TokenD.c) (l.length - 1) c1 q1 ?_)|refine r_ p1 rfl ?_|with_reducible first|apply l_|apply m_|apply n_|apply o_|refine p_ (fun _ => ?_) (fun _ => ?_))<;>(conv => whnf)))
    all_goals first | exact Ret.le ⟨.inr ⟨⟨6, rfl⟩, .inl rfl⟩, .inl rfl, rfl⟩ | (exfalso; omega)
 ·by_cases h0 : l.length = 0
  ·have e : l = [] := List.eq_nil_of_length_eq_zero h0
   subst e
   rw [pK8_nil]
   show Pure _ _ _ (.tup [slV 6 NodeD.c [], pBool false])
   refine pure_of Tryz.func105 (by rfl) rfl (by kernel_rfl) (by rfl) ?_
   ((conv => whnf);repeat' ((first|(with_reducible first|apply a_|apply b_|apply c_)|((with_reducible first|apply d_|apply e_|apply f_|apply g_);focus first|omega|(simp only [q_]<;>omega))|((with_reducible first|apply i_|apply h_);focus first|omega|(simp only [q_]<;>omega))|((with_reducible apply h_);focus first|decide|kernel_rfl)|refine s_ (by decide) ?_|refine t_ (by decide) ?_|with_reducible first|apply l_|apply m_|apply n_|apply o_|refine p_ (fun _ => ?_) (fun _ => ?_))<;>(conv => whnf)))
   all_goals first | exact Ret.le ⟨.inr ⟨⟨6, rfl⟩, .inl rfl⟩, .inl rfl, rfl⟩ | (exfalso; omega)
  ·obtain ⟨x, rfl⟩ := List.length_eq_one_iff.1 (show l.length = 1 by omega)
   obtain ⟨hc, hx⟩ := ht x List.mem_cons_self
   have pe := p_ends x hx
   have p2 : Pure _ _ [tV x, pStr ⟨#[41]⟩] _ := p_ismark x sRp
   have p3 : Pure _ _ [tV x, pStr ⟨#[110, 117, 108, 108]⟩] _ := p_ismark x wNull
   cases hL : isM x sLp with
   | true =>
    have hn : pK 8 [x] = none := ref_none (fun o m c e => by simp at e) (fun y e hy => by cases e; rw [hL] at hy; cases hy)
    have he : endB x = false := mark_end hL (by decide) (by decide) (by decide)
    rw [he] at pe
    rw [hn]
    show Pure _ _ _ (.tup [slV 6 NodeD.c [], pBool false])
    refine pure_of Tryz.func105 (by rfl) rfl (by kernel_rfl) (by rfl) ?_
    ((conv => whnf);repeat' ((first|(with_reducible first|apply a_|apply b_|apply c_)|((with_reducible first|apply d_|apply e_|apply f_|apply g_);focus first|omega|(simp only [q_]<;>omega))|((with_reducible first|apply i_|apply h_);focus first|omega|(simp only [q_]<;>omega))|((with_reducible apply h_);focus first|decide|kernel_rfl)|refine s_ (by decide) ?_|refine t_ (by decide) ?_|(refine Idx.lit rfl rfl ?_)|refine r_ pe rfl ?_|with_reducible first|apply l_|apply m_|apply n_|apply o_|refine p_ (fun _ => ?_) (fun _ => ?_))<;>(conv => whnf)))
    all_goals first | exact Ret.le ⟨.inr ⟨⟨6, rfl⟩, .inl rfl⟩, .inl rfl, rfl⟩ | (exfalso; omega)
   | false =>
    rw [ref_lit x hL]
    rcases lit_cases hc hL with ⟨a1, a2, a3⟩ | ⟨a1, a2⟩
    ·rw [a1] at pe
     rw [a2] at p2
     rcases a3 with ⟨b1, b2⟩ | ⟨b1, b2, b3⟩ | ⟨b1, b2, b3, b4, b5⟩
     ·rw [b1] at p3
      rw [b2]
      show Pure _ _ _ (.tup [slV 6 NodeD.c [⟨1, 0, noV, []⟩], pBool true])
      refine pure_of Tryz.func105 (by rfl) rfl (by kernel_rfl) (by rfl) ?_
      ((conv => whnf);repeat' ((first|(with_reducible first|apply a_|apply b_|apply c_)|((with_reducible first|apply d_|apply e_|apply f_|apply g_);focus first|omega|(simp only [q_]<;>omega))|((with_reducible first|apply i_|apply h_);focus first|omega|(simp only [q_]<;>omega))|((with_reducible apply h_);focus first|decide|kernel_rfl)|refine s_ (by decide) ?_|refine t_ (by decide) ?_|(refine Idx.lit rfl rfl ?_)|refine r_ pe rfl ?_|refine r_ p2 rfl ?_|refine r_ p3 rfl ?_|with_reducible first|apply l_|apply m_|apply n_|apply o_|refine p_ (fun _ => ?_) (fun _ => ?_))<;>(conv => whnf)))
      all_goals first | exact Ret.eq rfl | (exfalso; omega)
     ·rw [b1] at p3
      rw [b3]
      show Pure _ _ _ (.tup [slV 6 NodeD.c [⟨2, 0, noV, x.S⟩], pBool true])
      refine pure_of Tryz.func105 (by rfl) rfl (by kernel_rfl) (by rfl) ?_
      ((conv => whnf);repeat' ((first|(with_reducible first|apply a_|apply b_|apply c_)|((with_reducible first|apply d_|apply e_|apply f_|apply g_);focus first|omega|(simp only [q_]<;>omega))|((with_reducible first|apply i_|apply h_);focus first|omega|(simp only [q_]<;>omega))|((with_reducible apply h_);focus first|decide|kernel_rfl)|refine s_ (by decide) ?_|refine t_ (by decide) ?_|(refine Idx.lit rfl rfl ?_)|refine r_ pe rfl ?_|refine r_ p2 rfl ?_|refine r_ p3 rfl ?_|with_reducible first|apply l_|apply m_|apply n_|apply o_|refine p_ (fun _ => ?_) (fun _ => ?_))<;>(conv => whnf)))
      all_goals first | exact Ret.eq rfl | (exfalso; omega)
     ·rw [b1] at p3
      rw [b5]
      show Pure _ _ _ (.tup [slV 6 NodeD.c [⟨1, 0, ⟨x.Kind - 1, x.N, x.S⟩, []⟩], pBool true])
      refine pure_of Tryz.func105 (by rfl) rfl (by kernel_rfl) (by rfl) ?_
      ((conv => whnf);repeat' ((first|(with_reducible first|apply a_|apply b_|apply c_)|((with_reducible first|apply d_|apply e_|apply f_|apply g_);focus first|omega|(simp only [q_]<;>omega))|((with_reducible first|apply i_|apply h_);focus first|omega|(simp only [q_]<;>omega))|((with_reducible apply h_);focus first|decide|kernel_rfl)|refine s_ (by decide) ?_|refine t_ (by decide) ?_|(refine Idx.lit rfl rfl ?_)|refine r_ pe rfl ?_|refine r_ p2 rfl ?_|refine r_ p3 rfl ?_|with_reducible first|apply l_|apply m_|apply n_|apply o_|refine p_ (fun _ => ?_) (fun _ => ?_))<;>(conv => whnf)))
      all_goals first | exact Ret.eq rfl | (exfalso; omega)
    ·rw [a1]
     show Pure _ _ _ (.tup [slV 6 NodeD.c [], pBool false])
     refine pure_of Tryz.func105 (by rfl) rfl (by kernel_rfl) (by rfl) ?_
     rcases a2 with b | ⟨b, c⟩
     ·rw [b] at pe
      ((conv => whnf);repeat' ((first|(with_reducible first|apply a_|apply b_|apply c_)|((with_reducible first|apply d_|apply e_|apply f_|apply g_);focus first|omega|(simp only [q_]<;>omega))|((with_reducible first|apply i_|apply h_);focus first|omega|(simp only [q_]<;>omega))|((with_reducible apply h_);focus first|decide|kernel_rfl)|refine s_ (by decide) ?_|refine t_ (by decide) ?_|(refine Idx.lit rfl rfl ?_)|refine r_ pe rfl ?_|with_reducible first|apply l_|apply m_|apply n_|apply o_|refine p_ (fun _ => ?_) (fun _ => ?_))<;>(conv => whnf)))
      all_goals first | exact Ret.le ⟨.inr ⟨⟨6, rfl⟩, .inl rfl⟩, .inl rfl, rfl⟩ | (exfalso; omega)
     ·rw [b] at pe
      rw [c] at p2
      ((conv => whnf);repeat' ((first|(with_reducible first|apply a_|apply b_|apply c_)|((with_reducible first|apply d_|apply e_|apply f_|apply g_);focus first|omega|(simp only [q_]<;>omega))|((with_reducible first|apply i_|apply h_);focus first|omega|(simp only [q_]<;>omega))|((with_reducible apply h_);focus first|decide|kernel_rfl)|refine s_ (by decide) ?_|refine t_ (by decide) ?_|(refine Idx.lit rfl rfl ?_)|refine r_ pe rfl ?_|refine r_ p2 rfl ?_|with_reducible first|apply l_|apply m_|apply n_|apply o_|refine p_ (fun _ => ?_) (fun _ => ?_))<;>(conv => whnf)))
      all_goals first | exact Ret.le ⟨.inr ⟨⟨6, rfl⟩, .inl rfl⟩, .inl rfl, rfl⟩ | (exfalso; omega)
end
section
open Go.RowKit K
set_option maxRecDepth 100000
set_option maxHeartbeats 1000000
theorem take_split {α : Type} (l : List α) {fr i : Nat} (h : fr ≤ i) : l.take i = l.take fr ++ (l.drop fr).take (i - fr) := by
 rw [← List.take_add]; congr 1; omega
theorem drop_split {α : Type} (l : List α) {fr i : Nat} (h : fr ≤ i) : l.drop fr = (l.drop fr).take (i - fr) ++ l.drop i := by
 have := (List.take_append_drop (i - fr) (l.drop fr)).symm
 rw [List.drop_drop, show fr + (i - fr) = i by omega] at this
 exact this
def addG (ms : List NodeD) (n : Nat) : Option (List NodeD × Nat) → Option (List NodeD × Nat)
 | none => none
 | some (ns, k) => some (ms ++ ns, n + k)
theorem addG_one {ms b : List NodeD} {n : Nat} (x : Option (List NodeD × Nat)) : addG ms n (addG b 1 x) = addG (ms ++ b) (n + 1) x := by
 cases x with
 | none => rfl
 | some p =>
  obtain ⟨ns, k⟩ := p
  show some (ms ++ (b ++ ns), n + (1 + k)) = some (ms ++ b ++ ns, n + 1 + k)
  rw [List.append_assoc, Nat.add_assoc]
theorem listG_cons (p : List TokenD) (ps : List (List TokenD)) : listG (p :: ps) = match pK 1 p with
  | none => none
  | some b => addG b 1 (listG ps) := by
 rw [listG]
 cases pK 1 p with
 | none => rfl
 | some b =>
  cases listG ps with
  | none => rfl
  | some q =>
   obtain ⟨ms, n⟩ := q
   show some (b ++ ms, n + 1) = some (b ++ ms, 1 + n)
   rw [Nat.add_comm]
theorem split_here {l : List TokenD} {fr i d : Nat} (hfi : fr ≤ i) (hi : i < l.length) (hf : firstAt [sCo] 0 ((l.drop fr).take (i - fr)) = none) (hd : dEnd 0 ((l.drop fr).take (i - fr)) = some d) (h0 : recD d l[i] = 0) (hc : isM l[i] sCo = true) : splitC 0 (l.drop fr) = (l.drop fr).take (i - fr) :: splitC 0 (l.drop (i + 1)) := by
 have e := drop_split l hfi
 rw [List.drop_eq_getElem_cons hi] at e
 have hR : isM l[i] sRp = false := isM_ne hc (by decide)
 have hL : isM l[i] sLp = false := isM_ne hc (by decide)
 have hn : nxtD d l[i] = 0 := by rw [nxtD_0 hR hL, ← recD_0 (d := d) hR]; exact h0
 have hs : splitC d (l[i] :: l.drop (i + 1)) = [] :: splitC 0 (l.drop (i + 1)) := by
  rw [splitC, if_pos ⟨h0, hc⟩, hn]
 have := split_app _ _ 0 d _ _ hf hd hs
 rw [List.append_nil] at this
 conv => lhs; rw [e]
 exact this
theorem split_last {m : List TokenD} {d : Nat} (hf : firstAt [sCo] 0 m = none) (hd : dEnd 0 m = some d) : splitC 0 m = [m] := by
 have := split_app m [] 0 d [] [] hf hd rfl
 rwa [List.append_nil] at this
theorem p_readlist {N : Nat} (hN : N ≤ 100000) (a : List NodeD) (l : List TokenD) (op : Int) (hl : l.length ≤ N) (ht : okTx l) (ha : a.length ≤ 100000) (h1 : RdOk 33 1 N) : Pure Tryz.prog 99 [slV 6 NodeD.c a, slV 4 TokenD.c l, pInt .i64 op] (optN (listRF a l op)) := by
 have pd := p_depthsof l (by omega)
 have hml : (l.map TokenD.c).length = l.length := List.length_map _
 unfold listRF
 by_cases h0 : dEnd 0 l = some 0
 ·rw [depR_ok h0] at pd
  have pd : Pure _ _ _ (.tup [slV 1 dC (depV 0 l), pBool true]) := pd
  rw [if_pos h0]
  refine pure_of Tryz.func99 (by rfl) rfl (by kernel_rfl) (by rfl) ?_
  ((conv => whnf);repeat' ((first|(with_reducible first|apply a_|apply b_|apply c_)|((with_reducible first|apply d_|apply e_|apply f_|apply g_);focus first|omega|(simp only [q_]<;>omega))|((with_reducible first|apply i_|apply h_);focus first|omega|(simp only [q_]<;>omega))|((with_reducible apply h_);focus first|decide|kernel_rfl)|refine s_ (by decide) ?_|refine t_ (by decide) ?_|refine r_ pd rfl ?_|(refine Need.by 64 rfl (by simp only [List.length_append, List.length_map, List.length_nil];omega) ?_)|with_reducible first|apply l_|apply m_|apply n_|apply o_|refine p_ (fun _ => ?_) (fun _ => ?_))<;>(conv => whnf)))
  refine LoopC.mk (Nat × Nat × List NodeD × Nat) (fun s => [(1, slV 4 TokenD.c l), (2, pInt .i64 op), (8, slV 1 dC (depV 0 l)), (10, .d (.app 60 36 6 ((a ++ s.2.2.1).map NodeD.c))), (11, pInt .i64 ((s.2.2.2 + 1 : Nat) : Int)), (12, pInt .i64 (s.2.1 : Int)), (13, pInt .i64 (s.1 : Int))]) (fun _ => [(60, .tail 36 6)]) [60] (fun s => s.1 ≤ l.length + 1 ∧ s.2.2.1.length ≤ l.length ∧ s.2.2.2 ≤ s.1 ∧ ((s.1 = l.length + 1 ∧ listG (splitC 0 l) = some (s.2.2.1, s.2.2.2)) ∨ (s.1 ≤ l.length ∧ s.2.1 ≤ s.1 ∧ s.2.2.1.length ≤ s.2.1 ∧ listG (splitC 0 l) = addG s.2.2.1 s.2.2.2 (listG (splitC 0 (l.drop s.2.1))) ∧ dEnd 0 (l.take s.2.1) = some 0 ∧ firstAt [sCo] 0 ((l.drop s.2.1).take (s.1 - s.2.1)) = none))) (fun s => l.length + 1 - s.1) (0, 0, [], 0) ⟨Nat.zero_le _, Nat.zero_le _, Nat.le_refl _, .inr ⟨Nat.zero_le _, Nat.le_refl _, Nat.le_refl _, by rw [List.drop_zero]; cases listG (splitC 0 l) with | none => rfl | some p => (obtain ⟨x, y⟩ := p; show some (x, y) = some ([] ++ x, 0 + y); rw [List.nil_append, Nat.zero_add]), by rw [List.take_zero]; rfl, by rw [Nat.sub_self, List.take_zero]; rfl⟩⟩ ?start ?round
  case start => exact ⟨[(60, 25)], rfl, rfl, ⟨.inl rfl, .inl rfl, .inl rfl, ⟨rfl, rfl, rfl, rfl, by rw [List.append_nil]; rfl⟩, .inl rfl, .inl rfl, .inl rfl, trivial⟩, ⟨rfl, rfl, rfl⟩, trivial⟩
  case round =>
   rintro ⟨i, fr, ms, n⟩ ⟨hi, hms, hn, hor⟩
   have hi : i ≤ l.length + 1 := hi
   have hms : ms.length ≤ l.length := hms
   have hn : n ≤ i := hn
   have hor : (i = l.length + 1 ∧ listG (splitC 0 l) = some (ms, n)) ∨ (i ≤ l.length ∧ fr ≤ i ∧ ms.length ≤ fr ∧ listG (splitC 0 l) = addG ms n (listG (splitC 0 (l.drop fr))) ∧ dEnd 0 (l.take fr) = some 0 ∧ firstAt [sCo] 0 ((l.drop fr).take (i - fr)) = none) := hor
   rcases hor with ⟨hi1, hG⟩ | ⟨hi1, hfi, hmf, hG, hd0, hf⟩
   ·rw [hG]
    have e : (a ++ ms ++ [nOp op ((n : Int) + 1)]).map NodeD.c = (a ++ ms).map NodeD.c ++ [(nOp op ((n : Int) + 1)).c] := by rw [List.map_append]; rfl
    have hal : (a ++ ms).length ≤ 200000 := by rw [List.length_append]; omega
    ((conv => whnf);repeat' ((first|(with_reducible first|apply a_|apply b_|apply c_)|((with_reducible first|apply d_|apply e_|apply f_|apply g_);focus first|omega|(simp only [q_]<;>omega))|((with_reducible first|apply i_|apply h_);focus first|omega|(simp only [q_]<;>omega))|((with_reducible apply h_);focus first|decide|kernel_rfl)|refine s_ (by decide) ?_|refine t_ (by decide) ?_|(refine Need.by 64 rfl (by simp only [List.length_append, List.length_map, List.length_cons, List.length_nil];omega) ?_)|with_reducible first|apply l_|apply m_|apply n_|apply o_|refine p_ (fun _ => ?_) (fun _ => ?_))<;>(conv => whnf)))
    all_goals first
     | (exfalso; omega)
     | skip
    refine Ret.eq ?_
    show _ = PV.tup [.d (.c (.sl 6 ((a ++ ms ++ [nOp op ((n : Int) + 1)]).map NodeD.c))), pBool true]
    rw [e]; rfl
   ·obtain ⟨_, _, i3, _⟩ : (0 = 0) ∧ (0 = 0) ∧ dEnd 0 (l.take i) = some (scF [] sc0 (l.take i)).d ∧ (0 = 0) := ⟨rfl, rfl, (sc_inv [] l h0 i hi1).2.2.1, rfl⟩
    generalize (scF [] sc0 (l.take i)).d = d at i3
    have hal : (a ++ ms).length ≤ 200000 := by rw [List.length_append]; omega
    have hcd : dEnd 0 ((l.drop fr).take (i - fr)) = some d := by
     rw [take_split l hfi, dEnd_append _ _ 0 0 hd0] at i3
     exact i3
    have hcl : ((l.drop fr).take (i - fr)).length = i - fr := by rw [List.length_take, List.length_drop]; omega
    have pa := Pure.cut l fr i (lo := (fr : Int)) (hi := (i : Int)) rfl rfl rfl (h1 ((l.drop fr).take (i - fr)) (by omega) (okTx_take (okTx_drop ht _) _))
    by_cases q : i < l.length
    ·have hlt : i < (depV 0 l).length := by rw [depV_len]; exact q
     have hdv := depV_at (e := 0) i3 q hlt
     have hst := first_step (l := l.drop fr) (i := i - fr) hf hcd (by rw [List.length_drop]; omega)
     have pm : Pure _ _ [tV l[i], pStr ⟨#[44]⟩] _ := p_ismark l[i] sCo
     have hgi : (l.drop fr)[i - fr]'(by rw [List.length_drop]; omega) = l[i] := by
      apply Option.some.inj
      rw [← List.getElem?_eq_getElem, ← List.getElem?_eq_getElem, List.getElem?_drop]
      congr 1; omega
     rw [hgi] at hst
     by_cases hc : recD d l[i] = 0 ∧ isM l[i] sCo = true
     ·obtain ⟨hc0, hcm⟩ := hc
      rw [hcm] at pm
      rw [hc0] at hdv
      have hsp := split_here hfi q hf hcd hc0 hcm
      have hd1 : dEnd 0 (l.take (i + 1)) = some 0 := by
       have hR : isM l[i] sRp = false := isM_ne hcm (by decide)
       have hL : isM l[i] sLp = false := isM_ne hcm (by decide)
       have hd0' : d = 0 := by rw [← recD_0 (d := d) hR]; exact hc0
       rw [take_snoc q, dEnd_append _ _ 0 d i3, dEnd_one (by rintro ⟨x, _⟩; rw [hR] at x; cases x), nxtD_0 hR hL, hd0']
      have k1 := pK_len 1 ((l.drop fr).take (i - fr))
      cases hp : pK 1 ((l.drop fr).take (i - fr)) with
      | none =>
       have hG2 : listG (splitC 0 l) = none := by rw [hG, hsp, listG_cons, hp]; rfl
       rw [hG2]
       rw [hp] at pa
       have pa : Pure _ _ _ (.tup [slV 6 NodeD.c [], pBool false]) := pa
       ((conv => whnf);repeat' ((first|(with_reducible first|apply a_|apply b_|apply c_)|((with_reducible first|apply d_|apply e_|apply f_|apply g_);focus first|omega|(simp only [q_]<;>omega))|((with_reducible first|apply i_|apply h_);focus first|omega|(simp only [q_]<;>omega))|((with_reducible apply h_);focus first|decide|kernel_rfl)|refine s_ (by decide) ?_|refine t_ (by decide) ?_|(first|refine Idx.mapE (f := dC) i rfl hlt hdv ?_|refine Idx.mapI (f := TokenD.c) i rfl q ?_)|refine r_ pm rfl ?_|refine r_ pa rfl ?_|with_reducible first|apply l_|apply m_|apply n_|apply o_|refine p_ (fun _ => ?_) (fun _ => ?_))<;>(conv => whnf)))
       all_goals first | exact Ret.le ⟨.inr ⟨⟨6, rfl⟩, .inl rfl⟩, .inl rfl, rfl⟩ | (exfalso; omega)
      | some b =>
       rw [hp] at pa k1
       have k1 : b.length ≤ ((l.drop fr).take (i - fr)).length := k1
       have pa : Pure _ _ _ (.tup [slV 6 NodeD.c b, pBool true]) := pa
       have nl : (ms ++ b).length ≤ l.length := by rw [List.length_append]; omega
       have nx : (i + 1 = l.length + 1 ∧ listG (splitC 0 l) = some (ms ++ b, n + 1)) ∨ (i + 1 ≤ l.length ∧ i + 1 ≤ i + 1 ∧ (ms ++ b).length ≤ i + 1 ∧ listG (splitC 0 l) = addG (ms ++ b) (n + 1) (listG (splitC 0 (l.drop (i + 1)))) ∧ dEnd 0 (l.take (i + 1)) = some 0 ∧ firstAt [sCo] 0 ((l.drop (i + 1)).take (i + 1 - (i + 1))) = none) := .inr ⟨by show i + 1 ≤ _; omega, Nat.le_refl _, by show (ms ++ b).length ≤ i + 1; rw [List.length_append]; omega, by show _ = addG (ms ++ b) (n + 1) _; rw [hG, hsp, listG_cons, hp]; exact addG_one _, hd1, by show firstAt [sCo] 0 ((l.drop (i + 1)).take (i + 1 - (i + 1))) = none; rw [Nat.sub_self, List.take_zero]; rfl⟩
       ((conv => whnf);repeat' ((first|(with_reducible first|apply a_|apply b_|apply c_)|((with_reducible first|apply d_|apply e_|apply f_|apply g_);focus first|omega|(simp only [q_]<;>omega))|((with_reducible first|apply i_|apply h_);focus first|omega|(simp only [q_]<;>omega))|((with_reducible apply h_);focus first|decide|kernel_rfl)|refine s_ (by decide) ?_|refine t_ (by decide) ?_|(first|refine Idx.mapE (f := dC) i rfl hlt hdv ?_|refine Idx.mapI (f := TokenD.c) i rfl q ?_)|refine r_ pm rfl ?_|refine r_ pa rfl ?_|(refine Need.by 64 rfl (by simp only [List.length_append, List.length_map, List.length_cons, List.length_nil];omega) ?_)|with_reducible first|apply l_|apply m_|apply n_|apply o_|refine p_ (fun _ => ?_) (fun _ => ?_))<;>(conv => whnf)))
       all_goals first
        | exact ⟨(i + 1, i + 1, ms ++ b, n + 1), ⟨by show i + 1 ≤ _; omega, nl, by show n + 1 ≤ i + 1; omega, nx⟩, by show l.length + 1 - (i + 1) < l.length + 1 - i; omega, [(60, 62)], rfl, rfl, ⟨.inl rfl, .inl rfl, .inl rfl, ⟨rfl, rfl, rfl, rfl, (show (a ++ ms).map NodeD.c ++ b.map NodeD.c = (a ++ (ms ++ b)).map NodeD.c by rw [← List.append_assoc, List.map_append (l₁ := a ++ ms)])⟩, PLe.int rfl, PLe.int rfl, PLe.int rfl, trivial⟩, ⟨rfl, rfl, rfl⟩, trivial⟩
        | (exfalso; omega)
     ·have hnx := hst.2 (fun x => hc ⟨x.1, by
       obtain ⟨v, hv1, hv2⟩ := anyM_out x.2
       rw [List.mem_singleton] at hv1
       rw [← hv1]; exact hv2⟩)
      have hnx : firstAt [sCo] 0 ((l.drop fr).take (i + 1 - fr)) = none := by rw [show i + 1 - fr = i - fr + 1 by omega]; exact hnx
      have next : (i + 1 = l.length + 1 ∧ listG (splitC 0 l) = some (ms, n)) ∨ (i + 1 ≤ l.length ∧ fr ≤ i + 1 ∧ ms.length ≤ fr ∧ listG (splitC 0 l) = addG ms n (listG (splitC 0 (l.drop fr))) ∧ dEnd 0 (l.take fr) = some 0 ∧ firstAt [sCo] 0 ((l.drop fr).take (i + 1 - fr)) = none) := .inr ⟨by omega, by omega, hmf, hG, hd0, hnx⟩
      generalize hr : recD d l[i] = r at *
      by_cases r0 : r = 0
      ·subst r0
       have hm : isM l[i] sCo = false := by rw [Bool.eq_false_iff]; exact fun y => hc ⟨rfl, y⟩
       rw [hm] at pm
       ((conv => whnf);repeat' ((first|(with_reducible first|apply a_|apply b_|apply c_)|((with_reducible first|apply d_|apply e_|apply f_|apply g_);focus first|omega|(simp only [q_]<;>omega))|((with_reducible first|apply i_|apply h_);focus first|omega|(simp only [q_]<;>omega))|((with_reducible apply h_);focus first|decide|kernel_rfl)|refine s_ (by decide) ?_|refine t_ (by decide) ?_|(first|refine Idx.mapE (f := dC) i rfl hlt hdv ?_|refine Idx.mapI (f := TokenD.c) i rfl q ?_)|refine r_ pm rfl ?_|with_reducible first|apply l_|apply m_|apply n_|apply o_|refine p_ (fun _ => ?_) (fun _ => ?_))<;>(conv => whnf)))
       all_goals first
        | exact ⟨(i + 1, fr, ms, n), ⟨by show i + 1 ≤ _; omega, hms, by show n ≤ i + 1; omega, next⟩, by show l.length + 1 - (i + 1) < l.length + 1 - i; omega, [(60, 60)], rfl, rfl, ⟨.inl rfl, .inl rfl, .inl rfl, ⟨rfl, rfl, rfl, rfl, rfl⟩, .inl rfl, .inl rfl, PLe.int (by omega), trivial⟩, ⟨rfl, rfl, rfl⟩, trivial⟩
        | (exfalso; omega)
      ·((conv => whnf);repeat' ((first|(with_reducible first|apply a_|apply b_|apply c_)|((with_reducible first|apply d_|apply e_|apply f_|apply g_);focus first|omega|(simp only [q_]<;>omega))|((with_reducible first|apply i_|apply h_);focus first|omega|(simp only [q_]<;>omega))|((with_reducible apply h_);focus first|decide|kernel_rfl)|refine s_ (by decide) ?_|refine t_ (by decide) ?_|(first|refine Idx.mapE (f := dC) i rfl hlt hdv ?_|refine Idx.mapI (f := TokenD.c) i rfl q ?_)|with_reducible first|apply l_|apply m_|apply n_|apply o_|refine p_ (fun _ => ?_) (fun _ => ?_))<;>(conv => whnf)))
       all_goals first
        | exact ⟨(i + 1, fr, ms, n), ⟨by show i + 1 ≤ _; omega, hms, by show n ≤ i + 1; omega, next⟩, by show l.length + 1 - (i + 1) < l.length + 1 - i; omega, [(60, 60)], rfl, rfl, ⟨.inl rfl, .inl rfl, .inl rfl, ⟨rfl, rfl, rfl, rfl, rfl⟩, .inl rfl, .inl rfl, PLe.int (by omega), trivial⟩, ⟨rfl, rfl, rfl⟩, trivial⟩
        | (exfalso; omega)
    ·have hie : i = l.length := by omega
     have hcur : (l.drop fr).take (i - fr) = l.drop fr := List.take_of_length_le (by rw [List.length_drop]; omega)
     rw [hcur] at hcd hf pa hcl
     have hsp := split_last hf hcd
     have k1 := pK_len 1 (l.drop fr)
     cases hp : pK 1 (l.drop fr) with
     | none =>
      have hG2 : listG (splitC 0 l) = none := by rw [hG, hsp, listG_cons, hp]; rfl
      rw [hG2]
      rw [hp] at pa
      have pa : Pure _ _ _ (.tup [slV 6 NodeD.c [], pBool false]) := pa
      ((conv => whnf);repeat' ((first|(with_reducible first|apply a_|apply b_|apply c_)|((with_reducible first|apply d_|apply e_|apply f_|apply g_);focus first|omega|(simp only [q_]<;>omega))|((with_reducible first|apply i_|apply h_);focus first|omega|(simp only [q_]<;>omega))|((with_reducible apply h_);focus first|decide|kernel_rfl)|refine s_ (by decide) ?_|refine t_ (by decide) ?_|refine r_ pa rfl ?_|with_reducible first|apply l_|apply m_|apply n_|apply o_|refine p_ (fun _ => ?_) (fun _ => ?_))<;>(conv => whnf)))
      all_goals first | exact Ret.le ⟨.inr ⟨⟨6, rfl⟩, .inl rfl⟩, .inl rfl, rfl⟩ | (exfalso; omega)
     | some b =>
      rw [hp] at pa k1
      have k1 : b.length ≤ (l.drop fr).length := k1
      have pa : Pure _ _ _ (.tup [slV 6 NodeD.c b, pBool true]) := pa
      have nl : (ms ++ b).length ≤ l.length := by rw [List.length_append]; omega
      have nx : (i + 1 = l.length + 1 ∧ listG (splitC 0 l) = some (ms ++ b, n + 1)) ∨ (i + 1 ≤ l.length ∧ i + 1 ≤ i + 1 ∧ (ms ++ b).length ≤ i + 1 ∧ listG (splitC 0 l) = addG (ms ++ b) (n + 1) (listG (splitC 0 (l.drop (i + 1)))) ∧ dEnd 0 (l.take (i + 1)) = some 0 ∧ firstAt [sCo] 0 ((l.drop (i + 1)).take (i + 1 - (i + 1))) = none) := .inl ⟨by show i + 1 = _; omega, by show _ = some (ms ++ b, n + 1); rw [hG, hsp, listG_cons, hp]; show addG ms n (some (b ++ [], 1 + 0)) = _; rw [List.append_nil]; rfl⟩
      ((conv => whnf);repeat' ((first|(with_reducible first|apply a_|apply b_|apply c_)|((with_reducible first|apply d_|apply e_|apply f_|apply g_);focus first|omega|(simp only [q_]<;>omega))|((with_reducible first|apply i_|apply h_);focus first|omega|(simp only [q_]<;>omega))|((with_reducible apply h_);focus first|decide|kernel_rfl)|refine s_ (by decide) ?_|refine t_ (by decide) ?_|refine r_ pa rfl ?_|(refine Need.by 64 rfl (by simp only [List.length_append, List.length_map, List.length_cons, List.length_nil];omega) ?_)|with_reducible first|apply l_|apply m_|apply n_|apply o_|refine p_ (fun _ => ?_) (fun _ => ?_))<;>(conv => whnf)))
      all_goals first
       | exact ⟨(i + 1, i + 1, ms ++ b, n + 1), ⟨by show i + 1 ≤ _; omega, nl, by show n + 1 ≤ i + 1; omega, nx⟩, by show l.length + 1 - (i + 1) < l.length + 1 - i; omega, [(60, 62)], rfl, rfl, ⟨.inl rfl, .inl rfl, .inl rfl, ⟨rfl, rfl, rfl, rfl, (show (a ++ ms).map NodeD.c ++ b.map NodeD.c = (a ++ (ms ++ b)).map NodeD.c by rw [← List.append_assoc, List.map_append (l₁ := a ++ ms)])⟩, PLe.int rfl, PLe.int rfl, PLe.int rfl, trivial⟩, ⟨rfl, rfl, rfl⟩, trivial⟩
       | (exfalso; omega)
 ·rw [if_neg h0]
  have hr := depR_no h0
  rw [hr] at pd
  refine pure_of Tryz.func99 (by rfl) rfl (by kernel_rfl) (by rfl) ?_
  show vc _ _ _ _ _ _ _ _ (retQ _ _ (.tup [slV 6 NodeD.c [], pBool false]))
  ((conv => whnf);repeat' ((first|(with_reducible first|apply a_|apply b_|apply c_)|((with_reducible first|apply d_|apply e_|apply f_|apply g_);focus first|omega|(simp only [q_]<;>omega))|((with_reducible first|apply i_|apply h_);focus first|omega|(simp only [q_]<;>omega))|((with_reducible apply h_);focus first|decide|kernel_rfl)|refine s_ (by decide) ?_|refine t_ (by decide) ?_|refine r_ pd rfl ?_|with_reducible first|apply l_|apply m_|apply n_|apply o_|refine p_ (fun _ => ?_) (fun _ => ?_))<;>(conv => whnf)))
  all_goals first | exact Ret.le ⟨.inr ⟨⟨6, rfl⟩, .inl rfl⟩, .inl rfl, rfl⟩ | (exfalso; omega)
end
section
open Go.RowKit K
set_option maxRecDepth 100000
set_option maxHeartbeats 4000000
theorem Idx.eq {R R' : List (List C)} {n : Int} {K : List C → Prop} (h : R = R') (k : Idx R' n K) : Idx R n K := by rw [h]; exact k
theorem Pure.cutR {f : FuncId} {S : PV} {R : List (List C)} {l : List TokenD} (hR : R = l.map TokenD.c) (a b : Nat) {lo hi : Int} {x : List TokenD} (ha : lo = (a : Int)) (hb : hi = (b : Int)) (hx : (l.drop a).take (b - a) = x) (h : Pure Tryz.prog f [slV 4 TokenD.c x] S) : Pure Tryz.prog f [.d (.c (.sl 4 ((R.drop lo.toNat).take (hi.toNat - lo.toNat))))] S := by
 subst hR
 exact Pure.cut l a b ha hb hx h
def hitB (W : List (List UInt8)) (d : Nat) (l : List TokenD) (j : Nat) : Bool := match (depV d l)[j]?, l[j]? with
 | some 0, some t => anyM W t
 | _, _ => false
theorem hit_zero (W : List (List UInt8)) (d : Nat) (t : TokenD) (r : List TokenD) : hitB W d (t :: r) 0 = true ↔ recD d t = 0 ∧ anyM W t = true := by
 unfold hitB
 show (match some (recD d t), some t with | some 0, some t => anyM W t | _, _ => false) = true ↔ _
 cases hr : recD d t with
 | zero => simp
 | succ n => simp
theorem hit_succ (W : List (List UInt8)) (d : Nat) (t : TokenD) (r : List TokenD) (j : Nat) : hitB W d (t :: r) (j + 1) = hitB W (nxtD d t) r j := rfl
theorem first_spec (W : List (List UInt8)) : ∀ (l : List TokenD) (d : Nat), (firstAt W d l = none → ∀ j, hitB W d l j = false) ∧ (∀ j, firstAt W d l = some j → hitB W d l j = true ∧ ∀ i, i < j → hitB W d l i = false)
 | [], d => ⟨fun _ j => rfl, fun j h => nomatch h⟩
 | t :: r, d => by
  obtain ⟨ih1, ih2⟩ := first_spec W r (nxtD d t)
  rw [firstAt]
  by_cases h : recD d t = 0 ∧ anyM W t = true
  ·rw [if_pos h]
   refine ⟨fun x => (by cases x), fun j hj => ?_⟩
   cases hj
   exact ⟨(hit_zero W d t r).2 h, fun i hi => absurd hi (Nat.not_lt_zero _)⟩
  ·rw [if_neg h]
   have h0 : hitB W d (t :: r) 0 = false := by
    rw [Bool.eq_false_iff]; exact fun x => h ((hit_zero W d t r).1 x)
   constructor
   ·intro hn j
    rw [Option.map_eq_none_iff] at hn
    cases j with
    | zero => exact h0
    | succ j => rw [hit_succ]; exact ih1 hn j
   ·intro j hj
    rw [Option.map_eq_some_iff] at hj
    obtain ⟨k, hk, rfl⟩ := hj
    obtain ⟨a, b⟩ := ih2 k hk
    refine ⟨by rw [hit_succ]; exact a, fun i hi => ?_⟩
    cases i with
    | zero => exact h0
    | succ i => rw [hit_succ]; exact b i (by omega)
theorem hit_out {W : List (List UInt8)} {d : Nat} {l : List TokenD} {j : Nat} (h : l.length ≤ j) : hitB W d l j = false := by
 unfold hitB
 rw [List.getElem?_eq_none (l := l) h]
 cases (depV d l)[j]? with
 | none => rfl
 | some n => cases n <;> rfl
theorem hit_at {w : List UInt8} {l : List TokenD} {i : Nat} (h : i < l.length) (h2 : i < (depV 0 l).length) : hitB [w] 0 l i = (decide ((depV 0 l)[i] = 0) && isM l[i] w) := by
 unfold hitB
 rw [List.getElem?_eq_getElem h, List.getElem?_eq_getElem h2]
 have e : anyM [w] l[i] = isM l[i] w := by unfold anyM; simp
 cases hd : (depV 0 l)[i] with
 | zero => simp [e]
 | succ n => simp
theorem first_is {w : List UInt8} {l : List TokenD} {x : Option Nat} (h0 : hitB [w] 0 l 0 = false) (h1 : x = none → ∀ j, 0 < j → hitB [w] 0 l j = false) (h2 : ∀ j, x = some j → 0 < j ∧ hitB [w] 0 l j = true ∧ ∀ i, 0 < i → i < j → hitB [w] 0 l i = false) : firstAt [w] 0 l = x := by
 obtain ⟨s1, s2⟩ := first_spec [w] l 0
 cases hf : firstAt [w] 0 l with
 | none =>
  cases x with
  | none => rfl
  | some j => have := (h2 j rfl).2.1; rw [s1 hf j] at this; cases this
 | some i =>
  obtain ⟨a, b⟩ := s2 i hf
  have hi : 0 < i := by
   rcases Nat.eq_zero_or_pos i with rfl | y
   ·rw [h0] at a; cases a
   ·exact y
  cases x with
  | none => rw [h1 rfl i hi] at a; cases a
  | some j =>
   obtain ⟨c1, c2, c3⟩ := h2 j rfl
   rcases Nat.lt_trichotomy i j with y | y | y
   ·rw [c3 i hi y] at a; cases a
   ·rw [y]
   ·rw [b j y] at c2; cases c2
theorem opAt_none_of {ops : List Int} {t : TokenD} {r : List TokenD} (h : ∀ o ∈ ops, isM t (sgn o) = false) : opAt ops (t :: r) = none := opAt_no fun o ho => h o ho
theorem p_readask {N : Nat} (hN : N ≤ 50000) (h5 : RdOk 98 5 N) (h1 : ∀ {M}, M < N → RdOk 33 1 M) : RdOk 90 4 N := by
 intro l hl ht
 have pat := p_askat l (by omega)
 have hml : (l.map TokenD.c).length = l.length := List.length_map _
 rw [ref_ask]
 unfold refAsk
 have hle : askN l ≤ l.length := by
  unfold askN
  split
  ·cases hf : firstAt askW 0 l with
   | none => exact Nat.le_refl _
   | some j =>
    obtain ⟨l1, o, l2, e1, e2, _⟩ := first_found l 0 j hf
    show j ≤ _
    rw [e1, List.length_append, List.length_cons]; omega
  ·exact Nat.le_refl _
 generalize hj : askN l = j at *
 have pa := Pure.cut l 0 j (lo := 0) (hi := (j : Int)) rfl rfl (x := l.take j) (by rw [List.drop_zero, Nat.sub_zero]) (h5 (l.take j) (by rw [List.length_take]; omega) (okTx_take ht _))
 have k0 := pK_len 5 (l.take j)
 rw [List.length_take] at k0
 cases ha : pK 5 (l.take j) with
 | none =>
  rw [ha] at pa
  have pa : Pure _ _ _ (.tup [slV 6 NodeD.c [], pBool false]) := pa
  refine pure_of Tryz.func90 (by rfl) rfl (by kernel_rfl) (by rfl) ?_
  ((conv => whnf);repeat' ((first|(with_reducible first|apply a_|apply b_|apply c_)|((with_reducible first|apply d_|apply e_|apply f_|apply g_);focus first|omega|(simp only [q_]<;>omega))|((with_reducible first|apply i_|apply h_);focus first|omega|(simp only [q_]<;>omega))|((with_reducible apply h_);focus first|decide|kernel_rfl)|refine s_ (by decide) ?_|refine t_ (by decide) ?_|refine r_ pat rfl ?_|refine r_ pa rfl ?_|with_reducible first|apply l_|apply m_|apply n_|apply o_|refine p_ (fun _ => ?_) (fun _ => ?_))<;>(conv => whnf)))
  all_goals first | exact Ret.eq rfl | (exfalso; omega)
 | some a =>
  rw [ha] at pa k0
  have k0 : a.length ≤ min j l.length := k0
  have pa : Pure _ _ _ (.tup [slV 6 NodeD.c a, pBool true]) := pa
  dsimp only
  by_cases hjl : j = l.length
  ·rw [if_pos hjl]
   refine pure_of Tryz.func90 (by rfl) rfl (by kernel_rfl) (by rfl) ?_
   ((conv => whnf);repeat' ((first|(with_reducible first|apply a_|apply b_|apply c_)|((with_reducible first|apply d_|apply e_|apply f_|apply g_);focus first|omega|(simp only [q_]<;>omega))|((with_reducible first|apply i_|apply h_);focus first|omega|(simp only [q_]<;>omega))|((with_reducible apply h_);focus first|decide|kernel_rfl)|refine s_ (by decide) ?_|refine t_ (by decide) ?_|refine r_ pat rfl ?_|refine r_ pa rfl ?_|with_reducible first|apply l_|apply m_|apply n_|apply o_|refine p_ (fun _ => ?_) (fun _ => ?_))<;>(conv => whnf)))
   all_goals first | exact Ret.eq rfl | (exfalso; omega)
  ·rw [if_neg hjl]
   obtain ⟨rest, hrest⟩ : ∃ rest, rest = l.drop j := ⟨_, rfl⟩
   have hrl : rest.length = l.length - j := by rw [hrest, List.length_drop]
   have rq : 0 < rest.length := by omega
   have rtx : okTx rest := by rw [hrest]; exact okTx_drop ht _
   rw [← hrest]
   have erow : ((l.map TokenD.c).drop (j : Int).toNat).take ((((l.map TokenD.c).length : Nat) : Int).toNat - (j : Int).toNat) = rest.map TokenD.c := by
    rw [Int.toNat_natCast, Int.toNat_natCast, hml, ← List.map_drop, ← hrest, List.take_of_length_le (by rw [List.length_map]; omega)]
   have pk (s : List UInt8) := p_ismark rest[0] s
   have pIs : Pure _ _ [tV rest[0], pStr ⟨#[105, 115]⟩] _ := pk wIs
   have pNo : Pure _ _ [tV rest[0], pStr ⟨#[110, 111, 116]⟩] _ := pk wNot
   have hrml : (rest.map TokenD.c).length = rest.length := List.length_map _
   have rcons : rest = rest[0] :: rest.drop 1 := by rw [List.getElem_cons_drop]; rfl
   refine pure_of Tryz.func90 (by rfl) rfl (by kernel_rfl) (by rfl) ?_
   ((conv => whnf);repeat' ((first|(with_reducible first|apply a_|apply b_|apply c_)|((with_reducible first|apply d_|apply e_|apply f_|apply g_);focus first|omega|(simp only [q_]<;>omega))|((with_reducible first|apply i_|apply h_);focus first|omega|(simp only [q_]<;>omega))|((with_reducible apply h_);focus first|decide|kernel_rfl)|refine s_ (by decide) ?_|refine t_ (by decide) ?_|refine r_ pat rfl ?_|refine r_ pa rfl ?_|with_reducible first|apply l_|apply m_|apply n_|apply o_|refine p_ (fun _ => ?_) (fun _ => ?_))<;>(conv => whnf)))
   refine LoopC.mk Nat (fun k => [(5, slV 6 NodeD.c a), (6, pBool true), (7, slV 4 TokenD.c rest), (8, pInt .i64 ((10 + k : Nat) : Int))]) (fun _ => []) [] (fun k => k ≤ 6 ∧ ∀ o ∈ cmpL.take k, isM rest[0] (sgn o) = false) (fun k => 6 - k) 0 ⟨by omega, fun o ho => by simp at ho⟩ ?start ?round
   case start => exact ⟨[], rfl, rfl, ⟨.inl rfl, .inl rfl, PLe.c (by rw [erow]), .inl rfl, trivial⟩, trivial⟩
   case round =>
    rintro k ⟨hk6, hno⟩
    have hk6 : k ≤ 6 := hk6
    have hno : ∀ o ∈ cmpL.take k, isM rest[0] (sgn o) = false := hno
    by_cases k6 : k < 6
    ·have pr := Pure.cut rest 1 rest.length (lo := 1) (hi := (((rest.map TokenD.c).length : Nat) : Int)) rfl (by omega) (x := rest.drop 1) (by rw [List.take_of_length_le (by rw [List.length_drop]; omega)]) (h5 (rest.drop 1) (by rw [List.length_drop]; omega) (okTx_drop rtx _))
     have kr := pK_len 5 (rest.drop 1)
     rw [List.length_drop] at kr
     have pm := pk (sgn (10 + (k : Int)))
     cases hm : isM rest[0] (sgn (10 + (k : Int))) with
     | true =>
      have hop : opAt cmpL rest = some (10 + (k : Int)) := by
       rw [rcons]
       refine opAt_of ?_ (fun o ho => cmp_inj _ ?_ o ho) hm
       all_goals
        have : k = 0 ∨ k = 1 ∨ k = 2 ∨ k = 3 ∨ k = 4 ∨ k = 5 := by omega
        rcases this with rfl | rfl | rfl | rfl | rfl | rfl <;> decide
      have em : moreR a rest = bothF (some a) (pK 5 (rest.drop 1)) (10 + (k : Int)) := by unfold moreR; rw [hop]
      rw [em]
      rw [hm] at pm
      have pb := p_both (some a) (pK 5 (rest.drop 1)) (10 + (k : Int)) (by show a.length + _ ≤ _; omega)
      have : k = 0 ∨ k = 1 ∨ k = 2 ∨ k = 3 ∨ k = 4 ∨ k = 5 := by omega
      rcases this with rfl | rfl | rfl | rfl | rfl | rfl
      all_goals
       ((conv => whnf);repeat' ((first|(with_reducible first|apply a_|apply b_|apply c_)|((with_reducible first|apply d_|apply e_|apply f_|apply g_);focus first|omega|(simp only [q_]<;>omega))|((with_reducible first|apply i_|apply h_);focus first|omega|(simp only [q_]<;>omega))|((with_reducible apply h_);focus first|decide|kernel_rfl)|refine s_ (by decide) ?_|refine t_ (by decide) ?_|(refine Idx.mapI (f := TokenD.c) 0 rfl rq ?_)|(refine GLd.mk _ rfl ?_)|refine r_ pm rfl ?_|refine r_ pr rfl ?_|refine r_ pb rfl ?_|with_reducible first|apply l_|apply m_|apply n_|apply o_|refine p_ (fun _ => ?_) (fun _ => ?_))<;>(conv => whnf)))
       all_goals first | exact Ret.eq rfl | (exfalso; omega)
     | false =>
      rw [hm] at pm
      have hnx : ∀ o ∈ cmpL.take (k + 1), isM rest[0] (sgn o) = false := by
       intro o ho
       have hkl : k < cmpL.length := k6
       rw [take_snoc hkl, List.mem_append, List.mem_singleton] at ho
       rcases ho with ho | rfl
       ·exact hno o ho
       ·have : k = 0 ∨ k = 1 ∨ k = 2 ∨ k = 3 ∨ k = 4 ∨ k = 5 := by omega
        rcases this with rfl | rfl | rfl | rfl | rfl | rfl <;> exact hm
      have : k = 0 ∨ k = 1 ∨ k = 2 ∨ k = 3 ∨ k = 4 ∨ k = 5 := by omega
      rcases this with rfl | rfl | rfl | rfl | rfl | rfl
      all_goals
       ((conv => whnf);repeat' ((first|(with_reducible first|apply a_|apply b_|apply c_)|((with_reducible first|apply d_|apply e_|apply f_|apply g_);focus first|omega|(simp only [q_]<;>omega))|((with_reducible first|apply i_|apply h_);focus first|omega|(simp only [q_]<;>omega))|((with_reducible apply h_);focus first|decide|kernel_rfl)|refine s_ (by decide) ?_|refine t_ (by decide) ?_|(refine Idx.mapI (f := TokenD.c) 0 rfl rq ?_)|(refine GLd.mk _ rfl ?_)|refine r_ pm rfl ?_|with_reducible first|apply l_|apply m_|apply n_|apply o_|refine p_ (fun _ => ?_) (fun _ => ?_))<;>(conv => whnf)))
       all_goals first
        | exact ⟨_, ⟨by decide, hnx⟩, by decide, [], rfl, rfl, ⟨.inl rfl, .inl rfl, .inl rfl, .inl rfl, trivial⟩, trivial⟩
        | (exfalso; omega)
    ·have hk : k = 6 := by omega
     subst hk
     have hop : opAt cmpL rest = none := by rw [rcons]; exact opAt_none_of hno
     have em : moreR a rest = if isM rest[0] wIs then isR a rest else if isM rest[0] wNot then tailR a 1 (rest.drop 1) else tailR a 0 rest := by
      unfold moreR
      rw [hop, isH_at rq, isH_at rq]
     rw [em]
     cases cS : isM rest[0] wIs with
     | true =>
      rw [cS] at pIs
      rw [if_pos rfl]
      unfold isR
      by_cases r2 : rest.length = 2
      ·have q1 : 1 < rest.length := by omega
       have i1 : isH wNull (rest.drop 1) = isM rest[1] wNull := by rw [List.drop_eq_getElem_cons q1]; rfl
       have pU : Pure _ _ [tV rest[1], pStr ⟨#[110, 117, 108, 108]⟩] _ := p_ismark rest[1] wNull
       rw [i1]
       cases cU : isM rest[1] wNull with
       | true =>
        rw [cU] at pU
        rw [if_pos ⟨r2, rfl⟩]
        have pv := p_above a true 18 (by omega)
        ((conv => whnf);repeat' ((first|(with_reducible first|apply a_|apply b_|apply c_)|((with_reducible first|apply d_|apply e_|apply f_|apply g_);focus first|omega|(simp only [q_]<;>omega))|((with_reducible first|apply i_|apply h_);focus first|omega|(simp only [q_]<;>omega))|((with_reducible apply h_);focus first|decide|kernel_rfl)|refine s_ (by decide) ?_|refine t_ (by decide) ?_|(first|refine Idx.mapI (f := TokenD.c) 0 rfl rq ?_|refine Idx.mapI (f := TokenD.c) 1 rfl q1 ?_)|refine r_ pIs rfl ?_|refine r_ pU rfl ?_|refine r_ pv rfl ?_|with_reducible first|apply l_|apply m_|apply n_|apply o_|refine p_ (fun _ => ?_) (fun _ => ?_))<;>(conv => whnf)))
        all_goals first | exact Ret.eq rfl | (exfalso; omega)
       | false =>
        rw [cU] at pU
        rw [if_neg (fun y => by cases y.2), if_neg (fun y => by omega)]
        have pv := p_above a false 19 (by omega)
        ((conv => whnf);repeat' ((first|(with_reducible first|apply a_|apply b_|apply c_)|((with_reducible first|apply d_|apply e_|apply f_|apply g_);focus first|omega|(simp only [q_]<;>omega))|((with_reducible first|apply i_|apply h_);focus first|omega|(simp only [q_]<;>omega))|((with_reducible apply h_);focus first|decide|kernel_rfl)|refine s_ (by decide) ?_|refine t_ (by decide) ?_|(first|refine Idx.mapI (f := TokenD.c) 0 rfl rq ?_|refine Idx.mapI (f := TokenD.c) 1 rfl q1 ?_)|refine r_ pIs rfl ?_|refine r_ pU rfl ?_|refine r_ pv rfl ?_|with_reducible first|apply l_|apply m_|apply n_|apply o_|refine p_ (fun _ => ?_) (fun _ => ?_))<;>(conv => whnf)))
        all_goals first | exact Ret.eq rfl | (exfalso; omega)
      ·rw [if_neg (fun y => r2 y.1)]
       by_cases r3 : rest.length = 3
       ·have q1 : 1 < rest.length := by omega
        have q2 : 2 < rest.length := by omega
        have i1 : isH wNot (rest.drop 1) = isM rest[1] wNot := by rw [List.drop_eq_getElem_cons q1]; rfl
        have i2 : isH wNull (rest.drop 2) = isM rest[2] wNull := by rw [List.drop_eq_getElem_cons q2]; rfl
        have pT : Pure _ _ [tV rest[1], pStr ⟨#[110, 111, 116]⟩] _ := p_ismark rest[1] wNot
        have pU : Pure _ _ [tV rest[2], pStr ⟨#[110, 117, 108, 108]⟩] _ := p_ismark rest[2] wNull
        rw [i1, i2]
        have pv (b : Bool) := p_above a b 19 (by omega)
        cases cT : isM rest[1] wNot with
        | false =>
         rw [cT] at pT
         rw [if_neg (fun y => by cases y.2.1)]
         ((conv => whnf);repeat' ((first|(with_reducible first|apply a_|apply b_|apply c_)|((with_reducible first|apply d_|apply e_|apply f_|apply g_);focus first|omega|(simp only [q_]<;>omega))|((with_reducible first|apply i_|apply h_);focus first|omega|(simp only [q_]<;>omega))|((with_reducible apply h_);focus first|decide|kernel_rfl)|refine s_ (by decide) ?_|refine t_ (by decide) ?_|(first|refine Idx.mapI (f := TokenD.c) 0 rfl rq ?_|refine Idx.mapI (f := TokenD.c) 1 rfl q1 ?_)|refine r_ pIs rfl ?_|refine r_ pT rfl ?_|refine r_ (pv false) rfl ?_|with_reducible first|apply l_|apply m_|apply n_|apply o_|refine p_ (fun _ => ?_) (fun _ => ?_))<;>(conv => whnf)))
         all_goals first | exact Ret.eq rfl | (exfalso; omega)
        | true =>
         rw [cT] at pT
         cases cU : isM rest[2] wNull with
         | false =>
          rw [cU] at pU
          rw [if_neg (fun y => by cases y.2.2)]
          ((conv => whnf);repeat' ((first|(with_reducible first|apply a_|apply b_|apply c_)|((with_reducible first|apply d_|apply e_|apply f_|apply g_);focus first|omega|(simp only [q_]<;>omega))|((with_reducible first|apply i_|apply h_);focus first|omega|(simp only [q_]<;>omega))|((with_reducible apply h_);focus first|decide|kernel_rfl)|refine s_ (by decide) ?_|refine t_ (by decide) ?_|(first|refine Idx.mapI (f := TokenD.c) 0 rfl rq ?_|refine Idx.mapI (f := TokenD.c) 1 rfl q1 ?_|refine Idx.mapI (f := TokenD.c) 2 rfl q2 ?_)|refine r_ pIs rfl ?_|refine r_ pT rfl ?_|refine r_ pU rfl ?_|refine r_ (pv false) rfl ?_|with_reducible first|apply l_|apply m_|apply n_|apply o_|refine p_ (fun _ => ?_) (fun _ => ?_))<;>(conv => whnf)))
          all_goals first | exact Ret.eq rfl | (exfalso; omega)
         | true =>
          rw [cU] at pU
          rw [if_pos ⟨r3, rfl, rfl⟩]
          ((conv => whnf);repeat' ((first|(with_reducible first|apply a_|apply b_|apply c_)|((with_reducible first|apply d_|apply e_|apply f_|apply g_);focus first|omega|(simp only [q_]<;>omega))|((with_reducible first|apply i_|apply h_);focus first|omega|(simp only [q_]<;>omega))|((with_reducible apply h_);focus first|decide|kernel_rfl)|refine s_ (by decide) ?_|refine t_ (by decide) ?_|(first|refine Idx.mapI (f := TokenD.c) 0 rfl rq ?_|refine Idx.mapI (f := TokenD.c) 1 rfl q1 ?_|refine Idx.mapI (f := TokenD.c) 2 rfl q2 ?_)|refine r_ pIs rfl ?_|refine r_ pT rfl ?_|refine r_ pU rfl ?_|refine r_ (pv true) rfl ?_|with_reducible first|apply l_|apply m_|apply n_|apply o_|refine p_ (fun _ => ?_) (fun _ => ?_))<;>(conv => whnf)))
          all_goals first | exact Ret.eq rfl | (exfalso; omega)
       ·rw [if_neg (fun y => r3 y.1)]
        have pv := p_above a false 19 (by omega)
        ((conv => whnf);repeat' ((first|(with_reducible first|apply a_|apply b_|apply c_)|((with_reducible first|apply d_|apply e_|apply f_|apply g_);focus first|omega|(simp only [q_]<;>omega))|((with_reducible first|apply i_|apply h_);focus first|omega|(simp only [q_]<;>omega))|((with_reducible apply h_);focus first|decide|kernel_rfl)|refine s_ (by decide) ?_|refine t_ (by decide) ?_|(first|refine Idx.mapI (f := TokenD.c) 0 rfl rq ?_)|refine r_ pIs rfl ?_|refine r_ pv rfl ?_|with_reducible first|apply l_|apply m_|apply n_|apply o_|refine p_ (fun _ => ?_) (fun _ => ?_))<;>(conv => whnf)))
        all_goals first | exact Ret.eq rfl | (exfalso; omega)
     | false =>
      rw [cS] at pIs
      rw [if_neg (by decide)]
      cases cN : isM rest[0] wNot with
      | true =>
       rw [cN] at pNo
       rw [if_pos rfl]
       obtain ⟨m, hm⟩ : ∃ m, m = rest.drop 1 := ⟨_, rfl⟩
       have mtx : okTx m := by rw [hm]; exact okTx_drop rtx _
       have hR : ((rest.map TokenD.c).drop (Int.toNat 1)).take ((((rest.map TokenD.c).length : Nat) : Int).toNat - Int.toNat 1) = m.map TokenD.c := by
        rw [Int.toNat_natCast, hrml, show Int.toNat 1 = 1 from rfl, ← List.map_drop, ← hm, List.take_of_length_le (by rw [List.length_map, hm, List.length_drop]; omega)]
       have hml3 : m.length = rest.length - 1 := by rw [hm, List.length_drop]
       rw [← hm]
       have hRl : (((rest.map TokenD.c).drop (Int.toNat 1)).take ((((rest.map TokenD.c).length : Nat) : Int).toNat - Int.toNat 1)).length = m.length := by rw [hR, List.length_map]
       have hm1 : m.length ≤ l.length := by omega
       by_cases m0 : m.length = 0
       ·have e0 : m = [] := List.eq_nil_of_length_eq_zero m0
        have et : tailR a 1 m = none := by rw [e0]; rfl
        rw [et]
        ((conv => whnf);repeat' ((first|(with_reducible first|apply a_|apply b_|apply c_)|((with_reducible first|apply d_|apply e_|apply f_|apply g_);focus first|omega|(simp only [q_]<;>omega))|((with_reducible first|apply i_|apply h_);focus first|omega|(simp only [q_]<;>omega))|((with_reducible apply h_);focus first|decide|kernel_rfl)|refine s_ (by decide) ?_|refine t_ (by decide) ?_|(refine Idx.mapI (f := TokenD.c) 0 rfl rq ?_)|refine r_ pIs rfl ?_|refine r_ pNo rfl ?_|with_reducible first|apply l_|apply m_|apply n_|apply o_|refine p_ (fun _ => ?_) (fun _ => ?_))<;>(conv => whnf)))
        all_goals first | exact Ret.le ⟨.inr ⟨⟨6, rfl⟩, .inl rfl⟩, .inl rfl, rfl⟩ | (exfalso; omega)
       ·have mq : 0 < m.length := by omega
        have ph (s : List UInt8) := p_ismark (m[0]) s
        have pLk : Pure _ _ [tV m[0], pStr ⟨#[108, 105, 107, 101]⟩] _ := ph wLike
        have pBt : Pure _ _ [tV m[0], pStr ⟨#[98, 101, 116, 119, 101, 101, 110]⟩] _ := ph wBetw
        have pIn : Pure _ _ [tV m[0], pStr ⟨#[105, 110]⟩] _ := ph wIn
        unfold tailR
        rw [isH_at mq, isH_at mq, isH_at mq]
        cases cL : isM m[0] wLike with
        | true =>
         rw [cL] at pLk
         rw [if_pos rfl]
         have pa := Pure.cutR hR 1 m.length (lo := 1) (hi := (((((rest.map TokenD.c).drop (Int.toNat 1)).take ((((rest.map TokenD.c).length : Nat) : Int).toNat - Int.toNat 1)).length : Nat) : Int)) rfl (by omega) (by rw [List.take_of_length_le (by rw [List.length_drop]; omega)]) (h5 (m.drop 1) (by rw [List.length_drop]; omega) (okTx_drop mtx _))
         have k1 := pK_len 5 (m.drop 1)
         rw [List.length_drop] at k1
         have pb := p_both (some a) (pK 5 (m.drop 1)) (20 + (1 : Int)) (by show a.length + _ ≤ _; omega)
         ((conv => whnf);repeat' ((first|(with_reducible first|apply a_|apply b_|apply c_)|((with_reducible first|apply d_|apply e_|apply f_|apply g_);focus first|omega|(simp only [q_]<;>omega))|((with_reducible first|apply i_|apply h_);focus first|omega|(simp only [q_]<;>omega))|((with_reducible apply h_);focus first|decide|kernel_rfl)|refine s_ (by decide) ?_|refine t_ (by decide) ?_|(refine Idx.mapI (f := TokenD.c) 0 rfl rq ?_)|refine r_ pIs rfl ?_|refine r_ pNo rfl ?_|(refine Idx.eq hR (Idx.mapI (f := TokenD.c) 0 rfl mq ?_))|refine r_ pLk rfl ?_|refine r_ pa rfl ?_|refine r_ pb rfl ?_|with_reducible first|apply l_|apply m_|apply n_|apply o_|refine p_ (fun _ => ?_) (fun _ => ?_))<;>(conv => whnf)))
         all_goals first | exact Ret.eq rfl | (exfalso; omega)
        | false =>
         rw [cL] at pLk
         rw [if_neg (by decide)]
         cases cB : isM m[0] wBetw with
         | true =>
          rw [cB] at pBt
          rw [if_pos rfl]
          have pd := (show Pure Tryz.prog 71 [.d (.c (.sl 4 (((rest.map TokenD.c).drop (Int.toNat 1)).take ((((rest.map TokenD.c).length : Nat) : Int).toNat - Int.toNat 1))))] _ from by have := p_depthsof m (by omega); rw [show slV 4 TokenD.c m = .d (.c (.sl 4 (((rest.map TokenD.c).drop (Int.toNat 1)).take ((((rest.map TokenD.c).length : Nat) : Int).toNat - Int.toNat 1)))) by rw [hR]] at this; exact this)
          unfold betwR andAt
          by_cases d0 : dEnd 0 m = some 0
          ·rw [depR_ok d0] at pd
           have pd : Pure _ _ _ (.tup [slV 1 dC (depV 0 m), pBool true]) := pd
           rw [if_pos d0]
           have dl : (depV 0 m).length = m.length := depV_len _ _
           have hb0 : hitB [wAnd] 0 m 0 = false := by
            rw [hit_at mq (by omega), isM_ne cB (by decide), Bool.and_false]
           ((conv => whnf);repeat' ((first|(with_reducible first|apply a_|apply b_|apply c_)|((with_reducible first|apply d_|apply e_|apply f_|apply g_);focus first|omega|(simp only [q_]<;>omega))|((with_reducible first|apply i_|apply h_);focus first|omega|(simp only [q_]<;>omega))|((with_reducible apply h_);focus first|decide|kernel_rfl)|refine s_ (by decide) ?_|refine t_ (by decide) ?_|(refine Idx.mapI (f := TokenD.c) 0 rfl rq ?_)|refine r_ pIs rfl ?_|refine r_ pNo rfl ?_|(refine Idx.eq hR (Idx.mapI (f := TokenD.c) 0 rfl mq ?_))|refine r_ pLk rfl ?_|refine r_ pBt rfl ?_|refine r_ pd rfl ?_|with_reducible first|apply l_|apply m_|apply n_|apply o_|refine p_ (fun _ => ?_) (fun _ => ?_))<;>(conv => whnf)))
           refine LoopC.mk (Nat × Option Nat) (fun s => [(5, slV 6 NodeD.c a), (7, slV 4 TokenD.c m), (11, pInt .i64 1), (14, pInt .i64 (atI s.2)), (15, slV 1 dC (depV 0 m)), (16, pBool true), (17, pInt .i64 (s.1 : Int))]) (fun _ => []) [] (fun s => s.1 < m.length ∧ (s.2 = none → ∀ j, s.1 < j → hitB [wAnd] 0 m j = false) ∧ (∀ j, s.2 = some j → j < m.length ∧ s.1 < j ∧ hitB [wAnd] 0 m j = true ∧ ∀ i, s.1 < i → i < j → hitB [wAnd] 0 m i = false)) (fun s => s.1) (m.length - 1, none) ⟨by show m.length - 1 < _; omega, fun _ j (hj : m.length - 1 < j) => hit_out (by omega), fun j h => by cases h⟩ ?starta ?rounda
           case starta => exact ⟨[], rfl, rfl, ⟨.inl rfl, PLe.c (by rw [hR]), .inl rfl, .inl rfl, .inl rfl, .inl rfl, PLe.int (by show _ = ((m.length - 1 : Nat) : Int); omega), trivial⟩, trivial⟩
           case rounda =>
            rintro ⟨i, x⟩ ⟨hi, hx1, hx2⟩
            have hi : i < m.length := hi
            have hx1 : x = none → ∀ j, i < j → hitB [wAnd] 0 m j = false := hx1
            have hx2 : ∀ j, x = some j → j < m.length ∧ i < j ∧ hitB [wAnd] 0 m j = true ∧ ∀ i', i < i' → i' < j → hitB [wAnd] 0 m i' = false := hx2
            by_cases i0 : 0 < i
            ·have hdi : i < (depV 0 m).length := by omega
             have hh := hit_at (w := wAnd) hi hdi
             have pm : Pure _ _ [tV m[i], pStr ⟨#[97, 110, 100]⟩] _ := p_ismark m[i] wAnd
             have miss : hitB [wAnd] 0 m i = false → (i - 1 < m.length ∧ (x = none → ∀ j, i - 1 < j → hitB [wAnd] 0 m j = false) ∧ (∀ j, x = some j → j < m.length ∧ i - 1 < j ∧ hitB [wAnd] 0 m j = true ∧ ∀ i', i - 1 < i' → i' < j → hitB [wAnd] 0 m i' = false)) := by
              intro hm
              refine ⟨by omega, fun y j hj => ?_, fun j hj => ?_⟩
              ·rcases Nat.lt_or_ge i j with z | z
               ·exact hx1 y j z
               ·rw [show j = i by omega]; exact hm
              ·obtain ⟨y0, y1, y2, y3⟩ := hx2 j hj
               refine ⟨y0, by omega, y2, fun i' a b => ?_⟩
               rcases Nat.lt_or_ge i i' with z | z
               ·exact y3 i' z b
               ·rw [show i' = i by omega]; exact hm
             generalize hrr : (depV 0 m)[i] = r at hh
             by_cases r0 : r = 0
             ·subst r0
              cases hm : isM m[i] wAnd with
              | true =>
               rw [hm] at pm hh
               have hhit : hitB [wAnd] 0 m i = true := by rw [hh]; rfl
               ((conv => whnf);repeat' ((first|(with_reducible first|apply a_|apply b_|apply c_)|((with_reducible first|apply d_|apply e_|apply f_|apply g_);focus first|omega|(simp only [q_]<;>omega))|((with_reducible first|apply i_|apply h_);focus first|omega|(simp only [q_]<;>omega))|((with_reducible apply h_);focus first|decide|kernel_rfl)|refine s_ (by decide) ?_|refine t_ (by decide) ?_|(first|refine Idx.mapE (f := dC) i rfl hdi hrr ?_|refine Idx.mapI (f := TokenD.c) i rfl hi ?_)|refine r_ pm rfl ?_|with_reducible first|apply l_|apply m_|apply n_|apply o_|refine p_ (fun _ => ?_) (fun _ => ?_))<;>(conv => whnf)))
               all_goals first
                | exact ⟨(i - 1, some i), ⟨by show i - 1 < _; omega, fun (y : some i = none) => (by cases y), fun j (hj : some i = some j) => by cases hj; exact ⟨hi, by show i - 1 < i; omega, hhit, fun i' (a : i - 1 < i') b => absurd b (by omega)⟩⟩, by show i - 1 < i; omega, [], rfl, rfl, ⟨.inl rfl, .inl rfl, .inl rfl, .inl rfl, .inl rfl, .inl rfl, PLe.int (show (i : Int) - 1 = ((i - 1 : Nat) : Int) by omega), trivial⟩, trivial⟩
                | (exfalso; omega)
              | false =>
               rw [hm] at pm hh
               have hmis := miss (by rw [hh]; rfl)
               ((conv => whnf);repeat' ((first|(with_reducible first|apply a_|apply b_|apply c_)|((with_reducible first|apply d_|apply e_|apply f_|apply g_);focus first|omega|(simp only [q_]<;>omega))|((with_reducible first|apply i_|apply h_);focus first|omega|(simp only [q_]<;>omega))|((with_reducible apply h_);focus first|decide|kernel_rfl)|refine s_ (by decide) ?_|refine t_ (by decide) ?_|(first|refine Idx.mapE (f := dC) i rfl hdi hrr ?_|refine Idx.mapI (f := TokenD.c) i rfl hi ?_)|refine r_ pm rfl ?_|with_reducible first|apply l_|apply m_|apply n_|apply o_|refine p_ (fun _ => ?_) (fun _ => ?_))<;>(conv => whnf)))
               all_goals first
                | exact ⟨(i - 1, x), hmis, by show i - 1 < i; omega, [], rfl, rfl, ⟨.inl rfl, .inl rfl, .inl rfl, .inl rfl, .inl rfl, .inl rfl, PLe.int (show (i : Int) - 1 = ((i - 1 : Nat) : Int) by omega), trivial⟩, trivial⟩
                | (exfalso; omega)
             ·have hmis := miss (by rw [hh, decide_eq_false r0]; rfl)
              ((conv => whnf);repeat' ((first|(with_reducible first|apply a_|apply b_|apply c_)|((with_reducible first|apply d_|apply e_|apply f_|apply g_);focus first|omega|(simp only [q_]<;>omega))|((with_reducible first|apply i_|apply h_);focus first|omega|(simp only [q_]<;>omega))|((with_reducible apply h_);focus first|decide|kernel_rfl)|refine s_ (by decide) ?_|refine t_ (by decide) ?_|(first|refine Idx.mapE (f := dC) i rfl hdi hrr ?_|refine Idx.mapI (f := TokenD.c) i rfl hi ?_)|with_reducible first|apply l_|apply m_|apply n_|apply o_|refine p_ (fun _ => ?_) (fun _ => ?_))<;>(conv => whnf)))
              all_goals first
               | exact ⟨(i - 1, x), hmis, by show i - 1 < i; omega, [], rfl, rfl, ⟨.inl rfl, .inl rfl, .inl rfl, .inl rfl, .inl rfl, .inl rfl, PLe.int (show (i : Int) - 1 = ((i - 1 : Nat) : Int) by omega), trivial⟩, trivial⟩
               | (exfalso; omega)
            ·have hi0 : i = 0 := by omega
             subst hi0
             rw [first_is hb0 hx1 (fun j hj => (hx2 j hj).2)]
             cases x with
             | none =>
              have hat : atI none = -1 := rfl
              ((conv => whnf);repeat' ((first|(with_reducible first|apply a_|apply b_|apply c_)|((with_reducible first|apply d_|apply e_|apply f_|apply g_);focus first|omega|(simp only [q_]<;>omega))|((with_reducible first|apply i_|apply h_);focus first|omega|(simp only [q_]<;>omega))|((with_reducible apply h_);focus first|decide|kernel_rfl)|refine s_ (by decide) ?_|refine t_ (by decide) ?_|with_reducible first|apply l_|apply m_|apply n_|apply o_|refine p_ (fun _ => ?_) (fun _ => ?_))<;>(conv => whnf)))
              all_goals first | exact Ret.le ⟨.inr ⟨⟨6, rfl⟩, .inl rfl⟩, .inl rfl, rfl⟩ | (exfalso; omega)
             | some j =>
              obtain ⟨hjl, hj0, _, _⟩ := hx2 j rfl
              have hat : atI (some j) = (j : Int) := rfl
              have pa := Pure.cut m 1 j (lo := 1) (hi := atI (some j)) rfl rfl (x := (m.take j).drop 1) (by rw [List.drop_take]) (h5 ((m.take j).drop 1) (by rw [List.length_drop, List.length_take]; omega) (okTx_drop (okTx_take mtx _) _))
              have pb := Pure.cut m (j + 1) m.length (lo := atI (some j) + 1) (hi := (((m.map TokenD.c).length : Nat) : Int)) rfl (by rw [List.length_map]) (x := m.drop (j + 1)) (by rw [List.take_of_length_le (by rw [List.length_drop]; omega)]) (h5 (m.drop (j + 1)) (by rw [List.length_drop]; omega) (okTx_drop mtx _))
              have k1 := pK_len 5 ((m.take j).drop 1)
              have k2 := pK_len 5 (m.drop (j + 1))
              rw [List.length_drop, List.length_take] at k1
              rw [List.length_drop] at k2
              have hml2 : (m.map TokenD.c).length = m.length := List.length_map _
              dsimp only
              cases hb : pK 5 ((m.take j).drop 1) with
              | none =>
               rw [hb] at pa
               have pa : Pure _ _ _ (.tup [slV 6 NodeD.c [], pBool false]) := pa
               ((conv => whnf);repeat' ((first|(with_reducible first|apply a_|apply b_|apply c_)|((with_reducible first|apply d_|apply e_|apply f_|apply g_);focus first|omega|(simp only [q_]<;>omega))|((with_reducible first|apply i_|apply h_);focus first|omega|(simp only [q_]<;>omega))|((with_reducible apply h_);focus first|decide|kernel_rfl)|refine s_ (by decide) ?_|refine t_ (by decide) ?_|refine r_ pa rfl ?_|refine r_ pb rfl ?_|with_reducible first|apply l_|apply m_|apply n_|apply o_|refine p_ (fun _ => ?_) (fun _ => ?_))<;>(conv => whnf)))
               all_goals first | exact Ret.le ⟨.inr ⟨⟨6, rfl⟩, .inl rfl⟩, .inl rfl, rfl⟩ | (exfalso; omega)
              | some b =>
               rw [hb] at pa k1
               have k1 : b.length ≤ min j m.length - 1 := k1
               have pa : Pure _ _ _ (.tup [slV 6 NodeD.c b, pBool true]) := pa
               cases hc : pK 5 (m.drop (j + 1)) with
               | none =>
                rw [hc] at pb
                have pb : Pure _ _ _ (.tup [slV 6 NodeD.c [], pBool false]) := pb
                ((conv => whnf);repeat' ((first|(with_reducible first|apply a_|apply b_|apply c_)|((with_reducible first|apply d_|apply e_|apply f_|apply g_);focus first|omega|(simp only [q_]<;>omega))|((with_reducible first|apply i_|apply h_);focus first|omega|(simp only [q_]<;>omega))|((with_reducible apply h_);focus first|decide|kernel_rfl)|refine s_ (by decide) ?_|refine t_ (by decide) ?_|refine r_ pa rfl ?_|refine r_ pb rfl ?_|with_reducible first|apply l_|apply m_|apply n_|apply o_|refine p_ (fun _ => ?_) (fun _ => ?_))<;>(conv => whnf)))
                all_goals first | exact Ret.le ⟨.inr ⟨⟨6, rfl⟩, .inl rfl⟩, .inl rfl, rfl⟩ | (exfalso; omega)
               | some c =>
                rw [hc] at pb k2
                have k2 : c.length ≤ m.length - (j + 1) := k2
                have pb : Pure _ _ _ (.tup [slV 6 NodeD.c c, pBool true]) := pb
                have e : (a ++ b ++ c ++ [nOp (24 + (1 : Int)) 3]).map NodeD.c = [] ++ a.map NodeD.c ++ b.map NodeD.c ++ c.map NodeD.c ++ [(nOp (24 + (1 : Int)) 3).c] := by rw [List.map_append, List.map_append, List.map_append]; rfl
                ((conv => whnf);repeat' ((first|(with_reducible first|apply a_|apply b_|apply c_)|((with_reducible first|apply d_|apply e_|apply f_|apply g_);focus first|omega|(simp only [q_]<;>omega))|((with_reducible first|apply i_|apply h_);focus first|omega|(simp only [q_]<;>omega))|((with_reducible apply h_);focus first|decide|kernel_rfl)|refine s_ (by decide) ?_|refine t_ (by decide) ?_|refine r_ pa rfl ?_|refine r_ pb rfl ?_|(refine Need.by 64 rfl (by simp only [List.length_append, List.length_map, List.length_cons, List.length_nil];omega) ?_)|with_reducible first|apply l_|apply m_|apply n_|apply o_|refine p_ (fun _ => ?_) (fun _ => ?_))<;>(conv => whnf)))
                all_goals first | (refine Ret.eq ?_; show _ = PV.tup [.d (.c (.sl 6 ((a ++ b ++ c ++ [nOp (24 + (1 : Int)) 3]).map NodeD.c))), pBool true]; rw [e]; rfl) | (exfalso; omega)
          ·have dr := depR_no d0
           rw [dr] at pd
           rw [if_neg d0]
           ((conv => whnf);repeat' ((first|(with_reducible first|apply a_|apply b_|apply c_)|((with_reducible first|apply d_|apply e_|apply f_|apply g_);focus first|omega|(simp only [q_]<;>omega))|((with_reducible first|apply i_|apply h_);focus first|omega|(simp only [q_]<;>omega))|((with_reducible apply h_);focus first|decide|kernel_rfl)|refine s_ (by decide) ?_|refine t_ (by decide) ?_|(refine Idx.mapI (f := TokenD.c) 0 rfl rq ?_)|refine r_ pIs rfl ?_|refine r_ pNo rfl ?_|(refine Idx.eq hR (Idx.mapI (f := TokenD.c) 0 rfl mq ?_))|refine r_ pLk rfl ?_|refine r_ pBt rfl ?_|refine r_ pd rfl ?_|with_reducible first|apply l_|apply m_|apply n_|apply o_|refine p_ (fun _ => ?_) (fun _ => ?_))<;>(conv => whnf)))
           refine LoopC.mk Nat (fun i => [(5, slV 6 NodeD.c a), (7, slV 4 TokenD.c m), (14, pInt .i64 (-1)), (16, pBool false), (17, pInt .i64 (i : Int))]) (fun _ => []) [] (fun i => True) (fun i => i) (m.length - 1) trivial ?startfa ?roundfa
           case startfa => exact ⟨[], rfl, rfl, ⟨.inl rfl, PLe.c (by rw [hR]), .inl rfl, .inl rfl, PLe.int (by omega), trivial⟩, trivial⟩
           case roundfa =>
            intro i _
            by_cases i0 : 0 < i
            ·((conv => whnf);repeat' ((first|(with_reducible first|apply a_|apply b_|apply c_)|((with_reducible first|apply d_|apply e_|apply f_|apply g_);focus first|omega|(simp only [q_]<;>omega))|((with_reducible first|apply i_|apply h_);focus first|omega|(simp only [q_]<;>omega))|((with_reducible apply h_);focus first|decide|kernel_rfl)|refine s_ (by decide) ?_|refine t_ (by decide) ?_|with_reducible first|apply l_|apply m_|apply n_|apply o_|refine p_ (fun _ => ?_) (fun _ => ?_))<;>(conv => whnf)))
             all_goals first | exact Ret.le ⟨.inr ⟨⟨6, rfl⟩, .inl rfl⟩, .inl rfl, rfl⟩ | (exfalso; omega)
            ·((conv => whnf);repeat' ((first|(with_reducible first|apply a_|apply b_|apply c_)|((with_reducible first|apply d_|apply e_|apply f_|apply g_);focus first|omega|(simp only [q_]<;>omega))|((with_reducible first|apply i_|apply h_);focus first|omega|(simp only [q_]<;>omega))|((with_reducible apply h_);focus first|decide|kernel_rfl)|refine s_ (by decide) ?_|refine t_ (by decide) ?_|with_reducible first|apply l_|apply m_|apply n_|apply o_|refine p_ (fun _ => ?_) (fun _ => ?_))<;>(conv => whnf)))
             all_goals first | exact Ret.le ⟨.inr ⟨⟨6, rfl⟩, .inl rfl⟩, .inl rfl, rfl⟩ | (exfalso; omega)
         | false =>
          rw [cB] at pBt
          rw [if_neg (by decide)]
          cases cI : isM m[0] wIn with
          | false =>
           rw [cI] at pIn
           rw [if_neg (fun y => by cases y.1)]
           ((conv => whnf);repeat' ((first|(with_reducible first|apply a_|apply b_|apply c_)|((with_reducible first|apply d_|apply e_|apply f_|apply g_);focus first|omega|(simp only [q_]<;>omega))|((with_reducible first|apply i_|apply h_);focus first|omega|(simp only [q_]<;>omega))|((with_reducible apply h_);focus first|decide|kernel_rfl)|refine s_ (by decide) ?_|refine t_ (by decide) ?_|(refine Idx.mapI (f := TokenD.c) 0 rfl rq ?_)|refine r_ pIs rfl ?_|refine r_ pNo rfl ?_|(refine Idx.eq hR (Idx.mapI (f := TokenD.c) 0 rfl mq ?_))|refine r_ pLk rfl ?_|refine r_ pBt rfl ?_|refine r_ pIn rfl ?_|with_reducible first|apply l_|apply m_|apply n_|apply o_|refine p_ (fun _ => ?_) (fun _ => ?_))<;>(conv => whnf)))
           all_goals first | exact Ret.le ⟨.inr ⟨⟨6, rfl⟩, .inl rfl⟩, .inl rfl, rfl⟩ | (exfalso; omega)
          | true =>
           rw [cI] at pIn
           by_cases m3 : 3 ≤ m.length
           ·have q1 : 1 < m.length := by omega
            have q2 : m.length - 1 < m.length := by omega
            have c2 : (((((rest.map TokenD.c).drop (Int.toNat 1)).take ((((rest.map TokenD.c).length : Nat) : Int).toNat - Int.toNat 1)).length : Nat) : Int) - 1 = ((m.length - 1 : Nat) : Int) := by omega
            have pL : Pure _ _ [tV m[1], pStr ⟨#[40]⟩] _ := p_ismark m[1] sLp
            have pR : Pure _ _ [tV m[m.length - 1], pStr ⟨#[41]⟩] _ := p_ismark m[m.length - 1] sRp
            have i1 : isH sLp (m.drop 1) = isM m[1] sLp := by rw [List.drop_eq_getElem_cons q1]; rfl
            have i2 : isH sRp (m.drop (m.length - 1)) = isM m[m.length - 1] sRp := by rw [List.drop_eq_getElem_cons q2]; rfl
            rw [i1, i2]
            cases c1 : isM m[1] sLp with
            | false =>
             rw [c1] at pL
             rw [if_neg (fun y => by cases y.2.2.1)]
             ((conv => whnf);repeat' ((first|(with_reducible first|apply a_|apply b_|apply c_)|((with_reducible first|apply d_|apply e_|apply f_|apply g_);focus first|omega|(simp only [q_]<;>omega))|((with_reducible first|apply i_|apply h_);focus first|omega|(simp only [q_]<;>omega))|((with_reducible apply h_);focus first|decide|kernel_rfl)|refine s_ (by decide) ?_|refine t_ (by decide) ?_|(refine Idx.mapI (f := TokenD.c) 0 rfl rq ?_)|refine r_ pIs rfl ?_|refine r_ pNo rfl ?_|(first|refine Idx.eq hR (Idx.mapI (f := TokenD.c) 0 rfl mq ?_)|refine Idx.eq hR (Idx.mapI (f := TokenD.c) 1 rfl q1 ?_))|refine r_ pLk rfl ?_|refine r_ pBt rfl ?_|refine r_ pIn rfl ?_|refine r_ pL rfl ?_|with_reducible first|apply l_|apply m_|apply n_|apply o_|refine p_ (fun _ => ?_) (fun _ => ?_))<;>(conv => whnf)))
             all_goals first | exact Ret.le ⟨.inr ⟨⟨6, rfl⟩, .inl rfl⟩, .inl rfl, rfl⟩ | (exfalso; omega)
            | true =>
             rw [c1] at pL
             cases c3 : isM m[m.length - 1] sRp with
             | false =>
              rw [c3] at pR
              rw [if_neg (fun y => by cases y.2.2.2)]
              ((conv => whnf);repeat' ((first|(with_reducible first|apply a_|apply b_|apply c_)|((with_reducible first|apply d_|apply e_|apply f_|apply g_);focus first|omega|(simp only [q_]<;>omega))|((with_reducible first|apply i_|apply h_);focus first|omega|(simp only [q_]<;>omega))|((with_reducible apply h_);focus first|decide|kernel_rfl)|refine s_ (by decide) ?_|refine t_ (by decide) ?_|(refine Idx.mapI (f := TokenD.c) 0 rfl rq ?_)|refine r_ pIs rfl ?_|refine r_ pNo rfl ?_|(first|refine Idx.eq hR (Idx.mapI (f := TokenD.c) 0 rfl mq ?_)|refine Idx.eq hR (Idx.mapI (f := TokenD.c) 1 rfl q1 ?_)|refine Idx.eq hR (Idx.mapI (f := TokenD.c) (m.length - 1) c2 q2 ?_))|refine r_ pLk rfl ?_|refine r_ pBt rfl ?_|refine r_ pIn rfl ?_|refine r_ pL rfl ?_|refine r_ pR rfl ?_|with_reducible first|apply l_|apply m_|apply n_|apply o_|refine p_ (fun _ => ?_) (fun _ => ?_))<;>(conv => whnf)))
              all_goals first | exact Ret.le ⟨.inr ⟨⟨6, rfl⟩, .inl rfl⟩, .inl rfl, rfl⟩ | (exfalso; omega)
             | true =>
              rw [c3] at pR
              rw [if_pos ⟨rfl, m3, rfl, rfl⟩]
              have pl := p_readlist (N := N - 1) (by omega) a ((m.drop 2).take (m.length - 3)) (22 + (1 : Int)) (by rw [List.length_take, List.length_drop]; omega) (okTx_take (okTx_drop mtx _) _) (by omega) (h1 (by omega))
              have ecut : slV 4 TokenD.c ((m.drop 2).take (m.length - 3)) = .d (.c (.sl 4 (((((rest.map TokenD.c).drop (Int.toNat 1)).take ((((rest.map TokenD.c).length : Nat) : Int).toNat - Int.toNat 1)).drop (Int.toNat 2)).take (Int.toNat ((((((rest.map TokenD.c).drop (Int.toNat 1)).take ((((rest.map TokenD.c).length : Nat) : Int).toNat - Int.toNat 1)).length : Nat) : Int) - 1) - Int.toNat 2)))) := by
               rw [c2, hR, Int.toNat_natCast, show Int.toNat 2 = 2 from rfl, ← List.map_drop, ← List.map_take, show m.length - 1 - 2 = m.length - 3 by omega]
              rw [ecut] at pl
              ((conv => whnf);repeat' ((first|(with_reducible first|apply a_|apply b_|apply c_)|((with_reducible first|apply d_|apply e_|apply f_|apply g_);focus first|omega|(simp only [q_]<;>omega))|((with_reducible first|apply i_|apply h_);focus first|omega|(simp only [q_]<;>omega))|((with_reducible apply h_);focus first|decide|kernel_rfl)|refine s_ (by decide) ?_|refine t_ (by decide) ?_|(refine Idx.mapI (f := TokenD.c) 0 rfl rq ?_)|refine r_ pIs rfl ?_|refine r_ pNo rfl ?_|(first|refine Idx.eq hR (Idx.mapI (f := TokenD.c) 0 rfl mq ?_)|refine Idx.eq hR (Idx.mapI (f := TokenD.c) 1 rfl q1 ?_)|refine Idx.eq hR (Idx.mapI (f := TokenD.c) (m.length - 1) c2 q2 ?_))|refine r_ pLk rfl ?_|refine r_ pBt rfl ?_|refine r_ pIn rfl ?_|refine r_ pL rfl ?_|refine r_ pR rfl ?_|refine r_ pl rfl ?_|with_reducible first|apply l_|apply m_|apply n_|apply o_|refine p_ (fun _ => ?_) (fun _ => ?_))<;>(conv => whnf)))
              all_goals first | exact Ret.eq rfl | (exfalso; omega)
           ·rw [if_neg (fun y => m3 y.2.1)]
            ((conv => whnf);repeat' ((first|(with_reducible first|apply a_|apply b_|apply c_)|((with_reducible first|apply d_|apply e_|apply f_|apply g_);focus first|omega|(simp only [q_]<;>omega))|((with_reducible first|apply i_|apply h_);focus first|omega|(simp only [q_]<;>omega))|((with_reducible apply h_);focus first|decide|kernel_rfl)|refine s_ (by decide) ?_|refine t_ (by decide) ?_|(refine Idx.mapI (f := TokenD.c) 0 rfl rq ?_)|refine r_ pIs rfl ?_|refine r_ pNo rfl ?_|(first|refine Idx.eq hR (Idx.mapI (f := TokenD.c) 0 rfl mq ?_))|refine r_ pLk rfl ?_|refine r_ pBt rfl ?_|refine r_ pIn rfl ?_|with_reducible first|apply l_|apply m_|apply n_|apply o_|refine p_ (fun _ => ?_) (fun _ => ?_))<;>(conv => whnf)))
            all_goals first | exact Ret.le ⟨.inr ⟨⟨6, rfl⟩, .inl rfl⟩, .inl rfl, rfl⟩ | (exfalso; omega)
      | false =>
       rw [cN] at pNo
       rw [if_neg (by decide)]
       have mtx : okTx rest := rtx
       have hR : rest.map TokenD.c = rest.map TokenD.c := rfl
       have hRl : (rest.map TokenD.c).length = rest.length := by rw [hR, List.length_map]
       have hm1 : rest.length ≤ l.length := by omega
       by_cases m0 : rest.length = 0
       ·have e0 : rest = [] := List.eq_nil_of_length_eq_zero m0
        have et : tailR a 0 rest = none := by rw [e0]; rfl
        rw [et]
        ((conv => whnf);repeat' ((first|(with_reducible first|apply a_|apply b_|apply c_)|((with_reducible first|apply d_|apply e_|apply f_|apply g_);focus first|omega|(simp only [q_]<;>omega))|((with_reducible first|apply i_|apply h_);focus first|omega|(simp only [q_]<;>omega))|((with_reducible apply h_);focus first|decide|kernel_rfl)|refine s_ (by decide) ?_|refine t_ (by decide) ?_|(refine Idx.mapI (f := TokenD.c) 0 rfl rq ?_)|refine r_ pIs rfl ?_|refine r_ pNo rfl ?_|with_reducible first|apply l_|apply m_|apply n_|apply o_|refine p_ (fun _ => ?_) (fun _ => ?_))<;>(conv => whnf)))
        all_goals first | exact Ret.le ⟨.inr ⟨⟨6, rfl⟩, .inl rfl⟩, .inl rfl, rfl⟩ | (exfalso; omega)
       ·have mq : 0 < rest.length := by omega
        have ph (s : List UInt8) := p_ismark (rest[0]) s
        have pLk : Pure _ _ [tV rest[0], pStr ⟨#[108, 105, 107, 101]⟩] _ := ph wLike
        have pBt : Pure _ _ [tV rest[0], pStr ⟨#[98, 101, 116, 119, 101, 101, 110]⟩] _ := ph wBetw
        have pIn : Pure _ _ [tV rest[0], pStr ⟨#[105, 110]⟩] _ := ph wIn
        unfold tailR
        rw [isH_at mq, isH_at mq, isH_at mq]
        cases cL : isM rest[0] wLike with
        | true =>
         rw [cL] at pLk
         rw [if_pos rfl]
         have pa := Pure.cutR hR 1 rest.length (lo := 1) (hi := (((rest.map TokenD.c).length : Nat) : Int)) rfl (by omega) (by rw [List.take_of_length_le (by rw [List.length_drop]; omega)]) (h5 (rest.drop 1) (by rw [List.length_drop]; omega) (okTx_drop mtx _))
         have k1 := pK_len 5 (rest.drop 1)
         rw [List.length_drop] at k1
         have pb := p_both (some a) (pK 5 (rest.drop 1)) (20 + (0 : Int)) (by show a.length + _ ≤ _; omega)
         ((conv => whnf);repeat' ((first|(with_reducible first|apply a_|apply b_|apply c_)|((with_reducible first|apply d_|apply e_|apply f_|apply g_);focus first|omega|(simp only [q_]<;>omega))|((with_reducible first|apply i_|apply h_);focus first|omega|(simp only [q_]<;>omega))|((with_reducible apply h_);focus first|decide|kernel_rfl)|refine s_ (by decide) ?_|refine t_ (by decide) ?_|(refine Idx.mapI (f := TokenD.c) 0 rfl rq ?_)|refine r_ pIs rfl ?_|refine r_ pNo rfl ?_|(refine Idx.eq hR (Idx.mapI (f := TokenD.c) 0 rfl mq ?_))|refine r_ pLk rfl ?_|refine r_ pa rfl ?_|refine r_ pb rfl ?_|with_reducible first|apply l_|apply m_|apply n_|apply o_|refine p_ (fun _ => ?_) (fun _ => ?_))<;>(conv => whnf)))
         all_goals first | exact Ret.eq rfl | (exfalso; omega)
        | false =>
         rw [cL] at pLk
         rw [if_neg (by decide)]
         cases cB : isM rest[0] wBetw with
         | true =>
          rw [cB] at pBt
          rw [if_pos rfl]
          have pd := (show Pure Tryz.prog 71 [.d (.c (.sl 4 (rest.map TokenD.c)))] _ from by have := p_depthsof rest (by omega); rw [show slV 4 TokenD.c rest = .d (.c (.sl 4 (rest.map TokenD.c))) by rw [hR]] at this; exact this)
          unfold betwR andAt
          by_cases d0 : dEnd 0 rest = some 0
          ·rw [depR_ok d0] at pd
           have pd : Pure _ _ _ (.tup [slV 1 dC (depV 0 rest), pBool true]) := pd
           rw [if_pos d0]
           have dl : (depV 0 rest).length = rest.length := depV_len _ _
           have hb0 : hitB [wAnd] 0 rest 0 = false := by
            rw [hit_at mq (by omega), isM_ne cB (by decide), Bool.and_false]
           ((conv => whnf);repeat' ((first|(with_reducible first|apply a_|apply b_|apply c_)|((with_reducible first|apply d_|apply e_|apply f_|apply g_);focus first|omega|(simp only [q_]<;>omega))|((with_reducible first|apply i_|apply h_);focus first|omega|(simp only [q_]<;>omega))|((with_reducible apply h_);focus first|decide|kernel_rfl)|refine s_ (by decide) ?_|refine t_ (by decide) ?_|(refine Idx.mapI (f := TokenD.c) 0 rfl rq ?_)|refine r_ pIs rfl ?_|refine r_ pNo rfl ?_|(refine Idx.eq hR (Idx.mapI (f := TokenD.c) 0 rfl mq ?_))|refine r_ pLk rfl ?_|refine r_ pBt rfl ?_|refine r_ pd rfl ?_|with_reducible first|apply l_|apply m_|apply n_|apply o_|refine p_ (fun _ => ?_) (fun _ => ?_))<;>(conv => whnf)))
           refine LoopC.mk (Nat × Option Nat) (fun s => [(5, slV 6 NodeD.c a), (7, slV 4 TokenD.c rest), (11, pInt .i64 0), (14, pInt .i64 (atI s.2)), (15, slV 1 dC (depV 0 rest)), (16, pBool true), (17, pInt .i64 (s.1 : Int))]) (fun _ => []) [] (fun s => s.1 < rest.length ∧ (s.2 = none → ∀ j, s.1 < j → hitB [wAnd] 0 rest j = false) ∧ (∀ j, s.2 = some j → j < rest.length ∧ s.1 < j ∧ hitB [wAnd] 0 rest j = true ∧ ∀ i, s.1 < i → i < j → hitB [wAnd] 0 rest i = false)) (fun s => s.1) (rest.length - 1, none) ⟨by show rest.length - 1 < _; omega, fun _ j (hj : rest.length - 1 < j) => hit_out (by omega), fun j h => by cases h⟩ ?startb ?roundb
           case startb => exact ⟨[], rfl, rfl, ⟨.inl rfl, PLe.c (by rw [hR]), .inl rfl, .inl rfl, .inl rfl, .inl rfl, PLe.int (by show _ = ((rest.length - 1 : Nat) : Int); omega), trivial⟩, trivial⟩
           case roundb =>
            rintro ⟨i, x⟩ ⟨hi, hx1, hx2⟩
            have hi : i < rest.length := hi
            have hx1 : x = none → ∀ j, i < j → hitB [wAnd] 0 rest j = false := hx1
            have hx2 : ∀ j, x = some j → j < rest.length ∧ i < j ∧ hitB [wAnd] 0 rest j = true ∧ ∀ i', i < i' → i' < j → hitB [wAnd] 0 rest i' = false := hx2
            by_cases i0 : 0 < i
            ·have hdi : i < (depV 0 rest).length := by omega
             have hh := hit_at (w := wAnd) hi hdi
             have pm : Pure _ _ [tV rest[i], pStr ⟨#[97, 110, 100]⟩] _ := p_ismark rest[i] wAnd
             have miss : hitB [wAnd] 0 rest i = false → (i - 1 < rest.length ∧ (x = none → ∀ j, i - 1 < j → hitB [wAnd] 0 rest j = false) ∧ (∀ j, x = some j → j < rest.length ∧ i - 1 < j ∧ hitB [wAnd] 0 rest j = true ∧ ∀ i', i - 1 < i' → i' < j → hitB [wAnd] 0 rest i' = false)) := by
              intro hm
              refine ⟨by omega, fun y j hj => ?_, fun j hj => ?_⟩
              ·rcases Nat.lt_or_ge i j with z | z
               ·exact hx1 y j z
               ·rw [show j = i by omega]; exact hm
              ·obtain ⟨y0, y1, y2, y3⟩ := hx2 j hj
               refine ⟨y0, by omega, y2, fun i' a b => ?_⟩
               rcases Nat.lt_or_ge i i' with z | z
               ·exact y3 i' z b
               ·rw [show i' = i by omega]; exact hm
             generalize hrr : (depV 0 rest)[i] = r at hh
             by_cases r0 : r = 0
             ·subst r0
              cases hm : isM rest[i] wAnd with
              | true =>
               rw [hm] at pm hh
               have hhit : hitB [wAnd] 0 rest i = true := by rw [hh]; rfl
               ((conv => whnf);repeat' ((first|(with_reducible first|apply a_|apply b_|apply c_)|((with_reducible first|apply d_|apply e_|apply f_|apply g_);focus first|omega|(simp only [q_]<;>omega))|((with_reducible first|apply i_|apply h_);focus first|omega|(simp only [q_]<;>omega))|((with_reducible apply h_);focus first|decide|kernel_rfl)|refine s_ (by decide) ?_|refine t_ (by decide) ?_|(first|refine Idx.mapE (f := dC) i rfl hdi hrr ?_|refine Idx.mapI (f := TokenD.c) i rfl hi ?_)|refine r_ pm rfl ?_|with_reducible first|apply l_|apply m_|apply n_|apply o_|refine p_ (fun _ => ?_) (fun _ => ?_))<;>(conv => whnf)))
               all_goals first
                | exact ⟨(i - 1, some i), ⟨by show i - 1 < _; omega, fun (y : some i = none) => (by cases y), fun j (hj : some i = some j) => by cases hj; exact ⟨hi, by show i - 1 < i; omega, hhit, fun i' (a : i - 1 < i') b => absurd b (by omega)⟩⟩, by show i - 1 < i; omega, [], rfl, rfl, ⟨.inl rfl, .inl rfl, .inl rfl, .inl rfl, .inl rfl, .inl rfl, PLe.int (show (i : Int) - 1 = ((i - 1 : Nat) : Int) by omega), trivial⟩, trivial⟩
                | (exfalso; omega)
              | false =>
               rw [hm] at pm hh
               have hmis := miss (by rw [hh]; rfl)
               ((conv => whnf);repeat' ((first|(with_reducible first|apply a_|apply b_|apply c_)|((with_reducible first|apply d_|apply e_|apply f_|apply g_);focus first|omega|(simp only [q_]<;>omega))|((with_reducible first|apply i_|apply h_);focus first|omega|(simp only [q_]<;>omega))|((with_reducible apply h_);focus first|decide|kernel_rfl)|refine s_ (by decide) ?_|refine t_ (by decide) ?_|(first|refine Idx.mapE (f := dC) i rfl hdi hrr ?_|refine Idx.mapI (f := TokenD.c) i rfl hi ?_)|refine r_ pm rfl ?_|with_reducible first|apply l_|apply m_|apply n_|apply o_|refine p_ (fun _ => ?_) (fun _ => ?_))<;>(conv => whnf)))
               all_goals first
                | exact ⟨(i - 1, x), hmis, by show i - 1 < i; omega, [], rfl, rfl, ⟨.inl rfl, .inl rfl, .inl rfl, .inl rfl, .inl rfl, .inl rfl, PLe.int (show (i : Int) - 1 = ((i - 1 : Nat) : Int) by omega), trivial⟩, trivial⟩
                | (exfalso; omega)
             ·have hmis := miss (by rw [hh, decide_eq_false r0]; rfl)
              ((conv => whnf);repeat' ((first|(with_reducible first|apply a_|apply b_|apply c_)|((with_reducible first|apply d_|apply e_|apply f_|apply g_);focus first|omega|(simp only [q_]<;>omega))|((with_reducible first|apply i_|apply h_);focus first|omega|(simp only [q_]<;>omega))|((with_reducible apply h_);focus first|decide|kernel_rfl)|refine s_ (by decide) ?_|refine t_ (by decide) ?_|(first|refine Idx.mapE (f := dC) i rfl hdi hrr ?_|refine Idx.mapI (f := TokenD.c) i rfl hi ?_)|with_reducible first|apply l_|apply m_|apply n_|apply o_|refine p_ (fun _ => ?_) (fun _ => ?_))<;>(conv => whnf)))
              all_goals first
               | exact ⟨(i - 1, x), hmis, by show i - 1 < i; omega, [], rfl, rfl, ⟨.inl rfl, .inl rfl, .inl rfl, .inl rfl, .inl rfl, .inl rfl, PLe.int (show (i : Int) - 1 = ((i - 1 : Nat) : Int) by omega), trivial⟩, trivial⟩
               | (exfalso; omega)
            ·have hi0 : i = 0 := by omega
             subst hi0
             rw [first_is hb0 hx1 (fun j hj => (hx2 j hj).2)]
             cases x with
             | none =>
              have hat : atI none = -1 := rfl
              ((conv => whnf);repeat' ((first|(with_reducible first|apply a_|apply b_|apply c_)|((with_reducible first|apply d_|apply e_|apply f_|apply g_);focus first|omega|(simp only [q_]<;>omega))|((with_reducible first|apply i_|apply h_);focus first|omega|(simp only [q_]<;>omega))|((with_reducible apply h_);focus first|decide|kernel_rfl)|refine s_ (by decide) ?_|refine t_ (by decide) ?_|with_reducible first|apply l_|apply m_|apply n_|apply o_|refine p_ (fun _ => ?_) (fun _ => ?_))<;>(conv => whnf)))
              all_goals first | exact Ret.le ⟨.inr ⟨⟨6, rfl⟩, .inl rfl⟩, .inl rfl, rfl⟩ | (exfalso; omega)
             | some j =>
              obtain ⟨hjl, hj0, _, _⟩ := hx2 j rfl
              have hat : atI (some j) = (j : Int) := rfl
              have pa := Pure.cut rest 1 j (lo := 1) (hi := atI (some j)) rfl rfl (x := (rest.take j).drop 1) (by rw [List.drop_take]) (h5 ((rest.take j).drop 1) (by rw [List.length_drop, List.length_take]; omega) (okTx_drop (okTx_take mtx _) _))
              have pb := Pure.cut rest (j + 1) rest.length (lo := atI (some j) + 1) (hi := (((rest.map TokenD.c).length : Nat) : Int)) rfl (by rw [List.length_map]) (x := rest.drop (j + 1)) (by rw [List.take_of_length_le (by rw [List.length_drop]; omega)]) (h5 (rest.drop (j + 1)) (by rw [List.length_drop]; omega) (okTx_drop mtx _))
              have k1 := pK_len 5 ((rest.take j).drop 1)
              have k2 := pK_len 5 (rest.drop (j + 1))
              rw [List.length_drop, List.length_take] at k1
              rw [List.length_drop] at k2
              have hml2 : (rest.map TokenD.c).length = rest.length := List.length_map _
              dsimp only
              cases hb : pK 5 ((rest.take j).drop 1) with
              | none =>
               rw [hb] at pa
               have pa : Pure _ _ _ (.tup [slV 6 NodeD.c [], pBool false]) := pa
               ((conv => whnf);repeat' ((first|(with_reducible first|apply a_|apply b_|apply c_)|((with_reducible first|apply d_|apply e_|apply f_|apply g_);focus first|omega|(simp only [q_]<;>omega))|((with_reducible first|apply i_|apply h_);focus first|omega|(simp only [q_]<;>omega))|((with_reducible apply h_);focus first|decide|kernel_rfl)|refine s_ (by decide) ?_|refine t_ (by decide) ?_|refine r_ pa rfl ?_|refine r_ pb rfl ?_|with_reducible first|apply l_|apply m_|apply n_|apply o_|refine p_ (fun _ => ?_) (fun _ => ?_))<;>(conv => whnf)))
               all_goals first | exact Ret.le ⟨.inr ⟨⟨6, rfl⟩, .inl rfl⟩, .inl rfl, rfl⟩ | (exfalso; omega)
              | some b =>
               rw [hb] at pa k1
               have k1 : b.length ≤ min j rest.length - 1 := k1
               have pa : Pure _ _ _ (.tup [slV 6 NodeD.c b, pBool true]) := pa
               cases hc : pK 5 (rest.drop (j + 1)) with
               | none =>
                rw [hc] at pb
                have pb : Pure _ _ _ (.tup [slV 6 NodeD.c [], pBool false]) := pb
                ((conv => whnf);repeat' ((first|(with_reducible first|apply a_|apply b_|apply c_)|((with_reducible first|apply d_|apply e_|apply f_|apply g_);focus first|omega|(simp only [q_]<;>omega))|((with_reducible first|apply i_|apply h_);focus first|omega|(simp only [q_]<;>omega))|((with_reducible apply h_);focus first|decide|kernel_rfl)|refine s_ (by decide) ?_|refine t_ (by decide) ?_|refine r_ pa rfl ?_|refine r_ pb rfl ?_|with_reducible first|apply l_|apply m_|apply n_|apply o_|refine p_ (fun _ => ?_) (fun _ => ?_))<;>(conv => whnf)))
                all_goals first | exact Ret.le ⟨.inr ⟨⟨6, rfl⟩, .inl rfl⟩, .inl rfl, rfl⟩ | (exfalso; omega)
               | some c =>
                rw [hc] at pb k2
                have k2 : c.length ≤ rest.length - (j + 1) := k2
                have pb : Pure _ _ _ (.tup [slV 6 NodeD.c c, pBool true]) := pb
                have e : (a ++ b ++ c ++ [nOp (24 + (0 : Int)) 3]).map NodeD.c = [] ++ a.map NodeD.c ++ b.map NodeD.c ++ c.map NodeD.c ++ [(nOp (24 + (0 : Int)) 3).c] := by rw [List.map_append, List.map_append, List.map_append]; rfl
                ((conv => whnf);repeat' ((first|(with_reducible first|apply a_|apply b_|apply c_)|((with_reducible first|apply d_|apply e_|apply f_|apply g_);focus first|omega|(simp only [q_]<;>omega))|((with_reducible first|apply i_|apply h_);focus first|omega|(simp only [q_]<;>omega))|((with_reducible apply h_);focus first|decide|kernel_rfl)|refine s_ (by decide) ?_|refine t_ (by decide) ?_|refine r_ pa rfl ?_|refine r_ pb rfl ?_|(refine Need.by 64 rfl (by simp only [List.length_append, List.length_map, List.length_cons, List.length_nil];omega) ?_)|with_reducible first|apply l_|apply m_|apply n_|apply o_|refine p_ (fun _ => ?_) (fun _ => ?_))<;>(conv => whnf)))
                all_goals first | (refine Ret.eq ?_; show _ = PV.tup [.d (.c (.sl 6 ((a ++ b ++ c ++ [nOp (24 + (0 : Int)) 3]).map NodeD.c))), pBool true]; rw [e]; rfl) | (exfalso; omega)
          ·have dr := depR_no d0
           rw [dr] at pd
           rw [if_neg d0]
           ((conv => whnf);repeat' ((first|(with_reducible first|apply a_|apply b_|apply c_)|((with_reducible first|apply d_|apply e_|apply f_|apply g_);focus first|omega|(simp only [q_]<;>omega))|((with_reducible first|apply i_|apply h_);focus first|omega|(simp only [q_]<;>omega))|((with_reducible apply h_);focus first|decide|kernel_rfl)|refine s_ (by decide) ?_|refine t_ (by decide) ?_|(refine Idx.mapI (f := TokenD.c) 0 rfl rq ?_)|refine r_ pIs rfl ?_|refine r_ pNo rfl ?_|(refine Idx.eq hR (Idx.mapI (f := TokenD.c) 0 rfl mq ?_))|refine r_ pLk rfl ?_|refine r_ pBt rfl ?_|refine r_ pd rfl ?_|with_reducible first|apply l_|apply m_|apply n_|apply o_|refine p_ (fun _ => ?_) (fun _ => ?_))<;>(conv => whnf)))
           refine LoopC.mk Nat (fun i => [(5, slV 6 NodeD.c a), (7, slV 4 TokenD.c rest), (14, pInt .i64 (-1)), (16, pBool false), (17, pInt .i64 (i : Int))]) (fun _ => []) [] (fun i => True) (fun i => i) (rest.length - 1) trivial ?startfb ?roundfb
           case startfb => exact ⟨[], rfl, rfl, ⟨.inl rfl, PLe.c (by rw [hR]), .inl rfl, .inl rfl, PLe.int (by omega), trivial⟩, trivial⟩
           case roundfb =>
            intro i _
            by_cases i0 : 0 < i
            ·((conv => whnf);repeat' ((first|(with_reducible first|apply a_|apply b_|apply c_)|((with_reducible first|apply d_|apply e_|apply f_|apply g_);focus first|omega|(simp only [q_]<;>omega))|((with_reducible first|apply i_|apply h_);focus first|omega|(simp only [q_]<;>omega))|((with_reducible apply h_);focus first|decide|kernel_rfl)|refine s_ (by decide) ?_|refine t_ (by decide) ?_|with_reducible first|apply l_|apply m_|apply n_|apply o_|refine p_ (fun _ => ?_) (fun _ => ?_))<;>(conv => whnf)))
             all_goals first | exact Ret.le ⟨.inr ⟨⟨6, rfl⟩, .inl rfl⟩, .inl rfl, rfl⟩ | (exfalso; omega)
            ·((conv => whnf);repeat' ((first|(with_reducible first|apply a_|apply b_|apply c_)|((with_reducible first|apply d_|apply e_|apply f_|apply g_);focus first|omega|(simp only [q_]<;>omega))|((with_reducible first|apply i_|apply h_);focus first|omega|(simp only [q_]<;>omega))|((with_reducible apply h_);focus first|decide|kernel_rfl)|refine s_ (by decide) ?_|refine t_ (by decide) ?_|with_reducible first|apply l_|apply m_|apply n_|apply o_|refine p_ (fun _ => ?_) (fun _ => ?_))<;>(conv => whnf)))
             all_goals first | exact Ret.le ⟨.inr ⟨⟨6, rfl⟩, .inl rfl⟩, .inl rfl, rfl⟩ | (exfalso; omega)
         | false =>
          rw [cB] at pBt
          rw [if_neg (by decide)]
          cases cI : isM rest[0] wIn with
          | false =>
           rw [cI] at pIn
           rw [if_neg (fun y => by cases y.1)]
           ((conv => whnf);repeat' ((first|(with_reducible first|apply a_|apply b_|apply c_)|((with_reducible first|apply d_|apply e_|apply f_|apply g_);focus first|omega|(simp only [q_]<;>omega))|((with_reducible first|apply i_|apply h_);focus first|omega|(simp only [q_]<;>omega))|((with_reducible apply h_);focus first|decide|kernel_rfl)|refine s_ (by decide) ?_|refine t_ (by decide) ?_|(refine Idx.mapI (f := TokenD.c) 0 rfl rq ?_)|refine r_ pIs rfl ?_|refine r_ pNo rfl ?_|(refine Idx.eq hR (Idx.mapI (f := TokenD.c) 0 rfl mq ?_))|refine r_ pLk rfl ?_|refine r_ pBt rfl ?_|refine r_ pIn rfl ?_|with_reducible first|apply l_|apply m_|apply n_|apply o_|refine p_ (fun _ => ?_) (fun _ => ?_))<;>(conv => whnf)))
           all_goals first | exact Ret.le ⟨.inr ⟨⟨6, rfl⟩, .inl rfl⟩, .inl rfl, rfl⟩ | (exfalso; omega)
          | true =>
           rw [cI] at pIn
           by_cases m3 : 3 ≤ rest.length
           ·have q1 : 1 < rest.length := by omega
            have q2 : rest.length - 1 < rest.length := by omega
            have c2 : (((rest.map TokenD.c).length : Nat) : Int) - 1 = ((rest.length - 1 : Nat) : Int) := by omega
            have pL : Pure _ _ [tV rest[1], pStr ⟨#[40]⟩] _ := p_ismark rest[1] sLp
            have pR : Pure _ _ [tV rest[rest.length - 1], pStr ⟨#[41]⟩] _ := p_ismark rest[rest.length - 1] sRp
            have i1 : isH sLp (rest.drop 1) = isM rest[1] sLp := by rw [List.drop_eq_getElem_cons q1]; rfl
            have i2 : isH sRp (rest.drop (rest.length - 1)) = isM rest[rest.length - 1] sRp := by rw [List.drop_eq_getElem_cons q2]; rfl
            rw [i1, i2]
            cases c1 : isM rest[1] sLp with
            | false =>
             rw [c1] at pL
             rw [if_neg (fun y => by cases y.2.2.1)]
             ((conv => whnf);repeat' ((first|(with_reducible first|apply a_|apply b_|apply c_)|((with_reducible first|apply d_|apply e_|apply f_|apply g_);focus first|omega|(simp only [q_]<;>omega))|((with_reducible first|apply i_|apply h_);focus first|omega|(simp only [q_]<;>omega))|((with_reducible apply h_);focus first|decide|kernel_rfl)|refine s_ (by decide) ?_|refine t_ (by decide) ?_|(refine Idx.mapI (f := TokenD.c) 0 rfl rq ?_)|refine r_ pIs rfl ?_|refine r_ pNo rfl ?_|(first|refine Idx.eq hR (Idx.mapI (f := TokenD.c) 0 rfl mq ?_)|refine Idx.eq hR (Idx.mapI (f := TokenD.c) 1 rfl q1 ?_))|refine r_ pLk rfl ?_|refine r_ pBt rfl ?_|refine r_ pIn rfl ?_|refine r_ pL rfl ?_|with_reducible first|apply l_|apply m_|apply n_|apply o_|refine p_ (fun _ => ?_) (fun _ => ?_))<;>(conv => whnf)))
             all_goals first | exact Ret.le ⟨.inr ⟨⟨6, rfl⟩, .inl rfl⟩, .inl rfl, rfl⟩ | (exfalso; omega)
            | true =>
             rw [c1] at pL
             cases c3 : isM rest[rest.length - 1] sRp with
             | false =>
              rw [c3] at pR
              rw [if_neg (fun y => by cases y.2.2.2)]
              ((conv => whnf);repeat' ((first|(with_reducible first|apply a_|apply b_|apply c_)|((with_reducible first|apply d_|apply e_|apply f_|apply g_);focus first|omega|(simp only [q_]<;>omega))|((with_reducible first|apply i_|apply h_);focus first|omega|(simp only [q_]<;>omega))|((with_reducible apply h_);focus first|decide|kernel_rfl)|refine s_ (by decide) ?_|refine t_ (by decide) ?_|(refine Idx.mapI (f := TokenD.c) 0 rfl rq ?_)|refine r_ pIs rfl ?_|refine r_ pNo rfl ?_|(first|refine Idx.eq hR (Idx.mapI (f := TokenD.c) 0 rfl mq ?_)|refine Idx.eq hR (Idx.mapI (f := TokenD.c) 1 rfl q1 ?_)|refine Idx.eq hR (Idx.mapI (f := TokenD.c) (rest.length - 1) c2 q2 ?_))|refine r_ pLk rfl ?_|refine r_ pBt rfl ?_|refine r_ pIn rfl ?_|refine r_ pL rfl ?_|refine r_ pR rfl ?_|with_reducible first|apply l_|apply m_|apply n_|apply o_|refine p_ (fun _ => ?_) (fun _ => ?_))<;>(conv => whnf)))
              all_goals first | exact Ret.le ⟨.inr ⟨⟨6, rfl⟩, .inl rfl⟩, .inl rfl, rfl⟩ | (exfalso; omega)
             | true =>
              rw [c3] at pR
              rw [if_pos ⟨rfl, m3, rfl, rfl⟩]
              have pl := p_readlist (N := N - 1) (by omega) a ((rest.drop 2).take (rest.length - 3)) (22 + (0 : Int)) (by rw [List.length_take, List.length_drop]; omega) (okTx_take (okTx_drop mtx _) _) (by omega) (h1 (by omega))
              have ecut : slV 4 TokenD.c ((rest.drop 2).take (rest.length - 3)) = .d (.c (.sl 4 (((rest.map TokenD.c).drop (Int.toNat 2)).take (Int.toNat ((((rest.map TokenD.c).length : Nat) : Int) - 1) - Int.toNat 2)))) := by
               rw [c2, hR, Int.toNat_natCast, show Int.toNat 2 = 2 from rfl, ← List.map_drop, ← List.map_take, show rest.length - 1 - 2 = rest.length - 3 by omega]
              rw [ecut] at pl
              ((conv => whnf);repeat' ((first|(with_reducible first|apply a_|apply b_|apply c_)|((with_reducible first|apply d_|apply e_|apply f_|apply g_);focus first|omega|(simp only [q_]<;>omega))|((with_reducible first|apply i_|apply h_);focus first|omega|(simp only [q_]<;>omega))|((with_reducible apply h_);focus first|decide|kernel_rfl)|refine s_ (by decide) ?_|refine t_ (by decide) ?_|(refine Idx.mapI (f := TokenD.c) 0 rfl rq ?_)|refine r_ pIs rfl ?_|refine r_ pNo rfl ?_|(first|refine Idx.eq hR (Idx.mapI (f := TokenD.c) 0 rfl mq ?_)|refine Idx.eq hR (Idx.mapI (f := TokenD.c) 1 rfl q1 ?_)|refine Idx.eq hR (Idx.mapI (f := TokenD.c) (rest.length - 1) c2 q2 ?_))|refine r_ pLk rfl ?_|refine r_ pBt rfl ?_|refine r_ pIn rfl ?_|refine r_ pL rfl ?_|refine r_ pR rfl ?_|refine r_ pl rfl ?_|with_reducible first|apply l_|apply m_|apply n_|apply o_|refine p_ (fun _ => ?_) (fun _ => ?_))<;>(conv => whnf)))
              all_goals first | exact Ret.eq rfl | (exfalso; omega)
           ·rw [if_neg (fun y => m3 y.2.1)]
            ((conv => whnf);repeat' ((first|(with_reducible first|apply a_|apply b_|apply c_)|((with_reducible first|apply d_|apply e_|apply f_|apply g_);focus first|omega|(simp only [q_]<;>omega))|((with_reducible first|apply i_|apply h_);focus first|omega|(simp only [q_]<;>omega))|((with_reducible apply h_);focus first|decide|kernel_rfl)|refine s_ (by decide) ?_|refine t_ (by decide) ?_|(refine Idx.mapI (f := TokenD.c) 0 rfl rq ?_)|refine r_ pIs rfl ?_|refine r_ pNo rfl ?_|(first|refine Idx.eq hR (Idx.mapI (f := TokenD.c) 0 rfl mq ?_))|refine r_ pLk rfl ?_|refine r_ pBt rfl ?_|refine r_ pIn rfl ?_|with_reducible first|apply l_|apply m_|apply n_|apply o_|refine p_ (fun _ => ?_) (fun _ => ?_))<;>(conv => whnf)))
            all_goals first | exact Ret.le ⟨.inr ⟨⟨6, rfl⟩, .inl rfl⟩, .inl rfl, rfl⟩ | (exfalso; omega)
end
section
open Go.RowKit K
set_option maxRecDepth 100000
def markT (s : List UInt8) : TokenD := if wordB s then ⟨1, 0, 0, s⟩ else ⟨5, 0, 0, s⟩
theorem p_Mark (s : List UInt8) (hs : okText s) : Pure Tryz.prog 92 [pStr (tx s)] (tV (markT s)) := by
 have pw := p_isword s hs
 unfold markT
 refine pure_of Tryz.func92 (by rfl) rfl (by kernel_rfl) (by rfl) ?_
 cases hw : wordB s with
 | true =>
  rw [hw] at pw
  ((conv => whnf);repeat' ((first|(with_reducible first|apply a_|apply b_|apply c_)|((with_reducible first|apply d_|apply e_|apply f_|apply g_);focus first|omega|(simp only [q_]<;>omega))|((with_reducible first|apply i_|apply h_);focus first|omega|(simp only [q_]<;>omega))|((with_reducible apply h_);focus first|decide|kernel_rfl)|refine s_ (by decide) ?_|refine t_ (by decide) ?_|refine r_ pw rfl ?_|with_reducible first|apply l_|apply m_|apply n_|apply o_|refine p_ (fun _ => ?_) (fun _ => ?_))<;>(conv => whnf)))
  exact Ret.eq rfl
 | false =>
  rw [hw] at pw
  ((conv => whnf);repeat' ((first|(with_reducible first|apply a_|apply b_|apply c_)|((with_reducible first|apply d_|apply e_|apply f_|apply g_);focus first|omega|(simp only [q_]<;>omega))|((with_reducible first|apply i_|apply h_);focus first|omega|(simp only [q_]<;>omega))|((with_reducible apply h_);focus first|decide|kernel_rfl)|refine s_ (by decide) ?_|refine t_ (by decide) ?_|refine r_ pw rfl ?_|with_reducible first|apply l_|apply m_|apply n_|apply o_|refine p_ (fun _ => ?_) (fun _ => ?_))<;>(conv => whnf)))
  exact Ret.eq rfl
inductive JPart where
 | tok (t : TokenD)
 | toks (l : List TokenD)
 | str (s : List UInt8)
def JPart.l : JPart → List TokenD
 | .tok t => [t]
 | .toks l => l
 | .str s => [markT s]
def JPart.ok : JPart → Prop
 | .str s => okText s
 | _ => True
abbrev tokI (t : TokenD) : Value := .iface 43 (.agg #[.int .i64 t.Kind, .int .i64 t.At, .int .i64 t.N, .string (tx t.S)])
def JPart.c : JPart → List C
 | .tok t => [.v (tokI t)]
 | .toks l => [.ifc1 22 (.sl 4 (l.map TokenD.c))]
 | .str s => [.v (.iface 9 (.string (tx s)))]
def joinF (ps : List JPart) : List TokenD := ps.flatMap JPart.l
theorem joinF_snoc {ps : List JPart} {j : Nat} (h : j < ps.length) : joinF (ps.take (j + 1)) = joinF (ps.take j) ++ (ps[j]).l := by
 unfold joinF
 rw [← List.take_append_getElem h, List.flatMap_append]
 simp
theorem joinF_le (ps : List JPart) (j : Nat) : (joinF (ps.take j)).length ≤ (joinF ps).length := by
 unfold joinF
 conv => rhs; rw [← List.take_append_drop j ps]
 rw [List.flatMap_append, List.length_append]
 omega
theorem p_join (ps : List JPart) (hk : ∀ p ∈ ps, p.ok) (hl : ps.length ≤ 100000) (hj : (joinF ps).length ≤ 100000) : Pure Tryz.prog 80 [.d (.c (.sl 1 (ps.map JPart.c)))] (slV 4 TokenD.c (joinF ps)) := by
 have hml : (ps.map JPart.c).length = ps.length := List.length_map _
 refine pure_of Tryz.func80 (by rfl) rfl (by kernel_rfl) (by rfl) ?_
 ((conv => whnf);repeat' ((first|(with_reducible first|apply a_|apply b_|apply c_)|((with_reducible first|apply d_|apply e_|apply f_|apply g_);focus first|omega|(simp only [q_]<;>omega))|((with_reducible first|apply i_|apply h_);focus first|omega|(simp only [q_]<;>omega))|((with_reducible apply h_);focus first|decide|kernel_rfl)|refine s_ (by decide) ?_|refine t_ (by decide) ?_|with_reducible first|apply l_|apply m_|apply n_|apply o_|refine p_ (fun _ => ?_) (fun _ => ?_))<;>(conv => whnf)))
 refine LoopC.mk Nat (fun j => [(9, .d (.c (.sl 1 (ps.map JPart.c)))), (10, pInt .i64 ps.length), (11, pInt .i64 j), (3, .d (.app 60 43 4 ((joinF (ps.take j)).map TokenD.c)))]) (fun j => [(60, .tail 43 4)]) [60] (fun j => j ≤ ps.length) (fun j => ps.length - j) 0 (Nat.zero_le _) ?start ?round
 case start => exact ⟨[], rfl, rfl, ⟨.inl rfl, PLe.int (by rw [hml]), .inl rfl, ⟨rfl, rfl, Nat.zero_lt_succ _, rfl, rfl⟩, trivial⟩, ⟨rfl, Nat.zero_lt_succ _⟩, trivial⟩
 case round =>
  intro j hj'
  have hj' : j ≤ ps.length := hj'
  by_cases q : j < ps.length
  ·have e1 := joinF_snoc q
   have e2 := joinF_le ps (j + 1)
   have e3 := congrArg List.length e1
   rw [List.length_append] at e3
   have hlm : ((joinF (ps.take j)).map TokenD.c).length = (joinF (ps.take j)).length := List.length_map _
   have hok := hk _ (List.getElem_mem q)
   have hget : ps[j]? = some ps[j] := List.getElem?_eq_getElem q
   obtain ⟨p, hp⟩ : ∃ p, p = ps[j] := ⟨_, rfl⟩
   rw [← hp] at e1 e3 hok hget
   cases p with
   | tok t =>
    have e3 : (joinF (ps.take (j + 1))).length = (joinF (ps.take j)).length + 1 := e3
    ((conv => whnf);repeat' ((first|(with_reducible first|apply a_|apply b_|apply c_)|((with_reducible first|apply d_|apply e_|apply f_|apply g_);focus first|omega|(simp only [q_]<;>omega))|((with_reducible first|apply i_|apply h_);focus first|omega|(simp only [q_]<;>omega))|((with_reducible apply h_);focus first|decide|kernel_rfl)|refine s_ (by decide) ?_|refine t_ (by decide) ?_|(refine Idx.mapV (f := JPart.c) j rfl _ hget ?_)|(refine Need.by 40 rfl (by rw [hlm];show ((joinF (ps.take j)).length + 1) * 40 ≤ _;omega) ?_)|with_reducible first|apply l_|apply m_|apply n_|apply o_|refine p_ (fun _ => ?_) (fun _ => ?_))<;>(conv => whnf)))
    have e4 : (joinF (ps.take (j + 1))).map TokenD.c = (joinF (ps.take j)).map TokenD.c ++ [t.c] := by rw [e1, List.map_append]; rfl
    refine ⟨j + 1, q, by show _ < _; omega, [(60, 22)], rfl, rfl, ?_, ?_⟩
    ·refine ⟨.inl rfl, .inl rfl, PLe.int (by omega), ?_, trivial⟩
     rw [e4]
     (repeat' (first | exact rfl | exact trivial | exact Or.inl rfl | refine And.intro ?_ ?_))
    ·(repeat' (first | exact rfl | exact trivial | exact Or.inl rfl | refine And.intro ?_ ?_))
   | toks l =>
    have e3 : (joinF (ps.take (j + 1))).length = (joinF (ps.take j)).length + l.length := e3
    have hll : (l.map TokenD.c).length = l.length := List.length_map _
    ((conv => whnf);repeat' ((first|(with_reducible first|apply a_|apply b_|apply c_)|((with_reducible first|apply d_|apply e_|apply f_|apply g_);focus first|omega|(simp only [q_]<;>omega))|((with_reducible first|apply i_|apply h_);focus first|omega|(simp only [q_]<;>omega))|((with_reducible apply h_);focus first|decide|kernel_rfl)|refine s_ (by decide) ?_|refine t_ (by decide) ?_|(refine Idx.mapV (f := JPart.c) j rfl _ hget ?_)|(refine Need.by 40 rfl (by rw [hlm, hll];omega) ?_)|with_reducible first|apply l_|apply m_|apply n_|apply o_|refine p_ (fun _ => ?_) (fun _ => ?_))<;>(conv => whnf)))
    have e4 : (joinF (ps.take (j + 1))).map TokenD.c = (joinF (ps.take j)).map TokenD.c ++ l.map TokenD.c := by rw [e1, List.map_append]; rfl
    refine ⟨j + 1, q, by show _ < _; omega, [(60, 28)], rfl, rfl, ?_, ?_⟩
    ·refine ⟨.inl rfl, .inl rfl, PLe.int (by omega), ?_, trivial⟩
     rw [e4]
     (repeat' (first | exact rfl | exact trivial | exact Or.inl rfl | refine And.intro ?_ ?_))
    ·(repeat' (first | exact rfl | exact trivial | exact Or.inl rfl | refine And.intro ?_ ?_))
   | str s =>
    have e3 : (joinF (ps.take (j + 1))).length = (joinF (ps.take j)).length + 1 := e3
    have pm := p_Mark s hok
    ((conv => whnf);repeat' ((first|(with_reducible first|apply a_|apply b_|apply c_)|((with_reducible first|apply d_|apply e_|apply f_|apply g_);focus first|omega|(simp only [q_]<;>omega))|((with_reducible first|apply i_|apply h_);focus first|omega|(simp only [q_]<;>omega))|((with_reducible apply h_);focus first|decide|kernel_rfl)|refine s_ (by decide) ?_|refine t_ (by decide) ?_|(refine Idx.mapV (f := JPart.c) j rfl _ hget ?_)|(refine Need.by 40 rfl (by rw [hlm];show ((joinF (ps.take j)).length + 1) * 40 ≤ _;omega) ?_)|refine r_ pm rfl ?_|with_reducible first|apply l_|apply m_|apply n_|apply o_|refine p_ (fun _ => ?_) (fun _ => ?_))<;>(conv => whnf)))
    have e4 : (joinF (ps.take (j + 1))).map TokenD.c = (joinF (ps.take j)).map TokenD.c ++ [(markT s).c] := by rw [e1, List.map_append]; rfl
    refine ⟨j + 1, q, by show _ < _; omega, [(60, 36)], rfl, rfl, ?_, ?_⟩
    ·refine ⟨.inl rfl, .inl rfl, PLe.int (by omega), ?_, trivial⟩
     rw [e4]
     (repeat' (first | exact rfl | exact trivial | exact Or.inl rfl | refine And.intro ?_ ?_))
    ·(repeat' (first | exact rfl | exact trivial | exact Or.inl rfl | refine And.intro ?_ ?_))
  ·have e0 : j = ps.length := by omega
   subst e0
   rw [List.take_length]
   ((conv => whnf);repeat' ((first|(with_reducible first|apply a_|apply b_|apply c_)|((with_reducible first|apply d_|apply e_|apply f_|apply g_);focus first|omega|(simp only [q_]<;>omega))|((with_reducible first|apply i_|apply h_);focus first|omega|(simp only [q_]<;>omega))|((with_reducible apply h_);focus first|decide|kernel_rfl)|refine s_ (by decide) ?_|refine t_ (by decide) ?_|with_reducible first|apply l_|apply m_|apply n_|apply o_|refine p_ (fun _ => ?_) (fun _ => ?_))<;>(conv => whnf)))
   exact Ret.eq rfl
end
section
open Go.RowKit
abbrev nilSl : D := .c (.v (.slice none 0 0))
theorem hpL_one {K : Nat} {b : HB} {j : Nat} {x : HB} (h : hpL [(K, b)] j = some x) : j = K ∧ x = b := by
 unfold hpL at h
 cases hq : Nat.beq j K with
 | true => rw [hq, cond_true] at h; cases h; exact ⟨Nat.eq_of_beq_eq_true hq, rfl⟩
 | false => rw [hq, cond_false] at h; cases h
theorem hpL_two {K K' : Nat} {b b' : HB} {j : Nat} {x : HB} (h : hpL [(K, b), (K', b')] j = some x) : (j = K ∧ x = b) ∨ (j = K' ∧ x = b') := by
 unfold hpL at h
 cases hq : Nat.beq j K with
 | true => rw [hq, cond_true] at h; cases h; exact .inl ⟨Nat.eq_of_beq_eq_true hq, rfl⟩
 | false => rw [hq, cond_false] at h; exact .inr (hpL_one h)
end
section
open Go.RowKit K
set_option maxRecDepth 100000
abbrev tParser : Nat := 59
abbrev tNodeT : Nat := 36
abbrev pBx (A : Nat) (l : List TokenD) (n : Nat) : HB := .box tParser [.c (.sl 4 (l.map TokenD.c)), .arr A tNodeT 6 0 n]
abbrev pAr (out : List NodeD) : HB := .arr tNodeT 6 (out.map NodeD.c)
abbrev pb (K A : Nat) (l : List TokenD) (out : List NodeD) : Rf := [(K, pBx A l out.length), (A, pAr out)]
abbrev wrongV : Value := .iface 56 (.agg #[])
theorem cells_drop {α : Type} (f : α → List C) (l : List α) (k : Nat) {n : Int} (hn : n = (((l.map f).length : Nat) : Int)) {z : Int} (hz : z = (k : Int)) : List.take (n.toNat - z.toNat) (List.drop z.toNat (l.map f)) = (l.drop k).map f := by
 subst hn hz
 rw [Int.toNat_natCast, Int.toNat_natCast, ← List.map_drop, List.take_of_length_le]
 rw [List.length_map, List.length_map, List.length_drop]
 exact Nat.le_refl _
theorem p_sign (op : Int) : Pure Tryz.prog 63 [pInt .i64 op] (pStr (tx (sgn op))) := by
 refine pure_of Tryz.func63 (by rfl) rfl (by kernel_rfl) (by rfl) ?_
 by_cases h : 3 ≤ op ∧ op ≤ 17
 ·have : op = 3 ∨ op = 4 ∨ op = 5 ∨ op = 6 ∨ op = 7 ∨ op = 8 ∨ op = 9 ∨ op = 10 ∨ op = 11 ∨ op = 12 ∨ op = 13 ∨ op = 14 ∨ op = 15 ∨ op = 16 ∨ op = 17 := by omega
  rcases this with rfl | rfl | rfl | rfl | rfl | rfl | rfl | rfl | rfl | rfl | rfl | rfl | rfl | rfl | rfl
  all_goals
   ((conv => whnf);repeat' ((first|(with_reducible first|apply a_|apply b_|apply c_)|((with_reducible first|apply d_|apply e_|apply f_|apply g_);focus first|omega|(simp only [q_]<;>omega))|((with_reducible first|apply i_|apply h_);focus first|omega|(simp only [q_]<;>omega))|((with_reducible apply h_);focus first|decide|kernel_rfl)|refine s_ (by decide) ?_|refine t_ (by decide) ?_|with_reducible first|apply l_|apply m_|apply n_|apply o_|refine p_ (fun _ => ?_) (fun _ => ?_))<;>(conv => whnf)))
   exact Ret.mk rfl
 ·have e : sgn op = [] := by
   unfold sgn
   rw [if_neg (by omega), if_neg (by omega), if_neg (by omega), if_neg (by omega), if_neg (by omega), if_neg (by omega), if_neg (by omega), if_neg (by omega), if_neg (by omega), if_neg (by omega), if_neg (by omega), if_neg (by omega), if_neg (by omega), if_neg (by omega)]
  rw [e]
  ((conv => whnf);repeat' ((first|(with_reducible first|apply a_|apply b_|apply c_)|((with_reducible first|apply d_|apply e_|apply f_|apply g_);focus first|omega|(simp only [q_]<;>omega))|((with_reducible first|apply i_|apply h_);focus first|omega|(simp only [q_]<;>omega))|((with_reducible apply h_);focus first|decide|kernel_rfl)|refine s_ (by decide) ?_|refine t_ (by decide) ?_|with_reducible first|apply l_|apply m_|apply n_|apply o_|refine p_ (fun _ => ?_) (fun _ => ?_))<;>(conv => whnf)))
  all_goals first | exact Ret.mk rfl | (exfalso; omega)
theorem s_is (s : List UInt8) (l : List TokenD) (hl : l.length ≤ 100000) (out : List NodeD) : CallS Tryz.prog 86 [.d (.ptr FK 0), pStr (tx s)] (pb FK FK1 l out) [] (pBool (isH s l)) [] := by
 refine callS_of Tryz.func86 (by rfl) rfl (by kernel_rfl) (by rfl) [FK, FK1] rfl ?_
 cases l with
 | nil =>
  ((conv => whnf);repeat' ((first|(with_reducible first|apply a_|apply b_|apply c_)|((with_reducible first|apply d_|apply e_|apply f_|apply g_);focus first|omega|(simp only [q_]<;>omega))|((with_reducible first|apply i_|apply h_);focus first|omega|(simp only [q_]<;>omega))|((with_reducible apply h_);focus first|decide|kernel_rfl)|refine s_ (by decide) ?_|refine t_ (by decide) ?_|with_reducible first|apply l_|apply m_|apply n_|apply o_|refine p_ (fun _ => ?_) (fun _ => ?_))<;>(conv => whnf)))
  exact RetS.mk [(FK, FK), (FK1, FK1)] [FK, FK1] rfl rfl (.inl rfl) ⟨⟨rfl, rfl, .inl rfl, ⟨rfl, rfl, rfl, rfl, rfl, rfl⟩, rfl⟩, ⟨rfl, rfl, rfl, rfl⟩, trivial⟩
 | cons t r =>
  have hn : ((t :: r).map TokenD.c).length = r.length + 1 := by rw [List.length_map, List.length_cons]
  have e : isH s (t :: r) = decide ((t.Kind = 1 ∨ t.Kind = 5) ∧ t.S = s) := rfl
  rw [e]
  by_cases hk : t.Kind = 1 ∨ t.Kind = 5
  ·by_cases hs : t.S = s
   ·have hx : tx t.S = tx s := congrArg tx hs
    have hd : decide (tx t.S = tx s) = true := decide_eq_true hx
    rw [decide_eq_true (show _ ∧ _ from ⟨hk, hs⟩)]
    ((conv => whnf);repeat' ((first|(with_reducible first|apply a_|apply b_|apply c_)|((with_reducible first|apply d_|apply e_|apply f_|apply g_);focus first|omega|(simp only [q_]<;>omega))|((with_reducible first|apply i_|apply h_);focus first|omega|(simp only [q_]<;>omega))|((with_reducible apply h_);focus first|decide|kernel_rfl)|refine s_ (by decide) ?_|refine t_ (by decide) ?_|(refine Idx.mapV (f := TokenD.c) 0 rfl t rfl ?_)|(refine BCase.dt hx ?_)|with_reducible first|apply l_|apply m_|apply n_|apply o_|refine p_ (fun _ => ?_) (fun _ => ?_))<;>(conv => whnf)))
    all_goals first | exact RetS.mk [(FK, FK), (FK1, FK1)] [FK, FK1] rfl rfl (.inl rfl) ⟨⟨rfl, rfl, .inl rfl, ⟨rfl, rfl, rfl, rfl, rfl, rfl⟩, rfl⟩, ⟨rfl, rfl, rfl, rfl⟩, trivial⟩ | exact RetS.mk [(FK, FK), (FK1, FK1)] [FK, FK1] rfl rfl (PLe.bool hd) ⟨⟨rfl, rfl, .inl rfl, ⟨rfl, rfl, rfl, rfl, rfl, rfl⟩, rfl⟩, ⟨rfl, rfl, rfl, rfl⟩, trivial⟩ | (exfalso; omega)
   ·have hx : ¬ tx t.S = tx s := fun x => hs (tx_inj x)
    have hd : decide (tx t.S = tx s) = false := decide_eq_false hx
    rw [decide_eq_false (show ¬ (_ ∧ _) from fun x => hs x.2)]
    ((conv => whnf);repeat' ((first|(with_reducible first|apply a_|apply b_|apply c_)|((with_reducible first|apply d_|apply e_|apply f_|apply g_);focus first|omega|(simp only [q_]<;>omega))|((with_reducible first|apply i_|apply h_);focus first|omega|(simp only [q_]<;>omega))|((with_reducible apply h_);focus first|decide|kernel_rfl)|refine s_ (by decide) ?_|refine t_ (by decide) ?_|(refine Idx.mapV (f := TokenD.c) 0 rfl t rfl ?_)|(refine BCase.df hx ?_)|with_reducible first|apply l_|apply m_|apply n_|apply o_|refine p_ (fun _ => ?_) (fun _ => ?_))<;>(conv => whnf)))
    all_goals first | exact RetS.mk [(FK, FK), (FK1, FK1)] [FK, FK1] rfl rfl (.inl rfl) ⟨⟨rfl, rfl, .inl rfl, ⟨rfl, rfl, rfl, rfl, rfl, rfl⟩, rfl⟩, ⟨rfl, rfl, rfl, rfl⟩, trivial⟩ | exact RetS.mk [(FK, FK), (FK1, FK1)] [FK, FK1] rfl rfl (PLe.bool hd) ⟨⟨rfl, rfl, .inl rfl, ⟨rfl, rfl, rfl, rfl, rfl, rfl⟩, rfl⟩, ⟨rfl, rfl, rfl, rfl⟩, trivial⟩ | (exfalso; omega)
  ·rw [decide_eq_false (show ¬ (_ ∧ _) from fun x => hk x.1)]
   ((conv => whnf);repeat' ((first|(with_reducible first|apply a_|apply b_|apply c_)|((with_reducible first|apply d_|apply e_|apply f_|apply g_);focus first|omega|(simp only [q_]<;>omega))|((with_reducible first|apply i_|apply h_);focus first|omega|(simp only [q_]<;>omega))|((with_reducible apply h_);focus first|decide|kernel_rfl)|refine s_ (by decide) ?_|refine t_ (by decide) ?_|(refine Idx.mapV (f := TokenD.c) 0 rfl t rfl ?_)|with_reducible first|apply l_|apply m_|apply n_|apply o_|refine p_ (fun _ => ?_) (fun _ => ?_))<;>(conv => whnf)))
   all_goals first | exact RetS.mk [(FK, FK), (FK1, FK1)] [FK, FK1] rfl rfl (.inl rfl) ⟨⟨rfl, rfl, .inl rfl, ⟨rfl, rfl, rfl, rfl, rfl, rfl⟩, rfl⟩, ⟨rfl, rfl, rfl, rfl⟩, trivial⟩ | (exfalso; omega)
theorem s_take (s : List UInt8) (l : List TokenD) (hl : l.length ≤ 100000) (out : List NodeD) : CallS Tryz.prog 62 [.d (.ptr FK 0), pStr (tx s)] [(FK1, pAr out)] [(FK, pBx FK1 l out.length)] (pBool (isH s l)) [(FK, pBx FK1 (tkO s l) out.length)] := by
 have ps := s_is s l hl out
 refine callS_of Tryz.func62 (by rfl) rfl (by kernel_rfl) (by rfl) [FK1, FK] rfl ?_
 have hml : (l.map TokenD.c).length = l.length := List.length_map _
 cases h : isH s l with
 | false =>
  rw [h] at ps
  have e : tkO s l = l := by unfold tkO; rw [h]; rfl
  rw [e]
  ((conv => whnf);repeat' ((first|(with_reducible first|apply a_|apply b_|apply c_)|((with_reducible first|apply d_|apply e_|apply f_|apply g_);focus first|omega|(simp only [q_]<;>omega))|((with_reducible first|apply i_|apply h_);focus first|omega|(simp only [q_]<;>omega))|((with_reducible apply h_);focus first|decide|kernel_rfl)|refine s_ (by decide) ?_|refine t_ (by decide) ?_|(refine CallP.ret [(FK, FK), (FK1, FK1)] _ _ _ _ _ _ _ ps rfl rfl rfl rfl ⟨rfl, rfl, trivial⟩ ?_)|with_reducible first|apply l_|apply m_|apply n_|apply o_|refine p_ (fun _ => ?_) (fun _ => ?_))<;>(conv => whnf)))
  exact RetS.mk [(FK, FK), (FK1, FK1)] [FK1, FK] rfl rfl (.inl rfl) ⟨⟨rfl, rfl, rfl, rfl⟩, ⟨rfl, rfl, .inl rfl, ⟨rfl, rfl, rfl, rfl, rfl, rfl⟩, rfl⟩, trivial⟩
 | true =>
  rw [h] at ps
  have hp := isH_pos h
  have e : tkO s l = l.drop 1 := by unfold tkO; rw [h]; rfl
  rw [e]
  ((conv => whnf);repeat' ((first|(with_reducible first|apply a_|apply b_|apply c_)|((with_reducible first|apply d_|apply e_|apply f_|apply g_);focus first|omega|(simp only [q_]<;>omega))|((with_reducible first|apply i_|apply h_);focus first|omega|(simp only [q_]<;>omega))|((with_reducible apply h_);focus first|decide|kernel_rfl)|refine s_ (by decide) ?_|refine t_ (by decide) ?_|(refine CallP.ret [(FK, FK), (FK1, FK1)] _ _ _ _ _ _ _ ps rfl rfl rfl rfl ⟨rfl, rfl, trivial⟩ ?_)|with_reducible first|apply l_|apply m_|apply n_|apply o_|refine p_ (fun _ => ?_) (fun _ => ?_))<;>(conv => whnf)))
  exact RetS.mk [(FK, FK), (FK1, FK1)] [FK1, FK] rfl rfl (.inl rfl) ⟨⟨rfl, rfl, rfl, rfl⟩, ⟨rfl, rfl, .inl (congrArg (C.sl 4) (cells_drop TokenD.c l 1 rfl (z := 1) rfl)), ⟨rfl, rfl, rfl, rfl, rfl, rfl⟩, rfl⟩, trivial⟩
theorem s_must (s : List UInt8) (l : List TokenD) (hl : l.length ≤ 100000) (out : List NodeD) (h : isH s l = true) : CallS Tryz.prog 95 [.d (.ptr FK 0), pStr (tx s)] [(FK1, pAr out)] [(FK, pBx FK1 l out.length)] (.tup []) [(FK, pBx FK1 (l.drop 1) out.length)] := by
 have ps := s_take s l hl out
 rw [h] at ps
 have e : tkO s l = l.drop 1 := by unfold tkO; rw [h]; rfl
 rw [e] at ps
 refine callS_of Tryz.func95 (by rfl) rfl (by kernel_rfl) (by rfl) [FK1, FK] rfl ?_
 ((conv => whnf);repeat' ((first|(with_reducible first|apply a_|apply b_|apply c_)|((with_reducible first|apply d_|apply e_|apply f_|apply g_);focus first|omega|(simp only [q_]<;>omega))|((with_reducible first|apply i_|apply h_);focus first|omega|(simp only [q_]<;>omega))|((with_reducible apply h_);focus first|decide|kernel_rfl)|refine s_ (by decide) ?_|refine t_ (by decide) ?_|(refine CallP.ret [(FK, FK), (FK1, FK1)] _ _ _ _ _ _ _ ps rfl rfl rfl rfl ⟨rfl, rfl, trivial⟩ ?_)|with_reducible first|apply l_|apply m_|apply n_|apply o_|refine p_ (fun _ => ?_) (fun _ => ?_))<;>(conv => whnf)))
 exact RetS.mk [(FK, FK), (FK1, FK1)] [FK1, FK] rfl rfl rfl ⟨⟨rfl, rfl, rfl, rfl⟩, ⟨rfl, rfl, .inl rfl, ⟨rfl, rfl, rfl, rfl, rfl, rfl⟩, rfl⟩, trivial⟩
theorem x_must (s : List UInt8) (l : List TokenD) (hl : l.length ≤ 100000) (out : List NodeD) (h : isH s l = false) : CallX Tryz.prog 95 [.d (.ptr FK 0), pStr (tx s)] (pb FK FK1 l out) wrongV := by
 have ps := s_take s l hl out
 rw [h] at ps
 refine callX_of Tryz.func95 (by rfl) rfl (by kernel_rfl) (by rfl) [FK, FK1] rfl ?_
 ((conv => whnf);repeat' ((first|(with_reducible first|apply a_|apply b_|apply c_)|((with_reducible first|apply d_|apply e_|apply f_|apply g_);focus first|omega|(simp only [q_]<;>omega))|((with_reducible first|apply i_|apply h_);focus first|omega|(simp only [q_]<;>omega))|((with_reducible apply h_);focus first|decide|kernel_rfl)|refine s_ (by decide) ?_|refine t_ (by decide) ?_|(refine CallP.ret [(FK, FK), (FK1, FK1)] _ _ _ _ _ _ _ ps rfl rfl rfl rfl ⟨rfl, rfl, trivial⟩ ?_)|with_reducible first|apply l_|apply m_|apply n_|apply o_|refine p_ (fun _ => ?_) (fun _ => ?_))<;>(conv => whnf)))
theorem s_put (op kids : Int) (l : List TokenD) (out : List NodeD) (ho : out.length ≤ 100000) : CallS Tryz.prog 64 [.d (.ptr FK 0), pInt .i64 op, pInt .i64 kids] [] (pb FK FK1 l out) (.tup []) (pb FK NK l (out ++ [nOp op kids])) := by
 have hml : (out.map NodeD.c).length = out.length := List.length_map _
 refine callS_of Tryz.func64 (by rfl) rfl (by kernel_rfl) (by rfl) [FK, FK1] rfl ?_
 ((conv => whnf);repeat' ((first|(with_reducible first|apply a_|apply b_|apply c_)|((with_reducible first|apply d_|apply e_|apply f_|apply g_);focus first|omega|(simp only [q_]<;>omega))|((with_reducible first|apply i_|apply h_);focus first|omega|(simp only [q_]<;>omega))|((with_reducible apply h_);focus first|decide|kernel_rfl)|refine s_ (by decide) ?_|refine t_ (by decide) ?_|(refine Need.by 64 rfl (by show (out.length + 1) * 64 ≤ _;omega) ?_)|with_reducible first|apply l_|apply m_|apply n_|apply o_|refine p_ (fun _ => ?_) (fun _ => ?_))<;>(conv => whnf)))
 refine RetS.mk [(FK, FK), (FK1, FK1), (NK, 15)] [FK, FK1, NK] rfl rfl rfl ⟨⟨rfl, rfl, .inl rfl, ⟨rfl, rfl, rfl, rfl, rfl, ?_⟩, rfl⟩, ⟨rfl, rfl, rfl, ?_⟩, trivial⟩
 ·show _ = _
  rw [List.length_append]; rfl
 ·rw [List.take_of_length_le (by rw [hml]; exact Nat.le_refl _), List.map_append]; rfl
end
section
open Go.RowKit K
set_option maxRecDepth 100000
abbrev Prd := List TokenD × Int
def prC (p : Prd) : List C := [.sl 4 (p.1.map TokenD.c), .v (.int .i64 p.2)]
abbrev prV (p : Prd) : PV := .agg ((prC p).map D.c)
def lvlF (op : Int) : Int :=
 if op = 17 then 1 else if op = 16 then 2 else if op = 4 then 3 else if op = 5 ∨ op = 6 then 5 else if op = 7 ∨ op = 8 ∨ op = 9 then 6 else if op = 3 then 7 else if op = 1 ∨ op = 2 then 8 else 4
theorem p_level (op : Int) : Pure Tryz.prog 79 [pInt .i64 op] (pInt .i64 (lvlF op)) := by
 refine pure_of Tryz.func79 (by rfl) rfl (by kernel_rfl) (by rfl) ?_
 by_cases h : (1 ≤ op ∧ op ≤ 9) ∨ op = 16 ∨ op = 17
 ·have : op = 1 ∨ op = 2 ∨ op = 3 ∨ op = 4 ∨ op = 5 ∨ op = 6 ∨ op = 7 ∨ op = 8 ∨ op = 9 ∨ op = 16 ∨ op = 17 := by omega
  rcases this with rfl | rfl | rfl | rfl | rfl | rfl | rfl | rfl | rfl | rfl | rfl
  all_goals
   ((conv => whnf);repeat' ((first|(with_reducible first|apply a_|apply b_|apply c_)|((with_reducible first|apply d_|apply e_|apply f_|apply g_);focus first|omega|(simp only [q_]<;>omega))|((with_reducible first|apply i_|apply h_);focus first|omega|(simp only [q_]<;>omega))|((with_reducible apply h_);focus first|decide|kernel_rfl)|refine s_ (by decide) ?_|refine t_ (by decide) ?_|with_reducible first|apply l_|apply m_|apply n_|apply o_|refine p_ (fun _ => ?_) (fun _ => ?_))<;>(conv => whnf)))
   exact Ret.mk rfl
 ·have e : lvlF op = 4 := by
   unfold lvlF
   rw [if_neg (by omega), if_neg (by omega), if_neg (by omega), if_neg (by omega), if_neg (by omega), if_neg (by omega), if_neg (by omega)]
  rw [e]
  ((conv => whnf);repeat' ((first|(with_reducible first|apply a_|apply b_|apply c_)|((with_reducible first|apply d_|apply e_|apply f_|apply g_);focus first|omega|(simp only [q_]<;>omega))|((with_reducible first|apply i_|apply h_);focus first|omega|(simp only [q_]<;>omega))|((with_reducible apply h_);focus first|decide|kernel_rfl)|refine s_ (by decide) ?_|refine t_ (by decide) ?_|with_reducible first|apply l_|apply m_|apply n_|apply o_|refine p_ (fun _ => ?_) (fun _ => ?_))<;>(conv => whnf)))
  all_goals first | exact Ret.mk rfl | (exfalso; omega)
def litT (v : ValueD) : TokenD := if v.Kind = 1 then ⟨2, 0, v.N, []⟩ else if v.Kind = 2 then ⟨3, 0, 0, v.S⟩ else if v.Kind = 3 then ⟨4, 0, 0, v.S⟩ else markT wNull
theorem ok_small {s : List UInt8} (h : s.length ≤ 1000) : okText s := by unfold okText; omega
theorem p_literal (v : ValueD) : Pure Tryz.prog 81 [vV v] (tV (litT v)) := by
 have pm := p_Mark wNull (ok_small (by decide))
 unfold litT
 refine pure_of Tryz.func81 (by rfl) rfl (by kernel_rfl) (by rfl) ?_
 by_cases h1 : v.Kind = 1
 ·rw [if_pos h1]
  ((conv => whnf);repeat' ((first|(with_reducible first|apply a_|apply b_|apply c_)|((with_reducible first|apply d_|apply e_|apply f_|apply g_);focus first|omega|(simp only [q_]<;>omega))|((with_reducible first|apply i_|apply h_);focus first|omega|(simp only [q_]<;>omega))|((with_reducible apply h_);focus first|decide|kernel_rfl)|refine s_ (by decide) ?_|refine t_ (by decide) ?_|refine r_ pm rfl ?_|with_reducible first|apply l_|apply m_|apply n_|apply o_|refine p_ (fun _ => ?_) (fun _ => ?_))<;>(conv => whnf)))
  all_goals first | exact Ret.eq rfl | (exfalso; omega)
 rw [if_neg h1]
 by_cases h2 : v.Kind = 2
 ·rw [if_pos h2]
  ((conv => whnf);repeat' ((first|(with_reducible first|apply a_|apply b_|apply c_)|((with_reducible first|apply d_|apply e_|apply f_|apply g_);focus first|omega|(simp only [q_]<;>omega))|((with_reducible first|apply i_|apply h_);focus first|omega|(simp only [q_]<;>omega))|((with_reducible apply h_);focus first|decide|kernel_rfl)|refine s_ (by decide) ?_|refine t_ (by decide) ?_|refine r_ pm rfl ?_|with_reducible first|apply l_|apply m_|apply n_|apply o_|refine p_ (fun _ => ?_) (fun _ => ?_))<;>(conv => whnf)))
  all_goals first | exact Ret.eq rfl | (exfalso; omega)
 rw [if_neg h2]
 by_cases h3 : v.Kind = 3
 ·rw [if_pos h3]
  ((conv => whnf);repeat' ((first|(with_reducible first|apply a_|apply b_|apply c_)|((with_reducible first|apply d_|apply e_|apply f_|apply g_);focus first|omega|(simp only [q_]<;>omega))|((with_reducible first|apply i_|apply h_);focus first|omega|(simp only [q_]<;>omega))|((with_reducible apply h_);focus first|decide|kernel_rfl)|refine s_ (by decide) ?_|refine t_ (by decide) ?_|refine r_ pm rfl ?_|with_reducible first|apply l_|apply m_|apply n_|apply o_|refine p_ (fun _ => ?_) (fun _ => ?_))<;>(conv => whnf)))
  all_goals first | exact Ret.eq rfl | (exfalso; omega)
 rw [if_neg h3]
 ((conv => whnf);repeat' ((first|(with_reducible first|apply a_|apply b_|apply c_)|((with_reducible first|apply d_|apply e_|apply f_|apply g_);focus first|omega|(simp only [q_]<;>omega))|((with_reducible first|apply i_|apply h_);focus first|omega|(simp only [q_]<;>omega))|((with_reducible apply h_);focus first|decide|kernel_rfl)|refine s_ (by decide) ?_|refine t_ (by decide) ?_|refine r_ pm rfl ?_|with_reducible first|apply l_|apply m_|apply n_|apply o_|refine p_ (fun _ => ?_) (fun _ => ?_))<;>(conv => whnf)))
 all_goals first | exact Ret.eq rfl | (exfalso; omega)
def atF (p : Prd) (k : Int) : List TokenD := if k ≤ p.2 then p.1 else markT sLp :: (p.1 ++ [markT sRp])
theorem p_at (p : Prd) (k : Int) (hl : p.1.length ≤ 90000) : Pure Tryz.prog 82 [prV p, pInt .i64 k] (slV 4 TokenD.c (atF p k)) := by
 have p1 := p_Mark sLp (ok_small (by decide))
 have p2 := p_Mark sRp (ok_small (by decide))
 have pj := p_join [.tok (markT sLp), .toks p.1, .tok (markT sRp)] (fun x hx => by simp only [List.mem_cons, List.not_mem_nil, or_false] at hx; rcases hx with rfl | rfl | rfl <;> trivial) (by simp) (by show (joinF [_, _, _]).length ≤ _; unfold joinF; simp [JPart.l]; omega)
 have ej : joinF [.tok (markT sLp), .toks p.1, .tok (markT sRp)] = markT sLp :: (p.1 ++ [markT sRp]) := by unfold joinF; simp [JPart.l]
 rw [ej] at pj
 unfold atF
 refine pure_of Tryz.func82 (by rfl) rfl (by kernel_rfl) (by rfl) ?_
 by_cases h : k ≤ p.2
 ·rw [if_pos h]
  ((conv => whnf);repeat' ((first|(with_reducible first|apply a_|apply b_|apply c_)|((with_reducible first|apply d_|apply e_|apply f_|apply g_);focus first|omega|(simp only [q_]<;>omega))|((with_reducible first|apply i_|apply h_);focus first|omega|(simp only [q_]<;>omega))|((with_reducible apply h_);focus first|decide|kernel_rfl)|refine s_ (by decide) ?_|refine t_ (by decide) ?_|refine r_ p1 rfl ?_|refine r_ p2 rfl ?_|refine r_ pj rfl ?_|with_reducible first|apply l_|apply m_|apply n_|apply o_|refine p_ (fun _ => ?_) (fun _ => ?_))<;>(conv => whnf)))
  all_goals first | exact Ret.eq rfl | (exfalso; omega)
 ·rw [if_neg h]
  ((conv => whnf);repeat' ((first|(with_reducible first|apply a_|apply b_|apply c_)|((with_reducible first|apply d_|apply e_|apply f_|apply g_);focus first|omega|(simp only [q_]<;>omega))|((with_reducible first|apply i_|apply h_);focus first|omega|(simp only [q_]<;>omega))|((with_reducible apply h_);focus first|decide|kernel_rfl)|refine s_ (by decide) ?_|refine t_ (by decide) ?_|refine r_ p1 rfl ?_|refine r_ p2 rfl ?_|refine r_ pj rfl ?_|with_reducible first|apply l_|apply m_|apply n_|apply o_|refine p_ (fun _ => ?_) (fun _ => ?_))<;>(conv => whnf)))
  all_goals first | exact Ret.eq rfl | (exfalso; omega)
end
end Go.Proofs.YtmcmagfondjopaaGreatDoor.Pm
