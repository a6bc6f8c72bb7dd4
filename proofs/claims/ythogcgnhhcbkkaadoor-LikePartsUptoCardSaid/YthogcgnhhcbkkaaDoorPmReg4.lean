/- One statement in whatever order its edges allow: joined. -/
import Derived.Test.YthogcgnhhcbkkaaDoorPmReg3
namespace Go.Proofs.YthogcgnhhcbkkaaDoor.Pm
open Go.RowKit
set_option linter.unusedVariables false

/-- how many are not done -/
def undone (S : Nat → Bool) : Nat → Nat
  | 0 => 0
  | n + 1 => undone S n + if S n then 0 else 1
theorem undone_zero {S : Nat → Bool} : ∀ n, undone S n = 0 → ∀ j, j < n → S j = true
  | 0, _, j, hj => by omega
  | n + 1, h, j, hj => by
    unfold undone at h
    by_cases hjn : j = n
    · subst hjn
      cases hs : S j with
      | true => rfl
      | false => rw [hs] at h; simp at h
    · exact undone_zero n (by omega) j (by omega)
theorem undone_same {S S' : Nat → Bool} : ∀ n, (∀ j, j < n → S j = S' j) → undone S n = undone S' n
  | 0, _ => rfl
  | n + 1, h => by unfold undone; rw [undone_same n fun j hj => h j (by omega), h n (by omega)]
theorem undone_add {S : Nat → Bool} {i : Nat} (hi : S i = false) : ∀ n, i < n → undone (addS S i) n + 1 = undone S n
  | 0, h => by omega
  | n + 1, h => by
    unfold undone
    by_cases hn : i = n
    · subst hn
      rw [hi, undone_same (S := addS S i) (S' := S) i fun j hj => by simp [addS]; omega]
      simp [addS]
    · have := undone_add hi n (by omega)
      have e : addS S i n = S n := by simp [addS]; omega
      rw [e]; omega

section
variable {P : Program} {nt : Nat} {ks0 : List Nat} {ops : Array Oper} {c : Ctx} {e0 : Env} {h0 : Hp} {T : Nat → Tr} {Q : Exit → Act → World → Prop}

/-- what stands when just the listed ones are done -/
structure Part (c : Ctx) (nt : Nat) (ks0 : List Nat) (ops : Array Oper) (e0 : Env) (h0 : Hp) (T : Nat → Tr) (σ : Sg) (S : Nat → Bool) (a : Act) (w : World) : Prop where
  st : St c nt σ (envF e0 (dstOf ops) T ops.size S) (hpF h0 T ops.size S) a w
  fresh : ∀ j k, j < ops.size → S j = false → Makes (T j) k → σ k = none
  past : ∀ k, k ∉ ks0 → (∀ j, j < ops.size → k ∉ Dl.keys (T j).δ) → σ k = none

theorem any_order (hc : c.Ok) (hns : Region.noSelect ops = true) (hok : ∀ j o, j < ops.size → ops[j]? = some o → OpOk ops e0 h0 T P nt ks0 j o) (hnd : ∀ i j t, i < ops.size → j < ops.size → dstOf ops i = some t → dstOf ops j = some t → i = j)
    (hchk : ∀ j y, j < ops.size → ops[j]? = some y → (∀ e ∈ y.after, Region.binds .any e = true → e.on < j) ∧ ∀ k x, k < j → ops[k]? = some x → clash ops x y (entry T k) (entry T j) = true → dependsOn y k = true)
    (hfin : ∀ σ a w, St c nt σ (envT ops e0 T ops.size) (hpT h0 T ops.size) a w → (∀ k, k ∉ ks0 → (∀ j, j < ops.size → k ∉ Dl.keys (T j).δ) → σ k = none) → Q .normal a w) :
    ∀ (fuel : Nat) (listed : Array Bool) (σ : Sg) (a : Act) (w : World), listed.size = ops.size → undone (fun j => listed.getD j false) ops.size ≤ fuel →
      (∀ j y, ops[j]? = some y → listed.getD j false = true → ∀ e ∈ y.after, Region.binds .any e = true → listed.getD e.on false = true) →
      Part c nt ks0 ops e0 h0 T σ (fun j => listed.getD j false) a w → wpAny P .any ops Q fuel listed a w := by
  -- all are done
  have done : ∀ (listed : Array Bool) (σ : Sg) (a : Act) (w : World), (∀ j, j < ops.size → listed.getD j false = true) → Part c nt ks0 ops e0 h0 T σ (fun j => listed.getD j false) a w → Q .normal a w := by
    intro listed σ a w hall hp
    refine hfin σ a w ?_ hp.past
    have e1 : envF e0 (dstOf ops) T ops.size (fun j => listed.getD j false) = envT ops e0 T ops.size := by
      funext t; exact envF_agree _ _ _ _ fun j hj _ => hall j hj
    have e2 : hpF h0 T ops.size (fun j => listed.getD j false) = hpT h0 T ops.size := by
      funext t; exact hpF_agree _ _ _ fun j hj _ => hall j hj
    have := hp.st
    rw [e1, e2] at this
    exact this
  have unl : ∀ (listed : Array Bool) (j : Nat), listed.size = ops.size → j < ops.size → listed.getD j true = listed.getD j false := by
    intro listed j h1 h2
    simp [Array.getD_eq_getD_getElem?, Array.getElem?_eq_getElem (show j < listed.size by omega)]
  -- none is ready: all are done
  have stuck : ∀ (listed : Array Bool), listed.size = ops.size → Region.ready .any ops listed = [] → ∀ j, j < ops.size → listed.getD j false = true := by
    intro listed hls hr j
    induction j using Nat.strongRecOn with
    | _ j ih =>
      intro hj
      cases hl : listed.getD j false with
      | true => rfl
      | false =>
        have : j ∈ Region.ready .any ops listed := by
          rw [mem_ready]
          refine ⟨by rw [unl listed j hls hj]; exact hl, ops[j], Array.getElem?_eq_getElem hj, fun e he hb => ?_⟩
          have hlt := (hchk j ops[j] hj (Array.getElem?_eq_getElem hj)).1 e he hb
          exact ih e.on hlt (by omega)
        rw [hr] at this
        cases this
  intro fuel
  induction fuel with
  | zero =>
    intro listed σ a w hls hu hd hp
    have hall := undone_zero ops.size (by omega : undone (fun j => listed.getD j false) ops.size = 0)
    refine ⟨?_, done listed σ a w hall hp⟩
    refine List.eq_nil_iff_forall_not_mem.2 fun j hj => ?_
    obtain ⟨h1, o, ho, _⟩ := mem_ready.1 hj
    have hjl := (Array.getElem?_eq_some_iff.1 ho).1
    rw [unl listed j hls hjl] at h1
    have := hall j hjl
    rw [h1] at this; cases this
  | succ fuel ih =>
    intro listed σ a w hls hu hd hp
    refine ⟨fun hr => done listed σ a w (stuck listed hls hr) hp, fun i hi => ?_⟩
    obtain ⟨h1, o, ho, hall⟩ := mem_ready.1 hi
    have hil := (Array.getElem?_eq_some_iff.1 ho).1
    rw [unl listed i hls hil] at h1
    obtain ⟨S, hS⟩ : ∃ S : Nat → Bool, S = fun j => listed.getD j false := ⟨_, rfl⟩
    have hSi : S i = false := by rw [hS]; exact h1
    have hSi' : S = fun j => listed.getD j false := hS
    rw [← hS] at hp hu
    -- those that clash with i: done, just if they are ahead of it
    have hclash : ∀ j x, j < ops.size → j ≠ i → ops[j]? = some x → (clash ops x o (entry T j) (entry T i) = true ∨ clash ops o x (entry T i) (entry T j) = true) → (j < i → S j = true) ∧ (i < j → S j = false) := by
      intro j x hj hne hx hcl
      refine ⟨fun hlt => ?_, fun hlt => ?_⟩
      · have hc1 : clash ops x o (entry T j) (entry T i) = true := by
          rcases hcl with hcl | hcl
          · exact hcl
          · unfold clash at hcl ⊢
            simp only [Bool.or_eq_true] at hcl ⊢
            have sym : ∀ {u v : List Nat}, meets u v = true → meets v u = true := by
              intro u v huv
              unfold meets at huv
              obtain ⟨p, hp, h2⟩ := List.any_eq_true.1 huv
              obtain ⟨q, hq, h3⟩ := List.any_eq_true.1 h2
              have := Nat.eq_of_beq_eq_true h3
              subst this
              exact meets_of hq hp
            have symd : (match o.dst with | some t => optIn x.dst [t] | none => false) = true → (match x.dst with | some t => optIn o.dst [t] | none => false) = true := by
              intro hq
              cases hod : o.dst with
              | none => rw [hod] at hq; cases hq
              | some t =>
                rw [hod] at hq
                cases hxd : x.dst with
                | none => rw [hxd] at hq; cases hq
                | some t' =>
                  rw [hxd] at hq
                  simp only [optIn, List.any_cons, List.any_nil, Bool.or_false] at hq ⊢
                  rw [Nat.eq_of_beq_eq_true hq]; exact Nat.beq_refl _
            rcases hcl with ((((hcl | hcl) | hcl) | hcl) | hcl) | hcl
            · exact .inl (.inl (.inl (.inl (.inr hcl))))
            · exact .inl (.inl (.inl (.inl (.inl hcl))))
            · exact .inl (.inl (.inl (.inr (symd hcl))))
            · exact .inl (.inl (.inr (sym hcl)))
            · exact .inr (sym hcl)
            · exact .inl (.inr (sym hcl))
        obtain ⟨e, he, hb, rfl⟩ := dependsOn_out ((hchk i o hil ho).2 j x hlt hx hc1)
        rw [hS]; exact hall e he hb
      · have hc1 : clash ops o x (entry T i) (entry T j) = true := by
          rcases hcl with hcl | hcl
          · unfold clash at hcl ⊢
            simp only [Bool.or_eq_true] at hcl ⊢
            have sym : ∀ {u v : List Nat}, meets u v = true → meets v u = true := by
              intro u v huv
              unfold meets at huv
              obtain ⟨p, hp, h2⟩ := List.any_eq_true.1 huv
              obtain ⟨q, hq, h3⟩ := List.any_eq_true.1 h2
              have := Nat.eq_of_beq_eq_true h3
              subst this
              exact meets_of hq hp
            have symd : (match x.dst with | some t => optIn o.dst [t] | none => false) = true → (match o.dst with | some t => optIn x.dst [t] | none => false) = true := by
              intro hq
              cases hod : x.dst with
              | none => rw [hod] at hq; cases hq
              | some t =>
                rw [hod] at hq
                cases hxd : o.dst with
                | none => rw [hxd] at hq; cases hq
                | some t' =>
                  rw [hxd] at hq
                  simp only [optIn, List.any_cons, List.any_nil, Bool.or_false] at hq ⊢
                  rw [Nat.eq_of_beq_eq_true hq]; exact Nat.beq_refl _
            rcases hcl with ((((hcl | hcl) | hcl) | hcl) | hcl) | hcl
            · exact .inl (.inl (.inl (.inl (.inr hcl))))
            · exact .inl (.inl (.inl (.inl (.inl hcl))))
            · exact .inl (.inl (.inl (.inr (symd hcl))))
            · exact .inl (.inl (.inr (sym hcl)))
            · exact .inr (sym hcl)
            · exact .inl (.inr (sym hcl))
          · exact hcl
        obtain ⟨e, he, hb, heq⟩ := dependsOn_out ((hchk j x hj hx).2 i o hlt ho hc1)
        cases hsj : S j with
        | false => rfl
        | true =>
          have := hd j x hx (by rw [hS] at hsj; exact hsj) e he hb
          rw [heq, h1] at this
          cases this
    obtain ⟨k1, k2, k3, k4⟩ := hok i o hil ho
    have hdst : dstOf ops i = o.dst := by unfold dstOf; rw [ho]; rfl
    -- what i looks at is as in the text's order
    have henv : ∀ t, t ∈ o.looksAt ops → envF e0 (dstOf ops) T ops.size S t = envT ops e0 T i t := by
      intro t ht
      refine Eq.trans ?_ (envF_lt e0 (dstOf ops) T ops.size (Nat.le_of_lt hil) t)
      refine envF_agree _ _ _ _ fun j hj hdj => ?_
      by_cases hji : j = i
      · subst hji; rw [hSi]; simp
      · have hx : ops[j]? = some ops[j] := Array.getElem?_eq_getElem hj
        have hdx : ops[j].dst = some t := by unfold dstOf at hdj; rw [hx] at hdj; exact hdj
        have hcl : clash ops ops[j] o (entry T j) (entry T i) = true := by
          unfold clash; rw [optIn_of hdx ht]; simp
        obtain ⟨g1, g2⟩ := hclash j ops[j] hj hji hx (.inl hcl)
        rcases Nat.lt_or_gt_of_ne hji with hlt | hlt
        · rw [g1 hlt]; simp [hlt]
        · rw [g2 hlt]; simp; omega
    have hent : ∀ j x, ops[j]? = some x → (T j).w = true → entry T j = (Dl.keys (T j).δ, (T j).rf.map Prod.fst) := by
      intro j x hx hw
      unfold entry; rw [hw]; rfl
    -- keys of others
    have hkeysw : ∀ j k, j < ops.size → k ∈ Dl.keys (T j).δ → (T j).w = true := by
      intro j k hj hk
      cases hw : (T j).w with
      | true => rfl
      | false =>
        have := ((hok j ops[j] hj (Array.getElem?_eq_getElem hj)).2.2.1 hw).2.1
        rw [this] at hk; simp [Dl.keys] at hk
    have hlook : ∀ x ∈ o.op.operands, ∀ t, x = .tmp t → t ∈ o.looksAt ops := by
      intro x hx t ht
      subst ht
      exact List.mem_append_left _ (List.mem_filterMap.2 ⟨.tmp t, by simpa using hx, rfl⟩)
    have hev : ∀ x ∈ o.op.operands, ev (envF e0 (dstOf ops) T ops.size S) x = ev (envT ops e0 T i) x := by
      intro x hx
      cases x with
      | tmp t => exact henv t (hlook _ hx t rfl)
      | const v => rfl
      | global g => rfl
      | func f => rfl
    have hguard : GuardIs ops o (envF e0 (dstOf ops) T ops.size S) (T i).w := by
      unfold GuardIs at k2 ⊢
      cases hg : o.guard with
      | none => rw [hg] at k2; exact k2
      | some p =>
        obtain ⟨j, want⟩ := p
        rw [hg] at k2
        obtain ⟨oj, t, q1, q2, q3⟩ := k2
        refine ⟨oj, t, q1, q2, ?_⟩
        rw [henv t (List.mem_append_right _ (by rw [hg]; simp [q1, q2]))]
        exact q3
    have hwant := wanted_of hguard hp.st.env
    have hSadd : (fun j => (listed.setIfInBounds i true).getD j false) = addS S i := by
      funext j
      rw [hS]
      by_cases hji : j = i
      · subst hji; simp [addS, Array.getD_eq_getD_getElem?, hls, hil]
      · simp [addS, hji, Array.getD_eq_getD_getElem?, Array.getElem?_setIfInBounds_ne (Ne.symm hji)]
    -- the keys that i looks at are as in the text's order
    have hhp : (T i).w = true → ∀ p ∈ (T i).rf, hpF h0 T ops.size S p.1 = some p.2 := by
      intro hw p hpm
      obtain ⟨g1, g2, g3⟩ := k4 hw
      rw [← g1 p hpm]
      show hpF h0 T ops.size S p.1 = hpF h0 T i (fun _ => true) p.1
      refine Eq.trans ?_ (hpF_lt h0 T ops.size (Nat.le_of_lt hil) p.1)
      refine hpF_agree _ _ _ fun j hj hkj => ?_
      by_cases hji : j = i
      · subst hji; rw [hSi]; simp
      · have hx : ops[j]? = some ops[j] := Array.getElem?_eq_getElem hj
        have hcl : clash ops ops[j] o (entry T j) (entry T i) = true := by
          unfold clash
          rw [hent i o ho hw, hent j _ hx (hkeysw j _ hj hkj), meets_of (b := (T i).rf.map Prod.fst) hkj (List.mem_map_of_mem hpm)]
          simp
        obtain ⟨q1, q2⟩ := hclash j ops[j] hj hji hx (.inl hcl)
        rcases Nat.lt_or_gt_of_ne hji with hlt | hlt
        · rw [q1 hlt]; simp [hlt]
        · rw [q2 hlt]; simp; omega
    -- the next state
    have next : ∀ (σ' : Sg) (u : Value) (w' : World), Evo σ σ' (fz c σ (hpF h0 T ops.size S) w) (fz c σ' (Dl.app (hpF h0 T ops.size S) (T i).δ) w') w w' → SW c σ' (Dl.app (hpF h0 T ops.size S) (T i).δ) w' →
        PRep σ' (fz c σ' (Dl.app (hpF h0 T ops.size S) (T i).δ) w') w' (T i).v u → (∀ k, k ∉ Dl.keys (T i).δ → σ k = none → σ' k = none) → wpAny P .any ops Q fuel (listed.setIfInBounds i true) (a.put o.dst u) w' := by
      intro σ' u w' ev hsw hpr hfr
      refine ih (listed.setIfInBounds i true) σ' _ w' (by simpa using hls) ?_ ?_ ?_
      · rw [hSadd]
        have := undone_add hSi ops.size hil
        omega
      · intro j y hy hl e he hb
        have hl' : addS S i j = true := by rw [← hSadd]; exact hl
        have goal : addS S i e.on = true := by
          by_cases hji : j = i
          · subst hji
            rw [ho] at hy; cases hy
            unfold addS
            split
            · rfl
            · rw [hS]; exact hall e he hb
          · have hsj : S j = true := by simpa [addS, hji] using hl'
            have := hd j y hy (by rw [hS] at hsj; exact hsj) e he hb
            unfold addS
            split
            · rfl
            · rw [hS]; exact this
        rw [← hSadd] at goal
        exact goal
      · rw [hSadd]
        have e1 : envF e0 (dstOf ops) T ops.size (addS S i) = updO (envF e0 (dstOf ops) T ops.size S) o.dst (T i).v := by
          rw [envF_ins e0 (dstOf ops) T hSi ops.size hil, hdst]
          intro j hij hj hsj t htj hti
          have hx : ops[j]? = some ops[j] := Array.getElem?_eq_getElem hj
          have hdx : ops[j].dst = some t := by unfold dstOf at htj; rw [hx] at htj; exact htj
          rw [hdst] at hti
          have hcl : clash ops o ops[j] (entry T i) (entry T j) = true := by
            unfold clash
            rw [hti, hdx]
            simp [optIn]
          have := (hclash j ops[j] hj (by omega) hx (.inr hcl)).2 hij
          rw [this] at hsj; cases hsj
        have e2 : hpF h0 T ops.size (addS S i) = Dl.app (hpF h0 T ops.size S) (T i).δ := by
          refine hpF_ins h0 T hSi ops.size hil fun j hij hj hsj k hki hkj => ?_
          have hx : ops[j]? = some ops[j] := Array.getElem?_eq_getElem hj
          have hcl : clash ops o ops[j] (entry T i) (entry T j) = true := by
            unfold clash
            rw [hent i o ho (hkeysw i k hil hki), hent j _ hx (hkeysw j k hj hkj), meets_of hki hkj]
            simp
          have := (hclash j ops[j] hj (by omega) hx (.inr hcl)).2 hij
          rw [this] at hsj; cases hsj
        refine ⟨?_, fun j k hj hsj hm => ?_, fun k hk hkj => hfr k (hkj i hil) (hp.past k hk hkj)⟩
        · rw [e1, e2]; exact st_put hp.st ev hsw hpr k1
        · have hji : j ≠ i := by rintro rfl; simp [addS] at hsj
          have hσk := hp.fresh j k hj (by simpa [addS, hji] using hsj) hm
          refine hfr _ (fun hmem => ?_) hσk
          have hw := hkeysw i k hil hmem
          have hwj := hkeysw j k hj hm.1
          obtain ⟨_, _, g3⟩ := k4 hw
          obtain ⟨oj, hoj⟩ : ∃ oj, ops[j]? = some oj := ⟨ops[j], Array.getElem?_eq_getElem hj⟩
          obtain ⟨_, _, g3'⟩ := (hok j oj hj hoj).2.2.2 hwj
          -- a key that is looked at is there
          have hno : ∀ p ∈ (T i).rf, p.1 ≠ k := by
            rintro ⟨q, b⟩ hp' rfl
            have h8 := hhp hw (q, b) hp'
            have h9 := hp_none hp.st.toSW hσk
            simp only at h8
            rw [h9] at h8; cases h8
          rcases Nat.lt_or_gt_of_ne hji with hlt | hlt
          · exact (g3 k ⟨hmem, hno⟩).2 j hlt hm.1
          · exact (g3' k hm).2 i hlt hmem
    unfold wpOp
    rw [ho]
    simp only [hwant]
    cases hw : (T i).w with
    | true =>
      rw [if_pos rfl]
      obtain ⟨g1, g2, g3⟩ := k4 hw
      have hhp := hhp hw
      refine .inl (g2 c σ _ a w hc hp.st.toSW (fun x hx => ?_) hhp (fun k hk hp' => hp.fresh i k hil hSi ⟨hk, hp'⟩) _ _ fun u σ' w' ev hsw hpr hfr => next σ' u w' ev hsw hpr hfr)
      rw [← hev x hx]
      exact rep_ev hp.st x
    | false =>
      rw [if_neg (by simp)]
      obtain ⟨g1, g2, g3⟩ := k3 hw
      have := next σ undef w
      rw [g1, g2] at this
      exact this Evo.refl hp.st.toSW rep_undef (fun _ _ h => h)
end

theorem dstNodup_out {ops : Array Oper} (h : dstNodup ops.toList = true) : ∀ i j t, i < ops.size → j < ops.size → dstOf ops i = some t → dstOf ops j = some t → i = j := by
  have key : ∀ (l : List Oper), dstNodup l = true → ∀ (i j : Nat) (t : Tmp) (x y : Oper), i < j → l[i]? = some x → l[j]? = some y → x.dst = some t → y.dst = some t → False := by
    intro l
    induction l with
    | nil => intro _ i j t x y _ h1; simp at h1
    | cons z l ih =>
      intro hd i j t x y hij h1 h2 h3 h4
      unfold dstNodup at hd
      simp only [Bool.and_eq_true] at hd
      cases j with
      | zero => omega
      | succ j =>
        simp only [List.getElem?_cons_succ] at h2
        cases i with
        | zero =>
          simp only [List.getElem?_cons_zero, Option.some.injEq] at h1
          subst h1
          have := List.all_eq_true.1 hd.1 y (List.mem_of_getElem? h2)
          rw [h3, h4] at this
          simp [optIn] at this
        | succ i =>
          simp only [List.getElem?_cons_succ] at h1
          exact ih hd.2 i j t x y (by omega) h1 h2 h3 h4
  intro i j t hi hj h1 h2
  have hx : ops.toList[i]? = some ops[i] := by simp [hi]
  have hy : ops.toList[j]? = some ops[j] := by simp [hj]
  unfold dstOf at h1 h2
  rw [Array.getElem?_eq_getElem hi] at h1
  rw [Array.getElem?_eq_getElem hj] at h2
  rcases Nat.lt_trichotomy i j with hlt | heq | hlt
  · exact (key _ h i j t _ _ hlt hx hy h1 h2).elim
  · exact heq
  · exact (key _ h j i t _ _ hlt hy hx h2 h1).elim

/-- one statement -/
theorem region_out {P : Program} {nt id : Nat} {ops : Array Oper} {draw : Bool} {e : Env} {h : Hp} {ks : List Nat} {X : Value → Prop} {K : Env → Hp → List Nat → Prop} {c : Ctx} (hc : c.Ok) (hm : P.follows .mixedOrders = true) {Q : Exit → Act → World → Prop} {σ : Sg} {a : Act} {w : World}
    (hv : regionP P nt ops draw e h ks X K) (hpan : ∀ x a w, X x → PanW c w → a.defers = [] → Q (.panic [{ v := x, recovered := false }]) a w) (hs : St c nt σ e h a w) (hf : ∀ k, k ∉ ks → σ k = none)
    (hfin : ∀ e h ks σ a w, K e h ks → St c nt σ e h a w → (∀ k, k ∉ ks → σ k = none) → Q .normal a w) : (Code.region id ops draw).wp P Q a w := by
  unfold regionP at hv
  split at hv
  · exact wp_region_list (plain_order hc hpan (fun e h ks _ σ a w hk hs hf => hfin e h ks σ a w hk hs hf) ops.toList 0 e h [] ks [] σ a w hv (fun t b h => by cases h) hs hf)
  · obtain ⟨T, ks', hT, hks, hk⟩ := record (ops := ops) (e0 := e) (h0 := h) (P := P) (nt := nt) (ks0 := ks) ops.toList 0 [] ks (fun _ => ⟨.any, [], [], false⟩) (by simp) (by intro j o hj; omega) (fun t b h => by cases h) (fun k hk => ⟨hk, by intro j hj; omega⟩) (fun _ h => h) (fun k j hj => by omega) hv
    simp only [Nat.zero_add, Array.length_toList] at hT hk hks
    split at hk
    · rename_i hchk
      unfold chk at hchk
      simp only [Bool.and_eq_true] at hchk
      have hall := chkAll_out (T := T) ops.size (Nat.le_refl _) (by
        rw [List.take_of_length_le (by simp)]; exact hchk.1)
      refine wp_region_any hm (any_order hc (nosel_of hchk.2.1) hT (dstNodup_out hchk.2.2) hall (fun σ a w hs hf => hfin _ _ ks' σ a w hk hs fun k hk' => hf k (hks k hk').1 (hks k hk').2) ops.size _ σ a w.drew (by simp) ?_ ?_ ?_)
      · have : ∀ n, undone (fun j => (Array.replicate ops.size false).getD j false) n ≤ n := by
          intro n
          induction n with
          | zero => exact Nat.le_refl _
          | succ n ih => unfold undone; split <;> omega
        exact this _
      · intro j y hy hl
        simp [Array.getD_eq_getD_getElem?, Array.getElem?_replicate] at hl
        split at hl <;> simp at hl
      · have hsz : (fun j => (Array.replicate ops.size false).getD j false) = fun _ => false := by
          funext j
          simp only [Array.getD_eq_getD_getElem?, Array.getElem?_replicate]
          split <;> rfl
        rw [hsz]
        have e1 : ∀ n, envF e (dstOf ops) T n (fun _ => false) = e := by
          intro n
          induction n with
          | zero => rfl
          | succ n ih => unfold envF; simp [ih]
        have e2 : ∀ n, hpF h T n (fun _ => false) = h := by
          intro n
          induction n with
          | zero => rfl
          | succ n ih => unfold hpF; simp [ih]
        refine ⟨?_, fun j t hj _ hdj => ?_, fun k hk _ => hf k hk⟩
        · rw [e1, e2]
          have hb : Below w.heap.size w w.drew := (Below.refl _ _).drew
          have ev := evo_below hs.toSW hb
          exact ⟨sw_below hs.toSW hb, fun t => PRep.evo ev _ _ (hs.env t), hs.defers, hs.nt⟩
        · obtain ⟨oj, hoj⟩ : ∃ oj, ops[j]? = some oj := ⟨ops[j], Array.getElem?_eq_getElem hj⟩
          obtain ⟨_, _, q3, q4⟩ := hT j oj hj hoj
          cases hw : (T j).w with
          | true => exact hf t ((q4 hw).2.2 t hdj).1
          | false => have := hdj.1; rw [(q3 hw).2.1] at this; simp [Dl.keys] at this
    · exact hk.elim

end Go.Proofs.YthogcgnhhcbkkaaDoor.Pm
