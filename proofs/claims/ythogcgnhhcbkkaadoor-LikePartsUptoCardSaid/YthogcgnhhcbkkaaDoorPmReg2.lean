/- One statement in the text's order; its record. -/
import Derived.Test.YthogcgnhhcbkkaaDoorPmReg
namespace Go.Proofs.YthogcgnhhcbkkaaDoor.Pm
open Go.RowKit
set_option linter.unusedVariables false

/-- the state within a statement: keys from N on stand for what its operations make -/
structure Mid (c : Ctx) (nt : Nat) (σ : Sg) (e : Env) (h : Hp) (a : Act) (w : World) : Prop extends St c nt σ e h a w

theorem st_put {c : Ctx} {nt : Nat} {σ σ' : Sg} {e : Env} {h h' : Hp} {a : Act} {w w' : World} {d : Option Tmp} {v : PV} {u : Value} (hs : St c nt σ e h a w) (ev : Evo σ σ' (fz c σ h w) (fz c σ' h' w') w w')
    (hw : SW c σ' h' w') (hv : PRep σ' (fz c σ' h' w') w' v u) (hd : ∀ t, d = some t → t < nt) : St c nt σ' (updO e d v) h' (a.put d u) w' where
  toSW := hw
  env := fun t => by
    cases d with
    | none => exact PRep.evo ev _ _ (hs.env t)
    | some t' =>
      have ht := hd t' rfl
      by_cases e1 : t = t'
      · subst e1
        show PRep _ _ _ (upd e t v t) _
        rw [upd_same]
        have : (a.put (some t) u).tmps.getD t undef = u := by
          simp [Act.put, hs.nt, ht]
        rw [this]; exact hv
      · show PRep _ _ _ (upd e t' v t) _
        rw [upd_ne _ _ e1]
        have : (a.put (some t') u).tmps.getD t undef = a.tmps.getD t undef := by
          simp [Act.put, Array.getElem?_setIfInBounds_ne (Ne.symm e1)]
        rw [this]; exact PRep.evo ev _ _ (hs.env t)
  defers := by cases d <;> exact hs.defers
  nt := by
    cases d with
    | none => exact hs.nt
    | some t' => simpa [Act.put] using hs.nt

theorem rep_undef {σ : Sg} {F : Fzn} {w : World} : PRep σ F w (.tup []) undef := by unfold PRep; exact ⟨[], rfl, by unfold PsRep; trivial⟩

theorem rep_ev {c : Ctx} {nt : Nat} {σ : Sg} {e : Env} {h : Hp} {a : Act} {w : World} (hs : St c nt σ e h a w) (x : Operand) : PRep σ (fz c σ h w) w (ev e x) (a.eval x) := by
  cases x with
  | tmp t => exact hs.env t
  | const v =>
    show PRep _ _ _ (constPV v) v
    unfold constPV
    split
    · rename_i cs
      cases hb : cs.toList.all Value.oneCell' with
      | false => simp only [cond_false]; unfold PRep; trivial
      | true =>
        simp only [cond_true]
        unfold PRep
        refine ⟨cs.toList, by simp, ?_⟩
        have : ∀ l : List Value, l.all Value.oneCell' = true → DsRep σ (fz c σ h w) w (l.map fun x => D.c (C.v x)) l := by
          intro l
          induction l with
          | nil => intro _; exact dsRep_nil
          | cons x l ih =>
            intro hl
            simp only [List.all_cons, Bool.and_eq_true] at hl
            exact dsRep_cons (by unfold DRep CRep; exact ⟨rfl, hl.1⟩) (ih hl.2)
        exact this _ hb
    · unfold PRep; trivial
    · rename_i h1 h2
      refine rep_of ?_
      cases v <;> first | rfl | exact absurd rfl (h1 _) | exact absurd rfl (h2 _)
  | global g => exact rep_of rfl
  | func f => exact rep_of rfl

def GuardIs (ops : Array Oper) (o : Oper) (e : Env) (b : Bool) : Prop := match o.guard with
  | none => b = true
  | some (j, want) => ∃ oj t, ops[j]? = some oj ∧ oj.dst = some t ∧ (e t = pBool (want == b) ∨ (b = false ∧ e t = .tup []))
def KnOk (e : Env) (kn : Kn) : Prop := ∀ t b, knF kn t = some b → e t = pBool b
theorem upd_id {e : Env} {t : Nat} {v : PV} (h : e t = v) : upd e t v = e := by
  funext j
  by_cases hj : j = t
  · subst hj; rw [upd_same, h]
  · rw [upd_ne _ _ hj]
theorem knOk_cons {e : Env} {kn : Kn} {t : Nat} {b : Bool} (hk : KnOk e kn) (h : e t = pBool b) : KnOk e ((t, b) :: kn) := by
  intro j b' hj
  unfold knF at hj
  cases hq : Nat.beq j t with
  | true => rw [hq, cond_true] at hj; cases hj; rw [Nat.eq_of_beq_eq_true hq]; exact h
  | false => rw [hq, cond_false] at hj; exact hk j b' hj
theorem knOk_upd {e : Env} {kn : Kn} {d : Option Tmp} {v : PV} (hk : KnOk e kn) : KnOk (updO e d v) (knDel d kn) := by
  cases d with
  | none => exact hk
  | some t =>
    intro j b hj
    have key : ∀ kn : Kn, knF (kn.filter fun p => !Nat.beq p.1 t) j = some b → j ≠ t ∧ knF kn j = some b := by
      intro kn
      induction kn with
      | nil => intro h; cases h
      | cons p kn ih =>
        obtain ⟨q, b'⟩ := p
        intro h
        rw [List.filter_cons] at h
        cases hq : Nat.beq q t with
        | true =>
          rw [hq] at h
          simp only [Bool.not_true, Bool.false_eq_true, if_false] at h
          obtain ⟨h1, h2⟩ := ih h
          refine ⟨h1, ?_⟩
          unfold knF
          have : Nat.beq j q = false := by rw [Bool.eq_false_iff]; intro e1; exact h1 ((Nat.eq_of_beq_eq_true e1).trans (Nat.eq_of_beq_eq_true hq))
          rw [this, cond_false]; exact h2
        | false =>
          rw [hq] at h
          simp only [Bool.not_false, if_true] at h
          unfold knF at h ⊢
          cases hjq : Nat.beq j q with
          | true =>
            rw [hjq, cond_true] at h
            refine ⟨?_, by rw [cond_true]; exact h⟩
            intro e1
            rw [← Nat.eq_of_beq_eq_true hjq, e1, Nat.beq_refl] at hq; cases hq
          | false =>
            rw [hjq, cond_false] at h
            obtain ⟨h1, h2⟩ := ih h
            exact ⟨h1, by rw [cond_false]; exact h2⟩
    obtain ⟨h1, h2⟩ := key kn hj
    show upd e t v j = _
    rw [upd_ne _ _ h1]; exact hk j b h2
theorem guardP_out {ops : Array Oper} {o : Oper} {e : Env} {kn : Kn} {A B : Env → Kn → Prop} (h : guardP ops o e kn A B) (hk : KnOk e kn) :
    (GuardIs ops o e true ∧ ∃ kn', KnOk e kn' ∧ A e kn') ∨ (GuardIs ops o e false ∧ ∃ kn', KnOk e kn' ∧ B e kn') := by
  unfold guardP at h
  unfold GuardIs
  split at h
  · rename_i hg; rw [hg]; exact .inl ⟨rfl, kn, hk, h⟩
  · rename_i j want hg
    rw [hg]
    split at h
    · rename_i oj hj
      split at h
      · rename_i t ht
        split at h
        · rename_i b hb
          have hv := hk t b hb
          split at h
          · exact .inl ⟨⟨oj, t, hj, ht, .inl hv⟩, kn, hk, h⟩
          · exact .inl ⟨⟨oj, t, hj, ht, .inl hv⟩, kn, hk, h⟩
          · exact .inr ⟨⟨oj, t, hj, ht, .inl hv⟩, kn, hk, h⟩
          · exact .inr ⟨⟨oj, t, hj, ht, .inl hv⟩, kn, hk, h⟩
        · split at h
          · rename_i b hb
            have go : ∀ {C : Env → Kn → Prop}, C (upd e t (pBool b)) ((t, b) :: kn) → ∃ kn', KnOk e kn' ∧ C e kn' := by
              intro C hC
              rw [upd_id hb] at hC
              exact ⟨_, knOk_cons hk hb, hC⟩
            cases want with
            | true =>
              obtain ⟨h1, h2⟩ := h
              cases b with
              | true => exact .inl ⟨⟨oj, t, hj, ht, .inl hb⟩, go (h1 rfl)⟩
              | false => exact .inr ⟨⟨oj, t, hj, ht, .inl hb⟩, go (h2 rfl)⟩
            | false =>
              obtain ⟨h1, h2⟩ := h
              cases b with
              | true => exact .inr ⟨⟨oj, t, hj, ht, .inl hb⟩, go (h1 rfl)⟩
              | false => exact .inl ⟨⟨oj, t, hj, ht, .inl hb⟩, go (h2 rfl)⟩
          · rename_i hb; exact .inr ⟨⟨oj, t, hj, ht, .inr ⟨rfl, hb⟩⟩, kn, hk, h⟩
          · exact h.elim
      · exact h.elim
    · exact h.elim
theorem vcOpK_out {P : Program} {o : Oper} {key : Nat} {e : Env} {kn : Kn} {h : Hp} {K : OpK} {X : Value → Prop} (hk : KnOk e kn) (hv : vcOp P key o.type (opK kn o.op) (ev e) h K X) : Outc P o (ev e) h K X := by
  unfold opK at hv
  split at hv
  · rename_i t a b ho
    have go : ∀ (x : Operand) (c : Bool), e t = pBool c → x = (if c then a else b) → K (ev e x) [] [] → Outc P o (ev e) h K X := by
      intro x c hc hx hkx
      refine outc_val hkx fun σ F ac w hp => ⟨ac.eval x, ?_, ?_⟩
      · have h1 := hp (.tmp t) (by simp [ho, Op.operands])
        rw [show ev e (.tmp t) = pBool c from hc] at h1
        rw [hx]
        cases c <;> simp [execOp, ho, asBool, rep_v h1]
      · rw [hx]
        cases c
        · exact hp b (by simp [ho, Op.operands])
        · exact hp a (by simp [ho, Op.operands])
    split at hv
    · rename_i hq; exact go a true (hk t _ hq) rfl (force_out (K := fun v => K v [] []) (by unfold vcOp at hv; exact hv))
    · rename_i hq; exact go b false (hk t _ hq) rfl (force_out (K := fun v => K v [] []) (by unfold vcOp at hv; exact hv))
    · rw [← ho] at hv; exact vcOp_out hv
  · exact vcOp_out hv
theorem ksHas_out {k : Nat} : ∀ {ks : List Nat}, ksHas k ks = false → k ∉ ks
  | [], _, h => by cases h
  | q :: r, h, hm => by
    unfold ksHas at h
    cases hq : Nat.beq q k with
    | true => rw [hq] at h; cases h
    | false =>
      rw [hq, cond_false] at h
      rcases List.mem_cons.1 hm with rfl | hm
      · have := Nat.beq_refl k; rw [show Nat.beq k k = false from hq] at this; cases this
      · exact ksHas_out h hm
theorem newP_out {rf : Rf} {ks : List Nat} {A : Prop} : ∀ {δ : Dl}, newP rf ks δ A → A ∧ ∀ k ∈ Dl.keys δ, (∀ p ∈ rf, p.1 ≠ k) → k ∉ ks
  | [], h => ⟨h, by simp [Dl.keys]⟩
  | (k, b) :: δ, h => by
    unfold newP at h
    split at h
    · rename_i hq
      obtain ⟨h1, h2⟩ := newP_out h
      refine ⟨h1, fun k' hk' hp => ?_⟩
      simp only [Dl.keys, List.map_cons, List.mem_cons] at hk'
      rcases hk' with rfl | hk'
      · obtain ⟨p, p1, p2⟩ := rfHas_in hq
        exact absurd p2 (hp p p1)
      · exact h2 k' hk' hp
    · split at h
      · exact h.elim
      · rename_i hq
        obtain ⟨h1, h2⟩ := newP_out h
        refine ⟨h1, fun k' hk' hp => ?_⟩
        simp only [Dl.keys, List.map_cons, List.mem_cons] at hk'
        rcases hk' with rfl | hk'
        · exact ksHas_out hq
        · exact h2 k' hk' hp
theorem addKs_out : ∀ {δ : Dl} {ks : List Nat} {K : List Nat → Prop}, addKs δ ks K → ∃ ks', K ks' ∧ ∀ k, k ∉ ks' → k ∉ ks ∧ k ∉ Dl.keys δ
  | [], ks, K, h => ⟨ks, h, fun k hk => ⟨hk, by simp [Dl.keys]⟩⟩
  | (k, b) :: δ, ks, K, h => by
    unfold addKs at h
    obtain ⟨ks', h1, h2⟩ := addKs_out h
    refine ⟨ks', h1, fun k' hk' => ?_⟩
    obtain ⟨g1, g2⟩ := h2 k' hk'
    simp only [List.mem_cons, not_or] at g1
    exact ⟨g1.2, by simp only [Dl.keys, List.map_cons, List.mem_cons, not_or]; exact ⟨g1.1, g2⟩⟩

theorem wanted_of {ops : Array Oper} {o : Oper} {e : Env} {b : Bool} {σ : Sg} {F : Fzn} {w : World} {tmps : Array Value} (hg : GuardIs ops o e b) (he : ∀ t, PRep σ F w (e t) (tmps.getD t undef)) :
    Region.wanted o (yielded ops tmps) = b := by
  unfold GuardIs at hg
  unfold Region.wanted
  cases hgd : o.guard with
  | none => rw [hgd] at hg; rw [hg]
  | some p =>
    obtain ⟨j, want⟩ := p
    rw [hgd] at hg
    obtain ⟨oj, t, h1, h2, h3⟩ := hg
    have h4 := he t
    rcases h3 with h3 | ⟨rfl, h3⟩
    case inr =>
      rw [h3] at h4
      unfold PRep at h4
      obtain ⟨us, h5, h6⟩ := h4
      have h7 : us = [] := by
        cases us with
        | nil => rfl
        | cons x xs => unfold PsRep at h6; exact h6.elim
      subst h7
      have : yielded ops tmps j = none := by
        unfold yielded
        rw [Array.getD_eq_getD_getElem?] at h5
        cases hq : tmps[t]? with
        | none => simp [h1, h2, hq]
        | some x => rw [hq] at h5; simp at h5; simp [h1, h2, hq, h5]
      show (yielded ops tmps j == some want) = false
      rw [this]; rfl
    rw [h3] at h4
    have h5 := rep_v h4
    have h6 : tmps[t]? = some (.bool (want == b)) := by
      rw [Array.getD_eq_getD_getElem?] at h5
      cases hq : tmps[t]? with
      | none => rw [hq] at h5; simp [undef] at h5
      | some x => rw [hq] at h5; simp at h5; rw [h5]
    have : yielded ops tmps j = some (want == b) := by unfold yielded; simp [h1, h2, h6]
    show (yielded ops tmps j == some want) = b
    rw [this]
    cases want <;> cases b <;> rfl

theorem dstP_out {nt : Nat} {d : Option Tmp} {v : PV} {e : Env} {K : Env → Prop} (h : dstP nt d v e K) : K (updO e d v) ∧ ∀ t, d = some t → t < nt := by
  unfold dstP at h
  split at h
  · exact ⟨h, fun t ht => by cases ht⟩
  · rename_i t
    split at h
    · rename_i hb
      exact ⟨h, fun t' ht => by cases ht; exact Nat.le_of_ble_eq_true hb⟩
    · exact h.elim
theorem addKs_out2 : ∀ {δ : Dl} {ks : List Nat} {K : List Nat → Prop}, addKs δ ks K → ∃ ks', K ks' ∧ (∀ k, k ∉ ks' → k ∉ ks ∧ k ∉ Dl.keys δ) ∧ ∀ k, (k ∈ ks ∨ k ∈ Dl.keys δ) → k ∈ ks'
  | [], ks, K, h => ⟨ks, h, fun k hk => ⟨hk, by simp [Dl.keys]⟩, fun k hk => by simpa [Dl.keys] using hk⟩
  | (k, b) :: δ, ks, K, h => by
    unfold addKs at h
    obtain ⟨ks', h1, h2, h3⟩ := addKs_out2 h
    refine ⟨ks', h1, fun k' hk' => ?_, fun k' hk' => h3 k' ?_⟩
    · obtain ⟨g1, g2⟩ := h2 k' hk'
      simp only [List.mem_cons, not_or] at g1
      exact ⟨g1.2, by simp only [Dl.keys, List.map_cons, List.mem_cons, not_or]; exact ⟨g1.1, g2⟩⟩
    · simp only [Dl.keys, List.map_cons, List.mem_cons] at hk' ⊢
      rcases hk' with h | h | h
      · exact .inl (.inr h)
      · exact .inl (.inl h)
      · exact .inr h

/-- the text's order, walked -/
theorem plain_order {P : Program} {nt : Nat} {ops : Array Oper} {c : Ctx} (hc : c.Ok) {Q : Exit → Act → World → Prop} {X : Value → Prop} {K : Env → Hp → List Nat → Trace → Prop}
    (hpan : ∀ x a w, X x → PanW c w → a.defers = [] → Q (.panic [{ v := x, recovered := false }]) a w)
    (hfin : ∀ e h ks tr σ a w, K e h ks tr → St c nt σ e h a w → (∀ k, k ∉ ks → σ k = none) → Q .normal a w) :
    ∀ (rest : List Oper) (i : Nat) (e : Env) (h : Hp) (kn : Kn) (ks : List Nat) (tr : Trace) (σ : Sg) (a : Act) (w : World), vcOps P nt ops rest i e h kn ks tr X K → KnOk e kn → St c nt σ e h a w → (∀ k, k ∉ ks → σ k = none) →
      wpList P ops Q rest a w
  | [], i, e, h, kn, ks, tr, σ, a, w, hv, _, hs, hf => hfin e h ks tr σ a w hv hs hf
  | o :: rest, i, e, h, kn, ks, tr, σ, a, w, hv, hkn, hs, hf => by
    rw [vcOps_cons] at hv
    rcases guardP_out hv hkn with ⟨hg, kn', hkn', hv⟩ | ⟨hg, kn', hkn', hv⟩
    · have hw := wanted_of hg hs.env
      unfold wpList
      rw [if_pos hw]
      rcases vcOpK_out hkn' hv with ⟨v, δ, rf, hk, hrf, hsem⟩ | ⟨x, rf, hx, hrf, hsem⟩
      · obtain ⟨hk, hnew⟩ := newP_out hk
        obtain ⟨hk, hd⟩ := dstP_out hk
        obtain ⟨ks', hk, hks⟩ := addKs_out hk
        refine .inl (hsem c σ h a w hc hs.toSW (fun x _ => rep_ev hs x) hrf (fun k hk hp => hf k (hnew k hk hp)) _ _ ?_)
        intro u σ' w' ev hsw hpr hfr
        exact plain_order hc hpan hfin rest (i + 1) _ _ _ ks' _ σ' _ w' hk (knOk_upd hkn') (st_put hs ev hsw hpr hd) fun k hk' => hfr k (hks k hk').2 (hf k (hks k hk').1)
      · exact .inl (hsem c σ h a w hc hs.toSW (fun x _ => rep_ev hs x) hrf _ _ fun w' hp => hpan x a w' hx hp hs.defers)
    · have hw := wanted_of hg hs.env
      obtain ⟨hk, hd⟩ := dstP_out hv
      unfold wpList
      rw [if_neg (by rw [hw]; simp)]
      exact plain_order hc hpan hfin rest (i + 1) _ _ _ ks _ σ _ w hk (knOk_upd hkn') (st_put hs Evo.refl hs.toSW rep_undef hd) hf

end Go.Proofs.YthogcgnhhcbkkaaDoor.Pm
