/- Whole functions: what must be shown; that it suffices. -/
import Derived.Test.YthogcgnhhcbkkaaDoorPmCode
import Derived.Deep.LoopGhost
import Derived.Scope
namespace Go.Proofs.YthogcgnhhcbkkaaDoor.Pm
open Go.RowKit
set_option linter.unusedVariables false

abbrev Cont := Exit → Env → Hp → List Nat → Prop
/-- what stands behind -/
def seqK (next : Env → Hp → List Nat → Prop) (Q : Cont) : Cont := fun x e h n => match x with
  | .normal => next e h n
  | x => Q x e h n
def blockK (id : Nat) (Q : Cont) : Cont := fun x e h n => match x with
  | .exit id' => match Nat.beq id' id with
    | true => Q .normal e h n
    | false => Q (.exit id') e h n
  | x => Q x e h n
def scopeK (Q : Cont) : Cont := fun x e h n => match x with
  | .goto _ => False
  | x => Q x e h n
/-- a loop's round: the next state -/
inductive Round (fk : List Nat) (S : Type) (E : S → List (Nat × PV)) (H : S → List (Nat × HB)) (n : List Nat) (inv : S → Prop) (μ : S → Nat) (s : S) (e : Env) (h : Hp) : Prop
  | mk (s' : S) (hi : inv s') (hμ : μ s' < μ s) (hw : Wk fk e h (E s') (H s') n)
def roundK (fk : List Nat) (S : Type) (E : S → List (Nat × PV)) (H : S → List (Nat × HB)) (n : List Nat) (inv : S → Prop) (μ : S → Nat) (s : S) (Q : Cont) : Cont := fun x e h m => match x with
  | .normal => Round fk S E H n inv μ s e h
  | x => Q x e h m
/-- a loop: what holds at each round's head, of a state S; a measure -/
inductive LoopC (fk : List Nat) (body : Env → Hp → List Nat → Cont → Prop) (e : Env) (h : Hp) (Q : Cont) : Prop
  | mk (S : Type) (E : S → List (Nat × PV)) (H : S → List (Nat × HB)) (n : List Nat) (inv : S → Prop) (μ : S → Nat) (s0 : S) (h0 : inv s0) (hm : Wk fk e h (E s0) (H s0) n)
      (round : ∀ s, inv s → body (ofL (E s)) (hpL (H s)) n (roundK fk S E H n inv μ s Q))
abbrev VT := Env → Hp → List Nat → Cont → Prop
noncomputable def vc (P : Program) (nt : Nat) (fk : List Nat) (X : Value → Prop) (cd : Code) : VT :=
  Code.rec (motive := fun _ => VT)
    (fun e h n Q => Q .normal e h n)
    (fun _ ops draw e h n Q => regionP P nt ops draw e h n X fun e' h' n' => Q .normal e' h' n')
    (fun _ _ ix iy e h n Q => ix e h n (seqK (fun e' h' n' => iy e' h' n' Q) Q))
    (fun c _ _ ix iy e h n Q => match ev e c with
      | .d (.c (.v (.bool b))) => BCase b (ix e h n Q) (iy e h n Q)
      | _ => False)
    (fun id _ i e h n Q => i e h n (blockK id Q))
    (fun _ i e h n Q => LoopC fk i e h Q)
    (fun _ _ _ _ _ _ _ _ _ _ => False)
    (fun id e h n Q => Q (.exit id) e h n)
    (fun _ i e h n Q => i e h n (scopeK Q))
    (fun _ _ _ _ _ => False)
    (fun _ _ _ _ _ => False)
    (fun e h n Q => Q .ret e h n)
    (fun _ _ _ _ _ => False) cd
theorem vc_cond {P : Program} {nt : Nat} {fk : List Nat} {X : Value → Prop} {c : Operand} {x y : Code} {e : Env} {h : Hp} {n : List Nat} {Q : Cont} :
    vc P nt fk X (.cond c x y) e h n Q = match ev e c with
      | .d (.c (.v (.bool b))) => BCase b (vc P nt fk X x e h n Q) (vc P nt fk X y e h n Q)
      | _ => False := rfl

/-- what holds behind -/
def After (c : Ctx) (nt : Nat) (X : Value → Prop) (Q : Cont) : Exit → Act → World → Prop := fun x a w => match x with
  | .panic ch => ∃ v, ch = [{ v := v, recovered := false }] ∧ X v ∧ PanW c w ∧ a.defers = []
  | x => ∃ e h n σ, Q x e h n ∧ St c nt σ e h a w ∧ ∀ k, k ∉ n → σ k = none

theorem vc_out {P : Program} {nt : Nat} {fk : List Nat} {X : Value → Prop} {c : Ctx} (hfk : ∀ k, c.σ0 k ≠ none → k ∈ fk) (hc : c.Ok) (hm : P.follows .mixedOrders = true) : ∀ (cd : Code) (e : Env) (h : Hp) (n : List Nat) (Q : Cont) (σ : Sg) (a : Act) (w : World), vc P nt fk X cd e h n Q → St c nt σ e h a w → (∀ k, k ∉ n → σ k = none) →
    cd.wp P (After c nt X Q) a w
  | .skip, e, h, n, Q, σ, a, w, hv, hs, hf => wp_skip ⟨e, h, n, σ, hv, hs, hf⟩
  | .region id ops draw, e, h, n, Q, σ, a, w, hv, hs, hf =>
    region_out hc hm hv (fun x a w hx hp hd => ⟨x, rfl, hx, hp, hd⟩) hs hf fun e' h' n' σ' a' w' hk hs' hf' => ⟨e', h', n', σ', hk, hs', hf'⟩
  | .seq x y, e, h, n, Q, σ, a, w, hv, hs, hf => by
    refine wp_seq (wp_mono (vc_out hfk hc hm x e h n _ σ a w hv hs hf) ?_)
    intro ex a' w' hq
    cases ex with
    | normal =>
      obtain ⟨e', h', n', σ', hq, hs', hf'⟩ := hq
      exact vc_out hfk hc hm y e' h' n' Q σ' a' w' hq hs' hf'
    | exit id => exact hq
    | goto l => exact hq
    | ret => exact hq
    | panic ch => exact hq
    | outgrown => exact hq
  | .cond o x y, e, h, n, Q, σ, a, w, hv, hs, hf => by
    rw [vc_cond] at hv
    split at hv
    · rename_i b hb
      have h1 := rep_ev hs o
      rw [hb] at h1
      have h2 := rep_v h1
      obtain ⟨ht, hff⟩ := hv
      refine wp_cond_split h2 (fun hb' => vc_out hfk hc hm x e h n Q σ a w (ht hb') hs hf) (fun hb' => vc_out hfk hc hm y e h n Q σ a w (hff hb') hs hf)
    · exact hv.elim
  | .block id cd, e, h, n, Q, σ, a, w, hv, hs, hf => by
    refine wp_block (wp_mono (vc_out hfk hc hm cd e h n _ σ a w hv hs hf) ?_)
    intro ex a' w' hq
    cases ex with
    | exit id' =>
      obtain ⟨e', h', n', σ', hq, hs', hf'⟩ := hq
      simp only [Exit.inBlock]
      simp only [blockK] at hq
      split at hq
      · rename_i hb
        rw [if_pos (Nat.eq_of_beq_eq_true hb)]
        exact ⟨e', h', n', σ', hq, hs', hf'⟩
      · rename_i hb
        rw [if_neg (fun e => by subst e; rw [Nat.beq_refl] at hb; cases hb)]
        exact ⟨e', h', n', σ', hq, hs', hf'⟩
    | normal => exact hq
    | goto l => exact hq
    | ret => exact hq
    | panic ch => exact hq
    | outgrown => exact hq
  | .loop cd, e, h, n, Q, σ, a, w, hv, hs, hf => by
    obtain ⟨S, E, H, m, inv, μ, s0, h0, hw, round⟩ := hv
    obtain ⟨σ0, hs0, hf0⟩ := st_wk hfk hs hw
    refine wp_loop_ghost (fun k a' w' => ∃ s σ, μ s = k ∧ inv s ∧ St c nt σ (ofL (E s)) (hpL (H s)) a' w' ∧ ∀ q, q ∉ m → σ q = none) (μ s0) ⟨s0, σ0, rfl, h0, hs0, hf0⟩ ?_
    rintro k a1 w1 ⟨s1, σ1, rfl, h1, h2, h3⟩
    refine wp_mono (vc_out hfk hc hm cd _ _ _ _ σ1 a1 w1 (round s1 h1) h2 h3) ?_
    intro ex a' w' hq
    cases ex with
    | normal =>
      obtain ⟨e', h', n', σ', hq, hs', hf'⟩ := hq
      obtain ⟨s2, i2, lt, hw2⟩ := hq
      obtain ⟨σ2, hs2, hf2⟩ := st_wk hfk hs' hw2
      exact ⟨μ s2, lt, s2, σ2, rfl, i2, hs2, hf2⟩
    | exit id => exact hq
    | goto l => exact hq
    | ret => exact hq
    | panic ch => exact hq
    | outgrown => exact hq
  | .exit id, e, h, n, Q, σ, a, w, hv, hs, hf => wp_exit ⟨e, h, n, σ, hv, hs, hf⟩
  | .scope cd, e, h, n, Q, σ, a, w, hv, hs, hf => by
    refine wp_scope_straight (wp_mono (vc_out hfk hc hm cd e h n _ σ a w hv hs hf) ?_)
    intro ex a' w' hq
    cases ex with
    | goto l => obtain ⟨e', h', n', σ', hq, hs', hf'⟩ := hq; exact hq
    | normal => exact hq
    | exit id => exact hq
    | ret => exact hq
    | panic ch => exact hq
    | outgrown => exact hq
  | .ret, e, h, n, Q, σ, a, w, hv, hs, hf => wp_ret ⟨e, h, n, σ, hv, hs, hf⟩
  | .rangeFunc _ _ _ _, e, h, n, Q, σ, a, w, hv, hs, hf => False.elim hv
  | .label _, e, h, n, Q, σ, a, w, hv, hs, hf => False.elim hv
  | .goto _, e, h, n, Q, σ, a, w, hv, hs, hf => False.elim hv
  | .refuse _, e, h, n, Q, σ, a, w, hv, hs, hf => False.elim hv


/-! ### what a function hands back -/
def resP (P : Program) (h : Hp) (e : Env) : List ResultVar → (List PV → Prop) → Prop
  | [], K => K []
  | .tmp t :: rs, K => PV.force (e t) fun v => resP P h e rs fun vs => K (v :: vs)
  | .cell t ty :: rs, K => loadP P h ty (e t) fun v _ => resP P h e rs fun vs => K (v :: vs)
/-- what a function hands back: an array of its own may be closed, for nobody writes it any more -/
def D.closeH (h : Hp) (x : D) (K : C → Prop) : Prop := match x with
  | .c y => K y
  | .app _ _ sz l => K (.sl sz l)
  | .arr k _ sz lo n => match h k with
    | some (.arr _ s rows) => match Nat.beq s sz with
      | true => Need (lo + n ≤ rows.length) (K (.sl sz ((rows.drop lo).take n)))
      | false => False
    | _ => False
  | .clo f [] [] => K (.v (.func (.func f) #[] #[]))
  | _ => False
def closeHL (h : Hp) : List D → (List C → Prop) → Prop
  | [], K => K []
  | x :: xs, K => D.closeH h x fun y => closeHL h xs fun ys => K (y :: ys)
mutual
def PV.closeH (h : Hp) : PV → (PV → Prop) → Prop
  | .d x, K => D.closeH h x fun y => K (.d (.c y))
  | .agg l, K => closeHL h l fun ys => K (.agg (ys.map D.c))
  | .tup l, K => closeHPs h l fun ys => K (.tup ys)
  | .any, _ => False
def closeHPs (h : Hp) : List PV → (List PV → Prop) → Prop
  | [], K => K []
  | x :: xs, K => PV.closeH h x fun y => closeHPs h xs fun ys => K (y :: ys)
end
inductive Ret (v r : PV) : Prop
  | mk (h : v = r)
  | le (h : PLe (fun _ => none) [] r v)
def tupOf (vs : List PV) (K : PV → Prop) : Prop := match vs with
  | [v] => K v
  | vs => K (.tup vs)
def retQ (P : Program) (fn : Func) (res : PV) : Cont := fun x e h _ => match x with
  | .normal => resP P h e fn.results.toList fun vs => closeHPs h vs fun vs => tupOf vs fun v => Ret v res
  | .ret => resP P h e fn.results.toList fun vs => closeHPs h vs fun vs => tupOf vs fun v => Ret v res
  | _ => False
/-- what it hands back with keys -/
inductive RetS (fk : List Nat) (h : Hp) (res : PV) (fin : Rf) (v : PV) : Prop
  | mk (f : List (Nat × Nat)) (n : List Nat) (hi : injOn (fnL f) fin = true) (hf : fkOk (fnL f) n fk = true) (hr : PLe (fnL f) n res v) (hh : HLes (fnL f) n h fin)
def retS (P : Program) (fn : Func) (fk : List Nat) (res : PV) (fin : Rf) : Cont := fun x e h _ => match x with
  | .normal => resP P h e fn.results.toList fun vs => tupOf vs fun v => RetS fk h res fin v
  | .ret => resP P h e fn.results.toList fun vs => tupOf vs fun v => RetS fk h res fin v
  | _ => False
def argsE (l : List PV) : Env := fun t => match l[t]? with
  | some v => v
  | none => .tup []

theorem loadP_run {P : Program} {c : Ctx} {σ : Sg} {h : Hp} {w : World} {t : TypeId} {x : PV} {K : PV → Rf → Prop} (hv : loadP P h t x K) (hs : SW c σ h w) {u : Value} (hu : PRep σ (fz c σ h w) w x u) :
    ∃ v z rf, K v rf ∧ (Instr.loadAt t u).run P w = .ok z w ∧ (∃ ad, u = .pointer (some ad)) ∧ PRep σ (fz c σ h w) w v z := by
  unfold loadP at hv
  split at hv
  · rename_i l
    obtain ⟨v, h1, h2⟩ := readP_out hv
    unfold PRep DRep CRep at hu
    obtain ⟨b, off, rfl, e3⟩ := hu
    obtain ⟨us, e4, e5, _⟩ := csAt_values e3
    obtain ⟨z, h3, h4⟩ := h2 σ _ w b off us (dsRep_of_cs e4) e5
    exact ⟨v, z, _, h1, by simp only [Instr.loadAt, Instr.sureAddr, Sem.run_bind, Sem.run_pure, Result.andThen_ok, h3], ⟨_, rfl⟩, h4⟩
  · rename_i k off
    split at hv
    · rename_i bt l hk
      obtain ⟨v, h1, h2⟩ := readP_out hv
      unfold PRep DRep at hu
      obtain ⟨g, n, e2, rfl⟩ := hu
      obtain ⟨g', n', cur, e4, e5, e6, e7⟩ := hs.hp k _ hk
      rw [e2] at e4; cases e4
      obtain ⟨z, h3, h4⟩ := h2 σ _ w g off (cur.toList.drop off) (e7.drop off) (fun j v hv => by
        rw [cell_of_row _ _ _ _ _ _ e6]
        rw [List.getElem?_drop] at hv
        simpa using hv)
      exact ⟨v, z, _, h1, by simp only [Instr.loadAt, Instr.sureAddr, Sem.run_bind, Sem.run_pure, Result.andThen_ok, h3], ⟨_, rfl⟩, h4⟩
    · exact hv.elim
  · rename_i k sz j off
    split at hv
    · rename_i e0 s rows hk
      split at hv
      · rename_i es
        obtain rfl := Nat.eq_of_beq_eq_true es
        obtain ⟨r, hr, hv⟩ := hv
        obtain ⟨v, h1, h2⟩ := readP_out hv
        unfold PRep DRep at hu
        obtain ⟨g, n, e2, rfl⟩ := hu
        obtain ⟨hz, hrl, ob, n', e4, e5⟩ := hs.hp k _ hk
        rw [e2] at e4; cases e4
        obtain ⟨e5, cur, e6, e7, e8⟩ := e5
        have hrep := row_rep hrl hr e8
        obtain ⟨z, h3, h4⟩ := h2 σ _ w g (j * s + off) ((((cur.toList.take (rows.length * s)).drop (j * s)).take s).drop off) (dsRep_of_cs (hrep.drop off)) (fun q v hv => by
          rw [cell_of_row _ _ _ _ _ _ e6]
          rw [List.getElem?_drop, List.getElem?_take] at hv
          split at hv
          · rw [List.getElem?_drop, List.getElem?_take] at hv
            split at hv
            · rw [← Array.getElem?_toList, ← hv]; congr 1; omega
            · cases hv
          · cases hv)
        exact ⟨v, z, _, h1, by simp only [Instr.loadAt, Instr.sureAddr, Sem.run_bind, Sem.run_pure, Result.andThen_ok, h3], ⟨_, rfl⟩, h4⟩
      · exact hv.elim
    · exact hv.elim
  · exact hv.elim

def resF (tmps : Array Value) : ResultVar → Sem Value
  | .tmp t => pure (tmps.getD t undef)
  | .cell a t => do loadVar t (← asAddr (tmps.getD a undef))
theorem resP_out {P : Program} {c : Ctx} {nt : Nat} {σ : Sg} {e : Env} {h : Hp} {a : Act} {w : World} (hs : St c nt σ e h a w) : ∀ {rs : List ResultVar} {K : List PV → Prop}, resP P h e rs K →
    ∃ vs us, K vs ∧ (rs.mapM (resF a.tmps)).run P w = .ok us w ∧ PsRep σ (fz c σ h w) w vs us
  | [], K, hv => ⟨[], [], hv, by simp, by unfold PsRep; trivial⟩
  | .tmp t :: rs, K, hv => by
    unfold resP at hv
    obtain ⟨vs, us, h3, h4, h5⟩ := resP_out hs (force_out hv)
    refine ⟨e t :: vs, a.tmps.getD t undef :: us, h3, ?_, by unfold PsRep; exact ⟨hs.env t, h5⟩⟩
    simp only [List.mapM_cons, resF, Sem.run_bind, Sem.run_pure, Result.andThen_ok, h4]
  | .cell t ty :: rs, K, hv => by
    unfold resP at hv
    obtain ⟨v, z, _, g1, g2, ⟨ad, g3⟩, g4⟩ := loadP_run hv hs.toSW (hs.env t)
    obtain ⟨vs, us, h3, h4, h5⟩ := resP_out hs g1
    refine ⟨v :: vs, z :: us, h3, ?_, by unfold PsRep; exact ⟨g4, h5⟩⟩
    rw [g3] at g2
    have g5 : (loadVar ty ad).run P w = .ok z w := by simpa [Instr.loadAt, Instr.sureAddr] using g2
    simp only [List.mapM_cons, resF, Sem.run_bind, Sem.run_pure, Result.andThen_ok, h4, g3, asAddr, g5]

theorem psRep_len {σ : Sg} {F : Fzn} {w : World} : ∀ {l : List PV} {us : List Value}, PsRep σ F w l us → us.length = l.length
  | [], [], _ => rfl
  | _ :: _, _ :: us, h => by unfold PsRep at h; rw [List.length_cons, List.length_cons, psRep_len h.2]
  | [], _ :: _, h => by unfold PsRep at h; exact h.elim
  | _ :: _, [], h => by unfold PsRep at h; exact h.elim
theorem psRep_get {σ : Sg} {F : Fzn} {w : World} : ∀ {l : List PV} {us : List Value} (t : Nat), PsRep σ F w l us → PRep σ F w (argsE l t) ((us[t]?).getD undef)
  | [], [], t, _ => by unfold argsE; simp; exact rep_undef
  | x :: xs, u :: us, 0, h => by unfold PsRep at h; unfold argsE; simpa using h.1
  | x :: xs, u :: us, t + 1, h => by
    unfold PsRep at h
    have := psRep_get t h.2
    unfold argsE at this ⊢
    simpa using this
  | [], _ :: _, _, h => by unfold PsRep at h; exact h.elim
  | _ :: _, [], _, h => by unfold PsRep at h; exact h.elim

theorem tup_out {σ : Sg} {F : Fzn} {w : World} {vs : List PV} {us : List Value} {K : PV → Prop} (h : tupOf vs K) (hr : PsRep σ F w vs us) : ∃ v, K v ∧ PRep σ F w v (if h : us.toArray.size = 1 then us.toArray[0] else .tuple us.toArray) := by
  have hlen := psRep_len hr
  unfold tupOf at h
  split at h
  · rename_i v
    simp only [List.length_singleton] at hlen
    refine ⟨v, h, ?_⟩
    match us, hlen, hr with
    | [u], _, hr => unfold PsRep at hr; simpa using hr.1
  · rename_i hne
    refine ⟨_, h, ?_⟩
    have : ¬ us.toArray.size = 1 := by
      intro hq
      rw [List.size_toArray] at hq
      rw [hq] at hlen
      match vs, hlen, hne with
      | [v], _, hne => exact hne v rfl
    rw [dif_neg this]
    unfold PRep
    exact ⟨us, rfl, hr⟩
theorem results_run {P : Program} {c : Ctx} {nt : Nat} {σ : Sg} {e : Env} {h : Hp} {a : Act} {w : World} {fn : Func} {K : List PV → Prop} (hs : St c nt σ e h a w) (hr : resP P h e fn.results.toList K) :
    ∃ vs us, K vs ∧ (results fn a.tmps).run P w = .ok (if hx : us.toArray.size = 1 then us.toArray[0] else .tuple us.toArray) w ∧ PsRep σ (fz c σ h w) w vs us := by
  obtain ⟨vs, us, h1, h2, h3⟩ := resP_out hs hr
  refine ⟨vs, us, h1, ?_, h3⟩
  have he : results fn a.tmps = (do let vs ← fn.results.mapM (resF a.tmps); pure (if h : vs.size = 1 then vs[0] else .tuple vs)) := by
    unfold results
    congr 1
  rw [he, Array.mapM_eq_mapM_toList]
  simp only [Sem.run_bind, map_eq_pure_bind, bind_assoc, pure_bind, h2, Result.andThen_ok, Sem.run_pure]

/-! ### closing at the end -/
section
variable {c : Ctx} {σ : Sg} {h : Hp} {w : World} {F' : Fzn}
theorem closeH_out (hs : SW c σ h w) (hk : Keeps (fz c σ h w) F' w w) (hall : ∀ b o, c.own b → b < w.heap.size → F' b o) {x : D} {K : C → Prop} (hx : D.closeH h x K) : ∃ y, K y ∧ ∀ u, DRep σ (fz c σ h w) w x u → CRep F' w y u := by
  unfold D.closeH at hx
  split at hx
  · exact ⟨_, hx, fun u hu => by unfold DRep at hu; exact CRep.keeps hk _ _ hu⟩
  · rename_i k e sz l
    refine ⟨_, hx, fun u hu => ?_⟩
    have := rows_val (σ := σ) (F := fz c σ h w) (w := w) (x := .d (.app k e sz l)) (.inr ⟨k, e, rfl⟩) (u := u) (by unfold PRep; exact hu)
    refine CRep.keeps hk _ _ ?_
    unfold CRep
    exact this
  · rename_i k e sz lo n
    split at hx
    · rename_i e2 s rows hh
      split at hx
      · rename_i es
        obtain rfl := Nat.eq_of_beq_eq_true es
        obtain ⟨hle, hx⟩ := hx
        refine ⟨_, hx, fun u hu => ?_⟩
        unfold DRep at hu
        obtain ⟨hz, hrl, ob, q, h1, h2⟩ := hs.hp k _ hh
        have hlen : ((rows.drop lo).take n).length = n := by rw [List.length_take, List.length_drop]; omega
        unfold CRep
        rw [hlen]
        obtain ⟨_, ⟨m, g1, rfl, rfl⟩ | ⟨g, m, off, cap, cur, fr, g1, rfl, g3, g4, g5, g6, g7⟩⟩ := hu
        · exact ⟨none, 0, rfl, Nat.le_refl _, Nat.zero_le _, fun _ => rfl, .inl (by simp)⟩
        · refine ⟨_, cap, rfl, g3, g4, (fun e => by cases e), ?_⟩
          by_cases hn : n = 0
          · subst hn; exact .inl (by simp)
          · right
            rw [g1] at h1
            cases h1
            obtain ⟨hown, cur2, p1, p2, p3⟩ := h2
            obtain ⟨rfl, q2⟩ := g7 (by omega)
            refine ⟨g, lo * s, rfl, ?_⟩
            have hlt : g < w.heap.size := (Array.getElem?_eq_some_iff.1 p1).1
            have hr : RowsAt F' w s g 0 rows := by
              rw [rowsAt_iff]
              refine ⟨hrl, csAt_of_values (CsRep.keeps hk _ _ p3) (fun j u hu => ?_) (fun j hj => hall _ _ hown hlt)⟩
              rw [Nat.zero_add, cell_of_row _ _ _ _ _ _ p1]
              rw [List.getElem?_take] at hu
              split at hu
              · simpa using hu
              · cases hu
            have := rowsAt_take n (rowsAt_drop lo (by omega) hr)
            rwa [Nat.zero_add] at this
      · exact hx.elim
    · exact hx.elim
  · rename_i f
    refine ⟨_, hx, fun u hu => ?_⟩
    unfold DRep at hu
    obtain ⟨us, vs, rfl, h1, h2⟩ := hu
    rw [dsRep_nil_inv h1, dsRep_nil_inv h2]
    unfold CRep
    exact ⟨rfl, rfl⟩
  · exact hx.elim
theorem closeHL_out (hs : SW c σ h w) (hk : Keeps (fz c σ h w) F' w w) (hall : ∀ b o, c.own b → b < w.heap.size → F' b o) : ∀ {l : List D} {K : List C → Prop}, closeHL h l K → ∃ ys, K ys ∧ ∀ us, DsRep σ (fz c σ h w) w l us → CsRep F' w ys us
  | [], K, h => ⟨[], h, fun us hu => by rw [dsRep_nil_inv hu]; exact csRep_nil⟩
  | x :: xs, K, h => by
    unfold closeHL at h
    obtain ⟨y, h1, h2⟩ := closeH_out hs hk hall h
    obtain ⟨ys, h3, h4⟩ := closeHL_out hs hk hall h1
    refine ⟨y :: ys, h3, fun us hu => ?_⟩
    obtain ⟨u, vs, rfl, g1, g2⟩ := dsRep_inv hu
    exact csRep_cons (h2 u g1) (h4 vs g2)
mutual
theorem pcloseH_out (hs : SW c σ h w) (hk : Keeps (fz c σ h w) F' w w) (hall : ∀ b o, c.own b → b < w.heap.size → F' b o) : ∀ {x : PV} {K : PV → Prop}, PV.closeH h x K → ∃ y, K y ∧ ∀ u, PRep σ (fz c σ h w) w x u → PRep (fun _ => none) F' w y u
  | .d x, K, h => by
    unfold PV.closeH at h
    obtain ⟨y, h1, h2⟩ := closeH_out hs hk hall h
    refine ⟨_, h1, fun u hu => ?_⟩
    unfold PRep at hu ⊢
    unfold DRep
    exact h2 u hu
  | .agg l, K, h => by
    unfold PV.closeH at h
    obtain ⟨ys, h1, h2⟩ := closeHL_out hs hk hall h
    refine ⟨_, h1, fun u hu => ?_⟩
    unfold PRep at hu ⊢
    obtain ⟨xs, rfl, hx⟩ := hu
    exact ⟨xs, rfl, dsRep_of_cs (h2 xs hx)⟩
  | .tup l, K, h => by
    unfold PV.closeH at h
    obtain ⟨ys, h1, h2⟩ := closeHPs_out hs hk hall h
    refine ⟨_, h1, fun u hu => ?_⟩
    unfold PRep at hu ⊢
    obtain ⟨xs, rfl, hx⟩ := hu
    exact ⟨xs, rfl, h2 xs hx⟩
  | .any, K, h => by unfold PV.closeH at h; exact h.elim
theorem closeHPs_out (hs : SW c σ h w) (hk : Keeps (fz c σ h w) F' w w) (hall : ∀ b o, c.own b → b < w.heap.size → F' b o) : ∀ {l : List PV} {K : List PV → Prop}, closeHPs h l K → ∃ ys, K ys ∧ ∀ us, PsRep σ (fz c σ h w) w l us → PsRep (fun _ => none) F' w ys us
  | [], K, h => by
    unfold closeHPs at h
    refine ⟨[], h, fun us hu => ?_⟩
    cases us with
    | nil => unfold PsRep; trivial
    | cons _ _ => unfold PsRep at hu; exact hu.elim
  | x :: xs, K, h => by
    unfold closeHPs at h
    obtain ⟨y, h1, h2⟩ := pcloseH_out hs hk hall h
    obtain ⟨ys, h3, h4⟩ := closeHPs_out hs hk hall h1
    refine ⟨y :: ys, h3, fun us hu => ?_⟩
    cases us with
    | nil => unfold PsRep at hu; exact hu.elim
    | cons u us => unfold PsRep at hu ⊢; exact ⟨h2 u hu.1, h4 us hu.2⟩
end
end

theorem getD_args {vs : List Value} {nt t : Nat} : (vs.toArray ++ Array.replicate (nt - vs.toArray.size) undef).getD t undef = (vs[t]?).getD undef := by
  rw [Array.getD_eq_getD_getElem?, Array.getElem?_append]
  split
  · simp
  · rename_i hlt
    have : vs[t]? = none := List.getElem?_eq_none (by simpa using hlt)
    rw [this, Array.getElem?_replicate]
    split <;> rfl

theorem pure_of {P : Program} {f : FuncId} {fn : Func} {cd : Code} {args : List PV} {res : PV} (hf : P.funcs[f]? = some fn) (hn : (fn.name == "runtime.NumGoroutine") = false) (hb : fn.body = some cd) (hm : P.follows .mixedOrders = true)
    (ha : Nat.ble args.length fn.ntmps = true) (hv : vc P fn.ntmps [] (fun _ => False) cd (argsE args) (fun _ => none) [] (retQ P fn res)) : Pure P f args res := by
  refine ⟨⟨fn, hf, hn, by rw [hb]; rfl⟩, fun F w vs hG hF hargs => ?_⟩
  have hal := Nat.le_of_ble_eq_true ha
  have hvl := psRep_len hargs
  obtain ⟨c, hcdef⟩ : ∃ c : Ctx, c = ⟨w, F, fun _ => False, fun _ _ => False, fun _ => none⟩ := ⟨_, rfl⟩
  have hn0 : c.n0 = w.heap.size := by rw [hcdef]
  have hF0 : c.F0 = F := by rw [hcdef]
  have hF1 : c.F1 = fun _ _ => False := by rw [hcdef]
  have hσ0 : c.σ0 = fun _ => none := by rw [hcdef]
  have hw0 : c.w0 = w := by rw [hcdef]
  have hext : ∀ b, ¬ c.ext b := by intro b; rw [hcdef]; exact id
  have hc : c.Ok := ⟨fun b o h => ⟨by rw [hn0]; exact hF b o (by rw [← hF0]; exact h), hext b⟩, by rw [hw0]; exact hG, fun b _ => hext b⟩
  have hfz : ∀ b o, F b o → fz c (fun _ => none) (fun _ => none) w b o := fun b o h => .inl ⟨by rw [hn0]; exact hF b o h, by rw [hF0]; exact h⟩
  have hst : St c fn.ntmps (fun _ => none) (argsE args) (fun _ => none) { tmps := vs.toArray ++ Array.replicate (fn.ntmps - vs.toArray.size) undef, defers := [] } w := by
    refine ⟨⟨by rw [hw0], by rw [hw0], by rw [hw0], by rw [hn0]; exact Nat.le_refl _, fun b _ _ => by rw [hw0], (fun k hb hk => by cases hk), fun k k' g n n' hk => absurd rfl hk, ?_, by rw [hw0]; exact Shape.refl _, fun k x hk => by rw [hσ0] at hk; cases hk⟩, fun t => ?_, rfl, ?_⟩
    · rw [hF1, hw0]; exact ⟨fun _ _ h => h.elim, fun _ _ h => h.elim⟩
    · have h1 := psRep_get t (PsRep.of_none (σ := fun _ => none) ⟨hfz, fun _ _ _ => rfl⟩ _ _ hargs)
      show PRep _ _ _ _ ((vs.toArray ++ Array.replicate (fn.ntmps - vs.toArray.size) undef).getD t undef)
      rw [getD_args]; exact h1
    · simp; omega
  refine calls_of_wp hf hb (wp_mono (vc_out (fun k hk => absurd (by rw [hσ0]) hk) hc hm cd _ _ _ _ _ _ w hv hst (fun _ _ => rfl)) ?_)
  intro x a' w' hq
  have fin : ∀ e' h' σ', St c fn.ntmps σ' e' h' a' w' → resP P h' e' fn.results.toList (fun vs => closeHPs h' vs fun vs => tupOf vs fun v => Ret v res) →
      a'.defers = [] ∧ ∃ v, (results fn a'.tmps).run P w' = .ok v w' ∧ ∃ v', Ending.returned v = .returned v' ∧ Below w.heap.size w w' ∧ PRep (fun _ => none) (fun b o => F b o ∨ (w.heap.size ≤ b ∧ b < w'.heap.size)) w' res v' := by
    intro e' h' σ' hs' hr
    obtain ⟨ps, us, h1, h2, h3⟩ := results_run hs' hr
    have hbel : Below w.heap.size w w' := ⟨by rw [hs'.os, hw0], by rw [hs'.tape, hw0], by rw [hs'.output, hw0], by have := hs'.size; rw [hn0] at this; exact this, fun k hk => by
      rw [hs'.block k (by rw [hn0]; exact hk) (hext k), hw0]⟩
    have hkeep : Keeps (fz c σ' h' w') (fun b o => F b o ∨ (w.heap.size ≤ b ∧ b < w'.heap.size)) w' w' := by
      refine ⟨fun b o hq => ?_, fun _ _ _ => rfl⟩
      rcases hq with ⟨q1, q2⟩ | ⟨q1, q2, _⟩
      · rw [hF0] at q2; exact .inl q2
      · rcases q1 with q1 | q1
        · rw [hn0] at q1; exact .inr ⟨q1, q2⟩
        · exact absurd q1 (hext b)
    obtain ⟨ps', h1, h4⟩ := closeHPs_out hs'.toSW hkeep (fun b o hown hlt => by
      rcases hown with q | q
      · rw [hn0] at q; exact .inr ⟨q, hlt⟩
      · exact absurd q (hext b)) h1
    obtain ⟨v, h5, h6⟩ := tup_out h1 (h4 us h3)
    refine ⟨hs'.defers, _, h2, _, rfl, hbel, ?_⟩
    rcases h5 with rfl | h5
    · exact h6
    · have := prep_wk (σ := fun _ => none) (f := fun _ => none) (n := []) (F' := fun b o => F b o ∨ (w.heap.size ≤ b ∧ b < w'.heap.size)) (w := w') ⟨fun _ _ h => h, fun _ _ _ => rfl⟩ _ _ _ h5 h6
      have e1 : newSg (fun _ => none) (fun _ => none) ([] : List Nat) = fun _ => none := by funext k; unfold newSg; rw [if_neg (by simp [kin])]
      rw [e1] at this
      exact this
  cases x with
  | normal => obtain ⟨e', h', n', σ', hq, hs', _⟩ := hq; exact fin _ _ _ hs' hq
  | ret => obtain ⟨e', h', n', σ', hq, hs', _⟩ := hq; exact fin _ _ _ hs' hq
  | exit id => obtain ⟨e', h', n', σ', hq, hs', _⟩ := hq; exact hq
  | goto l => obtain ⟨e', h', n', σ', hq, hs', _⟩ := hq; exact hq
  | panic ch => obtain ⟨v, _, hq, _⟩ := hq; exact hq.elim
  | outgrown => obtain ⟨e', h', n', σ', hq, hs', _⟩ := hq; exact hq.elim

/-! ### with keys -/
theorem hp_keys {c : Ctx} {r : Rf} {σ : Sg} {w : World} (hs : SW c σ (hpL r) w) (hnd : ndK r = true) : ∀ k ∈ r.map Prod.fst, σ k ≠ none := by
  intro k hk
  obtain ⟨⟨q, b⟩, h1, h2⟩ := List.mem_map.1 hk
  simp only at h2
  subst h2
  exact hb_sg (hs.hp q b (mem_hpL hnd h1))
theorem st_begin {c : Ctx} {nt : Nat} {h : Hp} {args : List PV} {vs : List Value} (hs : SW c c.σ0 h c.w0) (hargs : PsRep c.σ0 (fz c c.σ0 h c.w0) c.w0 args vs) (ha : args.length ≤ nt) :
    St c nt c.σ0 (argsE args) h { tmps := vs.toArray ++ Array.replicate (nt - vs.toArray.size) undef, defers := [] } c.w0 := by
  have hvl := psRep_len hargs
  refine ⟨hs, fun t => ?_, rfl, by simp; omega⟩
  have h1 := psRep_get t hargs
  show PRep _ _ _ _ ((vs.toArray ++ Array.replicate (nt - vs.toArray.size) undef).getD t undef)
  rw [getD_args]; exact h1
theorem callS_of {P : Program} {f : FuncId} {fn : Func} {cd : Code} {args : List PV} {res : PV} {rd rf out : Rf} (hf : P.funcs[f]? = some fn) (hn : (fn.name == "runtime.NumGoroutine") = false) (hb : fn.body = some cd) (hm : P.follows .mixedOrders = true)
    (ha : Nat.ble args.length fn.ntmps = true) (fk : List Nat) (hfk : fk = (rd ++ rf).map Prod.fst)
    (hv : vc P fn.ntmps fk (fun _ => False) cd (argsE args) (hpL (rd ++ rf)) fk (retS P fn fk res (rd ++ out))) : CallS P f args rd rf res out := by
  refine ⟨⟨fn, hf, hn, by rw [hb]; rfl⟩, fun c vs hc hfr hs hargs => ?_⟩
  have hst := st_begin hs hargs (Nat.le_of_ble_eq_true ha)
  have hfr' : ∀ k, k ∉ fk → c.σ0 k = none := fun k hk => hfr k (by rw [← hfk]; exact hk)
  have hfk' : ∀ k, c.σ0 k ≠ none → k ∈ fk := fun k hk => Classical.byContradiction fun h => hk (hfr' k h)
  refine calls_of_wp hf hb (wp_mono (vc_out hfk' hc hm cd _ _ _ _ _ _ _ hv hst hfr') ?_)
  intro x a' w' hq
  have fin : ∀ e' h' σ', St c fn.ntmps σ' e' h' a' w' → resP P h' e' fn.results.toList (fun vs => tupOf vs fun v => RetS fk h' res (rd ++ out) v) →
      a'.defers = [] ∧ ∃ v, (results fn a'.tmps).run P w' = .ok v w' ∧ ∃ v' σ1, Ending.returned v = .returned v' ∧ SW c σ1 (hpL (rd ++ out)) w' ∧ PRep σ1 (fz c σ1 (hpL (rd ++ out)) w') w' res v' := by
    intro e' h' σ' hs' hr
    obtain ⟨ps, us, h1, h2, h3⟩ := results_run hs' hr
    obtain ⟨v, h5, h6⟩ := tup_out h1 h3
    obtain ⟨g, n, q1, q2, q3, q4⟩ := h5
    obtain ⟨hk, hsw⟩ := sw_wk hfk' hs'.toSW q1 q2 q4
    exact ⟨hs'.defers, _, h2, _, _, rfl, hsw, prep_wk hk _ _ _ q3 h6⟩
  cases x with
  | normal => obtain ⟨e', h', n', σ', hq, hs', _⟩ := hq; exact fin _ _ _ hs' hq
  | ret => obtain ⟨e', h', n', σ', hq, hs', _⟩ := hq; exact fin _ _ _ hs' hq
  | exit id => obtain ⟨e', h', n', σ', hq, hs', _⟩ := hq; exact hq
  | goto l => obtain ⟨e', h', n', σ', hq, hs', _⟩ := hq; exact hq
  | panic ch => obtain ⟨v, _, hq, _⟩ := hq; exact hq.elim
  | outgrown => obtain ⟨e', h', n', σ', hq, hs', _⟩ := hq; exact hq.elim
theorem callX_of {P : Program} {f : FuncId} {fn : Func} {cd : Code} {args : List PV} {x : Value} {rd : Rf} (hf : P.funcs[f]? = some fn) (hn : (fn.name == "runtime.NumGoroutine") = false) (hb : fn.body = some cd) (hm : P.follows .mixedOrders = true)
    (ha : Nat.ble args.length fn.ntmps = true) (fk : List Nat) (hfk : fk = rd.map Prod.fst)
    (hv : vc P fn.ntmps fk (fun y => y = x) cd (argsE args) (hpL rd) fk (fun _ _ _ _ => False)) : CallX P f args rd x := by
  refine ⟨⟨fn, hf, hn, by rw [hb]; rfl⟩, fun c vs hc hfr hs hargs => ?_⟩
  have hst := st_begin hs hargs (Nat.le_of_ble_eq_true ha)
  have hfr' : ∀ k, k ∉ fk → c.σ0 k = none := fun k hk => hfr k (by rw [← hfk]; exact hk)
  have hfk' : ∀ k, c.σ0 k ≠ none → k ∈ fk := fun k hk => Classical.byContradiction fun h => hk (hfr' k h)
  refine calls_of_wp hf hb (wp_mono (vc_out hfk' hc hm cd _ _ _ _ _ _ _ hv hst hfr') ?_)
  intro x' a' w' hq
  cases x' with
  | normal => obtain ⟨e', h', n', σ', hq, hs', _⟩ := hq; exact hq.elim
  | ret => obtain ⟨e', h', n', σ', hq, hs', _⟩ := hq; exact hq.elim
  | exit id => obtain ⟨e', h', n', σ', hq, hs', _⟩ := hq; exact hq
  | goto l => obtain ⟨e', h', n', σ', hq, hs', _⟩ := hq; exact hq
  | panic ch => obtain ⟨v, rfl, rfl, hp, hd⟩ := hq; exact ⟨hd, rfl, hp⟩
  | outgrown => obtain ⟨e', h', n', σ', hq, hs', _⟩ := hq; exact hq.elim

end Go.Proofs.YthogcgnhhcbkkaaDoor.Pm
