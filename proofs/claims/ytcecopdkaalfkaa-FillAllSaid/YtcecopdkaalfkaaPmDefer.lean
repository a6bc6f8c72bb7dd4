/- Functions with one deferred closure that recovers. -/
import Derived.Test.YtcecopdkaalfkaaPmFun
import Derived.Recover
namespace Go.Proofs.Ytcecopdkaalfkaa.Pm
open Go.RowKit
set_option linter.unusedVariables false
set_option linter.unusedSimpArgs false

def seqs : List Code → Code → Code
  | [], t => t
  | c :: l, t => .seq c (seqs l t)
/-- the part ahead of the deferring -/
noncomputable def vcPre (P : Program) (nt : Nat) (fk : List Nat) (X : XT) : List Code → (Env → Hp → List Nat → Prop) → Cont → Env → Hp → List Nat → Prop
  | [], N, _, e, h, n => N e h n
  | c :: l, N, Q, e, h, n => vc P nt fk X c e h n (seqK (fun e h n => vcPre P nt fk X l N Q e h n) Q)
/-- the closure's body behind its recover -/
def cloK (P : Program) (G : Func) (t1 t2 : Nat) (rest : Code) (cap : List D) (r : PV) (h : Hp) (n : List Nat) (K : Hp → Prop) : Prop :=
  vc P G.ntmps n (fun _ _ _ _ => False) rest (upd (upd (argsE (pds cap)) t1 r) t2 r) h n fun x _ h _ => match x with
    | .normal => K h
    | .ret => K h
    | _ => False
/-- results that lie in variables -/
def resC (P : Program) (h : Hp) (e : Env) : List ResultVar → (List PV → Prop) → Prop
  | [], K => K []
  | .cell t ty :: rs, K => match e t with
    | .d (.ptr k o) => loadP P h ty (.d (.ptr k o)) fun v _ => resC P h e rs fun vs => K (v :: vs)
    | _ => False
  | .tmp _ :: _, _ => False
/-- all are addresses in variables -/
def ptrs : List D → Bool
  | [] => true
  | .ptr _ _ :: l => ptrs l
  | _ => false
def deferP (P : Program) (fn G : Func) (t1 t2 : Nat) (rest post : Code) (cap : List D) (Fin : Hp → List PV → Prop) (e : Env) (h : Hp) (n : List Nat) : Prop :=
  vc P fn.ntmps n (fun v e h n => v.oneCell' = true ∧ cloK P G t1 t2 rest cap (.d (.c (.v v))) h n fun h2 => resC P h2 e fn.results.toList fun vs => Fin h2 vs) post e h n fun x e h n => match x with
    | .normal => cloK P G t1 t2 rest cap (.d (.c (.v .nilIface))) h n fun h2 => resC P h2 e fn.results.toList fun vs => Fin h2 vs
    | .ret => cloK P G t1 t2 rest cap (.d (.c (.v .nilIface))) h n fun h2 => resC P h2 e fn.results.toList fun vs => Fin h2 vs
    | _ => False

section
variable {P : Program}
theorem sw_df {c : Ctx} {σ : Sg} {h : Hp} {w : World} (hs : SW c σ h w) (d : List Deferred) (s : Sg) (hsg : ∀ k x, s k = some x → σ k = some x) : SW { c with df := d, σ0 := s } σ h w :=
  ⟨hs.os, hs.tape, hs.output, hs.size, hs.block, hs.hp, hs.inj, hs.kept, hs.shape, hsg⟩
theorem ctx_df {c : Ctx} (hc : c.Ok) (d : List Deferred) (s : Sg) : Ctx.Ok { c with df := d, σ0 := s } := ⟨hc.fz, hc.gl, hc.gb⟩
theorem ptrs_rep {σ σ' : Sg} {F F' : Fzn} {w w' : World} (hsg : ∀ k x, σ k = some x → σ' k = some x) : ∀ {l : List D} {us : List Value}, ptrs l = true → DsRep σ F w l us → DsRep σ' F' w' l us
  | [], _, _, hr => by rw [dsRep_nil_inv hr]; exact dsRep_nil
  | x :: xs, _, h, hr => by
    obtain ⟨u, vs, rfl, h1, h2⟩ := dsRep_inv hr
    unfold ptrs at h
    split at h
    · cases ‹_ :: _ = []›
    · rename_i k o l he
      cases he
      refine dsRep_cons ?_ (ptrs_rep hsg h h2)
      unfold DRep at h1 ⊢
      obtain ⟨g, m, q1, q2⟩ := h1
      exact ⟨g, m, hsg _ _ q1, q2⟩
    · cases h

/-- the results in variables, in a later state -/
theorem resC_out {c c' : Ctx} {nt : Nat} {σ σ' : Sg} {e : Env} {h h' : Hp} {a : Act} {w w' : World} (hs : St c nt σ e h a w) (hsg : ∀ k x, σ k = some x → σ' k = some x) (hs' : SW c' σ' h' w') : ∀ {rs : List ResultVar} {K : List PV → Prop}, resC P h' e rs K →
    ∃ vs us, K vs ∧ (rs.mapM (resF a.tmps)).run P w' = .ok us w' ∧ PsRep σ' (fz c' σ' h' w') w' vs us
  | [], K, hv => ⟨[], [], hv, by simp, by unfold PsRep; trivial⟩
  | .cell t ty :: rs, K, hv => by
    unfold resC at hv
    split at hv
    · rename_i k o he
      have h1 := hs.env t
      rw [he] at h1
      have h2 : PRep σ' (fz c' σ' h' w') w' (.d (.ptr k o)) (a.tmps.getD t undef) := by
        unfold PRep DRep at h1 ⊢
        obtain ⟨g, m, q1, q2⟩ := h1
        exact ⟨g, m, hsg _ _ q1, q2⟩
      obtain ⟨v, z, _, g1, g2, ⟨ad, g3⟩, g4⟩ := loadP_run hv hs' h2
      obtain ⟨vs, us, h3, h4, h5⟩ := resC_out hs hsg hs' g1
      refine ⟨v :: vs, z :: us, h3, ?_, by unfold PsRep; exact ⟨g4, h5⟩⟩
      rw [g3] at g2
      have g5 : (loadVar ty ad).run P w' = .ok z w' := by simpa [Instr.loadAt, Instr.sureAddr] using g2
      simp only [List.mapM_cons, resF, Sem.run_bind, Sem.run_pure, Result.andThen_ok, h4, g3, asAddr, g5]
    · exact hv.elim
  | .tmp t :: rs, K, hv => by unfold resC at hv; exact hv.elim

/-- the closure, in a frame that goes on or panics -/
theorem clo_run {g : FuncId} {G : Func} {t1 t2 : Nat} {id : Nat} {ops : Array Oper} {rest : Code} {cap : List D} {r : Value} {u u' : FrameMode} {K : Hp → Prop} {c : Ctx} {σ : Sg} {h : Hp} {n : List Nat} {w : World} {us : List Value}
    (hg : P.funcs[g]? = some G) (hb : G.body = some (.seq (.region id ops false) rest)) (hres : G.results = #[]) (hm : P.follows .mixedOrders = true) (hn2 : Nat.blt t1 G.ntmps = true ∧ Nat.blt t2 G.ntmps = true) (hlen : us.length ≤ G.ntmps)
    (hreg : ∀ (a : Act) (c₀ : Frame) (cs : List Frame) (w : World) (Q : Exit → Act → List Frame → World → Prop), c₀.mode = u → t1 < a.tmps.size → Q .normal ((a.put (some t1) r).put (some t2) r) ({ c₀ with mode := u' } :: cs) w → wpOpsS P ops Q (List.range ops.size) a (c₀ :: cs) w)
    (hc : c.Ok) (hs : SW c σ h w) (hf : ∀ k, k ∉ n → σ k = none) (hcap : PsRep σ (fz c σ h w) w (pds cap) us) (hr : r.oneCell' = true)
    (hv : cloK P G t1 t2 rest cap (.d (.c (.v r))) h n K) :
    CallsD P g us.toArray u w fun e v w' => e = .returned (.tuple #[]) ∧ v = u' ∧ ∃ σ' h', K h' ∧ SW { c with df := [], σ0 := σ } σ' h' w' := by
  refine callsD_of_wpS hg hb fun c₀ cs hu => ?_
  obtain ⟨hb1, hb2⟩ := hn2
  have hsz : t1 < (us.toArray ++ Array.replicate (G.ntmps - us.toArray.size) undef).size := by
    have l1 : t1 < G.ntmps := by simpa using hb1
    simp; omega
  refine wpS_seq (wpS_region (hreg _ c₀ cs w _ hu hsz ?_))
  show Code.wpS P rest _ _ _ _
  have hst : St { c with df := [], σ0 := σ } G.ntmps σ (argsE (pds cap)) h { tmps := us.toArray ++ Array.replicate (G.ntmps - us.toArray.size) undef, defers := [] } w := by
    refine ⟨sw_df hs [] σ (fun _ _ h => h), fun t => ?_, rfl, by simp; omega⟩
    have q := psRep_get t hcap
    show PRep _ _ _ _ ((us.toArray ++ Array.replicate (G.ntmps - us.toArray.size) undef).getD t undef)
    rw [getD_args]; exact q
  have hpr : PRep σ (fz { c with df := [], σ0 := σ } σ h w) w (.d (.c (.v r))) r := by unfold PRep DRep CRep; exact ⟨rfl, hr⟩
  have l1 : t1 < G.ntmps := by simpa using hb1
  have l2 : t2 < G.ntmps := by simpa using hb2
  have h1 := st_put (d := some t1) (v := .d (.c (.v r))) (u := r) hst Evo.refl hst.toSW hpr (fun t' ht => by cases ht; exact l1)
  have h2 := st_put (d := some t2) (v := .d (.c (.v r))) (u := r) h1 Evo.refl h1.toSW hpr (fun t' ht => by cases ht; exact l2)
  refine wpS_of_wp (wp_mono (vc_out (fun k hk => Classical.byContradiction fun hn => hk (hf k hn)) (ctx_df hc [] σ) hm rest _ _ _ _ σ _ w hv h2 hf) ?_)
  intro x a' w' hq
  have fin : ∀ (e' : Env) (h' : Hp) (σ' : Sg), K h' → St { c with df := [], σ0 := σ } G.ntmps σ' e' h' a' w' → a'.defers = [] ∧ ∃ u'', ({ c₀ with mode := u' } : Frame) :: cs = { c₀ with mode := u'' } :: cs ∧ ∃ v, (results G a'.tmps).run P w' = .ok v w' ∧
      (Ending.returned v = .returned (.tuple #[]) ∧ u'' = u' ∧ ∃ σ' h', K h' ∧ SW { c with df := [], σ0 := σ } σ' h' w') := by
    intro e' h' σ' hk hs'
    refine ⟨hs'.defers, u', rfl, .tuple #[], ?_, rfl, rfl, σ', h', hk, hs'.toSW⟩
    unfold results
    simp [hres]
  cases x with
  | normal => obtain ⟨e', h', n', σ', hq, hs', _⟩ := hq; exact fin _ _ _ hq hs'
  | ret => obtain ⟨e', h', n', σ', hq, hs', _⟩ := hq; exact fin _ _ _ hq hs'
  | exit id => obtain ⟨e', h', n', σ', hq, hs', _⟩ := hq; exact hq.elim
  | goto l => obtain ⟨e', h', n', σ', hq, hs', _⟩ := hq; exact hq.elim
  | panic ch => obtain ⟨v, _, e', h', n', σ', hq, _⟩ := hq; exact hq.elim
  | outgrown => obtain ⟨e', h', n', σ', hq, hs', _⟩ := hq; exact hq.elim
/-- the deferring itself -/
def deferK (P : Program) (fn G : Func) (g : FuncId) (t t1 t2 : Nat) (caps : List Operand) (rest post : Code) (Fin : Hp → List PV → Prop) (e : Env) (h : Hp) (n : List Nat) : Prop :=
  mapE (ev e) caps fun ys => dsOf ys fun cap => Need (ptrs cap = true) (deferP P fn G t1 t2 rest post cap Fin (upd e t (.d (.clo g [] cap))) h n)
/-- how a closure's first region reads what was raised -/
structure Recovers (P : Program) (ops : Array Oper) (t1 t2 : Nat) : Prop where
  ret : ∀ (a : Act) (c₀ : Frame) (cs : List Frame) (w : World) (Q : Exit → Act → List Frame → World → Prop), c₀.mode = .returning → t1 < a.tmps.size → Q .normal ((a.put (some t1) .nilIface).put (some t2) .nilIface) ({ c₀ with mode := .returning } :: cs) w → wpOpsS P ops Q (List.range ops.size) a (c₀ :: cs) w
  pan : ∀ (v : Value) (a : Act) (c₀ : Frame) (cs : List Frame) (w : World) (Q : Exit → Act → List Frame → World → Prop), c₀.mode = .panicking [{ v := v, recovered := false }] → t1 < a.tmps.size → Q .normal ((a.put (some t1) v).put (some t2) v) ({ c₀ with mode := .panicking [{ v := v, recovered := true }] } :: cs) w →
    wpOpsS P ops Q (List.range ops.size) a (c₀ :: cs) w
theorem recovers_two {ops : Array Oper} {t1 t2 : Nat} {o1 o2 : Oper} (hops : ops = #[o1, o2]) (h1 : o1.op = .call { callee := .builtin .recover, args := #[], argTypes := #[] }) (h1d : o1.dst = some t1) (h1g : o1.guard = none) (h2 : o2.op = .assign (.tmp t1)) (h2d : o2.dst = some t2) (h2g : o2.guard = none) : Recovers P ops t1 t2 := by
  subst hops
  have hr : List.range (#[o1, o2] : Array Oper).size = [0, 1] := rfl
  have get : ∀ (a : Act) (v : Value), t1 < a.tmps.size → (a.put (some t1) v).eval (.tmp t1) = v := fun a v h => by simp [Act.eval, Act.put, h]
  constructor
  · intro a c₀ cs w Q hm ht hq
    rw [hr]
    have e2 : ∀ w : World, (execOp (a.put (some t1) .nilIface).eval o2).run P w = .ok (.value .nilIface) w := fun w => by simp [execOp, h2, get a .nilIface ht]
    have e1 : (execOp a.eval o1).run P w = .ok .recover w := by simp [execOp, h1, resolve, invoke]; rfl
    have ec : recoverD (c₀ :: cs) = none := by simp [recoverD, hm]
    have e3 : c₀ = { c₀ with mode := .returning } := by rw [← hm]
    simp only [wpOpsS, Region.wanted, h1g, h2g, e1, e2, ec, h1d, h2d, List.getElem?_toArray, List.getElem?_cons_zero, List.getElem?_cons_succ, if_true, Oper.upon]
    rw [e3]; exact hq
  · intro v a c₀ cs w Q hm ht hq
    rw [hr]
    have e2 : ∀ w : World, (execOp (a.put (some t1) v).eval o2).run P w = .ok (.value v) w := fun w => by simp [execOp, h2, get a v ht]
    have e1 : (execOp a.eval o1).run P w = .ok .recover w := by simp [execOp, h1, resolve, invoke]; rfl
    have ec : recoverD (c₀ :: cs) = some (v, { c₀ with mode := .panicking [{ v := v, recovered := true }] } :: cs) := by simp [recoverD, hm]
    simp only [wpOpsS, Region.wanted, h1g, h2g, e1, e2, ec, h1d, h2d, List.getElem?_toArray, List.getElem?_cons_zero, List.getElem?_cons_succ, if_true, Oper.upon]
    exact hq
theorem wp_defer {g : FuncId} {fn G : Func} {t t1 t2 id id1 : Nat} {ops ops1 : Array Oper} {o1 o2 : Oper} {caps : List Operand} {rest post : Code} {Fin : Hp → List PV → Prop} {c : Ctx} {fk : List Nat} {R : Ending → World → Prop}
    (hops : ops1.toList = [o1, o2]) (h1 : o1.op = .makeFunc (.func g) #[] caps.toArray) (h1d : o1.dst = some t) (h1g : o1.guard = none) (h2 : o2.op = .defer { callee := .value (.tmp t), args := #[], argTypes := #[] }) (h2d : o2.dst = none) (h2g : o2.guard = none) (ht : Nat.blt t fn.ntmps = true)
    (hg : P.funcs[g]? = some G) (hgn : (G.name == "runtime.NumGoroutine") = false) (hb : G.body = some (.seq (.region id ops false) rest)) (hres : G.results = #[]) (hm : P.follows .mixedOrders = true) (hn2 : Nat.blt t1 G.ntmps = true ∧ Nat.blt t2 G.ntmps = true) (hlen : Nat.ble caps.length G.ntmps = true)
    (hrec : Recovers P ops t1 t2) (hc : c.Ok) (hdf : c.df = []) (hfk : ∀ k, c.σ0 k ≠ none → k ∈ fk)
    (hfin : ∀ σ h w vs us, Fin h vs → SW c σ h w → PsRep σ (fz c σ h w) w vs us → R (.returned (if hx : us.toArray.size = 1 then us.toArray[0] else .tuple us.toArray)) w) :
    ∀ (pre : List Code) (e : Env) (h : Hp) (n : List Nat) (σ : Sg) (a : Act) (w : World), vcPre P fn.ntmps fk (fun _ _ _ _ => False) pre (deferK P fn G g t t1 t2 caps rest post Fin) (fun x e h _ => match x with | .ret => resP P h e fn.results.toList fun vs => Fin h vs | _ => False) e h n →
      St c fn.ntmps σ e h a w → (∀ k, k ∉ n → σ k = none) → (seqs pre (.seq (.region id1 ops1 false) post)).wp P (bodyPostD P fn R) a w
  | [], e, h, n, σ, a, w, hv, hs, hf => by
    have hv : deferK P fn G g t t1 t2 caps rest post Fin e h n := hv
    unfold deferK at hv
    obtain ⟨ys, hv, hys⟩ := mapE_out hv
    obtain ⟨cap, ⟨hptr, hv⟩, hcap⟩ := dsOf_out hv
    have hcv : DsRep σ (fz c σ h w) w cap (caps.map a.eval) := hcap _ _ _ _ (hys σ (fz c σ h w) w a.eval fun x _ => rep_ev hs x)
    have htl : t < fn.ntmps := by simpa using ht
    have hclo : PRep σ (fz c σ h w) w (.d (.clo g [] cap)) (.func (.func g) #[] (caps.map a.eval).toArray) := by
      unfold PRep DRep
      exact ⟨[], caps.map a.eval, by simp, dsRep_nil, hcv⟩
    obtain ⟨d, hd⟩ : ∃ d : Deferred, d = { target := .fn (.func g) (caps.map a.eval).toArray, args := #[] } := ⟨_, rfl⟩
    have hs1 := st_put (d := some t) (v := .d (.clo g [] cap)) (u := .func (.func g) #[] (caps.map a.eval).toArray) hs Evo.refl hs.toSW hclo (fun t' ht' => by cases ht'; exact htl)
    have hev : (a.put (some t) (.func (.func g) #[] (caps.map a.eval).toArray)).eval (.tmp t) = .func (.func g) #[] (caps.map a.eval).toArray := by
      simp [Act.eval, Act.put, hs.nt, htl]
    have hs2 : St { c with df := [d], σ0 := σ } fn.ntmps σ (upd e t (.d (.clo g [] cap))) h { a.put (some t) (.func (.func g) #[] (caps.map a.eval).toArray) with defers := [d] } w := by
      refine ⟨sw_df hs.toSW [d] σ (fun _ _ h => h), hs1.env, rfl, hs1.nt⟩
    refine wp_seq (wp_region_list ?_)
    rw [hops]
    unfold wpList
    rw [if_pos (by unfold Region.wanted; rw [h1g])]
    refine .inl ?_
    unfold Oper.wp
    have e1 : (execOp a.eval o1).run P w = .ok (.value (.func (.func g) #[] (caps.map a.eval).toArray)) w := by simp [execOp, h1, Instr.makeFunc]
    rw [e1]
    show wpList P ops1 _ [o2] (a.put o1.dst _) w
    rw [h1d]
    unfold wpList
    rw [if_pos (by unfold Region.wanted; rw [h2g])]
    refine .inl ?_
    unfold Oper.wp
    have e2 : (execOp (a.put (some t) (.func (.func g) #[] (caps.map a.eval).toArray)).eval o2).run P w = .ok (.defer d) w := by
      simp [execOp, h2, resolve, hev, Deferred.ofValue, hd]
    rw [e2]
    have hdz : (a.put (some t) (.func (.func g) #[] (caps.map a.eval).toArray)).defers = [] := by rw [show (a.put (some t) (.func (.func g) #[] (caps.map a.eval).toArray)).defers = a.defers from rfl, hs.defers, hdf]
    have up : ∀ (A : Act), A.defers = [] → ∀ (N : Act → World → Prop) (Q : Exit → Act → World → Prop), N ({ tmps := A.tmps, defers := [d] } : Act) w → Oper.upon P o2 A N Q (.ok (.defer d) w) := by
      intro A hA N Q hN
      simp only [Oper.upon, h2d, Act.put, hA]
      exact hN
    refine up _ hdz _ _ ?_
    unfold wpList
    show post.wp P _ { a.put (some t) (.func (.func g) #[] (caps.map a.eval).toArray) with defers := [d] } w
    refine wp_mono (vc_out (fun k hk => Classical.byContradiction fun hn => hk (hf k hn)) (ctx_df hc [d] σ) hm post _ _ _ _ σ _ w hv hs2 hf) ?_
    have hinv : ∀ w : World, (invoke (.fn (.func g) (caps.map a.eval).toArray) #[]).run P w = .ok (.enter g (caps.map a.eval).toArray) w := fun w => by
      have p2' : ¬ G.name = "runtime.NumGoroutine" := by simpa using hgn
      simp [invoke, callFunc, hg, p2', hb]
    have hlen' : (caps.map a.eval).length ≤ G.ntmps := by rw [List.length_map]; exact Nat.le_of_ble_eq_true hlen
    -- how a frame is left
    have leave : ∀ (u u' : FrameMode) (r : Value) (e' : Env) (h' : Hp) (n' : List Nat) (σ' : Sg) (a' : Act) (w' : World), u ≠ .run → settle u' = .returning →
        (∀ (a : Act) (c₀ : Frame) (cs : List Frame) (w : World) (Q : Exit → Act → List Frame → World → Prop), c₀.mode = u → t1 < a.tmps.size → Q .normal ((a.put (some t1) r).put (some t2) r) ({ c₀ with mode := u' } :: cs) w → wpOpsS P ops Q (List.range ops.size) a (c₀ :: cs) w) →
        r.oneCell' = true → cloK P G t1 t2 rest cap (.d (.c (.v r))) h' n' (fun h2 => resC P h2 e' fn.results.toList fun vs => Fin h2 vs) → St { c with df := [d], σ0 := σ } fn.ntmps σ' e' h' a' w' → (∀ k, k ∉ n' → σ' k = none) → Leaves P fn a'.tmps R a'.defers u w' := by
      intro u u' r e' h' n' σ' a' w' hu hset hreg hr1 hclo hs' hf'
      rw [show a'.defers = [d] from hs'.defers, hd]
      refine leaves_cons hu (hinv w') ?_
      have hc2 : PsRep σ' (fz { c with df := [d], σ0 := σ } σ' h' w') w' (pds cap) (caps.map a.eval) := psRep_pds (ptrs_rep (fun k x hk => hs'.sg0 k x hk) hptr hcv)
      refine (clo_run hg hb hres hm hn2 hlen' hreg (ctx_df hc [d] σ) hs'.toSW hf' hc2 hr1 hclo).mono ?_
      rintro en v w'' ⟨rfl, hvu, σ'', h'', hk, hs''⟩
      show Leaves P fn a'.tmps R [] (settle v) w''
      rw [hvu, hset]
      have hback : SW c σ'' h'' w'' := sw_df hs'' c.df c.σ0 (fun k x hk => hs''.sg0 k x (hs'.sg0 k x (hs.sg0 k x hk)))
      obtain ⟨vs, us, g1, g2, g3⟩ := resC_out hs' (fun k x hk => hs''.sg0 k x hk) hback hk
      refine ⟨_, ?_, hfin σ'' h'' w'' vs us g1 hback g3⟩
      have he : results fn a'.tmps = (do let vs ← fn.results.mapM (resF a'.tmps); pure (if h : vs.size = 1 then vs[0] else .tuple vs)) := by
        unfold results
        congr 1
      rw [he, Array.mapM_eq_mapM_toList]
      simp only [Sem.run_bind, map_eq_pure_bind, bind_assoc, pure_bind, g2, Result.andThen_ok, Sem.run_pure]
    intro x a' w' hq
    cases x with
    | normal => obtain ⟨e', h', n', σ', hq, hs', hf'⟩ := hq; exact leave .returning .returning .nilIface e' h' n' σ' a' w' (by simp) rfl hrec.ret rfl hq hs' hf'
    | ret => obtain ⟨e', h', n', σ', hq, hs', hf'⟩ := hq; exact leave .returning .returning .nilIface e' h' n' σ' a' w' (by simp) rfl hrec.ret rfl hq hs' hf'
    | exit id => obtain ⟨e', h', n', σ', hq, hs', _⟩ := hq; exact hq.elim
    | goto l => obtain ⟨e', h', n', σ', hq, hs', _⟩ := hq; exact hq.elim
    | panic ch =>
      obtain ⟨v, rfl, e', h', n', σ', ⟨hq1, hq⟩, hs', hf'⟩ := hq
      exact leave _ (.panicking [{ v := v, recovered := true }]) v e' h' n' σ' a' w' (by simp) rfl (hrec.pan v) hq1 hq hs' hf'
    | outgrown => obtain ⟨e', h', n', σ', hq, hs', _⟩ := hq; exact hq.elim
  | cd :: pre, e, h, n, σ, a, w, hv, hs, hf => by
    refine wp_seq (wp_mono (vc_out hfk hc hm cd e h n _ σ a w hv hs hf) ?_)
    intro x a' w' hq
    cases x with
    | normal =>
      obtain ⟨e', h', n', σ', hq, hs', hf'⟩ := hq
      exact wp_defer hops h1 h1d h1g h2 h2d h2g ht hg hgn hb hres hm hn2 hlen hrec hc hdf hfk hfin pre e' h' n' σ' a' w' hq hs' hf'
    | ret =>
      obtain ⟨e', h', n', σ', hq, hs', hf'⟩ := hq
      obtain ⟨vs, us, g1, g2, g3⟩ := results_run hs' hq
      show Leaves P fn a'.tmps R a'.defers .returning w'
      rw [hs'.defers, hdf]
      exact ⟨_, g2, hfin σ' h' w' vs us g1 hs'.toSW g3⟩
    | exit id => obtain ⟨e', h', n', σ', hq, hs', _⟩ := hq; exact hq.elim
    | goto l => obtain ⟨e', h', n', σ', hq, hs', _⟩ := hq; exact hq.elim
    | panic ch => obtain ⟨v, _, e', h', n', σ', hq, _⟩ := hq; exact hq.elim
    | outgrown => obtain ⟨e', h', n', σ', hq, hs', _⟩ := hq; exact hq.elim

/-- a function that recovers, with keys -/
theorem callS_defer {f g : FuncId} {fn G : Func} {t t1 t2 id id1 : Nat} {ops ops1 : Array Oper} {o1 o2 : Oper} {caps : List Operand} {pre : List Code} {rest post : Code} {args : List PV} {res : PV} {rd rf out : Rf}
    (hf : P.funcs[f]? = some fn) (hn : (fn.name == "runtime.NumGoroutine") = false) (hbody : fn.body = some (seqs pre (.seq (.region id1 ops1 false) post)))
    (hops : ops1.toList = [o1, o2]) (h1 : o1.op = .makeFunc (.func g) #[] caps.toArray) (h1d : o1.dst = some t) (h1g : o1.guard = none) (h2 : o2.op = .defer { callee := .value (.tmp t), args := #[], argTypes := #[] }) (h2d : o2.dst = none) (h2g : o2.guard = none) (ht : Nat.blt t fn.ntmps = true)
    (hg : P.funcs[g]? = some G) (hgn : (G.name == "runtime.NumGoroutine") = false) (hb : G.body = some (.seq (.region id ops false) rest)) (hres : G.results = #[]) (hm : P.follows .mixedOrders = true) (hn2 : Nat.blt t1 G.ntmps = true ∧ Nat.blt t2 G.ntmps = true) (hlen : Nat.ble caps.length G.ntmps = true)
    (hrec : Recovers P ops t1 t2) (ha : Nat.ble args.length fn.ntmps = true) (fk : List Nat) (hfk : fk = (rd ++ rf).map Prod.fst)
    (hv : vcPre P fn.ntmps fk (fun _ _ _ _ => False) pre (deferK P fn G g t t1 t2 caps rest post fun h vs => tupOf vs fun v => RetS fk h res (rd ++ out) v) (fun x e h _ => match x with | .ret => resP P h e fn.results.toList fun vs => tupOf vs fun v => RetS fk h res (rd ++ out) v | _ => False) (argsE args) (hpL (rd ++ rf)) fk) :
    CallS P f args rd rf res out := by
  refine ⟨⟨fn, hf, hn, by rw [hbody]; rfl⟩, fun c vs hc hdf hfr hs hargs => ?_⟩
  have hst := st_begin hs hargs (Nat.le_of_ble_eq_true ha) hdf
  have hfr' : ∀ k, k ∉ fk → c.σ0 k = none := fun k hk => hfr k (by rw [← hfk]; exact hk)
  have hfk' : ∀ k, c.σ0 k ≠ none → k ∈ fk := fun k hk => Classical.byContradiction fun h => hk (hfr' k h)
  refine calls_of_wp_defers hf hbody (wp_defer hops h1 h1d h1g h2 h2d h2g ht hg hgn hb hres hm hn2 hlen hrec hc hdf hfk' ?_ pre _ _ _ _ _ _ hv hst hfr')
  intro σ' h' w' ps us h1 hs' h3
  obtain ⟨v, h5, h6⟩ := tup_out h1 h3
  obtain ⟨g, n, q1, q2, q3, q4⟩ := h5
  obtain ⟨hk, hsw⟩ := sw_wk hfk' hs' q1 q2 q4
  exact ⟨_, _, rfl, hsw, prep_wk hk _ _ _ q3 h6⟩
end
end Go.Proofs.Ytcecopdkaalfkaa.Pm
