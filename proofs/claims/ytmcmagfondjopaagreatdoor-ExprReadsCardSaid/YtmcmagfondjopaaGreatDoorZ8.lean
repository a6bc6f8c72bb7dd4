/- Parts of the proof, one behind the other: PmDefer PmNil2 PmDefer2 PnForm PnParse PnThm5 PxSplit PxSame PxSplit2 PxSplit3 PnDepth PkSame PxMk PnBegun PnLaws PnRd9. Conditions: none beyond what each theorem says. -/
import Derived.Recover
import Derived.Test.YtmcmagfondjopaaGreatDoorZ7
set_option linter.unusedVariables false
set_option linter.unusedSimpArgs false
namespace Go.Proofs.YtmcmagfondjopaaGreatDoor.Pm
section
open Go.RowKit
def seqs : List Code → Code → Code
  | [], t => t
  | c :: l, t => .seq c (seqs l t)
noncomputable def vcPre (P : Program) (nt : Nat) (fk : List Nat) (X : XT) : List Code → (Env → Hp → List Nat → Prop) → Cont → Env → Hp → List Nat → Prop
  | [], N, _, e, h, n => N e h n
  | c :: l, N, Q, e, h, n => vc P nt fk X c e h n (seqK (fun e h n => vcPre P nt fk X l N Q e h n) Q)
def cloK (P : Program) (G : Func) (t1 t2 : Nat) (rest : Code) (cap : List D) (r : PV) (h : Hp) (n : List Nat) (K : Hp → Prop) : Prop :=
  vc P G.ntmps n (fun _ _ _ _ => False) rest (upd (upd (argsE (pds cap)) t1 r) t2 r) h n fun x _ h _ => match x with
    | .normal => K h
    | .ret => K h
    | _ => False
def resC (P : Program) (h : Hp) (e : Env) : List ResultVar → (List PV → Prop) → Prop
  | [], K => K []
  | .cell t ty :: rs, K => match e t with
    | .d (.ptr k o) => loadP P h ty (.d (.ptr k o)) fun v _ => resC P h e rs fun vs => K (v :: vs)
    | _ => False
  | .tmp _ :: _, _ => False
def ptrs : List D → Bool
  | [] => true
  | .ptr _ _ :: l => ptrs l
  | _ => false
def deferP (P : Program) (fn G : Func) (t1 t2 : Nat) (rest post : Code) (cap : List D) (Fin : Hp → List PV → Prop) (e : Env) (h : Hp) (n : List Nat) : Prop :=
  vc P fn.ntmps n (fun v e h n => v.oneCell' = true ∧ cloK P G t1 t2 rest cap (.d (.c (.v v))) h n fun h2 => resC P h2 e fn.results.toList fun vs => Fin h2 vs) post e h n fun x e h n => match x with
    | .normal => cloK P G t1 t2 rest cap (.d (.c (.v .nilIface))) h n fun h2 => resC P h2 e fn.results.toList fun vs => Fin h2 vs
    | .ret => cloK P G t1 t2 rest cap (.d (.c (.v .nilIface))) h n fun h2 => resC P h2 e fn.results.toList fun vs => Fin h2 vs
    | _ => False
section
variable {P : Program}
theorem sw_df {c : Ctx} {σ : Sg} {h : Hp} {w : World} (hs : SW c σ h w) (d : List Deferred) (s : Sg) (hsg : ∀ k x, s k = some x → σ k = some x) : SW { c with df := d, σ0 := s } σ h w :=
  ⟨hs.os, hs.tape, hs.output, hs.size, hs.block, hs.hp, hs.inj, hs.kept, hs.shape, hsg⟩
theorem ctx_df {c : Ctx} (hc : c.Ok) (d : List Deferred) (s : Sg) : Ctx.Ok { c with df := d, σ0 := s } := ⟨hc.fz, hc.gl, hc.gb⟩
theorem ptrs_rep {σ σ' : Sg} {F F' : Fzn} {w w' : World} (hsg : ∀ k x, σ k = some x → σ' k = some x) : ∀ {l : List D} {us : List Value}, ptrs l = true → DsRep σ F w l us → DsRep σ' F' w' l us
  | [], _, _, hr => by rw [dsRep_nil_inv hr]; exact dsRep_nil
  | x :: xs, _, h, hr => by
    obtain ⟨u, vs, rfl, h1, h2⟩ := dsRep_inv hr
    unfold ptrs at h
    split at h
    · cases ‹_ :: _ = []›
    · rename_i k o l he
      cases he
      refine dsRep_cons ?_ (ptrs_rep hsg h h2)
      unfold DRep at h1 ⊢
      obtain ⟨g, m, q1, q2⟩ := h1
      exact ⟨g, m, hsg _ _ q1, q2⟩
    · cases h
theorem resC_out {c c' : Ctx} {nt : Nat} {σ σ' : Sg} {e : Env} {h h' : Hp} {a : Act} {w w' : World} (hs : St c nt σ e h a w) (hsg : ∀ k x, σ k = some x → σ' k = some x) (hs' : SW c' σ' h' w') : ∀ {rs : List ResultVar} {K : List PV → Prop}, resC P h' e rs K →
    ∃ vs us, K vs ∧ (rs.mapM (resF a.tmps)).run P w' = .ok us w' ∧ PsRep σ' (fz c' σ' h' w') w' vs us
  | [], K, hv => ⟨[], [], hv, by simp, by unfold PsRep; trivial⟩
  | .cell t ty :: rs, K, hv => by
    unfold resC at hv
    split at hv
    · rename_i k o he
      have h1 := hs.env t
      rw [he] at h1
      have h2 : PRep σ' (fz c' σ' h' w') w' (.d (.ptr k o)) (a.tmps.getD t undef) := by
        unfold PRep DRep at h1 ⊢
        obtain ⟨g, m, q1, q2⟩ := h1
        exact ⟨g, m, hsg _ _ q1, q2⟩
      obtain ⟨v, z, _, g1, g2, ⟨ad, g3⟩, g4⟩ := loadP_run hv hs' h2
      obtain ⟨vs, us, h3, h4, h5⟩ := resC_out hs hsg hs' g1
      refine ⟨v :: vs, z :: us, h3, ?_, by unfold PsRep; exact ⟨g4, h5⟩⟩
      rw [g3] at g2
      have g5 : (loadVar ty ad).run P w' = .ok z w' := by simpa [Instr.loadAt, Instr.sureAddr] using g2
      simp only [List.mapM_cons, resF, Sem.run_bind, Sem.run_pure, Result.andThen_ok, h4, g3, asAddr, g5]
    · exact hv.elim
  | .tmp t :: rs, K, hv => by unfold resC at hv; exact hv.elim
theorem clo_run {g : FuncId} {G : Func} {t1 t2 : Nat} {id : Nat} {ops : Array Oper} {rest : Code} {cap : List D} {r : Value} {u u' : FrameMode} {K : Hp → Prop} {c : Ctx} {σ : Sg} {h : Hp} {n : List Nat} {w : World} {us : List Value}
    (hg : P.funcs[g]? = some G) (hb : G.body = some (.seq (.region id ops false) rest)) (hres : G.results = #[]) (hm : P.follows .mixedOrders = true) (hn2 : Nat.blt t1 G.ntmps = true ∧ Nat.blt t2 G.ntmps = true) (hlen : us.length ≤ G.ntmps)
    (hreg : ∀ (a : Act) (c₀ : Frame) (cs : List Frame) (w : World) (Q : Exit → Act → List Frame → World → Prop), c₀.mode = u → t1 < a.tmps.size → Q .normal ((a.put (some t1) r).put (some t2) r) ({ c₀ with mode := u' } :: cs) w → wpOpsS P ops Q (List.range ops.size) a (c₀ :: cs) w)
    (hc : c.Ok) (hs : SW c σ h w) (hf : ∀ k, k ∉ n → σ k = none) (hcap : PsRep σ (fz c σ h w) w (pds cap) us) (hr : r.oneCell' = true)
    (hv : cloK P G t1 t2 rest cap (.d (.c (.v r))) h n K) :
    CallsD P g us.toArray u w fun e v w' => e = .returned (.tuple #[]) ∧ v = u' ∧ ∃ σ' h', K h' ∧ SW { c with df := [], σ0 := σ } σ' h' w' := by
  refine callsD_of_wpS hg hb fun c₀ cs hu => ?_
  obtain ⟨hb1, hb2⟩ := hn2
  have hsz : t1 < (us.toArray ++ Array.replicate (G.ntmps - us.toArray.size) undef).size := by
    have l1 : t1 < G.ntmps := by simpa using hb1
    simp; omega
  refine wpS_seq (wpS_region (hreg _ c₀ cs w _ hu hsz ?_))
  show Code.wpS P rest _ _ _ _
  have hst : St { c with df := [], σ0 := σ } G.ntmps σ (argsE (pds cap)) h { tmps := us.toArray ++ Array.replicate (G.ntmps - us.toArray.size) undef, defers := [] } w := by
    refine ⟨sw_df hs [] σ (fun _ _ h => h), fun t => ?_, rfl, by simp; omega⟩
    have q := psRep_get t hcap
    show PRep _ _ _ _ ((us.toArray ++ Array.replicate (G.ntmps - us.toArray.size) undef).getD t undef)
    rw [getD_args]; exact q
  have hpr : PRep σ (fz { c with df := [], σ0 := σ } σ h w) w (.d (.c (.v r))) r := by unfold PRep DRep CRep; exact ⟨rfl, hr⟩
  have l1 : t1 < G.ntmps := by simpa using hb1
  have l2 : t2 < G.ntmps := by simpa using hb2
  have h1 := st_put (d := some t1) (v := .d (.c (.v r))) (u := r) hst Evo.refl hst.toSW hpr (fun t' ht => by cases ht; exact l1)
  have h2 := st_put (d := some t2) (v := .d (.c (.v r))) (u := r) h1 Evo.refl h1.toSW hpr (fun t' ht => by cases ht; exact l2)
  refine wpS_of_wp (wp_mono (vc_out (fun k hk => Classical.byContradiction fun hn => hk (hf k hn)) (ctx_df hc [] σ) hm rest _ _ _ _ σ _ w hv h2 hf) ?_)
  intro x a' w' hq
  have fin : ∀ (e' : Env) (h' : Hp) (σ' : Sg), K h' → St { c with df := [], σ0 := σ } G.ntmps σ' e' h' a' w' → a'.defers = [] ∧ ∃ u'', ({ c₀ with mode := u' } : Frame) :: cs = { c₀ with mode := u'' } :: cs ∧ ∃ v, (results G a'.tmps).run P w' = .ok v w' ∧
      (Ending.returned v = .returned (.tuple #[]) ∧ u'' = u' ∧ ∃ σ' h', K h' ∧ SW { c with df := [], σ0 := σ } σ' h' w') := by
    intro e' h' σ' hk hs'
    refine ⟨hs'.defers, u', rfl, .tuple #[], ?_, rfl, rfl, σ', h', hk, hs'.toSW⟩
    unfold results
    simp [hres]
  cases x with
  | normal => obtain ⟨e', h', n', σ', hq, hs', _⟩ := hq; exact fin _ _ _ hq hs'
  | ret => obtain ⟨e', h', n', σ', hq, hs', _⟩ := hq; exact fin _ _ _ hq hs'
  | exit id => obtain ⟨e', h', n', σ', hq, hs', _⟩ := hq; exact hq.elim
  | goto l => obtain ⟨e', h', n', σ', hq, hs', _⟩ := hq; exact hq.elim
  | panic ch => obtain ⟨v, _, e', h', n', σ', hq, _⟩ := hq; exact hq.elim
  | outgrown => obtain ⟨e', h', n', σ', hq, hs', _⟩ := hq; exact hq.elim
def deferK (P : Program) (fn G : Func) (g : FuncId) (t t1 t2 : Nat) (caps : List Operand) (rest post : Code) (Fin : Hp → List PV → Prop) (e : Env) (h : Hp) (n : List Nat) : Prop :=
  mapE (ev e) caps fun ys => dsOf ys fun cap => Need (ptrs cap = true) (deferP P fn G t1 t2 rest post cap Fin (upd e t (.d (.clo g [] cap))) h n)
structure Recovers (P : Program) (ops : Array Oper) (t1 t2 : Nat) : Prop where
  ret : ∀ (a : Act) (c₀ : Frame) (cs : List Frame) (w : World) (Q : Exit → Act → List Frame → World → Prop), c₀.mode = .returning → t1 < a.tmps.size → Q .normal ((a.put (some t1) .nilIface).put (some t2) .nilIface) ({ c₀ with mode := .returning } :: cs) w → wpOpsS P ops Q (List.range ops.size) a (c₀ :: cs) w
  pan : ∀ (v : Value) (a : Act) (c₀ : Frame) (cs : List Frame) (w : World) (Q : Exit → Act → List Frame → World → Prop), c₀.mode = .panicking [{ v := v, recovered := false }] → t1 < a.tmps.size → Q .normal ((a.put (some t1) v).put (some t2) v) ({ c₀ with mode := .panicking [{ v := v, recovered := true }] } :: cs) w →
    wpOpsS P ops Q (List.range ops.size) a (c₀ :: cs) w
theorem wp_defer {g : FuncId} {fn G : Func} {t t1 t2 id id1 : Nat} {ops ops1 : Array Oper} {o1 o2 : Oper} {caps : List Operand} {rest post : Code} {Fin : Hp → List PV → Prop} {c : Ctx} {fk : List Nat} {R : Ending → World → Prop}
    (hops : ops1.toList = [o1, o2]) (h1 : o1.op = .makeFunc (.func g) #[] caps.toArray) (h1d : o1.dst = some t) (h1g : o1.guard = none) (h2 : o2.op = .defer { callee := .value (.tmp t), args := #[], argTypes := #[] }) (h2d : o2.dst = none) (h2g : o2.guard = none) (ht : Nat.blt t fn.ntmps = true)
    (hg : P.funcs[g]? = some G) (hgn : (G.name == "runtime.NumGoroutine") = false) (hb : G.body = some (.seq (.region id ops false) rest)) (hres : G.results = #[]) (hm : P.follows .mixedOrders = true) (hn2 : Nat.blt t1 G.ntmps = true ∧ Nat.blt t2 G.ntmps = true) (hlen : Nat.ble caps.length G.ntmps = true)
    (hrec : Recovers P ops t1 t2) (hc : c.Ok) (hdf : c.df = []) (hfk : ∀ k, c.σ0 k ≠ none → k ∈ fk)
    (hfin : ∀ σ h w vs us, Fin h vs → SW c σ h w → PsRep σ (fz c σ h w) w vs us → R (.returned (if hx : us.toArray.size = 1 then us.toArray[0] else .tuple us.toArray)) w) :
    ∀ (pre : List Code) (e : Env) (h : Hp) (n : List Nat) (σ : Sg) (a : Act) (w : World), vcPre P fn.ntmps fk (fun _ _ _ _ => False) pre (deferK P fn G g t t1 t2 caps rest post Fin) (fun x e h _ => match x with | .ret => resP P h e fn.results.toList fun vs => Fin h vs | _ => False) e h n →
      St c fn.ntmps σ e h a w → (∀ k, k ∉ n → σ k = none) → (seqs pre (.seq (.region id1 ops1 false) post)).wp P (bodyPostD P fn R) a w
  | [], e, h, n, σ, a, w, hv, hs, hf => by
    have hv : deferK P fn G g t t1 t2 caps rest post Fin e h n := hv
    unfold deferK at hv
    obtain ⟨ys, hv, hys⟩ := mapE_out hv
    obtain ⟨cap, ⟨hptr, hv⟩, hcap⟩ := dsOf_out hv
    have hcv : DsRep σ (fz c σ h w) w cap (caps.map a.eval) := hcap _ _ _ _ (hys σ (fz c σ h w) w a.eval fun x _ => rep_ev hs x)
    have htl : t < fn.ntmps := by simpa using ht
    have hclo : PRep σ (fz c σ h w) w (.d (.clo g [] cap)) (.func (.func g) #[] (caps.map a.eval).toArray) := by
      unfold PRep DRep
      exact ⟨[], caps.map a.eval, by simp, dsRep_nil, hcv⟩
    obtain ⟨d, hd⟩ : ∃ d : Deferred, d = { target := .fn (.func g) (caps.map a.eval).toArray, args := #[] } := ⟨_, rfl⟩
    have hs1 := st_put (d := some t) (v := .d (.clo g [] cap)) (u := .func (.func g) #[] (caps.map a.eval).toArray) hs Evo.refl hs.toSW hclo (fun t' ht' => by cases ht'; exact htl)
    have hev : (a.put (some t) (.func (.func g) #[] (caps.map a.eval).toArray)).eval (.tmp t) = .func (.func g) #[] (caps.map a.eval).toArray := by
      simp [Act.eval, Act.put, hs.nt, htl]
    have hs2 : St { c with df := [d], σ0 := σ } fn.ntmps σ (upd e t (.d (.clo g [] cap))) h { a.put (some t) (.func (.func g) #[] (caps.map a.eval).toArray) with defers := [d] } w := by
      refine ⟨sw_df hs.toSW [d] σ (fun _ _ h => h), hs1.env, rfl, hs1.nt⟩
    refine wp_seq (wp_region_list ?_)
    rw [hops]
    unfold wpList
    rw [if_pos (by unfold Region.wanted; rw [h1g])]
    refine .inl ?_
    unfold Oper.wp
    have e1 : (execOp a.eval o1).run P w = .ok (.value (.func (.func g) #[] (caps.map a.eval).toArray)) w := by simp [execOp, h1, Instr.makeFunc]
    rw [e1]
    show wpList P ops1 _ [o2] (a.put o1.dst _) w
    rw [h1d]
    unfold wpList
    rw [if_pos (by unfold Region.wanted; rw [h2g])]
    refine .inl ?_
    unfold Oper.wp
    have e2 : (execOp (a.put (some t) (.func (.func g) #[] (caps.map a.eval).toArray)).eval o2).run P w = .ok (.defer d) w := by
      simp [execOp, h2, resolve, hev, Deferred.ofValue, hd]
    rw [e2]
    have hdz : (a.put (some t) (.func (.func g) #[] (caps.map a.eval).toArray)).defers = [] := by rw [show (a.put (some t) (.func (.func g) #[] (caps.map a.eval).toArray)).defers = a.defers from rfl, hs.defers, hdf]
    have up : ∀ (A : Act), A.defers = [] → ∀ (N : Act → World → Prop) (Q : Exit → Act → World → Prop), N ({ tmps := A.tmps, defers := [d] } : Act) w → Oper.upon P o2 A N Q (.ok (.defer d) w) := by
      intro A hA N Q hN
      simp only [Oper.upon, h2d, Act.put, hA]
      exact hN
    refine up _ hdz _ _ ?_
    unfold wpList
    show post.wp P _ { a.put (some t) (.func (.func g) #[] (caps.map a.eval).toArray) with defers := [d] } w
    refine wp_mono (vc_out (fun k hk => Classical.byContradiction fun hn => hk (hf k hn)) (ctx_df hc [d] σ) hm post _ _ _ _ σ _ w hv hs2 hf) ?_
    have hinv : ∀ w : World, (invoke (.fn (.func g) (caps.map a.eval).toArray) #[]).run P w = .ok (.enter g (caps.map a.eval).toArray) w := fun w => by
      have p2' : ¬ G.name = "runtime.NumGoroutine" := by simpa using hgn
      simp [invoke, callFunc, hg, p2', hb]
    have hlen' : (caps.map a.eval).length ≤ G.ntmps := by rw [List.length_map]; exact Nat.le_of_ble_eq_true hlen
    have leave : ∀ (u u' : FrameMode) (r : Value) (e' : Env) (h' : Hp) (n' : List Nat) (σ' : Sg) (a' : Act) (w' : World), u ≠ .run → settle u' = .returning →
        (∀ (a : Act) (c₀ : Frame) (cs : List Frame) (w : World) (Q : Exit → Act → List Frame → World → Prop), c₀.mode = u → t1 < a.tmps.size → Q .normal ((a.put (some t1) r).put (some t2) r) ({ c₀ with mode := u' } :: cs) w → wpOpsS P ops Q (List.range ops.size) a (c₀ :: cs) w) →
        r.oneCell' = true → cloK P G t1 t2 rest cap (.d (.c (.v r))) h' n' (fun h2 => resC P h2 e' fn.results.toList fun vs => Fin h2 vs) → St { c with df := [d], σ0 := σ } fn.ntmps σ' e' h' a' w' → (∀ k, k ∉ n' → σ' k = none) → Leaves P fn a'.tmps R a'.defers u w' := by
      intro u u' r e' h' n' σ' a' w' hu hset hreg hr1 hclo hs' hf'
      rw [show a'.defers = [d] from hs'.defers, hd]
      refine leaves_cons hu (hinv w') ?_
      have hc2 : PsRep σ' (fz { c with df := [d], σ0 := σ } σ' h' w') w' (pds cap) (caps.map a.eval) := psRep_pds (ptrs_rep (fun k x hk => hs'.sg0 k x hk) hptr hcv)
      refine (clo_run hg hb hres hm hn2 hlen' hreg (ctx_df hc [d] σ) hs'.toSW hf' hc2 hr1 hclo).mono ?_
      rintro en v w'' ⟨rfl, hvu, σ'', h'', hk, hs''⟩
      show Leaves P fn a'.tmps R [] (settle v) w''
      rw [hvu, hset]
      have hback : SW c σ'' h'' w'' := sw_df hs'' c.df c.σ0 (fun k x hk => hs''.sg0 k x (hs'.sg0 k x (hs.sg0 k x hk)))
      obtain ⟨vs, us, g1, g2, g3⟩ := resC_out hs' (fun k x hk => hs''.sg0 k x hk) hback hk
      refine ⟨_, ?_, hfin σ'' h'' w'' vs us g1 hback g3⟩
      have he : results fn a'.tmps = (do let vs ← fn.results.mapM (resF a'.tmps); pure (if h : vs.size = 1 then vs[0] else .tuple vs)) := by
        unfold results
        congr 1
      rw [he, Array.mapM_eq_mapM_toList]
      simp only [Sem.run_bind, map_eq_pure_bind, bind_assoc, pure_bind, g2, Result.andThen_ok, Sem.run_pure]
    intro x a' w' hq
    cases x with
    | normal => obtain ⟨e', h', n', σ', hq, hs', hf'⟩ := hq; exact leave .returning .returning .nilIface e' h' n' σ' a' w' (by simp) rfl hrec.ret rfl hq hs' hf'
    | ret => obtain ⟨e', h', n', σ', hq, hs', hf'⟩ := hq; exact leave .returning .returning .nilIface e' h' n' σ' a' w' (by simp) rfl hrec.ret rfl hq hs' hf'
    | exit id => obtain ⟨e', h', n', σ', hq, hs', _⟩ := hq; exact hq.elim
    | goto l => obtain ⟨e', h', n', σ', hq, hs', _⟩ := hq; exact hq.elim
    | panic ch =>
      obtain ⟨v, rfl, e', h', n', σ', ⟨hq1, hq⟩, hs', hf'⟩ := hq
      exact leave _ (.panicking [{ v := v, recovered := true }]) v e' h' n' σ' a' w' (by simp) rfl (hrec.pan v) hq1 hq hs' hf'
    | outgrown => obtain ⟨e', h', n', σ', hq, hs', _⟩ := hq; exact hq.elim
  | cd :: pre, e, h, n, σ, a, w, hv, hs, hf => by
    refine wp_seq (wp_mono (vc_out hfk hc hm cd e h n _ σ a w hv hs hf) ?_)
    intro x a' w' hq
    cases x with
    | normal =>
      obtain ⟨e', h', n', σ', hq, hs', hf'⟩ := hq
      exact wp_defer hops h1 h1d h1g h2 h2d h2g ht hg hgn hb hres hm hn2 hlen hrec hc hdf hfk hfin pre e' h' n' σ' a' w' hq hs' hf'
    | ret =>
      obtain ⟨e', h', n', σ', hq, hs', hf'⟩ := hq
      obtain ⟨vs, us, g1, g2, g3⟩ := results_run hs' hq
      show Leaves P fn a'.tmps R a'.defers .returning w'
      rw [hs'.defers, hdf]
      exact ⟨_, g2, hfin σ' h' w' vs us g1 hs'.toSW g3⟩
    | exit id => obtain ⟨e', h', n', σ', hq, hs', _⟩ := hq; exact hq.elim
    | goto l => obtain ⟨e', h', n', σ', hq, hs', _⟩ := hq; exact hq.elim
    | panic ch => obtain ⟨v, _, e', h', n', σ', hq, _⟩ := hq; exact hq.elim
    | outgrown => obtain ⟨e', h', n', σ', hq, hs', _⟩ := hq; exact hq.elim
theorem callS_defer {f g : FuncId} {fn G : Func} {t t1 t2 id id1 : Nat} {ops ops1 : Array Oper} {o1 o2 : Oper} {caps : List Operand} {pre : List Code} {rest post : Code} {args : List PV} {res : PV} {rd rf out : Rf}
    (hf : P.funcs[f]? = some fn) (hn : (fn.name == "runtime.NumGoroutine") = false) (hbody : fn.body = some (seqs pre (.seq (.region id1 ops1 false) post)))
    (hops : ops1.toList = [o1, o2]) (h1 : o1.op = .makeFunc (.func g) #[] caps.toArray) (h1d : o1.dst = some t) (h1g : o1.guard = none) (h2 : o2.op = .defer { callee := .value (.tmp t), args := #[], argTypes := #[] }) (h2d : o2.dst = none) (h2g : o2.guard = none) (ht : Nat.blt t fn.ntmps = true)
    (hg : P.funcs[g]? = some G) (hgn : (G.name == "runtime.NumGoroutine") = false) (hb : G.body = some (.seq (.region id ops false) rest)) (hres : G.results = #[]) (hm : P.follows .mixedOrders = true) (hn2 : Nat.blt t1 G.ntmps = true ∧ Nat.blt t2 G.ntmps = true) (hlen : Nat.ble caps.length G.ntmps = true)
    (hrec : Recovers P ops t1 t2) (ha : Nat.ble args.length fn.ntmps = true) (fk : List Nat) (hfk : fk = (rd ++ rf).map Prod.fst)
    (hv : vcPre P fn.ntmps fk (fun _ _ _ _ => False) pre (deferK P fn G g t t1 t2 caps rest post fun h vs => tupOf vs fun v => RetS fk h res (rd ++ out) v) (fun x e h _ => match x with | .ret => resP P h e fn.results.toList fun vs => tupOf vs fun v => RetS fk h res (rd ++ out) v | _ => False) (argsE args) (hpL (rd ++ rf)) fk) :
    CallS P f args rd rf res out := by
  refine ⟨⟨fn, hf, hn, by rw [hbody]; rfl⟩, fun c vs hc hdf hfr hs hargs => ?_⟩
  have hst := st_begin hs hargs (Nat.le_of_ble_eq_true ha) hdf
  have hfr' : ∀ k, k ∉ fk → c.σ0 k = none := fun k hk => hfr k (by rw [← hfk]; exact hk)
  have hfk' : ∀ k, c.σ0 k ≠ none → k ∈ fk := fun k hk => Classical.byContradiction fun h => hk (hfr' k h)
  refine calls_of_wp_defers hf hbody (wp_defer hops h1 h1d h1g h2 h2d h2g ht hg hgn hb hres hm hn2 hlen hrec hc hdf hfk' ?_ pre _ _ _ _ _ _ hv hst hfr')
  intro σ' h' w' ps us h1 hs' h3
  obtain ⟨v, h5, h6⟩ := tup_out h1 h3
  obtain ⟨g, n, q1, q2, q3, q4⟩ := h5
  obtain ⟨hk, hsw⟩ := sw_wk hfk' hs' q1 q2 q4
  exact ⟨_, _, rfl, hsw, prep_wk hk _ _ _ q3 h6⟩
end
end
section
open Go.RowKit
theorem CallS.nil_arr2 {P : Program} {f : FuncId} {args : List PV} {K K' T e sz : Nat} {x0 : D} {l : List D} {out : Rf} {res : PV} (hz : 0 < sz) (hne : K ≠ K')
    (h1 : CallS P f args [] [(K, .box T (x0 :: .arr K' e sz 0 0 :: l)), (K', .arr e sz [])] res out) :
    CallS P f args [] [(K, .box T (x0 :: nilSl :: l))] res out := by
  refine ⟨h1.1, fun c vs hc hdf hf hs ha => ?_⟩
  simp only [List.nil_append] at hs ha hf
  have hn : c.σ0 K' = none := hf K' (by simp only [List.map_cons, List.map_nil, List.mem_singleton]; exact fun x => hne x.symm)
  have hK : hpL [(K, HB.box T (x0 :: nilSl :: l))] K = some (.box T (x0 :: nilSl :: l)) := by unfold hpL; simp
  obtain ⟨g, n, cs, e1, e2, e3, e4⟩ := hs.hp K _ hK
  obtain ⟨σ', hσ'⟩ : ∃ σ', σ' = upd c.σ0 K' (some ((none : Option Nat), 0)) := ⟨_, rfl⟩
  have hsg : ∀ k x, c.σ0 k = some x → σ' k = some x := by
    intro k x hx
    rw [hσ', upd_ne]
    · exact hx
    · rintro rfl; rw [hn] at hx; cases hx
  have hsK : σ' K = c.σ0 K := by rw [hσ', upd_ne _ _ hne]
  have hsK' : σ' K' = some (none, 0) := by rw [hσ', upd_same]
  let c' : Ctx := { c with σ0 := σ' }
  have hc' : c'.Ok := ⟨hc.fz, hc.gl, hc.gb⟩
  obtain ⟨H, hH⟩ : ∃ H, H = hpL [(K, HB.box T (x0 :: .arr K' e sz 0 0 :: l)), (K', HB.arr e sz [])] := ⟨_, rfl⟩
  have hHK : H K = some (.box T (x0 :: .arr K' e sz 0 0 :: l)) := by rw [hH]; unfold hpL; simp
  have hHK' : H K' = some (.arr e sz []) := by
    rw [hH]
    have : Nat.beq K' K = false := by rw [Bool.eq_false_iff]; intro x; exact hne (Nat.eq_of_beq_eq_true x).symm
    unfold hpL
    rw [this, cond_false]
    unfold hpL; simp
  have hfz : ∀ S b o, Fz c c.σ0 (hpL [(K, HB.box T (x0 :: nilSl :: l))]) S b o ↔ Fz c' σ' H S b o := by
    intro S b o
    constructor
    · rintro (q | ⟨q1, q2, q3⟩)
      · exact .inl q
      · refine .inr ⟨q1, q2, fun k m hb hk hσ => ?_⟩
        rw [hH] at hk
        rcases hpL_two hk with ⟨rfl, rfl⟩ | ⟨rfl, rfl⟩
        · exact (q3 k m _ hK (by rw [← hsK]; exact hσ)).elim
        · rw [hsK'] at hσ; cases hσ
    · rintro (q | ⟨q1, q2, q3⟩)
      · exact .inl q
      · refine .inr ⟨q1, q2, fun k m hb hk hσ => ?_⟩
        obtain ⟨rfl, rfl⟩ := hpL_one hk
        exact (q3 k m _ hHK (by rw [hsK]; exact hσ)).elim
  have hke : Keeps (fz c c.σ0 (hpL [(K, HB.box T (x0 :: nilSl :: l))]) c.w0) (fz c' σ' H c.w0) c.w0 c.w0 := ⟨fun b o q => (hfz _ b o).1 q, fun _ _ _ => rfl⟩
  have hev : Evo c.σ0 σ' (fz c c.σ0 (hpL [(K, HB.box T (x0 :: nilSl :: l))]) c.w0) (fz c' σ' H c.w0) c.w0 c.w0 := ⟨hsg, hke, Shape.refl _⟩
  have hbox : HbOk σ' (fz c' σ' H c.w0) c.w0 c'.own K (.box T (x0 :: .arr K' e sz 0 0 :: l)) := by
    refine ⟨g, n, cs, by rw [hsK]; exact e1, e2, e3, ?_⟩
    rw [show cs.toList = cs.toList from rfl] at e4 ⊢
    obtain ⟨u0, us0, ec0, e40, e41⟩ := dsRep_inv e4
    obtain ⟨u, us, ec1, e42, e5⟩ := dsRep_inv e41
    rw [ec0, ec1]
    refine dsRep_cons (DRep.evo hev _ _ e40) (dsRep_cons ?_ (DsRep.evo hev l us e5))
    unfold DRep CRep at e42
    unfold DRep
    exact ⟨hz, .inl ⟨0, hsK', rfl, none, e42.1⟩⟩
  have hsw : SW c' c'.σ0 H c'.w0 := by
    refine ⟨hs.os, hs.tape, hs.output, hs.size, hs.block, fun k hb hk => ?_, fun k k' g n n' q1 q2 q3 q4 => ?_, ⟨fun b o q => (hfz _ b o).1 (hs.kept.le b o q), hs.kept.cell⟩, hs.shape, fun k x q => q⟩
    · rw [hH] at hk
      rcases hpL_two hk with ⟨rfl, rfl⟩ | ⟨rfl, rfl⟩
      · exact hbox
      · refine ⟨hz, (fun r hr => absurd hr (List.not_mem_nil)), none, 0, hsK', rfl⟩
    · have one : ∀ k g n, H k ≠ none → σ' k = some (some g, n) → k = K := by
        intro k g n q r
        cases hx : H k with
        | none => exact absurd hx q
        | some x =>
          rw [hH] at hx
          rcases hpL_two hx with ⟨rfl, _⟩ | ⟨rfl, _⟩
          · rfl
          · rw [hsK'] at r; cases r
      rw [one k g n q1 q3, one k' g n' q2 q4]
  have hk' : ∀ k, k ∉ (([] : Rf) ++ [(K, HB.box T (x0 :: .arr K' e sz 0 0 :: l)), (K', HB.arr e sz [])]).map Prod.fst → c'.σ0 k = none := by
    intro k hk
    simp only [List.nil_append, List.map_cons, List.map_nil, List.mem_cons, List.not_mem_nil, or_false, not_or] at hk
    show σ' k = none
    rw [hσ', upd_ne _ _ hk.2]
    exact hf k (by simp only [List.map_cons, List.map_nil, List.mem_singleton]; exact hk.1)
  have := h1.2 c' vs hc' hdf hk' (by rw [List.nil_append, ← hH]; exact hsw) (by rw [List.nil_append, ← hH]; exact PsRep.evo hev _ _ ha)
  refine this.mono ?_
  rintro en w' ⟨v, τ, rfl, q1, q2⟩
  exact ⟨v, τ, rfl, ⟨q1.os, q1.tape, q1.output, q1.size, q1.block, q1.hp, q1.inj, q1.kept, q1.shape, fun k x q => q1.sg0 k x (hsg k x q)⟩, q2⟩
theorem CallX.nil_arr2 {P : Program} {f : FuncId} {args : List PV} {K K' T e sz : Nat} {x0 : D} {l : List D} {x : Value} (hz : 0 < sz) (hne : K ≠ K')
    (h1 : CallX P f args [(K, .box T (x0 :: .arr K' e sz 0 0 :: l)), (K', .arr e sz [])] x) :
    CallX P f args [(K, .box T (x0 :: nilSl :: l))] x := by
  refine ⟨h1.1, fun c vs hc hdf hf hs ha => ?_⟩
  have hn : c.σ0 K' = none := hf K' (by simp only [List.map_cons, List.map_nil, List.mem_singleton]; exact fun x => hne x.symm)
  have hK : hpL [(K, HB.box T (x0 :: nilSl :: l))] K = some (.box T (x0 :: nilSl :: l)) := by unfold hpL; simp
  obtain ⟨g, n, cs, e1, e2, e3, e4⟩ := hs.hp K _ hK
  obtain ⟨σ', hσ'⟩ : ∃ σ', σ' = upd c.σ0 K' (some ((none : Option Nat), 0)) := ⟨_, rfl⟩
  have hsg : ∀ k x, c.σ0 k = some x → σ' k = some x := by
    intro k x hx
    rw [hσ', upd_ne]
    · exact hx
    · rintro rfl; rw [hn] at hx; cases hx
  have hsK : σ' K = c.σ0 K := by rw [hσ', upd_ne _ _ hne]
  have hsK' : σ' K' = some (none, 0) := by rw [hσ', upd_same]
  let c' : Ctx := { c with σ0 := σ' }
  have hc' : c'.Ok := ⟨hc.fz, hc.gl, hc.gb⟩
  obtain ⟨H, hH⟩ : ∃ H, H = hpL [(K, HB.box T (x0 :: .arr K' e sz 0 0 :: l)), (K', HB.arr e sz [])] := ⟨_, rfl⟩
  have hHK : H K = some (.box T (x0 :: .arr K' e sz 0 0 :: l)) := by rw [hH]; unfold hpL; simp
  have hHK' : H K' = some (.arr e sz []) := by
    rw [hH]
    have : Nat.beq K' K = false := by rw [Bool.eq_false_iff]; intro x; exact hne (Nat.eq_of_beq_eq_true x).symm
    unfold hpL
    rw [this, cond_false]
    unfold hpL; simp
  have hfz : ∀ S b o, Fz c c.σ0 (hpL [(K, HB.box T (x0 :: nilSl :: l))]) S b o ↔ Fz c' σ' H S b o := by
    intro S b o
    constructor
    · rintro (q | ⟨q1, q2, q3⟩)
      · exact .inl q
      · refine .inr ⟨q1, q2, fun k m hb hk hσ => ?_⟩
        rw [hH] at hk
        rcases hpL_two hk with ⟨rfl, rfl⟩ | ⟨rfl, rfl⟩
        · exact (q3 k m _ hK (by rw [← hsK]; exact hσ)).elim
        · rw [hsK'] at hσ; cases hσ
    · rintro (q | ⟨q1, q2, q3⟩)
      · exact .inl q
      · refine .inr ⟨q1, q2, fun k m hb hk hσ => ?_⟩
        obtain ⟨rfl, rfl⟩ := hpL_one hk
        exact (q3 k m _ hHK (by rw [hsK]; exact hσ)).elim
  have hke : Keeps (fz c c.σ0 (hpL [(K, HB.box T (x0 :: nilSl :: l))]) c.w0) (fz c' σ' H c.w0) c.w0 c.w0 := ⟨fun b o q => (hfz _ b o).1 q, fun _ _ _ => rfl⟩
  have hev : Evo c.σ0 σ' (fz c c.σ0 (hpL [(K, HB.box T (x0 :: nilSl :: l))]) c.w0) (fz c' σ' H c.w0) c.w0 c.w0 := ⟨hsg, hke, Shape.refl _⟩
  have hbox : HbOk σ' (fz c' σ' H c.w0) c.w0 c'.own K (.box T (x0 :: .arr K' e sz 0 0 :: l)) := by
    refine ⟨g, n, cs, by rw [hsK]; exact e1, e2, e3, ?_⟩
    rw [show cs.toList = cs.toList from rfl] at e4 ⊢
    obtain ⟨u0, us0, ec0, e40, e41⟩ := dsRep_inv e4
    obtain ⟨u, us, ec1, e42, e5⟩ := dsRep_inv e41
    rw [ec0, ec1]
    refine dsRep_cons (DRep.evo hev _ _ e40) (dsRep_cons ?_ (DsRep.evo hev l us e5))
    unfold DRep CRep at e42
    unfold DRep
    exact ⟨hz, .inl ⟨0, hsK', rfl, none, e42.1⟩⟩
  have hsw : SW c' c'.σ0 H c'.w0 := by
    refine ⟨hs.os, hs.tape, hs.output, hs.size, hs.block, fun k hb hk => ?_, fun k k' g n n' q1 q2 q3 q4 => ?_, ⟨fun b o q => (hfz _ b o).1 (hs.kept.le b o q), hs.kept.cell⟩, hs.shape, fun k x q => q⟩
    · rw [hH] at hk
      rcases hpL_two hk with ⟨rfl, rfl⟩ | ⟨rfl, rfl⟩
      · exact hbox
      · refine ⟨hz, (fun r hr => absurd hr (List.not_mem_nil)), none, 0, hsK', rfl⟩
    · have one : ∀ k g n, H k ≠ none → σ' k = some (some g, n) → k = K := by
        intro k g n q r
        cases hx : H k with
        | none => exact absurd hx q
        | some x =>
          rw [hH] at hx
          rcases hpL_two hx with ⟨rfl, _⟩ | ⟨rfl, _⟩
          · rfl
          · rw [hsK'] at r; cases r
      rw [one k g n q1 q3, one k' g n' q2 q4]
  have hk' : ∀ k, k ∉ [(K, HB.box T (x0 :: .arr K' e sz 0 0 :: l)), (K', HB.arr e sz [])].map Prod.fst → c'.σ0 k = none := by
    intro k hk
    simp only [List.map_cons, List.map_nil, List.mem_cons, List.not_mem_nil, or_false, not_or] at hk
    show σ' k = none
    rw [hσ', upd_ne _ _ hk.2]
    exact hf k (by simp only [List.map_cons, List.map_nil, List.mem_singleton]; exact hk.1)
  have := h1.2 c' vs hc' hdf hk' (by rw [← hH]; exact hsw) (by rw [← hH]; exact PsRep.evo hev _ _ ha)
  refine this.mono ?_
  rintro en w' ⟨q0, τ, q1⟩
  exact ⟨q0, τ, q1.os, q1.tape, q1.output, q1.size, q1.block, q1.hp, q1.inj, q1.kept, q1.shape, fun k x q => q1.sg0 k x (hsg k x q)⟩
theorem recovers_one {P : Program} {ops : Array Oper} {t1 : Nat} {o1 : Oper} (hops : ops = #[o1]) (h1 : o1.op = .call { callee := .builtin .recover, args := #[], argTypes := #[] }) (h1d : o1.dst = some t1) (h1g : o1.guard = none) : Recovers P ops t1 t1 := by
  subst hops
  have hr : List.range (#[o1] : Array Oper).size = [0] := rfl
  have pp : ∀ (a : Act) (v : Value), (a.put (some t1) v).put (some t1) v = a.put (some t1) v := fun a v => by simp [Act.put]
  constructor
  · intro a c₀ cs w Q hm ht hq
    rw [hr]
    rw [pp] at hq
    have e1 : (execOp a.eval o1).run P w = .ok .recover w := by simp [execOp, h1, resolve, invoke]; rfl
    have ec : recoverD (c₀ :: cs) = none := by simp [recoverD, hm]
    have e3 : c₀ = { c₀ with mode := .returning } := by rw [← hm]
    simp only [wpOpsS, Region.wanted, h1g, e1, ec, h1d, List.getElem?_toArray, List.getElem?_cons_zero, List.getElem?_cons_succ, if_true, Oper.upon]
    rw [e3]; exact hq
  · intro v a c₀ cs w Q hm ht hq
    rw [hr]
    rw [pp] at hq
    have e1 : (execOp a.eval o1).run P w = .ok .recover w := by simp [execOp, h1, resolve, invoke]; rfl
    have ec : recoverD (c₀ :: cs) = some (v, { c₀ with mode := .panicking [{ v := v, recovered := true }] } :: cs) := by simp [recoverD, hm]
    simp only [wpOpsS, Region.wanted, h1g, e1, ec, h1d, List.getElem?_toArray, List.getElem?_cons_zero, List.getElem?_cons_succ, if_true, Oper.upon]
    exact hq
end
section
open Go.RowKit
def wkK (fk : List Nat) (K : Env → Hp → List Nat → Prop) (e : Env) (h : Hp) (n : List Nat) : Prop := ∃ le lh n', Wk fk e h le lh n' ∧ K (ofL le) (hpL lh) n'
section
variable {P : Program}
theorem wp_deferW {g : FuncId} {fn G : Func} {t t1 t2 id id1 : Nat} {ops ops1 : Array Oper} {o1 o2 : Oper} {caps : List Operand} {rest post : Code} {Fin : Hp → List PV → Prop} {c : Ctx} {fk : List Nat} {R : Ending → World → Prop}
    (hops : ops1.toList = [o1, o2]) (h1 : o1.op = .makeFunc (.func g) #[] caps.toArray) (h1d : o1.dst = some t) (h1g : o1.guard = none) (h2 : o2.op = .defer { callee := .value (.tmp t), args := #[], argTypes := #[] }) (h2d : o2.dst = none) (h2g : o2.guard = none) (ht : Nat.blt t fn.ntmps = true)
    (hg : P.funcs[g]? = some G) (hgn : (G.name == "runtime.NumGoroutine") = false) (hb : G.body = some (.seq (.region id ops false) rest)) (hres : G.results = #[]) (hm : P.follows .mixedOrders = true) (hn2 : Nat.blt t1 G.ntmps = true ∧ Nat.blt t2 G.ntmps = true) (hlen : Nat.ble caps.length G.ntmps = true)
    (hrec : Recovers P ops t1 t2) (hc : c.Ok) (hdf : c.df = []) (hfk : ∀ k, c.σ0 k ≠ none → k ∈ fk)
    (hfin : ∀ σ h w vs us, Fin h vs → SW c σ h w → PsRep σ (fz c σ h w) w vs us → R (.returned (if hx : us.toArray.size = 1 then us.toArray[0] else .tuple us.toArray)) w) :
    ∀ (pre : List Code) (e : Env) (h : Hp) (n : List Nat) (σ : Sg) (a : Act) (w : World), vcPre P fn.ntmps fk (fun _ _ _ _ => False) pre (wkK fk (deferK P fn G g t t1 t2 caps rest post Fin)) (fun x e h _ => match x with | .ret => resP P h e fn.results.toList fun vs => Fin h vs | _ => False) e h n →
      St c fn.ntmps σ e h a w → (∀ k, k ∉ n → σ k = none) → (seqs pre (.seq (.region id1 ops1 false) post)).wp P (bodyPostD P fn R) a w
  | [], e, h, n, σ, a, w, hv, hs, hf => by
    obtain ⟨le, lh, n', hw, hv⟩ := hv
    obtain ⟨σ', hs', hf'⟩ := st_wk hfk hs hw
    exact wp_defer hops h1 h1d h1g h2 h2d h2g ht hg hgn hb hres hm hn2 hlen hrec hc hdf hfk hfin [] _ _ _ σ' a w hv hs' hf'
  | cd :: pre, e, h, n, σ, a, w, hv, hs, hf => by
    refine wp_seq (wp_mono (vc_out hfk hc hm cd e h n _ σ a w hv hs hf) ?_)
    intro x a' w' hq
    cases x with
    | normal =>
      obtain ⟨e', h', n', σ', hq, hs', hf'⟩ := hq
      exact wp_deferW hops h1 h1d h1g h2 h2d h2g ht hg hgn hb hres hm hn2 hlen hrec hc hdf hfk hfin pre e' h' n' σ' a' w' hq hs' hf'
    | ret =>
      obtain ⟨e', h', n', σ', hq, hs', hf'⟩ := hq
      obtain ⟨vs, us, g1, g2, g3⟩ := results_run hs' hq
      show Leaves P fn a'.tmps R a'.defers .returning w'
      rw [hs'.defers, hdf]
      exact ⟨_, g2, hfin σ' h' w' vs us g1 hs'.toSW g3⟩
    | exit id => obtain ⟨e', h', n', σ', hq, hs', _⟩ := hq; exact hq.elim
    | goto l => obtain ⟨e', h', n', σ', hq, hs', _⟩ := hq; exact hq.elim
    | panic ch => obtain ⟨v, _, e', h', n', σ', hq, _⟩ := hq; exact hq.elim
    | outgrown => obtain ⟨e', h', n', σ', hq, hs', _⟩ := hq; exact hq.elim
theorem callS_deferW {f g : FuncId} {fn G : Func} {t t1 t2 id id1 : Nat} {ops ops1 : Array Oper} {o1 o2 : Oper} {caps : List Operand} {pre : List Code} {rest post : Code} {args : List PV} {res : PV} {rd rf out : Rf}
    (hf : P.funcs[f]? = some fn) (hn : (fn.name == "runtime.NumGoroutine") = false) (hbody : fn.body = some (seqs pre (.seq (.region id1 ops1 false) post)))
    (hops : ops1.toList = [o1, o2]) (h1 : o1.op = .makeFunc (.func g) #[] caps.toArray) (h1d : o1.dst = some t) (h1g : o1.guard = none) (h2 : o2.op = .defer { callee := .value (.tmp t), args := #[], argTypes := #[] }) (h2d : o2.dst = none) (h2g : o2.guard = none) (ht : Nat.blt t fn.ntmps = true)
    (hg : P.funcs[g]? = some G) (hgn : (G.name == "runtime.NumGoroutine") = false) (hb : G.body = some (.seq (.region id ops false) rest)) (hres : G.results = #[]) (hm : P.follows .mixedOrders = true) (hn2 : Nat.blt t1 G.ntmps = true ∧ Nat.blt t2 G.ntmps = true) (hlen : Nat.ble caps.length G.ntmps = true)
    (hrec : Recovers P ops t1 t2) (ha : Nat.ble args.length fn.ntmps = true) (fk : List Nat) (hfk : fk = (rd ++ rf).map Prod.fst)
    (hv : vcPre P fn.ntmps fk (fun _ _ _ _ => False) pre (wkK fk (deferK P fn G g t t1 t2 caps rest post fun h vs => tupOf vs fun v => RetS fk h res (rd ++ out) v)) (fun x e h _ => match x with | .ret => resP P h e fn.results.toList fun vs => tupOf vs fun v => RetS fk h res (rd ++ out) v | _ => False) (argsE args) (hpL (rd ++ rf)) fk) :
    CallS P f args rd rf res out := by
  refine ⟨⟨fn, hf, hn, by rw [hbody]; rfl⟩, fun c vs hc hdf hfr hs hargs => ?_⟩
  have hst := st_begin hs hargs (Nat.le_of_ble_eq_true ha) hdf
  have hfr' : ∀ k, k ∉ fk → c.σ0 k = none := fun k hk => hfr k (by rw [← hfk]; exact hk)
  have hfk' : ∀ k, c.σ0 k ≠ none → k ∈ fk := fun k hk => Classical.byContradiction fun h => hk (hfr' k h)
  refine calls_of_wp_defers hf hbody (wp_deferW hops h1 h1d h1g h2 h2d h2g ht hg hgn hb hres hm hn2 hlen hrec hc hdf hfk' ?_ pre _ _ _ _ _ _ hv hst hfr')
  intro σ' h' w' ps us h1 hs' h3
  obtain ⟨v, h5, h6⟩ := tup_out h1 h3
  obtain ⟨g, n, q1, q2, q3, q4⟩ := h5
  obtain ⟨hk, hsw⟩ := sw_wk hfk' hs' q1 q2 q4
  exact ⟨_, _, rfl, hsw, prep_wk hk _ _ _ q3 h6⟩
end
end
section
open Go.RowKit K
set_option maxRecDepth 100000
def formF (l : List TokenD) : Option (List NodeD) :=
  match pOr (l.length + 1) l with
  | some ([], ns) => some ns
  | _ => none
abbrev pBn (l : List TokenD) : HB := .box tParser [.c (.sl 4 (l.map TokenD.c)), nilSl]
theorem s_or0 {l r : List TokenD} {ns : List NodeD} (hl : l.length ≤ 1000) (ht : okT l) (h : pOr (l.length + 1) l = some (r, ns)) : CallS Tryz.prog 28 [.d (.ptr FK 0)] [] [(FK, pBn l)] (.tup []) (pb FK NK r ns) :=
  CallS.nil_arr2 (K' := FK1) (by decide) (by decide) ((w_pOr (l.length + 1) (by omega) l.length (by omega) l (Nat.le_refl _) ht [] (by rw [List.length_nil]; omega)).1 r ns h)
theorem x_or0 {l : List TokenD} (hl : l.length ≤ 1000) (ht : okT l) (h : pOr (l.length + 1) l = none) : CallX Tryz.prog 28 [.d (.ptr FK 0)] [(FK, pBn l)] wrongV :=
  CallX.nil_arr2 (K' := FK1) (by decide) (by decide) ((w_pOr (l.length + 1) (by omega) l.length (by omega) l (Nat.le_refl _) ht [] (by rw [List.length_nil]; omega)).2 h)
theorem s_form {l : List TokenD} {ns : List NodeD} (hl : l.length ≤ 1000) (ht : okT l) (h : formF l = some ns) : CallS Tryz.prog 9 [slV 4 TokenD.c l] [] [] (.tup [.d (.arr NK tNodeT 6 0 ns.length), pInt .i64 0]) [(NK, pAr ns)] := by
  have h : pOr (l.length + 1) l = some ([], ns) := by
    unfold formF at h
    split at h
    · rename_i e; cases h; exact e
    · cases h
  have c1 := s_or0 hl ht h
  refine callS_defer (caps := [.tmp 2, .tmp 3]) (pre := [_]) (t1 := 5) (t2 := 5) Tryz.func9 (by rfl) rfl rfl rfl rfl rfl rfl rfl rfl (by rfl) Tryz.func27 (by rfl) rfl rfl (by kernel_rfl) (by exact ⟨rfl, rfl⟩) (by rfl) ?hrec (by rfl) [] rfl ?_
  case hrec => exact recovers_one rfl rfl rfl rfl
  ((conv => whnf);repeat' ((first|(with_reducible first|apply a_|apply b_|apply c_)|((with_reducible first|apply d_|apply e_|apply f_|apply g_);focus first|omega|(simp only [q_]<;>omega))|((with_reducible first|apply i_|apply h_);focus first|omega|(simp only [q_]<;>omega))|((with_reducible apply h_);focus first|decide|kernel_rfl)|refine s_ (by decide) ?_|refine t_ (by decide) ?_|(refine CallP.ret [(FK, 8), (NK, 10)] _ _ _ _ _ _ _ c1 rfl rfl rfl rfl ⟨rfl, trivial⟩ ?_)|with_reducible first|apply l_|apply m_|apply n_|apply o_|refine p_ (fun _ => ?_) (fun _ => ?_))<;>(conv => whnf)))
  refine RetS.mk [(NK, 10)] [NK] rfl rfl ?_ ?_ <;> (repeat' (first | exact rfl | exact trivial | exact Or.inl rfl | refine And.intro ?_ ?_))
theorem s_form_no {l : List TokenD} (hl : l.length ≤ 1000) (ht : okT l) (h : formF l = none) : CallS Tryz.prog 9 [slV 4 TokenD.c l] [] [] (.tup [.d (.c (.v (.slice none 0 0))), pInt .i64 1]) [] := by
  refine callS_deferW (caps := [.tmp 2, .tmp 3]) (pre := [_]) (t1 := 5) (t2 := 5) Tryz.func9 (by rfl) rfl rfl rfl rfl rfl rfl rfl rfl (by rfl) Tryz.func27 (by rfl) rfl rfl (by kernel_rfl) (by exact ⟨rfl, rfl⟩) (by rfl) ?hrec (by rfl) [] rfl ?_
  case hrec => exact recovers_one rfl rfl rfl rfl
  ((conv => whnf);repeat' ((first|(with_reducible first|apply a_|apply b_|apply c_)|((with_reducible first|apply d_|apply e_|apply f_|apply g_);focus first|omega|(simp only [q_]<;>omega))|((with_reducible first|apply i_|apply h_);focus first|omega|(simp only [q_]<;>omega))|((with_reducible apply h_);focus first|decide|kernel_rfl)|refine s_ (by decide) ?_|refine t_ (by decide) ?_|with_reducible first|apply l_|apply m_|apply n_|apply o_|refine p_ (fun _ => ?_) (fun _ => ?_))<;>(conv => whnf)))
  refine ⟨[(0, slV 4 TokenD.c l), (2, .d (.ptr 102 0)), (3, .d (.ptr 103 0))], [(102, .box 23 [nilSl]), (103, .box 24 [.c (.v (.int .i64 0))])], [102, 103], ⟨[(102, 2), (103, 3)], rfl, rfl, ?_, ?_⟩, ?_⟩
  · (repeat' (first | exact rfl | exact trivial | exact Or.inl rfl | refine And.intro ?_ ?_))
  · (repeat' (first | exact rfl | exact trivial | exact Or.inl rfl | refine And.intro ?_ ?_))
  cases e1 : pOr (l.length + 1) l with
  | none =>
    ((conv => whnf);repeat' ((first|(with_reducible first|apply a_|apply b_|apply c_)|((with_reducible first|apply d_|apply e_|apply f_|apply g_);focus first|omega|(simp only [q_]<;>omega))|((with_reducible first|apply i_|apply h_);focus first|omega|(simp only [q_]<;>omega))|((with_reducible apply h_);focus first|decide|kernel_rfl)|refine s_ (by decide) ?_|refine t_ (by decide) ?_|with_reducible first|apply l_|apply m_|apply n_|apply o_|refine p_ (fun _ => ?_) (fun _ => ?_))<;>(conv => whnf)))
    refine CallP.pan [(FK, 8)] _ _ _ _ (x_or0 hl ht e1) rfl rfl rfl ⟨rfl, trivial⟩ ⟨rfl, ?_⟩
    ((conv => whnf);repeat' ((first|(with_reducible first|apply a_|apply b_|apply c_)|((with_reducible first|apply d_|apply e_|apply f_|apply g_);focus first|omega|(simp only [q_]<;>omega))|((with_reducible first|apply i_|apply h_);focus first|omega|(simp only [q_]<;>omega))|((with_reducible apply h_);focus first|decide|kernel_rfl)|refine s_ (by decide) ?_|refine t_ (by decide) ?_|with_reducible first|apply l_|apply m_|apply n_|apply o_|refine p_ (fun _ => ?_) (fun _ => ?_))<;>(conv => whnf)))
    refine RetS.mk [] [] rfl rfl ?_ ?_ <;> (repeat' (first | exact rfl | exact trivial | exact Or.inl rfl | refine And.intro ?_ ?_))
  | some x =>
    obtain ⟨r, ns⟩ := x
    have c1 := s_or0 hl ht e1
    obtain ⟨k1, a1, a2, a3, a4⟩ := fit_pOr _ l r ns e1
    have hrl : r.length ≤ l.length := by rw [a3, List.length_drop]; omega
    have hr : 0 < r.length := by
      cases r with
      | nil => unfold formF at h; rw [e1] at h; cases h
      | cons _ _ => simp
    ((conv => whnf);repeat' ((first|(with_reducible first|apply a_|apply b_|apply c_)|((with_reducible first|apply d_|apply e_|apply f_|apply g_);focus first|omega|(simp only [q_]<;>omega))|((with_reducible first|apply i_|apply h_);focus first|omega|(simp only [q_]<;>omega))|((with_reducible apply h_);focus first|decide|kernel_rfl)|refine s_ (by decide) ?_|refine t_ (by decide) ?_|(refine CallP.ret [(FK, 8), (NK, 10)] _ _ _ _ _ _ _ c1 rfl rfl rfl rfl ⟨rfl, trivial⟩ ?_)|with_reducible first|apply l_|apply m_|apply n_|apply o_|refine p_ (fun _ => ?_) (fun _ => ?_))<;>(conv => whnf)))
    refine ⟨rfl, ?_⟩
    ((conv => whnf);repeat' ((first|(with_reducible first|apply a_|apply b_|apply c_)|((with_reducible first|apply d_|apply e_|apply f_|apply g_);focus first|omega|(simp only [q_]<;>omega))|((with_reducible first|apply i_|apply h_);focus first|omega|(simp only [q_]<;>omega))|((with_reducible apply h_);focus first|decide|kernel_rfl)|refine s_ (by decide) ?_|refine t_ (by decide) ?_|with_reducible first|apply l_|apply m_|apply n_|apply o_|refine p_ (fun _ => ?_) (fun _ => ?_))<;>(conv => whnf)))
    refine RetS.mk [] [] rfl rfl ?_ ?_ <;> (repeat' (first | exact rfl | exact trivial | exact Or.inl rfl | refine And.intro ?_ ?_))
end
section
open Go.RowKit K
set_option maxRecDepth 100000
theorem form_iff (l : List TokenD) (ns : List NodeD) : formF l = some ns ↔ ∃ t, RD 1 l t ∧ ns = t.flat := by
  constructor
  · intro h
    unfold formF at h
    split at h
    · rename_i ns' e
      cases h
      obtain ⟨pre, t, e1, e2, e3⟩ := snd_pOr _ _ _ _ e
      rw [List.append_nil] at e1
      subst e1
      exact ⟨t, e2, e3⟩
    · cases h
  · rintro ⟨t, h, rfl⟩
    unfold formF
    rw [rd_pOr h]
theorem flats_all {P : NodeD → Prop} : ∀ {ts : List Ex}, (∀ t ∈ ts, ∀ n ∈ t.flat, P n) → ∀ n ∈ Ex.flats ts, P n
  | [], _, n, h => by rw [Ex.flats] at h; cases h
  | t :: ts, ht, n, h => by
    rw [Ex.flats, List.mem_append] at h
    rcases h with h | h
    · exact ht t List.mem_cons_self n h
    · exact flats_all (fun x hx => ht x (List.mem_cons_of_mem _ hx)) n h
theorem rd_names {k : Nat} {l : List TokenD} {t : Ex} (h : RD k l t) (hl : okT l) : ∀ n ∈ t.flat, okText n.Name := by
  have e0 : okText ([] : List UInt8) := by unfold okText; decide
  have sub : ∀ {a b : List TokenD}, okT b → (∀ x ∈ a, x ∈ b) → okT a := fun h hs t ht => h t (hs t ht)
  have node : ∀ {op kids : Int} {ts : List Ex}, (∀ t ∈ ts, ∀ n ∈ t.flat, okText n.Name) → ∀ n ∈ (Ex.mk (nOp op kids) ts).flat, okText n.Name := by
    intro op kids ts hts n hn
    rw [flat_mk, List.mem_append] at hn
    rcases hn with hn | hn
    · exact flats_all hts n hn
    · rw [List.mem_singleton] at hn; subst hn; exact e0
  induction h with
  | @lit t n h1 h2 =>
    intro m hm
    rw [Ex.flat, Ex.flats, List.nil_append, List.mem_singleton] at hm
    subst hm
    unfold litF at h2
    split at h2
    · cases h2; exact e0
    split at h2
    · cases h2; exact e0
    split at h2
    · cases h2; exact e0
    split at h2
    · cases h2; exact e0
    split at h2
    · cases h2; exact hl _ List.mem_cons_self
    · cases h2
  | par h1 h2 h ih => exact ih (sub hl fun x hx => by simp [hx])
  | up h1 h8 h ih => exact ih hl
  | neg h1 h ih => exact node fun t ht => by rw [List.mem_singleton] at ht; subst ht; exact ih (sub hl fun x hx => by simp [hx])
  | not h1 h ih => exact node fun t ht => by rw [List.mem_singleton] at ht; subst ht; exact ih (sub hl fun x hx => by simp [hx])
  | bin hk ho h1 ha hb iha ihb =>
    exact node fun t ht => by
      simp only [List.mem_cons, List.not_mem_nil, or_false] at ht
      rcases ht with rfl | rfl
      · exact iha (sub hl fun x hx => by simp [hx])
      · exact ihb (sub hl fun x hx => by simp [hx])
  | cmp ho h1 ha hb iha ihb =>
    exact node fun t ht => by
      simp only [List.mem_cons, List.not_mem_nil, or_false] at ht
      rcases ht with rfl | rfl
      · exact iha (sub hl fun x hx => by simp [hx])
      · exact ihb (sub hl fun x hx => by simp [hx])
  | isn h1 h2 ha iha => exact node fun t ht => by rw [List.mem_singleton] at ht; subst ht; exact iha (sub hl fun x hx => by simp [hx])
  | isnn h1 h2 h3 ha iha => exact node fun t ht => by rw [List.mem_singleton] at ht; subst ht; exact iha (sub hl fun x hx => by simp [hx])
  | like hq h1 ha hb iha ihb =>
    exact node fun t ht => by
      simp only [List.mem_cons, List.not_mem_nil, or_false] at ht
      rcases ht with rfl | rfl
      · exact iha (sub hl fun x hx => by simp [hx])
      · exact ihb (sub hl fun x hx => by simp [hx])
  | betw hq h1 h2 ha hb hc iha ihb ihc =>
    exact node fun t ht => by
      simp only [List.mem_cons, List.not_mem_nil, or_false] at ht
      rcases ht with rfl | rfl | rfl
      · exact iha (sub hl fun x hx => by simp [hx])
      · exact ihb (sub hl fun x hx => by simp [hx])
      · exact ihc (sub hl fun x hx => by simp [hx])
  | @isin k q o c l a p0 ps hq h1 h2 h3 h4 ha hp iha ihp =>
    exact node fun t ht => by
      rw [List.mem_cons] at ht
      rcases ht with rfl | ht
      · exact iha (sub hl fun x hx => by simp [hx])
      · rw [List.mem_map] at ht
        obtain ⟨p, hp1, rfl⟩ := ht
        refine ihp p hp1 (sub hl fun x hx => ?_)
        have : x ∈ pcsT (p0 :: ps) := by
          unfold pcsT
          rw [List.mem_flatMap]
          exact ⟨p, hp1, List.mem_cons_of_mem _ hx⟩
        simp [this]
def parseF (l : List TokenD) : List NodeD × Int :=
  if tAllE l ≠ 0 then ([], tAllE l) else
  match formF l with
  | none => ([], 1)
  | some e => if checkF e ≠ 0 then ([], checkF e) else (e, 0)
theorem p_Parse (l : List TokenD) (hl : l.length ≤ 140737488355328) (ht : okT l) : Pure Tryz.prog 4 [slV 4 TokenD.c l] (.tup [slV 6 NodeD.c (parseF l).1, pInt .i64 (parseF l).2]) := by
  have pa := p_tcheckall l hl ht
  refine pure_of Tryz.func4 (by rfl) rfl (by kernel_rfl) (by rfl) ?_
  unfold parseF
  by_cases ha : tAllE l = 0
  · rw [if_neg (not_not_intro ha)]
    rw [ha] at pa
    have h120 : l.length ≤ 120 := by
      unfold tAllE at ha
      split at ha
      · exact absurd ha (by decide)
      · omega
    cases hf : formF l with
    | none =>
      have cf := s_form_no (by omega) ht hf
      ((conv => whnf);repeat' ((first|(with_reducible first|apply a_|apply b_|apply c_)|((with_reducible first|apply d_|apply e_|apply f_|apply g_);focus first|omega|(simp only [q_]<;>omega))|((with_reducible first|apply i_|apply h_);focus first|omega|(simp only [q_]<;>omega))|((with_reducible apply h_);focus first|decide|kernel_rfl)|refine s_ (by decide) ?_|refine t_ (by decide) ?_|refine r_ pa rfl ?_|(refine CallP.ret [] _ _ _ _ _ _ _ cf rfl rfl rfl rfl trivial ?_)|with_reducible first|apply l_|apply m_|apply n_|apply o_|refine p_ (fun _ => ?_) (fun _ => ?_))<;>(conv => whnf)))
      exact Ret.le ⟨.inr ⟨⟨6, rfl⟩, .inl rfl⟩, .inl rfl, rfl⟩
    | some e =>
      obtain ⟨t, t1, t2⟩ := (form_iff l e).1 hf
      have cf := s_form (by omega) ht hf
      have hn : ∀ n ∈ e, okText n.Name := by rw [t2]; exact rd_names t1 ht
      have pk := p_echeck e hn
      have pk' := pk.lend (rd := [(FK, .arr 36 6 (e.map NodeD.c))]) (args := [.d (.arr FK 36 6 0 e.length)]) rfl (by
        refine ⟨by simp, ?_⟩
        show [PV.d (D.c (C.sl 6 (List.take _ (List.drop 0 _))))] = _
        rw [List.drop_zero, List.take_of_length_le (by simp)])
      dsimp only
      by_cases hc : checkF e = 0
      · rw [if_neg (not_not_intro hc)]
        rw [hc] at pk'
        ((conv => whnf);repeat' ((first|(with_reducible first|apply a_|apply b_|apply c_)|((with_reducible first|apply d_|apply e_|apply f_|apply g_);focus first|omega|(simp only [q_]<;>omega))|((with_reducible first|apply i_|apply h_);focus first|omega|(simp only [q_]<;>omega))|((with_reducible apply h_);focus first|decide|kernel_rfl)|refine s_ (by decide) ?_|refine t_ (by decide) ?_|refine r_ pa rfl ?_|(refine CallP.ret [(NK, 6)] _ _ _ _ _ _ _ cf rfl rfl rfl rfl trivial ?_)|(refine CallP.ret [(FK, 6)] _ _ _ _ _ _ _ pk' rfl rfl rfl rfl ⟨rfl, trivial⟩ ?_)|with_reducible first|apply l_|apply m_|apply n_|apply o_|refine p_ (fun _ => ?_) (fun _ => ?_))<;>(conv => whnf)))
        refine Ret.eq ?_
        show PV.tup [PV.d (D.c (C.sl 6 (List.take _ (List.drop 0 _)))), _] = _
        rw [List.drop_zero, List.take_of_length_le (by simp)]
      · rw [if_pos hc]
        ((conv => whnf);repeat' ((first|(with_reducible first|apply a_|apply b_|apply c_)|((with_reducible first|apply d_|apply e_|apply f_|apply g_);focus first|omega|(simp only [q_]<;>omega))|((with_reducible first|apply i_|apply h_);focus first|omega|(simp only [q_]<;>omega))|((with_reducible apply h_);focus first|decide|kernel_rfl)|refine s_ (by decide) ?_|refine t_ (by decide) ?_|refine r_ pa rfl ?_|(refine CallP.ret [(NK, 6)] _ _ _ _ _ _ _ cf rfl rfl rfl rfl trivial ?_)|(refine CallP.ret [(FK, 6)] _ _ _ _ _ _ _ pk' rfl rfl rfl rfl ⟨rfl, trivial⟩ ?_)|with_reducible first|apply l_|apply m_|apply n_|apply o_|refine p_ (fun _ => ?_) (fun _ => ?_))<;>(conv => whnf)))
        all_goals first | exact Ret.le ⟨.inr ⟨⟨6, rfl⟩, .inl rfl⟩, .inl rfl, rfl⟩ | (exfalso; omega)
  · rw [if_pos ha]
    ((conv => whnf);repeat' ((first|(with_reducible first|apply a_|apply b_|apply c_)|((with_reducible first|apply d_|apply e_|apply f_|apply g_);focus first|omega|(simp only [q_]<;>omega))|((with_reducible first|apply i_|apply h_);focus first|omega|(simp only [q_]<;>omega))|((with_reducible apply h_);focus first|decide|kernel_rfl)|refine s_ (by decide) ?_|refine t_ (by decide) ?_|refine r_ pa rfl ?_|with_reducible first|apply l_|apply m_|apply n_|apply o_|refine p_ (fun _ => ?_) (fun _ => ?_))<;>(conv => whnf)))
    all_goals first | exact Ret.le ⟨.inr ⟨⟨6, rfl⟩, .inl rfl⟩, .inl rfl, rfl⟩ | (exfalso; omega)
end
section
open Go.RowKit K
set_option maxRecDepth 100000
theorem goods_of : ∀ {l : List Ex}, (∀ t ∈ l, t.good) → Ex.goods l
  | [], _ => by rw [Ex.goods]; trivial
  | t :: l, h => by rw [Ex.goods]; exact ⟨h t List.mem_cons_self, goods_of fun x hx => h x (List.mem_cons_of_mem _ hx)⟩
theorem litF_kids {t : TokenD} {n : NodeD} (h : litF t = some n) : n.Kids = 0 := by
  unfold litF at h
  split at h
  · cases h; rfl
  split at h
  · cases h; rfl
  split at h
  · cases h; rfl
  split at h
  · cases h; rfl
  split at h
  · cases h; rfl
  · cases h
theorem rd_good {k : Nat} {l : List TokenD} {t : Ex} (h : RD k l t) : t.good := by
  have node : ∀ {n : NodeD} {ts : List Ex}, n.Kids = (ts.length : Int) → (∀ t ∈ ts, t.good) → (Ex.mk n ts).good := fun e h => by rw [Ex.good]; exact ⟨e, goods_of h⟩
  induction h with
  | lit h1 h2 => exact node (litF_kids h2) fun t ht => absurd ht List.not_mem_nil
  | par h1 h2 h ih => exact ih
  | up h1 h8 h ih => exact ih
  | neg h1 h ih => exact node rfl fun t ht => by rw [List.mem_singleton] at ht; subst ht; exact ih
  | not h1 h ih => exact node rfl fun t ht => by rw [List.mem_singleton] at ht; subst ht; exact ih
  | bin hk ho h1 ha hb iha ihb =>
    exact node rfl fun t ht => by
      simp only [List.mem_cons, List.not_mem_nil, or_false] at ht
      rcases ht with rfl | rfl <;> assumption
  | cmp ho h1 ha hb iha ihb =>
    exact node rfl fun t ht => by
      simp only [List.mem_cons, List.not_mem_nil, or_false] at ht
      rcases ht with rfl | rfl <;> assumption
  | isn h1 h2 ha iha => exact node rfl fun t ht => by rw [List.mem_singleton] at ht; subst ht; exact iha
  | isnn h1 h2 h3 ha iha => exact node rfl fun t ht => by rw [List.mem_singleton] at ht; subst ht; exact iha
  | like hq h1 ha hb iha ihb =>
    exact node rfl fun t ht => by
      simp only [List.mem_cons, List.not_mem_nil, or_false] at ht
      rcases ht with rfl | rfl <;> assumption
  | betw hq h1 h2 ha hb hc iha ihb ihc =>
    exact node rfl fun t ht => by
      simp only [List.mem_cons, List.not_mem_nil, or_false] at ht
      rcases ht with rfl | rfl | rfl <;> assumption
  | @isin k q o c l a p0 ps hq h1 h2 h3 h4 ha hp iha ihp =>
    refine node ?_ fun t ht => ?_
    · rw [List.length_cons, List.length_map, List.length_cons]
      show (ps.length : Int) + 2 = _
      omega
    · rw [List.mem_cons] at ht
      rcases ht with rfl | ht
      · exact iha
      · rw [List.mem_map] at ht
        obtain ⟨p, hp1, rfl⟩ := ht
        exact ihp p hp1
theorem tAllE_of {l : List TokenD} (hl : l.length ≤ 120) (h : okTs l) : tAllE l = 0 := by
  unfold tAllE
  rw [if_neg (by omega)]
  exact tChkAll_ok.2 h
theorem parse_of {l : List TokenD} {t : Ex} (h : RD 1 l t) (hl : l.length ≤ 120) (ho : okTs l) : parseF l = if checkF t.flat ≠ 0 then ([], checkF t.flat) else (t.flat, 0) := by
  unfold parseF
  rw [if_neg (not_not_intro (tAllE_of hl ho)), (form_iff l t.flat).2 ⟨t, h, rfl⟩]
theorem parse_right {l : List TokenD} {t : Ex} (h : RD 1 l t) (hl : l.length ≤ 120) (ho : okTs l) (hr : RightT t) : parseF l = (t.flat, 0) := by
  rw [parse_of h hl ho, check_right hr, if_neg (by decide)]
theorem parse_ok {l : List TokenD} (h : (parseF l).2 = 0) : ∃ t, RD 1 l t ∧ RightT t ∧ parseF l = (t.flat, 0) ∧ l.length ≤ 120 ∧ okTs l := by
  have h0 := h
  unfold parseF at h
  split at h
  · rename_i q; exact absurd h q
  · rename_i q
    have q := Decidable.of_not_not q
    have hs : l.length ≤ 120 ∧ okTs l := by
      unfold tAllE at q
      split at q
      · cases q
      · exact ⟨by omega, tChkAll_ok.1 q⟩
    split at h
    · cases h
    · rename_i e he
      split at h
      · rename_i g; exact absurd h g
      · rename_i g
        have g := Decidable.of_not_not g
        obtain ⟨t, h1, h2⟩ := (form_iff l e).1 he
        obtain ⟨u, h3, h4⟩ := right_of g
        have hu : u = t := flat_inj h3.good (rd_good h1) (by rw [h4, h2])
        subst hu
        exact ⟨u, h1, h3, parse_right h1 hs.1 hs.2 h3, hs.1, hs.2⟩
theorem parse_bad {l : List TokenD} (h : (parseF l).2 ≠ 0) : (parseF l).1 = [] := by
  unfold parseF at h ⊢
  split
  · rfl
  · rename_i q
    rw [if_neg q] at h
    split
    · rfl
    · rename_i e he
      rw [he] at h
      dsimp only at h
      split
      · rfl
      · rename_i g; rw [if_neg g] at h; exact absurd rfl h
end
section
open Go.RowKit K
set_option maxRecDepth 100000
theorem flat_le_flats : ∀ {l : List Ex} {t : Ex}, t ∈ l → t.flat.length ≤ (Ex.flats l).length
  | [], _, h => by cases h
  | x :: l, t, h => by
    rw [Ex.flats, List.length_append]
    rcases List.mem_cons.1 h with rfl | h
    · omega
    · have := flat_le_flats h; omega
theorem len_le_flats : ∀ (l : List Ex), l.length ≤ (Ex.flats l).length
  | [] => Nat.zero_le _
  | x :: l => by
    rw [Ex.flats, List.length_append, List.length_cons]
    have := x.flat_pos
    have := len_le_flats l
    omega
theorem flats_snoc {ks : List Ex} {i : Nat} (h : i < ks.length) : Ex.flats (ks.take (i + 1)) = Ex.flats (ks.take i) ++ ks[i].flat := by
  rw [take_snoc h, Ex.flats_append, Ex.flats_one]
theorem flats_part {ks : List Ex} {i : Nat} (h : i < ks.length) : Ex.flats ks = Ex.flats (ks.take i) ++ ks[i].flat ++ Ex.flats (ks.drop (i + 1)) := by
  rw [← flats_snoc h, ← Ex.flats_append, List.take_append_drop]
theorem root_at {n : NodeD} {ks : List Ex} {e pre post : List NodeD} (he : e = pre ++ (Ex.mk n ks).flat ++ post) : e = (pre ++ Ex.flats ks) ++ n :: post := by
  rw [he, Ex.flat]; simp
theorem root_get {n : NodeD} {a b e : List NodeD} (he : e = a ++ n :: b) : ∃ h : a.length < e.length, e[a.length] = n := by
  subst he
  exact ⟨by simp, by simp⟩
def ek (x : List NodeD) : List C := [.sl 6 (x.map NodeD.c)]
end
section
open Go.RowKit K
set_option maxRecDepth 100000
theorem p_samenodes (a b : List NodeD) (ha : a.length ≤ 140737488355328) : Pure Tryz.prog 7 [slV 6 NodeD.c a, slV 6 NodeD.c b] (pBool (listEqB NodeD.eqB a b)) := by
  refine pure_of Tryz.func7 (by rfl) rfl (by kernel_rfl) (by rfl) ?_
  by_cases hl : a.length = b.length
  · (((conv => whnf);repeat ((with_reducible first|refine BCase.tt ?_|refine BCase.ff ?_);(conv => whnf)));repeat ((first|with_reducible refine Wr.u8 ?_|((with_reducible first|refine Wr.ci ?wxs ?_|refine Wr.c3 ?wxs ?_|refine Wr.c6 ?wxs ?_|refine BCase.dt ?wxs ?_);case wxs => (first|omega|(simp only [lens, true_and, and_true];(try omega);done)))|((with_reducible refine BCase.df ?wxs ?_);case wxs => (first|omega|(simp only [lens, true_and, and_true];(try omega);done)))|((with_reducible refine Need.mk ?wxs ?_);case wxs => first|(first|omega|(simp only [lens, true_and, and_true];(try omega);done))|decide|kernel_rfl)|refine BCase.t (by decide) ?_|refine BCase.f (by decide) ?_|with_reducible (first|refine BCase.not ?_|refine BCase.and ?_|refine BCase.or ?_));((conv => whnf);repeat ((with_reducible first|refine BCase.tt ?_|refine BCase.ff ?_);(conv => whnf)))))
    refine LoopC.mk Nat (fun k => [(0, slV 6 NodeD.c a), (1, slV 6 NodeD.c b), (5, pInt .i64 k)]) (fun _ => []) [] (fun k => k ≤ a.length ∧ listEqB NodeD.eqB (a.take k) (b.take k) = true) (fun k => a.length - k) 0 ⟨Nat.zero_le _, by simp [listEqB]⟩ ?start ?round
    case start => exact ⟨[], rfl, rfl, ⟨.inl rfl, .inl rfl, .inl rfl, trivial⟩, trivial⟩
    case round =>
      rintro k ⟨hk, hz⟩
      by_cases h1 : k < a.length
      · have h2 : k < b.length := by omega
        cases hx : NodeD.eqB a[k] b[k] with
        | true =>
          ((conv => whnf);repeat' ((first|(with_reducible first|apply a_|apply b_|apply c_)|((with_reducible first|apply d_|apply e_|apply f_|apply g_);focus first|omega|(simp only [q_]<;>omega))|((with_reducible first|apply i_|apply h_);focus first|omega|(simp only [q_]<;>omega))|((with_reducible apply h_);focus first|decide|kernel_rfl)|refine s_ (by decide) ?_|refine t_ (by decide) ?_|(first|refine Idx.mapI (l := a) k rfl h1 ?_|refine Idx.mapI (l := b) k rfl h2 ?_)|with_reducible first|apply l_|apply m_|apply n_|apply o_|refine p_ (fun _ => ?_) (fun _ => ?_))<;>(conv => whnf)))
          all_goals first
            | exact ⟨k + 1, ⟨by omega, (listEqB_step hz h1 h2).trans hx⟩, by omega, [], rfl, rfl, ⟨.inl rfl, .inl rfl, PLe.int (by omega), trivial⟩, trivial⟩
            | (exfalso; have he := (NodeD.eqB_iff _ _).1 hx; rename_i z; exact z (by rw [he]))
        | false =>
          ((conv => whnf);repeat' ((first|(with_reducible first|apply a_|apply b_|apply c_)|((with_reducible first|apply d_|apply e_|apply f_|apply g_);focus first|omega|(simp only [q_]<;>omega))|((with_reducible first|apply i_|apply h_);focus first|omega|(simp only [q_]<;>omega))|((with_reducible apply h_);focus first|decide|kernel_rfl)|refine s_ (by decide) ?_|refine t_ (by decide) ?_|(first|refine Idx.mapI (l := a) k rfl h1 ?_|refine Idx.mapI (l := b) k rfl h2 ?_)|with_reducible first|apply l_|apply m_|apply n_|apply o_|refine p_ (fun _ => ?_) (fun _ => ?_))<;>(conv => whnf)))
          all_goals first
            | exact Ret.bool (listEqB_stop h1 h2 hx).symm
            | (exfalso; rename_i e1 e2 e3 e4 e5 e6; have he : NodeD.eqB a[k] b[k] = true := by simp [NodeD.eqB, e1, e2, e3, e4, e5, e6]
               rw [he] at hx; cases hx)
      · ((conv => whnf);repeat' ((first|(with_reducible first|apply a_|apply b_|apply c_)|((with_reducible first|apply d_|apply e_|apply f_|apply g_);focus first|omega|(simp only [q_]<;>omega))|((with_reducible first|apply i_|apply h_);focus first|omega|(simp only [q_]<;>omega))|((with_reducible apply h_);focus first|decide|kernel_rfl)|refine s_ (by decide) ?_|refine t_ (by decide) ?_|with_reducible first|apply l_|apply m_|apply n_|apply o_|refine p_ (fun _ => ?_) (fun _ => ?_))<;>(conv => whnf)))
        exact Ret.bool (listEqB_all hz (by omega) (by omega)).symm
  · ((conv => whnf);repeat' ((first|(with_reducible first|apply a_|apply b_|apply c_)|((with_reducible first|apply d_|apply e_|apply f_|apply g_);focus first|omega|(simp only [q_]<;>omega))|((with_reducible first|apply i_|apply h_);focus first|omega|(simp only [q_]<;>omega))|((with_reducible apply h_);focus first|decide|kernel_rfl)|refine s_ (by decide) ?_|refine t_ (by decide) ?_|with_reducible first|apply l_|apply m_|apply n_|apply o_|refine p_ (fun _ => ?_) (fun _ => ?_))<;>(conv => whnf)))
    exact Ret.bool (listEqB_len hl).symm
end
section
open Go.RowKit K
set_option maxRecDepth 100000
mutual
theorem kids_pos : ∀ (t : Ex), t.good → ∀ n ∈ t.flat, 0 ≤ n.Kids
  | .mk m ks, hg, n, hn => by
    rw [Ex.good] at hg
    rw [Ex.flat, List.mem_append] at hn
    rcases hn with hn | hn
    · exact kids_poss ks hg.2 n hn
    · rw [List.mem_singleton.1 hn, hg.1]; omega
theorem kids_poss : ∀ (l : List Ex), Ex.goods l → ∀ n ∈ Ex.flats l, 0 ≤ n.Kids
  | [], _, n, hn => by rw [Ex.flats] at hn; cases hn
  | t :: l, hg, n, hn => by
    rw [Ex.goods] at hg
    rw [Ex.flats, List.mem_append] at hn
    rcases hn with hn | hn
    · exact kids_pos t hg.1 n hn
    · exact kids_poss l hg.2 n hn
end
theorem bal_le : ∀ (l : List NodeD), (∀ n ∈ l, 0 ≤ n.Kids) → bal l ≤ l.length
  | [], _ => by simp [bal]
  | n :: l, h => by
    have h1 := h n (List.mem_cons_self ..)
    have h2 := bal_le l fun m hm => h m (List.mem_cons_of_mem _ hm)
    rw [bal, List.length_cons]; omega
theorem bal_step {l : List NodeD} {m : Nat} (h : m < l.length) : bal (l.take (m + 1)) = bal (l.take m) + 1 - l[m].Kids := by
  rw [take_snoc h, bal_app]
  simp only [bal]; omega
theorem bal_in {t : Ex} (ht : t.good) {m : Nat} (hm : m ≤ t.flat.length) : 0 ≤ bal (t.flat.take m) ∧ bal (t.flat.take m) ≤ m ∧ (0 < bal (t.flat.take m) ↔ 0 < m) := by
  have h1 := back_pos ht hm
  have h2 := bal_le (t.flat.take m) fun n hn => kids_pos t ht n (List.mem_of_mem_take hn)
  rw [List.length_take, Nat.min_eq_left hm] at h2
  refine ⟨?_, h2, h1⟩
  rcases Nat.eq_zero_or_pos m with rfl | h0
  · simp [bal]
  · have := h1.2 h0; omega
def nilR : List C := [.v (.slice none 0 0)]
def splR (ks : List Ex) (k : Nat) : List (List C) := List.replicate (ks.length - k) nilR ++ (ks.drop (ks.length - k)).map fun k => ek k.flat
theorem splR_step {ks : List Ex} {k : Nat} (h : k < ks.length) {r : List C} (hr : r = ek ks[ks.length - (k + 1)].flat) : (splR ks k).set (ks.length - (k + 1)) r = splR ks (k + 1) := by
  subst hr
  unfold splR
  rw [show ks.length - k = (ks.length - (k + 1)) + 1 by omega, List.replicate_succ', List.append_assoc, List.set_append_right _ _ (by simp), List.length_replicate, Nat.sub_self]
  conv => rhs; rw [List.drop_eq_getElem_cons (by omega : ks.length - (k + 1) < ks.length)]
  rfl
theorem splR_row {ks : List Ex} {k : Nat} (h : k < ks.length) : (splR ks k)[ks.length - (k + 1)]? = some nilR := by
  unfold splR
  rw [List.getElem?_append_left (by rw [List.length_replicate]; omega), List.getElem?_replicate, if_pos (by omega)]
end
section
open Go.RowKit K
set_option maxRecDepth 100000
theorem s_split (n : NodeD) (ks : List Ex) (hg : (Ex.mk n ks).good) (e : List NodeD) (he : (Ex.mk n ks).flat = e) (hl : e.length ≤ 1000) : CallS Tryz.prog 36 [slV 6 NodeD.c e] [] [] (.d (.arr NK 23 1 0 ks.length)) [(NK, .arr 23 1 (ks.map fun k => ek k.flat))] := by
  have hg0 := hg
  rw [Ex.good] at hg0
  obtain ⟨hk, hgs⟩ := hg0
  have hlen : e.length = (Ex.flats ks).length + 1 := by rw [← he, Ex.flat, List.length_append, List.length_singleton]
  have hml : (e.map NodeD.c).length = (Ex.flats ks).length + 1 := by rw [List.length_map, hlen]
  have he2 := root_at (n := n) (ks := ks) (e := e) (pre := []) (post := []) (by rw [he]; simp)
  obtain ⟨hr1, hr2⟩ := root_get he2
  have hpl : ([] ++ Ex.flats ks).length = (Ex.flats ks).length := rfl
  have hkb := len_le_flats ks
  have hsp : Ex.flats ks = Ex.flats (ks.take ks.length) := by rw [List.take_length]
  refine callS_of Tryz.func36 (by rfl) rfl (by kernel_rfl) (by rfl) [] rfl ?_
  ((conv => whnf);repeat' ((first|(with_reducible first|apply a_|apply b_|apply c_)|((with_reducible first|apply d_|apply e_|apply f_|apply g_);focus first|omega|(simp only [q_]<;>omega))|((with_reducible first|apply i_|apply h_);focus first|omega|(simp only [q_]<;>omega))|((with_reducible apply h_);focus first|decide|kernel_rfl)|refine s_ (by decide) ?_|refine t_ (by decide) ?_|(refine Idx.mapE ([] ++ Ex.flats ks).length (by omega) hr1 hr2 ?_)|with_reducible first|apply l_|apply m_|apply n_|apply o_|refine p_ (fun _ => ?_) (fun _ => ?_))<;>(conv => whnf)))
  refine Need.mk ⟨by omega, rfl, (by show (24 : Int) * _ ≤ _; omega), by omega⟩ ?_
  ((conv => whnf);repeat' ((first|(with_reducible first|apply a_|apply b_|apply c_)|((with_reducible first|apply d_|apply e_|apply f_|apply g_);focus first|omega|(simp only [q_]<;>omega))|((with_reducible first|apply i_|apply h_);focus first|omega|(simp only [q_]<;>omega))|((with_reducible apply h_);focus first|decide|kernel_rfl)|refine s_ (by decide) ?_|refine t_ (by decide) ?_|with_reducible first|apply l_|apply m_|apply n_|apply o_|refine p_ (fun _ => ?_) (fun _ => ?_))<;>(conv => whnf)))
  refine LoopC.mk Nat (fun k => [(4, slV 6 NodeD.c (Ex.flats (ks.take (ks.length - k)))), (5, .d (.arr 60 23 1 0 ks.length)), (6, pInt .i64 ((ks.length : Int) - 1 - k))]) (fun k => [(60, .arr 23 1 (splR ks k))]) [60] (fun k => k ≤ ks.length) (fun k => ks.length - k) 0 (Nat.zero_le _) ?start ?round
  case start =>
    refine ⟨[(60, 22)], rfl, rfl, ⟨?_, ⟨rfl, rfl, rfl, rfl, rfl, ?_⟩, PLe.int (by omega), trivial⟩, ⟨rfl, rfl, rfl, ?_⟩, trivial⟩
    · have e1 : ((e.map NodeD.c).drop 0).take ((((e.map NodeD.c).length : Int) - 1).toNat - 0) = (Ex.flats ks).map NodeD.c := by
        rw [List.drop_zero, hml, show ((((Ex.flats ks).length + 1 : Nat) : Int) - 1).toNat - 0 = (Ex.flats ks).length by omega, he2, List.nil_append, List.map_append, List.take_left' (by rw [List.length_map])]
      exact .inl (congrArg (C.sl 6) (e1.trans (by rw [Nat.sub_zero, ← hsp])))
    · omega
    · show List.replicate _ nilR = _
      unfold splR
      rw [Nat.sub_zero, List.drop_length, List.map_nil, List.append_nil, show n.Kids.toNat = ks.length by omega]
  case round =>
    intro k hk2
    have hk2 : k ≤ ks.length := hk2
    by_cases q : k < ks.length
    · have hi : ks.length - (k + 1) < ks.length := by omega
      have hm := List.getElem_mem hi
      have hkg := Ex.goods_mem hgs _ hm
      have hfl := flat_le_flats hm
      have hs := flats_snoc hi
      rw [show ks.length - (k + 1) + 1 = ks.length - k by omega] at hs
      have hsl : (Ex.flats (ks.take (ks.length - k))).length ≤ (Ex.flats ks).length := by
        have := flats_part hi
        rw [show ks.length - (k + 1) + 1 = ks.length - k by omega] at this
        rw [this, hs]; simp
      obtain ⟨pre, hpre⟩ : ∃ R, R = Ex.flats (ks.take (ks.length - (k + 1))) := ⟨_, rfl⟩
      obtain ⟨t, ht⟩ : ∃ t, t = ks[ks.length - (k + 1)] := ⟨_, rfl⟩
      rw [← ht] at hs hkg hfl
      rw [← hpre] at hs
      have hRl : (Ex.flats (ks.take (ks.length - k))).length = pre.length + t.flat.length := by rw [hs, List.length_append]
      ((conv => whnf);repeat' ((first|(with_reducible first|apply a_|apply b_|apply c_)|((with_reducible first|apply d_|apply e_|apply f_|apply g_);focus first|omega|(simp only [q_]<;>omega))|((with_reducible first|apply i_|apply h_);focus first|omega|(simp only [q_]<;>omega))|((with_reducible apply h_);focus first|decide|kernel_rfl)|refine s_ (by decide) ?_|refine t_ (by decide) ?_|with_reducible first|apply l_|apply m_|apply n_|apply o_|refine p_ (fun _ => ?_) (fun _ => ?_))<;>(conv => whnf)))
      refine LoopC.mk Nat (fun r => [(4, slV 6 NodeD.c (Ex.flats (ks.take (ks.length - k)))), (5, .d (.arr 60 23 1 0 ks.length)), (6, pInt .i64 ((ks.length : Int) - 1 - k)), (7, pInt .i64 ((pre.length + (t.flat.length - r) : Nat) : Int)), (8, pInt .i64 (bal (t.flat.take (t.flat.length - r))))]) (fun _ => [(60, .arr 23 1 (splR ks k))]) [60] (fun r => r ≤ t.flat.length) (fun r => t.flat.length - r) 0 (Nat.zero_le _) ?s2 ?r2
      case s2 => exact ⟨[(60, 60)], rfl, rfl, ⟨.inl rfl, ⟨rfl, rfl, rfl, rfl, rfl, rfl⟩, .inl rfl, PLe.int (by simp only [List.length_map]; omega), PLe.int (by rw [Nat.sub_zero, List.take_length, bal_flat t hkg]), trivial⟩, ⟨rfl, rfl, rfl, rfl⟩, trivial⟩
      case r2 =>
        intro r hr
        have hr : r ≤ t.flat.length := hr
        by_cases q2 : r < t.flat.length
        · have hb1 := bal_in hkg (m := t.flat.length - r) (by omega)
          have hb2 := bal_in hkg (m := t.flat.length - (r + 1)) (by omega)
          have hb3 := bal_step (l := t.flat) (m := t.flat.length - (r + 1)) (by omega)
          rw [show t.flat.length - (r + 1) + 1 = t.flat.length - r by omega] at hb3
          have hb4 := hb1.2.2.2 (by omega)
          have hlt : pre.length + (t.flat.length - (r + 1)) < (Ex.flats (ks.take (ks.length - k))).length := by omega
          have hget : (Ex.flats (ks.take (ks.length - k)))[pre.length + (t.flat.length - (r + 1))] = t.flat[t.flat.length - (r + 1)] := by
            have : (Ex.flats (ks.take (ks.length - k)))[pre.length + (t.flat.length - (r + 1))]? = some t.flat[t.flat.length - (r + 1)] := by
              rw [hs, List.getElem?_append_right (by omega), Nat.add_sub_cancel_left, List.getElem?_eq_getElem (by omega)]
            rw [List.getElem?_eq_getElem hlt] at this
            exact Option.some.inj this
          ((conv => whnf);repeat' ((first|(with_reducible first|apply a_|apply b_|apply c_)|((with_reducible first|apply d_|apply e_|apply f_|apply g_);focus first|omega|(simp only [q_]<;>omega))|((with_reducible first|apply i_|apply h_);focus first|omega|(simp only [q_]<;>omega))|((with_reducible apply h_);focus first|decide|kernel_rfl)|refine s_ (by decide) ?_|refine t_ (by decide) ?_|(refine Idx.mapE (pre.length + (t.flat.length - (r + 1))) (by omega) hlt hget ?_)|with_reducible first|apply l_|apply m_|apply n_|apply o_|refine p_ (fun _ => ?_) (fun _ => ?_))<;>(conv => whnf)))
          exact ⟨r + 1, by show r + 1 ≤ _; omega, by omega, [(60, 60)], rfl, rfl, ⟨.inl rfl, ⟨rfl, rfl, rfl, rfl, rfl, rfl⟩, .inl rfl, PLe.int (by omega), PLe.int (by omega), trivial⟩, ⟨rfl, rfl, rfl, rfl⟩, trivial⟩
        · have er : t.flat.length - r = 0 := by omega
          have hb0 : bal (t.flat.take (t.flat.length - r)) = 0 := by rw [er, List.take_zero]; rfl
          have lR : ∀ n, n = ks.length - (k + 1) → (splR ks k)[n]? = some nilR := by
            rintro n rfl; exact splR_row q
          have lS : ∀ n v, n = ks.length - (k + 1) → v = ek t.flat → (splR ks k).set n v = splR ks (k + 1) := by
            rintro n v rfl hv
            exact splR_step q (by rw [hv, ht])
          ((conv => whnf);repeat' ((first|(with_reducible first|apply a_|apply b_|apply c_)|((with_reducible first|apply d_|apply e_|apply f_|apply g_);focus first|omega|(simp only [q_]<;>omega))|((with_reducible first|apply i_|apply h_);focus first|omega|(simp only [q_]<;>omega))|((with_reducible apply h_);focus first|decide|kernel_rfl)|refine s_ (by decide) ?_|refine t_ (by decide) ?_|(refine Row.mk nilR (lR _ (by omega)) ?_)|with_reducible first|apply l_|apply m_|apply n_|apply o_|refine p_ (fun _ => ?_) (fun _ => ?_))<;>(conv => whnf)))
          refine ⟨k + 1, by show k + 1 ≤ _; omega, by omega, [(60, 60)], rfl, rfl, ⟨.inl ?_, ⟨rfl, rfl, rfl, rfl, rfl, rfl⟩, PLe.int (by omega), trivial⟩, ⟨rfl, rfl, rfl, ?_⟩, trivial⟩
          · have e1 : (((Ex.flats (ks.take (ks.length - k))).map NodeD.c).drop 0).take ((pre.length + (t.flat.length - r) : Nat) : Int).toNat = pre.map NodeD.c := by
              rw [List.drop_zero, er, hs, List.map_append, show ((pre.length + 0 : Nat) : Int).toNat = pre.length by omega, List.take_left' (by rw [List.length_map])]
            exact congrArg (C.sl 6) (e1.trans (by rw [hpre]))
          · apply lS
            · omega
            · have e2 : (((Ex.flats (ks.take (ks.length - k))).map NodeD.c).drop ((pre.length + (t.flat.length - r) : Nat) : Int).toNat).take ((((Ex.flats (ks.take (ks.length - k))).map NodeD.c).length : Int).toNat - ((pre.length + (t.flat.length - r) : Nat) : Int).toNat) = t.flat.map NodeD.c := by
                rw [er, hs, List.map_append, show ((pre.length + 0 : Nat) : Int).toNat = pre.length by omega, List.drop_left' (by rw [List.length_map])]
                exact List.take_of_length_le (by rw [List.length_append, List.length_map, List.length_map]; omega)
              exact congrArg (fun x => [C.sl 6 x]) e2
    · ((conv => whnf);repeat' ((first|(with_reducible first|apply a_|apply b_|apply c_)|((with_reducible first|apply d_|apply e_|apply f_|apply g_);focus first|omega|(simp only [q_]<;>omega))|((with_reducible first|apply i_|apply h_);focus first|omega|(simp only [q_]<;>omega))|((with_reducible apply h_);focus first|decide|kernel_rfl)|refine s_ (by decide) ?_|refine t_ (by decide) ?_|with_reducible first|apply l_|apply m_|apply n_|apply o_|refine p_ (fun _ => ?_) (fun _ => ?_))<;>(conv => whnf)))
      refine RetS.mk [(NK, 60)] [NK] rfl rfl ⟨rfl, rfl, rfl, rfl, rfl, rfl⟩ ⟨⟨rfl, rfl, rfl, ?_⟩, trivial⟩
      show splR ks k = _
      unfold splR
      rw [show ks.length - k = 0 by omega]; rfl
theorem p_clonen (l : List NodeD) (h : l.length ≤ 1000000) : Pure Tryz.prog 37 [slV 6 NodeD.c l] (slV 6 NodeD.c l) := by
  cases l with
  | nil =>
    refine pure_sl0 ?_ fun a cap => ?_
    · refine pure_of Tryz.func37 (by rfl) rfl (by kernel_rfl) (by rfl) ?_
      ((conv => whnf);repeat' ((first|(with_reducible first|apply a_|apply b_|apply c_)|((with_reducible first|apply d_|apply e_|apply f_|apply g_);focus first|omega|(simp only [q_]<;>omega))|((with_reducible first|apply i_|apply h_);focus first|omega|(simp only [q_]<;>omega))|((with_reducible apply h_);focus first|decide|kernel_rfl)|refine s_ (by decide) ?_|refine t_ (by decide) ?_|with_reducible first|apply l_|apply m_|apply n_|apply o_|refine p_ (fun _ => ?_) (fun _ => ?_))<;>(conv => whnf)))
      exact Ret.le (.inr ⟨⟨6, rfl⟩, .inl rfl⟩)
    · refine pure_of Tryz.func37 (by rfl) rfl (by kernel_rfl) (by rfl) ?_
      ((conv => whnf);repeat' ((first|(with_reducible first|apply a_|apply b_|apply c_)|((with_reducible first|apply d_|apply e_|apply f_|apply g_);focus first|omega|(simp only [q_]<;>omega))|((with_reducible first|apply i_|apply h_);focus first|omega|(simp only [q_]<;>omega))|((with_reducible apply h_);focus first|decide|kernel_rfl)|refine s_ (by decide) ?_|refine t_ (by decide) ?_|with_reducible first|apply l_|apply m_|apply n_|apply o_|refine p_ (fun _ => ?_) (fun _ => ?_))<;>(conv => whnf)))
      exact Ret.mk rfl
  | cons x l =>
    refine pure_of Tryz.func37 (by rfl) rfl (by kernel_rfl) (by rfl) ?_
    ((conv => whnf);repeat' ((first|(with_reducible first|apply a_|apply b_|apply c_)|((with_reducible first|apply d_|apply e_|apply f_|apply g_);focus first|omega|(simp only [q_]<;>omega))|((with_reducible first|apply i_|apply h_);focus first|omega|(simp only [q_]<;>omega))|((with_reducible apply h_);focus first|decide|kernel_rfl)|refine s_ (by decide) ?_|refine t_ (by decide) ?_|(refine Need.mk (List.cons_ne_nil _ _) ?_)|(refine Need.by 64 rfl (by simp only [List.length_map, List.length_nil, Nat.zero_add];omega) ?_)|with_reducible first|apply l_|apply m_|apply n_|apply o_|refine p_ (fun _ => ?_) (fun _ => ?_))<;>(conv => whnf)))
    exact Ret.mk rfl
theorem p_kids (n : NodeD) (ks : List Ex) (ht : RightT (.mk n ks)) (e : List NodeD) (he : (Ex.mk n ks).flat = e) (hn : ∀ n ∈ e, okText n.Name) : Pure Tryz.prog 24 [slV 6 NodeD.c e] (.tup [.d (.c (.sl 1 (ks.map fun k => ek k.flat))), pInt .i64 0]) := by
  have hl := ht.len
  have pc := p_echeck e hn
  rw [← he, check_right ht, he] at pc
  rw [he] at hl
  have ps := s_split n ks ht.good e he (by omega)
  have hlen : e.length = (Ex.flats ks).length + 1 := by rw [← he, Ex.flat, List.length_append, List.length_singleton]
  have hkb := len_le_flats ks
  refine pure_of Tryz.func24 (by rfl) rfl (by kernel_rfl) (by rfl) ?_
  obtain ⟨rows, hrows⟩ : ∃ rows, rows = ks.map fun k => ek k.flat := ⟨_, rfl⟩
  have hrl : rows.length = ks.length := by rw [hrows, List.length_map]
  rw [← hrows] at ps ⊢
  ((conv => whnf);repeat' ((first|(with_reducible first|apply a_|apply b_|apply c_)|((with_reducible first|apply d_|apply e_|apply f_|apply g_);focus first|omega|(simp only [q_]<;>omega))|((with_reducible first|apply i_|apply h_);focus first|omega|(simp only [q_]<;>omega))|((with_reducible apply h_);focus first|decide|kernel_rfl)|refine s_ (by decide) ?_|refine t_ (by decide) ?_|refine r_ pc rfl ?_|(refine CallP.ret [(NK, 14)] _ _ _ _ _ _ _ ps rfl rfl rfl rfl trivial ?_)|with_reducible first|apply l_|apply m_|apply n_|apply o_|refine p_ (fun _ => ?_) (fun _ => ?_))<;>(conv => whnf)))
  refine LoopC.mk Nat (fun j => [(5, .d (.arr 60 23 1 0 ks.length)), (15, .d (.arr 60 23 1 0 ks.length)), (16, pInt .i64 ks.length), (17, pInt .i64 j)]) (fun _ => [(60, .arr 23 1 rows)]) [60] (fun j => j ≤ ks.length) (fun j => ks.length - j) 0 (Nat.zero_le _) ?start ?round
  case start => exact ⟨[(60, 14)], rfl, rfl, ⟨⟨rfl, rfl, rfl, rfl, rfl, rfl⟩, ⟨rfl, rfl, rfl, rfl, rfl, rfl⟩, PLe.int (by simp), .inl rfl, trivial⟩, ⟨rfl, rfl, rfl, rfl⟩, trivial⟩
  case round =>
    intro j hj
    have hj : j ≤ ks.length := hj
    by_cases q : j < ks.length
    · have hm := List.getElem_mem q
      have hfl := flat_le_flats hm
      have pk := p_clonen ks[j].flat (by omega)
      have lR : ∀ m, m = j → rows[m]? = some (ek ks[j].flat) := by
        rintro m rfl
        rw [hrows, List.getElem?_map, List.getElem?_eq_getElem q]; rfl
      have lS : ∀ m v, m = j → v = ek ks[j].flat → rows.set m v = rows := by
        rintro m v rfl rfl
        refine List.ext_getElem? fun i => ?_
        by_cases h : m = i
        · subst h
          rw [List.getElem?_set_self (by omega), lR m rfl]
        · rw [List.getElem?_set_ne h]
      ((conv => whnf);repeat' ((first|(with_reducible first|apply a_|apply b_|apply c_)|((with_reducible first|apply d_|apply e_|apply f_|apply g_);focus first|omega|(simp only [q_]<;>omega))|((with_reducible first|apply i_|apply h_);focus first|omega|(simp only [q_]<;>omega))|((with_reducible apply h_);focus first|decide|kernel_rfl)|refine s_ (by decide) ?_|refine t_ (by decide) ?_|(refine Row.mk _ (lR _ (by omega)) ?_)|refine r_ pk rfl ?_|with_reducible first|apply l_|apply m_|apply n_|apply o_|refine p_ (fun _ => ?_) (fun _ => ?_))<;>(conv => whnf)))
      refine ⟨j + 1, by show j + 1 ≤ _; omega, by omega, [(60, 60)], rfl, rfl, ⟨⟨rfl, rfl, rfl, rfl, rfl, rfl⟩, ⟨rfl, rfl, rfl, rfl, rfl, rfl⟩, .inl rfl, PLe.int rfl, trivial⟩, ⟨rfl, rfl, rfl, ?_⟩, trivial⟩
      exact lS _ _ (by omega) rfl
    · ((conv => whnf);repeat' ((first|(with_reducible first|apply a_|apply b_|apply c_)|((with_reducible first|apply d_|apply e_|apply f_|apply g_);focus first|omega|(simp only [q_]<;>omega))|((with_reducible first|apply i_|apply h_);focus first|omega|(simp only [q_]<;>omega))|((with_reducible apply h_);focus first|decide|kernel_rfl)|refine s_ (by decide) ?_|refine t_ (by decide) ?_|with_reducible first|apply l_|apply m_|apply n_|apply o_|refine p_ (fun _ => ?_) (fun _ => ?_))<;>(conv => whnf)))
      refine Ret.eq ?_
      show PV.tup [PV.d (D.c (C.sl 1 (List.take _ (List.drop 0 _)))), _] = _
      rw [List.drop_zero, List.take_of_length_le (by omega)]
end
section
open Go.RowKit K
set_option maxRecDepth 100000
theorem chk_parts {e : List NodeD} (h : checkF e = 0) : e.length ≤ 60 ∧ chkO 0 e = 0 := by
  unfold checkF at h
  split at h
  · cases h
  · split at h
    · rename_i q; exact absurd h q
    · rename_i q; exact ⟨by omega, Decidable.of_not_not q⟩
def depthF (e : List NodeD) : Int := if checkF e ≠ 0 then 0 else (depthE e : Int)
theorem p_Depth (e : List NodeD) (hn : ∀ n ∈ e, okText n.Name) : Pure Tryz.prog 23 [slV 6 NodeD.c e] (.tup [pInt .i64 (depthF e), pInt .i64 (checkF e)]) := by
  have pc := p_echeck e hn
  refine pure_of Tryz.func23 (by rfl) rfl (by kernel_rfl) (by rfl) ?_
  unfold depthF
  by_cases hc : checkF e = 0
  · obtain ⟨h60, h0⟩ := chk_parts hc
    rw [hc] at pc
    have pw := p_walki e (by omega)
    rw [chk_ok h0] at pw
    have pw : Pure _ _ _ (.tup [pInt .i64 (depthE e), pInt .i64 0]) := pw
    rw [hc, if_neg (by decide)]
    ((conv => whnf);repeat' ((first|(with_reducible first|apply a_|apply b_|apply c_)|((with_reducible first|apply d_|apply e_|apply f_|apply g_);focus first|omega|(simp only [q_]<;>omega))|((with_reducible first|apply i_|apply h_);focus first|omega|(simp only [q_]<;>omega))|((with_reducible apply h_);focus first|decide|kernel_rfl)|refine s_ (by decide) ?_|refine t_ (by decide) ?_|refine r_ pc rfl ?_|refine r_ pw rfl ?_|with_reducible first|apply l_|apply m_|apply n_|apply o_|refine p_ (fun _ => ?_) (fun _ => ?_))<;>(conv => whnf)))
    all_goals first | exact Ret.eq rfl | (exfalso; omega)
  · rw [if_pos hc]
    ((conv => whnf);repeat' ((first|(with_reducible first|apply a_|apply b_|apply c_)|((with_reducible first|apply d_|apply e_|apply f_|apply g_);focus first|omega|(simp only [q_]<;>omega))|((with_reducible first|apply i_|apply h_);focus first|omega|(simp only [q_]<;>omega))|((with_reducible apply h_);focus first|decide|kernel_rfl)|refine s_ (by decide) ?_|refine t_ (by decide) ?_|refine r_ pc rfl ?_|with_reducible first|apply l_|apply m_|apply n_|apply o_|refine p_ (fun _ => ?_) (fun _ => ?_))<;>(conv => whnf)))
    all_goals first | exact Ret.eq rfl | (exfalso; omega)
end
section
open Go.RowKit K
set_option maxRecDepth 100000
def bare (t : TokenD) : Tk := (t.Kind, t.N, t.S)
instance : DecidableEq TokenD := fun x y => decidable_of_iff (TokenD.eqB x y = true) (TokenD.eqB_iff x y)
def sameB (a b : List TokenD) : Bool := decide (a.map bare = b.map bare)
theorem p_sametokens (a b : List TokenD) (ha : a.length ≤ 140737488355328) : Pure Tryz.prog 25 [slV 4 TokenD.c a, slV 4 TokenD.c b] (pBool (sameB a b)) := by
  refine pure_of Tryz.func25 (by rfl) rfl (by kernel_rfl) (by rfl) ?_
  unfold sameB
  by_cases hl : a.length = b.length
  · ((conv => whnf);repeat' ((first|(with_reducible first|apply a_|apply b_|apply c_)|((with_reducible first|apply d_|apply e_|apply f_|apply g_);focus first|omega|(simp only [q_]<;>omega))|((with_reducible first|apply i_|apply h_);focus first|omega|(simp only [q_]<;>omega))|((with_reducible apply h_);focus first|decide|kernel_rfl)|refine s_ (by decide) ?_|refine t_ (by decide) ?_|with_reducible first|apply l_|apply m_|apply n_|apply o_|refine p_ (fun _ => ?_) (fun _ => ?_))<;>(conv => whnf)))
    refine LoopC.mk Nat (fun j => [(0, slV 4 TokenD.c a), (1, slV 4 TokenD.c b), (5, pInt .i64 (j : Int))]) (fun j => []) [] (fun j => j ≤ a.length ∧ (a.take j).map bare = (b.take j).map bare) (fun j => a.length - j) 0 ⟨Nat.zero_le _, by simp⟩ ?start ?round
    case start => exact ⟨[], rfl, rfl, ⟨.inl rfl, .inl rfl, .inl rfl, trivial⟩, trivial⟩
    case round =>
      rintro j ⟨hj, he⟩
      have hj : j ≤ a.length := hj
      have he : (a.take j).map bare = (b.take j).map bare := he
      by_cases q : j < a.length
      · have q2 : j < b.length := by omega
        have ex : (tx a[j].S = tx b[j].S) ↔ a[j].S = b[j].S := tx_eq
        have iff : bare a[j] = bare b[j] ↔ a[j].Kind = b[j].Kind ∧ a[j].N = b[j].N ∧ a[j].S = b[j].S := by unfold bare; simp
        have bad : ¬ (a[j].Kind = b[j].Kind ∧ a[j].N = b[j].N ∧ a[j].S = b[j].S) → decide (a.map bare = b.map bare) = false := by
          intro hx
          refine decide_eq_false fun e => hx (iff.1 ?_)
          have h1 := congrArg (fun l => l[j]?) e
          simp only [List.getElem?_map, List.getElem?_eq_getElem q, List.getElem?_eq_getElem q2, Option.map_some] at h1
          exact Option.some.inj h1
        by_cases h1 : a[j].Kind = b[j].Kind
        · by_cases h2 : a[j].N = b[j].N
          · by_cases h3 : a[j].S = b[j].S
            · have h3' : ¬ ¬ tx a[j].S = tx b[j].S := not_not_intro (ex.2 h3)
              ((conv => whnf);repeat' ((first|(with_reducible first|apply a_|apply b_|apply c_)|((with_reducible first|apply d_|apply e_|apply f_|apply g_);focus first|omega|(simp only [q_]<;>omega))|((with_reducible first|apply i_|apply h_);focus first|omega|(simp only [q_]<;>omega))|((with_reducible apply h_);focus first|decide|kernel_rfl)|refine s_ (by decide) ?_|refine t_ (by decide) ?_|(first|refine Idx.mapI j rfl q ?_|refine Idx.mapI j rfl q2 ?_)|(refine BCase.df h3' ?_)|with_reducible first|apply l_|apply m_|apply n_|apply o_|refine p_ (fun _ => ?_) (fun _ => ?_))<;>(conv => whnf)))
              all_goals first
                | (exfalso; omega)
                | skip
              refine ⟨j + 1, ⟨by omega, ?_⟩, by omega, [], rfl, rfl, ⟨.inl rfl, .inl rfl, PLe.int (by omega), trivial⟩, trivial⟩
              show (a.take (j + 1)).map bare = (b.take (j + 1)).map bare
              rw [take_snoc q, take_snoc q2, List.map_append, List.map_append, he, List.map_singleton, List.map_singleton, iff.2 ⟨h1, h2, h3⟩]
            · have h3' : ¬ tx a[j].S = tx b[j].S := fun x => h3 (ex.1 x)
              rw [bad (fun x => h3 x.2.2)]
              ((conv => whnf);repeat' ((first|(with_reducible first|apply a_|apply b_|apply c_)|((with_reducible first|apply d_|apply e_|apply f_|apply g_);focus first|omega|(simp only [q_]<;>omega))|((with_reducible first|apply i_|apply h_);focus first|omega|(simp only [q_]<;>omega))|((with_reducible apply h_);focus first|decide|kernel_rfl)|refine s_ (by decide) ?_|refine t_ (by decide) ?_|(first|refine Idx.mapI j rfl q ?_|refine Idx.mapI j rfl q2 ?_)|(refine BCase.dt h3' ?_)|with_reducible first|apply l_|apply m_|apply n_|apply o_|refine p_ (fun _ => ?_) (fun _ => ?_))<;>(conv => whnf)))
              all_goals first | exact Ret.bool rfl | (exfalso; omega)
          · rw [bad (fun x => h2 x.2.1)]
            ((conv => whnf);repeat' ((first|(with_reducible first|apply a_|apply b_|apply c_)|((with_reducible first|apply d_|apply e_|apply f_|apply g_);focus first|omega|(simp only [q_]<;>omega))|((with_reducible first|apply i_|apply h_);focus first|omega|(simp only [q_]<;>omega))|((with_reducible apply h_);focus first|decide|kernel_rfl)|refine s_ (by decide) ?_|refine t_ (by decide) ?_|(first|refine Idx.mapI j rfl q ?_|refine Idx.mapI j rfl q2 ?_)|with_reducible first|apply l_|apply m_|apply n_|apply o_|refine p_ (fun _ => ?_) (fun _ => ?_))<;>(conv => whnf)))
            all_goals first | exact Ret.bool rfl | (exfalso; omega)
        · rw [bad (fun x => h1 x.1)]
          ((conv => whnf);repeat' ((first|(with_reducible first|apply a_|apply b_|apply c_)|((with_reducible first|apply d_|apply e_|apply f_|apply g_);focus first|omega|(simp only [q_]<;>omega))|((with_reducible first|apply i_|apply h_);focus first|omega|(simp only [q_]<;>omega))|((with_reducible apply h_);focus first|decide|kernel_rfl)|refine s_ (by decide) ?_|refine t_ (by decide) ?_|(first|refine Idx.mapI j rfl q ?_|refine Idx.mapI j rfl q2 ?_)|with_reducible first|apply l_|apply m_|apply n_|apply o_|refine p_ (fun _ => ?_) (fun _ => ?_))<;>(conv => whnf)))
          all_goals first | exact Ret.bool rfl | (exfalso; omega)
      · rw [List.take_of_length_le (by omega), List.take_of_length_le (by omega)] at he
        rw [decide_eq_true he]
        ((conv => whnf);repeat' ((first|(with_reducible first|apply a_|apply b_|apply c_)|((with_reducible first|apply d_|apply e_|apply f_|apply g_);focus first|omega|(simp only [q_]<;>omega))|((with_reducible first|apply i_|apply h_);focus first|omega|(simp only [q_]<;>omega))|((with_reducible apply h_);focus first|decide|kernel_rfl)|refine s_ (by decide) ?_|refine t_ (by decide) ?_|with_reducible first|apply l_|apply m_|apply n_|apply o_|refine p_ (fun _ => ?_) (fun _ => ?_))<;>(conv => whnf)))
        exact Ret.bool rfl
  · rw [decide_eq_false (fun e => hl (by have := congrArg List.length e; rwa [List.length_map, List.length_map] at this))]
    ((conv => whnf);repeat' ((first|(with_reducible first|apply a_|apply b_|apply c_)|((with_reducible first|apply d_|apply e_|apply f_|apply g_);focus first|omega|(simp only [q_]<;>omega))|((with_reducible first|apply i_|apply h_);focus first|omega|(simp only [q_]<;>omega))|((with_reducible apply h_);focus first|decide|kernel_rfl)|refine s_ (by decide) ?_|refine t_ (by decide) ?_|with_reducible first|apply l_|apply m_|apply n_|apply o_|refine p_ (fun _ => ?_) (fun _ => ?_))<;>(conv => whnf)))
    all_goals first | exact Ret.bool rfl | (exfalso; simp only [List.length_map] at *; omega)
end
section
open Go.RowKit K
set_option maxRecDepth 100000
def litN (v : ValueD) : NodeD := ⟨1, 0, v, []⟩
theorem p_nodes (l : List NodeD) : Pure Tryz.prog 13 [slV 6 NodeD.c l] (slV 6 NodeD.c l) := by
  refine pure_of Tryz.func13 (by rfl) rfl (by kernel_rfl) (by rfl) ?_
  ((conv => whnf);repeat' ((first|(with_reducible first|apply a_|apply b_|apply c_)|((with_reducible first|apply d_|apply e_|apply f_|apply g_);focus first|omega|(simp only [q_]<;>omega))|((with_reducible first|apply i_|apply h_);focus first|omega|(simp only [q_]<;>omega))|((with_reducible apply h_);focus first|decide|kernel_rfl)|refine s_ (by decide) ?_|refine t_ (by decide) ?_|with_reducible first|apply l_|apply m_|apply n_|apply o_|refine p_ (fun _ => ?_) (fun _ => ?_))<;>(conv => whnf)))
  exact Ret.eq rfl
def colN (s : List UInt8) : NodeD := ⟨2, 0, noV, s⟩
def opsN (op k : Int) : NodeD := ⟨op, k, noV, []⟩
theorem p_ncol (s : List UInt8) : Pure Tryz.prog 14 [pStr (tx s)] (nV (colN s)) := by
  refine pure_of Tryz.func14 (by rfl) rfl (by kernel_rfl) (by rfl) ?_
  ((conv => whnf);repeat' ((first|(with_reducible first|apply a_|apply b_|apply c_)|((with_reducible first|apply d_|apply e_|apply f_|apply g_);focus first|omega|(simp only [q_]<;>omega))|((with_reducible first|apply i_|apply h_);focus first|omega|(simp only [q_]<;>omega))|((with_reducible apply h_);focus first|decide|kernel_rfl)|refine s_ (by decide) ?_|refine t_ (by decide) ?_|with_reducible first|apply l_|apply m_|apply n_|apply o_|refine p_ (fun _ => ?_) (fun _ => ?_))<;>(conv => whnf)))
  exact Ret.eq rfl
theorem p_nlit (v : ValueD) : Pure Tryz.prog 15 [vV v] (nV (litN v)) := by
  refine pure_of Tryz.func15 (by rfl) rfl (by kernel_rfl) (by rfl) ?_
  ((conv => whnf);repeat' ((first|(with_reducible first|apply a_|apply b_|apply c_)|((with_reducible first|apply d_|apply e_|apply f_|apply g_);focus first|omega|(simp only [q_]<;>omega))|((with_reducible first|apply i_|apply h_);focus first|omega|(simp only [q_]<;>omega))|((with_reducible apply h_);focus first|decide|kernel_rfl)|refine s_ (by decide) ?_|refine t_ (by decide) ?_|with_reducible first|apply l_|apply m_|apply n_|apply o_|refine p_ (fun _ => ?_) (fun _ => ?_))<;>(conv => whnf)))
  exact Ret.eq rfl
theorem p_nop (op k : Int) : Pure Tryz.prog 17 [pInt .i64 op, pInt .i64 k] (nV (opsN op k)) := by
  refine pure_of Tryz.func17 (by rfl) rfl (by kernel_rfl) (by rfl) ?_
  ((conv => whnf);repeat' ((first|(with_reducible first|apply a_|apply b_|apply c_)|((with_reducible first|apply d_|apply e_|apply f_|apply g_);focus first|omega|(simp only [q_]<;>omega))|((with_reducible first|apply i_|apply h_);focus first|omega|(simp only [q_]<;>omega))|((with_reducible apply h_);focus first|decide|kernel_rfl)|refine s_ (by decide) ?_|refine t_ (by decide) ?_|with_reducible first|apply l_|apply m_|apply n_|apply o_|refine p_ (fun _ => ?_) (fun _ => ?_))<;>(conv => whnf)))
  exact Ret.eq rfl
theorem p_vI (n : Int) : Pure Tryz.prog 16 [pInt .i64 n] (vV ⟨1, n, []⟩) := by
  refine pure_of Tryz.func16 (by rfl) rfl (by kernel_rfl) (by rfl) ?_
  ((conv => whnf);repeat' ((first|(with_reducible first|apply a_|apply b_|apply c_)|((with_reducible first|apply d_|apply e_|apply f_|apply g_);focus first|omega|(simp only [q_]<;>omega))|((with_reducible first|apply i_|apply h_);focus first|omega|(simp only [q_]<;>omega))|((with_reducible apply h_);focus first|decide|kernel_rfl)|refine s_ (by decide) ?_|refine t_ (by decide) ?_|with_reducible first|apply l_|apply m_|apply n_|apply o_|refine p_ (fun _ => ?_) (fun _ => ?_))<;>(conv => whnf)))
  exact Ret.eq rfl
end
section
open Go.RowKit K
set_option maxRecDepth 100000
theorem listEq_refl (l : List NodeD) : listEqB NodeD.eqB l l = true := by
  induction l with
  | nil => rfl
  | cons x l ih =>
    have := (NodeD.eqB_iff x x).2 rfl
    first
      | (rw [listEqB, this, ih]; rfl)
      | (unfold listEqB at ih ⊢; simp [this] at ih ⊢; done)
theorem sameB_refl (l : List TokenD) : sameB l l = true := decide_eq_true rfl
def wT (s : List UInt8) : TokenD := ⟨1, 0, 0, s⟩
def sT (s : List UInt8) : TokenD := ⟨5, 0, 0, s⟩
def nT (n : Int) : TokenD := ⟨2, 0, n, []⟩
theorem p_tword (s : List UInt8) : Pure Tryz.prog 19 [pStr (tx s)] (tV (wT s)) := by
  refine pure_of Tryz.func19 (by rfl) rfl (by kernel_rfl) (by rfl) ?_
  ((conv => whnf);repeat' ((first|(with_reducible first|apply a_|apply b_|apply c_)|((with_reducible first|apply d_|apply e_|apply f_|apply g_);focus first|omega|(simp only [q_]<;>omega))|((with_reducible first|apply i_|apply h_);focus first|omega|(simp only [q_]<;>omega))|((with_reducible apply h_);focus first|decide|kernel_rfl)|refine s_ (by decide) ?_|refine t_ (by decide) ?_|with_reducible first|apply l_|apply m_|apply n_|apply o_|refine p_ (fun _ => ?_) (fun _ => ?_))<;>(conv => whnf)))
  exact Ret.eq rfl
theorem p_tsign (s : List UInt8) : Pure Tryz.prog 20 [pStr (tx s)] (tV (sT s)) := by
  refine pure_of Tryz.func20 (by rfl) rfl (by kernel_rfl) (by rfl) ?_
  ((conv => whnf);repeat' ((first|(with_reducible first|apply a_|apply b_|apply c_)|((with_reducible first|apply d_|apply e_|apply f_|apply g_);focus first|omega|(simp only [q_]<;>omega))|((with_reducible first|apply i_|apply h_);focus first|omega|(simp only [q_]<;>omega))|((with_reducible apply h_);focus first|decide|kernel_rfl)|refine s_ (by decide) ?_|refine t_ (by decide) ?_|with_reducible first|apply l_|apply m_|apply n_|apply o_|refine p_ (fun _ => ?_) (fun _ => ?_))<;>(conv => whnf)))
  exact Ret.eq rfl
theorem p_tnumber (n : Int) : Pure Tryz.prog 21 [pInt .i64 n] (tV (nT n)) := by
  refine pure_of Tryz.func21 (by rfl) rfl (by kernel_rfl) (by rfl) ?_
  ((conv => whnf);repeat' ((first|(with_reducible first|apply a_|apply b_|apply c_)|((with_reducible first|apply d_|apply e_|apply f_|apply g_);focus first|omega|(simp only [q_]<;>omega))|((with_reducible first|apply i_|apply h_);focus first|omega|(simp only [q_]<;>omega))|((with_reducible apply h_);focus first|decide|kernel_rfl)|refine s_ (by decide) ?_|refine t_ (by decide) ?_|with_reducible first|apply l_|apply m_|apply n_|apply o_|refine p_ (fun _ => ?_) (fun _ => ?_))<;>(conv => whnf)))
  exact Ret.eq rfl
theorem p_tokens (l : List TokenD) : Pure Tryz.prog 18 [slV 4 TokenD.c l] (slV 4 TokenD.c l) := by
  refine pure_of Tryz.func18 (by rfl) rfl (by kernel_rfl) (by rfl) ?_
  ((conv => whnf);repeat' ((first|(with_reducible first|apply a_|apply b_|apply c_)|((with_reducible first|apply d_|apply e_|apply f_|apply g_);focus first|omega|(simp only [q_]<;>omega))|((with_reducible first|apply i_|apply h_);focus first|omega|(simp only [q_]<;>omega))|((with_reducible apply h_);focus first|decide|kernel_rfl)|refine s_ (by decide) ?_|refine t_ (by decide) ?_|with_reducible first|apply l_|apply m_|apply n_|apply o_|refine p_ (fun _ => ?_) (fun _ => ?_))<;>(conv => whnf)))
  exact Ret.eq rfl
instance : DecidableEq NodeD := fun x y => decidable_of_iff (NodeD.eqB x y = true) (NodeD.eqB_iff x y)
def xE : List NodeD := [colN [97], litN ⟨1, 1, []⟩, colN [98], opsN 6 2, opsN 6 2]
def xK : List NodeD := [litN ⟨1, 1, []⟩, colN [98], opsN 6 2]
def xA : Ex := .mk (colN [97]) []
def xB : Ex := .mk (opsN 6 2) [.mk (litN ⟨1, 1, []⟩) [], .mk (colN [98]) []]
def xL : List TokenD := [wT [97], sT [45], sT [40], nT 1, sT [45], wT [98], sT [41]]
def xM : List TokenD := [nT 1, sT [45], wT [98]]
def xN : List TokenD := [wT [97], sT [45]]
theorem y1 : tokensF xE = (xL, 0) := by decide +kernel
theorem y2 : parseF xL = (xE, 0) := by decide +kernel
theorem y3 : parseF xM = (xK, 0) := by decide +kernel
theorem y4 : parseF xN = ([], 1) := by decide +kernel
theorem y5 : depthF xE = 3 ∧ checkF xE = 0 := by decide +kernel
theorem y6 : checkF (xE.take 4) = 1 := by decide +kernel
def xT : Ex := .mk (opsN 6 2) [xA, xB]
theorem xT_right : RightT xT := by
  obtain ⟨t, ht, hf⟩ := right_of y5.2
  have hg : xT.good := by unfold xT xA xB; simp [Ex.good, Ex.goods, opsN, colN, litN]
  have e : xT.flat = xE := by rfl
  rw [← flat_inj ht.good hg (by rw [hf, e])]; exact ht
theorem xE_names : ∀ n ∈ xE, okText n.Name := by unfold okText; decide
theorem p_exprbegun : Pure Tryz.prog 6 [] (pBool true) := by
  have okT0 : ∀ l : List TokenD, (∀ t ∈ l, t.S.length ≤ 10) → okT l := fun l h t ht => by have := h t ht; unfold okText; omega
  have q1 := p_Tokens xE xE_names
  have q2 := p_Parse xL (by decide) (okT0 _ (by decide))
  have q3 := p_Parse xM (by decide) (okT0 _ (by decide))
  have q4 := p_Parse xN (by decide) (okT0 _ (by decide))
  have q5 := p_Depth xE xE_names
  have q6 := p_kids (opsN 6 2) [xA, xB] xT_right xE rfl xE_names
  have q7 := p_echeck (xE.take 4) (fun n hn => xE_names n (List.mem_of_mem_take hn))
  rw [y1] at q1
  rw [y2] at q2
  rw [y3] at q3
  rw [y4] at q4
  rw [y5.1, y5.2] at q5
  rw [y6] at q7
  have s1 := p_sametokens xL xL (by decide)
  rw [sameB_refl] at s1
  have s2 := p_samenodes xE xE (by decide)
  rw [listEq_refl] at s2
  have s3 := p_samenodes xK xK (by decide)
  rw [listEq_refl] at s3
  have ca : Pure _ _ [pStr ⟨#[97]⟩] _ := p_ncol [97]
  have cb : Pure _ _ [pStr ⟨#[98]⟩] _ := p_ncol [98]
  have wa' : Pure _ _ [pStr ⟨#[97]⟩] _ := p_tword [97]
  have wb : Pure _ _ [pStr ⟨#[98]⟩] _ := p_tword [98]
  have z1 : Pure _ _ [pStr ⟨#[45]⟩] _ := p_tsign [45]
  have z2 : Pure _ _ [pStr ⟨#[40]⟩] _ := p_tsign [40]
  have z3 : Pure _ _ [pStr ⟨#[41]⟩] _ := p_tsign [41]
  have nE := p_nodes xE
  have nL := p_tokens xL
  refine pure_of Tryz.func6 (by rfl) rfl (by kernel_rfl) (by rfl) ?_
  ((conv => whnf);repeat' ((first|(with_reducible first|apply a_|apply b_|apply c_)|((with_reducible first|apply d_|apply e_|apply f_|apply g_);focus first|omega|(simp only [q_]<;>omega))|((with_reducible first|apply i_|apply h_);focus first|omega|(simp only [q_]<;>omega))|((with_reducible apply h_);focus first|decide|kernel_rfl)|refine s_ (by decide) ?_|refine t_ (by decide) ?_|refine r_ ca rfl ?_|refine r_ cb rfl ?_|refine r_ (p_vI _) rfl ?_|refine r_ (p_nlit ⟨1, _, []⟩) rfl ?_|refine r_ (p_nop _ _) rfl ?_|refine r_ nE rfl ?_|refine r_ wa' rfl ?_|refine r_ wb rfl ?_|refine r_ z1 rfl ?_|refine r_ z2 rfl ?_|refine r_ z3 rfl ?_|refine r_ (p_tnumber _) rfl ?_|refine r_ nL rfl ?_|refine r_ q1 rfl ?_|refine r_ q2 rfl ?_|refine r_ q3 rfl ?_|refine r_ q4 rfl ?_|refine r_ q5 rfl ?_|refine r_ q6 rfl ?_|refine r_ q7 rfl ?_|refine r_ s1 rfl ?_|refine r_ s2 rfl ?_|refine r_ s3 rfl ?_|(refine Idx.mapI (f := fun k => ek k.flat) (l := [xA, xB]) 1 rfl (Nat.lt_succ_self 1) ?_)|with_reducible first|apply l_|apply m_|apply n_|apply o_|refine p_ (fun _ => ?_) (fun _ => ?_))<;>(conv => whnf)))
  first | exact Ret.bool rfl | exact Ret.bool (by decide) | exact Ret.bool (by kernel_rfl) | (refine Ret.bool ?_; kernel_rfl)
end
section
open Go.RowKit K
set_option maxRecDepth 100000
theorem okTk_T {l : List TokenD} (h : okTk l) : okT l := fun t ht => (h.2 t ht).2.2.2
theorem parse_len (l : List TokenD) : (parseF l).1.length ≤ 60 := by
  by_cases h : (parseF l).2 = 0
  · obtain ⟨t, _, h2, h3, _⟩ := parse_ok h
    rw [h3]; exact h2.len
  · rw [parse_bad h]; decide
end
section
open Go.RowKit K
set_option maxRecDepth 100000
set_option maxHeartbeats 1000000
structure RdAll (N : Nat) : Prop where
  or : RdOk 33 1 N
  and : RdOk 49 2 N
  not : RdOk 74 3 N
  add : RdOk 98 5 N
  mul : RdOk 101 6 N
  neg : RdOk 103 7 N
theorem rd_all : ∀ N : Nat, N ≤ 50000 → RdAll N := by
  intro N
  induction N using Nat.strongRecOn with
  | ind N ih =>
    intro hN
    have i1 : ∀ M, M < N → RdAll M := fun M h => ih M h (by omega)
    have h8 := p_readone (N := N) (by omega) fun M h => (i1 M h).or
    have h7 := p_readneg (N := N) (by omega) h8 fun M h => (i1 M h).neg
    have h6 := p_readmul (N := N) (by omega) h7 fun M h => (i1 M h).mul
    have h5 := p_readadd (N := N) (by omega) h6 fun M h => (i1 M h).add
    have h4 := p_readask (N := N) (by omega) h5 fun {M} h => (i1 M h).or
    have h3 := p_readnot (N := N) (by omega) h4 fun M h => (i1 M h).not
    have h2 := p_readand (N := N) (by omega) h3 fun M h => (i1 M h).and
    have h1 := p_reador (N := N) (by omega) h2 fun M h => (i1 M h).or
    exact ⟨h1, h2, h3, h5, h6, h7⟩
theorem p_readorE (l : List TokenD) (hl : l.length ≤ 50000) (ht : okTx l) : Pure Tryz.prog 33 [slV 4 TokenD.c l] (optN (formF l)) := by
  have := (rd_all l.length hl).or l (Nat.le_refl _) ht
  have e : pK 1 l = formF l := by
    cases h : formF l with
    | some ns => exact (pK_iff (by omega) (by omega) l ns).2 ((form_iff l ns).1 h)
    | none =>
      cases h2 : pK 1 l with
      | none => rfl
      | some ns => rw [(form_iff l ns).2 ((pK_iff (by omega) (by omega) l ns).1 h2)] at h; cases h
  rwa [e] at this
theorem p_checktokens (l : List TokenD) (hl : l.length ≤ 140737488355328) (ht : ∀ t ∈ l, okText t.S) : Pure Tryz.prog 11 [slV 4 TokenD.c l] (pInt .i64 (tAllE l)) := by
  refine pure_of Tryz.func11 (by rfl) rfl (by kernel_rfl) (by rfl) ?_
  unfold tAllE
  by_cases h120 : 120 < l.length
  · rw [if_pos h120]
    ((conv => whnf);repeat' ((first|(with_reducible first|apply a_|apply b_|apply c_)|((with_reducible first|apply d_|apply e_|apply f_|apply g_);focus first|omega|(simp only [q_]<;>omega))|((with_reducible first|apply i_|apply h_);focus first|omega|(simp only [q_]<;>omega))|((with_reducible apply h_);focus first|decide|kernel_rfl)|refine s_ (by decide) ?_|refine t_ (by decide) ?_|with_reducible first|apply l_|apply m_|apply n_|apply o_|refine p_ (fun _ => ?_) (fun _ => ?_))<;>(conv => whnf)))
    all_goals first | exact Ret.int rfl | (exfalso; omega)
  · rw [if_neg h120]
    ((conv => whnf);repeat' ((first|(with_reducible first|apply a_|apply b_|apply c_)|((with_reducible first|apply d_|apply e_|apply f_|apply g_);focus first|omega|(simp only [q_]<;>omega))|((with_reducible first|apply i_|apply h_);focus first|omega|(simp only [q_]<;>omega))|((with_reducible apply h_);focus first|decide|kernel_rfl)|refine s_ (by decide) ?_|refine t_ (by decide) ?_|with_reducible first|apply l_|apply m_|apply n_|apply o_|refine p_ (fun _ => ?_) (fun _ => ?_))<;>(conv => whnf)))
    refine LoopC.mk Nat (fun k => [(0, slV 4 TokenD.c l), (3, pInt .i64 (k : Int))]) (fun _ => []) [] (fun k => k ≤ l.length ∧ ∀ x ∈ l.take k, tChk x = 0) (fun k => l.length - k) 0 ⟨Nat.zero_le _, by simp⟩ ?start ?round
    case start => exact ⟨[], rfl, rfl, ⟨.inl rfl, .inl rfl, trivial⟩, trivial⟩
    case round =>
      rintro k ⟨hk, hz⟩
      have hk : k ≤ l.length := hk
      have hz : ∀ x ∈ l.take k, tChk x = 0 := hz
      by_cases q : k < l.length
      · have pc := p_tcheckref l[k] (ht _ (List.getElem_mem q))
        by_cases hx : tChk l[k] = 0
        · ((conv => whnf);repeat' ((first|(with_reducible first|apply a_|apply b_|apply c_)|((with_reducible first|apply d_|apply e_|apply f_|apply g_);focus first|omega|(simp only [q_]<;>omega))|((with_reducible first|apply i_|apply h_);focus first|omega|(simp only [q_]<;>omega))|((with_reducible apply h_);focus first|decide|kernel_rfl)|refine s_ (by decide) ?_|refine t_ (by decide) ?_|(refine Idx.mapI k rfl q ?_)|refine r_ pc rfl ?_|with_reducible first|apply l_|apply m_|apply n_|apply o_|refine p_ (fun _ => ?_) (fun _ => ?_))<;>(conv => whnf)))
          all_goals first
            | (exfalso; omega)
            | skip
          refine ⟨k + 1, ⟨by show k + 1 ≤ _; omega, fun x h => ?_⟩, by show l.length - (k + 1) < l.length - k; omega, [], rfl, rfl, ⟨.inl rfl, PLe.int (by omega), trivial⟩, trivial⟩
          rw [take_snoc q, List.mem_append, List.mem_singleton] at h
          rcases h with h | rfl
          · exact hz x h
          · exact hx
        · ((conv => whnf);repeat' ((first|(with_reducible first|apply a_|apply b_|apply c_)|((with_reducible first|apply d_|apply e_|apply f_|apply g_);focus first|omega|(simp only [q_]<;>omega))|((with_reducible first|apply i_|apply h_);focus first|omega|(simp only [q_]<;>omega))|((with_reducible apply h_);focus first|decide|kernel_rfl)|refine s_ (by decide) ?_|refine t_ (by decide) ?_|(refine Idx.mapI k rfl q ?_)|refine r_ pc rfl ?_|with_reducible first|apply l_|apply m_|apply n_|apply o_|refine p_ (fun _ => ?_) (fun _ => ?_))<;>(conv => whnf)))
          all_goals first
            | (exfalso; omega)
            | exact Ret.int (tChkAll_at q hz hx).symm
      · ((conv => whnf);repeat' ((first|(with_reducible first|apply a_|apply b_|apply c_)|((with_reducible first|apply d_|apply e_|apply f_|apply g_);focus first|omega|(simp only [q_]<;>omega))|((with_reducible first|apply i_|apply h_);focus first|omega|(simp only [q_]<;>omega))|((with_reducible apply h_);focus first|decide|kernel_rfl)|refine s_ (by decide) ?_|refine t_ (by decide) ?_|with_reducible first|apply l_|apply m_|apply n_|apply o_|refine p_ (fun _ => ?_) (fun _ => ?_))<;>(conv => whnf)))
        rw [tChkAll_ok.2 fun x hx => hz x (by rw [List.take_of_length_le (by omega)]; exact hx)]
        exact Ret.int rfl
theorem p_exprof (l : List TokenD) (hl : l.length ≤ 120) (ht : ∀ t ∈ l, okText t.S) (ho : okTs l) : Pure Tryz.prog 12 [slV 4 TokenD.c l] (.tup [slV 6 NodeD.c (parseF l).1, pInt .i64 (parseF l).2]) := by
  have pr := p_readorE l (by omega) fun t h => ⟨ho t h, ht t h⟩
  have hz := tAllE_of hl ho
  unfold parseF
  rw [if_neg (not_not_intro hz)]
  refine pure_of Tryz.func12 (by rfl) rfl (by kernel_rfl) (by rfl) ?_
  cases hf : formF l with
  | none =>
    rw [hf] at pr
    have pr : Pure _ _ _ (.tup [slV 6 NodeD.c [], pBool false]) := pr
    ((conv => whnf);repeat' ((first|(with_reducible first|apply a_|apply b_|apply c_)|((with_reducible first|apply d_|apply e_|apply f_|apply g_);focus first|omega|(simp only [q_]<;>omega))|((with_reducible first|apply i_|apply h_);focus first|omega|(simp only [q_]<;>omega))|((with_reducible apply h_);focus first|decide|kernel_rfl)|refine s_ (by decide) ?_|refine t_ (by decide) ?_|refine r_ pr rfl ?_|with_reducible first|apply l_|apply m_|apply n_|apply o_|refine p_ (fun _ => ?_) (fun _ => ?_))<;>(conv => whnf)))
    all_goals first | exact Ret.le ⟨.inr ⟨⟨6, rfl⟩, .inl rfl⟩, .inl rfl, rfl⟩ | (exfalso; omega)
  | some e =>
    rw [hf] at pr
    have pr : Pure _ _ _ (.tup [slV 6 NodeD.c e, pBool true]) := pr
    obtain ⟨t, t1, t2⟩ := (form_iff l e).1 hf
    have hn : ∀ n ∈ e, okText n.Name := by rw [t2]; exact rd_names t1 ht
    have pc := p_exprcheck e hn
    dsimp only
    by_cases h : checkF e = 0
    · rw [if_neg (not_not_intro h)]
      rw [h] at pc
      ((conv => whnf);repeat' ((first|(with_reducible first|apply a_|apply b_|apply c_)|((with_reducible first|apply d_|apply e_|apply f_|apply g_);focus first|omega|(simp only [q_]<;>omega))|((with_reducible first|apply i_|apply h_);focus first|omega|(simp only [q_]<;>omega))|((with_reducible apply h_);focus first|decide|kernel_rfl)|refine s_ (by decide) ?_|refine t_ (by decide) ?_|refine r_ pr rfl ?_|refine r_ pc rfl ?_|with_reducible first|apply l_|apply m_|apply n_|apply o_|refine p_ (fun _ => ?_) (fun _ => ?_))<;>(conv => whnf)))
      all_goals first | exact Ret.eq rfl | (exfalso; omega)
    · rw [if_pos h]
      ((conv => whnf);repeat' ((first|(with_reducible first|apply a_|apply b_|apply c_)|((with_reducible first|apply d_|apply e_|apply f_|apply g_);focus first|omega|(simp only [q_]<;>omega))|((with_reducible first|apply i_|apply h_);focus first|omega|(simp only [q_]<;>omega))|((with_reducible apply h_);focus first|decide|kernel_rfl)|refine s_ (by decide) ?_|refine t_ (by decide) ?_|refine r_ pr rfl ?_|refine r_ pc rfl ?_|with_reducible first|apply l_|apply m_|apply n_|apply o_|refine p_ (fun _ => ?_) (fun _ => ?_))<;>(conv => whnf)))
      all_goals first | exact Ret.le ⟨.inr ⟨⟨6, rfl⟩, .inl rfl⟩, .inl rfl, rfl⟩ | (exfalso; omega)
theorem p_parseof (l : List TokenD) (hl : l.length ≤ 140737488355328) (ht : ∀ t ∈ l, okText t.S) : Pure Tryz.prog 5 [slV 4 TokenD.c l] (.tup [slV 6 NodeD.c (parseF l).1, pInt .i64 (parseF l).2]) := by
  have pc := p_checktokens l hl ht
  refine pure_of Tryz.func5 (by rfl) rfl (by kernel_rfl) (by rfl) ?_
  by_cases h : tAllE l = 0
  · have hs : l.length ≤ 120 ∧ okTs l := by
      have q := h
      unfold tAllE at q
      split at q
      · cases q
      · exact ⟨by omega, tChkAll_ok.1 q⟩
    have pe := p_exprof l hs.1 ht hs.2
    rw [h] at pc
    ((conv => whnf);repeat' ((first|(with_reducible first|apply a_|apply b_|apply c_)|((with_reducible first|apply d_|apply e_|apply f_|apply g_);focus first|omega|(simp only [q_]<;>omega))|((with_reducible first|apply i_|apply h_);focus first|omega|(simp only [q_]<;>omega))|((with_reducible apply h_);focus first|decide|kernel_rfl)|refine s_ (by decide) ?_|refine t_ (by decide) ?_|refine r_ pc rfl ?_|refine r_ pe rfl ?_|with_reducible first|apply l_|apply m_|apply n_|apply o_|refine p_ (fun _ => ?_) (fun _ => ?_))<;>(conv => whnf)))
    all_goals first | exact Ret.eq rfl | (exfalso; omega)
  · have e : parseF l = ([], tAllE l) := by unfold parseF; rw [if_pos h]
    rw [e]
    ((conv => whnf);repeat' ((first|(with_reducible first|apply a_|apply b_|apply c_)|((with_reducible first|apply d_|apply e_|apply f_|apply g_);focus first|omega|(simp only [q_]<;>omega))|((with_reducible first|apply i_|apply h_);focus first|omega|(simp only [q_]<;>omega))|((with_reducible apply h_);focus first|decide|kernel_rfl)|refine s_ (by decide) ?_|refine t_ (by decide) ?_|refine r_ pc rfl ?_|with_reducible first|apply l_|apply m_|apply n_|apply o_|refine p_ (fun _ => ?_) (fun _ => ?_))<;>(conv => whnf)))
    all_goals first | exact Ret.le ⟨.inr ⟨⟨6, rfl⟩, .inl rfl⟩, .inl rfl, rfl⟩ | (exfalso; omega)
theorem law_ExprReads (l : List TokenD) (hl : okTk l) : Pure Tryz.prog 3 [slV 4 TokenD.c l] (pBool true) := by
  have p1 := p_Parse l (okTk_len hl) (okTk_T hl)
  have p2 := p_parseof l (okTk_len hl) (okTk_T hl)
  have k1 := parse_len l
  have s1 := p_samenodes (parseF l).1 (parseF l).1 (by omega)
  rw [listEq_refl] at s1
  refine pure_of Tryz.func3 (by rfl) rfl (by kernel_rfl) (by rfl) ?_
  ((conv => whnf);repeat' ((first|(with_reducible first|apply a_|apply b_|apply c_)|((with_reducible first|apply d_|apply e_|apply f_|apply g_);focus first|omega|(simp only [q_]<;>omega))|((with_reducible first|apply i_|apply h_);focus first|omega|(simp only [q_]<;>omega))|((with_reducible apply h_);focus first|decide|kernel_rfl)|refine s_ (by decide) ?_|refine t_ (by decide) ?_|refine r_ p1 rfl ?_|refine r_ p2 rfl ?_|refine r_ p_exprbegun rfl ?_|refine r_ s1 rfl ?_|with_reducible first|apply l_|apply m_|apply n_|apply o_|refine p_ (fun _ => ?_) (fun _ => ?_))<;>(conv => whnf)))
  all_goals first | exact Ret.bool rfl | exact Ret.bool (by simp; done) | (exfalso; omega)
end
end Go.Proofs.YtmcmagfondjopaaGreatDoor.Pm
