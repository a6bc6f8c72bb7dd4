/- The model does what the plain machine reckons: calls; all operations. -/
import Derived.Test.YthogcgnhhcbkkaaDoorPmNew
namespace Go.Proofs.YthogcgnhhcbkkaaDoor.Pm
open Go.RowKit
set_option linter.unusedVariables false

/-! ### calls -/
section
variable {σ σ' : Sg} {F F' : Fzn} {w : World}
mutual
theorem close_out : ∀ {x : PV} {K : PV → Prop}, PV.close x K → ∃ y, K y ∧ ∀ (σ : Sg) (F : Fzn) (w : World) (u : Value), PRep σ F w x u → PRep (fun _ => none) F w y u
  | .d x, K, h => by
    unfold PV.close at h
    obtain ⟨y, h1, h2⟩ := close_rep h
    refine ⟨_, h1, fun σ F w u hu => ?_⟩
    unfold PRep at hu ⊢
    unfold DRep
    exact h2 σ F w u hu
  | .agg l, K, h => by
    unfold PV.close at h
    obtain ⟨ys, h1, h2⟩ := closeL_out h
    refine ⟨_, h1, fun σ F w u hu => ?_⟩
    unfold PRep at hu ⊢
    obtain ⟨xs, rfl, hx⟩ := hu
    exact ⟨xs, rfl, dsRep_of_cs (h2 σ F w xs hx)⟩
  | .tup l, K, h => by
    unfold PV.close at h
    obtain ⟨ys, h1, h2⟩ := closePs_out h
    refine ⟨_, h1, fun σ F w u hu => ?_⟩
    unfold PRep at hu ⊢
    obtain ⟨xs, rfl, hx⟩ := hu
    exact ⟨xs, rfl, h2 σ F w xs hx⟩
  | .any, K, h => by unfold PV.close at h; exact h.elim
theorem closePs_out : ∀ {l : List PV} {K : List PV → Prop}, closePs l K → ∃ ys, K ys ∧ ∀ (σ : Sg) (F : Fzn) (w : World) (us : List Value), PsRep σ F w l us → PsRep (fun _ => none) F w ys us
  | [], K, h => by
    unfold closePs at h
    refine ⟨[], h, fun σ F w us hu => ?_⟩
    cases us with
    | nil => unfold PsRep; trivial
    | cons _ _ => unfold PsRep at hu; exact hu.elim
  | x :: xs, K, h => by
    unfold closePs at h
    obtain ⟨y, h1, h2⟩ := close_out h
    obtain ⟨ys, h3, h4⟩ := closePs_out h1
    refine ⟨y :: ys, h3, fun σ F w us hu => ?_⟩
    cases us with
    | nil => unfold PsRep at hu; exact hu.elim
    | cons u us => unfold PsRep at hu ⊢; exact ⟨h2 σ F w u hu.1, h4 σ F w us hu.2⟩
end
mutual
theorem DRep.of_none (hk : Keeps F F' w w) : ∀ (x : D) (u : Value), DRep (fun _ => none) F w x u → DRep σ F' w x u
  | .c x, u, h => by unfold DRep at h ⊢; exact CRep.keeps hk _ _ h
  | .app k e sz l, u, h => by unfold DRep at h; obtain ⟨_, ⟨h, _⟩ | ⟨_, _, _, _, h, _⟩⟩ := h <;> cases h
  | .ptr k o, u, h => by unfold DRep at h; obtain ⟨_, _, h, _⟩ := h; cases h
  | .arr k e sz lo n, u, h => by unfold DRep at h; obtain ⟨_, ⟨_, h, _⟩ | ⟨_, _, _, _, _, _, h, _⟩⟩ := h <;> cases h
  | .elt k sz i o, u, h => by unfold DRep at h; obtain ⟨_, _, h, _⟩ := h; cases h
  | .optp k o, u, h => by
    unfold DRep at h ⊢
    rcases h with h | ⟨_, _, h, _⟩
    · exact .inl h
    · cases h
  | .data k e l, u, h => by
    unfold DRep at h ⊢
    rcases h with h | ⟨_, _, _, _, h, _⟩
    · exact .inl h
    · cases h
  | .clo f a l, u, h => by
    unfold DRep at h ⊢
    obtain ⟨us, vs, rfl, h1, h2⟩ := h
    exact ⟨us, vs, rfl, DsRep.of_none hk a us h1, DsRep.of_none hk l vs h2⟩
theorem DsRep.of_none (hk : Keeps F F' w w) : ∀ (l : List D) (us : List Value), DsRep (fun _ => none) F w l us → DsRep σ F' w l us
  | [], [], _ => by unfold DsRep; trivial
  | _ :: l, _ :: us, h => by unfold DsRep at h ⊢; exact ⟨DRep.of_none hk _ _ h.1, DsRep.of_none hk l us h.2⟩
  | [], _ :: _, h => by unfold DsRep at h; exact h.elim
  | _ :: _, [], h => by unfold DsRep at h; exact h.elim
end
mutual
theorem PRep.of_none (hk : Keeps F F' w w) : ∀ (x : PV) (u : Value), PRep (fun _ => none) F w x u → PRep σ F' w x u
  | .d x, u, h => by unfold PRep at h ⊢; exact DRep.of_none hk x u h
  | .agg l, u, h => by unfold PRep at h ⊢; obtain ⟨xs, rfl, h⟩ := h; exact ⟨xs, rfl, DsRep.of_none hk l xs h⟩
  | .tup l, u, h => by unfold PRep at h ⊢; obtain ⟨us, rfl, h⟩ := h; exact ⟨us, rfl, PsRep.of_none hk l us h⟩
  | .any, u, h => by unfold PRep; trivial
theorem PsRep.of_none (hk : Keeps F F' w w) : ∀ (l : List PV) (us : List Value), PsRep (fun _ => none) F w l us → PsRep σ F' w l us
  | [], [], _ => by unfold PsRep; trivial
  | x :: xs, u :: us, h => by unfold PsRep at h ⊢; exact ⟨PRep.of_none hk x u h.1, PsRep.of_none hk xs us h.2⟩
  | [], _ :: _, h => by unfold PsRep at h; exact h.elim
  | _ :: _, [], h => by unfold PsRep at h; exact h.elim
end
theorem psRep_append : ∀ {xs ys : List PV} {us vs : List Value}, PsRep σ F w xs us → PsRep σ F w ys vs → PsRep σ F w (xs ++ ys) (us ++ vs)
  | [], _, [], _, _, h => h
  | _ :: _, _, _ :: _, _, h, k => by
    unfold PsRep at h
    simp only [List.cons_append]
    unfold PsRep
    exact ⟨h.1, psRep_append h.2 k⟩
  | [], _, _ :: _, _, h, _ => by unfold PsRep at h; exact h.elim
  | _ :: _, _, [], _, h, _ => by unfold PsRep at h; exact h.elim
theorem psRep_pds : ∀ {l : List D} {us : List Value}, DsRep σ F w l us → PsRep σ F w (pds l) us
  | [], _, h => by rw [dsRep_nil_inv h]; unfold pds PsRep; trivial
  | x :: xs, _, h => by
    obtain ⟨u, vs, rfl, h1, h2⟩ := dsRep_inv h
    show PsRep σ F w (PV.d x :: pds xs) (u :: vs)
    unfold PsRep
    exact ⟨by unfold PRep; exact h1, psRep_pds h2⟩
theorem mapE_out {e : Operand → PV} : ∀ {l : List Operand} {K : List PV → Prop}, mapE e l K → ∃ ys, K ys ∧ ∀ (σ : Sg) (F : Fzn) (w : World) (ρ : Operand → Value), (∀ x ∈ l, PRep σ F w (e x) (ρ x)) → PsRep σ F w ys (l.map ρ)
  | [], K, h => ⟨[], h, fun σ F w ρ _ => by simp only [List.map_nil]; unfold PsRep; trivial⟩
  | x :: xs, K, h => by
    unfold mapE at h
    obtain ⟨ys, h1, h2⟩ := mapE_out (force_out h)
    refine ⟨_, h1, fun σ F w ρ hp => ?_⟩
    rw [List.map_cons]
    unfold PsRep
    exact ⟨hp x (List.mem_cons_self ..), h2 σ F w ρ fun y hy => hp y (List.mem_cons_of_mem _ hy)⟩
theorem dforce_out {x : D} {K : D → Prop} (h : D.force x K) : K x := by cases x <;> exact h
theorem dsOf_out : ∀ {l : List PV} {K : List D → Prop}, dsOf l K → ∃ ds, K ds ∧ ∀ (σ : Sg) (F : Fzn) (w : World) (us : List Value), PsRep σ F w l us → DsRep σ F w ds us
  | [], K, h => ⟨[], h, fun σ F w us hu => by
    cases us with
    | nil => exact dsRep_nil
    | cons _ _ => unfold PsRep at hu; exact hu.elim⟩
  | x :: xs, K, h => by
    cases x with
    | d x =>
      unfold dsOf at h
      obtain ⟨ds, h1, h2⟩ := dsOf_out (dforce_out h)
      refine ⟨_, h1, fun σ F w us hu => ?_⟩
      cases us with
      | nil => unfold PsRep at hu; exact hu.elim
      | cons u us =>
        unfold PsRep at hu
        have h3 := hu.1
        unfold PRep at h3
        exact dsRep_cons h3 (h2 σ F w us hu.2)
    | agg l => unfold dsOf at h; exact h.elim
    | tup l => unfold dsOf at h; exact h.elim
    | any => unfold dsOf at h; exact h.elim
end

/-- a plain call in its caller -/
theorem pure_frame {P : Program} {f : FuncId} {args ys : List PV} {r : PV} {c : Ctx} {σ : Sg} {h : Hp} {w : World} {vs : List Value} (hy : closesTo args ys) (hp : Pure P f ys r) (hc : c.Ok) (hs : SW c σ h w) (hx : PsRep σ (fz c σ h w) w args vs) :
    Calls P f vs.toArray w fun e w' => ∃ v, e = .returned v ∧ Evo σ σ (fz c σ h w) (fz c σ h w') w w' ∧ SW c σ h w' ∧ PRep σ (fz c σ h w') w' r v := by
  obtain ⟨h1, hp⟩ := hp
  obtain ⟨zs, rfl, hz⟩ := closePs_out hy
  have hF : ∀ b o', fz c σ h w b o' → b < w.heap.size := fun b o' hf => fz_lt hs hf
  refine (hp (fz c σ h w) w _ (sw_gl hc hs) hF (hz σ _ w _ hx)).mono ?_
  rintro en w' ⟨v, rfl, hb, hr⟩
  have ev := evo_below hs hb
  refine ⟨v, rfl, ev, sw_below hs hb, PRep.of_none ⟨fun b o' hf => ?_, fun _ _ _ => rfl⟩ _ _ hr⟩
  rcases hf with hf | ⟨f1, f2⟩
  · exact ev.keeps.le _ _ hf
  · refine .inr ⟨.inl (Nat.le_trans hs.size f1), f2, fun k n hb' hk' hσ => ?_⟩
    have := (hb_block (hs.hp k hb' hk') hσ).1
    omega

theorem callFn_out {P : Program} {o : Oper} {e : Operand → PV} {h : Hp} {f : Operand} {args : Array Operand} {tys : Array TypeId} {g : FuncId} {zs : List PV} {K : OpK} {X : Value → Prop}
    (ho : o.op = .call { callee := .value f, args, argTypes := tys })
    (hz : ∀ (σ : Sg) (F : Fzn) (w : World) (a : Act), (∀ x ∈ o.op.operands, PRep σ F w (e x) (a.eval x)) → ∃ us vs : List Value, a.eval f = .func (.func g) us.toArray vs.toArray ∧ PsRep σ F w zs (us ++ (args.toList.map a.eval ++ vs)))
    (hv : CallP P g zs h K X) : Outc P o e h K X := by
  have hrun : ∀ (a : Act) (w : World) (us vs : List Value), fnOk P g → a.eval f = .func (.func g) us.toArray vs.toArray → (execOp a.eval o).run P w = .ok (.enter g (us ++ (args.toList.map a.eval ++ vs)).toArray) w := by
    rintro a w us vs ⟨fn, p1, p2, p3⟩ hf
    have p2' : ¬ fn.name = "runtime.NumGoroutine" := by simpa using p2
    have p3' : ¬ fn.body = none := by
      intro e; rw [e] at p3; cases p3
    simp [execOp, ho, resolve, hf, Deferred.ofValue, invoke, callFunc, p1, p2', p3']
  cases hv with
  | ret ρ args0 rd rf res out rd' rf' hcs hn ha h1 h2 hr hk =>
    have h1 : RR ρ rd rd' := by obtain ⟨_, rfl, q⟩ := renRf_out h1; exact q
    have h2 : RR ρ rf rf' := by obtain ⟨_, rfl, q⟩ := renRf_out h2; exact q
    obtain ⟨out', hk, h3⟩ := renRf_out hk
    obtain ⟨r, hk, h4⟩ := renP_out hk
    have hr' := rfIn_out hr
    refine .inl ⟨r, deltaOf rf' out', rd' ++ rf', hk, hr', ?_⟩
    intro c σ h' a w hc hs hx hrf hfr next Q KK
    obtain ⟨us, vs, g1, g2⟩ := hz σ _ w a hx
    unfold Oper.wp
    rw [hrun a w us vs hcs.1 g1]
    rw [Oper.upon_enter]
    refine (callS_frame hcs hn ha h1 h2 h3 h4 hc hs g2 hrf hfr).mono ?_
    rintro en w' ⟨v, σ', rfl, q1, q2, q3, q4⟩
    exact KK v σ' w' q1 q2 q3 q4
  | same x hsame ha hk =>
    obtain ⟨fn, p1, p2, p3, p4, p5⟩ := hsame
    subst ha
    refine .inl ⟨x, [], [], hk, by simp, semStep_val _ fun c σ h' a w hs _ hx => ?_⟩
    obtain ⟨us, vs, g1, g2⟩ := hz σ _ w a hx
    match hq : us ++ (args.toList.map a.eval ++ vs), g2 with
    | [u], g2 =>
      refine ⟨u, ?_, ?_⟩
      · have e1 : us.toArray ++ Array.map a.eval args ++ vs.toArray = #[u] := by
          apply Array.toList_inj.1; simp; simpa using hq
        have e2 := run_callFunc_extern p1 p2 p3 p4 p5 #[u] w
        have e3 : (Extern.AbiNoEscape.same #[u]).run P w = .ok u w := rfl
        rw [e3] at e2
        simp only [Result.andThen_ok] at e2
        simp only [execOp, ho, resolve, g1, Deferred.ofValue, invoke, Sem.run_bind, Sem.run_pure, Result.andThen_ok]
        rw [e1]
        exact e2
      · unfold PsRep at g2; exact g2.1
    | [], g2 => unfold PsRep at g2; exact g2.elim
    | _ :: _ :: _, g2 => unfold PsRep PsRep at g2; exact g2.2.elim
  | pure ys hy r hp hk =>
    refine .inl ⟨r, [], [], hk, by simp, ?_⟩
    intro c σ h' a w hc hs hx hrf hfr next Q KK
    obtain ⟨us, vs, h1, h2⟩ := hz σ _ w a hx
    unfold Oper.wp
    rw [hrun a w us vs hp.1 h1]
    rw [Oper.upon_enter]
    refine (pure_frame hy hp hc hs h2).mono ?_
    rintro en w' ⟨v, rfl, g1, g2, g3⟩
    exact KK v σ w' g1 g2 g3 (fun _ _ h => h)
  | pan ρ args0 rd rd' x hcx hn ha h1 hr hxx =>
    have h1 : RR ρ rd rd' := by obtain ⟨_, rfl, q⟩ := renRf_out h1; exact q
    have hr' := rfIn_out hr
    refine .inr ⟨x, rd', hxx, hr', ?_⟩
    intro c σ h' a w hc hs hx hrf next Q KK
    obtain ⟨us, vs, g1, g2⟩ := hz σ _ w a hx
    unfold Oper.wp
    rw [hrun a w us vs hcx.1 g1]
    rw [Oper.upon_enter]
    refine (callX_frame hcx hn ha h1 hc hs g2 hrf).mono ?_
    rintro en w' ⟨rfl, q⟩
    exact KK w' q

/-! ### all operations -/
/-- one row's cells -/
theorem row_rep {F : Fzn} {w : World} {s : Nat} : ∀ {rows : List (List C)} {j : Nat} {r : List C} {us : List Value}, (∀ r ∈ rows, r.length = s) → rows[j]? = some r → CsRep F w rows.flatten us → CsRep F w r ((us.drop (j * s)).take s)
  | [], j, r, us, _, h, _ => by simp at h
  | r0 :: rows, 0, r, us, hl, h, hu => by
    simp only [List.getElem?_cons_zero, Option.some.injEq] at h
    subst h
    rw [List.flatten_cons] at hu
    have := hu.take s
    rw [← hl r0 (List.mem_cons_self ..), List.take_left] at this
    rw [Nat.zero_mul, List.drop_zero, ← hl r0 (List.mem_cons_self ..)]
    exact this
  | r0 :: rows, j + 1, r, us, hl, h, hu => by
    simp only [List.getElem?_cons_succ] at h
    rw [List.flatten_cons] at hu
    have := hu.drop s
    rw [← hl r0 (List.mem_cons_self ..), List.drop_left, hl r0 (List.mem_cons_self ..)] at this
    have ih := row_rep (fun r hr => hl r (List.mem_cons_of_mem _ hr)) h this
    rw [List.drop_drop] at ih
    rw [show (j + 1) * s = s + j * s by rw [Nat.add_mul]; omega]
    exact ih
theorem opt_rep {σ : Sg} {F : Fzn} {w : World} {e : Operand → PV} {ρ : Operand → Value} (x : Option Operand) (h : ∀ y, x = some y → PRep σ F w (e y) (ρ y)) : OptRep σ F w (x.map e) (x.map ρ) := by
  cases x with
  | none => exact .inl ⟨rfl, rfl⟩
  | some y => exact .inr ⟨_, _, rfl, rfl, h y rfl⟩

theorem vcOp_out {P : Program} {o : Oper} {key : Nat} {e : Operand → PV} {h : Hp} {K : OpK} {X : Value → Prop} (hv : vcOp P key o.type o.op e h K X) : Outc P o e h K X := by
  unfold vcOp at hv
  split at hv
  · -- move
    rename_i x ho
    exact outc_val (force_out hv) fun σ F a w hx => ⟨a.eval x, by simp [execOp, ho], hx x (by simp [ho, Op.operands])⟩
  · rename_i x ho
    exact outc_val (force_out hv) fun σ F a w hx => ⟨a.eval x, by simp [execOp, ho], hx x (by simp [ho, Op.operands])⟩
  · -- pick
    rename_i cc x y ho
    unfold pickP at hv
    split at hv
    · rename_i t ht
      obtain ⟨h1, h2⟩ := hv
      have hcv : ∀ (σ : Sg) (F : Fzn) (a : Act) (w : World), (∀ x ∈ o.op.operands, PRep σ F w (e x) (a.eval x)) → a.eval cc = .bool t := by
        intro σ F a w hx
        have := hx cc (by simp [ho, Op.operands])
        rw [ht] at this
        exact rep_v this
      cases t with
      | true =>
        exact outc_val (force_out (h1 rfl)) fun σ F a w hx => ⟨a.eval x, by simp [execOp, ho, asBool, hcv σ F a w hx], hx x (by simp [ho, Op.operands])⟩
      | false =>
        exact outc_val (force_out (h2 rfl)) fun σ F a w hx => ⟨a.eval y, by simp [execOp, ho, asBool, hcv σ F a w hx], hx y (by simp [ho, Op.operands])⟩
    · exact hv.elim
  · -- binOp
    rename_i op t x y ty ho
    have hmem : x ∈ o.op.operands ∧ y ∈ o.op.operands := by simp [ho, Op.operands]
    unfold binP at hv
    split at hv
    · rename_i k a k' b hx hy
      obtain ⟨v, h1, h2, h3⟩ := intBin_out (P := P) t hv
      refine outc_val h1 fun σ F ac w hp => ⟨v, ?_, rep_of h2⟩
      have e1 := hp x hmem.1
      have e2 := hp y hmem.2
      rw [hx] at e1
      rw [hy] at e2
      simp [execOp, ho, rep_v e1, rep_v e2, eqGuard, h3]
    · rename_i a b hx hy
      obtain ⟨v, h1, h2, h3⟩ := strBin_out (P := P) t hv
      refine outc_val h1 fun σ F ac w hp => ⟨v, ?_, rep_of h2⟩
      have e1 := hp x hmem.1
      have e2 := hp y hmem.2
      rw [hx] at e1
      rw [hy] at e2
      simp [execOp, ho, rep_v e1, rep_v e2, eqGuard, h3]
    · rename_i a b hx hy
      obtain ⟨v, h1, h2, h3⟩ := boolBin_out (P := P) t hv
      refine outc_val h1 fun σ F ac w hp => ⟨v, ?_, rep_of h2⟩
      have e1 := hp x hmem.1
      have e2 := hp y hmem.2
      rw [hx] at e1
      rw [hy] at e2
      simp [execOp, ho, rep_v e1, rep_v e2, eqGuard, h3]
    · split at hv
      · obtain ⟨b, h1, h2⟩ := eqP_out hv
        refine outc_val h1 fun σ F ac w hp => ⟨.bool b, ?_, rep_bool _⟩
        obtain ⟨g1, g2, g3, g4⟩ := h2 σ F w _ _ x y (hp x hmem.1) (hp y hmem.2)
        simp [execOp, ho, g1, g3]
      · obtain ⟨b, h1, h2⟩ := eqP_out hv
        refine outc_val h1 fun σ F ac w hp => ⟨.bool (!b), ?_, rep_bool _⟩
        obtain ⟨g1, g2, g3, g4⟩ := h2 σ F w _ _ x y (hp x hmem.1) (hp y hmem.2)
        simp [execOp, ho, g2, g4]
      · exact hv.elim
  · -- unOp
    rename_i op t x ho
    unfold unP at hv
    split at hv
    · rename_i b hx
      refine outc_val hv fun σ F a w hp => ⟨.bool (!b), ?_, rep_bool _⟩
      have e1 := hp x (by simp [ho, Op.operands])
      rw [hx] at e1
      simp [execOp, ho, rep_v e1, Op.unary]
    · rename_i k n hx
      obtain ⟨m, rfl, hv⟩ := hv
      refine outc_val hv fun σ F a w hp => ⟨_, ?_, rep_int _ _⟩
      have e1 := hp x (by simp [ho, Op.operands])
      rw [hx] at e1
      simp [execOp, ho, rep_v e1, Op.unary, Op.intArith]
    · exact hv.elim
  · -- convert
    rename_i s d x ho
    exact convP2_out ho hv
  · -- slice
    rename_i t x lo hi ho
    obtain ⟨v, h1, h2⟩ := sliceP_out hv
    refine outc_val h1 fun σ F a w hp => ?_
    obtain ⟨z, h3, h4⟩ := h2 σ F w _ _ _ (hp x (by simp [ho, Op.operands])) (opt_rep lo fun y hy => hp y (by subst hy; simp [ho, Op.operands])) (opt_rep hi fun y hy => hp y (by subst hy; simp [ho, Op.operands]))
    exact ⟨z, by simp [execOp, ho, h3], h4⟩
  · -- index
    rename_i t x i ho
    obtain ⟨v, h1, h2⟩ := indexP_out hv
    refine outc_val h1 fun σ F a w hp => ?_
    obtain ⟨z, h3, h4⟩ := h2 σ F w _ _ (hp x (by simp [ho, Op.operands])) (hp i (by simp [ho, Op.operands]))
    exact ⟨z, by simp [execOp, ho, h3], h4⟩
  · -- indexAddr
    rename_i t x i ho
    obtain ⟨v, h1, h2⟩ := idxAddrP_out hv
    refine outc_val h1 fun σ F a w hp => ?_
    obtain ⟨z, h3, h4⟩ := h2 σ F w _ _ (hp x (by simp [ho, Op.operands])) (hp i (by simp [ho, Op.operands]))
    exact ⟨z, by simp [execOp, ho, h3], h4⟩
  · -- fieldAddr
    rename_i s x f ho
    obtain ⟨v, h1, h2⟩ := fieldAddrP_out hv
    refine outc_val h1 fun σ F a w hp => ?_
    obtain ⟨z, h3, h4⟩ := h2 σ F w _ (hp x (by simp [ho, Op.operands]))
    exact ⟨z, by simp [execOp, ho, h3], h4⟩
  · -- field
    rename_i s x f ho
    unfold fieldP at hv
    split at hv
    · rename_i l hx
      obtain ⟨fs, fd, i, hu, hf, hi, hz, hv⟩ := fieldOf_out hv
      obtain ⟨v, h1, h2⟩ := partP_out hv
      refine outc_val h1 fun σ F a w hp => ?_
      have e1 := hp x (by simp [ho, Op.operands])
      rw [hx] at e1
      unfold PRep at e1
      obtain ⟨us, e2, e3⟩ := e1
      obtain ⟨u, h3, h4⟩ := h2 σ F w us e3
      exact ⟨u, by simp [execOp, ho, e2, Instr.field, run_underlying hu, hf, asAgg, h3], h4⟩
    · exact hv.elim
  · -- extract
    rename_i x i ho
    unfold extractP at hv
    split at hv
    · rename_i l hx
      split at hv
      · rename_i v hl
        refine outc_val (force_out hv) fun σ F a w hp => ?_
        have e1 := hp x (by simp [ho, Op.operands])
        rw [hx] at e1
        unfold PRep at e1
        obtain ⟨us, e2, e3⟩ := e1
        have key : ∀ (l : List PV) (us : List Value) (i : Nat), PsRep σ F w l us → l[i]? = some v → ∃ u, us[i]? = some u ∧ PRep σ F w v u := by
          intro l
          induction l with
          | nil => intro us i _ h; simp at h
          | cons y l ih =>
            intro us i h1 h2
            cases us with
            | nil => unfold PsRep at h1; exact h1.elim
            | cons u us =>
              unfold PsRep at h1
              cases i with
              | zero => simp only [List.getElem?_cons_zero, Option.some.injEq] at h2; subst h2; exact ⟨u, rfl, h1.1⟩
              | succ i => simp only [List.getElem?_cons_succ] at h2 ⊢; exact ih us i h1.2 h2
        obtain ⟨u, e4, e5⟩ := key l us i e3 hl
        exact ⟨u, by simp [execOp, ho, e2, Instr.extract, e4], e5⟩
      · exact hv.elim
    · exact hv.elim
  · -- nilCheck
    rename_i x ho
    unfold nilCheckP at hv
    split at hv
    · rename_i l hx
      refine outc_val hv fun σ F a w hp => ⟨a.eval x, ?_, ?_⟩
      · have e1 := hp x (by simp [ho, Op.operands])
        rw [hx] at e1
        unfold PRep DRep CRep at e1
        obtain ⟨b, off, e2, _⟩ := e1
        simp [execOp, ho, e2]
      · have e1 := hp x (by simp [ho, Op.operands])
        rw [hx] at e1
        exact e1
    · rename_i k off hx
      refine outc_val hv fun σ F a w hp => ⟨a.eval x, ?_, ?_⟩
      · have e1 := hp x (by simp [ho, Op.operands])
        rw [hx] at e1
        unfold PRep DRep at e1
        obtain ⟨b, n, _, e2⟩ := e1
        simp [execOp, ho, e2]
      · have e1 := hp x (by simp [ho, Op.operands])
        rw [hx] at e1
        exact e1
    · rename_i k sz i off hx
      refine outc_val hv fun σ F a w hp => ⟨a.eval x, ?_, ?_⟩
      · have e1 := hp x (by simp [ho, Op.operands])
        rw [hx] at e1
        unfold PRep DRep at e1
        obtain ⟨b, n, _, e2⟩ := e1
        simp [execOp, ho, e2]
      · have e1 := hp x (by simp [ho, Op.operands])
        rw [hx] at e1
        exact e1
    · exact hv.elim
  · -- load
    rename_i t x ho
    unfold loadP at hv
    split at hv
    · rename_i l hx
      obtain ⟨v, h1, h2⟩ := readP_out hv
      refine outc_val h1 fun σ F a w hp => ?_
      have e1 := hp x (by simp [ho, Op.operands])
      rw [hx] at e1
      unfold PRep DRep CRep at e1
      obtain ⟨b, off, e2, e3⟩ := e1
      obtain ⟨us, e4, e5, _⟩ := csAt_values e3
      obtain ⟨u, h3, h4⟩ := h2 σ F w b off us (dsRep_of_cs e4) e5
      exact ⟨u, by simp only [execOp, ho, e2, Instr.loadAt, Instr.sureAddr, Sem.run_bind, Sem.run_pure, Result.andThen_ok, h3], h4⟩
    · rename_i k off hx
      split at hv
      · rename_i bt l hk
        obtain ⟨v, h1, h2⟩ := readP_out hv
        refine .inl ⟨v, [], [(k, .box bt l)], h1, by simpa using hk, semStep_val _ fun c σ h' a w hs hrf hp => ?_⟩
        have hk' := hrf (k, .box bt l) (by simp)
        have e1 := hp x (by simp [ho, Op.operands])
        rw [hx] at e1
        unfold PRep DRep at e1
        obtain ⟨g, n, e2, e3⟩ := e1
        obtain ⟨g', n', cur, e4, e5, e6, e7⟩ := hs.hp k _ hk'
        rw [e2] at e4; cases e4
        obtain ⟨u, h3, h4⟩ := h2 σ _ w g off (cur.toList.drop off) (e7.drop off) (fun j v hv => by
          rw [cell_of_row _ _ _ _ _ _ e6]
          rw [List.getElem?_drop] at hv
          simpa using hv)
        exact ⟨u, by simp only [execOp, ho, e3, Instr.loadAt, Instr.sureAddr, Sem.run_bind, Sem.run_pure, Result.andThen_ok, h3], h4⟩
      · exact hv.elim
    · rename_i k sz j off hx
      split at hv
      · rename_i e0 s rows hk
        split at hv
        · rename_i es
          obtain rfl := Nat.eq_of_beq_eq_true es
          obtain ⟨r, hr, hv⟩ := hv
          obtain ⟨v, h1, h2⟩ := readP_out hv
          refine .inl ⟨v, [], [(k, .arr e0 s rows)], h1, by simpa using hk, semStep_val _ fun c σ h' a w hs hrf hp => ?_⟩
          have hk' := hrf (k, .arr e0 s rows) (by simp)
          have e1 := hp x (by simp [ho, Op.operands])
          rw [hx] at e1
          unfold PRep DRep at e1
          obtain ⟨g, n, e2, e3⟩ := e1
          obtain ⟨hz, hrl, ob, n', e4, e5⟩ := hs.hp k _ hk'
          rw [e2] at e4; cases e4
          obtain ⟨e5, cur, e6, e7, e8⟩ := e5
          have hrep := row_rep hrl hr e8
          obtain ⟨u, h3, h4⟩ := h2 σ _ w g (j * s + off) ((((cur.toList.take (rows.length * s)).drop (j * s)).take s).drop off) (dsRep_of_cs (hrep.drop off)) (fun q v hv => by
            rw [cell_of_row _ _ _ _ _ _ e6]
            rw [List.getElem?_drop, List.getElem?_take] at hv
            split at hv
            · rw [List.getElem?_drop, List.getElem?_take] at hv
              split at hv
              · rw [← Array.getElem?_toList, ← hv]; congr 1; omega
              · cases hv
            · cases hv)
          exact ⟨u, by simp only [execOp, ho, e3, Instr.loadAt, Instr.sureAddr, Sem.run_bind, Sem.run_pure, Result.andThen_ok, h3], h4⟩
        · exact hv.elim
      · exact hv.elim
    · exact hv.elim
  · rename_i t x y ho
    exact storeP_out ho hv
  · rename_i t ho
    exact allocP_out ho hv
  · rename_i t x ho
    exact boxP_out ho hv
  · -- build
    rename_i t parts ho
    obtain ⟨v, h1, h2⟩ := buildP_out hv
    refine outc_val h1 fun σ F a w hp => ?_
    obtain ⟨u, h3, h4⟩ := h2 σ F w a.eval (fun p hpm => hp p.2 (by
      simp only [ho, Op.operands, Array.mem_def, List.mem_map]
      exact ⟨p, Array.mem_def.1 hpm, rfl⟩))
    refine ⟨u, ?_, h4⟩
    simp only [execOp, ho, Sem.run_bind, h3, Result.andThen_ok]
    rfl
  · rename_i t n parts ho
    exact buildSliceP_out ho hv
  · -- call
    rename_i cl ho
    unfold callP at hv
    split at hv
    · rename_i b hb
      split at hv
      · rename_i x t ha hat
        obtain ⟨v, h1, h2⟩ := lenP_out hv
        refine outc_val h1 fun σ F a w hp => ?_
        obtain ⟨callee, args, tys⟩ := cl
        simp only at hb ha hat
        subst hb
        have ha' : args = #[x] := by apply Array.toList_inj.1; rw [ha]
        have hat' : tys = #[t] := by apply Array.toList_inj.1; rw [hat]
        subst ha' hat'
        obtain ⟨u, h3, h4⟩ := h2 σ F w _ o.type (hp x (by simp [ho, Op.operands, Call.operands]))
        exact ⟨u, by simp [execOp, ho, resolve, invoke, builtin, h3], h4⟩
      · rename_i s x t t2 ha hat
        obtain ⟨callee, args, tys⟩ := cl
        simp only at hb ha hat
        subst hb
        have ha' : args = #[s, x] := by apply Array.toList_inj.1; rw [ha]
        have hat' : tys = #[t, t2] := by apply Array.toList_inj.1; rw [hat]
        subst ha' hat'
        split at hv
        · rename_i z hz; exact appStrP_out ho hz hv
        · rename_i hz; exact appendP_out ho hv
      · rename_i x t0 ha hat
        obtain ⟨callee, args, tys⟩ := cl
        simp only at hb ha hat
        subst hb
        have ha' : args = #[x] := by apply Array.toList_inj.1; rw [ha]
        have hat' : tys = #[t0] := by apply Array.toList_inj.1; rw [hat]
        subst ha' hat'
        exact sdataP_out ho rfl hv fun v hv => hv
      · rename_i x n pt t1 ha hat
        obtain ⟨callee, args, tys⟩ := cl
        simp only at hb ha hat
        subst hb
        have ha' : args = #[x, n] := by apply Array.toList_inj.1; rw [ha]
        have hat' : tys = #[pt, t1] := by apply Array.toList_inj.1; rw [hat]
        subst ha' hat'
        exact ustrP_out ho hv
      · rename_i x y ha
        obtain ⟨callee, args, tys⟩ := cl
        simp only at hb ha
        subst hb
        have ha' : args = #[x, y] := by apply Array.toList_inj.1; rw [ha]
        subst ha'
        obtain ⟨v, h1, h2⟩ := minmaxP_out hv
        refine outc_val h1 fun σ F a w hp => ?_
        obtain ⟨z, h3, h4⟩ := h2 P σ F w _ _ tys o.type (hp x (by simp [ho, Op.operands, Call.operands])) (hp y (by simp [ho, Op.operands, Call.operands]))
        simp only [cond_false] at h3
        exact ⟨z, by simp [execOp, ho, resolve, invoke, builtin, h3], h4⟩
      · rename_i x y ha
        obtain ⟨callee, args, tys⟩ := cl
        simp only at hb ha
        subst hb
        have ha' : args = #[x, y] := by apply Array.toList_inj.1; rw [ha]
        subst ha'
        obtain ⟨v, h1, h2⟩ := minmaxP_out hv
        refine outc_val h1 fun σ F a w hp => ?_
        obtain ⟨z, h3, h4⟩ := h2 P σ F w _ _ tys o.type (hp x (by simp [ho, Op.operands, Call.operands])) (hp y (by simp [ho, Op.operands, Call.operands]))
        simp only [cond_true] at h3
        exact ⟨z, by simp [execOp, ho, resolve, invoke, builtin, h3], h4⟩
      · exact hv.elim
    · rename_i f hf
      obtain ⟨callee, args, tys⟩ := cl
      simp only at hf
      subst hf
      have hargs : ∀ (σ : Sg) (F : Fzn) (w : World) (a : Act), (∀ x ∈ o.op.operands, PRep σ F w (e x) (a.eval x)) → (PRep σ F w (e f) (a.eval f)) ∧ ∀ x ∈ args.toList, PRep σ F w (e x) (a.eval x) := by
        intro σ F w a hx
        refine ⟨hx f (by simp [ho, Op.operands, Call.operands]), fun x hxm => hx x ?_⟩
        simp only [ho, Op.operands, Call.operands, Array.mem_append]
        exact .inr (by simpa using hxm)
      split at hv
      · rename_i g first captured hg
        split at hv
        · rename_i h1 h2
          obtain ⟨ys, hv, hys⟩ := mapE_out hv
          refine callFn_out ho (fun σ F w a hx => ⟨[], [], ?_, ?_⟩) hv
          · have := (hargs σ F w a hx).1
            rw [hg] at this
            rw [rep_v this]
            have hf1 : first = #[] := by apply Array.toList_inj.1; rw [h1]
            have hf2 : captured = #[] := by apply Array.toList_inj.1; rw [h2]
            rw [hf1, hf2]
          · simpa using hys σ F w a.eval (hargs σ F w a hx).2
        · exact hv.elim
      · rename_i g da dl hg
        obtain ⟨ys, hv, hys⟩ := mapE_out hv
        refine callFn_out ho (fun σ F w a hx => ?_) (forceL_out (K := fun zs => CallP P g zs h K X) hv)
        have := (hargs σ F w a hx).1
        rw [hg] at this
        unfold PRep DRep at this
        obtain ⟨us, vs, g1, g2, g3⟩ := this
        exact ⟨us, vs, g1, psRep_append (psRep_pds g2) (psRep_append (hys σ F w a.eval (hargs σ F w a hx).2) (psRep_pds g3))⟩
      · exact hv.elim
    · exact hv.elim
  · -- makeInterface
    rename_i t x ho
    obtain ⟨v, h1, h2⟩ := ifaceP_out hv
    refine outc_val h1 fun σ F a w hp => ?_
    obtain ⟨z, h3, h4⟩ := h2 σ F w _ (hp x (by simp [ho, Op.operands]))
    exact ⟨z, by simp [execOp, ho, h3], h4⟩
  · -- typeAssert
    rename_i x xt asserted ok ho
    obtain ⟨v, h1, h2⟩ := assertP_out hv
    refine outc_val h1 fun σ F a w hp => ?_
    obtain ⟨z, h3, h4⟩ := h2 σ F w _ xt (hp x (by simp [ho, Op.operands]))
    exact ⟨z, by simp [execOp, ho, h3], h4⟩
  · rename_i t n cc ho
    exact makeP_out ho hv
  · -- makeFunc
    rename_i f first captured ho
    obtain ⟨ys, hv, hys⟩ := mapE_out hv
    obtain ⟨da, hv, hda⟩ := dsOf_out hv
    obtain ⟨zs, hv, hzs⟩ := mapE_out hv
    obtain ⟨dl, hv, hdl⟩ := dsOf_out hv
    refine outc_val hv fun σ F a w hp => ⟨.func (.func f) (first.map a.eval) (captured.map a.eval), by simp [execOp, ho, Instr.makeFunc], ?_⟩
    unfold PRep DRep
    have m1 : ∀ x ∈ first.toList, PRep σ F w (e x) (a.eval x) := fun x hx => hp x (by simp only [ho, Op.operands, Array.mem_append]; exact .inl (by simpa using hx))
    have m2 : ∀ x ∈ captured.toList, PRep σ F w (e x) (a.eval x) := fun x hx => hp x (by simp only [ho, Op.operands, Array.mem_append]; exact .inr (by simpa using hx))
    exact ⟨first.toList.map a.eval, captured.toList.map a.eval, by simp [← Array.toList_map], hda _ _ _ _ (hys σ F w a.eval m1), hdl _ _ _ _ (hzs σ F w a.eval m2)⟩
  · -- panic
    rename_i x ho
    split at hv
    · rename_i t v hx
      refine .inr ⟨_, [], hv, by simp, ?_⟩
      intro c σ h' a w hc hs hp hrf next Q KK
      have e1 := hp x (by simp [ho, Op.operands])
      rw [hx] at e1
      unfold Oper.wp
      simp only [execOp, ho, rep_v e1, Instr.panic, goPanic, Sem.run_bind, Sem.run_halt, Result.andThen_halt]
      exact KK w (PanW.of_sw hs)
    · exact hv.elim
  · exact hv.elim

end Go.Proofs.YthogcgnhhcbkkaaDoor.Pm
