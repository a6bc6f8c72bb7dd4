/- The model does what the plain machine reckons: new blocks, stores, calls. -/
import Derived.Test.YthogcgnhhcbkkaaDoorPmSim3
namespace Go.Proofs.YthogcgnhhcbkkaaDoor.Pm
open Go.RowKit
set_option linter.unusedVariables false

section
variable {c : Ctx} {σ σ' : Sg} {h : Hp} {w w' : World}

theorem HbOk.evo {F F' : Fzn} {own : Nat → Prop} (ev : Evo σ σ' F F' w w') {k : Nat} {hb : HB} (hk : HbOk σ F w own k hb)
    (hsame : ∀ g n, σ k = some (some g, n) → w'.heap[g]? = w.heap[g]?) : HbOk σ' F' w' own k hb := by
  cases hb with
  | box bt l =>
    obtain ⟨g, n, cs, h1, h2, h3, h4⟩ := hk
    exact ⟨g, n, cs, ev.sg _ _ h1, h2, (hsame g n h1).trans h3, DsRep.evo ev _ _ h4⟩
  | tail e sz =>
    obtain ⟨h0, ob, n, h1, h2⟩ := hk
    refine ⟨h0, ob, n, ev.sg _ _ h1, ?_⟩
    cases ob with
    | none => exact h2
    | some g =>
      obtain ⟨h3, cur, h4⟩ := h2
      exact ⟨h3, cur, (hsame g n h1).trans h4⟩
  | arr e sz rows =>
    obtain ⟨h0, hr, ob, n, h1, h2⟩ := hk
    refine ⟨h0, hr, ob, n, ev.sg _ _ h1, ?_⟩
    cases ob with
    | none => exact h2
    | some g =>
      obtain ⟨h3, cur, h4, h5, h6⟩ := h2
      exact ⟨h3, cur, (hsame g n h1).trans h4, h5, CsRep.keeps ev.keeps _ _ h6⟩

theorem hb_block {F : Fzn} {own : Nat → Prop} {k : Nat} {hb : HB} (hk : HbOk σ F w own k hb) {g n : Nat} (hs : σ k = some (some g, n)) : g < w.heap.size ∧ own g := by
  cases hb with
  | box bt l =>
    obtain ⟨g', n', cs, h1, h2, h3, h4⟩ := hk
    rw [hs] at h1; cases h1
    exact ⟨(Array.getElem?_eq_some_iff.1 h3).1, h2⟩
  | tail e sz =>
    obtain ⟨h0, ob, n', h1, h2⟩ := hk
    rw [hs] at h1; cases h1
    obtain ⟨h3, cur, h4⟩ := h2
    exact ⟨(Array.getElem?_eq_some_iff.1 h4).1, h3⟩
  | arr e sz rows =>
    obtain ⟨h0, _, ob, n', h1, h2⟩ := hk
    rw [hs] at h1; cases h1
    obtain ⟨h3, cur, h4, _⟩ := h2
    exact ⟨(Array.getElem?_eq_some_iff.1 h4).1, h3⟩
theorem hb_sg {F : Fzn} {own : Nat → Prop} {k : Nat} {hb : HB} (hk : HbOk σ F w own k hb) : σ k ≠ none := by
  cases hb with
  | box bt l => obtain ⟨g', n', cs, h1, _⟩ := hk; rw [h1]; simp
  | tail e sz => obtain ⟨h0, ob, n', h1, _⟩ := hk; rw [h1]; simp
  | arr e sz rows => obtain ⟨h0, _, ob, n', h1, _⟩ := hk; rw [h1]; simp
theorem hp_none (hs : SW c σ h w) {k : Nat} (hσ : σ k = none) : h k = none := by
  cases hq : h k with
  | none => rfl
  | some hb => exact absurd hσ (hb_sg (hs.hp _ _ hq))
theorem fz_lt (hs : SW c σ h w) {b o : Nat} (hf : fz c σ h w b o) : b < w.heap.size := by
  rcases hf with hf | hf
  · exact Nat.lt_of_lt_of_le hf.1 hs.size
  · exact hf.2.1

/-- the world behind a call that turns nothing -/
theorem evo_below (hs : SW c σ h w) (hb : Below w.heap.size w w') : Evo σ σ (fz c σ h w) (fz c σ h w') w w' where
  sg := fun _ _ h => h
  keeps := by
    refine ⟨fun b o hf => ?_, fun b o hf => ?_⟩
    · rcases hf with hf | ⟨h1, h2, h3⟩
      · exact .inl hf
      · exact .inr ⟨h1, Nat.lt_of_lt_of_le h2 hb.size, h3⟩
    · unfold World.cell?
      rw [hb.block b (fz_lt hs hf)]
  shape := fun g cur e fr hg => ⟨cur, fr, by rw [hb.block g (Array.getElem?_eq_some_iff.1 hg).1]; exact hg, rfl⟩
theorem sw_below (hs : SW c σ h w) (hb : Below w.heap.size w w') : SW c σ h w' where
  os := hb.os.trans hs.os
  tape := hb.tape.trans hs.tape
  output := hb.output.trans hs.output
  size := Nat.le_trans hs.size hb.size
  block := fun b h1 h2 => by rw [hb.block b (Nat.lt_of_lt_of_le h1 hs.size)]; exact hs.block b h1 h2
  hp := fun k hb' hk => (hs.hp k hb' hk).evo (evo_below hs hb) fun g n hg => hb.block g (hb_block (hs.hp k hb' hk) hg).1
  inj := hs.inj
  kept := hs.kept.trans (evo_below hs hb).keeps
  shape := hs.shape.trans (evo_below hs hb).shape
  sg0 := hs.sg0

/-- a new block under a new key -/
theorem evo_new (hs : SW c σ h w) {key : Nat} (h0 : σ key = none) (obj : Obj) (n : Nat) (hb : HB) :
    Evo σ (upd σ key (some (some w.heap.size, n))) (fz c σ h w) (fz c (upd σ key (some (some w.heap.size, n))) (upd h key (some hb)) (w.alloc obj)) w (w.alloc obj) where
  sg := fun k x hx => by rw [upd_ne _ _ (fun e => by rw [e, h0] at hx; cases hx)]; exact hx
  keeps := by
    refine ⟨fun b o hf => ?_, fun b o hf => ?_⟩
    · rcases hf with hf | ⟨h1, h2, h3⟩
      · exact .inl hf
      · refine .inr ⟨h1, by simp; omega, fun k n' hb' hk hσ => ?_⟩
        by_cases hkk : k = key
        · subst hkk
          rw [upd_same] at hσ
          simp only [Option.some.injEq, Prod.mk.injEq] at hσ
          omega
        · rw [upd_ne _ _ hkk] at hk hσ
          exact h3 k n' hb' hk hσ
    · unfold World.cell?
      rw [heap_alloc_old w obj (fz_lt hs hf)]
  shape := fun g cur e fr hg => ⟨cur, fr, by rw [heap_alloc_old w obj (Array.getElem?_eq_some_iff.1 hg).1]; exact hg, rfl⟩
theorem sw_new (hs : SW c σ h w) {key : Nat} (h0 : σ key = none) (obj : Obj) (n : Nat) (hb : HB)
    (hnew : HbOk (upd σ key (some (some w.heap.size, n))) (fz c (upd σ key (some (some w.heap.size, n))) (upd h key (some hb)) (w.alloc obj)) (w.alloc obj) c.own key hb) :
    SW c (upd σ key (some (some w.heap.size, n))) (upd h key (some hb)) (w.alloc obj) where
  os := hs.os
  tape := hs.tape
  output := hs.output
  size := by have := hs.size; simp; omega
  block := fun b h1 h2 => by rw [heap_alloc_old w obj (Nat.lt_of_lt_of_le h1 hs.size)]; exact hs.block b h1 h2
  hp := fun k hb' hk => by
    by_cases hkk : k = key
    · subst hkk
      rw [upd_same] at hk
      cases hk
      exact hnew
    · rw [upd_ne _ _ hkk] at hk
      exact (hs.hp k hb' hk).evo (evo_new hs h0 obj n hb) fun g n' hg => heap_alloc_old w obj (hb_block (hs.hp k hb' hk) hg).1
  inj := fun k k' g n1 n2 hk hk' hσ hσ' => by
    by_cases e1 : k = key
    · by_cases e2 : k' = key
      · rw [e1, e2]
      · subst e1
        rw [upd_same] at hσ
        rw [upd_ne _ _ e2] at hσ' hk'
        simp only [Option.some.injEq, Prod.mk.injEq] at hσ
        cases hh : h k' with
        | none => exact absurd hh hk'
        | some hb' =>
          have := (hb_block (hs.hp k' hb' hh) hσ').1
          omega
    · rw [upd_ne _ _ e1] at hσ hk
      by_cases e2 : k' = key
      · subst e2
        rw [upd_same] at hσ'
        simp only [Option.some.injEq, Prod.mk.injEq] at hσ'
        cases hh : h k with
        | none => exact absurd hh hk
        | some hb' =>
          have := (hb_block (hs.hp k hb' hh) hσ).1
          omega
      · rw [upd_ne _ _ e2] at hσ' hk'
        exact hs.inj k k' g n1 n2 hk hk' hσ hσ'
  kept := hs.kept.trans (evo_new hs h0 obj n hb).keeps
  shape := hs.shape.trans (evo_new hs h0 obj n hb).shape
  sg0 := fun k x hk => (evo_new hs h0 obj n hb).sg _ _ (hs.sg0 k x hk)
end

/-- a draw turns nothing -/
theorem sw_drew {c : Ctx} {σ : Sg} {h : Hp} {w : World} (hs : SW c σ h w) : SW c σ h w.drew := sw_below hs ⟨rfl, rfl, rfl, Nat.le_refl _, fun _ _ => rfl⟩
theorem Evo.trans {σ σ1 σ2 : Sg} {F F1 F2 : Fzn} {w w1 w2 : World} (a : Evo σ σ1 F F1 w w1) (b : Evo σ1 σ2 F1 F2 w1 w2) : Evo σ σ2 F F2 w w2 where
  sg := fun k x h => b.sg _ _ (a.sg _ _ h)
  keeps := a.keeps.trans b.keeps
  shape := a.shape.trans b.shape

/-- a box is made -/
theorem semStep_box {P : Program} {o : Oper} {key : Nat} {e : Operand → PV} {l : List D} {T : TypeId}
    (hr : ∀ (σ : Sg) (F : Fzn) (a : Act) (w : World), (∀ x ∈ o.op.operands, PRep σ F w (e x) (a.eval x)) →
      ∃ us : List Value, DsRep σ F w l us ∧ (execOp a.eval o).run P w = .ok (.value (.pointer (some ⟨w.heap.size, 0, none⟩))) (w.alloc (.cells us.toArray T))) :
    SemStep P o e (.d (.ptr key 0)) [(key, some (.box T l))] [] := by
  intro c σ h a w hc hs hx hrf hfr next Q K
  have h0 : σ key = none := hfr key (by simp [Dl.keys]) (by simp)
  obtain ⟨us, h1, h2⟩ := hr σ (fz c σ h w) a w hx
  unfold Oper.wp
  rw [h2]
  have ev := evo_new hs h0 (.cells us.toArray T) 0 (.box T l)
  refine K _ (upd σ key (some (some w.heap.size, 0))) _ ev (sw_new hs h0 _ 0 _ ?_) ?_ ?_
  · exact ⟨w.heap.size, 0, us.toArray, upd_same .., .inl hs.size, heap_alloc_new w _, DsRep.evo ev _ _ (by simpa using h1)⟩
  · unfold PRep DRep
    exact ⟨w.heap.size, 0, upd_same .., rfl⟩
  · intro k hk hn; rw [upd_ne _ _ (by simpa [Dl.keys] using hk)]; exact hn

theorem cells_out {v : PV} {K : List D → Prop} (h : PV.cells v K) : ∃ l, K l ∧ (v = .agg l ∨ ∃ x, v = .d x ∧ l = [x]) := by
  unfold PV.cells at h
  split at h
  · exact ⟨_, h, .inr ⟨_, rfl, rfl⟩⟩
  · exact ⟨_, h, .inl rfl⟩
  · exact h.elim
theorem cells_rep {σ : Sg} {F : Fzn} {w : World} {v : PV} {l : List D} {u : Value} (hv : v = .agg l ∨ ∃ x, v = .d x ∧ l = [x]) (h : PRep σ F w v u) : DsRep σ F w l u.cells.toList := by
  rcases hv with rfl | ⟨x, rfl, rfl⟩
  · unfold PRep at h
    obtain ⟨xs, rfl, h⟩ := h
    simpa [Value.cells] using h
  · unfold PRep at h
    have h1 := oneCell_of_drep h
    have : u.cells = #[u] := by cases u <;> first | rfl | cases h1
    rw [this]
    exact dsRep_cons h dsRep_nil
theorem zeroCells_out {P : Program} {t : TypeId} {K : List D → Prop} (h : zeroCells P t K) :
    ∃ i z, P.info? t = some i ∧ i.zero = some z ∧ K (z.cells.toList.map fun x => D.c (C.v x)) ∧ ∀ (σ : Sg) (F : Fzn) (w : World), DsRep σ F w (z.cells.toList.map fun x => D.c (C.v x)) z.cells.toList := by
  unfold zeroCells at h
  split at h
  · rename_i i hi
    split at h
    · rename_i z hz
      split at h
      · rename_i hall
        refine ⟨i, z, hi, hz, forceL_out h, fun σ F w => ?_⟩
        have : ∀ l : List Value, l.all Value.oneCell' = true → DsRep σ F w (l.map fun x => D.c (C.v x)) l := by
          intro l
          induction l with
          | nil => intro _; exact dsRep_nil
          | cons x l ih =>
            intro hl
            simp only [List.all_cons, Bool.and_eq_true] at hl
            exact dsRep_cons (by unfold DRep CRep; exact ⟨rfl, hl.1⟩) (ih hl.2)
        exact this _ hall
      · exact h.elim
    · exact h.elim
  · exact h.elim

theorem allocP_out {P : Program} {o : Oper} {key : Nat} {e : Operand → PV} {h : Hp} {t : TypeId} {K : OpK} {X : Value → Prop} (ho : o.op = .alloc t) (hv : allocP P key t K) : Outc P o e h K X := by
  unfold allocP at hv
  obtain ⟨i, z, hi, hz, hk, hr⟩ := zeroCells_out hv
  refine .inl ⟨_, _, [], hk, by simp, semStep_box fun σ F a w _ => ⟨z.cells.toList, hr σ F w, ?_⟩⟩
  simp [execOp, ho, Instr.alloc, zeroValue, typeInfo, hi, hz, newVar, newRow]
theorem boxP_out {P : Program} {o : Oper} {key : Nat} {e : Operand → PV} {h : Hp} {t : TypeId} {x : Operand} {K : OpK} {X : Value → Prop} (ho : o.op = .box t x) (hv : boxP key t (e x) K) : Outc P o e h K X := by
  unfold boxP at hv
  obtain ⟨l, hk, hl⟩ := cells_out hv
  refine .inl ⟨_, _, [], hk, by simp, semStep_box fun σ F a w hx => ⟨(a.eval x).cells.toList, cells_rep hl (hx x (by simp [ho, Op.operands])), ?_⟩⟩
  simp [execOp, ho, Instr.box, newVar, newRow]

/-! ### to close -/
theorem close_rep {x : D} {K : C → Prop} (h : D.close x K) : ∃ y, K y ∧ ∀ (σ : Sg) (F : Fzn) (w : World) (u : Value), DRep σ F w x u → CRep F w y u := by
  unfold D.close at h
  split at h
  · exact ⟨_, h, fun σ F w u hu => by unfold DRep at hu; exact hu⟩
  · rename_i k e sz l
    refine ⟨_, h, fun σ F w u hu => ?_⟩
    have := rows_val (σ := σ) (F := F) (w := w) (x := .d (.app k e sz l)) (.inr ⟨k, e, rfl⟩) (u := u) (by unfold PRep; exact hu)
    unfold CRep
    exact this
  · rename_i f
    refine ⟨_, h, fun σ F w u hu => ?_⟩
    unfold DRep at hu
    obtain ⟨us, vs, rfl, h1, h2⟩ := hu
    rw [dsRep_nil_inv h1, dsRep_nil_inv h2]
    unfold CRep
    exact ⟨rfl, rfl⟩
  · exact h.elim
/-- one row of many, turned in part -/
theorem set_flatten {s : Nat} : ∀ {rows : List (List C)} {j off : Nat} {r ds : List C}, (∀ r ∈ rows, r.length = s) → rows[j]? = some r → off + ds.length ≤ s →
    (rows.set j (r.take off ++ ds ++ r.drop (off + ds.length))).flatten = rows.flatten.take (j * s + off) ++ ds ++ rows.flatten.drop (j * s + off + ds.length)
  | [], j, off, r, ds, _, h, _ => by simp at h
  | r0 :: rows, 0, off, r, ds, hl, h, hle => by
    simp only [List.getElem?_cons_zero, Option.some.injEq] at h
    subst h
    have hr := hl r0 (List.mem_cons_self ..)
    simp only [List.set_cons_zero, List.flatten_cons, Nat.zero_mul, Nat.zero_add]
    rw [List.take_append_of_le_length (by omega), List.drop_append_of_le_length (by omega)]; simp only [List.append_assoc]
  | r0 :: rows, j + 1, off, r, ds, hl, h, hle => by
    simp only [List.getElem?_cons_succ] at h
    have hr := hl r0 (List.mem_cons_self ..)
    have ih := set_flatten (fun r hr => hl r (List.mem_cons_of_mem _ hr)) h hle
    simp only [List.set_cons_succ, List.flatten_cons]
    rw [ih, show (j + 1) * s + off = r0.length + (j * s + off) by rw [hr, Nat.add_mul]; omega, List.take_length_add_append, show r0.length + (j * s + off) + ds.length = r0.length + (j * s + off + ds.length) by omega, List.drop_length_add_append]
    simp only [List.append_assoc]

/-! ### stores -/
theorem setCs_rep {σ : Sg} {F : Fzn} {w : World} {l cs : List D} {us vs : List Value} (off : Nat) (h1 : DsRep σ F w l us) (h2 : DsRep σ F w cs vs) :
    DsRep σ F w (setCs l off cs) (us.take off ++ vs ++ us.drop (off + vs.length)) := by
  unfold setCs
  rw [h2.len]
  exact ((h1.take off).append h2).append (h1.drop _)
/-- a row of one's own is turned: what was frozen stays -/
theorem evo_set {c : Ctx} {σ : Sg} {h : Hp} {w : World} (hs : SW c σ h w) (hc : c.Ok) {k g n : Nat} {hb hb' : HB} {cur cur' : Array Value} {T : TypeId} (hk : h k = some hb) (hσ : σ k = some (some g, n)) (hnt : ∀ o, ¬ hb.shut n o)
    (h3 : w.heap[g]? = some (.cells cur T (0, 0))) (hsz : cur'.size = cur.size) :
    Evo σ σ (fz c σ h w) (fz c σ (upd h k (some hb')) (w.setRow g cur')) w (w.setRow g cur') := by
  have hown := (hb_block (hs.hp k hb hk) hσ).2
  have hnf : ∀ off', ¬ fz c σ h w g off' := by
    intro off' hf
    rcases hf with ⟨f1, f2⟩ | ⟨f1, f2, f3⟩
    · rcases hown with h2 | h2
      · omega
      · exact (hc.fz _ _ f2).2 h2
    · exact hnt _ (f3 k n hb hk hσ)
  have hfz : ∀ b o', fz c σ h w b o' → fz c σ (upd h k (some hb')) (w.setRow g cur') b o' := by
    intro b o' hf
    have hbg : b ≠ g := fun e => hnf o' (e ▸ hf)
    rcases hf with hf | ⟨f1, f2, f3⟩
    · exact .inl hf
    · refine .inr ⟨f1, by simpa [World.setRow] using f2, fun k2 n2 hb2 hk2 hσ2 => ?_⟩
      by_cases e : k2 = k
      · subst e; rw [hσ] at hσ2; cases hσ2; exact absurd rfl hbg
      · rw [upd_ne _ _ e] at hk2; exact f3 k2 n2 hb2 hk2 hσ2
  refine ⟨fun _ _ h => h, ⟨hfz, fun b o' hf => ?_⟩, fun g2 cur2 e2 fr2 hg2 => ?_⟩
  · have hbg : b ≠ g := fun e => hnf o' (e ▸ hf)
    unfold World.cell?
    rw [setRow_other w g b _ hbg]
  · by_cases e : g2 = g
    · subst e
      rw [h3] at hg2
      cases hg2
      exact ⟨cur', _, setRow_heap w g2 cur cur' T _ h3, hsz⟩
    · exact ⟨cur2, _, by rw [setRow_other w g g2 _ e]; exact hg2, rfl⟩
theorem sw_set {c : Ctx} {σ : Sg} {h : Hp} {w : World} (hs : SW c σ h w) (hc : c.Ok) {k g n : Nat} {hb hb' : HB} {cur cur' : Array Value} {T : TypeId} (hk : h k = some hb) (hσ : σ k = some (some g, n)) (hnt : ∀ o, ¬ hb.shut n o)
    (h3 : w.heap[g]? = some (.cells cur T (0, 0))) (hsz : cur'.size = cur.size) (hnew : HbOk σ (fz c σ (upd h k (some hb')) (w.setRow g cur')) (w.setRow g cur') c.own k hb') :
    SW c σ (upd h k (some hb')) (w.setRow g cur') := by
  have hown := (hb_block (hs.hp k hb hk) hσ).2
  have ev := evo_set (hb' := hb') hs hc hk hσ hnt h3 hsz
  refine ⟨hs.os, hs.tape, hs.output, by simpa [World.setRow] using hs.size, fun b b1 b2 => ?_, fun k2 hb2 hk2 => ?_, fun k1 k2 g2 n1 n2 a1 a2 a3 a4 => ?_, hs.kept.trans ev.keeps, hs.shape.trans ev.shape, hs.sg0⟩
  · have hbg : b ≠ g := by
      rintro rfl
      rcases hown with h2 | h2
      · omega
      · exact b2 h2
    rw [setRow_other w g b _ hbg]; exact hs.block b b1 b2
  · by_cases e : k2 = k
    · subst e
      rw [upd_same] at hk2
      cases hk2
      exact hnew
    · rw [upd_ne _ _ e] at hk2
      refine (hs.hp k2 hb2 hk2).evo ev fun g2 n2 hg2 => setRow_other w g g2 _ fun e2 => e ?_
      subst e2
      exact hs.inj k2 k g2 n2 n (by rw [hk2]; simp) (by rw [hk]; simp) hg2 hσ
  · have fx : ∀ q, upd h k (some hb') q ≠ none → h q ≠ none := by
      intro q hq
      by_cases e : q = k
      · subst e; rw [hk]; simp
      · rwa [upd_ne _ _ e] at hq
    exact hs.inj k1 k2 g2 n1 n2 (fx _ a1) (fx _ a2) a3 a4

theorem closeL_out : ∀ {l : List D} {K : List C → Prop}, closeL l K → ∃ ys, K ys ∧ ∀ (σ : Sg) (F : Fzn) (w : World) (us : List Value), DsRep σ F w l us → CsRep F w ys us
  | [], K, h => ⟨[], h, fun σ F w us hu => by rw [dsRep_nil_inv hu]; exact csRep_nil⟩
  | x :: xs, K, h => by
    unfold closeL at h
    obtain ⟨y, h1, h2⟩ := close_rep h
    obtain ⟨ys, h3, h4⟩ := closeL_out h1
    refine ⟨y :: ys, h3, fun σ F w us hu => ?_⟩
    obtain ⟨u, vs, rfl, g1, g2⟩ := dsRep_inv hu
    exact csRep_cons (h2 σ F w u g1) (h4 σ F w vs g2)

theorem storeP_out {P : Program} {o : Oper} {e : Operand → PV} {h : Hp} {t : TypeId} {x y : Operand} {K : OpK} {X : Value → Prop} (ho : o.op = .store t x y) (hv : storeP P h t (e x) (e y) K) : Outc P o e h K X := by
  unfold storeP at hv
  split at hv
  · rename_i k off hx
    split at hv
    · rename_i bt l hk
      obtain ⟨cs, hv, hcs⟩ := cells_out hv
      split at hv
      · rename_i i hi
        split at hv
        · rename_i e1 e2
          have e1 := Nat.eq_of_beq_eq_true e1
          have e2 := Nat.le_of_ble_eq_true e2
          have hv := forceL_out (K := fun l' => K (.tup []) [(k, some (.box bt l'))] [(k, .box bt l)]) hv
          refine .inl ⟨_, _, [(k, .box bt l)], hv, by simpa using hk, ?_⟩
          intro c σ h' a w hc hs hop hrf hfr next Q KK
          have hk' : h' k = some (.box bt l) := hrf (k, .box bt l) (by simp)
          have hpx := hop x (by simp [ho, Op.operands])
          have hpy := hop y (by simp [ho, Op.operands])
          rw [hx] at hpx
          unfold PRep DRep at hpx
          obtain ⟨g, n, hσ, hax⟩ := hpx
          have hyc := cells_rep hcs hpy
          obtain ⟨g', n', cur, h1, h2, h3, h4⟩ := hs.hp k _ hk'
          rw [hσ] at h1; cases h1
          have hlen := h4.len
          rw [Array.length_toList] at hlen
          have hyl := hyc.len
          rw [Array.length_toList] at hyl
          have hst := run_storeCells_at (P := P) g off bt (a.eval y).cells.toList 0 cur w h3 (by rw [Array.length_toList]; omega) hyc.one
          simp only [Nat.add_zero] at hst
          obtain ⟨cur', hcur'⟩ : ∃ cur', (cur.toList.take off ++ (a.eval y).cells.toList ++ cur.toList.drop (off + (a.eval y).cells.toList.length)).toArray = cur' := ⟨_, rfl⟩
          rw [hcur'] at hst
          have hsz : cur'.size = cur.size := by
            rw [← hcur']
            simp only [List.size_toArray, List.length_append, List.length_take, List.length_drop, Array.length_toList]
            omega
          have hrun : (execOp a.eval o).run P w = .ok .skip (w.setRow g cur') := by
            simp [execOp, ho, hax, Instr.storeAt, Instr.sureAddr, storeVar, sizeOf, typeInfo, hi, show (a.eval y).cells.size = i.size by omega, hst]
          unfold Oper.wp
          rw [hrun]
          have ev := evo_set (hb' := .box bt (setCs l off cs)) hs hc hk' hσ (fun _ q => q) h3 hsz
          refine KK undef σ _ ev (sw_set hs hc hk' hσ (fun _ q => q) h3 hsz ⟨g, n, cur', hσ, h2, setRow_heap w g cur cur' bt _ h3, ?_⟩) (by unfold PRep; exact ⟨[], rfl, by unfold PsRep; trivial⟩) (fun _ _ h => h)
          have hc2 : cur'.toList = cur.toList.take off ++ (a.eval y).cells.toList ++ cur.toList.drop (off + (a.eval y).cells.toList.length) := by rw [← hcur']
          rw [hc2]
          exact DsRep.evo ev _ _ (setCs_rep off h4 hyc)
        · exact hv.elim
      · exact hv.elim
    · exact hv.elim
  · rename_i k sz j off hx
    split at hv
    · rename_i e0 s rows hk
      split at hv
      · rename_i es
        obtain rfl := Nat.eq_of_beq_eq_true es
        obtain ⟨r, hr, hv⟩ := hv
        obtain ⟨cs, hv, hcs⟩ := cells_out hv
        obtain ⟨ds, hv, hds⟩ := closeL_out hv
        split at hv
        · rename_i i hi
          split at hv
          · rename_i e1 e2
            have e1 := Nat.eq_of_beq_eq_true e1
            have e2 := Nat.le_of_ble_eq_true e2
            refine .inl ⟨_, _, [(k, .arr e0 s rows)], hv, by simpa using hk, ?_⟩
            intro c σ h' a w hc hs hop hrf hfr next Q KK
            have hk' : h' k = some (.arr e0 s rows) := hrf (k, .arr e0 s rows) (by simp)
            have hpx := hop x (by simp [ho, Op.operands])
            have hpy := hop y (by simp [ho, Op.operands])
            rw [hx] at hpx
            unfold PRep DRep at hpx
            obtain ⟨g, n, hσ, hax⟩ := hpx
            have hyc := hds _ _ _ _ (cells_rep hcs hpy)
            obtain ⟨hz, hrl, ob, n', h1, h2⟩ := hs.hp k _ hk'
            rw [hσ] at h1; cases h1
            obtain ⟨h2, cur, h3, hle, h4⟩ := h2
            have hyl := hyc.len
            rw [Array.length_toList] at hyl
            have hjl := (List.getElem?_eq_some_iff.1 hr).1
            have hrlen : r.length = s := hrl r (List.mem_of_getElem? hr)
            have hflat := flatten_len hrl
            have hj1 : (j + 1) * s ≤ rows.length * s := Nat.mul_le_mul_right _ hjl
            rw [Nat.add_mul, Nat.one_mul] at hj1
            have hst := run_storeCells_at (P := P) g (j * s + off) e0 (a.eval y).cells.toList 0 cur w h3 (by rw [Array.length_toList]; omega) hyc.one
            simp only [Nat.add_zero] at hst
            obtain ⟨cur', hcur'⟩ : ∃ cur', (cur.toList.take (j * s + off) ++ (a.eval y).cells.toList ++ cur.toList.drop (j * s + off + (a.eval y).cells.toList.length)).toArray = cur' := ⟨_, rfl⟩
            rw [hcur'] at hst
            have hsz : cur'.size = cur.size := by
              rw [← hcur']
              simp only [List.size_toArray, List.length_append, List.length_take, List.length_drop, Array.length_toList]
              omega
            have hrun : (execOp a.eval o).run P w = .ok .skip (w.setRow g cur') := by
              simp [execOp, ho, hax, Instr.storeAt, Instr.sureAddr, storeVar, sizeOf, typeInfo, hi, show (a.eval y).cells.size = i.size by omega, hst]
            unfold Oper.wp
            rw [hrun]
            have ev := evo_set (hb' := .arr e0 s (rows.set j (r.take off ++ ds ++ r.drop (off + ds.length)))) hs hc hk' hσ (fun _ q => q) h3 hsz
            refine KK undef σ _ ev (sw_set hs hc hk' hσ (fun _ q => q) h3 hsz ⟨hz, ?_, some g, n, hσ, h2, cur', setRow_heap w g cur cur' e0 _ h3, by rw [List.length_set, hsz]; exact hle, ?_⟩) (by unfold PRep; exact ⟨[], rfl, by unfold PsRep; trivial⟩) (fun _ _ h => h)
            · intro r' hr'
              rcases List.mem_or_eq_of_mem_set hr' with hr' | rfl
              · exact hrl r' hr'
              · simp only [List.length_append, List.length_take, List.length_drop]; omega
            · refine CsRep.keeps ev.keeps _ _ ?_
              have hc2 : cur'.toList = cur.toList.take (j * s + off) ++ (a.eval y).cells.toList ++ cur.toList.drop (j * s + off + (a.eval y).cells.toList.length) := by rw [← hcur']
              have hset : (rows.set j (r.take off ++ ds ++ r.drop (off + ds.length))).flatten = rows.flatten.take (j * s + off) ++ ds ++ rows.flatten.drop (j * s + off + ds.length) := set_flatten hrl hr (by omega)
              rw [hset, List.length_set, hc2]
              have e3 : (cur.toList.take (j * s + off) ++ (a.eval y).cells.toList ++ cur.toList.drop (j * s + off + (a.eval y).cells.toList.length)).take (rows.length * s) =
                  (cur.toList.take (rows.length * s)).take (j * s + off) ++ (a.eval y).cells.toList ++ (cur.toList.take (rows.length * s)).drop (j * s + off + (a.eval y).cells.toList.length) := by
                apply List.ext_getElem?
                intro q
                have q0 : cur.toList.length = cur.size := Array.length_toList
                have q1 : (cur.toList.take (j * s + off)).length = j * s + off := by rw [List.length_take, q0]; omega
                have q2 : ((cur.toList.take (rows.length * s)).take (j * s + off)).length = j * s + off := by rw [List.length_take, List.length_take, q0]; omega
                have q3 : (a.eval y).cells.toList.length = ds.length := by rw [Array.length_toList]; omega
                rw [List.getElem?_take]
                by_cases c1 : q < j * s + off
                · rw [if_pos (by omega), List.append_assoc, List.getElem?_append_left (by omega), List.append_assoc, List.getElem?_append_left (by omega)]
                  rw [List.getElem?_take, List.getElem?_take, List.getElem?_take, if_pos c1, if_pos c1, if_pos (by omega)]
                · by_cases c2 : q < j * s + off + ds.length
                  · rw [if_pos (by omega), List.append_assoc, List.getElem?_append_right (by omega), List.getElem?_append_left (by omega), List.append_assoc, List.getElem?_append_right (by omega), List.getElem?_append_left (by omega), q1, q2]
                  · rw [List.append_assoc, List.getElem?_append_right (by omega), List.getElem?_append_right (by omega), List.append_assoc, List.getElem?_append_right (by omega), List.getElem?_append_right (by omega), q1, q2]
                    rw [List.getElem?_drop, List.getElem?_drop, List.getElem?_take]
                    rw [show j * s + off + (a.eval y).cells.toList.length + (q - (j * s + off) - (a.eval y).cells.toList.length) = q by omega]
              rw [e3]
              refine CsRep.append (CsRep.append (h4.take _) hyc) ?_
              have := h4.drop (j * s + off + ds.length)
              rw [show (a.eval y).cells.toList.length = ds.length by rw [Array.length_toList]; omega]
              exact this
          · exact hv.elim
        · exact hv.elim
      · exact hv.elim
    · exact hv.elim
  · exact hv.elim

end Go.Proofs.YthogcgnhhcbkkaaDoor.Pm
