/- The model does what the plain machine reckons: looking into memory. -/
import Derived.Test.YthogcgnhhcbkkaaDoorPmSim
namespace Go.Proofs.YthogcgnhhcbkkaaDoor.Pm
open Go.RowKit

def Outc (P : Program) (o : Oper) (e : Operand → PV) (h : Hp) (K : OpK) (X : Value → Prop) : Prop :=
  (∃ v δ rf, K v δ rf ∧ (∀ p ∈ rf, h p.1 = some p.2) ∧ SemStep P o e v δ rf) ∨ ∃ x rf, X x ∧ (∀ p ∈ rf, h p.1 = some p.2) ∧ SemPan P o e x rf

theorem outc_val {P : Program} {o : Oper} {e : Operand → PV} {h : Hp} {K : OpK} {X : Value → Prop} {v : PV} (hk : K v [] [])
    (hr : ∀ (σ : Sg) (F : Fzn) (a : Act) (w : World), (∀ x ∈ o.op.operands, PRep σ F w (e x) (a.eval x)) → ∃ u, (execOp a.eval o).run P w = .ok (.value u) w ∧ PRep σ F w v u) :
    Outc P o e h K X :=
  .inl ⟨v, [], [], hk, by simp, semStep_val [] (fun c σ h a w _ _ hx => hr σ _ a w hx)⟩

section
variable {P : Program} {σ : Sg} {F : Fzn} {w : World}

theorem isRow_out {t : TypeId} {K : Option Nat → Prop} (h : isRow P t K) :
    (∃ d n, P.underlying t = some d ∧ d.isRow = true ∧ (P.info? t).map (·.size) = some n ∧ K (some n)) ∨ (∃ d, P.underlying t = some d ∧ d.isRow = false ∧ K none) := by
  unfold isRow at h
  split at h
  · rename_i fs hu
    split at h
    · rename_i i hi; exact .inl ⟨_, i.size, hu, rfl, by rw [hi]; rfl, h⟩
    · exact h.elim
  · rename_i n e hu
    split at h
    · rename_i i hi; exact .inl ⟨_, i.size, hu, rfl, by rw [hi]; rfl, h⟩
    · exact h.elim
  · rename_i d h1 h2 hu
    refine .inr ⟨d, hu, ?_, h⟩
    cases d <;> first | rfl | (exact absurd rfl (h1 _)) | (exact absurd rfl (h2 _ _))
  · exact h.elim

theorem run_isAgg_row {t : TypeId} {d : TypeDesc} (hu : P.underlying t = some d) (w : World) : (isAgg t).run P w = .ok d.isRow w := by
  unfold isAgg
  rw [Sem.run_bind, run_underlying hu w]
  cases d <;> simp

theorem readP_out {t : TypeId} {l : List D} {K : PV → Prop} (h : readP P t l K) :
    ∃ v, K v ∧ ∀ (σ : Sg) (F : Fzn) (w : World) (b off : Nat) (us : List Value), DsRep σ F w l us → w.rangeAt b off us →
      ∃ u, (loadVar t ⟨b, off, none⟩).run P w = .ok u w ∧ PRep σ F w v u := by
  unfold readP at h
  rcases isRow_out h with ⟨d, n, hu, hd, hi, h⟩ | ⟨d, hu, hd, h⟩
  · simp only at h
    split at h
    · rename_i hn
      have hn := Nat.le_of_ble_eq_true hn
      refine ⟨_, forceL_out h, fun σ F w b off us hr hw => ?_⟩
      have hlen := hr.len
      refine ⟨_, run_loadVar_mid w b off t (us.take n) d (fun j v hv => hw j v (by
        rw [List.getElem?_take] at hv
        split at hv
        · exact hv
        · cases hv)) hu hd (by rw [hi, List.length_take]; congr 1; omega), ?_⟩
      unfold PRep
      exact ⟨_, rfl, hr.take n⟩
    · exact h.elim
  · cases l with
    | nil => exact h.elim
    | cons x l =>
      refine ⟨.d x, by cases x <;> exact h, fun σ F w b off us hr hw => ?_⟩
      cases us with
      | nil => exact hr.elim
      | cons u us =>
        have hc : w.cell? ⟨b, off, none⟩ = some u := hw 0 u rfl
        refine ⟨u, ?_, by unfold PRep; exact hr.1⟩
        simp [loadVar, run_isAgg_row hu, hd, hc]
theorem partP_out {t : TypeId} {l : List D} {off : Nat} {K : PV → Prop} (h : readP P t (l.drop off) K) :
    ∃ v, K v ∧ ∀ (σ : Sg) (F : Fzn) (w : World) (us : List Value), DsRep σ F w l us → ∃ u, (part t us.toArray off).run P w = .ok u w ∧ PRep σ F w v u := by
  unfold readP at h
  rcases isRow_out h with ⟨d, n, hu, hd, hi, h⟩ | ⟨d, hu, hd, h⟩
  · simp only at h
    split at h
    · rename_i hn
      refine ⟨_, forceL_out h, fun σ F w us hr => ?_⟩
      cases hq : P.info? t with
      | none => simp [hq] at hi
      | some i =>
        have hs : i.size = n := by simpa [hq] using hi
        refine ⟨.agg (us.toArray.extract off (off + n)), by simp [part, run_isAgg_row hu, hd, sizeOf, typeInfo, hq, hs], ?_⟩
        unfold PRep
        refine ⟨(us.drop off).take n, ?_, (hr.drop off).take n⟩
        congr 1
        apply Array.toList_inj.1
        simp [List.extract_eq_take_drop]
    · exact h.elim
  · simp only at h
    split at h
    · rename_i x l' hl
      refine ⟨.d x, by cases x <;> exact h, fun σ F w us hr => ?_⟩
      obtain ⟨u, h1, h2⟩ := hr.get (j := off) (c := x) (by have := congrArg (fun l => l[0]?) hl; simpa using this)
      refine ⟨u, ?_, by unfold PRep; exact h2⟩
      simp [part, run_isAgg_row hu, hd, h1]
    · exact h.elim

theorem fieldOf_out {s : TypeId} {f : Nat} {K : Nat → TypeId → Nat → Prop} (h : fieldOf P s f K) :
    ∃ fs fd i, P.underlying s = some (.struct fs) ∧ fs[f]? = some fd ∧ P.info? fd.type = some i ∧ i.size ≠ 0 ∧ K fd.offset fd.type i.size := by
  unfold fieldOf at h
  split at h
  · rename_i fs hu
    split at h
    · rename_i fd hf
      split at h
      · rename_i i hi
        split at h
        · exact h.elim
        · rename_i hz
          exact ⟨fs, fd, i, hu, hf, hi, fun e => by rw [e] at hz; simp at hz, h⟩
      · exact h.elim
    · exact h.elim
  · exact h.elim
theorem run_fieldAt {s : TypeId} {f : Nat} {fs : Array Field} {fd : Field} {i : TypeInfo} (hu : P.underlying s = some (.struct fs)) (hf : fs[f]? = some fd) (hi : P.info? fd.type = some i) (hz : i.size ≠ 0) (b off : Nat) (w : World) :
    (Instr.fieldAt s (.pointer (some ⟨b, off, none⟩)) f).run P w = .ok (.pointer (some ⟨b, off + fd.offset, none⟩)) w := by
  simp [Instr.fieldAt, run_underlying hu, hf, Instr.sureAddr, fieldPlace, sizeOf, typeInfo, hi, hz, Addr.add_mid]
theorem tySlice_out {t : TypeId} {K : TypeId → TypeInfo → Prop} (h : tySlice P t K) : ∃ e i, P.underlying t = some (.slice e) ∧ P.info? e = some i ∧ K e i := by
  unfold tySlice at h
  split at h
  · rename_i e hu
    split at h
    · rename_i i hi; exact ⟨e, i, hu, hi, h⟩
    · exact h.elim
  · exact h.elim

/-- a slice that is only read, or one that is made: the value, and its rows -/
theorem rows_val {x : PV} {sz : Nat} {rows : List (List C)} (hx : x = .d (.c (.sl sz rows)) ∨ ∃ k e, x = .d (.app k e sz rows)) {u : Value} (h : PRep σ F w x u) :
    ∃ a cap, u = .slice a rows.length cap ∧ rows.length ≤ cap ∧ cap ≤ maxLen ∧ (a = none → cap = 0) ∧ (rows = [] ∨ ∃ b off, a = some ⟨b, off, none⟩ ∧ RowsAt F w sz b off rows) := by
  rcases hx with rfl | ⟨k, e, rfl⟩
  · unfold PRep DRep CRep at h; exact h
  · unfold PRep DRep at h
    obtain ⟨_, ⟨_, rfl, rfl⟩ | ⟨g, cap, cur, fr, h1, rfl, h4, h5, h6, h7, h8⟩⟩ := h
    · exact ⟨none, 0, rfl, Nat.le_refl _, Nat.zero_le _, fun _ => rfl, .inl rfl⟩
    · exact ⟨_, cap, rfl, h4, h5, fun e => (by cases e), .inr ⟨g, 0, rfl, h8⟩⟩

theorem run_indexAt {t : TypeId} {e : TypeId} {i : TypeInfo} (hu : P.underlying t = some (.slice e)) (hi : P.info? e = some i) (b off len cap : Nat) (k : IntKind) (n : Int) (h0 : 0 ≤ n) (h1 : n.toNat < len) (w : World) :
    (Instr.indexAt t (.slice (some ⟨b, off, none⟩) len cap) (.int k n)).run P w = .ok (.pointer (some ⟨b, off + n.toNat * i.size, none⟩)) w := by
  have h2 : n < (len : Int) := by omega
  simp [Instr.indexAt, asIntOf, run_underlying hu, sizeOf, typeInfo, hi, h0, h2, Addr.add_mid]

theorem idxAddr_core {t e : TypeId} {i : TypeInfo} (hu : P.underlying t = some (.slice e)) (hi : P.info? e = some i) {x : PV} {rows : List (List C)} {n : Int} {r : List C} (hx : x = .d (.c (.sl i.size rows)) ∨ ∃ k e, x = .d (.app k e i.size rows))
    (h0 : 0 ≤ n) (hr : rows[n.toNat]? = some r) {u y : Value} (k : IntKind) (h : PRep σ F w x u) (hy : y = .int k n) :
    ∃ v, (Instr.indexAt t u y).run P w = .ok v w ∧ PRep σ F w (.d (.c (.ro r))) v := by
  obtain ⟨a, cap, rfl, h1, h2, h3, h4⟩ := rows_val hx h
  subst hy
  have hl := (List.getElem?_eq_some_iff.1 hr).1
  rcases h4 with rfl | ⟨b, off, rfl, h5⟩
  · simp at hl
  · obtain ⟨_, h6⟩ := rowsAt_get h5 hr
    refine ⟨_, run_indexAt hu hi b off _ cap k n h0 hl w, ?_⟩
    unfold PRep DRep CRep
    exact ⟨b, _, rfl, h6⟩
end

theorem idxAddrP_out {P : Program} {t : TypeId} {x i : PV} {K : PV → Prop} (h : idxAddrP P t x i K) :
    ∃ v, K v ∧ ∀ (σ : Sg) (F : Fzn) (w : World) (u y : Value), PRep σ F w x u → PRep σ F w i y → ∃ z, (Instr.indexAt t u y).run P w = .ok z w ∧ PRep σ F w v z := by
  unfold idxAddrP at h
  split at h
  · rename_i k n
    split at h
    · rename_i sz rows
      obtain ⟨e, i, hu, hi, h'⟩ := tySlice_out h
      clear h
      split at h'
      · rename_i hs
        obtain rfl := Nat.eq_of_beq_eq_true hs
        obtain ⟨r, h0, h1, h2⟩ := h'
        exact ⟨_, h2, fun σ F w u y hx hy => idxAddr_core hu hi (.inl rfl) h0 h1 k hx (rep_v hy)⟩
      · exact h'.elim
    · rename_i kk ee sz rows
      obtain ⟨e, i, hu, hi, h'⟩ := tySlice_out h
      clear h
      split at h'
      · rename_i hs
        obtain rfl := Nat.eq_of_beq_eq_true hs
        obtain ⟨r, h0, h1, h2⟩ := h'
        exact ⟨_, h2, fun σ F w u y hx hy => idxAddr_core hu hi (.inr ⟨kk, ee, rfl⟩) h0 h1 k hx (rep_v hy)⟩
      · exact h'.elim
    · rename_i kk ee sz lo m
      obtain ⟨e, i, hu, hi, h'⟩ := tySlice_out h
      clear h
      split at h'
      · rename_i hs
        obtain rfl := Nat.eq_of_beq_eq_true hs
        obtain ⟨⟨h0, h1⟩, h2⟩ := h'
        refine ⟨_, h2, fun σ F w u y hx hy => ?_⟩
        rw [rep_v hy]
        unfold PRep DRep at hx
        obtain ⟨_, ⟨_, _, q, _⟩ | ⟨g, m', off, cap, cur, fr, g1, rfl, g3, g4, g5, g6, g7⟩⟩ := hx
        · omega
        · refine ⟨_, run_indexAt hu hi g off _ cap k n h0 (by omega) w, ?_⟩
          unfold PRep DRep
          obtain ⟨q1, _⟩ := g7 (by omega)
          refine ⟨g, m', g1, ?_⟩
          rw [q1, Nat.add_mul, Nat.add_zero]
      · exact h'.elim
    · exact h.elim
  · exact h.elim

theorem fieldAddrP_out {P : Program} {s : TypeId} {x : PV} {f : Nat} {K : PV → Prop} (h : fieldAddrP P s x f K) :
    ∃ v, K v ∧ ∀ (σ : Sg) (F : Fzn) (w : World) (u : Value), PRep σ F w x u → ∃ z, (Instr.fieldAt s u f).run P w = .ok z w ∧ PRep σ F w v z := by
  unfold fieldAddrP at h
  split at h
  · rename_i l
    obtain ⟨fs, fd, i, hu, hf, hi, hz, h⟩ := fieldOf_out h
    split at h
    · rename_i hn
      refine ⟨_, h, fun σ F w u hx => ?_⟩
      unfold PRep DRep CRep at hx
      obtain ⟨b, off, rfl, hc⟩ := hx
      refine ⟨_, run_fieldAt hu hf hi hz b off w, ?_⟩
      unfold PRep DRep CRep
      exact ⟨b, _, rfl, csAt_drop _ (Nat.le_of_ble_eq_true hn) hc⟩
    · exact h.elim
  · rename_i k o
    obtain ⟨fs, fd, i, hu, hf, hi, hz, h⟩ := fieldOf_out h
    refine ⟨_, h, fun σ F w u hx => ?_⟩
    unfold PRep DRep at hx
    obtain ⟨g, n, h1, rfl⟩ := hx
    refine ⟨_, run_fieldAt hu hf hi hz g o w, ?_⟩
    unfold PRep DRep
    exact ⟨g, n, h1, rfl⟩
  · rename_i k sz j o
    obtain ⟨fs, fd, i, hu, hf, hi, hz, h⟩ := fieldOf_out h
    refine ⟨_, h, fun σ F w u hx => ?_⟩
    unfold PRep DRep at hx
    obtain ⟨g, n, h1, rfl⟩ := hx
    refine ⟨_, run_fieldAt hu hf hi hz g _ w, ?_⟩
    unfold PRep DRep
    exact ⟨g, n, h1, by rw [Nat.add_assoc]⟩
  · exact h.elim

theorem rows_out {x : PV} {K : List (List C) → Prop} (h : PV.rows x K) : ∃ l, K l ∧ (x = .d (.c (.v (.slice none 0 0))) ∧ l = [] ∨ ∃ sz, x = .d (.c (.sl sz l)) ∨ ∃ k e, x = .d (.app k e sz l)) := by
  unfold PV.rows at h
  split at h
  · exact ⟨_, h, .inr ⟨_, .inl rfl⟩⟩
  · exact ⟨_, h, .inr ⟨_, .inr ⟨_, _, rfl⟩⟩⟩
  · exact ⟨_, h, .inl ⟨rfl, rfl⟩⟩
  · exact h.elim

theorem lenP_out {P : Program} {t : TypeId} {x : PV} {K : PV → Prop} (h : lenP P t x K) :
    ∃ v, K v ∧ ∀ (σ : Sg) (F : Fzn) (w : World) (u : Value) (ty : TypeId), PRep σ F w x u → ∃ z, (Builtin.len_ #[t] ty #[u]).run P w = .ok z w ∧ PRep σ F w v z := by
  unfold lenP at h
  split at h
  · split at h
    · rename_i s _ hu
      refine ⟨_, h, fun σ F w u ty hx => ⟨_, ?_, rep_int _ _⟩⟩
      rw [rep_v hx]
      simp [Builtin.len_, run_underlying hu, goInt]
    · exact h.elim
  · split at h
    · rename_i sz l _ e hu
      refine ⟨_, h, fun σ F w u ty hx => ?_⟩
      obtain ⟨a, cap, rfl, _⟩ := rows_val (.inl rfl) hx
      exact ⟨_, by simp [Builtin.len_, run_underlying hu, goInt], rep_int _ _⟩
    · exact h.elim
  · split at h
    · rename_i k ee sz l _ e hu
      refine ⟨_, h, fun σ F w u ty hx => ?_⟩
      obtain ⟨a, cap, rfl, _⟩ := rows_val (.inr ⟨_, _, rfl⟩) hx
      exact ⟨_, by simp [Builtin.len_, run_underlying hu, goInt], rep_int _ _⟩
    · exact h.elim
  · split at h
    · rename_i kk ee sz lo n _ e hu
      refine ⟨_, h, fun σ F w u ty hx => ?_⟩
      unfold PRep DRep at hx
      obtain ⟨_, ⟨_, _, rfl, rfl⟩ | ⟨g, m', off, cap, cur, fr, g1, rfl, _⟩⟩ := hx
      · exact ⟨_, by simp [Builtin.len_, run_underlying hu, goInt], rep_int _ _⟩
      · exact ⟨_, by simp [Builtin.len_, run_underlying hu, goInt], rep_int _ _⟩
    · exact h.elim
  · split at h
    · rename_i e hu
      refine ⟨_, h, fun σ F w u ty hx => ⟨_, ?_, rep_int _ _⟩⟩
      rw [rep_v hx]
      simp [Builtin.len_, run_underlying hu, goInt]
    · exact h.elim
  · exact h.elim

end Go.Proofs.YthogcgnhhcbkkaaDoor.Pm
