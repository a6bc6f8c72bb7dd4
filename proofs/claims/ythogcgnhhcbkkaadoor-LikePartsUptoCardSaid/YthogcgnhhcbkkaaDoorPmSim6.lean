/- The model does what the plain machine reckons: slices of the call's own, calls; all operations. -/
import Derived.Test.YthogcgnhhcbkkaaDoorPmSim5
import Derived.Great.BuildSlice
namespace Go.Proofs.YthogcgnhhcbkkaaDoor.Pm
open Go.RowKit
set_option linter.unusedVariables false

section
variable {c : Ctx} {σ σ' : Sg} {h : Hp} {w w' : World}

theorem new_tail (hs : SW c σ h w) {key : Nat} (h0 : σ key = none) {e sz cap : Nat} {cs : Array Value} {l : List (List C)} {us : List Value} (hsz : 0 < sz)
    (hl : ∀ r ∈ l, r.length = sz) (hus : CsRep (fz c σ h w) w l.flatten us) (hcap : l.length ≤ cap) (hmax : cap ≤ maxLen) (hcs : cs.size = cap * sz) (htake : cs.toList.take (l.length * sz) = us) :
    Evo σ (upd σ key (some (some w.heap.size, l.length))) (fz c σ h w) (fz c (upd σ key (some (some w.heap.size, l.length))) (upd h key (some (.tail e sz))) (w.alloc (.cells cs e))) w (w.alloc (.cells cs e)) ∧
    SW c (upd σ key (some (some w.heap.size, l.length))) (upd h key (some (.tail e sz))) (w.alloc (.cells cs e)) ∧
    PRep (upd σ key (some (some w.heap.size, l.length))) (fz c (upd σ key (some (some w.heap.size, l.length))) (upd h key (some (.tail e sz))) (w.alloc (.cells cs e))) (w.alloc (.cells cs e)) (.d (.app key e sz l)) (.slice (some ⟨w.heap.size, 0, none⟩) l.length cap) := by
  have ev := evo_new hs h0 (.cells cs e) l.length (.tail e sz)
  have hnew : (w.alloc (.cells cs e)).heap[w.heap.size]? = some (.cells cs e (0, 0)) := heap_alloc_new w _
  refine ⟨ev, sw_new hs h0 _ _ _ ⟨hsz, some w.heap.size, l.length, upd_same .., .inl hs.size, cs, hnew⟩, ?_⟩
  unfold PRep DRep
  refine ⟨hsz, .inr ⟨w.heap.size, cap, cs, _, upd_same .., rfl, hcap, hmax, hnew, hcs, ?_⟩⟩
  rw [rowsAt_iff]
  refine ⟨hl, csAt_of_values (CsRep.keeps ev.keeps _ _ hus) (fun j u hu => ?_) (fun j hj => ?_)⟩
  · rw [Nat.zero_add, cell_of_row _ _ _ _ _ _ hnew]
    have hj : j < us.length := (List.getElem?_eq_some_iff.1 hu).1
    rw [← htake] at hu
    rw [List.getElem?_take] at hu
    split at hu
    · simpa using hu
    · cases hu
  · rw [Nat.zero_add]
    refine .inr ⟨.inl hs.size, by simp, fun k n hb hk hσ => ?_⟩
    by_cases hkk : k = key
    · subst hkk
      rw [upd_same] at hσ hk
      cases hk
      simp only [Option.some.injEq, Prod.mk.injEq] at hσ
      rw [flatten_len hl] at hj
      show j < n * sz
      rw [← hσ.2]; exact hj
    · rw [upd_ne _ _ hkk] at hσ hk
      have := (hb_block (hs.hp k hb hk) hσ).1
      omega

/-- a key is given up -/
theorem evo_erase (hs : SW c σ h w) (k : Nat) : Evo σ σ (fz c σ h w) (fz c σ (upd h k none) w) w w where
  sg := fun _ _ h => h
  keeps := ⟨fun b o hf => hf.imp id fun ⟨h1, h2, h3⟩ => ⟨h1, h2, fun k' n hb hk hσ => by
    by_cases e : k' = k
    · subst e; rw [upd_same] at hk; cases hk
    · rw [upd_ne _ _ e] at hk; exact h3 k' n hb hk hσ⟩, fun _ _ _ => rfl⟩
  shape := fun g cur e fr hg => ⟨cur, fr, hg, rfl⟩
theorem sw_erase (hs : SW c σ h w) (k : Nat) : SW c σ (upd h k none) w where
  os := hs.os
  tape := hs.tape
  output := hs.output
  size := hs.size
  block := hs.block
  hp := fun k' hb hk => by
    by_cases e : k' = k
    · subst e; rw [upd_same] at hk; cases hk
    · rw [upd_ne _ _ e] at hk
      exact (hs.hp k' hb hk).evo (evo_erase hs k) fun _ _ _ => rfl
  kept := hs.kept.trans (evo_erase hs k).keeps
  shape := hs.shape
  sg0 := hs.sg0
  inj := fun k1 k2 g n1 n2 a1 a2 a3 a4 => by
    have fx : ∀ q, upd h k none q ≠ none → h q ≠ none := by
      intro q hq
      by_cases e : q = k
      · subst e; rw [upd_same] at hq; exact absurd rfl hq
      · rwa [upd_ne _ _ e] at hq
    exact hs.inj k1 k2 g n1 n2 (fx _ a1) (fx _ a2) a3 a4

/-- a slice of the call's own grows in its block -/
theorem grow_tail (hs : SW c σ h w) {k key : Nat} (h0 : σ key = none) {e e' sz sz' cap g : Nat} {cur cur' : Array Value} {l m : List (List C)} {us vs : List Value}
    (hc : c.Ok) (hk : h k = some (.tail e' sz')) (hσ : σ k = some (some g, l.length)) (hg : w.heap[g]? = some (.cells cur e (0, 0))) (hn0 : c.own g) (hsz : 0 < sz) (hsz' : sz' = sz)
    (hl : ∀ r ∈ l ++ m, r.length = sz) (hus : CsRep (fz c σ h w) w l.flatten us) (hvs : CsRep (fz c σ h w) w m.flatten vs) (hcap : l.length + m.length ≤ cap) (hmax : cap ≤ maxLen) (hcs : cur.size = cap * sz)
    (htake : cur.toList.take (l.length * sz) = us) (hcur' : cur'.toList = us ++ vs ++ cur.toList.drop (l.length * sz + vs.length)) :
    Evo σ (upd σ key (some (some g, (l ++ m).length))) (fz c σ h w) (fz c (upd σ key (some (some g, (l ++ m).length))) (upd (upd h k none) key (some (.tail e sz))) (w.setRow g cur')) w (w.setRow g cur') ∧
    SW c (upd σ key (some (some g, (l ++ m).length))) (upd (upd h k none) key (some (.tail e sz))) (w.setRow g cur') ∧
    PRep (upd σ key (some (some g, (l ++ m).length))) (fz c (upd σ key (some (some g, (l ++ m).length))) (upd (upd h k none) key (some (.tail e sz))) (w.setRow g cur')) (w.setRow g cur')
      (.d (.app key e sz (l ++ m))) (.slice (some ⟨g, 0, none⟩) (l ++ m).length cap) := by
  subst hsz'
  have hg' := setRow_heap w g cur cur' e _ hg
  have hul := hus.len
  have hvl := hvs.len
  rw [flatten_len (fun r hr => hl r (List.mem_append_left _ hr))] at hul
  rw [flatten_len (fun r hr => hl r (List.mem_append_right _ hr))] at hvl
  have hkk : k ≠ key := fun e => by subst e; rw [hp_none hs h0] at hk; cases hk
  have hcl : cur.toList.length = cap * sz' := by rw [Array.length_toList]; exact hcs
  have hle : (l.length + m.length) * sz' ≤ cap * sz' := Nat.mul_le_mul_right _ hcap
  rw [Nat.add_mul] at hle
  have hsize : cur'.size = cur.size := by
    rw [← Array.length_toList, hcur', hcs]
    simp only [List.length_append, List.length_drop, hcl]
    omega
  have hgs : g < w.heap.size := (Array.getElem?_eq_some_iff.1 hg).1
  -- what of g was frozen lies ahead of what is written
  have hold : ∀ o, fz c σ h w g o → o < l.length * sz' := by
    intro o hf
    rcases hf with hf | ⟨_, _, hf⟩
    · rcases hn0 with q | q
      · have := hf.1; omega
      · exact absurd q (hc.fz _ _ hf.2).2
    · exact hf k _ _ hk hσ
  have hcell : ∀ o, o < l.length * sz' → (w.setRow g cur').cell? ⟨g, o, none⟩ = w.cell? ⟨g, o, none⟩ := by
    intro o ho
    rw [cell_of_row _ _ _ _ _ _ hg', cell_of_row _ _ _ _ _ _ hg, ← Array.getElem?_toList, ← Array.getElem?_toList, hcur', List.append_assoc, List.getElem?_append_left (by omega)]
    rw [← htake, List.getElem?_take, if_pos ho]
  have ev : Evo σ (upd σ key (some (some g, (l ++ m).length))) (fz c σ h w) (fz c (upd σ key (some (some g, (l ++ m).length))) (upd (upd h k none) key (some (.tail e sz'))) (w.setRow g cur')) w (w.setRow g cur') := by
    refine ⟨fun k' x hx => ?_, ⟨fun b o hf => ?_, fun b o hf => ?_⟩, fun g2 cur2 e2 fr2 hg2 => ?_⟩
    · rw [upd_ne _ _ (fun e => by rw [e, h0] at hx; cases hx)]; exact hx
    · have hf0 := hf
      rcases hf with hf | ⟨f1, f2, f3⟩
      · exact .inl hf
      · refine .inr ⟨f1, by simpa [World.setRow] using f2, fun k2 n2 hb2 hk2 hσ2 => ?_⟩
        by_cases e1 : k2 = key
        · subst e1
          rw [upd_same] at hk2 hσ2
          cases hk2
          simp only [Option.some.injEq, Prod.mk.injEq] at hσ2
          obtain ⟨rfl, rfl⟩ := hσ2
          have := hold o hf0
          show o < (l ++ m).length * sz'
          rw [List.length_append, Nat.add_mul]; omega
        · rw [upd_ne _ _ e1] at hk2 hσ2
          by_cases e2 : k2 = k
          · subst e2; rw [upd_same] at hk2; cases hk2
          · rw [upd_ne _ _ e2] at hk2
            exact f3 k2 n2 hb2 hk2 hσ2
    · by_cases hb : b = g
      · subst hb; exact hcell o (hold o hf)
      · unfold World.cell?
        rw [setRow_other w g b _ hb]
    · by_cases e1 : g2 = g
      · subst e1; rw [hg] at hg2; cases hg2; exact ⟨cur', _, hg', hsize⟩
      · exact ⟨cur2, _, by rw [setRow_other w g g2 _ e1]; exact hg2, rfl⟩
  refine ⟨ev, ⟨hs.os, hs.tape, hs.output, by simpa [World.setRow] using hs.size, fun b b1 b2 => ?_, fun k2 hb2 hk2 => ?_, fun k1 k2 g2 n1 n2 a1 a2 a3 a4 => ?_, hs.kept.trans ev.keeps, hs.shape.trans ev.shape, fun k x hk => ev.sg _ _ (hs.sg0 k x hk)⟩, ?_⟩
  · have hbg : b ≠ g := by
      rintro rfl
      rcases hn0 with q | q
      · omega
      · exact b2 q
    rw [setRow_other w g b _ hbg]; exact hs.block b b1 b2
  · by_cases e1 : k2 = key
    · subst e1
      rw [upd_same] at hk2
      cases hk2
      exact ⟨hsz, some g, _, upd_same .., hn0, cur', hg'⟩
    · rw [upd_ne _ _ e1] at hk2
      by_cases e2 : k2 = k
      · subst e2; rw [upd_same] at hk2; cases hk2
      · rw [upd_ne _ _ e2] at hk2
        refine (hs.hp k2 hb2 hk2).evo ev fun g2 n2 hg2 => setRow_other w g g2 _ fun e3 => e2 ?_
        subst e3
        exact hs.inj k2 k g2 n2 _ (by rw [hk2]; simp) (by rw [hk]; simp) hg2 hσ
  · have fx : ∀ q, q ≠ key → upd (upd h k none) key (some (.tail e sz')) q ≠ none → h q ≠ none ∧ q ≠ k := by
      intro q hq1 hq
      rw [upd_ne _ _ hq1] at hq
      by_cases e : q = k
      · subst e; rw [upd_same] at hq; exact absurd rfl hq
      · rw [upd_ne _ _ e] at hq; exact ⟨hq, e⟩
    by_cases e1 : k1 = key
    · by_cases e2 : k2 = key
      · rw [e1, e2]
      · subst e1
        rw [upd_same] at a3
        rw [upd_ne _ _ e2] at a4
        simp only [Option.some.injEq, Prod.mk.injEq] at a3
        obtain ⟨rfl, rfl⟩ := a3
        obtain ⟨q1, q2⟩ := fx k2 e2 a2
        exact absurd (hs.inj k2 k g n2 _ q1 (by rw [hk]; simp) a4 hσ) q2
    · rw [upd_ne _ _ e1] at a3
      obtain ⟨p1, p2⟩ := fx k1 e1 a1
      by_cases e2 : k2 = key
      · subst e2
        rw [upd_same] at a4
        simp only [Option.some.injEq, Prod.mk.injEq] at a4
        obtain ⟨rfl, rfl⟩ := a4
        exact absurd (hs.inj k1 k g n1 _ p1 (by rw [hk]; simp) a3 hσ) p2
      · rw [upd_ne _ _ e2] at a4
        obtain ⟨q1, q2⟩ := fx k2 e2 a2
        exact hs.inj k1 k2 g2 n1 n2 p1 q1 a3 a4
  · unfold PRep DRep
    refine ⟨hsz, .inr ⟨g, cap, cur', _, upd_same .., rfl, by rw [List.length_append]; exact hcap, hmax, hg', by rw [hsize]; exact hcs, ?_⟩⟩
    rw [rowsAt_iff]
    have hall : CsRep (fz c σ h w) w (l ++ m).flatten (us ++ vs) := by rw [List.flatten_append]; exact hus.append hvs
    refine ⟨hl, csAt_of_values (CsRep.keeps ev.keeps _ _ hall) (fun j u hu => ?_) (fun j hj => ?_)⟩
    · rw [Nat.zero_add, cell_of_row _ _ _ _ _ _ hg', ← Array.getElem?_toList, hcur']
      rw [List.getElem?_append_left (List.getElem?_eq_some_iff.1 hu).1]; exact hu
    · rw [Nat.zero_add]
      rw [flatten_len hl] at hj
      refine .inr ⟨hn0, by simpa [World.setRow] using hgs, fun k2 n2 hb2 hk2 hσ2 => ?_⟩
      by_cases e1 : k2 = key
      · subst e1
        rw [upd_same] at hk2 hσ2
        cases hk2
        simp only [Option.some.injEq, Prod.mk.injEq] at hσ2
        show j < n2 * sz'
        rw [← hσ2.2]; exact hj
      · rw [upd_ne _ _ e1] at hk2 hσ2
        by_cases e2 : k2 = k
        · subst e2; rw [upd_same] at hk2; cases hk2
        · rw [upd_ne _ _ e2] at hk2
          exact absurd (hs.inj k2 k g n2 _ (by rw [hk2]; simp) (by rw [hk]; simp) hσ2 hσ) e2
end

theorem maxLen_val : maxLen = 9223372036854775807 := by unfold maxLen; rfl

theorem buildSliceP_out {P : Program} {o : Oper} {e : Operand → PV} {h : Hp} {t : TypeId} {n : Nat} {parts : Array (Nat × Operand)} {K : OpK} {X : Value → Prop} (ho : o.op = .buildSlice t n parts)
    {key : Nat} (hv : buildSliceP P key t n parts.toList e K) : Outc P o e h K X := by
  unfold buildSliceP at hv
  obtain ⟨el, i, hu, hi, hv⟩ := tySlice_out hv
  split at hv
  · exact hv.elim
  · rename_i sz hsz'
    have hsz : i.size = sz + 1 := hsz'
    clear hsz'
    split at hv
    · rename_i e1 e2 e3
      have e1 := Nat.eq_of_beq_eq_true e1
      have e2 := Nat.le_of_ble_eq_true e2
      obtain ⟨z, hz⟩ := Option.isSome_iff_exists.1 e3
      obtain ⟨rs, hk, hlen, hrows, hr⟩ := rowsOf_out hv
      refine .inl ⟨_, _, [], hk, by simp, ?_⟩
      intro c σ h' a w hc hs hx hrf hfr next Q KK
      have h0 : σ key = none := hfr key (by simp [Dl.keys]) (by simp)
      obtain ⟨us, g1, g2, g3⟩ := hr σ (fz c σ h' w) w a.eval (fun p hp => hx p.2 (by
        simp only [ho, Op.operands]
        simp only [Array.mem_def, List.mem_map]
        exact ⟨p, hp, rfl⟩))
      have hn : n ≤ maxLen := by
        rw [maxLen_val]
        have : n ≤ n * (sz + 1) := Nat.le_mul_of_pos_right _ (by omega)
        omega
      have hrun : (execOp a.eval o).run P w = .ok (.value (.slice (some ⟨w.heap.size, 0, none⟩) rs.length n)) (w.alloc (.cells us.toArray el)) := by
        have hrl : rs.length = n := by omega
        rw [hrl]
        by_cases hn0 : n = 0
        · subst hn0
          have : us = [] := List.eq_nil_of_length_eq_zero (by rw [g1, hrl, Nat.zero_mul])
          subst this
          have hp0 : parts.toList = [] := List.eq_nil_of_length_eq_zero e1
          have hp1 : parts = #[] := by apply Array.toList_inj.1; rw [hp0]
          subst hp1
          simp [execOp, ho, Instr.buildSlice, run_underlying hu, sizeOf, typeInfo, hi, Instr.fill, newRow]
          exact congrArg (fun x => w.alloc (.cells x el)) (Array.eq_empty_of_size_eq_zero (by simp))
        · have hb := run_buildSlice (P := P) w t el n (parts.map fun (i, x) => (i, a.eval x)) us.toArray i z hu hi hz (by rw [hsz]; omega) (by
            rw [hsz]; intro e; rcases Nat.mul_eq_zero.1 e with e | e <;> omega) (by
            rw [hsz]
            obtain ⟨A, hA⟩ : ∃ A, (Array.range (n * (sz + 1))).map (z.cells[· % z.cells.size]!) = A := ⟨_, rfl⟩
            have hAs : A.toList.length = n * (sz + 1) := by rw [← hA]; simp
            have := g3 [] A.toList (by simp) (by rw [hAs, e1]; exact Nat.le_refl _)
            simp only [List.nil_append, Array.toArray_toList] at this
            rw [hA, Array.toList_map]
            refine this.trans ?_
            rw [List.drop_eq_nil_of_le (by rw [hAs, e1]; exact Nat.le_refl _), List.append_nil])
          simp only [execOp, ho, Sem.run_bind, hb, Result.andThen_ok]
          rfl
      unfold Oper.wp
      rw [hrun]
      obtain ⟨a1, a2, a3⟩ := new_tail (e := el) (cap := n) (cs := us.toArray) hs h0 (Nat.succ_pos sz) hrows g2 (by omega) hn (by rw [List.size_toArray, g1, show rs.length = n by omega]) (by rw [← g1]; simp)
      refine KK _ _ _ a1 a2 a3 ?_
      intro k hk' hn'; rw [upd_ne _ _ (by simpa [Dl.keys] using hk')]; exact hn'
    · exact hv.elim

end Go.Proofs.YthogcgnhhcbkkaaDoor.Pm
