/- The model does what the plain machine reckons: literals, append, calls. -/
import Derived.Test.YthogcgnhhcbkkaaDoorPmSim4
import Derived.Laws.AppendOwnNone
namespace Go.Proofs.YthogcgnhhcbkkaaDoor.Pm
open Go.RowKit
set_option linter.unusedVariables false

/-! ### fill -/
theorem fold_fill (off : Nat) : ∀ (vs : List Value) (k : Nat) (cells : List Value), off + k + vs.length ≤ cells.length →
    ((vs.zipIdx k).foldl (fun (cs : Array Value) (p : Value × Nat) => cs.setIfInBounds (off + p.2) p.1) cells.toArray) = (cells.take (off + k) ++ vs ++ cells.drop (off + k + vs.length)).toArray
  | [], k, cells, h => by simp
  | v :: vs, k, cells, h => by
    rw [List.zipIdx_cons, List.foldl_cons]
    have h1 : cells.toArray.setIfInBounds (off + k) v = (cells.set (off + k) v).toArray := by simp
    simp only [List.length_cons] at h
    rw [h1, fold_fill off vs (k + 1) (cells.set (off + k) v) (by rw [List.length_set]; omega)]
    congr 1
    apply List.ext_getElem?
    intro i
    simp only [List.append_assoc, List.getElem?_append, List.length_take, List.length_set, List.getElem?_take, List.getElem?_set, List.getElem?_drop, List.length_cons, List.getElem?_cons]
    have e1 : min (off + (k + 1)) cells.length = off + k + 1 := by omega
    have e2 : min (off + k) cells.length = off + k := by omega
    rw [e1, e2]
    by_cases c1 : i < off + k
    · rw [if_pos (by omega), if_pos (by omega), if_neg (by omega), if_pos c1, if_pos c1]
    · rw [if_neg c1]
      by_cases c2 : i = off + k
      · subst c2; simp [show k < k + 1 by omega]; omega
      · rw [if_neg (by omega), if_neg (by omega : ¬ i - (off + k) = 0)]
        by_cases c3 : i - (off + k + 1) < vs.length
        · rw [if_pos c3, if_pos (by omega)]; congr 1
        · rw [if_neg c3, if_neg (by omega), if_neg (by omega)]; congr 1; omega

theorem fill_cells (place : Nat → Option (Nat × Nat)) (cells : List Value) (i off sz : Nat) (v : Value) (rest : List (Nat × Value)) (hp : place i = some (off, sz)) (h1 : v.cells.size = sz) (h2 : off + sz ≤ cells.length) :
    Instr.fill place cells.toArray ((i, v) :: rest) = Instr.fill place (cells.take off ++ v.cells.toList ++ cells.drop (off + v.cells.toList.length)).toArray rest := by
  have hf := fold_fill off v.cells.toList 0 cells (by rw [Array.length_toList]; omega)
  simp only [Nat.add_zero] at hf
  rw [← hf]
  rw [Instr.fill, hp]
  simp only []
  rw [if_neg (by simp; omega)]
  congr 1
  rw [← Array.foldl_toList, Array.toList_zipIdx]

theorem placesOf_out {P : Program} : ∀ {fs : List Field} {K : List (Nat × Nat) → Prop}, placesOf P fs K → ∃ ps, fs.mapM (fun f => (P.info? f.type).map fun i => (f.offset, i.size)) = some ps ∧ K ps
  | [], K, h => ⟨[], rfl, h⟩
  | f :: fs, K, h => by
    unfold placesOf at h
    split at h
    · rename_i i hi
      obtain ⟨ps, h1, h2⟩ := placesOf_out (fs := fs) h
      exact ⟨_, by simp [List.mapM_cons, hi, h1], h2⟩
    · exact h.elim

theorem fillP_out {places : List (Nat × Nat)} {e : Operand → PV} : ∀ {parts : List (Nat × Operand)} {l : List D} {K : List D → Prop}, fillP places e parts l K →
    ∃ l', K l' ∧ ∀ (σ : Sg) (F : Fzn) (w : World) (ρ : Operand → Value) (us : List Value), (∀ p ∈ parts, PRep σ F w (e p.2) (ρ p.2)) → DsRep σ F w l us →
      ∃ us' : List Value, Instr.fill (places.toArray[·]?) us.toArray (parts.map fun p => (p.1, ρ p.2)) = some us'.toArray ∧ DsRep σ F w l' us'
  | [], l, K, h => ⟨l, h, fun σ F w ρ us _ hu => ⟨us, rfl, hu⟩⟩
  | (i, x) :: ps, l, K, h => by
    unfold fillP at h
    split at h
    · rename_i off sz hpl
      obtain ⟨cs, h, hcs⟩ := cells_out h
      split at h
      · rename_i e1 e2
        have e1 := Nat.eq_of_beq_eq_true e1
        have e2 := Nat.le_of_ble_eq_true e2
        obtain ⟨l', h1, h2⟩ := fillP_out (parts := ps) (forceL_out h)
        refine ⟨l', h1, fun σ F w ρ us hp hu => ?_⟩
        have hpx : PRep σ F w (e x) (ρ x) := hp (i, x) (by simp)
        have hx := cells_rep hcs hpx
        have hl := hu.len
        have hxl := hx.len
        rw [Array.length_toList] at hxl
        obtain ⟨us', h3, h4⟩ := h2 σ F w ρ _ (fun p hp' => hp p (List.mem_cons_of_mem _ hp')) (setCs_rep off hu hx)
        refine ⟨us', ?_, h4⟩
        rw [List.map_cons, fill_cells _ us i off sz (ρ x) _ (by simpa using hpl) (by omega) (by omega)]
        exact h3
      · exact h.elim
    · exact h.elim

theorem buildP_out {P : Program} {t : TypeId} {parts : Array (Nat × Operand)} {e : Operand → PV} {K : PV → Prop} (h : buildP P t parts.toList e K) :
    ∃ v, K v ∧ ∀ (σ : Sg) (F : Fzn) (w : World) (ρ : Operand → Value), (∀ p ∈ parts, PRep σ F w (e p.2) (ρ p.2)) →
      ∃ u, (Instr.build t (parts.map fun (i, x) => (i, ρ x))).run P w = .ok u w ∧ PRep σ F w v u := by
  unfold buildP at h
  split at h
  · rename_i fs hu
    obtain ⟨i, z, hi, hz, h, hr⟩ := zeroCells_out h
    obtain ⟨ps, hps, h⟩ := placesOf_out h
    obtain ⟨l', h1, h2⟩ := fillP_out h
    refine ⟨_, h1, fun σ F w ρ hp => ?_⟩
    obtain ⟨us', h3, h4⟩ := h2 σ F w ρ z.cells.toList (fun p hp' => hp p (by simpa using hp')) (hr σ F w)
    refine ⟨.agg us'.toArray, run_build w t _ us'.toArray ?_, by unfold PRep; exact ⟨us', rfl, h4⟩⟩
    unfold Program.built
    simp only [hi, hu, hz, hps]
    simpa using h3
  · exact h.elim

/-! ### slice literals -/
theorem rowsOf_out {sz : Nat} {e : Operand → PV} : ∀ {parts : List (Nat × Operand)} {n : Nat} {K : List (List C) → Prop}, rowsOf sz e n parts K →
    ∃ rs, K rs ∧ rs.length = parts.length ∧ (∀ r ∈ rs, r.length = sz) ∧ ∀ (σ : Sg) (F : Fzn) (w : World) (ρ : Operand → Value), (∀ p ∈ parts, PRep σ F w (e p.2) (ρ p.2)) →
      ∃ us : List Value, us.length = rs.length * sz ∧ CsRep F w rs.flatten us ∧ ∀ (pre post : List Value), pre.length = n * sz → parts.length * sz ≤ post.length →
        Instr.fill (fun i => some (i * sz, sz)) (pre ++ post).toArray (parts.map fun p => (p.1, ρ p.2)) = some (pre ++ us ++ post.drop (parts.length * sz)).toArray
  | [], n, K, h => ⟨[], h, rfl, by simp, fun σ F w ρ _ => ⟨[], by simp, csRep_nil, fun pre post _ _ => by simp [Instr.fill]⟩⟩
  | (i, x) :: ps, n, K, h => by
    unfold rowsOf at h
    split at h
    · rename_i e1
      obtain rfl := Nat.eq_of_beq_eq_true e1
      obtain ⟨cs, h', hcs⟩ := cells_out h
      clear h
      obtain ⟨ds, h, hds⟩ := closeL_out h'
      clear h'
      split at h
      · rename_i e2
        have e2 := Nat.eq_of_beq_eq_true e2
        obtain ⟨rs, h1, h2, h3, h4⟩ := rowsOf_out (parts := ps) h
        refine ⟨ds :: rs, h1, by simp [h2], fun r hr => ?_, fun σ F w ρ hp => ?_⟩
        · rcases List.mem_cons.1 hr with rfl | hr
          · exact e2
          · exact h3 r hr
        · have hpx : PRep σ F w (e x) (ρ x) := hp (i, x) (by simp)
          have hx := hds σ F w _ (cells_rep hcs hpx)
          have hxl := hx.len
          obtain ⟨us, g1, g2, g3⟩ := h4 σ F w ρ (fun p hp' => hp p (List.mem_cons_of_mem _ hp'))
          refine ⟨(ρ x).cells.toList ++ us, ?_, ?_, fun pre post hpre hpost => ?_⟩
          · rw [List.length_append, List.length_cons, Nat.add_mul]; omega
          · rw [List.flatten_cons]; exact hx.append g2
          · simp only [List.length_cons, Nat.add_mul, Nat.one_mul] at hpost
            rw [Array.length_toList] at hxl
            rw [List.map_cons, fill_cells _ (pre ++ post) i (i * sz) sz (ρ x) _ rfl (by omega) (by rw [List.length_append]; omega)]
            have e3 : (pre ++ post).take (i * sz) = pre := by rw [← hpre]; exact List.take_left
            have e4 : (pre ++ post).drop (i * sz + (ρ x).cells.toList.length) = post.drop sz := by
              rw [← hpre, List.drop_append, show pre.length + (ρ x).cells.toList.length - pre.length = sz by have hq : (ρ x).cells.toList.length = (ρ x).cells.size := Array.length_toList; omega]
              simp
            rw [e3, e4, g3 (pre ++ (ρ x).cells.toList) (post.drop sz) (by have hq : (ρ x).cells.toList.length = (ρ x).cells.size := Array.length_toList; rw [List.length_append, Nat.add_mul]; omega) (by rw [List.length_drop]; omega)]
            simp only [List.drop_drop, List.length_cons, List.append_assoc, Nat.add_mul, Nat.one_mul]
            rw [Nat.add_comm sz]
      · exact h.elim
    · exact h.elim

end Go.Proofs.YthogcgnhhcbkkaaDoor.Pm
