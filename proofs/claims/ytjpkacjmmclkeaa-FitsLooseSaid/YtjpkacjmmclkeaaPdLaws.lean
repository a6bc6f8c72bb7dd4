/- catalogBegun; CatalogTells, CatalogBack, CatalogOnly, FitsTells, FitsLoose -/
import Derived.Test.YtjpkacjmmclkeaaPdRef3
namespace Go.Proofs.Ytjpkacjmmclkeaa.Pm
open Go.RowKit K
set_option linter.unusedVariables false
set_option linter.unusedSimpArgs false
set_option maxRecDepth 100000

/-! ### plain laws -/
theorem unC_colV {c : ColumnD} (hk : kindOk c) : unC (colV c) = c := by
  obtain ⟨nm, kd, nn, un⟩ := c
  have hk : 0 ≤ kd ∧ kd ≤ 3 := hk
  have e1 := by1_int (48 + kd)
  have e2 : ((by1 (48 + kd)).toNat : Int) - 48 = kd := by omega
  show ColumnD.mk nm (((by1 (48 + kd)).toNat : Int) - 48) (decide (flagB nn 110 = 110)) (decide (flagB un 117 = 117)) = _
  rw [e2]
  cases nn <;> cases un <;> rfl
theorem unB_colV {c : ColumnD} (hk : kindOk c) : unB (colV c) = true := by
  unfold unB
  rw [unC_colV hk]
  have h3 : 3 ≤ (colV c).S.length := by show 3 ≤ (colH c ++ c.Name).length; rw [List.length_append]; show 3 ≤ 3 + _; omega
  simp only [Bool.and_eq_true, decide_eq_true_eq]
  exact ⟨rfl, h3, hk.1, hk.2, (ValueD.eqB_iff _ _).2 rfl⟩
theorem colV_unC {v : ValueD} (h : unB v = true) : colV (unC v) = v := by
  unfold unB at h
  simp only [Bool.and_eq_true, decide_eq_true_eq] at h
  exact (ValueD.eqB_iff _ _).1 h.2.2.2.2
theorem schB_ent {s : SchemaD} (h : ∀ c ∈ s.Cols, kindOk c) : schB (entOf s) = true := by
  show (decide (2 = 2) && (s.Cols.map colV).all unB) = true
  rw [Bool.and_eq_true, List.all_eq_true]
  refine ⟨rfl, fun v hv => ?_⟩
  obtain ⟨c, hc, rfl⟩ := List.mem_map.1 hv
  exact unB_colV (h c hc)
theorem schS_ent {s : SchemaD} (h : ∀ c ∈ s.Cols, kindOk c) : schS (entOf s) = s := by
  obtain ⟨id, nm, cs⟩ := s
  show SchemaD.mk id nm ((cs.map colV).map unC) = _
  rw [List.map_map]
  congr 1
  conv => rhs; rw [← List.map_id cs]
  exact List.map_congr_left fun c hc => unC_colV (h c hc)
theorem ent_schS {x : EntryD} (h : schB x = true) (hN : ∀ v ∈ x.Row, vChk v = 0) : entOf (schS x) = x := by
  obtain ⟨id, row⟩ := x
  cases row with
  | nil => cases h
  | cons v r =>
    have h : (decide (v.Kind = 2) && r.all unB) = true := h
    rw [Bool.and_eq_true, decide_eq_true_eq, List.all_eq_true] at h
    have hv := hN v (List.mem_cons_self ..)
    have hv0 : v.N = 0 := by
      unfold vChk at hv
      split at hv
      · cases hv
      · split at hv
        · cases hv
        · rename_i g; omega
    show EntryD.mk id (⟨2, 0, v.S⟩ :: (r.map unC).map colV) = _
    rw [List.map_map]
    congr 1
    congr 1
    · obtain ⟨k, n, s⟩ := v; simp only at hv0 h; rw [hv0, h.1]
    · conv => rhs; rw [← List.map_id r]
      exact List.map_congr_left fun c hc => colV_unC (h.2 c hc)
theorem colT_len (c : ColumnD) : (colT c).length = 3 + c.Name.length := by unfold colT; rw [List.length_append]; rfl
theorem nameB_len {l : List UInt8} (h : nameB l = true) : l.length ≤ 12 := by
  unfold nameB at h
  simp only [Bool.and_eq_true, decide_eq_true_eq] at h
  exact h.2.1
/-- the rows of tables that are right are right -/
theorem ent_right {s : SchemaD} (hc : colsChk s.Cols = 0) (hn : nameB s.Name = true) : rowChk (entOf s).Row = 0 := by
  obtain ⟨⟨c1, c6⟩, hk⟩ := colsChk_ok hc
  unfold rowChk
  rw [if_neg (by show ¬ 8 < (s.Cols.map colV).length + 1; rw [List.length_map]; omega), vChkAll_ok]
  intro v hv
  have hv : v = ⟨2, 0, s.Name⟩ ∨ v ∈ s.Cols.map colV := List.mem_cons.1 hv
  rcases hv with rfl | hv
  · unfold vChk
    have := nameB_len hn
    simp; omega
  · obtain ⟨c, hc, rfl⟩ := List.mem_map.1 hv
    have := nameB_len (hk c hc).2
    have := colT_len c
    unfold vChk colV
    simp; omega
theorem ents_go : ∀ {l : List SchemaD} {last : Int} {seen : List (List UInt8)}, schGo last seen l = 0 → entGo last (l.map entOf) = 0
  | [], _, _, _ => rfl
  | s :: l, last, seen, h => by
    have hs := schGo_ok h s (List.mem_cons_self ..)
    unfold schGo at h
    split at h
    · cases h
    · split at h
      · cases h
      · split at h
        · cases h
        · split at h
          · rename_i h4; exact absurd h h4
          · split at h
            · cases h
            · rename_i h1 h2 h3 h4 h5
              show entGo last (entOf s :: l.map entOf) = 0
              unfold entGo
              have hr : riseE (entOf s).Id last = 0 := by
                show riseE s.Id last = 0
                unfold riseE
                rw [if_neg (by omega), if_neg h2]
              rw [if_neg (not_not_intro hr), if_neg (not_not_intro (ent_right hs.1 hs.2.1))]
              exact ents_go h
theorem ents_right {l : List SchemaD} (h : schChk l = 0) : entChk (l.map entOf) = 0 := by
  have h6 := (schChk_ok h).1
  unfold schChk at h
  rw [if_neg (by omega)] at h
  unfold entChk
  rw [if_neg (by rw [List.length_map]; omega)]
  exact ents_go h
theorem cat_back {l : List SchemaD} (h : schChk l = 0) : catE (l.map entOf) = 0 ∧ catL (l.map entOf) = l := by
  have hk : ∀ s ∈ l, ∀ c ∈ s.Cols, kindOk c := fun s hs c hc => ((colsChk_ok ((schChk_ok h).2 s hs).1).2 c hc).1
  have e1 : (l.map entOf).map schS = l := by
    rw [List.map_map]
    conv => rhs; rw [← List.map_id l]
    exact List.map_congr_left fun s hs => schS_ent (hk s hs)
  have e2 : (l.map entOf).all schB = true := by
    rw [List.all_eq_true]
    intro x hx
    obtain ⟨s, hs, rfl⟩ := List.mem_map.1 hx
    exact schB_ent (hk s hs)
  have e3 : catE (l.map entOf) = 0 := by
    unfold catE
    rw [if_neg (not_not_intro (ents_right h)), e2, e1]
    exact h
  exact ⟨e3, by unfold catL; rw [if_pos e3, e1]⟩
theorem catE_inv {l : List EntryD} (h : catE l = 0) : entChk l = 0 ∧ l.all schB = true ∧ schChk (l.map schS) = 0 := by
  unfold catE at h
  split at h
  · rename_i q; exact absurd h q
  · split at h
    · cases h
    · rename_i h1 h2
      exact ⟨by omega, by simpa using h2, h⟩
theorem cat_only {l : List EntryD} (h : catE l = 0) : (l.map schS).map entOf = l := by
  obtain ⟨h1, h2, h3⟩ := catE_inv h
  rw [List.map_map]
  conv => rhs; rw [← List.map_id l]
  exact List.map_congr_left fun x hx => ent_schS (List.all_eq_true.1 h2 x hx) (rowChk_ok ((entChk_ok h1).2 x hx).2).2
theorem entText_ents {l : List SchemaD} (h : schChk l = 0) : entText (l.map entOf) := by
  obtain ⟨h6, hs⟩ := schChk_ok h
  refine ⟨by rw [List.length_map]; omega, fun x hx => ?_⟩
  obtain ⟨s, hm, rfl⟩ := List.mem_map.1 hx
  obtain ⟨hc, hn, _⟩ := hs s hm
  obtain ⟨⟨c1, c6⟩, hk⟩ := colsChk_ok hc
  refine ⟨by show (_ + 1) * 32 ≤ _; rw [List.length_map]; omega, fun v hv => ?_⟩
  have hv : v = ⟨2, 0, s.Name⟩ ∨ v ∈ s.Cols.map colV := List.mem_cons.1 hv
  rcases hv with rfl | hv
  · have := nameB_len hn
    show _ ≤ _
    simp only; omega
  · obtain ⟨c, hc, rfl⟩ := List.mem_map.1 hv
    have h1 := nameB_len (hk c hc).2
    have h2 := colT_len c
    show (colT c).length ≤ _
    omega
theorem schSh_cat {l : List EntryD} (h : entText l) : schSh (catL l) := by
  unfold catL
  split
  · rename_i e; exact schS_all h (catE_inv e).2.1
  · exact ⟨Nat.zero_le _, fun s hs => by cases hs⟩
theorem rowsShort_rows {l : List SchemaD} : nsz (rowsL l).length ∧ rowsShort (rowsL l) := by
  unfold rowsL
  split
  · rename_i e
    have := entText_ents e
    exact ⟨by have := this.1; show _ ≤ _; omega, entText_short this⟩
  · exact ⟨Nat.zero_le _, fun s hs => by cases hs⟩
/-! ### what fits a table fits a looser one -/
def looseC (c : ColumnD) : ColumnD := ⟨c.Name, 0, false, false⟩
theorem colsGo_loose : ∀ {l : List ColumnD} {seen : List (List UInt8)} {k : Nat} (h : k < l.length), colsGo seen l = 0 → colsGo seen (l.set k (looseC l[k])) = 0
  | c :: l, seen, 0, _, h => by
    show colsGo seen (looseC c :: l) = 0
    unfold colsGo at h ⊢
    split at h
    · cases h
    · split at h
      · cases h
      · split at h
        · cases h
        · rename_i h1 h2 h3
          rw [if_neg (show ¬ nameB (looseC c).Name = false from h1), if_neg (show ¬ ((looseC c).Kind < 0 ∨ 3 < (looseC c).Kind) by show ¬ ((0 : Int) < 0 ∨ 3 < (0 : Int)); omega), if_neg (show ¬ (looseC c).Name ∈ seen from h3)]
          exact h
  | c :: l, seen, k + 1, hk, h => by
    have hk : k < l.length := by simpa using hk
    show colsGo seen (c :: l.set k (looseC l[k])) = 0
    unfold colsGo at h ⊢
    split at h
    · cases h
    · split at h
      · cases h
      · split at h
        · cases h
        · rename_i h1 h2 h3
          rw [if_neg h1, if_neg h2, if_neg h3]
          exact colsGo_loose hk h
theorem fitGo_loose : ∀ {l : List ColumnD} {vs : List ValueD} {k : Nat} (h : k < l.length), fitGo l vs = 0 → fitGo (l.set k (looseC l[k])) vs = 0
  | [], _, _, h, _ => by simp at h
  | c :: l, [], k, _, _ => by cases k <;> rfl
  | c :: l, v :: vs, 0, _, h => by
    show fitGo (looseC c :: l) (v :: vs) = 0
    unfold fitGo at h ⊢
    split at h
    · rename_i q; exact absurd h q
    · rename_i q
      have hv : vChk v = 0 := by
        unfold fitE at q
        by_cases hv : vChk v = 0
        · exact hv
        · rw [if_pos hv] at q; exact absurd hv q
      have : fitE (looseC c) v = 0 := by
        unfold fitE looseC
        simp [hv]
      rw [if_neg (not_not_intro this)]
      exact h
  | c :: l, v :: vs, k + 1, hk, h => by
    have hk : k < l.length := by simpa using hk
    show fitGo (c :: l.set k (looseC l[k])) (v :: vs) = 0
    unfold fitGo at h ⊢
    split at h
    · rename_i q; exact absurd h q
    · rename_i q
      rw [if_neg q]
      exact fitGo_loose hk h
theorem fitGo_more : ∀ {l : List ColumnD} {vs : List ValueD} {c : ColumnD} {v : ValueD}, l.length = vs.length → fitGo l vs = 0 → fitGo (l ++ [c]) (vs ++ [v]) = fitE c v
  | [], [], c, v, _, _ => by
    show (if fitE c v ≠ 0 then fitE c v else 0) = _
    split
    · rfl
    · omega
  | c0 :: l, v0 :: vs, c, v, hl, h => by
    show fitGo (c0 :: (l ++ [c])) (v0 :: (vs ++ [v])) = _
    unfold fitGo at h ⊢
    split at h
    · rename_i q; exact absurd h q
    · rename_i q
      rw [if_neg q]
      exact fitGo_more (by simpa using hl) h
  | [], _ :: _, _, _, hl, _ => by simp at hl
  | _ :: _, [], _, _, hl, _ => by simp at hl
theorem schChk_one (s : SchemaD) : schChk [s] = if s.Id < 1 ∨ 999 < s.Id then 3 else if nameB s.Name = false then 1 else colsChk s.Cols := by
  show (if 6 < 1 then 2 else schGo 0 [] [s]) = _
  rw [if_neg (by omega)]
  unfold schGo
  split
  · rfl
  · rw [if_neg (by omega)]
    split
    · rfl
    · split
      · rfl
      · rename_i h
        rw [if_neg (by simp)]
        show (0 : Int) = _
        omega
theorem fitsE_inv {s : SchemaD} {row : List ValueD} (h : fitsE s row = 0) : schChk [s] = 0 ∧ row.length = s.Cols.length ∧ fitGo s.Cols row = 0 := by
  unfold fitsE at h
  split at h
  · rename_i q; exact absurd h q
  · rename_i q
    unfold rawE at h
    split at h
    · cases h
    · rename_i q2; exact ⟨by omega, by omega, h⟩
theorem fits_loose {s : SchemaD} {row : List ValueD} {k : Nat} (hk : k < s.Cols.length) (h : fitsE s row = 0) : fitsE ⟨s.Id, s.Name, s.Cols.set k (looseC s.Cols[k])⟩ row = 0 := by
  obtain ⟨h1, h2, h3⟩ := fitsE_inv h
  rw [schChk_one] at h1
  have hc : schChk [⟨s.Id, s.Name, s.Cols.set k (looseC s.Cols[k])⟩] = 0 := by
    rw [schChk_one]
    split at h1
    · cases h1
    · split at h1
      · cases h1
      · rename_i q1 q2
        rw [if_neg q1, if_neg q2]
        unfold colsChk at h1 ⊢
        simp only [List.length_set]
        split at h1
        · cases h1
        · split at h1
          · cases h1
          · rename_i q3 q4
            rw [if_neg q3, if_neg q4]
            exact colsGo_loose hk h1
  unfold fitsE
  rw [if_neg (not_not_intro hc)]
  unfold rawE
  rw [if_neg (by simp only [List.length_set]; omega)]
  exact fitGo_loose hk h3
theorem fits_more {s : SchemaD} {row : List ValueD} {c : ColumnD} (hc : schChk [⟨s.Id, s.Name, s.Cols ++ [c]⟩] = 0) (h : fitsE s row = 0) : fitsE ⟨s.Id, s.Name, s.Cols ++ [c]⟩ (row ++ [⟨0, 0, []⟩]) = if c.NotNull then 5 else 0 := by
  obtain ⟨h1, h2, h3⟩ := fitsE_inv h
  unfold fitsE
  rw [if_neg (not_not_intro hc)]
  unfold rawE
  rw [if_neg (by simp [h2])]
  rw [fitGo_more h2.symm h3]
  unfold fitE
  rw [if_neg (by decide)]
  cases c.NotNull <;> simp
end Go.Proofs.Ytjpkacjmmclkeaa.Pm
