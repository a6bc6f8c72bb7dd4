/- The model does what the plain machine reckons: cuts of slices and texts, conversions, records. -/
import Derived.Test.YthogcgnhhcbkkaaDoorPmSim2
namespace Go.Proofs.YthogcgnhhcbkkaaDoor.Pm
open Go.RowKit
set_option linter.unusedVariables false

theorem bound_out {x : Option PV} {d : Int} {K : Int → Prop} (h : bound x d K) : (x = none ∧ K d) ∨ ∃ k n, x = some (pInt k n) ∧ K n := by
  unfold bound at h
  split at h
  · exact .inl ⟨rfl, h⟩
  · exact .inr ⟨_, _, rfl, h⟩
  · exact h.elim

section
variable {P : Program} {w : World}
theorem run_sliceBound (k : IntKind) (n : Int) (y : Nat) (code : BoundsCode) (h0 : 0 ≤ n) (h1 : n ≤ y) : (Instr.sliceBound (.int k n) y code).run P w = .ok n.toNat w := by
  simp [Instr.sliceBound, asIntOf, h0, h1]

/-- the bounds of a cut: each is there, or is the default -/
theorem run_bounds (isSlice : Bool) (len cap : Nat) (lo hi : Option Value) (l h : Int) (hl : (lo = none ∧ l = 0) ∨ ∃ k, lo = some (.int k l)) (hh : (hi = none ∧ h = len) ∨ ∃ k, hi = some (.int k h))
    (h0 : 0 ≤ l) (h1 : l ≤ h) (h2 : h ≤ len) (h3 : len ≤ cap) : (Instr.sliceBounds isSlice len cap lo hi none).run P w = .ok (l.toNat, h.toNat, cap) w := by
  have e1 : h ≤ (cap : Int) := by omega
  have e2 : l ≤ (h.toNat : Int) := by omega
  have e3 : 0 ≤ h := by omega
  rcases hl with ⟨rfl, rfl⟩ | ⟨k, rfl⟩ <;> rcases hh with ⟨rfl, rfl⟩ | ⟨k', rfl⟩
  · simp [Instr.sliceBounds]
  · simp [Instr.sliceBounds, run_sliceBound _ _ _ _ e3 e1]
  · have e4 : l ≤ (len : Int) := h1
    simp [Instr.sliceBounds, run_sliceBound _ _ _ _ h0 e4]
  · simp [Instr.sliceBounds, run_sliceBound _ _ _ _ e3 e1, run_sliceBound _ _ _ _ h0 e2]
end

/-- how an operand that may be missing is told -/
def OptRep (σ : Sg) (F : Fzn) (w : World) (x : Option PV) (u : Option Value) : Prop := (x = none ∧ u = none) ∨ ∃ p v, x = some p ∧ u = some v ∧ PRep σ F w p v
theorem optRep_bound {σ : Sg} {F : Fzn} {w : World} {x : Option PV} {u : Option Value} {d n : Int} (hr : OptRep σ F w x u) (h : (x = none ∧ n = d) ∨ ∃ k, x = some (pInt k n)) :
    (u = none ∧ n = d) ∨ ∃ k, u = some (.int k n) := by
  rcases hr with ⟨rfl, rfl⟩ | ⟨p, v, rfl, rfl, hp⟩
  · rcases h with ⟨_, rfl⟩ | ⟨k, hk⟩
    · exact .inl ⟨rfl, rfl⟩
    · cases hk
  · rcases h with ⟨hk, _⟩ | ⟨k, hk⟩
    · cases hk
    · cases hk
      exact .inr ⟨k, by rw [rep_v hp]⟩

theorem slice_core {P : Program} {t e : TypeId} {i : TypeInfo} (hu : P.underlying t = some (.slice e)) (hi : P.info? e = some i) {x : PV} {rows : List (List C)} {l h : Int} {lo hi' : Option PV}
    (hx : x = .d (.c (.sl i.size rows)) ∨ ∃ k e, x = .d (.app k e i.size rows)) (h0 : 0 ≤ l) (h1 : l ≤ h) (h2 : h ≤ rows.length)
    (hlo : (lo = none ∧ l = 0) ∨ ∃ k, lo = some (pInt k l)) (hhi : (hi' = none ∧ h = rows.length) ∨ ∃ k, hi' = some (pInt k h))
    (σ : Sg) (F : Fzn) (w : World) (u : Value) (a b : Option Value) (hr : PRep σ F w x u) (ha : OptRep σ F w lo a) (hb : OptRep σ F w hi' b) :
    ∃ z, (Instr.sliceAt t u a b none).run P w = .ok z w ∧ PRep σ F w (.d (.c (.sl i.size ((rows.drop l.toNat).take (h.toNat - l.toNat))))) z := by
  obtain ⟨ad, cap, rfl, g1, g2, g3, g4⟩ := rows_val hx hr
  have hrun := run_bounds (P := P) (w := w) true rows.length cap a b l h (optRep_bound ha hlo) (optRep_bound hb hhi) h0 h1 h2 g1
  have hlen : ((rows.drop l.toNat).take (h.toNat - l.toNat)).length = h.toNat - l.toNat := by rw [List.length_take, List.length_drop]; omega
  refine ⟨.slice (if cap = l.toNat then ad else ad.map (·.add (l.toNat * i.size))) (h.toNat - l.toNat) (cap - l.toNat), by simp [Instr.sliceAt, run_underlying hu, Instr.slice, hrun, sizeOf, typeInfo, hi], ?_⟩
  unfold PRep DRep CRep
  refine ⟨_, _, by rw [hlen], by rw [hlen]; omega, by omega, ?_, ?_⟩
  · intro hn
    split at hn
    · rw [g3 hn]; omega
    · cases ad with
      | none => rw [g3 rfl]; omega
      | some ad => cases hn
  · by_cases hz : h.toNat - l.toNat = 0
    · left; rw [hz, List.take_zero]
    · right
      rcases g4 with rfl | ⟨bb, off, rfl, g5⟩
      · simp at h2; omega
      · refine ⟨bb, off + l.toNat * i.size, ?_, rowsAt_take _ (rowsAt_drop _ (by omega) g5)⟩
        rw [if_neg (by omega)]
        simp [Addr.add_mid]

theorem sliceP_out {P : Program} {t : TypeId} {x : PV} {lo hi : Option PV} {K : PV → Prop} (h : sliceP P t x lo hi K) :
    ∃ v, K v ∧ ∀ (σ : Sg) (F : Fzn) (w : World) (u : Value) (a b : Option Value), PRep σ F w x u → OptRep σ F w lo a → OptRep σ F w hi b →
      ∃ z, (Instr.sliceAt t u a b none).run P w = .ok z w ∧ PRep σ F w v z := by
  have fix : ∀ {x : Option PV} {d n : Int} {K : Int → Prop}, ((x = none ∧ K d) ∨ ∃ k n, x = some (pInt k n) ∧ K n) → ∃ n, ((x = none ∧ n = d) ∨ ∃ k, x = some (pInt k n)) ∧ K n := by
    intro x d n K h
    rcases h with ⟨rfl, h⟩ | ⟨k, n, rfl, h⟩
    · exact ⟨d, .inl ⟨rfl, rfl⟩, h⟩
    · exact ⟨n, .inr ⟨k, rfl⟩, h⟩
  unfold sliceP at h
  split at h
  · rename_i s
    split at h
    · rename_i hu
      obtain ⟨l, hl, h⟩ := fix (n := 0) (bound_out h)
      obtain ⟨hh, hhi, h⟩ := fix (n := 0) (bound_out h)
      obtain ⟨⟨h0, h1, h2⟩, h⟩ := h
      refine ⟨_, h, fun σ F w u a b hx ha hb => ⟨_, ?_, rep_str _⟩⟩
      rw [rep_v hx]
      have hrun := run_bounds (P := P) (w := w) false s.size s.size a b l hh (optRep_bound ha hl) (optRep_bound hb hhi) h0 h1 h2 (Nat.le_refl _)
      simp [Instr.sliceAt, run_underlying hu, Instr.slice, hrun]
    · exact h.elim
  · rename_i sz rows
    obtain ⟨e, i, hu, hi', h'⟩ := tySlice_out h
    clear h
    split at h'
    · rename_i hs
      obtain rfl := Nat.eq_of_beq_eq_true hs
      obtain ⟨l, hl, h⟩ := fix (n := 0) (bound_out h')
      obtain ⟨hh, hhi, h⟩ := fix (n := 0) (bound_out h)
      obtain ⟨⟨h0, h1, h2⟩, h⟩ := h
      exact ⟨_, h, slice_core hu hi' (.inl rfl) h0 h1 h2 hl hhi⟩
    · exact h'.elim
  · rename_i kk ee sz rows
    obtain ⟨e, i, hu, hi', h'⟩ := tySlice_out h
    clear h
    split at h'
    · rename_i hs
      obtain rfl := Nat.eq_of_beq_eq_true hs
      obtain ⟨l, hl, h⟩ := fix (n := 0) (bound_out h')
      obtain ⟨hh, hhi, h⟩ := fix (n := 0) (bound_out h)
      obtain ⟨⟨h0, h1, h2⟩, h⟩ := h
      exact ⟨_, h, slice_core hu hi' (.inr ⟨kk, ee, rfl⟩) h0 h1 h2 hl hhi⟩
    · exact h'.elim
  · rename_i kk ee sz lw n
    obtain ⟨e, i, hu, hi', h'⟩ := tySlice_out h
    clear h
    split at h'
    · rename_i hs
      obtain rfl := Nat.eq_of_beq_eq_true hs
      obtain ⟨l, hl, h⟩ := fix (n := 0) (bound_out h')
      obtain ⟨hh, hhi, h⟩ := fix (n := 0) (bound_out h)
      obtain ⟨⟨h0, h1, h2⟩, h⟩ := h
      refine ⟨_, h, fun σ F w u a b hr ha hb => ?_⟩
      unfold PRep DRep at hr
      obtain ⟨hz, ⟨m, g1, rfl, rfl⟩ | ⟨g, m, off, cap, cur, fr, g1, rfl, g3, g4, g5, g6, g7⟩⟩ := hr
      · have hrun := run_bounds (P := P) (w := w) true 0 0 a b l hh (optRep_bound ha hl) (optRep_bound hb hhi) h0 h1 h2 (Nat.le_refl _)
        refine ⟨.slice none 0 0, ?_, ?_⟩
        · have e1 : hh.toNat = 0 := by omega
          have e2 : l.toNat = 0 := by omega
          rw [e1, e2] at hrun
          simp [Instr.sliceAt, run_underlying hu, Instr.slice, hrun, sizeOf, typeInfo, hi']
        · unfold PRep DRep
          exact ⟨hz, .inl ⟨m, g1, by omega, rfl⟩⟩
      · have hrun := run_bounds (P := P) (w := w) true n cap a b l hh (optRep_bound ha hl) (optRep_bound hb hhi) h0 h1 h2 g3
        refine ⟨.slice (if cap = l.toNat then some ⟨g, off, none⟩ else (some (⟨g, off, none⟩ : Addr)).map (·.add (l.toNat * i.size))) (hh.toNat - l.toNat) (cap - l.toNat), by simp [Instr.sliceAt, run_underlying hu, Instr.slice, hrun, sizeOf, typeInfo, hi'], ?_⟩
        unfold PRep DRep
        refine ⟨hz, .inr ?_⟩
        by_cases hc : cap = l.toNat
        · rw [if_pos hc]
          exact ⟨g, m, off, _, cur, fr, g1, rfl, by omega, by omega, g5, by rw [hc, Nat.sub_self]; omega, fun q => by omega⟩
        · rw [if_neg hc]
          obtain ⟨q1, q2⟩ := g7 (by omega)
          have e3 : off + l.toNat * i.size = (lw + l.toNat) * i.size := by rw [q1, Nat.add_mul]
          have e4 : (lw + l.toNat + (cap - l.toNat)) * i.size = cur.size := by rw [← q2]; congr 1; omega
          refine ⟨g, m, off + l.toNat * i.size, _, cur, fr, g1, by simp [Addr.add_mid], by omega, by omega, g5, ?_, fun _ => ⟨e3, e4⟩⟩
          rw [e3, ← Nat.add_mul, e4]; exact Nat.le_refl _
    · exact h'.elim
  · exact h.elim

theorem indexP_out {P : Program} {t : TypeId} {x i : PV} {K : PV → Prop} (h : indexP P t x i K) :
    ∃ v, K v ∧ ∀ (σ : Sg) (F : Fzn) (w : World) (u y : Value), PRep σ F w x u → PRep σ F w i y → ∃ z, (Instr.index t u y).run P w = .ok z w ∧ PRep σ F w v z := by
  unfold indexP at h
  split at h
  · rename_i s k n
    split at h
    · rename_i hu
      obtain ⟨b, h0, h1, h2⟩ := h
      refine ⟨_, h2, fun σ F w u y hx hy => ⟨_, ?_, rep_int _ _⟩⟩
      rw [rep_v hx, rep_v hy]
      have hb : s[n.toNat]? = some b := by
        obtain ⟨hl, e⟩ := List.getElem?_eq_some_iff.1 h1
        have hl' : n.toNat < s.size := hl
        rw [getElem?_pos s n.toNat hl']
        congr 1
      simp [Instr.index, asIntOf, run_underlying hu, h0, hb]
    · exact h.elim
  · rename_i l k n
    split at h
    · rename_i len el hu
      split at h
      · rename_i ti hi hl
        have hl := Nat.eq_of_beq_eq_true hl
        have fin : ∀ (de : TypeDesc), P.underlying el = some de → de.isRow = false → Nat.beq ti.size 1 = true → DIdx l n (fun x => K (.d x)) →
            ∃ v, K v ∧ ∀ (σ : Sg) (F : Fzn) (w : World) (u y : Value), PRep σ F w (.agg l) u → PRep σ F w (.d (.c (.v (.int k n)))) y → ∃ z, (Instr.index t u y).run P w = .ok z w ∧ PRep σ F w v z := by
          intro de hde hrow hs h
          have hs := Nat.eq_of_beq_eq_true hs
          obtain ⟨x, h0, h1, h2⟩ := h
          refine ⟨_, h2, fun σ F w u y hu' hy => ?_⟩
          rw [rep_v hy]
          unfold PRep at hu'
          obtain ⟨us, rfl, hr⟩ := hu'
          obtain ⟨z, g1, g2⟩ := hr.get h1
          have hlt := (List.getElem?_eq_some_iff.1 h1).1
          have e1 : n < (len : Int) := by omega
          refine ⟨z, ?_, by unfold PRep; exact g2⟩
          have e2 : us.toArray[n.toNat]? = some z := by simpa using g1
          simp [Instr.index, asIntOf, run_underlying hu, h0, e1, sizeOf, typeInfo, hi, hs, part, run_isAgg_row hde, hrow, g1]
        split at h
        · exact h.elim
        · exact h.elim
        · rename_i de n1 n2 hs hde
          refine fin _ hde ?_ hs h
          cases de <;> first | rfl | exact absurd rfl (n1 _) | exact absurd rfl (n2 _ _)
        · exact h.elim
      · exact h.elim
    · exact h.elim
  · exact h.elim

theorem convP_out {P : Program} {src dst : TypeId} {x : PV} {K : PV → Prop} (h : convP P src dst x K) :
    ∃ v, K v ∧ ∀ (σ : Sg) (F : Fzn) (w : World) (u : Value), PRep σ F w x u → ∃ z, (convert src dst u).run P w = .ok z w ∧ PRep σ F w v z := by
  unfold convP at h
  split at h
  · rename_i k hu
    split at h
    · rename_i sd k' n hsd
      obtain ⟨m, rfl, h⟩ := h
      refine ⟨_, h, fun σ F w u hx => ⟨_, ?_, rep_int _ _⟩⟩
      rw [rep_v hx]
      simp [convert, run_underlying hu, run_underlying hsd, Conv.intToInt]
    · exact h.elim
  · rename_i hu
    split at h
    · rename_i hsu
      split at h
      · rename_i s
        refine ⟨_, h, fun σ F w u hx => ⟨_, ?_, rep_str _⟩⟩
        rw [rep_v hx]
        simp [convert, run_underlying hu, run_underlying hsu]
      · exact h.elim
    · rename_i e hsu
      split at h
      · rename_i he
        obtain ⟨l, h, hx'⟩ := rows_out h
        obtain ⟨bs, rfl, h⟩ := h
        refine ⟨_, h, fun σ F w u hx => ⟨_, ?_, rep_str _⟩⟩
        have hcases : (∃ c cap, u = .slice none c cap ∧ bs = []) ∨ ∃ a cap, u = .slice (some a) bs.length cap ∧ (∀ j (hj : j < bs.length), w.cell? (a.add j) = some (.int .u8 (bs[j].toNat : Int))) := by
          rcases hx' with ⟨rfl, hb⟩ | ⟨sz, hx'⟩
          · rw [rep_v hx]; exact .inl ⟨_, _, rfl, by simpa using hb⟩
          · obtain ⟨a, cap, rfl, g1, g2, g3, g4⟩ := rows_val hx' hx
            rw [List.length_map] at g1 ⊢
            cases a with
            | none => exact .inl ⟨_, _, rfl, List.eq_nil_of_length_eq_zero (by have := g3 rfl; omega)⟩
            | some a =>
              refine .inr ⟨a, cap, rfl, fun j hj => ?_⟩
              rcases g4 with hb | ⟨b, off, hab, g5⟩
              · rw [List.map_eq_nil_iff] at hb; subst hb; simp at hj
              · obtain rfl := Option.some.inj hab
                have hg : (bs.map fun b => [C.v (.int .u8 (b.toNat : Int))])[j]? = some [C.v (.int .u8 (bs[j].toNat : Int))] := by simp [hj]
                obtain ⟨g6, g7⟩ := rowsAt_get g5 hg
                simp only [List.length_cons, List.length_nil, Nat.zero_add] at g6
                subst g6
                unfold CsAt CRep at g7
                obtain ⟨⟨_, v, g8, g9, _⟩, _⟩ := g7
                subst g9
                rw [Addr.add_mid]
                simpa using g8
        rcases hcases with ⟨c, cap, rfl, rfl⟩ | ⟨a, cap, rfl, hc⟩
        · exact run_convert_bytes_nil w src e hsu he c cap dst hu
        · exact run_convert_bytes_back w src dst e a cap bs hsu he hu hc
      · exact h.elim
    · exact h.elim
  · exact h.elim

end Go.Proofs.YthogcgnhhcbkkaaDoor.Pm
