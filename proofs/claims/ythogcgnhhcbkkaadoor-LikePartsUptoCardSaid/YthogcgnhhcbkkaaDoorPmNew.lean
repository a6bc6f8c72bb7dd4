/- The model does what the plain machine reckons: comparisons of records and addresses, conversions, texts, interfaces, arrays that are made. -/
import Derived.Test.YthogcgnhhcbkkaaDoorPmSim7
import Derived.Laws.StructEq
import Derived.Laws.IdiomStrings
import Derived.Laws.Externs
import Derived.Laws.MakeOwn
import Derived.Lib.Builder
import Derived.Lib.UnsafeStr
import Derived.Lib.AppendStr
namespace Go.Proofs.YthogcgnhhcbkkaaDoor.Pm
open Go.RowKit
set_option linter.unusedVariables false

/-! ### comparisons -/
section
variable {P : Program}
theorem eqFs_out {eq : TypeId → PV → PV → (Bool → Prop) → Prop} {d : Nat}
    (heq : ∀ t x y (K : Bool → Prop), eq t x y K → ∃ b, K b ∧ ∀ (n : Nat) (σ : Sg) (F : Fzn) (w : World) (u v : Value), d ≤ n → PRep σ F w x u → PRep σ F w y v → (Op.equalIn n t u v).run P w = .ok b w) {l m : List D} :
    ∀ {fs : List Field} {K : Bool → Prop}, eqFs P eq l m fs K → ∃ b, K b ∧ ∀ (n : Nat) (σ : Sg) (F : Fzn) (w : World) (us vs : List Value), d ≤ n → DsRep σ F w l us → DsRep σ F w m vs → (Op.eqFields n us.toArray vs.toArray fs).run P w = .ok b w
  | [], K, h => ⟨true, h, fun n σ F w us vs _ _ _ => by simp [Op.eqFields]⟩
  | f :: fs, K, h => by
    unfold eqFs at h
    obtain ⟨hn, h⟩ := h
    obtain ⟨a, h, ha⟩ := partP_out h
    obtain ⟨b, h, hb⟩ := partP_out h
    obtain ⟨r, h, hr⟩ := heq _ _ _ _ h
    obtain ⟨r', h, hr'⟩ := eqFs_out heq h
    refine ⟨_, h, fun n σ F w us vs hd hu hv => ?_⟩
    obtain ⟨z1, g1, g2⟩ := ha σ F w us hu
    obtain ⟨z2, g3, g4⟩ := hb σ F w vs hv
    have g5 := hr n σ F w z1 z2 hd g2 g4
    have g6 := hr' n σ F w us vs hd hu hv
    unfold Op.eqFields
    rw [if_pos hn]
    simp only [Sem.run_bind, g1, g3, g5, Result.andThen_ok]
    cases r with
    | true => simp [g6]
    | false => simp
theorem eqV_out : ∀ (d : Nat) (t : TypeId) (x y : PV) (K : Bool → Prop), eqV P d t x y K → ∃ b, K b ∧ ∀ (n : Nat) (σ : Sg) (F : Fzn) (w : World) (u v : Value), d ≤ n → PRep σ F w x u → PRep σ F w y v → (Op.equalIn n t u v).run P w = .ok b w
  | 0, t, x, y, K, h => by unfold eqV at h; exact h.elim
  | d + 1, t, x, y, K, h => by
    unfold eqV at h
    split at h
    · rename_i k0 hu
      split at h
      · rename_i k a k' b
        split at h
        · rename_i hk
          obtain rfl := of_decide_eq_true hk
          refine ⟨_, h, fun n σ F w u v hd hx hy => ?_⟩
          obtain ⟨n, rfl⟩ : ∃ q, n = q + 1 := ⟨n - 1, by omega⟩
          rw [rep_v hx, rep_v hy, run_equalIn_int w n t k k0 a b hu]
          congr 1
        · exact h.elim
      · exact h.elim
    · rename_i hu
      split at h
      · rename_i a b
        refine ⟨_, h, fun n σ F w u v hd hx hy => ?_⟩
        obtain ⟨n, rfl⟩ : ∃ q, n = q + 1 := ⟨n - 1, by omega⟩
        rw [rep_v hx, rep_v hy, run_equalIn_string w n t a b hu, toList_beq_dec]
      · exact h.elim
    · rename_i hu
      split at h
      · rename_i a b
        refine ⟨_, h, fun n σ F w u v hd hx hy => ?_⟩
        obtain ⟨n, rfl⟩ : ∃ q, n = q + 1 := ⟨n - 1, by omega⟩
        rw [rep_v hx, rep_v hy]
        exact Go.run_equalIn_bool w n t a b hu
      · exact h.elim
    · rename_i fs hu
      split at h
      · rename_i l m
        split at h
        · rename_i hs
          obtain ⟨b, h, hb⟩ := eqFs_out (eqV_out d) h
          refine ⟨b, h, fun n σ F w u v hd hx hy => ?_⟩
          obtain ⟨n, rfl⟩ : ∃ q, n = q + 1 := ⟨n - 1, by omega⟩
          unfold PRep at hx hy
          obtain ⟨us, rfl, hx⟩ := hx
          obtain ⟨vs, rfl, hy⟩ := hy
          have hf : P.fieldsOf t = fs := by unfold Program.fieldsOf; rw [hu]
          rw [run_equalIn_agg w n t _ _ (by rw [hf]; exact hu) hs, hf]
          exact hb n σ F w us vs (by omega) hx hy
        · exact h.elim
      · exact h.elim
    · exact h.elim
/-- what a comparison asks: the operands' values alone -/
theorem eqP_out {t : TypeId} {x y : PV} {K : Bool → Prop} (h : eqP P t x y K) :
    ∃ b, K b ∧ ∀ (σ : Sg) (F : Fzn) (w : World) (u v : Value) (ox oy : Operand), PRep σ F w x u → PRep σ F w y v →
      (eqGuard .eql t ox oy u v).run P w = .ok () w ∧ (eqGuard .neq t ox oy u v).run P w = .ok () w ∧ (binOp .eql t u v).run P w = .ok (.bool b) w ∧ (binOp .neq t u v).run P w = .ok (.bool (!b)) w := by
  unfold eqP at h
  have pe : ∀ (t : TypeId) (u v : Value) (w : World) (b : Bool), binOp .eql t u v = (do pure (.bool (← Op.equal t u v))) → binOp .neq t u v = (do pure (.bool (!(← Op.equal t u v)))) → (Op.equalIn 10000 t u v).run P w = .ok b w →
      (binOp .eql t u v).run P w = .ok (.bool b) w ∧ (binOp .neq t u v).run P w = .ok (.bool (!b)) w := by
    intro t u v w b h1 h2 hb
    have e : (Op.equal t u v).run P w = .ok b w := hb
    rw [h1, h2]
    constructor <;> simp [e]
  split at h
  · rename_i l m
    split at h
    · rename_i hg
      obtain ⟨b, h, hb⟩ := eqV_out _ _ _ _ _ h
      refine ⟨b, h, fun σ F w u v ox oy hx hy => ?_⟩
      have e := hb 10000 σ F w u v (by decide) hx hy
      unfold PRep at hx hy
      obtain ⟨us, rfl, hx⟩ := hx
      obtain ⟨vs, rfl, hy⟩ := hy
      exact ⟨run_eqGuard_agg w .eql t ox oy _ _ hg, run_eqGuard_agg w .neq t ox oy _ _ hg, pe t _ _ w b rfl rfl e⟩
    · exact h.elim
  · rename_i k o
    split at h
    · rename_i te hu
      refine ⟨false, h, fun σ F w u v ox oy hx hy => ?_⟩
      unfold PRep DRep at hx
      obtain ⟨g, n, _, rfl⟩ := hx
      rw [rep_v hy]
      exact ⟨by simp [eqGuard], by simp [eqGuard], pe t _ _ w _ rfl rfl ((show ∀ d : Nat, (Op.equalIn (d + 1) t _ _).run P w = .ok _ w from fun d => by simp [Op.equalIn, run_underlying hu]) 9999)⟩
    · exact h.elim
  · split at h
    · rename_i te hu
      refine ⟨true, h, fun σ F w u v ox oy hx hy => ?_⟩
      rw [rep_v hx, rep_v hy]
      exact ⟨by simp [eqGuard], by simp [eqGuard], pe t _ _ w _ rfl rfl ((show ∀ d : Nat, (Op.equalIn (d + 1) t _ _).run P w = .ok _ w from fun d => by simp [Op.equalIn, run_underlying hu]) 9999)⟩
    · exact h.elim
  · rename_i k o k' o'
    split at h
    · rename_i te hu
      split at h
      · rename_i i hi e1 e2
        obtain rfl := Nat.eq_of_beq_eq_true e1
        obtain rfl := Nat.eq_of_beq_eq_true e2
        refine ⟨true, h, fun σ F w u v ox oy hx hy => ?_⟩
        unfold PRep DRep at hx hy
        obtain ⟨g, n, g1, rfl⟩ := hx
        obtain ⟨g', n', g2, rfl⟩ := hy
        rw [g1] at g2; cases g2
        refine ⟨by simp [eqGuard], by simp [eqGuard], pe t _ _ w true rfl rfl ?_⟩
        have hz : ∀ d : Nat, (Op.equalIn (d + 1) t (.pointer (some ⟨g, o, none⟩)) (.pointer (some ⟨g, o, none⟩))).run P w = .ok true w := fun d => by
          simp [Op.equalIn, run_underlying hu, sizeOf, typeInfo, hi, run_sameAddr_same]
        exact hz 9999
      · exact h.elim
    · exact h.elim
  · split at h
    · rename_i a b c hu
      refine ⟨false, h, fun σ F w u v ox oy hx hy => ?_⟩
      unfold PRep DRep at hx
      obtain ⟨us, vs, rfl, _⟩ := hx
      rw [rep_v hy]
      exact ⟨by simp [eqGuard], by simp [eqGuard], pe t _ _ w _ rfl rfl ((show ∀ d : Nat, (Op.equalIn (d + 1) t _ _).run P w = .ok _ w from fun d => by simp [Op.equalIn, run_underlying hu]) 9999)⟩
    · exact h.elim
  · split at h
    · rename_i a b c hu
      refine ⟨true, h, fun σ F w u v ox oy hx hy => ?_⟩
      rw [rep_v hx, rep_v hy]
      exact ⟨by simp [eqGuard], by simp [eqGuard], pe t _ _ w _ rfl rfl ((show ∀ d : Nat, (Op.equalIn (d + 1) t _ _).run P w = .ok _ w from fun d => by simp [Op.equalIn, run_underlying hu]) 9999)⟩
    · exact h.elim
  · exact h.elim
end

/-! ### an operation that makes new blocks alone -/
theorem semStep_below {P : Program} {o : Oper} {e : Operand → PV} {v : PV} (rf : Rf)
    (hr : ∀ (c : Ctx) (σ : Sg) (h : Hp) (a : Act) (w : World), c.Ok → SW c σ h w → (∀ p ∈ rf, h p.1 = some p.2) → (∀ x ∈ o.op.operands, PRep σ (fz c σ h w) w (e x) (a.eval x)) →
      ∃ u w', (execOp a.eval o).run P w = .ok (.value u) w' ∧ Below w.heap.size w w' ∧ PRep σ (fz c σ h w') w' v u) : SemStep P o e v [] rf := by
  intro c σ h a w hc hs hx hrf _ next Q K
  obtain ⟨u, w', h1, hb, h2⟩ := hr c σ h a w hc hs hrf hx
  unfold Oper.wp
  rw [h1]
  exact K u σ w' (evo_below hs hb) (sw_below hs hb) h2 (fun _ _ h => h)
/-- a new block is frozen where no key stands for it -/
theorem fz_new {c : Ctx} {σ : Sg} {h : Hp} {w w' : World} (hs : SW c σ h w) {b o : Nat} (h1 : w.heap.size ≤ b) (h2 : b < w'.heap.size) : fz c σ h w' b o :=
  .inr ⟨.inl (Nat.le_trans hs.size h1), h2, fun k n hb hk hσ => by have := (hb_block (hs.hp k hb hk) hσ).1; omega⟩
/-- bytes as rows -/
abbrev byteRows (l : List UInt8) : List (List C) := l.map fun b => [C.v (.int .u8 (b.toNat : Int))]
theorem byteRows_rep {F : Fzn} {w : World} : ∀ (l : List UInt8), CsRep F w (byteRows l).flatten (l.map fun b => Value.int .u8 (b.toNat : Int))
  | [] => by simpa using csRep_nil
  | b :: l => by
    show CsRep F w (C.v (.int .u8 (b.toNat : Int)) :: (byteRows l).flatten) _
    exact csRep_cons (by unfold CRep; exact ⟨rfl, rfl⟩) (byteRows_rep l)
theorem byteRows_len (l : List UInt8) : ∀ r ∈ byteRows l, r.length = 1 := by
  intro r hr
  obtain ⟨b, _, rfl⟩ := List.mem_map.1 hr
  rfl

theorem csRep_vals {F : Fzn} {w : World} : ∀ {l : List UInt8} {us : List Value}, CsRep F w (byteRows l).flatten us → us = l.map fun b => Value.int .u8 (b.toNat : Int)
  | [], us, h => csRep_nil_inv (by simpa using h)
  | b :: l, us, h => by
    have h' : CsRep F w (C.v (.int .u8 (b.toNat : Int)) :: (byteRows l).flatten) us := h
    obtain ⟨u, vs, rfl, h1, h2⟩ := csRep_inv h'
    unfold CRep at h1
    rw [csRep_vals h2, h1.1]; rfl

/-! ### conversions -/
theorem convP2_out {P : Program} {o : Oper} {e : Operand → PV} {h : Hp} {s d : TypeId} {x : Operand} {K : OpK} {X : Value → Prop} (ho : o.op = .convert s d x) (hv : convP2 P h s d (e x) K) : Outc P o e h K X := by
  have hex : ∀ (a : Act) (w w' : World) (u : Value), (convert s d (a.eval x)).run P w = .ok u w' → (execOp a.eval o).run P w = .ok (.value u) w' := by
    intro a w w' u hr
    simp [execOp, ho, hr]
  unfold convP2 at hv
  split at hv
  · rename_i k off hx
    split at hv
    · rename_i T l hk
      have key : K (.d (.ptr k off)) [] [(k, .box T l)] → (∀ (w : World) (g : Nat), w.shape? g = some (T, l.length) → (convert s d (.pointer (some ⟨g, off, none⟩))).run P w = .ok (.pointer (some ⟨g, off, none⟩)) w) → Outc P o e h K X := by
        intro hK hr
        refine .inl ⟨_, [], [(k, .box T l)], hK, by simpa using hk, semStep_val _ fun c σ h' a w hs hrf hp => ?_⟩
        have hk' := hrf (k, .box T l) (by simp)
        have e1 := hp x (by simp [ho, Op.operands])
        rw [hx] at e1
        have e1' := e1
        unfold PRep DRep at e1
        obtain ⟨g, n, e2, e3⟩ := e1
        obtain ⟨g', n', cs, e4, e5, e6, e7⟩ := hs.hp k _ hk'
        rw [e2] at e4; cases e4
        have hlen := e7.len
        rw [Array.length_toList] at hlen
        refine ⟨a.eval x, hex a w w _ ?_, e1'⟩
        rw [e3]
        exact hr w g (by unfold World.shape?; rw [e6]; simp [hlen])
      split at hv
      · rename_i t hs hd
        split at hv
        · rename_i i hi
          split at hv
          · rename_i q1 q2
            refine key hv fun w g hsh => Lib.run_to_unsafe w _ hs hd hi (fun e => by rw [e] at q1; cases q1) hsh (Nat.le_of_ble_eq_true q2)
          · exact hv.elim
        · exact hv.elim
      · rename_i u hs hd
        split at hv
        · rename_i i hi hl
          rw [nObj_eq] at hl
          exact key hv fun w g hsh => Lib.run_from_unsafe w _ hs hd hi hsh hl
        · exact hv.elim
      · exact hv.elim
    · exact hv.elim
  · rename_i z hx
    split at hv
    · rename_i hs hd
      refine outc_val hv fun σ F a w hp => ⟨.string z, ?_, rep_str _⟩
      refine hex a w w _ ?_
      have := hp x (by simp [ho, Op.operands])
      rw [hx] at this
      rw [rep_v this]
      simp [convert, run_underlying hs, run_underlying hd]
    · rename_i el hs hd
      split at hv
      · rename_i he
        obtain ⟨hzs, hv⟩ := hv
        refine .inl ⟨_, [], [], hv, by simp, semStep_below _ fun c σ h' a w hc hs' _ hp => ?_⟩
        have e1 := hp x (by simp [ho, Op.operands])
        rw [hx] at e1
        have hrun := Go.run_bytes_of_string (P := P) w s d el z hs hd he
        have hb : Below w.heap.size w w.drew := (Below.refl _ _).drew
        refine ⟨_, _, hex a w _ _ (by rw [rep_v e1]; exact hrun), ?_, ?_⟩
        · exact hb.alloc (Nat.le_refl _) _
        · unfold PRep DRep CRep
          have hge := grownCap_ge w z.size 0 el
          have hmx := grownCap_le_maxLen w z.size 0 el (by rw [maxLen_val]; exact hzs)
          refine ⟨some ⟨w.heap.size, 0, none⟩, grownCap w z.size 0 el, by rw [List.length_map]; rfl, by rw [List.length_map]; exact hge, ?_, (fun e => by cases e), .inr ⟨w.heap.size, 0, rfl, ?_⟩⟩
          · exact hmx
          · rw [rowsAt_iff]
            refine ⟨byteRows_len _, csAt_of_values (byteRows_rep _) (fun j u hu => ?_) (fun j hj => fz_new hs' (Nat.le_refl _) (by simp))⟩
            have hnew : (w.drew.alloc (.cells (bytesRow z (grownCap w z.size 0 el)) el ((bytesRow z (grownCap w z.size 0 el)).size, (bytesRow z (grownCap w z.size 0 el)).size + 1))).heap[w.heap.size]? = some _ := heap_alloc_new w.drew _
            rw [Nat.zero_add, cell_of_row _ _ _ _ _ _ hnew]
            have hj : j < z.data.toList.length := by have := (List.getElem?_eq_some_iff.1 hu).1; simpa using this
            rw [← Array.getElem?_toList]
            unfold bytesRow
            rw [Array.toList_append, List.getElem?_append_left (by simpa using hj), Array.toList_map]
            exact hu
      · exact hv.elim
    · exact hv.elim
  · obtain ⟨v, h1, h2⟩ := convP_out hv
    refine outc_val h1 fun σ F a w hp => ?_
    obtain ⟨z, h3, h4⟩ := h2 σ F w _ (hp x (by simp [ho, Op.operands]))
    exact ⟨z, hex a w w z h3, h4⟩

/-! ### a slice's elements: their address; a text out of it -/
theorem sdataP_out {P : Program} {o : Oper} {e : Operand → PV} {h : Hp} {ty t0 : TypeId} {x : Operand} {K : PV → Prop} {K' : OpK} {X : Value → Prop} (ho : o.op = .call { callee := .builtin .unsafeSliceData, args := #[x], argTypes := #[t0] }) (hty : o.type = ty)
    (hv : sdataP P ty (e x) K) (hK : ∀ v, K v → K' v [] []) : Outc P o e h K' X := by
  have hex : ∀ (a : Act) (w w' : World) (u : Value), (Builtin.unsafeSliceData_ #[t0] o.type #[a.eval x]).run P w = .ok u w' → (execOp a.eval o).run P w = .ok (.value u) w' := by
    intro a w w' u hr
    simp [execOp, ho, resolve, invoke, builtin, hr]
  unfold sdataP at hv
  split at hv
  · rename_i pe k el l hu hx
    refine .inl ⟨_, [], [], hK _ hv, by simp, semStep_below _ fun c σ h' a w hc hs _ hp => ?_⟩
    have e1 := hp x (by simp [ho, Op.operands, Call.operands])
    rw [hx] at e1
    unfold PRep DRep at e1
    obtain ⟨_, ⟨g1, rfl, g3⟩ | ⟨g, cap, cur, fr, g1, g2, g3, g4, g5, g6, g7⟩⟩ := e1
    · refine ⟨.pointer none, w, hex a w w _ (by rw [g3]; exact Lib.run_unsafeSliceData_nil _ _ _ _ _), Below.refl _ _, ?_⟩
      unfold PRep DRep
      exact .inl ⟨rfl, none, rfl⟩
    · by_cases hc0 : cap = 0
      · subst hc0
        have hl : l = [] := List.eq_nil_of_length_eq_zero (by omega)
        subst hl
        have hsh : w.shape? g = some (el, cur.size) := by unfold World.shape?; rw [g5]
        refine ⟨_, _, hex a w _ _ (by rw [g2, hty]; exact Lib.run_unsafeSliceData_zero _ _ _ _ hu _ _ _ hsh), (Below.refl _ _).alloc (Nat.le_refl _) _, ?_⟩
        unfold PRep DRep
        exact .inl ⟨rfl, _, rfl⟩
      · refine ⟨.pointer (some ⟨g, 0, none⟩), w, hex a w w _ (by rw [g2]; exact Lib.run_unsafeSliceData_row _ _ _ _ _ _ hc0), Below.refl _ _, ?_⟩
        unfold PRep DRep
        by_cases hl : l = []
        · exact .inl ⟨hl, _, rfl⟩
        · exact .inr ⟨hl, g, cur, fr, g1, rfl, g5, by omega, by omega, g7⟩
  · rename_i pe hu hx
    refine outc_val (hK _ hv) fun σ F a w hp => ⟨.pointer none, hex a w w _ ?_, rep_of rfl⟩
    have e1 := hp x (by simp [ho, Op.operands, Call.operands])
    rw [hx] at e1
    rw [rep_v e1]
    exact Lib.run_unsafeSliceData_nil _ _ _ _ _
  · exact hv.elim

/-- a row of one's own is given up and frozen -/
theorem freeze_heap (w : World) (p : Addr) (n : Nat) {b : Nat} (hb : b ≠ p.block) : (w.freeze p n).heap[b]? = w.heap[b]? := by
  unfold World.freeze
  split
  · rfl
  · simp only [Array.getElem?_modify]
    rw [if_neg (fun e => hb e.symm)]
theorem freeze_row (w : World) (p : Addr) (n : Nat) {cur : Array Value} {T : TypeId} {fr : Nat × Nat} (h : w.heap[p.block]? = some (.cells cur T fr)) : ∃ fr', (w.freeze p n).heap[p.block]? = some (.cells cur T fr') := by
  unfold World.freeze
  split
  · exact ⟨fr, h⟩
  · simp only [Array.getElem?_modify, if_true, h, Option.map_some]
    obtain ⟨lo, hi⟩ := fr
    exact ⟨_, rfl⟩
theorem freeze_size (w : World) (p : Addr) (n : Nat) : (w.freeze p n).heap.size = w.heap.size := by
  unfold World.freeze
  split
  · rfl
  · simp
theorem freeze_cell (w : World) (p : Addr) (n : Nat) {cur : Array Value} {T : TypeId} {fr : Nat × Nat} (h : w.heap[p.block]? = some (.cells cur T fr)) (b o : Nat) : (w.freeze p n).cell? ⟨b, o, none⟩ = w.cell? ⟨b, o, none⟩ := by
  by_cases hb : b = p.block
  · subst hb
    obtain ⟨fr', h'⟩ := freeze_row w p n h
    rw [cell_of_row _ _ _ _ _ _ h', cell_of_row _ _ _ _ _ _ h]
  · unfold World.cell?
    rw [freeze_heap w p n hb]
theorem give_up {c : Ctx} {σ : Sg} {h : Hp} {w : World} (hs : SW c σ h w) {k g m n off : Nat} {hb : HB} {cur : Array Value} {T : TypeId} {fr : Nat × Nat} (hk : h k = some hb) (hσ : σ k = some (some g, m)) (hg : w.heap[g]? = some (.cells cur T fr)) :
    Evo σ σ (fz c σ h w) (fz c σ (upd h k none) (w.freeze ⟨g, off, none⟩ n)) w (w.freeze ⟨g, off, none⟩ n) ∧ SW c σ (upd h k none) (w.freeze ⟨g, off, none⟩ n) := by
  have hcell := freeze_cell w ⟨g, off, none⟩ n hg
  have hown := hb_block (hs.hp k hb hk) hσ
  have ev : Evo σ σ (fz c σ h w) (fz c σ (upd h k none) (w.freeze ⟨g, off, none⟩ n)) w (w.freeze ⟨g, off, none⟩ n) := by
    refine ⟨fun _ _ h => h, ⟨fun b o hf => ?_, fun b o _ => hcell b o⟩, fun g2 cur2 e2 fr2 hg2 => ?_⟩
    · rcases hf with hf | ⟨f1, f2, f3⟩
      · exact .inl hf
      · refine .inr ⟨f1, by rw [freeze_size]; exact f2, fun k2 n2 hb2 hk2 hσ2 => ?_⟩
        by_cases e : k2 = k
        · subst e; rw [upd_same] at hk2; cases hk2
        · rw [upd_ne _ _ e] at hk2; exact f3 k2 n2 hb2 hk2 hσ2
    · by_cases e : g2 = g
      · subst e
        rw [hg] at hg2; cases hg2
        obtain ⟨fr', h'⟩ := freeze_row w ⟨g2, off, none⟩ n hg
        exact ⟨cur, fr', h', rfl⟩
      · exact ⟨cur2, fr2, by rw [freeze_heap w ⟨g, off, none⟩ n e]; exact hg2, rfl⟩
  refine ⟨ev, ?_, ?_, ?_, by rw [freeze_size]; exact hs.size, fun b b1 b2 => ?_, fun k2 hb2 hk2 => ?_, fun k1 k2 g2 n1 n2 a1 a2 a3 a4 => ?_, hs.kept.trans ev.keeps, hs.shape.trans ev.shape, hs.sg0⟩
  · unfold World.freeze; split <;> exact hs.os
  · unfold World.freeze; split <;> exact hs.tape
  · unfold World.freeze; split <;> exact hs.output
  · have hbg : b ≠ g := by
      rintro rfl
      rcases hown.2 with q | q
      · omega
      · exact b2 q
    rw [freeze_heap w ⟨g, off, none⟩ n hbg]; exact hs.block b b1 b2
  · by_cases e : k2 = k
    · subst e; rw [upd_same] at hk2; cases hk2
    · rw [upd_ne _ _ e] at hk2
      refine (hs.hp k2 hb2 hk2).evo ev fun g2 n2 hg2 => freeze_heap w ⟨g, off, none⟩ n fun e2 => e ?_
      simp only at e2
      subst e2
      exact hs.inj k2 k g2 n2 m (by rw [hk2]; simp) (by rw [hk]; simp) hg2 hσ
  · have fx : ∀ q, upd h k none q ≠ none → h q ≠ none := by
      intro q hq
      by_cases e : q = k
      · subst e; rw [upd_same] at hq; exact absurd rfl hq
      · rwa [upd_ne _ _ e] at hq
    exact hs.inj k1 k2 g2 n1 n2 (fx _ a1) (fx _ a2) a3 a4

theorem ustrP_out {P : Program} {o : Oper} {e : Operand → PV} {h : Hp} {pt t1 : TypeId} {x n : Operand} {K : OpK} {X : Value → Prop} (ho : o.op = .call { callee := .builtin .unsafeString, args := #[x, n], argTypes := #[pt, t1] })
    (hv : ustrP P h pt (e x) (e n) K) : Outc P o e h K X := by
  have hex : ∀ (a : Act) (w w' : World) (u : Value), (Builtin.unsafeString_ #[pt, t1] o.type #[a.eval x, a.eval n]).run P w = .ok u w' → (execOp a.eval o).run P w = .ok (.value u) w' := by
    intro a w w' u hr
    simp [execOp, ho, resolve, invoke, builtin, hr]
  have hops : x ∈ o.op.operands ∧ n ∈ o.op.operands := by simp [ho, Op.operands, Call.operands]
  unfold ustrP at hv
  split at hv
  · rename_i k el l nn hx hn
    split at hv
    · rename_i pe e2 sz hu hk
      split at hv
      · rename_i q1 q2
        obtain rfl := Nat.eq_of_beq_eq_true q1
        have q2 := Nat.eq_of_beq_eq_true q2
        obtain ⟨rfl, hv⟩ := hv
        obtain ⟨bs, hbs, hv⟩ := hv
        refine .inl ⟨_, _, [(k, .tail e2 sz)], hv, by simpa using hk, ?_⟩
        intro c σ h' a w hc hs hop hrf hfr next Q KK
        have hk' := hrf (k, .tail e2 sz) (by simp)
        have e1 := hop x hops.1
        have e3 := hop n hops.2
        rw [hx] at e1
        rw [hn] at e3
        have e3 := rep_v e3
        unfold PRep DRep at e1
        unfold Oper.wp
        rcases e1 with ⟨rfl, p, hp⟩ | ⟨h0, g, cur, fr, g1, g2, g3, g4, g4', g5⟩
        · have hb0 : bs = [] := by cases bs with
            | nil => rfl
            | cons _ _ => cases hbs
          subst hb0
          rw [hex a w w _ (by rw [hp, e3]; exact Lib.run_unsafeString_none w pt t1 o.type p)]
          exact KK _ σ w (evo_erase hs k) (sw_erase hs k) (rep_str _) (fun _ _ h => h)
        · have hlen : bs.length = l.length := by rw [hbs, List.length_map]
          have hb0 : bs ≠ [] := by rintro rfl; exact h0 (by rw [hbs]; rfl)
          have hcells : ∀ j y, bs[j]? = some y → w.cell? ((⟨g, 0, none⟩ : Addr).add j) = some (.int .u8 y.toNat) := by
            intro j y hy
            rw [Addr.add_mid]
            obtain ⟨us, p1, p2, p3⟩ := csAt_values (rowsAt_iff.1 g5).2
            rw [hbs] at p1
            have p4 := csRep_vals p1
            refine p2 j _ ?_
            rw [p4]
            simp [hy]
          have hrun := Lib.run_unsafeString_row (P := P) w pt t1 o.type pe hu q2 g cur.size (by unfold World.shape?; rw [g3]) bs hb0 (by omega) (by rw [maxLen_val] at g4'; omega) hcells
          rw [hlen] at hrun
          rw [hex a w _ _ (by rw [g2, e3]; exact hrun)]
          obtain ⟨a1, a2⟩ := give_up (n := l.length) (off := 0) hs hk' g1 g3
          exact KK _ σ _ a1 a2 (rep_str _) (fun _ _ h => h)
      · exact hv.elim
    · exact hv.elim
  · rename_i nn hx hn
    obtain ⟨rfl, hv⟩ := hv
    refine outc_val hv fun σ F a w hp => ⟨_, hex a w w _ ?_, rep_str _⟩
    have e1 := hp x hops.1
    have e3 := hp n hops.2
    rw [hx] at e1
    rw [hn] at e3
    rw [rep_v e1, rep_v e3]
    exact Lib.run_unsafeString_none w pt t1 o.type none
  · exact hv.elim

/-! ### a text's bytes, appended -/
section
variable {P : Program} {c : Ctx} {σ : Sg} {h : Hp} {w : World}
theorem append_nil_str (hs : SW c σ h w) {key : Nat} (h0 : σ key = none) {t t2 ty el : TypeId} {i : TypeInfo} {z : Value} (hu : P.underlying t = some (.slice el)) (hu2 : P.underlying t2 = some .string) (hi : P.info? el = some i) (hz : i.zero = some z) (hzs : z.cells.size = i.size)
    (h1 : i.size = 1) (hby : 0 < i.bytes) (s : ByteArray) (hroom : s.size * i.bytes ≤ 140737488355328) :
    ∃ v w', (Builtin.append_ #[t, t2] ty #[.slice none 0 0, .string s]).run P w = .ok v w' ∧ Grown c σ h (upd h key (some (.tail el 1))) w key el 1 (byteRows s.data.toList) v w' := by
  have hmax : s.size ≤ maxLen := by
    rw [maxLen_val]
    have : s.size ≤ s.size * i.bytes := Nat.le_mul_of_pos_right _ hby
    omega
  have hlen : (byteRows s.data.toList).length = s.size := by rw [List.length_map]; rfl
  by_cases hs0 : s.size = 0
  · have hnil : s.data.toList = [] := List.eq_nil_of_length_eq_zero (by have : s.data.toList.length = s.size := rfl; omega)
    rw [hnil]
    obtain ⟨a1, a2, a3⟩ := nil_tail (e := el) (sz := 1) hs h0 (by decide)
    refine ⟨_, _, ?_, _, a1, a2, a3, fresh_upd _⟩
    simp [Builtin.append_, run_underlying hu, run_underlying hu2, sizeOf, typeInfo, hi, Builtin.lenOf, Builtin.firstCells, hs0]
  · have hr := run_append_nil_string (P := P) w t t2 ty el i z hu hu2 hi hz s (by omega) (by rw [maxLen_val] at hmax; omega) (by omega)
    have hge := grownCap_ge w s.size 0 el
    have hle := grownCap_le_maxLen w s.size 0 el hmax
    have gn := grown_new (e := el) (sz := 1) (cap := grownCap w s.size 0 el) (z := z) (l := byteRows s.data.toList) (us := s.data.toList.map fun b => Value.int .u8 (b.toNat : Int)) hs h0 (by rw [hzs, h1]) (by decide) (byteRows_len _) (byteRows_rep _) (by rw [List.length_map, hlen, Nat.mul_one]; rfl) (by rw [hlen]; exact hge) hle
    rw [hlen, ← Array.toList_map, Array.toArray_toList] at gn
    exact ⟨_, _, hr, gn⟩
theorem append_own_str (hs : SW c σ h w) (hc : c.Ok) {k key : Nat} (h0 : σ key = none) {t t2 ty el e2 : TypeId} {i : TypeInfo} {z : Value} (hu : P.underlying t = some (.slice el)) (hu2 : P.underlying t2 = some .string) (hi : P.info? el = some i) (hz : i.zero = some z) (hzs : z.cells.size = i.size)
    (h1 : i.size = 1) (hby : 0 < i.bytes) {l : List (List C)} {d : Value} (hk : h k = some (.tail e2 1)) (hd : PRep σ (fz c σ h w) w (.d (.app k el 1 l)) d) (s : ByteArray) (hroom : (l.length + s.size) * i.bytes ≤ 140737488355328) :
    ∃ v w', (Builtin.append_ #[t, t2] ty #[d, .string s]).run P w = .ok v w' ∧ Grown c σ h (upd (upd h k none) key (some (.tail el 1))) w key el 1 (l ++ byteRows s.data.toList) v w' := by
  have hmax : l.length + s.size ≤ maxLen := by
    rw [maxLen_val]
    have : l.length + s.size ≤ (l.length + s.size) * i.bytes := Nat.le_mul_of_pos_right _ hby
    omega
  have hlen : (byteRows s.data.toList).length = s.size := by rw [List.length_map]; rfl
  have he1 := evo_erase hs k
  have hs1 := sw_erase hs k
  have lift : ∀ {v w' ll}, Grown c σ (upd h k none) (upd (upd h k none) key (some (.tail el 1))) w key el 1 ll v w' → Grown c σ h (upd (upd h k none) key (some (.tail el 1))) w key el 1 ll v w' := by
    rintro v w' ll ⟨σ', a1, a2, a3, a4⟩
    exact ⟨σ', he1.trans a1, a2, a3, a4⟩
  unfold PRep DRep at hd
  obtain ⟨_, ⟨hσ, rfl, rfl⟩ | ⟨g, cap, cur, fr, hσ, rfl, hlc, hcm, hg, hcs, hrw⟩⟩ := hd
  · obtain ⟨v, w', a1, a2⟩ := append_nil_str (ty := ty) (el := el) hs1 h0 hu hu2 hi hz hzs h1 hby s (by simpa using hroom)
    exact ⟨v, w', a1, lift a2⟩
  · have hn0 : c.own g := (hb_block (hs.hp k _ hk) hσ).2
    have hfr : fr = (0, 0) := by
      obtain ⟨_, ob, n2, q1, q2⟩ := hs.hp k _ hk
      rw [hσ] at q1; cases q1
      obtain ⟨_, cur2, q3⟩ := q2
      rw [hg] at q3
      cases q3; rfl
    subst hfr
    obtain ⟨us, hus, hucell, huf⟩ := csAt_values (rowsAt_iff.1 hrw).2
    have hlr := (rowsAt_iff.1 hrw).1
    have hul : us.length = l.length * 1 := by rw [hus.len, flatten_len hlr]
    have htake : cur.toList.take (l.length * 1) = us := by
      apply List.ext_getElem?
      intro j
      rw [List.getElem?_take]
      split
      · rename_i hj
        have hju : us[j]? = some us[j] := List.getElem?_eq_getElem (by omega)
        have := hucell j _ hju
        rw [Nat.zero_add, cell_of_row _ _ _ _ _ _ hg] at this
        rw [hju]; simpa using this
      · rw [List.getElem?_eq_none (by omega)]
    have hvs : CsRep (fz c σ h w) w (byteRows s.data.toList).flatten (Lib.strCells s) := byteRows_rep _
    have hvl : (Lib.strCells s).length = s.size := Lib.strCells_length s
    have hlm : ∀ r ∈ l ++ byteRows s.data.toList, r.length = 1 := by
      intro r hr
      rcases List.mem_append.1 hr with hr | hr
      · exact hlr r hr
      · exact byteRows_len _ r hr
    by_cases hroom2 : l.length + s.size ≤ cap
    · have hr := Lib.run_append_room_string (P := P) w t t2 ty el i hu hu2 hi h1 g l.length cap cur hg s hroom2 (by rw [hcs, Nat.mul_one]; exact hroom2)
      obtain ⟨a1, a2, a3⟩ := grow_tail (key := key) (cur' := (cur.toList.take l.length ++ Lib.strCells s ++ cur.toList.drop (l.length + s.size)).toArray) (m := byteRows s.data.toList) (vs := Lib.strCells s) hs h0 hc hk hσ hg hn0 (by decide) rfl hlm hus hvs (by rw [hlen]; exact hroom2) hcm hcs htake
        (by rw [Nat.mul_one] at htake; rw [htake, Nat.mul_one, hvl])
      refine ⟨_, _, hr, _, a1, a2, ?_, fresh_upd _⟩
      have e : Value.slice (some ⟨g, 0, none⟩) (l ++ byteRows s.data.toList).length cap = .slice (some ⟨g, 0, none⟩) (l.length + s.size) cap := by rw [List.length_append, hlen]
      rw [← e]; exact a3
    · have holds : ∀ j v, us[j]? = some v → w.cell? ((⟨g, 0, none⟩ : Addr).add j) = some v := fun j v hv => by rw [Addr.add_mid]; exact hucell j v hv
      have hr := Lib.run_append_grow_string (P := P) w t t2 ty el i z hu hu2 hi hz ⟨g, 0, none⟩ l.length cap us (by rw [h1]; exact hul) holds s (by omega) (by rw [maxLen_val] at hmax; omega) (growslice_fits (by omega) hroom)
      have hge := grownCap_ge w (l.length + s.size) cap el
      have hle := grownCap_le_maxLen w (l.length + s.size) cap el hmax
      have gn := grown_new (e := el) (sz := 1) (us := us ++ Lib.strCells s) (l := l ++ byteRows s.data.toList) (z := z) (cap := grownCap w (l.length + s.size) cap el) hs1 h0 (by rw [hzs, h1]) (by decide) hlm (by rw [List.flatten_append]; exact CsRep.keeps he1.keeps _ _ (hus.append hvs)) (by rw [List.length_append, List.length_append, hlen]; omega) (by rw [List.length_append, hlen]; exact hge) hle
      rw [List.length_append, hlen, ← List.append_toArray] at gn
      exact ⟨_, _, hr, lift gn⟩
end
theorem appStrP_out {P : Program} {o : Oper} {key : Nat} {e : Operand → PV} {h : Hp} {t t2 : TypeId} {s x : Operand} {z : ByteArray} {K : OpK} {X : Value → Prop} (ho : o.op = .call { callee := .builtin .append, args := #[s, x], argTypes := #[t, t2] })
    (hx0 : e x = pStr z) (hv : appStrP P h key t t2 (e s) z K) : Outc P o e h K X := by
  unfold appStrP at hv
  split at hv
  · rename_i hu2
    obtain ⟨el, i, hu, hi, hv⟩ := tySlice_out hv
    split at hv
    · rename_i hel h1
      have h1 := Nat.eq_of_beq_eq_true h1
      unfold elemOk at hel
      split at hel
      · rename_i zz hz
        simp only [Bool.and_eq_true] at hel
        obtain ⟨⟨hzs, hsz⟩, hby⟩ := hel
        have hzs := Nat.eq_of_beq_eq_true hzs
        have hby := Nat.le_of_ble_eq_true hby
        have hops : ∀ y, y = s ∨ y = x → y ∈ o.op.operands := by
          intro y hy
          simp only [ho, Op.operands, Call.operands]
          rcases hy with rfl | rfl <;> simp
        have hexec : ∀ (a : Act) (w w' : World) (v : Value), (Builtin.append_ #[t, t2] o.type #[a.eval s, a.eval x]).run P w = .ok v w' → (execOp a.eval o).run P w = .ok (.value v) w' := by
          intro a w w' v hr
          simp [execOp, ho, resolve, invoke, builtin, hr]
        split at hv
        · rename_i k el' sz l hs
          split at hv
          · rename_i e2 sz2 e1 e3 ekk hk
            obtain rfl := Nat.eq_of_beq_eq_true e1
            obtain rfl := Nat.eq_of_beq_eq_true e3
            split at hv
            · rename_i e4 e5
              obtain rfl := Nat.eq_of_beq_eq_true e4
              obtain rfl := Nat.eq_of_beq_eq_true e5
              obtain ⟨hroom, hv⟩ := hv
              refine .inl ⟨_, _, [(k, _)], hv, by simpa using hk, ?_⟩
              intro c σ h' a w hc hs' hx hrf hfr next Q KK
              have h0 : σ key = none := by
                by_cases e : k = key
                · subst e
                  have := Nat.beq_refl k; rw [show Nat.beq k k = false from ekk] at this; cases this
                · exact hfr key (by simp [Dl.keys]) (by simpa using e)
              have hk' := hrf (k, _) (List.mem_singleton.2 rfl)
              have hps := hx s (hops s (.inl rfl))
              rw [hs] at hps
              have hpx := hx x (hops x (.inr rfl))
              rw [hx0] at hpx
              obtain ⟨v, w', a1, σ', a2, a3, a4, a5⟩ := append_own_str (ty := o.type) hs' hc h0 hu hu2 hi hz hzs h1 hby hk' hps z hroom
              unfold Oper.wp
              rw [hexec a w w' v (by rw [rep_v hpx]; exact a1)]
              exact KK v σ' w' a2 a3 a4 fun k hk => a5 k (by rintro rfl; simp [Dl.keys] at hk)
            · exact hv.elim
          · exact hv.elim
        · rename_i hs
          obtain ⟨hroom, hv⟩ := hv
          refine .inl ⟨_, _, [], hv, by simp, ?_⟩
          intro c σ h' a w hc hs' hx hrf hfr next Q KK
          have h0 : σ key = none := hfr key (by simp [Dl.keys]) (by simp)
          have hps := rep_v (by have := hx s (hops s (.inl rfl)); rw [hs] at this; exact this)
          have hpx := hx x (hops x (.inr rfl))
          rw [hx0] at hpx
          obtain ⟨v, w', a1, σ', a2, a3, a4, a5⟩ := append_nil_str (ty := o.type) hs' h0 hu hu2 hi hz hzs h1 hby z hroom
          unfold Oper.wp
          rw [hexec a w w' v (by rw [hps, rep_v hpx]; exact a1)]
          exact KK v σ' w' a2 a3 a4 fun k hk => a5 k (by rintro rfl; simp [Dl.keys] at hk)
        · exact hv.elim
      · cases hel
    · exact hv.elim
  · exact hv.elim

/-! ### the lesser, the greater -/
theorem minmaxP_out {mx : Bool} {x y : PV} {K : PV → Prop} (h : minmaxP mx x y K) : ∃ v, K v ∧ ∀ (P : Program) (σ : Sg) (F : Fzn) (w : World) (u v' : Value) (ts : Array TypeId) (ty : TypeId), PRep σ F w x u → PRep σ F w y v' →
    ∃ z, (bif mx then Builtin.max_ ts ty #[u, v'] else Builtin.min_ ts ty #[u, v']).run P w = .ok z w ∧ PRep σ F w v z := by
  unfold minmaxP at h
  split at h
  · rename_i k a k' b
    split at h
    · rename_i hk
      obtain rfl := of_decide_eq_true hk
      cases mx with
      | true =>
        refine ⟨_, h, fun P σ F w u v' ts ty hx hy => ⟨_, ?_, rep_int _ _⟩⟩
        rw [rep_v hx, rep_v hy]
        simp [Builtin.max_, Builtin.max2]
      | false =>
        refine ⟨_, h, fun P σ F w u v' ts ty hx hy => ⟨_, ?_, rep_int _ _⟩⟩
        rw [rep_v hx, rep_v hy]
        simp [Builtin.min_, Builtin.min2]
    · exact h.elim
  · exact h.elim

/-! ### interfaces -/
theorem isIface_out {P : Program} {t : TypeId} (h : isIface P t = false) : ∃ d, P.underlying t = some d ∧ ∀ ms, d ≠ .interface ms := by
  unfold isIface at h
  split at h
  · cases h
  · rename_i d hn hd
    exact ⟨d, hd, fun ms e => hn ms e⟩
  · cases h
theorem plainDs_out : ∀ {l : List D} {vs : List Value}, plainDs l = some vs → ∀ {σ : Sg} {F : Fzn} {w : World} {us : List Value}, DsRep σ F w l us → us = vs
  | [], vs, h, σ, F, w, us, hr => by cases h; exact dsRep_nil_inv hr
  | .c (.v x) :: l, vs, h, σ, F, w, us, hr => by
    unfold plainDs at h
    split at h
    · rename_i r hq
      cases h
      obtain ⟨u, vs', rfl, h1, h2⟩ := dsRep_inv hr
      rw [plainDs_out hq h2]
      unfold DRep CRep at h1
      rw [h1.1]
    · cases h
  | .c (.sl _ _) :: _, vs, h, _, _, _, _, _ => by cases h
  | .c (.ro _) :: _, vs, h, _, _, _, _, _ => by cases h
  | .c (.ifc _ _) :: _, vs, h, _, _, _, _, _ => by cases h
  | .c (.ifc1 _ _) :: _, vs, h, _, _, _, _, _ => by cases h
  | .app _ _ _ _ :: _, vs, h, _, _, _, _, _ => by cases h
  | .ptr _ _ :: _, vs, h, _, _, _, _, _ => by cases h
  | .arr _ _ _ _ _ :: _, vs, h, _, _, _, _, _ => by cases h
  | .elt _ _ _ _ :: _, vs, h, _, _, _, _, _ => by cases h
  | .clo _ _ _ :: _, vs, h, _, _, _, _, _ => by cases h
  | .optp _ _ :: _, vs, h, _, _, _, _, _ => by cases h
  | .data _ _ _ :: _, vs, h, _, _, _, _, _ => by cases h
theorem ifaceP_out {P : Program} {t : TypeId} {x : PV} {K : PV → Prop} (h : ifaceP P t x K) : ∃ v, K v ∧ ∀ (σ : Sg) (F : Fzn) (w : World) (u : Value), PRep σ F w x u → ∃ z, (Instr.makeInterface t u).run P w = .ok z w ∧ PRep σ F w v z := by
  unfold ifaceP at h
  split at h
  · exact h.elim
  · rename_i hi
    obtain ⟨d, hd, hni⟩ := isIface_out hi
    have hrun : ∀ (u : Value) (w : World), (Instr.makeInterface t u).run P w = .ok (.iface t u) w := by
      intro u w
      unfold Instr.makeInterface
      rw [Sem.run_bind, run_underlying hd w]
      cases d <;> first | exact absurd rfl (hni _) | simp
    split at h
    · rename_i y
      obtain ⟨c, h, hc⟩ := close_rep h
      split at h
      · rename_i v
        refine ⟨_, h, fun σ F w u hu => ⟨_, hrun u w, ?_⟩⟩
        unfold PRep at hu
        have := hc σ F w u hu
        unfold CRep at this
        rw [this.1]; exact rep_of rfl
      · rename_i hne
        refine ⟨_, h, fun σ F w u hu => ⟨_, hrun u w, ?_⟩⟩
        unfold PRep at hu
        unfold PRep DRep CRep
        exact ⟨u, rfl, hc σ F w u hu⟩
    · rename_i l
      split at h
      · rename_i vs hvs
        refine ⟨_, h, fun σ F w u hu => ⟨_, hrun u w, ?_⟩⟩
        unfold PRep at hu
        obtain ⟨us, rfl, hu⟩ := hu
        rw [plainDs_out hvs hu]; exact rep_of rfl
      · obtain ⟨cs, h, hc⟩ := closeL_out h
        refine ⟨_, h, fun σ F w u hu => ⟨_, hrun u w, ?_⟩⟩
        unfold PRep at hu
        obtain ⟨us, rfl, hu⟩ := hu
        unfold PRep DRep CRep
        exact ⟨us, rfl, hc σ F w us hu⟩
    · exact h.elim
theorem allOne_rep {σ : Sg} {F : Fzn} {w : World} : ∀ {l : List Value}, l.all Value.oneCell' = true → DsRep σ F w (l.map fun v => D.c (C.v v)) l
  | [], _ => dsRep_nil
  | x :: l, h => by
    simp only [List.all_cons, Bool.and_eq_true] at h
    exact dsRep_cons (by unfold DRep CRep; exact ⟨rfl, h.1⟩) (allOne_rep h.2)
theorem heldP_out {x : PV} {K : TypeId → PV → Prop} (h : heldP x K) : ∃ t v, K t v ∧ ∀ (σ : Sg) (F : Fzn) (w : World) (u : Value), PRep σ F w x u → ∃ z, u = .iface t z ∧ PRep σ F w v z := by
  unfold heldP at h
  split at h
  · rename_i t vs
    split at h
    · rename_i hall
      refine ⟨_, _, h, fun σ F w u hu => ⟨.agg vs, rep_v hu, ?_⟩⟩
      unfold PRep
      exact ⟨vs.toList, by simp, allOne_rep hall⟩
    · exact h.elim
  · rename_i t v _
    split at h
    · rename_i hone
      exact ⟨_, _, h, fun σ F w u hu => ⟨v, rep_v hu, rep_of hone⟩⟩
    · exact h.elim
  · rename_i t l
    refine ⟨_, _, h, fun σ F w u hu => ?_⟩
    unfold PRep DRep CRep at hu
    obtain ⟨us, rfl, h1⟩ := hu
    exact ⟨_, rfl, by unfold PRep; exact ⟨us, rfl, dsRep_of_cs h1⟩⟩
  · rename_i t c
    refine ⟨_, _, h, fun σ F w u hu => ?_⟩
    unfold PRep DRep CRep at hu
    obtain ⟨z, rfl, h1⟩ := hu
    exact ⟨z, rfl, by unfold PRep DRep; exact h1⟩
  · exact h.elim
theorem assertP_out {P : Program} {x : PV} {asserted : TypeId} {ok : Bool} {K : PV → Prop} (h : assertP P x asserted ok K) : ∃ v, K v ∧ ∀ (σ : Sg) (F : Fzn) (w : World) (u : Value) (xt : TypeId), PRep σ F w x u → ∃ z, (Instr.typeAssert u xt asserted ok).run P w = .ok z w ∧ PRep σ F w v z := by
  unfold assertP at h
  split at h
  · exact h.elim
  · rename_i hi
    obtain ⟨d, hd, hni⟩ := isIface_out hi
    obtain ⟨t, v, h', hv⟩ := heldP_out h
    clear h
    have hrun : ∀ (u : Value) (xt : TypeId) (w : World), (Instr.typeAssert (.iface t u) xt asserted ok).run P w = (if t = asserted then (pure (if ok then .tuple #[u, .bool true] else u) : Sem Value).run P w else (if ok then (do pure (.tuple #[← zeroValue asserted, .bool false]) : Sem Value).run P w else (runtimePanic (.typeAssertion (some xt) (some t) asserted "") : Sem Value).run P w)) := by
      intro u xt w
      unfold Instr.typeAssert
      rw [Sem.run_bind, run_underlying hd w]
      cases d <;> first | exact absurd rfl (hni _) | (simp only [Result.andThen_ok]; split <;> (cases ok <;> simp))
    have tupRep : ∀ (σ : Sg) (F : Fzn) (w : World) (a : PV) (z : Value) (b : Bool), PRep σ F w a z → PRep σ F w (.tup [a, pBool b]) (.tuple #[z, .bool b]) := by
      intro σ F w a z b ha
      unfold PRep
      exact ⟨[z, .bool b], rfl, by unfold PsRep PsRep PsRep; exact ⟨ha, rep_bool b, trivial⟩⟩
    cases hq : Nat.beq t asserted with
    | true =>
      have e1 : t = asserted := Nat.eq_of_beq_eq_true hq
      subst e1
      rw [hq] at h'
      cases ok with
      | true =>
        refine ⟨_, h', fun σ F w u xt hu => ?_⟩
        obtain ⟨z, rfl, hz⟩ := hv σ F w u hu
        exact ⟨_, by rw [hrun, if_pos rfl]; simp, tupRep σ F w v z true hz⟩
      | false =>
        refine ⟨_, h', fun σ F w u xt hu => ?_⟩
        obtain ⟨z, rfl, hz⟩ := hv σ F w u hu
        exact ⟨z, by rw [hrun, if_pos rfl]; simp, hz⟩
    | false =>
      have hne : t ≠ asserted := beq_false_ne hq
      rw [hq] at h'
      cases ok with
      | false => exact h'.elim
      | true =>
        cases hinf : P.info? asserted with
        | none => rw [hinf] at h'; exact h'.elim
        | some i =>
          rw [hinf] at h'
          simp only at h'
          cases hzz : i.zero with
          | none => rw [hzz] at h'; exact h'.elim
          | some zz =>
            rw [hzz] at h'
            simp only at h'
            have hzero : ∀ w, (zeroValue asserted).run P w = .ok zz w := by intro w; simp [zeroValue, typeInfo, hinf, hzz]
            split at h'
            · rename_i hone
              refine ⟨_, h', fun σ F w u xt hu => ?_⟩
              obtain ⟨z, rfl, hz⟩ := hv σ F w u hu
              exact ⟨_, by rw [hrun, if_neg hne]; simp [hzero], tupRep σ F w _ zz false (rep_of hone)⟩
            · split at h'
              · rename_i vs _
                split at h'
                · rename_i hall
                  refine ⟨_, h', fun σ F w u xt hu => ?_⟩
                  obtain ⟨z, rfl, hz⟩ := hv σ F w u hu
                  exact ⟨_, by rw [hrun, if_neg hne]; simp [hzero], tupRep σ F w _ (.agg vs) false (by unfold PRep; exact ⟨vs.toList, by simp, allOne_rep hall⟩)⟩
                · exact h'.elim
              · exact h'.elim

/-! ### arrays that are made -/
theorem made_flat (z : Array Value) (hz : 0 < z.size) : ∀ n : Nat, (madeCells z (n * z.size)).toList = (List.replicate n z.toList).flatten
  | 0 => by simp [madeCells]
  | n + 1 => by
    have ih := made_flat z hz n
    have : (madeCells z ((n + 1) * z.size)).toList = (madeCells z (n * z.size)).toList ++ z.toList := by
      apply List.ext_getElem?
      intro j
      have hl : ((madeCells z (n * z.size)).toList).length = n * z.size := by rw [Array.length_toList, size_madeCells]
      by_cases h1 : j < n * z.size
      · rw [List.getElem?_append_left (by omega)]
        have h2 : j < (n + 1) * z.size := by rw [Nat.add_mul]; omega
        simp [madeCells, h1, h2]
      · rw [List.getElem?_append_right (by omega), hl]
        by_cases h2 : j < (n + 1) * z.size
        · have h3 : j - n * z.size < z.size := by rw [Nat.add_mul] at h2; omega
          have h4 : j % z.size = j - n * z.size := by
            have : j = (j - n * z.size) + n * z.size := by omega
            rw [this, Nat.add_mul_mod_self_right, Nat.mod_eq_of_lt h3]
            omega
          simp [madeCells, h2, h4, h3]
        · have h3 : ¬ j - n * z.size < z.size := by rw [Nat.add_mul] at h2; omega
          rw [List.getElem?_eq_none (by rw [Array.length_toList, size_madeCells]; omega), List.getElem?_eq_none (by rw [Array.length_toList]; omega)]
    rw [this, ih, List.replicate_succ', List.flatten_append]
    simp
theorem rep_replicate {F : Fzn} {w : World} {cs : List C} {us : List Value} (h : CsRep F w cs us) : ∀ n : Nat, CsRep F w (List.replicate n cs).flatten (List.replicate n us).flatten
  | 0 => by simpa using csRep_nil
  | n + 1 => by
    rw [List.replicate_succ, List.replicate_succ, List.flatten_cons, List.flatten_cons]
    exact h.append (rep_replicate h n)
theorem allOne_cs {F : Fzn} {w : World} : ∀ {l : List Value}, l.all Value.oneCell' = true → CsRep F w (l.map C.v) l
  | [], _ => csRep_nil
  | x :: l, h => by
    simp only [List.all_cons, Bool.and_eq_true] at h
    exact csRep_cons (by unfold CRep; exact ⟨rfl, h.1⟩) (allOne_cs h.2)
theorem makeP_out {P : Program} {o : Oper} {key : Nat} {e : Operand → PV} {h : Hp} {t : TypeId} {n cc : Operand} {K : OpK} {X : Value → Prop} (ho : o.op = .makeSlice t n cc) (hv : makeP P key t (e n) (e cc) K) : Outc P o e h K X := by
  unfold makeP at hv
  split at hv
  · rename_i k1 nn k2 c2 hn hc
    obtain ⟨el, i, hu, hi, hv⟩ := tySlice_out hv
    split at hv
    · rename_i z hz
      split at hv
      · rename_i q1 q2 q3
        have q2 := Nat.eq_of_beq_eq_true q2
        have q3 : 0 < i.size := Nat.pos_of_ne_zero (beq_false_ne q3)
        obtain ⟨⟨p1, rfl, p3, p4⟩, hv⟩ := hv
        refine .inl ⟨_, _, [], hv, by simp, ?_⟩
        intro c σ h' a w hcok hs hop hrf hfr next Q KK
        have h0 : σ key = none := hfr key (by simp [Dl.keys]) (by simp)
        have e1 := hop n (by simp [ho, Op.operands])
        have e2 := hop cc (by simp [ho, Op.operands])
        rw [hn] at e1
        rw [hc] at e2
        have hrun := run_make (P := P) w t el i z hu hi hz k1 k2 c2 c2 p1 (Int.le_refl _) p3 p4
        unfold Oper.wp
        have hex : (execOp a.eval o).run P w = .ok (.value (.slice (some ⟨w.heap.size, 0, none⟩) c2.toNat c2.toNat)) (w.alloc (.cells (madeCells z.cells (c2.toNat * i.size)) el)) := by
          simp [execOp, ho, rep_v e1, rep_v e2, hrun]
        rw [hex]
        have ev := evo_new hs h0 (.cells (madeCells z.cells (c2.toNat * i.size)) el) 0 (.arr el i.size (List.replicate c2.toNat (z.cells.toList.map C.v)))
        have hnew : (w.alloc (.cells (madeCells z.cells (c2.toNat * i.size)) el)).heap[w.heap.size]? = some (.cells (madeCells z.cells (c2.toNat * i.size)) el (0, 0)) := heap_alloc_new w _
        refine KK _ (upd σ key (some (some w.heap.size, 0))) _ ev (sw_new hs h0 _ 0 _ ⟨q3, ?_, some w.heap.size, 0, upd_same .., .inl hs.size, _, hnew, ?_, ?_⟩) ?_ ?_
        · intro r hr
          rw [(List.mem_replicate.1 hr).2, List.length_map, Array.length_toList, q2]
        · rw [List.length_replicate, size_madeCells]; exact Nat.le_refl _
        · rw [List.length_replicate, List.take_of_length_le (by rw [Array.length_toList, size_madeCells]; exact Nat.le_refl _)]
          have := made_flat z.cells (by omega) c2.toNat
          rw [q2] at this
          rw [this]
          exact rep_replicate (allOne_cs q1) _
        · unfold PRep DRep
          refine ⟨q3, .inr ⟨w.heap.size, 0, 0, c2.toNat, _, _, upd_same .., rfl, Nat.le_refl _, by rw [maxLen_val]; omega, hnew, by rw [size_madeCells]; omega, fun _ => ⟨by rw [Nat.zero_mul], by rw [size_madeCells, Nat.zero_add]⟩⟩⟩
        · intro k hk hn'; rw [upd_ne _ _ (by simpa [Dl.keys] using hk)]; exact hn'
      · exact hv.elim
    · exact hv.elim
  · exact hv.elim

end Go.Proofs.YthogcgnhhcbkkaaDoor.Pm
