/- The model does what the plain machine reckons: append, calls; all operations. -/
import Derived.Test.YthogcgnhhcbkkaaDoorPmCall
namespace Go.Proofs.YthogcgnhhcbkkaaDoor.Pm
open Go.RowKit
set_option linter.unusedVariables false

theorem rowsSz_out {x : PV} {sz : Nat} {K : List (List C) → Prop} (h : PV.rowsOf x sz K) : ∃ l, K l ∧ (x = .d (.c (.v (.slice none 0 0))) ∧ l = [] ∨ x = .d (.c (.sl sz l)) ∨ ∃ k e, x = .d (.app k e sz l)) := by
  unfold PV.rowsOf at h
  split at h
  · split at h
    · rename_i e; obtain rfl := Nat.eq_of_beq_eq_true e; exact ⟨_, h, .inr (.inl rfl)⟩
    · exact h.elim
  · split at h
    · rename_i e; obtain rfl := Nat.eq_of_beq_eq_true e; exact ⟨_, h, .inr (.inr ⟨_, _, rfl⟩)⟩
    · exact h.elim
  · exact ⟨_, h, .inl ⟨rfl, rfl⟩⟩
  · exact h.elim

/-- what is appended: nothing, or an address and its cells -/
def Src (F : Fzn) (w : World) (sz : Nat) (m : List (List C)) (u : Value) : Prop :=
  (u = .slice none 0 0 ∧ m = []) ∨ ∃ ad cap vs, u = .slice (some ad) m.length cap ∧ CsRep F w m.flatten vs ∧ (∀ r ∈ m, r.length = sz) ∧ vs.length = m.length * sz ∧ ∀ j v, vs[j]? = some v → w.cell? (ad.add j) = some v
theorem src_val {σ : Sg} {F : Fzn} {w : World} {x : PV} {m : List (List C)} {sz : Nat} (hx : x = .d (.c (.v (.slice none 0 0))) ∧ m = [] ∨ x = .d (.c (.sl sz m)) ∨ ∃ k e, x = .d (.app k e sz m))
    {u : Value} (h : PRep σ F w x u) : Src F w sz m u := by
  rcases hx with ⟨rfl, rfl⟩ | hx
  · exact .inl ⟨rep_v h, rfl⟩
  · obtain ⟨a, cap, rfl, h1, h2, h3, h4⟩ := rows_val hx h
    cases a with
    | none =>
      have := h3 rfl
      subst this
      have : m = [] := List.eq_nil_of_length_eq_zero (by omega)
      subst this
      exact .inl ⟨rfl, rfl⟩
    | some ad =>
      refine .inr ⟨ad, cap, ?_⟩
      rcases h4 with rfl | ⟨b, off, hab, h5⟩
      · exact ⟨[], rfl, csRep_nil, by simp, by simp, by simp⟩
      · obtain rfl := Option.some.inj hab
        have h6 := rowsAt_iff.1 h5
        obtain ⟨vs, g1, g2, g3⟩ := csAt_values h6.2
        exact ⟨vs, rfl, g1, h6.1, by rw [g1.len, flatten_len h6.1], fun j v hv => by rw [Addr.add_mid]; exact g2 j v hv⟩
theorem Src.keeps {F F' : Fzn} {w : World} {sz : Nat} {m : List (List C)} {u : Value} (hk : Keeps F F' w w) (h : Src F w sz m u) : Src F' w sz m u := by
  rcases h with h | ⟨ad, cap, vs, h1, h2, h3⟩
  · exact .inl h
  · exact .inr ⟨ad, cap, vs, h1, CsRep.keeps hk _ _ h2, h3⟩

theorem grown_size {z : Value} {sz : Nat} (hz : z.cells.size = sz) (xs : List Value) (n cap : Nat) (hx : xs.length = n * sz) (hc : n ≤ cap) : (xs.toArray ++ Builtin.zeroCells z.cells (cap - n)).size = cap * sz := by
  rw [Array.size_append, size_zeroCells, List.size_toArray, hx, hz, ← Nat.add_mul]
  congr 1; omega

section
variable {P : Program} {c : Ctx} {σ : Sg} {h : Hp} {w : World}

theorem nil_tail (hs : SW c σ h w) {key : Nat} (h0 : σ key = none) {e sz : Nat} (hsz : 0 < sz) :
    Evo σ (upd σ key (some (none, 0))) (fz c σ h w) (fz c (upd σ key (some (none, 0))) (upd h key (some (.tail e sz))) w) w w ∧ SW c (upd σ key (some (none, 0))) (upd h key (some (.tail e sz))) w ∧
    PRep (upd σ key (some (none, 0))) (fz c (upd σ key (some (none, 0))) (upd h key (some (.tail e sz))) w) w (.d (.app key e sz [])) (.slice none 0 0) := by
  have ev : Evo σ (upd σ key (some (none, 0))) (fz c σ h w) (fz c (upd σ key (some (none, 0))) (upd h key (some (.tail e sz))) w) w w := by
    refine ⟨fun k' x' hx' => ?_, ⟨fun b o' hf => ?_, fun _ _ _ => rfl⟩, fun g cur e fr hg => ⟨cur, fr, hg, rfl⟩⟩
    · rw [upd_ne _ _ (fun e => by rw [e, h0] at hx'; cases hx')]; exact hx'
    · refine hf.imp id fun ⟨f1, f2, f3⟩ => ⟨f1, f2, fun k2 n2 hb2 hk2 hσ2 => ?_⟩
      by_cases q : k2 = key
      · subst q; rw [upd_same] at hσ2; cases hσ2
      · rw [upd_ne _ _ q] at hk2 hσ2
        exact f3 k2 n2 hb2 hk2 hσ2
  refine ⟨ev, ⟨hs.os, hs.tape, hs.output, hs.size, hs.block, fun k2 hb2 hk2 => ?_, fun k1 k2 g2 n1 n2 a1 a2 a3 a4 => ?_, hs.kept.trans ev.keeps, hs.shape, fun k x hk => ev.sg _ _ (hs.sg0 k x hk)⟩, ?_⟩
  · by_cases q : k2 = key
    · subst q; rw [upd_same] at hk2; cases hk2; exact ⟨hsz, none, 0, upd_same .., rfl⟩
    · rw [upd_ne _ _ q] at hk2
      exact (hs.hp k2 hb2 hk2).evo ev fun _ _ _ => rfl
  · by_cases q : k1 = key
    · subst q; rw [upd_same] at a3; cases a3
    · by_cases q2 : k2 = key
      · subst q2; rw [upd_same] at a4; cases a4
      · rw [upd_ne _ _ q] at a1 a3
        rw [upd_ne _ _ q2] at a2 a4
        exact hs.inj k1 k2 g2 n1 n2 a1 a2 a3 a4
  · unfold PRep DRep
    exact ⟨hsz, .inl ⟨upd_same .., rfl, rfl⟩⟩

/-- what stands behind an append -/
def Grown (c : Ctx) (σ : Sg) (h h' : Hp) (w : World) (key e sz : Nat) (l : List (List C)) (u : Value) (w' : World) : Prop :=
  ∃ σ', Evo σ σ' (fz c σ h w) (fz c σ' h' w') w w' ∧ SW c σ' h' w' ∧ PRep σ' (fz c σ' h' w') w' (.d (.app key e sz l)) u ∧ ∀ k, k ≠ key → σ k = none → σ' k = none

theorem fresh_upd {key : Nat} (x : Option (Option Nat × Nat)) : ∀ k, k ≠ key → σ k = none → (upd σ key x) k = none := by
  intro k hk hn; rw [upd_ne _ _ hk]; exact hn

/-- a new block for all of it -/
theorem grown_new (hs : SW c σ h w) {key : Nat} (h0 : σ key = none) {e sz cap : Nat} {z : Value} (hz : z.cells.size = sz) (hsz : 0 < sz) {l : List (List C)} {us : List Value} (hl : ∀ r ∈ l, r.length = sz)
    (hus : CsRep (fz c σ h w) w l.flatten us) (hul : us.length = l.length * sz) (hc1 : l.length ≤ cap) (hc2 : cap ≤ maxLen) :
    Grown c σ h (upd h key (some (.tail e sz))) w key e sz l (.slice (some ⟨w.heap.size, 0, none⟩) l.length cap) (w.drew.alloc (.cells (us.toArray ++ Builtin.zeroCells z.cells (cap - l.length)) e)) := by
  have hb : Below w.heap.size w w.drew := (Below.refl _ _).drew
  have hs2 := sw_below hs hb
  have he2 := evo_below hs hb
  obtain ⟨b1, b2, b3⟩ := new_tail (e := e) (cap := cap) (cs := us.toArray ++ Builtin.zeroCells z.cells (cap - l.length)) hs2 h0 hsz hl (CsRep.keeps he2.keeps _ _ hus) hc1 hc2 (grown_size hz us _ cap hul hc1) (by rw [Array.toList_append, ← hul]; exact List.take_left)
  exact ⟨_, he2.trans b1, b2, b3, fresh_upd _⟩

theorem append_nil (hs : SW c σ h w) {key : Nat} (h0 : σ key = none) {t ty el : TypeId} {i : TypeInfo} {z : Value} (hu : P.underlying t = some (.slice el)) (hi : P.info? el = some i) (hz : i.zero = some z) (hzs : z.cells.size = i.size)
    (hsz : 0 < i.size) (hby : 0 < i.bytes) {m : List (List C)} {u : Value} (hx : Src (fz c σ h w) w i.size m u) (hroom : m.length * i.bytes ≤ 140737488355328) :
    ∃ v w', (Builtin.append_ #[t, t] ty #[.slice none 0 0, u]).run P w = .ok v w' ∧ Grown c σ h (upd h key (some (.tail el i.size))) w key el i.size m v w' := by
  have hmax : m.length ≤ maxLen := by
    rw [maxLen_val]
    have : m.length ≤ m.length * i.bytes := Nat.le_mul_of_pos_right _ hby
    omega
  rcases hx with ⟨rfl, rfl⟩ | ⟨ad, cap, vs, rfl, hvs, hm, hvl, hcell⟩
  · obtain ⟨a1, a2, a3⟩ := nil_tail (e := el) hs h0 hsz
    exact ⟨_, _, by simp [Builtin.append_, run_underlying hu, sizeOf, typeInfo, hi, Builtin.lenOf, Builtin.firstCells], _, a1, a2, a3, fresh_upd _⟩
  · by_cases hm0 : m.length = 0
    · have hmn : m = [] := List.eq_nil_of_length_eq_zero hm0
      subst hmn
      obtain ⟨a1, a2, a3⟩ := nil_tail (e := el) hs h0 hsz
      exact ⟨_, _, by simp [Builtin.append_, run_underlying hu, sizeOf, typeInfo, hi, Builtin.lenOf, Builtin.firstCells, loadCells, loadCellsFrom], _, a1, a2, a3, fresh_upd _⟩
    · have hr := run_append_nil (P := P) w t ty el i z hu hi hz ad m.length cap vs hvl hcell (by omega) (by rw [maxLen_val] at hmax; omega) (by omega)
      exact ⟨_, _, hr, grown_new hs h0 hzs hsz hm hvs hvl (grownCap_ge w m.length 0 el) (grownCap_le_maxLen w m.length 0 el hmax)⟩

theorem append_own (hs : SW c σ h w) (hc : c.Ok) {k key : Nat} (h0 : σ key = none) {t ty el e2 : TypeId} {i : TypeInfo} {z : Value} (hu : P.underlying t = some (.slice el)) (hi : P.info? el = some i) (hz : i.zero = some z) (hzs : z.cells.size = i.size)
    (hsz : 0 < i.size) (hby : 0 < i.bytes) {l m : List (List C)} {d u : Value} (hk : h k = some (.tail e2 i.size)) (hd : PRep σ (fz c σ h w) w (.d (.app k el i.size l)) d) (hx : Src (fz c σ h w) w i.size m u)
    (hroom : (l.length + m.length) * i.bytes ≤ 140737488355328) :
    ∃ v w', (Builtin.append_ #[t, t] ty #[d, u]).run P w = .ok v w' ∧ Grown c σ h (upd (upd h k none) key (some (.tail el i.size))) w key el i.size (l ++ m) v w' := by
  have hmax : l.length + m.length ≤ maxLen := by
    rw [maxLen_val]
    have : l.length + m.length ≤ (l.length + m.length) * i.bytes := Nat.le_mul_of_pos_right _ hby
    omega
  have he1 := evo_erase hs k
  have hs1 := sw_erase hs k
  have lift : ∀ {v w' ll}, Grown c σ (upd h k none) (upd (upd h k none) key (some (.tail el i.size))) w key el i.size ll v w' → Grown c σ h (upd (upd h k none) key (some (.tail el i.size))) w key el i.size ll v w' := by
    rintro v w' ll ⟨σ', a1, a2, a3, a4⟩
    exact ⟨σ', he1.trans a1, a2, a3, a4⟩
  unfold PRep DRep at hd
  obtain ⟨_, ⟨hσ, rfl, rfl⟩ | ⟨g, cap, cur, fr, hσ, rfl, hlc, hcm, hg, hcs, hrw⟩⟩ := hd
  · obtain ⟨v, w', a1, a2⟩ := append_nil (ty := ty) (el := el) hs1 h0 hu hi hz hzs hsz hby (hx.keeps he1.keeps) (by simpa using hroom)
    exact ⟨v, w', a1, lift a2⟩
  · have hn0 : c.own g := (hb_block (hs.hp k _ hk) hσ).2
    have hfr : fr = (0, 0) := by
      obtain ⟨_, ob, n2, q1, q2⟩ := hs.hp k _ hk
      rw [hσ] at q1; cases q1
      obtain ⟨_, cur2, q3⟩ := q2
      rw [hg] at q3
      cases q3; rfl
    subst hfr
    obtain ⟨us, hus, hucell, huf⟩ := csAt_values (rowsAt_iff.1 hrw).2
    have hlr := (rowsAt_iff.1 hrw).1
    have hul : us.length = l.length * i.size := by rw [hus.len, flatten_len hlr]
    have htake : cur.toList.take (l.length * i.size) = us := by
      apply List.ext_getElem?
      intro j
      rw [List.getElem?_take]
      split
      · rename_i hj
        have hju : us[j]? = some us[j] := List.getElem?_eq_getElem (by omega)
        have := hucell j _ hju
        rw [Nat.zero_add, cell_of_row _ _ _ _ _ _ hg] at this
        rw [hju]; simpa using this
      · rw [List.getElem?_eq_none (by omega)]
    rcases hx with ⟨rfl, rfl⟩ | ⟨ad, cap2, vs, rfl, hvs, hm, hvl, hcell⟩
    · have hown : w.ownsRow 0 el i.size (.slice (some ⟨g, 0, none⟩) l.length cap) l.length us := ⟨hul, .inr ⟨g, cap, cur, rfl, Nat.zero_le _, hg, hlc, hcm, hcs, htake⟩⟩
      have hself : w.setRow g cur = w := setRow_self w g cur el (0, 0) hg
      obtain ⟨a1, a2, a3⟩ := grow_tail (key := key) (cur' := cur) (m := []) (vs := []) hs h0 hc hk hσ hg hn0 hsz rfl (by simpa using hlr) hus csRep_nil (by simpa using hlc) hcm hcs htake
        (by rw [← htake, List.append_nil, List.length_nil, Nat.add_zero, List.take_append_drop])
      rw [hself] at a1 a2 a3
      refine ⟨_, _, run_append_owned_none (P := P) (w := w) 0 t ty el i i.size hu hi _ _ us hown, _, a1, a2, ?_, fresh_upd _⟩
      simpa using a3
    · have hlm : ∀ r ∈ l ++ m, r.length = i.size := by
        intro r hr
        rcases List.mem_append.1 hr with hr | hr
        · exact hlr r hr
        · exact hm r hr
      by_cases hroom2 : l.length + m.length ≤ cap
      · have hfit : l.length * i.size + vs.length ≤ cur.size := by
          rw [hvl, hcs, ← Nat.add_mul]; exact Nat.mul_le_mul_right _ hroom2
        have hr := run_append_room (P := P) w t ty el i hu hi g l.length cap cur hg ad m.length cap2 vs hvl hcell hvs.one hroom2 hfit
        obtain ⟨a1, a2, a3⟩ := grow_tail (key := key) (cur' := (cur.toList.take (l.length * i.size) ++ vs ++ cur.toList.drop (l.length * i.size + vs.length)).toArray) (m := m) (vs := vs) hs h0 hc hk hσ hg hn0 hsz rfl hlm hus hvs hroom2 hcm hcs htake
          (by rw [htake])
        refine ⟨_, _, hr, _, a1, a2, ?_, fresh_upd _⟩
        rw [← List.length_append]; exact a3
      · have holds : ∀ j v, us[j]? = some v → w.cell? ((⟨g, 0, none⟩ : Addr).add j) = some v := fun j v hv => by rw [Addr.add_mid]; exact hucell j v hv
        have hr := run_append_grow (P := P) w t ty el i z hu hi hz ⟨g, 0, none⟩ l.length cap us hul holds ad m.length cap2 vs hvl hcell (by omega) (by rw [maxLen_val] at hmax; omega) (growslice_fits (by omega) hroom)
        have hge := grownCap_ge w (l.length + m.length) cap el
        have hle := grownCap_le_maxLen w (l.length + m.length) cap el hmax
        have gn := grown_new (e := el) (us := us ++ vs) hs1 h0 hzs hsz hlm (by rw [List.flatten_append]; exact (hus.append hvs).keeps he1.keeps) (by rw [List.length_append, List.length_append, Nat.add_mul]; omega) (by rw [List.length_append]; exact hge) hle
        rw [List.length_append, ← List.append_toArray] at gn
        exact ⟨_, _, hr, lift gn⟩
end

theorem appendP_out {P : Program} {o : Oper} {key : Nat} {e : Operand → PV} {h : Hp} {t t2 : TypeId} {s x : Operand} {K : OpK} {X : Value → Prop} (ho : o.op = .call { callee := .builtin .append, args := #[s, x], argTypes := #[t, t2] })
    (hv : appendP P h key t t2 (e s) (e x) K) : Outc P o e h K X := by
  unfold appendP at hv
  split at hv
  · rename_i ht
    obtain rfl := Nat.eq_of_beq_eq_true ht
    obtain ⟨el, i, hu, hi, hv⟩ := tySlice_out hv
    split at hv
    · rename_i hel
      unfold elemOk at hel
      split at hel
      · rename_i z hz
        simp only [Bool.and_eq_true] at hel
        obtain ⟨⟨hzs, hsz⟩, hby⟩ := hel
        have hzs := Nat.eq_of_beq_eq_true hzs
        have hsz := Nat.le_of_ble_eq_true hsz
        have hby := Nat.le_of_ble_eq_true hby
        obtain ⟨m, hv, hxm⟩ := rowsSz_out hv
        have hops : ∀ y, y = s ∨ y = x → y ∈ o.op.operands := by
          intro y hy
          simp only [ho, Op.operands, Call.operands]
          rcases hy with rfl | rfl <;> simp
        have hexec : ∀ (a : Act) (w w' : World) (v : Value), (Builtin.append_ #[t, t] o.type #[a.eval s, a.eval x]).run P w = .ok v w' → (execOp a.eval o).run P w = .ok (.value v) w' := by
          intro a w w' v hr
          simp [execOp, ho, resolve, invoke, builtin, hr]
        split at hv
        · rename_i k el' sz l hs
          split at hv
          · rename_i e2 sz2 e1 e3 ekk hk
            obtain rfl := Nat.eq_of_beq_eq_true e1
            obtain rfl := Nat.eq_of_beq_eq_true e3
            split at hv
            · rename_i e4 e5
              obtain rfl := Nat.eq_of_beq_eq_true e4
              obtain rfl := Nat.eq_of_beq_eq_true e5
              obtain ⟨hroom, hv⟩ := hv
              refine .inl ⟨_, _, [(k, _)], hv, by simpa using hk, ?_⟩
              intro c σ h' a w hc hs' hx hrf hfr next Q KK
              have h0 : σ key = none := by
                by_cases e : k = key
                · subst e
                  have := Nat.beq_refl k; rw [show Nat.beq k k = false from ekk] at this; cases this
                · exact hfr key (by simp [Dl.keys]) (by simpa using e)
              have hk' := hrf (k, _) (List.mem_singleton.2 rfl)
              have hps := hx s (hops s (.inl rfl))
              rw [hs] at hps
              obtain ⟨v, w', a1, σ', a2, a3, a4, a5⟩ := append_own (ty := o.type) hs' hc h0 hu hi hz hzs hsz hby hk' hps (src_val hxm (hx x (hops x (.inr rfl)))) hroom
              unfold Oper.wp
              rw [hexec a w w' v a1]
              exact KK v σ' w' a2 a3 a4 fun k hk => a5 k (by rintro rfl; simp [Dl.keys] at hk)
            · exact hv.elim
          · exact hv.elim
        · rename_i hs
          obtain ⟨hroom, hv⟩ := hv
          refine .inl ⟨_, _, [], hv, by simp, ?_⟩
          intro c σ h' a w hc hs' hx hrf hfr next Q KK
          have h0 : σ key = none := hfr key (by simp [Dl.keys]) (by simp)
          have hps := rep_v (by have := hx s (hops s (.inl rfl)); rw [hs] at this; exact this)
          obtain ⟨v, w', a1, σ', a2, a3, a4, a5⟩ := append_nil (ty := o.type) hs' h0 hu hi hz hzs hsz hby (src_val hxm (hx x (hops x (.inr rfl)))) hroom
          unfold Oper.wp
          rw [hexec a w w' v (by rw [hps]; exact a1)]
          exact KK v σ' w' a2 a3 a4 fun k hk => a5 k (by rintro rfl; simp [Dl.keys] at hk)
        · exact hv.elim
      · cases hel
    · exact hv.elim
  · exact hv.elim


end Go.Proofs.YthogcgnhhcbkkaaDoor.Pm
