/- journal, plainly: recovering a hot store, in one go or in two -/
import Derived.Test.YtohlkegmmbdlaaaPjPlain2
namespace Go.Proofs.Ytohlkegmmbdlaaa.Pm
open Go.RowKit K DiskP
set_option linter.unusedVariables false
set_option linter.unusedSimpArgs false
set_option maxRecDepth 100000

def crashS (v : Str) (c d : Int) : Str := ((crashP v.1.1 v.1.2 c, []), (crashP v.2.1 v.2.2 d, []))
theorem Hot.okW {R : List ByteArray} {e : List DiskP.Wr} {u : Str} (h : Hot R e u) : ∀ x ∈ e, okW x := fun x hx => ⟨(h.ok x hx).1, by
  have := (h.ok x hx).2.1
  unfold tooLong
  exact decide_eq_false (by omega)⟩
theorem dash_ok : okW ((0 : Int), (⟨#[45]⟩ : ByteArray)) := ⟨by decide, by decide⟩
theorem far_eq {p q : List ByteArray} (hp : check p [] = 0) (hq : check q [] = 0) {n : Nat} (h : 32 ≤ n) : pageAt p n = pageAt q n := by
  rw [pageAt_far (check_ok _ _ hp).1 h, pageAt_far (check_ok _ _ hq).1 h]
/-- the pages as they were, once all that the journal says is there -/
theorem Hot.back {R : List ByteArray} {e : List DiskP.Wr} {u : Str} (h : Hot R e u) : check u.1.1 e = 0 ∧ crashP u.1.1 e all1 = R := by
  have hc : check u.1.1 e = 0 := by
    have := check_more (q := []) (r := e) h.cd (by have := h.len; simp; omega) h.okW
    simpa using this
  refine ⟨hc, pages_ext (check_ok _ _ (settleP_pages hc)).2.2.1 (check_ok _ _ h.cR).2.2.1 fun n => ?_⟩
  rw [pageAt_crash hc, allOn e (by have := h.len; omega)]
  by_cases c : n < 32
  · rw [if_pos c]
    refine lastOn_all (fun x hx hn => by rw [(h.ok x hx).2.2, hn]) ?_
    by_cases q : ∃ x ∈ e, x.1 = (n : Int)
    · exact .inr q
    · left
      exact h.rest n fun x hx hn => q ⟨x, hx, hn⟩
  · rw [if_neg c, pageAt_far (check_ok _ _ h.cR).1 (by omega)]
theorem calm_dash {R Q : List ByteArray} {d : Int} (hR : check R [] = 0) (hQ : check Q [] = 0) (h : ∀ n : Nat, pageAt (crashP Q [(0, ⟨#[45]⟩)] d) n = if (n : Int) = 0 then ⟨#[45]⟩ else pageAt Q n) : Calm R ((R, []), (crashP Q [(0, ⟨#[45]⟩)] d, [])) := by
  have hc : check Q [((0 : Int), (⟨#[45]⟩ : ByteArray))] = 0 := check_more hQ (by simp) (by simpa using dash_ok)
  refine ⟨rfl, rfl, hR, settleP_pages hc, ?_⟩
  have := (h 0).trans (if_pos (show ((0 : Nat) : Int) = 0 from rfl))
  show isJ (pageAt _ ((0 : Nat) : Int)) = false
  rw [this]; rfl
theorem play_end {D : Dk} {p Q : List ByteArray} {q : List DiskP.Wr} (hD : check p q = 0) (hQ : check Q [] = 0) :
    playG ((p, q), (Q, [])) endO = (((crashP p q all1, []), (crashP Q [(0, ⟨#[45]⟩)] all1, [])), 0) := by
  have hc : check Q [((0 : Int), (⟨#[45]⟩ : ByteArray))] = 0 := check_more hQ (by simp) (by simpa using dash_ok)
  unfold endO
  rw [playG_cons, opR_syncD hD]
  show playG ((crashP p q all1, []), (Q, [])) (jOps [(0, ⟨#[45]⟩)] ++ [(4, 0, ⟨#[]⟩)]) = _
  rw [playG_app (by rw [play_jOps hQ (by simp) (by simpa using dash_ok)]), play_jOps hQ (by simp) (by simpa using dash_ok)]
  show playG ((crashP p q all1, []), (Q, [(0, ⟨#[45]⟩)])) [(4, 0, ⟨#[]⟩)] = _
  rw [playG_cons, opR_syncJ hc]
  rfl
theorem Hot.recover {R : List ByteArray} {e : List DiskP.Wr} {u : Str} (h : Hot R e u) : ∃ t, recoverR u = (t, 0) ∧ Calm R t := by
  obtain ⟨hb1, hb2⟩ := h.back
  have hlen : (dOps e ++ endO).length ≤ 100 := by
    have := h.len
    unfold dOps endO
    simp only [List.length_append, List.length_map, List.length_cons, List.length_nil]; omega
  have hchk := h.chk.1
  obtain ⟨⟨p, q⟩, Q, q'⟩ := u
  have hq : q = [] := h.dq
  have hq' : q' = [] := h.jq
  subst hq hq'
  have hd : playG ((p, []), (Q, [])) (dOps e) = (((p, e), (Q, [])), 0) := by
    have := play_dOps (J := (Q, [])) (r := e) h.cd (by have := h.len; simp; omega) h.okW
    simpa using this
  refine ⟨((R, []), (crashP Q [(0, ⟨#[45]⟩)] all1, [])), ?_, calm_dash h.cR h.cj fun n => crash_one_all h.cj dash_ok n⟩
  unfold recoverR
  rw [h.undo, if_neg (not_not_intro (show ((dOps e ++ endO, (0 : Int)) : List Opr × Int).2 = 0 from rfl))]
  show playR _ (dOps e ++ endO) = _
  rw [playR_ok hchk hlen, playG_app (by rw [hd]), hd]
  show playG ((p, e), (Q, [])) endO = _
  rw [play_end (D := (Q, [])) hb1 h.cj]
  show (((crashP p e all1, []), _), (0 : Int)) = _
  rw [show crashP p e all1 = R from hb2]
/-- what has landed of writes that the journal speaks of -/
theorem Hot.crash {R : List ByteArray} {e : List DiskP.Wr} {P Q : List ByteArray} {q : List DiskP.Wr} (h : Hot R e ((P, []), (Q, []))) (hq : check P q = 0) (hin : ∀ x ∈ q, ∃ y ∈ e, y.1 = x.1) (c d : Int) : Hot R e ((crashP P q c, []), (crashP Q [] d, [])) := by
  rw [crash_bare h.cj]
  have hcP : check (crashP P q c) [] = 0 := settleP_pages hq
  refine ⟨rfl, rfl, h.cR, hcP, h.cj, h.len, h.ok, h.head, h.ents, fun n hn => ?_⟩
  show pageAt (crashP P q c) n = _
  by_cases hlt : n < 32
  · rw [pageAt_crash hq, if_pos hlt]
    have hr : pageAt P n = pageAt R n := h.rest n hn
    rcases lastOn_either (pageAt P n) (kept (bitAt c) q) n with e1 | ⟨x, hx, h1, h2⟩
    · rw [e1]; exact hr
    · obtain ⟨y, hy, hyx⟩ := hin x (kept_mem _ _ _ hx)
      exact absurd (hyx.trans h1) (hn y hy)
  · exact far_eq hcP h.cR (by omega)
theorem take_two {α : Type} (A B : List α) (k : Nat) : (k ≤ A.length ∧ (A ++ B).take k = A.take k) ∨ (A.length ≤ k ∧ (A ++ B).take k = A ++ B.take (k - A.length)) := by
  by_cases h : k ≤ A.length
  · exact .inl ⟨h, List.take_append_of_le_length h⟩
  · exact .inr ⟨by omega, by rw [List.take_append, List.take_of_length_le (by omega)]⟩
theorem dOps_take (q : List DiskP.Wr) (k : Nat) : (dOps q).take k = dOps (q.take k) := by unfold dOps; rw [List.map_take]
theorem jOps_take (q : List DiskP.Wr) (k : Nat) : (jOps q).take k = jOps (q.take k) := by unfold jOps; rw [List.map_take]
theorem dOps_len (q : List DiskP.Wr) : (dOps q).length = q.length := List.length_map ..
theorem jOps_len (q : List DiskP.Wr) : (jOps q).length = q.length := List.length_map ..
/-- the end of steps, or of undoing, cut off: what may have become of the store -/
theorem end_part {R : List ByteArray} {e : List DiskP.Wr} {N Q : List ByteArray} (hN : Hot R e ((N, []), (Q, []))) (hcN : check N [] = 0) {P : List ByteArray} {q : List DiskP.Wr} (hP : Hot R e ((P, []), (Q, []))) (hq : check P q = 0) (hin : ∀ x ∈ q, ∃ y ∈ e, y.1 = x.1) (hN2 : crashP P q all1 = N) (j : Nat) (hj : j ≤ 3) :
    ∃ v, playG ((P, q), (Q, [])) (endO.take j) = (v, 0) ∧ ∀ c d, Hot R e (crashS v c d) ∨ (2 ≤ j ∧ Calm N (crashS v c d)) := by
  have hQ : check Q [] = 0 := hN.cj
  have hc : check Q [((0 : Int), (⟨#[45]⟩ : ByteArray))] = 0 := check_more hQ (by simp) (by simpa using dash_ok)
  have e1 : playG ((P, q), (Q, [])) [(3, 0, ⟨#[]⟩)] = (((N, []), (Q, [])), 0) := by rw [playG_cons, opR_syncD hq, hN2]; rfl
  have e2 : playG ((N, []), (Q, [])) (jOps [(0, ⟨#[45]⟩)]) = (((N, []), (Q, [(0, ⟨#[45]⟩)])), 0) := play_jOps hQ (by simp) (by simpa using dash_ok)
  match j, hj with
  | 0, _ => exact ⟨((P, q), (Q, [])), rfl, fun c d => .inl (hP.crash hq hin c d)⟩
  | 1, _ =>
    refine ⟨((N, []), (Q, [])), e1, fun c d => .inl ?_⟩
    exact hN.crash (q := []) hcN (by simp) c d
  | 2, _ =>
    refine ⟨((N, []), (Q, [(0, ⟨#[45]⟩)])), ?_, fun c d => ?_⟩
    · show playG _ ([(3, 0, ⟨#[]⟩)] ++ jOps [(0, ⟨#[45]⟩)]) = _
      rw [playG_app (by rw [e1]), e1]
      exact e2
    · unfold crashS
      simp only
      rw [crash_bare hcN]
      rcases crash_one hQ dash_ok d with h1 | h1
      · rw [h1]; exact .inl hN
      · exact .inr ⟨Nat.le_refl _, calm_dash hcN hQ h1⟩
  | 3, _ =>
    refine ⟨_, play_end (D := (Q, [])) hq hQ, fun c d => .inr ⟨by omega, ?_⟩⟩
    have hcalm := calm_dash (R := N) (d := all1) hcN hQ fun n => crash_one_all hQ dash_ok n
    unfold crashS
    simp only
    rw [hN2, crash_bare hcN, crash_bare hcalm.cj]
    exact hcalm
/-- undoing, cut off -/
theorem Hot.part {R : List ByteArray} {e : List DiskP.Wr} {u : Str} (h : Hot R e u) (j : Nat) (hj : j ≤ (undoR u).1.length) : ∃ v, playR u ((undoR u).1.take j) = (v, 0) ∧ ∀ c d, Calm R (crashS v c d) ∨ Hot R e (crashS v c d) := by
  obtain ⟨hb1, hb2⟩ := h.back
  rw [h.undo] at hj ⊢
  simp only at hj ⊢
  have hlen : ((dOps e ++ endO).take j).length ≤ 100 := by
    have := h.len
    rw [List.length_take, List.length_append, dOps_len]
    show min j (e.length + 3) ≤ 100
    omega
  rw [playR_ok h.chk.1 hlen]
  obtain ⟨⟨P, q⟩, Q, q'⟩ := u
  have hq : q = [] := h.dq
  have hq' : q' = [] := h.jq
  subst hq hq'
  have hd : ∀ r, r.length ≤ 31 → (∀ x ∈ r, Pm.okW x) → playG ((P, []), (Q, [])) (dOps r) = (((P, r), (Q, [])), 0) ∧ check P r = 0 := by
    intro r hr hr2
    have h1 := play_dOps (J := (Q, [])) (r := r) h.cd (by simp; omega) hr2
    have h2 := check_more (q := []) (r := r) h.cd (by simp; omega) hr2
    exact ⟨by simpa using h1, by simpa using h2⟩
  have hRR : Hot R e ((R, []), (Q, [])) := ⟨rfl, rfl, h.cR, h.cR, h.cj, h.len, h.ok, h.head, h.ents, fun n _ => rfl⟩
  rcases take_two (dOps e) endO j with ⟨g1, g2⟩ | ⟨g1, g2⟩
  · rw [g2, dOps_take]
    rw [dOps_len] at g1
    obtain ⟨k1, k2⟩ := hd (e.take j) (by rw [List.length_take]; have := h.len; omega) (fun x hx => h.okW x (List.mem_of_mem_take hx))
    refine ⟨_, k1, fun c d => .inr ?_⟩
    exact h.crash k2 (fun x hx => ⟨x, List.mem_of_mem_take hx, rfl⟩) c d
  · rw [g2]
    rw [dOps_len] at g1
    obtain ⟨k1, k2⟩ := hd e h.len h.okW
    rw [playG_app (by rw [k1]), k1, dOps_len]
    have hj3 : j - e.length ≤ 3 := by
      rw [List.length_append, dOps_len] at hj
      have : endO.length = 3 := rfl
      omega
    obtain ⟨v, v1, v2⟩ := end_part hRR h.cR h k2 (fun x hx => ⟨x, hx, rfl⟩) hb2 (j - e.length) hj3
    exact ⟨v, v1, fun c d => (v2 c d).elim .inr fun q => .inl q.2⟩
end Go.Proofs.Ytohlkegmmbdlaaa.Pm
