/- journal, plainly: steps, cut off -/
import Derived.Test.YtohlkegmmbdlaaaPjPlain3
namespace Go.Proofs.Ytohlkegmmbdlaaa.Pm
open Go.RowKit K DiskP
set_option linter.unusedVariables false
set_option linter.unusedSimpArgs false
set_option maxRecDepth 100000

def jW (p : List ByteArray) (l : List DiskP.Wr) : List DiskP.Wr := l.mapIdx fun i w => ((i : Int) + 1, twoB w.1 ++ pageAt p w.1)
theorem jEnts_ops (p : List ByteArray) (l : List DiskP.Wr) : jEnts p l = jOps (jW p l) := by
  unfold jEnts jOps jW
  exact List.ext_getElem (by simp) fun i h1 h2 => by simp
theorem jW_len (p : List ByteArray) (l : List DiskP.Wr) : (jW p l).length = l.length := List.length_mapIdx
theorem jW_mem {p : List ByteArray} {l : List DiskP.Wr} {x : DiskP.Wr} (h : x ∈ jW p l) : ∃ i, ∃ hi : i < l.length, x = ((i : Int) + 1, twoB l[i].1 ++ pageAt p l[i].1) := by
  unfold jW at h
  rw [List.mem_mapIdx] at h
  obtain ⟨i, hi, e⟩ := h
  exact ⟨i, hi, e.symm⟩
theorem jW_at {p : List ByteArray} {l : List DiskP.Wr} {i : Nat} (hi : i < l.length) : ((i : Int) + 1, twoB l[i].1 ++ pageAt p l[i].1) ∈ jW p l := by
  unfold jW
  rw [List.mem_mapIdx]
  exact ⟨i, hi, rfl⟩
def undoW (p : List ByteArray) (l : List DiskP.Wr) : List DiskP.Wr := l.map fun w => (w.1, pageAt p w.1)
theorem twoB_size (n : Int) : (twoB n).size = 2 := rfl
structure StepsOk (p j : List ByteArray) (l : List DiskP.Wr) : Prop where
  cp : check p [] = 0
  cj : check j [] = 0
  cold : isJ (pageAt j 0) = false
  len : l.length ≤ 31
  ok : ∀ w ∈ l, inPlace w.1 = true ∧ w.2.size ≤ 256 ∧ (pageAt p w.1).size ≤ 256
theorem stepsOk {s : Str} {l : List DiskP.Wr} (h : stepsE s l = 0) : StepsOk s.1.1 s.2.1 l ∧ s = ((s.1.1, []), (s.2.1, [])) := by
  obtain ⟨h1, h2, h3, h4, h5, h6⟩ := stepsE_ok h
  obtain ⟨k1, k2⟩ := storeChk_ok h1
  obtain ⟨⟨p, q⟩, j, q'⟩ := s
  simp only at h2 h3
  subst h2 h3
  refine ⟨⟨k1, k2, ?_, h5, badWr_ok h6⟩, rfl⟩
  rw [hot_eq h1] at h4
  exact h4
section
variable {p j : List ByteArray} {l : List DiskP.Wr}
theorem StepsOk.jok (h : StepsOk p j l) : ∀ x ∈ jW p l, okW x := by
  intro x hx
  obtain ⟨i, hi, rfl⟩ := jW_mem hx
  have hl := h.len
  obtain ⟨a, b, c⟩ := h.ok _ (List.getElem_mem hi)
  refine ⟨inPlace_t ⟨by simp only; omega, by simp only; omega⟩, ?_⟩
  unfold tooLong
  refine decide_eq_false ?_
  rw [ByteArray.size_append, twoB_size]
  omega
theorem StepsOk.lok (h : StepsOk p j l) : ∀ x ∈ l, okW x := fun x hx => by
  obtain ⟨a, b, c⟩ := h.ok x hx
  refine ⟨a, ?_⟩
  unfold tooLong
  exact decide_eq_false (by omega)
theorem StepsOk.uok (h : StepsOk p j l) : ∀ x ∈ undoW p l, inPlace x.1 = true ∧ x.2.size ≤ 256 ∧ x.2 = pageAt p x.1 := by
  intro x hx
  obtain ⟨w, hw, rfl⟩ := List.mem_map.1 hx
  obtain ⟨a, b, c⟩ := h.ok w hw
  exact ⟨a, c, rfl⟩
theorem headOk {m : Nat} : okW ((0 : Int), jHead m) := ⟨show inPlace 0 = true by decide, by unfold tooLong; exact decide_eq_false (by show ¬ 260 < 2; decide)⟩
/-- the journal behind its records, and behind its head -/
def J1 (p j : List ByteArray) (l : List DiskP.Wr) : List ByteArray := crashP j (jW p l) all1
def J2 (p j : List ByteArray) (l : List DiskP.Wr) : List ByteArray := crashP (J1 p j l) [(0, jHead l.length)] all1
theorem StepsOk.cw (h : StepsOk p j l) (k : Nat) : check j ((jW p l).take k) = 0 := by
  have := check_more (q := []) (r := (jW p l).take k) h.cj (by have := h.len; have := jW_len p l; simp; omega) (fun x hx => h.jok x (List.mem_of_mem_take hx))
  simpa using this
theorem StepsOk.cwAll (h : StepsOk p j l) : check j (jW p l) = 0 := by
  have := h.cw (jW p l).length
  rwa [List.take_length] at this
theorem StepsOk.cJ1 (h : StepsOk p j l) : check (J1 p j l) [] = 0 := settleP_pages h.cwAll
/-- the journal's page 0 is as it was, whatever of the records has landed -/
theorem StepsOk.zero (h : StepsOk p j l) (k : Nat) (b : Int) : pageAt (crashP j ((jW p l).take k) b) 0 = pageAt j 0 := by
  have := pageAt_crash (h.cw k) b 0
  rw [if_pos (by decide)] at this
  refine this.trans ?_
  rcases lastOn_either (pageAt j 0) (kept (bitAt b) ((jW p l).take k)) 0 with e | ⟨x, hx, h1, h2⟩
  · exact e
  · obtain ⟨i, hi, rfl⟩ := jW_mem (List.mem_of_mem_take (kept_mem _ _ _ hx))
    simp only at h1
    omega
theorem StepsOk.ent (h : StepsOk p j l) {i : Nat} (hi : i < l.length) : pageAt (J1 p j l) ((i + 1 : Nat) : Int) = twoB l[i].1 ++ pageAt p l[i].1 := by
  have hl := h.len
  unfold J1
  rw [pageAt_crash h.cwAll, if_pos (by omega), allOn _ (by rw [jW_len]; omega)]
  refine lastOn_all (fun x hx hn => ?_) (.inr ⟨_, jW_at (p := p) hi, by simp⟩)
  obtain ⟨k, hk, rfl⟩ := jW_mem hx
  simp only at hn ⊢
  have : k = i := by omega
  subst this
  rfl
theorem StepsOk.cHead (h : StepsOk p j l) : check (J1 p j l) [(0, jHead l.length)] = 0 := by
  have := check_more (q := []) (r := [((0 : Int), jHead l.length)]) h.cJ1 (by simp) (by simpa using headOk)
  simpa using this
/-- a journal that has the head, and the records -/
theorem StepsOk.hot (h : StepsOk p j l) {Q : List ByteArray} (cQ : check Q [] = 0) (hQ : ∀ n : Nat, pageAt Q n = if (n : Int) = 0 then jHead l.length else pageAt (J1 p j l) n) {P : List ByteArray} (cP : check P [] = 0) (hP : ∀ n : Nat, (∀ x ∈ l, x.1 ≠ (n : Int)) → pageAt P n = pageAt p n) : Hot p (undoW p l) ((P, []), (Q, [])) := by
  have hul : (undoW p l).length = l.length := List.length_map ..
  refine ⟨rfl, rfl, h.cp, cP, cQ, by rw [hul]; exact h.len, h.uok, ?_, fun i hi => ?_, fun n hn => hP n fun x hx e => ?_⟩
  · rw [hul]
    exact (hQ 0).trans (if_pos rfl)
  · have hi' : i < l.length := by rw [hul] at hi; exact hi
    refine (hQ (i + 1)).trans ?_
    have eu : (undoW p l)[i] = (l[i].1, pageAt p l[i].1) := by simp [undoW]
    rw [if_neg (by omega), h.ent hi', eu]
  · exact hn (x.1, pageAt p x.1) (List.mem_map.2 ⟨x, hx, rfl⟩) e
theorem StepsOk.cJ2 (h : StepsOk p j l) : check (J2 p j l) [] = 0 := settleP_pages h.cHead
theorem StepsOk.hot2 (h : StepsOk p j l) {P : List ByteArray} (cP : check P [] = 0) (hP : ∀ n : Nat, (∀ x ∈ l, x.1 ≠ (n : Int)) → pageAt P n = pageAt p n) : Hot p (undoW p l) ((P, []), (J2 p j l, [])) :=
  h.hot h.cJ2 (fun n => crash_one_all h.cJ1 headOk n) cP hP
theorem StepsOk.cl (h : StepsOk p j l) (k : Nat) : check p (l.take k) = 0 := by
  have := check_more (q := []) (r := l.take k) h.cp (by have := h.len; simp; omega) (fun x hx => h.lok x (List.mem_of_mem_take hx))
  simpa using this
theorem StepsOk.clAll (h : StepsOk p j l) : check p l = 0 := by
  have := h.cl l.length
  rwa [List.take_length] at this
theorem StepsOk.others (h : StepsOk p j l) (m : Int) : check (crashP p l m) [] = 0 ∧ ∀ n : Nat, (∀ x ∈ l, x.1 ≠ (n : Int)) → pageAt (crashP p l m) n = pageAt p n := by
  have hc : check (crashP p l m) [] = 0 := settleP_pages h.clAll
  refine ⟨hc, fun n hn => ?_⟩
  by_cases q : n < 32
  · rw [pageAt_crash h.clAll, if_pos q]
    rcases lastOn_either (pageAt p n) (kept (bitAt m) l) n with e1 | ⟨x, hx, h1, h2⟩
    · exact e1
    · exact absurd h1 (hn x (kept_mem _ _ _ hx))
  · exact far_eq hc h.cp (by omega)
theorem calm_of {R Q : List ByteArray} (cR : check R [] = 0) (cQ : check Q [] = 0) (h : isJ (pageAt Q 0) = false) : Calm R ((R, []), (Q, [])) := ⟨rfl, rfl, cR, cQ, h⟩
/-- what may have become of a store whose steps were cut off -/
theorem steps_part (h : StepsOk p j l) (k : Nat) (hk : k ≤ (stepsO p l).length) : ∃ t, playG ((p, []), (j, [])) ((stepsO p l).take k) = (t, 0) ∧
    ∀ a b, (Calm p (crashS t a b) ∨ Hot p (undoW p l) (crashS t a b) ∨ (k > l.length + 2 ∧ Calm (crashP p l all1) (crashS t a b))) ∧ (k = (stepsO p l).length → Calm (crashP p l all1) (crashS t a b) ∧ Calm (crashP p l all1) t) := by
  have hl := h.len
  have lj : (jOps (jW p l)).length = l.length := by rw [jOps_len, jW_len]
  have lh : (jHot l.length).length = 3 := rfl
  have ld : (dOps l).length = l.length := dOps_len l
  have le : endO.length = 3 := rfl
  have hO : stepsO p l = jOps (jW p l) ++ (jHot l.length ++ (dOps l ++ endO)) := by
    unfold stepsO
    rw [jEnts_ops]
    show jOps (jW p l) ++ jHot l.length ++ dOps l ++ endO = _
    simp only [List.append_assoc]
  have hlen : (stepsO p l).length = l.length + (3 + (l.length + 3)) := by
    rw [hO]; simp only [List.length_append, lj, lh, ld, le]
  -- the parts
  have s1 : ∀ k, playG ((p, []), (j, [])) (jOps ((jW p l).take k)) = (((p, []), (j, (jW p l).take k)), 0) := by
    intro k
    have := play_jOps (D := (p, [])) (q := []) (r := (jW p l).take k) h.cj (by have := jW_len p l; simp; omega) (fun x hx => h.jok x (List.mem_of_mem_take hx))
    simpa using this
  have s1' : playG ((p, []), (j, [])) (jOps (jW p l)) = (((p, []), (j, jW p l)), 0) := by
    have := s1 (jW p l).length
    rwa [List.take_length] at this
  have s2 : playG ((p, []), (j, jW p l)) [(4, 0, ⟨#[]⟩)] = (((p, []), (J1 p j l, [])), 0) := by rw [playG_cons, opR_syncJ h.cwAll]; rfl
  have s3 : playG ((p, []), (J1 p j l, [])) (jOps [(0, jHead l.length)]) = (((p, []), (J1 p j l, [(0, jHead l.length)])), 0) := play_jOps h.cJ1 (by simp) (by simpa using headOk)
  have s4 : playG ((p, []), (J1 p j l, [(0, jHead l.length)])) [(4, 0, ⟨#[]⟩)] = (((p, []), (J2 p j l, [])), 0) := by rw [playG_cons, opR_syncJ h.cHead]; rfl
  have s5 : ∀ k, playG ((p, []), (J2 p j l, [])) (dOps (l.take k)) = (((p, l.take k), (J2 p j l, [])), 0) := by
    intro k
    have := play_dOps (J := (J2 p j l, [])) (q := []) (r := l.take k) h.cp (by simp; omega) (fun x hx => h.lok x (List.mem_of_mem_take hx))
    simpa using this
  have s5' : playG ((p, []), (J2 p j l, [])) (dOps l) = (((p, l), (J2 p j l, [])), 0) := by
    have := s5 l.length
    rwa [List.take_length] at this
  have z1 : pageAt (J1 p j l) 0 = pageAt j 0 := by
    have := h.zero (jW p l).length all1
    rwa [List.take_length] at this
  have cold1 : isJ (pageAt (J1 p j l) 0) = false := by rw [z1]; exact h.cold
  have hotp : Hot p (undoW p l) ((p, []), (J2 p j l, [])) := h.hot2 h.cp fun n _ => rfl
  have old : ∀ {t : Str} {k : Nat}, k < (stepsO p l).length → (∀ a b, Calm p (crashS t a b) ∨ Hot p (undoW p l) (crashS t a b)) → ∀ a b, (Calm p (crashS t a b) ∨ Hot p (undoW p l) (crashS t a b) ∨ (k > l.length + 2 ∧ Calm (crashP p l all1) (crashS t a b))) ∧ (k = (stepsO p l).length → Calm (crashP p l all1) (crashS t a b) ∧ Calm (crashP p l all1) t) :=
    fun hlt hab a b => ⟨(hab a b).imp id .inl, fun e => by omega⟩
  rw [hO]
  rcases take_two (jOps (jW p l)) (jHot l.length ++ (dOps l ++ endO)) k with ⟨g1, g2⟩ | ⟨g1, g2⟩
  · -- among the records
    rw [g2, jOps_take]
    rw [lj] at g1
    refine ⟨_, s1 k, ?_⟩
    rw [← hO]
    refine old (by omega) fun a b => .inl ?_
    unfold crashS
    simp only
    rw [crash_bare h.cp]
    exact calm_of h.cp (settleP_pages (h.cw k)) (by rw [h.zero k b]; exact h.cold)
  · rw [g2, playG_app (by rw [s1']), s1', lj]
    rw [lj] at g1
    show ∃ t, playG ((p, []), (j, jW p l)) _ = _ ∧ _
    rw [← hO]
    rcases take_two (jHot l.length) (dOps l ++ endO) (k - l.length) with ⟨f1, f2⟩ | ⟨f1, f2⟩
    · -- among the head's ops
      rw [f2]
      rw [lh] at f1
      obtain ⟨i, hi⟩ : ∃ i, k = l.length + i := ⟨k - l.length, by omega⟩
      rw [hi, Nat.add_sub_cancel_left] at f1 ⊢
      match i, f1 with
      | 0, _ =>
        refine ⟨_, rfl, old (by omega) fun a b => .inl ?_⟩
        unfold crashS
        simp only
        rw [crash_bare h.cp]
        have := h.zero (jW p l).length b
        rw [List.take_length] at this
        exact calm_of h.cp (settleP_pages h.cwAll) (by rw [this]; exact h.cold)
      | 1, _ =>
        refine ⟨_, s2, old (by omega) fun a b => .inl ?_⟩
        unfold crashS
        simp only
        rw [crash_bare h.cp, crash_bare h.cJ1]
        exact calm_of h.cp h.cJ1 cold1
      | 2, _ =>
        refine ⟨((p, []), (J1 p j l, [(0, jHead l.length)])), ?_, old (by omega) fun a b => ?_⟩
        · show playG _ ([(4, 0, ⟨#[]⟩)] ++ jOps [(0, jHead l.length)]) = _
          rw [playG_app (by rw [s2]), s2]
          exact s3
        · unfold crashS
          simp only
          rw [crash_bare h.cp]
          rcases crash_one h.cJ1 (headOk (m := l.length)) b with q | q
          · rw [q]; exact .inl (calm_of h.cp h.cJ1 cold1)
          · exact .inr (h.hot (settleP_pages h.cHead) q h.cp fun n _ => rfl)
      | 3, _ =>
        refine ⟨((p, []), (J2 p j l, [])), ?_, old (by omega) fun a b => .inr ?_⟩
        · show playG _ ([(4, 0, ⟨#[]⟩)] ++ (jOps [(0, jHead l.length)] ++ [(4, 0, ⟨#[]⟩)])) = _
          rw [playG_app (by rw [s2]), s2]
          show playG ((p, []), (J1 p j l, [])) _ = _
          rw [playG_app (by rw [s3]), s3]
          exact s4
        · exact hotp.crash (q := []) h.cp (by simp) a b
    · rw [f2, lh]
      rw [lh] at f1
      have s234 : playG ((p, []), (j, jW p l)) (jHot l.length) = (((p, []), (J2 p j l, [])), 0) := by
        show playG _ ([(4, 0, ⟨#[]⟩)] ++ (jOps [(0, jHead l.length)] ++ [(4, 0, ⟨#[]⟩)])) = _
        rw [playG_app (by rw [s2]), s2]
        show playG ((p, []), (J1 p j l, [])) _ = _
        rw [playG_app (by rw [s3]), s3]
        exact s4
      rw [playG_app (by rw [s234]), s234]
      show ∃ t, playG ((p, []), (J2 p j l, [])) _ = _ ∧ _
      have uin : ∀ x ∈ l, ∃ y ∈ undoW p l, y.1 = x.1 := fun x hx => ⟨(x.1, pageAt p x.1), List.mem_map.2 ⟨x, hx, rfl⟩, rfl⟩
      rcases take_two (dOps l) endO (k - l.length - 3) with ⟨e1, e2⟩ | ⟨e1, e2⟩
      · -- among the pages
        rw [e2, dOps_take]
        rw [ld] at e1
        refine ⟨_, s5 _, old (by omega) fun a b => .inr ?_⟩
        exact hotp.crash (h.cl _) (fun x hx => uin x (List.mem_of_mem_take hx)) a b
      · rw [e2, ld, playG_app (by rw [s5']), s5']
        rw [ld] at e1
        show ∃ t, playG ((p, l), (J2 p j l, [])) _ = _ ∧ _
        obtain ⟨o1, o2⟩ := h.others all1
        have hotN : Hot p (undoW p l) ((crashP p l all1, []), (J2 p j l, [])) := h.hot2 o1 o2
        obtain ⟨i, hi⟩ : ∃ i, k = l.length + 3 + l.length + i := ⟨k - l.length - 3 - l.length, by omega⟩
        have hi3 : i ≤ 3 := by omega
        rw [show k - l.length - 3 - l.length = i by omega]
        obtain ⟨v, v1, v2⟩ := end_part hotN o1 hotp h.clAll uin rfl i hi3
        refine ⟨v, v1, fun a b => ⟨?_, fun e => ?_⟩⟩
        · rcases v2 a b with q | ⟨_, q⟩
          · exact .inr (.inl q)
          · exact .inr (.inr ⟨by omega, q⟩)
        · obtain rfl : i = 3 := by omega
          -- all ops: the journal is cold
          have c3 : check (J2 p j l) [((0 : Int), (⟨#[45]⟩ : ByteArray))] = 0 := check_more h.cJ2 (by simp) (by simpa using dash_ok)
          have hv : playG ((p, l), (J2 p j l, [])) endO = (((crashP p l all1, []), (crashP (J2 p j l) [(0, ⟨#[45]⟩)] all1, [])), 0) := play_end (D := (J2 p j l, [])) h.clAll h.cJ2
          have e3 : endO.take 3 = endO := rfl
          rw [e3, hv] at v1
          cases v1
          have hcalm := calm_dash (R := crashP p l all1) (d := all1) o1 h.cJ2 fun n => crash_one_all h.cJ2 dash_ok n
          refine ⟨?_, hcalm⟩
          unfold crashS
          simp only
          rw [crash_bare o1, crash_bare hcalm.cj]
          exact hcalm
end
/-- what recovering makes of a store that is calm or hot -/
theorem recovered {R : List ByteArray} {e : List DiskP.Wr} {u : Str} (h : Calm R u ∨ Hot R e u) : ∃ t, recoverR u = (t, 0) ∧ plainE t = true ∧ t.1.1 = R := by
  rcases h with h | h
  · exact ⟨u, h.recover, h.plain, by rw [h.d]⟩
  · obtain ⟨t, h1, h2⟩ := h.recover
    exact ⟨t, h1, h2.plain, by rw [h2.d]⟩
theorem quiet {R : List ByteArray} {e : List DiskP.Wr} {u : Str} (h : Calm R u ∨ Hot R e u) : u.1.2.length ≤ 140737488355328 ∧ u.2.2.length ≤ 140737488355328 ∧ storeChk u = 0 ∧ (undoR u).2 = 0 := by
  rcases h with h | h
  · exact ⟨by rw [h.d]; exact Nat.zero_le _, by rw [h.j]; exact Nat.zero_le _, h.chk.1, by rw [h.undo]⟩
  · exact ⟨by rw [h.dq]; exact Nat.zero_le _, by rw [h.jq]; exact Nat.zero_le _, h.chk.1, by rw [h.undo]⟩
theorem twice {R : List ByteArray} {e : List DiskP.Wr} {u : Str} (h : Calm R u ∨ Hot R e u) (j : Nat) (hj : j ≤ (undoR u).1.length) : ∃ v, playR u ((undoR u).1.take j) = (v, 0) ∧ ∀ c d, Calm R (crashS v c d) ∨ Hot R e (crashS v c d) := by
  rcases h with h | h
  · rw [h.undo]
    refine ⟨u, by rw [List.take_nil]; exact playR_ok h.chk.1 (by simp), fun c d => .inl ?_⟩
    obtain ⟨⟨P, q⟩, Q, q'⟩ := u
    have h1 := h.d
    have h2 := h.j
    simp only at h1 h2
    cases h1
    subst h2
    unfold crashS
    simp only
    rw [crash_bare h.cd, crash_bare h.cj]
    exact h
  · exact h.part j hj
/-! ### who is recovered is recovered -/
theorem opR_data {s : Str} {o : Opr} (h : o.1 = 1) : (opR s o).1.2 = s.2 := by
  unfold opR
  rw [if_pos h]
theorem playG_data : ∀ {ops : List Opr} {s : Str}, (∀ o ∈ ops, o.1 = 1) → (playG s ops).2 = 0 → (playG s ops).1.2 = s.2
  | [], s, _, _ => rfl
  | o :: r, s, hk, h => by
    rw [playG_cons] at h ⊢
    by_cases c : (opR s o).2 = 0
    · rw [if_pos c] at h ⊢
      rw [playG_data (fun x hx => hk x (List.mem_cons_of_mem _ hx)) h]
      exact opR_data (hk o (List.mem_cons_self ..))
    · rw [if_neg c] at h; exact absurd h c
theorem recL_kind {l : List UInt8} {o : Opr} (h : recL l = some o) : o.1 = 1 := by
  rcases recL_cases l with ⟨_, g⟩ | ⟨a, b, r, rfl⟩
  · rw [g] at h; cases h
  · rw [recL_two] at h
    by_cases c : a.toNat = 0 ∧ b.toNat < 32
    · rw [if_pos c] at h; cases h; rfl
    · rw [if_neg c] at h; cases h
theorem undoL_kind (f : Nat → ByteArray) : ∀ (n i : Nat) (l : List Opr), undoL f i n = some l → ∀ o ∈ l, o.1 = 1
  | 0, i, l, h, o, ho => by cases h; cases ho
  | n + 1, i, l, h, o, ho => by
    rw [undoL_succ] at h
    split at h
    · cases h
    · rename_i q hq
      cases hu : undoL f (i + 1) n with
      | none => rw [hu] at h; cases h
      | some r =>
        rw [hu] at h
        cases h
        rcases List.mem_cons.1 ho with rfl | ho
        · exact recL_kind hq
        · exact undoL_kind f n (i + 1) r hu o ho
theorem undo_cases {s : Str} (h : (undoR s).2 = 0) : storeChk s = 0 ∧ waitsR s = false ∧ ((hotR s = false ∧ (undoR s).1 = []) ∨ ∃ l, (undoR s).1 = l ++ endO ∧ ∀ o ∈ l, o.1 = 1) := by
  by_cases h1 : storeChk s = 0
  · have e1 : undoR s = if waitsR s = true then ([], 4) else if hotR s = false then ([], 0) else _ := if_neg (not_not_intro h1)
    cases h2 : waitsR s with
    | true => rw [e1, if_pos h2] at h; exact absurd h (by decide)
    | false =>
      rw [if_neg (by rw [h2]; decide)] at e1
      refine ⟨h1, rfl, ?_⟩
      cases h3 : hotR s with
      | false => rw [if_pos h3] at e1; exact .inl ⟨rfl, by rw [e1]⟩
      | true =>
        rw [if_neg (by rw [h3]; decide)] at e1
        right
        cases h4 : headN (pageAt s.2.1 0) with
        | none => rw [h4] at e1; rw [e1] at h; exact absurd (show (1 : Int) = 0 from h) (by decide)
        | some n =>
          rw [h4] at e1
          simp only at e1
          cases h5 : undoL (fun i => pageAt s.2.1 (i : Int)) 1 n with
          | none => rw [h5] at e1; rw [e1] at h; exact absurd (show (1 : Int) = 0 from h) (by decide)
          | some l =>
            rw [h5] at e1
            exact ⟨l, by rw [e1], undoL_kind _ _ _ _ h5⟩
  · have e1 : undoR s = ([], storeChk s) := if_pos h1
    rw [e1] at h
    exact absurd h h1
theorem recover_calm {s : Str} (h : (recoverR s).2 = 0) : ∃ R, Calm R (recoverR s).1 := by
  have hu : (undoR s).2 = 0 := by
    refine Classical.byContradiction fun q => ?_
    have e : recoverR s = (zeroS, (undoR s).2) := if_pos q
    rw [e] at h
    exact q h
  have e : recoverR s = playR s (undoR s).1 := if_neg (not_not_intro hu)
  rw [e] at h ⊢
  obtain ⟨h1, h2, h3⟩ := undo_cases hu
  obtain ⟨k1, k2, k3⟩ := playR_fine h
  obtain ⟨c1, c2⟩ := storeChk_ok h1
  obtain ⟨p1, p2, p3⟩ := hot_head h1 h2
  rw [k3] at h ⊢
  obtain ⟨⟨P, q⟩, Q, q'⟩ := s
  simp only at p2 p3
  subst p2 p3
  rcases h3 with ⟨g1, g2⟩ | ⟨l, g1, g2⟩
  · rw [g2]
    exact ⟨P, rfl, rfl, c1, c2, by rw [g1] at p1; exact p1.symm⟩
  · rw [g1] at h ⊢
    have hl : (playG ((P, []), (Q, [])) l).2 = 0 := by
      refine Classical.byContradiction fun c => ?_
      rw [playG_app_bad c] at h
      exact c h
    rw [playG_app hl] at h ⊢
    have hj := playG_data g2 hl
    have hck := playG_ok h1 hl
    generalize (playG ((P, []), (Q, [])) l).1 = t at *
    obtain ⟨⟨P1, q1⟩, J⟩ := t
    simp only at hj
    subst hj
    obtain ⟨d1, d2⟩ := storeChk_ok hck
    rw [play_end (D := (Q, [])) d1 d2]
    exact ⟨crashP P1 q1 all1, calm_dash (settleP_pages d1) d2 fun n => crash_one_all d2 dash_ok n⟩
end Go.Proofs.Ytohlkegmmbdlaaa.Pm
