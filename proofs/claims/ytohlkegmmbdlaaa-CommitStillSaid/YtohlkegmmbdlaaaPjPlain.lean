/- journal, plainly: what playing does, what recovering does -/
import Derived.Test.YtohlkegmmbdlaaaPjUndo2
import Derived.Test.YtohlkegmmbdlaaaPjBegun
namespace Go.Proofs.Ytohlkegmmbdlaaa.Pm
open Go.RowKit K DiskP
set_option linter.unusedVariables false
set_option linter.unusedSimpArgs false
set_option maxRecDepth 100000

/-! ### playing -/
theorem opR_ok {s : Str} {o : Opr} (hs : storeChk s = 0) (h : (opR s o).2 = 0) : storeChk (opR s o).1 = 0 := by
  obtain ⟨h1, h2⟩ := storeChk_ok hs
  have mk : ∀ {t : Str}, check t.1.1 t.1.2 = 0 → check t.2.1 t.2.2 = 0 → storeChk t = 0 := by
    intro t a b
    unfold storeChk
    rw [if_neg (not_not_intro a)]; exact b
  unfold opR at h ⊢
  by_cases c1 : o.1 = 1
  · rw [if_pos c1] at h ⊢
    obtain ⟨a, b⟩ := writeP_yes h
    refine mk ?_ h2
    show check (writeP _ _ _ _) (writeQ _ _ _ _) = 0
    rw [a, b]; exact write_check h
  · rw [if_neg c1] at h ⊢
    by_cases c2 : o.1 = 2
    · rw [if_pos c2] at h ⊢
      obtain ⟨a, b⟩ := writeP_yes h
      refine mk h1 ?_
      show check (writeP _ _ _ _) (writeQ _ _ _ _) = 0
      rw [a, b]; exact write_check h
    · rw [if_neg c2] at h ⊢
      by_cases c3 : o.1 = 3
      · rw [if_pos c3] at h ⊢
        exact mk (settleP_pages h1) h2
      · rw [if_neg c3] at h ⊢
        by_cases c4 : o.1 = 4
        · rw [if_pos c4] at h ⊢
          exact mk h1 (settleP_pages h2)
        · rw [if_neg c4] at h
          exact absurd h (show ¬ (7 : Int) = 0 by decide)
theorem playG_bad : ∀ {ops : List Opr} {s : Str}, (playG s ops).2 ≠ 0 → (playG s ops).1 = zeroS
  | [], s, h => absurd rfl h
  | o :: r, s, h => by
    rw [playG_cons] at h ⊢
    by_cases c : (opR s o).2 = 0
    · rw [if_pos c] at h ⊢; exact playG_bad h
    · rw [if_neg c]
theorem playG_ok : ∀ {ops : List Opr} {s : Str}, storeChk s = 0 → (playG s ops).2 = 0 → storeChk (playG s ops).1 = 0
  | [], s, hs, _ => hs
  | o :: r, s, hs, h => by
    rw [playG_cons] at h ⊢
    by_cases c : (opR s o).2 = 0
    · rw [if_pos c] at h ⊢; exact playG_ok (opR_ok hs c) h
    · rw [if_neg c] at h; exact absurd h c
theorem playG_app : ∀ {a b : List Opr} {s : Str}, (playG s a).2 = 0 → playG s (a ++ b) = playG (playG s a).1 b
  | [], b, s, _ => rfl
  | o :: r, b, s, h => by
    rw [playG_cons] at h ⊢
    rw [List.cons_append, playG_cons]
    by_cases c : (opR s o).2 = 0
    · rw [if_pos c] at h ⊢; rw [if_pos c]; exact playG_app h
    · rw [if_neg c] at h; exact absurd h c
theorem playG_app_bad : ∀ {a b : List Opr} {s : Str}, (playG s a).2 ≠ 0 → playG s (a ++ b) = playG s a
  | [], b, s, h => absurd rfl h
  | o :: r, b, s, h => by
    rw [playG_cons] at h ⊢
    rw [List.cons_append, playG_cons]
    by_cases c : (opR s o).2 = 0
    · rw [if_pos c] at h ⊢; rw [if_pos c]; exact playG_app_bad h
    · rw [if_neg c, if_neg c]
theorem playR_ok {s : Str} {ops : List Opr} (hs : storeChk s = 0) (hl : ops.length ≤ 100) : playR s ops = playG s ops := by
  unfold playR playE
  rw [if_neg (not_not_intro hs), if_neg (show ¬ 100 < ops.length by omega)]
  exact if_neg (not_not_intro rfl)
theorem playR_fine {s : Str} {ops : List Opr} (h : (playR s ops).2 = 0) : storeChk s = 0 ∧ ops.length ≤ 100 ∧ playR s ops = playG s ops := by
  unfold playR at h
  by_cases c : playE s ops = 0
  · unfold playE at c
    by_cases c1 : storeChk s = 0
    · rw [if_neg (not_not_intro c1)] at c
      by_cases c2 : 100 < ops.length
      · rw [if_pos c2] at c; cases c
      · exact ⟨c1, by omega, playR_ok c1 (by omega)⟩
    · rw [if_pos c1] at c; exact absurd c c1
  · rw [if_pos c] at h; exact absurd h c
/-- ops in two parts -/
theorem playR_parts {s : Str} {ops : List Opr} (h : (playR s ops).2 = 0) (k : Nat) : (playR s (ops.take k)).2 = 0 ∧ playR (playR s (ops.take k)).1 (ops.drop k) = playR s ops := by
  obtain ⟨h1, h2, h3⟩ := playR_fine h
  rw [h3] at h ⊢
  have e1 : playR s (ops.take k) = playG s (ops.take k) := playR_ok h1 (by rw [List.length_take]; omega)
  rw [e1]
  have c : (playG s (ops.take k)).2 = 0 := by
    refine Classical.byContradiction fun q => ?_
    have := playG_app_bad (b := ops.drop k) q
    rw [List.take_append_drop] at this
    rw [this] at h
    exact q h
  refine ⟨c, ?_⟩
  rw [playR_ok (playG_ok h1 c) (by rw [List.length_drop]; omega), ← playG_app c, List.take_append_drop]

/-! ### pages -/
theorem pages_ext {p q : List ByteArray} (hp : lastBlank p = false) (hq : lastBlank q = false) (h : ∀ n : Nat, pageAt p n = pageAt q n) : p = q := by
  rw [← trim_id p hp, ← trim_id q hq]
  exact trim_ext p q h
theorem pageAt_far {p : List ByteArray} (h : p.length ≤ 32) {n : Nat} (hn : 32 ≤ n) : pageAt p (n : Int) = ⟨#[]⟩ := by
  unfold pageAt
  rw [if_pos (by omega), Int.toNat_natCast, List.getD_eq_getElem?_getD, List.getElem?_eq_none (by omega)]; rfl
/-- what has landed of a list of writes -/
theorem pageAt_crash {p : List ByteArray} {q : List DiskP.Wr} (h : check p q = 0) (m : Int) (n : Nat) : pageAt (crashP p q m) n = if n < 32 then lastOn (pageAt p n) (kept (bitAt m) q) n else ⟨#[]⟩ := by
  have hS : crashP p q m = settled p q m := if_pos h
  rw [hS, pageAt_settled, lastOf_kept]
  by_cases c : n < 32
  · rw [if_pos ⟨by omega, by omega⟩, if_pos c]
  · rw [if_neg (by omega), if_neg c]
theorem crash_bare {p : List ByteArray} (h : check p [] = 0) (m : Int) : crashP p [] m = p := by
  have h2 := check_ok _ _ (settleP_pages (m := m) h)
  have h1 := check_ok _ _ h
  refine pages_ext h2.2.2.1 h1.2.2.1 fun n => ?_
  rw [pageAt_crash h]
  by_cases c : n < 32
  · rw [if_pos c]; rfl
  · rw [if_neg c, pageAt_far h1.1 (by omega)]
theorem lastOn_all {s : ByteArray} {q : List DiskP.Wr} {n : Int} {v : ByteArray} (h : ∀ x ∈ q, x.1 = n → x.2 = v) (hs : s = v ∨ ∃ x ∈ q, x.1 = n) : lastOn s q n = v := by
  rcases lastOn_either s q n with e | ⟨x, hx, h1, h2⟩
  · rcases hs with hs | ⟨x, hx, h1⟩
    · rw [e, hs]
    · -- the last of those that hit
      induction q generalizing s with
      | nil => cases hx
      | cons y q ih =>
        show lastOn (if (y.1 == n) = true then y.2 else s) q n = v
        by_cases hy : y.1 = n
        · rw [if_pos (by simpa using hy)]
          rcases lastOn_either y.2 q n with e2 | ⟨z, hz, h3, h4⟩
          · rw [e2]; exact h y (List.mem_cons_self ..) hy
          · rw [h4]; exact h z (List.mem_cons_of_mem _ hz) h3
        · rw [if_neg (by simpa using hy)]
          rcases List.mem_cons.1 hx with rfl | hx
          · exact absurd h1 hy
          · rcases lastOn_either s q n with e2 | ⟨z, hz, h3, h4⟩
            · exact ih (fun z hz => h z (List.mem_cons_of_mem _ hz)) e2 hx
            · rw [h4]; exact h z (List.mem_cons_of_mem _ hz) h3
  · rw [h2]; exact h x hx h1
end Go.Proofs.Ytohlkegmmbdlaaa.Pm
