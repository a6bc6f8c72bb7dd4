/- what is true of disks, plainly -/
import Derived.Test.YtohlkegmmbdlaaaDiskBack
import Derived.Test.YtohlkegmmbdlaaaDiskSettle
import Derived.Test.YtohlkegmmbdlaaaDiskRefs3
import Derived.Test.YtohlkegmmbdlaaaDiskWrite
namespace Go.Proofs.Ytohlkegmmbdlaaa.DiskP
open Go.RowKit K

theorem write_parts {p : List ByteArray} {q : List Wr} {n : Int} {s : ByteArray} (h : writeE p q n s = 0) : check p q = 0 ∧ inPlace n = true ∧ tooLong s = false ∧ q.length < 48 := by
  unfold writeE at h
  split at h
  · rename_i hc; exact absurd h hc
  · rename_i hc
    have hc : check p q = 0 := by simpa using hc
    have h48 := (check_ok p q hc).2.2.2.1
    split at h
    · simp at h
    · rename_i hi
      split at h
      · simp at h
      · rename_i hl
        refine ⟨hc, by simpa using hi, ?_, by omega⟩
        cases e : tooLong s
        · rfl
        · exact absurd (.inl e) hl

theorem write_check {p : List ByteArray} {q : List Wr} {n : Int} {s : ByteArray} (h : writeE p q n s = 0) : check p (q ++ [(n, s)]) = 0 := by
  obtain ⟨h1, h2, h3, h4⟩ := write_parts h
  obtain ⟨a, b, c, d, e⟩ := check_ok p q h1
  refine check_of _ _ a b c (by simp; omega) fun x hx => ?_
  rcases List.mem_append.1 hx with hx | hx
  · exact e x hx
  · simp at hx; subst hx; exact ⟨h2, h3⟩

theorem lastOn_either (s : ByteArray) (q : List Wr) (n : Int) : lastOn s q n = s ∨ ∃ x ∈ q, x.1 = n ∧ lastOn s q n = x.2 := by
  induction q generalizing s with
  | nil => exact .inl rfl
  | cons x q ih =>
    have e : lastOn s (x :: q) n = lastOn (if (x.1 == n) = true then x.2 else s) q n := rfl
    rw [e]
    rcases ih (if (x.1 == n) = true then x.2 else s) with h | ⟨y, hy, h1, h2⟩
    · rw [h]
      cases hx : (x.1 == n)
      · exact .inl rfl
      · exact .inr ⟨x, List.mem_cons_self .., eq_of_beq hx, rfl⟩
    · exact .inr ⟨y, List.mem_cons_of_mem _ hy, h1, h2⟩

theorem pageAt_mem (p : List ByteArray) (n : Int) : pageAt p n = ⟨#[]⟩ ∨ pageAt p n ∈ p := by
  unfold pageAt
  split
  · rw [List.getD_eq_getElem?_getD]
    cases h : p[n.toNat]? with
    | none => exact .inl rfl
    | some s => exact .inr (List.mem_of_getElem? h)
  · exact .inl rfl

theorem settleP_pages {p : List ByteArray} {q : List Wr} {m : Int} (h : check p q = 0) : check (crashP p q m) [] = 0 := by
  obtain ⟨a, b, c, d, e⟩ := check_ok p q h
  have hS : crashP p q m = settled p q m := if_pos h
  rw [hS]
  refine check_of _ _ ?_ ?_ (lastBlank_trim _) (by simp) (by simp)
  · unfold settled trim
    rw [List.length_take]
    simp
    omega
  · rw [Bool.eq_false_iff]
    intro hany
    obtain ⟨s, hs, hl⟩ := List.any_eq_true.1 hany
    unfold settled trim at hs
    obtain ⟨no, _, rfl⟩ := List.mem_map.1 (List.mem_of_mem_take hs)
    rw [lastOf_kept] at hl
    rcases lastOn_either (pageAt p (no : Int)) (kept (bitAt m) q) (no : Int) with h1 | ⟨x, hx, _, h2⟩
    · rw [h1] at hl
      rcases pageAt_mem p (no : Int) with h2 | h2
      · rw [h2] at hl; exact absurd hl (by decide)
      · have := List.any_eq_true.2 ⟨_, h2, hl⟩
        rw [b] at this; cases this
    · rw [h2] at hl
      have := (e x (kept_mem _ _ _ hx)).2
      rw [this] at hl; cases hl

theorem readR_ok {p : List ByteArray} {q : List Wr} {n : Int} (h : check p q = 0) : readR p q n = if inPlace n = false then (⟨#[]⟩, 3) else (lastOn (pageAt p n) q n, 0) := by
  unfold readR; rw [if_neg (by simpa using h)]

theorem read_settled {p : List ByteArray} {q : List Wr} (m : Int) (h : check p q = 0) (n : Int) : readR (crashP p q m) [] n = if inPlace n = false then (⟨#[]⟩, 3) else (lastOn (pageAt p n) (kept (bitAt m) q) n, 0) := by
  rw [readR_ok (settleP_pages h)]
  cases hi : inPlace n
  · rfl
  · rw [if_neg (by decide), if_neg (by decide)]
    have hn : 0 ≤ n ∧ n < 32 := by unfold inPlace at hi; simpa using hi
    have hS : crashP p q m = settled p q m := if_pos h
    have : lastOn (pageAt (crashP p q m) n) [] n = pageAt (crashP p q m) n := rfl
    rw [this, hS, pageAt_settled, if_pos hn, lastOf_kept]

theorem allOn (q : List Wr) (h : q.length ≤ 64) : kept (bitAt 18446744073709551615) q = q := kept_all q _ fun i hi => bitAt_all i (by omega)

/-- behind a write: the page, and the others -/
theorem read_written {p : List ByteArray} {q : List Wr} {n : Int} {s : ByteArray} (h : writeE p q n s = 0) : readR p (q ++ [(n, s)]) n = (s, 0) := by
  obtain ⟨h1, h2, h3, h4⟩ := write_parts h
  rw [readR_ok (write_check h), if_neg (by rw [h2]; decide), lastOn_snoc, if_pos (by simp)]
theorem read_other {p : List ByteArray} {q : List Wr} {n : Int} {s : ByteArray} (h : writeE p q n s = 0) (o : Int) : (readR p (q ++ [(n, s)]) o).2 = (readR p q o).2 ∧ (o ≠ n → readR p (q ++ [(n, s)]) o = readR p q o) := by
  obtain ⟨h1, h2, h3, h4⟩ := write_parts h
  rw [readR_ok (write_check h), readR_ok h1]
  cases hi : inPlace o
  · exact ⟨rfl, fun _ => rfl⟩
  · rw [if_neg (by decide), if_neg (by decide)]
    refine ⟨rfl, fun ho => ?_⟩
    rw [lastOn_snoc, if_neg (by simpa using fun e => ho e.symm)]
theorem read_synced {p : List ByteArray} {q : List Wr} (h : check p q = 0) (o : Int) : readR (crashP p q 18446744073709551615) [] o = readR p q o := by
  have h48 := (check_ok p q h).2.2.2.1
  rw [read_settled _ h, readR_ok h, allOn q (by omega)]

theorem trim_pad (p : List ByteArray) (h : lastBlank p = false) : trim (pad p) = p := by
  rw [trim_ext (pad p) p fun n => pageAt_pad p n, trim_id p h]

theorem settle_none {p : List ByteArray} (q : List Wr) (b : Nat → Bool) (h : check p q = 0) (hb : ∀ i, i < q.length → b i = false) : settleP p q b = p := by
  have : settleP p q b = trim (doneOn (pad p) (kept b q)) := if_pos h
  rw [this, kept_none q b hb]
  exact trim_pad p (check_ok p q h).2.2.1

end Go.Proofs.Ytohlkegmmbdlaaa.DiskP
