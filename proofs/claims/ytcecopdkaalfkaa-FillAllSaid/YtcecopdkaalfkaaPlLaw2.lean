/- leaf: what is packed is unpacked as it was, and the other way round -/
import Derived.Test.YtcecopdkaalfkaaPlUnp2
namespace Go.Proofs.Ytcecopdkaalfkaa.Pm
open Go.RowKit K NumP NumW NumRd NumZ NumL
set_option linter.unusedVariables false
set_option linter.unusedSimpArgs false
set_option maxRecDepth 100000

theorem ent_parts {x : EntryD} (h : rowChk x.Row = 0) (hi : okInt x.Id) (hN : ∀ v ∈ x.Row, okInt v.N) (q : List UInt8) : (numR (entB x ++ q)).2.2 = 0 ∧ idR (entB x ++ q) = x.Id ∧ rowR (atR (entB x ++ q)) = (x.Row, (rowW x.Row).length, 0) ∧ beh (entB x ++ q) = q := by
  have e : entB x ++ q = numB 9 (zig x.Id).toNat ++ (rowW x.Row ++ q) := by unfold entB; rw [List.append_assoc]
  have en := numR_back (zig x.Id).toNat (zigN hi).1 (rowW x.Row ++ q)
  have ea : atR (entB x ++ q) = rowW x.Row ++ q := by
    show (entB x ++ q).drop (numR (entB x ++ q)).2.1 = _
    rw [e, en]
    exact List.drop_left' rfl
  have er := rowR_back h hN q
  refine ⟨by rw [e, en], ?_, by rw [ea, er], ?_⟩
  · show zag ((numR (entB x ++ q)).1 : Int) = _
    rw [e, en]
    show zag (((zig x.Id).toNat : Nat) : Int) = _
    rw [(zigN hi).2, zag_zig]
  · show (atR (entB x ++ q)).drop (rowR (atR (entB x ++ q))).2.1 = q
    rw [ea, er]
    exact List.drop_left' rfl
theorem entGo_cons {last : Int} {x : EntryD} {l : List EntryD} (h : entGo last (x :: l) = 0) : riseE x.Id last = 0 ∧ rowChk x.Row = 0 ∧ entGo x.Id l = 0 := by
  have e : entGo last (x :: l) = if riseE x.Id last ≠ 0 then riseE x.Id last else if rowChk x.Row ≠ 0 then rowChk x.Row else entGo x.Id l := rfl
  rw [e] at h
  split at h
  · rename_i q; exact absurd h q
  · split at h
    · rename_i q; exact absurd h q
    · rename_i q1 q2
      exact ⟨by simpa using q1, by simpa using q2, h⟩
theorem unpG_back : ∀ (l : List EntryD) (last : Int) (out : List EntryD) (q : List UInt8), entGo last l = 0 → entOk l → unpG l.length last out (l.flatMap entB ++ q) = if q = [] then (out ++ l, 0) else ([], 1)
  | [], last, out, q, _, _ => by
    show unpG 0 last out q = _
    rw [unpG_zero, List.append_nil]
  | x :: l, last, out, q, h, hok => by
    obtain ⟨g1, g2, g3⟩ := entGo_cons h
    have hx := hok x (List.mem_cons_self ..)
    obtain ⟨p1, p2, p3, p4⟩ := ent_parts g2 hx.1 hx.2 (l.flatMap entB ++ q)
    have he : entE last (entB x ++ (l.flatMap entB ++ q)) = 0 := by
      unfold entE
      rw [if_neg (not_not_intro p1), p2, if_neg (not_not_intro g1), p3]
    have ih := unpG_back l x.Id (out ++ [x]) q g3 (fun y hy => hok y (List.mem_cons_of_mem _ hy))
    rw [List.flatMap_cons, List.append_assoc, List.length_cons, unpG_succ, if_neg (not_not_intro he), p2, p3, p4]
    show unpG l.length x.Id (out ++ [⟨x.Id, x.Row⟩]) _ = _
    rw [show (⟨x.Id, x.Row⟩ : EntryD) = x from rfl, ih]
    simp
theorem unpR_back {l : List EntryD} (h : entChk l = 0) (hok : entOk l) (q : List UInt8) (hq : (entW l ++ q).length ≤ 245) : unpR (entW l ++ q) = if q = [] then (l, 0) else ([], 1) := by
  obtain ⟨h40, hrw, hg⟩ := entChk_ok h
  have e : entW l ++ q = numB 9 l.length ++ (l.flatMap entB ++ q) := by unfold entW; rw [List.append_assoc]
  have en := numR_back l.length (by omega) (l.flatMap entB ++ q)
  have ea : atR (entW l ++ q) = l.flatMap entB ++ q := by
    show (entW l ++ q).drop (numR (entW l ++ q)).2.1 = _
    rw [e, en]
    exact List.drop_left' rfl
  have e1 : (numR (entW l ++ q)).1 = l.length := by rw [e, en]
  have e2 : (numR (entW l ++ q)).2.2 = 0 := by rw [e, en]
  unfold unpR
  rw [if_neg (by omega), if_neg (not_not_intro e2), e1, if_neg (by omega), ea, unpG_back l 0 [] q hg hok, List.nil_append]
theorem unpG_only : ∀ (n : Nat) (last : Int) (out : List EntryD) (s : List UInt8) (m : List EntryD), unpG n last out s = (m, 0) → ∃ l, m = out ++ l ∧ l.length = n ∧ entGo last l = 0 ∧ entOk l ∧ s = l.flatMap entB
  | 0, last, out, s, m, h => by
    rw [unpG_zero] at h
    split at h
    · rename_i hs
      cases h
      exact ⟨[], by simp, rfl, rfl, by intro x hx; simp at hx, hs⟩
    · cases h
  | n + 1, last, out, s, m, h => by
    rw [unpG_succ] at h
    split at h
    · rename_i he
      have := congrArg Prod.snd h
      exact absurd this he
    · rename_i he
      have he : entE last s = 0 := by simpa using he
      obtain ⟨h1, h2, h3⟩ := entE_zero he
      obtain ⟨l, b1, b2, b3, b4, b5⟩ := unpG_only n (idR s) (out ++ [⟨idR s, (rowR (atR s)).1⟩]) (beh s) m h
      obtain ⟨c1, c2, c3⟩ := numR_only s h1
      obtain ⟨d1, d2, d3, d4⟩ := rowR_only (s := atR s) (l := (rowR (atR s)).1) (k := (rowR (atR s)).2.1) (by rw [← h3])
      have hf := numR_fits s
      have hzz : (zig (idR s)).toNat = (numR s).1 := by
        show (zig (zag ((numR s).1 : Int))).toNat = _
        rw [zig_zag _ (by omega), Int.toNat_natCast]
      have hok : okInt (idR s) := zag_bd _ (by omega) (by omega)
      refine ⟨⟨idR s, (rowR (atR s)).1⟩ :: l, by rw [b1]; simp, by simp [b2], ?_, ?_, ?_⟩
      · show (if riseE (idR s) last ≠ 0 then riseE (idR s) last else if rowChk (rowR (atR s)).1 ≠ 0 then rowChk (rowR (atR s)).1 else entGo (idR s) l) = 0
        rw [if_neg (not_not_intro h2), if_neg (not_not_intro d1)]
        exact b3
      · intro x hx
        rcases List.mem_cons.1 hx with rfl | hx
        · exact ⟨hok, d2⟩
        · exact b4 x hx
      · rw [List.flatMap_cons, ← b5]
        show s = (numB 9 (zig (idR s)).toNat ++ rowW (rowR (atR s)).1) ++ beh s
        rw [hzz, c3, ← d4, List.append_assoc, List.take_append_drop, List.take_append_drop]
theorem unpR_only {s : List UInt8} {m : List EntryD} (h : unpR s = (m, 0)) : entChk m = 0 ∧ entOk m ∧ entW m = s ∧ s.length ≤ 245 := by
  unfold unpR at h
  split at h
  · cases h
  · rename_i g1
    split at h
    · rename_i g2
      have := congrArg Prod.snd h
      simp only at this
      omega
    · rename_i g2
      split at h
      · cases h
      · rename_i g3
        obtain ⟨l, b1, b2, b3, b4, b5⟩ := unpG_only _ _ _ _ _ h
        rw [List.nil_append] at b1
        subst b1
        obtain ⟨c1, c2, c3⟩ := numR_only s (by omega)
        refine ⟨?_, b4, ?_, by omega⟩
        · unfold entChk
          rw [if_neg (by omega)]
          exact b3
        · unfold entW
          rw [b2, c3, ← b5, List.take_append_drop]
theorem unpG_fail : ∀ (n : Nat) (last : Int) (out : List EntryD) (s : List UInt8), (unpG n last out s).2 ≠ 0 → (unpG n last out s).1 = []
  | 0, last, out, s, h => by
    rw [unpG_zero] at h ⊢
    split
    · rename_i q; rw [if_pos q] at h; exact absurd rfl h
    · rfl
  | n + 1, last, out, s, h => by
    rw [unpG_succ] at h ⊢
    split
    · rfl
    · rename_i q
      rw [if_neg q] at h
      exact unpG_fail n _ _ _ h
theorem unpR_fail {s : List UInt8} (h : (unpR s).2 ≠ 0) : (unpR s).1 = [] := by
  unfold unpR at h ⊢
  split
  · rfl
  · rename_i g1
    split
    · rfl
    · rename_i g2
      split
      · rfl
      · rename_i g3
        rw [if_neg g1, if_neg g2, if_neg g3] at h
        exact unpG_fail _ _ _ _ h
end Go.Proofs.Ytcecopdkaalfkaa.Pm
