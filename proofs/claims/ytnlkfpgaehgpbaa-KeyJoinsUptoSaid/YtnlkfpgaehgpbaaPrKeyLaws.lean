/- keys of rows: back, only, order -/
import Derived.Test.YtnlkfpgaehgpbaaPrLaws
namespace Go.Proofs.Ytnlkfpgaehgpbaa.Pm
open Go.RowKit K NumP NumW NumRd NumZ NumL
set_option linter.unusedVariables false
set_option linter.unusedSimpArgs false
set_option maxRecDepth 100000

theorem unb_back : ∀ (t q : List UInt8), unb (escK t ++ 0 :: 1 :: q) = some (t, q)
  | [], q => by
    show unb (0 :: 1 :: q) = _
    rw [unb_two, if_neg (by decide), if_pos rfl]
  | b :: t, q => by
    have ih := unb_back t q
    show unb ((if b = 0 then 0 :: 255 :: escK t else b :: escK t) ++ 0 :: 1 :: q) = _
    by_cases hb : b = 0
    · rw [if_pos hb]
      show unb (0 :: 255 :: (escK t ++ 0 :: 1 :: q)) = _
      rw [unb_two, if_neg (by decide), if_neg (by decide), if_pos rfl, ih, hb]
    · rw [if_neg hb]
      show unb (b :: (escK t ++ 0 :: 1 :: q)) = _
      cases h : escK t ++ 0 :: 1 :: q with
      | nil => simp at h
      | cons c r =>
        rw [unb_two, if_pos hb, ← h, ih]
theorem unb_only : ∀ (l t q : List UInt8), unb l = some (t, q) → l = escK t ++ 0 :: 1 :: q
  | [], _, _, h => by cases h
  | [_], _, _, h => by cases h
  | a :: b :: r, t, q, h => by
    rw [unb_two] at h
    split at h
    · rename_i ha
      split at h
      · rename_i t' q' he
        have ih := unb_only (b :: r) t' q' he
        cases h
        show _ = (if a = 0 then 0 :: 255 :: escK t' else a :: escK t') ++ _
        rw [if_neg ha, ih]; rfl
      · cases h
    · rename_i ha
      have ha : a = 0 := by simpa using ha
      subst ha
      split at h
      · rename_i hb
        cases h
        rw [hb]; rfl
      · split at h
        · rename_i hb
          split at h
          · rename_i t' q' he
            have ih := unb_only r t' q' he
            cases h
            rw [hb]
            show _ = 0 :: 255 :: (escK t' ++ _)
            rw [← ih]
          · cases h
        · cases h
/-! ### eight bytes -/
theorem fold8_mono : ∀ {l m : List UInt8} {x y : Nat}, l.length = m.length → x < y → fold8 x l < fold8 y m
  | [], [], x, y, _, h => h
  | a :: l, b :: m, x, y, hl, h => by
    have ha := UInt8.toNat_lt a
    have hb := UInt8.toNat_lt b
    exact fold8_mono (l := l) (m := m) (by simpa using hl) (by omega)
  | [], _ :: _, _, _, hl, _ => by simp at hl
  | _ :: _, [], _, _, hl, _ => by simp at hl
theorem b8_fold (n : Nat) (h : n < 18446744073709551616) : fold8 0 (b8 (n : Int)) = n := by
  have e : ∀ k : Int, ((by1 k).toNat : Int) = k % 256 := by1_int
  have h0 := e ((n : Int) / 2 ^ 56)
  have h1 := e ((n : Int) / 2 ^ 48)
  have h2 := e ((n : Int) / 2 ^ 40)
  have h3 := e ((n : Int) / 2 ^ 32)
  have h4 := e ((n : Int) / 2 ^ 24)
  have h5 := e ((n : Int) / 2 ^ 16)
  have h6 := e ((n : Int) / 2 ^ 8)
  have h7 := e (n : Int)
  simp only [fold8, b8]
  simp only [show (2 : Int) ^ 56 = 72057594037927936 from rfl, show (2 : Int) ^ 48 = 281474976710656 from rfl, show (2 : Int) ^ 40 = 1099511627776 from rfl, show (2 : Int) ^ 32 = 4294967296 from rfl, show (2 : Int) ^ 24 = 16777216 from rfl, show (2 : Int) ^ 16 = 65536 from rfl, show (2 : Int) ^ 8 = 256 from rfl] at *
  omega
theorem fold8_inj : ∀ {l m : List UInt8} {x : Nat}, l.length = m.length → fold8 x l = fold8 x m → l = m
  | [], [], _, _, _ => rfl
  | a :: l, b :: m, x, hl, h => by
    have hl' : l.length = m.length := by simpa using hl
    have h : fold8 (x * 256 + a.toNat) l = fold8 (x * 256 + b.toNat) m := h
    rcases Nat.lt_trichotomy a.toNat b.toNat with hab | hab | hab
    · have := fold8_mono hl' (show x * 256 + a.toNat < x * 256 + b.toNat by omega); omega
    · have e : a = b := UInt8.toNat_inj.1 hab
      subst e
      rw [fold8_inj hl' h]
    · have := fold8_mono hl'.symm (show x * 256 + b.toNat < x * 256 + a.toNat by omega); omega
  | [], _ :: _, _, hl, _ => by simp at hl
  | _ :: _, [], _, hl, _ => by simp at hl
theorem dec8_b8 {n : Int} (h : okInt n) : dec8 (b8 (n + 9223372036854775808)) = n := by
  obtain ⟨u, hu⟩ : ∃ u : Nat, n + 9223372036854775808 = u := ⟨(n + 9223372036854775808).toNat, by have := h.1; omega⟩
  have := h.2
  unfold dec8
  rw [hu, b8_fold u (by omega)]
  omega
theorem fold8_lt8 {l : List UInt8} (h : l.length = 8) : fold8 0 l < 18446744073709551616 := by
  have := fold8_lt l
  rw [h] at this
  have e : (256 : Nat) ^ 8 = 18446744073709551616 := by decide
  omega
theorem b8_dec8 {l : List UInt8} (h : l.length = 8) : b8 (dec8 l + 9223372036854775808) = l := by
  have hl := fold8_lt8 h
  refine fold8_inj (x := 0) (by rw [h]; rfl) ?_
  rw [show dec8 l + 9223372036854775808 = ((fold8 0 l : Nat) : Int) by unfold dec8; omega]
  exact b8_fold _ hl
theorem dec8_ok {l : List UInt8} (h : l.length = 8) : okInt (dec8 l) := by
  have hl := fold8_lt8 h
  unfold dec8 okInt
  omega
/-! ### a value's key -/
theorem unkR_back {v : ValueD} (h : vChk v = 0) (hN : okInt v.N) (q : List UInt8) : unkR (kW v ++ q) = (v, q, true) := by
  obtain ⟨k1, k2, k3, k4⟩ := vChk_inv h
  obtain ⟨kd, n, s⟩ := v
  simp only at k1 k2 k3 k4 hN
  have kk : kd = 0 ∨ kd = 1 ∨ kd = 2 ∨ kd = 3 := by omega
  rcases kk with rfl | rfl | rfl | rfl
  · rw [k2 (by decide), k3 (by decide)]; rfl
  · rw [k3 (by decide)]
    show unkR (16 :: (b8 (n + 9223372036854775808) ++ q)) = _
    rw [unkR_cons, if_neg (by decide), if_pos rfl, if_neg (by rw [List.length_append]; show ¬ 8 + _ < 8; omega)]
    have l8 : (b8 (n + 9223372036854775808)).length = 8 := rfl
    rw [List.take_left' l8, List.drop_left' l8, dec8_b8 hN]
  · rw [k2 (by decide)]
    show unkR (32 :: (escK s ++ [0, 1] ++ q)) = _
    rw [unkR_cons, if_neg (by decide), if_neg (by decide), if_pos rfl]
    have e : unbR (escK s ++ [0, 1] ++ q) = (s, q, true) := by unfold unbR; rw [List.append_assoc]; show (match unb (escK s ++ 0 :: 1 :: q) with | some (t, q) => (t, q, true) | none => ([], [], false)) = _; rw [unb_back]
    rw [e]
  · rw [k2 (by decide)]
    show unkR (48 :: (escK s ++ [0, 1] ++ q)) = _
    rw [unkR_cons, if_neg (by decide), if_neg (by decide), if_neg (by decide), if_pos rfl]
    have e : unbR (escK s ++ [0, 1] ++ q) = (s, q, true) := by unfold unbR; rw [List.append_assoc]; show (match unb (escK s ++ 0 :: 1 :: q) with | some (t, q) => (t, q, true) | none => ([], [], false)) = _; rw [unb_back]
    rw [e]
theorem unbR_only {l : List UInt8} (h : (unbR l).2.2 = true) : l = escK (unbR l).1 ++ [0, 1] ++ (unbR l).2.1 := by
  unfold unbR at h ⊢
  split
  · rename_i t q he
    have := unb_only l t q he
    simp only
    rw [this]; simp
  · rename_i he
    rw [he] at h; cases h
theorem unkR_only {s : List UInt8} (hs : s ≠ []) (h : (unkR s).2.2 = true) (h16 : (unkR s).1.S.length ≤ 16) : s = kW (unkR s).1 ++ (unkR s).2.1 ∧ vChk (unkR s).1 = 0 ∧ okInt (unkR s).1.N := by
  cases s with
  | nil => exact absurd rfl hs
  | cons tag r =>
    rw [unkR_cons] at h h16 ⊢
    by_cases c5 : tag = 5
    · rw [if_pos c5]; subst c5
      exact ⟨rfl, (show vChk z0 = 0 by decide), (show okInt z0.N from ⟨by decide, by decide⟩)⟩
    · rw [if_neg c5] at h h16 ⊢
      by_cases c16 : tag = 16
      · rw [if_pos c16] at h h16 ⊢
        by_cases h8 : r.length < 8
        · rw [if_pos h8] at h; cases h
        · rw [if_neg h8]
          subst c16
          have l8 : (r.take 8).length = 8 := by rw [List.length_take]; omega
          refine ⟨?_, by simp [vChk], dec8_ok l8⟩
          show _ = 16 :: (b8 (dec8 (r.take 8) + 9223372036854775808) ++ r.drop 8)
          rw [b8_dec8 l8, List.take_append_drop]
      · rw [if_neg c16] at h h16 ⊢
        have zn : okInt 0 := ⟨by decide, by decide⟩
        by_cases c32 : tag = 32
        · rw [if_pos c32] at h h16 ⊢
          have e := unbR_only h
          subst c32
          refine ⟨?_, ?_, zn⟩
          · show _ = 32 :: ((escK (unbR r).1 ++ [0, 1]) ++ (unbR r).2.1)
            rw [← e]
          · unfold vChk
            simp only at h16 ⊢
            rw [if_neg (by omega), if_neg (by omega), if_neg (by omega)]
        · rw [if_neg c32] at h h16 ⊢
          by_cases c48 : tag = 48
          · rw [if_pos c48] at h h16 ⊢
            have e := unbR_only h
            subst c48
            refine ⟨?_, ?_, zn⟩
            · show _ = 48 :: ((escK (unbR r).1 ++ [0, 1]) ++ (unbR r).2.1)
              rw [← e]
            · unfold vChk
              simp only at h16 ⊢
              rw [if_neg (by omega), if_neg (by omega), if_neg (by omega)]
          · rw [if_neg c48] at h; cases h
theorem kW_ne (v : ValueD) : kW v ≠ [] := by unfold kW; simp
theorem ukGo_back : ∀ (l out : List ValueD), (∀ v ∈ l, vChk v = 0) → (∀ v ∈ l, okInt v.N) → out.length + l.length ≤ 8 → ukGo (9 - out.length) out (keyW l) = (out ++ l, 0)
  | [], out, _, _, hl => by
    rw [show 9 - out.length = (8 - out.length) + 1 by simp at hl; omega]
    unfold ukGo
    rw [if_pos (show keyW [] = [] from rfl), List.append_nil]
  | v :: l, out, h, hN, hl => by
    simp only [List.length_cons] at hl
    have hv := h v (List.mem_cons_self ..)
    rw [show 9 - out.length = (8 - out.length) + 1 by omega]
    unfold ukGo
    have e : keyW (v :: l) = kW v ++ keyW l := by unfold keyW; rw [List.flatMap_cons]
    have hu := unkR_back hv (hN v (List.mem_cons_self ..)) (keyW l)
    have h16 := (vChk_inv hv).2.2.2
    rw [e, if_neg (by simp [kW_ne]), if_neg (by omega), hu]
    simp only
    rw [if_neg (by simp), if_neg (by omega)]
    have := ukGo_back l (out ++ [v]) (fun x hx => h x (List.mem_cons_of_mem _ hx)) (fun x hx => hN x (List.mem_cons_of_mem _ hx)) (by simp; omega)
    simp only [List.length_append, List.length_singleton] at this
    rw [show 9 - (out.length + 1) = 8 - out.length by omega] at this
    rw [this]; simp
theorem ukR_back {l : List ValueD} (h : rowChk l = 0) (hN : ∀ v ∈ l, okInt v.N) : ukR (keyW l) = (l, 0) := by
  obtain ⟨h8, hv⟩ := rowChk_ok h
  have := ukGo_back l [] hv hN (by simpa using h8)
  simpa [ukR] using this
theorem ukGo_only : ∀ (f : Nat) (out : List ValueD) (s : List UInt8) (m : List ValueD), f + out.length = 9 → 1 ≤ f → ukGo f out s = (m, 0) → ∃ l, m = out ++ l ∧ s = keyW l ∧ (∀ v ∈ l, vChk v = 0 ∧ okInt v.N) ∧ m.length ≤ 8
  | 0, _, _, _, _, h, _ => by omega
  | f + 1, out, s, m, hf, _, h => by
    unfold ukGo at h
    split at h
    · rename_i hs
      cases h
      exact ⟨[], by simp, by rw [hs]; rfl, by simp, by omega⟩
    · rename_i hs
      split at h
      · cases h
      · rename_i h8
        split at h
        · cases h
        · rename_i hb
          split at h
          · cases h
          · rename_i h16
            obtain ⟨a1, a2, a3⟩ := unkR_only hs (by simpa using hb) (by omega)
            obtain ⟨l, b1, b2, b3, b4⟩ := ukGo_only f (out ++ [(unkR s).1]) (unkR s).2.1 m (by simp; omega) (by omega) h
            refine ⟨(unkR s).1 :: l, by rw [b1]; simp, ?_, ?_, b4⟩
            · unfold keyW
              rw [List.flatMap_cons]
              conv => lhs; rw [a1, b2]
              rfl
            · intro v hv
              rcases List.mem_cons.1 hv with rfl | hv
              · exact ⟨a2, a3⟩
              · exact b3 v hv
theorem ukR_only {s : List UInt8} {m : List ValueD} (h : ukR s = (m, 0)) : rowChk m = 0 ∧ (∀ v ∈ m, okInt v.N) ∧ keyW m = s := by
  obtain ⟨l, h1, h2, h3, h4⟩ := ukGo_only 9 [] s m rfl (by decide) h
  rw [List.nil_append] at h1
  subst h1
  refine ⟨?_, fun v hv => (h3 v hv).2, h2.symm⟩
  unfold rowChk
  rw [if_neg (by omega)]
  exact vChkAll_of fun v hv => (h3 v hv).1
theorem ukGo_fail : ∀ (f : Nat) (out : List ValueD) (s : List UInt8), (ukGo f out s).2 ≠ 0 → (ukGo f out s).1 = []
  | 0, out, s, h => absurd rfl h
  | f + 1, out, s, h => by
    unfold ukGo at h ⊢
    (repeat' split)
    · rename_i q; rw [if_pos q] at h; exact absurd rfl h
    · rfl
    · rfl
    · rfl
    · rename_i q1 q2 q3 q4
      rw [if_neg q1, if_neg q2, if_neg q3, if_neg q4] at h
      exact ukGo_fail f _ _ h
end Go.Proofs.Ytnlkfpgaehgpbaa.Pm
