/- rows as bytes: back, only, cut -/
import Derived.Test.YtcecopdkaalfkaaPrWrite
namespace Go.Proofs.Ytcecopdkaalfkaa.Pm
open Go.RowKit K NumP NumW NumRd NumZ NumL
set_option linter.unusedVariables false
set_option linter.unusedSimpArgs false
set_option maxRecDepth 100000

theorem by1_small {k : Int} (h : 0 ≤ k ∧ k ≤ 3) : ((by1 k).toNat : Int) = k := by rw [by1_int]; omega
theorem zigN {n : Int} (h : okInt n) : (zig n).toNat < 18446744073709551616 ∧ (((zig n).toNat : Nat) : Int) = zig n := by
  have := zig_bd n h.1 h.2
  omega
theorem vRd_back {v : ValueD} (h : vChk v = 0) (hN : okInt v.N) (q : List UInt8) : vRd (vW v ++ q) = (v, (vW v).length, 0) := by
  obtain ⟨k1, k2, k3, k4⟩ := vChk_inv h
  obtain ⟨kd, n, s⟩ := v
  simp only at k1 k2 k3 k4 hN
  have hk := by1_small k1
  unfold vW
  dsimp only
  rw [List.cons_append, vRd_cons, if_neg (by omega)]
  by_cases c0 : kd = 0
  · subst c0
    rw [if_pos (by omega), k2 (by decide), k3 (by decide), if_neg (by decide), if_neg (by decide)]
    rfl
  · rw [if_neg (by omega)]
    by_cases c1 : kd = 1
    · subst c1
      rw [if_pos (by omega), if_pos rfl, numR_back _ (zigN hN).1, if_neg (by simp), (zigN hN).2, zag_zig, k3 (by decide)]
      simp [Nat.add_comm]
    · rw [if_neg (by omega), if_neg c1, if_pos (show 2 ≤ kd by omega), List.append_assoc, numR_back _ (by omega), if_neg (by simp)]
      simp only
      rw [if_neg (by omega), if_neg (by simp only [List.length_append]; omega), List.drop_left, List.take_left, hk, k2 c1]
      simp only [List.length_cons, List.length_append]
      congr 2
      omega
theorem rowGo_back : ∀ {l : List ValueD}, (∀ v ∈ l, vChk v = 0) → (∀ v ∈ l, okInt v.N) → ∀ q : List UInt8, rowGo l.length (l.flatMap vW ++ q) = (l, (l.flatMap vW).length, 0)
  | [], _, _, q => rfl
  | v :: l, h, hN, q => by
    have h1 := vRd_back (h v (List.mem_cons_self ..)) (hN v (List.mem_cons_self ..)) (l.flatMap vW ++ q)
    have h2 := rowGo_back (l := l) (fun x hx => h x (List.mem_cons_of_mem _ hx)) (fun x hx => hN x (List.mem_cons_of_mem _ hx)) q
    rw [List.flatMap_cons, List.append_assoc, List.length_cons]
    unfold rowGo
    rw [h1]
    simp only [List.drop_left]
    rw [h2]
    simp
theorem rowR_back {l : List ValueD} (h : rowChk l = 0) (hN : ∀ v ∈ l, okInt v.N) (q : List UInt8) : rowR (rowW l ++ q) = (l, (rowW l).length, 0) := by
  obtain ⟨h8, hv⟩ := rowChk_ok h
  unfold rowR rowW
  rw [List.append_assoc, numR_back _ (by omega)]
  simp only
  rw [if_neg (by simp), if_neg (by omega), List.drop_left, rowGo_back hv hN]
  unfold fin
  simp
/-! ### what is read is written as it stood -/
theorem vRd_only {s : List UInt8} {v : ValueD} {k : Nat} (h : vRd s = (v, k, 0)) : vChk v = 0 ∧ okInt v.N ∧ k ≤ s.length ∧ s.take k = vW v := by
  cases s with
  | nil => have q := congrArg (fun x => x.2.2) h; cases q
  | cons b r =>
    rw [vRd_cons] at h
    have hb := u8_lt b
    split at h
    · cases h
    · split at h
      · rename_i h1 h2
        cases h
        refine ⟨by decide, ⟨by decide, by decide⟩, by simp, ?_⟩
        have e : b = 0 := UInt8.toNat_inj.1 h2
        subst e
        rfl
      · split at h
        · rename_i h1 h2 h3
          split at h
          · rename_i g; have q := congrArg (fun x => x.2.2) h; dsimp only at q; omega
          · rename_i g
            have g : (numR r).2.2 = 0 := by omega
            have ho := numR_only r g
            have hf := numR_fits r
            cases h
            have zb := zag_bd ((numR r).1 : Int) (by omega) (by omega)
            have e : b = 1 := UInt8.toNat_inj.1 h3
            subst e
            refine ⟨?_, zb, by simp only [List.length_cons]; omega, ?_⟩
            · unfold vChk; simp
            · unfold vW
              rw [if_pos rfl, zig_zag _ (by omega), Int.toNat_natCast, ho.2.2, show 1 + (numR r).2.1 = (numR r).2.1 + 1 by omega, List.take_succ_cons]
              rfl
        · rename_i h1 h2 h3
          split at h
          · rename_i g; have q := congrArg (fun x => x.2.2) h; dsimp only at q; omega
          · rename_i g
            have g : (numR r).2.2 = 0 := by omega
            have ho := numR_only r g
            split at h
            · cases h
            · split at h
              · cases h
              · rename_i g1 g2
                cases h
                have hkd : (b.toNat : Int) = 2 ∨ (b.toNat : Int) = 3 := by omega
                have hS : ((r.drop (numR r).2.1).take (numR r).1).length = (numR r).1 := by
                  rw [List.length_take, List.length_drop]; omega
                have eb : by1 (b.toNat : Int) = b := by1_toNat b
                refine ⟨?_, ⟨by show (-9223372036854775808 : Int) ≤ 0; decide, by show (0 : Int) ≤ 9223372036854775807; decide⟩, by simp only [List.length_cons]; omega, ?_⟩
                · unfold vChk
                  simp only [hS]
                  rw [if_neg (by omega), if_neg (by omega), if_neg (by omega)]
                · unfold vW
                  simp only [hS]
                  rw [if_neg (by omega), if_pos (by omega), ho.2.2, eb, show 1 + (numR r).2.1 + (numR r).1 = ((numR r).2.1 + (numR r).1) + 1 by omega, List.take_succ_cons, List.take_add]
theorem rowGo_only : ∀ {n : Nat} {s : List UInt8} {l : List ValueD} {k : Nat}, rowGo n s = (l, k, 0) → l.length = n ∧ (∀ v ∈ l, vChk v = 0 ∧ okInt v.N) ∧ k ≤ s.length ∧ s.take k = l.flatMap vW
  | 0, s, l, k, h => by cases h; simp
  | n + 1, s, l, k, h => by
    unfold rowGo at h
    split at h
    · rename_i g; have q := congrArg (fun x => x.2.2) h; exact absurd q g
    · rename_i g
      split at h
      · rename_i g2; have q := congrArg (fun x => x.2.2) h; exact absurd q g2
      · rename_i g2
        have e1 : vRd s = ((vRd s).1, (vRd s).2.1, 0) := by
          have : (vRd s).2.2 = 0 := by omega
          rw [← this]
        have e2 : rowGo n (s.drop (vRd s).2.1) = ((rowGo n (s.drop (vRd s).2.1)).1, (rowGo n (s.drop (vRd s).2.1)).2.1, 0) := by
          have : (rowGo n (s.drop (vRd s).2.1)).2.2 = 0 := by omega
          rw [← this]
        obtain ⟨a1, a2, a3, a4⟩ := vRd_only e1
        obtain ⟨b1, b2, b3, b4⟩ := rowGo_only e2
        cases h
        rw [List.length_drop] at b3
        refine ⟨by rw [List.length_cons, b1], fun v hv => ?_, by omega, ?_⟩
        · rcases List.mem_cons.1 hv with rfl | hv
          · exact ⟨a1, a2⟩
          · exact b2 v hv
        · rw [List.take_add, a4, b4, List.flatMap_cons]
theorem vChkAll_of {l : List ValueD} (h : ∀ v ∈ l, vChk v = 0) : vChkAll l = 0 := vChkAll_ok.2 h
theorem rowR_only {s : List UInt8} {l : List ValueD} {k : Nat} (h : rowR s = (l, k, 0)) : rowChk l = 0 ∧ (∀ v ∈ l, okInt v.N) ∧ k ≤ s.length ∧ s.take k = rowW l := by
  obtain ⟨h1, h2, h3⟩ := rowR_ok h
  have ho := numR_only s h1
  unfold fin at h3
  split at h3
  · rename_i g; have q := congrArg (fun x => x.2.2) h3; exact absurd q g
  · rename_i g
    have e2 : rowGo (numR s).1 (s.drop (numR s).2.1) = ((rowGo (numR s).1 (s.drop (numR s).2.1)).1, (rowGo (numR s).1 (s.drop (numR s).2.1)).2.1, 0) := by
      have : (rowGo (numR s).1 (s.drop (numR s).2.1)).2.2 = 0 := by omega
      rw [← this]
    obtain ⟨b1, b2, b3, b4⟩ := rowGo_only e2
    rw [List.nil_append] at h3
    cases h3
    rw [List.length_drop] at b3
    refine ⟨?_, fun v hv => (b2 v hv).2, by omega, ?_⟩
    · unfold rowChk
      rw [if_neg (by omega)]
      exact vChkAll_of fun v hv => (b2 v hv).1
    · unfold rowW
      rw [List.take_add, b4, b1, ho.2.2]
/-! ### what is cut off ends too early -/
theorem vRd_cut {v : ValueD} (h : vChk v = 0) (hN : okInt v.N) {k : Nat} (hk : k < (vW v).length) : (vRd ((vW v).take k)).2.2 = 5 := by
  obtain ⟨k1, k2, k3, k4⟩ := vChk_inv h
  obtain ⟨kd, n, s⟩ := v
  simp only at k1 k2 k3 k4 hN
  have hb := by1_small k1
  unfold vW at hk ⊢
  dsimp only at hk ⊢
  cases k with
  | zero => rfl
  | succ k =>
    rw [List.take_succ_cons, vRd_cons, if_neg (by omega)]
    rw [List.length_cons] at hk
    by_cases c1 : kd = 1
    · subst c1
      rw [if_pos rfl] at hk ⊢
      rw [if_neg (by omega), if_pos (by omega), numR_cut _ _ (zigN hN).1 (by omega)]
      simp
    · rw [if_neg c1] at hk ⊢
      by_cases c2 : 2 ≤ kd
      · rw [if_pos c2] at hk ⊢
        rw [if_neg (by omega), if_neg (by omega)]
        rw [List.length_append] at hk
        by_cases hl : k < (numB 9 s.length).length
        · rw [List.take_append_of_le_length (by omega), numR_cut _ _ (by omega) hl]
          simp
        · have e : (numB 9 s.length ++ s).take k = numB 9 s.length ++ s.take (k - (numB 9 s.length).length) := by
            rw [List.take_append, List.take_of_length_le (by omega)]
          rw [e, numR_back _ (by omega), if_neg (by simp)]
          simp only
          rw [if_neg (by omega), if_pos (by simp only [List.length_append, List.length_take]; omega)]
      · rw [if_neg c2] at hk
        simp at hk
theorem rowGo_cut : ∀ {l : List ValueD}, (∀ v ∈ l, vChk v = 0) → (∀ v ∈ l, okInt v.N) → ∀ {k : Nat}, k < (l.flatMap vW).length → (rowGo l.length ((l.flatMap vW).take k)).2.2 = 5
  | [], _, _, k, hk => by simp at hk
  | v :: l, h, hN, k, hk => by
    have hv := h v (List.mem_cons_self ..)
    have hn := hN v (List.mem_cons_self ..)
    rw [List.flatMap_cons] at hk ⊢
    rw [List.length_append] at hk
    rw [List.length_cons]
    unfold rowGo
    by_cases hl : k < (vW v).length
    · rw [List.take_append_of_le_length (by omega)]
      have := vRd_cut hv hn hl
      rw [if_pos (by omega)]
      exact this
    · have e : (vW v ++ l.flatMap vW).take k = vW v ++ (l.flatMap vW).take (k - (vW v).length) := by
        rw [List.take_append, List.take_of_length_le (by omega)]
      rw [e, vRd_back hv hn]
      simp only [List.drop_left]
      have := rowGo_cut (l := l) (fun x hx => h x (List.mem_cons_of_mem _ hx)) (fun x hx => hN x (List.mem_cons_of_mem _ hx)) (k := k - (vW v).length) (by omega)
      rw [if_neg (by simp), if_pos (by omega)]
      exact this
theorem rowR_cut {l : List ValueD} (h : rowChk l = 0) (hN : ∀ v ∈ l, okInt v.N) {k : Nat} (hk : k < (rowW l).length) : (rowR ((rowW l).take k)).2.2 = 5 := by
  obtain ⟨h8, hv⟩ := rowChk_ok h
  unfold rowW at hk ⊢
  unfold rowR
  rw [List.length_append] at hk
  by_cases hl : k < (numB 9 l.length).length
  · rw [List.take_append_of_le_length (by omega), numR_cut _ _ (by omega) hl]
    simp
  · have e : (numB 9 l.length ++ l.flatMap vW).take k = numB 9 l.length ++ (l.flatMap vW).take (k - (numB 9 l.length).length) := by
      rw [List.take_append, List.take_of_length_le (by omega)]
    rw [e, numR_back _ (by omega), if_neg (by simp)]
    simp only
    rw [if_neg (by omega), List.drop_left]
    have := rowGo_cut hv hN (k := k - (numB 9 l.length).length) (by omega)
    unfold fin
    rw [if_pos (by omega)]
    exact this
end Go.Proofs.Ytcecopdkaalfkaa.Pm
