/- plain laws on pages -/
import Derived.Test.YthenhfhffnjflaaDoorPgOf
namespace Go.Proofs.YthenhfhffnjflaaDoor.Pm
open Go.RowKit SumP SumW
set_option linter.unusedVariables false
set_option linter.unusedSimpArgs false

theorem two_back {n : Int} (h0 : 0 ≤ n) (h1 : n < 65536) : ((by1 (n / 256)).toNat : Int) * 256 + ((by1 n).toNat : Int) = n := by
  rw [by1_int, by1_int]; omega
theorem seal_take (x : PageD) (h : x.Body.length ≤ 245) : (sealL x).take 252 = headL x := by
  unfold sealL; exact List.take_left' (headL_len h)
theorem seal_drop (x : PageD) (h : x.Body.length ≤ 245) : (sealL x).drop 252 = sumL (headL x) := by
  unfold sealL; exact List.drop_left' (headL_len h)
theorem seal_summed (x : PageD) (h : x.Body.length ≤ 245) : summedB (sealL x) = true := by
  unfold summedB; rw [seal_take x h, seal_drop x h]; simp
theorem seal_n0 (x : PageD) : n2 (sealL x) 0 = ((by1 (x.No / 256)).toNat : Int) * 256 + ((by1 x.No).toNat : Int) := rfl
theorem seal_k (x : PageD) : (sealL x).getD 2 0 = by1 x.Kind := rfl
theorem seal_n3 (x : PageD) : n2 (sealL x) 3 = ((by1 (x.Owner / 256)).toNat : Int) * 256 + ((by1 x.Owner).toNat : Int) := rfl
theorem seal_n5 (x : PageD) : n2 (sealL x) 5 = ((by1 ((x.Body.length : Int) / 256)).toNat : Int) * 256 + ((by1 (x.Body.length : Int)).toNat : Int) := rfl
theorem seal_body (x : PageD) : (sealL x).drop 7 = x.Body ++ List.replicate (245 - x.Body.length) 0 ++ sumL (headL x) := rfl
theorem pgChk_head {x : PageD} (h : pgChk x x.Body.length = 0) : pgChk { x with Body := [] } 0 = 0 := by
  unfold pgChk at *
  split at h
  · omega
  split at h
  · omega
  split at h
  · omega
  split at h
  · omega
  simp only
  rw [if_neg (by assumption), if_neg (by assumption), if_neg (by assumption), if_neg (by decide)]
theorem seal_facts {x : PageD} (h : pgChk x x.Body.length = 0) : n2 (sealL x) 0 = x.No ∧ n2 (sealL x) 3 = x.Owner ∧ n2 (sealL x) 5 = x.Body.length ∧ (((sealL x).getD 2 0).toNat : Int) = x.Kind := by
  obtain ⟨c1, c2, c3, c4, c5, c6, c7⟩ := chk_ok h
  rw [seal_n0, seal_n3, seal_n5, seal_k, two_back c1 (by omega), two_back c5 (by omega), two_back (by omega) (by omega), by1_int]
  omega
theorem open_seal {x : PageD} (h : pgChk x x.Body.length = 0) : openE x.No (sealL x) = 0 ∧ openP x.No (sealL x) = x := by
  obtain ⟨c1, c2, c3, c4, c5, c6, c7⟩ := chk_ok h
  obtain ⟨f1, f2, f3, f4⟩ := seal_facts h
  have hh : pgHead x.No (sealL x) = { x with Body := [] } := by unfold pgHead; rw [f2, f4]
  have hE : openE x.No (sealL x) = 0 := by
    rw [openE_end (by omega) (sealL_len c7) ⟨seal_summed x c7, f1⟩ (by rw [hh]; exact pgChk_head h) (by rw [f3]; omega), if_pos ?_]
    unfold restL
    rw [f3, Int.toNat_natCast, ← List.drop_drop, seal_body, List.append_assoc, List.drop_left, List.take_left' (by simp)]
    unfold zerosB
    rw [List.all_eq_true]
    exact fun b hb => decide_eq_true (List.mem_replicate.1 hb).2
  refine ⟨hE, ?_⟩
  unfold openP
  rw [if_pos hE, hh, f3, Int.toNat_natCast, seal_body, List.append_assoc, List.take_left' rfl]
theorem open_moved {x : PageD} (h : pgChk x x.Body.length = 0) {no : Int} (h1 : ¬ (no < 0 ∨ 31 < no)) (h2 : no ≠ x.No) : openE no (sealL x) = 11 := by
  obtain ⟨c1, c2, c3, c4, c5, c6, c7⟩ := chk_ok h
  obtain ⟨f1, f2, f3, f4⟩ := seal_facts h
  exact openE_sum h1 (sealL_len c7) fun e => h2 (by rw [← e.2, f1])
set_option maxRecDepth 1000000 in
theorem blank_summed : summedB (z0 256) = false := by decide +kernel
theorem open_blank (no : Int) : openE no (z0 256) ≠ 0 := by
  by_cases h : no < 0 ∨ 31 < no
  · rw [openE_no h]; decide
  · rw [openE_sum h (by simp) (by rw [blank_summed]; simp)]; decide
theorem open_blank0 : openE 0 (z0 256) = 11 := openE_sum (by decide) (by simp) (by rw [blank_summed]; simp)

/-! ### what is opened is sealed as it stood -/
theorem openE_inv {no : Int} {l : List UInt8} (h : openE no l = 0) :
    ¬ (no < 0 ∨ 31 < no) ∧ l.length = 256 ∧ (summedB l = true ∧ n2 l 0 = no) ∧ pgChk (pgHead no l) 0 = 0 ∧ ¬ 245 < n2 l 5 ∧ zerosB (restL l) = true := by
  by_cases h1 : no < 0 ∨ 31 < no
  · rw [openE_no h1] at h; cases h
  by_cases h2 : l.length = 256
  · by_cases h3 : summedB l = true ∧ n2 l 0 = no
    · by_cases h4 : pgChk (pgHead no l) 0 = 0
      · by_cases h5 : 245 < n2 l 5
        · rw [openE_many h1 h2 h3 h4 h5] at h; cases h
        · rw [openE_end h1 h2 h3 h4 h5] at h
          by_cases h6 : zerosB (restL l) = true
          · exact ⟨h1, h2, h3, h4, h5, h6⟩
          · rw [if_neg h6] at h; cases h
      · rw [openE_chk h1 h2 h3 h4] at h; exact absurd h h4
    · rw [openE_sum h1 h2 h3] at h; cases h
  · rw [openE_len h1 h2] at h; cases h
theorem by1_hi (l : List UInt8) (k : Nat) : by1 (n2 l k / 256) = l.getD k 0 := by
  have h0 := u8_lt (l.getD k 0)
  have h1 := u8_lt (l.getD (k + 1) 0)
  rw [show n2 l k / 256 = ((l.getD k 0).toNat : Int) by unfold n2; omega, by1_toNat]
theorem by1_lo (l : List UInt8) (k : Nat) : by1 (n2 l k) = l.getD (k + 1) 0 := by
  have h1 := u8_lt (l.getD (k + 1) 0)
  have h2 := by1_int (n2 l k)
  refine u8_eq.1 ?_
  rw [h2]; unfold n2; omega
theorem take7 (l : List UInt8) (h : 7 ≤ l.length) : l.take 7 = [l.getD 0 0, l.getD 1 0, l.getD 2 0, l.getD 3 0, l.getD 4 0, l.getD 5 0, l.getD 6 0] := by
  match l, h with
  | a :: b :: c :: d :: e :: f :: g :: l, _ => rfl
theorem seal_open {no : Int} {l : List UInt8} (h : openE no l = 0) : pgChk (openP no l) ((openP no l).Body.length : Int) = 0 ∧ sealL (openP no l) = l ∧ (openP no l).No = no := by
  obtain ⟨h1, h2, h3, h4, h5, h6⟩ := openE_inv h
  have r5 := n2_range l 5
  have hP : openP no l = ⟨no, ((l.getD 2 0).toNat : Int), n2 l 3, (l.drop 7).take (n2 l 5).toNat⟩ := by unfold openP; rw [if_pos h]; rfl
  have hbl : ((l.drop 7).take (n2 l 5).toNat).length = (n2 l 5).toNat := by rw [List.length_take, List.length_drop]; omega
  rw [hP]
  refine ⟨?_, ?_, rfl⟩
  · unfold pgChk pgHead at *
    simp only at h4 ⊢
    rw [hbl]
    split at h4
    · omega
    split at h4
    · omega
    split at h4
    · omega
    rw [if_neg (by assumption), if_neg (by assumption), if_neg (by assumption), if_neg (by omega)]
  · have hh : headL ⟨no, ((l.getD 2 0).toNat : Int), n2 l 3, (l.drop 7).take (n2 l 5).toNat⟩ = l.take 252 := by
      unfold headL
      simp only [hbl]
      rw [show (((n2 l 5).toNat : Nat) : Int) = n2 l 5 by omega, by1_hi l 5, by1_lo l 5, by1_hi l 3, by1_lo l 3, by1_toNat]
      have e0 := by1_hi l 0
      have e1 := by1_lo l 0
      rw [h3.2] at e0 e1
      rw [e0, e1]
      have hz : List.replicate (245 - (n2 l 5).toNat) 0 = restL l := ((zeros_iff (restL l) _ (rest_len h2 h5)).2 h6).symm
      rw [hz]
      have hs : l.take 252 = l.take 7 ++ ((l.drop 7).take (n2 l 5).toNat ++ restL l) := by
        unfold restL
        rw [← List.drop_drop, ← List.take_append_drop 7 (l.take 252), List.take_take, List.drop_take]
        congr 1
        rw [show (252 - 7 : Nat) = (n2 l 5).toNat + (245 - (n2 l 5).toNat) by omega, List.take_add]
      rw [hs, take7 l (by omega)]
    unfold sealL
    rw [hh, ← of_decide_eq_true h3.1, List.take_append_drop]

/-! ### turned bits -/
theorem own_fed : ∀ (n : Nat) (r : W), crcB r ((List.range n).map r.getLsbD) = r >>> n
  | n, r => by
    have h := crcB_fed n 0#32 r
    rw [BitVec.zero_xor] at h
    have h2 := crcB_fed n r 0#32
    rw [BitVec.xor_zero] at h2
    have h3 := crcB_fed n r r
    rw [BitVec.xor_self, crcB_zero] at h3
    have h4 : crcB r ((List.range n).map r.getLsbD) = r >>> n := by
      have := congrArg (fun x => x ^^^ (r >>> n)) h3
      simp only [BitVec.zero_xor, BitVec.xor_assoc, BitVec.xor_self, BitVec.xor_zero] at this
      exact this.symm
    exact h4
def resK : W := ~~~ crcB 0#32 (List.replicate 32 true)
theorem bits_le4 (c : W) : bitsOf (le4 ((c.toNat : Nat) : Int)) = bitsW c := by
  apply List.ext_getElem?
  intro k
  have hlen : (bitsOf (le4 ((c.toNat : Nat) : Int))).length = 32 := by rw [bitsOf_len]; rfl
  by_cases hk : k < 32
  · rw [bitsOf_at _ k (by show k < 8 * 4; omega)]
    unfold bitsW
    rw [List.getElem?_map, List.getElem?_range hk, Option.map_some]
    congr 1
    unfold bitAt
    have hb : ∀ j, j < 4 → ((le4 ((c.toNat : Nat) : Int)).getD j 0).toNat = c.toNat / 2 ^ (8 * j) % 256 := by
      intro j hj
      unfold le4
      have := c.isLt
      match j, hj with
      | 0, _ => have := by1_int ((c.toNat : Nat) : Int); simp only [List.getD_cons_zero]; omega
      | 1, _ => have := by1_int ((c.toNat : Nat) / 256 : Int); simp only [List.getD_cons_succ, List.getD_cons_zero]; omega
      | 2, _ => have := by1_int ((c.toNat : Nat) / 65536 : Int); simp only [List.getD_cons_succ, List.getD_cons_zero]; omega
      | 3, _ => have := by1_int ((c.toNat : Nat) / 16777216 : Int); simp only [List.getD_cons_succ, List.getD_cons_zero]; omega
    rw [hb (k / 8) (by omega), show (256 : Nat) = 2 ^ 8 from rfl, Nat.testBit_mod_two_pow, Nat.testBit_div_two_pow, show decide (k % 8 < 8) = true from decide_eq_true (Nat.mod_lt _ (by decide)), Bool.true_and, show k % 8 + 8 * (k / 8) = k by omega]
    rfl
  · rw [List.getElem?_eq_none (by omega), List.getElem?_eq_none (by rw [bitsW_len]; omega)]
theorem sum_residue (h : List UInt8) : more 0#32 (h ++ sumL h) = resK := by
  rw [← more_joins]
  unfold sumL crcI
  obtain ⟨c, hc⟩ : ∃ c, c = more 0#32 h := ⟨_, rfl⟩
  rw [← hc]
  unfold more crc
  rw [bits_le4]
  unfold resK
  congr 1
  have h1 := crcB_two (bitsW c) (List.replicate 32 true) (~~~ c) 0#32 (by rw [bitsW_len]; simp)
  have h2 : List.zipWith (fun x y => x ^^ y) (bitsW c) (List.replicate 32 true) = (List.range 32).map (~~~ c).getLsbD := by
    apply List.ext_getElem?
    intro k
    rw [List.getElem?_zipWith, List.getElem?_map]
    unfold bitsW
    by_cases hk : k < 32
    · rw [List.getElem?_map, List.getElem?_range hk, List.getElem?_replicate, if_pos hk]
      simp [hk]
    · rw [List.getElem?_map, List.getElem?_eq_none (by simpa using hk)]
      simp
  rw [h2, BitVec.xor_zero, own_fed] at h1
  have h3 : (~~~ c) >>> 32 = 0#32 := by
    apply BitVec.eq_of_toNat_eq
    rw [BitVec.toNat_ushiftRight, Nat.shiftRight_eq_div_pow, Nat.div_eq_of_lt (~~~ c).isLt]; rfl
  rw [h3] at h1
  have h4 := congrArg (fun x => x ^^^ crcB 0#32 (List.replicate 32 true)) h1
  simp only [BitVec.zero_xor, BitVec.xor_assoc, BitVec.xor_self, BitVec.xor_zero] at h4
  exact h4.symm
theorem summed_residue {l : List UInt8} (h : summedB l = true) : more 0#32 l = resK := by
  have h1 : l = l.take 252 ++ sumL (l.take 252) := by rw [← of_decide_eq_true h, List.take_append_drop]
  rw [h1]; exact sum_residue _
theorem open_turned {x : PageD} (h : pgChk x x.Body.length = 0) (a : Int) (m : W) : (turned (sealL x) a m = sealL x) ∨ (turned (sealL x) a m ≠ sealL x ∧ openE x.No (turned (sealL x) a m) = 11) := by
  obtain ⟨c1, c2, c3, c4, c5, c6, c7⟩ := chk_ok h
  by_cases he : turned (sealL x) a m = sealL x
  · exact .inl he
  · refine .inr ⟨he, openE_sum (by omega) (by rw [turned_len, sealL_len c7]) fun hs => he ?_⟩
    exact (turned_shows (sealL x) a m (by rw [summed_residue hs.1, summed_residue (seal_summed x c7)])).symm
end Go.Proofs.YthenhfhffnjflaaDoor.Pm
