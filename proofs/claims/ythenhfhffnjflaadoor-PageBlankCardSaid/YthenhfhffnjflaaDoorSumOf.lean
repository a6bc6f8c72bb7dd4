/- the reference's SumOf: long division -/
import Derived.Test.YthenhfhffnjflaaDoorSumBits
namespace Go.Proofs.YthenhfhffnjflaaDoor.SumW
open Go.RowKit SumP K

theorem xorPre_take (l d : List Bool) (k : Nat) (hl : k < l.length) (hd : k < d.length) :
    xorPre l (d.take (k + 1)) = (xorPre l (d.take k)).set k ((xorPre l (d.take k)).getD k false != d.getD k false) := by
  induction k generalizing l d with
  | zero =>
    cases l with
    | nil => simp at hl
    | cons x l => cases d with
      | nil => simp at hd
      | cons y d => cases x <;> cases y <;> simp [xorPre, xorPre_nil]
  | succ k ih =>
    cases l with
    | nil => simp at hl
    | cons x l => cases d with
      | nil => simp at hd
      | cons y d =>
        have := ih l d (by simpa using hl) (by simpa using hd)
        simp only [List.take_succ_cons, xorPre, this]
        simp

theorem xorPre_at (l d : List Bool) (k : Nat) (h : d.length ≤ k) : (xorPre l d).getD k false = l.getD k false := by
  induction d generalizing l k with
  | nil => rw [xorPre_nil]
  | cons y d ih =>
    cases l with
    | nil => rfl
    | cons x l =>
      cases k with
      | zero => simp at h
      | succ k =>
        have := ih l k (by simpa using h)
        simpa [xorPre] using this

theorem rowB_cell {w : World} {g e : Nat} {l : List Bool} (h : RowIs w g e (l.map Value.bool)) (k : Nat) (hk : k < l.length) : w.cell? ⟨g, k, none⟩ = some (.bool (l.getD k false)) := by
  rw [h.cell (j := k) (by simpa using hk)]
  simp [List.getD, hk]

theorem rowB_set {w : World} {g e : Nat} {l : List Bool} (h : RowIs w g e (l.map Value.bool)) (k : Nat) (b : Bool) : RowIs (w.setCell ⟨g, k, none⟩ (.bool b)) g e ((l.set k b).map Value.bool) := by
  rw [List.map_set]; exact h.set k _

theorem set_same (l : List Bool) (k : Nat) : l.set k (l.getD k false) = l := by
  apply List.ext_getElem?
  intro j
  rw [List.getElem?_set]
  by_cases h : k = j
  · subst h
    by_cases hk : k < l.length
    · simp [hk]
    · simp [hk]
  · simp [h]

theorem ldiv_succ (p : List Bool) (m : Nat) : ∀ Z : List Bool, ldiv p (m + 1) Z = match ldiv p m Z with | [] => [] | b :: r => if b then xorPre r p else r := by
  induction m with
  | zero => intro Z; cases Z <;> rfl
  | succ m ih =>
    intro Z
    cases Z with
    | nil => rfl
    | cons b l => exact ih _

theorem drop_set (l : List Bool) (m k : Nat) (v : Bool) : (l.set (m + k) v).drop m = (l.drop m).set k v := by
  apply List.ext_getElem?
  intro j
  rw [List.getElem?_drop, List.getElem?_set, List.getElem?_set, List.getElem?_drop]
  by_cases h : k = j
  · subst h; simp
    by_cases h2 : m + k < l.length
    · simp [h2, show k < l.length - m by omega]
    · simp [h2, show ¬ k < l.length - m by omega]
  · rw [if_neg (by omega), if_neg h]

/-- where the division stands ahead of place m, it is one step on ahead of the next -/
theorem step_no {cur Z p : List Bool} {m : Nat} (h : cur.drop m = ldiv p m Z) (hm : m < cur.length) (hb : cur.getD m false = false) : cur.drop (m + 1) = ldiv p (m + 1) Z := by
  rw [ldiv_succ, ← h, List.drop_eq_getElem_cons hm]
  have e : cur[m] = false := by simpa [List.getD, hm] using hb
  rw [e]; rfl

theorem step_yes {cur fin Z p : List Bool} {m : Nat} (h : cur.drop m = ldiv p m Z) (hm : m < cur.length) (hb : cur.getD m false = true) (hf : fin.drop m = xorPre (cur.drop m) (true :: p)) : fin.drop (m + 1) = ldiv p (m + 1) Z := by
  rw [ldiv_succ, ← h, List.drop_eq_getElem_cons hm]
  have e : cur[m] = true := by simpa [List.getD, hm] using hb
  rw [e]
  rw [List.drop_eq_getElem_cons hm, e] at hf
  have := congrArg List.tail hf
  simpa [xorPre] using this

theorem divisorL_len : divisorL.length = 33 := by simp [divisorL, bitsW_len]

set_option maxRecDepth 100000 in
set_option maxHeartbeats 4000000 in
theorem sumOf_any (c : W) (s : ByteArray) (w : World) (hs : s.size ≤ 1048576) :
    Calls Tryd.prog 35 #[.int .u32 (c.toNat : Int), .string s] w fun e w' => e = .returned (.int .u32 ((more c s.data.toList).toNat : Int)) ∧ Below w.heap.size w w' := by
  obtain ⟨L, hL⟩ : ∃ L, L = bitsOf s.data.toList := ⟨_, rfl⟩
  have hlen : L.length = 8 * s.size := by rw [hL, bitsOf_len]; simp
  have HLen := Lib.hid hlen
  have hmore := Lib.hid (show more c s.data.toList = ~~~ crcB (~~~ c) L by rw [hL]; rfl)
  have hbits := Lib.hid (fun w => bitsOf_any s w hs)
  rw [← hL] at hbits
  clear hlen hL
  go_enter Tryd.func35, Tryd.ntmps35
  go_wp2_with (first
    | (go_at_call 41; refine (hbits.out _).mono ?_; rintro e w1 ⟨v1, rfl, hown1, hb1⟩))
  go_loopw [5, 6] (fun v i wr => ∃ k : Nat, k ≤ 32 ∧ i = .int .i64 (k : Int) ∧ Below w.heap.size w wr ∧
      wr.ownsRow w.heap.size 4 1 v (L.length + k) ((L ++ List.replicate k false).map Value.bool))
    (fun _ i _ => 32 - (intOf i).toNat)
  case atStart => exact ⟨0, by omega, rfl, hb1, by simpa using hown1⟩
  case round =>
    obtain ⟨k, hk, rfl, hbel, hown⟩ := hrel
    by_cases h : k < 32
    · go_wp2_with (first
        | (at_builtin; refine push elBool (.tmp 19) (.tmp 20) rfl rfl _ _ _ rfl hown hbel (Nat.le_refl _) hbel.size [Value.bool false] rfl rfl ?_ ?_ ?_))
      · intro u hu; simp at hu; subst hu; rfl
      · have := HLen.out; omega
      · intro v' w' hown' hbel' _ _
        go_wp2_with fail
        go_roundw
        case rel =>
          refine ⟨k + 1, by omega, by go_num, hbel', ?_⟩
          simpa [List.replicate_succ', Nat.add_assoc] using hown'
        case measure => simp [intOf]; omega
    · obtain rfl : k = 32 := by omega
      obtain ⟨N, hN⟩ : ∃ N, N = L.length + 32 := ⟨_, rfl⟩
      rw [← hN] at hown
      obtain ⟨g, cap, rfl, hg, hcap, hrow⟩ := RowIs.of_own hown (by omega)
      obtain ⟨X, hX⟩ : ∃ X, X = L ++ List.replicate 32 false := ⟨_, rfl⟩
      rw [← hX] at hrow
      have HX := Lib.hid hX
      have HN := Lib.hid (show X.length = N ∧ N = L.length + 32 by rw [hX]; simp [hN])
      have hNb : N ≤ 8388640 := by have := HLen.out; omega
      have hN32 : 32 ≤ N := by omega
      clear hX hN hown
      go_wp2_with fail
      go_loopw [7] (fun i wi => ∃ k : Nat, k ≤ 32 ∧ i = .int .i64 (k : Int) ∧ Below w.heap.size w wi ∧ RowIs wi g 4 ((xorPre X ((bitsW (~~~ c)).take k)).map Value.bool))
        (fun i _ => 32 - (intOf i).toNat)
      case atStart => exact ⟨0, by omega, rfl, hbel, by simpa [xorPre_nil] using hrow⟩
      case round =>
        clear hrow hbel
        obtain ⟨k, hk, rfl, hbel, hrow⟩ := hrel
        by_cases h : k < 32
        · have hbit := bit_at c k
          have hst := Lib.hid (xorPre_take X (bitsW (~~~ c)) k (by have := HN.out; omega) (by rw [bitsW_len]; exact h))
          have hat := Lib.hid (xorPre_at X ((bitsW (~~~ c)).take k) k (by simp; omega))
          have hbw := Lib.hid (show (bitsW (~~~ c)).getD k false = !c.getLsbD k by
            simp [bitsW, List.getD, h])
          have hYl := xorPre_len X ((bitsW (~~~ c)).take k)
          rw [HN.out.1] at hYl
          have HY := Lib.hid hYl
          clear hYl
          generalize xorPre X ((bitsW (~~~ c)).take k) = Y at *
          have hcell := rowB_cell hrow k (by rw [HY.out]; omega)
          have hfr := hrow.free k
          have hkN : k < N := by omega
          generalize hyk : Y.getD k false = yk at *
          have hkk : (k : Int) < (N : Int) := by omega
          have hk0 : (0 : Int) ≤ (k : Int) := by omega
          cases hb : c.getLsbD k
          · rw [hb] at hbit hbw
            go_wp2_with fail
            go_roundw
            case rel =>
              refine ⟨k + 1, by omega, by go_num, hbel.setCell hg _, ?_⟩
              rw [hst.out, hbw.out]
              have := rowB_set hrow k (!yk)
              cases yk <;> exact this
            case measure => simp [intOf]; omega
          · rw [hb] at hbit hbw
            go_wp2_with fail
            go_roundw
            case rel =>
              refine ⟨k + 1, by omega, by go_num, hbel, ?_⟩
              rw [hst.out, hbw.out]
              have e : (yk != !true) = Y.getD k false := by rw [hyk]; cases yk <;> rfl
              rw [e, set_same]
              exact hrow
            case measure => simp [intOf]; omega
        · obtain rfl : k = 32 := by omega
          have e32 : (bitsW (~~~ c)).take 32 = bitsW (~~~ c) := List.take_of_length_le (by rw [bitsW_len]; omega)
          rw [e32] at hrow
          clear e32
          have hldiv := ldiv_crc L (~~~ c)
          rw [← HX.out] at hldiv
          have HD := Lib.hid hldiv
          have hZl := xorPre_len X (bitsW (~~~ c))
          rw [HN.out.1] at hZl
          have HZ := Lib.hid hZl
          clear hldiv hZl
          generalize xorPre X (bitsW (~~~ c)) = Z at *
          have hgl := hrow.lt
          go_wp2_with (first
            | (go_at_call 42; refine (divisor_any _).mono ?_; rintro e w2 ⟨v2, rfl, hown2, hb2⟩))
          obtain ⟨gd, capd, rfl, hgd, hcapd, hdrow⟩ := RowIs.of_own hown2 (by omega)
          have hrow2 := hrow.later hb2 (hrow.lt)
          have hgne : g ≠ gd := by omega
          have hbel2 := hbel.trans (hb2.mono hbel.size)
          have hgdB : w.heap.size ≤ gd := Nat.le_trans hbel.size hgd
          clear hown2 hrow hbel
          go_loopw [9] (fun i wi => ∃ (m : Nat) (cur : List Bool), m ≤ L.length ∧ i = .int .i64 (m : Int) ∧ Below w.heap.size w wi ∧ RowIs wi g 4 (cur.map Value.bool) ∧
              RowIs wi gd 4 (divisorL.map Value.bool) ∧ Hid (cur.length = N ∧ cur.drop m = ldiv (bitsW poly) m Z))
            (fun i _ => L.length - (intOf i).toNat)
          case atStart => exact ⟨0, Z, by omega, rfl, hbel2, hrow2, hdrow, HZ.out, rfl⟩
          case round =>
            clear hrow2 hdrow hbel2
            obtain ⟨m, cur, hm, rfl, hbel, hrow, hdrow, hcur⟩ := hrel
            by_cases hmn : m < L.length
            · have hmN : (m : Int) + 32 < (N : Int) := by have := HN.out; omega
              have hmN0 : (m : Int) < (N : Int) := by omega
              have hm0 : (0 : Int) ≤ (m : Int) := by omega
              have hcell := rowB_cell hrow m (by have := hcur.out; omega)
              generalize hbm : cur.getD m false = b at *
              have HB := Lib.hid hbm
              clear hbm
              cases b
              · go_wp2_with fail
                go_roundw
                case rel => exact ⟨m + 1, cur, by omega, by go_num, hbel, hrow, hdrow, hcur.out.1, step_no hcur.out.2 (by have := hcur.out; omega) HB.out⟩
                case measure => simp [intOf]; omega
              · go_wp2_with fail
                go_loopw [10] (fun j wj => ∃ (k : Nat) (cu : List Bool), k ≤ 33 ∧ j = .int .i64 (k : Int) ∧ Below w.heap.size w wj ∧ RowIs wj g 4 (cu.map Value.bool) ∧
                    RowIs wj gd 4 (divisorL.map Value.bool) ∧ Hid (cu.length = N ∧ cu.drop m = xorPre (cur.drop m) (divisorL.take k)))
                  (fun j _ => 33 - (intOf j).toNat)
                case atStart => exact ⟨0, cur, by omega, rfl, hbel, hrow, hdrow, hcur.out.1, by simp [xorPre_nil]⟩
                case round =>
                  clear hrow hdrow hbel hcell
                  obtain ⟨k, cu, hk, rfl, hbel, hrow, hdrow, hcu⟩ := hrel
                  by_cases hk33 : k < 33
                  · have hk32 : (k : Int) ≤ 32 := by omega
                    obtain ⟨q, hq⟩ : ∃ q, q = m + k := ⟨_, rfl⟩
                    have hqN : q < N := by have := HN.out; omega
                    have hc1 := rowB_cell hrow q (by have := hcu.out; omega)
                    have hc2 := rowB_cell hdrow k (by rw [divisorL_len]; exact hk33)
                    have hf1 := hrow.free q
                    have e1 : IntKind.i64.wrap ((m : Int) + (k : Int)) = (q : Int) := by rw [IntKind.wrap_i64]; omega
                    have b1 : (0 : Int) ≤ (q : Int) := by omega
                    have b2 : (q : Int) < (N : Int) := by omega
                    have b3 : (0 : Int) ≤ (k : Int) := by omega
                    have b4 : (k : Int) < 33 := by omega
                    have hst := Lib.hid (show (cu.set q (cu.getD q false != divisorL.getD k false)).drop m = xorPre (cur.drop m) (divisorL.take (k + 1)) by
                      have h1 := hcu.out
                      have h2 := hcur.out
                      have h3 := HN.out
                      rw [hq, drop_set, h1.2, xorPre_take _ _ k (by rw [List.length_drop]; omega) (by rw [divisorL_len]; exact hk33), ← h1.2]
                      congr 2
                      simp [List.getD])
                    have HQ := Lib.hid hq
                    clear hq
                    generalize cu.getD q false = x at *
                    generalize divisorL.getD k false = y at *
                    go_wp2_with fail
                    go_still_tail 16, (by kernel_rfl)
                    change wpList _ _ _ _ _ wr.drew
                    go_wp2_with fail
                    go_roundw
                    case rel =>
                      refine ⟨k + 1, cu.set q (x != y), by omega, by go_num, (hbel.setCell hg _).drew, ?_, (hdrow.other (a := ⟨g, q, none⟩) hgne _).drew, by simpa using hcu.out.1, hst.out⟩
                      have := rowB_set hrow q (x != y)
                      cases x <;> cases y <;> exact this.drew
                    case measure => simp [intOf]; omega
                  · obtain rfl : k = 33 := by omega
                    have e33 : divisorL.take 33 = divisorL := List.take_of_length_le (by rw [divisorL_len]; omega)
                    go_wp2_with fail
                    go_roundw
                    case rel =>
                      exact ⟨m + 1, cu, by omega, by go_num, hbel, hrow, hdrow, hcu.out.1, step_yes hcur.out.2 (by have := hcur.out; omega) HB.out (by have := hcu.out.2; rw [e33] at this; exact this)⟩
                    case measure => simp [intOf]; omega
            · obtain rfl : m = L.length := by omega
              have hend := hcur.out.2
              rw [HD.out] at hend
              have HE := Lib.hid hend
              have hNL : L.length + 32 = N := by have := HN.out; omega
              have HNL := Lib.hid hNL
              have hfin := Lib.hid (show (L.length : Int) + 32 = (N : Int) by omega)
              have hge : (N : Int) ≤ (L.length : Int) + 32 := by omega
              have hLb : L.length ≤ 8388608 := by omega
              clear hend hNL
              obtain ⟨r, hr⟩ : ∃ r, r = crcB (~~~ c) L := ⟨_, rfl⟩
              rw [← hr] at HE hmore
              clear hr HD
              obtain ⟨R, hR⟩ : ∃ R, R = (~~~ r).toNat := ⟨_, rfl⟩
              have hRb := Lib.hid (show R < 4294967296 by rw [hR]; exact (~~~ r).isLt)
              have HR := Lib.hid hR
              clear hR
              go_wp2_with fail
              go_loop [11, 12] (fun o j => ∃ k : Nat, k ≤ 32 ∧ j = .int .i64 (k : Int) ∧ o = .int .u32 ((R % 2 ^ k : Nat) : Int))
                (fun _ j => 32 - (intOf j).toNat)
              case atStart => exact ⟨0, by omega, rfl, by simp [Nat.mod_one]⟩
              case round =>
                obtain ⟨k, hk, rfl, rfl⟩ := hrel
                by_cases hk32 : k < 32
                · have hcell := rowB_cell hrow (N - 32 + k) (by have := hcur.out; omega)
                  have hval : cur.getD (N - 32 + k) false = r.getLsbD k := by
                    have h1 := congrArg (fun l => l.getD k false) HE.out
                    have h2 := HNL.out
                    simp only [List.getD, List.getElem?_drop] at h1
                    rw [show N - 32 + k = L.length + k by omega, List.getD, h1]
                    simp [bitsW, hk32]
                  rw [hval] at hcell
                  have hmod := Lib.hid (show R % 2 ^ (k + 1) = R % 2 ^ k + 2 ^ k * (R / 2 ^ k % 2) by rw [Nat.pow_succ, Nat.mod_mul])
                  have htb := Lib.hid (show R.testBit k = !r.getLsbD k by
                    rw [HR.out]
                    show (~~~ r).getLsbD k = _
                    rw [BitVec.getLsbD_not]; simp [hk32])
                  have hpl := Lib.hid (show (2 : Nat) ^ k < 4294967296 by
                    have : 2 ^ k ≤ 2 ^ 31 := Nat.pow_le_pow_right (by decide) (by omega)
                    omega)
                  have hlt := Lib.hid (show R % 2 ^ (k + 1) < 4294967296 from Nat.lt_of_le_of_lt (Nat.mod_le _ _) hRb.out)
                  have k0 : (0 : Int) ≤ (k : Int) := by omega
                  clear hval
                  generalize R % 2 ^ k = o at *
                  cases hb : r.getLsbD k
                  · rw [hb] at hcell htb
                    go_wp2_with fail
                    go_round
                    case rel =>
                      refine ⟨k + 1, by omega, by go_num, ?_⟩
                      have h1 := hmod.out
                      have h2 := htb.out
                      rw [Nat.testBit_eq_decide_div_mod_eq] at h2
                      have h3 : R / 2 ^ k % 2 = 1 := by simpa using h2
                      rw [h3, Nat.mul_one] at h1
                      have h4 := hlt.out
                      have h5 := hpl.out
                      have e : ((2 : Int) ^ k) = ((2 ^ k : Nat) : Int) := (Int.natCast_pow 2 k).symm
                      rw [e]
                      generalize 2 ^ k = p at *
                      generalize R % 2 ^ (k + 1) = z at *
                      congr 1
                      omega
                    case measure => simp [intOf]; omega
                  · rw [hb] at hcell htb
                    go_wp2_with fail
                    go_round
                    case rel =>
                      refine ⟨k + 1, by omega, by go_num, ?_⟩
                      have h1 := hmod.out
                      have h2 := htb.out
                      rw [Nat.testBit_eq_decide_div_mod_eq] at h2
                      have h3 : R / 2 ^ k % 2 = 0 := by simp at h2; omega
                      rw [h3, Nat.mul_zero] at h1
                      rw [h1]; rfl
                    case measure => simp [intOf]; omega
                · obtain rfl : k = 32 := by omega
                  go_wp2_with fail
                  go_ret
                  refine ⟨?_, hbel⟩
                  have h1 := hRb.out
                  have h2 : ((R : Nat) : Int) % 4294967296 = (((~~~ r).toNat : Nat) : Int) := by rw [← HR.out]; omega
                  rw [hmore.out, ← h2]
                  rfl

end Go.Proofs.YthenhfhffnjflaaDoor.SumW
