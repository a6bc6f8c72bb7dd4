/- the reference's bitsOf and divisor: lists of bits, made by the call -/
import Derived.Test.YthenhfhffnjflaaDoorSumBurst
namespace Go.Proofs.YthenhfhffnjflaaDoor.SumW
open Go.RowKit SumP K

theorem elBool : El Tryd.prog 65 4 (.bool false) 1 1 := El.mk Tryd.underlying65 (by kernel_rfl) rfl (by decide) (by decide)

theorem bits8_take (b : UInt8) (j : Nat) (hj : j < 8) : (bits8 b).take (j + 1) = (bits8 b).take j ++ [b.toNat.testBit j] := by
  have h : j < (bits8 b).length := by rw [bits8_len]; exact hj
  rw [List.take_succ_eq_append_getElem h]
  have := bits8_at b j hj
  rw [List.getElem?_eq_getElem h] at this
  rw [Option.some.inj this]

theorem odd_bit (x j : Nat) : (((x / 2 ^ j : Nat) : Int) % 2 == 1) = x.testBit j := by
  rw [Nat.testBit_eq_decide_div_mod_eq]
  generalize x / 2 ^ j = y
  rw [Bool.eq_iff_iff, beq_iff_eq, decide_eq_true_eq]
  omega

theorem bitsOf_snoc (l : List UInt8) (k : Nat) (hk : k < l.length) : bitsOf (l.take (k + 1)) = bitsOf (l.take k) ++ bits8 l[k] := by
  rw [List.take_succ_eq_append_getElem hk, bitsOf, List.flatMap_append]; rfl

set_option maxRecDepth 100000 in
set_option maxHeartbeats 1000000 in
theorem bitsOf_any (s : ByteArray) (w : World) (hs : s.size ≤ 1048576) :
    Calls Tryd.prog 41 #[.string s] w fun e w' => ∃ v, e = .returned v ∧
      w'.ownsRow w.heap.size 4 1 v (bitsOf s.data.toList).length ((bitsOf s.data.toList).map Value.bool) ∧ Below w.heap.size w w' := by
  go_enter Tryd.func41, Tryd.ntmps41
  go_wp2_with fail
  go_loopw [3, 4] (fun v i wr => ∃ k : Nat, k ≤ s.size ∧ i = .int .i64 (k : Int) ∧ Below w.heap.size w wr ∧
      wr.ownsRow w.heap.size 4 1 v (bitsOf (s.data.toList.take k)).length ((bitsOf (s.data.toList.take k)).map Value.bool))
    (fun _ i _ => s.size - (intOf i).toNat)
  case atStart => exact ⟨0, by omega, rfl, Below.refl _ _, World.ownsRow_nil _ _ _ _⟩
  case round =>
    obtain ⟨k, hk, rfl, hbel, hown⟩ := hrel
    by_cases h : k < s.size
    · have hb := UInt8.toNat_lt s[k]
      have hsn := Lib.hid (bitsOf_snoc s.data.toList k (by simpa using h))
      rw [show s.data.toList[k]'(by simpa using h) = s[k] from rfl] at hsn
      have hlen := bitsOf_len (s.data.toList.take k)
      rw [List.length_take, show min k s.data.toList.length = k by simp; omega] at hlen
      have HL := Lib.hid hlen
      clear hlen
      generalize bitsOf (s.data.toList.take k) = L at *
      go_wp2_with fail
      go_loopw [3, 5, 6] (fun v b j wi => ∃ i : Nat, i ≤ 8 ∧ j = .int .i64 (i : Int) ∧ b = .int .i64 ((s[k].toNat / 2 ^ i : Nat) : Int) ∧ Below w.heap.size w wi ∧
          wi.ownsRow w.heap.size 4 1 v (L ++ (bits8 s[k]).take i).length ((L ++ (bits8 s[k]).take i).map Value.bool))
        (fun _ _ j _ => 8 - (intOf j).toNat)
      case atStart => exact ⟨0, by omega, rfl, by simp, hbel, by simpa using hown⟩
      case round =>
        obtain ⟨i, hi, rfl, rfl, hbel, hown⟩ := hrel
        by_cases hi8 : i < 8
        · have hbit := odd_bit s[k].toNat i
          have hd : (((s[k].toNat / 2 ^ i : Nat) : Int) / 2) = ((s[k].toNat / 2 ^ (i + 1) : Nat) : Int) := by
            rw [Nat.pow_succ, ← Nat.div_div_eq_div_mul]; omega
          have HD := Lib.hid hd
          have ht := Lib.hid (bits8_take s[k] i hi8)
          have hlt : s[k].toNat / 2 ^ i ≤ 255 := by have := Nat.div_le_self s[k].toNat (2 ^ i); omega
          generalize s[k].toNat / 2 ^ i = x at *
          generalize s[k].toNat.testBit i = bb at *
          clear hd
          have hll : (L ++ (bits8 s[k]).take i).length ≤ 8 * 1048576 + 8 := by
            have := HL.out; rw [List.length_append, List.length_take, bits8_len]; omega
          go_wp2_with (first
            | (at_builtin; refine push elBool (.tmp 21) (.tmp 25) rfl rfl _ _ _ rfl hown hbel (Nat.le_refl _) hbel.size [Value.bool bb] rfl rfl ?_ ?_ ?_))
          · intro u hu; simp at hu; subst hu; rfl
          · omega
          · intro v' w' hown' hbel' _ _
            go_wp2_with fail
            go_roundw
            case rel =>
              refine ⟨i + 1, by omega, by go_num, by rw [HD.out], hbel', ?_⟩
              rw [ht.out]
              have e : (L ++ ((bits8 s[k]).take i ++ [bb])).length = (L ++ (bits8 s[k]).take i).length + 1 := by simp; omega
              rw [e]
              simpa using hown'
            case measure => simp [intOf]; omega
        · obtain rfl : i = 8 := by omega
          go_wp2_with fail
          go_roundw
          case rel =>
            refine ⟨k + 1, by omega, by go_num, hbel, ?_⟩
            rw [hsn.out]
            have e : (bits8 s[k]).take 8 = bits8 s[k] := List.take_of_length_le (by rw [bits8_len]; omega)
            rw [e] at hown
            exact hown
          case measure => simp [intOf]; omega
    · obtain rfl : k = s.size := by omega
      have hall := Lib.hid (show s.data.toList.take s.size = s.data.toList from List.take_of_length_le (by simp))
      rw [hall.out] at hown
      go_wp2_with fail
      go_ret
      exact ⟨_, rfl, hown, hbel⟩

/-- x^32 and below, from the highest on -/
def divisorL : List Bool := true :: bitsW poly

set_option maxRecDepth 100000 in
set_option maxHeartbeats 1000000 in
theorem divisor_any (w : World) :
    Calls Tryd.prog 42 #[] w fun e w' => ∃ v, e = .returned v ∧
      w'.ownsRow w.heap.size 4 1 v 33 (divisorL.map Value.bool) ∧ Below w.heap.size w w' := by
  have hfact : ∀ n : Fin 33, (bits .and .u64 ((4812730177 : Int) / 2 ^ (32 - n.val)) 1 == 1) = divisorL.getD n.val false := by decide +kernel
  have HF := Lib.hid hfact
  clear hfact
  go_enter Tryd.func42, Tryd.ntmps42
  go_wp2_with fail
  go_loopw [1, 3] (fun v k wr => ∃ n : Nat, n ≤ 33 ∧ k = .int .i64 (32 - (n : Int)) ∧ Below w.heap.size w wr ∧
      wr.ownsRow w.heap.size 4 1 v n ((divisorL.take n).map Value.bool))
    (fun _ k _ => (intOf k + 1).toNat)
  case atStart => exact ⟨0, by omega, rfl, Below.refl _ _, World.ownsRow_nil _ _ _ _⟩
  case round =>
    obtain ⟨n, hn, rfl, hbel, hown⟩ := hrel
    by_cases h : n < 33
    · have hf := HF.out ⟨n, h⟩
      simp only at hf
      obtain ⟨j, hj⟩ : ∃ j : Nat, j = 32 - n := ⟨_, rfl⟩
      rw [← hj] at hf
      have e1 : (32 : Int) - (n : Int) = (j : Int) := by omega
      have HJ := Lib.hid hj
      clear hj
      rw [e1]
      have hget := Lib.hid (show divisorL.take (n + 1) = divisorL.take n ++ [divisorL.getD n false] by
        rw [List.take_succ_eq_append_getElem (show n < divisorL.length by simpa [divisorL, bitsW_len] using h)]
        simp [List.getD, List.getElem?_eq_getElem (show n < divisorL.length by simpa [divisorL, bitsW_len] using h)])
      generalize divisorL.getD n false = bb at *
      have hj32 : j ≤ 32 := by have := HJ.out; omega
      clear e1
      go_wp2_with (first
        | (at_builtin; refine push elBool (.tmp 8) (.tmp 14) rfl rfl _ _ _ rfl hown hbel (Nat.le_refl _) hbel.size [Value.bool bb] rfl rfl ?_ ?_ ?_))
      · intro u hu; simp at hu; subst hu; rfl
      · omega
      · intro v' w' hown' hbel' _ _
        go_wp2_with fail
        go_roundw
        case rel =>
          refine ⟨n + 1, by omega, by have := HJ.out; go_num, hbel', ?_⟩
          rw [hget.out]
          simpa using hown'
        case measure =>
          have := HJ.out
          simp [intOf] <;> omega
    · obtain rfl : n = 33 := by omega
      go_wp2_with fail
      go_ret
      refine ⟨_, rfl, ?_, hbel⟩
      have e : divisorL.take 33 = divisorL := List.take_of_length_le (by simp [divisorL, bitsW_len])
      rw [e] at hown
      exact hown

end Go.Proofs.YthenhfhffnjflaaDoor.SumW
