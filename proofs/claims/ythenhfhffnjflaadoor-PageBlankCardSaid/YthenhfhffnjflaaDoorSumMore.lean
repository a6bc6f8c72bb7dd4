/- sum.More, sum.Of, sum.Less -/
import Derived.Test.YthenhfhffnjflaaDoorSumTab
import Derived.Deep.WholeRow
namespace Go.Proofs.YthenhfhffnjflaaDoor.SumW
open Go.RowKit SumP K

/-- what sum.More returns -/
def more (c : W) (l : List UInt8) : W := ~~~ crc (~~~ c) l

theorem idx_eq (r : W) (b : UInt8) : bits .xor .u8 (((r.toNat : Nat) : Int) % 256) (b.toNat : Int) = ((((r ^^^ ext b) &&& 255#32).toNat : Nat) : Int) := by
  have hb := UInt8.toNat_lt b
  rw [show (((r.toNat : Nat) : Int) % 256) = ((r.toNat % 256 : Nat) : Int) by omega, u8_xor_nat _ _ (by omega) (by omega)]
  congr 1
  rw [BitVec.toNat_and, BitVec.toNat_xor]
  have e1 : (ext b).toNat = b.toNat := by simp [ext]
  rw [e1, show (255#32 : W).toNat = 255 from rfl, Nat.and_xor_distrib_right, show (255 : Nat) = 2 ^ 8 - 1 from rfl, Nat.and_two_pow_sub_one_eq_mod, Nat.and_two_pow_sub_one_eq_mod]
  rw [Nat.mod_eq_of_lt (show b.toNat < 2 ^ 8 by omega)]

theorem idx_lt (x : W) : (x &&& 255#32).toNat < 256 := by
  rw [BitVec.toNat_and, show (255#32 : W).toNat = 2 ^ 8 - 1 from rfl, Nat.and_two_pow_sub_one_eq_mod]; omega

theorem shr8_toNat (r : W) : ((r.toNat : Nat) : Int) / (256 : Int) = (((r >>> 8).toNat : Nat) : Int) := by
  rw [BitVec.toNat_ushiftRight, Nat.shiftRight_eq_div_pow]; omega

theorem crc_snoc (r : W) (l : List UInt8) (b : UInt8) : crc r (l ++ [b]) = crcB (crc r l) (bits8 b) := by
  rw [crc_append]; simp [crc, bitsOf]

theorem not_toNat (r : W) : bits .xor .u32 IntKind.u32.max ((r.toNat : Nat) : Int) = (((~~~ r).toNat : Nat) : Int) := by
  have e : IntKind.u32.max = (((BitVec.allOnes 32).toNat : Nat) : Int) := rfl
  rw [e, xor_toNat, BitVec.allOnes_xor]

set_option maxRecDepth 100000 in
theorem more_any (c : W) (s : ByteArray) (w : World) (hs : s.size ≤ 9223372036854775807) :
    Calls Tryd.prog 27 #[.int .u32 (c.toNat : Int), .string s] w fun e w' => e = .returned (.int .u32 ((more c s.data.toList).toNat : Int)) ∧ Below w.heap.size w w' := by
  have hz := zeroTab
  go_enter Tryd.func27, Tryd.ntmps27
  go_wp2_with (first
    | (go_at_call 36; refine (table_any _).mono ?_; rintro e w1 ⟨rfl, hb1⟩)
    | ((with_reducible refine wpList_store_row (o := ⟨none, Op.store 59 _ _, _, _, _, _⟩) rfl _ _ _ rfl w1.heap.size (tabTo 256) rfl rfl 59 (tabTo 0) (heap_alloc_last _ _) (by rw [tabTo_size]; exact sizeTab) (by rw [tabTo_size, tabTo_size]) (tabTo_one 256) ?_); rw [World.setRow_alloc_new]))
  clear hz
  go_loop [6, 7] (fun r j => ∃ k : Nat, k ≤ s.size ∧ j = .int .i64 (k : Int) ∧ r = .int .u32 ((crc (~~~ c) (s.data.toList.take k)).toNat : Int))
    (fun _ j => s.size - (intOf j).toNat)
  case atStart => 
    exact ⟨0, by omega, rfl, congrArg _ (not_toNat c)⟩
  case round =>
    obtain ⟨k, hk, rfl, rfl⟩ := hrel
    by_cases h : k < s.size
    · have hsn := Lib.hid (show crc (~~~ c) (s.data.toList.take (k + 1)) = _ by
        rw [List.take_succ_eq_append_getElem (by simpa using h), crc_snoc, crc_round])
      rw [show s.data.toList[k]'(by simpa using h) = s[k] from rfl] at hsn
      generalize crc (~~~ c) (s.data.toList.take k) = r at *
      have hi := idx_eq r s[k]
      have hl := idx_lt (r ^^^ ext s[k])
      generalize ((r ^^^ ext s[k]) &&& 255#32) = x at *
      have hat := tabTo_at 256 x.toNat hl
      rw [if_pos hl, BitVec.ofNat_toNat, BitVec.setWidth_eq] at hat
      have h8 := Lib.hid (shr8_toNat r)
      go_wp2
      go_round
      case rel =>
        refine ⟨k + 1, by omega, by go_num, ?_⟩
        rw [hsn.out, h8.out, xor_toNat]
      case measure => simp [intOf]; omega
    · obtain rfl : k = s.size := by omega
      have hall := Lib.hid (show crc (~~~ c) (s.data.toList.take s.size) = crc (~~~ c) s.data.toList by
        rw [List.take_of_length_le (by simp)])
      go_wp2
      go_ret
      refine ⟨?_, hb1.alloc hb1.size _⟩
      show Ending.returned (Value.int .u32 (bits .xor .u32 IntKind.u32.max _)) = _
      rw [hall.out, not_toNat]
      rfl

theorem of_any (s : ByteArray) (w : World) (hs : s.size ≤ 9223372036854775807) :
    Calls Tryd.prog 19 #[.string s] w fun e w' => e = .returned (.int .u32 ((more 0#32 s.data.toList).toNat : Int)) ∧ Below w.heap.size w w' := by
  go_enter Tryd.func19, Tryd.ntmps19
  go_wp2_with (first
    | (go_at_call 27; refine (more_any 0#32 s _ hs).mono ?_; rintro e w1 ⟨rfl, hb1⟩))
  go_ret
  exact ⟨rfl, hb1⟩

/-- what sum.Less returns -/
def less (c : W) (b : UInt8) : W := ~~~ (((List.range 8).foldl (fun r _ => bback r false) (~~~ c)) ^^^ ext b)

end Go.Proofs.YthenhfhffnjflaaDoor.SumW
