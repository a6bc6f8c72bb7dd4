/- plain laws on what package sum computes -/
import Derived.Test.YtdocnmjbmjoaoaaSumBegun
namespace Go.Proofs.Ytdocnmjbmjoaoaa.SumW
open Go.RowKit SumP K

theorem more_joins (c : W) (a b : List UInt8) : more (more c a) b = more c (a ++ b) := by
  unfold more; rw [BitVec.not_not, crc_append]

theorem not_inj {a b : W} (h : ~~~ a = ~~~ b) : a = b := by
  rw [← BitVec.not_not (b := a), h, BitVec.not_not]

theorem more_inj {c d : W} {l : List UInt8} (h : more c l = more d l) : c = d := not_inj (crc_inj (not_inj h))

theorem backs_crc (k : Nat) : ∀ r : W, backs (crcB r (List.replicate k false)) k = r := by
  induction k with
  | zero => intro r; rfl
  | succ k ih =>
    intro r
    have h : crcB r (List.replicate (k + 1) false) = crcB (bstep r false) (List.replicate k false) := by simp [crcB, List.replicate_succ]
    show bback (backs (crcB r (List.replicate (k + 1) false)) k) false = r
    rw [h, ih, bback_bstep]

theorem crc_backs (k : Nat) : ∀ r : W, crcB (backs r k) (List.replicate k false) = r := by
  induction k with
  | zero => intro r; rfl
  | succ k ih =>
    intro r
    have h : ∀ x : W, crcB x (List.replicate (k + 1) false) = crcB (bstep x false) (List.replicate k false) := by intro x; simp [crcB, List.replicate_succ]
    rw [h]
    show crcB (bstep (bback (backs r k) false) false) (List.replicate k false) = r
    rw [bstep_bback, ih]

theorem more_one (c : W) (b : UInt8) : more c [b] = ~~~ T (~~~ c ^^^ ext b) := by
  unfold more
  rw [show crc (~~~ c) [b] = crcB (~~~ c) (bits8 b) by simp [crc, bitsOf], crc_byte]

theorem less_more (c : W) (b : UInt8) : less (more c [b]) b = c := by
  rw [less_eq, more_one, BitVec.not_not, T, backs_crc, BitVec.xor_assoc, BitVec.xor_self, BitVec.xor_zero, BitVec.not_not]

theorem more_less (c : W) (b : UInt8) : more (less c b) [b] = c := by
  rw [less_eq, more_one, BitVec.not_not, BitVec.xor_assoc, BitVec.xor_self, BitVec.xor_zero, T, crc_backs, BitVec.not_not]

theorem less_last (l : List UInt8) (b : UInt8) : less (more 0#32 (l ++ [b])) b = more 0#32 l := by
  rw [← more_joins, less_more]

/-- an integer of 32 bits as a register -/
theorem reg_of (a : Int) (h0 : 0 ≤ a) (h1 : a ≤ 4294967295) : ∃ c : W, a = ((c.toNat : Nat) : Int) :=
  ⟨BitVec.ofNat 32 a.toNat, by rw [BitVec.toNat_ofNat]; omega⟩

/-- an integer of 8 bits as a byte -/
theorem byte_of (a : Int) (h0 : 0 ≤ a) (h1 : a ≤ 255) : ∃ b : UInt8, a = ((b.toNat : Nat) : Int) :=
  ⟨UInt8.ofNat a.toNat, by simp; omega⟩

theorem app_data (s t : ByteArray) : (s ++ t).data.toList = s.data.toList ++ t.data.toList := by simp
theorem app_size (s t : ByteArray) : (s ++ t).size = s.size + t.size := ByteArray.size_append

end Go.Proofs.Ytdocnmjbmjoaoaa.SumW
