/- plain laws on what package sum computes -/
import Derived.Test.YthenhfhffnjflaaDoorSumBegun
namespace Go.Proofs.YthenhfhffnjflaaDoor.SumW
open Go.RowKit SumP K

theorem more_joins (c : W) (a b : List UInt8) : more (more c a) b = more c (a ++ b) := by
  unfold more; rw [BitVec.not_not, crc_append]

theorem not_inj {a b : W} (h : ~~~ a = ~~~ b) : a = b := by
  rw [← BitVec.not_not (b := a), h, BitVec.not_not]

theorem more_inj {c d : W} {l : List UInt8} (h : more c l = more d l) : c = d := not_inj (crc_inj (not_inj h))

theorem backs_crc (k : Nat) : ∀ r : W, backs (crcB r (List.replicate k false)) k = r := by
  induction k with
  | zero => intro r; rfl
  | succ k ih =>
    intro r
    have h : crcB r (List.replicate (k + 1) false) = crcB (bstep r false) (List.replicate k false) := by simp [crcB, List.replicate_succ]
    show bback (backs (crcB r (List.replicate (k + 1) false)) k) false = r
    rw [h, ih, bback_bstep]

theorem crc_backs (k : Nat) : ∀ r : W, crcB (backs r k) (List.replicate k false) = r := by
  induction k with
  | zero => intro r; rfl
  | succ k ih =>
    intro r
    have h : ∀ x : W, crcB x (List.replicate (k + 1) false) = crcB (bstep x false) (List.replicate k false) := by intro x; simp [crcB, List.replicate_succ]
    rw [h]
    show crcB (bstep (bback (backs r k) false) false) (List.replicate k false) = r
    rw [bstep_bback, ih]

theorem more_one (c : W) (b : UInt8) : more c [b] = ~~~ T (~~~ c ^^^ ext b) := by
  unfold more
  rw [show crc (~~~ c) [b] = crcB (~~~ c) (bits8 b) by simp [crc, bitsOf], crc_byte]

theorem less_more (c : W) (b : UInt8) : less (more c [b]) b = c := by
  rw [less_eq, more_one, BitVec.not_not, T, backs_crc, BitVec.xor_assoc, BitVec.xor_self, BitVec.xor_zero, BitVec.not_not]

theorem more_less (c : W) (b : UInt8) : more (less c b) [b] = c := by
  rw [less_eq, more_one, BitVec.not_not, BitVec.xor_assoc, BitVec.xor_self, BitVec.xor_zero, T, crc_backs, BitVec.not_not]

theorem less_last (l : List UInt8) (b : UInt8) : less (more 0#32 (l ++ [b])) b = more 0#32 l := by
  rw [← more_joins, less_more]

/-- an integer of 32 bits as a register -/
theorem reg_of (a : Int) (h0 : 0 ≤ a) (h1 : a ≤ 4294967295) : ∃ c : W, a = ((c.toNat : Nat) : Int) :=
  ⟨BitVec.ofNat 32 a.toNat, by rw [BitVec.toNat_ofNat]; omega⟩

/-- an integer of 8 bits as a byte -/
theorem byte_of (a : Int) (h0 : 0 ≤ a) (h1 : a ≤ 255) : ∃ b : UInt8, a = ((b.toNat : Nat) : Int) :=
  ⟨UInt8.ofNat a.toNat, by simp; omega⟩

theorem app_data (s t : ByteArray) : (s ++ t).data.toList = s.data.toList ++ t.data.toList := by simp
theorem app_size (s t : ByteArray) : (s ++ t).size = s.size + t.size := ByteArray.size_append

/-- three bytes, xored -/
def x3 (a b c : List UInt8) : List UInt8 := List.zipWith (fun x y => x ^^^ y) (List.zipWith (fun x y => x ^^^ y) a b) c

theorem bits8_x3 (a b c : UInt8) : bits8 (a ^^^ b ^^^ c) = List.zipWith (fun x y => x ^^ y) (List.zipWith (fun x y => x ^^ y) (bits8 a) (bits8 b)) (bits8 c) := by
  unfold bits8
  rw [List.zipWith_map, List.zipWith_self, List.zipWith_map, List.zipWith_self]
  apply List.map_congr_left
  intro k _
  simp [UInt8.toNat_xor, Nat.testBit_xor]

theorem bits8_len (b : UInt8) : (bits8 b).length = 8 := by simp [bits8]

theorem bitsOf_len (l : List UInt8) : (bitsOf l).length = 8 * l.length := by
  induction l with
  | nil => rfl
  | cons b l ih => rw [bitsOf_cons, List.length_append, bits8_len, ih, List.length_cons]; omega

theorem zip_append {f : Bool → Bool → Bool} (a b c d : List Bool) (h : a.length = b.length) : List.zipWith f (a ++ c) (b ++ d) = List.zipWith f a b ++ List.zipWith f c d :=
  List.zipWith_append h

theorem bitsOf_x3 (a b c : List UInt8) (h1 : a.length = b.length) (h2 : b.length = c.length) :
    bitsOf (x3 a b c) = List.zipWith (fun x y => x ^^ y) (List.zipWith (fun x y => x ^^ y) (bitsOf a) (bitsOf b)) (bitsOf c) := by
  induction a generalizing b c with
  | nil =>
    cases b with
    | nil => cases c with
      | nil => rfl
      | cons _ _ => simp at h2
    | cons _ _ => simp at h1
  | cons x a ih =>
    cases b with
    | nil => simp at h1
    | cons y b => cases c with
      | nil => simp at h2
      | cons z c =>
        have := ih b c (by simpa using h1) (by simpa using h2)
        have e : x3 (x :: a) (y :: b) (z :: c) = (x ^^^ y ^^^ z) :: x3 a b c := rfl
        rw [e, bitsOf_cons, bitsOf_cons, bitsOf_cons, bitsOf_cons, this, bits8_x3]
        rw [zip_append _ _ _ _ (by rw [bits8_len, bits8_len]), zip_append _ _ _ _ (by simp [bits8_len])]

theorem not_three (a b c : W) : ~~~ (a ^^^ b ^^^ c) = ~~~ a ^^^ ~~~ b ^^^ ~~~ c := by
  apply BitVec.eq_of_getLsbD_eq
  intro k hk
  simp only [BitVec.getLsbD_not, BitVec.getLsbD_xor, hk, decide_true, Bool.true_and]
  cases a.getLsbD k <;> cases b.getLsbD k <;> cases c.getLsbD k <;> rfl

theorem more_x3 (a b c : List UInt8) (h1 : a.length = b.length) (h2 : b.length = c.length) : more 0#32 (x3 a b c) = more 0#32 a ^^^ more 0#32 b ^^^ more 0#32 c := by
  unfold more crc
  rw [bitsOf_x3 a b c h1 h2, ← not_three, ← crcB_three _ _ _ _ _ _ (by rw [bitsOf_len, bitsOf_len, h1]) (by rw [bitsOf_len, bitsOf_len, h2]), BitVec.xor_self, BitVec.zero_xor]

theorem x3_take (a b c : List UInt8) (k : Nat) (h1 : k < a.length) (h2 : k < b.length) (h3 : k < c.length) :
    x3 (a.take (k + 1)) (b.take (k + 1)) (c.take (k + 1)) = x3 (a.take k) (b.take k) (c.take k) ++ [a[k] ^^^ b[k] ^^^ c[k]] := by
  unfold x3
  rw [List.take_succ_eq_append_getElem h1, List.take_succ_eq_append_getElem h2, List.take_succ_eq_append_getElem h3]
  rw [List.zipWith_append (by simp; omega), List.zipWith_append (by simp; omega)]
  rfl

theorem x3_len (a b c : List UInt8) (k : Nat) (h1 : k ≤ a.length) (h2 : k ≤ b.length) (h3 : k ≤ c.length) : (x3 (a.take k) (b.take k) (c.take k)).length = k := by
  unfold x3; simp; omega

end Go.Proofs.YthenhfhffnjflaaDoor.SumW
