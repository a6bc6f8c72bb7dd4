/- The checksum as plain functions on 32 bits and lists of bits; its laws; no program is in sight. -/
namespace Go.Proofs.YthenhfhffnjflaaDoor.SumP

abbrev W := BitVec 32

def poly : W := 0x82F63B78#32

/-- one bit m fed into the register -/
def bstep (r : W) (m : Bool) : W := if r.getLsbD 0 != m then (r >>> 1) ^^^ poly else r >>> 1

/-- the register behind a list of bits -/
def crcB (r : W) (l : List Bool) : W := l.foldl bstep r

/-- the bits of a byte, the least first -/
def bits8 (b : UInt8) : List Bool := (List.range 8).map fun k => b.toNat.testBit k

def bitsOf (l : List UInt8) : List Bool := l.flatMap bits8

/-- the register behind a list of bytes -/
def crc (r : W) (l : List UInt8) : W := crcB r (bitsOf l)

theorem crc_append (r : W) (a b : List UInt8) : crc r (a ++ b) = crc (crc r a) b := by
  simp [crc, crcB, bitsOf, List.foldl_append]

theorem bitsOf_cons (b : UInt8) (l : List UInt8) : bitsOf (b :: l) = bits8 b ++ bitsOf l := by simp [bitsOf]

/-! ### one step -/
theorem bstep_bit (r : W) (m : Bool) (k : Nat) (hk : k < 32) : (bstep r m).getLsbD k = ((decide (k + 1 < 32) && r.getLsbD (k + 1)) ^^ ((r.getLsbD 0 ^^ m) && poly.getLsbD k)) := by
  unfold bstep
  by_cases h : r.getLsbD 0 != m
  · rw [if_pos h]
    have : (r.getLsbD 0 ^^ m) = true := by simpa using h
    simp only [BitVec.getLsbD_xor, BitVec.getLsbD_ushiftRight, this, Bool.true_and, Nat.add_comm 1 k]
    by_cases hk2 : k + 1 < 32
    · simp [hk2]
    · simp [hk2, BitVec.getLsbD_of_ge r (k + 1) (by omega)]
  · rw [if_neg h]
    have : (r.getLsbD 0 ^^ m) = false := by simpa using h
    simp only [BitVec.getLsbD_ushiftRight, this, Bool.false_and, Bool.xor_false, Nat.add_comm 1 k]
    by_cases hk2 : k + 1 < 32
    · simp [hk2]
    · simp [hk2, BitVec.getLsbD_of_ge r (k + 1) (by omega)]

theorem bstep_xor (r q : W) (m n : Bool) : bstep (r ^^^ q) (m ^^ n) = bstep r m ^^^ bstep q n := by
  apply BitVec.eq_of_getLsbD_eq
  intro k hk
  rw [BitVec.getLsbD_xor, bstep_bit _ _ k hk, bstep_bit _ _ k hk, bstep_bit _ _ k hk]
  simp only [BitVec.getLsbD_xor]
  cases r.getLsbD (k + 1) <;> cases q.getLsbD (k + 1) <;> cases r.getLsbD 0 <;> cases q.getLsbD 0 <;> cases m <;> cases n <;> cases poly.getLsbD k <;> cases decide (k + 1 < 32) <;> rfl

theorem bstep_three (r q p : W) (m n o : Bool) : bstep (r ^^^ q ^^^ p) (m ^^ n ^^ o) = bstep r m ^^^ bstep q n ^^^ bstep p o := by
  rw [bstep_xor, bstep_xor]

/-- the step undone -/
def bback (r : W) (m : Bool) : W := if r.getLsbD 31 then ((r ^^^ poly) <<< 1) ||| (if m then 0#32 else 1#32) else (r <<< 1) ||| (if m then 1#32 else 0#32)

theorem bback_bit (r : W) (m : Bool) (k : Nat) (hk : k < 32) : (bback r m).getLsbD k = if k = 0 then (r.getLsbD 31 ^^ m) else (r.getLsbD (k - 1) ^^ (r.getLsbD 31 && poly.getLsbD (k - 1))) := by
  unfold bback
  by_cases h : r.getLsbD 31 = true
  · rw [if_pos h, h]
    by_cases h0 : k = 0
    · subst h0; cases m <;> simp
    · rw [if_neg h0]
      have h1 : ((1#32 : W)).getLsbD k = false := by
        rw [BitVec.getLsbD_one]; simp [h0]
      cases m <;> simp only [BitVec.getLsbD_or, BitVec.getLsbD_shiftLeft, BitVec.getLsbD_xor, hk, show decide (k < 1) = false by simp; omega] <;> simp [h0]
  · simp only [Bool.not_eq_true] at h
    rw [if_neg (by rw [h]; decide)]
    by_cases h0 : k = 0
    · subst h0; rw [if_pos rfl, h]; cases m <;> simp
    · rw [if_neg h0]
      have h1 : ((1#32 : W)).getLsbD k = false := by
        rw [BitVec.getLsbD_one]; simp [h0]
      cases m <;> simp only [BitVec.getLsbD_or, BitVec.getLsbD_shiftLeft, hk, h, show decide (k < 1) = false by simp; omega] <;> simp [h0]

theorem poly_top : poly.getLsbD 31 = true := by decide

theorem bback_bstep (r : W) (m : Bool) : bback (bstep r m) m = r := by
  apply BitVec.eq_of_getLsbD_eq
  intro k hk
  rw [bback_bit _ _ k hk]
  have h31 : (bstep r m).getLsbD 31 = (r.getLsbD 0 ^^ m) := by
    rw [bstep_bit _ _ 31 (by omega), poly_top]; simp
  by_cases h0 : k = 0
  · subst h0; rw [if_pos rfl, h31]; cases r.getLsbD 0 <;> cases m <;> rfl
  · rw [if_neg h0, h31, bstep_bit _ _ (k - 1) (by omega), show k - 1 + 1 = k by omega]
    simp [hk]

theorem bstep_bback (r : W) (m : Bool) : bstep (bback r m) m = r := by
  apply BitVec.eq_of_getLsbD_eq
  intro k hk
  rw [bstep_bit _ _ k hk, bback_bit _ _ 0 (by omega), if_pos rfl]
  by_cases h31 : k = 31
  · subst h31; rw [poly_top]; simp
  · rw [bback_bit _ _ (k + 1) (by omega), if_neg (by omega), show k + 1 - 1 = k by omega]
    simp [show k + 1 < 32 by omega]

theorem bstep_inj {r q : W} {m : Bool} (h : bstep r m = bstep q m) : r = q := by
  rw [← bback_bstep r m, h, bback_bstep]

theorem crcB_inj {r q : W} {l : List Bool} (h : crcB r l = crcB q l) : r = q := by
  induction l generalizing r q with
  | nil => exact h
  | cons m l ih => exact bstep_inj (ih h)

theorem crc_inj {r q : W} {l : List UInt8} (h : crc r l = crc q l) : r = q := crcB_inj h

/-! ### three texts at once -/
theorem crcB_three (a b c : List Bool) (r q p : W) (h1 : a.length = b.length) (h2 : b.length = c.length) :
    crcB (r ^^^ q ^^^ p) (List.zipWith (fun x y => x ^^ y) (List.zipWith (fun x y => x ^^ y) a b) c) = crcB r a ^^^ crcB q b ^^^ crcB p c := by
  induction a generalizing b c r q p with
  | nil =>
    cases b with
    | nil => cases c with
      | nil => rfl
      | cons _ _ => simp at h2
    | cons _ _ => simp at h1
  | cons x a ih =>
    cases b with
    | nil => simp at h1
    | cons y b => cases c with
      | nil => simp at h2
      | cons z c =>
        simp only [List.zipWith_cons_cons, crcB, List.foldl_cons]
        have := ih b c (bstep r x) (bstep q y) (bstep p z) (by simpa using h1) (by simpa using h2)
        rw [bstep_three]
        exact this

/-! ### by a table -/
/-- eight bits 0 fed in -/
def T (r : W) : W := crcB r (List.replicate 8 false)

def ext (b : UInt8) : W := BitVec.ofNat 32 b.toNat

theorem ext_bit (b : UInt8) (k : Nat) (hk : k < 32) : (ext b).getLsbD k = b.toNat.testBit k := by
  rw [ext, BitVec.getLsbD_ofNat]; simp [hk]

theorem bstep_own (X : W) : bstep X (X.getLsbD 0) = X >>> 1 := by simp [bstep]

theorem bstep_fed (r X : W) : bstep (r ^^^ X) false = bstep r (X.getLsbD 0) ^^^ (X >>> 1) := by
  have h := bstep_xor r X (X.getLsbD 0) (X.getLsbD 0)
  rw [Bool.xor_self, bstep_own] at h
  exact h

theorem crcB_fed (n : Nat) (r X : W) : crcB (r ^^^ X) (List.replicate n false) = crcB r ((List.range n).map X.getLsbD) ^^^ (X >>> n) := by
  induction n generalizing r X with
  | zero => simp [crcB]
  | succ n ih =>
    have e1 : crcB (r ^^^ X) (List.replicate (n + 1) false) = crcB (bstep (r ^^^ X) false) (List.replicate n false) := by
      simp [crcB, List.replicate_succ]
    have e2 : crcB r ((List.range (n + 1)).map X.getLsbD) = crcB (bstep r (X.getLsbD 0)) ((List.range n).map (X >>> 1).getLsbD) := by
      rw [List.range_succ_eq_map]
      simp only [List.map_cons, List.map_map, crcB, List.foldl_cons]
      have e3 : (X.getLsbD ∘ Nat.succ) = (X >>> 1).getLsbD := by
        funext k
        simp only [Function.comp, BitVec.getLsbD_ushiftRight, Nat.succ_eq_add_one, Nat.add_comm]
      rw [e3]
    rw [e1, bstep_fed, ih, e2, ← BitVec.shiftRight_add, Nat.add_comm 1 n]

theorem bits8_ext (b : UInt8) : (List.range 8).map (ext b).getLsbD = bits8 b := by
  unfold bits8
  apply List.map_congr_left
  intro k hk
  have := List.mem_range.1 hk
  exact ext_bit b k (by omega)

theorem ext_gone (b : UInt8) : ext b >>> 8 = 0#32 := by
  apply BitVec.eq_of_toNat_eq
  have := UInt8.toNat_lt b
  simp [ext, BitVec.toNat_ushiftRight, Nat.shiftRight_eq_div_pow]
  omega

/-- a byte is fed by one look into the table -/
theorem crc_byte (r : W) (b : UInt8) : crcB r (bits8 b) = T (r ^^^ ext b) := by
  unfold T
  rw [crcB_fed, bits8_ext, ext_gone]; simp

theorem T_xor (a b : W) : T (a ^^^ b) = T a ^^^ T b := by
  unfold T
  have h : ∀ (n : Nat) (a b : W), crcB (a ^^^ b) (List.replicate n false) = crcB a (List.replicate n false) ^^^ crcB b (List.replicate n false) := by
    intro n
    induction n with
    | zero => intro a b; rfl
    | succ n ih =>
      intro a b
      simp only [crcB, List.replicate_succ, List.foldl_cons]
      have := bstep_xor a b false false
      rw [Bool.xor_self] at this
      rw [this]
      exact ih _ _
  exact h 8 a b

theorem crcB_zero (n : Nat) : crcB 0#32 (List.replicate n false) = 0#32 := by
  induction n with
  | zero => rfl
  | succ n ih =>
    simp only [crcB, List.replicate_succ, List.foldl_cons]
    have : bstep 0#32 false = 0#32 := by decide
    rw [this]; exact ih

theorem T_split (x : W) : T x = T (x &&& 255#32) ^^^ (x >>> 8) := by
  have e : x = (x &&& 255#32) ^^^ ((x >>> 8) <<< 8) := by
    apply BitVec.eq_of_getLsbD_eq
    intro k hk
    simp only [BitVec.getLsbD_xor, BitVec.getLsbD_and, BitVec.getLsbD_shiftLeft, BitVec.getLsbD_ushiftRight, hk, decide_true, Bool.true_and]
    have h255 : (255#32 : W).getLsbD k = decide (k < 8) := by
      have : ∀ j : Fin 32, (255#32 : W).getLsbD j.val = decide (j.val < 8) := by decide
      exact this ⟨k, hk⟩
    rw [h255]
    by_cases h8 : k < 8
    · simp [h8]
    · simp [h8, show 8 + (k - 8) = k by omega]
  have h := T_xor (x &&& 255#32) ((x >>> 8) <<< 8)
  rw [← e] at h
  rw [h]
  congr 1
  have h2 := crcB_fed 8 0#32 ((x >>> 8) <<< 8)
  rw [BitVec.zero_xor] at h2
  unfold T
  rw [h2]
  have e3 : (List.range 8).map ((x >>> 8) <<< 8).getLsbD = List.replicate 8 false := by
    rw [List.eq_replicate_iff]
    refine ⟨by simp, ?_⟩
    intro b hb
    obtain ⟨k, hk, rfl⟩ := List.mem_map.1 hb
    have := List.mem_range.1 hk
    simp [BitVec.getLsbD_shiftLeft, this]
  rw [e3, crcB_zero, BitVec.zero_xor]
  apply BitVec.eq_of_getLsbD_eq
  intro k hk
  simp only [BitVec.getLsbD_shiftLeft, BitVec.getLsbD_ushiftRight]
  by_cases h : 8 + k < 32
  · simp [h]
  · simp [h, BitVec.getLsbD_of_ge x (8 + k) (by omega)]

theorem ext_low (r : W) (b : UInt8) : (r ^^^ ext b) >>> 8 = r >>> 8 := by
  have : (r ^^^ ext b) >>> 8 = (r >>> 8) ^^^ (ext b >>> 8) := by
    apply BitVec.eq_of_getLsbD_eq
    intro k hk
    simp [BitVec.getLsbD_ushiftRight, BitVec.getLsbD_xor]
  rw [this, ext_gone]; simp

/-- the program's round -/
theorem crc_round (r : W) (b : UInt8) : crcB r (bits8 b) = T ((r ^^^ ext b) &&& 255#32) ^^^ (r >>> 8) := by
  rw [crc_byte, T_split, ext_low]

/-! ### bits that are turned within 32 in a row -/
theorem crcB_append (r : W) (a b : List Bool) : crcB r (a ++ b) = crcB (crcB r a) b := by simp [crcB, List.foldl_append]

theorem crcB_zeros {r : W} (n : Nat) (h : crcB r (List.replicate n false) = 0#32) : r = 0#32 := by
  rw [← crcB_zero n] at h; exact crcB_inj h

/-- the number whose bits, from the least on, are those of the list -/
def numOf : List Bool → Nat
  | [] => 0
  | b :: l => b.toNat + 2 * numOf l

theorem numOf_lt (l : List Bool) : numOf l < 2 ^ l.length := by
  induction l with
  | nil => simp [numOf]
  | cons b l ih => simp only [numOf, List.length_cons, Nat.pow_succ]; cases b <;> simp <;> omega

theorem numOf_zero (l : List Bool) (h : numOf l = 0) : ∀ b ∈ l, b = false := by
  induction l with
  | nil => simp
  | cons b l ih =>
    simp only [numOf] at h
    intro x hx
    cases b with
    | true => simp at h
    | false =>
      rcases List.mem_cons.1 hx with rfl | hx
      · rfl
      · exact ih (by simp at h; omega) x hx

/-- fed with at most 32 bits a register comes to 0 only if it is made of those very bits -/
theorem crcB_burst (l : List Bool) (hl : l.length ≤ 32) (r : W) (h : crcB r l = 0#32) : r.toNat = numOf l := by
  induction l generalizing r with
  | nil => simp only [crcB, List.foldl_nil] at h; subst h; rfl
  | cons m l ih =>
    have h1 := ih (by simp at hl; omega) (bstep r m) h
    have hlt := numOf_lt l
    have hp : 2 ^ l.length ≤ 2 ^ 31 := Nat.pow_le_pow_right (by decide) (by simp at hl; omega)
    have htop : (bstep r m).getLsbD 31 = false := by
      rw [BitVec.getLsbD, Nat.testBit_lt_two_pow]; omega
    rw [bstep_bit _ _ 31 (by omega), poly_top] at htop
    simp at htop
    have hm : r.getLsbD 0 = m := by cases h3 : r.getLsbD 0 <;> cases m <;> simp_all
    have e : bstep r m = r >>> 1 := by rw [← hm]; exact bstep_own r
    rw [e, BitVec.toNat_ushiftRight, Nat.shiftRight_eq_div_pow] at h1
    simp only [numOf]
    have hm2 : m.toNat = r.toNat % 2 := by
      rw [← hm, BitVec.getLsbD, Nat.testBit_zero]
      cases h4 : decide (r.toNat % 2 = 1) <;> simp at h4 <;> simp <;> omega
    omega

/-- a difference that lies within 32 bits in a row shows -/
theorem crcB_shows (a c : Nat) (l : List Bool) (hl : l.length ≤ 32) (h : crcB 0#32 (List.replicate a false ++ l ++ List.replicate c false) = 0#32) : ∀ x ∈ l, x = false := by
  rw [crcB_append, crcB_append, crcB_zero] at h
  have h1 := crcB_zeros c h
  have h2 := crcB_burst l hl 0#32 h1
  exact numOf_zero l h2.symm

/-! ### long division -/
/-- the first bits of l changed where those of m are set -/
def xorPre : List Bool → List Bool → List Bool
  | l, [] => l
  | [], _ => []
  | x :: l, y :: m => (x ^^ y) :: xorPre l m

/-- n steps of the division by x^32 and the bits p below -/
def ldiv (p : List Bool) : Nat → List Bool → List Bool
  | 0, l => l
  | _ + 1, [] => []
  | n + 1, b :: l => ldiv p n (if b then xorPre l p else l)

/-- the register's bits, the least first -/
def bitsW (r : W) : List Bool := (List.range 32).map r.getLsbD

theorem xorPre_nil (l : List Bool) : xorPre l [] = l := by cases l <;> rfl

theorem xorPre_twice (l a b : List Bool) (h : a.length = b.length) : xorPre (xorPre l a) b = xorPre l (List.zipWith (fun x y => x ^^ y) a b) := by
  induction a generalizing l b with
  | nil =>
    cases b with
    | nil => cases l <;> rfl
    | cons _ _ => simp at h
  | cons x a ih =>
    cases b with
    | nil => simp at h
    | cons y b =>
      cases l with
      | nil => rfl
      | cons z l =>
        simp only [xorPre, List.zipWith_cons_cons, ih l b (by simpa using h), Bool.xor_assoc]

theorem xorPre_end (l a : List Bool) : xorPre l (a ++ [false]) = xorPre l a := by
  induction a generalizing l with
  | nil => cases l with
    | nil => rfl
    | cons z l => simp [xorPre, xorPre_nil]
  | cons x a ih => cases l with
    | nil => rfl
    | cons z l => simp only [List.cons_append, xorPre, ih]

theorem xorPre_len (l a : List Bool) : (xorPre l a).length = l.length := by
  induction a generalizing l with
  | nil => rw [xorPre_nil]
  | cons x a ih => cases l with
    | nil => rfl
    | cons z l => simp [xorPre, ih]

theorem xorPre_zeros (a : List Bool) : xorPre (List.replicate a.length false) a = a := by
  induction a with
  | nil => rfl
  | cons x a ih => simp [List.replicate_succ, xorPre, ih]

theorem bitsW_len (r : W) : (bitsW r).length = 32 := by simp [bitsW]

theorem bitsW_cons (r : W) : bitsW r = r.getLsbD 0 :: (List.range 31).map (fun k => r.getLsbD (k + 1)) := by
  unfold bitsW
  have e : List.range 32 = 0 :: (List.range 31).map Nat.succ := rfl
  rw [e]
  simp [List.map_map, Function.comp_def]

theorem bitsW_shift (r : W) : bitsW (r >>> 1) = (List.range 31).map (fun k => r.getLsbD (k + 1)) ++ [false] := by
  unfold bitsW
  have e : List.range 32 = List.range 31 ++ [31] := rfl
  have e2 : (List.range 31).map (r >>> 1).getLsbD = (List.range 31).map (fun k => r.getLsbD (k + 1)) := by
    apply List.map_congr_left
    intro k _
    simp only [BitVec.getLsbD_ushiftRight, Nat.add_comm]
  have e3 : (r >>> 1).getLsbD 31 = false := by
    rw [BitVec.getLsbD_ushiftRight]; exact BitVec.getLsbD_of_ge r _ (by omega)
  rw [e, List.map_append, e2]
  simp only [List.map_cons, List.map_nil, e3]

theorem bitsW_xor (a b : W) : bitsW (a ^^^ b) = List.zipWith (fun x y => x ^^ y) (bitsW a) (bitsW b) := by
  unfold bitsW
  rw [List.zipWith_map, List.zipWith_self]
  apply List.map_congr_left
  intro k _
  simp [BitVec.getLsbD_xor]

theorem ldiv_crc (m : List Bool) (r : W) : ldiv (bitsW poly) m.length (xorPre (m ++ List.replicate 32 false) (bitsW r)) = bitsW (crcB r m) := by
  induction m generalizing r with
  | nil =>
    have := xorPre_zeros (bitsW r)
    rw [bitsW_len] at this
    simpa [ldiv, crcB] using this
  | cons b m ih =>
    have h1 : xorPre ((b :: m) ++ List.replicate 32 false) (bitsW r) = (b ^^ r.getLsbD 0) :: xorPre (m ++ List.replicate 32 false) (bitsW (r >>> 1)) := by
      rw [bitsW_cons r, bitsW_shift, xorPre_end]; rfl
    rw [h1]
    show ldiv (bitsW poly) m.length (if (b ^^ r.getLsbD 0) = true then _ else _) = _
    have h2 : crcB r (b :: m) = crcB (bstep r b) m := rfl
    rw [h2, ← ih (bstep r b)]
    congr 1
    unfold bstep
    by_cases h : (b ^^ r.getLsbD 0) = true
    · have h' : (r.getLsbD 0 != b) = true := by cases b <;> cases h5 : r.getLsbD 0 <;> simp_all
      rw [if_pos h, if_pos h', xorPre_twice _ _ _ (by rw [bitsW_len, bitsW_len]), bitsW_xor]
    · have h' : ¬ (r.getLsbD 0 != b) = true := by cases b <;> cases h5 : r.getLsbD 0 <;> simp_all
      rw [if_neg h, if_neg h']

end Go.Proofs.YthenhfhffnjflaaDoor.SumP
