/- numbers' contracts for the plain machine -/
import Derived.Test.YtcecopdkaalfkaaPdValue
import Derived.Test.YtcecopdkaalfkaaNumBegun
import Derived.Test.YtcecopdkaalfkaaNumBack
namespace Go.Proofs.Ytcecopdkaalfkaa.Pm
open Go.RowKit K NumP NumW NumRd NumZ NumL
set_option linter.unusedVariables false
set_option linter.unusedSimpArgs false
set_option maxRecDepth 100000

def okLong (l : List UInt8) : Prop := l.length ≤ 281474976710656
theorem okLong_of {l : List UInt8} (h : okText l) : okLong l := by unfold okText at h; unfold okLong; omega
theorem rep_tup3 {σ : Sg} {F : Fzn} {w : World} {k1 k2 k3 : IntKind} (a b c : Int) : PRep σ F w (.tup [pInt k1 a, pInt k2 b, pInt k3 c]) (.tuple #[.int k1 a, .int k2 b, .int k3 c]) := by
  unfold PRep
  exact ⟨[_, _, _], rfl, by unfold PsRep; exact ⟨rep_int _ _, by unfold PsRep; exact ⟨rep_int _ _, by unfold PsRep; exact ⟨rep_int _ _, by unfold PsRep; trivial⟩⟩⟩⟩
abbrev res3 (k : IntKind) (a b c : Int) : PV := .tup [pInt k a, pInt .i64 b, pInt .i64 c]
theorem p_numwrite (n : Int) (h0 : 0 ≤ n) (h1 : n ≤ 18446744073709551615) : Pure Try.prog 20 [pInt .u64 n] (pStr (tx (numB 9 n.toNat))) := by
  refine pure_hand (vs := [.int .u64 n]) ⟨_, Try.func20, by rfl, by rfl⟩ fun w hG => ?_
  refine (write_any n w h0 h1).mono ?_
  rintro e w' ⟨rfl, hb⟩
  exact ⟨_, rfl, hb, fun F _ => rep_str _⟩
theorem p_numbytes (n : Int) (h0 : 0 ≤ n) (h1 : n ≤ 18446744073709551615) : Pure Try.prog 28 [pInt .u64 n] (pStr (tx (numB 9 n.toNat))) := by
  refine pure_hand (vs := [.int .u64 n]) ⟨_, Try.func28, by rfl, by rfl⟩ fun w hG => ?_
  refine (bytes_any 9 n w h0 (by have e : (128 : Nat) ^ 9 * 2 = 18446744073709551616 := by decide
                                 omega) (by decide)).mono ?_
  rintro e w' ⟨rfl, hb⟩
  exact ⟨_, rfl, hb, fun F _ => rep_str _⟩
theorem p_signed (n : Int) (h : okInt n) : Pure Try.prog 43 [pInt .i64 n] (pStr (tx (numB 9 (zig n).toNat))) := by
  refine pure_hand (vs := [.int .i64 n]) ⟨_, Try.func43, by rfl, by rfl⟩ fun w hG => ?_
  refine (signed_any n w h.1 h.2).mono ?_
  rintro e w' ⟨rfl, hb⟩
  exact ⟨_, rfl, hb, fun F _ => rep_str _⟩
theorem p_zigof (n : Int) (h : okInt n) : Pure Try.prog 29 [pInt .i64 n] (pInt .u64 (zig n)) := by
  refine pure_hand (vs := [.int .i64 n]) ⟨_, Try.func29, by rfl, by rfl⟩ fun w hG => ?_
  refine (zigof_any n w h.1 h.2).mono ?_
  rintro e w' ⟨rfl, rfl⟩
  exact ⟨_, rfl, Below.refl _ _, fun F _ => rep_int _ _⟩
abbrev numRes (l : List UInt8) : PV := res3 .u64 ((numR l).1 : Int) ((numR l).2.1 : Int) ((numR l).2.2 : Int)
abbrev sigRes (l : List UInt8) : PV := res3 .i64 (zag ((numR l).1 : Int)) ((numR l).2.1 : Int) ((numR l).2.2 : Int)
theorem p_numread (l : List UInt8) (hl : okLong l) : Pure Try.prog 44 [pStr (tx l)] (numRes l) := by
  refine pure_hand (vs := [.string (tx l)]) ⟨_, Try.func44, by rfl, by rfl⟩ fun w hG => ?_
  refine (read_any (tx l) w (by have := hl; unfold okLong at this; rw [tx_size]; omega)).mono ?_
  rintro e w' ⟨rfl, rfl⟩
  exact ⟨_, rfl, Below.refl _ _, fun F _ => rep_tup3 _ _ _⟩
theorem p_numof (l : List UInt8) (hl : okLong l) : Pure Try.prog 31 [pStr (tx l)] (numRes l) := by
  refine pure_hand (vs := [.string (tx l)]) ⟨_, Try.func31, by rfl, by rfl⟩ fun w hG => ?_
  refine (numof_any (tx l) w (by have := hl; unfold okLong at this; rw [tx_size]; omega)).mono ?_
  rintro e w' ⟨rfl, rfl⟩
  exact ⟨_, rfl, Below.refl _ _, fun F _ => rep_tup3 _ _ _⟩
theorem p_rsigned (l : List UInt8) (hl : okLong l) : Pure Try.prog 46 [pStr (tx l)] (sigRes l) := by
  refine pure_hand (vs := [.string (tx l)]) ⟨_, Try.func46, by rfl, by rfl⟩ fun w hG => ?_
  refine (rsigned_any (tx l) w (by have := hl; unfold okLong at this; rw [tx_size]; omega)).mono ?_
  rintro e w' ⟨rfl, rfl⟩
  exact ⟨_, rfl, Below.refl _ _, fun F _ => rep_tup3 _ _ _⟩
theorem p_signedof (l : List UInt8) (hl : okLong l) : Pure Try.prog 32 [pStr (tx l)] (sigRes l) := by
  refine pure_hand (vs := [.string (tx l)]) ⟨_, Try.func32, by rfl, by rfl⟩ fun w hG => ?_
  refine (signedof_any (tx l) w (by have := hl; unfold okLong at this; rw [tx_size]; omega)).mono ?_
  rintro e w' ⟨rfl, rfl⟩
  exact ⟨_, rfl, Below.refl _ _, fun F _ => rep_tup3 _ _ _⟩
/-! ### what a row is as bytes; reading -/
def vW (v : ValueD) : List UInt8 := by1 v.Kind :: (if v.Kind = 1 then numB 9 (zig v.N).toNat else if 2 ≤ v.Kind then numB 9 v.S.length ++ v.S else [])
def rowW (l : List ValueD) : List UInt8 := numB 9 l.length ++ l.flatMap vW
abbrev z0 : ValueD := ⟨0, 0, []⟩
def vRd : List UInt8 → ValueD × Nat × Int
  | [] => (z0, 0, 5)
  | b :: r =>
    if 3 < b.toNat then (z0, 0, 7)
    else if b.toNat = 0 then (z0, 1, 0)
    else if b.toNat = 1 then (if (numR r).2.2 ≠ 0 then (z0, 0, ((numR r).2.2 : Int)) else (⟨1, zag ((numR r).1 : Int), []⟩, 1 + (numR r).2.1, 0))
    else if (numR r).2.2 ≠ 0 then (z0, 0, ((numR r).2.2 : Int))
    else if 16 < (numR r).1 then (z0, 0, 2)
    else if r.length < (numR r).2.1 + (numR r).1 then (z0, 0, 5)
    else (⟨(b.toNat : Int), 0, (r.drop (numR r).2.1).take (numR r).1⟩, 1 + (numR r).2.1 + (numR r).1, 0)
theorem vRd_cons (b : UInt8) (r : List UInt8) : vRd (b :: r) =
    if 3 < b.toNat then (z0, 0, 7)
    else if b.toNat = 0 then (z0, 1, 0)
    else if b.toNat = 1 then (if (numR r).2.2 ≠ 0 then (z0, 0, ((numR r).2.2 : Int)) else (⟨1, zag ((numR r).1 : Int), []⟩, 1 + (numR r).2.1, 0))
    else if (numR r).2.2 ≠ 0 then (z0, 0, ((numR r).2.2 : Int))
    else if 16 < (numR r).1 then (z0, 0, 2)
    else if r.length < (numR r).2.1 + (numR r).1 then (z0, 0, 5)
    else (⟨(b.toNat : Int), 0, (r.drop (numR r).2.1).take (numR r).1⟩, 1 + (numR r).2.1 + (numR r).1, 0) := rfl
def rowGo : Nat → List UInt8 → List ValueD × Nat × Int
  | 0, _ => ([], 0, 0)
  | k + 1, l => if (vRd l).2.2 ≠ 0 then ([], 0, (vRd l).2.2) else
      if (rowGo k (l.drop (vRd l).2.1)).2.2 ≠ 0 then ([], 0, (rowGo k (l.drop (vRd l).2.1)).2.2) else ((vRd l).1 :: (rowGo k (l.drop (vRd l).2.1)).1, (vRd l).2.1 + (rowGo k (l.drop (vRd l).2.1)).2.1, 0)
def fin (vs : List ValueD) (at_ : Nat) (z : List ValueD × Nat × Int) : List ValueD × Nat × Int := if z.2.2 ≠ 0 then ([], 0, z.2.2) else (vs ++ z.1, at_ + z.2.1, 0)
def rowR (l : List UInt8) : List ValueD × Nat × Int :=
  if (numR l).2.2 ≠ 0 then ([], 0, ((numR l).2.2 : Int)) else if 8 < (numR l).1 then ([], 0, 2) else fin [] (numR l).2.1 (rowGo (numR l).1 (l.drop (numR l).2.1))
theorem fin_bad {vs : List ValueD} {at_ k : Nat} {l : List UInt8} (h : (vRd l).2.2 ≠ 0) : fin vs at_ (rowGo (k + 1) l) = ([], 0, (vRd l).2.2) := by
  unfold fin rowGo
  rw [if_pos h]
  simp only
  rw [if_pos h]
theorem fin_step {vs : List ValueD} {at_ k : Nat} {l : List UInt8} (h : (vRd l).2.2 = 0) : fin vs at_ (rowGo (k + 1) l) = fin (vs ++ [(vRd l).1]) (at_ + (vRd l).2.1) (rowGo k (l.drop (vRd l).2.1)) := by
  have e : rowGo (k + 1) l = if (rowGo k (l.drop (vRd l).2.1)).2.2 ≠ 0 then ([], 0, (rowGo k (l.drop (vRd l).2.1)).2.2) else ((vRd l).1 :: (rowGo k (l.drop (vRd l).2.1)).1, (vRd l).2.1 + (rowGo k (l.drop (vRd l).2.1)).2.1, 0) := by
    conv => lhs; unfold rowGo
    rw [if_neg (not_not_intro h)]
  rw [e]
  generalize rowGo k (l.drop (vRd l).2.1) = z
  unfold fin
  by_cases hz : z.2.2 = 0
  · simp [hz, Nat.add_assoc]
  · simp [hz]
theorem fin_end {vs : List ValueD} {at_ : Nat} {l : List UInt8} : fin vs at_ (rowGo 0 l) = (vs, at_, 0) := by
  unfold fin rowGo
  simp
theorem vRd_size (l : List UInt8) : (vRd l).2.1 ≤ l.length ∧ ((vRd l).2.2 = 0 → 1 ≤ (vRd l).2.1) := by
  cases l with
  | nil => simp [vRd]
  | cons b r =>
    unfold vRd
    have ho := numR_only r
    simp only [List.length_cons]
    (repeat' split) <;> simp <;> omega
end Go.Proofs.Ytcecopdkaalfkaa.Pm
