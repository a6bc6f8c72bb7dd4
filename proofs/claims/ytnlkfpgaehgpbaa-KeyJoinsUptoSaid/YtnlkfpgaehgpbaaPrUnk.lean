/- record.Unkey -/
import Derived.Test.YtnlkfpgaehgpbaaPrKey
namespace Go.Proofs.Ytnlkfpgaehgpbaa.Pm
open Go.RowKit K NumP NumW NumRd NumZ NumL
set_option linter.unusedVariables false
set_option linter.unusedSimpArgs false
set_option maxRecDepth 100000

def unb : List UInt8 → Option (List UInt8 × List UInt8)
  | [] => none
  | [_] => none
  | a :: b :: r => if a ≠ 0 then (match unb (b :: r) with | some (t, q) => some (a :: t, q) | none => none)
    else if b = 1 then some ([], r) else if b = 255 then (match unb r with | some (t, q) => some (0 :: t, q) | none => none) else none
def comb (out : List UInt8) : Option (List UInt8 × List UInt8) → Option (List UInt8 × List UInt8)
  | none => none
  | some (t, q) => some (out ++ t, q)
theorem comb_nil (x : Option (List UInt8 × List UInt8)) : comb [] x = x := by cases x <;> rfl
theorem comb_snoc (out : List UInt8) (a : UInt8) (x : Option (List UInt8 × List UInt8)) : comb out (match x with | some (t, q) => some (a :: t, q) | none => none) = comb (out ++ [a]) x := by
  cases x with
  | none => rfl
  | some p => obtain ⟨t, q⟩ := p; simp [comb]
theorem unb_two (a b : UInt8) (r : List UInt8) : unb (a :: b :: r) = if a ≠ 0 then (match unb (b :: r) with | some (t, q) => some (a :: t, q) | none => none)
    else if b = 1 then some ([], r) else if b = 255 then (match unb r with | some (t, q) => some (0 :: t, q) | none => none) else none := by
  conv => lhs; unfold unb
def unbR (l : List UInt8) : List UInt8 × List UInt8 × Bool := match unb l with
  | some (t, q) => (t, q, true)
  | none => ([], [], false)
theorem drop_two {l : List UInt8} {i : Nat} (h : i + 1 < l.length) : l.drop i = l.getD i 0 :: l.getD (i + 1) 0 :: l.drop (i + 2) := by
  rw [drop_at (by omega), drop_at h]
theorem p_unbytes (l : List UInt8) (hl : okText l) : Pure Try.prog 58 [pStr (tx l)] (.tup [pStr (tx (unbR l).1), pStr (tx (unbR l).2.1), pBool (unbR l).2.2]) := by
  have hl2 := hl
  unfold okText at hl2
  have tz := tx_size l
  refine pure_of Try.func58 (by rfl) rfl (by kernel_rfl) (by rfl) ?_
  (((conv => whnf); repeat ((first | with_reducible refine BCase.tt ?_ | with_reducible refine BCase.ff ?_); (conv => whnf))); repeat' (first | ((first | with_reducible refine Wr.u8 ?_ | ((first | with_reducible refine Wr.ci ?s ?_ | with_reducible refine Wr.c3 ?s ?_ | with_reducible refine Wr.c6 ?s ?_ | with_reducible refine BCase.dt ?s ?_); case s => (first | omega | (simp only [lens, true_and, and_true]; (try omega); done))) | (with_reducible refine BCase.df ?s ?_; case s => (first | omega | (simp only [lens, true_and, and_true]; (try omega); done))) | (with_reducible refine Need.mk ?s ?_; case s => first | (first | omega | (simp only [lens, true_and, and_true]; (try omega); done)) | decide | kernel_rfl) | refine BCase.t (by decide) ?_ | refine BCase.f (by decide) ?_); ((conv => whnf); repeat ((first | with_reducible refine BCase.tt ?_ | with_reducible refine BCase.ff ?_); (conv => whnf)))) | ((with_reducible refine EmpOr.app ?_); ((conv => whnf); repeat ((first | with_reducible refine BCase.tt ?_ | with_reducible refine BCase.ff ?_); (conv => whnf)))) | (first | with_reducible refine BCase.not ?_ | with_reducible refine BCase.and ?_ | with_reducible refine BCase.or ?_) | ((with_reducible refine BCase.d (fun _ => ?_) (fun _ => ?_)) <;> ((conv => whnf); repeat ((first | with_reducible refine BCase.tt ?_ | with_reducible refine BCase.ff ?_); (conv => whnf))))))
  refine LoopC.mk (Nat × List UInt8) (fun s => [(0, pStr (tx l)), (5, .d (.app 60 tByte 1 (byteRows s.2))), (6, pInt .i64 s.1)]) (fun s => [(60, .tail tByte 1)]) [60] (fun s => s.2.length ≤ s.1 ∧ s.1 ≤ l.length ∧ unb l = comb s.2 (unb (l.drop s.1))) (fun s => l.length - s.1) (0, []) ⟨Nat.zero_le _, Nat.zero_le _, (comb_nil _).symm⟩ ?start ?round
  case start => exact ⟨[], rfl, rfl, ⟨.inl rfl, ⟨rfl, rfl, Nat.zero_lt_one, rfl, rfl⟩, .inl rfl, trivial⟩, ⟨rfl, Nat.zero_lt_one⟩, trivial⟩
  case round =>
    rintro ⟨i, out⟩ ⟨ho, hi, hz⟩
    simp only at ho hi hz ⊢
    have hb := bRows_length out
    by_cases h1 : i + 1 < l.length
    · rw [drop_two h1, unb_two] at hz
      by_cases ha : l.getD i 0 = 0
      · have ha' : ((l.getD i 0).toNat : Int) = 0 := by rw [ha]; rfl
        rw [if_neg (not_not_intro ha)] at hz
        by_cases hb1 : l.getD (i + 1) 0 = 1
        · have hb1' : ((l.getD (i + 1) 0).toNat : Int) = 1 := by rw [hb1]; rfl
          rw [if_pos hb1] at hz
          have e2 : (tx l).extract ((i : Int) + 2).toNat ((l.length : Nat) : Int).toNat = tx (l.drop (i + 2)) := by
            rw [show (i : Int) + 2 = ((i + 2 : Nat) : Int) by omega]; exact drop_tx l (i + 2)
          have hr : unbR l = (out, l.drop (i + 2), true) := by unfold unbR; rw [hz]; simp [comb]
          rw [hr]
          (((conv => whnf); repeat ((first | with_reducible refine BCase.tt ?_ | with_reducible refine BCase.ff ?_); (conv => whnf))); repeat' (first | ((first | with_reducible refine Wr.u8 ?_ | ((first | with_reducible refine Wr.ci ?s ?_ | with_reducible refine Wr.c3 ?s ?_ | with_reducible refine Wr.c6 ?s ?_ | with_reducible refine BCase.dt ?s ?_); case s => (first | omega | (simp only [lens, true_and, and_true]; (try omega); done))) | (with_reducible refine BCase.df ?s ?_; case s => (first | omega | (simp only [lens, true_and, and_true]; (try omega); done))) | (with_reducible refine Need.mk ?s ?_; case s => first | (first | omega | (simp only [lens, true_and, and_true]; (try omega); done)) | decide | kernel_rfl) | refine BCase.t (by decide) ?_ | refine BCase.f (by decide) ?_); ((conv => whnf); repeat ((first | with_reducible refine BCase.tt ?_ | with_reducible refine BCase.ff ?_); (conv => whnf)))) | (( first | refine SIdx.tx i rfl (by omega) ?_ | refine SIdx.tx (i + 1) (by omega) h1 ?_); ((conv => whnf); repeat ((first | with_reducible refine BCase.tt ?_ | with_reducible refine BCase.ff ?_); (conv => whnf)))) | (( refine BCase.df (not_not_intro ha') ?_); ((conv => whnf); repeat ((first | with_reducible refine BCase.tt ?_ | with_reducible refine BCase.ff ?_); (conv => whnf)))) | (( refine BCase.dt hb1' ?_); ((conv => whnf); repeat ((first | with_reducible refine BCase.tt ?_ | with_reducible refine BCase.ff ?_); (conv => whnf)))) | (( refine Bytes.mk' ?_); ((conv => whnf); repeat ((first | with_reducible refine BCase.tt ?_ | with_reducible refine BCase.ff ?_); (conv => whnf)))) | ((with_reducible refine EmpOr.app ?_); ((conv => whnf); repeat ((first | with_reducible refine BCase.tt ?_ | with_reducible refine BCase.ff ?_); (conv => whnf)))) | (first | with_reducible refine BCase.not ?_ | with_reducible refine BCase.and ?_ | with_reducible refine BCase.or ?_) | ((with_reducible refine BCase.d (fun _ => ?_) (fun _ => ?_)) <;> ((conv => whnf); repeat ((first | with_reducible refine BCase.tt ?_ | with_reducible refine BCase.ff ?_); (conv => whnf))))))
          refine Ret.mk ?_
          show PV.tup [_, pStr ((tx l).extract ((i : Int) + 2).toNat ((l.length : Nat) : Int).toNat), _] = _
          rw [e2]; rfl
        · have hb1' : ¬ ((l.getD (i + 1) 0).toNat : Int) = 1 := fun e => hb1 (u8_eq (b := 1) |>.1 e)
          rw [if_neg hb1] at hz
          by_cases hb2 : l.getD (i + 1) 0 = 255
          · have hb2' : ((l.getD (i + 1) 0).toNat : Int) = 255 := by rw [hb2]; rfl
            rw [if_pos hb2, comb_snoc] at hz
            (((conv => whnf); repeat ((first | with_reducible refine BCase.tt ?_ | with_reducible refine BCase.ff ?_); (conv => whnf))); repeat' (first | ((first | with_reducible refine Wr.u8 ?_ | ((first | with_reducible refine Wr.ci ?s ?_ | with_reducible refine Wr.c3 ?s ?_ | with_reducible refine Wr.c6 ?s ?_ | with_reducible refine BCase.dt ?s ?_); case s => (first | omega | (simp only [lens, true_and, and_true]; (try omega); done))) | (with_reducible refine BCase.df ?s ?_; case s => (first | omega | (simp only [lens, true_and, and_true]; (try omega); done))) | (with_reducible refine Need.mk ?s ?_; case s => first | (first | omega | (simp only [lens, true_and, and_true]; (try omega); done)) | decide | kernel_rfl) | refine BCase.t (by decide) ?_ | refine BCase.f (by decide) ?_); ((conv => whnf); repeat ((first | with_reducible refine BCase.tt ?_ | with_reducible refine BCase.ff ?_); (conv => whnf)))) | (( first | refine SIdx.tx i rfl (by omega) ?_ | refine SIdx.tx (i + 1) (by omega) h1 ?_); ((conv => whnf); repeat ((first | with_reducible refine BCase.tt ?_ | with_reducible refine BCase.ff ?_); (conv => whnf)))) | (( refine BCase.df (not_not_intro ha') ?_); ((conv => whnf); repeat ((first | with_reducible refine BCase.tt ?_ | with_reducible refine BCase.ff ?_); (conv => whnf)))) | (( refine BCase.df hb1' ?_); ((conv => whnf); repeat ((first | with_reducible refine BCase.tt ?_ | with_reducible refine BCase.ff ?_); (conv => whnf)))) | (( refine BCase.dt hb2' ?_); ((conv => whnf); repeat ((first | with_reducible refine BCase.tt ?_ | with_reducible refine BCase.ff ?_); (conv => whnf)))) | (( refine Need.by 1 rfl (by simp only [List.length_append, List.length_singleton, hb]; omega) ?_); ((conv => whnf); repeat ((first | with_reducible refine BCase.tt ?_ | with_reducible refine BCase.ff ?_); (conv => whnf)))) | ((with_reducible refine EmpOr.app ?_); ((conv => whnf); repeat ((first | with_reducible refine BCase.tt ?_ | with_reducible refine BCase.ff ?_); (conv => whnf)))) | (first | with_reducible refine BCase.not ?_ | with_reducible refine BCase.and ?_ | with_reducible refine BCase.or ?_) | ((with_reducible refine BCase.d (fun _ => ?_) (fun _ => ?_)) <;> ((conv => whnf); repeat ((first | with_reducible refine BCase.tt ?_ | with_reducible refine BCase.ff ?_); (conv => whnf))))))
            refine ⟨(i + 2, out ++ [0]), ⟨by simp; omega, by simp only; omega, hz⟩, by simp only; omega, [(60, 40)], rfl, rfl, ⟨.inl rfl, ⟨rfl, rfl, rfl, rfl, ?_⟩, PLe.int (by simp only; omega), trivial⟩, ⟨rfl, rfl, rfl⟩, trivial⟩
            rw [byteRows_append]; rfl
          · have hb2' : ¬ ((l.getD (i + 1) 0).toNat : Int) = 255 := fun e => hb2 (u8_eq (b := 255) |>.1 e)
            rw [if_neg hb2] at hz
            have hr : unbR l = ([], [], false) := by unfold unbR; rw [hz]; rfl
            rw [hr]
            (((conv => whnf); repeat ((first | with_reducible refine BCase.tt ?_ | with_reducible refine BCase.ff ?_); (conv => whnf))); repeat' (first | ((first | with_reducible refine Wr.u8 ?_ | ((first | with_reducible refine Wr.ci ?s ?_ | with_reducible refine Wr.c3 ?s ?_ | with_reducible refine Wr.c6 ?s ?_ | with_reducible refine BCase.dt ?s ?_); case s => (first | omega | (simp only [lens, true_and, and_true]; (try omega); done))) | (with_reducible refine BCase.df ?s ?_; case s => (first | omega | (simp only [lens, true_and, and_true]; (try omega); done))) | (with_reducible refine Need.mk ?s ?_; case s => first | (first | omega | (simp only [lens, true_and, and_true]; (try omega); done)) | decide | kernel_rfl) | refine BCase.t (by decide) ?_ | refine BCase.f (by decide) ?_); ((conv => whnf); repeat ((first | with_reducible refine BCase.tt ?_ | with_reducible refine BCase.ff ?_); (conv => whnf)))) | (( first | refine SIdx.tx i rfl (by omega) ?_ | refine SIdx.tx (i + 1) (by omega) h1 ?_); ((conv => whnf); repeat ((first | with_reducible refine BCase.tt ?_ | with_reducible refine BCase.ff ?_); (conv => whnf)))) | (( refine BCase.df (not_not_intro ha') ?_); ((conv => whnf); repeat ((first | with_reducible refine BCase.tt ?_ | with_reducible refine BCase.ff ?_); (conv => whnf)))) | (( refine BCase.df hb1' ?_); ((conv => whnf); repeat ((first | with_reducible refine BCase.tt ?_ | with_reducible refine BCase.ff ?_); (conv => whnf)))) | (( refine BCase.df hb2' ?_); ((conv => whnf); repeat ((first | with_reducible refine BCase.tt ?_ | with_reducible refine BCase.ff ?_); (conv => whnf)))) | ((with_reducible refine EmpOr.app ?_); ((conv => whnf); repeat ((first | with_reducible refine BCase.tt ?_ | with_reducible refine BCase.ff ?_); (conv => whnf)))) | (first | with_reducible refine BCase.not ?_ | with_reducible refine BCase.and ?_ | with_reducible refine BCase.or ?_) | ((with_reducible refine BCase.d (fun _ => ?_) (fun _ => ?_)) <;> ((conv => whnf); repeat ((first | with_reducible refine BCase.tt ?_ | with_reducible refine BCase.ff ?_); (conv => whnf))))))
            exact Ret.mk rfl
      · have ha' : ¬ ((l.getD i 0).toNat : Int) = 0 := fun e => ha (u8_eq (b := 0) |>.1 e)
        rw [if_pos ha, comb_snoc, ← drop_at h1] at hz
        (((conv => whnf); repeat ((first | with_reducible refine BCase.tt ?_ | with_reducible refine BCase.ff ?_); (conv => whnf))); repeat' (first | ((first | with_reducible refine Wr.u8 ?_ | ((first | with_reducible refine Wr.ci ?s ?_ | with_reducible refine Wr.c3 ?s ?_ | with_reducible refine Wr.c6 ?s ?_ | with_reducible refine BCase.dt ?s ?_); case s => (first | omega | (simp only [lens, true_and, and_true]; (try omega); done))) | (with_reducible refine BCase.df ?s ?_; case s => (first | omega | (simp only [lens, true_and, and_true]; (try omega); done))) | (with_reducible refine Need.mk ?s ?_; case s => first | (first | omega | (simp only [lens, true_and, and_true]; (try omega); done)) | decide | kernel_rfl) | refine BCase.t (by decide) ?_ | refine BCase.f (by decide) ?_); ((conv => whnf); repeat ((first | with_reducible refine BCase.tt ?_ | with_reducible refine BCase.ff ?_); (conv => whnf)))) | (( first | refine SIdx.tx i rfl (by omega) ?_ | refine SIdx.tx (i + 1) (by omega) h1 ?_); ((conv => whnf); repeat ((first | with_reducible refine BCase.tt ?_ | with_reducible refine BCase.ff ?_); (conv => whnf)))) | (( refine BCase.dt ha' ?_); ((conv => whnf); repeat ((first | with_reducible refine BCase.tt ?_ | with_reducible refine BCase.ff ?_); (conv => whnf)))) | (( refine Need.by 1 rfl (by simp only [List.length_append, List.length_singleton, hb]; omega) ?_); ((conv => whnf); repeat ((first | with_reducible refine BCase.tt ?_ | with_reducible refine BCase.ff ?_); (conv => whnf)))) | ((with_reducible refine EmpOr.app ?_); ((conv => whnf); repeat ((first | with_reducible refine BCase.tt ?_ | with_reducible refine BCase.ff ?_); (conv => whnf)))) | (first | with_reducible refine BCase.not ?_ | with_reducible refine BCase.and ?_ | with_reducible refine BCase.or ?_) | ((with_reducible refine BCase.d (fun _ => ?_) (fun _ => ?_)) <;> ((conv => whnf); repeat ((first | with_reducible refine BCase.tt ?_ | with_reducible refine BCase.ff ?_); (conv => whnf))))))
        refine ⟨(i + 1, out ++ [l.getD i 0]), ⟨by simp; omega, by simp only; omega, hz⟩, by simp only; omega, [(60, 23)], rfl, rfl, ⟨.inl rfl, ⟨rfl, rfl, rfl, rfl, ?_⟩, PLe.int (by simp only; omega), trivial⟩, ⟨rfl, rfl, rfl⟩, trivial⟩
        rw [byteRows_append]; rfl
    · have hn : unb (l.drop i) = none := by
        have hlen : (l.drop i).length ≤ 1 := by rw [List.length_drop]; omega
        match h : l.drop i, hlen with
        | [], _ => rfl
        | [_], _ => rfl
        | _ :: _ :: _, hq => simp at hq
      rw [hn] at hz
      have hr : unbR l = ([], [], false) := by unfold unbR; rw [hz]; rfl
      rw [hr]
      (((conv => whnf); repeat ((first | with_reducible refine BCase.tt ?_ | with_reducible refine BCase.ff ?_); (conv => whnf))); repeat' (first | ((first | with_reducible refine Wr.u8 ?_ | ((first | with_reducible refine Wr.ci ?s ?_ | with_reducible refine Wr.c3 ?s ?_ | with_reducible refine Wr.c6 ?s ?_ | with_reducible refine BCase.dt ?s ?_); case s => (first | omega | (simp only [lens, true_and, and_true]; (try omega); done))) | (with_reducible refine BCase.df ?s ?_; case s => (first | omega | (simp only [lens, true_and, and_true]; (try omega); done))) | (with_reducible refine Need.mk ?s ?_; case s => first | (first | omega | (simp only [lens, true_and, and_true]; (try omega); done)) | decide | kernel_rfl) | refine BCase.t (by decide) ?_ | refine BCase.f (by decide) ?_); ((conv => whnf); repeat ((first | with_reducible refine BCase.tt ?_ | with_reducible refine BCase.ff ?_); (conv => whnf)))) | ((with_reducible refine EmpOr.app ?_); ((conv => whnf); repeat ((first | with_reducible refine BCase.tt ?_ | with_reducible refine BCase.ff ?_); (conv => whnf)))) | (first | with_reducible refine BCase.not ?_ | with_reducible refine BCase.and ?_ | with_reducible refine BCase.or ?_) | ((with_reducible refine BCase.d (fun _ => ?_) (fun _ => ?_)) <;> ((conv => whnf); repeat ((first | with_reducible refine BCase.tt ?_ | with_reducible refine BCase.ff ?_); (conv => whnf))))))
      exact Ret.mk rfl
def fold8 : Nat → List UInt8 → Nat
  | n, [] => n
  | n, b :: l => fold8 (n * 256 + b.toNat) l
theorem fold8_snoc : ∀ (l : List UInt8) (n : Nat) (b : UInt8), fold8 n (l ++ [b]) = fold8 n l * 256 + b.toNat
  | [], n, b => rfl
  | a :: l, n, b => fold8_snoc l (n * 256 + a.toNat) b
theorem fold8_lt : ∀ (l : List UInt8), fold8 0 l < 256 ^ l.length := by
  have main : ∀ (l : List UInt8) (n k : Nat), n < 256 ^ k → fold8 n l < 256 ^ (k + l.length) := by
    intro l
    induction l with
    | nil => intro n k h; exact h
    | cons b l ih =>
      intro n k h
      have hb := UInt8.toNat_lt b
      have := ih (n * 256 + b.toNat) (k + 1) (by rw [Nat.pow_succ]; omega)
      rw [List.length_cons]
      rw [show k + 1 + l.length = k + (l.length + 1) by omega] at this
      exact this
  intro l
  have := main l 0 0 (by simp)
  simpa using this
def dec8 (l : List UInt8) : Int := (fold8 0 l : Int) - 9223372036854775808
def unkR : List UInt8 → ValueD × List UInt8 × Bool
  | [] => (z0, [], false)
  | tag :: r =>
    if tag = 5 then (z0, r, true)
    else if tag = 16 then (if r.length < 8 then (z0, [], false) else (⟨1, dec8 (r.take 8), []⟩, r.drop 8, true))
    else if tag = 32 then (⟨2, 0, (unbR r).1⟩, (unbR r).2.1, (unbR r).2.2)
    else if tag = 48 then (⟨3, 0, (unbR r).1⟩, (unbR r).2.1, (unbR r).2.2)
    else (z0, [], false)
theorem unkR_cons (tag : UInt8) (r : List UInt8) : unkR (tag :: r) =
    if tag = 5 then (z0, r, true)
    else if tag = 16 then (if r.length < 8 then (z0, [], false) else (⟨1, dec8 (r.take 8), []⟩, r.drop 8, true))
    else if tag = 32 then (⟨2, 0, (unbR r).1⟩, (unbR r).2.1, (unbR r).2.2)
    else if tag = 48 then (⟨3, 0, (unbR r).1⟩, (unbR r).2.1, (unbR r).2.2)
    else (z0, [], false) := rfl
theorem Wr.xor2 {u : Nat} (h : u < 18446744073709551616) {K : Int → Prop} (hk : K (((u + 9223372036854775808) % 18446744073709551616 : Nat) : Int)) : Wr .u64 ((BitVec.ofInt 64 (u : Int) ^^^ BitVec.ofInt 64 9223372036854775808).toNat : Int) K := by
  have e1 : BitVec.ofInt 64 (u : Int) = BitVec.ofNat 64 u := BitVec.ofInt_natCast ..
  have e2 : BitVec.ofInt 64 (9223372036854775808 : Int) = BitVec.ofNat 64 9223372036854775808 := by rw [← BitVec.ofInt_natCast]; rfl
  rw [e1, e2, BitVec.toNat_xor, BitVec.toNat_ofNat, BitVec.toNat_ofNat, Nat.mod_eq_of_lt (by omega), Nat.mod_eq_of_lt (by omega), xor_top u h]
  exact Wr.u64 (by omega) (by omega) hk
theorem Wr.back {u : Nat} (h : u < 18446744073709551616) {K : Int → Prop} (hk : K ((u : Int) - 9223372036854775808)) : Wr .i64 (((u + 9223372036854775808) % 18446744073709551616 : Nat) : Int) K := by
  refine ⟨(u : Int) - 9223372036854775808, ?_, hk⟩
  rw [IntKind.wrap_i64]
  omega
theorem Wr.shl8 {a : Nat} {K : Int → Prop} (h : a * 256 < 18446744073709551616) (hk : K ((a : Int) * 256)) : Wr .u64 ((a : Int) * 2 ^ min (8 : Int).toNat IntKind.u64.bits) K := by
  show Wr .u64 ((a : Int) * 256) K
  exact Wr.u64 (by omega) (by omega) hk
theorem Wr.or8 {a : Nat} {b : UInt8} {K : Int → Prop} (h : a * 256 < 18446744073709551616) (hk : K ((a * 256 + b.toNat : Nat) : Int)) : Wr .u64 ((BitVec.ofInt 64 ((a : Int) * 256) ||| BitVec.ofInt 64 (b.toNat : Int)).toNat : Int) K := by
  have hb := UInt8.toNat_lt b
  have e1 : BitVec.ofInt 64 ((a : Int) * 256) = BitVec.ofNat 64 (a * 256) := by rw [← BitVec.ofInt_natCast]; rfl
  have e2 : BitVec.ofInt 64 (b.toNat : Int) = BitVec.ofNat 64 b.toNat := BitVec.ofInt_natCast ..
  rw [e1, e2, BitVec.toNat_or, BitVec.toNat_ofNat, BitVec.toNat_ofNat, Nat.mod_eq_of_lt h, Nat.mod_eq_of_lt (by omega)]
  have hq := Nat.shiftLeft_add_eq_or_of_lt (i := 8) (b := b.toNat) (by omega) a
  rw [Nat.shiftLeft_eq] at hq
  rw [show a * 256 = a * 2 ^ 8 from rfl, ← hq]
  exact Wr.u64 (by omega) (by omega) hk
theorem take_getD {l : List UInt8} {k : Nat} (h : k < l.length) : l.take (k + 1) = l.take k ++ [l.getD k 0] := by
  rw [take_snoc h, List.getD_eq_getElem?_getD, List.getElem?_eq_getElem h]; rfl
theorem p_unkeyed (tag : UInt8) (r : List UInt8) (hl : okText (tag :: r)) : Pure Try.prog 42 [pStr (tx (tag :: r))] (.tup [vV (unkR (tag :: r)).1, pStr (tx (unkR (tag :: r)).2.1), pBool (unkR (tag :: r)).2.2]) := by
  have hl2 := hl
  unfold okText at hl2
  have tl : (tag :: r).length = r.length + 1 := rfl
  have tz := tx_size (tag :: r)
  have tzr := tx_size r
  have i0 : ∀ {K : Int → Prop}, K (tag.toNat : Int) → SIdx (tx (tag :: r)) 0 K := fun h => SIdx.tx (l := tag :: r) 0 rfl (by omega) h
  have e1 : (tx (tag :: r)).extract (1 : Int).toNat (((tag :: r).length : Nat) : Int).toNat = tx r := by
    rw [extract_tx, Int.toNat_natCast]
    exact congrArg tx (List.take_of_length_le (by simp))
  have hr : okText r := by unfold okText; omega
  have hlen : ((tx (tag :: r)).extract (1 : Int).toNat (((tag :: r).length : Nat) : Int).toNat).size = r.length := by rw [e1]; rfl
  have hlen' : ((tx (tag :: r)).extract (1 : Int).toNat (((tx (tag :: r)).size : Nat) : Int).toNat).size = r.length := hlen
  refine pure_of Try.func42 (by rfl) rfl (by kernel_rfl) (by rfl) ?_
  rw [unkR_cons]
  by_cases c5 : tag = 5
  · have c5' : (tag.toNat : Int) = 5 := by rw [c5]; rfl
    rw [if_pos c5]
    (((conv => whnf); repeat ((first | with_reducible refine BCase.tt ?_ | with_reducible refine BCase.ff ?_); (conv => whnf))); repeat' (first | ((first | with_reducible refine Wr.u8 ?_ | ((first | with_reducible refine Wr.ci ?s ?_ | with_reducible refine Wr.c3 ?s ?_ | with_reducible refine Wr.c6 ?s ?_ | with_reducible refine BCase.dt ?s ?_); case s => (first | omega | (simp only [lens, true_and, and_true]; (try omega); done))) | (with_reducible refine BCase.df ?s ?_; case s => (first | omega | (simp only [lens, true_and, and_true]; (try omega); done))) | (with_reducible refine Need.mk ?s ?_; case s => first | (first | omega | (simp only [lens, true_and, and_true]; (try omega); done)) | decide | kernel_rfl) | refine BCase.t (by decide) ?_ | refine BCase.f (by decide) ?_); ((conv => whnf); repeat ((first | with_reducible refine BCase.tt ?_ | with_reducible refine BCase.ff ?_); (conv => whnf)))) | (( refine i0 ?_); ((conv => whnf); repeat ((first | with_reducible refine BCase.tt ?_ | with_reducible refine BCase.ff ?_); (conv => whnf)))) | (( refine BCase.dt c5' ?_); ((conv => whnf); repeat ((first | with_reducible refine BCase.tt ?_ | with_reducible refine BCase.ff ?_); (conv => whnf)))) | ((with_reducible refine EmpOr.app ?_); ((conv => whnf); repeat ((first | with_reducible refine BCase.tt ?_ | with_reducible refine BCase.ff ?_); (conv => whnf)))) | (first | with_reducible refine BCase.not ?_ | with_reducible refine BCase.and ?_ | with_reducible refine BCase.or ?_) | ((with_reducible refine BCase.d (fun _ => ?_) (fun _ => ?_)) <;> ((conv => whnf); repeat ((first | with_reducible refine BCase.tt ?_ | with_reducible refine BCase.ff ?_); (conv => whnf))))))
    refine Ret.mk ?_
    show PV.tup [_, pStr ((tx (tag :: r)).extract (1 : Int).toNat (((tag :: r).length : Nat) : Int).toNat), _] = _
    rw [e1]; rfl
  · have c5' : ¬ (tag.toNat : Int) = 5 := fun e => c5 (u8_eq (b := 5) |>.1 e)
    rw [if_neg c5]
    by_cases c16 : tag = 16
    · have c16' : (tag.toNat : Int) = 16 := by rw [c16]; rfl
      rw [if_pos c16]
      by_cases h8 : r.length < 8
      · rw [if_pos h8]
        (((conv => whnf); repeat ((first | with_reducible refine BCase.tt ?_ | with_reducible refine BCase.ff ?_); (conv => whnf))); repeat' (first | ((first | with_reducible refine Wr.u8 ?_ | ((first | with_reducible refine Wr.ci ?s ?_ | with_reducible refine Wr.c3 ?s ?_ | with_reducible refine Wr.c6 ?s ?_ | with_reducible refine BCase.dt ?s ?_); case s => (first | omega | (simp only [lens, true_and, and_true]; (try omega); done))) | (with_reducible refine BCase.df ?s ?_; case s => (first | omega | (simp only [lens, true_and, and_true]; (try omega); done))) | (with_reducible refine Need.mk ?s ?_; case s => first | (first | omega | (simp only [lens, true_and, and_true]; (try omega); done)) | decide | kernel_rfl) | refine BCase.t (by decide) ?_ | refine BCase.f (by decide) ?_); ((conv => whnf); repeat ((first | with_reducible refine BCase.tt ?_ | with_reducible refine BCase.ff ?_); (conv => whnf)))) | (( refine i0 ?_); ((conv => whnf); repeat ((first | with_reducible refine BCase.tt ?_ | with_reducible refine BCase.ff ?_); (conv => whnf)))) | (( refine BCase.df c5' ?_); ((conv => whnf); repeat ((first | with_reducible refine BCase.tt ?_ | with_reducible refine BCase.ff ?_); (conv => whnf)))) | (( refine BCase.dt c16' ?_); ((conv => whnf); repeat ((first | with_reducible refine BCase.tt ?_ | with_reducible refine BCase.ff ?_); (conv => whnf)))) | ((with_reducible refine EmpOr.app ?_); ((conv => whnf); repeat ((first | with_reducible refine BCase.tt ?_ | with_reducible refine BCase.ff ?_); (conv => whnf)))) | (first | with_reducible refine BCase.not ?_ | with_reducible refine BCase.and ?_ | with_reducible refine BCase.or ?_) | ((with_reducible refine BCase.d (fun _ => ?_) (fun _ => ?_)) <;> ((conv => whnf); repeat ((first | with_reducible refine BCase.tt ?_ | with_reducible refine BCase.ff ?_); (conv => whnf))))))
        all_goals exact Ret.mk rfl
      · rw [if_neg h8]
        have e8 : ((tx (tag :: r)).extract (1 : Int).toNat (((tag :: r).length : Nat) : Int).toNat).extract (0 : Int).toNat (8 : Int).toNat = tx (r.take 8) := by
          rw [e1, extract_tx]; rfl
        have e9 : ((tx (tag :: r)).extract (1 : Int).toNat (((tag :: r).length : Nat) : Int).toNat).extract (8 : Int).toNat (((tx r).size : Nat) : Int).toNat = tx (r.drop 8) := by
          rw [e1]; exact drop_tx r 8
        have l8 : (r.take 8).length = 8 := by rw [List.length_take]; omega
        (((conv => whnf); repeat ((first | with_reducible refine BCase.tt ?_ | with_reducible refine BCase.ff ?_); (conv => whnf))); repeat' (first | ((first | with_reducible refine Wr.u8 ?_ | ((first | with_reducible refine Wr.ci ?s ?_ | with_reducible refine Wr.c3 ?s ?_ | with_reducible refine Wr.c6 ?s ?_ | with_reducible refine BCase.dt ?s ?_); case s => (first | omega | (simp only [lens, true_and, and_true]; (try omega); done))) | (with_reducible refine BCase.df ?s ?_; case s => (first | omega | (simp only [lens, true_and, and_true]; (try omega); done))) | (with_reducible refine Need.mk ?s ?_; case s => first | (first | omega | (simp only [lens, true_and, and_true]; (try omega); done)) | decide | kernel_rfl) | refine BCase.t (by decide) ?_ | refine BCase.f (by decide) ?_); ((conv => whnf); repeat ((first | with_reducible refine BCase.tt ?_ | with_reducible refine BCase.ff ?_); (conv => whnf)))) | (( refine i0 ?_); ((conv => whnf); repeat ((first | with_reducible refine BCase.tt ?_ | with_reducible refine BCase.ff ?_); (conv => whnf)))) | (( refine BCase.df c5' ?_); ((conv => whnf); repeat ((first | with_reducible refine BCase.tt ?_ | with_reducible refine BCase.ff ?_); (conv => whnf)))) | (( refine BCase.dt c16' ?_); ((conv => whnf); repeat ((first | with_reducible refine BCase.tt ?_ | with_reducible refine BCase.ff ?_); (conv => whnf)))) | (( refine Need.mk (by show ByteArray.size (ByteArray.extract (ByteArray.extract (tx (tag :: r)) (1 : Int).toNat (((tag :: r).length : Nat) : Int).toNat) (0 : Int).toNat (8 : Int).toNat) ≤ _; rw [e8, tx_size, List.length_take]; omega) ?_); ((conv => whnf); repeat ((first | with_reducible refine BCase.tt ?_ | with_reducible refine BCase.ff ?_); (conv => whnf)))) | ((with_reducible refine EmpOr.app ?_); ((conv => whnf); repeat ((first | with_reducible refine BCase.tt ?_ | with_reducible refine BCase.ff ?_); (conv => whnf)))) | (first | with_reducible refine BCase.not ?_ | with_reducible refine BCase.and ?_ | with_reducible refine BCase.or ?_) | ((with_reducible refine BCase.d (fun _ => ?_) (fun _ => ?_)) <;> ((conv => whnf); repeat ((first | with_reducible refine BCase.tt ?_ | with_reducible refine BCase.ff ?_); (conv => whnf))))))
        refine LoopC.mk Nat (fun i => [(0, pStr (tx r)), (2, .d (.ptr 2 0)), (6, pInt .u64 (fold8 0 ((r.take 8).take i) : Int)), (26, .d (.c (.sl 1 (byteRows (r.take 8))))), (27, pInt .i64 8), (28, pInt .i64 i)]) (fun _ => [(2, .box tVal (z0.c.map D.c))]) [2] (fun i => i ≤ 8) (fun i => 8 - i) 0 (Nat.zero_le _) ?_ ?_
        · refine ⟨[(2, 2)], rfl, rfl, ⟨PLe.text e1, ⟨rfl, rfl, rfl⟩, .inl rfl, PLe.sl ?_, PLe.int ?_, .inl rfl, trivial⟩, ⟨rfl, rfl, .inl rfl, .inl rfl, .inl rfl, rfl⟩, trivial⟩
          · show List.map _ (ByteArray.extract (ByteArray.extract (tx (tag :: r)) (1 : Int).toNat (((tag :: r).length : Nat) : Int).toNat) (0 : Int).toNat (8 : Int).toNat).data.toList = _
            rw [e8]; rfl
          · show ((List.map _ (ByteArray.extract (ByteArray.extract (tx (tag :: r)) (1 : Int).toNat (((tag :: r).length : Nat) : Int).toNat) (0 : Int).toNat (8 : Int).toNat).data.toList).length : Int) = 8
            rw [e8, List.length_map]
            show ((r.take 8).length : Int) = 8
            omega
        · intro i hi
          by_cases h2 : i < 8
          · have hf := fold8_lt ((r.take 8).take i)
            have hfl : ((r.take 8).take i).length = i := by rw [List.length_take, l8]; omega
            rw [hfl] at hf
            have hf2 : fold8 0 ((r.take 8).take i) < 256 ^ 7 := Nat.lt_of_lt_of_le hf (Nat.pow_le_pow_right (by decide) (by omega))
            have hf3 : fold8 0 ((r.take 8).take i) * 256 < 18446744073709551616 := by
              have : (256 : Nat) ^ 7 * 256 = 18446744073709551616 := by decide
              omega
            have hstep := take_getD (l := r.take 8) (k := i) (by omega)
            have hb := u8_lt ((r.take 8).getD i 0)
            (((conv => whnf); repeat ((first | with_reducible refine BCase.tt ?_ | with_reducible refine BCase.ff ?_); (conv => whnf))); repeat' (first | ((first | with_reducible refine Wr.u8 ?_ | ((first | with_reducible refine Wr.ci ?s ?_ | with_reducible refine Wr.c3 ?s ?_ | with_reducible refine Wr.c6 ?s ?_ | with_reducible refine BCase.dt ?s ?_); case s => (first | omega | (simp only [lens, true_and, and_true]; (try omega); done))) | (with_reducible refine BCase.df ?s ?_; case s => (first | omega | (simp only [lens, true_and, and_true]; (try omega); done))) | (with_reducible refine Need.mk ?s ?_; case s => first | (first | omega | (simp only [lens, true_and, and_true]; (try omega); done)) | decide | kernel_rfl) | refine BCase.t (by decide) ?_ | refine BCase.f (by decide) ?_); ((conv => whnf); repeat ((first | with_reducible refine BCase.tt ?_ | with_reducible refine BCase.ff ?_); (conv => whnf)))) | (( refine Idx.bytes i rfl (by omega) ?_); ((conv => whnf); repeat ((first | with_reducible refine BCase.tt ?_ | with_reducible refine BCase.ff ?_); (conv => whnf)))) | (( refine Wr.shl8 hf3 ?_); ((conv => whnf); repeat ((first | with_reducible refine BCase.tt ?_ | with_reducible refine BCase.ff ?_); (conv => whnf)))) | (( refine Wr.or8 hf3 ?_); ((conv => whnf); repeat ((first | with_reducible refine BCase.tt ?_ | with_reducible refine BCase.ff ?_); (conv => whnf)))) | ((with_reducible refine EmpOr.app ?_); ((conv => whnf); repeat ((first | with_reducible refine BCase.tt ?_ | with_reducible refine BCase.ff ?_); (conv => whnf)))) | (first | with_reducible refine BCase.not ?_ | with_reducible refine BCase.and ?_ | with_reducible refine BCase.or ?_) | ((with_reducible refine BCase.d (fun _ => ?_) (fun _ => ?_)) <;> ((conv => whnf); repeat ((first | with_reducible refine BCase.tt ?_ | with_reducible refine BCase.ff ?_); (conv => whnf))))))
            exact ⟨i + 1, by omega, by omega, [(2, 2)], rfl, rfl, ⟨.inl rfl, ⟨rfl, rfl, rfl⟩, PLe.int (by rw [hstep, fold8_snoc]), .inl rfl, .inl rfl, PLe.int (by omega), trivial⟩, ⟨rfl, rfl, .inl rfl, .inl rfl, .inl rfl, rfl⟩, trivial⟩
          · obtain rfl : i = 8 := by omega
            have hf := fold8_lt (r.take 8)
            rw [l8] at hf
            have hx : fold8 0 (r.take 8) < 18446744073709551616 := by
              have : (256 : Nat) ^ 8 = 18446744073709551616 := by decide
              omega
            rw [show (r.take 8).take 8 = r.take 8 from List.take_of_length_le (by omega)]
            (((conv => whnf); repeat ((first | with_reducible refine BCase.tt ?_ | with_reducible refine BCase.ff ?_); (conv => whnf))); repeat' (first | ((first | with_reducible refine Wr.u8 ?_ | ((first | with_reducible refine Wr.ci ?s ?_ | with_reducible refine Wr.c3 ?s ?_ | with_reducible refine Wr.c6 ?s ?_ | with_reducible refine BCase.dt ?s ?_); case s => (first | omega | (simp only [lens, true_and, and_true]; (try omega); done))) | (with_reducible refine BCase.df ?s ?_; case s => (first | omega | (simp only [lens, true_and, and_true]; (try omega); done))) | (with_reducible refine Need.mk ?s ?_; case s => first | (first | omega | (simp only [lens, true_and, and_true]; (try omega); done)) | decide | kernel_rfl) | refine BCase.t (by decide) ?_ | refine BCase.f (by decide) ?_); ((conv => whnf); repeat ((first | with_reducible refine BCase.tt ?_ | with_reducible refine BCase.ff ?_); (conv => whnf)))) | (( refine Wr.xor2 hx ?_); ((conv => whnf); repeat ((first | with_reducible refine BCase.tt ?_ | with_reducible refine BCase.ff ?_); (conv => whnf)))) | (( refine Wr.back hx ?_); ((conv => whnf); repeat ((first | with_reducible refine BCase.tt ?_ | with_reducible refine BCase.ff ?_); (conv => whnf)))) | ((with_reducible refine EmpOr.app ?_); ((conv => whnf); repeat ((first | with_reducible refine BCase.tt ?_ | with_reducible refine BCase.ff ?_); (conv => whnf)))) | (first | with_reducible refine BCase.not ?_ | with_reducible refine BCase.and ?_ | with_reducible refine BCase.or ?_) | ((with_reducible refine BCase.d (fun _ => ?_) (fun _ => ?_)) <;> ((conv => whnf); repeat ((first | with_reducible refine BCase.tt ?_ | with_reducible refine BCase.ff ?_); (conv => whnf))))))
            refine Ret.mk ?_
            show PV.tup [_, pStr ((tx r).extract (8 : Int).toNat (((tx r).size : Nat) : Int).toNat), _] = _
            rw [show (tx r).extract (8 : Int).toNat (((tx r).size : Nat) : Int).toNat = tx (r.drop 8) from drop_tx r 8]; rfl
    · have c16' : ¬ (tag.toNat : Int) = 16 := fun e => c16 (u8_eq (b := 16) |>.1 e)
      rw [if_neg c16]
      have pu := (p_unbytes r hr).to (args' := [pStr ((tx (tag :: r)).extract (1 : Int).toNat (((tag :: r).length : Nat) : Int).toNat)]) (by rw [e1]) rfl
      by_cases c32 : tag = 32
      · have c32' : (tag.toNat : Int) = 32 := by rw [c32]; rfl
        rw [if_pos c32]
        (((conv => whnf); repeat ((first | with_reducible refine BCase.tt ?_ | with_reducible refine BCase.ff ?_); (conv => whnf))); repeat' (first | ((first | with_reducible refine Wr.u8 ?_ | ((first | with_reducible refine Wr.ci ?s ?_ | with_reducible refine Wr.c3 ?s ?_ | with_reducible refine Wr.c6 ?s ?_ | with_reducible refine BCase.dt ?s ?_); case s => (first | omega | (simp only [lens, true_and, and_true]; (try omega); done))) | (with_reducible refine BCase.df ?s ?_; case s => (first | omega | (simp only [lens, true_and, and_true]; (try omega); done))) | (with_reducible refine Need.mk ?s ?_; case s => first | (first | omega | (simp only [lens, true_and, and_true]; (try omega); done)) | decide | kernel_rfl) | refine BCase.t (by decide) ?_ | refine BCase.f (by decide) ?_); ((conv => whnf); repeat ((first | with_reducible refine BCase.tt ?_ | with_reducible refine BCase.ff ?_); (conv => whnf)))) | (( refine i0 ?_); ((conv => whnf); repeat ((first | with_reducible refine BCase.tt ?_ | with_reducible refine BCase.ff ?_); (conv => whnf)))) | (( refine BCase.df c5' ?_); ((conv => whnf); repeat ((first | with_reducible refine BCase.tt ?_ | with_reducible refine BCase.ff ?_); (conv => whnf)))) | (( refine BCase.df c16' ?_); ((conv => whnf); repeat ((first | with_reducible refine BCase.tt ?_ | with_reducible refine BCase.ff ?_); (conv => whnf)))) | (( refine BCase.dt c32' ?_); ((conv => whnf); repeat ((first | with_reducible refine BCase.tt ?_ | with_reducible refine BCase.ff ?_); (conv => whnf)))) | ((refine CallP.pure _ rfl _ (pu) ?_); ((conv => whnf); repeat ((first | with_reducible refine BCase.tt ?_ | with_reducible refine BCase.ff ?_); (conv => whnf)))) | ((with_reducible refine EmpOr.app ?_); ((conv => whnf); repeat ((first | with_reducible refine BCase.tt ?_ | with_reducible refine BCase.ff ?_); (conv => whnf)))) | (first | with_reducible refine BCase.not ?_ | with_reducible refine BCase.and ?_ | with_reducible refine BCase.or ?_) | ((with_reducible refine BCase.d (fun _ => ?_) (fun _ => ?_)) <;> ((conv => whnf); repeat ((first | with_reducible refine BCase.tt ?_ | with_reducible refine BCase.ff ?_); (conv => whnf))))))
        all_goals exact Ret.mk rfl
      · have c32' : ¬ (tag.toNat : Int) = 32 := fun e => c32 (u8_eq (b := 32) |>.1 e)
        rw [if_neg c32]
        by_cases c48 : tag = 48
        · have c48' : (tag.toNat : Int) = 48 := by rw [c48]; rfl
          rw [if_pos c48]
          (((conv => whnf); repeat ((first | with_reducible refine BCase.tt ?_ | with_reducible refine BCase.ff ?_); (conv => whnf))); repeat' (first | ((first | with_reducible refine Wr.u8 ?_ | ((first | with_reducible refine Wr.ci ?s ?_ | with_reducible refine Wr.c3 ?s ?_ | with_reducible refine Wr.c6 ?s ?_ | with_reducible refine BCase.dt ?s ?_); case s => (first | omega | (simp only [lens, true_and, and_true]; (try omega); done))) | (with_reducible refine BCase.df ?s ?_; case s => (first | omega | (simp only [lens, true_and, and_true]; (try omega); done))) | (with_reducible refine Need.mk ?s ?_; case s => first | (first | omega | (simp only [lens, true_and, and_true]; (try omega); done)) | decide | kernel_rfl) | refine BCase.t (by decide) ?_ | refine BCase.f (by decide) ?_); ((conv => whnf); repeat ((first | with_reducible refine BCase.tt ?_ | with_reducible refine BCase.ff ?_); (conv => whnf)))) | (( refine i0 ?_); ((conv => whnf); repeat ((first | with_reducible refine BCase.tt ?_ | with_reducible refine BCase.ff ?_); (conv => whnf)))) | (( refine BCase.df c5' ?_); ((conv => whnf); repeat ((first | with_reducible refine BCase.tt ?_ | with_reducible refine BCase.ff ?_); (conv => whnf)))) | (( refine BCase.df c16' ?_); ((conv => whnf); repeat ((first | with_reducible refine BCase.tt ?_ | with_reducible refine BCase.ff ?_); (conv => whnf)))) | (( refine BCase.df c32' ?_); ((conv => whnf); repeat ((first | with_reducible refine BCase.tt ?_ | with_reducible refine BCase.ff ?_); (conv => whnf)))) | (( refine BCase.dt c48' ?_); ((conv => whnf); repeat ((first | with_reducible refine BCase.tt ?_ | with_reducible refine BCase.ff ?_); (conv => whnf)))) | ((refine CallP.pure _ rfl _ (pu) ?_); ((conv => whnf); repeat ((first | with_reducible refine BCase.tt ?_ | with_reducible refine BCase.ff ?_); (conv => whnf)))) | ((with_reducible refine EmpOr.app ?_); ((conv => whnf); repeat ((first | with_reducible refine BCase.tt ?_ | with_reducible refine BCase.ff ?_); (conv => whnf)))) | (first | with_reducible refine BCase.not ?_ | with_reducible refine BCase.and ?_ | with_reducible refine BCase.or ?_) | ((with_reducible refine BCase.d (fun _ => ?_) (fun _ => ?_)) <;> ((conv => whnf); repeat ((first | with_reducible refine BCase.tt ?_ | with_reducible refine BCase.ff ?_); (conv => whnf))))))
          all_goals exact Ret.mk rfl
        · have c48' : ¬ (tag.toNat : Int) = 48 := fun e => c48 (u8_eq (b := 48) |>.1 e)
          rw [if_neg c48]
          (((conv => whnf); repeat ((first | with_reducible refine BCase.tt ?_ | with_reducible refine BCase.ff ?_); (conv => whnf))); repeat' (first | ((first | with_reducible refine Wr.u8 ?_ | ((first | with_reducible refine Wr.ci ?s ?_ | with_reducible refine Wr.c3 ?s ?_ | with_reducible refine Wr.c6 ?s ?_ | with_reducible refine BCase.dt ?s ?_); case s => (first | omega | (simp only [lens, true_and, and_true]; (try omega); done))) | (with_reducible refine BCase.df ?s ?_; case s => (first | omega | (simp only [lens, true_and, and_true]; (try omega); done))) | (with_reducible refine Need.mk ?s ?_; case s => first | (first | omega | (simp only [lens, true_and, and_true]; (try omega); done)) | decide | kernel_rfl) | refine BCase.t (by decide) ?_ | refine BCase.f (by decide) ?_); ((conv => whnf); repeat ((first | with_reducible refine BCase.tt ?_ | with_reducible refine BCase.ff ?_); (conv => whnf)))) | (( refine i0 ?_); ((conv => whnf); repeat ((first | with_reducible refine BCase.tt ?_ | with_reducible refine BCase.ff ?_); (conv => whnf)))) | (( refine BCase.df c5' ?_); ((conv => whnf); repeat ((first | with_reducible refine BCase.tt ?_ | with_reducible refine BCase.ff ?_); (conv => whnf)))) | (( refine BCase.df c16' ?_); ((conv => whnf); repeat ((first | with_reducible refine BCase.tt ?_ | with_reducible refine BCase.ff ?_); (conv => whnf)))) | (( refine BCase.df c32' ?_); ((conv => whnf); repeat ((first | with_reducible refine BCase.tt ?_ | with_reducible refine BCase.ff ?_); (conv => whnf)))) | (( refine BCase.df c48' ?_); ((conv => whnf); repeat ((first | with_reducible refine BCase.tt ?_ | with_reducible refine BCase.ff ?_); (conv => whnf)))) | ((with_reducible refine EmpOr.app ?_); ((conv => whnf); repeat ((first | with_reducible refine BCase.tt ?_ | with_reducible refine BCase.ff ?_); (conv => whnf)))) | (first | with_reducible refine BCase.not ?_ | with_reducible refine BCase.and ?_ | with_reducible refine BCase.or ?_) | ((with_reducible refine BCase.d (fun _ => ?_) (fun _ => ?_)) <;> ((conv => whnf); repeat ((first | with_reducible refine BCase.tt ?_ | with_reducible refine BCase.ff ?_); (conv => whnf))))))
          all_goals exact Ret.mk rfl
def ukGo : Nat → List ValueD → List UInt8 → List ValueD × Int
  | 0, out, _ => (out, 0)
  | f + 1, out, s => if s = [] then (out, 0) else if out.length = 8 then ([], 2) else if (unkR s).2.2 = false then ([], 1) else if 16 < (unkR s).1.S.length then ([], 2) else ukGo f (out ++ [(unkR s).1]) (unkR s).2.1
def ukR (l : List UInt8) : List ValueD × Int := ukGo 9 [] l
theorem unb_len : ∀ (l : List UInt8) (t q : List UInt8), unb l = some (t, q) → q.length < l.length
  | [], _, _, h => by cases h
  | [_], _, _, h => by cases h
  | a :: b :: r, t, q, h => by
    rw [unb_two] at h
    split at h
    · split at h
      · rename_i t' q' he
        have := unb_len (b :: r) t' q' he
        cases h
        simp only [List.length_cons] at this ⊢; omega
      · cases h
    · split at h
      · cases h; simp only [List.length_cons]; omega
      · split at h
        · split at h
          · rename_i t' q' he
            have := unb_len r t' q' he
            cases h
            simp only [List.length_cons]; omega
          · cases h
        · cases h
theorem unbR_len (l : List UInt8) : (unbR l).2.1.length ≤ l.length := by
  unfold unbR
  split
  · rename_i t q he; have := unb_len l t q he; simp only; omega
  · simp
theorem unkR_len (l : List UInt8) : (unkR l).2.1.length ≤ l.length := by
  cases l with
  | nil => simp [unkR]
  | cons tag r =>
    have := unbR_len r
    rw [unkR_cons, List.length_cons]
    (repeat' split) <;> simp <;> omega
theorem p_unkey (l : List UInt8) (hl : okText l) : Pure Try.prog 20 [pStr (tx l)] (.tup [slV 3 ValueD.c (ukR l).1, pInt .i64 (ukR l).2]) := by
  refine pure_of Try.func20 (by rfl) rfl (by kernel_rfl) (by rfl) ?_
  (((conv => whnf); repeat ((first | with_reducible refine BCase.tt ?_ | with_reducible refine BCase.ff ?_); (conv => whnf))); repeat' (first | ((first | with_reducible refine Wr.u8 ?_ | ((first | with_reducible refine Wr.ci ?s ?_ | with_reducible refine Wr.c3 ?s ?_ | with_reducible refine Wr.c6 ?s ?_ | with_reducible refine BCase.dt ?s ?_); case s => (first | omega | (simp only [lens, true_and, and_true]; (try omega); done))) | (with_reducible refine BCase.df ?s ?_; case s => (first | omega | (simp only [lens, true_and, and_true]; (try omega); done))) | (with_reducible refine Need.mk ?s ?_; case s => first | (first | omega | (simp only [lens, true_and, and_true]; (try omega); done)) | decide | kernel_rfl) | refine BCase.t (by decide) ?_ | refine BCase.f (by decide) ?_); ((conv => whnf); repeat ((first | with_reducible refine BCase.tt ?_ | with_reducible refine BCase.ff ?_); (conv => whnf)))) | ((with_reducible refine EmpOr.app ?_); ((conv => whnf); repeat ((first | with_reducible refine BCase.tt ?_ | with_reducible refine BCase.ff ?_); (conv => whnf)))) | (first | with_reducible refine BCase.not ?_ | with_reducible refine BCase.and ?_ | with_reducible refine BCase.or ?_) | ((with_reducible refine BCase.d (fun _ => ?_) (fun _ => ?_)) <;> ((conv => whnf); repeat ((first | with_reducible refine BCase.tt ?_ | with_reducible refine BCase.ff ?_); (conv => whnf))))))
  refine LoopC.mk (List ValueD × List UInt8) (fun s => [(0, pStr (tx s.2)), (4, .d (.app 60 tVal 3 (s.1.map ValueD.c)))]) (fun s => [(60, .tail tVal 3)]) [60] (fun s => s.1.length ≤ 8 ∧ okText s.2 ∧ ukR l = ukGo (9 - s.1.length) s.1 s.2) (fun s => 9 - s.1.length) ([], l) ⟨Nat.zero_le _, hl, rfl⟩ ?start ?round
  case start => exact ⟨[], rfl, rfl, ⟨.inl rfl, ⟨rfl, rfl, Nat.zero_lt_succ _, rfl, rfl⟩, trivial⟩, ⟨rfl, Nat.zero_lt_succ _⟩, trivial⟩
  case round =>
    rintro ⟨out, s⟩ ⟨ho, hs, hz⟩
    simp only at ho hs hz ⊢
    rw [show 9 - out.length = (8 - out.length) + 1 by omega] at hz
    unfold ukGo at hz
    cases s with
    | nil =>
      rw [if_pos rfl] at hz
      rw [hz]
      (((conv => whnf); repeat ((first | with_reducible refine BCase.tt ?_ | with_reducible refine BCase.ff ?_); (conv => whnf))); repeat' (first | ((first | with_reducible refine Wr.u8 ?_ | ((first | with_reducible refine Wr.ci ?s ?_ | with_reducible refine Wr.c3 ?s ?_ | with_reducible refine Wr.c6 ?s ?_ | with_reducible refine BCase.dt ?s ?_); case s => (first | omega | (simp only [lens, true_and, and_true]; (try omega); done))) | (with_reducible refine BCase.df ?s ?_; case s => (first | omega | (simp only [lens, true_and, and_true]; (try omega); done))) | (with_reducible refine Need.mk ?s ?_; case s => first | (first | omega | (simp only [lens, true_and, and_true]; (try omega); done)) | decide | kernel_rfl) | refine BCase.t (by decide) ?_ | refine BCase.f (by decide) ?_); ((conv => whnf); repeat ((first | with_reducible refine BCase.tt ?_ | with_reducible refine BCase.ff ?_); (conv => whnf)))) | ((with_reducible refine EmpOr.app ?_); ((conv => whnf); repeat ((first | with_reducible refine BCase.tt ?_ | with_reducible refine BCase.ff ?_); (conv => whnf)))) | (first | with_reducible refine BCase.not ?_ | with_reducible refine BCase.and ?_ | with_reducible refine BCase.or ?_) | ((with_reducible refine BCase.d (fun _ => ?_) (fun _ => ?_)) <;> ((conv => whnf); repeat ((first | with_reducible refine BCase.tt ?_ | with_reducible refine BCase.ff ?_); (conv => whnf))))))
      exact Ret.mk rfl
    | cons tag r =>
      have hne : ¬ tx (tag :: r) = ⟨#[]⟩ := fun e => by cases tx_empty.1 e
      have hnl : ¬ (tag :: r : List UInt8) = [] := fun e => by cases e
      rw [if_neg hnl] at hz
      by_cases h8 : out.length = 8
      · rw [if_pos h8] at hz
        rw [hz]
        (((conv => whnf); repeat ((first | with_reducible refine BCase.tt ?_ | with_reducible refine BCase.ff ?_); (conv => whnf))); repeat' (first | ((first | with_reducible refine Wr.u8 ?_ | ((first | with_reducible refine Wr.ci ?s ?_ | with_reducible refine Wr.c3 ?s ?_ | with_reducible refine Wr.c6 ?s ?_ | with_reducible refine BCase.dt ?s ?_); case s => (first | omega | (simp only [lens, true_and, and_true]; (try omega); done))) | (with_reducible refine BCase.df ?s ?_; case s => (first | omega | (simp only [lens, true_and, and_true]; (try omega); done))) | (with_reducible refine Need.mk ?s ?_; case s => first | (first | omega | (simp only [lens, true_and, and_true]; (try omega); done)) | decide | kernel_rfl) | refine BCase.t (by decide) ?_ | refine BCase.f (by decide) ?_); ((conv => whnf); repeat ((first | with_reducible refine BCase.tt ?_ | with_reducible refine BCase.ff ?_); (conv => whnf)))) | (( refine BCase.dt hne ?_); ((conv => whnf); repeat ((first | with_reducible refine BCase.tt ?_ | with_reducible refine BCase.ff ?_); (conv => whnf)))) | ((with_reducible refine EmpOr.app ?_); ((conv => whnf); repeat ((first | with_reducible refine BCase.tt ?_ | with_reducible refine BCase.ff ?_); (conv => whnf)))) | (first | with_reducible refine BCase.not ?_ | with_reducible refine BCase.and ?_ | with_reducible refine BCase.or ?_) | ((with_reducible refine BCase.d (fun _ => ?_) (fun _ => ?_)) <;> ((conv => whnf); repeat ((first | with_reducible refine BCase.tt ?_ | with_reducible refine BCase.ff ?_); (conv => whnf))))))
        exact Ret.le ⟨.inr ⟨⟨3, rfl⟩, .inl rfl⟩, .inl rfl, rfl⟩
      · rw [if_neg h8] at hz
        have pu := p_unkeyed tag r hs
        have hlen := unkR_len (tag :: r)
        have htz := tx_size (unkR (tag :: r)).1.S
        by_cases hb : (unkR (tag :: r)).2.2 = false
        · rw [if_pos hb] at hz
          rw [hz]
          rw [hb] at pu
          (((conv => whnf); repeat ((first | with_reducible refine BCase.tt ?_ | with_reducible refine BCase.ff ?_); (conv => whnf))); repeat' (first | ((first | with_reducible refine Wr.u8 ?_ | ((first | with_reducible refine Wr.ci ?s ?_ | with_reducible refine Wr.c3 ?s ?_ | with_reducible refine Wr.c6 ?s ?_ | with_reducible refine BCase.dt ?s ?_); case s => (first | omega | (simp only [lens, true_and, and_true]; (try omega); done))) | (with_reducible refine BCase.df ?s ?_; case s => (first | omega | (simp only [lens, true_and, and_true]; (try omega); done))) | (with_reducible refine Need.mk ?s ?_; case s => first | (first | omega | (simp only [lens, true_and, and_true]; (try omega); done)) | decide | kernel_rfl) | refine BCase.t (by decide) ?_ | refine BCase.f (by decide) ?_); ((conv => whnf); repeat ((first | with_reducible refine BCase.tt ?_ | with_reducible refine BCase.ff ?_); (conv => whnf)))) | (( refine BCase.dt hne ?_); ((conv => whnf); repeat ((first | with_reducible refine BCase.tt ?_ | with_reducible refine BCase.ff ?_); (conv => whnf)))) | ((refine CallP.pure _ rfl _ (pu) ?_); ((conv => whnf); repeat ((first | with_reducible refine BCase.tt ?_ | with_reducible refine BCase.ff ?_); (conv => whnf)))) | ((with_reducible refine EmpOr.app ?_); ((conv => whnf); repeat ((first | with_reducible refine BCase.tt ?_ | with_reducible refine BCase.ff ?_); (conv => whnf)))) | (first | with_reducible refine BCase.not ?_ | with_reducible refine BCase.and ?_ | with_reducible refine BCase.or ?_) | ((with_reducible refine BCase.d (fun _ => ?_) (fun _ => ?_)) <;> ((conv => whnf); repeat ((first | with_reducible refine BCase.tt ?_ | with_reducible refine BCase.ff ?_); (conv => whnf))))))
          exact Ret.le ⟨.inr ⟨⟨3, rfl⟩, .inl rfl⟩, .inl rfl, rfl⟩
        · rw [if_neg hb] at hz
          have hb2 : (unkR (tag :: r)).2.2 = true := by simpa using hb
          rw [hb2] at pu
          by_cases h16 : 16 < (unkR (tag :: r)).1.S.length
          · rw [if_pos h16] at hz
            rw [hz]
            (((conv => whnf); repeat ((first | with_reducible refine BCase.tt ?_ | with_reducible refine BCase.ff ?_); (conv => whnf))); repeat' (first | ((first | with_reducible refine Wr.u8 ?_ | ((first | with_reducible refine Wr.ci ?s ?_ | with_reducible refine Wr.c3 ?s ?_ | with_reducible refine Wr.c6 ?s ?_ | with_reducible refine BCase.dt ?s ?_); case s => (first | omega | (simp only [lens, true_and, and_true]; (try omega); done))) | (with_reducible refine BCase.df ?s ?_; case s => (first | omega | (simp only [lens, true_and, and_true]; (try omega); done))) | (with_reducible refine Need.mk ?s ?_; case s => first | (first | omega | (simp only [lens, true_and, and_true]; (try omega); done)) | decide | kernel_rfl) | refine BCase.t (by decide) ?_ | refine BCase.f (by decide) ?_); ((conv => whnf); repeat ((first | with_reducible refine BCase.tt ?_ | with_reducible refine BCase.ff ?_); (conv => whnf)))) | (( refine BCase.dt hne ?_); ((conv => whnf); repeat ((first | with_reducible refine BCase.tt ?_ | with_reducible refine BCase.ff ?_); (conv => whnf)))) | ((refine CallP.pure _ rfl _ (pu) ?_); ((conv => whnf); repeat ((first | with_reducible refine BCase.tt ?_ | with_reducible refine BCase.ff ?_); (conv => whnf)))) | ((with_reducible refine EmpOr.app ?_); ((conv => whnf); repeat ((first | with_reducible refine BCase.tt ?_ | with_reducible refine BCase.ff ?_); (conv => whnf)))) | (first | with_reducible refine BCase.not ?_ | with_reducible refine BCase.and ?_ | with_reducible refine BCase.or ?_) | ((with_reducible refine BCase.d (fun _ => ?_) (fun _ => ?_)) <;> ((conv => whnf); repeat ((first | with_reducible refine BCase.tt ?_ | with_reducible refine BCase.ff ?_); (conv => whnf))))))
            exact Ret.le ⟨.inr ⟨⟨3, rfl⟩, .inl rfl⟩, .inl rfl, rfl⟩
          · rw [if_neg h16] at hz
            (((conv => whnf); repeat ((first | with_reducible refine BCase.tt ?_ | with_reducible refine BCase.ff ?_); (conv => whnf))); repeat' (first | ((first | with_reducible refine Wr.u8 ?_ | ((first | with_reducible refine Wr.ci ?s ?_ | with_reducible refine Wr.c3 ?s ?_ | with_reducible refine Wr.c6 ?s ?_ | with_reducible refine BCase.dt ?s ?_); case s => (first | omega | (simp only [lens, true_and, and_true]; (try omega); done))) | (with_reducible refine BCase.df ?s ?_; case s => (first | omega | (simp only [lens, true_and, and_true]; (try omega); done))) | (with_reducible refine Need.mk ?s ?_; case s => first | (first | omega | (simp only [lens, true_and, and_true]; (try omega); done)) | decide | kernel_rfl) | refine BCase.t (by decide) ?_ | refine BCase.f (by decide) ?_); ((conv => whnf); repeat ((first | with_reducible refine BCase.tt ?_ | with_reducible refine BCase.ff ?_); (conv => whnf)))) | (( refine BCase.dt hne ?_); ((conv => whnf); repeat ((first | with_reducible refine BCase.tt ?_ | with_reducible refine BCase.ff ?_); (conv => whnf)))) | ((refine CallP.pure _ rfl _ (pu) ?_); ((conv => whnf); repeat ((first | with_reducible refine BCase.tt ?_ | with_reducible refine BCase.ff ?_); (conv => whnf)))) | (( refine Need.by 32 rfl (by simp only [List.length_map, List.length_singleton]; omega) ?_); ((conv => whnf); repeat ((first | with_reducible refine BCase.tt ?_ | with_reducible refine BCase.ff ?_); (conv => whnf)))) | ((with_reducible refine EmpOr.app ?_); ((conv => whnf); repeat ((first | with_reducible refine BCase.tt ?_ | with_reducible refine BCase.ff ?_); (conv => whnf)))) | (first | with_reducible refine BCase.not ?_ | with_reducible refine BCase.and ?_ | with_reducible refine BCase.or ?_) | ((with_reducible refine BCase.d (fun _ => ?_) (fun _ => ?_)) <;> ((conv => whnf); repeat ((first | with_reducible refine BCase.tt ?_ | with_reducible refine BCase.ff ?_); (conv => whnf))))))
            refine ⟨(out ++ [(unkR (tag :: r)).1], (unkR (tag :: r)).2.1), ⟨by simp; omega, by unfold okText at *; simp only; omega, ?_⟩, by simp; omega, [(60, 30)], rfl, rfl, ⟨.inl rfl, ⟨rfl, rfl, rfl, rfl, ?_⟩, trivial⟩, ⟨rfl, rfl, rfl⟩, trivial⟩
            · simp only [List.length_append, List.length_singleton]
              rw [show 9 - (out.length + 1) = 8 - out.length by omega]; exact hz
            · simp only [List.map_append]; rfl
end Go.Proofs.Ytnlkfpgaehgpbaa.Pm
