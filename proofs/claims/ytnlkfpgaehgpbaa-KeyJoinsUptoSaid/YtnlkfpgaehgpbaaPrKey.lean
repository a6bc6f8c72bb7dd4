/- record.Key -/
import Derived.Test.YtnlkfpgaehgpbaaPrOrd
namespace Go.Proofs.Ytnlkfpgaehgpbaa.Pm
open Go.RowKit K NumP NumW NumRd NumZ NumL
set_option linter.unusedVariables false
set_option linter.unusedSimpArgs false
set_option maxRecDepth 100000

theorem Wr.u64w {x : Int} {K : Int → Prop} (h : K (x % 18446744073709551616)) : Wr .u64 x K := ⟨_, by rw [IntKind.wrap_u64], h⟩
theorem xor_top (u : Nat) (h : u < 18446744073709551616) : u ^^^ 9223372036854775808 = (u + 9223372036854775808) % 18446744073709551616 := by
  have low : ∀ y : Nat, y < 9223372036854775808 → y ^^^ 9223372036854775808 = 9223372036854775808 + y := by
    intro y hy
    apply Nat.eq_of_testBit_eq
    intro i
    rw [Nat.testBit_xor]
    have e : (9223372036854775808 : Nat) = 2 ^ 63 := by decide
    rw [e, Nat.testBit_two_pow]
    rcases Nat.lt_trichotomy i 63 with hi | rfl | hi
    · rw [Nat.testBit_two_pow_add_gt hi, decide_eq_false (by omega)]; simp
    · rw [Nat.testBit_two_pow_add_eq]; simp
    · rw [decide_eq_false (by omega)]
      have h1 : y.testBit i = false := Nat.testBit_lt_two_pow (Nat.lt_of_lt_of_le (by omega : y < 2 ^ 64) (Nat.pow_le_pow_right (by decide) (by omega)))
      have h2 : (2 ^ 63 + y).testBit i = false := Nat.testBit_lt_two_pow (Nat.lt_of_lt_of_le (by omega : 2 ^ 63 + y < 2 ^ 64) (Nat.pow_le_pow_right (by decide) (by omega)))
      rw [h1, h2]; rfl
  by_cases hu : u < 9223372036854775808
  · rw [low u hu, Nat.mod_eq_of_lt (by omega), Nat.add_comm]
  · have e := low (u - 9223372036854775808) (by omega)
    rw [show 9223372036854775808 + (u - 9223372036854775808) = u by omega] at e
    conv => lhs; rw [← e]
    rw [Nat.xor_assoc, Nat.xor_self, Nat.xor_zero]
    omega
theorem xor_turn {n : Int} (h : okInt n) : ((BitVec.ofInt 64 (n % 18446744073709551616) ^^^ BitVec.ofInt 64 9223372036854775808).toNat : Int) = n + 9223372036854775808 := by
  obtain ⟨h1, h2⟩ := h
  obtain ⟨u, hu⟩ : ∃ u : Nat, n % 18446744073709551616 = u := ⟨(n % 18446744073709551616).toNat, by omega⟩
  have hlt : u < 18446744073709551616 := by omega
  rw [hu]
  have e1 : BitVec.ofInt 64 (u : Int) = BitVec.ofNat 64 u := BitVec.ofInt_natCast ..
  have e2 : BitVec.ofInt 64 (9223372036854775808 : Int) = BitVec.ofNat 64 9223372036854775808 := by rw [← BitVec.ofInt_natCast]; rfl
  rw [e1, e2, BitVec.toNat_xor, BitVec.toNat_ofNat, BitVec.toNat_ofNat, Nat.mod_eq_of_lt (by omega), Nat.mod_eq_of_lt (by omega), xor_top u hlt]
  omega
theorem Wr.turn {n : Int} {K : Int → Prop} (h : okInt n) (hk : K (n + 9223372036854775808)) : Wr .u64 ((BitVec.ofInt 64 (n % 18446744073709551616) ^^^ BitVec.ofInt 64 9223372036854775808).toNat : Int) K := by
  rw [xor_turn h]
  exact Wr.u64 (by have := h.1; omega) (by have := h.2; omega) hk
def escK : List UInt8 → List UInt8
  | [] => []
  | b :: l => if b = 0 then 0 :: 255 :: escK l else b :: escK l
theorem escK_append : ∀ a b : List UInt8, escK (a ++ b) = escK a ++ escK b
  | [], b => rfl
  | x :: a, b => by
    rw [List.cons_append]
    show (if x = 0 then 0 :: 255 :: escK (a ++ b) else x :: escK (a ++ b)) = (if x = 0 then 0 :: 255 :: escK a else x :: escK a) ++ escK b
    rw [escK_append a b]
    split <;> rfl
theorem escK_len : ∀ l : List UInt8, (escK l).length ≤ 2 * l.length
  | [] => by simp [escK]
  | b :: l => by
    have := escK_len l
    unfold escK
    split <;> simp only [List.length_cons] <;> omega
def b8 (n : Int) : List UInt8 := [by1 (n / 2 ^ 56), by1 (n / 2 ^ 48), by1 (n / 2 ^ 40), by1 (n / 2 ^ 32), by1 (n / 2 ^ 24), by1 (n / 2 ^ 16), by1 (n / 2 ^ 8), by1 n]
theorem b8_take (n : Int) {j : Nat} (h : j < 8) : (b8 n).take (j + 1) = (b8 n).take j ++ [by1 (n / 2 ^ (56 - 8 * j))] := by
  have : j = 0 ∨ j = 1 ∨ j = 2 ∨ j = 3 ∨ j = 4 ∨ j = 5 ∨ j = 6 ∨ j = 7 := by omega
  rcases this with rfl | rfl | rfl | rfl | rfl | rfl | rfl | rfl
  all_goals first | rfl | (show _ = _ ++ [by1 (n / 2 ^ 0)]; rw [show n / 2 ^ 0 = n by simp]; rfl)
def tagK (k : Int) : UInt8 := if k = 0 then 5 else if k = 1 then 16 else if k = 2 then 32 else 48
def kW (v : ValueD) : List UInt8 := tagK v.Kind :: (if v.Kind = 0 then [] else if v.Kind = 1 then b8 (v.N + 9223372036854775808) else escK v.S ++ [0, 1])
def keyW (l : List ValueD) : List UInt8 := l.flatMap kW
theorem kW_len {v : ValueD} (h : vChk v = 0) : (kW v).length ≤ 35 := by
  obtain ⟨_, _, _, h4⟩ := vChk_inv h
  have := escK_len v.S
  unfold kW
  rw [List.length_cons]
  (repeat' split)
  · simp
  · show 8 + 1 ≤ 35; omega
  · rw [List.length_append]; show _ + 2 + 1 ≤ _; omega
theorem keyW_len : ∀ {l : List ValueD}, (∀ v ∈ l, vChk v = 0) → (keyW l).length ≤ 35 * l.length
  | [], _ => by simp [keyW]
  | v :: l, h => by
    unfold keyW
    rw [List.flatMap_cons, List.length_append, List.length_cons]
    have h1 := kW_len (h v (List.mem_cons_self ..))
    have h2 := keyW_len (l := l) fun x hx => h x (List.mem_cons_of_mem _ hx)
    unfold keyW at h2
    omega
theorem key_snoc {l : List ValueD} {k : Nat} (h : k < l.length) : keyW (l.take (k + 1)) = keyW (l.take k) ++ kW l[k] := by
  unfold keyW
  rw [take_snoc h, List.flatMap_append]; simp
def keyR (l : List ValueD) : List UInt8 := if rowChk l = 0 then keyW l else []
theorem p_key (l : List ValueD) (hl : l.length ≤ 140737488355328) (hN : ∀ v ∈ l, okInt v.N) : Pure Try.prog 19 [slV 3 ValueD.c l] (.tup [pStr (tx (keyR l)), pInt .i64 (rowChk l)]) := by
  have pc := p_rowchk l hl
  refine pure_of Try.func19 (by rfl) rfl (by kernel_rfl) (by rfl) ?_
  unfold keyR
  by_cases h : rowChk l = 0
  · obtain ⟨h8, hv⟩ := rowChk_ok h
    rw [if_pos h]
    rw [h] at pc ⊢
    (((conv => whnf); repeat ((first | with_reducible refine BCase.tt ?_ | with_reducible refine BCase.ff ?_); (conv => whnf))); repeat' (first | ((first | with_reducible refine Wr.u8 ?_ | ((first | with_reducible refine Wr.ci ?s ?_ | with_reducible refine Wr.c3 ?s ?_ | with_reducible refine Wr.c6 ?s ?_ | with_reducible refine BCase.dt ?s ?_); case s => (first | omega | (simp only [lens, true_and, and_true]; (try omega); done))) | (with_reducible refine BCase.df ?s ?_; case s => (first | omega | (simp only [lens, true_and, and_true]; (try omega); done))) | (with_reducible refine Need.mk ?s ?_; case s => first | (first | omega | (simp only [lens, true_and, and_true]; (try omega); done)) | decide | kernel_rfl) | refine BCase.t (by decide) ?_ | refine BCase.f (by decide) ?_); ((conv => whnf); repeat ((first | with_reducible refine BCase.tt ?_ | with_reducible refine BCase.ff ?_); (conv => whnf)))) | ((refine CallP.pure _ rfl _ (pc) ?_); ((conv => whnf); repeat ((first | with_reducible refine BCase.tt ?_ | with_reducible refine BCase.ff ?_); (conv => whnf)))) | ((with_reducible refine EmpOr.app ?_); ((conv => whnf); repeat ((first | with_reducible refine BCase.tt ?_ | with_reducible refine BCase.ff ?_); (conv => whnf)))) | (first | with_reducible refine BCase.not ?_ | with_reducible refine BCase.and ?_ | with_reducible refine BCase.or ?_) | ((with_reducible refine BCase.d (fun _ => ?_) (fun _ => ?_)) <;> ((conv => whnf); repeat ((first | with_reducible refine BCase.tt ?_ | with_reducible refine BCase.ff ?_); (conv => whnf))))))
    refine LoopC.mk Nat (fun j => [(5, .d (.app 60 tByte 1 (byteRows (keyW (l.take j))))), (16, slV 3 ValueD.c l), (17, pInt .i64 l.length), (18, pInt .i64 j)]) (fun j => [(60, .tail tByte 1)]) [60] (fun j => j ≤ l.length) (fun j => l.length - j) 0 (Nat.zero_le _) ?start ?round
    case start => exact ⟨[], rfl, rfl, ⟨⟨rfl, rfl, Nat.zero_lt_one, rfl, rfl⟩, .inl rfl, PLe.int (by simp), .inl rfl, trivial⟩, ⟨rfl, Nat.zero_lt_one⟩, trivial⟩
    case round =>
      intro j hj
      by_cases h1 : j < l.length
      · have hm := List.getElem_mem h1
        obtain ⟨k1, k2, k3, k4⟩ := vChk_inv (hv _ hm)
        have hN1 := hN _ hm
        have hf := keyW_len (l := l.take j) fun v hx => hv v (List.mem_of_mem_take hx)
        rw [List.length_take] at hf
        have hs := key_snoc h1
        have hb := bRows_length (keyW (l.take j))
        have hend : ∀ t : List UInt8, kW l[j] = t → byteRows (keyW (l.take (j + 1))) = byteRows (keyW (l.take j)) ++ byteRows t := by
          rintro t rfl
          rw [hs, byteRows_append]
        generalize hx : l[j] = x at *
        obtain ⟨kd, n, s⟩ := x
        simp only at k1 k2 k3 k4 hN1
        have kk : kd = 0 ∨ kd = 1 ∨ 2 ≤ kd := by omega
        rcases kk with rfl | rfl | kk
        · (((conv => whnf); repeat ((first | with_reducible refine BCase.tt ?_ | with_reducible refine BCase.ff ?_); (conv => whnf))); repeat' (first | ((first | with_reducible refine Wr.u8 ?_ | ((first | with_reducible refine Wr.ci ?s ?_ | with_reducible refine Wr.c3 ?s ?_ | with_reducible refine Wr.c6 ?s ?_ | with_reducible refine BCase.dt ?s ?_); case s => (first | omega | (simp only [lens, true_and, and_true]; (try omega); done))) | (with_reducible refine BCase.df ?s ?_; case s => (first | omega | (simp only [lens, true_and, and_true]; (try omega); done))) | (with_reducible refine Need.mk ?s ?_; case s => first | (first | omega | (simp only [lens, true_and, and_true]; (try omega); done)) | decide | kernel_rfl) | refine BCase.t (by decide) ?_ | refine BCase.f (by decide) ?_); ((conv => whnf); repeat ((first | with_reducible refine BCase.tt ?_ | with_reducible refine BCase.ff ?_); (conv => whnf)))) | (( refine Idx.mapE j rfl h1 hx ?_); ((conv => whnf); repeat ((first | with_reducible refine BCase.tt ?_ | with_reducible refine BCase.ff ?_); (conv => whnf)))) | (( refine DIdx.mk _ (by dsimp only; decide) rfl ?_); ((conv => whnf); repeat ((first | with_reducible refine BCase.tt ?_ | with_reducible refine BCase.ff ?_); (conv => whnf)))) | (( refine Need.by 1 rfl (by simp only [List.length_append, List.length_singleton, hb]; omega) ?_); ((conv => whnf); repeat ((first | with_reducible refine BCase.tt ?_ | with_reducible refine BCase.ff ?_); (conv => whnf)))) | ((with_reducible refine EmpOr.app ?_); ((conv => whnf); repeat ((first | with_reducible refine BCase.tt ?_ | with_reducible refine BCase.ff ?_); (conv => whnf)))) | (first | with_reducible refine BCase.not ?_ | with_reducible refine BCase.and ?_ | with_reducible refine BCase.or ?_) | ((with_reducible refine BCase.d (fun _ => ?_) (fun _ => ?_)) <;> ((conv => whnf); repeat ((first | with_reducible refine BCase.tt ?_ | with_reducible refine BCase.ff ?_); (conv => whnf))))))
          exact ⟨j + 1, by omega, by omega, [(60, 28)], rfl, rfl, ⟨⟨rfl, rfl, rfl, rfl, by rw [hend [5] rfl]; rfl⟩, .inl rfl, .inl rfl, PLe.int (by omega), trivial⟩, ⟨rfl, rfl, rfl⟩, trivial⟩
        · have kw : kW ⟨1, n, s⟩ = [16] ++ b8 (n + 9223372036854775808) := rfl
          have hlo := hN1.1
          have hhi := hN1.2
          (((conv => whnf); repeat ((first | with_reducible refine BCase.tt ?_ | with_reducible refine BCase.ff ?_); (conv => whnf))); repeat' (first | ((first | with_reducible refine Wr.u8 ?_ | ((first | with_reducible refine Wr.ci ?s ?_ | with_reducible refine Wr.c3 ?s ?_ | with_reducible refine Wr.c6 ?s ?_ | with_reducible refine BCase.dt ?s ?_); case s => (first | omega | (simp only [lens, true_and, and_true]; (try omega); done))) | (with_reducible refine BCase.df ?s ?_; case s => (first | omega | (simp only [lens, true_and, and_true]; (try omega); done))) | (with_reducible refine Need.mk ?s ?_; case s => first | (first | omega | (simp only [lens, true_and, and_true]; (try omega); done)) | decide | kernel_rfl) | refine BCase.t (by decide) ?_ | refine BCase.f (by decide) ?_); ((conv => whnf); repeat ((first | with_reducible refine BCase.tt ?_ | with_reducible refine BCase.ff ?_); (conv => whnf)))) | (( refine Idx.mapE j rfl h1 hx ?_); ((conv => whnf); repeat ((first | with_reducible refine BCase.tt ?_ | with_reducible refine BCase.ff ?_); (conv => whnf)))) | (( refine DIdx.mk _ (by dsimp only; decide) rfl ?_); ((conv => whnf); repeat ((first | with_reducible refine BCase.tt ?_ | with_reducible refine BCase.ff ?_); (conv => whnf)))) | (( refine Need.by 1 rfl (by simp only [List.length_append, List.length_singleton, hb]; omega) ?_); ((conv => whnf); repeat ((first | with_reducible refine BCase.tt ?_ | with_reducible refine BCase.ff ?_); (conv => whnf)))) | (( refine Wr.turn hN1 ?_); ((conv => whnf); repeat ((first | with_reducible refine BCase.tt ?_ | with_reducible refine BCase.ff ?_); (conv => whnf)))) | (( refine Wr.u64w ?_); ((conv => whnf); repeat ((first | with_reducible refine BCase.tt ?_ | with_reducible refine BCase.ff ?_); (conv => whnf)))) | ((with_reducible refine EmpOr.app ?_); ((conv => whnf); repeat ((first | with_reducible refine BCase.tt ?_ | with_reducible refine BCase.ff ?_); (conv => whnf)))) | (first | with_reducible refine BCase.not ?_ | with_reducible refine BCase.and ?_ | with_reducible refine BCase.or ?_) | ((with_reducible refine BCase.d (fun _ => ?_) (fun _ => ?_)) <;> ((conv => whnf); repeat ((first | with_reducible refine BCase.tt ?_ | with_reducible refine BCase.ff ?_); (conv => whnf))))))
          refine LoopC.mk Nat (fun i => [(5, .d (.app 61 tByte 1 (byteRows (keyW (l.take j) ++ [16] ++ (b8 (n + 9223372036854775808)).take i)))), (8, pInt .i64 (56 - 8 * (i : Int))), (9, pInt .u64 (n + 9223372036854775808)), (16, slV 3 ValueD.c l), (17, pInt .i64 l.length), (18, pInt .i64 j)]) (fun i => [(61, .tail tByte 1)]) [61] (fun i => i ≤ 8) (fun i => 8 - i) 0 (Nat.zero_le _) ?_ ?_
          · exact ⟨[(61, 28)], rfl, rfl, ⟨⟨rfl, rfl, rfl, rfl, by show _ = byteRows (_ ++ []); rw [List.append_nil, byteRows_append]; rfl⟩, .inl rfl, .inl rfl, .inl rfl, PLe.int (by simp), .inl rfl, trivial⟩, ⟨rfl, rfl, rfl⟩, trivial⟩
          · intro i hi
            have hb2 := bRows_length (keyW (l.take j) ++ [16] ++ (b8 (n + 9223372036854775808)).take i)
            simp only [List.length_append, List.length_singleton, List.length_take] at hb2
            have hb8 : (b8 (n + 9223372036854775808)).length = 8 := rfl
            by_cases h2 : i < 8
            · have hes := b8_take (n + 9223372036854775808) h2
              have hsh : (n + 9223372036854775808).fdiv (2 ^ min (56 - 8 * (i : Int)).toNat 64) = (n + 9223372036854775808) / 2 ^ (56 - 8 * i) := by
                rw [Int.fdiv_eq_ediv_of_nonneg _ (Int.pow_nonneg (by decide))]
                congr 2
                omega
              (((conv => whnf); repeat ((first | with_reducible refine BCase.tt ?_ | with_reducible refine BCase.ff ?_); (conv => whnf))); repeat' (first | ((first | with_reducible refine Wr.u8 ?_ | ((first | with_reducible refine Wr.ci ?s ?_ | with_reducible refine Wr.c3 ?s ?_ | with_reducible refine Wr.c6 ?s ?_ | with_reducible refine BCase.dt ?s ?_); case s => (first | omega | (simp only [lens, true_and, and_true]; (try omega); done))) | (with_reducible refine BCase.df ?s ?_; case s => (first | omega | (simp only [lens, true_and, and_true]; (try omega); done))) | (with_reducible refine Need.mk ?s ?_; case s => first | (first | omega | (simp only [lens, true_and, and_true]; (try omega); done)) | decide | kernel_rfl) | refine BCase.t (by decide) ?_ | refine BCase.f (by decide) ?_); ((conv => whnf); repeat ((first | with_reducible refine BCase.tt ?_ | with_reducible refine BCase.ff ?_); (conv => whnf)))) | (( refine Need.by 1 rfl (by simp only [List.length_append, List.length_singleton, hb2]; omega) ?_); ((conv => whnf); repeat ((first | with_reducible refine BCase.tt ?_ | with_reducible refine BCase.ff ?_); (conv => whnf)))) | ((with_reducible refine EmpOr.app ?_); ((conv => whnf); repeat ((first | with_reducible refine BCase.tt ?_ | with_reducible refine BCase.ff ?_); (conv => whnf)))) | (first | with_reducible refine BCase.not ?_ | with_reducible refine BCase.and ?_ | with_reducible refine BCase.or ?_) | ((with_reducible refine BCase.d (fun _ => ?_) (fun _ => ?_)) <;> ((conv => whnf); repeat ((first | with_reducible refine BCase.tt ?_ | with_reducible refine BCase.ff ?_); (conv => whnf))))))
              refine ⟨i + 1, by omega, by omega, [(61, 49)], rfl, rfl, ⟨⟨rfl, rfl, rfl, rfl, ?_⟩, PLe.int (by omega), .inl rfl, .inl rfl, .inl rfl, .inl rfl, trivial⟩, ⟨rfl, rfl, rfl⟩, trivial⟩
              rw [hes, ← hsh]
              simp only [byteRows_append, List.append_assoc]; rfl
            · (((conv => whnf); repeat ((first | with_reducible refine BCase.tt ?_ | with_reducible refine BCase.ff ?_); (conv => whnf))); repeat' (first | ((first | with_reducible refine Wr.u8 ?_ | ((first | with_reducible refine Wr.ci ?s ?_ | with_reducible refine Wr.c3 ?s ?_ | with_reducible refine Wr.c6 ?s ?_ | with_reducible refine BCase.dt ?s ?_); case s => (first | omega | (simp only [lens, true_and, and_true]; (try omega); done))) | (with_reducible refine BCase.df ?s ?_; case s => (first | omega | (simp only [lens, true_and, and_true]; (try omega); done))) | (with_reducible refine Need.mk ?s ?_; case s => first | (first | omega | (simp only [lens, true_and, and_true]; (try omega); done)) | decide | kernel_rfl) | refine BCase.t (by decide) ?_ | refine BCase.f (by decide) ?_); ((conv => whnf); repeat ((first | with_reducible refine BCase.tt ?_ | with_reducible refine BCase.ff ?_); (conv => whnf)))) | ((with_reducible refine EmpOr.app ?_); ((conv => whnf); repeat ((first | with_reducible refine BCase.tt ?_ | with_reducible refine BCase.ff ?_); (conv => whnf)))) | (first | with_reducible refine BCase.not ?_ | with_reducible refine BCase.and ?_ | with_reducible refine BCase.or ?_) | ((with_reducible refine BCase.d (fun _ => ?_) (fun _ => ?_)) <;> ((conv => whnf); repeat ((first | with_reducible refine BCase.tt ?_ | with_reducible refine BCase.ff ?_); (conv => whnf))))))
              refine ⟨j + 1, by omega, by omega, [(60, 61)], rfl, rfl, ⟨⟨rfl, rfl, rfl, rfl, ?_⟩, .inl rfl, .inl rfl, PLe.int (by omega), trivial⟩, ⟨rfl, rfl, rfl⟩, trivial⟩
              rw [hend _ kw, List.take_of_length_le (l := b8 _) (by rw [hb8]; omega)]
              simp only [byteRows_append, List.append_assoc]
        · have kt : kd = 2 ∨ kd = 3 := by omega
          have htag : ∃ tg : UInt8, tagK kd = tg ∧ ((kd = 2 ∧ tg = 32) ∨ (kd = 3 ∧ tg = 48)) := ⟨_, rfl, by rcases kt with rfl | rfl <;> simp [tagK]⟩
          obtain ⟨tg, ht1, ht2⟩ := htag
          have kw : kW ⟨kd, n, s⟩ = [tg] ++ (escK s ++ [0, 1]) := by
            unfold kW
            rw [if_neg (show ¬ kd = 0 by omega), if_neg (show ¬ kd = 1 by omega), ht1]; rfl
          have di : ∀ {K : D → Prop}, K (.c (.v (.int .u8 (tg.toNat : Int)))) → DIdx [D.c (C.v (.int .u8 5)), D.c (C.v (.int .u8 16)), D.c (C.v (.int .u8 32)), D.c (C.v (.int .u8 48))] kd K := fun h => by
            rcases ht2 with ⟨rfl, rfl⟩ | ⟨rfl, rfl⟩
            · exact ⟨_, by decide, rfl, h⟩
            · exact ⟨_, by decide, rfl, h⟩
          have tz := tx_size s
          (((conv => whnf); repeat ((first | with_reducible refine BCase.tt ?_ | with_reducible refine BCase.ff ?_); (conv => whnf))); repeat' (first | ((first | with_reducible refine Wr.u8 ?_ | ((first | with_reducible refine Wr.ci ?s ?_ | with_reducible refine Wr.c3 ?s ?_ | with_reducible refine Wr.c6 ?s ?_ | with_reducible refine BCase.dt ?s ?_); case s => (first | omega | (simp only [lens, true_and, and_true]; (try omega); done))) | (with_reducible refine BCase.df ?s ?_; case s => (first | omega | (simp only [lens, true_and, and_true]; (try omega); done))) | (with_reducible refine Need.mk ?s ?_; case s => first | (first | omega | (simp only [lens, true_and, and_true]; (try omega); done)) | decide | kernel_rfl) | refine BCase.t (by decide) ?_ | refine BCase.f (by decide) ?_); ((conv => whnf); repeat ((first | with_reducible refine BCase.tt ?_ | with_reducible refine BCase.ff ?_); (conv => whnf)))) | (( refine Idx.mapE j rfl h1 hx ?_); ((conv => whnf); repeat ((first | with_reducible refine BCase.tt ?_ | with_reducible refine BCase.ff ?_); (conv => whnf)))) | (( refine di ?_); ((conv => whnf); repeat ((first | with_reducible refine BCase.tt ?_ | with_reducible refine BCase.ff ?_); (conv => whnf)))) | (( refine Need.by 1 rfl (by simp only [List.length_append, List.length_singleton, hb]; omega) ?_); ((conv => whnf); repeat ((first | with_reducible refine BCase.tt ?_ | with_reducible refine BCase.ff ?_); (conv => whnf)))) | ((with_reducible refine EmpOr.app ?_); ((conv => whnf); repeat ((first | with_reducible refine BCase.tt ?_ | with_reducible refine BCase.ff ?_); (conv => whnf)))) | (first | with_reducible refine BCase.not ?_ | with_reducible refine BCase.and ?_ | with_reducible refine BCase.or ?_) | ((with_reducible refine BCase.d (fun _ => ?_) (fun _ => ?_)) <;> ((conv => whnf); repeat ((first | with_reducible refine BCase.tt ?_ | with_reducible refine BCase.ff ?_); (conv => whnf))))))
          all_goals
            refine LoopC.mk Nat (fun i => [(5, .d (.app 61 tByte 1 (byteRows (keyW (l.take j) ++ [tg] ++ escK (s.take i))))), (7, .d (.ptr 7 0)), (10, pInt .i64 i), (16, slV 3 ValueD.c l), (17, pInt .i64 l.length), (18, pInt .i64 j)]) (fun i => [(61, .tail tByte 1), (7, .box tVal ((ValueD.mk kd n s).c.map D.c))]) [61, 7] (fun i => i ≤ s.length) (fun i => s.length - i) 0 (Nat.zero_le _) ?_ ?_
            · exact ⟨[(61, 28), (7, 7)], rfl, rfl, ⟨⟨rfl, rfl, rfl, rfl, by show _ = byteRows (_ ++ []); rw [List.append_nil, byteRows_append]; rfl⟩, ⟨rfl, rfl, rfl⟩, .inl rfl, .inl rfl, PLe.int (by simp), .inl rfl, trivial⟩, ⟨rfl, rfl, rfl⟩, ⟨rfl, rfl, .inl rfl, .inl rfl, .inl rfl, rfl⟩, trivial⟩
            · intro i hi
              have he := escK_len (s.take i)
              rw [List.length_take] at he
              have hb2 := bRows_length (keyW (l.take j) ++ [tg] ++ escK (s.take i))
              simp only [List.length_append, List.length_singleton] at hb2
              by_cases h2 : i < s.length
              · have hes : escK (s.take (i + 1)) = escK (s.take i) ++ (if s.getD i 0 = 0 then [0, 255] else [s.getD i 0]) := by
                  rw [take_snoc h2, escK_append, List.getD_eq_getElem?_getD, List.getElem?_eq_getElem h2]
                  show _ ++ (if s[i] = 0 then 0 :: 255 :: [] else s[i] :: []) = _
                  rfl
                by_cases hz : s.getD i 0 = 0
                · rw [if_pos hz] at hes
                  have hz' : ((s.getD i 0).toNat : Int) = 0 := by rw [hz]; rfl
                  (((conv => whnf); repeat ((first | with_reducible refine BCase.tt ?_ | with_reducible refine BCase.ff ?_); (conv => whnf))); repeat' (first | ((first | with_reducible refine Wr.u8 ?_ | ((first | with_reducible refine Wr.ci ?s ?_ | with_reducible refine Wr.c3 ?s ?_ | with_reducible refine Wr.c6 ?s ?_ | with_reducible refine BCase.dt ?s ?_); case s => (first | omega | (simp only [lens, true_and, and_true]; (try omega); done))) | (with_reducible refine BCase.df ?s ?_; case s => (first | omega | (simp only [lens, true_and, and_true]; (try omega); done))) | (with_reducible refine Need.mk ?s ?_; case s => first | (first | omega | (simp only [lens, true_and, and_true]; (try omega); done)) | decide | kernel_rfl) | refine BCase.t (by decide) ?_ | refine BCase.f (by decide) ?_); ((conv => whnf); repeat ((first | with_reducible refine BCase.tt ?_ | with_reducible refine BCase.ff ?_); (conv => whnf)))) | (( refine SIdx.tx i rfl h2 ?_); ((conv => whnf); repeat ((first | with_reducible refine BCase.tt ?_ | with_reducible refine BCase.ff ?_); (conv => whnf)))) | (( refine BCase.dt hz' ?_); ((conv => whnf); repeat ((first | with_reducible refine BCase.tt ?_ | with_reducible refine BCase.ff ?_); (conv => whnf)))) | (( refine Need.by 1 rfl (by simp only [List.length_append, List.length_singleton, hb2]; omega) ?_); ((conv => whnf); repeat ((first | with_reducible refine BCase.tt ?_ | with_reducible refine BCase.ff ?_); (conv => whnf)))) | ((with_reducible refine EmpOr.app ?_); ((conv => whnf); repeat ((first | with_reducible refine BCase.tt ?_ | with_reducible refine BCase.ff ?_); (conv => whnf)))) | (first | with_reducible refine BCase.not ?_ | with_reducible refine BCase.and ?_ | with_reducible refine BCase.or ?_) | ((with_reducible refine BCase.d (fun _ => ?_) (fun _ => ?_)) <;> ((conv => whnf); repeat ((first | with_reducible refine BCase.tt ?_ | with_reducible refine BCase.ff ?_); (conv => whnf))))))
                  refine ⟨i + 1, by omega, by omega, [(61, 71), (7, 7)], rfl, rfl, ⟨⟨rfl, rfl, rfl, rfl, ?_⟩, ⟨rfl, rfl, rfl⟩, PLe.int (by omega), .inl rfl, .inl rfl, .inl rfl, trivial⟩, ⟨rfl, rfl, rfl⟩, ⟨rfl, rfl, .inl rfl, .inl rfl, .inl rfl, rfl⟩, trivial⟩
                  rw [hes, hz']
                  simp only [byteRows_append, List.append_assoc]; rfl
                · rw [if_neg hz] at hes
                  have hz' : ¬ ((s.getD i 0).toNat : Int) = 0 := fun e => hz (u8_eq.1 e)
                  (((conv => whnf); repeat ((first | with_reducible refine BCase.tt ?_ | with_reducible refine BCase.ff ?_); (conv => whnf))); repeat' (first | ((first | with_reducible refine Wr.u8 ?_ | ((first | with_reducible refine Wr.ci ?s ?_ | with_reducible refine Wr.c3 ?s ?_ | with_reducible refine Wr.c6 ?s ?_ | with_reducible refine BCase.dt ?s ?_); case s => (first | omega | (simp only [lens, true_and, and_true]; (try omega); done))) | (with_reducible refine BCase.df ?s ?_; case s => (first | omega | (simp only [lens, true_and, and_true]; (try omega); done))) | (with_reducible refine Need.mk ?s ?_; case s => first | (first | omega | (simp only [lens, true_and, and_true]; (try omega); done)) | decide | kernel_rfl) | refine BCase.t (by decide) ?_ | refine BCase.f (by decide) ?_); ((conv => whnf); repeat ((first | with_reducible refine BCase.tt ?_ | with_reducible refine BCase.ff ?_); (conv => whnf)))) | (( refine SIdx.tx i rfl h2 ?_); ((conv => whnf); repeat ((first | with_reducible refine BCase.tt ?_ | with_reducible refine BCase.ff ?_); (conv => whnf)))) | (( refine BCase.df hz' ?_); ((conv => whnf); repeat ((first | with_reducible refine BCase.tt ?_ | with_reducible refine BCase.ff ?_); (conv => whnf)))) | (( refine Need.by 1 rfl (by simp only [List.length_append, List.length_singleton, hb2]; omega) ?_); ((conv => whnf); repeat ((first | with_reducible refine BCase.tt ?_ | with_reducible refine BCase.ff ?_); (conv => whnf)))) | ((with_reducible refine EmpOr.app ?_); ((conv => whnf); repeat ((first | with_reducible refine BCase.tt ?_ | with_reducible refine BCase.ff ?_); (conv => whnf)))) | (first | with_reducible refine BCase.not ?_ | with_reducible refine BCase.and ?_ | with_reducible refine BCase.or ?_) | ((with_reducible refine BCase.d (fun _ => ?_) (fun _ => ?_)) <;> ((conv => whnf); repeat ((first | with_reducible refine BCase.tt ?_ | with_reducible refine BCase.ff ?_); (conv => whnf))))))
                  refine ⟨i + 1, by omega, by omega, [(61, 63), (7, 7)], rfl, rfl, ⟨⟨rfl, rfl, rfl, rfl, ?_⟩, ⟨rfl, rfl, rfl⟩, PLe.int (by omega), .inl rfl, .inl rfl, .inl rfl, trivial⟩, ⟨rfl, rfl, rfl⟩, ⟨rfl, rfl, .inl rfl, .inl rfl, .inl rfl, rfl⟩, trivial⟩
                  rw [hes]
                  simp only [byteRows_append, List.append_assoc]; rfl
              · (((conv => whnf); repeat ((first | with_reducible refine BCase.tt ?_ | with_reducible refine BCase.ff ?_); (conv => whnf))); repeat' (first | ((first | with_reducible refine Wr.u8 ?_ | ((first | with_reducible refine Wr.ci ?s ?_ | with_reducible refine Wr.c3 ?s ?_ | with_reducible refine Wr.c6 ?s ?_ | with_reducible refine BCase.dt ?s ?_); case s => (first | omega | (simp only [lens, true_and, and_true]; (try omega); done))) | (with_reducible refine BCase.df ?s ?_; case s => (first | omega | (simp only [lens, true_and, and_true]; (try omega); done))) | (with_reducible refine Need.mk ?s ?_; case s => first | (first | omega | (simp only [lens, true_and, and_true]; (try omega); done)) | decide | kernel_rfl) | refine BCase.t (by decide) ?_ | refine BCase.f (by decide) ?_); ((conv => whnf); repeat ((first | with_reducible refine BCase.tt ?_ | with_reducible refine BCase.ff ?_); (conv => whnf)))) | (( refine Need.by 1 rfl (by simp only [List.length_append, List.length_singleton, List.length_cons, List.length_nil, hb2]; omega) ?_); ((conv => whnf); repeat ((first | with_reducible refine BCase.tt ?_ | with_reducible refine BCase.ff ?_); (conv => whnf)))) | ((with_reducible refine EmpOr.app ?_); ((conv => whnf); repeat ((first | with_reducible refine BCase.tt ?_ | with_reducible refine BCase.ff ?_); (conv => whnf)))) | (first | with_reducible refine BCase.not ?_ | with_reducible refine BCase.and ?_ | with_reducible refine BCase.or ?_) | ((with_reducible refine BCase.d (fun _ => ?_) (fun _ => ?_)) <;> ((conv => whnf); repeat ((first | with_reducible refine BCase.tt ?_ | with_reducible refine BCase.ff ?_); (conv => whnf))))))
                refine ⟨j + 1, by omega, by omega, [(60, 74)], rfl, rfl, ⟨⟨rfl, rfl, rfl, rfl, ?_⟩, .inl rfl, .inl rfl, PLe.int (by omega), trivial⟩, ⟨rfl, rfl, rfl⟩, trivial⟩
                rw [hend _ kw, List.take_of_length_le (l := s) (by omega)]
                simp only [byteRows_append, List.append_assoc]; rfl
      · (((conv => whnf); repeat ((first | with_reducible refine BCase.tt ?_ | with_reducible refine BCase.ff ?_); (conv => whnf))); repeat' (first | ((first | with_reducible refine Wr.u8 ?_ | ((first | with_reducible refine Wr.ci ?s ?_ | with_reducible refine Wr.c3 ?s ?_ | with_reducible refine Wr.c6 ?s ?_ | with_reducible refine BCase.dt ?s ?_); case s => (first | omega | (simp only [lens, true_and, and_true]; (try omega); done))) | (with_reducible refine BCase.df ?s ?_; case s => (first | omega | (simp only [lens, true_and, and_true]; (try omega); done))) | (with_reducible refine Need.mk ?s ?_; case s => first | (first | omega | (simp only [lens, true_and, and_true]; (try omega); done)) | decide | kernel_rfl) | refine BCase.t (by decide) ?_ | refine BCase.f (by decide) ?_); ((conv => whnf); repeat ((first | with_reducible refine BCase.tt ?_ | with_reducible refine BCase.ff ?_); (conv => whnf)))) | ((with_reducible refine EmpOr.app ?_); ((conv => whnf); repeat ((first | with_reducible refine BCase.tt ?_ | with_reducible refine BCase.ff ?_); (conv => whnf)))) | (first | with_reducible refine BCase.not ?_ | with_reducible refine BCase.and ?_ | with_reducible refine BCase.or ?_) | ((with_reducible refine BCase.d (fun _ => ?_) (fun _ => ?_)) <;> ((conv => whnf); repeat ((first | with_reducible refine BCase.tt ?_ | with_reducible refine BCase.ff ?_); (conv => whnf))))))
        refine Bytes.mk' ?_
        (((conv => whnf); repeat ((first | with_reducible refine BCase.tt ?_ | with_reducible refine BCase.ff ?_); (conv => whnf))); repeat' (first | ((first | with_reducible refine Wr.u8 ?_ | ((first | with_reducible refine Wr.ci ?s ?_ | with_reducible refine Wr.c3 ?s ?_ | with_reducible refine Wr.c6 ?s ?_ | with_reducible refine BCase.dt ?s ?_); case s => (first | omega | (simp only [lens, true_and, and_true]; (try omega); done))) | (with_reducible refine BCase.df ?s ?_; case s => (first | omega | (simp only [lens, true_and, and_true]; (try omega); done))) | (with_reducible refine Need.mk ?s ?_; case s => first | (first | omega | (simp only [lens, true_and, and_true]; (try omega); done)) | decide | kernel_rfl) | refine BCase.t (by decide) ?_ | refine BCase.f (by decide) ?_); ((conv => whnf); repeat ((first | with_reducible refine BCase.tt ?_ | with_reducible refine BCase.ff ?_); (conv => whnf)))) | ((with_reducible refine EmpOr.app ?_); ((conv => whnf); repeat ((first | with_reducible refine BCase.tt ?_ | with_reducible refine BCase.ff ?_); (conv => whnf)))) | (first | with_reducible refine BCase.not ?_ | with_reducible refine BCase.and ?_ | with_reducible refine BCase.or ?_) | ((with_reducible refine BCase.d (fun _ => ?_) (fun _ => ?_)) <;> ((conv => whnf); repeat ((first | with_reducible refine BCase.tt ?_ | with_reducible refine BCase.ff ?_); (conv => whnf))))))
        refine Ret.mk ?_
        rw [List.take_of_length_le (by omega)]; rfl
  · rw [if_neg h]
    (((conv => whnf); repeat ((first | with_reducible refine BCase.tt ?_ | with_reducible refine BCase.ff ?_); (conv => whnf))); repeat' (first | ((first | with_reducible refine Wr.u8 ?_ | ((first | with_reducible refine Wr.ci ?s ?_ | with_reducible refine Wr.c3 ?s ?_ | with_reducible refine Wr.c6 ?s ?_ | with_reducible refine BCase.dt ?s ?_); case s => (first | omega | (simp only [lens, true_and, and_true]; (try omega); done))) | (with_reducible refine BCase.df ?s ?_; case s => (first | omega | (simp only [lens, true_and, and_true]; (try omega); done))) | (with_reducible refine Need.mk ?s ?_; case s => first | (first | omega | (simp only [lens, true_and, and_true]; (try omega); done)) | decide | kernel_rfl) | refine BCase.t (by decide) ?_ | refine BCase.f (by decide) ?_); ((conv => whnf); repeat ((first | with_reducible refine BCase.tt ?_ | with_reducible refine BCase.ff ?_); (conv => whnf)))) | ((refine CallP.pure _ rfl _ (pc) ?_); ((conv => whnf); repeat ((first | with_reducible refine BCase.tt ?_ | with_reducible refine BCase.ff ?_); (conv => whnf)))) | ((with_reducible refine EmpOr.app ?_); ((conv => whnf); repeat ((first | with_reducible refine BCase.tt ?_ | with_reducible refine BCase.ff ?_); (conv => whnf)))) | (first | with_reducible refine BCase.not ?_ | with_reducible refine BCase.and ?_ | with_reducible refine BCase.or ?_) | ((with_reducible refine BCase.d (fun _ => ?_) (fun _ => ?_)) <;> ((conv => whnf); repeat ((first | with_reducible refine BCase.tt ?_ | with_reducible refine BCase.ff ?_); (conv => whnf))))))
    exact Ret.mk rfl
end Go.Proofs.Ytnlkfpgaehgpbaa.Pm
