/- starlinglaw.likeBegun -/
import Derived.Test.YthogcgnhhcbkkaaDoorPmPrefix
namespace Go.Proofs.YthogcgnhhcbkkaaDoor.Pm
open Go.RowKit LikeP
set_option linter.unusedVariables false

def globB : List LikeP.Part → List ByteArray → Bool
  | [], t => t.isEmpty
  | p :: l, t => if p.1 = 37 then (List.range (t.length + 1)).any fun k => globB l (t.drop k) else match t with | [] => false | x :: r => stands p x && globB l r
theorem globB_iff : ∀ (l : List LikeP.Part) (t : List ByteArray), globB l t = true ↔ glob l t
  | [], t => by simp [globB, glob]
  | p :: l, t => by
    unfold globB
    by_cases h : p.1 = 37
    · rw [if_pos h, glob_star h, List.any_eq_true]
      constructor
      · rintro ⟨k, hk, h1⟩
        exact ⟨k, by have := List.mem_range.1 hk; omega, (globB_iff l _).1 h1⟩
      · rintro ⟨k, hk, h1⟩
        exact ⟨k, List.mem_range.2 (by omega), (globB_iff l _).2 h1⟩
    · rw [if_neg h, glob_one h]
      cases t with
      | nil => simp
      | cons x r =>
        rw [Bool.and_eq_true, globB_iff l r]
        constructor
        · rintro ⟨h1, h2⟩; exact ⟨x, r, rfl, h1, h2⟩
        · rintro ⟨x', r', e, h1, h2⟩; cases e; exact ⟨h1, h2⟩
theorem matB_eq (p s : ByteArray) : matB p s = (decide (matE p s = 0) && globB (pat p) (pcs s)) := by
  rw [Bool.eq_iff_iff, matB_iff, Bool.and_eq_true, globB_iff, decide_eq_true_iff]

theorem b1 : matB ⟨#[97, 37, 95, 99]⟩ ⟨#[97, 98, 195, 169, 99]⟩ = true ∧ matE ⟨#[97, 37, 95, 99]⟩ ⟨#[97, 98, 195, 169, 99]⟩ = 0 := by
  rw [matB_eq]; exact ⟨by decide +kernel, by decide +kernel⟩
theorem b2 : matB ⟨#[92, 37, 95]⟩ ⟨#[37, 255]⟩ = true ∧ matE ⟨#[92, 37, 95]⟩ ⟨#[37, 255]⟩ = 0 := by
  rw [matB_eq]; exact ⟨by decide +kernel, by decide +kernel⟩
theorem b3 : matB ⟨#[95]⟩ ⟨#[195, 255]⟩ = false ∧ matE ⟨#[95]⟩ ⟨#[195, 255]⟩ = 0 := by
  rw [matB_eq]; exact ⟨by decide +kernel, by decide +kernel⟩
theorem b4 : matB ⟨#[97, 92]⟩ ⟨#[97]⟩ = false ∧ matE ⟨#[97, 92]⟩ ⟨#[97]⟩ = 1 := by
  rw [matB_eq]; exact ⟨by decide +kernel, by decide +kernel⟩
theorem b5 : patE ⟨#[97, 92, 95, 98, 37]⟩ = 0 := by decide +kernel
theorem b6 : preS (pat ⟨#[97, 92, 95, 98, 37]⟩) = ⟨#[97, 95, 98]⟩ ∧ preB (pat ⟨#[97, 92, 95, 98, 37]⟩) = false := ⟨by decide +kernel, by decide +kernel⟩
theorem b7 : pcs ⟨#[97, 226, 130, 172, 226, 130]⟩ = [⟨#[97]⟩, ⟨#[226, 130, 172]⟩, ⟨#[226]⟩, ⟨#[130]⟩] := by decide +kernel

theorem c1 : Pure Tryd.prog 10 [pStr ⟨#[97, 37, 95, 99]⟩, pStr ⟨#[97, 98, 195, 169, 99]⟩] (.tup [pBool true, pInt .i64 0]) := by
  have h := p_match ⟨#[97, 37, 95, 99]⟩ ⟨#[97, 98, 195, 169, 99]⟩; rwa [b1.1, b1.2] at h
theorem c2 : Pure Tryd.prog 10 [pStr ⟨#[92, 37, 95]⟩, pStr ⟨#[37, 255]⟩] (.tup [pBool true, pInt .i64 0]) := by
  have h := p_match ⟨#[92, 37, 95]⟩ ⟨#[37, 255]⟩; rwa [b2.1, b2.2] at h
theorem c3 : Pure Tryd.prog 10 [pStr ⟨#[95]⟩, pStr ⟨#[195, 255]⟩] (.tup [pBool false, pInt .i64 0]) := by
  have h := p_match ⟨#[95]⟩ ⟨#[195, 255]⟩; rwa [b3.1, b3.2] at h
theorem c4 : Pure Tryd.prog 10 [pStr ⟨#[97, 92]⟩, pStr ⟨#[97]⟩] (.tup [pBool false, pInt .i64 1]) := by
  have h := p_match ⟨#[97, 92]⟩ ⟨#[97]⟩; rwa [b4.1, b4.2] at h
theorem c5 : Pure Tryd.prog 16 [pStr ⟨#[97, 92, 95, 98, 37]⟩] (.tup [pStr ⟨#[97, 95, 98]⟩, pBool false, pInt .i64 0]) := by
  have h := p_prefix ⟨#[97, 92, 95, 98, 37]⟩ b5; rwa [b6.1, b6.2] at h
theorem c6 : Pure Tryd.prog 14 [pStr ⟨#[97, 226, 130, 172, 226, 130]⟩] (.tup [texts [⟨#[97]⟩, ⟨#[226, 130, 172]⟩, ⟨#[226]⟩, ⟨#[130]⟩], pInt .i64 0]) := by
  have h := p_pieces ⟨#[97, 226, 130, 172, 226, 130]⟩ (by decide); rwa [b7] at h
theorem c7 : Pure Tryd.prog 21 [texts [⟨#[97]⟩, ⟨#[226, 130, 172]⟩, ⟨#[226]⟩, ⟨#[130]⟩], texts [⟨#[97]⟩, ⟨#[226, 130, 172]⟩, ⟨#[226]⟩, ⟨#[130]⟩]] (pBool true) := by
  have h := p_same [⟨#[97]⟩, ⟨#[226, 130, 172]⟩, ⟨#[226]⟩, ⟨#[130]⟩] [⟨#[97]⟩, ⟨#[226, 130, 172]⟩, ⟨#[226]⟩, ⟨#[130]⟩] (by decide); rwa [decide_eq_true rfl] at h
theorem p_begun : Pure Tryd.prog 12 [] (pBool true) := by
  refine pure_of Tryd.func12 (by rfl) rfl (by kernel_rfl) (by rfl) ?_
  ((conv => whnf); repeat ((first | with_reducible refine BCase.tt ?_ | with_reducible refine BCase.ff ?_); (conv => whnf)))
  refine CallP.pure _ rfl _ c1 ?_
  ((conv => whnf); repeat ((first | with_reducible refine BCase.tt ?_ | with_reducible refine BCase.ff ?_); (conv => whnf)))
  refine CallP.pure _ rfl _ c2 ?_
  ((conv => whnf); repeat ((first | with_reducible refine BCase.tt ?_ | with_reducible refine BCase.ff ?_); (conv => whnf)))
  refine CallP.pure _ rfl _ c3 ?_
  ((conv => whnf); repeat ((first | with_reducible refine BCase.tt ?_ | with_reducible refine BCase.ff ?_); (conv => whnf)))
  refine CallP.pure _ rfl _ c4 ?_
  ((conv => whnf); repeat ((first | with_reducible refine BCase.tt ?_ | with_reducible refine BCase.ff ?_); (conv => whnf)))
  refine CallP.pure _ rfl _ c5 ?_
  ((conv => whnf); repeat ((first | with_reducible refine BCase.tt ?_ | with_reducible refine BCase.ff ?_); (conv => whnf)))
  refine CallP.pure _ rfl _ c6 ?_
  ((conv => whnf); repeat ((first | with_reducible refine BCase.tt ?_ | with_reducible refine BCase.ff ?_); (conv => whnf)))
  (repeat ((first | refine BCase.t (by decide) ?_ | refine BCase.f (by decide) ?_); ((conv => whnf); repeat ((first | with_reducible refine BCase.tt ?_ | with_reducible refine BCase.ff ?_); (conv => whnf)))))
  refine CallP.pure _ rfl _ c7 ?_
  ((conv => whnf); repeat ((first | with_reducible refine BCase.tt ?_ | with_reducible refine BCase.ff ?_); (conv => whnf)))
  exact Ret.mk rfl
end Go.Proofs.YthogcgnhhcbkkaaDoor.Pm
