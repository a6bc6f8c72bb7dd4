/- starlinglaw.LikeMore -/
import Derived.Test.YthogcgnhhcbkkaaDoorPmBegun
namespace Go.Proofs.YthogcgnhhcbkkaaDoor.Pm
open Go.RowKit LikeP
set_option linter.unusedVariables false
theorem pieces_append : ∀ (a b : List UInt8), (∀ x ∈ a, x.toNat < 128) → pieces (a ++ b) = pieces a ++ pieces b
  | [], b, _ => by rw [pieces_nil]; rfl
  | x :: a, b, h => by
    have hx := h x (List.mem_cons_self ..)
    rw [List.cons_append, pieces_ascii x (a ++ b) (by omega), pieces_ascii x a (by omega), pieces_append a b fun y hy => h y (List.mem_cons_of_mem _ hy)]
    rfl
theorem ascii_of {p : ByteArray} (h : asciiB p = true) : ∀ x ∈ p.data.toList, x.toNat < 128 := fun x hx => of_decide_eq_true (List.all_eq_true.1 h x hx)
theorem data_append (p q : ByteArray) : (p ++ q).data.toList = p.data.toList ++ q.data.toList := by rw [ByteArray.data_append, Array.toList_append]
theorem pcs_append {p : ByteArray} (q : ByteArray) (h : asciiB p = true) : pcs (p ++ q) = pcs p ++ pcs q := by
  unfold pcs
  rw [data_append, pieces_append _ _ (ascii_of h), List.map_append]
theorem ascii_append {p q : ByteArray} (h : asciiB p = true) (k : asciiB q = true) : asciiB (p ++ q) = true := by
  unfold asciiB at *
  rw [data_append, List.all_append, h, k]; rfl
theorem patE_app {p q : ByteArray} (ha : asciiB p = true) (hp : patE p = 0) (hq : patE q = 0) (hz : p.size + q.size ≤ 32) : patE (p ++ q) = 0 ∧ pat (p ++ q) = pat p ++ pat q := by
  have h1 := (patE_ok hp).2
  have h2 := (patE_ok hq).2
  constructor
  · unfold patE
    rw [if_neg (by rw [ByteArray.size_append]; omega), pcs_append q ha, openE_append, h1, h2]; rfl
  · unfold pat
    rw [pcs_append q ha, partsE_append, h1]
abbrev star1 : ByteArray := ⟨#[37]⟩
abbrev star2 : ByteArray := ⟨#[37, 37]⟩
abbrev starP : LikeP.Part := (37, ByteArray.empty)
theorem st1 : asciiB star1 = true ∧ patE star1 = 0 ∧ pat star1 = [starP] := ⟨by decide +kernel, by decide +kernel, by decide +kernel⟩
theorem st2 : asciiB star2 = true ∧ patE star2 = 0 ∧ pat star2 = [starP, starP] := ⟨by decide +kernel, by decide +kernel, by decide +kernel⟩
theorem gstar (l : List LikeP.Part) (t : List ByteArray) : glob (starP :: l) t ↔ ∃ k, k ≤ t.length ∧ glob l (t.drop k) := glob_star rfl
theorem gstar2 (l : List LikeP.Part) (t : List ByteArray) : glob (starP :: starP :: l) t ↔ glob (starP :: l) t := by
  rw [gstar, gstar]
  constructor
  · rintro ⟨k, hk, h⟩
    rw [gstar] at h
    obtain ⟨m, hm, h⟩ := h
    rw [List.length_drop] at hm
    rw [List.drop_drop] at h
    exact ⟨k + m, by omega, h⟩
  · rintro ⟨k, hk, h⟩
    exact ⟨k, hk, (gstar _ _).2 ⟨0, Nat.zero_le _, h⟩⟩
theorem more {p q s : ByteArray} (hp : patE p = 0) (hq : patE q = 0) (ap : asciiB p = true) (zp : p.size ≤ 15) (zq : q.size ≤ 15) (zs : s.size ≤ 16) :
    matE (p ++ q) s = 0 ∧ matE (p ++ star1 ++ q) s = 0 ∧ matE (p ++ star2 ++ q) s = 0 ∧ matE star1 s = 0 ∧ matB star1 s = true ∧ matB (p ++ star2 ++ q) s = matB (p ++ star1 ++ q) s ∧ (matB (p ++ q) s = true → matB (p ++ star1 ++ q) s = true) := by
  have z1 : star1.size = 1 := rfl
  have z2 : star2.size = 2 := rfl
  obtain ⟨a1, a2⟩ := patE_app ap hp hq (by omega)
  obtain ⟨b1, b2⟩ := patE_app ap hp st1.2.1 (by omega)
  obtain ⟨c1, c2⟩ := patE_app ap hp st2.2.1 (by omega)
  obtain ⟨d1, d2⟩ := patE_app (ascii_append ap st1.1) b1 hq (by rw [ByteArray.size_append]; omega)
  obtain ⟨e1, e2⟩ := patE_app (ascii_append ap st2.1) c1 hq (by rw [ByteArray.size_append]; omega)
  have hE : ∀ {r : ByteArray}, patE r = 0 → matE r s = 0 := fun {r} h => by unfold matE; rw [if_neg (by omega), if_neg (by omega)]
  refine ⟨hE a1, hE d1, hE e1, hE st1.2.1, ?_, ?_, ?_⟩
  · rw [matB_iff]
    refine ⟨hE st1.2.1, ?_⟩
    rw [st1.2.2, gstar]
    exact ⟨(pcs s).length, Nat.le_refl _, by rw [List.drop_length]; rfl⟩
  · rw [Bool.eq_iff_iff, matB_iff, matB_iff, d2, e2, b2, c2, st1.2.2, st2.2.2, List.append_assoc, List.append_assoc, glob_append, glob_append]
    simp only [hE d1, hE e1, true_and, List.cons_append, List.nil_append, gstar2]
  · rw [matB_iff, matB_iff, a2, d2, b2, st1.2.2, List.append_assoc, glob_append, glob_append]
    rintro ⟨_, k, hk, h1, h2⟩
    exact ⟨hE d1, k, hk, h1, by
      show glob (starP :: pat q) _
      rw [gstar]; exact ⟨0, Nat.zero_le _, h2⟩⟩
theorem law_more (p q s : ByteArray) (zp : p.size ≤ 140737488351232) (zq : q.size ≤ 140737488351232) (zs : s.size ≤ 140737488351232) : Pure Tryd.prog 6 [pStr p, pStr q, pStr s] (pBool true) := by
  refine pure_of Tryd.func6 (by rfl) rfl (by kernel_rfl) (by rfl) ?_
  ((conv => whnf); repeat ((first | with_reducible refine BCase.tt ?_ | with_reducible refine BCase.ff ?_); (conv => whnf)))
  refine CallP.pure _ rfl _ p_begun ?_
  ((conv => whnf); repeat ((first | with_reducible refine BCase.tt ?_ | with_reducible refine BCase.ff ?_); (conv => whnf)))
  (repeat ((first | refine BCase.t (by decide) ?_ | refine BCase.f (by decide) ?_); ((conv => whnf); repeat ((first | with_reducible refine BCase.tt ?_ | with_reducible refine BCase.ff ?_); (conv => whnf)))))
  refine BCase.d (fun h1 => ?_) (fun h1 => ?_)
  · ((conv => whnf); repeat ((first | with_reducible refine BCase.tt ?_ | with_reducible refine BCase.ff ?_); (conv => whnf)))
    exact Ret.mk rfl
  ((conv => whnf); repeat ((first | with_reducible refine BCase.tt ?_ | with_reducible refine BCase.ff ?_); (conv => whnf)))
  refine BCase.d (fun h2 => ?_) (fun h2 => ?_)
  · ((conv => whnf); repeat ((first | with_reducible refine BCase.tt ?_ | with_reducible refine BCase.ff ?_); (conv => whnf)))
    exact Ret.mk rfl
  ((conv => whnf); repeat ((first | with_reducible refine BCase.tt ?_ | with_reducible refine BCase.ff ?_); (conv => whnf)))
  refine BCase.d (fun h3 => ?_) (fun h3 => ?_)
  · ((conv => whnf); repeat ((first | with_reducible refine BCase.tt ?_ | with_reducible refine BCase.ff ?_); (conv => whnf)))
    exact Ret.mk rfl
  ((conv => whnf); repeat ((first | with_reducible refine BCase.tt ?_ | with_reducible refine BCase.ff ?_); (conv => whnf)))
  refine CallP.pure _ rfl _ (p_ascii p (by omega)) ?_
  ((conv => whnf); repeat ((first | with_reducible refine BCase.tt ?_ | with_reducible refine BCase.ff ?_); (conv => whnf)))
  refine BCase.mk (fun h4 => ?_) (fun h4 => ?_)
  · ((conv => whnf); repeat ((first | with_reducible refine BCase.tt ?_ | with_reducible refine BCase.ff ?_); (conv => whnf)))
    exact Ret.mk rfl
  ((conv => whnf); repeat ((first | with_reducible refine BCase.tt ?_ | with_reducible refine BCase.ff ?_); (conv => whnf)))
  refine CallP.pure _ rfl _ (p_ascii q (by omega)) ?_
  ((conv => whnf); repeat ((first | with_reducible refine BCase.tt ?_ | with_reducible refine BCase.ff ?_); (conv => whnf)))
  refine BCase.mk (fun h5 => ?_) (fun h5 => ?_)
  · ((conv => whnf); repeat ((first | with_reducible refine BCase.tt ?_ | with_reducible refine BCase.ff ?_); (conv => whnf)))
    exact Ret.mk rfl
  ((conv => whnf); repeat ((first | with_reducible refine BCase.tt ?_ | with_reducible refine BCase.ff ?_); (conv => whnf)))
  refine CallP.pure _ rfl _ (p_check p) ?_
  ((conv => whnf); repeat ((first | with_reducible refine BCase.tt ?_ | with_reducible refine BCase.ff ?_); (conv => whnf)))
  refine BCase.d (fun h6 => ?_) (fun h6 => ?_)
  · ((conv => whnf); repeat ((first | with_reducible refine BCase.tt ?_ | with_reducible refine BCase.ff ?_); (conv => whnf)))
    exact Ret.mk rfl
  ((conv => whnf); repeat ((first | with_reducible refine BCase.tt ?_ | with_reducible refine BCase.ff ?_); (conv => whnf)))
  refine CallP.pure _ rfl _ (p_check q) ?_
  ((conv => whnf); repeat ((first | with_reducible refine BCase.tt ?_ | with_reducible refine BCase.ff ?_); (conv => whnf)))
  refine BCase.d (fun h7 => ?_) (fun h7 => ?_)
  · ((conv => whnf); repeat ((first | with_reducible refine BCase.tt ?_ | with_reducible refine BCase.ff ?_); (conv => whnf)))
    exact Ret.mk rfl
  have ap : asciiB p = true := by simpa using h4
  obtain ⟨f1, f2, f3, f4, f5, f6, f7⟩ := more (s := s) (Classical.byContradiction h6) (Classical.byContradiction h7) ap (by omega) (by omega) (by omega)
  have m1 := p_match (p ++ q) s
  have m2 := p_match (p ++ star1 ++ q) s
  have m3 := p_match (p ++ star2 ++ q) s
  have m4 := p_match star1 s
  rw [f1] at m1
  rw [f2] at m2
  rw [f3, f6] at m3
  rw [f4, f5] at m4
  have z1 : star1.size = 1 := rfl
  have z2 : star2.size = 2 := rfl
  ((conv => whnf); repeat ((first | with_reducible refine BCase.tt ?_ | with_reducible refine BCase.ff ?_); (conv => whnf)))
  refine Need.mk (by omega) ?_
  ((conv => whnf); repeat ((first | with_reducible refine BCase.tt ?_ | with_reducible refine BCase.ff ?_); (conv => whnf)))
  refine CallP.pure _ rfl _ m1 ?_
  ((conv => whnf); repeat ((first | with_reducible refine BCase.tt ?_ | with_reducible refine BCase.ff ?_); (conv => whnf)))
  refine Need.mk (by show _ + 1 ≤ _; omega) ?_
  ((conv => whnf); repeat ((first | with_reducible refine BCase.tt ?_ | with_reducible refine BCase.ff ?_); (conv => whnf)))
  refine Need.mk (by rw [ByteArray.size_append]; show _ + 1 + _ ≤ _; omega) ?_
  ((conv => whnf); repeat ((first | with_reducible refine BCase.tt ?_ | with_reducible refine BCase.ff ?_); (conv => whnf)))
  refine CallP.pure _ rfl _ m2 ?_
  ((conv => whnf); repeat ((first | with_reducible refine BCase.tt ?_ | with_reducible refine BCase.ff ?_); (conv => whnf)))
  refine Need.mk (by show _ + 2 ≤ _; omega) ?_
  ((conv => whnf); repeat ((first | with_reducible refine BCase.tt ?_ | with_reducible refine BCase.ff ?_); (conv => whnf)))
  refine Need.mk (by rw [ByteArray.size_append]; show _ + 2 + _ ≤ _; omega) ?_
  ((conv => whnf); repeat ((first | with_reducible refine BCase.tt ?_ | with_reducible refine BCase.ff ?_); (conv => whnf)))
  refine CallP.pure _ rfl _ m3 ?_
  ((conv => whnf); repeat ((first | with_reducible refine BCase.tt ?_ | with_reducible refine BCase.ff ?_); (conv => whnf)))
  refine CallP.pure _ rfl _ m4 ?_
  ((conv => whnf); repeat ((first | with_reducible refine BCase.tt ?_ | with_reducible refine BCase.ff ?_); (conv => whnf)))
  (repeat ((first | refine BCase.t (by decide) ?_ | refine BCase.f (by decide) ?_); ((conv => whnf); repeat ((first | with_reducible refine BCase.tt ?_ | with_reducible refine BCase.ff ?_); (conv => whnf)))))
  refine BCase.t (by simp) ?_
  ((conv => whnf); repeat ((first | with_reducible refine BCase.tt ?_ | with_reducible refine BCase.ff ?_); (conv => whnf)))
  refine BCase.mk (fun h8 => ?_) (fun h8 => ?_)
  · ((conv => whnf); repeat ((first | with_reducible refine BCase.tt ?_ | with_reducible refine BCase.ff ?_); (conv => whnf)))
    exact Ret.mk rfl
  · ((conv => whnf); repeat ((first | with_reducible refine BCase.tt ?_ | with_reducible refine BCase.ff ?_); (conv => whnf)))
    refine Ret.mk ?_
    rw [f7 (by simpa using h8)]
end Go.Proofs.YthogcgnhhcbkkaaDoor.Pm
