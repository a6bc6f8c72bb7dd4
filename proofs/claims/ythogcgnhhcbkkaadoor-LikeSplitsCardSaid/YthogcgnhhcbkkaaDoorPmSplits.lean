/- starlinglaw.LikeSplits -/
import Derived.Test.YthogcgnhhcbkkaaDoorPmPieces
import Derived.Test.YthogcgnhhcbkkaaDoorPmMore
namespace Go.Proofs.YthogcgnhhcbkkaaDoor.Pm
open Go.RowKit LikeP
set_option linter.unusedVariables false
theorem letterLen_more (l : List UInt8) (m : Nat) (hm : letterLen l ≤ m) : letterLen (l.take m) = letterLen l := by
  by_cases hA : (bt l 0 194 223 && bt l 1 128 191) = true
  · have hl : letterLen l = 2 := by unfold letterLen; rw [if_pos hA]
    rw [hl] at hm ⊢
    have e0 : 0 < m := by omega
    have e1 : 1 < m := by omega
    unfold letterLen
    rw [if_pos (by simpa [bt_take, e0, e1] using hA)]
  by_cases hB : ((bt l 0 224 224 && bt l 1 160 191 || bt l 0 225 236 && bt l 1 128 191 || bt l 0 237 237 && bt l 1 128 159 || bt l 0 238 239 && bt l 1 128 191) && bt l 2 128 191) = true
  · have hl : letterLen l = 3 := by unfold letterLen; rw [if_neg hA, if_pos hB]
    rw [hl] at hm ⊢
    have e0 : 0 < m := by omega
    have e1 : 1 < m := by omega
    have e2 : 2 < m := by omega
    unfold letterLen
    rw [if_neg (by simpa [bt_take, e0, e1] using hA), if_pos (by simpa [bt_take, e0, e1, e2] using hB)]
  by_cases hC : ((bt l 0 240 240 && bt l 1 144 191 || bt l 0 241 243 && bt l 1 128 191 || bt l 0 244 244 && bt l 1 128 143) && bt l 2 128 191 && bt l 3 128 191) = true
  · have hl : letterLen l = 4 := by unfold letterLen; rw [if_neg hA, if_neg hB, if_pos hC]
    rw [hl] at hm ⊢
    have e0 : 0 < m := by omega
    have e1 : 1 < m := by omega
    have e2 : 2 < m := by omega
    have e3 : 3 < m := by omega
    unfold letterLen
    rw [if_neg (by simpa [bt_take, e0, e1] using hA), if_neg (by simpa [bt_take, e0, e1, e2] using hB), if_pos (by simpa [bt_take, e0, e1, e2, e3] using hC)]
  · have hl : letterLen l = 1 := by unfold letterLen; rw [if_neg hA, if_neg hB, if_neg hC]
    rw [hl] at hm ⊢
    have e0 : 0 < m := by omega
    have cut : ∀ i lo hi, bt (l.take m) i lo hi = true → bt l i lo hi = true := fun i lo hi h => by
      rw [bt_take, Bool.and_eq_true] at h; exact h.2
    have kA : ¬ (bt (l.take m) 0 194 223 && bt (l.take m) 1 128 191) = true := fun h => hA (by
      simp only [Bool.and_eq_true] at h ⊢
      exact ⟨cut _ _ _ h.1, cut _ _ _ h.2⟩)
    have kB : ¬ ((bt (l.take m) 0 224 224 && bt (l.take m) 1 160 191 || bt (l.take m) 0 225 236 && bt (l.take m) 1 128 191 || bt (l.take m) 0 237 237 && bt (l.take m) 1 128 159 || bt (l.take m) 0 238 239 && bt (l.take m) 1 128 191) && bt (l.take m) 2 128 191) = true := fun h => hB (by
      simp only [Bool.and_eq_true, Bool.or_eq_true] at h ⊢
      refine ⟨?_, cut _ _ _ h.2⟩
      rcases h.1 with ((h | h) | h) | h
      · exact .inl (.inl (.inl ⟨cut _ _ _ h.1, cut _ _ _ h.2⟩))
      · exact .inl (.inl (.inr ⟨cut _ _ _ h.1, cut _ _ _ h.2⟩))
      · exact .inl (.inr ⟨cut _ _ _ h.1, cut _ _ _ h.2⟩)
      · exact .inr ⟨cut _ _ _ h.1, cut _ _ _ h.2⟩)
    have kC : ¬ ((bt (l.take m) 0 240 240 && bt (l.take m) 1 144 191 || bt (l.take m) 0 241 243 && bt (l.take m) 1 128 191 || bt (l.take m) 0 244 244 && bt (l.take m) 1 128 143) && bt (l.take m) 2 128 191 && bt (l.take m) 3 128 191) = true := fun h => hC (by
      simp only [Bool.and_eq_true, Bool.or_eq_true] at h ⊢
      refine ⟨⟨?_, cut _ _ _ h.1.2⟩, cut _ _ _ h.2⟩
      rcases h.1.1 with (h | h) | h
      · exact .inl (.inl ⟨cut _ _ _ h.1, cut _ _ _ h.2⟩)
      · exact .inl (.inr ⟨cut _ _ _ h.1, cut _ _ _ h.2⟩)
      · exact .inr ⟨cut _ _ _ h.1, cut _ _ _ h.2⟩)
    unfold letterLen
    rw [if_neg kA, if_neg kB, if_neg kC]
theorem pieces_cut : ∀ l : List UInt8, ∀ i, pieces ((pieces l).take i).flatten = (pieces l).take i ∧ pieces ((pieces l).drop i).flatten = (pieces l).drop i := by
  refine pieces_ind (by intro i; rw [pieces_nil]; simp [pieces_nil]) ?_
  intro l hl ih i
  have h1 := letterLen_pos l
  have h2 := letterLen_le l hl
  cases i with
  | zero =>
    rw [List.take_zero, List.drop_zero, pieces_join]
    exact ⟨pieces_nil, rfl⟩
  | succ i =>
    obtain ⟨g1, g2⟩ := ih i
    have hc := pieces_cons l hl
    rw [hc, List.take_succ_cons, List.drop_succ_cons]
    refine ⟨?_, g2⟩
    rw [List.flatten_cons]
    obtain ⟨F, hF⟩ : ∃ F, F = ((pieces (l.drop (letterLen l))).take i).flatten := ⟨_, rfl⟩
    obtain ⟨G, hG⟩ : ∃ G, G = ((pieces (l.drop (letterLen l))).drop i).flatten := ⟨_, rfl⟩
    rw [← hF] at g1 ⊢
    have hFG : l.drop (letterLen l) = F ++ G := by
      rw [hF, hG, ← List.flatten_append, List.take_append_drop, pieces_join]
    have hx : l.take (letterLen l) ++ F = l.take (letterLen l + F.length) := by
      rw [List.take_add, hFG, List.take_left']
      rfl
    have hlx : (l.take (letterLen l)).length = letterLen l := by rw [List.length_take]; omega
    have hll : letterLen (l.take (letterLen l) ++ F) = letterLen l := by rw [hx]; exact letterLen_more l _ (by omega)
    have hne : l.take (letterLen l) ++ F ≠ [] := by
      intro e
      have := congrArg List.length e
      rw [List.length_append, hlx] at this
      simp only [List.length_nil] at this
      omega
    rw [pieces_cons _ hne, hll, List.take_left' hlx, List.drop_left' hlx, g1]
theorem joined_map (l : List (List UInt8)) : joined (l.map bs) = l.flatten := by
  unfold joined
  rw [List.flatMap_map, List.flatMap_def]
  congr 1
  rw [show (fun x => (bs x).data.toList) = id by funext x; exact list_bs x, List.map_id]
theorem pcs_cut (s : ByteArray) (i : Nat) : pcs (bs (joined ((pcs s).take i))) = (pcs s).take i ∧ pcs (bs (joined ((pcs s).drop i))) = (pcs s).drop i := by
  obtain ⟨h1, h2⟩ := pieces_cut s.data.toList i
  unfold pcs
  rw [← List.map_take, ← List.map_drop, joined_map, joined_map, list_bs, list_bs, h1, h2]
  exact ⟨rfl, rfl⟩
theorem law_splits (p q s : ByteArray) (zp : p.size ≤ 140737488351232) (zq : q.size ≤ 140737488351232) : Pure Tryd.prog 5 [pStr p, pStr q, pStr s] (pBool true) := by
  refine pure_of Tryd.func5 (by rfl) rfl (by kernel_rfl) (by rfl) ?_
  ((conv => whnf); repeat ((first | with_reducible refine BCase.tt ?_ | with_reducible refine BCase.ff ?_); (conv => whnf)))
  refine CallP.pure _ rfl _ p_begun ?_
  ((conv => whnf); repeat ((first | with_reducible refine BCase.tt ?_ | with_reducible refine BCase.ff ?_); (conv => whnf)))
  (repeat ((first | refine BCase.t (by decide) ?_ | refine BCase.f (by decide) ?_); ((conv => whnf); repeat ((first | with_reducible refine BCase.tt ?_ | with_reducible refine BCase.ff ?_); (conv => whnf)))))
  by_cases hs : 16 < s.size
  · refine CallP.pure _ rfl _ (p_pieces_no s hs) ?_
    ((conv => whnf); repeat ((first | with_reducible refine BCase.tt ?_ | with_reducible refine BCase.ff ?_); (conv => whnf)))
    (repeat ((first | refine BCase.t (by decide) ?_ | refine BCase.f (by decide) ?_); ((conv => whnf); repeat ((first | with_reducible refine BCase.tt ?_ | with_reducible refine BCase.ff ?_); (conv => whnf)))))
    exact Ret.mk rfl
  have hTl := pcs_length s
  have hjs := joined_pcs s
  have hcut := pcs_cut s
  have hmf : matB (p ++ q) s = true ↔ (matE (p ++ q) s = 0 ∧ glob (pat (p ++ q)) (pcs s)) := matB_iff _ _
  refine CallP.pure _ rfl _ (p_pieces s (by omega)) ?_
  obtain ⟨L, hL⟩ : ∃ L, L = pcs s := ⟨_, rfl⟩
  rw [← hL] at hTl hjs hcut hmf ⊢
  ((conv => whnf); repeat ((first | with_reducible refine BCase.tt ?_ | with_reducible refine BCase.ff ?_); (conv => whnf)))
  (repeat ((first | refine BCase.t (by decide) ?_ | refine BCase.f (by decide) ?_); ((conv => whnf); repeat ((first | with_reducible refine BCase.tt ?_ | with_reducible refine BCase.ff ?_); (conv => whnf)))))
  refine CallP.pure _ rfl _ (p_ascii p (by omega)) ?_
  ((conv => whnf); repeat ((first | with_reducible refine BCase.tt ?_ | with_reducible refine BCase.ff ?_); (conv => whnf)))
  refine BCase.mk (fun h1 => ?_) (fun h1 => ?_)
  · ((conv => whnf); repeat ((first | with_reducible refine BCase.tt ?_ | with_reducible refine BCase.ff ?_); (conv => whnf)))
    exact Ret.mk rfl
  ((conv => whnf); repeat ((first | with_reducible refine BCase.tt ?_ | with_reducible refine BCase.ff ?_); (conv => whnf)))
  refine CallP.pure _ rfl _ (p_ascii q (by omega)) ?_
  ((conv => whnf); repeat ((first | with_reducible refine BCase.tt ?_ | with_reducible refine BCase.ff ?_); (conv => whnf)))
  refine BCase.mk (fun h2 => ?_) (fun h2 => ?_)
  · ((conv => whnf); repeat ((first | with_reducible refine BCase.tt ?_ | with_reducible refine BCase.ff ?_); (conv => whnf)))
    exact Ret.mk rfl
  ((conv => whnf); repeat ((first | with_reducible refine BCase.tt ?_ | with_reducible refine BCase.ff ?_); (conv => whnf)))
  refine BCase.d (fun h3 => ?_) (fun h3 => ?_)
  · ((conv => whnf); repeat ((first | with_reducible refine BCase.tt ?_ | with_reducible refine BCase.ff ?_); (conv => whnf)))
    exact Ret.mk rfl
  ((conv => whnf); repeat ((first | with_reducible refine BCase.tt ?_ | with_reducible refine BCase.ff ?_); (conv => whnf)))
  refine BCase.d (fun h4 => ?_) (fun h4 => ?_)
  · ((conv => whnf); repeat ((first | with_reducible refine BCase.tt ?_ | with_reducible refine BCase.ff ?_); (conv => whnf)))
    exact Ret.mk rfl
  ((conv => whnf); repeat ((first | with_reducible refine BCase.tt ?_ | with_reducible refine BCase.ff ?_); (conv => whnf)))
  refine CallP.pure _ rfl _ (p_check p) ?_
  ((conv => whnf); repeat ((first | with_reducible refine BCase.tt ?_ | with_reducible refine BCase.ff ?_); (conv => whnf)))
  refine BCase.d (fun h5 => ?_) (fun h5 => ?_)
  · ((conv => whnf); repeat ((first | with_reducible refine BCase.tt ?_ | with_reducible refine BCase.ff ?_); (conv => whnf)))
    exact Ret.mk rfl
  ((conv => whnf); repeat ((first | with_reducible refine BCase.tt ?_ | with_reducible refine BCase.ff ?_); (conv => whnf)))
  refine CallP.pure _ rfl _ (p_check q) ?_
  ((conv => whnf); repeat ((first | with_reducible refine BCase.tt ?_ | with_reducible refine BCase.ff ?_); (conv => whnf)))
  refine BCase.d (fun h6 => ?_) (fun h6 => ?_)
  · ((conv => whnf); repeat ((first | with_reducible refine BCase.tt ?_ | with_reducible refine BCase.ff ?_); (conv => whnf)))
    exact Ret.mk rfl
  have h5 : patE p = 0 := Classical.byContradiction h5
  have h6 : patE q = 0 := Classical.byContradiction h6
  have hE : ∀ {r t : ByteArray}, patE r = 0 → t.size ≤ 16 → matE r t = 0 := fun {r t} h k => by unfold matE; rw [if_neg (by omega), if_neg (by omega)]
  have hsum : ∀ i, joined L = joined (L.take i) ++ joined (L.drop i) := fun i => by
    unfold joined
    rw [← List.flatMap_append, List.take_append_drop]
  have hlen : ∀ i, s.size = (joined (L.take i)).length + (joined (L.drop i)).length := fun i => by
    rw [← List.length_append, ← hsum i, hjs, size_list]
  have hatb : ∀ i, (joined (L.take i)).length ≤ 16 := fun i => by have := hlen i; omega
  have hx1 : ∀ i, s.extract 0 (joined (L.take i)).length = bs (joined (L.take i)) := fun i => by
    rw [extract_bs, ← hjs, List.drop_zero, Nat.sub_zero, hsum i, List.take_left' rfl]
  have hx2 : ∀ i, s.extract (joined (L.take i)).length s.size = bs (joined (L.drop i)) := fun i => by
    rw [extract_bs, ← hjs, hsum i, List.drop_left' rfl, List.take_of_length_le (by have := hlen i; omega)]
  have m1 : ∀ i, Pure Tryd.prog 10 [pStr p, pStr (bs (joined (L.take i)))] (.tup [pBool (matB p (bs (joined (L.take i)))), pInt .i64 0]) := fun i => by
    have h := p_match p (bs (joined (L.take i)))
    rwa [hE h5 (by rw [bs_size]; exact hatb i)] at h
  have m2 : ∀ i, Pure Tryd.prog 10 [pStr q, pStr (bs (joined (L.drop i)))] (.tup [pBool (matB q (bs (joined (L.drop i)))), pInt .i64 0]) := fun i => by
    have h := p_match q (bs (joined (L.drop i)))
    rwa [hE h6 (by rw [bs_size]; have := hlen i; omega)] at h
  obtain ⟨f1, f2⟩ := patE_app (by simpa using h1) h5 h6 (by omega)
  have hE3 : matE (p ++ q) s = 0 := hE f1 (by omega)
  have m3 := p_match (p ++ q) s
  rw [hE3] at m3
  obtain ⟨fnd, hfnd⟩ : ∃ f : Nat → Bool, f = fun i => (List.range i).any fun k => matB p (bs (joined (L.take k))) && matB q (bs (joined (L.drop k))) := ⟨_, rfl⟩
  have hf0 : fnd 0 = false := by rw [hfnd]; rfl
  have hfs : ∀ i, fnd (i + 1) = (fnd i || (matB p (bs (joined (L.take i))) && matB q (bs (joined (L.drop i))))) := fun i => by
    rw [hfnd]
    simp only [List.range_succ, List.any_append, List.any_cons, List.any_nil, Bool.or_false]
  have hfin : matB (p ++ q) s = fnd (L.length + 1) := by
    rw [Bool.eq_iff_iff, hmf, f2, glob_append, hfnd, List.any_eq_true]
    constructor
    · rintro ⟨_, k, hk, g1, g2⟩
      refine ⟨k, List.mem_range.2 (by omega), ?_⟩
      rw [Bool.and_eq_true, matB_iff, matB_iff, (hcut k).1, (hcut k).2]
      exact ⟨⟨hE h5 (by rw [bs_size]; exact hatb k), g1⟩, ⟨hE h6 (by rw [bs_size]; have := hlen k; omega), g2⟩⟩
    · rintro ⟨k, hk, hh⟩
      rw [Bool.and_eq_true, matB_iff, matB_iff, (hcut k).1, (hcut k).2] at hh
      exact ⟨hE3, k, by have := List.mem_range.1 hk; omega, hh.1.2, hh.2.2⟩
  ((conv => whnf); repeat ((first | with_reducible refine BCase.tt ?_ | with_reducible refine BCase.ff ?_); (conv => whnf)))
  refine LoopC.mk Nat (fun i => [(0, pStr p), (1, pStr q), (2, pStr s), (7, texts L), (9, pBool (fnd i)), (10, pInt .i64 (joined (L.take i)).length), (11, pInt .i64 i)]) (fun _ => []) [] (fun i => i ≤ L.length + 1) (fun i => L.length + 1 - i) 0 (Nat.zero_le _) ?start ?round
  case start => exact ⟨[], rfl, rfl, ⟨.inl rfl, .inl rfl, .inl rfl, .inl rfl, PLe.c (by rw [hf0]), .inl rfl, .inl rfl, trivial⟩, trivial⟩
  case round =>
    intro i hi
    have hb := hatb i
    have hl := hlen i
    have hf := hfs i
    ((conv => whnf); repeat ((first | with_reducible refine BCase.tt ?_ | with_reducible refine BCase.ff ?_); (conv => whnf)))
    rw [List.length_map]
    refine BCase.d (fun h => ?_) (fun h => ?_)
    · ((conv => whnf); repeat ((first | with_reducible refine BCase.tt ?_ | with_reducible refine BCase.ff ?_); (conv => whnf)))
      refine Need.mk (by omega) ?_
      rw [show s.extract (0 : Int).toNat (((joined (L.take i)).length : Int)).toNat = bs (joined (L.take i)) from hx1 i]
      ((conv => whnf); repeat ((first | with_reducible refine BCase.tt ?_ | with_reducible refine BCase.ff ?_); (conv => whnf)))
      refine CallP.pure _ rfl _ (m1 i) ?_
      ((conv => whnf); repeat ((first | with_reducible refine BCase.tt ?_ | with_reducible refine BCase.ff ?_); (conv => whnf)))
      refine Need.mk (by omega) ?_
      rw [show s.extract (((joined (L.take i)).length : Int)).toNat ((s.size : Int)).toNat = bs (joined (L.drop i)) from hx2 i]
      ((conv => whnf); repeat ((first | with_reducible refine BCase.tt ?_ | with_reducible refine BCase.ff ?_); (conv => whnf)))
      refine CallP.pure _ rfl _ (m2 i) ?_
      ((conv => whnf); repeat ((first | with_reducible refine BCase.tt ?_ | with_reducible refine BCase.ff ?_); (conv => whnf)))
      (repeat ((first | refine BCase.t (by decide) ?_ | refine BCase.f (by decide) ?_); ((conv => whnf); repeat ((first | with_reducible refine BCase.tt ?_ | with_reducible refine BCase.ff ?_); (conv => whnf)))))
      refine BCase.mk (fun h6 => ?_) (fun h6 => ?_)
      · ((conv => whnf); repeat ((first | with_reducible refine BCase.tt ?_ | with_reducible refine BCase.ff ?_); (conv => whnf)))
        rw [List.length_map]
        refine BCase.d (fun h8 => ?_) (fun h8 => ?_)
        · have hat : (joined (L.take (i + 1))).length = (joined (L.take i)).length + L[i].size := by rw [List.take_succ_eq_append_getElem (by omega), joined_snoc, List.length_append, size_list]
          have hb2 := hatb (i + 1)
          ((conv => whnf); repeat ((first | with_reducible refine BCase.tt ?_ | with_reducible refine BCase.ff ?_); (conv => whnf)))
          refine Idx.map (by omega) ?_
          ((conv => whnf); repeat ((first | with_reducible refine BCase.tt ?_ | with_reducible refine BCase.ff ?_); (conv => whnf)))
          refine Wr.i64 (by omega) (by omega) ?_
          ((conv => whnf); repeat ((first | with_reducible refine BCase.tt ?_ | with_reducible refine BCase.ff ?_); (conv => whnf)))
          refine Wr.i64 (by omega) (by omega) ?_
          ((conv => whnf); repeat ((first | with_reducible refine BCase.tt ?_ | with_reducible refine BCase.ff ?_); (conv => whnf)))
          exact ⟨i + 1, by omega, by omega, [], rfl, rfl, ⟨.inl rfl, .inl rfl, .inl rfl, .inl rfl, PLe.c (by rw [hf, h6]; rfl), PLe.int (by omega), PLe.int (by omega), trivial⟩, trivial⟩
        · have hat : L.take (i + 1) = L.take i := by rw [List.take_of_length_le (by omega), List.take_of_length_le (by omega)]
          ((conv => whnf); repeat ((first | with_reducible refine BCase.tt ?_ | with_reducible refine BCase.ff ?_); (conv => whnf)))
          refine Wr.i64 (by omega) (by omega) ?_
          ((conv => whnf); repeat ((first | with_reducible refine BCase.tt ?_ | with_reducible refine BCase.ff ?_); (conv => whnf)))
          exact ⟨i + 1, by omega, by omega, [], rfl, rfl, ⟨.inl rfl, .inl rfl, .inl rfl, .inl rfl, PLe.c (by rw [hf, h6]; rfl), PLe.int (by rw [hat]), PLe.int (by omega), trivial⟩, trivial⟩
      · ((conv => whnf); repeat ((first | with_reducible refine BCase.tt ?_ | with_reducible refine BCase.ff ?_); (conv => whnf)))
        refine BCase.mk (fun h7 => ?_) (fun h7 => ?_)
        · ((conv => whnf); repeat ((first | with_reducible refine BCase.tt ?_ | with_reducible refine BCase.ff ?_); (conv => whnf)))
          rw [List.length_map]
          refine BCase.d (fun h8 => ?_) (fun h8 => ?_)
          · have hat : (joined (L.take (i + 1))).length = (joined (L.take i)).length + L[i].size := by rw [List.take_succ_eq_append_getElem (by omega), joined_snoc, List.length_append, size_list]
            have hb2 := hatb (i + 1)
            ((conv => whnf); repeat ((first | with_reducible refine BCase.tt ?_ | with_reducible refine BCase.ff ?_); (conv => whnf)))
            refine Idx.map (by omega) ?_
            ((conv => whnf); repeat ((first | with_reducible refine BCase.tt ?_ | with_reducible refine BCase.ff ?_); (conv => whnf)))
            refine Wr.i64 (by omega) (by omega) ?_
            ((conv => whnf); repeat ((first | with_reducible refine BCase.tt ?_ | with_reducible refine BCase.ff ?_); (conv => whnf)))
            refine Wr.i64 (by omega) (by omega) ?_
            ((conv => whnf); repeat ((first | with_reducible refine BCase.tt ?_ | with_reducible refine BCase.ff ?_); (conv => whnf)))
            exact ⟨i + 1, by omega, by omega, [], rfl, rfl, ⟨.inl rfl, .inl rfl, .inl rfl, .inl rfl, PLe.c (by rw [hf, h6, h7]; rfl), PLe.int (by omega), PLe.int (by omega), trivial⟩, trivial⟩
          · have hat : L.take (i + 1) = L.take i := by rw [List.take_of_length_le (by omega), List.take_of_length_le (by omega)]
            ((conv => whnf); repeat ((first | with_reducible refine BCase.tt ?_ | with_reducible refine BCase.ff ?_); (conv => whnf)))
            refine Wr.i64 (by omega) (by omega) ?_
            ((conv => whnf); repeat ((first | with_reducible refine BCase.tt ?_ | with_reducible refine BCase.ff ?_); (conv => whnf)))
            exact ⟨i + 1, by omega, by omega, [], rfl, rfl, ⟨.inl rfl, .inl rfl, .inl rfl, .inl rfl, PLe.c (by rw [hf, h6, h7]; rfl), PLe.int (by rw [hat]), PLe.int (by omega), trivial⟩, trivial⟩
        · ((conv => whnf); repeat ((first | with_reducible refine BCase.tt ?_ | with_reducible refine BCase.ff ?_); (conv => whnf)))
          rw [List.length_map]
          refine BCase.d (fun h8 => ?_) (fun h8 => ?_)
          · have hat : (joined (L.take (i + 1))).length = (joined (L.take i)).length + L[i].size := by rw [List.take_succ_eq_append_getElem (by omega), joined_snoc, List.length_append, size_list]
            have hb2 := hatb (i + 1)
            ((conv => whnf); repeat ((first | with_reducible refine BCase.tt ?_ | with_reducible refine BCase.ff ?_); (conv => whnf)))
            refine Idx.map (by omega) ?_
            ((conv => whnf); repeat ((first | with_reducible refine BCase.tt ?_ | with_reducible refine BCase.ff ?_); (conv => whnf)))
            refine Wr.i64 (by omega) (by omega) ?_
            ((conv => whnf); repeat ((first | with_reducible refine BCase.tt ?_ | with_reducible refine BCase.ff ?_); (conv => whnf)))
            refine Wr.i64 (by omega) (by omega) ?_
            ((conv => whnf); repeat ((first | with_reducible refine BCase.tt ?_ | with_reducible refine BCase.ff ?_); (conv => whnf)))
            exact ⟨i + 1, by omega, by omega, [], rfl, rfl, ⟨.inl rfl, .inl rfl, .inl rfl, .inl rfl, PLe.c (by rw [hf, h6, h7]; rfl), PLe.int (by omega), PLe.int (by omega), trivial⟩, trivial⟩
          · have hat : L.take (i + 1) = L.take i := by rw [List.take_of_length_le (by omega), List.take_of_length_le (by omega)]
            ((conv => whnf); repeat ((first | with_reducible refine BCase.tt ?_ | with_reducible refine BCase.ff ?_); (conv => whnf)))
            refine Wr.i64 (by omega) (by omega) ?_
            ((conv => whnf); repeat ((first | with_reducible refine BCase.tt ?_ | with_reducible refine BCase.ff ?_); (conv => whnf)))
            exact ⟨i + 1, by omega, by omega, [], rfl, rfl, ⟨.inl rfl, .inl rfl, .inl rfl, .inl rfl, PLe.c (by rw [hf, h6, h7]; rfl), PLe.int (by rw [hat]), PLe.int (by omega), trivial⟩, trivial⟩
    · obtain rfl : i = L.length + 1 := by omega
      ((conv => whnf); repeat ((first | with_reducible refine BCase.tt ?_ | with_reducible refine BCase.ff ?_); (conv => whnf)))
      refine Need.mk (by omega) ?_
      ((conv => whnf); repeat ((first | with_reducible refine BCase.tt ?_ | with_reducible refine BCase.ff ?_); (conv => whnf)))
      refine CallP.pure _ rfl _ m3 ?_
      ((conv => whnf); repeat ((first | with_reducible refine BCase.tt ?_ | with_reducible refine BCase.ff ?_); (conv => whnf)))
      (repeat ((first | refine BCase.t (by decide) ?_ | refine BCase.f (by decide) ?_); ((conv => whnf); repeat ((first | with_reducible refine BCase.tt ?_ | with_reducible refine BCase.ff ?_); (conv => whnf)))))
      refine Ret.mk ?_
      rw [hfin]; simp
end Go.Proofs.YthogcgnhhcbkkaaDoor.Pm
