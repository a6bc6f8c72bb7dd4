/- starlinglaw.LikePieces -/
import Derived.Test.YthogcgnhhcbkkaaDoorPmFirst
namespace Go.Proofs.YthogcgnhhcbkkaaDoor.Pm
open Go.RowKit LikeP
set_option linter.unusedVariables false
theorem bt_take (l : List UInt8) (n i lo hi : Nat) : bt (l.take n) i lo hi = (decide (i < n) && bt l i lo hi) := by
  unfold bt
  rw [List.getElem?_take]
  by_cases h : i < n
  · rw [if_pos h, decide_eq_true h]; rfl
  · rw [if_neg h, decide_eq_false h]; rfl
theorem letterLen_take (l : List UInt8) : letterLen (l.take (letterLen l)) = letterLen l := by
  by_cases hA : (bt l 0 194 223 && bt l 1 128 191) = true
  · have hl : letterLen l = 2 := by unfold letterLen; rw [if_pos hA]
    rw [hl]
    unfold letterLen
    rw [if_pos (by simpa [bt_take] using hA)]
  by_cases hB : ((bt l 0 224 224 && bt l 1 160 191 || bt l 0 225 236 && bt l 1 128 191 || bt l 0 237 237 && bt l 1 128 159 || bt l 0 238 239 && bt l 1 128 191) && bt l 2 128 191) = true
  · have hl : letterLen l = 3 := by unfold letterLen; rw [if_neg hA, if_pos hB]
    rw [hl]
    unfold letterLen
    rw [if_neg (by simpa [bt_take] using hA), if_pos (by simpa [bt_take] using hB)]
  by_cases hC : ((bt l 0 240 240 && bt l 1 144 191 || bt l 0 241 243 && bt l 1 128 191 || bt l 0 244 244 && bt l 1 128 143) && bt l 2 128 191 && bt l 3 128 191) = true
  · have hl : letterLen l = 4 := by unfold letterLen; rw [if_neg hA, if_neg hB, if_pos hC]
    rw [hl]
    unfold letterLen
    rw [if_neg (by simpa [bt_take] using hA), if_neg (by simpa [bt_take] using hB), if_pos (by simpa [bt_take] using hC)]
  · have hl : letterLen l = 1 := by unfold letterLen; rw [if_neg hA, if_neg hB, if_neg hC]
    rw [hl]
    unfold letterLen
    rw [if_neg (by simp [bt_take]), if_neg (by simp [bt_take]), if_neg (by simp [bt_take])]
theorem pieces_one : ∀ l : List UInt8, ∀ x ∈ pieces l, pieces x = [x] := by
  refine pieces_ind (by intro x hx; rw [pieces_nil] at hx; cases hx) ?_
  intro l hl ih x hx
  rw [pieces_cons l hl] at hx
  rcases List.mem_cons.1 hx with rfl | hx
  · have h1 := letterLen_pos l
    have h2 := letterLen_le l hl
    have hm : l.take (letterLen l) ≠ [] := by
      intro e
      have := congrArg List.length e
      rw [List.length_take] at this
      simp only [List.length_nil] at this
      omega
    rw [pieces_cons _ hm, letterLen_take, List.take_take, Nat.min_self, List.drop_take, Nat.sub_self, List.take_zero, pieces_nil]
  · exact ih x hx
theorem pcs_one {s x : ByteArray} (h : x ∈ pcs s) : pcs x = [x] ∧ 1 ≤ x.size ∧ x.size ≤ 4 := by
  obtain ⟨y, hy, rfl⟩ := List.mem_map.1 h
  have h1 := pieces_one _ y hy
  obtain ⟨h2, h3⟩ := pieces_each _ y hy
  refine ⟨?_, ?_, h3⟩
  · unfold pcs; rw [list_bs, h1]; rfl
  · rw [bs_size]; exact List.length_pos_iff.2 h2
abbrev under : ByteArray := ⟨#[95]⟩
def ones (n : Nat) : ByteArray := bs (List.replicate n 95)
theorem pieces_ones : ∀ n : Nat, pieces (List.replicate n 95) = List.replicate n [95]
  | 0 => pieces_nil
  | n + 1 => by rw [List.replicate_succ, pieces_ascii 95 _ (by decide), pieces_ones n, List.replicate_succ]
theorem pcs_ones (n : Nat) : pcs (ones n) = List.replicate n underscore := by
  unfold pcs ones
  rw [list_bs, pieces_ones, List.map_replicate]; rfl
theorem open_ones : ∀ n : Nat, openE false (List.replicate n underscore) = false
  | 0 => rfl
  | n + 1 => by
    rw [List.replicate_succ]
    show openE (!false && decide (underscore = backslash)) _ = false
    rw [show (!false && decide (underscore = backslash)) = false by decide]
    exact open_ones n
theorem parts_ones : ∀ n : Nat, partsE false (List.replicate n underscore) = List.replicate n (95, ByteArray.empty)
  | 0 => rfl
  | n + 1 => by
    have h := partsE_append false [underscore] (List.replicate n underscore)
    rw [show openE false [underscore] = false by decide, parts_ones n] at h
    rw [List.replicate_succ, List.replicate_succ]
    exact h
theorem glob_ones : ∀ (n : Nat) (t : List ByteArray), glob (List.replicate n (95, ByteArray.empty)) t ↔ t.length = n
  | 0, t => by
    show t = [] ↔ _
    exact List.length_eq_zero_iff.symm
  | n + 1, t => by
    rw [List.replicate_succ, glob_one (by show (95 : Int) ≠ 37; decide)]
    constructor
    · rintro ⟨x, r, rfl, _, h⟩
      rw [glob_ones n] at h
      rw [List.length_cons, h]
    · intro h
      cases t with
      | nil => cases h
      | cons x r => exact ⟨x, r, rfl, rfl, (glob_ones n r).2 (by simpa using h)⟩
theorem ones_more (n : Nat) : ones n ++ under = ones (n + 1) := by
  unfold ones
  rw [show under = bs [95] from rfl, bs_append, List.replicate_succ']
theorem m_ones (n : Nat) (s : ByteArray) (hn : n ≤ 32) (hs : s.size ≤ 16) : matE (ones n) s = 0 ∧ matB (ones n) s = decide (n = (pcs s).length) := by
  have hp : patE (ones n) = 0 := by
    unfold patE
    rw [if_neg (by unfold ones; rw [bs_size, List.length_replicate]; omega), pcs_ones, open_ones]; rfl
  have hE : matE (ones n) s = 0 := by unfold matE; rw [if_neg (by omega), if_neg (by omega)]
  refine ⟨hE, ?_⟩
  rw [Bool.eq_iff_iff, matB_iff, decide_eq_true_iff]
  unfold pat
  rw [pcs_ones, parts_ones, glob_ones]
  constructor
  · rintro ⟨_, h⟩; exact h.symm
  · intro h; exact ⟨hE, h.symm⟩

theorem joined_snoc (l : List ByteArray) (x : ByteArray) : joined (l ++ [x]) = joined l ++ x.data.toList := by unfold joined; simp
theorem law_pieces (s : ByteArray) (n : Int) (n0 : -9223372036854775808 ≤ n) (n1 : n ≤ 9223372036854775807) : Pure Tryd.prog 4 [pStr s, pInt .i64 n] (pBool true) := by
  refine pure_of Tryd.func4 (by rfl) rfl (by kernel_rfl) (by rfl) ?_
  ((conv => whnf); repeat ((first | with_reducible refine BCase.tt ?_ | with_reducible refine BCase.ff ?_); (conv => whnf)))
  by_cases hs : 16 < s.size
  · refine CallP.pure _ rfl _ (p_pieces_no s hs) ?_
    ((conv => whnf); repeat ((first | with_reducible refine BCase.tt ?_ | with_reducible refine BCase.ff ?_); (conv => whnf)))
    refine CallP.pure _ rfl _ p_begun ?_
    ((conv => whnf); repeat ((first | with_reducible refine BCase.tt ?_ | with_reducible refine BCase.ff ?_); (conv => whnf)))
    (repeat ((first | refine BCase.t (by decide) ?_ | refine BCase.f (by decide) ?_); ((conv => whnf); repeat ((first | with_reducible refine BCase.tt ?_ | with_reducible refine BCase.ff ?_); (conv => whnf)))))
    exact Ret.mk rfl
  have hTl := pcs_length s
  have hone := fun x => @pcs_one s x
  have hjs := joined_pcs s
  have hm1 : ∀ m : Nat, m ≤ 32 → Pure Tryd.prog 10 [pStr (ones m), pStr s] (.tup [pBool (decide (m = (pcs s).length)), pInt .i64 0]) := fun m hm => by
    obtain ⟨h1, h2⟩ := m_ones m s hm (by omega)
    have h := p_match (ones m) s
    rwa [h1, h2] at h
  refine CallP.pure _ rfl _ (p_pieces s (by omega)) ?_
  obtain ⟨L, hL⟩ : ∃ L, L = pcs s := ⟨_, rfl⟩
  rw [← hL] at hTl hone hjs hm1 ⊢
  ((conv => whnf); repeat ((first | with_reducible refine BCase.tt ?_ | with_reducible refine BCase.ff ?_); (conv => whnf)))
  refine CallP.pure _ rfl _ p_begun ?_
  ((conv => whnf); repeat ((first | with_reducible refine BCase.tt ?_ | with_reducible refine BCase.ff ?_); (conv => whnf)))
  (repeat ((first | refine BCase.t (by decide) ?_ | refine BCase.f (by decide) ?_); ((conv => whnf); repeat ((first | with_reducible refine BCase.tt ?_ | with_reducible refine BCase.ff ?_); (conv => whnf)))))
  refine BCase.d (fun h1 => ?_) (fun h1 => ?_)
  · ((conv => whnf); repeat ((first | with_reducible refine BCase.tt ?_ | with_reducible refine BCase.ff ?_); (conv => whnf)))
    (repeat ((first | refine BCase.t (by decide) ?_ | refine BCase.f (by decide) ?_); ((conv => whnf); repeat ((first | with_reducible refine BCase.tt ?_ | with_reducible refine BCase.ff ?_); (conv => whnf)))))
    exact Ret.mk rfl
  ((conv => whnf); repeat ((first | with_reducible refine BCase.tt ?_ | with_reducible refine BCase.ff ?_); (conv => whnf)))
  refine BCase.d (fun h2 => ?_) (fun h2 => ?_)
  · ((conv => whnf); repeat ((first | with_reducible refine BCase.tt ?_ | with_reducible refine BCase.ff ?_); (conv => whnf)))
    (repeat ((first | refine BCase.t (by decide) ?_ | refine BCase.f (by decide) ?_); ((conv => whnf); repeat ((first | with_reducible refine BCase.tt ?_ | with_reducible refine BCase.ff ?_); (conv => whnf)))))
    exact Ret.mk rfl
  obtain ⟨m, rfl⟩ : ∃ m : Nat, n = m := ⟨n.toNat, by omega⟩
  ((conv => whnf); repeat ((first | with_reducible refine BCase.tt ?_ | with_reducible refine BCase.ff ?_); (conv => whnf)))
  have hjl : ∀ i, i ≤ L.length → (bs (joined (L.take i))).size ≤ 16 := fun i hi => by
    rw [bs_size]
    have h3 : joined L = joined (L.take i) ++ joined (L.drop i) := by
      unfold joined
      rw [← List.flatMap_append, List.take_append_drop]
    have h4 := congrArg List.length h3
    rw [hjs, List.length_append, size_list] at h4
    omega
  refine LoopC.mk Nat (fun i => [(0, pStr s), (1, pInt .i64 m), (5, texts L), (7, pStr (bs (joined (L.take i)))), (8, pStr ⟨#[]⟩), (9, pInt .i64 i)]) (fun _ => []) [] (fun i => i ≤ L.length) (fun i => L.length - i) 0 (Nat.zero_le _) ?start ?round
  case start => exact ⟨[], rfl, rfl, ⟨.inl rfl, .inl rfl, .inl rfl, .inl rfl, .inl rfl, .inl rfl, trivial⟩, trivial⟩
  case round =>
    intro i hi
    have hz := hjl i hi
    ((conv => whnf); repeat ((first | with_reducible refine BCase.tt ?_ | with_reducible refine BCase.ff ?_); (conv => whnf)))
    rw [List.length_map]
    refine BCase.d (fun h => ?_) (fun h => ?_)
    · obtain ⟨g1, g2, g3⟩ := hone L[i] (List.getElem_mem _)
      have hp := p_pieces L[i] (by omega)
      rw [g1] at hp
      have hst : L.take (i + 1) = L.take i ++ [L[i]] := List.take_succ_eq_append_getElem (by omega)
      ((conv => whnf); repeat ((first | with_reducible refine BCase.tt ?_ | with_reducible refine BCase.ff ?_); (conv => whnf)))
      refine Idx.map (by omega) ?_
      ((conv => whnf); repeat ((first | with_reducible refine BCase.tt ?_ | with_reducible refine BCase.ff ?_); (conv => whnf)))
      refine CallP.pure _ rfl _ hp ?_
      ((conv => whnf); repeat ((first | with_reducible refine BCase.tt ?_ | with_reducible refine BCase.ff ?_); (conv => whnf)))
      (repeat ((first | refine BCase.t (by decide) ?_ | refine BCase.f (by decide) ?_); ((conv => whnf); repeat ((first | with_reducible refine BCase.tt ?_ | with_reducible refine BCase.ff ?_); (conv => whnf)))))
      refine BCase.df (by simp) ?_
      ((conv => whnf); repeat ((first | with_reducible refine BCase.tt ?_ | with_reducible refine BCase.ff ?_); (conv => whnf)))
      refine Idx.map (by omega) ?_
      ((conv => whnf); repeat ((first | with_reducible refine BCase.tt ?_ | with_reducible refine BCase.ff ?_); (conv => whnf)))
      refine BCase.df (by omega) ?_
      ((conv => whnf); repeat ((first | with_reducible refine BCase.tt ?_ | with_reducible refine BCase.ff ?_); (conv => whnf)))
      refine Idx.map (by omega) ?_
      ((conv => whnf); repeat ((first | with_reducible refine BCase.tt ?_ | with_reducible refine BCase.ff ?_); (conv => whnf)))
      refine BCase.df (by omega) ?_
      ((conv => whnf); repeat ((first | with_reducible refine BCase.tt ?_ | with_reducible refine BCase.ff ?_); (conv => whnf)))
      refine Idx.map (by omega) ?_
      ((conv => whnf); repeat ((first | with_reducible refine BCase.tt ?_ | with_reducible refine BCase.ff ?_); (conv => whnf)))
      refine Need.mk (by omega) ?_
      ((conv => whnf); repeat ((first | with_reducible refine BCase.tt ?_ | with_reducible refine BCase.ff ?_); (conv => whnf)))
      refine Wr.i64 (by omega) (by omega) ?_
      ((conv => whnf); repeat ((first | with_reducible refine BCase.tt ?_ | with_reducible refine BCase.ff ?_); (conv => whnf)))
      exact ⟨i + 1, by omega, by omega, [], rfl, rfl, ⟨.inl rfl, .inl rfl, .inl rfl, PLe.c (by rw [hst, joined_snoc, ← bs_append, bs_list]), .inl rfl, PLe.int (by omega), trivial⟩, trivial⟩
    · have hi' : i = L.length := by omega
      have hall : bs (joined (L.take i)) = s := by rw [List.take_of_length_le (by omega), hjs, bs_list]
      ((conv => whnf); repeat ((first | with_reducible refine BCase.tt ?_ | with_reducible refine BCase.ff ?_); (conv => whnf)))
      refine LoopC.mk Nat (fun j => [(0, pStr s), (1, pInt .i64 m), (5, texts L), (7, pStr s), (8, pStr (ones j)), (12, pInt .i64 j)]) (fun _ => []) [] (fun j => j ≤ m) (fun j => m - j) 0 (Nat.zero_le _) ?start2 ?round2
      case start2 => exact ⟨[], rfl, rfl, ⟨.inl rfl, .inl rfl, .inl rfl, PLe.c (by rw [hall]), .inl rfl, .inl rfl, trivial⟩, trivial⟩
      case round2 =>
        intro j hj
        have hoz : (ones j).size = j := by unfold ones; rw [bs_size, List.length_replicate]
        ((conv => whnf); repeat ((first | with_reducible refine BCase.tt ?_ | with_reducible refine BCase.ff ?_); (conv => whnf)))
        refine BCase.d (fun h3 => ?_) (fun h3 => ?_)
        · ((conv => whnf); repeat ((first | with_reducible refine BCase.tt ?_ | with_reducible refine BCase.ff ?_); (conv => whnf)))
          refine Need.mk (by show _ + 1 ≤ _; omega) ?_
          ((conv => whnf); repeat ((first | with_reducible refine BCase.tt ?_ | with_reducible refine BCase.ff ?_); (conv => whnf)))
          refine Wr.i64 (by omega) (by omega) ?_
          ((conv => whnf); repeat ((first | with_reducible refine BCase.tt ?_ | with_reducible refine BCase.ff ?_); (conv => whnf)))
          exact ⟨j + 1, by omega, by omega, [], rfl, rfl, ⟨.inl rfl, .inl rfl, .inl rfl, .inl rfl, PLe.c (by rw [← ones_more]), PLe.int (by omega), trivial⟩, trivial⟩
        · obtain rfl : j = m := by omega
          ((conv => whnf); repeat ((first | with_reducible refine BCase.tt ?_ | with_reducible refine BCase.ff ?_); (conv => whnf)))
          refine CallP.pure _ rfl _ (hm1 j (by omega)) ?_
          ((conv => whnf); repeat ((first | with_reducible refine BCase.tt ?_ | with_reducible refine BCase.ff ?_); (conv => whnf)))
          refine BCase.t (decide_eq_true rfl) ?_
          ((conv => whnf); repeat ((first | with_reducible refine BCase.tt ?_ | with_reducible refine BCase.ff ?_); (conv => whnf)))
          (repeat ((first | refine BCase.t (by decide) ?_ | refine BCase.f (by decide) ?_); ((conv => whnf); repeat ((first | with_reducible refine BCase.tt ?_ | with_reducible refine BCase.ff ?_); (conv => whnf)))))
          refine Ret.mk ?_
          simp
          omega
end Go.Proofs.YthogcgnhhcbkkaaDoor.Pm
