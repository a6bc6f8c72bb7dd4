/- like.Escape, starlingref.PrefixOf -/
import Derived.Test.YthogcgnhhcbkkaaDoorPmPrefix
namespace Go.Proofs.YthogcgnhhcbkkaaDoor.Pm
open Go.RowKit LikeP
set_option linter.unusedVariables false
theorem byteRows_append (a b : List UInt8) : byteRows (a ++ b) = byteRows a ++ byteRows b := by unfold byteRows; rw [List.map_append]
theorem p_escape_no (s : ByteArray) (hs : 16 < s.size) : Pure Tryd.prog 17 [pStr s] (.tup [pStr ⟨#[]⟩, pInt .i64 2]) := by
  refine pure_of Tryd.func17 (by rfl) rfl (by kernel_rfl) (by rfl) ?_
  ((conv => whnf); repeat ((first | with_reducible refine BCase.tt ?_ | with_reducible refine BCase.ff ?_); (conv => whnf)))
  refine BCase.dt (by omega) ?_
  ((conv => whnf); repeat ((first | with_reducible refine BCase.tt ?_ | with_reducible refine BCase.ff ?_); (conv => whnf)))
  exact Ret.mk rfl
theorem p_escape (s : ByteArray) (hs : s.size ≤ 16) : Pure Tryd.prog 17 [pStr s] (.tup [pStr (escS s), pInt .i64 0]) := by
  refine pure_of Tryd.func17 (by rfl) rfl (by kernel_rfl) (by rfl) ?_
  ((conv => whnf); repeat ((first | with_reducible refine BCase.tt ?_ | with_reducible refine BCase.ff ?_); (conv => whnf)))
  refine BCase.df (by omega) ?_
  ((conv => whnf); repeat ((first | with_reducible refine BCase.tt ?_ | with_reducible refine BCase.ff ?_); (conv => whnf)))
  refine LoopC.mk Nat (fun k => [(0, pStr s), (4, .d (.ptr 4 0)), (5, pInt .i64 k)]) (fun k => [(4, .box tBld [.optp 4 0, .app 60 tByte 1 (byteRows (escL (s.data.toList.take k)))]), (60, .tail tByte 1)]) [4, 60] (fun k => k ≤ s.size) (fun k => s.size - k) 0 (Nat.zero_le _) ?start ?round
  case start => exact ⟨[(4, 4)], rfl, rfl, ⟨.inl rfl, ⟨rfl, rfl, rfl⟩, .inl rfl, trivial⟩, ⟨rfl, rfl, rfl, ⟨rfl, rfl, Nat.zero_lt_one, rfl, rfl⟩, rfl⟩, ⟨rfl, Nat.zero_lt_one⟩, trivial⟩
  case round =>
    intro k hk
    ((conv => whnf); repeat ((first | with_reducible refine BCase.tt ?_ | with_reducible refine BCase.ff ?_); (conv => whnf)))
    refine BCase.d (fun h => ?_) (fun h => ?_)
    · ((conv => whnf); repeat ((first | with_reducible refine BCase.tt ?_ | with_reducible refine BCase.ff ?_); (conv => whnf)))
      refine sidx_nat (by omega) fun b hb => ?_
      have hz := escL_len (s.data.toList.take k)
      rw [List.length_take, size_list] at hz
      have e1 : (b.toNat = 37 ∨ b.toNat = 95 ∨ b.toNat = 92) → byteRows (escL (s.data.toList.take k)) ++ [[.v (.int .u8 92)]] ++ [[.v (.int .u8 (b.toNat : Int))]] = byteRows (escL (s.data.toList.take (k + 1))) := fun h => by
        rw [take_snoc hb, escL_snoc, if_pos h, byteRows_append, List.append_assoc]; rfl
      have e2 : ¬ (b.toNat = 37 ∨ b.toNat = 95 ∨ b.toNat = 92) → byteRows (escL (s.data.toList.take k)) ++ [[.v (.int .u8 (b.toNat : Int))]] = byteRows (escL (s.data.toList.take (k + 1))) := fun h => by
        rw [take_snoc hb, escL_snoc, if_neg h, byteRows_append]; rfl
      ((conv => whnf); repeat ((first | with_reducible refine BCase.tt ?_ | with_reducible refine BCase.ff ?_); (conv => whnf)))
      refine BCase.d (fun h1 => ?_) (fun h1 => ?_)
      · ((conv => whnf); repeat ((first | with_reducible refine BCase.tt ?_ | with_reducible refine BCase.ff ?_); (conv => whnf)))
        refine BCase.dt h1 ?_
        ((conv => whnf); repeat ((first | with_reducible refine BCase.tt ?_ | with_reducible refine BCase.ff ?_); (conv => whnf)))
        refine CallP.ret [(FK, 4), (FK1, 60), (NK, 22)] _ _ _ _ _ _ _ (writeByte_opt (byteRows (escL (s.data.toList.take k))) 92 (by simp; omega)) rfl rfl rfl rfl ⟨rfl, rfl, trivial⟩ ?_
        ((conv => whnf); repeat ((first | with_reducible refine BCase.tt ?_ | with_reducible refine BCase.ff ?_); (conv => whnf)))
        refine sidx_nat (by omega) fun b' hb' => ?_
        obtain rfl : b = b' := Option.some.inj (hb.symm.trans hb')
        ((conv => whnf); repeat ((first | with_reducible refine BCase.tt ?_ | with_reducible refine BCase.ff ?_); (conv => whnf)))
        refine CallP.ret [(FK, 4), (FK1, 22), (NK, 26)] _ _ _ _ _ _ _ (writeByte_used _ (b.toNat : Int) (by simp; omega)) rfl rfl rfl rfl ⟨rfl, rfl, trivial⟩ ?_
        ((conv => whnf); repeat ((first | with_reducible refine BCase.tt ?_ | with_reducible refine BCase.ff ?_); (conv => whnf)))
        refine Wr.i64 (by omega) (by omega) ?_
        ((conv => whnf); repeat ((first | with_reducible refine BCase.tt ?_ | with_reducible refine BCase.ff ?_); (conv => whnf)))
        exact ⟨k + 1, by omega, by omega, [(4, 4), (60, 26)], rfl, rfl, ⟨.inl rfl, ⟨rfl, rfl, rfl⟩, PLe.int (by omega), trivial⟩, ⟨rfl, rfl, ⟨rfl, rfl, rfl⟩, ⟨rfl, rfl, rfl, rfl, e1 (by omega)⟩, rfl⟩, ⟨rfl, rfl, rfl⟩, trivial⟩
      · ((conv => whnf); repeat ((first | with_reducible refine BCase.tt ?_ | with_reducible refine BCase.ff ?_); (conv => whnf)))
        refine BCase.d (fun h2 => ?_) (fun h2 => ?_)
        · ((conv => whnf); repeat ((first | with_reducible refine BCase.tt ?_ | with_reducible refine BCase.ff ?_); (conv => whnf)))
          refine BCase.dt h2 ?_
          ((conv => whnf); repeat ((first | with_reducible refine BCase.tt ?_ | with_reducible refine BCase.ff ?_); (conv => whnf)))
          refine CallP.ret [(FK, 4), (FK1, 60), (NK, 22)] _ _ _ _ _ _ _ (writeByte_opt (byteRows (escL (s.data.toList.take k))) 92 (by simp; omega)) rfl rfl rfl rfl ⟨rfl, rfl, trivial⟩ ?_
          ((conv => whnf); repeat ((first | with_reducible refine BCase.tt ?_ | with_reducible refine BCase.ff ?_); (conv => whnf)))
          refine sidx_nat (by omega) fun b' hb' => ?_
          obtain rfl : b = b' := Option.some.inj (hb.symm.trans hb')
          ((conv => whnf); repeat ((first | with_reducible refine BCase.tt ?_ | with_reducible refine BCase.ff ?_); (conv => whnf)))
          refine CallP.ret [(FK, 4), (FK1, 22), (NK, 26)] _ _ _ _ _ _ _ (writeByte_used _ (b.toNat : Int) (by simp; omega)) rfl rfl rfl rfl ⟨rfl, rfl, trivial⟩ ?_
          ((conv => whnf); repeat ((first | with_reducible refine BCase.tt ?_ | with_reducible refine BCase.ff ?_); (conv => whnf)))
          refine Wr.i64 (by omega) (by omega) ?_
          ((conv => whnf); repeat ((first | with_reducible refine BCase.tt ?_ | with_reducible refine BCase.ff ?_); (conv => whnf)))
          exact ⟨k + 1, by omega, by omega, [(4, 4), (60, 26)], rfl, rfl, ⟨.inl rfl, ⟨rfl, rfl, rfl⟩, PLe.int (by omega), trivial⟩, ⟨rfl, rfl, ⟨rfl, rfl, rfl⟩, ⟨rfl, rfl, rfl, rfl, e1 (by omega)⟩, rfl⟩, ⟨rfl, rfl, rfl⟩, trivial⟩
        · ((conv => whnf); repeat ((first | with_reducible refine BCase.tt ?_ | with_reducible refine BCase.ff ?_); (conv => whnf)))
          refine BCase.d (fun h3 => ?_) (fun h3 => ?_)
          · ((conv => whnf); repeat ((first | with_reducible refine BCase.tt ?_ | with_reducible refine BCase.ff ?_); (conv => whnf)))
            refine CallP.ret [(FK, 4), (FK1, 60), (NK, 22)] _ _ _ _ _ _ _ (writeByte_opt (byteRows (escL (s.data.toList.take k))) 92 (by simp; omega)) rfl rfl rfl rfl ⟨rfl, rfl, trivial⟩ ?_
            ((conv => whnf); repeat ((first | with_reducible refine BCase.tt ?_ | with_reducible refine BCase.ff ?_); (conv => whnf)))
            refine sidx_nat (by omega) fun b' hb' => ?_
            obtain rfl : b = b' := Option.some.inj (hb.symm.trans hb')
            ((conv => whnf); repeat ((first | with_reducible refine BCase.tt ?_ | with_reducible refine BCase.ff ?_); (conv => whnf)))
            refine CallP.ret [(FK, 4), (FK1, 22), (NK, 26)] _ _ _ _ _ _ _ (writeByte_used _ (b.toNat : Int) (by simp; omega)) rfl rfl rfl rfl ⟨rfl, rfl, trivial⟩ ?_
            ((conv => whnf); repeat ((first | with_reducible refine BCase.tt ?_ | with_reducible refine BCase.ff ?_); (conv => whnf)))
            refine Wr.i64 (by omega) (by omega) ?_
            ((conv => whnf); repeat ((first | with_reducible refine BCase.tt ?_ | with_reducible refine BCase.ff ?_); (conv => whnf)))
            exact ⟨k + 1, by omega, by omega, [(4, 4), (60, 26)], rfl, rfl, ⟨.inl rfl, ⟨rfl, rfl, rfl⟩, PLe.int (by omega), trivial⟩, ⟨rfl, rfl, ⟨rfl, rfl, rfl⟩, ⟨rfl, rfl, rfl, rfl, e1 (by omega)⟩, rfl⟩, ⟨rfl, rfl, rfl⟩, trivial⟩
          · ((conv => whnf); repeat ((first | with_reducible refine BCase.tt ?_ | with_reducible refine BCase.ff ?_); (conv => whnf)))
            refine sidx_nat (by omega) fun b' hb' => ?_
            obtain rfl : b = b' := Option.some.inj (hb.symm.trans hb')
            ((conv => whnf); repeat ((first | with_reducible refine BCase.tt ?_ | with_reducible refine BCase.ff ?_); (conv => whnf)))
            refine CallP.ret [(FK, 4), (FK1, 60), (NK, 26)] _ _ _ _ _ _ _ (writeByte_opt _ (b.toNat : Int) (by simp; omega)) rfl rfl rfl rfl ⟨rfl, rfl, trivial⟩ ?_
            ((conv => whnf); repeat ((first | with_reducible refine BCase.tt ?_ | with_reducible refine BCase.ff ?_); (conv => whnf)))
            refine Wr.i64 (by omega) (by omega) ?_
            ((conv => whnf); repeat ((first | with_reducible refine BCase.tt ?_ | with_reducible refine BCase.ff ?_); (conv => whnf)))
            exact ⟨k + 1, by omega, by omega, [(4, 4), (60, 26)], rfl, rfl, ⟨.inl rfl, ⟨rfl, rfl, rfl⟩, PLe.int (by omega), trivial⟩, ⟨rfl, rfl, ⟨rfl, rfl, rfl⟩, ⟨rfl, rfl, rfl, rfl, e2 (by omega)⟩, rfl⟩, ⟨rfl, rfl, rfl⟩, trivial⟩
    · ((conv => whnf); repeat ((first | with_reducible refine BCase.tt ?_ | with_reducible refine BCase.ff ?_); (conv => whnf)))
      refine CallP.ret [(FK, 4), (FK1, 60)] _ _ _ _ _ _ _ (string_of _) rfl rfl rfl rfl ⟨rfl, rfl, trivial⟩ ?_
      ((conv => whnf); repeat ((first | with_reducible refine BCase.tt ?_ | with_reducible refine BCase.ff ?_); (conv => whnf)))
      refine Ret.mk ?_
      rw [List.take_of_length_le (by rw [size_list]; omega)]; rfl
theorem parts_one {P : List ByteArray} {i : Nat} (ho : openE false (P.take i) = false) (hi : i < P.length) (hx : P[i] ≠ backslash) {q : LikeP.Part} (hq : partOf false P[i] = [q]) :
    partsE false (P.take (i + 1)) = partsE false (P.take i) ++ [q] ∧ openE false (P.take (i + 1)) = false := by
  have h1 : P.take (i + 1) = P.take i ++ [P[i]] := List.take_succ_eq_append_getElem hi
  exact ⟨by rw [h1, partsE_snoc, ho, hq], by rw [h1, openE_snoc, ho, decide_eq_false hx]; rfl⟩
theorem parts_bs {P : List ByteArray} {i : Nat} (h : openE false P = false) (ho : openE false (P.take i) = false) (hi : i < P.length) (hx : P[i] = backslash) :
    ∃ h2 : i + 1 < P.length, partsE false (P.take (i + 1 + 1)) = partsE false (P.take i) ++ [(0, P[i + 1])] ∧ openE false (P.take (i + 1 + 1)) = false := by
  have h1 : P.take (i + 1) = P.take i ++ [P[i]] := List.take_succ_eq_append_getElem hi
  have h3 : openE false (P.take (i + 1)) = true := by rw [h1, openE_snoc, ho, decide_eq_true hx]; rfl
  have h4 : partsE false (P.take (i + 1)) = partsE false (P.take i) := by rw [h1, partsE_snoc, ho, hx, part_bs, List.append_nil]
  have h5 : i + 1 < P.length := by
    rcases Nat.lt_or_ge (i + 1) P.length with h5 | h5
    · exact h5
    · rw [List.take_of_length_le h5, h] at h3; cases h3
  have h6 : P.take (i + 1 + 1) = P.take (i + 1) ++ [P[i + 1]] := List.take_succ_eq_append_getElem h5
  exact ⟨h5, by rw [h6, partsE_snoc, h3, part_esc, h4], by rw [h6, openE_snoc, h3]; rfl⟩
theorem pre_stop {P : List ByteArray} {i : Nat} (ho : openE false (P.take i) = false) (hz : ∀ q ∈ partsE false (P.take i), q.1 = 0) (hi : i < P.length) (hx : P[i] ≠ backslash) {q : LikeP.Part} (hq : partOf false P[i] = [q]) (hq0 : q.1 ≠ 0) :
    preL (partsE false P) = (joinL (partsE false (P.take i)), false) := by
  obtain ⟨h1, h2⟩ := parts_one ho hi hx hq
  rw [parts_split P (i + 1) h2, h1, List.append_assoc, preL_skip _ _ hz]
  show (_ ++ (preL (q :: _)).1, (preL (q :: _)).2) = _
  rw [preL, if_neg hq0, List.append_nil]
theorem p_prefixof (p : ByteArray) (hp : patE p = 0) : Pure Tryd.prog 20 [pStr p] (.tup [pStr (preS (pat p)), pBool (preB (pat p))]) := by
  obtain ⟨hpz, hop⟩ := patE_ok hp
  have hPl := pcs_length p
  have hsm := pat_small p
  obtain ⟨P, hP⟩ : ∃ P, P = pcs p := ⟨_, rfl⟩
  have hPp : pat p = partsE false P := by rw [hP]; rfl
  have hPs : ∀ x ∈ P, x.size ≤ 4 := by rw [hP]; exact pcs_small p
  rw [← hP] at hop hPl
  refine pure_of Tryd.func20 (by rfl) rfl (by kernel_rfl) (by rfl) ?_
  ((conv => whnf); repeat ((first | with_reducible refine BCase.tt ?_ | with_reducible refine BCase.ff ?_); (conv => whnf)))
  refine CallP.pure _ rfl _ (p_piecesof p (by omega)) ?_
  rw [← hP]
  ((conv => whnf); repeat ((first | with_reducible refine BCase.tt ?_ | with_reducible refine BCase.ff ?_); (conv => whnf)))
  refine LoopC.mk Nat (fun i => [(4, texts P), (5, pStr (bs (joinL (partsE false (P.take i))))), (6, pInt .i64 i)]) (fun _ => []) [] (fun i => i ≤ P.length ∧ openE false (P.take i) = false ∧ ∀ q ∈ partsE false (P.take i), q.1 = 0) (fun i => P.length - i) 0 ⟨Nat.zero_le _, rfl, by intro q hq; cases hq⟩ ?start ?round
  case start => exact ⟨[], rfl, rfl, ⟨.inl rfl, .inl rfl, .inl rfl, trivial⟩, trivial⟩
  case round =>
    rintro i ⟨hi, ho, hz⟩
    have hjl : (bs (joinL (partsE false (P.take i)))).size ≤ 4 * P.length := by
      have h1 := joinL_len (partsE false (P.take i)) (parts_small _ _ fun x hx => hPs x (List.mem_of_mem_take hx))
      have h2 := partsE_length false (P.take i)
      rw [List.length_take] at h2
      rw [bs_size]; omega
    ((conv => whnf); repeat ((first | with_reducible refine BCase.tt ?_ | with_reducible refine BCase.ff ?_); (conv => whnf)))
    rw [List.length_map]
    refine BCase.d (fun h => ?_) (fun h => ?_)
    · ((conv => whnf); repeat ((first | with_reducible refine BCase.tt ?_ | with_reducible refine BCase.ff ?_); (conv => whnf)))
      refine Idx.map (by omega) ?_
      ((conv => whnf); repeat ((first | with_reducible refine BCase.tt ?_ | with_reducible refine BCase.ff ?_); (conv => whnf)))
      refine BCase.d (fun h1 => ?_) (fun h1 => ?_)
      · have hs := pre_stop ho hz (by omega) (by rw [h1]; decide) (part_any h1) (by decide)
        ((conv => whnf); repeat ((first | with_reducible refine BCase.tt ?_ | with_reducible refine BCase.ff ?_); (conv => whnf)))
        refine Ret.mk ?_
        unfold preS preB
        rw [hPp, hs]
      · ((conv => whnf); repeat ((first | with_reducible refine BCase.tt ?_ | with_reducible refine BCase.ff ?_); (conv => whnf)))
        refine Idx.map (by omega) ?_
        ((conv => whnf); repeat ((first | with_reducible refine BCase.tt ?_ | with_reducible refine BCase.ff ?_); (conv => whnf)))
        refine BCase.d (fun h2 => ?_) (fun h2 => ?_)
        · have hs := pre_stop ho hz (by omega) (by rw [h2]; decide) (part_one h2) (by decide)
          ((conv => whnf); repeat ((first | with_reducible refine BCase.tt ?_ | with_reducible refine BCase.ff ?_); (conv => whnf)))
          refine Ret.mk ?_
          unfold preS preB
          rw [hPp, hs]
        · ((conv => whnf); repeat ((first | with_reducible refine BCase.tt ?_ | with_reducible refine BCase.ff ?_); (conv => whnf)))
          refine Idx.map (by omega) ?_
          ((conv => whnf); repeat ((first | with_reducible refine BCase.tt ?_ | with_reducible refine BCase.ff ?_); (conv => whnf)))
          refine BCase.d (fun h3 => ?_) (fun h3 => ?_)
          · obtain ⟨g1, g2, g3⟩ := parts_bs hop ho (by omega) h3
            have hx := hPs P[i + 1] (List.getElem_mem _)
            ((conv => whnf); repeat ((first | with_reducible refine BCase.tt ?_ | with_reducible refine BCase.ff ?_); (conv => whnf)))
            refine Wr.i64 (by omega) (by omega) ?_
            ((conv => whnf); repeat ((first | with_reducible refine BCase.tt ?_ | with_reducible refine BCase.ff ?_); (conv => whnf)))
            refine Idx.mapI (i + 1) (by omega) g1 ?_
            ((conv => whnf); repeat ((first | with_reducible refine BCase.tt ?_ | with_reducible refine BCase.ff ?_); (conv => whnf)))
            refine Need.mk (by omega) ?_
            ((conv => whnf); repeat ((first | with_reducible refine BCase.tt ?_ | with_reducible refine BCase.ff ?_); (conv => whnf)))
            refine Wr.i64 (by omega) (by omega) ?_
            ((conv => whnf); repeat ((first | with_reducible refine BCase.tt ?_ | with_reducible refine BCase.ff ?_); (conv => whnf)))
            refine ⟨i + 1 + 1, ⟨by omega, g3, ?_⟩, by omega, [], rfl, rfl, ⟨.inl rfl, PLe.c ?_, PLe.int (by omega), trivial⟩, trivial⟩
            · rw [g2]
              intro q hq
              rcases List.mem_append.1 hq with hq | hq
              · exact hz q hq
              · rw [List.mem_singleton.1 hq]
            · rw [g2, joinL_snoc, ← bs_append, bs_list]
          · obtain ⟨g2, g3⟩ := parts_one ho (by omega) h3 (part_self h3 h1 h2)
            have hx := hPs P[i] (List.getElem_mem _)
            ((conv => whnf); repeat ((first | with_reducible refine BCase.tt ?_ | with_reducible refine BCase.ff ?_); (conv => whnf)))
            refine Idx.map (by omega) ?_
            ((conv => whnf); repeat ((first | with_reducible refine BCase.tt ?_ | with_reducible refine BCase.ff ?_); (conv => whnf)))
            refine Need.mk (by omega) ?_
            ((conv => whnf); repeat ((first | with_reducible refine BCase.tt ?_ | with_reducible refine BCase.ff ?_); (conv => whnf)))
            refine Wr.i64 (by omega) (by omega) ?_
            ((conv => whnf); repeat ((first | with_reducible refine BCase.tt ?_ | with_reducible refine BCase.ff ?_); (conv => whnf)))
            refine ⟨i + 1, ⟨by omega, g3, ?_⟩, by omega, [], rfl, rfl, ⟨.inl rfl, PLe.c ?_, PLe.int (by omega), trivial⟩, trivial⟩
            · rw [g2]
              intro q hq
              rcases List.mem_append.1 hq with hq | hq
              · exact hz q hq
              · rw [List.mem_singleton.1 hq]
            · rw [g2, joinL_snoc, ← bs_append, bs_list]
    · have hi' : i = P.length := by omega
      subst hi'
      rw [List.take_of_length_le (Nat.le_refl _), ← hPp] at hz
      have hp := preL_skip (pat p) [] hz
      rw [List.append_nil] at hp
      ((conv => whnf); repeat ((first | with_reducible refine BCase.tt ?_ | with_reducible refine BCase.ff ?_); (conv => whnf)))
      refine Ret.mk ?_
      unfold preS preB
      rw [hp, List.take_of_length_le (Nat.le_refl _), ← hPp]
      simp [preL]
theorem p_same_nil : Pure Tryd.prog 21 [.d (.c (.v (.slice none 0 0))), .d (.c (.v (.slice none 0 0)))] (pBool true) := by
  refine pure_of Tryd.func21 (by rfl) rfl (by kernel_rfl) (by rfl) ?_
  ((conv => whnf); repeat ((first | with_reducible refine BCase.tt ?_ | with_reducible refine BCase.ff ?_); (conv => whnf)))
  (repeat ((first | refine BCase.t (by decide) ?_ | refine BCase.f (by decide) ?_); ((conv => whnf); repeat ((first | with_reducible refine BCase.tt ?_ | with_reducible refine BCase.ff ?_); (conv => whnf)))))
  refine LoopC.mk Unit (fun _ => [(0, .d (.c (.v (.slice none 0 0)))), (5, pInt .i64 0)]) (fun _ => []) [] (fun _ => True) (fun _ => 0) () trivial ?start ?round
  case start => exact ⟨[], rfl, rfl, ⟨.inl rfl, .inl rfl, trivial⟩, trivial⟩
  case round =>
    intro _ _
    ((conv => whnf); repeat ((first | with_reducible refine BCase.tt ?_ | with_reducible refine BCase.ff ?_); (conv => whnf)))
    (repeat ((first | refine BCase.t (by decide) ?_ | refine BCase.f (by decide) ?_); ((conv => whnf); repeat ((first | with_reducible refine BCase.tt ?_ | with_reducible refine BCase.ff ?_); (conv => whnf)))))
    exact Ret.mk rfl
end Go.Proofs.YthogcgnhhcbkkaaDoor.Pm
