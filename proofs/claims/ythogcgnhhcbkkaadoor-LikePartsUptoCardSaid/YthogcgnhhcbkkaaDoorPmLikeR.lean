/- The document's functions of patterns. -/
import Derived.Test.YthogcgnhhcbkkaaDoorPmLike
namespace Go.Proofs.YthogcgnhhcbkkaaDoor.Pm
open Go.RowKit LikeP
set_option linter.unusedVariables false

theorem sidx_nat {s : ByteArray} {k : Nat} {K : Int → Prop} (h : k < s.size) (hk : ∀ b : UInt8, s.data.toList[k]? = some b → K (b.toNat : Int)) : SIdx s k K := by
  have h' : k < s.data.toList.length := by rw [size_list]; exact h
  exact .mk s.data.toList[k] (by omega) (by rw [Int.toNat_natCast]; exact List.getElem?_eq_getElem h') (hk _ (List.getElem?_eq_getElem h'))
theorem take_snoc {α : Type} {l : List α} {k : Nat} {b : α} (h : l[k]? = some b) : l.take (k + 1) = l.take k ++ [b] := by
  rw [List.take_add_one, h]; rfl
def asciiB (s : ByteArray) : Bool := s.data.toList.all fun b => decide (b.toNat < 128)
theorem p_ascii (s : ByteArray) (hs : s.size ≤ 140737488355328) : Pure Tryd.prog 15 [pStr s] (pBool (asciiB s)) := by
  refine pure_of Tryd.func15 (by rfl) rfl (by kernel_rfl) (by rfl) ?_
  ((conv => whnf); repeat ((first | with_reducible refine BCase.tt ?_ | with_reducible refine BCase.ff ?_); (conv => whnf)))
  refine LoopC.mk Nat (fun k => [(0, pStr s), (3, pInt .i64 k)]) (fun _ => []) [] (fun k => k ≤ s.size ∧ (s.data.toList.take k).all (fun b => decide (b.toNat < 128)) = true) (fun k => s.size - k) 0 ⟨Nat.zero_le _, rfl⟩ ?start ?round
  case start => exact ⟨[], rfl, rfl, ⟨.inl rfl, .inl rfl, trivial⟩, trivial⟩
  case round =>
    rintro k ⟨hk, ha⟩
    ((conv => whnf); repeat ((first | with_reducible refine BCase.tt ?_ | with_reducible refine BCase.ff ?_); (conv => whnf)))
    refine BCase.d (fun h => ?_) (fun h => ?_)
    · ((conv => whnf); repeat ((first | with_reducible refine BCase.tt ?_ | with_reducible refine BCase.ff ?_); (conv => whnf)))
      refine sidx_nat (by omega) fun b hb => ?_
      ((conv => whnf); repeat ((first | with_reducible refine BCase.tt ?_ | with_reducible refine BCase.ff ?_); (conv => whnf)))
      refine BCase.d (fun hg => ?_) (fun hg => ?_)
      · ((conv => whnf); repeat ((first | with_reducible refine BCase.tt ?_ | with_reducible refine BCase.ff ?_); (conv => whnf)))
        refine Ret.mk ?_
        rw [asciiB, List.all_eq_false.2 ⟨b, List.mem_of_getElem? hb, by simp; omega⟩]
      · ((conv => whnf); repeat ((first | with_reducible refine BCase.tt ?_ | with_reducible refine BCase.ff ?_); (conv => whnf)))
        refine Wr.i64 (by omega) (by omega) ?_
        ((conv => whnf); repeat ((first | with_reducible refine BCase.tt ?_ | with_reducible refine BCase.ff ?_); (conv => whnf)))
        refine ⟨k + 1, ⟨by omega, ?_⟩, by omega, [], rfl, rfl, ⟨.inl rfl, PLe.int (by omega), trivial⟩, trivial⟩
        rw [take_snoc hb, List.all_append, ha]; simp; omega
    · ((conv => whnf); repeat ((first | with_reducible refine BCase.tt ?_ | with_reducible refine BCase.ff ?_); (conv => whnf)))
      refine Ret.mk ?_
      have : k = s.size := by omega
      rw [List.take_of_length_le (by rw [size_list]; omega)] at ha
      rw [asciiB, ha]
theorem p_same (a b : List ByteArray) (ha : a.length ≤ 140737488355328) : Pure Tryd.prog 21 [texts a, texts b] (pBool (decide (a = b))) := by
  refine pure_of Tryd.func21 (by rfl) rfl (by kernel_rfl) (by rfl) ?_
  ((conv => whnf); repeat ((first | with_reducible refine BCase.tt ?_ | with_reducible refine BCase.ff ?_); (conv => whnf)))
  rw [List.length_map, List.length_map]
  refine BCase.d (fun h => ?_) (fun h => ?_)
  · ((conv => whnf); repeat ((first | with_reducible refine BCase.tt ?_ | with_reducible refine BCase.ff ?_); (conv => whnf)))
    refine Ret.mk ?_
    rw [decide_eq_false]
    rintro rfl; exact h rfl
  · have hl : a.length = b.length := by omega
    ((conv => whnf); repeat ((first | with_reducible refine BCase.tt ?_ | with_reducible refine BCase.ff ?_); (conv => whnf)))
    refine LoopC.mk Nat (fun k => [(0, texts a), (1, texts b), (5, pInt .i64 k)]) (fun _ => []) [] (fun k => k ≤ a.length ∧ a.take k = b.take k) (fun k => a.length - k) 0 ⟨Nat.zero_le _, rfl⟩ ?start ?round
    case start => exact ⟨[], rfl, rfl, ⟨.inl rfl, .inl rfl, .inl rfl, trivial⟩, trivial⟩
    case round =>
      rintro k ⟨hk, he⟩
      ((conv => whnf); repeat ((first | with_reducible refine BCase.tt ?_ | with_reducible refine BCase.ff ?_); (conv => whnf)))
      rw [List.length_map]
      refine BCase.d (fun h => ?_) (fun h => ?_)
      · ((conv => whnf); repeat ((first | with_reducible refine BCase.tt ?_ | with_reducible refine BCase.ff ?_); (conv => whnf)))
        refine Idx.map (by omega) ?_
        ((conv => whnf); repeat ((first | with_reducible refine BCase.tt ?_ | with_reducible refine BCase.ff ?_); (conv => whnf)))
        refine Idx.map (by omega) ?_
        ((conv => whnf); repeat ((first | with_reducible refine BCase.tt ?_ | with_reducible refine BCase.ff ?_); (conv => whnf)))
        refine BCase.mk (fun h => ?_) (fun h => ?_)
        · ((conv => whnf); repeat ((first | with_reducible refine BCase.tt ?_ | with_reducible refine BCase.ff ?_); (conv => whnf)))
          refine Ret.mk ?_
          rw [decide_eq_false]
          rintro rfl
          simp at h
        · ((conv => whnf); repeat ((first | with_reducible refine BCase.tt ?_ | with_reducible refine BCase.ff ?_); (conv => whnf)))
          refine Wr.i64 (by omega) (by omega) ?_
          ((conv => whnf); repeat ((first | with_reducible refine BCase.tt ?_ | with_reducible refine BCase.ff ?_); (conv => whnf)))
          refine ⟨k + 1, ⟨by omega, ?_⟩, by omega, [], rfl, rfl, ⟨.inl rfl, .inl rfl, PLe.int (by omega), trivial⟩, trivial⟩
          have h' : a[k] = b[k] := by simpa using h
          rw [List.take_succ_eq_append_getElem (by omega), List.take_succ_eq_append_getElem (by omega), he, h']
      · ((conv => whnf); repeat ((first | with_reducible refine BCase.tt ?_ | with_reducible refine BCase.ff ?_); (conv => whnf)))
        refine Ret.mk ?_
        rw [List.take_of_length_le (by omega), List.take_of_length_le (by omega)] at he
        rw [decide_eq_true he]
def escL (l : List UInt8) : List UInt8 := l.flatMap fun b => if b.toNat = 37 ∨ b.toNat = 95 ∨ b.toNat = 92 then [92, b] else [b]
def escS (s : ByteArray) : ByteArray := bs (escL s.data.toList)
theorem bs_append (a b : List UInt8) : bs a ++ bs b = bs (a ++ b) := by
  apply ByteArray.ext
  rw [ByteArray.data_append]; simp [bs]
theorem escL_snoc (l : List UInt8) (b : UInt8) : escL (l ++ [b]) = escL l ++ if b.toNat = 37 ∨ b.toNat = 95 ∨ b.toNat = 92 then [92, b] else [b] := by
  unfold escL; rw [List.flatMap_append]; simp
theorem take_one {α : Type} {l : List α} {k : Nat} {b : α} (h : l[k]? = some b) : (l.drop k).take 1 = [b] := by
  obtain ⟨h1, rfl⟩ := List.getElem?_eq_some_iff.1 h
  rw [List.drop_eq_getElem_cons h1]; rfl
theorem escL_len : ∀ l : List UInt8, (escL l).length ≤ 2 * l.length
  | [] => Nat.zero_le _
  | b :: l => by
    have := escL_len l
    have h : escL (b :: l) = (if b.toNat = 37 ∨ b.toNat = 95 ∨ b.toNat = 92 then [92, b] else [b]) ++ escL l := by unfold escL; rw [List.flatMap_cons]
    rw [h, List.length_append, List.length_cons]
    split <;> simp <;> omega
theorem p_escaped (s : ByteArray) (hs : s.size ≤ 2000000) : Pure Tryd.prog 19 [pStr s] (pStr (escS s)) := by
  refine pure_of Tryd.func19 (by rfl) rfl (by kernel_rfl) (by rfl) ?_
  ((conv => whnf); repeat ((first | with_reducible refine BCase.tt ?_ | with_reducible refine BCase.ff ?_); (conv => whnf)))
  refine LoopC.mk Nat (fun k => [(0, pStr s), (3, pStr (bs (escL (s.data.toList.take k)))), (4, pInt .i64 k)]) (fun _ => []) [] (fun k => k ≤ s.size) (fun k => s.size - k) 0 (Nat.zero_le _) ?start ?round
  case start => exact ⟨[], rfl, rfl, ⟨.inl rfl, .inl rfl, .inl rfl, trivial⟩, trivial⟩
  case round =>
    intro k hk
    ((conv => whnf); repeat ((first | with_reducible refine BCase.tt ?_ | with_reducible refine BCase.ff ?_); (conv => whnf)))
    refine BCase.d (fun h => ?_) (fun h => ?_)
    · ((conv => whnf); repeat ((first | with_reducible refine BCase.tt ?_ | with_reducible refine BCase.ff ?_); (conv => whnf)))
      refine sidx_nat (by omega) fun b hb => ?_
      have hx : s.extract k (k + 1) = bs [b] := by rw [extract_bs, Nat.add_sub_cancel_left, take_one hb]
      have e1 : (b.toNat = 37 ∨ b.toNat = 95 ∨ b.toNat = 92) → bs (escL (s.data.toList.take k)) ++ bs [92] ++ bs [b] = bs (escL (s.data.toList.take (k + 1))) := fun h => by
        rw [take_snoc hb, escL_snoc, if_pos h, bs_append, bs_append, List.append_assoc]; rfl
      have e2 : ¬ (b.toNat = 37 ∨ b.toNat = 95 ∨ b.toNat = 92) → bs (escL (s.data.toList.take k)) ++ bs [b] = bs (escL (s.data.toList.take (k + 1))) := fun h => by
        rw [take_snoc hb, escL_snoc, if_neg h, bs_append]
      have hz : (bs (escL (s.data.toList.take k))).size ≤ 4000000 := by
        have := escL_len (s.data.toList.take k)
        rw [List.length_take, size_list] at this
        rw [bs_size]; omega
      ((conv => whnf); repeat ((first | with_reducible refine BCase.tt ?_ | with_reducible refine BCase.ff ?_); (conv => whnf)))
      refine BCase.d (fun h1 => ?_) (fun h1 => ?_)
      · ((conv => whnf); repeat ((first | with_reducible refine BCase.tt ?_ | with_reducible refine BCase.ff ?_); (conv => whnf)))
        refine Need.mk (by show _ + 1 ≤ _; omega) ?_
        ((conv => whnf); repeat ((first | with_reducible refine BCase.tt ?_ | with_reducible refine BCase.ff ?_); (conv => whnf)))
        refine Wr.i64 (by omega) (by omega) ?_
        ((conv => whnf); repeat ((first | with_reducible refine BCase.tt ?_ | with_reducible refine BCase.ff ?_); (conv => whnf)))
        refine Need.mk (by omega) ?_
        rw [show s.extract (k : Int).toNat ((k : Int) + 1).toNat = bs [b] from hx]
        ((conv => whnf); repeat ((first | with_reducible refine BCase.tt ?_ | with_reducible refine BCase.ff ?_); (conv => whnf)))
        refine Need.mk (by show _ + 1 ≤ _; rw [ByteArray.size_append]; show _ + 1 + 1 ≤ _; omega) ?_
        ((conv => whnf); repeat ((first | with_reducible refine BCase.tt ?_ | with_reducible refine BCase.ff ?_); (conv => whnf)))
        refine Wr.i64 (by omega) (by omega) ?_
        ((conv => whnf); repeat ((first | with_reducible refine BCase.tt ?_ | with_reducible refine BCase.ff ?_); (conv => whnf)))
        exact ⟨k + 1, by omega, by omega, [], rfl, rfl, ⟨.inl rfl, PLe.c (by rw [← e1 (by omega)]; rfl), PLe.int (by omega), trivial⟩, trivial⟩
      · ((conv => whnf); repeat ((first | with_reducible refine BCase.tt ?_ | with_reducible refine BCase.ff ?_); (conv => whnf)))
        refine sidx_nat (by omega) fun b' hb' => ?_
        obtain rfl : b = b' := Option.some.inj (hb.symm.trans hb')
        ((conv => whnf); repeat ((first | with_reducible refine BCase.tt ?_ | with_reducible refine BCase.ff ?_); (conv => whnf)))
        refine BCase.d (fun h2 => ?_) (fun h2 => ?_)
        · ((conv => whnf); repeat ((first | with_reducible refine BCase.tt ?_ | with_reducible refine BCase.ff ?_); (conv => whnf)))
          refine Need.mk (by show _ + 1 ≤ _; omega) ?_
          ((conv => whnf); repeat ((first | with_reducible refine BCase.tt ?_ | with_reducible refine BCase.ff ?_); (conv => whnf)))
          refine Wr.i64 (by omega) (by omega) ?_
          ((conv => whnf); repeat ((first | with_reducible refine BCase.tt ?_ | with_reducible refine BCase.ff ?_); (conv => whnf)))
          refine Need.mk (by omega) ?_
          rw [show s.extract (k : Int).toNat ((k : Int) + 1).toNat = bs [b] from hx]
          ((conv => whnf); repeat ((first | with_reducible refine BCase.tt ?_ | with_reducible refine BCase.ff ?_); (conv => whnf)))
          refine Need.mk (by show _ + 1 ≤ _; rw [ByteArray.size_append]; show _ + 1 + 1 ≤ _; omega) ?_
          ((conv => whnf); repeat ((first | with_reducible refine BCase.tt ?_ | with_reducible refine BCase.ff ?_); (conv => whnf)))
          refine Wr.i64 (by omega) (by omega) ?_
          ((conv => whnf); repeat ((first | with_reducible refine BCase.tt ?_ | with_reducible refine BCase.ff ?_); (conv => whnf)))
          exact ⟨k + 1, by omega, by omega, [], rfl, rfl, ⟨.inl rfl, PLe.c (by rw [← e1 (by omega)]; rfl), PLe.int (by omega), trivial⟩, trivial⟩
        · ((conv => whnf); repeat ((first | with_reducible refine BCase.tt ?_ | with_reducible refine BCase.ff ?_); (conv => whnf)))
          refine sidx_nat (by omega) fun b' hb' => ?_
          obtain rfl : b = b' := Option.some.inj (hb.symm.trans hb')
          ((conv => whnf); repeat ((first | with_reducible refine BCase.tt ?_ | with_reducible refine BCase.ff ?_); (conv => whnf)))
          refine BCase.d (fun h3 => ?_) (fun h3 => ?_)
          · ((conv => whnf); repeat ((first | with_reducible refine BCase.tt ?_ | with_reducible refine BCase.ff ?_); (conv => whnf)))
            refine Need.mk (by show _ + 1 ≤ _; omega) ?_
            ((conv => whnf); repeat ((first | with_reducible refine BCase.tt ?_ | with_reducible refine BCase.ff ?_); (conv => whnf)))
            refine Wr.i64 (by omega) (by omega) ?_
            ((conv => whnf); repeat ((first | with_reducible refine BCase.tt ?_ | with_reducible refine BCase.ff ?_); (conv => whnf)))
            refine Need.mk (by omega) ?_
            rw [show s.extract (k : Int).toNat ((k : Int) + 1).toNat = bs [b] from hx]
            ((conv => whnf); repeat ((first | with_reducible refine BCase.tt ?_ | with_reducible refine BCase.ff ?_); (conv => whnf)))
            refine Need.mk (by show _ + 1 ≤ _; rw [ByteArray.size_append]; show _ + 1 + 1 ≤ _; omega) ?_
            ((conv => whnf); repeat ((first | with_reducible refine BCase.tt ?_ | with_reducible refine BCase.ff ?_); (conv => whnf)))
            refine Wr.i64 (by omega) (by omega) ?_
            ((conv => whnf); repeat ((first | with_reducible refine BCase.tt ?_ | with_reducible refine BCase.ff ?_); (conv => whnf)))
            exact ⟨k + 1, by omega, by omega, [], rfl, rfl, ⟨.inl rfl, PLe.c (by rw [← e1 (by omega)]; rfl), PLe.int (by omega), trivial⟩, trivial⟩
          · ((conv => whnf); repeat ((first | with_reducible refine BCase.tt ?_ | with_reducible refine BCase.ff ?_); (conv => whnf)))
            refine Wr.i64 (by omega) (by omega) ?_
            ((conv => whnf); repeat ((first | with_reducible refine BCase.tt ?_ | with_reducible refine BCase.ff ?_); (conv => whnf)))
            refine Need.mk (by omega) ?_
            rw [show s.extract (k : Int).toNat ((k : Int) + 1).toNat = bs [b] from hx]
            ((conv => whnf); repeat ((first | with_reducible refine BCase.tt ?_ | with_reducible refine BCase.ff ?_); (conv => whnf)))
            refine Need.mk (by show _ + 1 ≤ _; omega) ?_
            ((conv => whnf); repeat ((first | with_reducible refine BCase.tt ?_ | with_reducible refine BCase.ff ?_); (conv => whnf)))
            refine Wr.i64 (by omega) (by omega) ?_
            ((conv => whnf); repeat ((first | with_reducible refine BCase.tt ?_ | with_reducible refine BCase.ff ?_); (conv => whnf)))
            exact ⟨k + 1, by omega, by omega, [], rfl, rfl, ⟨.inl rfl, PLe.c (by rw [← e2 (by omega)]), PLe.int (by omega), trivial⟩, trivial⟩
    · ((conv => whnf); repeat ((first | with_reducible refine BCase.tt ?_ | with_reducible refine BCase.ff ?_); (conv => whnf)))
      refine Ret.mk ?_
      rw [List.take_of_length_le (by rw [size_list]; omega)]; rfl
end Go.Proofs.YthogcgnhhcbkkaaDoor.Pm
