/- like.Prefix -/
import Derived.Test.YthogcgnhhcbkkaaDoorPmLikeR
import Derived.Test.YthogcgnhhcbkkaaDoorPmBuild
namespace Go.Proofs.YthogcgnhhcbkkaaDoor.Pm
open Go.RowKit LikeP
set_option linter.unusedVariables false

def joinL (l : List LikeP.Part) : List UInt8 := l.flatMap fun q => q.2.data.toList
theorem joinL_snoc (l : List LikeP.Part) (q : LikeP.Part) : joinL (l ++ [q]) = joinL l ++ q.2.data.toList := by unfold joinL; simp
def preL : List LikeP.Part → List UInt8 × Bool
  | [] => ([], true)
  | p :: l => if p.1 = 0 then (p.2.data.toList ++ (preL l).1, (preL l).2) else ([], false)
theorem preL_skip : ∀ (a b : List LikeP.Part), (∀ p ∈ a, p.1 = 0) → preL (a ++ b) = (joinL a ++ (preL b).1, (preL b).2)
  | [], b, _ => rfl
  | p :: a, b, h => by
    have h1 : p.1 = 0 := h p (List.mem_cons_self ..)
    have h2 := preL_skip a b fun q hq => h q (List.mem_cons_of_mem _ hq)
    show (if p.1 = 0 then (p.2.data.toList ++ (preL (a ++ b)).1, (preL (a ++ b)).2) else ([], false)) = _
    rw [if_pos h1, h2]
    unfold joinL
    rw [List.flatMap_cons, List.append_assoc]
def preS (l : List LikeP.Part) : ByteArray := bs (preL l).1
def preB (l : List LikeP.Part) : Bool := (preL l).2
theorem parts_small : ∀ (e : Bool) (l : List ByteArray), (∀ x ∈ l, x.size ≤ 4) → ∀ q ∈ partsE e l, q.2.size ≤ 4
  | _, [], _, q, hq => by cases hq
  | true, p :: l, h, q, hq => by
    unfold partsE at hq
    rcases List.mem_cons.1 hq with rfl | hq
    · exact h p (List.mem_cons_self ..)
    · exact parts_small false l (fun x hx => h x (List.mem_cons_of_mem _ hx)) q hq
  | false, p :: l, h, q, hq => by
    have h' : ∀ x ∈ l, x.size ≤ 4 := fun x hx => h x (List.mem_cons_of_mem _ hx)
    unfold partsE at hq
    split at hq
    · exact parts_small true l h' q hq
    · split at hq
      · rcases List.mem_cons.1 hq with rfl | hq
        · exact Nat.zero_le _
        · exact parts_small false l h' q hq
      · split at hq
        · rcases List.mem_cons.1 hq with rfl | hq
          · exact Nat.zero_le _
          · exact parts_small false l h' q hq
        · rcases List.mem_cons.1 hq with rfl | hq
          · exact h p (List.mem_cons_self ..)
          · exact parts_small false l h' q hq
theorem pcs_small (s : ByteArray) : ∀ x ∈ pcs s, x.size ≤ 4 := by
  intro x hx
  obtain ⟨l, hl, rfl⟩ := List.mem_map.1 hx
  rw [bs_size]; exact (pieces_each _ l hl).2
theorem pat_small (s : ByteArray) : ∀ q ∈ pat s, q.2.size ≤ 4 := parts_small _ _ (pcs_small s)
theorem pat_length (s : ByteArray) : (pat s).length ≤ s.size := Nat.le_trans (partsE_length _ _) (pcs_length s)
theorem joinL_len : ∀ (l : List LikeP.Part), (∀ q ∈ l, q.2.size ≤ 4) → (joinL l).length ≤ 4 * l.length
  | [], _ => Nat.zero_le _
  | p :: l, h => by
    have h1 := joinL_len l fun q hq => h q (List.mem_cons_of_mem _ hq)
    have h2 := h p (List.mem_cons_self ..)
    have : joinL (p :: l) = p.2.data.toList ++ joinL l := by unfold joinL; rw [List.flatMap_cons]
    rw [this, List.length_append, size_list, List.length_cons]; omega

theorem p_prefix_no (s : ByteArray) (h : patE s ≠ 0) : Pure Tryd.prog 16 [pStr s] (.tup [pStr ⟨#[]⟩, pBool false, pInt .i64 (patE s)]) := by
  refine pure_of Tryd.func16 (by rfl) rfl (by kernel_rfl) (by rfl) ?_
  ((conv => whnf); repeat ((first | with_reducible refine BCase.tt ?_ | with_reducible refine BCase.ff ?_); (conv => whnf)))
  refine CallP.pure _ rfl _ (p_read_no s) ?_
  ((conv => whnf); repeat ((first | with_reducible refine BCase.tt ?_ | with_reducible refine BCase.ff ?_); (conv => whnf)))
  refine BCase.dt h ?_
  ((conv => whnf); repeat ((first | with_reducible refine BCase.tt ?_ | with_reducible refine BCase.ff ?_); (conv => whnf)))
  exact Ret.mk rfl
theorem p_prefix (s : ByteArray) (h : patE s = 0) : Pure Tryd.prog 16 [pStr s] (.tup [pStr (preS (pat s)), pBool (preB (pat s)), pInt .i64 0]) := by
  have hsm := pat_small s
  have hpl := pat_length s
  have hsz := (patE_ok h).1
  obtain ⟨L, hL⟩ : ∃ L, L = pat s := ⟨_, rfl⟩
  refine pure_of Tryd.func16 (by rfl) rfl (by kernel_rfl) (by rfl) ?_
  ((conv => whnf); repeat ((first | with_reducible refine BCase.tt ?_ | with_reducible refine BCase.ff ?_); (conv => whnf)))
  refine CallP.pure _ rfl _ (p_read s h) ?_
  rw [← hL] at hsm hpl ⊢
  ((conv => whnf); repeat ((first | with_reducible refine BCase.tt ?_ | with_reducible refine BCase.ff ?_); (conv => whnf)))
  refine BCase.df (by decide) ?_
  ((conv => whnf); repeat ((first | with_reducible refine BCase.tt ?_ | with_reducible refine BCase.ff ?_); (conv => whnf)))
  rw [List.length_map]
  refine LoopC.mk Nat (fun k => [(7, .d (.ptr 7 0)), (18, .d (.c (.sl 2 (L.map encP)))), (19, pInt .i64 L.length), (20, pInt .i64 k)]) (fun k => [(7, .box tBld [.optp 7 0, .app 8 tByte 1 (byteRows (joinL (L.take k)))]), (8, .tail tByte 1)]) [7, 8] (fun k => k ≤ L.length ∧ ∀ q ∈ L.take k, q.1 = 0) (fun k => L.length - k) 0 ⟨Nat.zero_le _, by simp⟩ ?start ?round
  case start => exact ⟨[(7, 7)], rfl, rfl, ⟨⟨rfl, rfl, rfl⟩, .inl rfl, .inl rfl, .inl rfl, trivial⟩, ⟨rfl, rfl, rfl, ⟨rfl, rfl, Nat.zero_lt_one, rfl, rfl⟩, rfl⟩, ⟨rfl, Nat.zero_lt_one⟩, trivial⟩
  case round =>
    rintro k ⟨hk, hz⟩
    ((conv => whnf); repeat ((first | with_reducible refine BCase.tt ?_ | with_reducible refine BCase.ff ?_); (conv => whnf)))
    refine BCase.d (fun h1 => ?_) (fun h1 => ?_)
    · ((conv => whnf); repeat ((first | with_reducible refine BCase.tt ?_ | with_reducible refine BCase.ff ?_); (conv => whnf)))
      refine Idx.map (by omega) ?_
      ((conv => whnf); repeat ((first | with_reducible refine BCase.tt ?_ | with_reducible refine BCase.ff ?_); (conv => whnf)))
      have hdrop : L.drop k = L[k] :: L.drop (k + 1) := List.drop_eq_getElem_cons (by omega)
      refine BCase.d (fun h2 => ?_) (fun h2 => ?_)
      · have hp : preL L = (joinL (L.take k), false) := by
          have := preL_skip (L.take k) (L.drop k) hz
          rw [List.take_append_drop, hdrop] at this
          rw [this]
          unfold preL
          rw [if_neg h2, List.append_nil]
        ((conv => whnf); repeat ((first | with_reducible refine BCase.tt ?_ | with_reducible refine BCase.ff ?_); (conv => whnf)))
        refine CallP.ret [(FK, 7), (FK1, 8)] _ _ _ _ _ _ _ (string_of _) rfl rfl rfl rfl ⟨rfl, rfl, trivial⟩ ?_
        ((conv => whnf); repeat ((first | with_reducible refine BCase.tt ?_ | with_reducible refine BCase.ff ?_); (conv => whnf)))
        refine Ret.mk ?_
        unfold preS preB
        rw [hp]; rfl
      · have h2 : (L[k]).1 = 0 := Classical.byContradiction h2
        have hst : L.take (k + 1) = L.take k ++ [L[k]] := List.take_succ_eq_append_getElem (by omega)
        have hjl : (joinL (L.take k)).length ≤ 4 * k := by
          have := joinL_len (L.take k) fun q hq => hsm q (List.mem_of_mem_take hq)
          rw [List.length_take] at this; omega
        have hpz := hsm L[k] (List.getElem_mem _)
        ((conv => whnf); repeat ((first | with_reducible refine BCase.tt ?_ | with_reducible refine BCase.ff ?_); (conv => whnf)))
        refine CallP.ret [(FK, 7), (FK1, 8), (NK, 30)] _ _ _ _ _ _ _ (writeString_opt (byteRows (joinL (L.take k))) L[k].2 (by rw [List.length_map]; omega)) rfl rfl rfl rfl ⟨rfl, rfl, trivial⟩ ?_
        ((conv => whnf); repeat ((first | with_reducible refine BCase.tt ?_ | with_reducible refine BCase.ff ?_); (conv => whnf)))
        refine Wr.i64 (by omega) (by omega) ?_
        ((conv => whnf); repeat ((first | with_reducible refine BCase.tt ?_ | with_reducible refine BCase.ff ?_); (conv => whnf)))
        refine ⟨k + 1, ⟨by omega, ?_⟩, by omega, [(7, 7), (8, 30)], rfl, rfl, ⟨⟨rfl, rfl, rfl⟩, .inl rfl, .inl rfl, PLe.int (by omega), trivial⟩, ⟨rfl, rfl, ⟨rfl, rfl, rfl⟩, ⟨rfl, rfl, rfl, rfl, ?_⟩, rfl⟩, ⟨rfl, rfl, rfl⟩, trivial⟩
        · rw [hst]
          intro q hq
          rcases List.mem_append.1 hq with hq | hq
          · exact hz q hq
          · rw [List.mem_singleton.1 hq]; exact h2
        · rw [hst, joinL_snoc]; unfold byteRows; rw [List.map_append]
    · have hkl : k = L.length := by omega
      have hp : preL L = (joinL (L.take k), true) := by
        have := preL_skip (L.take k) (L.drop k) hz
        rw [List.take_append_drop, List.drop_of_length_le (by omega)] at this
        rw [this]
        unfold preL
        rw [List.append_nil]
      ((conv => whnf); repeat ((first | with_reducible refine BCase.tt ?_ | with_reducible refine BCase.ff ?_); (conv => whnf)))
      refine CallP.ret [(FK, 7), (FK1, 8)] _ _ _ _ _ _ _ (string_of _) rfl rfl rfl rfl ⟨rfl, rfl, trivial⟩ ?_
      ((conv => whnf); repeat ((first | with_reducible refine BCase.tt ?_ | with_reducible refine BCase.ff ?_); (conv => whnf)))
      refine Ret.mk ?_
      unfold preS preB
      rw [hp]; rfl
end Go.Proofs.YthogcgnhhcbkkaaDoor.Pm
