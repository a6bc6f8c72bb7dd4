/- leaf: Unpack -/
import Derived.Test.YtcecopdkaalfkaaPlPack
namespace Go.Proofs.Ytcecopdkaalfkaa.Pm
open Go.RowKit K NumP NumW NumRd NumZ NumL
set_option linter.unusedVariables false
set_option linter.unusedSimpArgs false
set_option maxRecDepth 100000

theorem numR_le (l : List UInt8) : (numR l).2.1 ≤ l.length := by
  by_cases h : (numR l).2.2 = 0
  · exact (numR_only l h).2.1
  · rw [(numR_fail l h).2]; exact Nat.zero_le _
theorem rowR_le (l : List UInt8) : (rowR l).2.1 ≤ l.length := by
  by_cases h : (rowR l).2.2 = 0
  · exact (rowR_only (s := l) (l := (rowR l).1) (k := (rowR l).2.1) (by rw [← h])).2.2.1
  · rw [(rowR_fail h).2]; exact Nat.zero_le _
theorem rowR_short (l : List UInt8) : (rowR l).1.length ≤ 140737488355328 := by
  by_cases h : (rowR l).2.2 = 0
  · have := rowChk_ok (rowR_only (s := l) (l := (rowR l).1) (k := (rowR l).2.1) (by rw [← h])).1
    omega
  · rw [(rowR_fail h).1]; simp
abbrev idR (s : List UInt8) : Int := zag ((numR s).1 : Int)
abbrev atR (s : List UInt8) : List UInt8 := s.drop (numR s).2.1
abbrev beh (s : List UInt8) : List UInt8 := (atR s).drop (rowR (atR s)).2.1
def entE (last : Int) (s : List UInt8) : Int := if (numR s).2.2 ≠ 0 then ((numR s).2.2 : Int) else if riseE (idR s) last ≠ 0 then riseE (idR s) last else (rowR (atR s)).2.2
def unpG : Nat → Int → List EntryD → List UInt8 → List EntryD × Int
  | 0, _, out, s => if s = [] then (out, 0) else ([], 1)
  | n + 1, last, out, s => if entE last s ≠ 0 then ([], entE last s) else unpG n (idR s) (out ++ [⟨idR s, (rowR (atR s)).1⟩]) (beh s)
def unpR (s : List UInt8) : List EntryD × Int := if 245 < s.length then ([], 2) else if (numR s).2.2 ≠ 0 then ([], ((numR s).2.2 : Int)) else if 40 < (numR s).1 then ([], 2) else unpG (numR s).1 0 [] (atR s)
theorem atR_tx (s : List UInt8) : (tx s).extract ((numR s).2.1 : Int).toNat (((tx s).size : Nat) : Int).toNat = tx (atR s) := by
  rw [tx_size]; exact drop_tx s _
theorem beh_tx (s : List UInt8) : (tx s).extract (((numR s).2.1 : Int) + ((rowR (atR s)).2.1 : Int)).toNat (((tx s).size : Nat) : Int).toNat = tx (beh s) := by
  rw [tx_size, ← Int.natCast_add, drop_tx, ← List.drop_drop]
abbrev uBox (s : List UInt8) : HB := .box 59 [.c (.v (.string (tx s)))]
theorem s_count (s : List UInt8) (hs : okLong s) : CallS Try.prog 24 [.d (.ptr FK 0)] [] [(FK, uBox s)] (.tup [pInt .u64 ((numR s).1 : Int), pInt .i64 ((numR s).2.2 : Int)]) [(FK, uBox (atR s))] := by
  have hs2 := hs
  unfold okLong at hs2
  have tz := tx_size s
  have hle := numR_le s
  have pr := p_numread s hs
  refine callS_of Try.func24 (by rfl) rfl (by kernel_rfl) (by rfl) [FK] rfl ?_
  (((conv => whnf); repeat ((first | with_reducible refine BCase.tt ?_ | with_reducible refine BCase.ff ?_); (conv => whnf))); repeat' (first | ((first | with_reducible refine Wr.u8 ?_ | ((first | with_reducible refine Wr.ci ?s ?_ | with_reducible refine Wr.c3 ?s ?_ | with_reducible refine Wr.c6 ?s ?_ | with_reducible refine BCase.dt ?s ?_); case s => (first | omega | (simp only [lens, true_and, and_true]; (try omega); done))) | (with_reducible refine BCase.df ?s ?_; case s => (first | omega | (simp only [lens, true_and, and_true]; (try omega); done))) | (with_reducible refine Need.mk ?s ?_; case s => first | (first | omega | (simp only [lens, true_and, and_true]; (try omega); done)) | decide | kernel_rfl) | refine BCase.t (by decide) ?_ | refine BCase.f (by decide) ?_); ((conv => whnf); repeat ((first | with_reducible refine BCase.tt ?_ | with_reducible refine BCase.ff ?_); (conv => whnf)))) | ((refine CallP.pure _ rfl _ (pr) ?_); ((conv => whnf); repeat ((first | with_reducible refine BCase.tt ?_ | with_reducible refine BCase.ff ?_); (conv => whnf)))) | ((with_reducible refine EmpOr.app ?_); ((conv => whnf); repeat ((first | with_reducible refine BCase.tt ?_ | with_reducible refine BCase.ff ?_); (conv => whnf)))) | (first | with_reducible refine BCase.not ?_ | with_reducible refine BCase.and ?_ | with_reducible refine BCase.or ?_) | ((with_reducible refine BCase.d (fun _ => ?_) (fun _ => ?_)) <;> ((conv => whnf); repeat ((first | with_reducible refine BCase.tt ?_ | with_reducible refine BCase.ff ?_); (conv => whnf))))))
  refine RetS.mk [(FK, FK)] [FK] rfl rfl ?_ ?_
  · exact ⟨.inl rfl, .inl rfl, rfl⟩
  · exact ⟨⟨rfl, rfl, CLe.text (by first | exact atR_tx s | exact (atR_tx s).symm), rfl⟩, trivial⟩
def entX (last : Int) (s : List UInt8) : EntryD := if (numR s).2.2 ≠ 0 then ⟨0, []⟩ else if riseE (idR s) last ≠ 0 then ⟨0, []⟩ else ⟨idR s, (rowR (atR s)).1⟩
def entS (last : Int) (s : List UInt8) : List UInt8 := if (numR s).2.2 ≠ 0 then s else if riseE (idR s) last ≠ 0 then s else beh s
def entL (last : Int) (s : List UInt8) : Int := if (numR s).2.2 ≠ 0 then last else if riseE (idR s) last ≠ 0 then last else idR s
theorem s_entry (last : Int) (s : List UInt8) (hs : okLong s) : CallS Try.prog 26 [.d (.ptr FK 0), .d (.clo 45 [] [.ptr FK1 0])] [] [(FK, uBox s), (FK1, idBox last)] (.tup [eV (entX last s), pInt .i64 (entE last s)]) [(FK, uBox (entS last s)), (FK1, idBox (entL last s))] := by
  have hs2 := hs
  unfold okLong at hs2
  have tz := tx_size s
  have hle := numR_le s
  have pr := p_rsigned s hs
  refine callS_of Try.func26 (by rfl) rfl (by kernel_rfl) (by rfl) [FK, FK1] rfl ?_
  unfold entX entS entL entE
  by_cases h1 : (numR s).2.2 = 0
  · rw [if_neg (not_not_intro h1), if_neg (not_not_intro h1), if_neg (not_not_intro h1), if_neg (not_not_intro h1)]
    by_cases h2 : riseE (idR s) last = 0
    · rw [if_neg (not_not_intro h2), if_neg (not_not_intro h2), if_neg (not_not_intro h2), if_neg (not_not_intro h2)]
      have hrl := rowR_le (atR s)
      have hal : (atR s).length = s.length - (numR s).2.1 := List.length_drop
      have pw := (p_recread (atR s) (okLong_drop hs _)).to (args' := [pStr ((tx s).extract ((numR s).2.1 : Int).toNat ((s.length : Nat) : Int).toNat)]) (by rw [drop_tx]) rfl
      have h1' : (((numR s).2.2 : Nat) : Int) = 0 := by omega
      (((conv => whnf); repeat ((first | with_reducible refine BCase.tt ?_ | with_reducible refine BCase.ff ?_); (conv => whnf))); repeat' (first | ((first | with_reducible refine Wr.u8 ?_ | ((first | with_reducible refine Wr.ci ?s ?_ | with_reducible refine Wr.c3 ?s ?_ | with_reducible refine Wr.c6 ?s ?_ | with_reducible refine BCase.dt ?s ?_); case s => (first | omega | (simp only [lens, true_and, and_true]; (try omega); done))) | (with_reducible refine BCase.df ?s ?_; case s => (first | omega | (simp only [lens, true_and, and_true]; (try omega); done))) | (with_reducible refine Need.mk ?s ?_; case s => first | (first | omega | (simp only [lens, true_and, and_true]; (try omega); done)) | decide | kernel_rfl) | refine BCase.t (by decide) ?_ | refine BCase.f (by decide) ?_); ((conv => whnf); repeat ((first | with_reducible refine BCase.tt ?_ | with_reducible refine BCase.ff ?_); (conv => whnf)))) | ((refine CallP.pure _ rfl _ (pr) ?_); ((conv => whnf); repeat ((first | with_reducible refine BCase.tt ?_ | with_reducible refine BCase.ff ?_); (conv => whnf)))) | ((refine CallP.pure _ rfl _ (pw) ?_); ((conv => whnf); repeat ((first | with_reducible refine BCase.tt ?_ | with_reducible refine BCase.ff ?_); (conv => whnf)))) | (( refine CallP.ret [(FK, FK1)] _ _ _ _ _ _ _ (s_rise (idR s) last) rfl rfl rfl rfl ⟨rfl, trivial⟩ ?_); ((conv => whnf); repeat ((first | with_reducible refine BCase.tt ?_ | with_reducible refine BCase.ff ?_); (conv => whnf)))) | ((with_reducible refine EmpOr.app ?_); ((conv => whnf); repeat ((first | with_reducible refine BCase.tt ?_ | with_reducible refine BCase.ff ?_); (conv => whnf)))) | (first | with_reducible refine BCase.not ?_ | with_reducible refine BCase.and ?_ | with_reducible refine BCase.or ?_) | ((with_reducible refine BCase.d (fun _ => ?_) (fun _ => ?_)) <;> ((conv => whnf); repeat ((first | with_reducible refine BCase.tt ?_ | with_reducible refine BCase.ff ?_); (conv => whnf))))))
      refine RetS.mk [(FK, FK), (FK1, FK1)] [FK, FK1] rfl rfl ?_ ?_
      · exact ⟨⟨.inl rfl, .inl rfl, rfl⟩, .inl rfl, rfl⟩
      · exact ⟨⟨rfl, rfl, CLe.text (by first | exact beh_tx s | exact (beh_tx s).symm), rfl⟩, ⟨rfl, rfl, CLe.int (by rw [if_pos h2]), rfl⟩, trivial⟩
    · rw [if_pos h2, if_pos h2, if_pos h2, if_pos h2]
      (((conv => whnf); repeat ((first | with_reducible refine BCase.tt ?_ | with_reducible refine BCase.ff ?_); (conv => whnf))); repeat' (first | ((first | with_reducible refine Wr.u8 ?_ | ((first | with_reducible refine Wr.ci ?s ?_ | with_reducible refine Wr.c3 ?s ?_ | with_reducible refine Wr.c6 ?s ?_ | with_reducible refine BCase.dt ?s ?_); case s => (first | omega | (simp only [lens, true_and, and_true]; (try omega); done))) | (with_reducible refine BCase.df ?s ?_; case s => (first | omega | (simp only [lens, true_and, and_true]; (try omega); done))) | (with_reducible refine Need.mk ?s ?_; case s => first | (first | omega | (simp only [lens, true_and, and_true]; (try omega); done)) | decide | kernel_rfl) | refine BCase.t (by decide) ?_ | refine BCase.f (by decide) ?_); ((conv => whnf); repeat ((first | with_reducible refine BCase.tt ?_ | with_reducible refine BCase.ff ?_); (conv => whnf)))) | ((refine CallP.pure _ rfl _ (pr) ?_); ((conv => whnf); repeat ((first | with_reducible refine BCase.tt ?_ | with_reducible refine BCase.ff ?_); (conv => whnf)))) | (( refine CallP.ret [(FK, FK1)] _ _ _ _ _ _ _ (s_rise (idR s) last) rfl rfl rfl rfl ⟨rfl, trivial⟩ ?_); ((conv => whnf); repeat ((first | with_reducible refine BCase.tt ?_ | with_reducible refine BCase.ff ?_); (conv => whnf)))) | ((with_reducible refine EmpOr.app ?_); ((conv => whnf); repeat ((first | with_reducible refine BCase.tt ?_ | with_reducible refine BCase.ff ?_); (conv => whnf)))) | (first | with_reducible refine BCase.not ?_ | with_reducible refine BCase.and ?_ | with_reducible refine BCase.or ?_) | ((with_reducible refine BCase.d (fun _ => ?_) (fun _ => ?_)) <;> ((conv => whnf); repeat ((first | with_reducible refine BCase.tt ?_ | with_reducible refine BCase.ff ?_); (conv => whnf))))))
      refine RetS.mk [(FK, FK), (FK1, FK1)] [FK, FK1] rfl rfl ?_ ?_
      · exact ⟨⟨.inl rfl, .inr ⟨⟨3, rfl⟩, .inl rfl⟩, rfl⟩, .inl rfl, rfl⟩
      · exact ⟨⟨rfl, rfl, .inl rfl, rfl⟩, ⟨rfl, rfl, CLe.int (by rw [if_neg h2]), rfl⟩, trivial⟩
  · rw [if_pos h1, if_pos h1, if_pos h1, if_pos h1]
    (((conv => whnf); repeat ((first | with_reducible refine BCase.tt ?_ | with_reducible refine BCase.ff ?_); (conv => whnf))); repeat' (first | ((first | with_reducible refine Wr.u8 ?_ | ((first | with_reducible refine Wr.ci ?s ?_ | with_reducible refine Wr.c3 ?s ?_ | with_reducible refine Wr.c6 ?s ?_ | with_reducible refine BCase.dt ?s ?_); case s => (first | omega | (simp only [lens, true_and, and_true]; (try omega); done))) | (with_reducible refine BCase.df ?s ?_; case s => (first | omega | (simp only [lens, true_and, and_true]; (try omega); done))) | (with_reducible refine Need.mk ?s ?_; case s => first | (first | omega | (simp only [lens, true_and, and_true]; (try omega); done)) | decide | kernel_rfl) | refine BCase.t (by decide) ?_ | refine BCase.f (by decide) ?_); ((conv => whnf); repeat ((first | with_reducible refine BCase.tt ?_ | with_reducible refine BCase.ff ?_); (conv => whnf)))) | ((refine CallP.pure _ rfl _ (pr) ?_); ((conv => whnf); repeat ((first | with_reducible refine BCase.tt ?_ | with_reducible refine BCase.ff ?_); (conv => whnf)))) | ((with_reducible refine EmpOr.app ?_); ((conv => whnf); repeat ((first | with_reducible refine BCase.tt ?_ | with_reducible refine BCase.ff ?_); (conv => whnf)))) | (first | with_reducible refine BCase.not ?_ | with_reducible refine BCase.and ?_ | with_reducible refine BCase.or ?_) | ((with_reducible refine BCase.d (fun _ => ?_) (fun _ => ?_)) <;> ((conv => whnf); repeat ((first | with_reducible refine BCase.tt ?_ | with_reducible refine BCase.ff ?_); (conv => whnf))))))
    refine RetS.mk [(FK, FK), (FK1, FK1)] [FK, FK1] rfl rfl ?_ ?_
    · exact ⟨⟨.inl rfl, .inr ⟨⟨3, rfl⟩, .inl rfl⟩, rfl⟩, .inl rfl, rfl⟩
    · exact ⟨⟨rfl, rfl, .inl rfl, rfl⟩, ⟨rfl, rfl, .inl rfl, rfl⟩, trivial⟩
end Go.Proofs.Ytcecopdkaalfkaa.Pm
