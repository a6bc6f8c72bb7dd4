/- record.Reader: a byte, a number, a value, a row; what it gives up by -/
import Derived.Test.YtcecopdkaalfkaaPrNum
import Derived.Test.YtcecopdkaalfkaaPmDefer
namespace Go.Proofs.Ytcecopdkaalfkaa.Pm
open Go.RowKit K NumP NumW NumRd NumZ NumL
set_option linter.unusedVariables false
set_option linter.unusedSimpArgs false
set_option maxRecDepth 100000

abbrev tRd : Nat := 106
abbrev tBrk : Nat := 103
abbrev tVal : Nat := 78
abbrev tRow : Nat := 41
abbrev rBox (l : List UInt8) (at_ : Nat) : HB := .box tRd [.c (.v (.string (tx l))), .c (.v (.int .i64 (at_ : Int)))]
abbrev brkV (e : Int) : Value := .iface tBrk (.agg #[.int .i64 e])
theorem x_fail (l : List UInt8) (at_ : Nat) (e : Int) : CallX Try.prog 65 [.d (.ptr FK 0), pInt .i64 e] [(FK, rBox l at_)] (brkV e) := by
  refine callX_of Try.func65 (by rfl) rfl (by kernel_rfl) (by rfl) [FK] rfl ?_
  (((conv => whnf); repeat ((first | with_reducible refine BCase.tt ?_ | with_reducible refine BCase.ff ?_); (conv => whnf))); repeat' (first | ((first | with_reducible refine Wr.u8 ?_ | ((first | with_reducible refine Wr.ci ?s ?_ | with_reducible refine Wr.c3 ?s ?_ | with_reducible refine Wr.c6 ?s ?_ | with_reducible refine BCase.dt ?s ?_); case s => (first | omega | (simp only [lens, true_and, and_true]; (try omega); done))) | (with_reducible refine BCase.df ?s ?_; case s => (first | omega | (simp only [lens, true_and, and_true]; (try omega); done))) | (with_reducible refine Need.mk ?s ?_; case s => first | (first | omega | (simp only [lens, true_and, and_true]; (try omega); done)) | decide | kernel_rfl) | refine BCase.t (by decide) ?_ | refine BCase.f (by decide) ?_); ((conv => whnf); repeat ((first | with_reducible refine BCase.tt ?_ | with_reducible refine BCase.ff ?_); (conv => whnf)))) | ((with_reducible refine EmpOr.app ?_); ((conv => whnf); repeat ((first | with_reducible refine BCase.tt ?_ | with_reducible refine BCase.ff ?_); (conv => whnf)))) | (first | with_reducible refine BCase.not ?_ | with_reducible refine BCase.and ?_ | with_reducible refine BCase.or ?_) | ((with_reducible refine BCase.d (fun _ => ?_) (fun _ => ?_)) <;> ((conv => whnf); repeat ((first | with_reducible refine BCase.tt ?_ | with_reducible refine BCase.ff ?_); (conv => whnf))))))
theorem s_byte (l : List UInt8) (at_ : Nat) (hl : okLong l) (h : at_ < l.length) : CallS Try.prog 67 [.d (.ptr FK 0)] [] [(FK, rBox l at_)] (pInt .u8 ((l.getD at_ 0).toNat : Int)) [(FK, rBox l (at_ + 1))] := by
  unfold okLong at hl
  have tz := tx_size l
  refine callS_of Try.func67 (by rfl) rfl (by kernel_rfl) (by rfl) [FK] rfl ?_
  (((conv => whnf); repeat ((first | with_reducible refine BCase.tt ?_ | with_reducible refine BCase.ff ?_); (conv => whnf))); repeat' (first | ((first | with_reducible refine Wr.u8 ?_ | ((first | with_reducible refine Wr.ci ?s ?_ | with_reducible refine Wr.c3 ?s ?_ | with_reducible refine Wr.c6 ?s ?_ | with_reducible refine BCase.dt ?s ?_); case s => (first | omega | (simp only [lens, true_and, and_true]; (try omega); done))) | (with_reducible refine BCase.df ?s ?_; case s => (first | omega | (simp only [lens, true_and, and_true]; (try omega); done))) | (with_reducible refine Need.mk ?s ?_; case s => first | (first | omega | (simp only [lens, true_and, and_true]; (try omega); done)) | decide | kernel_rfl) | refine BCase.t (by decide) ?_ | refine BCase.f (by decide) ?_); ((conv => whnf); repeat ((first | with_reducible refine BCase.tt ?_ | with_reducible refine BCase.ff ?_); (conv => whnf)))) | (( refine SIdx.tx at_ (by omega) h ?_); ((conv => whnf); repeat ((first | with_reducible refine BCase.tt ?_ | with_reducible refine BCase.ff ?_); (conv => whnf)))) | ((with_reducible refine EmpOr.app ?_); ((conv => whnf); repeat ((first | with_reducible refine BCase.tt ?_ | with_reducible refine BCase.ff ?_); (conv => whnf)))) | (first | with_reducible refine BCase.not ?_ | with_reducible refine BCase.and ?_ | with_reducible refine BCase.or ?_) | ((with_reducible refine BCase.d (fun _ => ?_) (fun _ => ?_)) <;> ((conv => whnf); repeat ((first | with_reducible refine BCase.tt ?_ | with_reducible refine BCase.ff ?_); (conv => whnf))))))
  refine RetS.mk [(FK, FK)] [FK] rfl rfl ?_ ?_
  · exact .inl rfl
  · exact ⟨⟨rfl, rfl, .inl rfl, CLe.int (by omega), rfl⟩, trivial⟩
theorem x_byte (l : List UInt8) (at_ : Nat) (hl : okLong l) (h : l.length ≤ at_) : CallX Try.prog 67 [.d (.ptr FK 0)] [(FK, rBox l at_)] (brkV 5) := by
  unfold okLong at hl
  have tz := tx_size l
  refine callX_of Try.func67 (by rfl) rfl (by kernel_rfl) (by rfl) [FK] rfl ?_
  (((conv => whnf); repeat ((first | with_reducible refine BCase.tt ?_ | with_reducible refine BCase.ff ?_); (conv => whnf))); repeat' (first | ((first | with_reducible refine Wr.u8 ?_ | ((first | with_reducible refine Wr.ci ?s ?_ | with_reducible refine Wr.c3 ?s ?_ | with_reducible refine Wr.c6 ?s ?_ | with_reducible refine BCase.dt ?s ?_); case s => (first | omega | (simp only [lens, true_and, and_true]; (try omega); done))) | (with_reducible refine BCase.df ?s ?_; case s => (first | omega | (simp only [lens, true_and, and_true]; (try omega); done))) | (with_reducible refine Need.mk ?s ?_; case s => first | (first | omega | (simp only [lens, true_and, and_true]; (try omega); done)) | decide | kernel_rfl) | refine BCase.t (by decide) ?_ | refine BCase.f (by decide) ?_); ((conv => whnf); repeat ((first | with_reducible refine BCase.tt ?_ | with_reducible refine BCase.ff ?_); (conv => whnf)))) | ((with_reducible refine EmpOr.app ?_); ((conv => whnf); repeat ((first | with_reducible refine BCase.tt ?_ | with_reducible refine BCase.ff ?_); (conv => whnf)))) | (first | with_reducible refine BCase.not ?_ | with_reducible refine BCase.and ?_ | with_reducible refine BCase.or ?_) | ((with_reducible refine BCase.d (fun _ => ?_) (fun _ => ?_)) <;> ((conv => whnf); repeat ((first | with_reducible refine BCase.tt ?_ | with_reducible refine BCase.ff ?_); (conv => whnf))))))
  exact CallP.pan [(FK, FK)] _ _ _ _ (x_fail l at_ 5) rfl rfl rfl ⟨rfl, trivial⟩ rfl
theorem drop_tx (l : List UInt8) (n : Nat) : (tx l).extract (n : Int).toNat ((l.length : Nat) : Int).toNat = tx (l.drop n) := by
  rw [extract_tx, Int.toNat_natCast, Int.toNat_natCast]
  exact congrArg tx (List.take_of_length_le (by rw [List.length_drop]; exact Nat.le_refl _))
theorem okLong_drop {l : List UInt8} (h : okLong l) (n : Nat) : okLong (l.drop n) := by unfold okLong at *; rw [List.length_drop]; omega
theorem s_numU (l : List UInt8) (at_ : Nat) (hl : okLong l) (ha : at_ ≤ l.length) (h : (numR (l.drop at_)).2.2 = 0) : CallS Try.prog 64 [.d (.ptr FK 0), .d (.c (.v (.func (.func 44) #[] #[])))] [] [(FK, rBox l at_)] (pInt .u64 ((numR (l.drop at_)).1 : Int)) [(FK, rBox l (at_ + (numR (l.drop at_)).2.1))] := by
  have hl2 := hl
  unfold okLong at hl2
  have tz := tx_size l
  have h10 := numR_place (l.drop at_)
  have pr := (p_numread (l.drop at_) (okLong_drop hl _)).to (args' := [pStr ((tx l).extract (at_ : Int).toNat ((l.length : Nat) : Int).toNat)]) (by rw [drop_tx]) rfl
  refine callS_of Try.func64 (by rfl) rfl (by kernel_rfl) (by rfl) [FK] rfl ?_
  (((conv => whnf); repeat ((first | with_reducible refine BCase.tt ?_ | with_reducible refine BCase.ff ?_); (conv => whnf))); repeat' (first | ((first | with_reducible refine Wr.u8 ?_ | ((first | with_reducible refine Wr.ci ?s ?_ | with_reducible refine Wr.c3 ?s ?_ | with_reducible refine Wr.c6 ?s ?_ | with_reducible refine BCase.dt ?s ?_); case s => (first | omega | (simp only [lens, true_and, and_true]; (try omega); done))) | (with_reducible refine BCase.df ?s ?_; case s => (first | omega | (simp only [lens, true_and, and_true]; (try omega); done))) | (with_reducible refine Need.mk ?s ?_; case s => first | (first | omega | (simp only [lens, true_and, and_true]; (try omega); done)) | decide | kernel_rfl) | refine BCase.t (by decide) ?_ | refine BCase.f (by decide) ?_); ((conv => whnf); repeat ((first | with_reducible refine BCase.tt ?_ | with_reducible refine BCase.ff ?_); (conv => whnf)))) | ((refine CallP.pure _ rfl _ (pr) ?_); ((conv => whnf); repeat ((first | with_reducible refine BCase.tt ?_ | with_reducible refine BCase.ff ?_); (conv => whnf)))) | ((with_reducible refine EmpOr.app ?_); ((conv => whnf); repeat ((first | with_reducible refine BCase.tt ?_ | with_reducible refine BCase.ff ?_); (conv => whnf)))) | (first | with_reducible refine BCase.not ?_ | with_reducible refine BCase.and ?_ | with_reducible refine BCase.or ?_) | ((with_reducible refine BCase.d (fun _ => ?_) (fun _ => ?_)) <;> ((conv => whnf); repeat ((first | with_reducible refine BCase.tt ?_ | with_reducible refine BCase.ff ?_); (conv => whnf))))))
  refine RetS.mk [(FK, FK)] [FK] rfl rfl ?_ ?_
  · exact .inl rfl
  · exact ⟨⟨rfl, rfl, .inl rfl, CLe.int (by omega), rfl⟩, trivial⟩
theorem x_numU (l : List UInt8) (at_ : Nat) (hl : okLong l) (ha : at_ ≤ l.length) (h : (numR (l.drop at_)).2.2 ≠ 0) : CallX Try.prog 64 [.d (.ptr FK 0), .d (.c (.v (.func (.func 44) #[] #[])))] [(FK, rBox l at_)] (brkV ((numR (l.drop at_)).2.2 : Int)) := by
  have hl2 := hl
  unfold okLong at hl2
  have tz := tx_size l
  have pr := (p_numread (l.drop at_) (okLong_drop hl _)).to (args' := [pStr ((tx l).extract (at_ : Int).toNat ((l.length : Nat) : Int).toNat)]) (by rw [drop_tx]) rfl
  refine callX_of Try.func64 (by rfl) rfl (by kernel_rfl) (by rfl) [FK] rfl ?_
  (((conv => whnf); repeat ((first | with_reducible refine BCase.tt ?_ | with_reducible refine BCase.ff ?_); (conv => whnf))); repeat' (first | ((first | with_reducible refine Wr.u8 ?_ | ((first | with_reducible refine Wr.ci ?s ?_ | with_reducible refine Wr.c3 ?s ?_ | with_reducible refine Wr.c6 ?s ?_ | with_reducible refine BCase.dt ?s ?_); case s => (first | omega | (simp only [lens, true_and, and_true]; (try omega); done))) | (with_reducible refine BCase.df ?s ?_; case s => (first | omega | (simp only [lens, true_and, and_true]; (try omega); done))) | (with_reducible refine Need.mk ?s ?_; case s => first | (first | omega | (simp only [lens, true_and, and_true]; (try omega); done)) | decide | kernel_rfl) | refine BCase.t (by decide) ?_ | refine BCase.f (by decide) ?_); ((conv => whnf); repeat ((first | with_reducible refine BCase.tt ?_ | with_reducible refine BCase.ff ?_); (conv => whnf)))) | ((refine CallP.pure _ rfl _ (pr) ?_); ((conv => whnf); repeat ((first | with_reducible refine BCase.tt ?_ | with_reducible refine BCase.ff ?_); (conv => whnf)))) | ((with_reducible refine EmpOr.app ?_); ((conv => whnf); repeat ((first | with_reducible refine BCase.tt ?_ | with_reducible refine BCase.ff ?_); (conv => whnf)))) | (first | with_reducible refine BCase.not ?_ | with_reducible refine BCase.and ?_ | with_reducible refine BCase.or ?_) | ((with_reducible refine BCase.d (fun _ => ?_) (fun _ => ?_)) <;> ((conv => whnf); repeat ((first | with_reducible refine BCase.tt ?_ | with_reducible refine BCase.ff ?_); (conv => whnf))))))
  exact CallP.pan [(FK, FK)] _ _ _ _ (x_fail l at_ _) rfl rfl rfl ⟨rfl, trivial⟩ rfl
theorem s_numI (l : List UInt8) (at_ : Nat) (hl : okLong l) (ha : at_ ≤ l.length) (h : (numR (l.drop at_)).2.2 = 0) : CallS Try.prog 68 [.d (.ptr FK 0), .d (.c (.v (.func (.func 46) #[] #[])))] [] [(FK, rBox l at_)] (pInt .i64 (zag ((numR (l.drop at_)).1 : Int))) [(FK, rBox l (at_ + (numR (l.drop at_)).2.1))] := by
  have hl2 := hl
  unfold okLong at hl2
  have tz := tx_size l
  have h10 := numR_place (l.drop at_)
  have pr := (p_rsigned (l.drop at_) (okLong_drop hl _)).to (args' := [pStr ((tx l).extract (at_ : Int).toNat ((l.length : Nat) : Int).toNat)]) (by rw [drop_tx]) rfl
  refine callS_of Try.func68 (by rfl) rfl (by kernel_rfl) (by rfl) [FK] rfl ?_
  (((conv => whnf); repeat ((first | with_reducible refine BCase.tt ?_ | with_reducible refine BCase.ff ?_); (conv => whnf))); repeat' (first | ((first | with_reducible refine Wr.u8 ?_ | ((first | with_reducible refine Wr.ci ?s ?_ | with_reducible refine Wr.c3 ?s ?_ | with_reducible refine Wr.c6 ?s ?_ | with_reducible refine BCase.dt ?s ?_); case s => (first | omega | (simp only [lens, true_and, and_true]; (try omega); done))) | (with_reducible refine BCase.df ?s ?_; case s => (first | omega | (simp only [lens, true_and, and_true]; (try omega); done))) | (with_reducible refine Need.mk ?s ?_; case s => first | (first | omega | (simp only [lens, true_and, and_true]; (try omega); done)) | decide | kernel_rfl) | refine BCase.t (by decide) ?_ | refine BCase.f (by decide) ?_); ((conv => whnf); repeat ((first | with_reducible refine BCase.tt ?_ | with_reducible refine BCase.ff ?_); (conv => whnf)))) | ((refine CallP.pure _ rfl _ (pr) ?_); ((conv => whnf); repeat ((first | with_reducible refine BCase.tt ?_ | with_reducible refine BCase.ff ?_); (conv => whnf)))) | ((with_reducible refine EmpOr.app ?_); ((conv => whnf); repeat ((first | with_reducible refine BCase.tt ?_ | with_reducible refine BCase.ff ?_); (conv => whnf)))) | (first | with_reducible refine BCase.not ?_ | with_reducible refine BCase.and ?_ | with_reducible refine BCase.or ?_) | ((with_reducible refine BCase.d (fun _ => ?_) (fun _ => ?_)) <;> ((conv => whnf); repeat ((first | with_reducible refine BCase.tt ?_ | with_reducible refine BCase.ff ?_); (conv => whnf))))))
  refine RetS.mk [(FK, FK)] [FK] rfl rfl ?_ ?_
  · exact .inl rfl
  · exact ⟨⟨rfl, rfl, .inl rfl, CLe.int (by omega), rfl⟩, trivial⟩
theorem x_numI (l : List UInt8) (at_ : Nat) (hl : okLong l) (ha : at_ ≤ l.length) (h : (numR (l.drop at_)).2.2 ≠ 0) : CallX Try.prog 68 [.d (.ptr FK 0), .d (.c (.v (.func (.func 46) #[] #[])))] [(FK, rBox l at_)] (brkV ((numR (l.drop at_)).2.2 : Int)) := by
  have hl2 := hl
  unfold okLong at hl2
  have tz := tx_size l
  have pr := (p_rsigned (l.drop at_) (okLong_drop hl _)).to (args' := [pStr ((tx l).extract (at_ : Int).toNat ((l.length : Nat) : Int).toNat)]) (by rw [drop_tx]) rfl
  refine callX_of Try.func68 (by rfl) rfl (by kernel_rfl) (by rfl) [FK] rfl ?_
  (((conv => whnf); repeat ((first | with_reducible refine BCase.tt ?_ | with_reducible refine BCase.ff ?_); (conv => whnf))); repeat' (first | ((first | with_reducible refine Wr.u8 ?_ | ((first | with_reducible refine Wr.ci ?s ?_ | with_reducible refine Wr.c3 ?s ?_ | with_reducible refine Wr.c6 ?s ?_ | with_reducible refine BCase.dt ?s ?_); case s => (first | omega | (simp only [lens, true_and, and_true]; (try omega); done))) | (with_reducible refine BCase.df ?s ?_; case s => (first | omega | (simp only [lens, true_and, and_true]; (try omega); done))) | (with_reducible refine Need.mk ?s ?_; case s => first | (first | omega | (simp only [lens, true_and, and_true]; (try omega); done)) | decide | kernel_rfl) | refine BCase.t (by decide) ?_ | refine BCase.f (by decide) ?_); ((conv => whnf); repeat ((first | with_reducible refine BCase.tt ?_ | with_reducible refine BCase.ff ?_); (conv => whnf)))) | ((refine CallP.pure _ rfl _ (pr) ?_); ((conv => whnf); repeat ((first | with_reducible refine BCase.tt ?_ | with_reducible refine BCase.ff ?_); (conv => whnf)))) | ((with_reducible refine EmpOr.app ?_); ((conv => whnf); repeat ((first | with_reducible refine BCase.tt ?_ | with_reducible refine BCase.ff ?_); (conv => whnf)))) | (first | with_reducible refine BCase.not ?_ | with_reducible refine BCase.and ?_ | with_reducible refine BCase.or ?_) | ((with_reducible refine BCase.d (fun _ => ?_) (fun _ => ?_)) <;> ((conv => whnf); repeat ((first | with_reducible refine BCase.tt ?_ | with_reducible refine BCase.ff ?_); (conv => whnf))))))
  exact CallP.pan [(FK, FK)] _ _ _ _ (x_fail l at_ _) rfl rfl rfl ⟨rfl, trivial⟩ rfl
theorem drop_at {l : List UInt8} {n : Nat} (h : n < l.length) : l.drop n = l.getD n 0 :: l.drop (n + 1) := by
  rw [List.drop_eq_getElem_cons h, List.getD_eq_getElem?_getD, List.getElem?_eq_getElem h]; rfl
theorem vRd_end {l : List UInt8} {n : Nat} (h : l.length ≤ n) : vRd (l.drop n) = (z0, 0, 5) := by rw [List.drop_of_length_le h]; rfl
theorem s_value (l : List UInt8) (at_ : Nat) (hl : okLong l) {v : ValueD} {k : Nat} (hv : vRd (l.drop at_) = (v, k, 0)) : CallS Try.prog 66 [.d (.ptr FK 0)] [] [(FK, rBox l at_)] (vV v) [(FK, rBox l (at_ + k))] := by
  have hl2 := hl
  unfold okLong at hl2
  have tz := tx_size l
  by_cases hlt : at_ < l.length
  · rw [drop_at hlt] at hv
    have h10 := numR_place (l.drop (at_ + 1))
    have hfit := numR_fits (l.drop (at_ + 1))
    have hb := u8_lt (l.getD at_ 0)
    rw [vRd_cons] at hv
    refine callS_of Try.func66 (by rfl) rfl (by kernel_rfl) (by rfl) [FK] rfl ?_
    split at hv
    · cases hv
    · split at hv
      · cases hv
        (((conv => whnf); repeat ((first | with_reducible refine BCase.tt ?_ | with_reducible refine BCase.ff ?_); (conv => whnf))); repeat' (first | ((first | with_reducible refine Wr.u8 ?_ | ((first | with_reducible refine Wr.ci ?s ?_ | with_reducible refine Wr.c3 ?s ?_ | with_reducible refine Wr.c6 ?s ?_ | with_reducible refine BCase.dt ?s ?_); case s => (first | omega | (simp only [lens, true_and, and_true]; (try omega); done))) | (with_reducible refine BCase.df ?s ?_; case s => (first | omega | (simp only [lens, true_and, and_true]; (try omega); done))) | (with_reducible refine Need.mk ?s ?_; case s => first | (first | omega | (simp only [lens, true_and, and_true]; (try omega); done)) | decide | kernel_rfl) | refine BCase.t (by decide) ?_ | refine BCase.f (by decide) ?_); ((conv => whnf); repeat ((first | with_reducible refine BCase.tt ?_ | with_reducible refine BCase.ff ?_); (conv => whnf)))) | (( refine CallP.ret [(FK, FK)] _ _ _ _ _ _ _ (s_byte l at_ hl hlt) rfl rfl rfl rfl ⟨rfl, trivial⟩ ?_); ((conv => whnf); repeat ((first | with_reducible refine BCase.tt ?_ | with_reducible refine BCase.ff ?_); (conv => whnf)))) | ((with_reducible refine EmpOr.app ?_); ((conv => whnf); repeat ((first | with_reducible refine BCase.tt ?_ | with_reducible refine BCase.ff ?_); (conv => whnf)))) | (first | with_reducible refine BCase.not ?_ | with_reducible refine BCase.and ?_ | with_reducible refine BCase.or ?_) | ((with_reducible refine BCase.d (fun _ => ?_) (fun _ => ?_)) <;> ((conv => whnf); repeat ((first | with_reducible refine BCase.tt ?_ | with_reducible refine BCase.ff ?_); (conv => whnf))))))
        refine RetS.mk [(FK, FK)] [FK] rfl rfl ?_ ?_
        · exact ⟨CLe.int (by dsimp only [z0]; omega), .inl rfl, .inl rfl, rfl⟩
        · exact ⟨⟨rfl, rfl, .inl rfl, .inl rfl, rfl⟩, trivial⟩
      · split at hv
        · split at hv
          · rename_i g; have q := congrArg (fun x => x.2.2) hv; dsimp only at q; omega
          · rename_i g
            cases hv
            (((conv => whnf); repeat ((first | with_reducible refine BCase.tt ?_ | with_reducible refine BCase.ff ?_); (conv => whnf))); repeat' (first | ((first | with_reducible refine Wr.u8 ?_ | ((first | with_reducible refine Wr.ci ?s ?_ | with_reducible refine Wr.c3 ?s ?_ | with_reducible refine Wr.c6 ?s ?_ | with_reducible refine BCase.dt ?s ?_); case s => (first | omega | (simp only [lens, true_and, and_true]; (try omega); done))) | (with_reducible refine BCase.df ?s ?_; case s => (first | omega | (simp only [lens, true_and, and_true]; (try omega); done))) | (with_reducible refine Need.mk ?s ?_; case s => first | (first | omega | (simp only [lens, true_and, and_true]; (try omega); done)) | decide | kernel_rfl) | refine BCase.t (by decide) ?_ | refine BCase.f (by decide) ?_); ((conv => whnf); repeat ((first | with_reducible refine BCase.tt ?_ | with_reducible refine BCase.ff ?_); (conv => whnf)))) | (( refine CallP.ret [(FK, FK)] _ _ _ _ _ _ _ (s_byte l at_ hl hlt) rfl rfl rfl rfl ⟨rfl, trivial⟩ ?_); ((conv => whnf); repeat ((first | with_reducible refine BCase.tt ?_ | with_reducible refine BCase.ff ?_); (conv => whnf)))) | (( refine CallP.ret [(FK, FK)] _ _ _ _ _ _ _ (s_numI l (at_ + 1) hl (by omega) (by omega)) rfl rfl rfl rfl ⟨rfl, trivial⟩ ?_); ((conv => whnf); repeat ((first | with_reducible refine BCase.tt ?_ | with_reducible refine BCase.ff ?_); (conv => whnf)))) | ((with_reducible refine EmpOr.app ?_); ((conv => whnf); repeat ((first | with_reducible refine BCase.tt ?_ | with_reducible refine BCase.ff ?_); (conv => whnf)))) | (first | with_reducible refine BCase.not ?_ | with_reducible refine BCase.and ?_ | with_reducible refine BCase.or ?_) | ((with_reducible refine BCase.d (fun _ => ?_) (fun _ => ?_)) <;> ((conv => whnf); repeat ((first | with_reducible refine BCase.tt ?_ | with_reducible refine BCase.ff ?_); (conv => whnf))))))
            refine RetS.mk [(FK, FK)] [FK] rfl rfl ?_ ?_
            · exact ⟨CLe.int (by dsimp only [z0]; omega), .inl rfl, .inl rfl, rfl⟩
            · exact ⟨⟨rfl, rfl, .inl rfl, CLe.int (by omega), rfl⟩, trivial⟩
        · split at hv
          · rename_i g; have q := congrArg (fun x => x.2.2) hv; dsimp only at q; omega
          · split at hv
            · cases hv
            · split at hv
              · cases hv
              · rename_i g1 g2 g3 g4 g5 g6
                rw [List.length_drop] at g6
                cases hv
                have ho := numR_only (l.drop (at_ + 1)) (by omega)
                rw [List.length_drop] at ho
                have e3 : (tx l).extract (((at_ + 1 + (numR (l.drop (at_ + 1))).2.1 : Nat) : Int)).toNat ((((at_ + 1 + (numR (l.drop (at_ + 1))).2.1 : Nat) : Int) + ((numR (l.drop (at_ + 1))).1 : Int))).toNat = tx (((l.drop (at_ + 1)).drop (numR (l.drop (at_ + 1))).2.1).take (numR (l.drop (at_ + 1))).1) := by
                  rw [extract_tx, List.drop_drop]
                  congr 2
                  omega
                (((conv => whnf); repeat ((first | with_reducible refine BCase.tt ?_ | with_reducible refine BCase.ff ?_); (conv => whnf))); repeat' (first | ((first | with_reducible refine Wr.u8 ?_ | ((first | with_reducible refine Wr.ci ?s ?_ | with_reducible refine Wr.c3 ?s ?_ | with_reducible refine Wr.c6 ?s ?_ | with_reducible refine BCase.dt ?s ?_); case s => (first | omega | (simp only [lens, true_and, and_true]; (try omega); done))) | (with_reducible refine BCase.df ?s ?_; case s => (first | omega | (simp only [lens, true_and, and_true]; (try omega); done))) | (with_reducible refine Need.mk ?s ?_; case s => first | (first | omega | (simp only [lens, true_and, and_true]; (try omega); done)) | decide | kernel_rfl) | refine BCase.t (by decide) ?_ | refine BCase.f (by decide) ?_); ((conv => whnf); repeat ((first | with_reducible refine BCase.tt ?_ | with_reducible refine BCase.ff ?_); (conv => whnf)))) | (( refine CallP.ret [(FK, FK)] _ _ _ _ _ _ _ (s_byte l at_ hl hlt) rfl rfl rfl rfl ⟨rfl, trivial⟩ ?_); ((conv => whnf); repeat ((first | with_reducible refine BCase.tt ?_ | with_reducible refine BCase.ff ?_); (conv => whnf)))) | (( refine CallP.ret [(FK, FK)] _ _ _ _ _ _ _ (s_numU l (at_ + 1) hl (by omega) (by omega)) rfl rfl rfl rfl ⟨rfl, trivial⟩ ?_); ((conv => whnf); repeat ((first | with_reducible refine BCase.tt ?_ | with_reducible refine BCase.ff ?_); (conv => whnf)))) | ((with_reducible refine EmpOr.app ?_); ((conv => whnf); repeat ((first | with_reducible refine BCase.tt ?_ | with_reducible refine BCase.ff ?_); (conv => whnf)))) | (first | with_reducible refine BCase.not ?_ | with_reducible refine BCase.and ?_ | with_reducible refine BCase.or ?_) | ((with_reducible refine BCase.d (fun _ => ?_) (fun _ => ?_)) <;> ((conv => whnf); repeat ((first | with_reducible refine BCase.tt ?_ | with_reducible refine BCase.ff ?_); (conv => whnf))))))
                all_goals
                  refine RetS.mk [(FK, FK)] [FK] rfl rfl ?_ ?_
                  · exact ⟨.inl rfl, .inl rfl, CLe.text e3, rfl⟩
                  · exact ⟨⟨rfl, rfl, .inl rfl, CLe.int (by omega), rfl⟩, trivial⟩
  · rw [vRd_end (by omega)] at hv
    cases hv
theorem x_value (l : List UInt8) (at_ : Nat) (hl : okLong l) (hv : (vRd (l.drop at_)).2.2 ≠ 0) : CallX Try.prog 66 [.d (.ptr FK 0)] [(FK, rBox l at_)] (brkV (vRd (l.drop at_)).2.2) := by
  have hl2 := hl
  unfold okLong at hl2
  have tz := tx_size l
  by_cases hlt : at_ < l.length
  · rw [drop_at hlt] at hv ⊢
    have h10 := numR_place (l.drop (at_ + 1))
    have hfit := numR_fits (l.drop (at_ + 1))
    have hb := u8_lt (l.getD at_ 0)
    rw [vRd_cons] at hv ⊢
    refine callX_of Try.func66 (by rfl) rfl (by kernel_rfl) (by rfl) [FK] rfl ?_
    split at hv
    · rename_i g1
      rw [if_pos g1]
      (((conv => whnf); repeat ((first | with_reducible refine BCase.tt ?_ | with_reducible refine BCase.ff ?_); (conv => whnf))); repeat' (first | ((first | with_reducible refine Wr.u8 ?_ | ((first | with_reducible refine Wr.ci ?s ?_ | with_reducible refine Wr.c3 ?s ?_ | with_reducible refine Wr.c6 ?s ?_ | with_reducible refine BCase.dt ?s ?_); case s => (first | omega | (simp only [lens, true_and, and_true]; (try omega); done))) | (with_reducible refine BCase.df ?s ?_; case s => (first | omega | (simp only [lens, true_and, and_true]; (try omega); done))) | (with_reducible refine Need.mk ?s ?_; case s => first | (first | omega | (simp only [lens, true_and, and_true]; (try omega); done)) | decide | kernel_rfl) | refine BCase.t (by decide) ?_ | refine BCase.f (by decide) ?_); ((conv => whnf); repeat ((first | with_reducible refine BCase.tt ?_ | with_reducible refine BCase.ff ?_); (conv => whnf)))) | (( refine CallP.ret [(FK, FK)] _ _ _ _ _ _ _ (s_byte l at_ hl hlt) rfl rfl rfl rfl ⟨rfl, trivial⟩ ?_); ((conv => whnf); repeat ((first | with_reducible refine BCase.tt ?_ | with_reducible refine BCase.ff ?_); (conv => whnf)))) | ((with_reducible refine EmpOr.app ?_); ((conv => whnf); repeat ((first | with_reducible refine BCase.tt ?_ | with_reducible refine BCase.ff ?_); (conv => whnf)))) | (first | with_reducible refine BCase.not ?_ | with_reducible refine BCase.and ?_ | with_reducible refine BCase.or ?_) | ((with_reducible refine BCase.d (fun _ => ?_) (fun _ => ?_)) <;> ((conv => whnf); repeat ((first | with_reducible refine BCase.tt ?_ | with_reducible refine BCase.ff ?_); (conv => whnf))))))
      exact CallP.pan [(FK, FK)] _ _ _ _ (x_fail l (at_ + 1) 7) rfl rfl rfl ⟨rfl, trivial⟩ rfl
    · rename_i g1
      rw [if_neg g1]
      split at hv
      · exact absurd rfl hv
      · rename_i g2
        rw [if_neg g2]
        split at hv
        · rename_i g3
          rw [if_pos g3]
          split at hv
          · rename_i g4
            rw [if_pos g4]
            (((conv => whnf); repeat ((first | with_reducible refine BCase.tt ?_ | with_reducible refine BCase.ff ?_); (conv => whnf))); repeat' (first | ((first | with_reducible refine Wr.u8 ?_ | ((first | with_reducible refine Wr.ci ?s ?_ | with_reducible refine Wr.c3 ?s ?_ | with_reducible refine Wr.c6 ?s ?_ | with_reducible refine BCase.dt ?s ?_); case s => (first | omega | (simp only [lens, true_and, and_true]; (try omega); done))) | (with_reducible refine BCase.df ?s ?_; case s => (first | omega | (simp only [lens, true_and, and_true]; (try omega); done))) | (with_reducible refine Need.mk ?s ?_; case s => first | (first | omega | (simp only [lens, true_and, and_true]; (try omega); done)) | decide | kernel_rfl) | refine BCase.t (by decide) ?_ | refine BCase.f (by decide) ?_); ((conv => whnf); repeat ((first | with_reducible refine BCase.tt ?_ | with_reducible refine BCase.ff ?_); (conv => whnf)))) | (( refine CallP.ret [(FK, FK)] _ _ _ _ _ _ _ (s_byte l at_ hl hlt) rfl rfl rfl rfl ⟨rfl, trivial⟩ ?_); ((conv => whnf); repeat ((first | with_reducible refine BCase.tt ?_ | with_reducible refine BCase.ff ?_); (conv => whnf)))) | ((with_reducible refine EmpOr.app ?_); ((conv => whnf); repeat ((first | with_reducible refine BCase.tt ?_ | with_reducible refine BCase.ff ?_); (conv => whnf)))) | (first | with_reducible refine BCase.not ?_ | with_reducible refine BCase.and ?_ | with_reducible refine BCase.or ?_) | ((with_reducible refine BCase.d (fun _ => ?_) (fun _ => ?_)) <;> ((conv => whnf); repeat ((first | with_reducible refine BCase.tt ?_ | with_reducible refine BCase.ff ?_); (conv => whnf))))))
            exact CallP.pan [(FK, FK)] _ _ _ _ (x_numI l (at_ + 1) hl (by omega) g4) rfl rfl rfl ⟨rfl, trivial⟩ rfl
          · exact absurd rfl hv
        · rename_i g3
          rw [if_neg g3]
          split at hv
          · rename_i g4
            rw [if_pos g4]
            (((conv => whnf); repeat ((first | with_reducible refine BCase.tt ?_ | with_reducible refine BCase.ff ?_); (conv => whnf))); repeat' (first | ((first | with_reducible refine Wr.u8 ?_ | ((first | with_reducible refine Wr.ci ?s ?_ | with_reducible refine Wr.c3 ?s ?_ | with_reducible refine Wr.c6 ?s ?_ | with_reducible refine BCase.dt ?s ?_); case s => (first | omega | (simp only [lens, true_and, and_true]; (try omega); done))) | (with_reducible refine BCase.df ?s ?_; case s => (first | omega | (simp only [lens, true_and, and_true]; (try omega); done))) | (with_reducible refine Need.mk ?s ?_; case s => first | (first | omega | (simp only [lens, true_and, and_true]; (try omega); done)) | decide | kernel_rfl) | refine BCase.t (by decide) ?_ | refine BCase.f (by decide) ?_); ((conv => whnf); repeat ((first | with_reducible refine BCase.tt ?_ | with_reducible refine BCase.ff ?_); (conv => whnf)))) | (( refine CallP.ret [(FK, FK)] _ _ _ _ _ _ _ (s_byte l at_ hl hlt) rfl rfl rfl rfl ⟨rfl, trivial⟩ ?_); ((conv => whnf); repeat ((first | with_reducible refine BCase.tt ?_ | with_reducible refine BCase.ff ?_); (conv => whnf)))) | ((with_reducible refine EmpOr.app ?_); ((conv => whnf); repeat ((first | with_reducible refine BCase.tt ?_ | with_reducible refine BCase.ff ?_); (conv => whnf)))) | (first | with_reducible refine BCase.not ?_ | with_reducible refine BCase.and ?_ | with_reducible refine BCase.or ?_) | ((with_reducible refine BCase.d (fun _ => ?_) (fun _ => ?_)) <;> ((conv => whnf); repeat ((first | with_reducible refine BCase.tt ?_ | with_reducible refine BCase.ff ?_); (conv => whnf))))))
            all_goals exact CallP.pan [(FK, FK)] _ _ _ _ (x_numU l (at_ + 1) hl (by omega) g4) rfl rfl rfl ⟨rfl, trivial⟩ rfl
          · rename_i g4
            rw [if_neg g4]
            have ho := numR_only (l.drop (at_ + 1)) (by omega)
            rw [List.length_drop] at ho
            split at hv
            · rename_i g5
              rw [if_pos g5]
              (((conv => whnf); repeat ((first | with_reducible refine BCase.tt ?_ | with_reducible refine BCase.ff ?_); (conv => whnf))); repeat' (first | ((first | with_reducible refine Wr.u8 ?_ | ((first | with_reducible refine Wr.ci ?s ?_ | with_reducible refine Wr.c3 ?s ?_ | with_reducible refine Wr.c6 ?s ?_ | with_reducible refine BCase.dt ?s ?_); case s => (first | omega | (simp only [lens, true_and, and_true]; (try omega); done))) | (with_reducible refine BCase.df ?s ?_; case s => (first | omega | (simp only [lens, true_and, and_true]; (try omega); done))) | (with_reducible refine Need.mk ?s ?_; case s => first | (first | omega | (simp only [lens, true_and, and_true]; (try omega); done)) | decide | kernel_rfl) | refine BCase.t (by decide) ?_ | refine BCase.f (by decide) ?_); ((conv => whnf); repeat ((first | with_reducible refine BCase.tt ?_ | with_reducible refine BCase.ff ?_); (conv => whnf)))) | (( refine CallP.ret [(FK, FK)] _ _ _ _ _ _ _ (s_byte l at_ hl hlt) rfl rfl rfl rfl ⟨rfl, trivial⟩ ?_); ((conv => whnf); repeat ((first | with_reducible refine BCase.tt ?_ | with_reducible refine BCase.ff ?_); (conv => whnf)))) | (( refine CallP.ret [(FK, FK)] _ _ _ _ _ _ _ (s_numU l (at_ + 1) hl (by omega) (by omega)) rfl rfl rfl rfl ⟨rfl, trivial⟩ ?_); ((conv => whnf); repeat ((first | with_reducible refine BCase.tt ?_ | with_reducible refine BCase.ff ?_); (conv => whnf)))) | ((with_reducible refine EmpOr.app ?_); ((conv => whnf); repeat ((first | with_reducible refine BCase.tt ?_ | with_reducible refine BCase.ff ?_); (conv => whnf)))) | (first | with_reducible refine BCase.not ?_ | with_reducible refine BCase.and ?_ | with_reducible refine BCase.or ?_) | ((with_reducible refine BCase.d (fun _ => ?_) (fun _ => ?_)) <;> ((conv => whnf); repeat ((first | with_reducible refine BCase.tt ?_ | with_reducible refine BCase.ff ?_); (conv => whnf))))))
              all_goals exact CallP.pan [(FK, FK)] _ _ _ _ (x_fail l _ 2) rfl rfl rfl ⟨rfl, trivial⟩ rfl
            · rename_i g5
              rw [if_neg g5]
              split at hv
              · rename_i g6
                rw [if_pos g6]
                rw [List.length_drop] at g6
                (((conv => whnf); repeat ((first | with_reducible refine BCase.tt ?_ | with_reducible refine BCase.ff ?_); (conv => whnf))); repeat' (first | ((first | with_reducible refine Wr.u8 ?_ | ((first | with_reducible refine Wr.ci ?s ?_ | with_reducible refine Wr.c3 ?s ?_ | with_reducible refine Wr.c6 ?s ?_ | with_reducible refine BCase.dt ?s ?_); case s => (first | omega | (simp only [lens, true_and, and_true]; (try omega); done))) | (with_reducible refine BCase.df ?s ?_; case s => (first | omega | (simp only [lens, true_and, and_true]; (try omega); done))) | (with_reducible refine Need.mk ?s ?_; case s => first | (first | omega | (simp only [lens, true_and, and_true]; (try omega); done)) | decide | kernel_rfl) | refine BCase.t (by decide) ?_ | refine BCase.f (by decide) ?_); ((conv => whnf); repeat ((first | with_reducible refine BCase.tt ?_ | with_reducible refine BCase.ff ?_); (conv => whnf)))) | (( refine CallP.ret [(FK, FK)] _ _ _ _ _ _ _ (s_byte l at_ hl hlt) rfl rfl rfl rfl ⟨rfl, trivial⟩ ?_); ((conv => whnf); repeat ((first | with_reducible refine BCase.tt ?_ | with_reducible refine BCase.ff ?_); (conv => whnf)))) | (( refine CallP.ret [(FK, FK)] _ _ _ _ _ _ _ (s_numU l (at_ + 1) hl (by omega) (by omega)) rfl rfl rfl rfl ⟨rfl, trivial⟩ ?_); ((conv => whnf); repeat ((first | with_reducible refine BCase.tt ?_ | with_reducible refine BCase.ff ?_); (conv => whnf)))) | ((with_reducible refine EmpOr.app ?_); ((conv => whnf); repeat ((first | with_reducible refine BCase.tt ?_ | with_reducible refine BCase.ff ?_); (conv => whnf)))) | (first | with_reducible refine BCase.not ?_ | with_reducible refine BCase.and ?_ | with_reducible refine BCase.or ?_) | ((with_reducible refine BCase.d (fun _ => ?_) (fun _ => ?_)) <;> ((conv => whnf); repeat ((first | with_reducible refine BCase.tt ?_ | with_reducible refine BCase.ff ?_); (conv => whnf))))))
                all_goals exact CallP.pan [(FK, FK)] _ _ _ _ (x_fail l _ 5) rfl rfl rfl ⟨rfl, trivial⟩ rfl
              · exact absurd rfl hv
  · rw [vRd_end (by omega)]
    refine callX_of Try.func66 (by rfl) rfl (by kernel_rfl) (by rfl) [FK] rfl ?_
    (((conv => whnf); repeat ((first | with_reducible refine BCase.tt ?_ | with_reducible refine BCase.ff ?_); (conv => whnf))); repeat' (first | ((first | with_reducible refine Wr.u8 ?_ | ((first | with_reducible refine Wr.ci ?s ?_ | with_reducible refine Wr.c3 ?s ?_ | with_reducible refine Wr.c6 ?s ?_ | with_reducible refine BCase.dt ?s ?_); case s => (first | omega | (simp only [lens, true_and, and_true]; (try omega); done))) | (with_reducible refine BCase.df ?s ?_; case s => (first | omega | (simp only [lens, true_and, and_true]; (try omega); done))) | (with_reducible refine Need.mk ?s ?_; case s => first | (first | omega | (simp only [lens, true_and, and_true]; (try omega); done)) | decide | kernel_rfl) | refine BCase.t (by decide) ?_ | refine BCase.f (by decide) ?_); ((conv => whnf); repeat ((first | with_reducible refine BCase.tt ?_ | with_reducible refine BCase.ff ?_); (conv => whnf)))) | ((with_reducible refine EmpOr.app ?_); ((conv => whnf); repeat ((first | with_reducible refine BCase.tt ?_ | with_reducible refine BCase.ff ?_); (conv => whnf)))) | (first | with_reducible refine BCase.not ?_ | with_reducible refine BCase.and ?_ | with_reducible refine BCase.or ?_) | ((with_reducible refine BCase.d (fun _ => ?_) (fun _ => ?_)) <;> ((conv => whnf); repeat ((first | with_reducible refine BCase.tt ?_ | with_reducible refine BCase.ff ?_); (conv => whnf))))))
    exact CallP.pan [(FK, FK)] _ _ _ _ (x_byte l at_ hl (by omega)) rfl rfl rfl ⟨rfl, trivial⟩ rfl
end Go.Proofs.Ytcecopdkaalfkaa.Pm
