/- columns as texts, tables as rows -/
import Derived.Test.YtjpkacjmmclkeaaPdSch
import Derived.Test.YtjpkacjmmclkeaaPdEntry
namespace Go.Proofs.Ytjpkacjmmclkeaa.Pm
open Go.RowKit K
set_option linter.unusedVariables false
set_option linter.unusedSimpArgs false
set_option maxRecDepth 100000

def flagB (b : Bool) (c : UInt8) : UInt8 := if b then c else 45
def colH (c : ColumnD) : List UInt8 := [by1 (48 + c.Kind), flagB c.NotNull 110, flagB c.Unique 117]
def colT (c : ColumnD) : List UInt8 := colH c ++ c.Name
def colV (c : ColumnD) : ValueD := ⟨2, 0, colT c⟩
def kindOk (c : ColumnD) : Prop := 0 ≤ c.Kind ∧ c.Kind ≤ 3
def entOf (s : SchemaD) : EntryD := ⟨s.Id, ⟨2, 0, s.Name⟩ :: s.Cols.map colV⟩
abbrev eV (x : EntryD) : PV := .agg (x.c.map D.c)

theorem p_flag (b : Bool) (c : UInt8) : Pure Try.prog 41 [pBool b, pInt .u8 (c.toNat : Int)] (pInt .u8 ((flagB b c).toNat : Int)) := by
  refine pure_of Try.func41 (by rfl) rfl (by kernel_rfl) (by rfl) ?_
  unfold flagB
  cases b
  · (((conv => whnf); repeat ((first | with_reducible refine BCase.tt ?_ | with_reducible refine BCase.ff ?_); (conv => whnf))); repeat' (first | ((first | with_reducible refine Wr.u8 ?_ | ((first | with_reducible refine Wr.ci ?s ?_ | with_reducible refine Wr.c3 ?s ?_ | with_reducible refine Wr.c6 ?s ?_ | with_reducible refine BCase.dt ?s ?_); case s => (first | omega | (simp only [lens, true_and, and_true]; (try omega); done))) | (with_reducible refine BCase.df ?s ?_; case s => (first | omega | (simp only [lens, true_and, and_true]; (try omega); done))) | (with_reducible refine Need.mk ?s ?_; case s => first | (first | omega | (simp only [lens, true_and, and_true]; (try omega); done)) | decide | kernel_rfl) | refine BCase.t (by decide) ?_ | refine BCase.f (by decide) ?_); ((conv => whnf); repeat ((first | with_reducible refine BCase.tt ?_ | with_reducible refine BCase.ff ?_); (conv => whnf)))) | ((with_reducible refine EmpOr.app ?_); ((conv => whnf); repeat ((first | with_reducible refine BCase.tt ?_ | with_reducible refine BCase.ff ?_); (conv => whnf)))) | (first | with_reducible refine BCase.not ?_ | with_reducible refine BCase.and ?_ | with_reducible refine BCase.or ?_) | ((with_reducible refine BCase.d (fun _ => ?_) (fun _ => ?_)) <;> ((conv => whnf); repeat ((first | with_reducible refine BCase.tt ?_ | with_reducible refine BCase.ff ?_); (conv => whnf))))))
    exact Ret.mk rfl
  · (((conv => whnf); repeat ((first | with_reducible refine BCase.tt ?_ | with_reducible refine BCase.ff ?_); (conv => whnf))); repeat' (first | ((first | with_reducible refine Wr.u8 ?_ | ((first | with_reducible refine Wr.ci ?s ?_ | with_reducible refine Wr.c3 ?s ?_ | with_reducible refine Wr.c6 ?s ?_ | with_reducible refine BCase.dt ?s ?_); case s => (first | omega | (simp only [lens, true_and, and_true]; (try omega); done))) | (with_reducible refine BCase.df ?s ?_; case s => (first | omega | (simp only [lens, true_and, and_true]; (try omega); done))) | (with_reducible refine Need.mk ?s ?_; case s => first | (first | omega | (simp only [lens, true_and, and_true]; (try omega); done)) | decide | kernel_rfl) | refine BCase.t (by decide) ?_ | refine BCase.f (by decide) ?_); ((conv => whnf); repeat ((first | with_reducible refine BCase.tt ?_ | with_reducible refine BCase.ff ?_); (conv => whnf)))) | ((with_reducible refine EmpOr.app ?_); ((conv => whnf); repeat ((first | with_reducible refine BCase.tt ?_ | with_reducible refine BCase.ff ?_); (conv => whnf)))) | (first | with_reducible refine BCase.not ?_ | with_reducible refine BCase.and ?_ | with_reducible refine BCase.or ?_) | ((with_reducible refine BCase.d (fun _ => ?_) (fun _ => ?_)) <;> ((conv => whnf); repeat ((first | with_reducible refine BCase.tt ?_ | with_reducible refine BCase.ff ?_); (conv => whnf))))))
    exact Ret.mk rfl
theorem p_column (c : ColumnD) (hk : kindOk c) (hn : okText c.Name) : Pure Try.prog 19 [cV c] (vV (colV c)) := by
  have hk := hk
  unfold kindOk at hk
  have hn := hn
  unfold okText at hn
  have tz := tx_size c.Name
  refine pure_of Try.func19 (by rfl) rfl (by kernel_rfl) (by rfl) ?_
  (((conv => whnf); repeat ((first | with_reducible refine BCase.tt ?_ | with_reducible refine BCase.ff ?_); (conv => whnf))); repeat' (first | ((first | with_reducible refine Wr.u8 ?_ | ((first | with_reducible refine Wr.ci ?s ?_ | with_reducible refine Wr.c3 ?s ?_ | with_reducible refine Wr.c6 ?s ?_ | with_reducible refine BCase.dt ?s ?_); case s => (first | omega | (simp only [lens, true_and, and_true]; (try omega); done))) | (with_reducible refine BCase.df ?s ?_; case s => (first | omega | (simp only [lens, true_and, and_true]; (try omega); done))) | (with_reducible refine Need.mk ?s ?_; case s => first | (first | omega | (simp only [lens, true_and, and_true]; (try omega); done)) | decide | kernel_rfl) | refine BCase.t (by decide) ?_ | refine BCase.f (by decide) ?_); ((conv => whnf); repeat ((first | with_reducible refine BCase.tt ?_ | with_reducible refine BCase.ff ?_); (conv => whnf)))) | ((refine CallP.pure _ rfl _ (p_flag c.NotNull 110) ?_); ((conv => whnf); repeat ((first | with_reducible refine BCase.tt ?_ | with_reducible refine BCase.ff ?_); (conv => whnf)))) | ((refine CallP.pure _ rfl _ (p_flag c.Unique 117) ?_); ((conv => whnf); repeat ((first | with_reducible refine BCase.tt ?_ | with_reducible refine BCase.ff ?_); (conv => whnf)))) | ((with_reducible refine EmpOr.app ?_); ((conv => whnf); repeat ((first | with_reducible refine BCase.tt ?_ | with_reducible refine BCase.ff ?_); (conv => whnf)))) | (first | with_reducible refine BCase.not ?_ | with_reducible refine BCase.and ?_ | with_reducible refine BCase.or ?_) | ((with_reducible refine BCase.d (fun _ => ?_) (fun _ => ?_)) <;> ((conv => whnf); repeat ((first | with_reducible refine BCase.tt ?_ | with_reducible refine BCase.ff ?_); (conv => whnf))))))
  refine Bytes.of (l := colH c) rfl ?_
  ((conv => whnf); repeat ((first | with_reducible refine BCase.tt ?_ | with_reducible refine BCase.ff ?_); (conv => whnf)))
  refine Need.mk (by show 3 + c.Name.length ≤ _; omega) ?_
  ((conv => whnf); repeat ((first | with_reducible refine BCase.tt ?_ | with_reducible refine BCase.ff ?_); (conv => whnf)))
  refine Ret.mk ?_
  show PV.agg [_, _, D.c (C.v (.string (tx (colH c) ++ tx c.Name)))] = _
  rw [tx_append]; rfl
def unC (v : ValueD) : ColumnD := ⟨v.S.drop 3, ((v.S.getD 0 0).toNat : Int) - 48, decide (v.S.getD 1 0 = 110), decide (v.S.getD 2 0 = 117)⟩
def unShort (v : ValueD) : Prop := v.Kind ≠ 2 ∨ v.S.length < 3
def unB (v : ValueD) : Bool := decide (v.Kind = 2) && (decide (3 ≤ v.S.length) && (decide (0 ≤ (unC v).Kind) && (decide ((unC v).Kind ≤ 3) && ValueD.eqB (colV (unC v)) v)))
def unR (v : ValueD) : ColumnD := if v.Kind ≠ 2 ∨ v.S.length < 3 then ⟨[], 0, false, false⟩ else unC v
theorem tup2 {a b : PV} {x y : Bool} (h : a = b) (k : x = y) : PV.tup [a, pBool x] = PV.tup [b, pBool y] := by rw [h, k]
theorem u8_dec (a b : UInt8) : decide ((a.toNat : Int) = (b.toNat : Int)) = decide (a = b) := by
  by_cases h : a = b
  · simp [h]
  · rw [decide_eq_false h, decide_eq_false fun e => h (u8_eq.1 e)]
theorem p_uncolumn (v : ValueD) (hv : okText v.S) : Pure Try.prog 44 [vV v] (.tup [cV (unR v), pBool (unB v)]) := by
  have hn := hv
  unfold okText at hn
  have tz := tx_size v.S
  refine pure_of Try.func44 (by rfl) rfl (by kernel_rfl) (by rfl) ?_
  by_cases h : v.Kind ≠ 2 ∨ v.S.length < 3
  · have e1 : unR v = ⟨[], 0, false, false⟩ := if_pos h
    have e2 : unB v = false := by
      unfold unB
      rcases h with h | h
      · rw [decide_eq_false h]; rfl
      · rw [decide_eq_false (show ¬ 3 ≤ v.S.length by omega)]; simp
    rw [e1, e2]
    (((conv => whnf); repeat ((first | with_reducible refine BCase.tt ?_ | with_reducible refine BCase.ff ?_); (conv => whnf))); repeat' (first | ((first | with_reducible refine Wr.u8 ?_ | ((first | with_reducible refine Wr.ci ?s ?_ | with_reducible refine Wr.c3 ?s ?_ | with_reducible refine Wr.c6 ?s ?_ | with_reducible refine BCase.dt ?s ?_); case s => (first | omega | (simp only [lens, true_and, and_true]; (try omega); done))) | (with_reducible refine BCase.df ?s ?_; case s => (first | omega | (simp only [lens, true_and, and_true]; (try omega); done))) | (with_reducible refine Need.mk ?s ?_; case s => first | (first | omega | (simp only [lens, true_and, and_true]; (try omega); done)) | decide | kernel_rfl) | refine BCase.t (by decide) ?_ | refine BCase.f (by decide) ?_); ((conv => whnf); repeat ((first | with_reducible refine BCase.tt ?_ | with_reducible refine BCase.ff ?_); (conv => whnf)))) | ((with_reducible refine EmpOr.app ?_); ((conv => whnf); repeat ((first | with_reducible refine BCase.tt ?_ | with_reducible refine BCase.ff ?_); (conv => whnf)))) | (first | with_reducible refine BCase.not ?_ | with_reducible refine BCase.and ?_ | with_reducible refine BCase.or ?_) | ((with_reducible refine BCase.d (fun _ => ?_) (fun _ => ?_)) <;> ((conv => whnf); repeat ((first | with_reducible refine BCase.tt ?_ | with_reducible refine BCase.ff ?_); (conv => whnf))))))
    all_goals exact Ret.mk rfl
  · have e1 : unR v = unC v := if_neg h
    have h2 : v.Kind = 2 := by omega
    have h3 : ¬ v.S.length < 3 := by omega
    have e2 : unB v = (decide (0 ≤ (unC v).Kind) && (decide ((unC v).Kind ≤ 3) && ValueD.eqB (colV (unC v)) v)) := by
      unfold unB; rw [decide_eq_true h2, decide_eq_true (show 3 ≤ v.S.length by omega)]; rfl
    rw [e1, e2]
    have d0 := u8_lt (v.S.getD 0 0)
    have e3 : (tx v.S).extract (3 : Int).toNat (v.S.length : Int).toNat = tx (v.S.drop 3) := by
      rw [extract_tx, Int.toNat_natCast]
      exact congrArg tx (List.take_of_length_le (by rw [List.length_drop]; exact Nat.le_refl _))
    have d1 : decide (((v.S.getD 1 0).toNat : Int) = 110) = decide (v.S.getD 1 0 = 110) := u8_dec (v.S.getD 1 0) 110
    have d2 : decide (((v.S.getD 2 0).toNat : Int) = 117) = decide (v.S.getD 2 0 = 117) := u8_dec (v.S.getD 2 0) 117
    have ec : PV.agg [D.c (C.v (.string ((tx v.S).extract (3 : Int).toNat (v.S.length : Int).toNat))), D.c (C.v (.int .i64 (((v.S.getD 0 0).toNat : Int) - 48))), D.c (C.v (.bool (decide (((v.S.getD 1 0).toNat : Int) = 110)))), D.c (C.v (.bool (decide (((v.S.getD 2 0).toNat : Int) = 117))))] = cV (unC v) := by
      rw [e3, d1, d2]; rfl
    by_cases hk : 0 ≤ (unC v).Kind ∧ (unC v).Kind ≤ 3
    · have hk' : 0 ≤ ((v.S.getD 0 0).toNat : Int) - 48 ∧ ((v.S.getD 0 0).toNat : Int) - 48 ≤ 3 := hk
      have pc := (p_column (unC v) hk (by unfold okText unC; simp only [List.length_drop]; omega)).to (args' := [PV.agg [D.c (C.v (.string ((tx v.S).extract (3 : Int).toNat (v.S.length : Int).toNat))), D.c (C.v (.int .i64 (((v.S.getD 0 0).toNat : Int) - 48))), D.c (C.v (.bool (decide (((v.S.getD 1 0).toNat : Int) = 110)))), D.c (C.v (.bool (decide (((v.S.getD 2 0).toNat : Int) = 117))))]]) (by rw [ec]) rfl
      (((conv => whnf); repeat ((first | with_reducible refine BCase.tt ?_ | with_reducible refine BCase.ff ?_); (conv => whnf))); repeat' (first | ((first | with_reducible refine Wr.u8 ?_ | ((first | with_reducible refine Wr.ci ?s ?_ | with_reducible refine Wr.c3 ?s ?_ | with_reducible refine Wr.c6 ?s ?_ | with_reducible refine BCase.dt ?s ?_); case s => (first | omega | (simp only [lens, true_and, and_true]; (try omega); done))) | (with_reducible refine BCase.df ?s ?_; case s => (first | omega | (simp only [lens, true_and, and_true]; (try omega); done))) | (with_reducible refine Need.mk ?s ?_; case s => first | (first | omega | (simp only [lens, true_and, and_true]; (try omega); done)) | decide | kernel_rfl) | refine BCase.t (by decide) ?_ | refine BCase.f (by decide) ?_); ((conv => whnf); repeat ((first | with_reducible refine BCase.tt ?_ | with_reducible refine BCase.ff ?_); (conv => whnf)))) | (( refine SIdx.tx 0 rfl (by omega) ?_); ((conv => whnf); repeat ((first | with_reducible refine BCase.tt ?_ | with_reducible refine BCase.ff ?_); (conv => whnf)))) | (( refine SIdx.tx 1 rfl (by omega) ?_); ((conv => whnf); repeat ((first | with_reducible refine BCase.tt ?_ | with_reducible refine BCase.ff ?_); (conv => whnf)))) | (( refine SIdx.tx 2 rfl (by omega) ?_); ((conv => whnf); repeat ((first | with_reducible refine BCase.tt ?_ | with_reducible refine BCase.ff ?_); (conv => whnf)))) | ((refine CallP.pure _ rfl _ (pc) ?_); ((conv => whnf); repeat ((first | with_reducible refine BCase.tt ?_ | with_reducible refine BCase.ff ?_); (conv => whnf)))) | ((with_reducible refine EmpOr.app ?_); ((conv => whnf); repeat ((first | with_reducible refine BCase.tt ?_ | with_reducible refine BCase.ff ?_); (conv => whnf)))) | (first | with_reducible refine BCase.not ?_ | with_reducible refine BCase.and ?_ | with_reducible refine BCase.or ?_) | ((with_reducible refine BCase.d (fun _ => ?_) (fun _ => ?_)) <;> ((conv => whnf); repeat ((first | with_reducible refine BCase.tt ?_ | with_reducible refine BCase.ff ?_); (conv => whnf))))))
      all_goals exact Ret.mk (tup2 ec (by rw [decide_eq_true hk.1, decide_eq_true hk.2]; rfl))
    · have hk' : ¬ (0 ≤ ((v.S.getD 0 0).toNat : Int) - 48 ∧ ((v.S.getD 0 0).toNat : Int) - 48 ≤ 3) := hk
      (((conv => whnf); repeat ((first | with_reducible refine BCase.tt ?_ | with_reducible refine BCase.ff ?_); (conv => whnf))); repeat' (first | ((first | with_reducible refine Wr.u8 ?_ | ((first | with_reducible refine Wr.ci ?s ?_ | with_reducible refine Wr.c3 ?s ?_ | with_reducible refine Wr.c6 ?s ?_ | with_reducible refine BCase.dt ?s ?_); case s => (first | omega | (simp only [lens, true_and, and_true]; (try omega); done))) | (with_reducible refine BCase.df ?s ?_; case s => (first | omega | (simp only [lens, true_and, and_true]; (try omega); done))) | (with_reducible refine Need.mk ?s ?_; case s => first | (first | omega | (simp only [lens, true_and, and_true]; (try omega); done)) | decide | kernel_rfl) | refine BCase.t (by decide) ?_ | refine BCase.f (by decide) ?_); ((conv => whnf); repeat ((first | with_reducible refine BCase.tt ?_ | with_reducible refine BCase.ff ?_); (conv => whnf)))) | (( refine SIdx.tx 0 rfl (by omega) ?_); ((conv => whnf); repeat ((first | with_reducible refine BCase.tt ?_ | with_reducible refine BCase.ff ?_); (conv => whnf)))) | (( refine SIdx.tx 1 rfl (by omega) ?_); ((conv => whnf); repeat ((first | with_reducible refine BCase.tt ?_ | with_reducible refine BCase.ff ?_); (conv => whnf)))) | (( refine SIdx.tx 2 rfl (by omega) ?_); ((conv => whnf); repeat ((first | with_reducible refine BCase.tt ?_ | with_reducible refine BCase.ff ?_); (conv => whnf)))) | ((with_reducible refine EmpOr.app ?_); ((conv => whnf); repeat ((first | with_reducible refine BCase.tt ?_ | with_reducible refine BCase.ff ?_); (conv => whnf)))) | (first | with_reducible refine BCase.not ?_ | with_reducible refine BCase.and ?_ | with_reducible refine BCase.or ?_) | ((with_reducible refine BCase.d (fun _ => ?_) (fun _ => ?_)) <;> ((conv => whnf); repeat ((first | with_reducible refine BCase.tt ?_ | with_reducible refine BCase.ff ?_); (conv => whnf))))))
      all_goals
        refine Ret.mk (tup2 ec ?_)
        rcases Classical.not_and_iff_not_or_not.1 hk with hk | hk
        · rw [decide_eq_false hk]; rfl
        · rw [decide_eq_false hk, Bool.false_and, Bool.and_false]
end Go.Proofs.Ytjpkacjmmclkeaa.Pm
