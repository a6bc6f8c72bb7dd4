/- journal: Undo, and the reference's -/
import Derived.Test.YtohlkegmmbdlaaaPjPlay2
namespace Go.Proofs.Ytohlkegmmbdlaaa.Pm
open Go.RowKit K DiskP
set_option linter.unusedVariables false
set_option linter.unusedSimpArgs false
set_option maxRecDepth 100000

def recL : List UInt8 → Option Opr
  | a :: b :: r => if a.toNat = 0 ∧ b.toNat < 32 then some (1, (b.toNat : Int), tx r) else none
  | _ => none
def recR (p : ByteArray) : Option Opr := recL p.data.toList
theorem recL_two (a b : UInt8) (r : List UInt8) : recL (a :: b :: r) = if a.toNat = 0 ∧ b.toNat < 32 then some (1, (b.toNat : Int), tx r) else none := rfl
theorem recR_tx (l : List UInt8) : recR (tx l) = recL l := rfl
/-- what the records from i on say, n of them -/
def undoL (f : Nat → ByteArray) : Nat → Nat → Option (List Opr)
  | _, 0 => some []
  | i, n + 1 => match recR (f i) with
    | none => none
    | some o => (undoL f (i + 1) n).map fun r => o :: r
theorem undoL_succ (f : Nat → ByteArray) (i n : Nat) : undoL f i (n + 1) = match recR (f i) with
    | none => none
    | some o => (undoL f (i + 1) n).map fun r => o :: r := rfl
def headN (p : ByteArray) : Option Nat := match p.data.toList with
  | [_, b] => if b.toNat ≤ 31 then some b.toNat else none
  | _ => none
def undoR (s : Str) : List Opr × Int :=
  if storeChk s ≠ 0 then ([], storeChk s) else if waitsR s = true then ([], 4) else if hotR s = false then ([], 0) else
  match headN (pageAt s.2.1 0) with
  | none => ([], 1)
  | some n => match undoL (fun i => pageAt s.2.1 (i : Int)) 1 n with
    | none => ([], 1)
    | some l => (l ++ endO, 0)
theorem extract_from (l : List UInt8) (k : Nat) : (tx l).extract k (tx l).size = tx (l.drop k) := by
  rw [extract_tx, tx_size, List.take_of_length_le (by rw [List.length_drop]; exact Nat.le_refl _)]
theorem p_record (l : List UInt8) (hl : l.length ≤ 1000) : ∃ no old, Pure Try.prog 47 [pStr (tx l)] (.tup [pInt .i64 no, pStr old, pBool (recL l).isSome]) ∧ ∀ o, recL l = some o → o = (1, no, old) := by
  have tz := tx_size l
  match l, hl, tz with
  | [], hl, tz =>
    refine ⟨0, ⟨#[]⟩, ?_, fun o ho => by cases ho⟩
    refine pure_of Try.func47 (by rfl) rfl (by kernel_rfl) (by rfl) ?_
    (((conv => whnf); repeat ((first | with_reducible refine BCase.tt ?_ | with_reducible refine BCase.ff ?_); (conv => whnf))); repeat' (first | ((first | with_reducible refine Wr.u8 ?_ | ((first | with_reducible refine Wr.ci ?wxs ?_ | with_reducible refine Wr.c3 ?wxs ?_ | with_reducible refine Wr.c6 ?wxs ?_ | with_reducible refine BCase.dt ?wxs ?_); case wxs => (first | omega | (simp only [lens, true_and, and_true]; (try omega); done))) | (with_reducible refine BCase.df ?wxs ?_; case wxs => (first | omega | (simp only [lens, true_and, and_true]; (try omega); done))) | (with_reducible refine Need.mk ?wxs ?_; case wxs => first | (first | omega | (simp only [lens, true_and, and_true]; (try omega); done)) | decide | kernel_rfl) | refine BCase.t (by decide) ?_ | refine BCase.f (by decide) ?_); ((conv => whnf); repeat ((first | with_reducible refine BCase.tt ?_ | with_reducible refine BCase.ff ?_); (conv => whnf)))) | ((with_reducible refine EmpOr.app ?_); ((conv => whnf); repeat ((first | with_reducible refine BCase.tt ?_ | with_reducible refine BCase.ff ?_); (conv => whnf)))) | (first | with_reducible refine BCase.not ?_ | with_reducible refine BCase.and ?_ | with_reducible refine BCase.or ?_) | ((with_reducible refine BCase.d (fun _ => ?_) (fun _ => ?_)) <;> ((conv => whnf); repeat ((first | with_reducible refine BCase.tt ?_ | with_reducible refine BCase.ff ?_); (conv => whnf))))))
    exact Ret.mk rfl
  | [a], hl, tz =>
    refine ⟨0, ⟨#[]⟩, ?_, fun o ho => by cases ho⟩
    rw [List.length_singleton] at tz
    refine pure_of Try.func47 (by rfl) rfl (by kernel_rfl) (by rfl) ?_
    (((conv => whnf); repeat ((first | with_reducible refine BCase.tt ?_ | with_reducible refine BCase.ff ?_); (conv => whnf))); repeat' (first | ((first | with_reducible refine Wr.u8 ?_ | ((first | with_reducible refine Wr.ci ?wxs ?_ | with_reducible refine Wr.c3 ?wxs ?_ | with_reducible refine Wr.c6 ?wxs ?_ | with_reducible refine BCase.dt ?wxs ?_); case wxs => (first | omega | (simp only [lens, true_and, and_true]; (try omega); done))) | (with_reducible refine BCase.df ?wxs ?_; case wxs => (first | omega | (simp only [lens, true_and, and_true]; (try omega); done))) | (with_reducible refine Need.mk ?wxs ?_; case wxs => first | (first | omega | (simp only [lens, true_and, and_true]; (try omega); done)) | decide | kernel_rfl) | refine BCase.t (by decide) ?_ | refine BCase.f (by decide) ?_); ((conv => whnf); repeat ((first | with_reducible refine BCase.tt ?_ | with_reducible refine BCase.ff ?_); (conv => whnf)))) | ((with_reducible refine EmpOr.app ?_); ((conv => whnf); repeat ((first | with_reducible refine BCase.tt ?_ | with_reducible refine BCase.ff ?_); (conv => whnf)))) | (first | with_reducible refine BCase.not ?_ | with_reducible refine BCase.and ?_ | with_reducible refine BCase.or ?_) | ((with_reducible refine BCase.d (fun _ => ?_) (fun _ => ?_)) <;> ((conv => whnf); repeat ((first | with_reducible refine BCase.tt ?_ | with_reducible refine BCase.ff ?_); (conv => whnf))))))
    exact Ret.mk rfl
  | a :: b :: r, hl, tz =>
    rw [List.length_cons, List.length_cons] at tz
    have ha := a.toNat_lt
    have hb := b.toNat_lt
    refine ⟨(a.toNat : Int) * 256 + b.toNat, tx r, ?_, fun o ho => ?_⟩
    · refine pure_of Try.func47 (by rfl) rfl (by kernel_rfl) (by rfl) ?_
      (((conv => whnf); repeat ((first | with_reducible refine BCase.tt ?_ | with_reducible refine BCase.ff ?_); (conv => whnf))); repeat ((first | (first | with_reducible refine Wr.u8 ?_ | ((first | with_reducible refine Wr.ci ?wxs ?_ | with_reducible refine Wr.c3 ?wxs ?_ | with_reducible refine Wr.c6 ?wxs ?_ | with_reducible refine BCase.dt ?wxs ?_); case wxs => (first | omega | (simp only [lens, true_and, and_true]; (try omega); done))) | (with_reducible refine BCase.df ?wxs ?_; case wxs => (first | omega | (simp only [lens, true_and, and_true]; (try omega); done))) | (with_reducible refine Need.mk ?wxs ?_; case wxs => first | (first | omega | (simp only [lens, true_and, and_true]; (try omega); done)) | decide | kernel_rfl) | refine BCase.t (by decide) ?_ | refine BCase.f (by decide) ?_) | (first | with_reducible refine BCase.not ?_ | with_reducible refine BCase.and ?_ | with_reducible refine BCase.or ?_)); ((conv => whnf); repeat ((first | with_reducible refine BCase.tt ?_ | with_reducible refine BCase.ff ?_); (conv => whnf)))))
      refine SIdx.mk a (by decide) rfl ?_
      (((conv => whnf); repeat ((first | with_reducible refine BCase.tt ?_ | with_reducible refine BCase.ff ?_); (conv => whnf))); repeat ((first | (first | with_reducible refine Wr.u8 ?_ | ((first | with_reducible refine Wr.ci ?wxs ?_ | with_reducible refine Wr.c3 ?wxs ?_ | with_reducible refine Wr.c6 ?wxs ?_ | with_reducible refine BCase.dt ?wxs ?_); case wxs => (first | omega | (simp only [lens, true_and, and_true]; (try omega); done))) | (with_reducible refine BCase.df ?wxs ?_; case wxs => (first | omega | (simp only [lens, true_and, and_true]; (try omega); done))) | (with_reducible refine Need.mk ?wxs ?_; case wxs => first | (first | omega | (simp only [lens, true_and, and_true]; (try omega); done)) | decide | kernel_rfl) | refine BCase.t (by decide) ?_ | refine BCase.f (by decide) ?_) | (first | with_reducible refine BCase.not ?_ | with_reducible refine BCase.and ?_ | with_reducible refine BCase.or ?_)); ((conv => whnf); repeat ((first | with_reducible refine BCase.tt ?_ | with_reducible refine BCase.ff ?_); (conv => whnf)))))
      refine Wr.i64 (by show _ ≤ _ * 256; omega) (by show _ * 256 ≤ _; omega) ?_
      (((conv => whnf); repeat ((first | with_reducible refine BCase.tt ?_ | with_reducible refine BCase.ff ?_); (conv => whnf))); repeat ((first | (first | with_reducible refine Wr.u8 ?_ | ((first | with_reducible refine Wr.ci ?wxs ?_ | with_reducible refine Wr.c3 ?wxs ?_ | with_reducible refine Wr.c6 ?wxs ?_ | with_reducible refine BCase.dt ?wxs ?_); case wxs => (first | omega | (simp only [lens, true_and, and_true]; (try omega); done))) | (with_reducible refine BCase.df ?wxs ?_; case wxs => (first | omega | (simp only [lens, true_and, and_true]; (try omega); done))) | (with_reducible refine Need.mk ?wxs ?_; case wxs => first | (first | omega | (simp only [lens, true_and, and_true]; (try omega); done)) | decide | kernel_rfl) | refine BCase.t (by decide) ?_ | refine BCase.f (by decide) ?_) | (first | with_reducible refine BCase.not ?_ | with_reducible refine BCase.and ?_ | with_reducible refine BCase.or ?_)); ((conv => whnf); repeat ((first | with_reducible refine BCase.tt ?_ | with_reducible refine BCase.ff ?_); (conv => whnf)))))
      refine SIdx.mk b (by decide) rfl ?_
      (((conv => whnf); repeat ((first | with_reducible refine BCase.tt ?_ | with_reducible refine BCase.ff ?_); (conv => whnf))); repeat ((first | (first | with_reducible refine Wr.u8 ?_ | ((first | with_reducible refine Wr.ci ?wxs ?_ | with_reducible refine Wr.c3 ?wxs ?_ | with_reducible refine Wr.c6 ?wxs ?_ | with_reducible refine BCase.dt ?wxs ?_); case wxs => (first | omega | (simp only [lens, true_and, and_true]; (try omega); done))) | (with_reducible refine BCase.df ?wxs ?_; case wxs => (first | omega | (simp only [lens, true_and, and_true]; (try omega); done))) | (with_reducible refine Need.mk ?wxs ?_; case wxs => first | (first | omega | (simp only [lens, true_and, and_true]; (try omega); done)) | decide | kernel_rfl) | refine BCase.t (by decide) ?_ | refine BCase.f (by decide) ?_) | (first | with_reducible refine BCase.not ?_ | with_reducible refine BCase.and ?_ | with_reducible refine BCase.or ?_)); ((conv => whnf); repeat ((first | with_reducible refine BCase.tt ?_ | with_reducible refine BCase.ff ?_); (conv => whnf)))))
      rw [show ((BitVec.ofInt IntKind.i64.bits (a.toNat * 2 ^ min (8 : Int).toNat IntKind.i64.bits) ||| BitVec.ofInt IntKind.i64.bits b.toNat).toNat : Int) = _ from or_byte a b]
      (((conv => whnf); repeat ((first | with_reducible refine BCase.tt ?_ | with_reducible refine BCase.ff ?_); (conv => whnf))); repeat ((first | (first | with_reducible refine Wr.u8 ?_ | ((first | with_reducible refine Wr.ci ?wxs ?_ | with_reducible refine Wr.c3 ?wxs ?_ | with_reducible refine Wr.c6 ?wxs ?_ | with_reducible refine BCase.dt ?wxs ?_); case wxs => (first | omega | (simp only [lens, true_and, and_true]; (try omega); done))) | (with_reducible refine BCase.df ?wxs ?_; case wxs => (first | omega | (simp only [lens, true_and, and_true]; (try omega); done))) | (with_reducible refine Need.mk ?wxs ?_; case wxs => first | (first | omega | (simp only [lens, true_and, and_true]; (try omega); done)) | decide | kernel_rfl) | refine BCase.t (by decide) ?_ | refine BCase.f (by decide) ?_) | (first | with_reducible refine BCase.not ?_ | with_reducible refine BCase.and ?_ | with_reducible refine BCase.or ?_)); ((conv => whnf); repeat ((first | with_reducible refine BCase.tt ?_ | with_reducible refine BCase.ff ?_); (conv => whnf)))))
      refine Ret.eq ?_
      have e1 : (tx (a :: b :: r)).extract (2 : Int).toNat ((tx (a :: b :: r)).size : Int).toNat = tx r := by
        rw [Int.toNat_natCast]
        show (tx (a :: b :: r)).extract 2 _ = _
        rw [extract_from]; rfl
      rw [e1]
      have e2 : (recL (a :: b :: r)).isSome = decide ((a.toNat : Int) * 256 + b.toNat < 32) := by
        rw [recL_two]
        by_cases h : a.toNat = 0 ∧ b.toNat < 32
        · rw [if_pos h]
          exact (decide_eq_true (by omega)).symm
        · rw [if_neg h]
          exact (decide_eq_false (by omega)).symm
      rw [e2]
    · rw [recL_two] at ho
      by_cases h : a.toNat = 0 ∧ b.toNat < 32
      · rw [if_pos h] at ho
        cases ho
        rw [h.1]; simp
      · rw [if_neg h] at ho; cases ho
theorem hot_head {s : Str} (h : storeChk s = 0) (hw : waitsR s = false) : hotR s = isJ (pageAt s.2.1 0) ∧ s.1.2 = [] ∧ s.2.2 = [] := by
  unfold waitsR at hw
  have := of_decide_eq_false hw
  have e1 : s.1.2 = [] := List.eq_nil_of_length_eq_zero (by omega)
  have e2 : s.2.2 = [] := List.eq_nil_of_length_eq_zero (by omega)
  refine ⟨?_, e1, e2⟩
  unfold hotR
  rw [e2]; rfl
theorem undoL_len (f : Nat → ByteArray) : ∀ (n i : Nat) (l : List Opr), undoL f i n = some l → l.length = n
  | 0, i, l, h => by cases h; rfl
  | n + 1, i, l, h => by
    rw [undoL_succ] at h
    split at h
    · cases h
    · rename_i o ho
      cases hq : undoL f (i + 1) n with
      | none => rw [hq] at h; cases h
      | some r =>
        rw [hq] at h
        cases h
        rw [List.length_cons, undoL_len f n (i + 1) r hq]
theorem pageAt_size {p : List ByteArray} (h : p.any tooLong = false) (n : Int) : (pageAt p n).size ≤ 260 := by
  rcases pageAt_mem p n with e | e
  · rw [e]; decide
  · have := List.any_eq_false.1 h _ e
    unfold tooLong at this
    simpa using this
/-- what is known of the records read so far -/
def UndoI (s : Str) (n k : Nat) (l : List Opr) : Prop :=
  undoL (fun i => pageAt s.2.1 (i : Int)) 1 n = (undoL (fun i => pageAt s.2.1 (i : Int)) (k + 1) (n - k)).map fun r => l ++ r
theorem UndoI.next {s : Str} {n k : Nat} {l : List Opr} {o : Opr} (h : UndoI s n k l) (hk : k < n) (ho : recR (pageAt s.2.1 ((k + 1 : Nat) : Int)) = some o) : UndoI s n (k + 1) (l ++ [o]) := by
  unfold UndoI at h ⊢
  rw [h, show n - k = (n - (k + 1)) + 1 by omega, undoL_succ]
  simp only [ho]
  rw [Option.map_map]
  congr 1
  funext r
  simp
theorem UndoI.bad {s : Str} {n k : Nat} {l : List Opr} (h : UndoI s n k l) (hk : k < n) (ho : recR (pageAt s.2.1 ((k + 1 : Nat) : Int)) = none) : undoL (fun i => pageAt s.2.1 (i : Int)) 1 n = none := by
  unfold UndoI at h
  rw [h, show n - k = (n - (k + 1)) + 1 by omega, undoL_succ]
  simp only [ho]; rfl
theorem UndoI.done {s : Str} {n : Nat} {l : List Opr} (h : UndoI s n n l) : undoL (fun i => pageAt s.2.1 (i : Int)) 1 n = some l := by
  unfold UndoI at h
  rw [h, Nat.sub_self]
  show some (l ++ []) = _
  rw [List.append_nil]
theorem headN_two (a b : UInt8) : headN (tx [a, b]) = if b.toNat ≤ 31 then some b.toNat else none := rfl
theorem p_undo (s : Str) (h1 : s.1.2.length ≤ 140737488355328) (h2 : s.2.2.length ≤ 140737488355328) : Pure Try.prog 20 [stV s] (.tup [.d (.c (opsC (undoR s).1)), pInt .i64 (undoR s).2]) := by
  have pc := p_scheck s
  have pw := p_waits s h1 h2
  have ph := p_hot s
  have bad : ∀ e, undoR s = ([], e) → Ret (.tup [.d (.c (.v (.slice none 0 0))), pInt .i64 e]) (.tup [.d (.c (opsC (undoR s).1)), pInt .i64 (undoR s).2]) := by
    intro e he
    rw [he]
    exact Ret.le ⟨.inr ⟨⟨3, rfl⟩, .inl rfl⟩, .inl rfl, rfl⟩
  refine pure_of Try.func20 (by rfl) rfl (by kernel_rfl) (by rfl) ?_
  by_cases h : storeChk s = 0
  · have hR : undoR s = if waitsR s = true then ([], 4) else if hotR s = false then ([], 0) else _ := if_neg (not_not_intro h)
    rw [h] at pc
    rw [hot_eq h] at ph
    cases hw : waitsR s with
    | true =>
      rw [hw, if_pos rfl] at hR
      rw [hw] at pw
      (((conv => whnf); repeat ((first | with_reducible refine BCase.tt ?_ | with_reducible refine BCase.ff ?_); (conv => whnf))); repeat' (first | ((first | with_reducible refine Wr.u8 ?_ | ((first | with_reducible refine Wr.ci ?wxs ?_ | with_reducible refine Wr.c3 ?wxs ?_ | with_reducible refine Wr.c6 ?wxs ?_ | with_reducible refine BCase.dt ?wxs ?_); case wxs => (first | omega | (simp only [lens, true_and, and_true]; (try omega); done))) | (with_reducible refine BCase.df ?wxs ?_; case wxs => (first | omega | (simp only [lens, true_and, and_true]; (try omega); done))) | (with_reducible refine Need.mk ?wxs ?_; case wxs => first | (first | omega | (simp only [lens, true_and, and_true]; (try omega); done)) | decide | kernel_rfl) | refine BCase.t (by decide) ?_ | refine BCase.f (by decide) ?_); ((conv => whnf); repeat ((first | with_reducible refine BCase.tt ?_ | with_reducible refine BCase.ff ?_); (conv => whnf)))) | ((refine CallP.pure _ rfl _ (pc) ?_); ((conv => whnf); repeat ((first | with_reducible refine BCase.tt ?_ | with_reducible refine BCase.ff ?_); (conv => whnf)))) | ((refine CallP.pure _ rfl _ (pw) ?_); ((conv => whnf); repeat ((first | with_reducible refine BCase.tt ?_ | with_reducible refine BCase.ff ?_); (conv => whnf)))) | ((with_reducible refine EmpOr.app ?_); ((conv => whnf); repeat ((first | with_reducible refine BCase.tt ?_ | with_reducible refine BCase.ff ?_); (conv => whnf)))) | (first | with_reducible refine BCase.not ?_ | with_reducible refine BCase.and ?_ | with_reducible refine BCase.or ?_) | ((with_reducible refine BCase.d (fun _ => ?_) (fun _ => ?_)) <;> ((conv => whnf); repeat ((first | with_reducible refine BCase.tt ?_ | with_reducible refine BCase.ff ?_); (conv => whnf))))))
      exact bad 4 hR
    | false =>
      rw [hw, if_neg (by decide)] at hR
      rw [hw] at pw
      obtain ⟨e1, e2, e3⟩ := hot_head h hw
      cases hh : hotR s with
      | false =>
        rw [hh, if_pos rfl] at hR
        rw [hh] at ph
        (((conv => whnf); repeat ((first | with_reducible refine BCase.tt ?_ | with_reducible refine BCase.ff ?_); (conv => whnf))); repeat' (first | ((first | with_reducible refine Wr.u8 ?_ | ((first | with_reducible refine Wr.ci ?wxs ?_ | with_reducible refine Wr.c3 ?wxs ?_ | with_reducible refine Wr.c6 ?wxs ?_ | with_reducible refine BCase.dt ?wxs ?_); case wxs => (first | omega | (simp only [lens, true_and, and_true]; (try omega); done))) | (with_reducible refine BCase.df ?wxs ?_; case wxs => (first | omega | (simp only [lens, true_and, and_true]; (try omega); done))) | (with_reducible refine Need.mk ?wxs ?_; case wxs => first | (first | omega | (simp only [lens, true_and, and_true]; (try omega); done)) | decide | kernel_rfl) | refine BCase.t (by decide) ?_ | refine BCase.f (by decide) ?_); ((conv => whnf); repeat ((first | with_reducible refine BCase.tt ?_ | with_reducible refine BCase.ff ?_); (conv => whnf)))) | ((refine CallP.pure _ rfl _ (pc) ?_); ((conv => whnf); repeat ((first | with_reducible refine BCase.tt ?_ | with_reducible refine BCase.ff ?_); (conv => whnf)))) | ((refine CallP.pure _ rfl _ (pw) ?_); ((conv => whnf); repeat ((first | with_reducible refine BCase.tt ?_ | with_reducible refine BCase.ff ?_); (conv => whnf)))) | ((refine CallP.pure _ rfl _ (ph) ?_); ((conv => whnf); repeat ((first | with_reducible refine BCase.tt ?_ | with_reducible refine BCase.ff ?_); (conv => whnf)))) | ((with_reducible refine EmpOr.app ?_); ((conv => whnf); repeat ((first | with_reducible refine BCase.tt ?_ | with_reducible refine BCase.ff ?_); (conv => whnf)))) | (first | with_reducible refine BCase.not ?_ | with_reducible refine BCase.and ?_ | with_reducible refine BCase.or ?_) | ((with_reducible refine BCase.d (fun _ => ?_) (fun _ => ?_)) <;> ((conv => whnf); repeat ((first | with_reducible refine BCase.tt ?_ | with_reducible refine BCase.ff ?_); (conv => whnf))))))
        exact bad 0 hR
      | true =>
        rw [hh, if_neg (by decide)] at hR
        rw [hh] at ph
        obtain ⟨k1, k2⟩ := storeChk_ok h
        rw [e3] at k2
        have hsz := pageAt_size (check_ok _ _ k2).2.1
        have pd0 := p_dread s.2 0
        rw [e3, read_bare k2 (by decide)] at pd0
        have pd : ∀ n : Nat, n ≤ 31 → Pure Try.prog 29 [dkV s.2, pInt .i64 n] (.tup [pStr (pageAt s.2.1 n), pInt .i64 0]) := by
          intro n hn
          have := p_dread s.2 n
          rwa [e3, read_bare k2 (inPlace_t ⟨by omega, by omega⟩)] at this
        obtain ⟨hd, ehd⟩ : ∃ l, pageAt s.2.1 0 = tx l := ⟨_, (tx_list _).symm⟩
        rw [ehd] at hR pd0
        have thd := tx_size hd
        have twoCase : (∃ a b, hd = [a, b]) ∨ hd.length ≠ 2 := by
          by_cases q : hd.length = 2
          · left
            match hd, q with
            | [a, b], _ => exact ⟨a, b, rfl⟩
          · exact .inr q
        rcases twoCase with ⟨a, b, rfl⟩ | q
        · have hb := b.toNat_lt
          rw [headN_two] at hR
          have hl2 : (tx [a, b]).size = 2 := rfl
          by_cases q : b.toNat ≤ 31
          · rw [if_pos q] at hR
            simp only at hR
            have hR := Lib.hid hR
            (((conv => whnf); repeat ((first | with_reducible refine BCase.tt ?_ | with_reducible refine BCase.ff ?_); (conv => whnf))); repeat' (first | ((first | with_reducible refine Wr.u8 ?_ | ((first | with_reducible refine Wr.ci ?wxs ?_ | with_reducible refine Wr.c3 ?wxs ?_ | with_reducible refine Wr.c6 ?wxs ?_ | with_reducible refine BCase.dt ?wxs ?_); case wxs => (first | omega | (simp only [lens, true_and, and_true]; (try omega); done))) | (with_reducible refine BCase.df ?wxs ?_; case wxs => (first | omega | (simp only [lens, true_and, and_true]; (try omega); done))) | (with_reducible refine Need.mk ?wxs ?_; case wxs => first | (first | omega | (simp only [lens, true_and, and_true]; (try omega); done)) | decide | kernel_rfl) | refine BCase.t (by decide) ?_ | refine BCase.f (by decide) ?_); ((conv => whnf); repeat ((first | with_reducible refine BCase.tt ?_ | with_reducible refine BCase.ff ?_); (conv => whnf)))) | ((refine CallP.pure _ rfl _ (pc) ?_); ((conv => whnf); repeat ((first | with_reducible refine BCase.tt ?_ | with_reducible refine BCase.ff ?_); (conv => whnf)))) | ((refine CallP.pure _ rfl _ (pw) ?_); ((conv => whnf); repeat ((first | with_reducible refine BCase.tt ?_ | with_reducible refine BCase.ff ?_); (conv => whnf)))) | ((refine CallP.pure _ rfl _ (ph) ?_); ((conv => whnf); repeat ((first | with_reducible refine BCase.tt ?_ | with_reducible refine BCase.ff ?_); (conv => whnf)))) | ((refine CallP.pure _ rfl _ (pd0) ?_); ((conv => whnf); repeat ((first | with_reducible refine BCase.tt ?_ | with_reducible refine BCase.ff ?_); (conv => whnf)))) | (( refine SIdx.mk b (by decide) rfl ?_); ((conv => whnf); repeat ((first | with_reducible refine BCase.tt ?_ | with_reducible refine BCase.ff ?_); (conv => whnf)))) | ((with_reducible refine EmpOr.app ?_); ((conv => whnf); repeat ((first | with_reducible refine BCase.tt ?_ | with_reducible refine BCase.ff ?_); (conv => whnf)))) | (first | with_reducible refine BCase.not ?_ | with_reducible refine BCase.and ?_ | with_reducible refine BCase.or ?_) | ((with_reducible refine BCase.d (fun _ => ?_) (fun _ => ?_)) <;> ((conv => whnf); repeat ((first | with_reducible refine BCase.tt ?_ | with_reducible refine BCase.ff ?_); (conv => whnf))))))
            refine LoopC.mk (Nat × List Opr) (fun x => [(1, .d (.ptr 1 0)), (7, .d (.ptr 41 0)), (44, pInt .i64 b.toNat), (45, pInt .i64 x.1)]) (fun x => [(1, storeBox s), (41, listBox 90 x.2), (90, opT)]) [1, 41, 90] (fun x => x.1 ≤ b.toNat ∧ x.2.length = x.1 ∧ UndoI s b.toNat x.1 x.2) (fun x => b.toNat - x.1) (0, []) ⟨Nat.zero_le _, rfl, ?init⟩ ?start ?round
            case init =>
              show undoL _ 1 b.toNat = (undoL _ 1 b.toNat).map fun r => [] ++ r
              simp
            case start => exact ⟨[(1, 1), (41, 41)], rfl, rfl, ⟨⟨rfl, rfl, rfl⟩, ⟨rfl, rfl, rfl⟩, .inl rfl, .inl rfl, trivial⟩, ⟨rfl, rfl, .inl rfl, .inl rfl, .inl rfl, .inl rfl, rfl⟩, ⟨rfl, rfl, ⟨rfl, rfl, Nat.zero_lt_succ _, rfl, rfl⟩, rfl⟩, ⟨rfl, Nat.zero_lt_succ _⟩, trivial⟩
            case round =>
              rintro ⟨k, l⟩ ⟨hk, hl, hI⟩
              simp only at hk hl hI ⊢
              by_cases hkb : k < b.toNat
              · have pr := pd (k + 1) (by omega)
                obtain ⟨m, em⟩ : ∃ m, pageAt s.2.1 ((k + 1 : Nat) : Int) = tx m := ⟨_, (tx_list _).symm⟩
                have hm := hsz ((k + 1 : Nat) : Int)
                rw [em] at pr hm
                rw [tx_size] at hm
                obtain ⟨no, old, pq, ho⟩ := p_record m (by omega)
                cases hrec : recL m with
                | none =>
                  have hbad := hI.bad hkb (by rw [em]; exact hrec)
                  rw [hrec] at pq
                  (((conv => whnf); repeat ((first | with_reducible refine BCase.tt ?_ | with_reducible refine BCase.ff ?_); (conv => whnf))); repeat' (first | ((first | with_reducible refine Wr.u8 ?_ | ((first | with_reducible refine Wr.ci ?wxs ?_ | with_reducible refine Wr.c3 ?wxs ?_ | with_reducible refine Wr.c6 ?wxs ?_ | with_reducible refine BCase.dt ?wxs ?_); case wxs => (first | omega | (simp only [lens, true_and, and_true]; (try omega); done))) | (with_reducible refine BCase.df ?wxs ?_; case wxs => (first | omega | (simp only [lens, true_and, and_true]; (try omega); done))) | (with_reducible refine Need.mk ?wxs ?_; case wxs => first | (first | omega | (simp only [lens, true_and, and_true]; (try omega); done)) | decide | kernel_rfl) | refine BCase.t (by decide) ?_ | refine BCase.f (by decide) ?_); ((conv => whnf); repeat ((first | with_reducible refine BCase.tt ?_ | with_reducible refine BCase.ff ?_); (conv => whnf)))) | ((refine CallP.pure _ rfl _ (pr) ?_); ((conv => whnf); repeat ((first | with_reducible refine BCase.tt ?_ | with_reducible refine BCase.ff ?_); (conv => whnf)))) | ((refine CallP.pure _ rfl _ (pq) ?_); ((conv => whnf); repeat ((first | with_reducible refine BCase.tt ?_ | with_reducible refine BCase.ff ?_); (conv => whnf)))) | ((with_reducible refine EmpOr.app ?_); ((conv => whnf); repeat ((first | with_reducible refine BCase.tt ?_ | with_reducible refine BCase.ff ?_); (conv => whnf)))) | (first | with_reducible refine BCase.not ?_ | with_reducible refine BCase.and ?_ | with_reducible refine BCase.or ?_) | ((with_reducible refine BCase.d (fun _ => ?_) (fun _ => ?_)) <;> ((conv => whnf); repeat ((first | with_reducible refine BCase.tt ?_ | with_reducible refine BCase.ff ?_); (conv => whnf))))))
                  exact bad 1 (by rw [hR.out, hbad])
                | some o =>
                  obtain rfl := ho o hrec
                  have hn := hI.next hkb (by rw [em]; exact hrec)
                  rw [hrec, Option.isSome_some] at pq
                  (((conv => whnf); repeat ((first | with_reducible refine BCase.tt ?_ | with_reducible refine BCase.ff ?_); (conv => whnf))); repeat' (first | ((first | with_reducible refine Wr.u8 ?_ | ((first | with_reducible refine Wr.ci ?wxs ?_ | with_reducible refine Wr.c3 ?wxs ?_ | with_reducible refine Wr.c6 ?wxs ?_ | with_reducible refine BCase.dt ?wxs ?_); case wxs => (first | omega | (simp only [lens, true_and, and_true]; (try omega); done))) | (with_reducible refine BCase.df ?wxs ?_; case wxs => (first | omega | (simp only [lens, true_and, and_true]; (try omega); done))) | (with_reducible refine Need.mk ?wxs ?_; case wxs => first | (first | omega | (simp only [lens, true_and, and_true]; (try omega); done)) | decide | kernel_rfl) | refine BCase.t (by decide) ?_ | refine BCase.f (by decide) ?_); ((conv => whnf); repeat ((first | with_reducible refine BCase.tt ?_ | with_reducible refine BCase.ff ?_); (conv => whnf)))) | ((refine CallP.pure _ rfl _ (pr) ?_); ((conv => whnf); repeat ((first | with_reducible refine BCase.tt ?_ | with_reducible refine BCase.ff ?_); (conv => whnf)))) | ((refine CallP.pure _ rfl _ (pq) ?_); ((conv => whnf); repeat ((first | with_reducible refine BCase.tt ?_ | with_reducible refine BCase.ff ?_); (conv => whnf)))) | (( refine CallP.ret [(FK, 41), (FK1, 90), (NK, 67)] _ _ _ _ _ _ _ (s_data l no old (by omega)) rfl rfl rfl rfl ⟨rfl, rfl, trivial⟩ ?_); ((conv => whnf); repeat ((first | with_reducible refine BCase.tt ?_ | with_reducible refine BCase.ff ?_); (conv => whnf)))) | ((with_reducible refine EmpOr.app ?_); ((conv => whnf); repeat ((first | with_reducible refine BCase.tt ?_ | with_reducible refine BCase.ff ?_); (conv => whnf)))) | (first | with_reducible refine BCase.not ?_ | with_reducible refine BCase.and ?_ | with_reducible refine BCase.or ?_) | ((with_reducible refine BCase.d (fun _ => ?_) (fun _ => ?_)) <;> ((conv => whnf); repeat ((first | with_reducible refine BCase.tt ?_ | with_reducible refine BCase.ff ?_); (conv => whnf))))))
                  exact ⟨(k + 1, l ++ [(1, no, old)]), ⟨by show k + 1 ≤ _; omega, by simp; omega, hn⟩, by show b.toNat - (k + 1) < b.toNat - k; omega, [(1, 1), (41, 41), (90, 67)], rfl, rfl, ⟨⟨rfl, rfl, rfl⟩, ⟨rfl, rfl, rfl⟩, .inl rfl, PLe.int (by show ((k : Int) + 1) = ((k + 1 : Nat) : Int); omega), trivial⟩, ⟨rfl, rfl, .inl rfl, .inl rfl, .inl rfl, .inl rfl, rfl⟩, ⟨rfl, rfl, ⟨rfl, rfl, rfl, rfl, rfl⟩, rfl⟩, ⟨rfl, rfl, rfl⟩, trivial⟩
              · obtain rfl : k = b.toNat := by omega
                have hdone := hI.done
                (((conv => whnf); repeat ((first | with_reducible refine BCase.tt ?_ | with_reducible refine BCase.ff ?_); (conv => whnf))); repeat' (first | ((first | with_reducible refine Wr.u8 ?_ | ((first | with_reducible refine Wr.ci ?wxs ?_ | with_reducible refine Wr.c3 ?wxs ?_ | with_reducible refine Wr.c6 ?wxs ?_ | with_reducible refine BCase.dt ?wxs ?_); case wxs => (first | omega | (simp only [lens, true_and, and_true]; (try omega); done))) | (with_reducible refine BCase.df ?wxs ?_; case wxs => (first | omega | (simp only [lens, true_and, and_true]; (try omega); done))) | (with_reducible refine Need.mk ?wxs ?_; case wxs => first | (first | omega | (simp only [lens, true_and, and_true]; (try omega); done)) | decide | kernel_rfl) | refine BCase.t (by decide) ?_ | refine BCase.f (by decide) ?_); ((conv => whnf); repeat ((first | with_reducible refine BCase.tt ?_ | with_reducible refine BCase.ff ?_); (conv => whnf)))) | (( refine CallP.ret [(FK, 41), (FK1, 90), (NK, 70)] _ _ _ _ _ _ _ (s_cold l (by omega)) rfl rfl rfl rfl ⟨rfl, rfl, trivial⟩ ?_); ((conv => whnf); repeat ((first | with_reducible refine BCase.tt ?_ | with_reducible refine BCase.ff ?_); (conv => whnf)))) | ((with_reducible refine EmpOr.app ?_); ((conv => whnf); repeat ((first | with_reducible refine BCase.tt ?_ | with_reducible refine BCase.ff ?_); (conv => whnf)))) | (first | with_reducible refine BCase.not ?_ | with_reducible refine BCase.and ?_ | with_reducible refine BCase.or ?_) | ((with_reducible refine BCase.d (fun _ => ?_) (fun _ => ?_)) <;> ((conv => whnf); repeat ((first | with_reducible refine BCase.tt ?_ | with_reducible refine BCase.ff ?_); (conv => whnf))))))
                refine Ret.eq ?_
                rw [hR.out, hdone]
          · rw [if_neg q] at hR
            (((conv => whnf); repeat ((first | with_reducible refine BCase.tt ?_ | with_reducible refine BCase.ff ?_); (conv => whnf))); repeat' (first | ((first | with_reducible refine Wr.u8 ?_ | ((first | with_reducible refine Wr.ci ?wxs ?_ | with_reducible refine Wr.c3 ?wxs ?_ | with_reducible refine Wr.c6 ?wxs ?_ | with_reducible refine BCase.dt ?wxs ?_); case wxs => (first | omega | (simp only [lens, true_and, and_true]; (try omega); done))) | (with_reducible refine BCase.df ?wxs ?_; case wxs => (first | omega | (simp only [lens, true_and, and_true]; (try omega); done))) | (with_reducible refine Need.mk ?wxs ?_; case wxs => first | (first | omega | (simp only [lens, true_and, and_true]; (try omega); done)) | decide | kernel_rfl) | refine BCase.t (by decide) ?_ | refine BCase.f (by decide) ?_); ((conv => whnf); repeat ((first | with_reducible refine BCase.tt ?_ | with_reducible refine BCase.ff ?_); (conv => whnf)))) | ((refine CallP.pure _ rfl _ (pc) ?_); ((conv => whnf); repeat ((first | with_reducible refine BCase.tt ?_ | with_reducible refine BCase.ff ?_); (conv => whnf)))) | ((refine CallP.pure _ rfl _ (pw) ?_); ((conv => whnf); repeat ((first | with_reducible refine BCase.tt ?_ | with_reducible refine BCase.ff ?_); (conv => whnf)))) | ((refine CallP.pure _ rfl _ (ph) ?_); ((conv => whnf); repeat ((first | with_reducible refine BCase.tt ?_ | with_reducible refine BCase.ff ?_); (conv => whnf)))) | ((refine CallP.pure _ rfl _ (pd0) ?_); ((conv => whnf); repeat ((first | with_reducible refine BCase.tt ?_ | with_reducible refine BCase.ff ?_); (conv => whnf)))) | (( refine SIdx.mk b (by decide) rfl ?_); ((conv => whnf); repeat ((first | with_reducible refine BCase.tt ?_ | with_reducible refine BCase.ff ?_); (conv => whnf)))) | ((with_reducible refine EmpOr.app ?_); ((conv => whnf); repeat ((first | with_reducible refine BCase.tt ?_ | with_reducible refine BCase.ff ?_); (conv => whnf)))) | (first | with_reducible refine BCase.not ?_ | with_reducible refine BCase.and ?_ | with_reducible refine BCase.or ?_) | ((with_reducible refine BCase.d (fun _ => ?_) (fun _ => ?_)) <;> ((conv => whnf); repeat ((first | with_reducible refine BCase.tt ?_ | with_reducible refine BCase.ff ?_); (conv => whnf))))))
            exact bad 1 hR
        · have hn : headN (tx hd) = none := by
            show headN ⟨hd.toArray⟩ = none
            unfold headN
            match hd, q with
            | [], _ => rfl
            | [_], _ => rfl
            | [_, _], q => exact absurd rfl q
            | _ :: _ :: _ :: _, _ => rfl
          rw [hn] at hR
          (((conv => whnf); repeat ((first | with_reducible refine BCase.tt ?_ | with_reducible refine BCase.ff ?_); (conv => whnf))); repeat' (first | ((first | with_reducible refine Wr.u8 ?_ | ((first | with_reducible refine Wr.ci ?wxs ?_ | with_reducible refine Wr.c3 ?wxs ?_ | with_reducible refine Wr.c6 ?wxs ?_ | with_reducible refine BCase.dt ?wxs ?_); case wxs => (first | omega | (simp only [lens, true_and, and_true]; (try omega); done))) | (with_reducible refine BCase.df ?wxs ?_; case wxs => (first | omega | (simp only [lens, true_and, and_true]; (try omega); done))) | (with_reducible refine Need.mk ?wxs ?_; case wxs => first | (first | omega | (simp only [lens, true_and, and_true]; (try omega); done)) | decide | kernel_rfl) | refine BCase.t (by decide) ?_ | refine BCase.f (by decide) ?_); ((conv => whnf); repeat ((first | with_reducible refine BCase.tt ?_ | with_reducible refine BCase.ff ?_); (conv => whnf)))) | ((refine CallP.pure _ rfl _ (pc) ?_); ((conv => whnf); repeat ((first | with_reducible refine BCase.tt ?_ | with_reducible refine BCase.ff ?_); (conv => whnf)))) | ((refine CallP.pure _ rfl _ (pw) ?_); ((conv => whnf); repeat ((first | with_reducible refine BCase.tt ?_ | with_reducible refine BCase.ff ?_); (conv => whnf)))) | ((refine CallP.pure _ rfl _ (ph) ?_); ((conv => whnf); repeat ((first | with_reducible refine BCase.tt ?_ | with_reducible refine BCase.ff ?_); (conv => whnf)))) | ((refine CallP.pure _ rfl _ (pd0) ?_); ((conv => whnf); repeat ((first | with_reducible refine BCase.tt ?_ | with_reducible refine BCase.ff ?_); (conv => whnf)))) | ((with_reducible refine EmpOr.app ?_); ((conv => whnf); repeat ((first | with_reducible refine BCase.tt ?_ | with_reducible refine BCase.ff ?_); (conv => whnf)))) | (first | with_reducible refine BCase.not ?_ | with_reducible refine BCase.and ?_ | with_reducible refine BCase.or ?_) | ((with_reducible refine BCase.d (fun _ => ?_) (fun _ => ?_)) <;> ((conv => whnf); repeat ((first | with_reducible refine BCase.tt ?_ | with_reducible refine BCase.ff ?_); (conv => whnf))))))
          exact bad 1 hR
  · have hR : undoR s = ([], storeChk s) := if_pos h
    (((conv => whnf); repeat ((first | with_reducible refine BCase.tt ?_ | with_reducible refine BCase.ff ?_); (conv => whnf))); repeat' (first | ((first | with_reducible refine Wr.u8 ?_ | ((first | with_reducible refine Wr.ci ?wxs ?_ | with_reducible refine Wr.c3 ?wxs ?_ | with_reducible refine Wr.c6 ?wxs ?_ | with_reducible refine BCase.dt ?wxs ?_); case wxs => (first | omega | (simp only [lens, true_and, and_true]; (try omega); done))) | (with_reducible refine BCase.df ?wxs ?_; case wxs => (first | omega | (simp only [lens, true_and, and_true]; (try omega); done))) | (with_reducible refine Need.mk ?wxs ?_; case wxs => first | (first | omega | (simp only [lens, true_and, and_true]; (try omega); done)) | decide | kernel_rfl) | refine BCase.t (by decide) ?_ | refine BCase.f (by decide) ?_); ((conv => whnf); repeat ((first | with_reducible refine BCase.tt ?_ | with_reducible refine BCase.ff ?_); (conv => whnf)))) | ((refine CallP.pure _ rfl _ (pc) ?_); ((conv => whnf); repeat ((first | with_reducible refine BCase.tt ?_ | with_reducible refine BCase.ff ?_); (conv => whnf)))) | ((with_reducible refine EmpOr.app ?_); ((conv => whnf); repeat ((first | with_reducible refine BCase.tt ?_ | with_reducible refine BCase.ff ?_); (conv => whnf)))) | (first | with_reducible refine BCase.not ?_ | with_reducible refine BCase.and ?_ | with_reducible refine BCase.or ?_) | ((with_reducible refine BCase.d (fun _ => ?_) (fun _ => ?_)) <;> ((conv => whnf); repeat ((first | with_reducible refine BCase.tt ?_ | with_reducible refine BCase.ff ?_); (conv => whnf))))))
    exact bad _ hR
end Go.Proofs.Ytohlkegmmbdlaaa.Pm
