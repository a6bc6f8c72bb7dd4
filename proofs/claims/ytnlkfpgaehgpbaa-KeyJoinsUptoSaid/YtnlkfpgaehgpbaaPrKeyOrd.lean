/- the order of keys; KeyOrder, KeyBack -/
import Derived.Test.YtnlkfpgaehgpbaaPrKeyLaws
import Derived.Test.YtnlkfpgaehgpbaaPrTells
namespace Go.Proofs.Ytnlkfpgaehgpbaa.Pm
open Go.RowKit K NumP NumW NumRd NumZ NumL
set_option linter.unusedVariables false
set_option linter.unusedSimpArgs false
set_option maxRecDepth 100000

abbrev cmpL := Lib.compareBytes
theorem cmpL_cons (a b : UInt8) (l m : List UInt8) : cmpL (a :: l) (b :: m) = if a < b then -1 else if b < a then 1 else cmpL l m := rfl
theorem cmpL_same (a : UInt8) (l m : List UInt8) : cmpL (a :: l) (a :: m) = cmpL l m := by
  rw [cmpL_cons, if_neg (UInt8.lt_irrefl a), if_neg (UInt8.lt_irrefl a)]
theorem cmpL_lt {a b : UInt8} (h : a < b) (l m : List UInt8) : cmpL (a :: l) (b :: m) = -1 := by rw [cmpL_cons, if_pos h]
theorem cmpL_gt {a b : UInt8} (h : b < a) (l m : List UInt8) : cmpL (a :: l) (b :: m) = 1 := by
  rw [cmpL_cons, if_neg (fun q => UInt8.lt_asymm h q), if_pos h]
theorem less_cmpL : ∀ a b : List UInt8, Op.bytesLess a b = decide (cmpL a b < 0)
  | [], [] => rfl
  | [], _ :: _ => rfl
  | _ :: _, [] => rfl
  | a :: l, b :: m => by
    show (decide (a < b) || (a == b && Op.bytesLess l m)) = _
    rw [less_cmpL l m, cmpL_cons]
    by_cases h1 : a < b
    · rw [if_pos h1, decide_eq_true h1]; rfl
    · rw [if_neg h1, decide_eq_false h1, Bool.false_or]
      by_cases h2 : b < a
      · rw [if_pos h2]
        have : (a == b) = false := by
          rw [Bool.eq_false_iff]
          intro e
          have e := eq_of_beq e
          subst e; exact UInt8.lt_irrefl a h2
        rw [this]; rfl
      · rw [if_neg h2]
        have : a = b := UInt8.toNat_inj.1 (by rw [UInt8.lt_iff_toNat_lt] at h1 h2; omega)
        subst this
        simp
/-- digits of equal number -/
theorem cmpL_fold : ∀ {l m : List UInt8} (x : Nat) (p q : List UInt8), l.length = m.length → cmpL (l ++ p) (m ++ q) = if fold8 x l < fold8 x m then -1 else if fold8 x m < fold8 x l then 1 else cmpL p q
  | [], [], x, p, q, _ => by
    show cmpL p q = _
    rw [if_neg (Nat.lt_irrefl _), if_neg (Nat.lt_irrefl _)]
  | a :: l, b :: m, x, p, q, hl => by
    have hl' : l.length = m.length := by simpa using hl
    show cmpL (a :: (l ++ p)) (b :: (m ++ q)) = if fold8 (x * 256 + a.toNat) l < fold8 (x * 256 + b.toNat) m then _ else if fold8 (x * 256 + b.toNat) m < fold8 (x * 256 + a.toNat) l then _ else _
    rcases Nat.lt_trichotomy a.toNat b.toNat with h | h | h
    · rw [cmpL_lt (UInt8.lt_iff_toNat_lt.2 h), if_pos (fold8_mono hl' (by omega))]
    · have e : a = b := UInt8.toNat_inj.1 h
      subst e
      rw [cmpL_same]
      exact cmpL_fold _ p q hl'
    · have h2 := fold8_mono hl'.symm (show x * 256 + b.toNat < x * 256 + a.toNat by omega)
      rw [cmpL_gt (UInt8.lt_iff_toNat_lt.2 h), if_neg (by omega), if_pos h2]
  | [], _ :: _, _, _, _, hl => by simp at hl
  | _ :: _, [], _, _, _, hl => by simp at hl
theorem escK_cons (b : UInt8) (l : List UInt8) : escK (b :: l) = if b = 0 then 0 :: 255 :: escK l else b :: escK l := rfl
theorem pos_of_ne {b : UInt8} (h : b ≠ 0) : (0 : UInt8) < b := by
  rw [UInt8.lt_iff_toNat_lt]
  have : b.toNat ≠ 0 := fun e => h (UInt8.toNat_inj.1 e)
  show 0 < b.toNat
  omega
theorem cmpL_esc : ∀ (s t p q : List UInt8), cmpL (escK s ++ 0 :: 1 :: p) (escK t ++ 0 :: 1 :: q) = if cmpL s t ≠ 0 then cmpL s t else cmpL p q
  | [], [], p, q => by
    show cmpL (0 :: 1 :: p) (0 :: 1 :: q) = _
    rw [cmpL_same, cmpL_same]; rfl
  | [], b :: t, p, q => by
    show cmpL (0 :: 1 :: p) (escK (b :: t) ++ 0 :: 1 :: q) = -1
    rw [escK_cons]
    by_cases hb : b = 0
    · rw [if_pos hb]
      show cmpL (0 :: 1 :: p) (0 :: 255 :: _) = -1
      rw [cmpL_same]
      exact cmpL_lt (by decide) _ _
    · rw [if_neg hb]
      exact cmpL_lt (pos_of_ne hb) _ _
  | a :: s, [], p, q => by
    show cmpL (escK (a :: s) ++ 0 :: 1 :: p) (0 :: 1 :: q) = 1
    rw [escK_cons]
    by_cases hb : a = 0
    · rw [if_pos hb]
      show cmpL (0 :: 255 :: _) (0 :: 1 :: q) = 1
      rw [cmpL_same]
      exact cmpL_gt (by decide) _ _
    · rw [if_neg hb]
      exact cmpL_gt (pos_of_ne hb) _ _
  | a :: s, b :: t, p, q => by
    have ih := cmpL_esc s t p q
    rw [cmpL_cons, escK_cons, escK_cons]
    by_cases hab : a = b
    · subst hab
      rw [if_neg (UInt8.lt_irrefl a), if_neg (UInt8.lt_irrefl a)]
      by_cases ha : a = 0
      · rw [if_pos ha, if_pos ha]
        show cmpL (0 :: 255 :: (escK s ++ _)) (0 :: 255 :: (escK t ++ _)) = _
        rw [cmpL_same, cmpL_same]; exact ih
      · rw [if_neg ha, if_neg ha]
        show cmpL (a :: (escK s ++ _)) (a :: (escK t ++ _)) = _
        rw [cmpL_same]; exact ih
    · have hlt : a < b ∨ b < a := by
        rw [UInt8.lt_iff_toNat_lt, UInt8.lt_iff_toNat_lt]
        have : a.toNat ≠ b.toNat := fun e => hab (UInt8.toNat_inj.1 e)
        omega
      rcases hlt with h | h
      · rw [if_pos h, if_pos (show (-1 : Int) ≠ 0 by decide)]
        by_cases ha : a = 0
        · have hb : b ≠ 0 := fun e => hab (ha.trans e.symm)
          rw [if_pos ha, if_neg hb]
          exact cmpL_lt (pos_of_ne hb) _ _
        · by_cases hb : b = 0
          · subst hb
            have : ¬ a < 0 := by rw [UInt8.lt_iff_toNat_lt]; exact Nat.not_lt_zero _
            exact absurd h this
          · rw [if_neg ha, if_neg hb]
            exact cmpL_lt h _ _
      · have hn : ¬ a < b := fun q => UInt8.lt_asymm h q
        rw [if_neg hn, if_pos h, if_pos (show (1 : Int) ≠ 0 by decide)]
        by_cases hb : b = 0
        · have ha : a ≠ 0 := fun e => hab (e.trans hb.symm)
          rw [if_neg ha, if_pos hb]
          exact cmpL_gt (pos_of_ne ha) _ _
        · by_cases ha : a = 0
          · subst ha
            have : ¬ b < 0 := by rw [UInt8.lt_iff_toNat_lt]; exact Nat.not_lt_zero _
            exact absurd h this
          · rw [if_neg ha, if_neg hb]
            exact cmpL_gt h _ _
theorem vOrd_eq (x y : ValueD) : vOrd x y = if ValP.cmpI x.Kind y.Kind ≠ 0 then ValP.cmpI x.Kind y.Kind else if ValP.cmpI x.N y.N ≠ 0 then ValP.cmpI x.N y.N else if cmpL x.S y.S ≠ 0 then cmpL x.S y.S else 0 := rfl
theorem cmpI_self (a : Int) : ValP.cmpI a a = 0 := (ValP.cmpI_zero a a).2 rfl
theorem cmpL_self (l : List UInt8) : cmpL l l = 0 := (ValP.compareBytes_zero l l).2 rfl
theorem z00 : ¬ ((0 : Int) ≠ 0) := by decide
theorem cmpL_kW {v w : ValueD} (hv : vChk v = 0) (hw : vChk w = 0) (nv : okInt v.N) (nw : okInt w.N) (p q : List UInt8) : cmpL (kW v ++ p) (kW w ++ q) = if vOrd v w ≠ 0 then vOrd v w else cmpL p q := by
  obtain ⟨a1, a2, a3, a4⟩ := vChk_inv hv
  obtain ⟨b1, b2, b3, b4⟩ := vChk_inv hw
  obtain ⟨kd, n, s⟩ := v
  obtain ⟨kd', n', s'⟩ := w
  simp only at a1 a2 a3 a4 b1 b2 b3 b4 nv nw
  rw [vOrd_eq]
  dsimp only
  have kk : kd = 0 ∨ kd = 1 ∨ kd = 2 ∨ kd = 3 := by omega
  have kk' : kd' = 0 ∨ kd' = 1 ∨ kd' = 2 ∨ kd' = 3 := by omega
  have tags : ∀ x : Int, (kW ⟨x, n, s⟩).head? = some (tagK x) := fun x => rfl
  by_cases hk : kd = kd'
  · subst hk
    rw [cmpI_self, if_neg z00]
    rcases kk with rfl | rfl | kk
    · rw [a2 (by decide), b2 (by decide), a3 (by decide), b3 (by decide), cmpI_self, if_neg z00, cmpL_self, if_neg z00, if_neg z00]
      show cmpL (5 :: p) (5 :: q) = _
      rw [cmpL_same]
    · rw [a3 (by decide), b3 (by decide), cmpL_self]
      obtain ⟨u, hu⟩ : ∃ u : Nat, n + 9223372036854775808 = u := ⟨(n + 9223372036854775808).toNat, by have := nv.1; omega⟩
      obtain ⟨u', hu'⟩ : ∃ u : Nat, n' + 9223372036854775808 = u := ⟨(n' + 9223372036854775808).toNat, by have := nw.1; omega⟩
      have h1 := nv.2
      have h2 := nw.2
      show cmpL (16 :: (b8 (n + 9223372036854775808) ++ p)) (16 :: (b8 (n' + 9223372036854775808) ++ q)) = _
      rw [cmpL_same, cmpL_fold (l := b8 (n + 9223372036854775808)) (m := b8 (n' + 9223372036854775808)) 0 p q rfl, hu, hu', b8_fold u (by omega), b8_fold u' (by omega)]
      unfold ValP.cmpI
      by_cases c1 : u < u'
      · rw [if_pos c1, if_pos (show n < n' by omega)]; rfl
      · by_cases c2 : u' < u
        · rw [if_neg c1, if_pos c2, if_neg (show ¬ n < n' by omega), if_pos (show n' < n by omega)]; rfl
        · rw [if_neg c1, if_neg c2, if_neg (show ¬ n < n' by omega), if_neg (show ¬ n' < n by omega)]; rfl
    · have e1 : ∀ (r t : List UInt8), kW ⟨kd, 0, t⟩ ++ r = tagK kd :: (escK t ++ 0 :: 1 :: r) := by
        intro r t
        unfold kW
        rw [if_neg (show ¬ kd = 0 by omega), if_neg (show ¬ kd = 1 by omega)]
        simp
      rw [a2 (by omega), b2 (by omega), cmpI_self, if_neg z00, e1, e1, cmpL_same, cmpL_esc]
      by_cases c : cmpL s s' = 0
      · rw [c]; simp
      · rw [if_pos c, if_pos c, if_pos c]
  · have hne : ValP.cmpI kd kd' ≠ 0 := fun e => hk ((ValP.cmpI_zero _ _).1 e)
    rw [if_pos hne, if_pos hne]
    have e1 : ∀ (x : Int) (n : Int) (t r : List UInt8), ∃ z, kW ⟨x, n, t⟩ ++ r = tagK x :: z := fun x n t r => ⟨_, rfl⟩
    obtain ⟨z, hz⟩ := e1 kd n s p
    obtain ⟨z', hz'⟩ := e1 kd' n' s' q
    rw [hz, hz']
    unfold ValP.cmpI
    by_cases hlt : kd < kd'
    · rw [if_pos hlt]
      refine cmpL_lt ?_ _ _
      rcases kk with rfl | rfl | rfl | rfl <;> rcases kk' with rfl | rfl | rfl | rfl <;> first | omega | decide
    · rw [if_neg hlt, if_pos (by omega)]
      refine cmpL_gt ?_ _ _
      rcases kk with rfl | rfl | rfl | rfl <;> rcases kk' with rfl | rfl | rfl | rfl <;> first | omega | decide
theorem keyW_cons (v : ValueD) (l : List ValueD) : keyW (v :: l) = kW v ++ keyW l := by unfold keyW; rw [List.flatMap_cons]
theorem cmpL_key : ∀ {a b : List ValueD}, (∀ v ∈ a, vChk v = 0 ∧ okInt v.N) → (∀ v ∈ b, vChk v = 0 ∧ okInt v.N) → cmpL (keyW a) (keyW b) = rOrd a b
  | [], [], _, _ => rfl
  | [], v :: b, _, _ => by
    rw [keyW_cons]
    cases h : kW v with
    | nil => exact absurd h (kW_ne v)
    | cons x y => rfl
  | v :: a, [], _, _ => by
    rw [keyW_cons]
    cases h : kW v with
    | nil => exact absurd h (kW_ne v)
    | cons x y => rfl
  | v :: a, w :: b, ha, hb => by
    have h1 := ha v (List.mem_cons_self ..)
    have h2 := hb w (List.mem_cons_self ..)
    rw [keyW_cons, keyW_cons, cmpL_kW h1.1 h2.1 h1.2 h2.2, cmpL_key (fun x hx => ha x (List.mem_cons_of_mem _ hx)) (fun x hx => hb x (List.mem_cons_of_mem _ hx))]
    rfl
theorem law_KeyOrder (a : List ValueD) (hla : hRow a) (b : List ValueD) (hlb : hRow b) : Pure Try.prog 8 [slV 3 ValueD.c a, slV 3 ValueD.c b] (pBool true) := by
  obtain ⟨a1, a2, a3⟩ := hRow_of hla
  obtain ⟨b1, b2, b3⟩ := hRow_of hlb
  have ka := p_key a a1 a2
  have kb := p_key b b1 b2
  have pc := p_compare a b a1 b1
  refine pure_of Try.func8 (by rfl) rfl (by kernel_rfl) (by rfl) ?_
  by_cases h1 : rowChk a = 0
  · by_cases h2 : rowChk b = 0
    · have ho := cmpL_key (a := a) (b := b) (fun v hv => ⟨(rowChk_ok h1).2 v hv, a2 v hv⟩) (fun v hv => ⟨(rowChk_ok h2).2 v hv, b2 v hv⟩)
      have e1 : cmpE a b = 0 := by unfold cmpE; rw [if_neg (not_not_intro h1)]; exact h2
      have e2 : cmpR a b = rOrd a b := if_pos e1
      rw [e1, e2] at pc
      rw [show keyR a = keyW a from if_pos h1, h1] at ka
      rw [show keyR b = keyW b from if_pos h2, h2] at kb
      have hless : Op.bytesLess (tx (keyW a)).toList (tx (keyW b)).toList = decide (rOrd a b < 0) := by
        rw [← ho, ← less_cmpL, Lib.toList_data, Lib.toList_data]
        rfl
      have heq : (decide (rOrd a b = 0)) = decide (tx (keyW a) = tx (keyW b)) := by
        rw [← ho]
        exact decide_eq_decide.2 (by rw [tx_eq]; exact ValP.compareBytes_zero _ _)
      (((conv => whnf); repeat ((first | with_reducible refine BCase.tt ?_ | with_reducible refine BCase.ff ?_); (conv => whnf))); repeat' (first | ((first | with_reducible refine Wr.u8 ?_ | ((first | with_reducible refine Wr.ci ?s ?_ | with_reducible refine Wr.c3 ?s ?_ | with_reducible refine Wr.c6 ?s ?_ | with_reducible refine BCase.dt ?s ?_); case s => (first | omega | (simp only [lens, true_and, and_true]; (try omega); done))) | (with_reducible refine BCase.df ?s ?_; case s => (first | omega | (simp only [lens, true_and, and_true]; (try omega); done))) | (with_reducible refine Need.mk ?s ?_; case s => first | (first | omega | (simp only [lens, true_and, and_true]; (try omega); done)) | decide | kernel_rfl) | refine BCase.t (by decide) ?_ | refine BCase.f (by decide) ?_); ((conv => whnf); repeat ((first | with_reducible refine BCase.tt ?_ | with_reducible refine BCase.ff ?_); (conv => whnf)))) | ((refine CallP.pure _ rfl _ (ka) ?_); ((conv => whnf); repeat ((first | with_reducible refine BCase.tt ?_ | with_reducible refine BCase.ff ?_); (conv => whnf)))) | ((refine CallP.pure _ rfl _ (kb) ?_); ((conv => whnf); repeat ((first | with_reducible refine BCase.tt ?_ | with_reducible refine BCase.ff ?_); (conv => whnf)))) | ((refine CallP.pure _ rfl _ (pc) ?_); ((conv => whnf); repeat ((first | with_reducible refine BCase.tt ?_ | with_reducible refine BCase.ff ?_); (conv => whnf)))) | ((refine CallP.pure _ rfl _ (p_recbegun) ?_); ((conv => whnf); repeat ((first | with_reducible refine BCase.tt ?_ | with_reducible refine BCase.ff ?_); (conv => whnf)))) | ((with_reducible refine EmpOr.app ?_); ((conv => whnf); repeat ((first | with_reducible refine BCase.tt ?_ | with_reducible refine BCase.ff ?_); (conv => whnf)))) | (first | with_reducible refine BCase.not ?_ | with_reducible refine BCase.and ?_ | with_reducible refine BCase.or ?_) | ((with_reducible refine BCase.d (fun _ => ?_) (fun _ => ?_)) <;> ((conv => whnf); repeat ((first | with_reducible refine BCase.tt ?_ | with_reducible refine BCase.ff ?_); (conv => whnf))))))
      rw [hless, beq_self_eq_true]
      (((conv => whnf); repeat ((first | with_reducible refine BCase.tt ?_ | with_reducible refine BCase.ff ?_); (conv => whnf))); repeat' (first | ((first | with_reducible refine Wr.u8 ?_ | ((first | with_reducible refine Wr.ci ?s ?_ | with_reducible refine Wr.c3 ?s ?_ | with_reducible refine Wr.c6 ?s ?_ | with_reducible refine BCase.dt ?s ?_); case s => (first | omega | (simp only [lens, true_and, and_true]; (try omega); done))) | (with_reducible refine BCase.df ?s ?_; case s => (first | omega | (simp only [lens, true_and, and_true]; (try omega); done))) | (with_reducible refine Need.mk ?s ?_; case s => first | (first | omega | (simp only [lens, true_and, and_true]; (try omega); done)) | decide | kernel_rfl) | refine BCase.t (by decide) ?_ | refine BCase.f (by decide) ?_); ((conv => whnf); repeat ((first | with_reducible refine BCase.tt ?_ | with_reducible refine BCase.ff ?_); (conv => whnf)))) | ((refine CallP.pure _ rfl _ (ka) ?_); ((conv => whnf); repeat ((first | with_reducible refine BCase.tt ?_ | with_reducible refine BCase.ff ?_); (conv => whnf)))) | ((refine CallP.pure _ rfl _ (kb) ?_); ((conv => whnf); repeat ((first | with_reducible refine BCase.tt ?_ | with_reducible refine BCase.ff ?_); (conv => whnf)))) | ((refine CallP.pure _ rfl _ (pc) ?_); ((conv => whnf); repeat ((first | with_reducible refine BCase.tt ?_ | with_reducible refine BCase.ff ?_); (conv => whnf)))) | ((refine CallP.pure _ rfl _ (p_recbegun) ?_); ((conv => whnf); repeat ((first | with_reducible refine BCase.tt ?_ | with_reducible refine BCase.ff ?_); (conv => whnf)))) | ((with_reducible refine EmpOr.app ?_); ((conv => whnf); repeat ((first | with_reducible refine BCase.tt ?_ | with_reducible refine BCase.ff ?_); (conv => whnf)))) | (first | with_reducible refine BCase.not ?_ | with_reducible refine BCase.and ?_ | with_reducible refine BCase.or ?_) | ((with_reducible refine BCase.d (fun _ => ?_) (fun _ => ?_)) <;> ((conv => whnf); repeat ((first | with_reducible refine BCase.tt ?_ | with_reducible refine BCase.ff ?_); (conv => whnf))))))
      refine Ret.bool ?_
      rw [heq, beq_self_eq_true]
    · have e1 : cmpE a b ≠ 0 := by unfold cmpE; rw [if_neg (not_not_intro h1)]; exact h2
      have e2 : cmpR a b = 0 := if_neg e1
      rw [e2] at pc
      (((conv => whnf); repeat ((first | with_reducible refine BCase.tt ?_ | with_reducible refine BCase.ff ?_); (conv => whnf))); repeat' (first | ((first | with_reducible refine Wr.u8 ?_ | ((first | with_reducible refine Wr.ci ?s ?_ | with_reducible refine Wr.c3 ?s ?_ | with_reducible refine Wr.c6 ?s ?_ | with_reducible refine BCase.dt ?s ?_); case s => (first | omega | (simp only [lens, true_and, and_true]; (try omega); done))) | (with_reducible refine BCase.df ?s ?_; case s => (first | omega | (simp only [lens, true_and, and_true]; (try omega); done))) | (with_reducible refine Need.mk ?s ?_; case s => first | (first | omega | (simp only [lens, true_and, and_true]; (try omega); done)) | decide | kernel_rfl) | refine BCase.t (by decide) ?_ | refine BCase.f (by decide) ?_); ((conv => whnf); repeat ((first | with_reducible refine BCase.tt ?_ | with_reducible refine BCase.ff ?_); (conv => whnf)))) | ((refine CallP.pure _ rfl _ (ka) ?_); ((conv => whnf); repeat ((first | with_reducible refine BCase.tt ?_ | with_reducible refine BCase.ff ?_); (conv => whnf)))) | ((refine CallP.pure _ rfl _ (kb) ?_); ((conv => whnf); repeat ((first | with_reducible refine BCase.tt ?_ | with_reducible refine BCase.ff ?_); (conv => whnf)))) | ((refine CallP.pure _ rfl _ (pc) ?_); ((conv => whnf); repeat ((first | with_reducible refine BCase.tt ?_ | with_reducible refine BCase.ff ?_); (conv => whnf)))) | ((refine CallP.pure _ rfl _ (p_recbegun) ?_); ((conv => whnf); repeat ((first | with_reducible refine BCase.tt ?_ | with_reducible refine BCase.ff ?_); (conv => whnf)))) | ((with_reducible refine EmpOr.app ?_); ((conv => whnf); repeat ((first | with_reducible refine BCase.tt ?_ | with_reducible refine BCase.ff ?_); (conv => whnf)))) | (first | with_reducible refine BCase.not ?_ | with_reducible refine BCase.and ?_ | with_reducible refine BCase.or ?_) | ((with_reducible refine BCase.d (fun _ => ?_) (fun _ => ?_)) <;> ((conv => whnf); repeat ((first | with_reducible refine BCase.tt ?_ | with_reducible refine BCase.ff ?_); (conv => whnf))))))
      refine Ret.bool ?_
      simpa using e1
  · have e1 : cmpE a b ≠ 0 := by unfold cmpE; rw [if_pos h1]; exact h1
    have e2 : cmpR a b = 0 := if_neg e1
    rw [e2] at pc
    (((conv => whnf); repeat ((first | with_reducible refine BCase.tt ?_ | with_reducible refine BCase.ff ?_); (conv => whnf))); repeat' (first | ((first | with_reducible refine Wr.u8 ?_ | ((first | with_reducible refine Wr.ci ?s ?_ | with_reducible refine Wr.c3 ?s ?_ | with_reducible refine Wr.c6 ?s ?_ | with_reducible refine BCase.dt ?s ?_); case s => (first | omega | (simp only [lens, true_and, and_true]; (try omega); done))) | (with_reducible refine BCase.df ?s ?_; case s => (first | omega | (simp only [lens, true_and, and_true]; (try omega); done))) | (with_reducible refine Need.mk ?s ?_; case s => first | (first | omega | (simp only [lens, true_and, and_true]; (try omega); done)) | decide | kernel_rfl) | refine BCase.t (by decide) ?_ | refine BCase.f (by decide) ?_); ((conv => whnf); repeat ((first | with_reducible refine BCase.tt ?_ | with_reducible refine BCase.ff ?_); (conv => whnf)))) | ((refine CallP.pure _ rfl _ (ka) ?_); ((conv => whnf); repeat ((first | with_reducible refine BCase.tt ?_ | with_reducible refine BCase.ff ?_); (conv => whnf)))) | ((refine CallP.pure _ rfl _ (kb) ?_); ((conv => whnf); repeat ((first | with_reducible refine BCase.tt ?_ | with_reducible refine BCase.ff ?_); (conv => whnf)))) | ((refine CallP.pure _ rfl _ (pc) ?_); ((conv => whnf); repeat ((first | with_reducible refine BCase.tt ?_ | with_reducible refine BCase.ff ?_); (conv => whnf)))) | ((refine CallP.pure _ rfl _ (p_recbegun) ?_); ((conv => whnf); repeat ((first | with_reducible refine BCase.tt ?_ | with_reducible refine BCase.ff ?_); (conv => whnf)))) | ((with_reducible refine EmpOr.app ?_); ((conv => whnf); repeat ((first | with_reducible refine BCase.tt ?_ | with_reducible refine BCase.ff ?_); (conv => whnf)))) | (first | with_reducible refine BCase.not ?_ | with_reducible refine BCase.and ?_ | with_reducible refine BCase.or ?_) | ((with_reducible refine BCase.d (fun _ => ?_) (fun _ => ?_)) <;> ((conv => whnf); repeat ((first | with_reducible refine BCase.tt ?_ | with_reducible refine BCase.ff ?_); (conv => whnf))))))
    refine Ret.bool ?_
    simpa using e1
end Go.Proofs.Ytnlkfpgaehgpbaa.Pm
