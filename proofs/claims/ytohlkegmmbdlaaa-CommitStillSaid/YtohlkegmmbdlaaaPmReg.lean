/- One statement: its operations in the text's order stand for them in whatever order. -/
import Derived.Test.YtohlkegmmbdlaaaPmNew
import Derived.Still
namespace Go.Proofs.Ytohlkegmmbdlaaa.Pm
open Go.RowKit
set_option linter.unusedVariables false
set_option linter.unusedSimpArgs false

/-! ### what is to be shown, in the text's order -/
def dstP (nt : Nat) (d : Option Tmp) (v : PV) (e : Env) (K : Env → Prop) : Prop := match d with
  | none => K e
  | some t => match Nat.blt t nt with
    | true => K (upd e t v)
    | false => False
/-- truths that are known by now -/
abbrev Kn := List (Nat × Bool)
def knF : Kn → Nat → Option Bool
  | [], _ => none
  | (t, b) :: l, k => bif Nat.beq k t then some b else knF l k
def knDel (d : Option Tmp) (kn : Kn) : Kn := match d with
  | none => kn
  | some t => kn.filter fun p => !Nat.beq p.1 t
def guardP (ops : Array Oper) (o : Oper) (e : Env) (kn : Kn) (A B : Env → Kn → Prop) : Prop := match o.guard with
  | none => A e kn
  | some (j, want) => match ops[j]? with
    | some oj => match oj.dst with
      | some t => match knF kn t with
        | some b => match b, want with
          | true, true => A e kn
          | false, false => A e kn
          | true, false => B e kn
          | false, true => B e kn
        | none => match e t with
          | .d (.c (.v (.bool b))) => match want with
            | true => BCase b (A (upd e t (pBool true)) ((t, true) :: kn)) (B (upd e t (pBool false)) ((t, false) :: kn))
            | false => BCase b (B (upd e t (pBool true)) ((t, true) :: kn)) (A (upd e t (pBool false)) ((t, false) :: kn))
          | .tup [] => B e kn
          | _ => False
      | none => False
    | none => False
def opK (kn : Kn) (o : Op) : Op := match o with
  | .pick (.tmp t) a b => match knF kn t with
    | some true => .move a
    | some false => .move b
    | none => .pick (.tmp t) a b
  | o => o
abbrev Trace := List (List Nat × List Nat)
def keyOf (nt i : Nat) (o : Oper) : Nat := match o.dst with
  | some t => t
  | none => nt + 1 + i
def ksHas (k : Nat) : List Nat → Bool
  | [] => false
  | q :: r => bif Nat.beq q k then true else ksHas k r
/-- keys that are made are not in use -/
def newP (rf : Rf) (ks : List Nat) : Dl → Prop → Prop
  | [], A => A
  | (k, _) :: δ, A => match rfHas k rf with
    | true => newP rf ks δ A
    | false => match ksHas k ks with
      | true => False
      | false => newP rf ks δ A
def addKs : Dl → List Nat → (List Nat → Prop) → Prop
  | [], ks, K => K ks
  | (k, _) :: δ, ks, K => addKs δ (k :: ks) K
/-- what must hold where it panics -/
abbrev XT := Value → Env → Hp → List Nat → Prop
noncomputable def vcOps (P : Program) (nt : Nat) (ops : Array Oper) (l : List Oper) : Nat → Env → Hp → Kn → List Nat → Trace → XT → (Env → Hp → List Nat → Trace → Prop) → Prop :=
  List.rec (motive := fun _ => Nat → Env → Hp → Kn → List Nat → Trace → XT → (Env → Hp → List Nat → Trace → Prop) → Prop) (fun _ e h _ ks tr _ K => K e h ks tr)
    (fun o _ ih i e h kn ks tr X K => guardP ops o e kn
      (fun e kn => vcOp P (keyOf nt i o) o.type (opK kn o.op) (ev e) h (fun v δ rf => newP rf ks δ (dstP nt o.dst v e fun e' => addKs δ ks fun ks' => ih (i + 1) e' (Dl.app h δ) (knDel o.dst kn) ks' ((Dl.keys δ, rf.map Prod.fst) :: tr) X K)) (fun v h' => X v e h' ks))
      (fun e kn => dstP nt o.dst (.tup []) e fun e' => ih (i + 1) e' h (knDel o.dst kn) ks (([], []) :: tr) X K)) l
theorem vcOps_cons {P : Program} {nt : Nat} {ops : Array Oper} {o : Oper} {rest : List Oper} {i : Nat} {e : Env} {h : Hp} {kn : Kn} {ks : List Nat} {tr : Trace} {X : XT} {K : Env → Hp → List Nat → Trace → Prop} :
    vcOps P nt ops (o :: rest) i e h kn ks tr X K = guardP ops o e kn
      (fun e kn => vcOp P (keyOf nt i o) o.type (opK kn o.op) (ev e) h (fun v δ rf => newP rf ks δ (dstP nt o.dst v e fun e' => addKs δ ks fun ks' => vcOps P nt ops rest (i + 1) e' (Dl.app h δ) (knDel o.dst kn) ks' ((Dl.keys δ, rf.map Prod.fst) :: tr) X K)) (fun v h' => X v e h' ks))
      (fun e kn => dstP nt o.dst (.tup []) e fun e' => vcOps P nt ops rest (i + 1) e' h (knDel o.dst kn) ks (([], []) :: tr) X K) := rfl

/-! ### which operations must keep their order, and do -/
def meets (a b : List Nat) : Bool := a.any fun x => b.any fun y => Nat.beq x y
def optIn (d : Option Tmp) (l : List Nat) : Bool := match d with
  | none => false
  | some t => l.any fun y => Nat.beq t y
def clash (ops : Array Oper) (x y : Oper) (a b : List Nat × List Nat) : Bool :=
  optIn x.dst (y.looksAt ops) || optIn y.dst (x.looksAt ops) || (match x.dst with | some t => optIn y.dst [t] | none => false) || meets a.1 b.1 || meets a.1 b.2 || meets a.2 b.1
def dependsOn (y : Oper) (i : Nat) : Bool := y.after.toList.any fun e => Region.binds .any e && Nat.beq e.on i
/-- operation j against all ahead of it (the last one first) -/
def chkOne (ops : Array Oper) (y : Oper) (b : List Nat × List Nat) : Nat → List Oper → Trace → Bool
  | i + 1, x :: xs, a :: as_ => (!clash ops x y a b || dependsOn y i) && chkOne ops y b i xs as_
  | 0, [], [] => true
  | _, _, _ => false
/-- the last one first -/
def chkAll (ops : Array Oper) : Nat → List Oper → Trace → Bool
  | j + 1, y :: ys, b :: bs => (y.after.toList.all fun e => !Region.binds .any e || Nat.blt e.on j) && chkOne ops y b j ys bs && chkAll ops j ys bs
  | 0, [], [] => true
  | _, _, _ => false
def dstNodup : List Oper → Bool
  | [] => true
  | x :: xs => (xs.all fun y => match x.dst with | some t => !optIn y.dst [t] | none => true) && dstNodup xs
def noselL : List Oper → Bool
  | [] => true
  | o :: r => match o.op with | .select .. => false | _ => noselL r
theorem noselL_eq : ∀ l : List Oper, noselL l = l.all fun o => match o.op with | .select .. => false | _ => true
  | [] => rfl
  | o :: r => by
    unfold noselL
    rw [List.all_cons, ← noselL_eq r]
    split <;> simp
theorem nosel_of {ops : Array Oper} (h : noselL ops.toList = true) : Region.noSelect ops = true := by
  rw [noselL_eq] at h
  unfold Region.noSelect
  rw [← Array.all_toList]
  exact h
def chk (ops : Array Oper) (tr : Trace) : Bool := chkAll ops ops.size ops.toList.reverse tr && (noselL ops.toList && dstNodup ops.toList)

noncomputable def regionP (P : Program) (nt : Nat) (ops : Array Oper) (draw : Bool) (e : Env) (h : Hp) (ks : List Nat) (X : XT) (K : Env → Hp → List Nat → Prop) : Prop := match draw with
  | false => vcOps P nt ops ops.toList 0 e h [] ks [] X fun e' h' ks' _ => K e' h' ks'
  | true => vcOps P nt ops ops.toList 0 e h [] ks [] (fun _ _ _ _ => False) fun e' h' ks' tr => match chk ops tr with
    | true => K e' h' ks'
    | false => False

/-! ### sets of operations that were done -/
def updO (e : Env) (d : Option Tmp) (v : PV) : Env := match d with
  | none => e
  | some t => upd e t v
/-- what one operation does, in the text's order -/
structure Tr where
  v : PV
  δ : Dl
  rf : Rf
  w : Bool

section
variable (e0 : Env) (h0 : Hp) (dst : Nat → Option Tmp) (T : Nat → Tr)
def envF : Nat → (Nat → Bool) → Env
  | 0, _ => e0
  | n + 1, S => if S n then updO (envF n S) (dst n) (T n).v else envF n S
def hpF : Nat → (Nat → Bool) → Hp
  | 0, _ => h0
  | n + 1, S => if S n then Dl.app (hpF n S) (T n).δ else hpF n S

theorem updO_ne {e : Env} {d : Option Tmp} {v : PV} {t : Nat} (h : d ≠ some t) : updO e d v t = e t := by
  cases d with
  | none => rfl
  | some t' => exact upd_ne _ _ fun e => h (by rw [e])
theorem updO_comm {e : Env} {d d' : Option Tmp} {v v' : PV} (h : ∀ t, d = some t → d' ≠ some t) : updO (updO e d v) d' v' = updO (updO e d' v') d v := by
  cases d with
  | none => rfl
  | some t =>
    cases d' with
    | none => rfl
    | some t' => exact upd_comm _ _ _ fun e => h t rfl (by rw [e])
theorem app_at {k : Nat} : ∀ {δ : Dl} {h : Hp}, k ∉ Dl.keys δ → Dl.app h δ k = h k
  | [], _, _ => rfl
  | (q, b) :: δ, h, hk => by
    simp only [Dl.keys, List.map_cons, List.mem_cons, not_or] at hk
    show Dl.app (upd h q b) δ k = h k
    rw [app_at hk.2, upd_ne _ _ hk.1]
theorem app_congr {k : Nat} : ∀ {δ : Dl} {h h' : Hp}, h k = h' k → Dl.app h δ k = Dl.app h' δ k
  | [], _, _, e => e
  | (q, b) :: δ, h, h', e => by
    show Dl.app (upd h q b) δ k = Dl.app (upd h' q b) δ k
    refine app_congr ?_
    by_cases hq : k = q
    · subst hq; rw [upd_same, upd_same]
    · rw [upd_ne _ _ hq, upd_ne _ _ hq, e]
theorem app_hit {k : Nat} : ∀ {δ : Dl} {h h' : Hp}, k ∈ Dl.keys δ → Dl.app h δ k = Dl.app h' δ k
  | [], _, _, hk => by simp [Dl.keys] at hk
  | (q, b) :: δ, h, h', hk => by
    show Dl.app (upd h q b) δ k = Dl.app (upd h' q b) δ k
    by_cases hd : k ∈ Dl.keys δ
    · exact app_hit hd
    · simp only [Dl.keys, List.map_cons, List.mem_cons] at hk
      rcases hk with rfl | hk
      · exact app_congr (by rw [upd_same, upd_same])
      · exact absurd hk hd
theorem app_comm {h : Hp} {δ δ' : Dl} (hd : ∀ k ∈ Dl.keys δ, k ∉ Dl.keys δ') : Dl.app (Dl.app h δ) δ' = Dl.app (Dl.app h δ') δ := by
  funext k
  by_cases h1 : k ∈ Dl.keys δ
  · rw [app_at (hd k h1)]; exact app_hit h1
  · rw [app_at (δ := δ) h1]
    by_cases h2 : k ∈ Dl.keys δ'
    · exact app_hit h2
    · rw [app_at h2, app_at h2, app_at h1]

theorem envF_agree {S S' : Nat → Bool} {t : Tmp} : ∀ n, (∀ j, j < n → dst j = some t → S j = S' j) → envF e0 dst T n S t = envF e0 dst T n S' t
  | 0, _ => rfl
  | n + 1, h => by
    have ih := envF_agree n fun j hj => h j (by omega)
    unfold envF
    by_cases hd : dst n = some t
    · rw [h n (by omega) hd]
      split
      · rw [hd]; show upd _ t _ t = upd _ t _ t; rw [upd_same, upd_same]
      · exact ih
    · have u : ∀ e v, updO e (dst n) v t = e t := fun e v => updO_ne hd
      split <;> split <;> first | exact ih | (simp only [u]; exact ih)
theorem hpF_agree {S S' : Nat → Bool} {k : Nat} : ∀ n, (∀ j, j < n → k ∈ Dl.keys (T j).δ → S j = S' j) → hpF h0 T n S k = hpF h0 T n S' k
  | 0, _ => rfl
  | n + 1, h => by
    have ih := hpF_agree n fun j hj => h j (by omega)
    unfold hpF
    by_cases hd : k ∈ Dl.keys (T n).δ
    · rw [h n (by omega) hd]
      split
      · exact app_hit hd
      · exact ih
    · have u : ∀ hh, Dl.app hh (T n).δ k = hh k := fun hh => app_at hd
      split <;> split <;> first | exact ih | (simp only [u]; exact ih)
theorem envF_lt {i : Nat} : ∀ n, i ≤ n → ∀ t, envF e0 dst T n (fun j => decide (j < i)) t = envF e0 dst T i (fun _ => true) t
  | 0, h, t => by rw [show i = 0 by omega]; rfl
  | n + 1, h, t => by
    by_cases hi : i = n + 1
    · subst hi
      exact envF_agree e0 dst T _ fun j hj _ => by simp [hj]
    · rw [← envF_lt n (by omega) t]
      show (if (decide (n < i)) = true then updO (envF e0 dst T n (fun j => decide (j < i))) (dst n) (T n).v else envF e0 dst T n (fun j => decide (j < i))) t = _
      rw [if_neg (by simp; omega)]
theorem hpF_lt {i : Nat} : ∀ n, i ≤ n → ∀ k, hpF h0 T n (fun j => decide (j < i)) k = hpF h0 T i (fun _ => true) k
  | 0, h, t => by rw [show i = 0 by omega]; rfl
  | n + 1, h, t => by
    by_cases hi : i = n + 1
    · subst hi
      exact hpF_agree h0 T _ fun j hj _ => by simp [hj]
    · rw [← hpF_lt n (by omega) t]
      show (if (decide (n < i)) = true then Dl.app (hpF h0 T n (fun j => decide (j < i))) (T n).δ else hpF h0 T n (fun j => decide (j < i))) t = _
      rw [if_neg (by simp; omega)]
def addS (S : Nat → Bool) (i : Nat) : Nat → Bool := fun j => if j = i then true else S j
theorem envF_ins {S : Nat → Bool} {i : Nat} (hi : S i = false) : ∀ n, i < n → (∀ j, i < j → j < n → S j = true → ∀ t, dst j = some t → dst i ≠ some t) →
    envF e0 dst T n (addS S i) = updO (envF e0 dst T n S) (dst i) (T i).v
  | 0, h, _ => by omega
  | n + 1, h, hd => by
    by_cases hn : i = n
    · subst hn
      have e1 : envF e0 dst T i (addS S i) = envF e0 dst T i S := by
        funext t
        exact envF_agree e0 dst T i fun j hj _ => by simp [addS]; omega
      unfold envF
      rw [e1, hi]
      simp [addS]
    · have ih := envF_ins hi n (by omega) fun j h1 h2 => hd j h1 (by omega)
      unfold envF
      rw [ih]
      have e2 : addS S i n = S n := by simp [addS]; omega
      rw [e2]
      split
      · rename_i hs
        exact updO_comm fun t ht ht' => hd n (by omega) (by omega) hs t ht' ht
      · rfl
theorem hpF_ins {S : Nat → Bool} {i : Nat} (hi : S i = false) : ∀ n, i < n → (∀ j, i < j → j < n → S j = true → ∀ k ∈ Dl.keys (T i).δ, k ∉ Dl.keys (T j).δ) →
    hpF h0 T n (addS S i) = Dl.app (hpF h0 T n S) (T i).δ
  | 0, h, _ => by omega
  | n + 1, h, hd => by
    by_cases hn : i = n
    · subst hn
      have e1 : hpF h0 T i (addS S i) = hpF h0 T i S := by
        funext t
        exact hpF_agree h0 T i fun j hj _ => by simp [addS]; omega
      unfold hpF
      rw [e1, hi]
      simp [addS]
    · have ih := hpF_ins hi n (by omega) fun j h1 h2 => hd j h1 (by omega)
      unfold hpF
      rw [ih]
      have e2 : addS S i n = S n := by simp [addS]; omega
      rw [e2]
      split
      · rename_i hs
        exact app_comm (hd n (by omega) (by omega) hs)
      · rfl
end

end Go.Proofs.Ytohlkegmmbdlaaa.Pm

namespace Go.Proofs.Ytohlkegmmbdlaaa.Pm
open Go.RowKit
set_option linter.unusedVariables false

/-- the state within a statement: keys from N on stand for what its operations make -/
structure Mid (c : Ctx) (nt : Nat) (σ : Sg) (e : Env) (h : Hp) (a : Act) (w : World) : Prop extends St c nt σ e h a w

theorem st_put {c : Ctx} {nt : Nat} {σ σ' : Sg} {e : Env} {h h' : Hp} {a : Act} {w w' : World} {d : Option Tmp} {v : PV} {u : Value} (hs : St c nt σ e h a w) (ev : Evo σ σ' (fz c σ h w) (fz c σ' h' w') w w')
    (hw : SW c σ' h' w') (hv : PRep σ' (fz c σ' h' w') w' v u) (hd : ∀ t, d = some t → t < nt) : St c nt σ' (updO e d v) h' (a.put d u) w' where
  toSW := hw
  env := fun t => by
    cases d with
    | none => exact PRep.evo ev _ _ (hs.env t)
    | some t' =>
      have ht := hd t' rfl
      by_cases e1 : t = t'
      · subst e1
        show PRep _ _ _ (upd e t v t) _
        rw [upd_same]
        have : (a.put (some t) u).tmps.getD t undef = u := by
          simp [Act.put, hs.nt, ht]
        rw [this]; exact hv
      · show PRep _ _ _ (upd e t' v t) _
        rw [upd_ne _ _ e1]
        have : (a.put (some t') u).tmps.getD t undef = a.tmps.getD t undef := by
          simp [Act.put, Array.getElem?_setIfInBounds_ne (Ne.symm e1)]
        rw [this]; exact PRep.evo ev _ _ (hs.env t)
  defers := by cases d <;> exact hs.defers
  nt := by
    cases d with
    | none => exact hs.nt
    | some t' => simpa [Act.put] using hs.nt

theorem rep_undef {σ : Sg} {F : Fzn} {w : World} : PRep σ F w (.tup []) undef := by unfold PRep; exact ⟨[], rfl, by unfold PsRep; trivial⟩

theorem rep_ev {c : Ctx} {nt : Nat} {σ : Sg} {e : Env} {h : Hp} {a : Act} {w : World} (hs : St c nt σ e h a w) (x : Operand) : PRep σ (fz c σ h w) w (ev e x) (a.eval x) := by
  cases x with
  | tmp t => exact hs.env t
  | const v =>
    show PRep _ _ _ (constPV v) v
    unfold constPV
    split
    · rename_i cs
      cases hb : cs.toList.all Value.oneCell' with
      | false => simp only [cond_false]; unfold PRep; trivial
      | true =>
        simp only [cond_true]
        unfold PRep
        refine ⟨cs.toList, by simp, ?_⟩
        have : ∀ l : List Value, l.all Value.oneCell' = true → DsRep σ (fz c σ h w) w (l.map fun x => D.c (C.v x)) l := by
          intro l
          induction l with
          | nil => intro _; exact dsRep_nil
          | cons x l ih =>
            intro hl
            simp only [List.all_cons, Bool.and_eq_true] at hl
            exact dsRep_cons (by unfold DRep CRep; exact ⟨rfl, hl.1⟩) (ih hl.2)
        exact this _ hb
    · unfold PRep; trivial
    · rename_i h1 h2
      refine rep_of ?_
      cases v <;> first | rfl | exact absurd rfl (h1 _) | exact absurd rfl (h2 _)
  | global g => exact rep_of rfl
  | func f => exact rep_of rfl

def GuardIs (ops : Array Oper) (o : Oper) (e : Env) (b : Bool) : Prop := match o.guard with
  | none => b = true
  | some (j, want) => ∃ oj t, ops[j]? = some oj ∧ oj.dst = some t ∧ (e t = pBool (want == b) ∨ (b = false ∧ e t = .tup []))
def KnOk (e : Env) (kn : Kn) : Prop := ∀ t b, knF kn t = some b → e t = pBool b
theorem upd_id {e : Env} {t : Nat} {v : PV} (h : e t = v) : upd e t v = e := by
  funext j
  by_cases hj : j = t
  · subst hj; rw [upd_same, h]
  · rw [upd_ne _ _ hj]
theorem knOk_cons {e : Env} {kn : Kn} {t : Nat} {b : Bool} (hk : KnOk e kn) (h : e t = pBool b) : KnOk e ((t, b) :: kn) := by
  intro j b' hj
  unfold knF at hj
  cases hq : Nat.beq j t with
  | true => rw [hq, cond_true] at hj; cases hj; rw [Nat.eq_of_beq_eq_true hq]; exact h
  | false => rw [hq, cond_false] at hj; exact hk j b' hj
theorem knOk_upd {e : Env} {kn : Kn} {d : Option Tmp} {v : PV} (hk : KnOk e kn) : KnOk (updO e d v) (knDel d kn) := by
  cases d with
  | none => exact hk
  | some t =>
    intro j b hj
    have key : ∀ kn : Kn, knF (kn.filter fun p => !Nat.beq p.1 t) j = some b → j ≠ t ∧ knF kn j = some b := by
      intro kn
      induction kn with
      | nil => intro h; cases h
      | cons p kn ih =>
        obtain ⟨q, b'⟩ := p
        intro h
        rw [List.filter_cons] at h
        cases hq : Nat.beq q t with
        | true =>
          rw [hq] at h
          simp only [Bool.not_true, Bool.false_eq_true, if_false] at h
          obtain ⟨h1, h2⟩ := ih h
          refine ⟨h1, ?_⟩
          unfold knF
          have : Nat.beq j q = false := by rw [Bool.eq_false_iff]; intro e1; exact h1 ((Nat.eq_of_beq_eq_true e1).trans (Nat.eq_of_beq_eq_true hq))
          rw [this, cond_false]; exact h2
        | false =>
          rw [hq] at h
          simp only [Bool.not_false, if_true] at h
          unfold knF at h ⊢
          cases hjq : Nat.beq j q with
          | true =>
            rw [hjq, cond_true] at h
            refine ⟨?_, by rw [cond_true]; exact h⟩
            intro e1
            rw [← Nat.eq_of_beq_eq_true hjq, e1, Nat.beq_refl] at hq; cases hq
          | false =>
            rw [hjq, cond_false] at h
            obtain ⟨h1, h2⟩ := ih h
            exact ⟨h1, by rw [cond_false]; exact h2⟩
    obtain ⟨h1, h2⟩ := key kn hj
    show upd e t v j = _
    rw [upd_ne _ _ h1]; exact hk j b h2
theorem guardP_out {ops : Array Oper} {o : Oper} {e : Env} {kn : Kn} {A B : Env → Kn → Prop} (h : guardP ops o e kn A B) (hk : KnOk e kn) :
    (GuardIs ops o e true ∧ ∃ kn', KnOk e kn' ∧ A e kn') ∨ (GuardIs ops o e false ∧ ∃ kn', KnOk e kn' ∧ B e kn') := by
  unfold guardP at h
  unfold GuardIs
  split at h
  · rename_i hg; (try rw [hg]); exact .inl ⟨rfl, kn, hk, h⟩
  · rename_i j want hg
    try rw [hg]
    split at h
    · rename_i oj hj
      split at h
      · rename_i t ht
        split at h
        · rename_i b hb
          have hv := hk t b hb
          split at h
          · exact .inl ⟨⟨oj, t, hj, ht, .inl hv⟩, kn, hk, h⟩
          · exact .inl ⟨⟨oj, t, hj, ht, .inl hv⟩, kn, hk, h⟩
          · exact .inr ⟨⟨oj, t, hj, ht, .inl hv⟩, kn, hk, h⟩
          · exact .inr ⟨⟨oj, t, hj, ht, .inl hv⟩, kn, hk, h⟩
        · split at h
          · rename_i b hb
            have go : ∀ {C : Env → Kn → Prop}, C (upd e t (pBool b)) ((t, b) :: kn) → ∃ kn', KnOk e kn' ∧ C e kn' := by
              intro C hC
              rw [upd_id hb] at hC
              exact ⟨_, knOk_cons hk hb, hC⟩
            cases want with
            | true =>
              obtain ⟨h1, h2⟩ := h
              cases b with
              | true => exact .inl ⟨⟨oj, t, hj, ht, .inl hb⟩, go (h1 rfl)⟩
              | false => exact .inr ⟨⟨oj, t, hj, ht, .inl hb⟩, go (h2 rfl)⟩
            | false =>
              obtain ⟨h1, h2⟩ := h
              cases b with
              | true => exact .inr ⟨⟨oj, t, hj, ht, .inl hb⟩, go (h1 rfl)⟩
              | false => exact .inl ⟨⟨oj, t, hj, ht, .inl hb⟩, go (h2 rfl)⟩
          · rename_i hb; exact .inr ⟨⟨oj, t, hj, ht, .inr ⟨rfl, hb⟩⟩, kn, hk, h⟩
          · exact h.elim
      · exact h.elim
    · exact h.elim
theorem vcOpK_out {P : Program} {o : Oper} {key : Nat} {e : Env} {kn : Kn} {h : Hp} {K : OpK} {X : Value → Hp → Prop} (hk : KnOk e kn) (hv : vcOp P key o.type (opK kn o.op) (ev e) h K X) : Outc P o (ev e) h K X := by
  unfold opK at hv
  split at hv
  · rename_i t a b ho
    have go : ∀ (x : Operand) (c : Bool), e t = pBool c → x = (if c then a else b) → K (ev e x) [] [] → Outc P o (ev e) h K X := by
      intro x c hc hx hkx
      refine outc_val hkx fun σ F ac w hp => ⟨ac.eval x, ?_, ?_⟩
      · have h1 := hp (.tmp t) (by simp [ho, Op.operands])
        rw [show ev e (.tmp t) = pBool c from hc] at h1
        rw [hx]
        cases c <;> simp [execOp, ho, asBool, rep_v h1]
      · rw [hx]
        cases c
        · exact hp b (by simp [ho, Op.operands])
        · exact hp a (by simp [ho, Op.operands])
    split at hv
    · rename_i hq; exact go a true (hk t _ hq) rfl (force_out (K := fun v => K v [] []) (by unfold vcOp at hv; exact hv))
    · rename_i hq; exact go b false (hk t _ hq) rfl (force_out (K := fun v => K v [] []) (by unfold vcOp at hv; exact hv))
    · rw [← ho] at hv; exact vcOp_out hv
  · exact vcOp_out hv
theorem ksHas_out {k : Nat} : ∀ {ks : List Nat}, ksHas k ks = false → k ∉ ks
  | [], _, h => by cases h
  | q :: r, h, hm => by
    unfold ksHas at h
    cases hq : Nat.beq q k with
    | true => rw [hq] at h; cases h
    | false =>
      rw [hq, cond_false] at h
      rcases List.mem_cons.1 hm with rfl | hm
      · have := Nat.beq_refl k; rw [show Nat.beq k k = false from hq] at this; cases this
      · exact ksHas_out h hm
theorem newP_out {rf : Rf} {ks : List Nat} {A : Prop} : ∀ {δ : Dl}, newP rf ks δ A → A ∧ ∀ k ∈ Dl.keys δ, (∀ p ∈ rf, p.1 ≠ k) → k ∉ ks
  | [], h => ⟨h, by simp [Dl.keys]⟩
  | (k, b) :: δ, h => by
    unfold newP at h
    split at h
    · rename_i hq
      obtain ⟨h1, h2⟩ := newP_out h
      refine ⟨h1, fun k' hk' hp => ?_⟩
      simp only [Dl.keys, List.map_cons, List.mem_cons] at hk'
      rcases hk' with rfl | hk'
      · obtain ⟨p, p1, p2⟩ := rfHas_in hq
        exact absurd p2 (hp p p1)
      · exact h2 k' hk' hp
    · split at h
      · exact h.elim
      · rename_i hq
        obtain ⟨h1, h2⟩ := newP_out h
        refine ⟨h1, fun k' hk' hp => ?_⟩
        simp only [Dl.keys, List.map_cons, List.mem_cons] at hk'
        rcases hk' with rfl | hk'
        · exact ksHas_out hq
        · exact h2 k' hk' hp
theorem addKs_out : ∀ {δ : Dl} {ks : List Nat} {K : List Nat → Prop}, addKs δ ks K → ∃ ks', K ks' ∧ ∀ k, k ∉ ks' → k ∉ ks ∧ k ∉ Dl.keys δ
  | [], ks, K, h => ⟨ks, h, fun k hk => ⟨hk, by simp [Dl.keys]⟩⟩
  | (k, b) :: δ, ks, K, h => by
    unfold addKs at h
    obtain ⟨ks', h1, h2⟩ := addKs_out h
    refine ⟨ks', h1, fun k' hk' => ?_⟩
    obtain ⟨g1, g2⟩ := h2 k' hk'
    simp only [List.mem_cons, not_or] at g1
    exact ⟨g1.2, by simp only [Dl.keys, List.map_cons, List.mem_cons, not_or]; exact ⟨g1.1, g2⟩⟩

theorem wanted_of {ops : Array Oper} {o : Oper} {e : Env} {b : Bool} {σ : Sg} {F : Fzn} {w : World} {tmps : Array Value} (hg : GuardIs ops o e b) (he : ∀ t, PRep σ F w (e t) (tmps.getD t undef)) :
    Region.wanted o (yielded ops tmps) = b := by
  unfold GuardIs at hg
  unfold Region.wanted
  cases hgd : o.guard with
  | none => rw [hgd] at hg; rw [hg]
  | some p =>
    obtain ⟨j, want⟩ := p
    rw [hgd] at hg
    obtain ⟨oj, t, h1, h2, h3⟩ := hg
    have h4 := he t
    rcases h3 with h3 | ⟨rfl, h3⟩
    case inr =>
      rw [h3] at h4
      unfold PRep at h4
      obtain ⟨us, h5, h6⟩ := h4
      have h7 : us = [] := by
        cases us with
        | nil => rfl
        | cons x xs => unfold PsRep at h6; exact h6.elim
      subst h7
      have : yielded ops tmps j = none := by
        unfold yielded
        rw [Array.getD_eq_getD_getElem?] at h5
        cases hq : tmps[t]? with
        | none => simp [h1, h2, hq]
        | some x => rw [hq] at h5; simp at h5; simp [h1, h2, hq, h5]
      show (yielded ops tmps j == some want) = false
      rw [this]; rfl
    rw [h3] at h4
    have h5 := rep_v h4
    have h6 : tmps[t]? = some (.bool (want == b)) := by
      rw [Array.getD_eq_getD_getElem?] at h5
      cases hq : tmps[t]? with
      | none => rw [hq] at h5; simp [undef] at h5
      | some x => rw [hq] at h5; simp at h5; rw [h5]
    have : yielded ops tmps j = some (want == b) := by unfold yielded; simp [h1, h2, h6]
    show (yielded ops tmps j == some want) = b
    rw [this]
    cases want <;> cases b <;> rfl

theorem dstP_out {nt : Nat} {d : Option Tmp} {v : PV} {e : Env} {K : Env → Prop} (h : dstP nt d v e K) : K (updO e d v) ∧ ∀ t, d = some t → t < nt := by
  unfold dstP at h
  split at h
  · exact ⟨h, fun t ht => by cases ht⟩
  · rename_i t
    split at h
    · rename_i hb
      exact ⟨h, fun t' ht => by cases ht; exact Nat.le_of_ble_eq_true hb⟩
    · exact h.elim
theorem addKs_out2 : ∀ {δ : Dl} {ks : List Nat} {K : List Nat → Prop}, addKs δ ks K → ∃ ks', K ks' ∧ (∀ k, k ∉ ks' → k ∉ ks ∧ k ∉ Dl.keys δ) ∧ ∀ k, (k ∈ ks ∨ k ∈ Dl.keys δ) → k ∈ ks'
  | [], ks, K, h => ⟨ks, h, fun k hk => ⟨hk, by simp [Dl.keys]⟩, fun k hk => by simpa [Dl.keys] using hk⟩
  | (k, b) :: δ, ks, K, h => by
    unfold addKs at h
    obtain ⟨ks', h1, h2, h3⟩ := addKs_out2 h
    refine ⟨ks', h1, fun k' hk' => ?_, fun k' hk' => h3 k' ?_⟩
    · obtain ⟨g1, g2⟩ := h2 k' hk'
      simp only [List.mem_cons, not_or] at g1
      exact ⟨g1.2, by simp only [Dl.keys, List.map_cons, List.mem_cons, not_or]; exact ⟨g1.1, g2⟩⟩
    · simp only [Dl.keys, List.map_cons, List.mem_cons] at hk' ⊢
      rcases hk' with h | h | h
      · exact .inl (.inr h)
      · exact .inl (.inl h)
      · exact .inr h

/-- the text's order, walked -/
theorem plain_order {P : Program} {nt : Nat} {ops : Array Oper} {c : Ctx} (hc : c.Ok) {Q : Exit → Act → World → Prop} {X : XT} {K : Env → Hp → List Nat → Trace → Prop}
    (hpan : ∀ x e h ks σ a w, X x e h ks → St c nt σ e h a w → (∀ k, k ∉ ks → σ k = none) → Q (.panic [{ v := x, recovered := false }]) a w)
    (hfin : ∀ e h ks tr σ a w, K e h ks tr → St c nt σ e h a w → (∀ k, k ∉ ks → σ k = none) → Q .normal a w) :
    ∀ (rest : List Oper) (i : Nat) (e : Env) (h : Hp) (kn : Kn) (ks : List Nat) (tr : Trace) (σ : Sg) (a : Act) (w : World), vcOps P nt ops rest i e h kn ks tr X K → KnOk e kn → St c nt σ e h a w → (∀ k, k ∉ ks → σ k = none) →
      wpList P ops Q rest a w
  | [], i, e, h, kn, ks, tr, σ, a, w, hv, _, hs, hf => hfin e h ks tr σ a w hv hs hf
  | o :: rest, i, e, h, kn, ks, tr, σ, a, w, hv, hkn, hs, hf => by
    rw [vcOps_cons] at hv
    rcases guardP_out hv hkn with ⟨hg, kn', hkn', hv⟩ | ⟨hg, kn', hkn', hv⟩
    · have hw := wanted_of hg hs.env
      unfold wpList
      rw [if_pos hw]
      rcases vcOpK_out hkn' hv with ⟨v, δ, rf, hk, hrf, hsem⟩ | ⟨x, rf, hx, hrf, hsem⟩
      · obtain ⟨hk, hnew⟩ := newP_out hk
        obtain ⟨hk, hd⟩ := dstP_out hk
        obtain ⟨ks', hk, hks⟩ := addKs_out hk
        refine .inl (hsem c σ h a w hc hs.toSW (fun x _ => rep_ev hs x) hrf (fun k hk hp => hf k (hnew k hk hp)) _ _ ?_)
        intro u σ' w' ev hsw hpr hfr
        exact plain_order hc hpan hfin rest (i + 1) _ _ _ ks' _ σ' _ w' hk (knOk_upd hkn') (st_put hs ev hsw hpr hd) fun k hk' => hfr k (hks k hk').2 (hf k (hks k hk').1)
      · exact .inl (hsem c σ h a w hc hs.toSW (fun x _ => rep_ev hs x) hrf _ _ fun w' σ' ev hsw hfr => hpan x e _ ks σ' a w' hx ⟨hsw, fun t => PRep.evo ev _ _ (hs.env t), hs.defers, hs.nt⟩ fun k hk => hfr k (hf k hk))
    · have hw := wanted_of hg hs.env
      obtain ⟨hk, hd⟩ := dstP_out hv
      unfold wpList
      rw [if_neg (by rw [hw]; simp)]
      exact plain_order hc hpan hfin rest (i + 1) _ _ _ ks _ σ _ w hk (knOk_upd hkn') (st_put hs Evo.refl hs.toSW rep_undef hd) hf

end Go.Proofs.Ytohlkegmmbdlaaa.Pm

namespace Go.Proofs.Ytohlkegmmbdlaaa.Pm
open Go.RowKit
set_option linter.unusedVariables false

def dstOf (ops : Array Oper) (j : Nat) : Option Tmp := (ops[j]?).bind (·.dst)
section
variable (ops : Array Oper) (e0 : Env) (h0 : Hp) (T : Nat → Tr)
abbrev envT (i : Nat) : Env := envF e0 (dstOf ops) T i fun _ => true
abbrev hpT (i : Nat) : Hp := hpF h0 T i fun _ => true
def entry (i : Nat) : List Nat × List Nat := if (T i).w then (Dl.keys (T i).δ, (T i).rf.map Prod.fst) else ([], [])
def trT : Nat → Trace
  | 0 => []
  | i + 1 => entry T i :: trT i

/-- keys that are made -/
def Makes (τ : Tr) (k : Nat) : Prop := k ∈ Dl.keys τ.δ ∧ ∀ p ∈ τ.rf, p.1 ≠ k
/-- what is known of operation i -/
def OpOk (P : Program) (nt : Nat) (ks0 : List Nat) (i : Nat) (o : Oper) : Prop :=
  (∀ t, o.dst = some t → t < nt) ∧ GuardIs ops o (envT ops e0 T i) (T i).w ∧
  ((T i).w = false → (T i).v = .tup [] ∧ (T i).δ = [] ∧ (T i).rf = []) ∧
  ((T i).w = true → (∀ p ∈ (T i).rf, hpT h0 T i p.1 = some p.2) ∧ SemStep P o (ev (envT ops e0 T i)) (T i).v (T i).δ (T i).rf ∧ ∀ k, Makes (T i) k → k ∉ ks0 ∧ ∀ j, j < i → k ∉ Dl.keys (T j).δ)
end

section
variable {ops : Array Oper} {e0 : Env} {h0 : Hp} {T T' : Nat → Tr}
theorem envF_congr {S : Nat → Bool} : ∀ n, (∀ j, j < n → T j = T' j) → envF e0 (dstOf ops) T n S = envF e0 (dstOf ops) T' n S
  | 0, _ => rfl
  | n + 1, h => by unfold envF; rw [envF_congr n fun j hj => h j (by omega), h n (by omega)]
theorem hpF_congr {S : Nat → Bool} : ∀ n, (∀ j, j < n → T j = T' j) → hpF h0 T n S = hpF h0 T' n S
  | 0, _ => rfl
  | n + 1, h => by unfold hpF; rw [hpF_congr n fun j hj => h j (by omega), h n (by omega)]
theorem entry_congr {i : Nat} (h : ∀ j, j ≤ i → T j = T' j) : entry T i = entry T' i := by
  unfold entry; rw [h i (Nat.le_refl _)]
theorem trT_congr : ∀ n, (∀ j, j < n → T j = T' j) → trT T n = trT T' n
  | 0, _ => rfl
  | n + 1, h => by
    show _ :: _ = _ :: _
    rw [trT_congr n fun j hj => h j (by omega), entry_congr fun j hj => h j (by omega)]
theorem opOk_congr {P : Program} {nt i : Nat} {ks0 : List Nat} {o : Oper} (h : ∀ j, j ≤ i → T j = T' j) (hk : OpOk ops e0 h0 T P nt ks0 i o) : OpOk ops e0 h0 T' P nt ks0 i o := by
  unfold OpOk at hk ⊢
  unfold envT hpT at hk ⊢
  rw [← h i (Nat.le_refl _), ← envF_congr i fun j hj => h j (by omega), ← hpF_congr i fun j hj => h j (by omega)]
  refine ⟨hk.1, hk.2.1, hk.2.2.1, fun hw => ⟨(hk.2.2.2 hw).1, (hk.2.2.2 hw).2.1, fun k hm => ⟨((hk.2.2.2 hw).2.2 k hm).1, fun j hj => ?_⟩⟩⟩
  rw [← h j (by omega)]; exact ((hk.2.2.2 hw).2.2 k hm).2 j hj

/-- the record of a statement's operations in the text's order -/
theorem record {P : Program} {nt : Nat} {ks0 : List Nat} {K : Env → Hp → List Nat → Trace → Prop} : ∀ (rest : List Oper) (i : Nat) (kn : Kn) (ks : List Nat) (T : Nat → Tr), (∀ j, rest[j]? = ops[i + j]?) → (∀ j o, j < i → ops[j]? = some o → OpOk ops e0 h0 T P nt ks0 j o) →
    KnOk (envT ops e0 T i) kn → (∀ k, k ∉ ks → k ∉ ks0 ∧ ∀ j, j < i → k ∉ Dl.keys (T j).δ) → (∀ k, k ∈ ks0 → k ∈ ks) → (∀ k j, j < i → k ∈ Dl.keys (T j).δ → k ∈ ks) →
    vcOps P nt ops rest i (envT ops e0 T i) (hpT h0 T i) kn ks (trT T i) (fun _ _ _ _ => False) K →
    ∃ T' ks', (∀ j o, j < i + rest.length → ops[j]? = some o → OpOk ops e0 h0 T' P nt ks0 j o) ∧ (∀ k, k ∉ ks' → k ∉ ks0 ∧ ∀ j, j < i + rest.length → k ∉ Dl.keys (T' j).δ) ∧
      K (envT ops e0 T' (i + rest.length)) (hpT h0 T' (i + rest.length)) ks' (trT T' (i + rest.length))
  | [], i, kn, ks, T, hl, hT, _, hks, _, _, hv => ⟨T, ks, fun j o hj ho => hT j o (by simpa using hj) ho, fun k hk => ⟨(hks k hk).1, fun j hj => (hks k hk).2 j (by simpa using hj)⟩, hv⟩
  | o :: rest, i, kn, ks, T, hl, hT, hkn, hks, hm0, hm1, hv => by
    have ho : ops[i]? = some o := by have := hl 0; simpa using this.symm
    have hl' : ∀ j, rest[j]? = ops[i + 1 + j]? := fun j => by have := hl (j + 1); simpa [Nat.add_assoc, Nat.add_comm 1 j] using this
    rw [vcOps_cons] at hv
    have fin : ∀ (τ : Tr) (kn' : Kn) (ks' : List Nat), (∀ t, o.dst = some t → t < nt) → GuardIs ops o (envT ops e0 T i) τ.w → (τ.w = false → τ.v = .tup [] ∧ τ.δ = [] ∧ τ.rf = []) →
        (τ.w = true → (∀ p ∈ τ.rf, hpT h0 T i p.1 = some p.2) ∧ SemStep P o (ev (envT ops e0 T i)) τ.v τ.δ τ.rf ∧ ∀ k, Makes τ k → k ∉ ks) →
        KnOk (updO (envT ops e0 T i) o.dst τ.v) kn' → (∀ k, k ∉ ks' → k ∉ ks ∧ k ∉ Dl.keys τ.δ) → (∀ k, (k ∈ ks ∨ k ∈ Dl.keys τ.δ) → k ∈ ks') →
        vcOps P nt ops rest (i + 1) (updO (envT ops e0 T i) o.dst τ.v) (Dl.app (hpT h0 T i) τ.δ) kn' ks' ((if τ.w then (Dl.keys τ.δ, τ.rf.map Prod.fst) else ([], [])) :: trT T i) (fun _ _ _ _ => False) K →
        ∃ T' ks', (∀ j o, j < i + (rest.length + 1) → ops[j]? = some o → OpOk ops e0 h0 T' P nt ks0 j o) ∧ (∀ k, k ∉ ks' → k ∉ ks0 ∧ ∀ j, j < i + (rest.length + 1) → k ∉ Dl.keys (T' j).δ) ∧
          K (envT ops e0 T' (i + (rest.length + 1))) (hpT h0 T' (i + (rest.length + 1))) ks' (trT T' (i + (rest.length + 1))) := by
      intro τ kn' ks' k1 k2 k3 k4 k6 k7 k8 k5
      obtain ⟨T1, hT1⟩ : ∃ T1 : Nat → Tr, T1 = fun j => if j = i then τ else T j := ⟨_, rfl⟩
      have hold : ∀ j, j < i → T j = T1 j := fun j hj => by rw [hT1]; simp; omega
      have hnew : T1 i = τ := by rw [hT1]; simp
      have e1 : envT ops e0 T1 i = envT ops e0 T i := (envF_congr i hold).symm
      have e2 : hpT h0 T1 i = hpT h0 T i := (hpF_congr i hold).symm
      have e3 : trT T1 i = trT T i := (trT_congr i hold).symm
      have ok : OpOk ops e0 h0 T1 P nt ks0 i o := by
        unfold OpOk
        rw [e1, e2, hnew]
        refine ⟨k1, k2, k3, fun hw => ⟨(k4 hw).1, (k4 hw).2.1, fun k hm => ⟨fun h => (k4 hw).2.2 k hm (hm0 k h), fun j hj h => (k4 hw).2.2 k hm ?_⟩⟩⟩
        rw [← hold j hj] at h
        exact hm1 k j hj h
      have g1 : envT ops e0 T1 (i + 1) = updO (envT ops e0 T i) o.dst τ.v := by
        show (if true = true then updO (envT ops e0 T1 i) (dstOf ops i) (T1 i).v else _) = _
        rw [if_pos rfl, e1, hnew, show dstOf ops i = o.dst by unfold dstOf; rw [ho]; rfl]
      have g2 : hpT h0 T1 (i + 1) = Dl.app (hpT h0 T i) τ.δ := by
        show (if true = true then Dl.app (hpT h0 T1 i) (T1 i).δ else _) = _
        rw [if_pos rfl, e2, hnew]
      have g3 : trT T1 (i + 1) = (if τ.w then (Dl.keys τ.δ, τ.rf.map Prod.fst) else ([], [])) :: trT T i := by
        show entry T1 i :: trT T1 i = _
        rw [e3]
        unfold entry
        rw [hnew]
      have := record (ks0 := ks0) (K := K) rest (i + 1) kn' ks' T1 hl' (fun j o' hj ho' => by
        by_cases hji : j = i
        · subst hji; rw [ho] at ho'; cases ho'; exact ok
        · exact opOk_congr (fun q hq => hold q (by omega)) (hT j o' (by omega) ho')) (by rw [g1]; exact k6) (fun k hk => by
        obtain ⟨q1, q2⟩ := k7 k hk
        obtain ⟨q3, q4⟩ := hks k q1
        refine ⟨q3, fun j hj => ?_⟩
        by_cases hji : j = i
        · subst hji; rw [hnew]; exact q2
        · rw [← hold j (by omega)]; exact q4 j (by omega)) (fun k hk => k8 k (.inl (hm0 k hk))) (fun k j hj hk => by
        by_cases hji : j = i
        · subst hji; rw [hnew] at hk; exact k8 k (.inr hk)
        · rw [← hold j (by omega)] at hk; exact k8 k (.inl (hm1 k j (by omega) hk))) (by rw [g1, g2, g3]; exact k5)
      rw [show i + 1 + rest.length = i + (rest.length + 1) by omega] at this
      exact this
    rcases guardP_out hv hkn with ⟨hg, kn', hkn', hv⟩ | ⟨hg, kn', hkn', hv⟩
    · rcases vcOpK_out hkn' hv with ⟨v, δ, rf, hk, hrf, hsem⟩ | ⟨x, rf, hx, _⟩
      · obtain ⟨hk, hnew⟩ := newP_out hk
        obtain ⟨hk, hd⟩ := dstP_out hk
        obtain ⟨ks', hk, hks', hks2⟩ := addKs_out2 hk
        exact fin ⟨v, δ, rf, true⟩ _ ks' hd hg (fun h => by cases h) (fun _ => ⟨hrf, hsem, fun k hm => hnew k hm.1 hm.2⟩) (knOk_upd hkn') hks' hks2 hk
      · exact hx.elim
    · obtain ⟨hk, hd⟩ := dstP_out hv
      exact fin ⟨.tup [], [], [], false⟩ _ ks hd hg (fun _ => ⟨rfl, rfl, rfl⟩) (fun h => by cases h) (knOk_upd hkn') (fun k hk => ⟨hk, by simp [Dl.keys]⟩) (fun k hk => by simpa [Dl.keys] using hk) hk

/-! ### what the check tells -/
theorem chkOne_out {y : Oper} {b : List Nat × List Nat} : ∀ (i : Nat), i ≤ ops.size → chkOne ops y b i (ops.toList.take i).reverse (trT T i) = true → ∀ k x, k < i → ops[k]? = some x → clash ops x y (entry T k) b = true → dependsOn y k = true
  | 0, _, _, k, x, hk, _, _ => by omega
  | i + 1, hi, h, k, x, hk, hx, hc => by
    have hlt : i < ops.size := by omega
    have he : ops.toList.take (i + 1) = ops.toList.take i ++ [ops[i]] := by
      rw [List.take_succ_eq_append_getElem (by simpa using hlt)]; simp
    rw [he, List.reverse_append] at h
    unfold trT at h
    simp only [List.reverse_cons, List.reverse_nil, List.nil_append, List.singleton_append, chkOne, Bool.and_eq_true, Bool.or_eq_true, Bool.not_eq_true'] at h
    obtain ⟨h1, h2⟩ := h
    by_cases hki : k = i
    · subst hki
      have : x = ops[k] := by rw [Array.getElem?_eq_getElem hlt] at hx; exact (Option.some.inj hx).symm
      subst this
      rcases h1 with h1 | h1
      · rw [h1] at hc; cases hc
      · exact h1
    · exact chkOne_out i (by omega) h2 k x (by omega) hx hc
theorem chkAll_out : ∀ (n : Nat), n ≤ ops.size → chkAll ops n (ops.toList.take n).reverse (trT T n) = true → ∀ j y, j < n → ops[j]? = some y →
    (∀ e ∈ y.after, Region.binds .any e = true → e.on < j) ∧ ∀ k x, k < j → ops[k]? = some x → clash ops x y (entry T k) (entry T j) = true → dependsOn y k = true
  | 0, _, _, j, y, hj, _ => by omega
  | n + 1, hn, h, j, y, hj, hy => by
    have hlt : n < ops.size := by omega
    have he : ops.toList.take (n + 1) = ops.toList.take n ++ [ops[n]] := by
      rw [List.take_succ_eq_append_getElem (by simpa using hlt)]; simp
    rw [he, List.reverse_append] at h
    unfold trT at h
    simp only [List.reverse_cons, List.reverse_nil, List.nil_append, List.singleton_append, chkAll, Bool.and_eq_true] at h
    obtain ⟨⟨h1, h2⟩, h3⟩ := h
    by_cases hjn : j = n
    · subst hjn
      have : y = ops[j] := by rw [Array.getElem?_eq_getElem hlt] at hy; exact (Option.some.inj hy).symm
      subst this
      refine ⟨fun e hem hb => ?_, chkOne_out j (by omega) h2⟩
      have := List.all_eq_true.1 h1 e (Array.mem_def.1 hem)
      simp only [hb, Bool.not_true, Bool.false_or] at this
      exact Nat.le_of_ble_eq_true this
    · exact chkAll_out n (by omega) h3 j y (by omega) hy
theorem dependsOn_out {y : Oper} {k : Nat} (h : dependsOn y k = true) : ∃ e ∈ y.after, Region.binds .any e = true ∧ e.on = k := by
  unfold dependsOn at h
  obtain ⟨e, he, h1⟩ := List.any_eq_true.1 h
  simp only [Bool.and_eq_true] at h1
  exact ⟨e, Array.mem_def.2 he, h1.1, Nat.eq_of_beq_eq_true h1.2⟩
theorem meets_of {a b : List Nat} {k : Nat} (h1 : k ∈ a) (h2 : k ∈ b) : meets a b = true := by
  unfold meets
  exact List.any_eq_true.2 ⟨k, h1, List.any_eq_true.2 ⟨k, h2, Nat.beq_refl k⟩⟩
theorem optIn_of {d : Option Tmp} {l : List Nat} {t : Nat} (h1 : d = some t) (h2 : t ∈ l) : optIn d l = true := by
  subst h1
  exact List.any_eq_true.2 ⟨t, h2, Nat.beq_refl t⟩
end

end Go.Proofs.Ytohlkegmmbdlaaa.Pm

namespace Go.Proofs.Ytohlkegmmbdlaaa.Pm
open Go.RowKit
set_option linter.unusedVariables false

/-- how many are not done -/
def undone (S : Nat → Bool) : Nat → Nat
  | 0 => 0
  | n + 1 => undone S n + if S n then 0 else 1
theorem undone_zero {S : Nat → Bool} : ∀ n, undone S n = 0 → ∀ j, j < n → S j = true
  | 0, _, j, hj => by omega
  | n + 1, h, j, hj => by
    unfold undone at h
    by_cases hjn : j = n
    · subst hjn
      cases hs : S j with
      | true => rfl
      | false => rw [hs] at h; simp at h
    · exact undone_zero n (by omega) j (by omega)
theorem undone_same {S S' : Nat → Bool} : ∀ n, (∀ j, j < n → S j = S' j) → undone S n = undone S' n
  | 0, _ => rfl
  | n + 1, h => by unfold undone; rw [undone_same n fun j hj => h j (by omega), h n (by omega)]
theorem undone_add {S : Nat → Bool} {i : Nat} (hi : S i = false) : ∀ n, i < n → undone (addS S i) n + 1 = undone S n
  | 0, h => by omega
  | n + 1, h => by
    unfold undone
    by_cases hn : i = n
    · subst hn
      rw [hi, undone_same (S := addS S i) (S' := S) i fun j hj => by simp [addS]; omega]
      simp [addS]
    · have := undone_add hi n (by omega)
      have e : addS S i n = S n := by simp [addS]; omega
      rw [e]; omega

section
variable {P : Program} {nt : Nat} {ks0 : List Nat} {ops : Array Oper} {c : Ctx} {e0 : Env} {h0 : Hp} {T : Nat → Tr} {Q : Exit → Act → World → Prop}

/-- what stands when just the listed ones are done -/
structure Part (c : Ctx) (nt : Nat) (ks0 : List Nat) (ops : Array Oper) (e0 : Env) (h0 : Hp) (T : Nat → Tr) (σ : Sg) (S : Nat → Bool) (a : Act) (w : World) : Prop where
  st : St c nt σ (envF e0 (dstOf ops) T ops.size S) (hpF h0 T ops.size S) a w
  fresh : ∀ j k, j < ops.size → S j = false → Makes (T j) k → σ k = none
  past : ∀ k, k ∉ ks0 → (∀ j, j < ops.size → k ∉ Dl.keys (T j).δ) → σ k = none

theorem any_order (hc : c.Ok) (hns : Region.noSelect ops = true) (hok : ∀ j o, j < ops.size → ops[j]? = some o → OpOk ops e0 h0 T P nt ks0 j o) (hnd : ∀ i j t, i < ops.size → j < ops.size → dstOf ops i = some t → dstOf ops j = some t → i = j)
    (hchk : ∀ j y, j < ops.size → ops[j]? = some y → (∀ e ∈ y.after, Region.binds .any e = true → e.on < j) ∧ ∀ k x, k < j → ops[k]? = some x → clash ops x y (entry T k) (entry T j) = true → dependsOn y k = true)
    (hfin : ∀ σ a w, St c nt σ (envT ops e0 T ops.size) (hpT h0 T ops.size) a w → (∀ k, k ∉ ks0 → (∀ j, j < ops.size → k ∉ Dl.keys (T j).δ) → σ k = none) → Q .normal a w) :
    ∀ (fuel : Nat) (listed : Array Bool) (σ : Sg) (a : Act) (w : World), listed.size = ops.size → undone (fun j => listed.getD j false) ops.size ≤ fuel →
      (∀ j y, ops[j]? = some y → listed.getD j false = true → ∀ e ∈ y.after, Region.binds .any e = true → listed.getD e.on false = true) →
      Part c nt ks0 ops e0 h0 T σ (fun j => listed.getD j false) a w → wpAny P .any ops Q fuel listed a w := by
  -- all are done
  have done : ∀ (listed : Array Bool) (σ : Sg) (a : Act) (w : World), (∀ j, j < ops.size → listed.getD j false = true) → Part c nt ks0 ops e0 h0 T σ (fun j => listed.getD j false) a w → Q .normal a w := by
    intro listed σ a w hall hp
    refine hfin σ a w ?_ hp.past
    have e1 : envF e0 (dstOf ops) T ops.size (fun j => listed.getD j false) = envT ops e0 T ops.size := by
      funext t; exact envF_agree _ _ _ _ fun j hj _ => hall j hj
    have e2 : hpF h0 T ops.size (fun j => listed.getD j false) = hpT h0 T ops.size := by
      funext t; exact hpF_agree _ _ _ fun j hj _ => hall j hj
    have := hp.st
    rw [e1, e2] at this
    exact this
  have unl : ∀ (listed : Array Bool) (j : Nat), listed.size = ops.size → j < ops.size → listed.getD j true = listed.getD j false := by
    intro listed j h1 h2
    simp [Array.getD_eq_getD_getElem?, Array.getElem?_eq_getElem (show j < listed.size by omega)]
  -- none is ready: all are done
  have stuck : ∀ (listed : Array Bool), listed.size = ops.size → Region.ready .any ops listed = [] → ∀ j, j < ops.size → listed.getD j false = true := by
    intro listed hls hr j
    induction j using Nat.strongRecOn with
    | _ j ih =>
      intro hj
      cases hl : listed.getD j false with
      | true => rfl
      | false =>
        have : j ∈ Region.ready .any ops listed := by
          rw [mem_ready]
          refine ⟨by rw [unl listed j hls hj]; exact hl, ops[j], Array.getElem?_eq_getElem hj, fun e he hb => ?_⟩
          have hlt := (hchk j ops[j] hj (Array.getElem?_eq_getElem hj)).1 e he hb
          exact ih e.on hlt (by omega)
        rw [hr] at this
        cases this
  intro fuel
  induction fuel with
  | zero =>
    intro listed σ a w hls hu hd hp
    have hall := undone_zero ops.size (by omega : undone (fun j => listed.getD j false) ops.size = 0)
    refine ⟨?_, done listed σ a w hall hp⟩
    refine List.eq_nil_iff_forall_not_mem.2 fun j hj => ?_
    obtain ⟨h1, o, ho, _⟩ := mem_ready.1 hj
    have hjl := (Array.getElem?_eq_some_iff.1 ho).1
    rw [unl listed j hls hjl] at h1
    have := hall j hjl
    rw [h1] at this; cases this
  | succ fuel ih =>
    intro listed σ a w hls hu hd hp
    refine ⟨fun hr => done listed σ a w (stuck listed hls hr) hp, fun i hi => ?_⟩
    obtain ⟨h1, o, ho, hall⟩ := mem_ready.1 hi
    have hil := (Array.getElem?_eq_some_iff.1 ho).1
    rw [unl listed i hls hil] at h1
    obtain ⟨S, hS⟩ : ∃ S : Nat → Bool, S = fun j => listed.getD j false := ⟨_, rfl⟩
    have hSi : S i = false := by rw [hS]; exact h1
    have hSi' : S = fun j => listed.getD j false := hS
    rw [← hS] at hp hu
    -- those that clash with i: done, just if they are ahead of it
    have hclash : ∀ j x, j < ops.size → j ≠ i → ops[j]? = some x → (clash ops x o (entry T j) (entry T i) = true ∨ clash ops o x (entry T i) (entry T j) = true) → (j < i → S j = true) ∧ (i < j → S j = false) := by
      intro j x hj hne hx hcl
      refine ⟨fun hlt => ?_, fun hlt => ?_⟩
      · have hc1 : clash ops x o (entry T j) (entry T i) = true := by
          rcases hcl with hcl | hcl
          · exact hcl
          · unfold clash at hcl ⊢
            simp only [Bool.or_eq_true] at hcl ⊢
            have sym : ∀ {u v : List Nat}, meets u v = true → meets v u = true := by
              intro u v huv
              unfold meets at huv
              obtain ⟨p, hp, h2⟩ := List.any_eq_true.1 huv
              obtain ⟨q, hq, h3⟩ := List.any_eq_true.1 h2
              have := Nat.eq_of_beq_eq_true h3
              subst this
              exact meets_of hq hp
            have symd : (match o.dst with | some t => optIn x.dst [t] | none => false) = true → (match x.dst with | some t => optIn o.dst [t] | none => false) = true := by
              intro hq
              cases hod : o.dst with
              | none => rw [hod] at hq; cases hq
              | some t =>
                rw [hod] at hq
                cases hxd : x.dst with
                | none => rw [hxd] at hq; cases hq
                | some t' =>
                  rw [hxd] at hq
                  simp only [optIn, List.any_cons, List.any_nil, Bool.or_false] at hq ⊢
                  rw [Nat.eq_of_beq_eq_true hq]; exact Nat.beq_refl _
            rcases hcl with ((((hcl | hcl) | hcl) | hcl) | hcl) | hcl
            · exact .inl (.inl (.inl (.inl (.inr hcl))))
            · exact .inl (.inl (.inl (.inl (.inl hcl))))
            · exact .inl (.inl (.inl (.inr (symd hcl))))
            · exact .inl (.inl (.inr (sym hcl)))
            · exact .inr (sym hcl)
            · exact .inl (.inr (sym hcl))
        obtain ⟨e, he, hb, rfl⟩ := dependsOn_out ((hchk i o hil ho).2 j x hlt hx hc1)
        rw [hS]; exact hall e he hb
      · have hc1 : clash ops o x (entry T i) (entry T j) = true := by
          rcases hcl with hcl | hcl
          · unfold clash at hcl ⊢
            simp only [Bool.or_eq_true] at hcl ⊢
            have sym : ∀ {u v : List Nat}, meets u v = true → meets v u = true := by
              intro u v huv
              unfold meets at huv
              obtain ⟨p, hp, h2⟩ := List.any_eq_true.1 huv
              obtain ⟨q, hq, h3⟩ := List.any_eq_true.1 h2
              have := Nat.eq_of_beq_eq_true h3
              subst this
              exact meets_of hq hp
            have symd : (match x.dst with | some t => optIn o.dst [t] | none => false) = true → (match o.dst with | some t => optIn x.dst [t] | none => false) = true := by
              intro hq
              cases hod : x.dst with
              | none => rw [hod] at hq; cases hq
              | some t =>
                rw [hod] at hq
                cases hxd : o.dst with
                | none => rw [hxd] at hq; cases hq
                | some t' =>
                  rw [hxd] at hq
                  simp only [optIn, List.any_cons, List.any_nil, Bool.or_false] at hq ⊢
                  rw [Nat.eq_of_beq_eq_true hq]; exact Nat.beq_refl _
            rcases hcl with ((((hcl | hcl) | hcl) | hcl) | hcl) | hcl
            · exact .inl (.inl (.inl (.inl (.inr hcl))))
            · exact .inl (.inl (.inl (.inl (.inl hcl))))
            · exact .inl (.inl (.inl (.inr (symd hcl))))
            · exact .inl (.inl (.inr (sym hcl)))
            · exact .inr (sym hcl)
            · exact .inl (.inr (sym hcl))
          · exact hcl
        obtain ⟨e, he, hb, heq⟩ := dependsOn_out ((hchk j x hj hx).2 i o hlt ho hc1)
        cases hsj : S j with
        | false => rfl
        | true =>
          have := hd j x hx (by rw [hS] at hsj; exact hsj) e he hb
          rw [heq, h1] at this
          cases this
    obtain ⟨k1, k2, k3, k4⟩ := hok i o hil ho
    have hdst : dstOf ops i = o.dst := by unfold dstOf; rw [ho]; rfl
    -- what i looks at is as in the text's order
    have henv : ∀ t, t ∈ o.looksAt ops → envF e0 (dstOf ops) T ops.size S t = envT ops e0 T i t := by
      intro t ht
      refine Eq.trans ?_ (envF_lt e0 (dstOf ops) T ops.size (Nat.le_of_lt hil) t)
      refine envF_agree _ _ _ _ fun j hj hdj => ?_
      by_cases hji : j = i
      · subst hji; rw [hSi]; simp
      · have hx : ops[j]? = some ops[j] := Array.getElem?_eq_getElem hj
        have hdx : ops[j].dst = some t := by unfold dstOf at hdj; rw [hx] at hdj; exact hdj
        have hcl : clash ops ops[j] o (entry T j) (entry T i) = true := by
          unfold clash; rw [optIn_of hdx ht]; simp
        obtain ⟨g1, g2⟩ := hclash j ops[j] hj hji hx (.inl hcl)
        rcases Nat.lt_or_gt_of_ne hji with hlt | hlt
        · rw [g1 hlt]; simp [hlt]
        · rw [g2 hlt]; simp; omega
    have hent : ∀ j x, ops[j]? = some x → (T j).w = true → entry T j = (Dl.keys (T j).δ, (T j).rf.map Prod.fst) := by
      intro j x hx hw
      unfold entry; rw [hw]; rfl
    -- keys of others
    have hkeysw : ∀ j k, j < ops.size → k ∈ Dl.keys (T j).δ → (T j).w = true := by
      intro j k hj hk
      cases hw : (T j).w with
      | true => rfl
      | false =>
        have := ((hok j ops[j] hj (Array.getElem?_eq_getElem hj)).2.2.1 hw).2.1
        rw [this] at hk; simp [Dl.keys] at hk
    have hlook : ∀ x ∈ o.op.operands, ∀ t, x = .tmp t → t ∈ o.looksAt ops := by
      intro x hx t ht
      subst ht
      exact List.mem_append_left _ (List.mem_filterMap.2 ⟨.tmp t, by simpa using hx, rfl⟩)
    have hev : ∀ x ∈ o.op.operands, ev (envF e0 (dstOf ops) T ops.size S) x = ev (envT ops e0 T i) x := by
      intro x hx
      cases x with
      | tmp t => exact henv t (hlook _ hx t rfl)
      | const v => rfl
      | global g => rfl
      | func f => rfl
    have hguard : GuardIs ops o (envF e0 (dstOf ops) T ops.size S) (T i).w := by
      unfold GuardIs at k2 ⊢
      cases hg : o.guard with
      | none => rw [hg] at k2; exact k2
      | some p =>
        obtain ⟨j, want⟩ := p
        rw [hg] at k2
        obtain ⟨oj, t, q1, q2, q3⟩ := k2
        refine ⟨oj, t, q1, q2, ?_⟩
        rw [henv t (List.mem_append_right _ (by rw [hg]; simp [q1, q2]))]
        exact q3
    have hwant := wanted_of hguard hp.st.env
    have hSadd : (fun j => (listed.setIfInBounds i true).getD j false) = addS S i := by
      funext j
      rw [hS]
      by_cases hji : j = i
      · subst hji; simp [addS, Array.getD_eq_getD_getElem?, hls, hil]
      · simp [addS, hji, Array.getD_eq_getD_getElem?, Array.getElem?_setIfInBounds_ne (Ne.symm hji)]
    -- the keys that i looks at are as in the text's order
    have hhp : (T i).w = true → ∀ p ∈ (T i).rf, hpF h0 T ops.size S p.1 = some p.2 := by
      intro hw p hpm
      obtain ⟨g1, g2, g3⟩ := k4 hw
      rw [← g1 p hpm]
      show hpF h0 T ops.size S p.1 = hpF h0 T i (fun _ => true) p.1
      refine Eq.trans ?_ (hpF_lt h0 T ops.size (Nat.le_of_lt hil) p.1)
      refine hpF_agree _ _ _ fun j hj hkj => ?_
      by_cases hji : j = i
      · subst hji; rw [hSi]; simp
      · have hx : ops[j]? = some ops[j] := Array.getElem?_eq_getElem hj
        have hcl : clash ops ops[j] o (entry T j) (entry T i) = true := by
          unfold clash
          rw [hent i o ho hw, hent j _ hx (hkeysw j _ hj hkj), meets_of (b := (T i).rf.map Prod.fst) hkj (List.mem_map_of_mem hpm)]
          simp
        obtain ⟨q1, q2⟩ := hclash j ops[j] hj hji hx (.inl hcl)
        rcases Nat.lt_or_gt_of_ne hji with hlt | hlt
        · rw [q1 hlt]; simp [hlt]
        · rw [q2 hlt]; simp; omega
    -- the next state
    have next : ∀ (σ' : Sg) (u : Value) (w' : World), Evo σ σ' (fz c σ (hpF h0 T ops.size S) w) (fz c σ' (Dl.app (hpF h0 T ops.size S) (T i).δ) w') w w' → SW c σ' (Dl.app (hpF h0 T ops.size S) (T i).δ) w' →
        PRep σ' (fz c σ' (Dl.app (hpF h0 T ops.size S) (T i).δ) w') w' (T i).v u → (∀ k, k ∉ Dl.keys (T i).δ → σ k = none → σ' k = none) → wpAny P .any ops Q fuel (listed.setIfInBounds i true) (a.put o.dst u) w' := by
      intro σ' u w' ev hsw hpr hfr
      refine ih (listed.setIfInBounds i true) σ' _ w' (by simpa using hls) ?_ ?_ ?_
      · rw [hSadd]
        have := undone_add hSi ops.size hil
        omega
      · intro j y hy hl e he hb
        have hl' : addS S i j = true := by rw [← hSadd]; exact hl
        have goal : addS S i e.on = true := by
          by_cases hji : j = i
          · subst hji
            rw [ho] at hy; cases hy
            unfold addS
            split
            · rfl
            · rw [hS]; exact hall e he hb
          · have hsj : S j = true := by simpa [addS, hji] using hl'
            have := hd j y hy (by rw [hS] at hsj; exact hsj) e he hb
            unfold addS
            split
            · rfl
            · rw [hS]; exact this
        rw [← hSadd] at goal
        exact goal
      · rw [hSadd]
        have e1 : envF e0 (dstOf ops) T ops.size (addS S i) = updO (envF e0 (dstOf ops) T ops.size S) o.dst (T i).v := by
          rw [envF_ins e0 (dstOf ops) T hSi ops.size hil, hdst]
          intro j hij hj hsj t htj hti
          have hx : ops[j]? = some ops[j] := Array.getElem?_eq_getElem hj
          have hdx : ops[j].dst = some t := by unfold dstOf at htj; rw [hx] at htj; exact htj
          rw [hdst] at hti
          have hcl : clash ops o ops[j] (entry T i) (entry T j) = true := by
            unfold clash
            rw [hti, hdx]
            simp [optIn]
          have := (hclash j ops[j] hj (by omega) hx (.inr hcl)).2 hij
          rw [this] at hsj; cases hsj
        have e2 : hpF h0 T ops.size (addS S i) = Dl.app (hpF h0 T ops.size S) (T i).δ := by
          refine hpF_ins h0 T hSi ops.size hil fun j hij hj hsj k hki hkj => ?_
          have hx : ops[j]? = some ops[j] := Array.getElem?_eq_getElem hj
          have hcl : clash ops o ops[j] (entry T i) (entry T j) = true := by
            unfold clash
            rw [hent i o ho (hkeysw i k hil hki), hent j _ hx (hkeysw j k hj hkj), meets_of hki hkj]
            simp
          have := (hclash j ops[j] hj (by omega) hx (.inr hcl)).2 hij
          rw [this] at hsj; cases hsj
        refine ⟨?_, fun j k hj hsj hm => ?_, fun k hk hkj => hfr k (hkj i hil) (hp.past k hk hkj)⟩
        · rw [e1, e2]; exact st_put hp.st ev hsw hpr k1
        · have hji : j ≠ i := by rintro rfl; simp [addS] at hsj
          have hσk := hp.fresh j k hj (by simpa [addS, hji] using hsj) hm
          refine hfr _ (fun hmem => ?_) hσk
          have hw := hkeysw i k hil hmem
          have hwj := hkeysw j k hj hm.1
          obtain ⟨_, _, g3⟩ := k4 hw
          obtain ⟨oj, hoj⟩ : ∃ oj, ops[j]? = some oj := ⟨ops[j], Array.getElem?_eq_getElem hj⟩
          obtain ⟨_, _, g3'⟩ := (hok j oj hj hoj).2.2.2 hwj
          -- a key that is looked at is there
          have hno : ∀ p ∈ (T i).rf, p.1 ≠ k := by
            rintro ⟨q, b⟩ hp' rfl
            have h8 := hhp hw (q, b) hp'
            have h9 := hp_none hp.st.toSW hσk
            simp only at h8
            rw [h9] at h8; cases h8
          rcases Nat.lt_or_gt_of_ne hji with hlt | hlt
          · exact (g3 k ⟨hmem, hno⟩).2 j hlt hm.1
          · exact (g3' k hm).2 i hlt hmem
    unfold wpOp
    rw [ho]
    simp only [hwant]
    cases hw : (T i).w with
    | true =>
      rw [if_pos rfl]
      obtain ⟨g1, g2, g3⟩ := k4 hw
      have hhp := hhp hw
      refine .inl (g2 c σ _ a w hc hp.st.toSW (fun x hx => ?_) hhp (fun k hk hp' => hp.fresh i k hil hSi ⟨hk, hp'⟩) _ _ fun u σ' w' ev hsw hpr hfr => next σ' u w' ev hsw hpr hfr)
      rw [← hev x hx]
      exact rep_ev hp.st x
    | false =>
      rw [if_neg (by simp)]
      obtain ⟨g1, g2, g3⟩ := k3 hw
      have := next σ undef w
      rw [g1, g2] at this
      exact this Evo.refl hp.st.toSW rep_undef (fun _ _ h => h)
end

theorem dstNodup_out {ops : Array Oper} (h : dstNodup ops.toList = true) : ∀ i j t, i < ops.size → j < ops.size → dstOf ops i = some t → dstOf ops j = some t → i = j := by
  have key : ∀ (l : List Oper), dstNodup l = true → ∀ (i j : Nat) (t : Tmp) (x y : Oper), i < j → l[i]? = some x → l[j]? = some y → x.dst = some t → y.dst = some t → False := by
    intro l
    induction l with
    | nil => intro _ i j t x y _ h1; simp at h1
    | cons z l ih =>
      intro hd i j t x y hij h1 h2 h3 h4
      unfold dstNodup at hd
      simp only [Bool.and_eq_true] at hd
      cases j with
      | zero => omega
      | succ j =>
        simp only [List.getElem?_cons_succ] at h2
        cases i with
        | zero =>
          simp only [List.getElem?_cons_zero, Option.some.injEq] at h1
          subst h1
          have := List.all_eq_true.1 hd.1 y (List.mem_of_getElem? h2)
          rw [h3, h4] at this
          simp [optIn] at this
        | succ i =>
          simp only [List.getElem?_cons_succ] at h1
          exact ih hd.2 i j t x y (by omega) h1 h2 h3 h4
  intro i j t hi hj h1 h2
  have hx : ops.toList[i]? = some ops[i] := by simp [hi]
  have hy : ops.toList[j]? = some ops[j] := by simp [hj]
  unfold dstOf at h1 h2
  rw [Array.getElem?_eq_getElem hi] at h1
  rw [Array.getElem?_eq_getElem hj] at h2
  rcases Nat.lt_trichotomy i j with hlt | heq | hlt
  · exact (key _ h i j t _ _ hlt hx hy h1 h2).elim
  · exact heq
  · exact (key _ h j i t _ _ hlt hy hx h2 h1).elim

/-- one statement -/
theorem region_out {P : Program} {nt id : Nat} {ops : Array Oper} {draw : Bool} {e : Env} {h : Hp} {ks : List Nat} {X : XT} {K : Env → Hp → List Nat → Prop} {c : Ctx} (hc : c.Ok) (hm : P.follows .mixedOrders = true) {Q : Exit → Act → World → Prop} {σ : Sg} {a : Act} {w : World}
    (hv : regionP P nt ops draw e h ks X K) (hpan : ∀ x e h ks σ a w, X x e h ks → St c nt σ e h a w → (∀ k, k ∉ ks → σ k = none) → Q (.panic [{ v := x, recovered := false }]) a w) (hs : St c nt σ e h a w) (hf : ∀ k, k ∉ ks → σ k = none)
    (hfin : ∀ e h ks σ a w, K e h ks → St c nt σ e h a w → (∀ k, k ∉ ks → σ k = none) → Q .normal a w) : (Code.region id ops draw).wp P Q a w := by
  unfold regionP at hv
  split at hv
  · exact wp_region_list (plain_order hc hpan (fun e h ks _ σ a w hk hs hf => hfin e h ks σ a w hk hs hf) ops.toList 0 e h [] ks [] σ a w hv (fun t b h => by cases h) hs hf)
  · obtain ⟨T, ks', hT, hks, hk⟩ := record (ops := ops) (e0 := e) (h0 := h) (P := P) (nt := nt) (ks0 := ks) ops.toList 0 [] ks (fun _ => ⟨.any, [], [], false⟩) (by simp) (by intro j o hj; omega) (fun t b h => by cases h) (fun k hk => ⟨hk, by intro j hj; omega⟩) (fun _ h => h) (fun k j hj => by omega) hv
    simp only [Nat.zero_add, Array.length_toList] at hT hk hks
    split at hk
    · rename_i hchk
      unfold chk at hchk
      simp only [Bool.and_eq_true] at hchk
      have hall := chkAll_out (T := T) ops.size (Nat.le_refl _) (by
        rw [List.take_of_length_le (by simp)]; exact hchk.1)
      refine wp_region_any hm (any_order hc (nosel_of hchk.2.1) hT (dstNodup_out hchk.2.2) hall (fun σ a w hs hf => hfin _ _ ks' σ a w hk hs fun k hk' => hf k (hks k hk').1 (hks k hk').2) ops.size _ σ a w.drew (by simp) ?_ ?_ ?_)
      · have : ∀ n, undone (fun j => (Array.replicate ops.size false).getD j false) n ≤ n := by
          intro n
          induction n with
          | zero => exact Nat.le_refl _
          | succ n ih => unfold undone; split <;> omega
        exact this _
      · intro j y hy hl
        simp [Array.getD_eq_getD_getElem?, Array.getElem?_replicate] at hl
        split at hl <;> simp at hl
      · have hsz : (fun j => (Array.replicate ops.size false).getD j false) = fun _ => false := by
          funext j
          simp only [Array.getD_eq_getD_getElem?, Array.getElem?_replicate]
          split <;> rfl
        rw [hsz]
        have e1 : ∀ n, envF e (dstOf ops) T n (fun _ => false) = e := by
          intro n
          induction n with
          | zero => rfl
          | succ n ih => unfold envF; simp [ih]
        have e2 : ∀ n, hpF h T n (fun _ => false) = h := by
          intro n
          induction n with
          | zero => rfl
          | succ n ih => unfold hpF; simp [ih]
        refine ⟨?_, fun j t hj _ hdj => ?_, fun k hk _ => hf k hk⟩
        · rw [e1, e2]
          have hb : Below w.heap.size w w.drew := (Below.refl _ _).drew
          have ev := evo_below hs.toSW hb
          exact ⟨sw_below hs.toSW hb, fun t => PRep.evo ev _ _ (hs.env t), hs.defers, hs.nt⟩
        · obtain ⟨oj, hoj⟩ : ∃ oj, ops[j]? = some oj := ⟨ops[j], Array.getElem?_eq_getElem hj⟩
          obtain ⟨_, _, q3, q4⟩ := hT j oj hj hoj
          cases hw : (T j).w with
          | true => exact hf t ((q4 hw).2.2 t hdj).1
          | false => have := hdj.1; rw [(q3 hw).2.1] at this; simp [Dl.keys] at this
    · exact hk.elim

end Go.Proofs.Ytohlkegmmbdlaaa.Pm
