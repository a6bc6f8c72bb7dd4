/- One statement: its operations in the text's order stand for them in whatever order. -/
import Derived.Test.YthogcgnhhcbkkaaDoorPmSim8
import Derived.Still
namespace Go.Proofs.YthogcgnhhcbkkaaDoor.Pm
open Go.RowKit
set_option linter.unusedVariables false

/-! ### what is to be shown, in the text's order -/
def dstP (nt : Nat) (d : Option Tmp) (v : PV) (e : Env) (K : Env → Prop) : Prop := match d with
  | none => K e
  | some t => match Nat.blt t nt with
    | true => K (upd e t v)
    | false => False
/-- truths that are known by now -/
abbrev Kn := List (Nat × Bool)
def knF : Kn → Nat → Option Bool
  | [], _ => none
  | (t, b) :: l, k => bif Nat.beq k t then some b else knF l k
def knDel (d : Option Tmp) (kn : Kn) : Kn := match d with
  | none => kn
  | some t => kn.filter fun p => !Nat.beq p.1 t
def guardP (ops : Array Oper) (o : Oper) (e : Env) (kn : Kn) (A B : Env → Kn → Prop) : Prop := match o.guard with
  | none => A e kn
  | some (j, want) => match ops[j]? with
    | some oj => match oj.dst with
      | some t => match knF kn t with
        | some b => match b, want with
          | true, true => A e kn
          | false, false => A e kn
          | true, false => B e kn
          | false, true => B e kn
        | none => match e t with
          | .d (.c (.v (.bool b))) => match want with
            | true => BCase b (A (upd e t (pBool true)) ((t, true) :: kn)) (B (upd e t (pBool false)) ((t, false) :: kn))
            | false => BCase b (B (upd e t (pBool true)) ((t, true) :: kn)) (A (upd e t (pBool false)) ((t, false) :: kn))
          | .tup [] => B e kn
          | _ => False
      | none => False
    | none => False
def opK (kn : Kn) (o : Op) : Op := match o with
  | .pick (.tmp t) a b => match knF kn t with
    | some true => .move a
    | some false => .move b
    | none => .pick (.tmp t) a b
  | o => o
abbrev Trace := List (List Nat × List Nat)
def keyOf (nt i : Nat) (o : Oper) : Nat := match o.dst with
  | some t => t
  | none => nt + 1 + i
def ksHas (k : Nat) : List Nat → Bool
  | [] => false
  | q :: r => bif Nat.beq q k then true else ksHas k r
/-- keys that are made are not in use -/
def newP (rf : Rf) (ks : List Nat) : Dl → Prop → Prop
  | [], A => A
  | (k, _) :: δ, A => match rfHas k rf with
    | true => newP rf ks δ A
    | false => match ksHas k ks with
      | true => False
      | false => newP rf ks δ A
def addKs : Dl → List Nat → (List Nat → Prop) → Prop
  | [], ks, K => K ks
  | (k, _) :: δ, ks, K => addKs δ (k :: ks) K
noncomputable def vcOps (P : Program) (nt : Nat) (ops : Array Oper) (l : List Oper) : Nat → Env → Hp → Kn → List Nat → Trace → (Value → Prop) → (Env → Hp → List Nat → Trace → Prop) → Prop :=
  List.rec (motive := fun _ => Nat → Env → Hp → Kn → List Nat → Trace → (Value → Prop) → (Env → Hp → List Nat → Trace → Prop) → Prop) (fun _ e h _ ks tr _ K => K e h ks tr)
    (fun o _ ih i e h kn ks tr X K => guardP ops o e kn
      (fun e kn => vcOp P (keyOf nt i o) o.type (opK kn o.op) (ev e) h (fun v δ rf => newP rf ks δ (dstP nt o.dst v e fun e' => addKs δ ks fun ks' => ih (i + 1) e' (Dl.app h δ) (knDel o.dst kn) ks' ((Dl.keys δ, rf.map Prod.fst) :: tr) X K)) X)
      (fun e kn => dstP nt o.dst (.tup []) e fun e' => ih (i + 1) e' h (knDel o.dst kn) ks (([], []) :: tr) X K)) l
theorem vcOps_cons {P : Program} {nt : Nat} {ops : Array Oper} {o : Oper} {rest : List Oper} {i : Nat} {e : Env} {h : Hp} {kn : Kn} {ks : List Nat} {tr : Trace} {X : Value → Prop} {K : Env → Hp → List Nat → Trace → Prop} :
    vcOps P nt ops (o :: rest) i e h kn ks tr X K = guardP ops o e kn
      (fun e kn => vcOp P (keyOf nt i o) o.type (opK kn o.op) (ev e) h (fun v δ rf => newP rf ks δ (dstP nt o.dst v e fun e' => addKs δ ks fun ks' => vcOps P nt ops rest (i + 1) e' (Dl.app h δ) (knDel o.dst kn) ks' ((Dl.keys δ, rf.map Prod.fst) :: tr) X K)) X)
      (fun e kn => dstP nt o.dst (.tup []) e fun e' => vcOps P nt ops rest (i + 1) e' h (knDel o.dst kn) ks (([], []) :: tr) X K) := rfl

/-! ### which operations must keep their order, and do -/
def meets (a b : List Nat) : Bool := a.any fun x => b.any fun y => Nat.beq x y
def optIn (d : Option Tmp) (l : List Nat) : Bool := match d with
  | none => false
  | some t => l.any fun y => Nat.beq t y
def clash (ops : Array Oper) (x y : Oper) (a b : List Nat × List Nat) : Bool :=
  optIn x.dst (y.looksAt ops) || optIn y.dst (x.looksAt ops) || (match x.dst with | some t => optIn y.dst [t] | none => false) || meets a.1 b.1 || meets a.1 b.2 || meets a.2 b.1
def dependsOn (y : Oper) (i : Nat) : Bool := y.after.toList.any fun e => Region.binds .any e && Nat.beq e.on i
/-- operation j against all ahead of it (the last one first) -/
def chkOne (ops : Array Oper) (y : Oper) (b : List Nat × List Nat) : Nat → List Oper → Trace → Bool
  | i + 1, x :: xs, a :: as_ => (!clash ops x y a b || dependsOn y i) && chkOne ops y b i xs as_
  | 0, [], [] => true
  | _, _, _ => false
/-- the last one first -/
def chkAll (ops : Array Oper) : Nat → List Oper → Trace → Bool
  | j + 1, y :: ys, b :: bs => (y.after.toList.all fun e => !Region.binds .any e || Nat.blt e.on j) && chkOne ops y b j ys bs && chkAll ops j ys bs
  | 0, [], [] => true
  | _, _, _ => false
def dstNodup : List Oper → Bool
  | [] => true
  | x :: xs => (xs.all fun y => match x.dst with | some t => !optIn y.dst [t] | none => true) && dstNodup xs
def noselL : List Oper → Bool
  | [] => true
  | o :: r => match o.op with | .select .. => false | _ => noselL r
theorem noselL_eq : ∀ l : List Oper, noselL l = l.all fun o => match o.op with | .select .. => false | _ => true
  | [] => rfl
  | o :: r => by
    unfold noselL
    rw [List.all_cons, ← noselL_eq r]
    split <;> simp
theorem nosel_of {ops : Array Oper} (h : noselL ops.toList = true) : Region.noSelect ops = true := by
  rw [noselL_eq] at h
  unfold Region.noSelect
  rw [← Array.all_toList]
  exact h
def chk (ops : Array Oper) (tr : Trace) : Bool := chkAll ops ops.size ops.toList.reverse tr && (noselL ops.toList && dstNodup ops.toList)

noncomputable def regionP (P : Program) (nt : Nat) (ops : Array Oper) (draw : Bool) (e : Env) (h : Hp) (ks : List Nat) (X : Value → Prop) (K : Env → Hp → List Nat → Prop) : Prop := match draw with
  | false => vcOps P nt ops ops.toList 0 e h [] ks [] X fun e' h' ks' _ => K e' h' ks'
  | true => vcOps P nt ops ops.toList 0 e h [] ks [] (fun _ => False) fun e' h' ks' tr => match chk ops tr with
    | true => K e' h' ks'
    | false => False

/-! ### sets of operations that were done -/
def updO (e : Env) (d : Option Tmp) (v : PV) : Env := match d with
  | none => e
  | some t => upd e t v
/-- what one operation does, in the text's order -/
structure Tr where
  v : PV
  δ : Dl
  rf : Rf
  w : Bool

section
variable (e0 : Env) (h0 : Hp) (dst : Nat → Option Tmp) (T : Nat → Tr)
def envF : Nat → (Nat → Bool) → Env
  | 0, _ => e0
  | n + 1, S => if S n then updO (envF n S) (dst n) (T n).v else envF n S
def hpF : Nat → (Nat → Bool) → Hp
  | 0, _ => h0
  | n + 1, S => if S n then Dl.app (hpF n S) (T n).δ else hpF n S

theorem updO_ne {e : Env} {d : Option Tmp} {v : PV} {t : Nat} (h : d ≠ some t) : updO e d v t = e t := by
  cases d with
  | none => rfl
  | some t' => exact upd_ne _ _ fun e => h (by rw [e])
theorem updO_comm {e : Env} {d d' : Option Tmp} {v v' : PV} (h : ∀ t, d = some t → d' ≠ some t) : updO (updO e d v) d' v' = updO (updO e d' v') d v := by
  cases d with
  | none => rfl
  | some t =>
    cases d' with
    | none => rfl
    | some t' => exact upd_comm _ _ _ fun e => h t rfl (by rw [e])
theorem app_at {k : Nat} : ∀ {δ : Dl} {h : Hp}, k ∉ Dl.keys δ → Dl.app h δ k = h k
  | [], _, _ => rfl
  | (q, b) :: δ, h, hk => by
    simp only [Dl.keys, List.map_cons, List.mem_cons, not_or] at hk
    show Dl.app (upd h q b) δ k = h k
    rw [app_at hk.2, upd_ne _ _ hk.1]
theorem app_congr {k : Nat} : ∀ {δ : Dl} {h h' : Hp}, h k = h' k → Dl.app h δ k = Dl.app h' δ k
  | [], _, _, e => e
  | (q, b) :: δ, h, h', e => by
    show Dl.app (upd h q b) δ k = Dl.app (upd h' q b) δ k
    refine app_congr ?_
    by_cases hq : k = q
    · subst hq; rw [upd_same, upd_same]
    · rw [upd_ne _ _ hq, upd_ne _ _ hq, e]
theorem app_hit {k : Nat} : ∀ {δ : Dl} {h h' : Hp}, k ∈ Dl.keys δ → Dl.app h δ k = Dl.app h' δ k
  | [], _, _, hk => by simp [Dl.keys] at hk
  | (q, b) :: δ, h, h', hk => by
    show Dl.app (upd h q b) δ k = Dl.app (upd h' q b) δ k
    by_cases hd : k ∈ Dl.keys δ
    · exact app_hit hd
    · simp only [Dl.keys, List.map_cons, List.mem_cons] at hk
      rcases hk with rfl | hk
      · exact app_congr (by rw [upd_same, upd_same])
      · exact absurd hk hd
theorem app_comm {h : Hp} {δ δ' : Dl} (hd : ∀ k ∈ Dl.keys δ, k ∉ Dl.keys δ') : Dl.app (Dl.app h δ) δ' = Dl.app (Dl.app h δ') δ := by
  funext k
  by_cases h1 : k ∈ Dl.keys δ
  · rw [app_at (hd k h1)]; exact app_hit h1
  · rw [app_at (δ := δ) h1]
    by_cases h2 : k ∈ Dl.keys δ'
    · exact app_hit h2
    · rw [app_at h2, app_at h2, app_at h1]

theorem envF_agree {S S' : Nat → Bool} {t : Tmp} : ∀ n, (∀ j, j < n → dst j = some t → S j = S' j) → envF e0 dst T n S t = envF e0 dst T n S' t
  | 0, _ => rfl
  | n + 1, h => by
    have ih := envF_agree n fun j hj => h j (by omega)
    unfold envF
    by_cases hd : dst n = some t
    · rw [h n (by omega) hd]
      split
      · rw [hd]; show upd _ t _ t = upd _ t _ t; rw [upd_same, upd_same]
      · exact ih
    · have u : ∀ e v, updO e (dst n) v t = e t := fun e v => updO_ne hd
      split <;> split <;> first | exact ih | (simp only [u]; exact ih)
theorem hpF_agree {S S' : Nat → Bool} {k : Nat} : ∀ n, (∀ j, j < n → k ∈ Dl.keys (T j).δ → S j = S' j) → hpF h0 T n S k = hpF h0 T n S' k
  | 0, _ => rfl
  | n + 1, h => by
    have ih := hpF_agree n fun j hj => h j (by omega)
    unfold hpF
    by_cases hd : k ∈ Dl.keys (T n).δ
    · rw [h n (by omega) hd]
      split
      · exact app_hit hd
      · exact ih
    · have u : ∀ hh, Dl.app hh (T n).δ k = hh k := fun hh => app_at hd
      split <;> split <;> first | exact ih | (simp only [u]; exact ih)
theorem envF_lt {i : Nat} : ∀ n, i ≤ n → ∀ t, envF e0 dst T n (fun j => decide (j < i)) t = envF e0 dst T i (fun _ => true) t
  | 0, h, t => by rw [show i = 0 by omega]; rfl
  | n + 1, h, t => by
    by_cases hi : i = n + 1
    · subst hi
      exact envF_agree e0 dst T _ fun j hj _ => by simp [hj]
    · rw [← envF_lt n (by omega) t]
      show (if (decide (n < i)) = true then updO (envF e0 dst T n (fun j => decide (j < i))) (dst n) (T n).v else envF e0 dst T n (fun j => decide (j < i))) t = _
      rw [if_neg (by simp; omega)]
theorem hpF_lt {i : Nat} : ∀ n, i ≤ n → ∀ k, hpF h0 T n (fun j => decide (j < i)) k = hpF h0 T i (fun _ => true) k
  | 0, h, t => by rw [show i = 0 by omega]; rfl
  | n + 1, h, t => by
    by_cases hi : i = n + 1
    · subst hi
      exact hpF_agree h0 T _ fun j hj _ => by simp [hj]
    · rw [← hpF_lt n (by omega) t]
      show (if (decide (n < i)) = true then Dl.app (hpF h0 T n (fun j => decide (j < i))) (T n).δ else hpF h0 T n (fun j => decide (j < i))) t = _
      rw [if_neg (by simp; omega)]
def addS (S : Nat → Bool) (i : Nat) : Nat → Bool := fun j => if j = i then true else S j
theorem envF_ins {S : Nat → Bool} {i : Nat} (hi : S i = false) : ∀ n, i < n → (∀ j, i < j → j < n → S j = true → ∀ t, dst j = some t → dst i ≠ some t) →
    envF e0 dst T n (addS S i) = updO (envF e0 dst T n S) (dst i) (T i).v
  | 0, h, _ => by omega
  | n + 1, h, hd => by
    by_cases hn : i = n
    · subst hn
      have e1 : envF e0 dst T i (addS S i) = envF e0 dst T i S := by
        funext t
        exact envF_agree e0 dst T i fun j hj _ => by simp [addS]; omega
      unfold envF
      rw [e1, hi]
      simp [addS]
    · have ih := envF_ins hi n (by omega) fun j h1 h2 => hd j h1 (by omega)
      unfold envF
      rw [ih]
      have e2 : addS S i n = S n := by simp [addS]; omega
      rw [e2]
      split
      · rename_i hs
        exact updO_comm fun t ht ht' => hd n (by omega) (by omega) hs t ht' ht
      · rfl
theorem hpF_ins {S : Nat → Bool} {i : Nat} (hi : S i = false) : ∀ n, i < n → (∀ j, i < j → j < n → S j = true → ∀ k ∈ Dl.keys (T i).δ, k ∉ Dl.keys (T j).δ) →
    hpF h0 T n (addS S i) = Dl.app (hpF h0 T n S) (T i).δ
  | 0, h, _ => by omega
  | n + 1, h, hd => by
    by_cases hn : i = n
    · subst hn
      have e1 : hpF h0 T i (addS S i) = hpF h0 T i S := by
        funext t
        exact hpF_agree h0 T i fun j hj _ => by simp [addS]; omega
      unfold hpF
      rw [e1, hi]
      simp [addS]
    · have ih := hpF_ins hi n (by omega) fun j h1 h2 => hd j h1 (by omega)
      unfold hpF
      rw [ih]
      have e2 : addS S i n = S n := by simp [addS]; omega
      rw [e2]
      split
      · rename_i hs
        exact app_comm (hd n (by omega) (by omega) hs)
      · rfl
end

end Go.Proofs.YthogcgnhhcbkkaaDoor.Pm
