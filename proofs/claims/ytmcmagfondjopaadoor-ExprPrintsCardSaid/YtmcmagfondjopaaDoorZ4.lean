/- Parts of the proof, one behind the other: PmFun PmHand PmLaid PmBytes PmOpen PdList PdValue PvPlain PvPlain2 PdOrd PvPlain3 PdName PvShow PvShow2 PvRead PvDigits PkPlain PvHex PmPre PvOf. Conditions: none beyond what each theorem says. -/
import Derived.Deep.LoopGhost
import Derived.Scope
import Derived.IntWalk
import Derived.Test.YtmcmagfondjopaaDoorYFrame
import Derived.Lib.LaidIn
import Derived.Lib.LaidU8
import Derived.Test.YtmcmagfondjopaaDoorYShelf
import Derived.Test.YtmcmagfondjopaaDoorRows
import Derived.Test.YtmcmagfondjopaaDoorYReads
import Derived.Lib.ItoaNum
import Derived.Test.YtmcmagfondjopaaDoorYValOrd
import Derived.Test.YtmcmagfondjopaaDoorZ3
section
namespace Go.Proofs.YtmcmagfondjopaaDoor.Pm
open Go.RowKit
set_option linter.unusedVariables false
set_option linter.unusedSimpArgs false
def kin (k : Nat) : List Nat → Bool
  | [] => false
  | x :: xs => bif Nat.beq k x then true else kin k xs
def CLe (x y : C) : Prop := y = x ∨ (∃ sz, x = .sl sz []) ∧ (y = .v (.slice none 0 0) ∨ ∃ sz', y = .sl sz' [])
mutual
def DLe (f : Nat → Option Nat) (n : List Nat) : D → D → Prop
  | .c x, y => match y with
    | .c y => CLe x y
    | .app _ _ sz l => x = .sl sz l
    | .emp => ∃ sz, x = .sl sz []
    | _ => False
  | .app k e sz l, y => match y with
    | .app k' e' sz' l' => kin k n = true ∧ f k = some k' ∧ e' = e ∧ sz' = sz ∧ l' = l
    | .c y => kin k n = true ∧ f k = none ∧ 0 < sz ∧ l = [] ∧ y = .v (.slice none 0 0)
    | _ => False
  | .ptr k o, y => match y with
    | .ptr k' o' => kin k n = true ∧ f k = some k' ∧ o' = o
    | _ => False
  | .arr k e sz lo m, y => match y with
    | .arr k' e' sz' lo' m' => kin k n = true ∧ f k = some k' ∧ e' = e ∧ sz' = sz ∧ lo' = lo ∧ m' = m
    | .c y => kin k n = true ∧ f k = none ∧ 0 < sz ∧ m = 0 ∧ y = .v (.slice none 0 0)
    | .emp => kin k n = true ∧ f k = none ∧ 0 < sz ∧ m = 0
    | _ => False
  | .elt k sz i o, y => match y with
    | .elt k' sz' i' o' => kin k n = true ∧ f k = some k' ∧ sz' = sz ∧ i' = i ∧ o' = o
    | _ => False
  | .clo g a l, y => match y with
    | .clo g' a' l' => g' = g ∧ DLes f n a a' ∧ DLes f n l l'
    | _ => False
  | .mclo g l, y => match y with
    | .mclo g' l' => g' = g ∧ DLes f n l l'
    | _ => False
  | .optp k o, y => match y with
    | .optp k' o' => kin k n = true ∧ f k = some k' ∧ o' = o
    | .ptr k' o' => kin k n = true ∧ f k = some k' ∧ o' = o
    | .c y => y = .v (.pointer none)
    | _ => False
  | .data k e l, y => match y with
    | .data k' e' l' => kin k n = true ∧ f k = some k' ∧ e' = e ∧ l' = l
    | _ => False
  | .mp k, y => match y with
    | .mp k' => kin k n = true ∧ f k = some k'
    | _ => False
  | .emp, y => match y with
    | .emp => True
    | _ => False
def DLes (f : Nat → Option Nat) (n : List Nat) : List D → List D → Prop
  | [], y => y = []
  | x :: xs, y => match y with
    | [] => False
    | y :: ys => DLe f n x y ∧ DLes f n xs ys
end
def DLess (f : Nat → Option Nat) (n : List Nat) : List (List D) → List (List D) → Prop
  | [], y => y = []
  | x :: xs, y => match y with
    | [] => False
    | y :: ys => DLes f n x y ∧ DLess f n xs ys
mutual
def PLe (f : Nat → Option Nat) (n : List Nat) : PV → PV → Prop
  | .any, _ => True
  | .d x, y => match y with
    | .d y => DLe f n x y
    | _ => False
  | .agg l, y => match y with
    | .agg m => DLes f n l m
    | _ => False
  | .tup l, y => match y with
    | .tup m => PLeT f n l m
    | _ => False
def PLeT (f : Nat → Option Nat) (n : List Nat) : List PV → List PV → Prop
  | [], y => y = []
  | x :: xs, y => match y with
    | [] => False
    | y :: ys => PLe f n x y ∧ PLeT f n xs ys
end
def ofL : List (Nat × PV) → Env
  | [], _ => .any
  | (t, v) :: l, j => bif Nat.beq j t then v else ofL l j
def PLes (f : Nat → Option Nat) (n : List Nat) (e : Env) : List (Nat × PV) → Prop
  | [] => True
  | (t, v) :: l => PLe f n v (e t) ∧ PLes f n e l
def HLe (f : Nat → Option Nat) (n : List Nat) : HB → HB → Prop
  | .box t l, .box t' m => t' = t ∧ DLes f n l m
  | .tail e sz, .tail e' sz' => e' = e ∧ sz' = sz
  | .arr e sz rows, .arr e' sz' rows' => e' = e ∧ sz' = sz ∧ rows' = rows
  | .mp l, .mp l' => l' = l
  | .darr e sz rows, .darr e' sz' rows' => e' = e ∧ sz' = sz ∧ DLess f n rows rows'
  | .darr e sz rows, .arr e' sz' rows' => e' = e ∧ sz' = sz ∧ rows = rows'.map (List.map D.c)
  | _, _ => False
def KLe (f : Nat → Option Nat) (n : List Nat) (h : Hp) (k : Nat) (b : HB) : Prop := match f k with
  | some k' => match h k' with
    | some b' => HLe f n b b'
    | none => False
  | none => match b with
    | .tail _ sz => 0 < sz
    | .arr _ sz rows => 0 < sz ∧ rows = []
    | .darr _ sz rows => 0 < sz ∧ rows = []
    | .mp _ => False
    | .box _ _ => False
def HLes (f : Nat → Option Nat) (n : List Nat) (h : Hp) : List (Nat × HB) → Prop
  | [] => True
  | (k, b) :: l => (kin k n = true ∧ KLe f n h k b) ∧ HLes f n h l
def injOn (f : Nat → Option Nat) : List (Nat × HB) → Bool
  | [] => true
  | (k, _) :: l => (l.all fun p => Nat.beq p.1 k || match f k, f p.1 with | some a, some b => !Nat.beq a b | _, _ => true) && injOn f l
def fkOk (f : Nat → Option Nat) (n : List Nat) : List Nat → Bool
  | [] => true
  | k :: r => (match f k with | some k' => Nat.beq k' k | none => false) && (kin k n && fkOk f n r)
inductive Wk (fk : List Nat) (e : Env) (h : Hp) (le : List (Nat × PV)) (lh : List (Nat × HB)) (n : List Nat) : Prop
  | mk (f : List (Nat × Nat)) (hi : injOn (fnL f) lh = true) (hf : fkOk (fnL f) n fk = true) (he : PLes (fnL f) n e le) (hh : HLes (fnL f) n h lh)
section
variable {c : Ctx} {nt : Nat} {n : List Nat} {σ : Sg} {e : Env} {h : Hp} {a : Act} {w : World} {f : Nat → Option Nat} {le : List (Nat × PV)} {lh : List (Nat × HB)}
def newSg (σ : Sg) (f : Nat → Option Nat) (n : List Nat) : Sg := fun k => if kin k n = true then (match f k with | some k' => σ k' | none => some (none, 0)) else none
theorem newSg_some {k k' : Nat} (h1 : kin k n = true) (h2 : f k = some k') : newSg σ f n k = σ k' := by unfold newSg; rw [if_pos h1, h2]
theorem ple_of {t : Nat} : ∀ {le : List (Nat × PV)}, PLes f n e le → PLe f n (ofL le t) (e t)
  | [], _ => by unfold ofL PLe; trivial
  | (t', v) :: l, hl => by
    unfold ofL
    cases hb : Nat.beq t t' with
    | true => rw [cond_true, Nat.eq_of_beq_eq_true hb]; exact hl.1
    | false => rw [cond_false]; exact ple_of hl.2
theorem hle_of {k : Nat} {b : HB} : ∀ {lh : List (Nat × HB)}, HLes f n h lh → hpL lh k = some b → kin k n = true ∧ KLe f n h k b
  | [], _, hb => by cases hb
  | (k', b') :: l, hl, hb => by
    unfold hpL at hb
    cases hq : Nat.beq k k' with
    | true =>
      rw [hq, cond_true] at hb
      cases hb
      rw [Nat.eq_of_beq_eq_true hq]; exact hl.1
    | false => rw [hq, cond_false] at hb; exact hle_of hl.2 hb
theorem injOn_out : ∀ {lh : List (Nat × HB)}, injOn f lh = true → ∀ k1 k2 b1 b2 x, (k1, b1) ∈ lh → (k2, b2) ∈ lh → f k1 = some x → f k2 = some x → k1 = k2
  | [], _, k1, k2, b1, b2, x, h1, _, _, _ => by cases h1
  | (k, b) :: l, hi, k1, k2, b1, b2, x, h1, h2, e1, e2 => by
    unfold injOn at hi
    simp only [Bool.and_eq_true] at hi
    obtain ⟨hi1, hi2⟩ := hi
    have one : ∀ q bq, (q, bq) ∈ l → f k = some x → f q = some x → q = k := by
      intro q bq hq ek eq
      have := List.all_eq_true.1 hi1 (q, bq) hq
      rw [ek, eq] at this
      simp only [Bool.or_eq_true, Bool.not_eq_true'] at this
      rcases this with this | this
      · exact Nat.eq_of_beq_eq_true this
      · have := Nat.beq_refl x; simp_all
    rcases List.mem_cons.1 h1 with h1 | h1
    · cases h1
      rcases List.mem_cons.1 h2 with h2 | h2
      · cases h2; rfl
      · exact (one k2 b2 h2 e1 e2).symm
    · rcases List.mem_cons.1 h2 with h2 | h2
      · cases h2; exact one k1 b1 h1 e2 e1
      · exact injOn_out hi2 k1 k2 b1 b2 x h1 h2 e1 e2
mutual
theorem drep_wk {F F' : Fzn} (hk : Keeps F F' w w) : ∀ (x y : D) (u : Value), DLe f n x y → DRep σ F w y u → DRep (newSg σ f n) F' w x u
  | .c x, y, u, hl, hr => by
    unfold DLe at hl
    split at hl
    · rename_i y
      unfold DRep at hr ⊢
      rcases hl with rfl | ⟨⟨sz, rfl⟩, rfl | ⟨sz', rfl⟩⟩
      · exact CRep.keeps hk _ _ hr
      · unfold CRep at hr ⊢
        obtain ⟨rfl, _⟩ := hr
        exact ⟨none, 0, rfl, Nat.le_refl _, Nat.zero_le _, fun _ => rfl, .inl rfl⟩
      · unfold CRep at hr ⊢
        obtain ⟨a, cap, h1, h2, h3, h4, _⟩ := hr
        exact ⟨a, cap, h1, h2, h3, h4, .inl rfl⟩
    · rename_i k e sz l
      subst hl
      have := rows_val (σ := σ) (F := F) (w := w) (x := .d (.app k e sz l)) (.inr ⟨k, e, rfl⟩) (u := u) (by unfold PRep; exact hr)
      unfold DRep
      refine CRep.keeps hk _ _ ?_
      unfold CRep
      exact this
    · obtain ⟨sz, rfl⟩ := hl
      unfold DRep at hr ⊢
      obtain ⟨a, rfl⟩ := hr
      unfold CRep
      exact ⟨a, 0, rfl, Nat.le_refl _, Nat.zero_le _, fun _ => rfl, .inl rfl⟩
    · exact hl.elim
  | .app k e sz l, y, u, hl, hr => by
    unfold DLe at hl
    split at hl
    · obtain ⟨h1, h2, rfl, rfl, rfl⟩ := hl
      unfold DRep at hr ⊢
      obtain ⟨g0, g⟩ := hr
      have hs := newSg_some (σ := σ) h1 h2
      refine ⟨g0, ?_⟩
      rcases g with ⟨g1, g2, g3⟩ | ⟨g, cap, cur, fr, g1, g3, g4, g5, g6, g7, g8⟩
      · exact .inl ⟨hs.trans g1, g2, g3⟩
      · exact .inr ⟨g, cap, cur, fr, hs.trans g1, g3, g4, g5, g6, g7, RowsAt.keeps hk _ _ _ _ g8⟩
    · obtain ⟨h1, h2, h3, rfl, rfl⟩ := hl
      unfold DRep CRep at hr
      unfold DRep
      have hs : newSg σ f n k = some (none, 0) := by unfold newSg; rw [if_pos h1, h2]
      exact ⟨h3, .inl ⟨hs, rfl, hr.1⟩⟩
    · exact hl.elim
  | .ptr k o, y, u, hl, hr => by
    unfold DLe at hl
    split at hl
    · obtain ⟨h1, h2, rfl⟩ := hl
      unfold DRep at hr ⊢
      obtain ⟨g, m, g1, g2⟩ := hr
      exact ⟨g, m, by unfold newSg; rw [if_pos h1, h2]; exact g1, g2⟩
    · exact hl.elim
  | .arr k e sz lo m, y, u, hl, hr => by
    unfold DLe at hl
    split at hl
    · obtain ⟨h1, h2, rfl, rfl, rfl, rfl⟩ := hl
      unfold DRep at hr ⊢
      obtain ⟨g0, g⟩ := hr
      have hs := newSg_some (σ := σ) h1 h2
      refine ⟨g0, ?_⟩
      rcases g with ⟨q, g1, g2, g3⟩ | ⟨g, q, off, cap, cur, fr, g1, g2⟩
      · exact .inl ⟨q, hs.trans g1, g2, g3⟩
      · exact .inr ⟨g, q, off, cap, cur, fr, hs.trans g1, g2⟩
    · obtain ⟨h1, h2, h3, rfl, rfl⟩ := hl
      unfold DRep CRep at hr
      unfold DRep
      have hs : newSg σ f n k = some (none, 0) := by unfold newSg; rw [if_pos h1, h2]
      exact ⟨h3, .inl ⟨0, hs, rfl, none, hr.1⟩⟩
    · obtain ⟨h1, h2, h3, rfl⟩ := hl
      unfold DRep at hr ⊢
      obtain ⟨a, hr⟩ := hr
      have hs : newSg σ f n k = some (none, 0) := by unfold newSg; rw [if_pos h1, h2]
      exact ⟨h3, .inl ⟨0, hs, rfl, a, hr⟩⟩
    · exact hl.elim
  | .elt k sz i o, y, u, hl, hr => by
    unfold DLe at hl
    split at hl
    · obtain ⟨h1, h2, rfl, rfl, rfl⟩ := hl
      unfold DRep at hr ⊢
      obtain ⟨g, m, g1, g2⟩ := hr
      exact ⟨g, m, by unfold newSg; rw [if_pos h1, h2]; exact g1, g2⟩
    · exact hl.elim
  | .clo g a l, y, u, hl, hr => by
    unfold DLe at hl
    split at hl
    · obtain ⟨rfl, h1, h2⟩ := hl
      unfold DRep at hr ⊢
      obtain ⟨us, vs, rfl, g1, g2⟩ := hr
      exact ⟨us, vs, rfl, dsrep_wk hk a _ us h1 g1, dsrep_wk hk l _ vs h2 g2⟩
    · exact hl.elim
  | .mclo g l, y, u, hl, hr => by
    unfold DLe at hl
    split at hl
    · obtain ⟨rfl, h1⟩ := hl
      unfold DRep at hr ⊢
      obtain ⟨us, rfl, g1⟩ := hr
      exact ⟨us, rfl, dsrep_wk hk l _ us h1 g1⟩
    · exact hl.elim
  | .optp k o, y, u, hl, hr => by
    unfold DLe at hl
    split at hl
    · obtain ⟨h1, h2, rfl⟩ := hl
      unfold DRep at hr ⊢
      exact hr.imp id fun ⟨g, m, g1, g2⟩ => ⟨g, m, (newSg_some h1 h2).trans g1, g2⟩
    · obtain ⟨h1, h2, rfl⟩ := hl
      unfold DRep at hr ⊢
      obtain ⟨g, m, g1, g2⟩ := hr
      exact .inr ⟨g, m, (newSg_some h1 h2).trans g1, g2⟩
    · subst hl
      unfold DRep CRep at hr
      unfold DRep
      exact .inl hr.1
    · exact hl.elim
  | .data k e l, y, u, hl, hr => by
    unfold DLe at hl
    split at hl
    · obtain ⟨h1, h2, rfl, rfl⟩ := hl
      unfold DRep at hr ⊢
      rcases hr with hr | ⟨h0, g, cur, fr, g1, g2, g3, g4, g5, g6⟩
      · exact .inl hr
      · exact .inr ⟨h0, g, cur, fr, (newSg_some h1 h2).trans g1, g2, g3, g4, g5, RowsAt.keeps hk _ _ _ _ g6⟩
    · exact hl.elim
  | .mp k, y, u, hl, hr => by
    unfold DLe at hl
    split at hl
    · obtain ⟨h1, h2⟩ := hl
      unfold DRep at hr ⊢
      obtain ⟨g, m, g1, g2⟩ := hr
      exact ⟨g, m, (newSg_some h1 h2).trans g1, g2⟩
    · exact hl.elim
  | .emp, y, u, hl, hr => by
    unfold DLe at hl
    split at hl
    · unfold DRep at hr ⊢; exact hr
    · exact hl.elim
theorem dsrep_wk {F F' : Fzn} (hk : Keeps F F' w w) : ∀ (xs ys : List D) (us : List Value), DLes f n xs ys → DsRep σ F w ys us → DsRep (newSg σ f n) F' w xs us
  | [], ys, us, hl, hr => by
    unfold DLes at hl
    subst hl
    rw [dsRep_nil_inv hr]; exact dsRep_nil
  | x :: xs, ys, us, hl, hr => by
    unfold DLes at hl
    split at hl
    · exact hl.elim
    · obtain ⟨u, vs, rfl, h1, h2⟩ := dsRep_inv hr
      exact dsRep_cons (drep_wk hk x _ u hl.1 h1) (dsrep_wk hk xs _ vs hl.2 h2)
end
mutual
theorem prep_wk {F F' : Fzn} (hk : Keeps F F' w w) : ∀ (x y : PV) (u : Value), PLe f n x y → PRep σ F w y u → PRep (newSg σ f n) F' w x u
  | .any, y, u, hl, hr => by unfold PRep; trivial
  | .d x, y, u, hl, hr => by
    unfold PLe at hl
    split at hl
    · unfold PRep at hr ⊢; exact drep_wk hk _ _ _ hl hr
    · exact hl.elim
  | .agg l, y, u, hl, hr => by
    unfold PLe at hl
    split at hl
    · unfold PRep at hr ⊢
      obtain ⟨xs, h1, h2⟩ := hr
      exact ⟨xs, h1, dsrep_wk hk _ _ _ hl h2⟩
    · exact hl.elim
  | .tup l, y, u, hl, hr => by
    unfold PLe at hl
    split at hl
    · unfold PRep at hr ⊢
      obtain ⟨xs, h1, h2⟩ := hr
      exact ⟨xs, h1, psrep_wk hk _ _ _ hl h2⟩
    · exact hl.elim
theorem psrep_wk {F F' : Fzn} (hk : Keeps F F' w w) : ∀ (xs ys : List PV) (us : List Value), PLeT f n xs ys → PsRep σ F w ys us → PsRep (newSg σ f n) F' w xs us
  | [], ys, us, hl, hr => by
    unfold PLeT at hl
    subst hl
    cases us with
    | nil => unfold PsRep; trivial
    | cons _ _ => unfold PsRep at hr; exact hr.elim
  | x :: xs, ys, us, hl, hr => by
    unfold PLeT at hl
    split at hl
    · exact hl.elim
    · cases us with
      | nil => unfold PsRep at hr; exact hr.elim
      | cons u us =>
        unfold PsRep at hr ⊢
        exact ⟨prep_wk hk x _ u hl.1 hr.1, psrep_wk hk xs _ us hl.2 hr.2⟩
end
theorem kin_mem : ∀ {n : List Nat} {k : Nat}, kin k n = true → k ∈ n
  | x :: xs, k, h => by
    unfold kin at h
    cases hq : Nat.beq k x with
    | true => rw [Nat.eq_of_beq_eq_true hq]; exact List.mem_cons_self ..
    | false => rw [hq, cond_false] at h; exact List.mem_cons_of_mem _ (kin_mem h)
theorem hb_old (hh : HLes f n h lh) : ∀ k hb, hpL lh k = some hb → kin k n = true ∧ ((∃ k' b', f k = some k' ∧ h k' = some b' ∧ HLe f n hb b') ∨ (f k = none ∧ ((∃ e sz, hb = .tail e sz ∧ 0 < sz) ∨ (∃ e sz, hb = .arr e sz [] ∧ 0 < sz) ∨ ∃ e sz, hb = .darr e sz [] ∧ 0 < sz))) := by
  intro k hb hk
  obtain ⟨h1, h2⟩ := hle_of hh hk
  refine ⟨h1, ?_⟩
  unfold KLe at h2
  split at h2
  · rename_i k' hf
    split at h2
    · rename_i b' hb'; exact .inl ⟨k', b', hf, hb', h2⟩
    · exact h2.elim
  · rename_i hf
    split at h2
    · exact .inr ⟨hf, .inl ⟨_, _, rfl, h2⟩⟩
    · obtain ⟨h3, rfl⟩ := h2; exact .inr ⟨hf, .inr (.inl ⟨_, _, rfl, h3⟩)⟩
    · obtain ⟨h3, rfl⟩ := h2; exact .inr ⟨hf, .inr (.inr ⟨_, _, rfl, h3⟩)⟩
    · exact h2.elim
    · exact h2.elim
theorem dless_len : ∀ {l m : List (List D)}, DLess f n l m → m.length = l.length
  | [], m, h => by unfold DLess at h; subst h; rfl
  | x :: xs, m, h => by
    unfold DLess at h
    split at h
    · exact h.elim
    · rw [List.length_cons, List.length_cons, dless_len h.2]
theorem dles_len : ∀ {l m : List D}, DLes f n l m → m.length = l.length
  | [], m, h => by unfold DLes at h; subst h; rfl
  | x :: xs, m, h => by
    unfold DLes at h
    split at h
    · exact h.elim
    · rw [List.length_cons, List.length_cons, dles_len h.2]
theorem dless_row {s : Nat} : ∀ {l m : List (List D)}, DLess f n l m → (∀ r ∈ m, r.length = s) → ∀ r ∈ l, r.length = s
  | [], m, h, _, r, hr => by cases hr
  | x :: xs, m, h, hm, r, hr => by
    unfold DLess at h
    split at h
    · exact h.elim
    · rcases List.mem_cons.1 hr with rfl | hr
      · rw [← dles_len h.1]; exact hm _ (List.mem_cons_self ..)
      · exact dless_row h.2 (fun q hq => hm q (List.mem_cons_of_mem _ hq)) r hr
theorem dles_app : ∀ {a b c d : List D}, DLes f n a c → DLes f n b d → DLes f n (a ++ b) (c ++ d)
  | [], b, c, d, h1, h2 => by unfold DLes at h1; subst h1; exact h2
  | x :: xs, b, c, d, h1, h2 => by
    unfold DLes at h1
    split at h1
    · exact h1.elim
    · rw [List.cons_append, List.cons_append]; unfold DLes; exact ⟨h1.1, dles_app h1.2 h2⟩
theorem dless_flat : ∀ {l m : List (List D)}, DLess f n l m → DLes f n l.flatten m.flatten
  | [], m, h => by unfold DLess at h; subst h; unfold DLes; rfl
  | x :: xs, m, h => by
    unfold DLess at h
    split at h
    · exact h.elim
    · rw [List.flatten_cons, List.flatten_cons]; exact dles_app h.1 (dless_flat h.2)
theorem dless_app : ∀ {a b c d : List (List D)}, DLess f n a c → DLess f n b d → DLess f n (a ++ b) (c ++ d)
  | [], b, c, d, h1, h2 => by unfold DLess at h1; subst h1; exact h2
  | x :: xs, b, c, d, h1, h2 => by
    unfold DLess at h1
    split at h1
    · exact h1.elim
    · rw [List.cons_append, List.cons_append]; unfold DLess; exact ⟨h1.1, dless_app h1.2 h2⟩
theorem dles_cs : ∀ (l : List C), DLes f n (l.map D.c) (l.map D.c)
  | [] => by unfold DLes; rfl
  | x :: xs => by rw [List.map_cons]; unfold DLes; exact ⟨by unfold DLe; exact .inl rfl, dles_cs xs⟩
theorem dless_cs : ∀ (l : List (List C)), DLess f n (l.map (List.map D.c)) (l.map (List.map D.c))
  | [] => by unfold DLess; rfl
  | x :: xs => by rw [List.map_cons]; unfold DLess; exact ⟨dles_cs x, dless_cs xs⟩
theorem hle_shut {hb b' : HB} (hl : HLe f n hb b') {m o : Nat} (hs : b'.shut m o) : hb.shut m o := by
  cases b' with
  | box _ _ => exact hs.elim
  | arr _ _ _ => exact hs.elim
  | mp _ => exact hs.elim
  | darr _ _ _ => exact hs.elim
  | tail e' sz' =>
    cases hb with
    | tail e sz => obtain ⟨_, rfl⟩ := hl; exact hs
    | box _ _ => exact hl.elim
    | arr _ _ _ => exact hl.elim
    | mp _ => exact hl.elim
    | darr _ _ _ => exact hl.elim
theorem hb_wk {F F' : Fzn} {own own' : Nat → Prop} (hk : Keeps F F' w w) (hown : ∀ g, own g → own' g) {k k' : Nat} {hb b' : HB} (hin : kin k n = true) (hf : f k = some k') (hl : HLe f n hb b') (ho : HbOk σ F w own k' b') : HbOk (newSg σ f n) F' w own' k hb := by
  have hsg : newSg σ f n k = σ k' := by unfold newSg; rw [if_pos hin, hf]
  unfold HLe at hl
  split at hl
  · obtain ⟨g, m', cs, r1, r2, r3, r4⟩ := ho
    obtain ⟨rfl, hl⟩ := hl
    exact ⟨g, m', cs, hsg.trans r1, hown _ r2, r3, dsrep_wk hk _ _ _ hl r4⟩
  · obtain ⟨rfl, rfl⟩ := hl
    obtain ⟨r0, ob, m', r1, r2⟩ := ho
    refine ⟨r0, ob, m', hsg.trans r1, ?_⟩
    cases ob with
    | none => exact r2
    | some g => exact ⟨hown _ r2.1, r2.2⟩
  · obtain ⟨rfl, rfl, rfl⟩ := hl
    obtain ⟨r0, r00, ob, m', r1, r2⟩ := ho
    refine ⟨r0, r00, ob, m', hsg.trans r1, ?_⟩
    cases ob with
    | none => exact r2
    | some g =>
      obtain ⟨q1, cur, q2, q3, q4⟩ := r2
      exact ⟨hown _ q1, cur, q2, q3, CsRep.keeps hk _ _ q4⟩
  · obtain rfl := hl
    obtain ⟨g, m', es, cl, r1, r2, r3⟩ := ho
    exact ⟨g, m', es, cl, hsg.trans r1, hown _ r2, r3⟩
  · obtain ⟨rfl, rfl, hl⟩ := hl
    obtain ⟨r0, r00, ob, m', r1, r2⟩ := ho
    have hlen := dless_len hl
    refine ⟨r0, dless_row hl r00, ob, m', hsg.trans r1, ?_⟩
    cases ob with
    | none => subst r2; exact List.eq_nil_of_length_eq_zero hlen.symm
    | some g =>
      obtain ⟨q1, cur, q2, q3, q4⟩ := r2
      rw [hlen] at q3 q4
      exact ⟨hown _ q1, cur, q2, q3, dsrep_wk hk _ _ _ (dless_flat hl) q4⟩
  · rename_i e sz rows e' sz' rows'
    obtain ⟨rfl, rfl, rfl⟩ := hl
    obtain ⟨r0, r00, ob, m', r1, r2⟩ := ho
    refine ⟨r0, fun r hr => ?_, ob, m', hsg.trans r1, ?_⟩
    · obtain ⟨r', hr', rfl⟩ := List.mem_map.1 hr
      rw [List.length_map]; exact r00 r' hr'
    · cases ob with
      | none => subst r2; rfl
      | some g =>
        obtain ⟨q1, cur, q2, q3, q4⟩ := r2
        refine ⟨hown _ q1, cur, q2, by rw [List.length_map]; exact q3, ?_⟩
        rw [List.length_map, show (rows'.map (List.map D.c)).flatten = rows'.flatten.map D.c by rw [List.map_flatten]]
        exact dsRep_of_cs (CsRep.keeps hk _ _ q4)
  · exact hl.elim
theorem fkOk_out {fk : List Nat} (h : fkOk f n fk = true) : ∀ k ∈ fk, f k = some k ∧ kin k n = true := by
  induction fk with
  | nil => intro k hk; cases hk
  | cons q r ih =>
    intro k hk
    unfold fkOk at h
    simp only [Bool.and_eq_true] at h
    obtain ⟨h1, h2, h3⟩ := h
    rcases List.mem_cons.1 hk with rfl | hk
    · refine ⟨?_, h2⟩
      split at h1
      · rename_i k' hq; rw [hq, Nat.eq_of_beq_eq_true h1]
      · cases h1
    · exact ih h3 k hk
theorem sw_wk {fk : List Nat} (hfk : ∀ k, c.σ0 k ≠ none → k ∈ fk) (hs : SW c σ h w) (hi : injOn f lh = true) (hff : fkOk f n fk = true) (hh : HLes f n h lh) :
    Keeps (fz c σ h w) (fz c (newSg σ f n) (hpL lh) w) w w ∧ SW c (newSg σ f n) (hpL lh) w := by
  have old := hb_old hh
  have hkeep : Keeps (fz c σ h w) (fz c (newSg σ f n) (hpL lh) w) w w := by
    refine ⟨fun b o hf => hf.imp id fun ⟨f1, f2, f3⟩ => ⟨f1, f2, fun k m hb hk hσ => ?_⟩, fun _ _ _ => rfl⟩
    obtain ⟨g1, g2⟩ := old k hb hk
    unfold newSg at hσ
    rw [if_pos g1] at hσ
    rcases g2 with ⟨k', b', q1, q2, q3⟩ | ⟨q1, _⟩
    · rw [q1] at hσ
      exact hle_shut q3 (f3 k' m b' q2 hσ)
    · rw [q1] at hσ; cases hσ
  refine ⟨hkeep, hs.os, hs.tape, hs.output, hs.size, hs.block, fun k hb hk => ?_, fun k1 k2 g n1 n2 a1 a2 a3 a4 => ?_, hs.kept.trans hkeep, hs.shape, fun k x hk => ?_⟩
  · obtain ⟨g1, g2⟩ := old k hb hk
    rcases g2 with ⟨k', b', q1, q2, q3⟩ | ⟨q1, ⟨e, sz, rfl, q2⟩ | ⟨e, sz, rfl, q2⟩ | ⟨e, sz, rfl, q2⟩⟩
    · exact hb_wk hkeep (fun _ h => h) g1 q1 q3 (hs.hp k' b' q2)
    · exact ⟨q2, none, 0, by unfold newSg; rw [if_pos g1, q1], rfl⟩
    · exact ⟨q2, by simp, none, 0, by unfold newSg; rw [if_pos g1, q1], rfl⟩
    · exact ⟨q2, by simp, none, 0, by unfold newSg; rw [if_pos g1, q1], rfl⟩
  · cases hb1 : hpL lh k1 with
    | none => exact absurd hb1 a1
    | some b1 =>
      cases hb2 : hpL lh k2 with
      | none => exact absurd hb2 a2
      | some b2 =>
        obtain ⟨g1, g2⟩ := old k1 b1 hb1
        obtain ⟨g3, g4⟩ := old k2 b2 hb2
        unfold newSg at a3 a4
        rw [if_pos g1] at a3
        rw [if_pos g3] at a4
        rcases g2 with ⟨k1', b1', q1, q2, _⟩ | ⟨q1, _⟩
        · rcases g4 with ⟨k2', b2', r1, r2, _⟩ | ⟨r1, _⟩
          · rw [q1] at a3
            rw [r1] at a4
            have := hs.inj k1' k2' g n1 n2 (by rw [q2]; simp) (by rw [r2]; simp) a3 a4
            subst this
            exact injOn_out hi k1 k2 b1 b2 k1' (hpL_mem hb1) (hpL_mem hb2) q1 r1
          · rw [r1] at a4; cases a4
        · rw [q1] at a3; cases a3
  · obtain ⟨q1, q2⟩ := fkOk_out hff k (hfk k (by rw [hk]; simp))
    rw [newSg_some q2 q1]
    exact hs.sg0 k x hk
theorem st_wk {fk : List Nat} (hfk : ∀ k, c.σ0 k ≠ none → k ∈ fk) (hs : St c nt σ e h a w) (hw : Wk fk e h le lh n) : ∃ σ', St c nt σ' (ofL le) (hpL lh) a w ∧ ∀ k, k ∉ n → σ' k = none := by
  obtain ⟨f, hi, hff, he, hh⟩ := hw
  obtain ⟨hkeep, hsw⟩ := sw_wk hfk hs.toSW hi hff hh
  exact ⟨newSg σ (fnL f) n, ⟨hsw, fun t => prep_wk hkeep _ _ _ (ple_of he) (hs.env t), hs.defers, hs.nt⟩, fun k hk => by unfold newSg; rw [if_neg fun e => hk (kin_mem e)]⟩
end
end Go.Proofs.YtmcmagfondjopaaDoor.Pm
namespace Go.Proofs.YtmcmagfondjopaaDoor.Pm
open Go.RowKit
set_option linter.unusedVariables false
abbrev Cont := Exit → Env → Hp → List Nat → Prop
def seqK (next : Env → Hp → List Nat → Prop) (Q : Cont) : Cont := fun x e h n => match x with
  | .normal => next e h n
  | x => Q x e h n
def blockK (id : Nat) (Q : Cont) : Cont := fun x e h n => match x with
  | .exit id' => match Nat.beq id' id with
    | true => Q .normal e h n
    | false => Q (.exit id') e h n
  | x => Q x e h n
def scopeK (Q : Cont) : Cont := fun x e h n => match x with
  | .goto _ => False
  | x => Q x e h n
inductive Round (fk : List Nat) (S : Type) (E : S → List (Nat × PV)) (H : S → List (Nat × HB)) (n : List Nat) (inv : S → Prop) (μ : S → Nat) (s : S) (e : Env) (h : Hp) : Prop
  | mk (s' : S) (hi : inv s') (hμ : μ s' < μ s) (hw : Wk fk e h (E s') (H s') n)
def roundK (fk : List Nat) (S : Type) (E : S → List (Nat × PV)) (H : S → List (Nat × HB)) (n : List Nat) (inv : S → Prop) (μ : S → Nat) (s : S) (Q : Cont) : Cont := fun x e h m => match x with
  | .normal => Round fk S E H n inv μ s e h
  | x => Q x e h m
inductive LoopC (fk : List Nat) (body : Env → Hp → List Nat → Cont → Prop) (e : Env) (h : Hp) (Q : Cont) : Prop
  | mk (S : Type) (E : S → List (Nat × PV)) (H : S → List (Nat × HB)) (n : List Nat) (inv : S → Prop) (μ : S → Nat) (s0 : S) (h0 : inv s0) (hm : Wk fk e h (E s0) (H s0) n)
      (round : ∀ s, inv s → body (ofL (E s)) (hpL (H s)) n (roundK fk S E H n inv μ s Q))
abbrev VT := Env → Hp → List Nat → Cont → Prop
noncomputable def vc (P : Program) (nt : Nat) (fk : List Nat) (X : XT) (cd : Code) : VT :=
  Code.rec (motive := fun _ => VT)
    (fun e h n Q => Q .normal e h n)
    (fun _ ops draw e h n Q => regionP P nt ops draw e h n X fun e' h' n' => Q .normal e' h' n')
    (fun _ _ ix iy e h n Q => ix e h n (seqK (fun e' h' n' => iy e' h' n' Q) Q))
    (fun c _ _ ix iy e h n Q => match ev e c with
      | .d (.c (.v (.bool b))) => BCase b (ix e h n Q) (iy e h n Q)
      | _ => False)
    (fun id _ i e h n Q => i e h n (blockK id Q))
    (fun _ i e h n Q => LoopC fk i e h Q)
    (fun _ _ _ _ _ _ _ _ _ _ => False)
    (fun id e h n Q => Q (.exit id) e h n)
    (fun _ i e h n Q => i e h n (scopeK Q))
    (fun _ _ _ _ _ => False)
    (fun _ _ _ _ _ => False)
    (fun e h n Q => Q .ret e h n)
    (fun _ _ _ _ _ => False) cd
theorem vc_cond {P : Program} {nt : Nat} {fk : List Nat} {X : XT} {c : Operand} {x y : Code} {e : Env} {h : Hp} {n : List Nat} {Q : Cont} :
    vc P nt fk X (.cond c x y) e h n Q = match ev e c with
      | .d (.c (.v (.bool b))) => BCase b (vc P nt fk X x e h n Q) (vc P nt fk X y e h n Q)
      | _ => False := rfl
def After (c : Ctx) (nt : Nat) (X : XT) (Q : Cont) : Exit → Act → World → Prop := fun x a w => match x with
  | .panic ch => ∃ v, ch = [{ v := v, recovered := false }] ∧ ∃ e h n σ, X v e h n ∧ St c nt σ e h a w ∧ ∀ k, k ∉ n → σ k = none
  | x => ∃ e h n σ, Q x e h n ∧ St c nt σ e h a w ∧ ∀ k, k ∉ n → σ k = none
theorem vc_out {P : Program} {nt : Nat} {fk : List Nat} {X : XT} {c : Ctx} (hfk : ∀ k, c.σ0 k ≠ none → k ∈ fk) (hc : c.Ok) (hm : P.follows .mixedOrders = true) : ∀ (cd : Code) (e : Env) (h : Hp) (n : List Nat) (Q : Cont) (σ : Sg) (a : Act) (w : World), vc P nt fk X cd e h n Q → St c nt σ e h a w → (∀ k, k ∉ n → σ k = none) →
    cd.wp P (After c nt X Q) a w
  | .skip, e, h, n, Q, σ, a, w, hv, hs, hf => wp_skip ⟨e, h, n, σ, hv, hs, hf⟩
  | .region id ops draw, e, h, n, Q, σ, a, w, hv, hs, hf =>
    region_out hc hm hv (fun x e h n σ a w hx hs hf => ⟨x, rfl, e, h, n, σ, hx, hs, hf⟩) hs hf fun e' h' n' σ' a' w' hk hs' hf' => ⟨e', h', n', σ', hk, hs', hf'⟩
  | .seq x y, e, h, n, Q, σ, a, w, hv, hs, hf => by
    refine wp_seq (wp_mono (vc_out hfk hc hm x e h n _ σ a w hv hs hf) ?_)
    intro ex a' w' hq
    cases ex with
    | normal =>
      obtain ⟨e', h', n', σ', hq, hs', hf'⟩ := hq
      exact vc_out hfk hc hm y e' h' n' Q σ' a' w' hq hs' hf'
    | exit id => exact hq
    | goto l => exact hq
    | ret => exact hq
    | panic ch => exact hq
    | outgrown => exact hq
  | .cond o x y, e, h, n, Q, σ, a, w, hv, hs, hf => by
    rw [vc_cond] at hv
    split at hv
    · rename_i b hb
      have h1 := rep_ev hs o
      rw [hb] at h1
      have h2 := rep_v h1
      obtain ⟨ht, hff⟩ := hv
      refine wp_cond_split h2 (fun hb' => vc_out hfk hc hm x e h n Q σ a w (ht hb') hs hf) (fun hb' => vc_out hfk hc hm y e h n Q σ a w (hff hb') hs hf)
    · exact hv.elim
  | .block id cd, e, h, n, Q, σ, a, w, hv, hs, hf => by
    refine wp_block (wp_mono (vc_out hfk hc hm cd e h n _ σ a w hv hs hf) ?_)
    intro ex a' w' hq
    cases ex with
    | exit id' =>
      obtain ⟨e', h', n', σ', hq, hs', hf'⟩ := hq
      simp only [Exit.inBlock]
      simp only [blockK] at hq
      split at hq
      · rename_i hb
        rw [if_pos (Nat.eq_of_beq_eq_true hb)]
        exact ⟨e', h', n', σ', hq, hs', hf'⟩
      · rename_i hb
        rw [if_neg (fun e => by subst e; rw [Nat.beq_refl] at hb; cases hb)]
        exact ⟨e', h', n', σ', hq, hs', hf'⟩
    | normal => exact hq
    | goto l => exact hq
    | ret => exact hq
    | panic ch => exact hq
    | outgrown => exact hq
  | .loop cd, e, h, n, Q, σ, a, w, hv, hs, hf => by
    obtain ⟨S, E, H, m, inv, μ, s0, h0, hw, round⟩ := hv
    obtain ⟨σ0, hs0, hf0⟩ := st_wk hfk hs hw
    refine wp_loop_ghost (fun k a' w' => ∃ s σ, μ s = k ∧ inv s ∧ St c nt σ (ofL (E s)) (hpL (H s)) a' w' ∧ ∀ q, q ∉ m → σ q = none) (μ s0) ⟨s0, σ0, rfl, h0, hs0, hf0⟩ ?_
    rintro k a1 w1 ⟨s1, σ1, rfl, h1, h2, h3⟩
    refine wp_mono (vc_out hfk hc hm cd _ _ _ _ σ1 a1 w1 (round s1 h1) h2 h3) ?_
    intro ex a' w' hq
    cases ex with
    | normal =>
      obtain ⟨e', h', n', σ', hq, hs', hf'⟩ := hq
      obtain ⟨s2, i2, lt, hw2⟩ := hq
      obtain ⟨σ2, hs2, hf2⟩ := st_wk hfk hs' hw2
      exact ⟨μ s2, lt, s2, σ2, rfl, i2, hs2, hf2⟩
    | exit id => exact hq
    | goto l => exact hq
    | ret => exact hq
    | panic ch => exact hq
    | outgrown => exact hq
  | .exit id, e, h, n, Q, σ, a, w, hv, hs, hf => wp_exit ⟨e, h, n, σ, hv, hs, hf⟩
  | .scope cd, e, h, n, Q, σ, a, w, hv, hs, hf => by
    refine wp_scope_straight (wp_mono (vc_out hfk hc hm cd e h n _ σ a w hv hs hf) ?_)
    intro ex a' w' hq
    cases ex with
    | goto l => obtain ⟨e', h', n', σ', hq, hs', hf'⟩ := hq; exact hq
    | normal => exact hq
    | exit id => exact hq
    | ret => exact hq
    | panic ch => exact hq
    | outgrown => exact hq
  | .ret, e, h, n, Q, σ, a, w, hv, hs, hf => wp_ret ⟨e, h, n, σ, hv, hs, hf⟩
  | .rangeFunc _ _ _ _, e, h, n, Q, σ, a, w, hv, hs, hf => False.elim hv
  | .label _, e, h, n, Q, σ, a, w, hv, hs, hf => False.elim hv
  | .goto _, e, h, n, Q, σ, a, w, hv, hs, hf => False.elim hv
  | .refuse _, e, h, n, Q, σ, a, w, hv, hs, hf => False.elim hv
def resP (P : Program) (h : Hp) (e : Env) : List ResultVar → (List PV → Prop) → Prop
  | [], K => K []
  | .tmp t :: rs, K => PV.force (e t) fun v => resP P h e rs fun vs => K (v :: vs)
  | .cell t ty :: rs, K => loadP P h ty (e t) fun v _ => resP P h e rs fun vs => K (v :: vs)
def D.closeA (h : Hp) (x : D) (K : C → Prop) : Prop := match x with
  | .c y => K y
  | .app _ _ sz l => K (.sl sz l)
  | .arr k _ sz lo n => match h k with
    | some (.arr _ s rows) => match Nat.beq s sz with
      | true => Need (lo + n ≤ rows.length) (K (.sl sz ((rows.drop lo).take n)))
      | false => False
    | _ => False
  | .clo f [] [] => K (.v (.func (.func f) #[] #[]))
  | _ => False
def ClL (h : Hp) : List D → List C → Prop
  | [], ys => ys = []
  | x :: xs, ys => match ys with
    | [] => False
    | y :: ys => D.closeA h x (fun z => z = y) ∧ ClL h xs ys
def ClR (h : Hp) : List (List D) → List (List C) → Prop
  | [], ys => ys = []
  | x :: xs, ys => match ys with
    | [] => False
    | y :: ys => ClL h x y ∧ ClR h xs ys
inductive RowsC (h : Hp) (rows : List (List D)) (K : List (List C) → Prop) : Prop
  | mk (rs : List (List C)) (hr : ClR h rows rs) (hk : K rs)
theorem clL_cs {h : Hp} : ∀ l : List C, ClL h (l.map D.c) l
  | [] => by unfold ClL; rfl
  | x :: xs => by rw [List.map_cons]; unfold ClL; exact ⟨rfl, clL_cs xs⟩
theorem clR_cs {h : Hp} : ∀ l : List (List C), ClR h (l.map (List.map D.c)) l
  | [] => by unfold ClR; rfl
  | x :: xs => by rw [List.map_cons]; unfold ClR; exact ⟨clL_cs x, clR_cs xs⟩
theorem clR_app {h : Hp} : ∀ {a b : List (List D)} {c d : List (List C)}, ClR h a c → ClR h b d → ClR h (a ++ b) (c ++ d)
  | [], b, c, d, h1, h2 => by unfold ClR at h1; subst h1; exact h2
  | x :: xs, b, c, d, h1, h2 => by
    unfold ClR at h1
    split at h1
    · exact h1.elim
    · rw [List.cons_append, List.cons_append]; unfold ClR; exact ⟨h1.1, clR_app h1.2 h2⟩
def D.closeH (h : Hp) (x : D) (K : C → Prop) : Prop := match x with
  | .c y => K y
  | .app _ _ sz l => K (.sl sz l)
  | .arr k _ sz lo n => match h k with
    | some (.arr _ s rows) => match Nat.beq s sz with
      | true => Need (lo + n ≤ rows.length) (K (.sl sz ((rows.drop lo).take n)))
      | false => False
    | some (.darr _ s rows) => match Nat.beq s sz with
      | true => RowsC h rows fun rs => Need (lo + n ≤ rs.length) (K (.sl sz ((rs.drop lo).take n)))
      | false => False
    | _ => False
  | .clo f [] [] => K (.v (.func (.func f) #[] #[]))
  | _ => False
def closeHL (h : Hp) : List D → (List C → Prop) → Prop
  | [], K => K []
  | x :: xs, K => D.closeH h x fun y => closeHL h xs fun ys => K (y :: ys)
mutual
def PV.closeH (h : Hp) : PV → (PV → Prop) → Prop
  | .d x, K => D.closeH h x fun y => K (.d (.c y))
  | .agg l, K => closeHL h l fun ys => K (.agg (ys.map D.c))
  | .tup l, K => closeHPs h l fun ys => K (.tup ys)
  | .any, _ => False
def closeHPs (h : Hp) : List PV → (List PV → Prop) → Prop
  | [], K => K []
  | x :: xs, K => PV.closeH h x fun y => closeHPs h xs fun ys => K (y :: ys)
end
inductive Ret (v r : PV) : Prop
  | mk (h : v = r)
  | le (h : PLe (fun _ => none) [] r v)
def tupOf (vs : List PV) (K : PV → Prop) : Prop := match vs with
  | [v] => K v
  | vs => K (.tup vs)
def retQ (P : Program) (fn : Func) (res : PV) : Cont := fun x e h _ => match x with
  | .normal => resP P h e fn.results.toList fun vs => closeHPs h vs fun vs => tupOf vs fun v => Ret v res
  | .ret => resP P h e fn.results.toList fun vs => closeHPs h vs fun vs => tupOf vs fun v => Ret v res
  | _ => False
inductive RetS (fk : List Nat) (h : Hp) (res : PV) (fin : Rf) (v : PV) : Prop
  | mk (f : List (Nat × Nat)) (n : List Nat) (hi : injOn (fnL f) fin = true) (hf : fkOk (fnL f) n fk = true) (hr : PLe (fnL f) n res v) (hh : HLes (fnL f) n h fin)
def retS (P : Program) (fn : Func) (fk : List Nat) (res : PV) (fin : Rf) : Cont := fun x e h _ => match x with
  | .normal => resP P h e fn.results.toList fun vs => tupOf vs fun v => RetS fk h res fin v
  | .ret => resP P h e fn.results.toList fun vs => tupOf vs fun v => RetS fk h res fin v
  | _ => False
def argsE (l : List PV) : Env := fun t => match l[t]? with
  | some v => v
  | none => .tup []
theorem loadP_run {P : Program} {c : Ctx} {σ : Sg} {h : Hp} {w : World} {t : TypeId} {x : PV} {K : PV → Rf → Prop} (hv : loadP P h t x K) (hs : SW c σ h w) {u : Value} (hu : PRep σ (fz c σ h w) w x u) :
    ∃ v z rf, K v rf ∧ (Instr.loadAt t u).run P w = .ok z w ∧ (∃ ad, u = .pointer (some ad)) ∧ PRep σ (fz c σ h w) w v z := by
  unfold loadP at hv
  split at hv
  · rename_i l
    obtain ⟨v, h1, h2⟩ := readP_out hv
    unfold PRep DRep CRep at hu
    obtain ⟨b, off, rfl, e3⟩ := hu
    obtain ⟨us, e4, e5, _⟩ := csAt_values e3
    obtain ⟨z, h3, h4⟩ := h2 σ _ w b off us (dsRep_of_cs e4) e5
    exact ⟨v, z, _, h1, by simp only [Instr.loadAt, Instr.sureAddr, Sem.run_bind, Sem.run_pure, Result.andThen_ok, h3], ⟨_, rfl⟩, h4⟩
  · rename_i k off
    split at hv
    · rename_i bt l hk
      obtain ⟨v, h1, h2⟩ := readP_out hv
      unfold PRep DRep at hu
      obtain ⟨g, n, e2, rfl⟩ := hu
      obtain ⟨g', n', cur, e4, e5, e6, e7⟩ := hs.hp k _ hk
      rw [e2] at e4; cases e4
      obtain ⟨z, h3, h4⟩ := h2 σ _ w g off (cur.toList.drop off) (e7.drop off) (fun j v hv => by
        rw [cell_of_row _ _ _ _ _ _ e6]
        rw [List.getElem?_drop] at hv
        simpa using hv)
      exact ⟨v, z, _, h1, by simp only [Instr.loadAt, Instr.sureAddr, Sem.run_bind, Sem.run_pure, Result.andThen_ok, h3], ⟨_, rfl⟩, h4⟩
    · exact hv.elim
  · rename_i k sz j off
    split at hv
    · rename_i e0 s rows hk
      split at hv
      · rename_i es
        obtain rfl := Nat.eq_of_beq_eq_true es
        obtain ⟨r, hr, hv⟩ := hv
        obtain ⟨v, h1, h2⟩ := readP_out hv
        unfold PRep DRep at hu
        obtain ⟨g, n, e2, rfl⟩ := hu
        obtain ⟨hz, hrl, ob, n', e4, e5⟩ := hs.hp k _ hk
        rw [e2] at e4; cases e4
        obtain ⟨e5, cur, e6, e7, e8⟩ := e5
        have hrep := row_rep hrl hr e8
        obtain ⟨z, h3, h4⟩ := h2 σ _ w g (j * s + off) ((((cur.toList.take (rows.length * s)).drop (j * s)).take s).drop off) (dsRep_of_cs (hrep.drop off)) (fun q v hv => by
          rw [cell_of_row _ _ _ _ _ _ e6]
          rw [List.getElem?_drop, List.getElem?_take] at hv
          split at hv
          · rw [List.getElem?_drop, List.getElem?_take] at hv
            split at hv
            · rw [← Array.getElem?_toList, ← hv]; congr 1; omega
            · cases hv
          · cases hv)
        exact ⟨v, z, _, h1, by simp only [Instr.loadAt, Instr.sureAddr, Sem.run_bind, Sem.run_pure, Result.andThen_ok, h3], ⟨_, rfl⟩, h4⟩
      · exact hv.elim
    · rename_i e0 s rows hk
      split at hv
      · rename_i es
        obtain rfl := Nat.eq_of_beq_eq_true es
        obtain ⟨r, hr, hv⟩ := hv
        obtain ⟨v, h1, h2⟩ := readP_out hv
        unfold PRep DRep at hu
        obtain ⟨g, n, e2, rfl⟩ := hu
        obtain ⟨hz, hrl, ob, n', e4, e5⟩ := hs.hp k _ hk
        rw [e2] at e4; cases e4
        obtain ⟨e5, cur, e6, e7, e8⟩ := e5
        have hrep := drow_rep hrl hr e8
        obtain ⟨z, h3, h4⟩ := h2 σ _ w g (j * s + off) ((((cur.toList.take (rows.length * s)).drop (j * s)).take s).drop off) (hrep.drop off) (fun q v hv => by
          rw [cell_of_row _ _ _ _ _ _ e6]
          rw [List.getElem?_drop, List.getElem?_take] at hv
          split at hv
          · rw [List.getElem?_drop, List.getElem?_take] at hv
            split at hv
            · rw [← Array.getElem?_toList, ← hv]; congr 1; omega
            · cases hv
          · cases hv)
        exact ⟨v, z, _, h1, by simp only [Instr.loadAt, Instr.sureAddr, Sem.run_bind, Sem.run_pure, Result.andThen_ok, h3], ⟨_, rfl⟩, h4⟩
      · exact hv.elim
    · exact hv.elim
  · exact hv.elim
def resF (tmps : Array Value) : ResultVar → Sem Value
  | .tmp t => pure (tmps.getD t undef)
  | .cell a t => do loadVar t (← asAddr (tmps.getD a undef))
theorem resP_out {P : Program} {c : Ctx} {nt : Nat} {σ : Sg} {e : Env} {h : Hp} {a : Act} {w : World} (hs : St c nt σ e h a w) : ∀ {rs : List ResultVar} {K : List PV → Prop}, resP P h e rs K →
    ∃ vs us, K vs ∧ (rs.mapM (resF a.tmps)).run P w = .ok us w ∧ PsRep σ (fz c σ h w) w vs us
  | [], K, hv => ⟨[], [], hv, by simp, by unfold PsRep; trivial⟩
  | .tmp t :: rs, K, hv => by
    unfold resP at hv
    obtain ⟨vs, us, h3, h4, h5⟩ := resP_out hs (force_out hv)
    refine ⟨e t :: vs, a.tmps.getD t undef :: us, h3, ?_, by unfold PsRep; exact ⟨hs.env t, h5⟩⟩
    simp only [List.mapM_cons, resF, Sem.run_bind, Sem.run_pure, Result.andThen_ok, h4]
  | .cell t ty :: rs, K, hv => by
    unfold resP at hv
    obtain ⟨v, z, _, g1, g2, ⟨ad, g3⟩, g4⟩ := loadP_run hv hs.toSW (hs.env t)
    obtain ⟨vs, us, h3, h4, h5⟩ := resP_out hs g1
    refine ⟨v :: vs, z :: us, h3, ?_, by unfold PsRep; exact ⟨g4, h5⟩⟩
    rw [g3] at g2
    have g5 : (loadVar ty ad).run P w = .ok z w := by simpa [Instr.loadAt, Instr.sureAddr] using g2
    simp only [List.mapM_cons, resF, Sem.run_bind, Sem.run_pure, Result.andThen_ok, h4, g3, asAddr, g5]
theorem psRep_len {σ : Sg} {F : Fzn} {w : World} : ∀ {l : List PV} {us : List Value}, PsRep σ F w l us → us.length = l.length
  | [], [], _ => rfl
  | _ :: _, _ :: us, h => by unfold PsRep at h; rw [List.length_cons, List.length_cons, psRep_len h.2]
  | [], _ :: _, h => by unfold PsRep at h; exact h.elim
  | _ :: _, [], h => by unfold PsRep at h; exact h.elim
theorem psRep_get {σ : Sg} {F : Fzn} {w : World} : ∀ {l : List PV} {us : List Value} (t : Nat), PsRep σ F w l us → PRep σ F w (argsE l t) ((us[t]?).getD undef)
  | [], [], t, _ => by unfold argsE; simp; exact rep_undef
  | x :: xs, u :: us, 0, h => by unfold PsRep at h; unfold argsE; simpa using h.1
  | x :: xs, u :: us, t + 1, h => by
    unfold PsRep at h
    have := psRep_get t h.2
    unfold argsE at this ⊢
    simpa using this
  | [], _ :: _, _, h => by unfold PsRep at h; exact h.elim
  | _ :: _, [], _, h => by unfold PsRep at h; exact h.elim
theorem tup_out {σ : Sg} {F : Fzn} {w : World} {vs : List PV} {us : List Value} {K : PV → Prop} (h : tupOf vs K) (hr : PsRep σ F w vs us) : ∃ v, K v ∧ PRep σ F w v (if h : us.toArray.size = 1 then us.toArray[0] else .tuple us.toArray) := by
  have hlen := psRep_len hr
  unfold tupOf at h
  split at h
  · rename_i v
    simp only [List.length_singleton] at hlen
    refine ⟨v, h, ?_⟩
    match us, hlen, hr with
    | [u], _, hr => unfold PsRep at hr; simpa using hr.1
  · rename_i hne
    refine ⟨_, h, ?_⟩
    have : ¬ us.toArray.size = 1 := by
      intro hq
      rw [List.size_toArray] at hq
      rw [hq] at hlen
      match vs, hlen, hne with
      | [v], _, hne => exact hne v rfl
    rw [dif_neg this]
    unfold PRep
    exact ⟨us, rfl, hr⟩
theorem results_run {P : Program} {c : Ctx} {nt : Nat} {σ : Sg} {e : Env} {h : Hp} {a : Act} {w : World} {fn : Func} {K : List PV → Prop} (hs : St c nt σ e h a w) (hr : resP P h e fn.results.toList K) :
    ∃ vs us, K vs ∧ (results fn a.tmps).run P w = .ok (if hx : us.toArray.size = 1 then us.toArray[0] else .tuple us.toArray) w ∧ PsRep σ (fz c σ h w) w vs us := by
  obtain ⟨vs, us, h1, h2, h3⟩ := resP_out hs hr
  refine ⟨vs, us, h1, ?_, h3⟩
  have he : results fn a.tmps = (do let vs ← fn.results.mapM (resF a.tmps); pure (if h : vs.size = 1 then vs[0] else .tuple vs)) := by
    unfold results
    congr 1
  rw [he, Array.mapM_eq_mapM_toList]
  simp only [Sem.run_bind, map_eq_pure_bind, bind_assoc, pure_bind, h2, Result.andThen_ok, Sem.run_pure]
section
variable {c : Ctx} {σ : Sg} {h : Hp} {w : World} {F' : Fzn}
theorem arr_close (hall : ∀ b o, c.own b → b < w.heap.size → F' b o) {k e e2 s lo n : Nat} {rows : List (List C)} {u : Value} (hu : DRep σ (fz c σ h w) w (.arr k e s lo n) u) (hrl : ∀ r ∈ rows, r.length = s) (hle : lo + n ≤ rows.length)
    (hh : ∃ ob q, σ k = some (ob, q) ∧ match ob with
      | none => True
      | some g => c.own g ∧ ∃ cur : Array Value, w.heap[g]? = some (Obj.cells cur e2 (0, 0)) ∧ CsRep F' w rows.flatten (cur.toList.take (rows.length * s))) : CRep F' w (.sl s ((rows.drop lo).take n)) u := by
  obtain ⟨ob, q, h1, h2⟩ := hh
  unfold DRep at hu
  have hlen : ((rows.drop lo).take n).length = n := by rw [List.length_take, List.length_drop]; omega
  unfold CRep
  rw [hlen]
  obtain ⟨_, ⟨m, g1, rfl, b0, rfl⟩ | ⟨g, m, off, cap, cur, fr, g1, rfl, g3, g4, g5, g6, g7⟩⟩ := hu
  · exact ⟨b0, 0, rfl, Nat.le_refl _, Nat.zero_le _, fun _ => rfl, .inl (by simp)⟩
  · refine ⟨_, cap, rfl, g3, g4, (fun e => by cases e), ?_⟩
    by_cases hn : n = 0
    · subst hn; exact .inl (by simp)
    · right
      rw [g1] at h1
      cases h1
      obtain ⟨hown, cur2, p1, p3⟩ := h2
      obtain rfl := g7 (by omega)
      refine ⟨g, lo * s, rfl, ?_⟩
      have hlt : g < w.heap.size := (Array.getElem?_eq_some_iff.1 p1).1
      have hr : RowsAt F' w s g 0 rows := by
        rw [rowsAt_iff]
        refine ⟨hrl, csAt_of_values p3 (fun j u hu => ?_) (fun j hj => hall _ _ hown hlt)⟩
        rw [Nat.zero_add, cell_of_row _ _ _ _ _ _ p1]
        rw [List.getElem?_take] at hu
        split at hu
        · simpa using hu
        · cases hu
      have := rowsAt_take n (rowsAt_drop lo (by omega) hr)
      rwa [Nat.zero_add] at this
theorem closeA_out (hs : SW c σ h w) (hk : Keeps (fz c σ h w) F' w w) (hall : ∀ b o, c.own b → b < w.heap.size → F' b o) {x : D} {K : C → Prop} (hx : D.closeA h x K) : ∃ y, K y ∧ ∀ u, DRep σ (fz c σ h w) w x u → CRep F' w y u := by
  unfold D.closeA at hx
  split at hx
  · exact ⟨_, hx, fun u hu => by unfold DRep at hu; exact CRep.keeps hk _ _ hu⟩
  · rename_i k e sz l
    refine ⟨_, hx, fun u hu => ?_⟩
    have := rows_val (σ := σ) (F := fz c σ h w) (w := w) (x := .d (.app k e sz l)) (.inr ⟨k, e, rfl⟩) (u := u) (by unfold PRep; exact hu)
    refine CRep.keeps hk _ _ ?_
    unfold CRep
    exact this
  · rename_i k e sz lo n
    split at hx
    · rename_i e2 s rows hh
      split at hx
      · rename_i es
        obtain rfl := Nat.eq_of_beq_eq_true es
        obtain ⟨hle, hx⟩ := hx
        refine ⟨_, hx, fun u hu => ?_⟩
        obtain ⟨hz, hrl, ob, q, h1, h2⟩ := hs.hp k _ hh
        refine arr_close (e2 := e2) hall hu hrl hle ⟨ob, q, h1, ?_⟩
        cases ob with
        | none => trivial
        | some g => exact ⟨h2.1, h2.2.choose, h2.2.choose_spec.1, CsRep.keeps hk _ _ h2.2.choose_spec.2.2⟩
      · exact hx.elim
    · exact hx.elim
  · rename_i f
    refine ⟨_, hx, fun u hu => ?_⟩
    unfold DRep at hu
    obtain ⟨us, vs, rfl, h1, h2⟩ := hu
    rw [dsRep_nil_inv h1, dsRep_nil_inv h2]
    unfold CRep
    exact ⟨rfl, rfl⟩
  · exact hx.elim
theorem dsRep_split {F : Fzn} : ∀ {a b : List D} {us : List Value}, DsRep σ F w (a ++ b) us → ∃ u1 u2, us = u1 ++ u2 ∧ DsRep σ F w a u1 ∧ DsRep σ F w b u2
  | [], b, us, h => ⟨[], us, rfl, dsRep_nil, h⟩
  | x :: xs, b, us, h => by
    rw [List.cons_append] at h
    obtain ⟨u, vs, rfl, h1, h2⟩ := dsRep_inv h
    obtain ⟨u1, u2, rfl, h3, h4⟩ := dsRep_split h2
    exact ⟨u :: u1, u2, rfl, dsRep_cons h1 h3, h4⟩
theorem clL_out (hs : SW c σ h w) (hk : Keeps (fz c σ h w) F' w w) (hall : ∀ b o, c.own b → b < w.heap.size → F' b o) : ∀ {l : List D} {ys : List C}, ClL h l ys → ys.length = l.length ∧ ∀ us, DsRep σ (fz c σ h w) w l us → CsRep F' w ys us
  | [], ys, h => by unfold ClL at h; subst h; exact ⟨rfl, fun us hu => by rw [dsRep_nil_inv hu]; exact csRep_nil⟩
  | x :: xs, ys, h => by
    unfold ClL at h
    split at h
    · exact h.elim
    · obtain ⟨y, rfl, h2⟩ := closeA_out hs hk hall h.1
      obtain ⟨h3, h4⟩ := clL_out hs hk hall h.2
      refine ⟨by rw [List.length_cons, List.length_cons, h3], fun us hu => ?_⟩
      obtain ⟨u, vs, rfl, g1, g2⟩ := dsRep_inv hu
      exact csRep_cons (h2 u g1) (h4 vs g2)
theorem clR_out {s : Nat} (hs : SW c σ h w) (hk : Keeps (fz c σ h w) F' w w) (hall : ∀ b o, c.own b → b < w.heap.size → F' b o) : ∀ {l : List (List D)} {rs : List (List C)}, (∀ r ∈ l, r.length = s) → ClR h l rs →
    rs.length = l.length ∧ (∀ r ∈ rs, r.length = s) ∧ ∀ us, DsRep σ (fz c σ h w) w l.flatten us → CsRep F' w rs.flatten us
  | [], rs, _, hr => by
    unfold ClR at hr
    subst hr
    exact ⟨rfl, by simp, fun us hu => by rw [List.flatten_nil] at hu; rw [dsRep_nil_inv hu]; exact csRep_nil⟩
  | x :: xs, rs, hl, hr => by
    unfold ClR at hr
    split at hr
    · exact hr.elim
    · obtain ⟨g1, g2⟩ := clL_out hs hk hall hr.1
      obtain ⟨i1, i2, i3⟩ := clR_out hs hk hall (fun r hr => hl r (List.mem_cons_of_mem _ hr)) hr.2
      refine ⟨by rw [List.length_cons, List.length_cons, i1], fun r hr => ?_, fun us hu => ?_⟩
      · rcases List.mem_cons.1 hr with rfl | hr
        · rw [g1]; exact hl _ (List.mem_cons_self ..)
        · exact i2 r hr
      · rw [List.flatten_cons] at hu ⊢
        obtain ⟨u1, u2, rfl, f1, f2⟩ := dsRep_split hu
        exact CsRep.append (g2 u1 f1) (i3 u2 f2)
theorem closeH_out (hs : SW c σ h w) (hk : Keeps (fz c σ h w) F' w w) (hall : ∀ b o, c.own b → b < w.heap.size → F' b o) {x : D} {K : C → Prop} (hx : D.closeH h x K) : ∃ y, K y ∧ ∀ u, DRep σ (fz c σ h w) w x u → CRep F' w y u := by
  unfold D.closeH at hx
  split at hx
  · exact ⟨_, hx, fun u hu => by unfold DRep at hu; exact CRep.keeps hk _ _ hu⟩
  · rename_i k e sz l
    refine ⟨_, hx, fun u hu => ?_⟩
    have := rows_val (σ := σ) (F := fz c σ h w) (w := w) (x := .d (.app k e sz l)) (.inr ⟨k, e, rfl⟩) (u := u) (by unfold PRep; exact hu)
    refine CRep.keeps hk _ _ ?_
    unfold CRep
    exact this
  · rename_i k e sz lo n
    split at hx
    · rename_i e2 s rows hh
      split at hx
      · rename_i es
        obtain rfl := Nat.eq_of_beq_eq_true es
        obtain ⟨hle, hx⟩ := hx
        refine ⟨_, hx, fun u hu => ?_⟩
        obtain ⟨hz, hrl, ob, q, h1, h2⟩ := hs.hp k _ hh
        refine arr_close (e2 := e2) hall hu hrl hle ⟨ob, q, h1, ?_⟩
        cases ob with
        | none => trivial
        | some g => exact ⟨h2.1, h2.2.choose, h2.2.choose_spec.1, CsRep.keeps hk _ _ h2.2.choose_spec.2.2⟩
      · exact hx.elim
    · rename_i e2 s rows hh
      split at hx
      · rename_i es
        obtain rfl := Nat.eq_of_beq_eq_true es
        obtain ⟨rs, hr, hle, hx⟩ := hx
        refine ⟨_, hx, fun u hu => ?_⟩
        obtain ⟨hz, hrl, ob, q, h1, h2⟩ := hs.hp k _ hh
        obtain ⟨i1, i2, i3⟩ := clR_out hs hk hall hrl hr
        refine arr_close (e2 := e2) hall hu i2 hle ⟨ob, q, h1, ?_⟩
        cases ob with
        | none => trivial
        | some g =>
          obtain ⟨q1, cur, q2, q3, q4⟩ := h2
          exact ⟨q1, cur, q2, by rw [i1]; exact i3 _ q4⟩
      · exact hx.elim
    · exact hx.elim
  · rename_i f
    refine ⟨_, hx, fun u hu => ?_⟩
    unfold DRep at hu
    obtain ⟨us, vs, rfl, h1, h2⟩ := hu
    rw [dsRep_nil_inv h1, dsRep_nil_inv h2]
    unfold CRep
    exact ⟨rfl, rfl⟩
  · exact hx.elim
theorem closeHL_out (hs : SW c σ h w) (hk : Keeps (fz c σ h w) F' w w) (hall : ∀ b o, c.own b → b < w.heap.size → F' b o) : ∀ {l : List D} {K : List C → Prop}, closeHL h l K → ∃ ys, K ys ∧ ∀ us, DsRep σ (fz c σ h w) w l us → CsRep F' w ys us
  | [], K, h => ⟨[], h, fun us hu => by rw [dsRep_nil_inv hu]; exact csRep_nil⟩
  | x :: xs, K, h => by
    unfold closeHL at h
    obtain ⟨y, h1, h2⟩ := closeH_out hs hk hall h
    obtain ⟨ys, h3, h4⟩ := closeHL_out hs hk hall h1
    refine ⟨y :: ys, h3, fun us hu => ?_⟩
    obtain ⟨u, vs, rfl, g1, g2⟩ := dsRep_inv hu
    exact csRep_cons (h2 u g1) (h4 vs g2)
mutual
theorem pcloseH_out (hs : SW c σ h w) (hk : Keeps (fz c σ h w) F' w w) (hall : ∀ b o, c.own b → b < w.heap.size → F' b o) : ∀ {x : PV} {K : PV → Prop}, PV.closeH h x K → ∃ y, K y ∧ ∀ u, PRep σ (fz c σ h w) w x u → PRep (fun _ => none) F' w y u
  | .d x, K, h => by
    unfold PV.closeH at h
    obtain ⟨y, h1, h2⟩ := closeH_out hs hk hall h
    refine ⟨_, h1, fun u hu => ?_⟩
    unfold PRep at hu ⊢
    unfold DRep
    exact h2 u hu
  | .agg l, K, h => by
    unfold PV.closeH at h
    obtain ⟨ys, h1, h2⟩ := closeHL_out hs hk hall h
    refine ⟨_, h1, fun u hu => ?_⟩
    unfold PRep at hu ⊢
    obtain ⟨xs, rfl, hx⟩ := hu
    exact ⟨xs, rfl, dsRep_of_cs (h2 xs hx)⟩
  | .tup l, K, h => by
    unfold PV.closeH at h
    obtain ⟨ys, h1, h2⟩ := closeHPs_out hs hk hall h
    refine ⟨_, h1, fun u hu => ?_⟩
    unfold PRep at hu ⊢
    obtain ⟨xs, rfl, hx⟩ := hu
    exact ⟨xs, rfl, h2 xs hx⟩
  | .any, K, h => by unfold PV.closeH at h; exact h.elim
theorem closeHPs_out (hs : SW c σ h w) (hk : Keeps (fz c σ h w) F' w w) (hall : ∀ b o, c.own b → b < w.heap.size → F' b o) : ∀ {l : List PV} {K : List PV → Prop}, closeHPs h l K → ∃ ys, K ys ∧ ∀ us, PsRep σ (fz c σ h w) w l us → PsRep (fun _ => none) F' w ys us
  | [], K, h => by
    unfold closeHPs at h
    refine ⟨[], h, fun us hu => ?_⟩
    cases us with
    | nil => unfold PsRep; trivial
    | cons _ _ => unfold PsRep at hu; exact hu.elim
  | x :: xs, K, h => by
    unfold closeHPs at h
    obtain ⟨y, h1, h2⟩ := pcloseH_out hs hk hall h
    obtain ⟨ys, h3, h4⟩ := closeHPs_out hs hk hall h1
    refine ⟨y :: ys, h3, fun us hu => ?_⟩
    cases us with
    | nil => unfold PsRep at hu; exact hu.elim
    | cons u us => unfold PsRep at hu ⊢; exact ⟨h2 u hu.1, h4 us hu.2⟩
end
end
theorem getD_args {vs : List Value} {nt t : Nat} : (vs.toArray ++ Array.replicate (nt - vs.toArray.size) undef).getD t undef = (vs[t]?).getD undef := by
  rw [Array.getD_eq_getD_getElem?, Array.getElem?_append]
  split
  · simp
  · rename_i hlt
    have : vs[t]? = none := List.getElem?_eq_none (by simpa using hlt)
    rw [this, Array.getElem?_replicate]
    split <;> rfl
theorem pure_of {P : Program} {f : FuncId} {fn : Func} {cd : Code} {args : List PV} {res : PV} (hf : P.funcs[f]? = some fn) (hn : (fn.name == "runtime.NumGoroutine") = false) (hb : fn.body = some cd) (hm : P.follows .mixedOrders = true)
    (ha : Nat.ble args.length fn.ntmps = true) (hv : vc P fn.ntmps [] (fun _ _ _ _ => False) cd (argsE args) (fun _ => none) [] (retQ P fn res)) : Pure P f args res := by
  refine ⟨⟨fn, hf, hn, by rw [hb]; rfl⟩, fun F w vs hG hF hargs => ?_⟩
  have hal := Nat.le_of_ble_eq_true ha
  have hvl := psRep_len hargs
  obtain ⟨c, hcdef⟩ : ∃ c : Ctx, c = ⟨w, F, fun _ => False, fun _ _ => False, fun _ => none, []⟩ := ⟨_, rfl⟩
  have hn0 : c.n0 = w.heap.size := by rw [hcdef]
  have hF0 : c.F0 = F := by rw [hcdef]
  have hF1 : c.F1 = fun _ _ => False := by rw [hcdef]
  have hσ0 : c.σ0 = fun _ => none := by rw [hcdef]
  have hw0 : c.w0 = w := by rw [hcdef]
  have hdf : c.df = [] := by rw [hcdef]
  have hext : ∀ b, ¬ c.ext b := by intro b; rw [hcdef]; exact id
  have hc : c.Ok := ⟨fun b o h => ⟨by rw [hn0]; exact hF b o (by rw [← hF0]; exact h), hext b⟩, by rw [hw0]; exact hG, fun b _ => hext b⟩
  have hfz : ∀ b o, F b o → fz c (fun _ => none) (fun _ => none) w b o := fun b o h => .inl ⟨by rw [hn0]; exact hF b o h, by rw [hF0]; exact h⟩
  have hst : St c fn.ntmps (fun _ => none) (argsE args) (fun _ => none) { tmps := vs.toArray ++ Array.replicate (fn.ntmps - vs.toArray.size) undef, defers := [] } w := by
    refine ⟨⟨by rw [hw0], by rw [hw0], by rw [hw0], by rw [hn0]; exact Nat.le_refl _, fun b _ _ => by rw [hw0], (fun k hb hk => by cases hk), fun k k' g n n' hk => absurd rfl hk, ?_, by rw [hw0]; exact Shape.refl _, fun k x hk => by rw [hσ0] at hk; cases hk⟩, fun t => ?_, hdf.symm, ?_⟩
    · rw [hF1, hw0]; exact ⟨fun _ _ h => h.elim, fun _ _ h => h.elim⟩
    · have h1 := psRep_get t (PsRep.of_none (σ := fun _ => none) ⟨hfz, fun _ _ _ => rfl⟩ _ _ hargs)
      show PRep _ _ _ _ ((vs.toArray ++ Array.replicate (fn.ntmps - vs.toArray.size) undef).getD t undef)
      rw [getD_args]; exact h1
    · simp; omega
  refine calls_of_wp hf hb (wp_mono (vc_out (fun k hk => absurd (by rw [hσ0]) hk) hc hm cd _ _ _ _ _ _ w hv hst (fun _ _ => rfl)) ?_)
  intro x a' w' hq
  have fin : ∀ e' h' σ', St c fn.ntmps σ' e' h' a' w' → resP P h' e' fn.results.toList (fun vs => closeHPs h' vs fun vs => tupOf vs fun v => Ret v res) →
      a'.defers = [] ∧ ∃ v, (results fn a'.tmps).run P w' = .ok v w' ∧ ∃ v', Ending.returned v = .returned v' ∧ Below w.heap.size w w' ∧ PRep (fun _ => none) (fun b o => F b o ∨ (w.heap.size ≤ b ∧ b < w'.heap.size)) w' res v' := by
    intro e' h' σ' hs' hr
    obtain ⟨ps, us, h1, h2, h3⟩ := results_run hs' hr
    have hbel : Below w.heap.size w w' := ⟨by rw [hs'.os, hw0], by rw [hs'.tape, hw0], by rw [hs'.output, hw0], by have := hs'.size; rw [hn0] at this; exact this, fun k hk => by
      rw [hs'.block k (by rw [hn0]; exact hk) (hext k), hw0]⟩
    have hkeep : Keeps (fz c σ' h' w') (fun b o => F b o ∨ (w.heap.size ≤ b ∧ b < w'.heap.size)) w' w' := by
      refine ⟨fun b o hq => ?_, fun _ _ _ => rfl⟩
      rcases hq with ⟨q1, q2⟩ | ⟨q1, q2, _⟩
      · rw [hF0] at q2; exact .inl q2
      · rcases q1 with q1 | q1
        · rw [hn0] at q1; exact .inr ⟨q1, q2⟩
        · exact absurd q1 (hext b)
    obtain ⟨ps', h1, h4⟩ := closeHPs_out hs'.toSW hkeep (fun b o hown hlt => by
      rcases hown with q | q
      · rw [hn0] at q; exact .inr ⟨q, hlt⟩
      · exact absurd q (hext b)) h1
    obtain ⟨v, h5, h6⟩ := tup_out h1 (h4 us h3)
    refine ⟨hs'.defers.trans hdf, _, h2, _, rfl, hbel, ?_⟩
    rcases h5 with rfl | h5
    · exact h6
    · have := prep_wk (σ := fun _ => none) (f := fun _ => none) (n := []) (F' := fun b o => F b o ∨ (w.heap.size ≤ b ∧ b < w'.heap.size)) (w := w') ⟨fun _ _ h => h, fun _ _ _ => rfl⟩ _ _ _ h5 h6
      have e1 : newSg (fun _ => none) (fun _ => none) ([] : List Nat) = fun _ => none := by funext k; unfold newSg; rw [if_neg (by simp [kin])]
      rw [e1] at this
      exact this
  cases x with
  | normal => obtain ⟨e', h', n', σ', hq, hs', _⟩ := hq; exact fin _ _ _ hs' hq
  | ret => obtain ⟨e', h', n', σ', hq, hs', _⟩ := hq; exact fin _ _ _ hs' hq
  | exit id => obtain ⟨e', h', n', σ', hq, hs', _⟩ := hq; exact hq
  | goto l => obtain ⟨e', h', n', σ', hq, hs', _⟩ := hq; exact hq
  | panic ch => obtain ⟨v, _, e', h', n', σ', hq, _⟩ := hq; exact hq.elim
  | outgrown => obtain ⟨e', h', n', σ', hq, hs', _⟩ := hq; exact hq.elim
theorem hp_keys {c : Ctx} {r : Rf} {σ : Sg} {w : World} (hs : SW c σ (hpL r) w) (hnd : ndK r = true) : ∀ k ∈ r.map Prod.fst, σ k ≠ none := by
  intro k hk
  obtain ⟨⟨q, b⟩, h1, h2⟩ := List.mem_map.1 hk
  simp only at h2
  subst h2
  exact hb_sg (hs.hp q b (mem_hpL hnd h1))
theorem st_begin {c : Ctx} {nt : Nat} {h : Hp} {args : List PV} {vs : List Value} (hs : SW c c.σ0 h c.w0) (hargs : PsRep c.σ0 (fz c c.σ0 h c.w0) c.w0 args vs) (ha : args.length ≤ nt) (hdf : c.df = []) :
    St c nt c.σ0 (argsE args) h { tmps := vs.toArray ++ Array.replicate (nt - vs.toArray.size) undef, defers := [] } c.w0 := by
  have hvl := psRep_len hargs
  refine ⟨hs, fun t => ?_, hdf.symm, by simp; omega⟩
  have h1 := psRep_get t hargs
  show PRep _ _ _ _ ((vs.toArray ++ Array.replicate (nt - vs.toArray.size) undef).getD t undef)
  rw [getD_args]; exact h1
theorem callS_of {P : Program} {f : FuncId} {fn : Func} {cd : Code} {args : List PV} {res : PV} {rd rf out : Rf} (hf : P.funcs[f]? = some fn) (hn : (fn.name == "runtime.NumGoroutine") = false) (hb : fn.body = some cd) (hm : P.follows .mixedOrders = true)
    (ha : Nat.ble args.length fn.ntmps = true) (fk : List Nat) (hfk : fk = (rd ++ rf).map Prod.fst)
    (hv : vc P fn.ntmps fk (fun _ _ _ _ => False) cd (argsE args) (hpL (rd ++ rf)) fk (retS P fn fk res (rd ++ out))) : CallS P f args rd rf res out := by
  refine ⟨⟨fn, hf, hn, by rw [hb]; rfl⟩, fun c vs hc hdf hfr hs hargs => ?_⟩
  have hst := st_begin hs hargs (Nat.le_of_ble_eq_true ha) hdf
  have hfr' : ∀ k, k ∉ fk → c.σ0 k = none := fun k hk => hfr k (by rw [← hfk]; exact hk)
  have hfk' : ∀ k, c.σ0 k ≠ none → k ∈ fk := fun k hk => Classical.byContradiction fun h => hk (hfr' k h)
  refine calls_of_wp hf hb (wp_mono (vc_out hfk' hc hm cd _ _ _ _ _ _ _ hv hst hfr') ?_)
  intro x a' w' hq
  have fin : ∀ e' h' σ', St c fn.ntmps σ' e' h' a' w' → resP P h' e' fn.results.toList (fun vs => tupOf vs fun v => RetS fk h' res (rd ++ out) v) →
      a'.defers = [] ∧ ∃ v, (results fn a'.tmps).run P w' = .ok v w' ∧ ∃ v' σ1, Ending.returned v = .returned v' ∧ SW c σ1 (hpL (rd ++ out)) w' ∧ PRep σ1 (fz c σ1 (hpL (rd ++ out)) w') w' res v' := by
    intro e' h' σ' hs' hr
    obtain ⟨ps, us, h1, h2, h3⟩ := results_run hs' hr
    obtain ⟨v, h5, h6⟩ := tup_out h1 h3
    obtain ⟨g, n, q1, q2, q3, q4⟩ := h5
    obtain ⟨hk, hsw⟩ := sw_wk hfk' hs'.toSW q1 q2 q4
    exact ⟨hs'.defers.trans hdf, _, h2, _, _, rfl, hsw, prep_wk hk _ _ _ q3 h6⟩
  cases x with
  | normal => obtain ⟨e', h', n', σ', hq, hs', _⟩ := hq; exact fin _ _ _ hs' hq
  | ret => obtain ⟨e', h', n', σ', hq, hs', _⟩ := hq; exact fin _ _ _ hs' hq
  | exit id => obtain ⟨e', h', n', σ', hq, hs', _⟩ := hq; exact hq
  | goto l => obtain ⟨e', h', n', σ', hq, hs', _⟩ := hq; exact hq
  | panic ch => obtain ⟨v, _, e', h', n', σ', hq, _⟩ := hq; exact hq.elim
  | outgrown => obtain ⟨e', h', n', σ', hq, hs', _⟩ := hq; exact hq.elim
theorem kin_of {k : Nat} : ∀ {n : List Nat}, k ∈ n → kin k n = true
  | x :: xs, h => by
    unfold kin
    cases hq : Nat.beq k x with
    | true => rfl
    | false =>
      rw [cond_false]
      rcases List.mem_cons.1 h with rfl | h
      · have := Nat.beq_refl k; rw [show Nat.beq k k = false from hq] at this; cases this
      · exact kin_of h
theorem fnL_id {k : Nat} : ∀ {n : List Nat}, k ∈ n → fnL (n.map fun k => (k, k)) k = some k
  | x :: xs, h => by
    show (bif Nat.beq k x then some x else _) = _
    cases hq : Nat.beq k x with
    | true => rw [cond_true, Nat.eq_of_beq_eq_true hq]
    | false =>
      rw [cond_false]
      rcases List.mem_cons.1 h with rfl | h
      · have := Nat.beq_refl k; rw [show Nat.beq k k = false from hq] at this; cases this
      · exact fnL_id h
theorem fkOk_id (fk : List Nat) : fkOk (fnL (fk.map fun k => (k, k))) fk fk = true := by
  have main : ∀ l : List Nat, (∀ k ∈ l, k ∈ fk) → fkOk (fnL (fk.map fun k => (k, k))) fk l = true := by
    intro l
    induction l with
    | nil => intro _; rfl
    | cons k l ih =>
      intro hl
      unfold fkOk
      rw [fnL_id (hl k (List.mem_cons_self ..)), kin_of (hl k (List.mem_cons_self ..)), ih fun q hq => hl q (List.mem_cons_of_mem _ hq)]
      simp
  exact main fk fun _ h => h
theorem callX_of {P : Program} {f : FuncId} {fn : Func} {cd : Code} {args : List PV} {x : Value} {rd : Rf} (hf : P.funcs[f]? = some fn) (hn : (fn.name == "runtime.NumGoroutine") = false) (hb : fn.body = some cd) (hm : P.follows .mixedOrders = true)
    (ha : Nat.ble args.length fn.ntmps = true) (fk : List Nat) (hfk : fk = rd.map Prod.fst)
    (hv : vc P fn.ntmps fk (fun y _ _ _ => y = x) cd (argsE args) (hpL rd) fk (fun _ _ _ _ => False)) : CallX P f args rd x := by
  refine ⟨⟨fn, hf, hn, by rw [hb]; rfl⟩, fun c vs hc hdf hfr hs hargs => ?_⟩
  have hst := st_begin hs hargs (Nat.le_of_ble_eq_true ha) hdf
  have hfr' : ∀ k, k ∉ fk → c.σ0 k = none := fun k hk => hfr k (by rw [← hfk]; exact hk)
  have hfk' : ∀ k, c.σ0 k ≠ none → k ∈ fk := fun k hk => Classical.byContradiction fun h => hk (hfr' k h)
  refine calls_of_wp hf hb (wp_mono (vc_out hfk' hc hm cd _ _ _ _ _ _ _ hv hst hfr') ?_)
  intro x' a' w' hq
  cases x' with
  | normal => obtain ⟨e', h', n', σ', hq, hs', _⟩ := hq; exact hq.elim
  | ret => obtain ⟨e', h', n', σ', hq, hs', _⟩ := hq; exact hq.elim
  | exit id => obtain ⟨e', h', n', σ', hq, hs', _⟩ := hq; exact hq
  | goto l => obtain ⟨e', h', n', σ', hq, hs', _⟩ := hq; exact hq
  | panic ch =>
    obtain ⟨v, rfl, e', h', n', σ', rfl, hs', _⟩ := hq
    obtain ⟨_, hsw⟩ := sw_wk (lh := []) (f := fnL (fk.map fun k => (k, k))) (n := fk) hfk' hs'.toSW rfl (fkOk_id fk) trivial
    exact ⟨hs'.defers.trans hdf, rfl, _, hsw⟩
  | outgrown => obtain ⟨e', h', n', σ', hq, hs', _⟩ := hq; exact hq.elim
end Go.Proofs.YtmcmagfondjopaaDoor.Pm
end
section
namespace Go.Proofs.YtmcmagfondjopaaDoor.Pm
open Go.RowKit
theorem BCase.t {b : Bool} {A B : Prop} (hb : b = true) (h : A) : BCase b A B := ⟨fun _ => h, fun e => by rw [hb] at e; cases e⟩
theorem BCase.f {b : Bool} {A B : Prop} (hb : b = false) (h : B) : BCase b A B := ⟨(fun e => by rw [hb] at e; cases e), fun _ => h⟩
theorem BCase.dt {p : Prop} [Decidable p] {A B : Prop} (hp : p) (h : A) : BCase (decide p) A B := BCase.t (decide_eq_true hp) h
theorem BCase.df {p : Prop} [Decidable p] {A B : Prop} (hp : ¬ p) (h : B) : BCase (decide p) A B := BCase.f (decide_eq_false hp) h
theorem BCase.d {p : Prop} [Decidable p] {A B : Prop} (h1 : p → A) (h2 : ¬ p → B) : BCase (decide p) A B := ⟨fun e => h1 (of_decide_eq_true e), fun e => h2 (of_decide_eq_false e)⟩
theorem BCase.tt {A B : Prop} (h : A) : BCase true A B := BCase.t rfl h
theorem BCase.ff {A B : Prop} (h : B) : BCase false A B := BCase.f rfl h
theorem Wr.i64 {x : Int} {K : Int → Prop} (h1 : -9223372036854775808 ≤ x) (h2 : x ≤ 9223372036854775807) (h : K x) : Wr .i64 x K := ⟨x, IntWalk.i64_in x ⟨h1, h2⟩, h⟩
theorem Idx.map {α : Type} {f : α → List C} {l : List α} {n : Nat} {K : List C → Prop} (hn : n < l.length) (h : K (f l[n])) : Idx (l.map f) (n : Int) K :=
  ⟨f l[n], by omega, by simp [hn], h⟩
theorem Idx.mapI {α : Type} {f : α → List C} {l : List α} {n : Int} {K : List C → Prop} (k : Nat) (hk : n = (k : Int)) (hn : k < l.length) (h : K (f l[k])) : Idx (l.map f) n K := by
  subst hk; exact Idx.map hn h
theorem PLe.int {f : Nat → Option Nat} {n : List Nat} {k : IntKind} {a b : Int} (h : b = a) : PLe f n (pInt k a) (pInt k b) := by rw [h]; exact .inl rfl
theorem PLe.c {f : Nat → Option Nat} {n : List Nat} {x y : C} (h : y = x) : PLe f n (.d (.c x)) (.d (.c y)) := .inl h
end Go.Proofs.YtmcmagfondjopaaDoor.Pm
namespace Go.Proofs.YtmcmagfondjopaaDoor.Pm
open Go.RowKit
abbrev FK : Nat := 1000000
abbrev FK1 : Nat := 1000001
abbrev NK : Nat := 2000000
abbrev FK2 : Nat := 1000002
abbrev FK3 : Nat := 1000003
abbrev NK1 : Nat := 2000001
abbrev NK2 : Nat := 2000002
theorem sl_of_row {F : Fzn} {w : World} {B e sz n : Nat} {v : Value} {xs : List Value} (h : w.ownsRow B e sz v n xs) {l : List (List C)} (hl : l.length = n) (hsz : ∀ r ∈ l, r.length = sz)
    (hx : CsRep F w l.flatten xs) (hF : ∀ b o, B ≤ b → b < w.heap.size → F b o) : CRep F w (.sl sz l) v := by
  obtain ⟨h1, h2⟩ := h
  unfold CRep
  rcases h2 with ⟨rfl, rfl⟩ | ⟨g, cap, cur, rfl, h3, h4, h5, h6, h7, h8⟩
  · have : l = [] := List.length_eq_zero_iff.1 hl
    subst this
    exact ⟨none, 0, rfl, Nat.le_refl _, Nat.zero_le _, fun _ => rfl, .inl rfl⟩
  · refine ⟨some ⟨g, 0, none⟩, cap, by rw [hl], by rw [hl]; exact h5, h6, (fun e => by cases e), .inr ⟨g, 0, rfl, ?_⟩⟩
    have hlt : g < w.heap.size := (Array.getElem?_eq_some_iff.1 h4).1
    rw [rowsAt_iff]
    refine ⟨hsz, csAt_of_values hx (fun j u hu => ?_) fun j hj => hF _ _ h3 hlt⟩
    rw [Nat.zero_add, cell_of_row _ _ _ _ _ _ h4, ← Array.getElem?_toList]
    rw [← h8] at hu
    rw [List.getElem?_take] at hu
    split at hu
    · exact hu
    · cases hu
def pv (x : Value) : PV := .d (.c (.v x))
theorem psRep_vals {σ : Sg} {F : Fzn} {w : World} : ∀ {vs us : List Value}, PsRep σ F w (vs.map pv) us → us = vs
  | [], [], _ => rfl
  | [], _ :: _, h => by unfold List.map PsRep at h; exact h.elim
  | _ :: _, [], h => by unfold List.map PsRep at h; exact h.elim
  | v :: vs, u :: us, h => by
    rw [List.map_cons] at h
    unfold PsRep at h
    rw [psRep_vals h.2]
    have := rep_v h.1
    rw [this]
theorem pure_hand {P : Program} {f : FuncId} {vs : List Value} {res : PV} (hf : fnOk P f)
    (h : ∀ w : World, GL w → Calls P f vs.toArray w fun e w' => ∃ v, e = .returned v ∧ Below w.heap.size w w' ∧ ∀ F : Fzn, (∀ b o, w.heap.size ≤ b → b < w'.heap.size → F b o) → PRep (fun _ => none) F w' res v) :
    Pure P f (vs.map pv) res := by
  refine ⟨hf, fun F w us hG hF hus => ?_⟩
  rw [psRep_vals hus]
  intro cs
  obtain ⟨e, w0, fr, ⟨v, h1, h2, h3⟩, h4⟩ := h w hG cs
  exact ⟨e, w0, fr, ⟨v, h1, h2, h3 _ fun b o h5 h6 => .inr ⟨h5, h6⟩⟩, h4⟩
def encS (s : ByteArray) : List C := [.v (.string s)]
theorem rep_texts {F : Fzn} {w : World} : ∀ l : List ByteArray, CsRep F w (l.map encS).flatten (l.map Value.string)
  | [] => by unfold CsRep; trivial
  | s :: l => by
    rw [List.map_cons, List.flatten_cons, List.map_cons]
    show CsRep F w (.v (.string s) :: (l.map encS).flatten) _
    unfold CsRep
    exact ⟨by unfold CRep; exact ⟨rfl, rfl⟩, rep_texts l⟩
end Go.Proofs.YtmcmagfondjopaaDoor.Pm
end
section
namespace Go.Proofs.YtmcmagfondjopaaDoor.Pm
open Go.ChangeShapes Go.WideShapes Go.RowKit Go.Lib
def litCells : Nat → DataW Unit → List Value
  | _ + 1, .lit l => [l.value]
  | n + 1, .agg l => l.flatMap (litCells n)
  | _, _ => []
noncomputable def laidWorld (os : Os) : World :=
  let w0 := World.holding Tryd.prog os ⟨#[], #[], []⟩
  let put (h : Array Obj) (g : Nat) (cs : Array Value) : Array Obj := h.modify g fun
    | .cells _ t frozen => .cells cs t frozen
    | o => o
  let h1 := put w0.heap 0 (litCells 4 Rows.laid_starling_starlingref_signWords).toArray
  { w0 with heap := h1 }
abbrev laidList : List (String × DataW Unit) := [("starling/starlingref.signWords", Rows.laid_starling_starlingref_signWords)]
theorem laid_met (os : Os) (args : Array Value) : laidMet Tryd.prog laidList ((laidWorld os).forCall (fun _ _ => 0) ⟨#[], args, []⟩).memory :=
  (LaidIn.of_run [0] 8 (by kernel_rfl) (by kernel_rfl) (by kernel_rfl) (by kernel_rfl)).met
theorem cells_of_strs {H : Type} {enc : TypeId × Value → H} {P : Program} {w : World} {base : Nat} {sp : Nat → Bool} {held : Bool} {fuel : Nat} {t e : TypeId} {n : Nat} {cs : List Value} {zs : List (List UInt8)} {p : List MemPlace}
    (ht : P.underlying t = some (.array n e)) (he : P.underlying e = some .string) (hce : P.cellsOf e = 1) (hct : P.cellsOf t = n)
    (h : DataW.trod enc P w base sp held fuel t cs = some (.agg (zs.map fun z => .lit (.string z)), p)) : cs = zs.map fun z => Value.string ⟨z.toArray⟩ := by
  cases fuel with
  | zero => simp [DataW.trod] at h
  | succ fuel =>
    simp only [DataW.trod, ht, hce, hct, Nat.mul_one] at h
    split at h
    · rename_i hl
      obtain ⟨xs, hm, hx⟩ := Option.map_eq_some_iff.1 h
      have hxs : xs.map (·.1) = zs.map fun z => (DataW.lit (.string z) : DataW H) := by
        have := congrArg Prod.fst hx
        simpa using this
      have hxl : xs.length = n := by simpa using Lib.mapM_length hm
      have hzl : zs.length = n := by
        have := congrArg List.length hxs
        simp at this
        omega
      apply List.ext_getElem?
      intro i
      by_cases hi : i < n
      · obtain ⟨b, hb, hf⟩ := Lib.mapM_at hm i i (by simp [hi])
        obtain ⟨z, hc, rfl, _⟩ := DataW.trod_string he hf
        have h1 : cs[i]? = some (.string z) := by
          have := congrArg (·[0]?) hc
          simpa [List.getElem?_take, List.getElem?_drop] using this
        have h2 : (xs.map (·.1))[i]? = some (DataW.lit (.string z.data.toList) : DataW H) := by simp [hb]
        rw [hxs] at h2
        simp only [List.getElem?_map, Option.map_eq_some_iff, DataW.lit.injEq, Lit.string.injEq] at h2
        obtain ⟨z', hz', e⟩ := h2
        rw [h1, List.getElem?_map, hz']
        subst e
        rfl
      · rw [List.getElem?_eq_none (by omega), List.getElem?_eq_none (by simp; omega)]
    · cases h
theorem tab_words {W : World} (hL : laidMet Tryd.prog laidList W) : VarIs Tryd.prog W "starling/starlingref.signWords" wordsTab := by
  obtain ⟨g', t', cs, fuel, p, hg', ht', hvar, hd⟩ := Lib.laidMet.reads hL (.head _)
  obtain rfl := Option.some.inj (glob_words.symm.trans hg')
  unfold VarIs
  rw [hvar]
  obtain rfl := Option.some.inj (ht'.symm.trans (show (Tryd.prog.globals[0]?).map (·.type) = some 75 by kernel_rfl))
  have h4 : Tryd.prog.underlying 75 = some (.array 18 9) := by kernel_rfl
  have h5 : Tryd.prog.cellsOf 75 = 18 := by kernel_rfl
  rw [show (Rows.laid_starling_starlingref_signWords : DataW Unit) = .agg (wordsL.map fun z => .lit (.string z)) by kernel_rfl] at hd
  have e := cells_of_strs h4 Tryd.underlying9 (by kernel_rfl) h5 hd
  show some cs = some wordsTab.toArray
  rw [show wordsTab = cs.toList from e.symm]
theorem tabs_of_laid {W : World} (hL : laidMet Tryd.prog laidList W) : GL W := tab_words hL
theorem Pure.walk {P : Program} {f : FuncId} {args : List PV} (h : Pure P f args (pBool true)) {w : World} (hG : GL w) (vs : List Value) (hargs : PsRep (fun _ => none) (fun _ _ => False) w args vs) :
    Calls P f vs.toArray w fun e w' => e = .returned (.bool true) ∧ Below w.heap.size w w' := by
  refine (h.2 (fun _ _ => False) w vs hG (fun _ _ e => e.elim) hargs).mono ?_
  rintro e w' ⟨v, rfl, hb, hr⟩
  rw [rep_v hr]
  exact ⟨rfl, hb⟩
theorem ps_nil {σ : Sg} {F : Fzn} {w : World} : PsRep σ F w [] [] := by unfold PsRep; trivial
theorem ps_cons {σ : Sg} {F : Fzn} {w : World} {x : PV} {xs : List PV} {u : Value} {us : List Value} (h : PRep σ F w x u) (hs : PsRep σ F w xs us) : PsRep σ F w (x :: xs) (u :: us) := by unfold PsRep; exact ⟨h, hs⟩
end Go.Proofs.YtmcmagfondjopaaDoor.Pm
end
section
namespace Go.Proofs.YtmcmagfondjopaaDoor.Pm
open Go.RowKit
set_option linter.unusedVariables false
set_option linter.unusedSimpArgs false
def tx (l : List UInt8) : ByteArray := ⟨l.toArray⟩
theorem list_tx (l : List UInt8) : (tx l).data.toList = l := rfl
theorem tx_list (s : ByteArray) : tx s.data.toList = s := by cases s; simp [tx]
theorem tx_inj {a b : List UInt8} (h : tx a = tx b) : a = b := by rw [← list_tx a, h, list_tx]
theorem tx_eq {a b : List UInt8} : tx a = tx b ↔ a = b := ⟨tx_inj, fun h => by rw [h]⟩
theorem tx_size (l : List UInt8) : (tx l).size = l.length := rfl
theorem tx_append (a b : List UInt8) : tx a ++ tx b = tx (a ++ b) := by
  have h : (tx a ++ tx b).data.toList = a ++ b := by simp [ByteArray.data_append, tx]
  rw [← tx_list (tx a ++ tx b), h]
theorem extract_tx (l : List UInt8) (a b : Nat) : (tx l).extract a b = tx ((l.drop a).take (b - a)) := by
  have h : ((tx l).extract a b).data.toList = (l.drop a).take (b - a) := by
    simp [ByteArray.data_extract, tx]
  rw [← tx_list ((tx l).extract a b), h]
theorem size_mk (l : List UInt8) : (⟨l.toArray⟩ : ByteArray).size = l.length := rfl
theorem mk_tx (l : List UInt8) : (⟨l.toArray⟩ : ByteArray) = tx l := rfl
theorem tx_nil : tx [] = ByteArray.empty := rfl
def by1 (n : Int) : UInt8 := UInt8.ofNat (n % 256).toNat
theorem by1_int (n : Int) : ((by1 n).toNat : Int) = n % 256 := by
  have h1 : 0 ≤ n % 256 := by omega
  have h2 : n % 256 < 256 := by omega
  unfold by1
  rw [UInt8.toNat_ofNat']
  omega
theorem by1_mod (n : Int) : by1 (n % 256) = by1 n := by unfold by1; rw [Int.emod_emod_of_dvd n (Int.dvd_refl 256)]
theorem by1_toNat (b : UInt8) : by1 (b.toNat : Int) = b := by
  have := UInt8.toNat_lt b
  apply UInt8.toNat_inj.1
  have h := by1_int (b.toNat : Int)
  omega
theorem fdiv_pow (x : Int) (k m : Nat) : x.fdiv (2 ^ min (k : Int).toNat m) = x / 2 ^ min k m := by rw [Int.toNat_natCast, Int.fdiv_eq_ediv_of_nonneg _ (Int.pow_nonneg (by decide))]
theorem or_byte (a b : UInt8) : ((BitVec.ofInt 64 ((a.toNat : Int) * 256) ||| BitVec.ofInt 64 (b.toNat : Int)).toNat : Int) = (a.toNat : Int) * 256 + (b.toNat : Int) := by
  have ha := UInt8.toNat_lt a
  have hb := UInt8.toNat_lt b
  have e1 : BitVec.ofInt 64 ((a.toNat : Int) * 256) = BitVec.ofNat 64 (a.toNat * 256) := by rw [← BitVec.ofInt_natCast]; rfl
  have e2 : BitVec.ofInt 64 (b.toNat : Int) = BitVec.ofNat 64 b.toNat := BitVec.ofInt_natCast ..
  rw [e1, e2, BitVec.toNat_or, BitVec.toNat_ofNat, BitVec.toNat_ofNat, Nat.mod_eq_of_lt (by omega), Nat.mod_eq_of_lt (by omega)]
  have h := Nat.shiftLeft_add_eq_or_of_lt (i := 8) (b := b.toNat) (by omega) a.toNat
  rw [Nat.shiftLeft_eq] at h
  rw [show a.toNat * 256 = a.toNat * 2 ^ 8 from rfl, ← h]
  omega
theorem u8_lt (b : UInt8) : (b.toNat : Int) < 256 ∧ 0 ≤ (b.toNat : Int) := by have := UInt8.toNat_lt b; omega
theorem u8_eq {a b : UInt8} : ((a.toNat : Int) = (b.toNat : Int)) ↔ a = b := ⟨fun h => UInt8.toNat_inj.1 (by omega), fun h => by rw [h]⟩
theorem byteRows_set (l : List UInt8) (i : Nat) (b : UInt8) : (byteRows l).set i [C.v (.int .u8 (b.toNat : Int))] = byteRows (l.set i b) := by
  unfold byteRows; rw [List.map_set]
theorem bRows_length (l : List UInt8) : (byteRows l).length = l.length := List.length_map _
theorem Wr.u8 {x : Int} {K : Int → Prop} (h : K ((by1 x).toNat : Int)) : Wr .u8 x K := ⟨_, by rw [by1_int]; exact IntKind.wrap_u8' x, h⟩
theorem Wr.u32 {x : Int} {K : Int → Prop} (h1 : 0 ≤ x) (h2 : x ≤ 4294967295) (h : K x) : Wr .u32 x K := ⟨x, IntWalk.u32_in x ⟨h1, h2⟩, h⟩
theorem Wr.u64 {x : Int} {K : Int → Prop} (h1 : 0 ≤ x) (h2 : x ≤ 18446744073709551615) (h : K x) : Wr .u64 x K := ⟨x, IntWalk.u64_in x ⟨h1, h2⟩, h⟩
theorem lens : (∀ {α β : Type} {f : α → β} {l : List α}, (l.map f).length = l.length) ∧ (∀ {α : Type} {a b : List α}, (a ++ b).length = a.length + b.length) ∧ (∀ {α : Type} {l : List α} {i : Nat} {x : α}, (l.set i x).length = l.length) ∧
    (∀ {α : Type} {l : List α} {i : Nat}, (l.take i).length = min i l.length) ∧ (∀ {α : Type} {l : List α} {i : Nat}, (l.drop i).length = l.length - i) ∧ (∀ {α : Type} {n : Nat} {x : α}, (List.replicate n x).length = n) ∧
    (∀ {α : Type} {x : α} {l : List α}, (x :: l).length = l.length + 1) ∧ (∀ {α : Type}, ([] : List α).length = 0) ∧ (∀ {l : List UInt8}, (tx l).size = l.length) ∧ (∀ {l : List UInt8}, (⟨l.toArray⟩ : ByteArray).size = l.length) ∧
    (∀ {a b : ByteArray}, (a ++ b).size = a.size + b.size) :=
  ⟨List.length_map _, List.length_append, List.length_set, List.length_take, List.length_drop, List.length_replicate, List.length_cons, List.length_nil, rfl, rfl, ByteArray.size_append⟩
theorem Wr.ci {x : Int} {K : Int → Prop} (h : -9223372036854775808 ≤ x ∧ x ≤ 9223372036854775807) (k : K x) : Wr .i64 x K := Wr.i64 h.1 h.2 k
theorem Wr.c3 {x : Int} {K : Int → Prop} (h : 0 ≤ x ∧ x ≤ 4294967295) (k : K x) : Wr .u32 x K := Wr.u32 h.1 h.2 k
theorem Wr.c6 {x : Int} {K : Int → Prop} (h : 0 ≤ x ∧ x ≤ 18446744073709551615) (k : K x) : Wr .u64 x K := Wr.u64 h.1 h.2 k
theorem tdiv_nn {a : Int} (h : 0 ≤ a) (b : Int) : a.tdiv b = a / b := Int.tdiv_eq_ediv_of_nonneg h
theorem tmod_nn {a : Int} (h : 0 ≤ a) (b : Int) : a.tmod b = a % b := Int.tmod_eq_emod_of_nonneg h
theorem SIdx.tx {l : List UInt8} {n : Int} {K : Int → Prop} (k : Nat) (hk : n = k) (h : k < l.length) (hK : K ((l.getD k 0).toNat : Int)) : SIdx (tx l) n K := by
  subst hk
  have h1 : l[k]? = some l[k] := List.getElem?_eq_getElem h
  have h2 : l.getD k 0 = l[k] := by rw [List.getD_eq_getElem?_getD, h1]; rfl
  exact ⟨l.getD k 0, by omega, by show l[(k : Int).toNat]? = _; rw [Int.toNat_natCast, h1, h2], hK⟩
theorem Row.bytes {l : List UInt8} {k : Nat} {K : List C → Prop} (h : k < l.length) (hK : K [C.v (.int .u8 ((l.getD k 0).toNat : Int))]) : Row (byteRows l) k K := by
  have h1 : l[k]? = some l[k] := List.getElem?_eq_getElem h
  have h2 : l.getD k 0 = l[k] := by rw [List.getD_eq_getElem?_getD, h1]; rfl
  exact ⟨_, by unfold byteRows; rw [List.getElem?_map, h1, ← h2]; rfl, hK⟩
theorem Row.bytes' {rows : List (List C)} {l : List UInt8} {k k' : Nat} {K : List C → Prop} (e : rows = byteRows l) (hk : k' = k) (h : k < l.length) (hK : K [C.v (.int .u8 ((l.getD k 0).toNat : Int))]) : Row rows k' K := by
  subst e hk; exact Row.bytes h hK
theorem Idx.bytes {l : List UInt8} {n : Int} {K : List C → Prop} (k : Nat) (hk : n = k) (h : k < l.length) (hK : K [C.v (.int .u8 ((l.getD k 0).toNat : Int))]) : Idx (byteRows l) n K := by
  subst hk
  have h1 : l[k]? = some l[k] := List.getElem?_eq_getElem h
  have h2 : l.getD k 0 = l[k] := by rw [List.getD_eq_getElem?_getD, h1]; rfl
  exact ⟨_, by omega, by rw [Int.toNat_natCast]; unfold byteRows; rw [List.getElem?_map, h1, ← h2]; rfl, hK⟩
theorem Bytes.mk' {l : List UInt8} {K : List UInt8 → Prop} (h : K l) : Bytes (byteRows l) K := ⟨l, rfl, h⟩
theorem Bytes.of {r : List (List C)} {l : List UInt8} {K : List UInt8 → Prop} (e : r = byteRows l) (h : K l) : Bytes r K := ⟨l, e, h⟩
theorem BCase.not {b : Bool} {A B : Prop} (h : BCase b B A) : BCase (!b) A B := by
  obtain ⟨h1, h2⟩ := h
  exact ⟨fun e => h2 (by simpa using e), fun e => h1 (by simpa using e)⟩
theorem BCase.and {a b : Bool} {A B : Prop} (h : BCase a (BCase b A B) B) : BCase (a && b) A B := by
  obtain ⟨h1, h2⟩ := h
  cases a
  · exact ⟨(fun e => by cases e), fun _ => h2 rfl⟩
  · exact h1 rfl
theorem BCase.or {a b : Bool} {A B : Prop} (h : BCase a A (BCase b A B)) : BCase (a || b) A B := by
  obtain ⟨h1, h2⟩ := h
  cases a
  · exact h2 rfl
  · exact ⟨fun _ => h1 rfl, (fun e => by cases e)⟩
theorem PLe.text {f : Nat → Option Nat} {n : List Nat} {a b : ByteArray} (h : b = a) : PLe f n (pStr a) (pStr b) := by rw [h]; exact .inl rfl
theorem PLe.bool {f : Nat → Option Nat} {n : List Nat} {a b : Bool} (h : b = a) : PLe f n (pBool a) (pBool b) := by rw [h]; exact .inl rfl
theorem Ret.str {a b : ByteArray} (h : a = b) : Ret (pStr a) (pStr b) := Ret.mk (by rw [h])
theorem Ret.int {k : IntKind} {a b : Int} (h : a = b) : Ret (pInt k a) (pInt k b) := Ret.mk (by rw [h])
theorem Ret.bool {a b : Bool} (h : a = b) : Ret (pBool a) (pBool b) := Ret.mk (by rw [h])
theorem Ret.text {a b : List UInt8} (h : a = b) : Ret (pStr (tx a)) (pStr (tx b)) := Ret.mk (by rw [h])
theorem Ret.eq {v r : PV} (h : v = r) : Ret v r := Ret.mk h
theorem Pure.to {P : Program} {f : FuncId} {args args' : List PV} {res res' : PV} (h : Pure P f args res) (ha : args = args') (hr : res = res') : Pure P f args' res' := by
  subst ha hr; exact h
theorem a_ {A B : Prop} (h : A) : BCase true A B := BCase.tt h
theorem b_ {A B : Prop} (h : B) : BCase false A B := BCase.ff h
theorem c_ {x : Int} {K : Int → Prop} (h : K ((by1 x).toNat : Int)) : Wr .u8 x K := Wr.u8 h
theorem d_ {x : Int} {K : Int → Prop} (h : -9223372036854775808 ≤ x ∧ x ≤ 9223372036854775807) (k : K x) : Wr .i64 x K := Wr.ci h k
theorem e_ {x : Int} {K : Int → Prop} (h : 0 ≤ x ∧ x ≤ 4294967295) (k : K x) : Wr .u32 x K := Wr.c3 h k
theorem f_ {x : Int} {K : Int → Prop} (h : 0 ≤ x ∧ x ≤ 18446744073709551615) (k : K x) : Wr .u64 x K := Wr.c6 h k
theorem g_ {p : Prop} [Decidable p] {A B : Prop} (hp : p) (h : A) : BCase (decide p) A B := BCase.dt hp h
theorem h_ {p K : Prop} (hp : p) (h : K) : Need p K := Need.mk hp h
theorem i_ {p : Prop} [Decidable p] {A B : Prop} (hp : ¬ p) (h : B) : BCase (decide p) A B := BCase.df hp h
theorem l_ {k : Nat} {A B : Prop} (h : A) : EmpOr k A B := EmpOr.app h
theorem m_ {b : Bool} {A B : Prop} (h : BCase b B A) : BCase (!b) A B := BCase.not h
theorem n_ {a b : Bool} {A B : Prop} (h : BCase a (BCase b A B) B) : BCase (a && b) A B := BCase.and h
theorem o_ {a b : Bool} {A B : Prop} (h : BCase a A (BCase b A B)) : BCase (a || b) A B := BCase.or h
theorem p_ {p : Prop} [Decidable p] {A B : Prop} (h1 : p → A) (h2 : ¬ p → B) : BCase (decide p) A B := BCase.d h1 h2
theorem q_ : (∀ {α β : Type} {f : α → β} {l : List α}, (l.map f).length = l.length) ∧ (∀ {α : Type} {a b : List α}, (a ++ b).length = a.length + b.length) ∧ (∀ {α : Type} {l : List α} {i : Nat} {x : α}, (l.set i x).length = l.length) ∧
    (∀ {α : Type} {l : List α} {i : Nat}, (l.take i).length = min i l.length) ∧ (∀ {α : Type} {l : List α} {i : Nat}, (l.drop i).length = l.length - i) ∧ (∀ {α : Type} {n : Nat} {x : α}, (List.replicate n x).length = n) ∧
    (∀ {α : Type} {x : α} {l : List α}, (x :: l).length = l.length + 1) ∧ (∀ {α : Type}, ([] : List α).length = 0) ∧ (∀ {l : List UInt8}, (tx l).size = l.length) ∧ (∀ {l : List UInt8}, (⟨l.toArray⟩ : ByteArray).size = l.length) ∧
    (∀ {a b : ByteArray}, (a ++ b).size = a.size + b.size) ∧ (∀ {p : Prop}, (True ∧ p) = p) ∧ (∀ {p : Prop}, (p ∧ True) = p) := by
  obtain ⟨h1, h2, h3, h4, h5, h6, h7, h8, h9, h10, h11⟩ := lens
  exact ⟨h1, h2, h3, h4, h5, h6, h7, h8, h9, h10, h11, true_and _, and_true _⟩
end Go.Proofs.YtmcmagfondjopaaDoor.Pm
end
section
namespace Go.Proofs.YtmcmagfondjopaaDoor.Pm
open Go.RowKit K
set_option linter.unusedVariables false
set_option linter.unusedSimpArgs false
abbrev FW (w : World) : Fzn := fun b _ => b < w.heap.size
def OpensC (P : Program) (t : TypeId) (sz : Nat) {α : Type} (enc : α → List C) (ok : α → Prop) : Prop :=
  Opens P t sz (fun w cs a => CsRep (FW w) w (enc a) cs) ok
def eInt (x : Int) : List C := [.v (.int .i64 x)]
def eU64 (x : Int) : List C := [.v (.int .u64 x)]
def eU32 (x : Int) : List C := [.v (.int .u32 x)]
def eByte (x : UInt8) : List C := [.v (.int .u8 (x.toNat : Int))]
def eBool (x : Bool) : List C := [.v (.bool x)]
def eText (l : List UInt8) : List C := [.v (.string (tx l))]
def eSl {α : Type} (sz : Nat) (enc : α → List C) (l : List α) : List C := [.sl sz (l.map enc)]
def okInt (x : Int) : Prop := -9223372036854775808 ≤ x ∧ x ≤ 9223372036854775807
def okText (l : List UInt8) : Prop := l.length ≤ 140737488351232
def okAny {α : Type} (_ : α) : Prop := True
def okSl {α : Type} (b : Nat) (ok : α → Prop) (l : List α) : Prop := l.length * b ≤ 140737488351232 ∧ ∀ x ∈ l, ok x
section
variable {P : Program}
theorem openC_int {t : TypeId} (hu : P.underlying t = some (.int .i64)) (hc : P.cellsOf t = 1) : OpensC P t 1 eInt okInt := by
  obtain ⟨h1, h2, h3⟩ := opens_i64 hu hc
  refine ⟨h1, h2, fun h l => ?_⟩
  obtain ⟨h4, a, rfl, h6⟩ := h3 h l
  exact ⟨h4, a, csRep_cons (by unfold CRep; exact ⟨rfl, rfl⟩) csRep_nil, h6⟩
theorem openC_bool {t : TypeId} (hu : P.underlying t = some .bool) (hc : P.cellsOf t = 1) : OpensC P t 1 eBool okAny := by
  obtain ⟨h1, h2, h3⟩ := opens_bool hu hc
  refine ⟨h1, h2, fun h l => ?_⟩
  obtain ⟨h4, a, rfl, h6⟩ := h3 h l
  exact ⟨h4, a, csRep_cons (by unfold CRep; exact ⟨rfl, rfl⟩) csRep_nil, trivial⟩
theorem openC_text {t : TypeId} (hu : P.underlying t = some .string) (hc : P.cellsOf t = 1) : OpensC P t 1 eText okText := by
  obtain ⟨h1, h2, h3⟩ := opens_string hu hc
  refine ⟨h1, h2, fun h l => ?_⟩
  obtain ⟨h4, a, rfl, h6⟩ := h3 h l
  exact ⟨h4, a.data.toList, csRep_cons (by unfold CRep; rw [tx_list]; exact ⟨rfl, rfl⟩) csRep_nil, h6⟩
theorem csRep_rows {α : Type} {F : Fzn} {w : World} {enc : α → List C} : ∀ {l : List α} {css : List (List Value)}, css.length = l.length → (∀ (i : Nat) c x, css[i]? = some c → l[i]? = some x → CsRep F w (enc x) c) → CsRep F w (l.map enc).flatten css.flatten
  | [], [], _, _ => csRep_nil
  | [], _ :: _, h, _ => by simp at h
  | _ :: _, [], h, _ => by simp at h
  | x :: l, c :: css, h, k => by
    rw [List.map_cons, List.flatten_cons, List.flatten_cons]
    exact (k 0 c x rfl rfl).append (csRep_rows (by simpa using h) fun i d y hd hy => k (i + 1) d y (by simpa using hd) (by simpa using hy))
theorem openC_slice {t e : TypeId} {sz : Nat} {α : Type} {enc : α → List C} {ok : α → Prop} (hu : P.underlying t = some (.slice e)) (hc : P.cellsOf t = 1) (hl : ∀ x, (enc x).length = sz) (he : OpensC P e sz enc ok) :
    OpensC P t 1 (eSl sz enc) (okSl (P.bytesOf e) ok) := by
  obtain ⟨h1, h2, h3⟩ := opens_slice hu hc he
  refine ⟨h1, h2, fun h l => ?_⟩
  obtain ⟨h4, a, ⟨v, rfl, css, hs, hcl, hcs⟩, h6⟩ := h3 h l
  refine ⟨h4, a, csRep_cons ?_ csRep_nil, h6⟩
  obtain ⟨g0, ad, cap, rfl, g1, g2, g3, g4⟩ := hs
  unfold CRep
  refine ⟨ad, cap, by rw [List.length_map], by rw [List.length_map]; exact g1, g2, g3, ?_⟩
  rcases g4 with g4 | ⟨b, off, rfl, g5, g6⟩
  · left
    rw [List.eq_nil_of_length_eq_zero g4]; rfl
  · right
    refine ⟨b, off, rfl, ?_⟩
    rw [rowsAt_iff]
    refine ⟨fun r hr => ?_, csAt_of_values (csRep_rows hcl fun i c x hc hx => (hcs i c x hc hx).2) (fun j u hu => g6 j u hu) fun j hj => g5⟩
    obtain ⟨x, _, rfl⟩ := List.mem_map.1 hr
    exact hl x
theorem cs_field {F : Fzn} {w : World} {cs : List Value} {l m : List C} {off sz : Nat} (h1 : CsRep F w l ((cs.drop off).take sz)) (h2 : CsRep F w m (cs.drop (off + sz))) : CsRep F w (l ++ m) (cs.drop off) := by
  have := h1.append h2
  rwa [← List.drop_drop, List.take_append_drop] at this
theorem cs_end {F : Fzn} {w : World} {cs : List Value} {n : Nat} (h : cs.length = n) : CsRep F w [] (cs.drop n) := by
  rw [List.drop_of_length_le (by omega)]; exact csRep_nil
theorem prep_one {w : World} {c : C} {v : Value} (hv : v.cells.toList = [v]) (h : CsRep (FW w) w [c] v.cells.toList) : PRep (fun _ => none) (FW w) w (.d (.c c)) v := by
  rw [hv] at h
  obtain ⟨u, us, e, h1, _⟩ := csRep_inv h
  cases e
  unfold PRep DRep
  exact h1
theorem prep_agg {w : World} {cs : List C} {v : Value} (hv : v = .agg v.cells.toList.toArray) (h : CsRep (FW w) w cs v.cells.toList) : PRep (fun _ => none) (FW w) w (.agg (cs.map D.c)) v := by
  unfold PRep
  exact ⟨_, hv, dsRep_of_cs h⟩
theorem prep_text {w : World} (a : ByteArray) : PRep (fun _ => none) (FW w) w (pStr (tx a.data.toList)) (.string a) := by
  rw [tx_list]; exact rep_str _
theorem psF_nil {w : World} : PsRep (fun _ => none) (FW w) w [] [] := by unfold PsRep; trivial
theorem psF_cons {w : World} {x : PV} {xs : List PV} {u : Value} {us : List Value} (h : PRep (fun _ => none) (FW w) w x u) (hs : PsRep (fun _ => none) (FW w) w xs us) : PsRep (fun _ => none) (FW w) w (x :: xs) (u :: us) := by unfold PsRep; exact ⟨h, hs⟩
theorem Pure.walkF {f : FuncId} {args : List PV} (h : Pure P f args (pBool true)) {w : World} (hG : GL w) (vs : List Value) (hargs : PsRep (fun _ => none) (FW w) w args vs) :
    Calls P f vs.toArray w fun e w' => e = .returned (.bool true) ∧ Below w.heap.size w w' := by
  refine (h.2 (FW w) w vs hG (fun _ _ e => e) hargs).mono ?_
  rintro e w' ⟨v, rfl, hb, hr⟩
  rw [rep_v hr]
  exact ⟨rfl, hb⟩
end
end Go.Proofs.YtmcmagfondjopaaDoor.Pm
end
section
namespace Go.Proofs.YtmcmagfondjopaaDoor.Pm
open Go.RowKit K
set_option linter.unusedVariables false
set_option linter.unusedSimpArgs false
set_option maxRecDepth 100000
def listEqB {α : Type} (eq : α → α → Bool) : List α → List α → Bool
  | [], [] => true
  | x :: a, y :: b => eq x y && listEqB eq a b
  | _, _ => false
theorem listEqB_iff {α : Type} {eq : α → α → Bool} (h : ∀ x y, eq x y = true ↔ x = y) : ∀ a b : List α, listEqB eq a b = true ↔ a = b
  | [], [] => by simp [listEqB]
  | [], _ :: _ => by simp [listEqB]
  | _ :: _, [] => by simp [listEqB]
  | x :: a, y :: b => by
    unfold listEqB
    rw [Bool.and_eq_true, h, listEqB_iff h a b, List.cons.injEq]
theorem listEqB_refl {α : Type} {eq : α → α → Bool} (h : ∀ x, eq x x = true) : ∀ a : List α, listEqB eq a a = true
  | [] => rfl
  | x :: a => by unfold listEqB; rw [h, listEqB_refl h a]; rfl
theorem listEqB_len {α : Type} {eq : α → α → Bool} : ∀ {a b : List α}, a.length ≠ b.length → listEqB eq a b = false
  | [], [], h => absurd rfl h
  | [], _ :: _, _ => rfl
  | _ :: _, [], _ => rfl
  | x :: a, y :: b, h => by
    unfold listEqB
    rw [listEqB_len (a := a) (b := b) (by simpa using h), Bool.and_false]
theorem listEqB_step {α : Type} {eq : α → α → Bool} : ∀ {a b : List α} {k : Nat}, listEqB eq (a.take k) (b.take k) = true → (h1 : k < a.length) → (h2 : k < b.length) → listEqB eq (a.take (k + 1)) (b.take (k + 1)) = eq a[k] b[k]
  | x :: a, y :: b, 0, _, _, _ => by simp [listEqB]
  | x :: a, y :: b, k + 1, h, h1, h2 => by
    simp only [List.take_succ_cons, listEqB, Bool.and_eq_true] at h
    have := listEqB_step (k := k) h.2 (by simpa using h1) (by simpa using h2)
    simp only [List.take_succ_cons, List.getElem_cons_succ]
    unfold listEqB
    rw [h.1, Bool.true_and]
    simpa using this
theorem listEqB_stop {α : Type} {eq : α → α → Bool} : ∀ {a b : List α} {k : Nat} (h1 : k < a.length) (h2 : k < b.length), eq a[k] b[k] = false → listEqB eq a b = false
  | x :: a, y :: b, 0, _, _, h => by
    simp only [List.getElem_cons_zero] at h
    unfold listEqB; rw [h, Bool.false_and]
  | x :: a, y :: b, k + 1, h1, h2, h => by
    simp only [List.getElem_cons_succ] at h
    unfold listEqB
    rw [listEqB_stop (k := k) (by simpa using h1) (by simpa using h2) h, Bool.and_false]
theorem listEqB_all {α : Type} {eq : α → α → Bool} {a b : List α} {k : Nat} (h : listEqB eq (a.take k) (b.take k) = true) (h1 : a.length ≤ k) (h2 : b.length ≤ k) : listEqB eq a b = true := by
  rwa [List.take_of_length_le h1, List.take_of_length_le h2] at h
theorem tx_empty {l : List UInt8} : tx l = ⟨#[]⟩ ↔ l = [] := by
  rw [show (⟨#[]⟩ : ByteArray) = tx [] from rfl, tx_eq]
theorem tx_empty_len {l : List UInt8} : tx l = ⟨#[]⟩ ↔ l.length = 0 := by rw [tx_empty, List.length_eq_zero_iff]
abbrev slV {α : Type} (sz : Nat) (enc : α → List C) (l : List α) : PV := .d (.c (.sl sz (l.map enc)))
theorem take_snoc {α : Type} {l : List α} {k : Nat} (h : k < l.length) : l.take (k + 1) = l.take k ++ [l[k]] := List.take_succ_eq_append_getElem h
theorem CLe.int {k : IntKind} {a b : Int} (h : b = a) : CLe (.v (.int k a)) (.v (.int k b)) := by rw [h]; exact .inl rfl
theorem CLe.text {a b : ByteArray} (h : b = a) : CLe (.v (.string a)) (.v (.string b)) := by rw [h]; exact .inl rfl
theorem CLe.bool {a b : Bool} (h : b = a) : CLe (.v (.bool a)) (.v (.bool b)) := by rw [h]; exact .inl rfl
theorem PLe.sl {f : Nat → Option Nat} {n : List Nat} {sz : Nat} {a b : List (List C)} (h : b = a) : PLe f n (.d (.c (.sl sz a))) (.d (.c (.sl sz b))) := by rw [h]; exact .inl rfl
theorem Pure.le {P : Program} {f : FuncId} {args args' : List PV} {res : PV} (h : Pure P f args res) (hl : PLeT (fun _ => none) [] args args') : Pure P f args' res := by
  refine ⟨h.1, fun F w vs hG hF hus => h.2 F w vs hG hF ?_⟩
  have := psrep_wk (σ := fun _ => none) (f := fun _ => none) (n := []) (F' := F) (w := w) ⟨fun _ _ h => h, fun _ _ _ => rfl⟩ _ _ _ hl hus
  have e1 : newSg (fun _ => none) (fun _ => none) ([] : List Nat) = fun _ => none := by funext k; unfold newSg; rw [if_neg (by simp [kin])]
  rwa [e1] at this
def plainD : D → Bool
  | .c (.v _) => true
  | _ => false
mutual
def plainP : PV → Bool
  | .d x => plainD x
  | .agg l => l.all plainD
  | .tup l => plainPs l
  | .any => true
def plainPs : List PV → Bool
  | [] => true
  | x :: xs => plainP x && plainPs xs
end
section
variable {σ σ' : Sg} {F F' : Fzn} {w w' : World}
theorem plainD_rep {x : D} {u : Value} (h : plainD x = true) (hr : DRep σ F w x u) : DRep σ' F' w' x u := by
  unfold plainD at h
  split at h
  · unfold DRep CRep at hr ⊢; exact hr
  · cases h
theorem plainDs_rep : ∀ {l : List D} {us : List Value}, l.all plainD = true → DsRep σ F w l us → DsRep σ' F' w' l us
  | [], _, _, hr => by rw [dsRep_nil_inv hr]; exact dsRep_nil
  | x :: xs, _, h, hr => by
    rw [List.all_cons, Bool.and_eq_true] at h
    obtain ⟨u, vs, rfl, h1, h2⟩ := dsRep_inv hr
    exact dsRep_cons (plainD_rep h.1 h1) (plainDs_rep h.2 h2)
mutual
theorem plainP_rep : ∀ (x : PV) (u : Value), plainP x = true → PRep σ F w x u → PRep σ' F' w' x u
  | .d x, u, h, hr => by
    unfold plainP at h
    unfold PRep at hr ⊢
    exact plainD_rep h hr
  | .agg l, u, h, hr => by
    unfold plainP at h
    unfold PRep at hr ⊢
    obtain ⟨xs, h1, h2⟩ := hr
    exact ⟨xs, h1, plainDs_rep h h2⟩
  | .tup l, u, h, hr => by
    unfold plainP at h
    unfold PRep at hr ⊢
    obtain ⟨xs, h1, h2⟩ := hr
    exact ⟨xs, h1, plainPs_rep l xs h h2⟩
  | .any, u, h, hr => by unfold PRep; trivial
theorem plainPs_rep : ∀ (l : List PV) (us : List Value), plainPs l = true → PsRep σ F w l us → PsRep σ' F' w' l us
  | [], us, _, hr => by
    cases us with
    | nil => unfold PsRep; trivial
    | cons _ _ => unfold PsRep at hr; exact hr.elim
  | x :: xs, us, h, hr => by
    cases us with
    | nil => unfold PsRep at hr; exact hr.elim
    | cons u us =>
      unfold plainPs at h
      rw [Bool.and_eq_true] at h
      unfold PsRep at hr ⊢
      exact ⟨plainP_rep x u h.1 hr.1, plainPs_rep xs us h.2 hr.2⟩
end
end
theorem Pure.lend {P : Program} {f : FuncId} {ys args : List PV} {r : PV} {rd : Rf} (hp : Pure P f ys r) (hr : plainP r = true) (hy : closeHPs (hpL rd) args fun zs => zs = ys) : CallS P f args rd [] r [] := by
  refine ⟨hp.1, fun c vs hc hdf hfr hs hx => ?_⟩
  rw [List.append_nil] at hs hx ⊢
  have hk : Keeps (fz c c.σ0 (hpL rd) c.w0) (fun b o => fz c c.σ0 (hpL rd) c.w0 b o ∨ (c.own b ∧ b < c.w0.heap.size)) c.w0 c.w0 := ⟨fun _ _ h => .inl h, fun _ _ _ => rfl⟩
  obtain ⟨zs, rfl, hz⟩ := closeHPs_out hs hk (fun b o h1 h2 => .inr ⟨h1, h2⟩) hy
  refine (hp.2 (fun b o => fz c c.σ0 (hpL rd) c.w0 b o ∨ (c.own b ∧ b < c.w0.heap.size)) c.w0 vs (sw_gl hc hs) (fun b o h => ?_) (hz vs hx)).mono ?_
  · rcases h with h | h
    · exact fz_lt hs h
    · exact h.2
  · rintro en w' ⟨v, rfl, hb, hr'⟩
    exact ⟨v, c.σ0, rfl, sw_below hs hb, plainP_rep _ _ hr hr'⟩
theorem Need.by {n b lim : Nat} {K : Prop} (B : Nat) (hb : b = B) (h : n * B ≤ lim) (k : K) : Need (n * b ≤ lim) K := by subst hb; exact ⟨h, k⟩
theorem Idx.mapE {α : Type} {f : α → List C} {l : List α} {x : α} {n : Int} {K : List C → Prop} (k : Nat) (hk : n = (k : Int)) (hn : k < l.length) (hx : l[k] = x) (h : K (f x)) : Idx (l.map f) n K := by
  subst hx; exact Idx.mapI k hk hn h
end Go.Proofs.YtmcmagfondjopaaDoor.Pm
end
section
namespace Go.Proofs.YtmcmagfondjopaaDoor.Pm
open Go.RowKit K
set_option linter.unusedVariables false
set_option linter.unusedSimpArgs false
set_option maxRecDepth 100000
structure ValueD where
  Kind : Int
  N : Int
  S : List UInt8
def ValueD.c (x : ValueD) : List C := [.v (.int .i64 x.Kind), .v (.int .i64 x.N), .v (.string (tx x.S))]
def ValueD.ok (x : ValueD) : Prop := okInt x.Kind ∧ okInt x.N ∧ okText x.S
theorem openC_Value : OpensC Tryd.prog 35 3 ValueD.c ValueD.ok := by
  refine ⟨by kernel_rfl, by decide, ?_⟩
  intro H enc w spare held fuel cs x h hl
  have ht : Tryd.prog.underlying 35 = some (.struct (Tryd.prog.fieldsOf 35)) := by kernel_rfl
  have hlen := struct_len ht h
  rw [show Tryd.prog.cellsOf 35 = 3 by kernel_rfl] at hlen
  obtain ⟨a0, e0, k0⟩ := field_of ht h hl 0 3 0 1 (by kernel_rfl) (openC_int Tryd.underlying3 (by kernel_rfl))
  obtain ⟨a1, e1, k1⟩ := field_of ht h hl 1 2 1 1 (by kernel_rfl) (openC_int Tryd.underlying2 (by kernel_rfl))
  obtain ⟨a2, e2, k2⟩ := field_of ht h hl 2 9 2 1 (by kernel_rfl) (openC_text Tryd.underlying9 (by kernel_rfl))
  have hall : CsRep (FW w) w (eInt a0 ++ (eInt a1 ++ (eText a2 ++ []))) (cs.drop 0) := (cs_field e0 (cs_field e1 (cs_field e2 (cs_end hlen))))
  rw [List.drop_zero] at hall
  exact ⟨hlen, ⟨a0, a1, a2⟩, hall, ⟨k0, k1, k2⟩⟩
def ValueD.eqB (x y : ValueD) : Bool := (decide (x.Kind = y.Kind) && (decide (x.N = y.N) && (decide (tx x.S = tx y.S) && true)))
theorem ValueD.eqB_iff (x y : ValueD) : ValueD.eqB x y = true ↔ x = y := by
  cases x; cases y
  simp [ValueD.eqB, tx_eq]
abbrev vV (x : ValueD) : PV := .agg (x.c.map D.c)
def vChk (x : ValueD) : Int := if x.Kind < 0 ∨ 3 < x.Kind then 7 else if (x.Kind ≠ 1 ∧ x.N ≠ 0) ∨ (x.Kind < 2 ∧ x.S.length ≠ 0) then 1 else if 16 < x.S.length then 2 else 0
def vChkAll : List ValueD → Int
  | [] => 0
  | x :: l => if vChk x = 0 then vChkAll l else vChk x
theorem vChkAll_skip : ∀ (l : List ValueD) (k : Nat), (∀ x ∈ l.take k, vChk x = 0) → vChkAll l = vChkAll (l.drop k)
  | l, 0, _ => by rw [List.drop_zero]
  | [], k + 1, _ => rfl
  | x :: l, k + 1, h => by
    show (if vChk x = 0 then vChkAll l else vChk x) = _
    rw [if_pos (h x (by simp)), List.drop_succ_cons]
    exact vChkAll_skip l k fun y hy => h y (by simp [hy])
theorem vChkAll_ok : ∀ {l : List ValueD}, vChkAll l = 0 ↔ ∀ x ∈ l, vChk x = 0
  | [] => by simp [vChkAll]
  | x :: l => by
    unfold vChkAll
    split
    · rename_i h; rw [vChkAll_ok (l := l)]; simp [h]
    · rename_i h; simp [h]
theorem vChkAll_at {l : List ValueD} {k : Nat} (hk : k < l.length) (h : ∀ x ∈ l.take k, vChk x = 0) (hx : vChk l[k] ≠ 0) : vChkAll l = vChk l[k] := by
  rw [vChkAll_skip l k h, List.drop_eq_getElem_cons hk]
  unfold vChkAll
  rw [if_neg hx]
theorem all_snoc {l : List ValueD} {k : Nat} (hk : k < l.length) (h : ∀ x ∈ l.take k, vChk x = 0) (hx : vChk l[k] = 0) : ∀ x ∈ l.take (k + 1), vChk x = 0 := by
  rw [take_snoc hk]
  intro x hm
  rcases List.mem_append.1 hm with hm | hm
  · exact h x hm
  · rw [List.mem_singleton.1 hm]; exact hx
theorem p_vcheck (x : ValueD) : Pure Tryd.prog 46 [vV x] (pInt .i64 (vChk x)) := by
  have tz := tx_size x.S
  refine pure_of Tryd.func46 (by rfl) rfl (by kernel_rfl) (by rfl) ?_
  unfold vChk
  by_cases h : x.S.length = 0
  · have h1 := tx_empty_len.2 h
    ((conv => whnf); repeat' ((first | (with_reducible first | apply a_ | apply b_ | apply c_) | ((with_reducible first | apply d_ | apply e_ | apply f_ | apply g_); focus first | omega | (simp only [q_] <;> omega)) | ((with_reducible first | apply i_ | apply h_); focus first | omega | (simp only [q_] <;> omega)) | ((with_reducible apply h_); focus first | decide | kernel_rfl) | refine BCase.t (by decide) ?_ | refine BCase.f (by decide) ?_ | (refine BCase.df (not_not_intro h1) ?_) | (refine BCase.dt h1 ?_) | with_reducible first | apply l_ | apply m_ | apply n_ | apply o_ | refine p_ (fun _ => ?_) (fun _ => ?_)) <;> (conv => whnf)))
    (all_goals (refine Ret.int ?_; ((repeat' split) <;> first | rfl | omega)))
  · have h1 : ¬ tx x.S = ⟨#[]⟩ := fun e => h (tx_empty_len.1 e)
    ((conv => whnf); repeat' ((first | (with_reducible first | apply a_ | apply b_ | apply c_) | ((with_reducible first | apply d_ | apply e_ | apply f_ | apply g_); focus first | omega | (simp only [q_] <;> omega)) | ((with_reducible first | apply i_ | apply h_); focus first | omega | (simp only [q_] <;> omega)) | ((with_reducible apply h_); focus first | decide | kernel_rfl) | refine BCase.t (by decide) ?_ | refine BCase.f (by decide) ?_ | (refine BCase.dt h1 ?_) | (refine BCase.df h1 ?_) | with_reducible first | apply l_ | apply m_ | apply n_ | apply o_ | refine p_ (fun _ => ?_) (fun _ => ?_)) <;> (conv => whnf)))
    (all_goals (refine Ret.int ?_; ((repeat' split) <;> first | rfl | omega)))
theorem p_vcheckref (x : ValueD) : Pure Tryd.prog 38 [vV x] (pInt .i64 (vChk x)) := by
  have tz := tx_size x.S
  refine pure_of Tryd.func38 (by rfl) rfl (by kernel_rfl) (by rfl) ?_
  unfold vChk
  ((conv => whnf); repeat' ((first | (with_reducible first | apply a_ | apply b_ | apply c_) | ((with_reducible first | apply d_ | apply e_ | apply f_ | apply g_); focus first | omega | (simp only [q_] <;> omega)) | ((with_reducible first | apply i_ | apply h_); focus first | omega | (simp only [q_] <;> omega)) | ((with_reducible apply h_); focus first | decide | kernel_rfl) | refine BCase.t (by decide) ?_ | refine BCase.f (by decide) ?_ | with_reducible first | apply l_ | apply m_ | apply n_ | apply o_ | refine p_ (fun _ => ?_) (fun _ => ?_)) <;> (conv => whnf)))
  (all_goals (refine Ret.int ?_; ((repeat' split) <;> first | rfl | omega)))
end Go.Proofs.YtmcmagfondjopaaDoor.Pm
end
section
namespace Go.Proofs.YtmcmagfondjopaaDoor.Pm
open Go.RowKit K
set_option linter.unusedVariables false
set_option linter.unusedSimpArgs false
set_option maxRecDepth 100000
def zeroW : ValueD := ⟨0, 0, []⟩
def dstep (n : Nat) (c : UInt8) : Nat := n * 10 + (c.toNat - 48)
def dval (l : List UInt8) : Nat := l.foldl dstep 0
def isDig (c : UInt8) : Bool := decide (48 ≤ c.toNat ∧ c.toNat ≤ 57)
theorem dval_snoc (l : List UInt8) (c : UInt8) : dval (l ++ [c]) = dval l * 10 + (c.toNat - 48) := by unfold dval; rw [List.foldl_append]; rfl
theorem u8_back (c : UInt8) : UInt8.ofNat c.toNat = c := UInt8.ofNat_toNat
theorem u8_small {n : Nat} (h : n < 256) : (UInt8.ofNat n).toNat = n := by rw [UInt8.toNat_ofNat']; omega
theorem dstep_pos : ∀ (l : List UInt8) (n : Nat), 1 ≤ n → 1 ≤ l.foldl dstep n
  | [], n, h => h
  | c :: l, n, h => by
    rw [List.foldl_cons]
    refine dstep_pos l _ ?_
    unfold dstep; omega
theorem dval_pos {l : List UInt8} (h : l.all isDig = true) (h0 : l ≠ []) (h1 : l.headD 0 ≠ 48) : 1 ≤ dval l := by
  cases l with
  | nil => exact absurd rfl h0
  | cons c l =>
    rw [List.all_cons, Bool.and_eq_true] at h
    have hc := of_decide_eq_true h.1
    have hne : c.toNat ≠ 48 := fun e => h1 (by show c = 48; rw [← u8_back c, e]; rfl)
    unfold dval
    rw [List.foldl_cons]
    refine dstep_pos l _ ?_
    unfold dstep; omega
theorem dec_dval : ∀ (N : Nat) (l : List UInt8), l.length ≤ N → l.all isDig = true → l ≠ [] → (l.headD 0 = 48 → l.length = 1) → Lib.decDigits (dval l) = l
  | 0, l, hN, _, h0, _ => absurd (List.length_eq_zero_iff.1 (Nat.le_zero.1 hN)) h0
  | N + 1, l, hN, ha, h0, hz => by
    obtain ⟨m, c, rfl⟩ : ∃ m c, l = m ++ [c] := ⟨l.dropLast, l.getLast h0, (List.dropLast_concat_getLast h0).symm⟩
    rw [List.all_append, Bool.and_eq_true] at ha
    have hc := ha.2
    rw [List.all_cons, List.all_nil, Bool.and_true] at hc
    have hc := of_decide_eq_true hc
    rw [dval_snoc]
    rw [List.length_append, List.length_singleton] at hN hz
    cases hm : m with
    | nil =>
      show Lib.decDigits (0 * 10 + (c.toNat - 48)) = [c]
      rw [Lib.decDigits, dif_pos (by omega), show 48 + (0 * 10 + (c.toNat - 48)) = c.toNat by omega, u8_back]
    | cons b r =>
      rw [← hm]
      have hmn : m ≠ [] := by rw [hm]; exact List.cons_ne_nil _ _
      have hml : 0 < m.length := List.length_pos_iff.2 hmn
      have hh : (m ++ [c]).headD 0 = m.headD 0 := by rw [hm]; rfl
      rw [hh] at hz
      have hp := dval_pos ha.1 hmn (fun e => by have := hz e; omega)
      have ih := dec_dval N m (by omega) ha.1 hmn (fun e => by have := hz e; omega)
      rw [Lib.decDigits, dif_neg (by omega), show (dval m * 10 + (c.toNat - 48)) / 10 = dval m by omega, ih, show 48 + (dval m * 10 + (c.toNat - 48)) % 10 = c.toNat by omega, u8_back]
theorem dec_facts (u : Nat) : dval (Lib.decDigits u) = u ∧ (Lib.decDigits u).all isDig = true ∧ Lib.decDigits u ≠ [] ∧ ((Lib.decDigits u).headD 0 = 48 → u = 0) := by
  induction u using Nat.strongRecOn with
  | _ u ih =>
    by_cases h : u < 10
    · rw [Lib.decDigits, dif_pos h]
      have h1 : (UInt8.ofNat (48 + u)).toNat = 48 + u := u8_small (by omega)
      refine ⟨?_, ?_, List.cons_ne_nil _ _, ?_⟩
      · show 0 * 10 + ((UInt8.ofNat (48 + u)).toNat - 48) = u
        rw [h1]; omega
      · rw [List.all_cons, List.all_nil, Bool.and_true]
        exact decide_eq_true (by rw [h1]; omega)
      · intro e
        have e : UInt8.ofNat (48 + u) = 48 := e
        have := congrArg UInt8.toNat e
        rw [h1] at this
        have : 48 + u = 48 := this
        omega
    · obtain ⟨a1, a2, a3, a4⟩ := ih (u / 10) (by omega)
      have h1 : (UInt8.ofNat (48 + u % 10)).toNat = 48 + u % 10 := u8_small (by omega)
      rw [Lib.decDigits, dif_neg h]
      refine ⟨?_, ?_, by simp, ?_⟩
      · rw [dval_snoc, a1, h1]; omega
      · rw [List.all_append, a2, List.all_cons, List.all_nil, Bool.and_true, Bool.true_and]
        exact decide_eq_true (by rw [h1]; omega)
      · intro e
        have hh : (Lib.decDigits (u / 10) ++ [UInt8.ofNat (48 + u % 10)]).headD 0 = (Lib.decDigits (u / 10)).headD 0 := by
          cases hq : Lib.decDigits (u / 10) with
          | nil => exact absurd hq a3
          | cons b r => rfl
        rw [hh] at e
        have := a4 e
        omega
def digE (l : List UInt8) (most : Nat) : Int := if l = [] ∨ (l.headD 0 = 48 ∧ 1 < l.length) ∨ l.all isDig = false then 1 else if most < dval l then 8 else 0
theorem digE_ok {l : List UInt8} {most : Nat} (h : digE l most = 0) : l ≠ [] ∧ (l.headD 0 = 48 → l.length = 1) ∧ l.all isDig = true ∧ dval l ≤ most := by
  unfold digE at h
  split at h
  · cases h
  · rename_i q
    have q1 : ¬ l = [] := fun x => q (.inl x)
    have q2 : ¬ (l.headD 0 = 48 ∧ 1 < l.length) := fun x => q (.inr (.inl x))
    have q3 : ¬ l.all isDig = false := fun x => q (.inr (.inr x))
    split at h
    · cases h
    · refine ⟨q1, fun e => ?_, by simpa using q3, by omega⟩
      have := List.length_pos_iff.2 q1
      have : ¬ 1 < l.length := fun x => q2 ⟨e, x⟩
      omega
theorem digE_dec {u most : Nat} (h : u ≤ most) : digE (Lib.decDigits u) most = 0 := by
  obtain ⟨a1, a2, a3, a4⟩ := dec_facts u
  unfold digE
  rw [if_neg, if_neg (by rw [a1]; omega)]
  rintro (q | ⟨q1, q2⟩ | q)
  · exact a3 q
  · have := a4 q1
    subst this
    rw [Lib.decDigits, dif_pos (by omega)] at q2
    simp at q2
  · rw [a2] at q; cases q
def quoB (b : UInt8) : List UInt8 := if b = 39 then [39, 39] else [b]
def unq : List UInt8 → Option (List UInt8)
  | [] => some []
  | b :: r => if b = 39 then (match r with
      | [] => none
      | c :: r' => if c = 39 then (unq r').map (39 :: ·) else none) else (unq r).map (b :: ·)
theorem unq_o {b : UInt8} (h : b ≠ 39) (r : List UInt8) : unq (b :: r) = (unq r).map (b :: ·) := by cases r <;> simp [unq, h]
theorem unq_q (c : UInt8) (r : List UInt8) : unq (39 :: c :: r) = if c = 39 then (unq r).map (39 :: ·) else none := by simp [unq]
theorem unq_1 : unq [39] = none := by simp [unq]
theorem unq_quo : ∀ s : List UInt8, unq (s.flatMap quoB) = some s
  | [] => rfl
  | b :: s => by
    rw [List.flatMap_cons]
    by_cases h : b = 39
    · subst h
      show unq (39 :: 39 :: s.flatMap quoB) = _
      rw [unq_q, if_pos rfl, unq_quo s]; rfl
    · have : quoB b = [b] := if_neg h
      rw [this, List.singleton_append, unq_o h, unq_quo s]; rfl
theorem quo_unq : ∀ (N : Nat) (l s : List UInt8), l.length ≤ N → unq l = some s → s.flatMap quoB = l
  | _, [], s, _, h => by cases h; rfl
  | 0, _ :: _, _, hN, _ => by simp at hN
  | N + 1, b :: r, s, hN, h => by
    rw [List.length_cons] at hN
    by_cases e : b = 39
    · rw [e] at h
      cases r with
      | nil => rw [unq_1] at h; cases h
      | cons c r' =>
        rw [unq_q] at h
        by_cases e2 : c = 39
        · rw [if_pos e2] at h
          cases hu : unq r' with
          | none => rw [hu] at h; cases h
          | some t =>
            rw [hu] at h
            cases h
            rw [List.flatMap_cons, quo_unq N r' t (by rw [List.length_cons] at hN; omega) hu, e, e2]; rfl
        · rw [if_neg e2] at h; cases h
    · rw [unq_o e] at h
      cases hu : unq r with
      | none => rw [hu] at h; cases h
      | some t =>
        rw [hu] at h
        cases h
        rw [List.flatMap_cons, quo_unq N r t (by omega) hu]
        show (if b = 39 then _ else [b]) ++ r = _
        rw [if_neg e]; rfl
def hexd (n : Nat) : UInt8 := if n < 10 then UInt8.ofNat (48 + n) else UInt8.ofNat (87 + n)
def hexB (b : UInt8) : List UInt8 := [hexd (b.toNat / 16), hexd (b.toNat % 16)]
def hexv (c : UInt8) : Option Nat := if 48 ≤ c.toNat ∧ c.toNat ≤ 57 then some (c.toNat - 48) else if 97 ≤ c.toNat ∧ c.toNat ≤ 102 then some (c.toNat - 87) else none
def hexw (any : Bool) (c : UInt8) : Option Nat := if any = true ∧ 65 ≤ c.toNat ∧ c.toNat ≤ 70 then some (c.toNat - 55) else hexv c
def unhex (any : Bool) : List UInt8 → Option (List UInt8)
  | [] => some []
  | [_] => none
  | a :: b :: r => match hexw any a, hexw any b with
    | some x, some y => (unhex any r).map (UInt8.ofNat (x * 16 + y) :: ·)
    | _, _ => none
theorem hexd_lt {n : Nat} (h : n < 16) : (hexd n).toNat = if n < 10 then 48 + n else 87 + n := by
  unfold hexd
  split
  · exact u8_small (by omega)
  · exact u8_small (by omega)
theorem hexv_d {n : Nat} (h : n < 16) : hexv (hexd n) = some n := by
  have e := hexd_lt h
  unfold hexv
  by_cases h10 : n < 10
  · rw [if_pos h10] at e
    rw [e, if_pos (by omega)]
    congr 1; omega
  · rw [if_neg h10] at e
    rw [e, if_neg (by omega), if_pos (by omega)]
    congr 1; omega
theorem hexd_v {c : UInt8} {x : Nat} (h : hexv c = some x) : x < 16 ∧ hexd x = c := by
  unfold hexv at h
  split at h
  · cases h
    refine ⟨by omega, ?_⟩
    unfold hexd
    rw [if_pos (by omega), show 48 + (c.toNat - 48) = c.toNat by omega, u8_back]
  · split at h
    · cases h
      refine ⟨by omega, ?_⟩
      unfold hexd
      rw [if_neg (by omega), show 87 + (c.toNat - 87) = c.toNat by omega, u8_back]
    · cases h
theorem unhex_hex : ∀ s : List UInt8, unhex false (s.flatMap hexB) = some s
  | [] => rfl
  | b :: s => by
    have hb := b.toNat_lt
    rw [List.flatMap_cons]
    show unhex false (hexd (b.toNat / 16) :: hexd (b.toNat % 16) :: s.flatMap hexB) = _
    have e : ∀ n, n < 16 → hexw false (hexd n) = some n := fun n h => by unfold hexw; rw [if_neg (by simp)]; exact hexv_d h
    rw [unhex, e _ (by omega), e _ (by omega)]
    show (unhex false (s.flatMap hexB)).map (UInt8.ofNat (b.toNat / 16 * 16 + b.toNat % 16) :: ·) = _
    rw [unhex_hex s, show b.toNat / 16 * 16 + b.toNat % 16 = b.toNat by omega, u8_back]; rfl
theorem hex_unhex : ∀ (N : Nat) (l s : List UInt8), l.length ≤ N → unhex false l = some s → s.flatMap hexB = l
  | _, [], s, _, h => by cases h; rfl
  | _, [_], s, _, h => by cases h
  | 0, _ :: _ :: _, _, hN, _ => by simp at hN
  | N + 1, a :: b :: r, s, hN, h => by
    rw [List.length_cons] at hN
    rw [unhex] at h
    have e : ∀ c, hexw false c = hexv c := fun c => by unfold hexw; rw [if_neg (by simp)]
    rw [e, e] at h
    cases ha : hexv a with
    | none => rw [ha] at h; cases h
    | some x =>
      cases hb : hexv b with
      | none => rw [ha, hb] at h; cases h
      | some y =>
        rw [ha, hb] at h
        have h : (unhex false r).map (UInt8.ofNat (x * 16 + y) :: ·) = some s := h
        cases hu : unhex false r with
        | none => rw [hu] at h; cases h
        | some t =>
          rw [hu] at h
          cases h
          obtain ⟨x1, x2⟩ := hexd_v ha
          obtain ⟨y1, y2⟩ := hexd_v hb
          rw [List.flatMap_cons, hex_unhex N r t (by rw [List.length_cons] at hN; omega) hu]
          unfold hexB
          rw [u8_small (by omega), show (x * 16 + y) / 16 = x by omega, show (x * 16 + y) % 16 = y by omega, x2, y2]; rfl
end Go.Proofs.YtmcmagfondjopaaDoor.Pm
end
section
namespace Go.Proofs.YtmcmagfondjopaaDoor.Pm
open Go.RowKit K
set_option linter.unusedVariables false
set_option linter.unusedSimpArgs false
set_option maxRecDepth 100000
def nullL : List UInt8 := [78, 85, 76, 76]
def shownL (g : UInt8 → List UInt8) (s : List UInt8) : List UInt8 := 39 :: (s.flatMap g ++ [39])
def showV (v : ValueD) : List UInt8 := if v.Kind = 1 then Lib.itoa v.N else if v.Kind = 2 then shownL quoB v.S else if v.Kind = 3 then 120 :: shownL hexB v.S else nullL
def innerL (s : List UInt8) : List UInt8 := (s.drop 1).take (s.length - 2)
def quotL (s : List UInt8) : Option (List UInt8) := if s.length < 2 ∨ s.headD 0 ≠ 39 ∨ s.getLastD 0 ≠ 39 then none else unq (innerL s)
def hexL (any : Bool) (s : List UInt8) : Option (List UInt8) := if s.length < 2 ∨ s.length % 2 ≠ 0 ∨ s.headD 0 ≠ 39 ∨ s.getLastD 0 ≠ 39 then none else unhex any (innerL s)
def txtA (k : Int) (o : Option (List UInt8)) : ValueD × Int := match o with
  | none => (zeroW, 1)
  | some t => if 16 < t.length then (zeroW, 2) else (⟨k, 0, t⟩, 0)
def most1 : Nat := 9223372036854775807
def most2 : Nat := 9223372036854775808
def numA (s : List UInt8) : ValueD × Int :=
  if s.headD 0 = 45 then (if digE (s.drop 1) most2 ≠ 0 then (zeroW, digE (s.drop 1) most2) else if dval (s.drop 1) = 0 then (zeroW, 1) else (⟨1, -(dval (s.drop 1) : Int), []⟩, 0))
  else if digE s most1 ≠ 0 then (zeroW, digE s most1) else (⟨1, dval s, []⟩, 0)
def ofV (s : List UInt8) : ValueD × Int :=
  if s = nullL then (zeroW, 0)
  else if s.headD 0 = 120 then txtA 3 (hexL false (s.drop 1))
  else if s.headD 0 = 39 then txtA 2 (quotL s)
  else numA s
theorem inner_mid (m : List UInt8) (a b : UInt8) : innerL (a :: (m ++ [b])) = m := by
  unfold innerL
  rw [List.drop_succ_cons, List.drop_zero, List.length_cons, List.length_append, List.length_singleton, show m.length + 1 + 1 - 2 = m.length by omega, List.take_left' rfl]
theorem last_mid (m : List UInt8) (a b : UInt8) : (a :: (m ++ [b])).getLastD 0 = b := by
  rw [← List.cons_append, List.getLastD_concat]
theorem mid_of {s : List UInt8} (h : ¬ (s.length < 2 ∨ s.headD 0 ≠ 39 ∨ s.getLastD 0 ≠ 39)) : s = 39 :: (innerL s ++ [39]) := by
  have h1 : ¬ s.length < 2 := fun x => h (.inl x)
  have h2 : s.headD 0 = 39 := Decidable.of_not_not fun x => h (.inr (.inl x))
  have h3 : s.getLastD 0 = 39 := Decidable.of_not_not fun x => h (.inr (.inr x))
  cases s with
  | nil => simp at h1
  | cons a r =>
    have hr : r ≠ [] := fun e => by rw [e] at h1; simp at h1
    obtain ⟨m, b, rfl⟩ : ∃ m b, r = m ++ [b] := ⟨r.dropLast, r.getLast hr, (List.dropLast_concat_getLast hr).symm⟩
    rw [last_mid] at h3
    have h2 : a = 39 := h2
    rw [inner_mid, h2, h3]
theorem quot_shown (s : List UInt8) : quotL (shownL quoB s) = some s := by
  unfold quotL shownL
  rw [if_neg, inner_mid, unq_quo]
  rintro (h | h | h)
  · rw [List.length_cons, List.length_append, List.length_singleton] at h; omega
  · exact h rfl
  · exact h (last_mid _ _ _)
theorem shown_quot {s t : List UInt8} (h : quotL s = some t) : shownL quoB t = s := by
  unfold quotL at h
  split at h
  · cases h
  · rename_i q
    have := quo_unq _ _ _ (Nat.le_refl _) h
    unfold shownL
    rw [this]; exact (mid_of q).symm
theorem hex_len : ∀ s : List UInt8, (s.flatMap hexB).length = 2 * s.length
  | [] => rfl
  | b :: s => by rw [List.flatMap_cons, List.length_append, hex_len s, List.length_cons]; show 2 + _ = _; omega
theorem hexL_shown (s : List UInt8) : hexL false (shownL hexB s) = some s := by
  unfold hexL shownL
  rw [if_neg, inner_mid, unhex_hex]
  rintro (h | h | h | h)
  · rw [List.length_cons, List.length_append, List.length_singleton] at h; omega
  · rw [List.length_cons, List.length_append, List.length_singleton, hex_len] at h; omega
  · exact h rfl
  · exact h (last_mid _ _ _)
theorem shown_hexL {s t : List UInt8} (h : hexL false s = some t) : shownL hexB t = s := by
  unfold hexL at h
  split at h
  · cases h
  · rename_i q
    have := hex_unhex _ _ _ (Nat.le_refl _) h
    unfold shownL
    rw [this]; exact (mid_of fun x => q (x.elim .inl fun y => .inr (.inr y))).symm
theorem dec_head {u : Nat} : ∃ c r, Lib.decDigits u = c :: r ∧ 48 ≤ c.toNat ∧ c.toNat ≤ 57 := by
  obtain ⟨a1, a2, a3, a4⟩ := dec_facts u
  cases h : Lib.decDigits u with
  | nil => exact absurd h a3
  | cons c r =>
    rw [h, List.all_cons, Bool.and_eq_true] at a2
    exact ⟨c, r, rfl, of_decide_eq_true a2.1⟩
theorem u8_ne {c d : UInt8} (h : c.toNat ≠ d.toNat) : c ≠ d := fun e => h (by rw [e])
theorem ofV_num {s : List UInt8} {c : UInt8} {r : List UInt8} (h : s = c :: r) (hc : c.toNat = 45 ∨ (48 ≤ c.toNat ∧ c.toNat ≤ 57)) : ofV s = numA s := by
  have hh : s.headD 0 = c := by rw [h]; rfl
  have h1 : c ≠ 78 := u8_ne (by show c.toNat ≠ 78; omega)
  have h2 : c ≠ 120 := u8_ne (by show c.toNat ≠ 120; omega)
  have h3 : c ≠ 39 := u8_ne (by show c.toNat ≠ 39; omega)
  unfold ofV
  rw [if_neg (by rw [h]; unfold nullL; intro e; exact h1 (List.cons.inj e).1), hh, if_neg h2, if_neg h3]
theorem vChk_int {v : ValueD} (h : vChk v = 0) (hk : v.Kind = 1) : v.S = [] := by
  unfold vChk at h
  split at h
  · cases h
  · split at h
    · cases h
    · rename_i q
      have : ¬ (v.Kind < 2 ∧ v.S.length ≠ 0) := fun x => q (.inr x)
      have : v.S.length = 0 := by omega
      exact List.length_eq_zero_iff.1 this
theorem vChk_text {v : ValueD} (h : vChk v = 0) (hk : v.Kind ≠ 1) : v.N = 0 ∧ v.S.length ≤ 16 ∧ (v.Kind < 2 → v.S = []) ∧ 0 ≤ v.Kind ∧ v.Kind ≤ 3 := by
  unfold vChk at h
  split at h
  · cases h
  · split at h
    · cases h
    · rename_i q
      have q1 : ¬ (v.Kind ≠ 1 ∧ v.N ≠ 0) := fun x => q (.inl x)
      have q2 : ¬ (v.Kind < 2 ∧ v.S.length ≠ 0) := fun x => q (.inr x)
      split at h
      · cases h
      · exact ⟨by omega, by omega, fun g => List.length_eq_zero_iff.1 (by omega), by omega, by omega⟩
theorem of_show {v : ValueD} (h : vChk v = 0) (hi : -9223372036854775808 ≤ v.N ∧ v.N ≤ 9223372036854775807) : ofV (showV v) = (v, 0) := by
  unfold showV
  by_cases k1 : v.Kind = 1
  · have hS := vChk_int h k1
    rw [if_pos k1]
    have hv : v = ⟨1, v.N, []⟩ := by
      obtain ⟨k, n, s⟩ := v
      simp only at k1 hS
      rw [k1, hS]
    unfold Lib.itoa
    by_cases hn : v.N < 0
    · rw [if_pos hn, ofV_num rfl (.inl rfl)]
      have ha : v.N.natAbs ≤ most2 := by unfold most2; omega
      unfold numA
      rw [if_pos (show (45 :: Lib.decDigits v.N.natAbs).headD 0 = 45 from rfl), show (45 :: Lib.decDigits v.N.natAbs).drop 1 = Lib.decDigits v.N.natAbs from rfl, digE_dec ha, if_neg (by decide), (dec_facts _).1, if_neg (by omega)]
      rw [hv]
      show (ValueD.mk 1 (-(v.N.natAbs : Int)) [], (0 : Int)) = _
      rw [show -(v.N.natAbs : Int) = v.N by omega]
    · rw [if_neg hn]
      obtain ⟨c, r, e1, e2⟩ := dec_head (u := v.N.toNat)
      rw [ofV_num e1 (.inr e2)]
      have ha : v.N.toNat ≤ most1 := by unfold most1; omega
      unfold numA
      rw [if_neg (by rw [e1]; exact u8_ne (by show c.toNat ≠ 45; omega)), digE_dec ha, if_neg (by decide), (dec_facts _).1]
      rw [hv]
      show (ValueD.mk 1 ((v.N.toNat : Nat) : Int) [], (0 : Int)) = _
      rw [show ((v.N.toNat : Nat) : Int) = v.N by omega]
  · rw [if_neg k1]
    obtain ⟨t1, t2, t3, t4, t5⟩ := vChk_text h k1
    by_cases k2 : v.Kind = 2
    · rw [if_pos k2]
      unfold ofV
      rw [if_neg (by unfold shownL nullL; intro e; exact absurd (List.cons.inj e).1 (by decide)), if_neg (show ¬ (shownL quoB v.S).headD 0 = 120 from by show ¬ (39 : UInt8) = 120; decide), if_pos (show (shownL quoB v.S).headD 0 = 39 from rfl), quot_shown]
      show (if 16 < v.S.length then _ else _) = _
      rw [if_neg (by omega)]
      obtain ⟨k, n, s⟩ := v
      simp only at k2 t1
      rw [k2, t1]
    · rw [if_neg k2]
      by_cases k3 : v.Kind = 3
      · rw [if_pos k3]
        unfold ofV
        rw [if_neg (by unfold nullL; intro e; exact absurd (List.cons.inj e).1 (by decide)), if_pos (show (120 :: shownL hexB v.S).headD 0 = 120 from rfl), show (120 :: shownL hexB v.S).drop 1 = shownL hexB v.S from rfl, hexL_shown]
        show (if 16 < v.S.length then _ else _) = _
        rw [if_neg (by omega)]
        obtain ⟨k, n, s⟩ := v
        simp only at k3 t1
        rw [k3, t1]
      · rw [if_neg k3]
        unfold ofV
        rw [if_pos rfl]
        have k0 : v.Kind = 0 := by omega
        have := t3 (by omega)
        obtain ⟨k, n, s⟩ := v
        simp only at k0 t1 this
        rw [k0, t1, this]; rfl
theorem txtA_ok {k : Int} {o : Option (List UInt8)} {v : ValueD} (h : txtA k o = (v, 0)) : ∃ t, o = some t ∧ t.length ≤ 16 ∧ v = ⟨k, 0, t⟩ := by
  unfold txtA at h
  split at h
  · cases h
  · rename_i t
    split at h
    · cases h
    · cases h
      exact ⟨t, rfl, by omega, rfl⟩
theorem vChk_mk {k : Int} {t : List UInt8} (hk : k = 2 ∨ k = 3) (h : t.length ≤ 16) : vChk ⟨k, 0, t⟩ = 0 := by
  unfold vChk
  rw [if_neg (by show ¬ (k < 0 ∨ 3 < k); omega), if_neg (by show ¬ ((k ≠ 1 ∧ (0 : Int) ≠ 0) ∨ (k < 2 ∧ t.length ≠ 0)); omega), if_neg (by show ¬ 16 < t.length; omega)]
theorem vChk_one (n : Int) : vChk ⟨1, n, []⟩ = 0 := by
  unfold vChk
  rw [if_neg (by show ¬ ((1 : Int) < 0 ∨ (3 : Int) < 1); omega), if_neg (by show ¬ (((1 : Int) ≠ 1 ∧ n ≠ 0) ∨ ((1 : Int) < 2 ∧ ([] : List UInt8).length ≠ 0)); simp), if_neg (by show ¬ 16 < ([] : List UInt8).length; simp)]
theorem show_of {s : List UInt8} {v : ValueD} (h : ofV s = (v, 0)) : showV v = s ∧ vChk v = 0 := by
  unfold ofV at h
  split at h
  · rename_i e
    cases h
    exact ⟨e.symm, by decide⟩
  · split at h
    · rename_i hx
      obtain ⟨t, h1, h2, rfl⟩ := txtA_ok h
      refine ⟨?_, vChk_mk (.inr rfl) h2⟩
      unfold showV
      rw [if_neg (by show ¬ (3 : Int) = 1; omega), if_neg (by show ¬ (3 : Int) = 2; omega), if_pos rfl, shown_hexL h1]
      cases s with
      | nil => exact absurd hx (by decide)
      | cons a r =>
        have hx : a = 120 := hx
        rw [hx]; rfl
    · split at h
      · obtain ⟨t, h1, h2, rfl⟩ := txtA_ok h
        refine ⟨?_, vChk_mk (.inl rfl) h2⟩
        unfold showV
        rw [if_neg (by show ¬ (2 : Int) = 1; omega), if_pos rfl, shown_quot h1]
      · unfold numA at h
        split at h
        · rename_i h45
          cases s with
          | nil => exact absurd h45 (by decide)
          | cons a r =>
            have h45 : a = 45 := h45
            rw [show (a :: r).drop 1 = r from rfl] at h
            split at h
            · rename_i q; exact absurd (congrArg Prod.snd h) q
            · rename_i q
              have q := Decidable.of_not_not q
              split at h
              · cases h
              · rename_i q0
                cases h
                obtain ⟨d1, d2, d3, d4⟩ := digE_ok q
                refine ⟨?_, vChk_one _⟩
                unfold showV
                rw [if_pos rfl]
                unfold Lib.itoa
                show (if -(dval r : Int) < 0 then _ else _) = _
                rw [if_pos (by omega)]
                show 45 :: Lib.decDigits (-(dval r : Int)).natAbs = _
                rw [show (-(dval r : Int)).natAbs = dval r by omega, dec_dval _ r (Nat.le_refl _) d3 d1 d2, h45]
        · split at h
          · rename_i q; exact absurd (congrArg Prod.snd h) q
          · rename_i q
            have q := Decidable.of_not_not q
            cases h
            obtain ⟨d1, d2, d3, d4⟩ := digE_ok q
            refine ⟨?_, vChk_one _⟩
            unfold showV
            rw [if_pos rfl]
            unfold Lib.itoa
            show (if (dval s : Int) < 0 then _ else _) = _
            rw [if_neg (by omega)]
            show Lib.decDigits ((dval s : Int)).toNat = _
            rw [show ((dval s : Int)).toNat = dval s by omega, dec_dval _ s (Nat.le_refl _) d3 d1 d2]
end Go.Proofs.YtmcmagfondjopaaDoor.Pm
end
section
namespace Go.Proofs.YtmcmagfondjopaaDoor.Pm
open Go.RowKit K
set_option linter.unusedVariables false
set_option linter.unusedSimpArgs false
set_option maxRecDepth 100000
abbrev vO (x : ValueD) : ValP.ValD := (x.Kind, x.N, tx x.S)
def vOrd (x y : ValueD) : Int := ValP.order (vO x) (vO y)
theorem vVv (x : ValueD) {F : Fzn} {w : World} {u : Value} (h : PRep (fun _ => none) F w (vV x) u) : u = .agg #[.int .i64 x.Kind, .int .i64 x.N, .string (tx x.S)] := by
  unfold PRep at h
  obtain ⟨xs, rfl, h⟩ := h
  obtain ⟨u1, r1, rfl, h1, h⟩ := dsRep_inv (show DsRep _ _ _ [D.c (C.v (.int .i64 x.Kind)), D.c (C.v (.int .i64 x.N)), D.c (C.v (.string (tx x.S)))] xs from h)
  obtain ⟨u2, r2, rfl, h2, h⟩ := dsRep_inv h
  obtain ⟨u3, r3, rfl, h3, h⟩ := dsRep_inv h
  rw [dsRep_nil_inv h]
  unfold DRep CRep at h1 h2 h3
  rw [h1.1, h2.1, h3.1]
theorem pure_two {P : Program} {f : FuncId} {x y : ValueD} {res : PV} (hf : fnOk P f)
    (h : ∀ w : World, GL w → Calls P f #[.agg #[.int .i64 x.Kind, .int .i64 x.N, .string (tx x.S)], .agg #[.int .i64 y.Kind, .int .i64 y.N, .string (tx y.S)]] w fun e w' => ∃ v, e = .returned v ∧ Below w.heap.size w w' ∧ ∀ F : Fzn, PRep (fun _ => none) F w' res v) :
    Pure P f [vV x, vV y] res := by
  refine ⟨hf, fun F w us hG hF hus => ?_⟩
  match us, hus with
  | [u, v], hus =>
    unfold PsRep at hus
    obtain ⟨h1, hus⟩ := hus
    unfold PsRep at hus
    rw [vVv x h1, vVv y hus.1]
    refine (h w hG).mono ?_
    rintro e w' ⟨z, rfl, hb, hr⟩
    exact ⟨z, rfl, hb, hr _⟩
  | [], hus => unfold PsRep at hus; exact hus.elim
  | [_], hus => unfold PsRep PsRep at hus; exact hus.2.elim
  | _ :: _ :: _ :: _, hus => unfold PsRep PsRep PsRep at hus; exact hus.2.2.elim
theorem vOrd_zero (x y : ValueD) : vOrd x y = 0 ↔ x = y := by
  unfold vOrd
  rw [ValP.order_zero]
  cases x; cases y
  simp [tx_eq]
theorem vOrd_swap (x y : ValueD) : vOrd y x = - vOrd x y := ValP.order_swap _ _
theorem vOrd_cases (x y : ValueD) : vOrd x y = -1 ∨ vOrd x y = 0 ∨ vOrd x y = 1 := by
  have h1 := ValP.cmpI_cases x.Kind y.Kind
  have h2 := ValP.cmpI_cases x.N y.N
  have h3 := ValP.compareBytes_cases x.S y.S
  unfold vOrd
  rw [ValP.order_eq]
  have e3 : ValP.cmpS (tx x.S) (tx y.S) = Lib.compareBytes x.S y.S := rfl
  simp only [e3]
  (repeat' split) <;> simp_all
end Go.Proofs.YtmcmagfondjopaaDoor.Pm
end
section
namespace Go.Proofs.YtmcmagfondjopaaDoor.Pm
open Go.RowKit K
set_option linter.unusedVariables false
set_option linter.unusedSimpArgs false
set_option maxRecDepth 100000
theorem fold_form : ∀ (l : List UInt8) (n : Nat), l.foldl dstep n = n * 10 ^ l.length + dval l
  | [], n => by simp [dval]
  | c :: l, n => by
    have h1 : (c :: l).foldl dstep n = l.foldl dstep (dstep n c) := rfl
    have h2 : dval (c :: l) = l.foldl dstep (dstep 0 c) := rfl
    rw [h1, h2, fold_form l (dstep n c), fold_form l (dstep 0 c), List.length_cons, Nat.pow_succ]
    unfold dstep
    rw [Nat.add_mul, Nat.zero_mul, Nat.zero_add, Nat.mul_assoc, Nat.mul_comm 10 (10 ^ l.length)]
    omega
theorem dval_cons (c : UInt8) (l : List UInt8) : dval (c :: l) = (c.toNat - 48) * 10 ^ l.length + dval l := by
  have h2 : dval (c :: l) = l.foldl dstep (dstep 0 c) := rfl
  rw [h2, fold_form]
  unfold dstep
  rw [Nat.zero_mul, Nat.zero_add]
theorem dval_lt : ∀ {l : List UInt8}, l.all isDig = true → dval l < 10 ^ l.length
  | [], _ => by simp [dval]
  | c :: l, h => by
    rw [List.all_cons, Bool.and_eq_true] at h
    have hc := of_decide_eq_true h.1
    have ih := dval_lt h.2
    rw [dval_cons, List.length_cons, Nat.pow_succ]
    have : (c.toNat - 48) * 10 ^ l.length ≤ 9 * 10 ^ l.length := Nat.mul_le_mul_right _ (by omega)
    omega
theorem dval_ge {l : List UInt8} (h : l.all isDig = true) (h0 : l ≠ []) (h1 : l.headD 0 ≠ 48) : 10 ^ (l.length - 1) ≤ dval l := by
  cases l with
  | nil => exact absurd rfl h0
  | cons c l =>
    rw [List.all_cons, Bool.and_eq_true] at h
    have hc := of_decide_eq_true h.1
    have hne : c.toNat ≠ 48 := fun e => h1 (by show c = 48; rw [← u8_back c, e]; rfl)
    rw [dval_cons, List.length_cons, Nat.add_sub_cancel]
    have : 1 * 10 ^ l.length ≤ (c.toNat - 48) * 10 ^ l.length := Nat.mul_le_mul_right _ (by omega)
    omega
theorem dcmp : ∀ {a b : List UInt8}, a.length = b.length → a.all isDig = true → b.all isDig = true → (Lib.compareBytes a b < 0 ↔ dval a < dval b)
  | [], [], _, _, _ => by simp [Lib.compareBytes, dval]
  | x :: a, y :: b, hl, ha, hb => by
    have hl : a.length = b.length := by simpa using hl
    rw [List.all_cons, Bool.and_eq_true] at ha hb
    have hx := of_decide_eq_true ha.1
    have hy := of_decide_eq_true hb.1
    have ih := dcmp hl ha.2 hb.2
    have la := dval_lt ha.2
    have lb := dval_lt hb.2
    rw [dval_cons, dval_cons, hl]
    rw [hl] at la
    unfold Lib.compareBytes
    by_cases h1 : x < y
    · rw [if_pos h1]
      have h1 : x.toNat < y.toNat := h1
      have : (x.toNat - 48 + 1) * 10 ^ b.length ≤ (y.toNat - 48) * 10 ^ b.length := Nat.mul_le_mul_right _ (by omega)
      rw [Nat.add_mul] at this
      exact ⟨fun _ => by omega, fun _ => by decide⟩
    · rw [if_neg h1]
      by_cases h2 : y < x
      · rw [if_pos h2]
        have h2 : y.toNat < x.toNat := h2
        have : (y.toNat - 48 + 1) * 10 ^ b.length ≤ (x.toNat - 48) * 10 ^ b.length := Nat.mul_le_mul_right _ (by omega)
        rw [Nat.add_mul] at this
        exact ⟨fun h => by omega, fun h => by omega⟩
      · rw [if_neg h2, ih]
        have e : x.toNat = y.toNat := by
          have h1 : ¬ x.toNat < y.toNat := h1
          have h2 : ¬ y.toNat < x.toNat := h2
          omega
        rw [e]; omega
def allB (s : List UInt8) : Bool := s.all isDig && (decide (s.length = 1) || (decide (1 < s.length) && decide (s.headD 0 ≠ 48)))
def lessB (s t : List UInt8) : Bool := decide (s.length < t.length) || (decide (s.length = t.length) && !decide (Lib.compareBytes t s < 0))
theorem allB_iff (s : List UInt8) : allB s = true ↔ s.all isDig = true ∧ (s.length = 1 ∨ (1 < s.length ∧ s.headD 0 ≠ 48)) := by
  unfold allB
  rw [Bool.and_eq_true, Bool.or_eq_true, Bool.and_eq_true, decide_eq_true_eq, decide_eq_true_eq, decide_eq_true_eq]
theorem short_lt {a b : List UInt8} (ha : allB a = true) (hb : allB b = true) (h : a.length < b.length) : dval a < dval b := by
  rw [allB_iff] at ha hb
  have h1 := dval_lt ha.1
  have hp : 0 < a.length := by rcases ha.2 with x | x <;> omega
  rcases hb.2 with x | x
  · omega
  · have h2 := dval_ge hb.1 (fun e => by rw [e] at h; simp at h) x.2
    have : 10 ^ a.length ≤ 10 ^ (b.length - 1) := Nat.pow_le_pow_right (by decide) (by omega)
    omega
theorem less_iff {s t : List UInt8} (hs : allB s = true) (ht : allB t = true) : lessB s t = decide (dval s ≤ dval t) := by
  unfold lessB
  by_cases h1 : s.length < t.length
  · have := short_lt hs ht h1
    rw [decide_eq_true h1, decide_eq_true (show dval s ≤ dval t by omega), Bool.true_or]
  · by_cases h2 : s.length = t.length
    · have := dcmp h2.symm ((allB_iff _).1 ht).1 ((allB_iff _).1 hs).1
      rw [decide_eq_false h1, decide_eq_true h2, Bool.false_or, Bool.true_and]
      by_cases h3 : dval t < dval s
      · rw [decide_eq_true (this.2 h3), decide_eq_false (show ¬ dval s ≤ dval t by omega)]; rfl
      · rw [decide_eq_false (fun x => h3 (this.1 x)), decide_eq_true (show dval s ≤ dval t by omega)]; rfl
    · have := short_lt ht hs (by omega)
      rw [decide_eq_false h1, decide_eq_false h2, decide_eq_false (show ¬ dval s ≤ dval t by omega)]; rfl
theorem digE_all (s : List UInt8) (most : Nat) : digE s most = if allB s = false then 1 else if most < dval s then 8 else 0 := by
  unfold digE
  by_cases h : allB s = true
  · have q := (allB_iff s).1 h
    have hA : ¬ (s = [] ∨ (s.headD 0 = 48 ∧ 1 < s.length) ∨ s.all isDig = false) := by
      rintro (x | x | x)
      · rw [x] at q; rcases q.2 with y | y
        · simp at y
        · simp at y
      · rcases q.2 with y | y
        · omega
        · exact y.2 x.1
      · rw [q.1] at x; cases x
    rw [if_neg hA, if_neg (show ¬ allB s = false by rw [h]; decide)]
  · have hf : allB s = false := Bool.eq_false_iff.2 h
    rw [if_pos, if_pos hf]
    apply Decidable.byContradiction
    intro x
    apply h
    rw [allB_iff]
    have x1 : s ≠ [] := fun e => x (.inl e)
    have x2 : ¬ (s.headD 0 = 48 ∧ 1 < s.length) := fun e => x (.inr (.inl e))
    have x3 : s.all isDig = true := by simpa using fun e => x (.inr (.inr e))
    refine ⟨x3, ?_⟩
    have := List.length_pos_iff.2 x1
    by_cases y : s.length = 1
    · exact .inl y
    · exact .inr ⟨by omega, fun e => x2 ⟨e, by omega⟩⟩
def intO (s : List UInt8) (below : Bool) : Int × Int :=
  if allB s = false ∨ (below = true ∧ s = [48]) then (0, 1) else if (if below then most2 else most1) < dval s then (0, 8) else (if below then -(dval s : Int) else (dval s : Int), 0)
def hexR (s : List UInt8) : Option (List UInt8) := if s.length < 3 ∨ s.length % 2 = 0 ∨ s.headD 0 ≠ 120 ∨ s.getD 1 0 ≠ 39 ∨ s.getLastD 0 ≠ 39 then none else unhex false (innerL (s.drop 1))
def resA (r : Int × Int) : ValueD × Int := if r.2 ≠ 0 then (zeroW, r.2) else (⟨1, r.1, []⟩, 0)
def intA (s : List UInt8) : ValueD × Int := if s.headD 0 = 45 then resA (intO (s.drop 1) true) else resA (intO s false)
def litV (s : List UInt8) : ValueD × Int :=
  if s = nullL then (zeroW, 0)
  else match quotL s with
    | some t => txtA 2 (some t)
    | none => match hexR s with
      | some t => txtA 3 (some t)
      | none => intA s
theorem zero_one {s : List UInt8} (h : allB s = true) : dval s = 0 ↔ s = [48] := by
  constructor
  · intro h0
    have q := (allB_iff s).1 h
    have hne : s ≠ [] := fun e => by rw [e] at q; rcases q.2 with y | y <;> simp at y
    by_cases h1 : s.headD 0 = 48
    · rcases q.2 with y | y
      · match s, y with
        | [c], _ => rw [show c = 48 from h1]
      · exact absurd h1 y.2
    · have := dval_pos q.1 hne h1
      omega
  · rintro rfl; rfl
theorem intO_bad {s : List UInt8} (below : Bool) (h : allB s = false) : intO s below = (0, 1) := if_pos (.inl h)
theorem intO_ok {s : List UInt8} (below : Bool) (h : allB s = true) (h0 : below = true → s ≠ [48]) : intO s below = if (if below then most2 else most1) < dval s then (0, 8) else (if below then -(dval s : Int) else (dval s : Int), 0) := by
  refine if_neg ?_
  rintro (x | x)
  · rw [h] at x; cases x
  · exact h0 x.1 x.2
theorem intA_num (s : List UInt8) : intA s = numA s := by
  unfold intA numA
  by_cases h : s.headD 0 = 45
  · rw [if_pos h, if_pos h]
    generalize s.drop 1 = r
    rw [digE_all]
    by_cases ha : allB r = true
    · have hn : ¬ allB r = false := by rw [ha]; decide
      have hz := zero_one ha
      rw [if_neg hn]
      by_cases h0 : r = [48]
      · subst h0
        rw [show intO [48] true = (0, 1) from if_pos (.inr ⟨rfl, rfl⟩), if_neg (show ¬ most2 < dval [48] by decide)]; rfl
      · have : ¬ dval r = 0 := fun e => h0 (hz.1 e)
        rw [intO_ok true ha (fun _ => h0), if_neg this]
        by_cases hb : most2 < dval r
        · rw [if_pos (show (if (true : Bool) = true then most2 else most1) < dval r from hb), if_pos hb]; rfl
        · rw [if_neg (show ¬ (if (true : Bool) = true then most2 else most1) < dval r from hb), if_neg hb]; rfl
    · have hf : allB r = false := Bool.eq_false_iff.2 ha
      rw [intO_bad true hf, if_pos hf]; rfl
  · rw [if_neg h, if_neg h, digE_all]
    by_cases ha : allB s = true
    · have hn : ¬ allB s = false := by rw [ha]; decide
      rw [intO_ok false ha (fun x => by cases x), if_neg hn]
      by_cases hb : most1 < dval s
      · rw [if_pos (show (if (false : Bool) = true then most2 else most1) < dval s from hb), if_pos hb]; rfl
      · rw [if_neg (show ¬ (if (false : Bool) = true then most2 else most1) < dval s from hb), if_neg hb]; rfl
    · have hf : allB s = false := Bool.eq_false_iff.2 ha
      rw [intO_bad false hf, if_pos hf]; rfl
theorem hexR_x {s : List UInt8} (h : s.headD 0 = 120) : hexR s = hexL false (s.drop 1) := by
  cases s with
  | nil => exact absurd h (by decide)
  | cons a r =>
    have h : a = 120 := h
    subst h
    unfold hexR hexL
    rw [show (120 :: r).drop 1 = r from rfl, List.length_cons]
    have e1 : (120 :: r).getD 1 0 = r.headD 0 := by cases r <;> rfl
    rw [e1, show (120 :: r).headD 0 = 120 from rfl]
    by_cases q : r.length < 2
    · rw [if_pos (.inl (by omega)), if_pos (.inl q)]
    · have e2 : (120 :: r).getLastD 0 = r.getLastD 0 := by
        cases r with
        | nil => simp at q
        | cons b r => rw [List.getLastD_cons, List.getLastD_cons, List.getLastD_cons]
      rw [e2]
      by_cases q2 : r.length % 2 ≠ 0
      · rw [if_pos (.inr (.inl (by omega))), if_pos (.inr (.inl q2))]
      · by_cases q3 : r.headD 0 ≠ 39
        · rw [if_pos (.inr (.inr (.inr (.inl q3)))), if_pos (.inr (.inr (.inl q3)))]
        · by_cases q4 : r.getLastD 0 ≠ 39
          · rw [if_pos (.inr (.inr (.inr (.inr q4)))), if_pos (.inr (.inr (.inr q4)))]
          · rw [if_neg, if_neg]
            · rintro (x | x | x | x)
              · exact q x
              · exact q2 x
              · exact q3 x
              · exact q4 x
            · rintro (x | x | x | x | x)
              · omega
              · omega
              · exact x rfl
              · exact q3 x
              · exact q4 x
theorem hexR_no {s : List UInt8} (h : s.headD 0 ≠ 120) : hexR s = none := if_pos (.inr (.inr (.inl h)))
theorem quot_no {s : List UInt8} (h : s.headD 0 ≠ 39) : quotL s = none := if_pos (.inr (.inl h))
theorem allB_head {s : List UInt8} (h : allB s = true) : 48 ≤ (s.headD 0).toNat ∧ (s.headD 0).toNat ≤ 57 := by
  have q := (allB_iff s).1 h
  cases s with
  | nil => rcases q.2 with y | y <;> simp at y
  | cons c r =>
    have := q.1
    rw [List.all_cons, Bool.and_eq_true] at this
    exact of_decide_eq_true this.1
theorem intA_bad {s : List UInt8} (h45 : s.headD 0 ≠ 45) (h : allB s = false) : intA s = (zeroW, 1) := by
  unfold intA
  rw [if_neg h45, intO_bad false h]; rfl
theorem lit_of (s : List UInt8) : litV s = ofV s := by
  unfold litV ofV
  by_cases h0 : s = nullL
  · rw [if_pos h0, if_pos h0]
  rw [if_neg h0, if_neg h0]
  by_cases h1 : s.headD 0 = 120
  · rw [if_pos h1, quot_no (by rw [h1]; decide), hexR_x h1]
    cases hexL false (s.drop 1) with
    | some t => rfl
    | none =>
      refine intA_bad (by rw [h1]; decide) (Bool.eq_false_iff.2 fun x => ?_)
      have := allB_head x
      rw [h1] at this
      exact absurd this.2 (by decide)
  · rw [if_neg h1, hexR_no h1]
    by_cases h2 : s.headD 0 = 39
    · rw [if_pos h2]
      cases quotL s with
      | some t => rfl
      | none =>
        refine intA_bad (by rw [h2]; decide) (Bool.eq_false_iff.2 fun x => ?_)
        have := allB_head x
        rw [h2] at this
        exact absurd this.1 (by decide)
    · rw [if_neg h2, quot_no h2]
      exact intA_num s
end Go.Proofs.YtmcmagfondjopaaDoor.Pm
end
section
namespace Go.Proofs.YtmcmagfondjopaaDoor.Pm
open Go.RowKit K
set_option linter.unusedVariables false
set_option linter.unusedSimpArgs false
set_option maxRecDepth 100000
def upB (b : UInt8) : Bool := decide (65 ≤ b.toNat ∧ b.toNat ≤ 90)
def smB (b : UInt8) : UInt8 := if upB b then b + 32 else b
def letB (b : UInt8) : Bool := decide (97 ≤ b.toNat ∧ b.toNat ≤ 122 ∨ 65 ≤ b.toNat ∧ b.toNat ≤ 90 ∨ b.toNat = 95)
def digB (b : UInt8) : Bool := decide (48 ≤ b.toNat ∧ b.toNat ≤ 57)
def wB (b : UInt8) : Bool := (letB b || digB b) && decide (smB b = b)
def wordB (l : List UInt8) : Bool := match l with
  | [] => false
  | b :: _ => letB b && l.all wB
theorem smB_up {b : UInt8} (h : upB b = true) : (smB b).toNat = b.toNat + 32 := by
  unfold smB; rw [if_pos h]
  have := of_decide_eq_true h
  rw [UInt8.toNat_add]; show (b.toNat + 32) % 256 = _
  omega
theorem smB_no {b : UInt8} (h : upB b = false) : smB b = b := by unfold smB; rw [if_neg (by rw [h]; decide)]
theorem smB_eq (b : UInt8) : smB b = b ↔ upB b = false := by
  cases h : upB b with
  | false => simp [smB_no h]
  | true =>
    have := smB_up h
    constructor
    · intro e; rw [e] at this; omega
    · intro e; cases e
theorem smB_map (l : List UInt8) : l.map smB = l ↔ ∀ b ∈ l, smB b = b := by
  induction l with
  | nil => simp
  | cons b l ih => simp [ih]
theorem p_small (b : UInt8) : Pure Tryd.prog 74 [pInt .u8 (b.toNat : Int)] (pInt .u8 ((smB b).toNat : Int)) := by
  have hb := u8_lt b
  refine pure_of Tryd.func74 (by rfl) rfl (by kernel_rfl) (by rfl) ?_
  cases h : upB b with
  | true =>
    have h1 := of_decide_eq_true h
    have h2 := smB_up h
    ((conv => whnf); repeat' ((first | (with_reducible first | apply a_ | apply b_ | apply c_) | ((with_reducible first | apply d_ | apply e_ | apply f_ | apply g_); focus first | omega | (simp only [q_] <;> omega)) | ((with_reducible first | apply i_ | apply h_); focus first | omega | (simp only [q_] <;> omega)) | ((with_reducible apply h_); focus first | decide | kernel_rfl) | refine BCase.t (by decide) ?_ | refine BCase.f (by decide) ?_ | with_reducible first | apply l_ | apply m_ | apply n_ | apply o_ | refine p_ (fun _ => ?_) (fun _ => ?_)) <;> (conv => whnf)))
    refine Ret.int ?_
    have e1 := by1_int ((b.toNat : Int) + 97)
    rw [by1_int]
    omega
  | false =>
    have h1 := of_decide_eq_false h
    rw [smB_no h]
    ((conv => whnf); repeat' ((first | (with_reducible first | apply a_ | apply b_ | apply c_) | ((with_reducible first | apply d_ | apply e_ | apply f_ | apply g_); focus first | omega | (simp only [q_] <;> omega)) | ((with_reducible first | apply i_ | apply h_); focus first | omega | (simp only [q_] <;> omega)) | ((with_reducible apply h_); focus first | decide | kernel_rfl) | refine BCase.t (by decide) ?_ | refine BCase.f (by decide) ?_ | with_reducible first | apply l_ | apply m_ | apply n_ | apply o_ | refine p_ (fun _ => ?_) (fun _ => ?_)) <;> (conv => whnf)))
    all_goals exact Ret.int rfl
theorem p_first (b : UInt8) : Pure Tryd.prog 70 [pInt .u8 (b.toNat : Int)] (pBool (letB b)) := by
  have hb := u8_lt b
  refine pure_of Tryd.func70 (by rfl) rfl (by kernel_rfl) (by rfl) ?_
  unfold letB
  have h2 : (upB b = true ∧ (smB b).toNat = b.toNat + 32 ∧ 65 ≤ b.toNat ∧ b.toNat ≤ 90) ∨ (smB b).toNat = b.toNat ∧ ¬ (65 ≤ b.toNat ∧ b.toNat ≤ 90) := by
    cases h : upB b with
    | true => exact .inl ⟨rfl, smB_up h, of_decide_eq_true h⟩
    | false => exact .inr ⟨by rw [smB_no h], of_decide_eq_false h⟩
  ((conv => whnf); repeat' ((first | (with_reducible first | apply a_ | apply b_ | apply c_) | ((with_reducible first | apply d_ | apply e_ | apply f_ | apply g_); focus first | omega | (simp only [q_] <;> omega)) | ((with_reducible first | apply i_ | apply h_); focus first | omega | (simp only [q_] <;> omega)) | ((with_reducible apply h_); focus first | decide | kernel_rfl) | refine BCase.t (by decide) ?_ | refine BCase.f (by decide) ?_ | refine CallP.pure _ rfl _ (p_small b) ?_ | with_reducible first | apply l_ | apply m_ | apply n_ | apply o_ | refine p_ (fun _ => ?_) (fun _ => ?_)) <;> (conv => whnf)))
  all_goals
    refine Ret.bool ?_
    first
      | exact (decide_eq_true (by omega)).symm
      | exact (decide_eq_false (by omega)).symm
      | exact decide_eq_decide.2 (by omega)
theorem p_digit (b : UInt8) : Pure Tryd.prog 83 [pInt .u8 (b.toNat : Int)] (pBool (digB b)) := by
  have hb := u8_lt b
  refine pure_of Tryd.func83 (by rfl) rfl (by kernel_rfl) (by rfl) ?_
  unfold digB
  ((conv => whnf); repeat' ((first | (with_reducible first | apply a_ | apply b_ | apply c_) | ((with_reducible first | apply d_ | apply e_ | apply f_ | apply g_); focus first | omega | (simp only [q_] <;> omega)) | ((with_reducible first | apply i_ | apply h_); focus first | omega | (simp only [q_] <;> omega)) | ((with_reducible apply h_); focus first | decide | kernel_rfl) | refine BCase.t (by decide) ?_ | refine BCase.f (by decide) ?_ | with_reducible first | apply l_ | apply m_ | apply n_ | apply o_ | refine p_ (fun _ => ?_) (fun _ => ?_)) <;> (conv => whnf)))
  all_goals
    refine Ret.bool ?_
    first
      | exact (decide_eq_true (by omega)).symm
      | exact (decide_eq_false (by omega)).symm
      | exact decide_eq_decide.2 (by omega)
theorem p_inner (b : UInt8) : Pure Tryd.prog 73 [pInt .u8 (b.toNat : Int)] (pBool (letB b || digB b)) := by
  refine pure_of Tryd.func73 (by rfl) rfl (by kernel_rfl) (by rfl) ?_
  have pf := p_first b
  cases h : letB b <;> rw [h] at pf
  · ((conv => whnf); repeat' ((first | (with_reducible first | apply a_ | apply b_ | apply c_) | ((with_reducible first | apply d_ | apply e_ | apply f_ | apply g_); focus first | omega | (simp only [q_] <;> omega)) | ((with_reducible first | apply i_ | apply h_); focus first | omega | (simp only [q_] <;> omega)) | ((with_reducible apply h_); focus first | decide | kernel_rfl) | refine BCase.t (by decide) ?_ | refine BCase.f (by decide) ?_ | refine CallP.pure _ rfl _ (pf) ?_ | refine CallP.pure _ rfl _ (p_digit b) ?_ | with_reducible first | apply l_ | apply m_ | apply n_ | apply o_ | refine p_ (fun _ => ?_) (fun _ => ?_)) <;> (conv => whnf)))
    exact Ret.bool rfl
  · ((conv => whnf); repeat' ((first | (with_reducible first | apply a_ | apply b_ | apply c_) | ((with_reducible first | apply d_ | apply e_ | apply f_ | apply g_); focus first | omega | (simp only [q_] <;> omega)) | ((with_reducible first | apply i_ | apply h_); focus first | omega | (simp only [q_] <;> omega)) | ((with_reducible apply h_); focus first | decide | kernel_rfl) | refine BCase.t (by decide) ?_ | refine BCase.f (by decide) ?_ | refine CallP.pure _ rfl _ (pf) ?_ | refine CallP.pure _ rfl _ (p_digit b) ?_ | with_reducible first | apply l_ | apply m_ | apply n_ | apply o_ | refine p_ (fun _ => ?_) (fun _ => ?_)) <;> (conv => whnf)))
    exact Ret.bool rfl
theorem p_isword1 (b : UInt8) : Pure Tryd.prog 72 [pInt .u8 (b.toNat : Int)] (pBool (wB b)) := by
  refine pure_of Tryd.func72 (by rfl) rfl (by kernel_rfl) (by rfl) ?_
  unfold wB
  have pf := p_inner b
  cases h : (letB b || digB b) <;> rw [h] at pf
  · ((conv => whnf); repeat' ((first | (with_reducible first | apply a_ | apply b_ | apply c_) | ((with_reducible first | apply d_ | apply e_ | apply f_ | apply g_); focus first | omega | (simp only [q_] <;> omega)) | ((with_reducible first | apply i_ | apply h_); focus first | omega | (simp only [q_] <;> omega)) | ((with_reducible apply h_); focus first | decide | kernel_rfl) | refine BCase.t (by decide) ?_ | refine BCase.f (by decide) ?_ | refine CallP.pure _ rfl _ (pf) ?_ | with_reducible first | apply l_ | apply m_ | apply n_ | apply o_ | refine p_ (fun _ => ?_) (fun _ => ?_)) <;> (conv => whnf)))
    exact Ret.bool rfl
  · ((conv => whnf); repeat' ((first | (with_reducible first | apply a_ | apply b_ | apply c_) | ((with_reducible first | apply d_ | apply e_ | apply f_ | apply g_); focus first | omega | (simp only [q_] <;> omega)) | ((with_reducible first | apply i_ | apply h_); focus first | omega | (simp only [q_] <;> omega)) | ((with_reducible apply h_); focus first | decide | kernel_rfl) | refine BCase.t (by decide) ?_ | refine BCase.f (by decide) ?_ | refine CallP.pure _ rfl _ (pf) ?_ | refine CallP.pure _ rfl _ (p_small b) ?_ | with_reducible first | apply l_ | apply m_ | apply n_ | apply o_ | refine p_ (fun _ => ?_) (fun _ => ?_)) <;> (conv => whnf)))
    exact Ret.bool (by rw [Bool.true_and]; exact decide_eq_decide.2 u8_eq)
def runTo (p : UInt8 → Bool) (l : List UInt8) (k : Nat) : Nat := k + ((l.drop k).takeWhile p).length
theorem runTo_end {p : UInt8 → Bool} {l : List UInt8} {k : Nat} (h : l.length ≤ k) : runTo p l k = k := by unfold runTo; rw [List.drop_of_length_le h]; rfl
theorem runTo_step {p : UInt8 → Bool} {l : List UInt8} {k : Nat} (h : k < l.length) (hp : p (l.getD k 0) = true) : runTo p l k = runTo p l (k + 1) := by
  have e : l.getD k 0 = l[k] := by rw [List.getD_eq_getElem?_getD, List.getElem?_eq_getElem h]; rfl
  rw [e] at hp
  unfold runTo
  rw [List.drop_eq_getElem_cons h, List.takeWhile_cons, if_pos hp, List.length_cons]; omega
theorem runTo_stop {p : UInt8 → Bool} {l : List UInt8} {k : Nat} (h : k < l.length) (hp : p (l.getD k 0) = false) : runTo p l k = k := by
  have e : l.getD k 0 = l[k] := by rw [List.getD_eq_getElem?_getD, List.getElem?_eq_getElem h]; rfl
  rw [e] at hp
  unfold runTo
  rw [List.drop_eq_getElem_cons h, List.takeWhile_cons, if_neg (by rw [hp]; decide)]; rfl
theorem runTo_le {p : UInt8 → Bool} {l : List UInt8} {k : Nat} (h : k ≤ l.length) : runTo p l k ≤ l.length := by
  unfold runTo
  have : ((l.drop k).takeWhile p).length ≤ (l.drop k).length := (List.takeWhile_sublist p).length_le
  rw [List.length_drop] at this; omega
theorem takeWhile_all {p : UInt8 → Bool} : ∀ l : List UInt8, (l.takeWhile p).length = l.length ↔ l.all p = true
  | [] => by simp
  | b :: l => by
    rw [List.takeWhile_cons, List.all_cons]
    cases h : p b with
    | true => simp [takeWhile_all l]
    | false => simp
abbrev fnV (f : FuncId) : PV := .d (.c (.v (.func (.func f) #[] #[])))
theorem p_run (f : FuncId) (p : UInt8 → Bool) (hp : ∀ b : UInt8, Pure Tryd.prog f [pInt .u8 (b.toNat : Int)] (pBool (p b))) (l : List UInt8) (hl : okText l) (at_ : Nat) (ha : at_ ≤ l.length) :
    Pure Tryd.prog 71 [pStr (tx l), pInt .i64 at_, fnV f] (pInt .i64 (runTo p l at_)) := by
  have tz := tx_size l
  unfold okText at hl
  refine pure_of Tryd.func71 (by rfl) rfl (by kernel_rfl) (by rfl) ?_
  (((conv => whnf); repeat ((with_reducible first | refine BCase.tt ?_ | refine BCase.ff ?_); (conv => whnf))); repeat ((first | with_reducible refine Wr.u8 ?_ | ((with_reducible first | refine Wr.ci ?wxs ?_ | refine Wr.c3 ?wxs ?_ | refine Wr.c6 ?wxs ?_ | refine BCase.dt ?wxs ?_); case wxs => (first | omega | (simp only [lens, true_and, and_true]; (try omega); done))) | ((with_reducible refine BCase.df ?wxs ?_); case wxs => (first | omega | (simp only [lens, true_and, and_true]; (try omega); done))) | ((with_reducible refine Need.mk ?wxs ?_); case wxs => first | (first | omega | (simp only [lens, true_and, and_true]; (try omega); done)) | decide | kernel_rfl) | refine BCase.t (by decide) ?_ | refine BCase.f (by decide) ?_ | with_reducible (first | refine BCase.not ?_ | refine BCase.and ?_ | refine BCase.or ?_)); ((conv => whnf); repeat ((with_reducible first | refine BCase.tt ?_ | refine BCase.ff ?_); (conv => whnf)))))
  refine LoopC.mk Nat (fun k => [(0, pStr (tx l)), (1, pInt .i64 k), (2, fnV f)]) (fun _ => []) [] (fun k => k ≤ l.length ∧ runTo p l at_ = runTo p l k) (fun k => l.length - k) at_ ⟨ha, rfl⟩ ?start ?round
  case start => exact ⟨[], rfl, rfl, ⟨.inl rfl, .inl rfl, .inl rfl, trivial⟩, trivial⟩
  case round =>
    rintro k ⟨hk, hz⟩
    by_cases h1 : k < l.length
    · have pk := hp (l.getD k 0)
      cases hx : p (l.getD k 0) with
      | true =>
        rw [hx] at pk
        ((conv => whnf); repeat' ((first | (with_reducible first | apply a_ | apply b_ | apply c_) | ((with_reducible first | apply d_ | apply e_ | apply f_ | apply g_); focus first | omega | (simp only [q_] <;> omega)) | ((with_reducible first | apply i_ | apply h_); focus first | omega | (simp only [q_] <;> omega)) | ((with_reducible apply h_); focus first | decide | kernel_rfl) | refine BCase.t (by decide) ?_ | refine BCase.f (by decide) ?_ | (refine SIdx.tx k rfl h1 ?_) | refine CallP.pure _ rfl _ (pk) ?_ | with_reducible first | apply l_ | apply m_ | apply n_ | apply o_ | refine p_ (fun _ => ?_) (fun _ => ?_)) <;> (conv => whnf)))
        exact ⟨k + 1, ⟨by omega, hz.trans (runTo_step h1 hx)⟩, by omega, [], rfl, rfl, ⟨.inl rfl, PLe.int (by omega), .inl rfl, trivial⟩, trivial⟩
      | false =>
        rw [hx] at pk
        ((conv => whnf); repeat' ((first | (with_reducible first | apply a_ | apply b_ | apply c_) | ((with_reducible first | apply d_ | apply e_ | apply f_ | apply g_); focus first | omega | (simp only [q_] <;> omega)) | ((with_reducible first | apply i_ | apply h_); focus first | omega | (simp only [q_] <;> omega)) | ((with_reducible apply h_); focus first | decide | kernel_rfl) | refine BCase.t (by decide) ?_ | refine BCase.f (by decide) ?_ | (refine SIdx.tx k rfl h1 ?_) | refine CallP.pure _ rfl _ (pk) ?_ | with_reducible first | apply l_ | apply m_ | apply n_ | apply o_ | refine p_ (fun _ => ?_) (fun _ => ?_)) <;> (conv => whnf)))
        exact Ret.int (by rw [hz, runTo_stop h1 hx])
    · ((conv => whnf); repeat' ((first | (with_reducible first | apply a_ | apply b_ | apply c_) | ((with_reducible first | apply d_ | apply e_ | apply f_ | apply g_); focus first | omega | (simp only [q_] <;> omega)) | ((with_reducible first | apply i_ | apply h_); focus first | omega | (simp only [q_] <;> omega)) | ((with_reducible apply h_); focus first | decide | kernel_rfl) | refine BCase.t (by decide) ?_ | refine BCase.f (by decide) ?_ | with_reducible first | apply l_ | apply m_ | apply n_ | apply o_ | refine p_ (fun _ => ?_) (fun _ => ?_)) <;> (conv => whnf)))
      exact Ret.int (by rw [hz, runTo_end (by omega)])
theorem p_isword (l : List UInt8) (hl : okText l) : Pure Tryd.prog 61 [pStr (tx l)] (pBool (wordB l)) := by
  refine pure_of Tryd.func61 (by rfl) rfl (by kernel_rfl) (by rfl) ?_
  cases l with
  | nil =>
    ((conv => whnf); repeat' ((first | (with_reducible first | apply a_ | apply b_ | apply c_) | ((with_reducible first | apply d_ | apply e_ | apply f_ | apply g_); focus first | omega | (simp only [q_] <;> omega)) | ((with_reducible first | apply i_ | apply h_); focus first | omega | (simp only [q_] <;> omega)) | ((with_reducible apply h_); focus first | decide | kernel_rfl) | refine BCase.t (by decide) ?_ | refine BCase.f (by decide) ?_ | with_reducible first | apply l_ | apply m_ | apply n_ | apply o_ | refine p_ (fun _ => ?_) (fun _ => ?_)) <;> (conv => whnf)))
    exact Ret.bool rfl
  | cons b l =>
    have h1 : tx (b :: l) ≠ ⟨#[]⟩ := fun e => by have := tx_empty.1 e; cases this
    have pf := p_first b
    have tz := tx_size (b :: l)
    cases hf : letB b with
    | false =>
      rw [hf] at pf
      ((conv => whnf); repeat' ((first | (with_reducible first | apply a_ | apply b_ | apply c_) | ((with_reducible first | apply d_ | apply e_ | apply f_ | apply g_); focus first | omega | (simp only [q_] <;> omega)) | ((with_reducible first | apply i_ | apply h_); focus first | omega | (simp only [q_] <;> omega)) | ((with_reducible apply h_); focus first | decide | kernel_rfl) | refine BCase.t (by decide) ?_ | refine BCase.f (by decide) ?_ | (refine BCase.dt h1 ?_) | (refine SIdx.tx (l := b :: l) 0 rfl (by simp) ?_) | refine CallP.pure _ rfl _ (pf) ?_ | with_reducible first | apply l_ | apply m_ | apply n_ | apply o_ | refine p_ (fun _ => ?_) (fun _ => ?_)) <;> (conv => whnf)))
      exact Ret.bool (by show false = (letB b && (b :: l).all wB); rw [hf]; rfl)
    | true =>
      rw [hf] at pf
      ((conv => whnf); repeat' ((first | (with_reducible first | apply a_ | apply b_ | apply c_) | ((with_reducible first | apply d_ | apply e_ | apply f_ | apply g_); focus first | omega | (simp only [q_] <;> omega)) | ((with_reducible first | apply i_ | apply h_); focus first | omega | (simp only [q_] <;> omega)) | ((with_reducible apply h_); focus first | decide | kernel_rfl) | refine BCase.t (by decide) ?_ | refine BCase.f (by decide) ?_ | (refine BCase.dt h1 ?_) | (refine SIdx.tx (l := b :: l) 0 rfl (by simp) ?_) | refine CallP.pure _ rfl _ (pf) ?_ | refine CallP.pure _ rfl _ (p_run _ wB p_isword1 (b :: l) hl 0 (Nat.zero_le _)) ?_ | with_reducible first | apply l_ | apply m_ | apply n_ | apply o_ | refine p_ (fun _ => ?_) (fun _ => ?_)) <;> (conv => whnf)))
      refine Ret.bool ?_
      show decide _ = (letB b && (b :: l).all wB)
      rw [hf, Bool.true_and, Bool.eq_iff_iff, decide_eq_true_eq, ← takeWhile_all]
      unfold runTo
      rw [List.drop_zero, tz]
      omega
def resWords : List (List UInt8) := [[97, 110, 100], [97, 110, 121], [97, 115], [97, 115, 99], [98, 101, 103, 105, 110], [98, 101, 116, 119, 101, 101, 110], [98, 108, 111, 98], [98, 121], [99, 111, 109, 109, 105, 116], [99, 111, 117, 110, 116], [99, 114, 101, 97, 116, 101], [100, 101, 108, 101, 116, 101], [100, 101, 115, 99], [100, 105, 115, 116, 105, 110, 99, 116], [100, 114, 111, 112], [102, 114, 111, 109], [103, 114, 111, 117, 112], [105, 110], [105, 110, 115, 101, 114, 116], [105, 110, 116, 101, 103, 101, 114], [105, 110, 116, 111], [105, 115], [108, 105, 107, 101], [108, 105, 109, 105, 116], [109, 97, 120], [109, 105, 110], [110, 111, 116], [110, 117, 108, 108], [111, 102, 102, 115, 101, 116], [111, 114], [111, 114, 100, 101, 114], [114, 111, 108, 108, 98, 97, 99, 107], [115, 101, 108, 101, 99, 116], [115, 101, 116], [115, 117, 109], [116, 97, 98, 108, 101], [116, 101, 120, 116], [117, 110, 105, 113, 117, 101], [117, 112, 100, 97, 116, 101], [118, 97, 108, 117, 101, 115], [119, 104, 101, 114, 101]]
def allWords : List UInt8 := [32, 97, 110, 100, 32, 97, 110, 121, 32, 97, 115, 32, 97, 115, 99, 32, 98, 101, 103, 105, 110, 32, 98, 101, 116, 119, 101, 101, 110, 32, 98, 108, 111, 98, 32, 98, 121, 32, 99, 111, 109, 109, 105, 116, 32, 99, 111, 117, 110, 116, 32, 99, 114, 101, 97, 116, 101, 32, 100, 101, 108, 101, 116, 101, 32, 100, 101, 115, 99, 32, 100, 105, 115, 116, 105, 110, 99, 116, 32, 100, 114, 111, 112, 32, 102, 114, 111, 109, 32, 103, 114, 111, 117, 112, 32, 105, 110, 32, 105, 110, 115, 101, 114, 116, 32, 105, 110, 116, 101, 103, 101, 114, 32, 105, 110, 116, 111, 32, 105, 115, 32, 108, 105, 107, 101, 32, 108, 105, 109, 105, 116, 32, 109, 97, 120, 32, 109, 105, 110, 32, 110, 111, 116, 32, 110, 117, 108, 108, 32, 111, 102, 102, 115, 101, 116, 32, 111, 114, 32, 111, 114, 100, 101, 114, 32, 114, 111, 108, 108, 98, 97, 99, 107, 32, 115, 101, 108, 101, 99, 116, 32, 115, 101, 116, 32, 115, 117, 109, 32, 116, 97, 98, 108, 101, 32, 116, 101, 120, 116, 32, 117, 110, 105, 113, 117, 101, 32, 117, 112, 100, 97, 116, 101, 32, 118, 97, 108, 117, 101, 115, 32, 119, 104, 101, 114, 101, 32]
def resB (l : List UInt8) : Bool := resWords.any fun w => decide (l = w)
def nameB (l : List UInt8) : Bool := wordB l && (decide (l.length ≤ 12) && !resB l)
def spanW (i : Nat) : List UInt8 := (allWords.drop (i + 1)).takeWhile fun b => decide (b ≠ 32)
theorem allWords_len : allWords.length = 227 := by decide +kernel
theorem spans_ok : ((List.range 227).all fun i => decide (spanW i = []) || !decide (allWords.getD i 0 = 32) || resB (spanW i)) = true := by decide +kernel
theorem words_there : (resWords.all fun w => (List.range 227).any fun i => decide (i + w.length + 2 ≤ 227) && decide ((allWords.drop i).take (w.length + 2) = 32 :: (w ++ [32]))) = true := by decide +kernel
theorem words_words : (resWords.all fun w => wordB w) = true := by decide +kernel
theorem wordB_space {l : List UInt8} (h : wordB l = true) : l ≠ [] ∧ ∀ b ∈ l, b ≠ 32 := by
  cases l with
  | nil => cases h
  | cons b l =>
    refine ⟨by simp, ?_⟩
    have h1 : (letB b && (b :: l).all wB) = true := h
    rw [Bool.and_eq_true, List.all_eq_true] at h1
    intro x hx e
    have := h1.2 x hx
    subst e
    revert this
    decide
theorem takeWhile_stop {p : UInt8 → Bool} : ∀ {l : List UInt8} {r : List UInt8} {c : UInt8}, (∀ b ∈ l, p b = true) → p c = false → (l ++ c :: r).takeWhile p = l
  | [], r, c, _, h => by rw [List.nil_append, List.takeWhile_cons, if_neg (by rw [h]; decide)]
  | b :: l, r, c, h, hc => by
    rw [List.cons_append, List.takeWhile_cons, if_pos (h b (List.mem_cons_self ..)), takeWhile_stop (fun x hx => h x (List.mem_cons_of_mem _ hx)) hc]
theorem seg_res {l : List UInt8} {i : Nat} (hw : wordB l = true) (h : (allWords.drop i).take (l.length + 2) = 32 :: (l ++ [32])) (hi : i + l.length + 2 ≤ 227) : resB l = true := by
  obtain ⟨h1, h2⟩ := wordB_space hw
  have hd : allWords.drop i = 32 :: (l ++ 32 :: (allWords.drop i).drop (l.length + 2)) := by
    have e : allWords.drop i = (allWords.drop i).take (l.length + 2) ++ (allWords.drop i).drop (l.length + 2) := (List.take_append_drop _ _).symm
    rw [h] at e
    conv => lhs; rw [e]
    simp
  have hsp : spanW i = l := by
    unfold spanW
    rw [← List.drop_drop, hd, List.drop_succ_cons, List.drop_zero]
    exact takeWhile_stop (fun b hb => decide_eq_true (h2 b hb)) (by decide)
  have hg : allWords.getD i 0 = 32 := by
    have e : (allWords.drop i)[0]? = some 32 := by rw [hd]; rfl
    rw [List.getElem?_drop, Nat.add_zero] at e
    rw [List.getD_eq_getElem?_getD, e]; rfl
  have := List.all_eq_true.1 spans_ok i (List.mem_range.2 (by omega))
  rw [hsp, hg] at this
  simpa [h1] using this
theorem res_seg {l : List UInt8} (h : resB l = true) : wordB l = true ∧ ∃ i, i + l.length + 2 ≤ 227 ∧ (allWords.drop i).take (l.length + 2) = 32 :: (l ++ [32]) := by
  obtain ⟨w, hw, he⟩ := List.any_eq_true.1 h
  obtain rfl := of_decide_eq_true he
  refine ⟨List.all_eq_true.1 words_words l hw, ?_⟩
  have := List.all_eq_true.1 words_there l hw
  obtain ⟨i, _, hi⟩ := List.any_eq_true.1 this
  rw [Bool.and_eq_true] at hi
  exact ⟨i, of_decide_eq_true hi.1, of_decide_eq_true hi.2⟩
theorem tx_mk {l m : List UInt8} : tx l = ⟨List.toArray m⟩ ↔ l = m := ⟨fun h => tx_inj h, fun h => by rw [h]; rfl⟩
theorem p_reserved (l : List UInt8) : Pure Tryd.prog 62 [pStr (tx l)] (pBool (resB l)) := by
  refine pure_of Tryd.func62 (by rfl) rfl (by kernel_rfl) (by rfl) ?_
  ((conv => whnf); repeat' ((first | (with_reducible first | apply a_ | apply b_ | apply c_) | ((with_reducible first | apply d_ | apply e_ | apply f_ | apply g_); focus first | omega | (simp only [q_] <;> omega)) | ((with_reducible first | apply i_ | apply h_); focus first | omega | (simp only [q_] <;> omega)) | ((with_reducible apply h_); focus first | decide | kernel_rfl) | refine BCase.t (by decide) ?_ | refine BCase.f (by decide) ?_ | with_reducible first | apply l_ | apply m_ | apply n_ | apply o_ | refine p_ (fun _ => ?_) (fun _ => ?_)) <;> (conv => whnf)))
  all_goals
    refine Ret.bool ?_
    simp only [tx_mk] at *
    simp [resB, resWords, *]
theorem p_isname (l : List UInt8) (hl : okText l) : Pure Tryd.prog 47 [pStr (tx l)] (pBool (nameB l)) := by
  have tz := tx_size l
  have pw := p_isword l hl
  have pr := p_reserved l
  refine pure_of Tryd.func47 (by rfl) rfl (by kernel_rfl) (by rfl) ?_
  unfold nameB
  cases hw : wordB l with
  | false =>
    rw [hw] at pw
    ((conv => whnf); repeat' ((first | (with_reducible first | apply a_ | apply b_ | apply c_) | ((with_reducible first | apply d_ | apply e_ | apply f_ | apply g_); focus first | omega | (simp only [q_] <;> omega)) | ((with_reducible first | apply i_ | apply h_); focus first | omega | (simp only [q_] <;> omega)) | ((with_reducible apply h_); focus first | decide | kernel_rfl) | refine BCase.t (by decide) ?_ | refine BCase.f (by decide) ?_ | refine CallP.pure _ rfl _ (pw) ?_ | with_reducible first | apply l_ | apply m_ | apply n_ | apply o_ | refine p_ (fun _ => ?_) (fun _ => ?_)) <;> (conv => whnf)))
    exact Ret.bool rfl
  | true =>
    rw [hw] at pw
    by_cases h : l.length ≤ 12
    · ((conv => whnf); repeat' ((first | (with_reducible first | apply a_ | apply b_ | apply c_) | ((with_reducible first | apply d_ | apply e_ | apply f_ | apply g_); focus first | omega | (simp only [q_] <;> omega)) | ((with_reducible first | apply i_ | apply h_); focus first | omega | (simp only [q_] <;> omega)) | ((with_reducible apply h_); focus first | decide | kernel_rfl) | refine BCase.t (by decide) ?_ | refine BCase.f (by decide) ?_ | refine CallP.pure _ rfl _ (pw) ?_ | refine CallP.pure _ rfl _ (pr) ?_ | with_reducible first | apply l_ | apply m_ | apply n_ | apply o_ | refine p_ (fun _ => ?_) (fun _ => ?_)) <;> (conv => whnf)))
      exact Ret.bool (by simp [h])
    · ((conv => whnf); repeat' ((first | (with_reducible first | apply a_ | apply b_ | apply c_) | ((with_reducible first | apply d_ | apply e_ | apply f_ | apply g_); focus first | omega | (simp only [q_] <;> omega)) | ((with_reducible first | apply i_ | apply h_); focus first | omega | (simp only [q_] <;> omega)) | ((with_reducible apply h_); focus first | decide | kernel_rfl) | refine BCase.t (by decide) ?_ | refine BCase.f (by decide) ?_ | refine CallP.pure _ rfl _ (pw) ?_ | refine CallP.pure _ rfl _ (pr) ?_ | with_reducible first | apply l_ | apply m_ | apply n_ | apply o_ | refine p_ (fun _ => ?_) (fun _ => ?_)) <;> (conv => whnf)))
      exact Ret.bool (by simp [h])
theorem p_in (l : List UInt8) (hl : okText l) (k : Nat) (lo hi : Int) : Pure Tryd.prog 75 [pStr (tx l), pInt .i64 k, pInt .i64 lo, pInt .i64 hi] (pBool (decide (k < l.length ∧ lo ≤ (l.getD k 0).toNat ∧ ((l.getD k 0).toNat : Int) ≤ hi))) := by
  have tz := tx_size l
  have hb := u8_lt (l.getD k 0)
  unfold okText at hl
  refine pure_of Tryd.func75 (by rfl) rfl (by kernel_rfl) (by rfl) ?_
  by_cases h : k < l.length
  · ((conv => whnf); repeat' ((first | (with_reducible first | apply a_ | apply b_ | apply c_) | ((with_reducible first | apply d_ | apply e_ | apply f_ | apply g_); focus first | omega | (simp only [q_] <;> omega)) | ((with_reducible first | apply i_ | apply h_); focus first | omega | (simp only [q_] <;> omega)) | ((with_reducible apply h_); focus first | decide | kernel_rfl) | refine BCase.t (by decide) ?_ | refine BCase.f (by decide) ?_ | (refine SIdx.tx k rfl h ?_) | with_reducible first | apply l_ | apply m_ | apply n_ | apply o_ | refine p_ (fun _ => ?_) (fun _ => ?_)) <;> (conv => whnf)))
    all_goals
      refine Ret.bool ?_
      first
        | exact (decide_eq_true (by omega)).symm
        | exact (decide_eq_false (by omega)).symm
        | exact decide_eq_decide.2 (by omega)
  · ((conv => whnf); repeat' ((first | (with_reducible first | apply a_ | apply b_ | apply c_) | ((with_reducible first | apply d_ | apply e_ | apply f_ | apply g_); focus first | omega | (simp only [q_] <;> omega)) | ((with_reducible first | apply i_ | apply h_); focus first | omega | (simp only [q_] <;> omega)) | ((with_reducible apply h_); focus first | decide | kernel_rfl) | refine BCase.t (by decide) ?_ | refine BCase.f (by decide) ?_ | with_reducible first | apply l_ | apply m_ | apply n_ | apply o_ | refine p_ (fun _ => ?_) (fun _ => ?_)) <;> (conv => whnf)))
    exact Ret.bool (decide_eq_false (by omega)).symm
def inB (l : List UInt8) (k : Nat) (p : UInt8 → Bool) : Bool := decide (k < l.length) && p (l.getD k 0)
theorem p_isletter (l : List UInt8) (hl : okText l) (k : Nat) : Pure Tryd.prog 64 [pStr (tx l), pInt .i64 k] (pBool (inB l k letB)) := by
  refine pure_of Tryd.func64 (by rfl) rfl (by kernel_rfl) (by rfl) ?_
  unfold inB letB
  ((conv => whnf); repeat' ((first | (with_reducible first | apply a_ | apply b_ | apply c_) | ((with_reducible first | apply d_ | apply e_ | apply f_ | apply g_); focus first | omega | (simp only [q_] <;> omega)) | ((with_reducible first | apply i_ | apply h_); focus first | omega | (simp only [q_] <;> omega)) | ((with_reducible apply h_); focus first | decide | kernel_rfl) | refine BCase.t (by decide) ?_ | refine BCase.f (by decide) ?_ | refine CallP.pure _ rfl _ (p_in l hl k 97 122) ?_ | refine CallP.pure _ rfl _ (p_in l hl k 65 90) ?_ | refine CallP.pure _ rfl _ (p_in l hl k 95 95) ?_ | with_reducible first | apply l_ | apply m_ | apply n_ | apply o_ | refine p_ (fun _ => ?_) (fun _ => ?_)) <;> (conv => whnf)))
  all_goals
    refine Ret.bool ?_
    rw [← Bool.decide_and]
    first
      | exact (decide_eq_true (by omega)).symm
      | exact (decide_eq_false (by omega)).symm
      | exact decide_eq_decide.2 (by omega)
theorem p_isdigit (l : List UInt8) (hl : okText l) (k : Nat) : Pure Tryd.prog 65 [pStr (tx l), pInt .i64 k] (pBool (inB l k digB)) := by
  refine pure_of Tryd.func65 (by rfl) rfl (by kernel_rfl) (by rfl) ?_
  unfold inB digB
  ((conv => whnf); repeat' ((first | (with_reducible first | apply a_ | apply b_ | apply c_) | ((with_reducible first | apply d_ | apply e_ | apply f_ | apply g_); focus first | omega | (simp only [q_] <;> omega)) | ((with_reducible first | apply i_ | apply h_); focus first | omega | (simp only [q_] <;> omega)) | ((with_reducible apply h_); focus first | decide | kernel_rfl) | refine BCase.t (by decide) ?_ | refine BCase.f (by decide) ?_ | refine CallP.pure _ rfl _ (p_in l hl k 48 57) ?_ | with_reducible first | apply l_ | apply m_ | apply n_ | apply o_ | refine p_ (fun _ => ?_) (fun _ => ?_)) <;> (conv => whnf)))
  all_goals
    refine Ret.bool ?_
    rw [← Bool.decide_and]
    first
      | exact (decide_eq_true (by omega)).symm
      | exact (decide_eq_false (by omega)).symm
      | exact decide_eq_decide.2 (by omega)
theorem p_onebyteN (n : Int) : Pure Tryd.prog 76 [pInt .i64 n] (pStr (tx [by1 n])) := by
  refine pure_of Tryd.func76 (by rfl) rfl (by kernel_rfl) (by rfl) ?_
  ((conv => whnf); repeat' ((first | (with_reducible first | apply a_ | apply b_ | apply c_) | ((with_reducible first | apply d_ | apply e_ | apply f_ | apply g_); focus first | omega | (simp only [q_] <;> omega)) | ((with_reducible first | apply i_ | apply h_); focus first | omega | (simp only [q_] <;> omega)) | ((with_reducible apply h_); focus first | decide | kernel_rfl) | refine BCase.t (by decide) ?_ | refine BCase.f (by decide) ?_ | with_reducible first | apply l_ | apply m_ | apply n_ | apply o_ | refine p_ (fun _ => ?_) (fun _ => ?_)) <;> (conv => whnf)))
  refine Bytes.of (l := [by1 n]) rfl ?_
  ((conv => whnf); repeat' ((first | (with_reducible first | apply a_ | apply b_ | apply c_) | ((with_reducible first | apply d_ | apply e_ | apply f_ | apply g_); focus first | omega | (simp only [q_] <;> omega)) | ((with_reducible first | apply i_ | apply h_); focus first | omega | (simp only [q_] <;> omega)) | ((with_reducible apply h_); focus first | decide | kernel_rfl) | refine BCase.t (by decide) ?_ | refine BCase.f (by decide) ?_ | with_reducible first | apply l_ | apply m_ | apply n_ | apply o_ | refine p_ (fun _ => ?_) (fun _ => ?_)) <;> (conv => whnf)))
  exact Ret.mk rfl
theorem p_smallof (l : List UInt8) (hl : okText l) : Pure Tryd.prog 66 [pStr (tx l)] (pStr (tx (l.map smB))) := by
  have tz := tx_size l
  have hl' := hl
  unfold okText at hl'
  refine pure_of Tryd.func66 (by rfl) rfl (by kernel_rfl) (by rfl) ?_
  (((conv => whnf); repeat ((with_reducible first | refine BCase.tt ?_ | refine BCase.ff ?_); (conv => whnf))); repeat ((first | with_reducible refine Wr.u8 ?_ | ((with_reducible first | refine Wr.ci ?wxs ?_ | refine Wr.c3 ?wxs ?_ | refine Wr.c6 ?wxs ?_ | refine BCase.dt ?wxs ?_); case wxs => (first | omega | (simp only [lens, true_and, and_true]; (try omega); done))) | ((with_reducible refine BCase.df ?wxs ?_); case wxs => (first | omega | (simp only [lens, true_and, and_true]; (try omega); done))) | ((with_reducible refine Need.mk ?wxs ?_); case wxs => first | (first | omega | (simp only [lens, true_and, and_true]; (try omega); done)) | decide | kernel_rfl) | refine BCase.t (by decide) ?_ | refine BCase.f (by decide) ?_ | with_reducible (first | refine BCase.not ?_ | refine BCase.and ?_ | refine BCase.or ?_)); ((conv => whnf); repeat ((with_reducible first | refine BCase.tt ?_ | refine BCase.ff ?_); (conv => whnf)))))
  refine LoopC.mk Nat (fun k => [(0, pStr (tx l)), (3, pStr (tx ((l.take k).map smB))), (4, pInt .i64 k)]) (fun _ => []) [] (fun k => k ≤ l.length) (fun k => l.length - k) 0 (Nat.zero_le _) ?start ?round
  case start => exact ⟨[], rfl, rfl, ⟨.inl rfl, .inl rfl, .inl rfl, trivial⟩, trivial⟩
  case round =>
    intro k hk
    have tk : (tx ((l.take k).map smB)).size = k := by rw [tx_size, List.length_map, List.length_take]; omega
    by_cases h1 : k < l.length
    · have hb := u8_lt (l.getD k 0)
      have e : l.getD k 0 = l[k] := by rw [List.getD_eq_getElem?_getD, List.getElem?_eq_getElem h1]; rfl
      have hx : (tx l).extract (k : Int).toNat ((k : Int) + 1).toNat = tx [l.getD k 0] := by
        rw [extract_tx, show ((k : Int) + 1).toNat - (k : Int).toNat = 1 by omega, Int.toNat_natCast, List.drop_eq_getElem_cons h1, e]; rfl
      have hxs : ((tx l).extract (k : Int).toNat ((k : Int) + 1).toNat).size = 1 := by rw [hx]; rfl
      have hst : (l.take (k + 1)).map smB = (l.take k).map smB ++ [smB (l.getD k 0)] := by rw [take_snoc h1, List.map_append, e]; rfl
      cases hu : upB (l.getD k 0) with
      | true =>
        have hv := of_decide_eq_true hu
        have h2 := smB_up hu
        ((conv => whnf); repeat' ((first | (with_reducible first | apply a_ | apply b_ | apply c_) | ((with_reducible first | apply d_ | apply e_ | apply f_ | apply g_); focus first | omega | (simp only [q_] <;> omega)) | ((with_reducible first | apply i_ | apply h_); focus first | omega | (simp only [q_] <;> omega)) | ((with_reducible apply h_); focus first | decide | kernel_rfl) | refine BCase.t (by decide) ?_ | refine BCase.f (by decide) ?_ | refine CallP.pure _ rfl _ (p_in l hl k 65 90) ?_ | (refine SIdx.tx k rfl h1 ?_) | refine CallP.pure _ rfl _ (p_onebyteN _) ?_ | with_reducible first | apply l_ | apply m_ | apply n_ | apply o_ | refine p_ (fun _ => ?_) (fun _ => ?_)) <;> (conv => whnf)))
        refine ⟨k + 1, by omega, by omega, [], rfl, rfl, ⟨.inl rfl, PLe.text ?_, PLe.int (by omega), trivial⟩, trivial⟩
        rw [tx_append, hst, show by1 (((l.getD k 0).toNat : Int) + 32) = smB (l.getD k 0) from u8_eq.1 (by rw [by1_int]; omega)]
      | false =>
        have hv := of_decide_eq_false hu
        ((conv => whnf); repeat' ((first | (with_reducible first | apply a_ | apply b_ | apply c_) | ((with_reducible first | apply d_ | apply e_ | apply f_ | apply g_); focus first | omega | (simp only [q_] <;> omega)) | ((with_reducible first | apply i_ | apply h_); focus first | omega | (simp only [q_] <;> omega)) | ((with_reducible apply h_); focus first | decide | kernel_rfl) | refine BCase.t (by decide) ?_ | refine BCase.f (by decide) ?_ | refine CallP.pure _ rfl _ (p_in l hl k 65 90) ?_ | with_reducible first | apply l_ | apply m_ | apply n_ | apply o_ | refine p_ (fun _ => ?_) (fun _ => ?_)) <;> (conv => whnf)))
        refine ⟨k + 1, by omega, by omega, [], rfl, rfl, ⟨.inl rfl, PLe.text ?_, PLe.int (by omega), trivial⟩, trivial⟩
        rw [hx, tx_append, hst, smB_no hu]
    · obtain rfl : k = l.length := by omega
      ((conv => whnf); repeat' ((first | (with_reducible first | apply a_ | apply b_ | apply c_) | ((with_reducible first | apply d_ | apply e_ | apply f_ | apply g_); focus first | omega | (simp only [q_] <;> omega)) | ((with_reducible first | apply i_ | apply h_); focus first | omega | (simp only [q_] <;> omega)) | ((with_reducible apply h_); focus first | decide | kernel_rfl) | refine BCase.t (by decide) ?_ | refine BCase.f (by decide) ?_ | with_reducible first | apply l_ | apply m_ | apply n_ | apply o_ | refine p_ (fun _ => ?_) (fun _ => ?_)) <;> (conv => whnf)))
      exact Ret.text (by rw [List.take_length])
theorem p_iswordref (l : List UInt8) (hl : okText l) : Pure Tryd.prog 56 [pStr (tx l)] (pBool (wordB l)) := by
  have tz := tx_size l
  have hl' := hl
  unfold okText at hl'
  refine pure_of Tryd.func56 (by rfl) rfl (by kernel_rfl) (by rfl) ?_
  (((conv => whnf); repeat ((with_reducible first | refine BCase.tt ?_ | refine BCase.ff ?_); (conv => whnf))); repeat ((first | with_reducible refine Wr.u8 ?_ | ((with_reducible first | refine Wr.ci ?wxs ?_ | refine Wr.c3 ?wxs ?_ | refine Wr.c6 ?wxs ?_ | refine BCase.dt ?wxs ?_); case wxs => (first | omega | (simp only [lens, true_and, and_true]; (try omega); done))) | ((with_reducible refine BCase.df ?wxs ?_); case wxs => (first | omega | (simp only [lens, true_and, and_true]; (try omega); done))) | ((with_reducible refine Need.mk ?wxs ?_); case wxs => first | (first | omega | (simp only [lens, true_and, and_true]; (try omega); done)) | decide | kernel_rfl) | refine BCase.t (by decide) ?_ | refine BCase.f (by decide) ?_ | with_reducible (first | refine BCase.not ?_ | refine BCase.and ?_ | refine BCase.or ?_)); ((conv => whnf); repeat ((with_reducible first | refine BCase.tt ?_ | refine BCase.ff ?_); (conv => whnf)))))
  refine LoopC.mk Nat (fun k => [(0, pStr (tx l)), (3, pInt .i64 k)]) (fun _ => []) [] (fun k => k ≤ l.length ∧ ∀ j, j < k → (letB (l.getD j 0) || digB (l.getD j 0)) = true) (fun k => l.length - k) 0 ⟨Nat.zero_le _, fun j hj => absurd hj (Nat.not_lt_zero _)⟩ ?start ?round
  case start => exact ⟨[], rfl, rfl, ⟨.inl rfl, .inl rfl, trivial⟩, trivial⟩
  case round =>
    rintro k ⟨hk, hz⟩
    by_cases h1 : k < l.length
    · have pl := p_isletter l hl k
      have pd := p_isdigit l hl k
      rw [show inB l k letB = letB (l.getD k 0) by unfold inB; rw [decide_eq_true h1]; rfl] at pl
      rw [show inB l k digB = digB (l.getD k 0) by unfold inB; rw [decide_eq_true h1]; rfl] at pd
      have next : (letB (l.getD k 0) || digB (l.getD k 0)) = true → ∀ j, j < k + 1 → (letB (l.getD j 0) || digB (l.getD j 0)) = true := by
        intro h j hj
        by_cases hjk : j = k
        · rw [hjk]; exact h
        · exact hz j (by omega)
      cases ha : letB (l.getD k 0) with
      | true =>
        rw [ha] at pl
        ((conv => whnf); repeat' ((first | (with_reducible first | apply a_ | apply b_ | apply c_) | ((with_reducible first | apply d_ | apply e_ | apply f_ | apply g_); focus first | omega | (simp only [q_] <;> omega)) | ((with_reducible first | apply i_ | apply h_); focus first | omega | (simp only [q_] <;> omega)) | ((with_reducible apply h_); focus first | decide | kernel_rfl) | refine BCase.t (by decide) ?_ | refine BCase.f (by decide) ?_ | refine CallP.pure _ rfl _ (pl) ?_ | with_reducible first | apply l_ | apply m_ | apply n_ | apply o_ | refine p_ (fun _ => ?_) (fun _ => ?_)) <;> (conv => whnf)))
        exact ⟨k + 1, ⟨by omega, next (by rw [ha]; rfl)⟩, by omega, [], rfl, rfl, ⟨.inl rfl, PLe.int (by omega), trivial⟩, trivial⟩
      | false =>
        rw [ha] at pl
        cases hd : digB (l.getD k 0) with
        | true =>
          rw [hd] at pd
          ((conv => whnf); repeat' ((first | (with_reducible first | apply a_ | apply b_ | apply c_) | ((with_reducible first | apply d_ | apply e_ | apply f_ | apply g_); focus first | omega | (simp only [q_] <;> omega)) | ((with_reducible first | apply i_ | apply h_); focus first | omega | (simp only [q_] <;> omega)) | ((with_reducible apply h_); focus first | decide | kernel_rfl) | refine BCase.t (by decide) ?_ | refine BCase.f (by decide) ?_ | refine CallP.pure _ rfl _ (pl) ?_ | refine CallP.pure _ rfl _ (pd) ?_ | with_reducible first | apply l_ | apply m_ | apply n_ | apply o_ | refine p_ (fun _ => ?_) (fun _ => ?_)) <;> (conv => whnf)))
          exact ⟨k + 1, ⟨by omega, next (by rw [ha, hd]; rfl)⟩, by omega, [], rfl, rfl, ⟨.inl rfl, PLe.int (by omega), trivial⟩, trivial⟩
        | false =>
          rw [hd] at pd
          ((conv => whnf); repeat' ((first | (with_reducible first | apply a_ | apply b_ | apply c_) | ((with_reducible first | apply d_ | apply e_ | apply f_ | apply g_); focus first | omega | (simp only [q_] <;> omega)) | ((with_reducible first | apply i_ | apply h_); focus first | omega | (simp only [q_] <;> omega)) | ((with_reducible apply h_); focus first | decide | kernel_rfl) | refine BCase.t (by decide) ?_ | refine BCase.f (by decide) ?_ | refine CallP.pure _ rfl _ (pl) ?_ | refine CallP.pure _ rfl _ (pd) ?_ | with_reducible first | apply l_ | apply m_ | apply n_ | apply o_ | refine p_ (fun _ => ?_) (fun _ => ?_)) <;> (conv => whnf)))
          refine Ret.bool ?_
          symm
          rw [Bool.eq_false_iff]
          intro hw
          cases l with
          | nil => exact absurd h1 (Nat.not_lt_zero _)
          | cons b r =>
            have hw' : (letB b && (b :: r).all wB) = true := hw
            rw [Bool.and_eq_true, List.all_eq_true] at hw'
            have hm := hw'.2 ((b :: r).getD k 0) (by rw [List.getD_eq_getElem?_getD, List.getElem?_eq_getElem h1]; exact List.getElem_mem _)
            unfold wB at hm
            rw [ha, hd] at hm
            cases hm
    · have hall : ∀ b ∈ l, (letB b || digB b) = true := by
        intro b hb
        obtain ⟨j, hj, rfl⟩ := List.mem_iff_getElem.1 hb
        have := hz j (by omega)
        rwa [List.getD_eq_getElem?_getD, List.getElem?_eq_getElem hj] at this
      cases l with
      | nil =>
        have pl := p_isletter [] hl 0
        ((conv => whnf); repeat' ((first | (with_reducible first | apply a_ | apply b_ | apply c_) | ((with_reducible first | apply d_ | apply e_ | apply f_ | apply g_); focus first | omega | (simp only [q_] <;> omega)) | ((with_reducible first | apply i_ | apply h_); focus first | omega | (simp only [q_] <;> omega)) | ((with_reducible apply h_); focus first | decide | kernel_rfl) | refine BCase.t (by decide) ?_ | refine BCase.f (by decide) ?_ | refine CallP.pure _ rfl _ (pl) ?_ | with_reducible first | apply l_ | apply m_ | apply n_ | apply o_ | refine p_ (fun _ => ?_) (fun _ => ?_)) <;> (conv => whnf)))
        exact Ret.bool rfl
      | cons b r =>
        have pl := p_isletter (b :: r) hl 0
        rw [show inB (b :: r) 0 letB = letB b from rfl] at pl
        cases ha : letB b with
        | false =>
          rw [ha] at pl
          ((conv => whnf); repeat' ((first | (with_reducible first | apply a_ | apply b_ | apply c_) | ((with_reducible first | apply d_ | apply e_ | apply f_ | apply g_); focus first | omega | (simp only [q_] <;> omega)) | ((with_reducible first | apply i_ | apply h_); focus first | omega | (simp only [q_] <;> omega)) | ((with_reducible apply h_); focus first | decide | kernel_rfl) | refine BCase.t (by decide) ?_ | refine BCase.f (by decide) ?_ | refine CallP.pure _ rfl _ (pl) ?_ | with_reducible first | apply l_ | apply m_ | apply n_ | apply o_ | refine p_ (fun _ => ?_) (fun _ => ?_)) <;> (conv => whnf)))
          refine Ret.bool ?_
          show false = (letB b && (b :: r).all wB)
          rw [ha]; rfl
        | true =>
          rw [ha] at pl
          ((conv => whnf); repeat' ((first | (with_reducible first | apply a_ | apply b_ | apply c_) | ((with_reducible first | apply d_ | apply e_ | apply f_ | apply g_); focus first | omega | (simp only [q_] <;> omega)) | ((with_reducible first | apply i_ | apply h_); focus first | omega | (simp only [q_] <;> omega)) | ((with_reducible apply h_); focus first | decide | kernel_rfl) | refine BCase.t (by decide) ?_ | refine BCase.f (by decide) ?_ | refine CallP.pure _ rfl _ (pl) ?_ | refine CallP.pure _ rfl _ (p_smallof (b :: r) hl) ?_ | with_reducible first | apply l_ | apply m_ | apply n_ | apply o_ | refine p_ (fun _ => ?_) (fun _ => ?_)) <;> (conv => whnf)))
          refine Ret.bool ?_
          show _ = (letB b && (b :: r).all wB)
          rw [ha, Bool.true_and, Bool.eq_iff_iff, decide_eq_true_eq, tx_eq, smB_map, List.all_eq_true]
          refine ⟨fun h x hx => ?_, fun h x hx => ?_⟩
          · unfold wB; rw [hall x hx, decide_eq_true (h x hx)]; rfl
          · have := h x hx
            unfold wB at this
            rw [Bool.and_eq_true] at this
            exact of_decide_eq_true this.2
theorem p_resref (l : List UInt8) (hl : okText l) : Pure Tryd.prog 57 [pStr (tx l)] (pBool (resB l)) := by
  have tz := tx_size l
  have hl' := hl
  unfold okText at hl'
  have hA : (tx allWords).size = 227 := allWords_len
  have hT : (⟨#[32]⟩ : ByteArray) ++ tx l ++ ⟨#[32]⟩ = tx (32 :: (l ++ [32])) := by
    rw [show (⟨#[32]⟩ : ByteArray) = tx [32] from rfl, tx_append, tx_append]; rfl
  have hS0 : (⟨#[32]⟩ : ByteArray).size = 1 := rfl
  have hS1 : ((⟨#[32]⟩ : ByteArray) ++ tx l).size = l.length + 1 := by rw [ByteArray.size_append]; show 1 + l.length = _; omega
  refine pure_of Tryd.func57 (by rfl) rfl (by kernel_rfl) (by rfl) ?_
  (((conv => whnf); repeat ((with_reducible first | refine BCase.tt ?_ | refine BCase.ff ?_); (conv => whnf))); repeat ((first | with_reducible refine Wr.u8 ?_ | ((with_reducible first | refine Wr.ci ?wxs ?_ | refine Wr.c3 ?wxs ?_ | refine Wr.c6 ?wxs ?_ | refine BCase.dt ?wxs ?_); case wxs => (first | omega | (simp only [lens, true_and, and_true]; (try omega); done))) | ((with_reducible refine BCase.df ?wxs ?_); case wxs => (first | omega | (simp only [lens, true_and, and_true]; (try omega); done))) | ((with_reducible refine Need.mk ?wxs ?_); case wxs => first | (first | omega | (simp only [lens, true_and, and_true]; (try omega); done)) | decide | kernel_rfl) | refine BCase.t (by decide) ?_ | refine BCase.f (by decide) ?_ | with_reducible (first | refine BCase.not ?_ | refine BCase.and ?_ | refine BCase.or ?_)); ((conv => whnf); repeat ((with_reducible first | refine BCase.tt ?_ | refine BCase.ff ?_); (conv => whnf)))))
  refine LoopC.mk Nat (fun k => [(0, pStr (tx l)), (3, pStr (tx allWords)), (4, pInt .i64 l.length), (5, pInt .i64 k)]) (fun _ => []) [] (fun k => k ≤ 227 ∧ ∀ j, j < k → j + l.length + 2 ≤ 227 → ¬ ((allWords.drop j).take (l.length + 2) = 32 :: (l ++ [32]) ∧ wordB l = true)) (fun k => 227 - k) 0 ⟨Nat.zero_le _, fun j hj => absurd hj (Nat.not_lt_zero _)⟩ ?start ?round
  case start => exact ⟨[], rfl, rfl, ⟨.inl rfl, .inl rfl, PLe.int rfl, .inl rfl, trivial⟩, trivial⟩
  case round =>
    rintro k ⟨hk, hz⟩
    by_cases h1 : k + l.length + 2 ≤ 227
    · have hx : (tx allWords).extract (k : Int).toNat ((k : Int) + (l.length : Int) + 2).toNat = tx ((allWords.drop k).take (l.length + 2)) := by
        rw [extract_tx, show ((k : Int) + (l.length : Int) + 2).toNat - (k : Int).toNat = l.length + 2 by omega, Int.toNat_natCast]
      by_cases hm : (allWords.drop k).take (l.length + 2) = 32 :: (l ++ [32])
      · have hq : (tx allWords).extract (k : Int).toNat ((k : Int) + (l.length : Int) + 2).toNat = (⟨#[32]⟩ : ByteArray) ++ tx l ++ ⟨#[32]⟩ := by rw [hx, hm, hT]
        have pw := p_iswordref l hl
        cases hw : wordB l with
        | true =>
          rw [hw] at pw
          ((conv => whnf); repeat' ((first | (with_reducible first | apply a_ | apply b_ | apply c_) | ((with_reducible first | apply d_ | apply e_ | apply f_ | apply g_); focus first | omega | (simp only [q_] <;> omega)) | ((with_reducible first | apply i_ | apply h_); focus first | omega | (simp only [q_] <;> omega)) | ((with_reducible apply h_); focus first | decide | kernel_rfl) | refine BCase.t (by decide) ?_ | refine BCase.f (by decide) ?_ | (refine BCase.dt hq ?_) | refine CallP.pure _ rfl _ (pw) ?_ | with_reducible first | apply l_ | apply m_ | apply n_ | apply o_ | refine p_ (fun _ => ?_) (fun _ => ?_)) <;> (conv => whnf)))
          exact Ret.bool (seg_res hw hm h1).symm
        | false =>
          rw [hw] at pw
          ((conv => whnf); repeat' ((first | (with_reducible first | apply a_ | apply b_ | apply c_) | ((with_reducible first | apply d_ | apply e_ | apply f_ | apply g_); focus first | omega | (simp only [q_] <;> omega)) | ((with_reducible first | apply i_ | apply h_); focus first | omega | (simp only [q_] <;> omega)) | ((with_reducible apply h_); focus first | decide | kernel_rfl) | refine BCase.t (by decide) ?_ | refine BCase.f (by decide) ?_ | (refine BCase.dt hq ?_) | refine CallP.pure _ rfl _ (pw) ?_ | with_reducible first | apply l_ | apply m_ | apply n_ | apply o_ | refine p_ (fun _ => ?_) (fun _ => ?_)) <;> (conv => whnf)))
          refine ⟨k + 1, ⟨by omega, fun j hj hn => ?_⟩, by omega, [], rfl, rfl, ⟨.inl rfl, .inl rfl, .inl rfl, PLe.int (by omega), trivial⟩, trivial⟩
          by_cases hjk : j = k
          · rintro ⟨_, q⟩; first | cases q | (rw [hw] at q; cases q)
          · first | exact hz j (by omega) hn | (rw [← hw]; exact hz j (by omega) hn)
      · have hq : ¬ (tx allWords).extract (k : Int).toNat ((k : Int) + (l.length : Int) + 2).toNat = (⟨#[32]⟩ : ByteArray) ++ tx l ++ ⟨#[32]⟩ := by
          rw [hx, hT]; exact fun e => hm (tx_inj e)
        ((conv => whnf); repeat' ((first | (with_reducible first | apply a_ | apply b_ | apply c_) | ((with_reducible first | apply d_ | apply e_ | apply f_ | apply g_); focus first | omega | (simp only [q_] <;> omega)) | ((with_reducible first | apply i_ | apply h_); focus first | omega | (simp only [q_] <;> omega)) | ((with_reducible apply h_); focus first | decide | kernel_rfl) | refine BCase.t (by decide) ?_ | refine BCase.f (by decide) ?_ | (refine BCase.df hq ?_) | with_reducible first | apply l_ | apply m_ | apply n_ | apply o_ | refine p_ (fun _ => ?_) (fun _ => ?_)) <;> (conv => whnf)))
        refine ⟨k + 1, ⟨by omega, fun j hj hn => ?_⟩, by omega, [], rfl, rfl, ⟨.inl rfl, .inl rfl, .inl rfl, PLe.int (by omega), trivial⟩, trivial⟩
        by_cases hjk : j = k
        · subst hjk; exact fun q => hm q.1
        · exact hz j (by omega) hn
    · ((conv => whnf); repeat' ((first | (with_reducible first | apply a_ | apply b_ | apply c_) | ((with_reducible first | apply d_ | apply e_ | apply f_ | apply g_); focus first | omega | (simp only [q_] <;> omega)) | ((with_reducible first | apply i_ | apply h_); focus first | omega | (simp only [q_] <;> omega)) | ((with_reducible apply h_); focus first | decide | kernel_rfl) | refine BCase.t (by decide) ?_ | refine BCase.f (by decide) ?_ | with_reducible first | apply l_ | apply m_ | apply n_ | apply o_ | refine p_ (fun _ => ?_) (fun _ => ?_)) <;> (conv => whnf)))
      refine Ret.bool ?_
      symm
      rw [Bool.eq_false_iff]
      intro hr
      obtain ⟨hw, i, hi, hs⟩ := res_seg hr
      exact hz i (by omega) hi ⟨hs, hw⟩
theorem p_namecheck (l : List UInt8) (hl : okText l) : Pure Tryd.prog 39 [pStr (tx l)] (pBool (nameB l)) := by
  have tz := tx_size l
  have pw := p_iswordref l hl
  have pr := p_resref l hl
  refine pure_of Tryd.func39 (by rfl) rfl (by kernel_rfl) (by rfl) ?_
  unfold nameB
  cases hw : wordB l with
  | false =>
    rw [hw] at pw
    ((conv => whnf); repeat' ((first | (with_reducible first | apply a_ | apply b_ | apply c_) | ((with_reducible first | apply d_ | apply e_ | apply f_ | apply g_); focus first | omega | (simp only [q_] <;> omega)) | ((with_reducible first | apply i_ | apply h_); focus first | omega | (simp only [q_] <;> omega)) | ((with_reducible apply h_); focus first | decide | kernel_rfl) | refine BCase.t (by decide) ?_ | refine BCase.f (by decide) ?_ | refine CallP.pure _ rfl _ (pw) ?_ | with_reducible first | apply l_ | apply m_ | apply n_ | apply o_ | refine p_ (fun _ => ?_) (fun _ => ?_)) <;> (conv => whnf)))
    exact Ret.bool rfl
  | true =>
    rw [hw] at pw
    by_cases h : l.length ≤ 12
    · ((conv => whnf); repeat' ((first | (with_reducible first | apply a_ | apply b_ | apply c_) | ((with_reducible first | apply d_ | apply e_ | apply f_ | apply g_); focus first | omega | (simp only [q_] <;> omega)) | ((with_reducible first | apply i_ | apply h_); focus first | omega | (simp only [q_] <;> omega)) | ((with_reducible apply h_); focus first | decide | kernel_rfl) | refine BCase.t (by decide) ?_ | refine BCase.f (by decide) ?_ | refine CallP.pure _ rfl _ (pw) ?_ | refine CallP.pure _ rfl _ (pr) ?_ | with_reducible first | apply l_ | apply m_ | apply n_ | apply o_ | refine p_ (fun _ => ?_) (fun _ => ?_)) <;> (conv => whnf)))
      exact Ret.bool (by simp [h])
    · ((conv => whnf); repeat' ((first | (with_reducible first | apply a_ | apply b_ | apply c_) | ((with_reducible first | apply d_ | apply e_ | apply f_ | apply g_); focus first | omega | (simp only [q_] <;> omega)) | ((with_reducible first | apply i_ | apply h_); focus first | omega | (simp only [q_] <;> omega)) | ((with_reducible apply h_); focus first | decide | kernel_rfl) | refine BCase.t (by decide) ?_ | refine BCase.f (by decide) ?_ | refine CallP.pure _ rfl _ (pw) ?_ | refine CallP.pure _ rfl _ (pr) ?_ | with_reducible first | apply l_ | apply m_ | apply n_ | apply o_ | refine p_ (fun _ => ?_) (fun _ => ?_)) <;> (conv => whnf)))
      exact Ret.bool (by simp [h])
end Go.Proofs.YtmcmagfondjopaaDoor.Pm
end
section
namespace Go.Proofs.YtmcmagfondjopaaDoor.Pm
open Go.RowKit K
set_option linter.unusedVariables false
set_option linter.unusedSimpArgs false
set_option maxRecDepth 100000
theorem byteRows_app (a b : List UInt8) : byteRows (a ++ b) = byteRows a ++ byteRows b := by unfold byteRows; rw [List.map_append]
theorem byteRows_ln (a : List UInt8) : (byteRows a).length = a.length := by unfold byteRows; rw [List.length_map]
def hexTab : ByteArray := ⟨#[48, 49, 50, 51, 52, 53, 54, 55, 56, 57, 97, 98, 99, 100, 101, 102]⟩
theorem hexTab_get {n : Nat} (h : n < 16) : hexTab.data.toList[n]? = some (hexd n) := by
  have : n = 0 ∨ n = 1 ∨ n = 2 ∨ n = 3 ∨ n = 4 ∨ n = 5 ∨ n = 6 ∨ n = 7 ∨ n = 8 ∨ n = 9 ∨ n = 10 ∨ n = 11 ∨ n = 12 ∨ n = 13 ∨ n = 14 ∨ n = 15 := by omega
  rcases this with rfl | rfl | rfl | rfl | rfl | rfl | rfl | rfl | rfl | rfl | rfl | rfl | rfl | rfl | rfl | rfl <;> rfl
end Go.Proofs.YtmcmagfondjopaaDoor.Pm
end
section
namespace Go.Proofs.YtmcmagfondjopaaDoor.Pm
open Go.RowKit K
set_option linter.unusedVariables false
set_option linter.unusedSimpArgs false
set_option maxRecDepth 100000
theorem quoB_le (b : UInt8) : (quoB b).length ≤ 2 := by unfold quoB; split <;> simp
end Go.Proofs.YtmcmagfondjopaaDoor.Pm
end
section
namespace Go.Proofs.YtmcmagfondjopaaDoor.Pm
open Go.RowKit K
set_option linter.unusedVariables false
set_option linter.unusedSimpArgs false
set_option maxRecDepth 100000
def optP (o : Option (List UInt8)) : PV := match o with
  | none => .tup [pStr (tx []), pBool false]
  | some t => .tup [pStr (tx t), pBool true]
theorem SIdx.same {s s' : ByteArray} {n : Int} {K : Int → Prop} (h : s = s') (k : SIdx s' n K) : SIdx s n K := by rw [h]; exact k
theorem tail_tx (l : List UInt8) : (tx l).extract (1 : Int).toNat ((l.length : Nat) : Int).toNat = tx (l.drop 1) := by
  rw [extract_tx]
  exact congrArg tx (List.take_of_length_le (by rw [List.length_drop]; omega))
theorem inner_tx (s : List UInt8) : (tx s).extract (1 : Int).toNat (((s.length : Nat) : Int) - 1).toNat = tx (innerL s) := by
  rw [extract_tx]
  unfold innerL
  congr 2
  omega
theorem headD_get (s : List UInt8) : s.headD 0 = s.getD 0 0 := by cases s <;> rfl
theorem lastD_get {s : List UInt8} (h : s ≠ []) : s.getLastD 0 = s.getD (s.length - 1) 0 := by
  rw [List.getLastD_eq_getLast?, List.getLast?_eq_getElem?, List.getD_eq_getElem?_getD]
def thenL (t : List UInt8) (o : Option (List UInt8)) : Option (List UInt8) := o.map (t ++ ·)
end Go.Proofs.YtmcmagfondjopaaDoor.Pm
end
section
namespace Go.Proofs.YtmcmagfondjopaaDoor.Pm
open Go.RowKit K
set_option linter.unusedVariables false
set_option linter.unusedSimpArgs false
set_option maxRecDepth 100000
def digV (s : List UInt8) (most : Nat) : Nat := if digE s most = 0 then dval s else 0
theorem dval_take {s : List UInt8} {k : Nat} (h : k < s.length) : dval (s.take (k + 1)) = dval (s.take k) * 10 + (s[k].toNat - 48) := by rw [take_snoc h, dval_snoc]
theorem dval_mono : ∀ (l : List UInt8) (n m : Nat), n ≤ m → l.foldl dstep n ≤ l.foldl dstep m
  | [], n, m, h => h
  | c :: l, n, m, h => by
    rw [List.foldl_cons, List.foldl_cons]
    refine dval_mono l _ _ ?_
    unfold dstep; omega
theorem dstep_le : ∀ (l : List UInt8) (n : Nat), n ≤ l.foldl dstep n
  | [], n => Nat.le_refl _
  | c :: l, n => by
    rw [List.foldl_cons]
    have := dstep_le l (dstep n c)
    unfold dstep at this ⊢; omega
theorem dval_pre (s : List UInt8) (k : Nat) : dval (s.take k) ≤ dval s := by
  conv => rhs; rw [← List.take_append_drop k s]
  unfold dval
  rw [List.foldl_append]
  exact dstep_le _ _
end Go.Proofs.YtmcmagfondjopaaDoor.Pm
end
section
namespace Go.Proofs.YtmcmagfondjopaaDoor.Pm
open Go.RowKit K
set_option linter.unusedVariables false
set_option linter.unusedSimpArgs false
set_option maxRecDepth 100000
structure TokenD where
  Kind : Int
  At : Int
  N : Int
  S : List UInt8
def TokenD.c (x : TokenD) : List C := [.v (.int .i64 x.Kind), .v (.int .i64 x.At), .v (.int .i64 x.N), .v (.string (tx x.S))]
def TokenD.ok (x : TokenD) : Prop := okInt x.Kind ∧ okInt x.At ∧ okInt x.N ∧ okText x.S
theorem openC_Token : OpensC Tryd.prog 42 4 TokenD.c TokenD.ok := by
  refine ⟨by kernel_rfl, by decide, ?_⟩
  intro H enc w spare held fuel cs x h hl
  have ht : Tryd.prog.underlying 42 = some (.struct (Tryd.prog.fieldsOf 42)) := by kernel_rfl
  have hlen := struct_len ht h
  rw [show Tryd.prog.cellsOf 42 = 4 by kernel_rfl] at hlen
  obtain ⟨a0, e0, k0⟩ := field_of ht h hl 0 3 0 1 (by kernel_rfl) (openC_int Tryd.underlying3 (by kernel_rfl))
  obtain ⟨a1, e1, k1⟩ := field_of ht h hl 1 3 1 1 (by kernel_rfl) (openC_int Tryd.underlying3 (by kernel_rfl))
  obtain ⟨a2, e2, k2⟩ := field_of ht h hl 2 2 2 1 (by kernel_rfl) (openC_int Tryd.underlying2 (by kernel_rfl))
  obtain ⟨a3, e3, k3⟩ := field_of ht h hl 3 9 3 1 (by kernel_rfl) (openC_text Tryd.underlying9 (by kernel_rfl))
  have hall : CsRep (FW w) w (eInt a0 ++ (eInt a1 ++ (eInt a2 ++ (eText a3 ++ [])))) (cs.drop 0) := (cs_field e0 (cs_field e1 (cs_field e2 (cs_field e3 (cs_end hlen)))))
  rw [List.drop_zero] at hall
  exact ⟨hlen, ⟨a0, a1, a2, a3⟩, hall, ⟨k0, k1, k2, k3⟩⟩
def TokenD.eqB (x y : TokenD) : Bool := (decide (x.Kind = y.Kind) && (decide (x.At = y.At) && (decide (x.N = y.N) && (decide (tx x.S = tx y.S) && true))))
theorem TokenD.eqB_iff (x y : TokenD) : TokenD.eqB x y = true ↔ x = y := by
  cases x; cases y
  simp [TokenD.eqB, tx_eq]
def blankB (c : UInt8) : Bool := decide (c.toNat = 32) || (decide (c.toNat = 9) || (decide (c.toNat = 10) || decide (c.toNat = 13)))
def skR : Bool → List UInt8 → List UInt8
  | _, [] => []
  | true, c :: r => skR (decide (c.toNat ≠ 10)) r
  | false, c :: r => if blankB c then skR false r else if c.toNat = 45 ∧ (r.headD 0).toNat = 45 then skR true r else c :: r
def skL (r : List UInt8) : List UInt8 := skR false r
def no10 (c : UInt8) : Bool := decide (c.toNat ≠ 10)
theorem skR_nil (b : Bool) : skR b [] = [] := by cases b <;> rfl
theorem skR_t (c : UInt8) (r : List UInt8) : skR true (c :: r) = skR (decide (c.toNat ≠ 10)) r := rfl
theorem skR_f (c : UInt8) (r : List UInt8) : skR false (c :: r) = if blankB c then skR false r else if c.toNat = 45 ∧ (r.headD 0).toNat = 45 then skR true r else c :: r := rfl
theorem blank_10 {c : UInt8} (h : c.toNat = 10) : blankB c = true := by unfold blankB; rw [decide_eq_true h]; simp
theorem skR_true : ∀ r : List UInt8, skR true r = skL (r.dropWhile no10)
  | [] => rfl
  | c :: r => by
    rw [skR_t]
    by_cases h : c.toNat = 10
    · rw [decide_eq_false (by simp [h])]
      have : (c :: r).dropWhile no10 = c :: r := by
        rw [List.dropWhile_cons, if_neg]
        unfold no10; simp [h]
      rw [this]
      unfold skL
      rw [skR_f, if_pos (blank_10 h)]
    · rw [decide_eq_true h, skR_true r]
      congr 1
      rw [List.dropWhile_cons, if_pos]
      exact decide_eq_true h
theorem skR_le : ∀ (b : Bool) (r : List UInt8), (skR b r).length ≤ r.length
  | b, [] => by rw [skR_nil]; exact Nat.le_refl _
  | true, c :: r => by rw [skR_t, List.length_cons]; have := skR_le (decide (c.toNat ≠ 10)) r; omega
  | false, c :: r => by
    rw [skR_f]
    split
    · rw [List.length_cons]; have := skR_le false r; omega
    · split
      · rw [List.length_cons]; have := skR_le true r; omega
      · exact Nat.le_refl _
theorem skR_suf : ∀ (b : Bool) (r : List UInt8), r.drop (r.length - (skR b r).length) = skR b r
  | b, [] => by rw [skR_nil]; rfl
  | true, c :: r => by
    rw [skR_t]
    have h1 := skR_suf (decide (c.toNat ≠ 10)) r
    have h2 := skR_le (decide (c.toNat ≠ 10)) r
    rw [List.length_cons, show r.length + 1 - (skR (decide (c.toNat ≠ 10)) r).length = (r.length - (skR (decide (c.toNat ≠ 10)) r).length) + 1 by omega, List.drop_succ_cons]
    exact h1
  | false, c :: r => by
    rw [skR_f]
    split
    · have h1 := skR_suf false r
      have h2 := skR_le false r
      rw [List.length_cons, show r.length + 1 - (skR false r).length = (r.length - (skR false r).length) + 1 by omega, List.drop_succ_cons]
      exact h1
    · split
      · have h1 := skR_suf true r
        have h2 := skR_le true r
        rw [List.length_cons, show r.length + 1 - (skR true r).length = (r.length - (skR true r).length) + 1 by omega, List.drop_succ_cons]
        exact h1
      · rw [Nat.sub_self]; rfl
def skK (l : List UInt8) (k : Nat) : Nat := l.length - (skL (l.drop k)).length
theorem skK_le (l : List UInt8) (k : Nat) : skK l k ≤ l.length := Nat.sub_le _ _
theorem skK_ge {l : List UInt8} {k : Nat} (h : k ≤ l.length) : k ≤ skK l k := by
  unfold skK skL
  have := skR_le false (l.drop k)
  rw [List.length_drop] at this
  omega
theorem skK_drop {l : List UInt8} {k : Nat} (h : k ≤ l.length) : l.drop (skK l k) = skL (l.drop k) := by
  have h1 := skR_suf false (l.drop k)
  have h2 := skR_le false (l.drop k)
  rw [List.length_drop, List.drop_drop] at h1
  rw [List.length_drop] at h2
  have : k + (l.length - k - (skR false (l.drop k)).length) = skK l k := by unfold skK skL; omega
  rw [this] at h1
  exact h1
def qLen : List UInt8 → Option Nat
  | [] => none
  | [c] => if c.toNat = 39 then some 1 else none
  | c :: d :: r => if c.toNat = 39 then (if d.toNat = 39 then (qLen r).map (· + 2) else some 1) else (qLen (d :: r)).map (· + 1)
theorem qLen_o {c : UInt8} (h : c.toNat ≠ 39) (r : List UInt8) : qLen (c :: r) = (qLen r).map (· + 1) := by
  cases r with
  | nil => simp [qLen, h]
  | cons d r => simp [qLen, h]
theorem qLen_q {c d : UInt8} (h : c.toNat = 39) (r : List UInt8) : qLen (c :: d :: r) = if d.toNat = 39 then (qLen r).map (· + 2) else some 1 := by simp [qLen, h]
theorem qLen_1 {c : UInt8} (h : c.toNat = 39) : qLen [c] = some 1 := by simp [qLen, h]
theorem qLen_le : ∀ (N : Nat) (r : List UInt8) (n : Nat), r.length ≤ N → qLen r = some n → 1 ≤ n ∧ n ≤ r.length
  | _, [], n, _, h => by cases h
  | _, [c], n, _, h => by
    unfold qLen at h
    split at h
    · cases h; exact ⟨Nat.le_refl _, Nat.le_refl _⟩
    · cases h
  | 0, _ :: _ :: _, _, hN, _ => by simp at hN
  | N + 1, c :: d :: r, n, hN, h => by
    rw [List.length_cons, List.length_cons] at hN ⊢
    by_cases hc : c.toNat = 39
    · rw [qLen_q hc] at h
      split at h
      · cases hq : qLen r with
        | none => rw [hq] at h; cases h
        | some m =>
          rw [hq] at h
          cases h
          have := qLen_le N r m (by omega) hq
          show 1 ≤ m + 2 ∧ m + 2 ≤ r.length + 1 + 1
          omega
      · cases h; omega
    · rw [qLen_o hc] at h
      cases hq : qLen (d :: r) with
      | none => rw [hq] at h; cases h
      | some m =>
        rw [hq] at h
        cases h
        have := qLen_le N (d :: r) m (by rw [List.length_cons]; omega) hq
        rw [List.length_cons] at this
        show 1 ≤ m + 1 ∧ m + 1 ≤ r.length + 1 + 1
        omega
def pairB (a b : UInt8) : Bool := decide (a.toNat = 60 ∧ b.toNat = 62) || (decide (a.toNat = 60 ∧ b.toNat = 61) || decide (a.toNat = 62 ∧ b.toNat = 61))
def singL : List UInt8 := [40, 41, 44, 59, 42, 43, 45, 47, 37, 61, 60, 62]
def singB (a : UInt8) : Bool := singL.any fun b => decide (a = b)
def sigL : List UInt8 → Nat
  | [] => 0
  | [a] => if singB a then 1 else 0
  | a :: b :: _ => if pairB a b then 2 else if singB a then 1 else 0
theorem sigL_1 (a : UInt8) : sigL [a] = if singB a then 1 else 0 := rfl
theorem sigL_2 (a b : UInt8) (r : List UInt8) : sigL (a :: b :: r) = if pairB a b then 2 else if singB a then 1 else 0 := rfl
theorem sigL_le : ∀ r : List UInt8, sigL r ≤ r.length ∧ sigL r ≤ 2
  | [] => ⟨Nat.le_refl _, by decide⟩
  | [a] => by rw [sigL_1]; split <;> simp
  | a :: b :: r => by
    rw [sigL_2]
    split
    · simp
    · split <;> simp
abbrev Tk := Int × Int × List UInt8
def qTok (kind : Int) (read : List UInt8 → Option (List UInt8)) (r : List UInt8) : Tk × Int × Nat :=
  match qLen (r.drop 1) with
  | none => ((0, 0, []), 1, 0)
  | some n => match read (r.take (n + 1)) with
    | none => ((0, 0, []), 1, 0)
    | some t => if 16 < t.length then ((0, 0, []), 2, 0) else ((kind, 0, t), 0, n + 1)
def innB (c : UInt8) : Bool := letB c || digB c
def wTok (r : List UInt8) : Tk × Int × Nat := if 12 < (r.takeWhile innB).length then ((0, 0, []), 2, 0) else ((1, 0, (r.takeWhile innB).map smB), 0, (r.takeWhile innB).length)
def headB (p : UInt8 → Bool) : List UInt8 → Bool
  | [] => false
  | c :: _ => p c
def nTok (r : List UInt8) : Tk × Int × Nat :=
  if headB letB (r.dropWhile digB) then ((0, 0, []), 1, 0)
  else ((2, (digV (r.takeWhile digB) most1 : Int), []), digE (r.takeWhile digB) most1, (r.takeWhile digB).length)
def sTok (r : List UInt8) : Tk × Int × Nat := if sigL r = 0 then ((0, 0, []), 1, 0) else ((5, 0, r.take (sigL r)), 0, sigL r)
def isX (c : UInt8) : Bool := decide (c.toNat = 88 ∨ c.toNat = 120)
def off1 (x : Tk × Int × Nat) : Tk × Int × Nat := (x.1, x.2.1, if x.2.1 = 0 then x.2.2 + 1 else 0)
def tkL (r : List UInt8) : Tk × Int × Nat :=
  if isX (r.headD 0) = true ∧ ((r.drop 1).headD 0).toNat = 39 then off1 (qTok 4 (hexL true) (r.drop 1))
  else if (r.headD 0).toNat = 39 then qTok 3 quotL r
  else if letB (r.headD 0) then wTok r
  else if digB (r.headD 0) then nTok r
  else sTok r
def tokD (k : Nat) (t : Tk) : TokenD := ⟨t.1, k, t.2.1, t.2.2⟩
def lexG (l : List UInt8) : Nat → Nat → List TokenD → List TokenD × Int × Int
  | 0, _, acc => (acc, 0, 0)
  | N + 1, k, acc =>
    if skK l k < l.length then
      (if acc.length = 120 then ([], (skK l k : Int), 2)
       else if (tkL (l.drop (skK l k))).2.1 ≠ 0 then ([], (skK l k : Int), (tkL (l.drop (skK l k))).2.1)
       else lexG l N (skK l k + (tkL (l.drop (skK l k))).2.2) (acc ++ [tokD (skK l k) (tkL (l.drop (skK l k))).1]))
    else (acc, 0, 0)
def lexF (l : List UInt8) : List TokenD × Int × Int := if 300 < l.length then ([], 0, 2) else lexG l (l.length + 1) 0 []
theorem takeWhile_le {p : UInt8 → Bool} (r : List UInt8) : (r.takeWhile p).length ≤ r.length := (List.takeWhile_sublist p).length_le
theorem qTok_ok {kind : Int} {read : List UInt8 → Option (List UInt8)} {r : List UInt8} (h : (qTok kind read r).2.1 = 0) : ∃ n t, qLen (r.drop 1) = some n ∧ read (r.take (n + 1)) = some t ∧ t.length ≤ 16 ∧ qTok kind read r = ((kind, 0, t), 0, n + 1) := by
  unfold qTok at h ⊢
  cases hq : qLen (r.drop 1) with
  | none => rw [hq] at h; cases h
  | some n =>
    rw [hq] at h
    simp only at h ⊢
    cases hr : read (r.take (n + 1)) with
    | none => rw [hr] at h; cases h
    | some t =>
      rw [hr] at h
      simp only at h ⊢
      by_cases h16 : 16 < t.length
      · rw [if_pos h16] at h; cases h
      · rw [if_neg h16]
        exact ⟨n, t, rfl, hr, by omega, rfl⟩
theorem head_len {r : List UInt8} {p : UInt8 → Bool} (h : p (r.headD 0) = true) (h0 : p 0 = false) : r ≠ [] := by
  rintro rfl
  rw [show ([] : List UInt8).headD 0 = 0 from rfl, h0] at h
  cases h
theorem takeWhile_pos {p : UInt8 → Bool} {r : List UInt8} (h : p (r.headD 0) = true) (h0 : p 0 = false) : 1 ≤ (r.takeWhile p).length := by
  cases r with
  | nil => exact absurd rfl (head_len h h0)
  | cons c r =>
    have h : p c = true := h
    rw [List.takeWhile_cons, if_pos h]
    simp
theorem tkL_len {r : List UInt8} (h : (tkL r).2.1 = 0) : 1 ≤ (tkL r).2.2 ∧ (tkL r).2.2 ≤ r.length := by
  unfold tkL at h ⊢
  by_cases c1 : isX (r.headD 0) = true ∧ ((r.drop 1).headD 0).toNat = 39
  · rw [if_pos c1] at h ⊢
    obtain ⟨n, t, h1, h2, h3, h4⟩ := qTok_ok (show (qTok 4 (hexL true) (r.drop 1)).2.1 = 0 from h)
    have := (qLen_le _ _ _ (Nat.le_refl _) h1).2
    rw [h4]
    show 1 ≤ n + 1 + 1 ∧ n + 1 + 1 ≤ r.length
    rw [List.drop_drop, List.length_drop] at this
    have hq := (qLen_le _ _ _ (Nat.le_refl _) h1).1
    omega
  · rw [if_neg c1] at h ⊢
    by_cases c2 : (r.headD 0).toNat = 39
    · rw [if_pos c2] at h ⊢
      obtain ⟨n, t, h1, h2, h3, h4⟩ := qTok_ok h
      have := qLen_le _ _ _ (Nat.le_refl _) h1
      rw [List.length_drop] at this
      rw [h4]
      show 1 ≤ n + 1 ∧ n + 1 ≤ r.length
      omega
    · rw [if_neg c2] at h ⊢
      by_cases c3 : letB (r.headD 0) = true
      · rw [if_pos c3] at h ⊢
        unfold wTok at h ⊢
        have h1 := takeWhile_le (p := innB) r
        have h2 := takeWhile_pos (p := innB) (r := r) (by unfold innB; rw [c3]; rfl) (by decide)
        split
        · rename_i q; rw [if_pos q] at h; cases h
        · exact ⟨h2, h1⟩
      · rw [if_neg c3] at h ⊢
        by_cases c4 : digB (r.headD 0) = true
        · rw [if_pos c4] at h ⊢
          unfold nTok at h ⊢
          have h1 := takeWhile_le (p := digB) r
          have h2 := takeWhile_pos (p := digB) (r := r) c4 (by decide)
          split
          · rename_i q; rw [if_pos q] at h; cases h
          · exact ⟨h2, h1⟩
        · rw [if_neg c4] at h ⊢
          unfold sTok at h ⊢
          have h1 := sigL_le r
          split
          · rename_i q; rw [if_pos q] at h; cases h
          · rename_i q
            show 1 ≤ sigL r ∧ sigL r ≤ r.length
            omega
theorem sig_small (r : List UInt8) (h : sigL r = r.length) : r.length ≤ 2 := by have := sigL_le r; omega
end Go.Proofs.YtmcmagfondjopaaDoor.Pm
end
section
namespace Go.Proofs.YtmcmagfondjopaaDoor.Pm
open Go.RowKit K
set_option linter.unusedVariables false
set_option linter.unusedSimpArgs false
set_option maxRecDepth 100000
def hexI (c : UInt8) : Int := match hexv c with
  | some k => (k : Int)
  | none => -1
theorem hexI_ix (c : UInt8) : Lib.indexByte hexTab.data.toList c = hexI c := by
  have h : ∀ n : Nat, n < 256 → Lib.indexByte hexTab.data.toList (UInt8.ofNat n) = hexI (UInt8.ofNat n) := by decide +kernel
  have := h c.toNat c.toNat_lt
  rwa [u8_back] at this
theorem hexI_some {c : UInt8} {k : Nat} (h : hexv c = some k) : hexI c = k := by unfold hexI; rw [h]
theorem hexI_none {c : UInt8} (h : hexv c = none) : hexI c = -1 := by unfold hexI; rw [h]
theorem hexI_le (c : UInt8) : -1 ≤ hexI c ∧ hexI c ≤ 15 := by
  cases h : hexv c with
  | none => rw [hexI_none h]; omega
  | some k => rw [hexI_some h]; have := (hexd_v h).1; omega
theorem p_indexhex (c : UInt8) : Pure Tryd.prog 77 [.d (.c (.v (.string ⟨#[48, 49, 50, 51, 52, 53, 54, 55, 56, 57, 97, 98, 99, 100, 101, 102]⟩))), pInt .u8 (c.toNat : Int)] (pInt .i64 (hexI c)) := by
  refine pure_hand (vs := [.string hexTab, .int .u8 (c.toNat : Int)]) ⟨_, Tryd.func77, by rfl, by rfl⟩ fun w hG => ?_
  refine (Tryd.strings_IndexByte hexTab (c.toNat : Int) w).mono ?_
  rintro e w' ⟨rfl, rfl⟩
  refine ⟨_, rfl, Below.refl _ _, fun F _ => ?_⟩
  rw [show ((c.toNat : Int).toNat.toUInt8) = c from u8_back c, hexI_ix]
  exact rep_int _ _
theorem hexI_get {c : UInt8} (h : ¬ hexI c < 0) : hexv c = some (hexI c).toNat ∧ 0 ≤ hexI c ∧ hexI c < 16 := by
  cases hc : hexv c with
  | none => rw [hexI_none hc] at h; omega
  | some k => rw [hexI_some hc]; have := (hexd_v hc).1; exact ⟨rfl, by omega, by omega⟩
theorem hexI_neg {c : UInt8} (h : hexI c < 0) : hexv c = none := by
  cases hc : hexv c with
  | none => rfl
  | some k => rw [hexI_some hc] at h; omega
theorem Idx.mapV {α : Type} {f : α → List C} {l : List α} {n : Int} {K : List C → Prop} (k : Nat) (hk : n = (k : Int)) (x : α) (hx : l[k]? = some x) (h : K (f x)) : Idx (l.map f) n K :=
  ⟨f x, by omega, by rw [hk]; simp [hx], h⟩
theorem Wr.shl {n : Nat} {K : Int → Prop} (hn : n < 16) (h : K ((n : Int) * 2 ^ min (Int.toNat 4) IntKind.i64.bits)) : Wr .i64 ((n : Int) * 2 ^ min (Int.toNat 4) IntKind.i64.bits) K := by
  have e : (2 : Int) ^ min (Int.toNat 4) IntKind.i64.bits = 16 := rfl
  exact Wr.i64 (by rw [e]; omega) (by rw [e]; omega) h
theorem Wr.or {n : Nat} {x : Int} {K : Int → Prop} (hn : n < 16) (hx : 0 ≤ x ∧ x < 16) (h : K (((n * 16 + x.toNat : Nat)) : Int)) : Wr .i64 (((BitVec.ofInt IntKind.i64.bits ((n : Int) * 2 ^ min (Int.toNat 4) IntKind.i64.bits) ||| BitVec.ofInt IntKind.i64.bits x).toNat : Nat) : Int) K := by
  obtain ⟨m, rfl⟩ : ∃ m : Nat, x = m := ⟨x.toNat, by omega⟩
  have hm : m < 16 := by omega
  have key : ∀ a : Nat, a < 16 → ∀ b : Nat, b < 16 → (BitVec.ofInt 64 ((a : Int) * 16) ||| BitVec.ofInt 64 (b : Int)).toNat = a * 16 + b := by decide +kernel
  have e : (BitVec.ofInt IntKind.i64.bits ((n : Int) * 2 ^ min (Int.toNat 4) IntKind.i64.bits) ||| BitVec.ofInt IntKind.i64.bits (m : Int)).toNat = n * 16 + m := key n hn m hm
  rw [e]
  exact Wr.i64 (by omega) (by omega) h
def hexc (any : Bool) (c : UInt8) : UInt8 := if any = true ∧ 65 ≤ c.toNat ∧ c.toNat ≤ 70 then UInt8.ofNat (c.toNat + 32) else c
theorem hexw_c (any : Bool) (c : UInt8) : hexw any c = hexv (hexc any c) := by
  unfold hexw hexc
  split
  · rename_i h
    have e : (UInt8.ofNat (c.toNat + 32)).toNat = c.toNat + 32 := u8_small (by omega)
    unfold hexv
    rw [e, if_neg (by omega), if_pos (by omega)]
    congr 1
  · rfl
end Go.Proofs.YtmcmagfondjopaaDoor.Pm
end
section
namespace Go.Proofs.YtmcmagfondjopaaDoor.Pm
open Go.RowKit K
set_option linter.unusedVariables false
set_option linter.unusedSimpArgs false
set_option maxRecDepth 100000
def hasPre (l m : List UInt8) : Bool := decide (l.take m.length = m)
end Go.Proofs.YtmcmagfondjopaaDoor.Pm
end
section
namespace Go.Proofs.YtmcmagfondjopaaDoor.Pm
open Go.RowKit K
set_option linter.unusedVariables false
set_option linter.unusedSimpArgs false
set_option maxRecDepth 100000
def cutPre (l m : List UInt8) : List UInt8 := if hasPre l m then l.drop m.length else l
theorem hasPre_len {l m : List UInt8} (h : hasPre l m = true) : m.length ≤ l.length := by
  have := congrArg List.length (of_decide_eq_true h)
  rw [List.length_take] at this; omega
theorem hasPre_1 (l : List UInt8) (c : UInt8) (hc : c ≠ 0) : hasPre l [c] = decide (l.headD 0 = c) := by
  unfold hasPre
  cases l with
  | nil => rw [decide_eq_false (by simp)]; exact (decide_eq_false (fun e : (0 : UInt8) = c => hc e.symm)).symm
  | cons a r => simp
def numN (s : List UInt8) : Int × Int :=
  if s.headD 0 = 45 then (-(digV (s.drop 1) most2 : Int), if digE (s.drop 1) most2 = 0 ∧ digV (s.drop 1) most2 = 0 then 1 else digE (s.drop 1) most2) else ((digV s most1 : Int), digE s most1)
theorem numA_N (s : List UInt8) : numA s = if (numN s).2 ≠ 0 then (zeroW, (numN s).2) else (⟨1, (numN s).1, []⟩, 0) := by
  unfold numA numN
  generalize s.drop 1 = r
  by_cases h : s.headD 0 = 45
  · rw [if_pos h, if_pos h]
    by_cases he : digE (r) most2 = 0
    · have hv : digV (r) most2 = dval (r) := by unfold digV; rw [if_pos he]
      rw [if_neg (by simp [he])]
      simp only [he, hv, true_and]
      by_cases h0 : dval (r) = 0
      · simp [h0]
      · simp [h0]
    · rw [if_pos he]
      simp [he]
  · rw [if_neg h, if_neg h]
    by_cases he : digE s most1 = 0
    · have hv : digV s most1 = dval s := by unfold digV; rw [if_pos he]
      simp [he, hv]
    · simp [he]
theorem digV_le (s : List UInt8) (most : Nat) : digV s most ≤ most := by
  unfold digV
  split
  · rename_i h; exact (digE_ok h).2.2.2
  · exact Nat.zero_le _
theorem numN_le (s : List UInt8) : -9223372036854775808 ≤ (numN s).1 ∧ (numN s).1 ≤ 9223372036854775807 := by
  unfold numN
  split
  · have hv : digV (s.drop 1) most2 ≤ 9223372036854775808 := digV_le (s.drop 1) most2
    constructor <;> show (_ : Int) ≤ _ <;> omega
  · have hv : digV s most1 ≤ 9223372036854775807 := digV_le s most1
    constructor <;> show (_ : Int) ≤ _ <;> omega
end Go.Proofs.YtmcmagfondjopaaDoor.Pm
end
