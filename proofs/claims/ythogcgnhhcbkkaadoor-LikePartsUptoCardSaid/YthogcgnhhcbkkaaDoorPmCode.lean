/- Whole functions: what must be shown; that it suffices. -/
import Derived.Test.YthogcgnhhcbkkaaDoorPmReg4
namespace Go.Proofs.YthogcgnhhcbkkaaDoor.Pm
open Go.RowKit
set_option linter.unusedVariables false

/-! ### to know less; to name keys anew -/
def kin (k : Nat) : List Nat → Bool
  | [] => false
  | x :: xs => bif Nat.beq k x then true else kin k xs

def CLe (x y : C) : Prop := y = x ∨ (y = .v (.slice none 0 0) ∧ ∃ sz, x = .sl sz [])
mutual
def DLe (f : Nat → Option Nat) (n : List Nat) : D → D → Prop
  | .c x, y => match y with
    | .c y => CLe x y
    | .app _ _ sz l => x = .sl sz l
    | _ => False
  | .app k e sz l, y => match y with
    | .app k' e' sz' l' => kin k n = true ∧ f k = some k' ∧ e' = e ∧ sz' = sz ∧ l' = l
    | .c y => kin k n = true ∧ f k = none ∧ 0 < sz ∧ l = [] ∧ y = .v (.slice none 0 0)
    | _ => False
  | .ptr k o, y => match y with
    | .ptr k' o' => kin k n = true ∧ f k = some k' ∧ o' = o
    | _ => False
  | .arr k e sz lo m, y => match y with
    | .arr k' e' sz' lo' m' => kin k n = true ∧ f k = some k' ∧ e' = e ∧ sz' = sz ∧ lo' = lo ∧ m' = m
    | .c y => kin k n = true ∧ f k = none ∧ 0 < sz ∧ m = 0 ∧ y = .v (.slice none 0 0)
    | _ => False
  | .elt k sz i o, y => match y with
    | .elt k' sz' i' o' => kin k n = true ∧ f k = some k' ∧ sz' = sz ∧ i' = i ∧ o' = o
    | _ => False
  | .clo g a l, y => match y with
    | .clo g' a' l' => g' = g ∧ DLes f n a a' ∧ DLes f n l l'
    | _ => False
  | .optp k o, y => match y with
    | .optp k' o' => kin k n = true ∧ f k = some k' ∧ o' = o
    | .ptr k' o' => kin k n = true ∧ f k = some k' ∧ o' = o
    | .c y => y = .v (.pointer none)
    | _ => False
  | .data k e l, y => match y with
    | .data k' e' l' => kin k n = true ∧ f k = some k' ∧ e' = e ∧ l' = l
    | _ => False
def DLes (f : Nat → Option Nat) (n : List Nat) : List D → List D → Prop
  | [], y => y = []
  | x :: xs, y => match y with
    | [] => False
    | y :: ys => DLe f n x y ∧ DLes f n xs ys
end
mutual
def PLe (f : Nat → Option Nat) (n : List Nat) : PV → PV → Prop
  | .any, _ => True
  | .d x, y => match y with
    | .d y => DLe f n x y
    | _ => False
  | .agg l, y => match y with
    | .agg m => DLes f n l m
    | _ => False
  | .tup l, y => match y with
    | .tup m => PLeT f n l m
    | _ => False
def PLeT (f : Nat → Option Nat) (n : List Nat) : List PV → List PV → Prop
  | [], y => y = []
  | x :: xs, y => match y with
    | [] => False
    | y :: ys => PLe f n x y ∧ PLeT f n xs ys
end
/-- the slots that are kept -/
def ofL : List (Nat × PV) → Env
  | [], _ => .any
  | (t, v) :: l, j => bif Nat.beq j t then v else ofL l j
def PLes (f : Nat → Option Nat) (n : List Nat) (e : Env) : List (Nat × PV) → Prop
  | [] => True
  | (t, v) :: l => PLe f n v (e t) ∧ PLes f n e l
def HLe (f : Nat → Option Nat) (n : List Nat) : HB → HB → Prop
  | .box t l, .box t' m => t' = t ∧ DLes f n l m
  | .tail e sz, .tail e' sz' => e' = e ∧ sz' = sz
  | .arr e sz rows, .arr e' sz' rows' => e' = e ∧ sz' = sz ∧ rows' = rows
  | _, _ => False
def KLe (f : Nat → Option Nat) (n : List Nat) (h : Hp) (k : Nat) (b : HB) : Prop := match f k with
  | some k' => match h k' with
    | some b' => HLe f n b b'
    | none => False
  | none => match b with
    | .tail _ sz => 0 < sz
    | .arr _ sz rows => 0 < sz ∧ rows = []
    | .box _ _ => False
def HLes (f : Nat → Option Nat) (n : List Nat) (h : Hp) : List (Nat × HB) → Prop
  | [] => True
  | (k, b) :: l => (kin k n = true ∧ KLe f n h k b) ∧ HLes f n h l
/-- no two keys that are kept stand for one old key -/
def injOn (f : Nat → Option Nat) : List (Nat × HB) → Bool
  | [] => true
  | (k, _) :: l => (l.all fun p => Nat.beq p.1 k || match f k, f p.1 with | some a, some b => !Nat.beq a b | _, _ => true) && injOn f l
/-- keys that were handed over keep their names -/
def fkOk (f : Nat → Option Nat) (n : List Nat) : List Nat → Bool
  | [] => true
  | k :: r => (match f k with | some k' => Nat.beq k' k | none => false) && (kin k n && fkOk f n r)
/-- e, h is worth what the lists say -/
inductive Wk (fk : List Nat) (e : Env) (h : Hp) (le : List (Nat × PV)) (lh : List (Nat × HB)) (n : List Nat) : Prop
  | mk (f : List (Nat × Nat)) (hi : injOn (fnL f) lh = true) (hf : fkOk (fnL f) n fk = true) (he : PLes (fnL f) n e le) (hh : HLes (fnL f) n h lh)

section
variable {c : Ctx} {nt : Nat} {n : List Nat} {σ : Sg} {e : Env} {h : Hp} {a : Act} {w : World} {f : Nat → Option Nat} {le : List (Nat × PV)} {lh : List (Nat × HB)}

def newSg (σ : Sg) (f : Nat → Option Nat) (n : List Nat) : Sg := fun k => if kin k n = true then (match f k with | some k' => σ k' | none => some (none, 0)) else none
theorem newSg_some {k k' : Nat} (h1 : kin k n = true) (h2 : f k = some k') : newSg σ f n k = σ k' := by unfold newSg; rw [if_pos h1, h2]
theorem ple_of {t : Nat} : ∀ {le : List (Nat × PV)}, PLes f n e le → PLe f n (ofL le t) (e t)
  | [], _ => by unfold ofL PLe; trivial
  | (t', v) :: l, hl => by
    unfold ofL
    cases hb : Nat.beq t t' with
    | true => rw [cond_true, Nat.eq_of_beq_eq_true hb]; exact hl.1
    | false => rw [cond_false]; exact ple_of hl.2
theorem hle_of {k : Nat} {b : HB} : ∀ {lh : List (Nat × HB)}, HLes f n h lh → hpL lh k = some b → kin k n = true ∧ KLe f n h k b
  | [], _, hb => by cases hb
  | (k', b') :: l, hl, hb => by
    unfold hpL at hb
    cases hq : Nat.beq k k' with
    | true =>
      rw [hq, cond_true] at hb
      cases hb
      rw [Nat.eq_of_beq_eq_true hq]; exact hl.1
    | false => rw [hq, cond_false] at hb; exact hle_of hl.2 hb
theorem injOn_out : ∀ {lh : List (Nat × HB)}, injOn f lh = true → ∀ k1 k2 b1 b2 x, (k1, b1) ∈ lh → (k2, b2) ∈ lh → f k1 = some x → f k2 = some x → k1 = k2
  | [], _, k1, k2, b1, b2, x, h1, _, _, _ => by cases h1
  | (k, b) :: l, hi, k1, k2, b1, b2, x, h1, h2, e1, e2 => by
    unfold injOn at hi
    simp only [Bool.and_eq_true] at hi
    obtain ⟨hi1, hi2⟩ := hi
    have one : ∀ q bq, (q, bq) ∈ l → f k = some x → f q = some x → q = k := by
      intro q bq hq ek eq
      have := List.all_eq_true.1 hi1 (q, bq) hq
      rw [ek, eq] at this
      simp only [Bool.or_eq_true, Bool.not_eq_true'] at this
      rcases this with this | this
      · exact Nat.eq_of_beq_eq_true this
      · have := Nat.beq_refl x; simp_all
    rcases List.mem_cons.1 h1 with h1 | h1
    · cases h1
      rcases List.mem_cons.1 h2 with h2 | h2
      · cases h2; rfl
      · exact (one k2 b2 h2 e1 e2).symm
    · rcases List.mem_cons.1 h2 with h2 | h2
      · cases h2; exact one k1 b1 h1 e2 e1
      · exact injOn_out hi2 k1 k2 b1 b2 x h1 h2 e1 e2

mutual
theorem drep_wk {F F' : Fzn} (hk : Keeps F F' w w) : ∀ (x y : D) (u : Value), DLe f n x y → DRep σ F w y u → DRep (newSg σ f n) F' w x u
  | .c x, y, u, hl, hr => by
    unfold DLe at hl
    split at hl
    · rename_i y
      unfold DRep at hr ⊢
      rcases hl with rfl | ⟨rfl, sz, rfl⟩
      · exact CRep.keeps hk _ _ hr
      · unfold CRep at hr ⊢
        obtain ⟨rfl, _⟩ := hr
        exact ⟨none, 0, rfl, Nat.le_refl _, Nat.zero_le _, fun _ => rfl, .inl rfl⟩
    · rename_i k e sz l
      subst hl
      have := rows_val (σ := σ) (F := F) (w := w) (x := .d (.app k e sz l)) (.inr ⟨k, e, rfl⟩) (u := u) (by unfold PRep; exact hr)
      unfold DRep
      refine CRep.keeps hk _ _ ?_
      unfold CRep
      exact this
    · exact hl.elim
  | .app k e sz l, y, u, hl, hr => by
    unfold DLe at hl
    split at hl
    · obtain ⟨h1, h2, rfl, rfl, rfl⟩ := hl
      unfold DRep at hr ⊢
      obtain ⟨g0, g⟩ := hr
      have hs := newSg_some (σ := σ) h1 h2
      refine ⟨g0, ?_⟩
      rcases g with ⟨g1, g2, g3⟩ | ⟨g, cap, cur, fr, g1, g3, g4, g5, g6, g7, g8⟩
      · exact .inl ⟨hs.trans g1, g2, g3⟩
      · exact .inr ⟨g, cap, cur, fr, hs.trans g1, g3, g4, g5, g6, g7, RowsAt.keeps hk _ _ _ _ g8⟩
    · obtain ⟨h1, h2, h3, rfl, rfl⟩ := hl
      unfold DRep CRep at hr
      unfold DRep
      have hs : newSg σ f n k = some (none, 0) := by unfold newSg; rw [if_pos h1, h2]
      exact ⟨h3, .inl ⟨hs, rfl, hr.1⟩⟩
    · exact hl.elim
  | .ptr k o, y, u, hl, hr => by
    unfold DLe at hl
    split at hl
    · obtain ⟨h1, h2, rfl⟩ := hl
      unfold DRep at hr ⊢
      obtain ⟨g, m, g1, g2⟩ := hr
      exact ⟨g, m, by unfold newSg; rw [if_pos h1, h2]; exact g1, g2⟩
    · exact hl.elim
  | .arr k e sz lo m, y, u, hl, hr => by
    unfold DLe at hl
    split at hl
    · obtain ⟨h1, h2, rfl, rfl, rfl, rfl⟩ := hl
      unfold DRep at hr ⊢
      obtain ⟨g0, g⟩ := hr
      have hs := newSg_some (σ := σ) h1 h2
      refine ⟨g0, ?_⟩
      rcases g with ⟨q, g1, g2, g3⟩ | ⟨g, q, off, cap, cur, fr, g1, g2⟩
      · exact .inl ⟨q, hs.trans g1, g2, g3⟩
      · exact .inr ⟨g, q, off, cap, cur, fr, hs.trans g1, g2⟩
    · obtain ⟨h1, h2, h3, rfl, rfl⟩ := hl
      unfold DRep CRep at hr
      unfold DRep
      have hs : newSg σ f n k = some (none, 0) := by unfold newSg; rw [if_pos h1, h2]
      exact ⟨h3, .inl ⟨0, hs, rfl, hr.1⟩⟩
    · exact hl.elim
  | .elt k sz i o, y, u, hl, hr => by
    unfold DLe at hl
    split at hl
    · obtain ⟨h1, h2, rfl, rfl, rfl⟩ := hl
      unfold DRep at hr ⊢
      obtain ⟨g, m, g1, g2⟩ := hr
      exact ⟨g, m, by unfold newSg; rw [if_pos h1, h2]; exact g1, g2⟩
    · exact hl.elim
  | .clo g a l, y, u, hl, hr => by
    unfold DLe at hl
    split at hl
    · obtain ⟨rfl, h1, h2⟩ := hl
      unfold DRep at hr ⊢
      obtain ⟨us, vs, rfl, g1, g2⟩ := hr
      exact ⟨us, vs, rfl, dsrep_wk hk a _ us h1 g1, dsrep_wk hk l _ vs h2 g2⟩
    · exact hl.elim
  | .optp k o, y, u, hl, hr => by
    unfold DLe at hl
    split at hl
    · obtain ⟨h1, h2, rfl⟩ := hl
      unfold DRep at hr ⊢
      exact hr.imp id fun ⟨g, m, g1, g2⟩ => ⟨g, m, (newSg_some h1 h2).trans g1, g2⟩
    · obtain ⟨h1, h2, rfl⟩ := hl
      unfold DRep at hr ⊢
      obtain ⟨g, m, g1, g2⟩ := hr
      exact .inr ⟨g, m, (newSg_some h1 h2).trans g1, g2⟩
    · subst hl
      unfold DRep CRep at hr
      unfold DRep
      exact .inl hr.1
    · exact hl.elim
  | .data k e l, y, u, hl, hr => by
    unfold DLe at hl
    split at hl
    · obtain ⟨h1, h2, rfl, rfl⟩ := hl
      unfold DRep at hr ⊢
      rcases hr with hr | ⟨h0, g, cur, fr, g1, g2, g3, g4, g5, g6⟩
      · exact .inl hr
      · exact .inr ⟨h0, g, cur, fr, (newSg_some h1 h2).trans g1, g2, g3, g4, g5, RowsAt.keeps hk _ _ _ _ g6⟩
    · exact hl.elim
theorem dsrep_wk {F F' : Fzn} (hk : Keeps F F' w w) : ∀ (xs ys : List D) (us : List Value), DLes f n xs ys → DsRep σ F w ys us → DsRep (newSg σ f n) F' w xs us
  | [], ys, us, hl, hr => by
    unfold DLes at hl
    subst hl
    rw [dsRep_nil_inv hr]; exact dsRep_nil
  | x :: xs, ys, us, hl, hr => by
    unfold DLes at hl
    split at hl
    · exact hl.elim
    · obtain ⟨u, vs, rfl, h1, h2⟩ := dsRep_inv hr
      exact dsRep_cons (drep_wk hk x _ u hl.1 h1) (dsrep_wk hk xs _ vs hl.2 h2)
end
mutual
theorem prep_wk {F F' : Fzn} (hk : Keeps F F' w w) : ∀ (x y : PV) (u : Value), PLe f n x y → PRep σ F w y u → PRep (newSg σ f n) F' w x u
  | .any, y, u, hl, hr => by unfold PRep; trivial
  | .d x, y, u, hl, hr => by
    unfold PLe at hl
    split at hl
    · unfold PRep at hr ⊢; exact drep_wk hk _ _ _ hl hr
    · exact hl.elim
  | .agg l, y, u, hl, hr => by
    unfold PLe at hl
    split at hl
    · unfold PRep at hr ⊢
      obtain ⟨xs, h1, h2⟩ := hr
      exact ⟨xs, h1, dsrep_wk hk _ _ _ hl h2⟩
    · exact hl.elim
  | .tup l, y, u, hl, hr => by
    unfold PLe at hl
    split at hl
    · unfold PRep at hr ⊢
      obtain ⟨xs, h1, h2⟩ := hr
      exact ⟨xs, h1, psrep_wk hk _ _ _ hl h2⟩
    · exact hl.elim
theorem psrep_wk {F F' : Fzn} (hk : Keeps F F' w w) : ∀ (xs ys : List PV) (us : List Value), PLeT f n xs ys → PsRep σ F w ys us → PsRep (newSg σ f n) F' w xs us
  | [], ys, us, hl, hr => by
    unfold PLeT at hl
    subst hl
    cases us with
    | nil => unfold PsRep; trivial
    | cons _ _ => unfold PsRep at hr; exact hr.elim
  | x :: xs, ys, us, hl, hr => by
    unfold PLeT at hl
    split at hl
    · exact hl.elim
    · cases us with
      | nil => unfold PsRep at hr; exact hr.elim
      | cons u us =>
        unfold PsRep at hr ⊢
        exact ⟨prep_wk hk x _ u hl.1 hr.1, psrep_wk hk xs _ us hl.2 hr.2⟩
end

theorem kin_mem : ∀ {n : List Nat} {k : Nat}, kin k n = true → k ∈ n
  | x :: xs, k, h => by
    unfold kin at h
    cases hq : Nat.beq k x with
    | true => rw [Nat.eq_of_beq_eq_true hq]; exact List.mem_cons_self ..
    | false => rw [hq, cond_false] at h; exact List.mem_cons_of_mem _ (kin_mem h)

/-- a kept key stands for an old one, or for nothing yet -/
theorem hb_old (hh : HLes f n h lh) : ∀ k hb, hpL lh k = some hb → kin k n = true ∧ ((∃ k' b', f k = some k' ∧ h k' = some b' ∧ HLe f n hb b') ∨ (f k = none ∧ ((∃ e sz, hb = .tail e sz ∧ 0 < sz) ∨ ∃ e sz, hb = .arr e sz [] ∧ 0 < sz))) := by
  intro k hb hk
  obtain ⟨h1, h2⟩ := hle_of hh hk
  refine ⟨h1, ?_⟩
  unfold KLe at h2
  split at h2
  · rename_i k' hf
    split at h2
    · rename_i b' hb'; exact .inl ⟨k', b', hf, hb', h2⟩
    · exact h2.elim
  · rename_i hf
    split at h2
    · exact .inr ⟨hf, .inl ⟨_, _, rfl, h2⟩⟩
    · obtain ⟨h3, rfl⟩ := h2; exact .inr ⟨hf, .inr ⟨_, _, rfl, h3⟩⟩
    · exact h2.elim
theorem hle_shut {hb b' : HB} (hl : HLe f n hb b') {m o : Nat} (hs : b'.shut m o) : hb.shut m o := by
  cases hb with
  | box bt l => cases b' with
    | box bt' m => exact hs
    | tail e sz => exact hl.elim
    | arr e sz rows => exact hl.elim
  | tail e sz => cases b' with
    | box bt' m => exact hl.elim
    | tail e' sz' => obtain ⟨_, rfl⟩ := hl; exact hs
    | arr e sz rows => exact hl.elim
  | arr e sz rows => cases b' with
    | box bt' m => exact hl.elim
    | tail e' sz' => exact hl.elim
    | arr e sz rows => exact hs
theorem hb_wk {F F' : Fzn} {own own' : Nat → Prop} (hk : Keeps F F' w w) (hown : ∀ g, own g → own' g) {k k' : Nat} {hb b' : HB} (hin : kin k n = true) (hf : f k = some k') (hl : HLe f n hb b') (ho : HbOk σ F w own k' b') : HbOk (newSg σ f n) F' w own' k hb := by
  have hsg : newSg σ f n k = σ k' := by unfold newSg; rw [if_pos hin, hf]
  cases hb with
  | box bt l => cases b' with
    | box bt' m =>
      obtain ⟨g, m', cs, r1, r2, r3, r4⟩ := ho
      obtain ⟨rfl, hl⟩ := hl
      exact ⟨g, m', cs, hsg.trans r1, hown _ r2, r3, dsrep_wk hk _ _ _ hl r4⟩
    | tail e sz => exact hl.elim
    | arr e sz rows => exact hl.elim
  | tail e sz => cases b' with
    | box bt' m => exact hl.elim
    | tail e' sz' =>
      obtain ⟨rfl, rfl⟩ := hl
      obtain ⟨r0, ob, m', r1, r2⟩ := ho
      refine ⟨r0, ob, m', hsg.trans r1, ?_⟩
      cases ob with
      | none => exact r2
      | some g => exact ⟨hown _ r2.1, r2.2⟩
    | arr e sz rows => exact hl.elim
  | arr e sz rows => cases b' with
    | box bt' m => exact hl.elim
    | tail e' sz' => exact hl.elim
    | arr e' sz' rows' =>
      obtain ⟨rfl, rfl, rfl⟩ := hl
      obtain ⟨r0, r00, ob, m', r1, r2⟩ := ho
      refine ⟨r0, r00, ob, m', hsg.trans r1, ?_⟩
      cases ob with
      | none => exact r2
      | some g =>
        obtain ⟨q1, cur, q2, q3, q4⟩ := r2
        exact ⟨hown _ q1, cur, q2, q3, CsRep.keeps hk _ _ q4⟩

theorem fkOk_out {fk : List Nat} (h : fkOk f n fk = true) : ∀ k ∈ fk, f k = some k ∧ kin k n = true := by
  induction fk with
  | nil => intro k hk; cases hk
  | cons q r ih =>
    intro k hk
    unfold fkOk at h
    simp only [Bool.and_eq_true] at h
    obtain ⟨h1, h2, h3⟩ := h
    rcases List.mem_cons.1 hk with rfl | hk
    · refine ⟨?_, h2⟩
      split at h1
      · rename_i k' hq; rw [hq, Nat.eq_of_beq_eq_true h1]
      · cases h1
    · exact ih h3 k hk
theorem sw_wk {fk : List Nat} (hfk : ∀ k, c.σ0 k ≠ none → k ∈ fk) (hs : SW c σ h w) (hi : injOn f lh = true) (hff : fkOk f n fk = true) (hh : HLes f n h lh) :
    Keeps (fz c σ h w) (fz c (newSg σ f n) (hpL lh) w) w w ∧ SW c (newSg σ f n) (hpL lh) w := by
  have old := hb_old hh
  have hkeep : Keeps (fz c σ h w) (fz c (newSg σ f n) (hpL lh) w) w w := by
    refine ⟨fun b o hf => hf.imp id fun ⟨f1, f2, f3⟩ => ⟨f1, f2, fun k m hb hk hσ => ?_⟩, fun _ _ _ => rfl⟩
    obtain ⟨g1, g2⟩ := old k hb hk
    unfold newSg at hσ
    rw [if_pos g1] at hσ
    rcases g2 with ⟨k', b', q1, q2, q3⟩ | ⟨q1, _⟩
    · rw [q1] at hσ
      exact hle_shut q3 (f3 k' m b' q2 hσ)
    · rw [q1] at hσ; cases hσ
  refine ⟨hkeep, hs.os, hs.tape, hs.output, hs.size, hs.block, fun k hb hk => ?_, fun k1 k2 g n1 n2 a1 a2 a3 a4 => ?_, hs.kept.trans hkeep, hs.shape, fun k x hk => ?_⟩
  · obtain ⟨g1, g2⟩ := old k hb hk
    rcases g2 with ⟨k', b', q1, q2, q3⟩ | ⟨q1, ⟨e, sz, rfl, q2⟩ | ⟨e, sz, rfl, q2⟩⟩
    · exact hb_wk hkeep (fun _ h => h) g1 q1 q3 (hs.hp k' b' q2)
    · exact ⟨q2, none, 0, by unfold newSg; rw [if_pos g1, q1], rfl⟩
    · exact ⟨q2, by simp, none, 0, by unfold newSg; rw [if_pos g1, q1], rfl⟩
  · cases hb1 : hpL lh k1 with
    | none => exact absurd hb1 a1
    | some b1 =>
      cases hb2 : hpL lh k2 with
      | none => exact absurd hb2 a2
      | some b2 =>
        obtain ⟨g1, g2⟩ := old k1 b1 hb1
        obtain ⟨g3, g4⟩ := old k2 b2 hb2
        unfold newSg at a3 a4
        rw [if_pos g1] at a3
        rw [if_pos g3] at a4
        rcases g2 with ⟨k1', b1', q1, q2, _⟩ | ⟨q1, _⟩
        · rcases g4 with ⟨k2', b2', r1, r2, _⟩ | ⟨r1, _⟩
          · rw [q1] at a3
            rw [r1] at a4
            have := hs.inj k1' k2' g n1 n2 (by rw [q2]; simp) (by rw [r2]; simp) a3 a4
            subst this
            exact injOn_out hi k1 k2 b1 b2 k1' (hpL_mem hb1) (hpL_mem hb2) q1 r1
          · rw [r1] at a4; cases a4
        · rw [q1] at a3; cases a3
  · obtain ⟨q1, q2⟩ := fkOk_out hff k (hfk k (by rw [hk]; simp))
    rw [newSg_some q2 q1]
    exact hs.sg0 k x hk
theorem st_wk {fk : List Nat} (hfk : ∀ k, c.σ0 k ≠ none → k ∈ fk) (hs : St c nt σ e h a w) (hw : Wk fk e h le lh n) : ∃ σ', St c nt σ' (ofL le) (hpL lh) a w ∧ ∀ k, k ∉ n → σ' k = none := by
  obtain ⟨f, hi, hff, he, hh⟩ := hw
  obtain ⟨hkeep, hsw⟩ := sw_wk hfk hs.toSW hi hff hh
  exact ⟨newSg σ (fnL f) n, ⟨hsw, fun t => prep_wk hkeep _ _ _ (ple_of he) (hs.env t), hs.defers, hs.nt⟩, fun k hk => by unfold newSg; rw [if_neg fun e => hk (kin_mem e)]⟩
end

end Go.Proofs.YthogcgnhhcbkkaaDoor.Pm
