/- Whole functions: what must be shown; that it suffices. -/
import Derived.Test.YtohlkegmmbdlaaaPmReg
import Derived.Deep.LoopGhost
import Derived.Scope
namespace Go.Proofs.Ytohlkegmmbdlaaa.Pm
open Go.RowKit
set_option linter.unusedVariables false
set_option linter.unusedSimpArgs false

/-! ### to know less; to name keys anew -/
def kin (k : Nat) : List Nat → Bool
  | [] => false
  | x :: xs => bif Nat.beq k x then true else kin k xs

def CLe (x y : C) : Prop := y = x ∨ (∃ sz, x = .sl sz []) ∧ (y = .v (.slice none 0 0) ∨ ∃ sz', y = .sl sz' [])
mutual
def DLe (f : Nat → Option Nat) (n : List Nat) : D → D → Prop
  | .c x, y => match y with
    | .c y => CLe x y
    | .app _ _ sz l => x = .sl sz l
    | .emp => ∃ sz, x = .sl sz []
    | _ => False
  | .app k e sz l, y => match y with
    | .app k' e' sz' l' => kin k n = true ∧ f k = some k' ∧ e' = e ∧ sz' = sz ∧ l' = l
    | .c y => kin k n = true ∧ f k = none ∧ 0 < sz ∧ l = [] ∧ y = .v (.slice none 0 0)
    | _ => False
  | .ptr k o, y => match y with
    | .ptr k' o' => kin k n = true ∧ f k = some k' ∧ o' = o
    | _ => False
  | .arr k e sz lo m, y => match y with
    | .arr k' e' sz' lo' m' => kin k n = true ∧ f k = some k' ∧ e' = e ∧ sz' = sz ∧ lo' = lo ∧ m' = m
    | .c y => kin k n = true ∧ f k = none ∧ 0 < sz ∧ m = 0 ∧ y = .v (.slice none 0 0)
    | .emp => kin k n = true ∧ f k = none ∧ 0 < sz ∧ m = 0
    | _ => False
  | .elt k sz i o, y => match y with
    | .elt k' sz' i' o' => kin k n = true ∧ f k = some k' ∧ sz' = sz ∧ i' = i ∧ o' = o
    | _ => False
  | .clo g a l, y => match y with
    | .clo g' a' l' => g' = g ∧ DLes f n a a' ∧ DLes f n l l'
    | _ => False
  | .optp k o, y => match y with
    | .optp k' o' => kin k n = true ∧ f k = some k' ∧ o' = o
    | .ptr k' o' => kin k n = true ∧ f k = some k' ∧ o' = o
    | .c y => y = .v (.pointer none)
    | _ => False
  | .data k e l, y => match y with
    | .data k' e' l' => kin k n = true ∧ f k = some k' ∧ e' = e ∧ l' = l
    | _ => False
  | .mp k, y => match y with
    | .mp k' => kin k n = true ∧ f k = some k'
    | _ => False
  | .emp, y => match y with
    | .emp => True
    | _ => False
def DLes (f : Nat → Option Nat) (n : List Nat) : List D → List D → Prop
  | [], y => y = []
  | x :: xs, y => match y with
    | [] => False
    | y :: ys => DLe f n x y ∧ DLes f n xs ys
end
def DLess (f : Nat → Option Nat) (n : List Nat) : List (List D) → List (List D) → Prop
  | [], y => y = []
  | x :: xs, y => match y with
    | [] => False
    | y :: ys => DLes f n x y ∧ DLess f n xs ys
mutual
def PLe (f : Nat → Option Nat) (n : List Nat) : PV → PV → Prop
  | .any, _ => True
  | .d x, y => match y with
    | .d y => DLe f n x y
    | _ => False
  | .agg l, y => match y with
    | .agg m => DLes f n l m
    | _ => False
  | .tup l, y => match y with
    | .tup m => PLeT f n l m
    | _ => False
def PLeT (f : Nat → Option Nat) (n : List Nat) : List PV → List PV → Prop
  | [], y => y = []
  | x :: xs, y => match y with
    | [] => False
    | y :: ys => PLe f n x y ∧ PLeT f n xs ys
end
/-- the slots that are kept -/
def ofL : List (Nat × PV) → Env
  | [], _ => .any
  | (t, v) :: l, j => bif Nat.beq j t then v else ofL l j
def PLes (f : Nat → Option Nat) (n : List Nat) (e : Env) : List (Nat × PV) → Prop
  | [] => True
  | (t, v) :: l => PLe f n v (e t) ∧ PLes f n e l
def HLe (f : Nat → Option Nat) (n : List Nat) : HB → HB → Prop
  | .box t l, .box t' m => t' = t ∧ DLes f n l m
  | .tail e sz, .tail e' sz' => e' = e ∧ sz' = sz
  | .arr e sz rows, .arr e' sz' rows' => e' = e ∧ sz' = sz ∧ rows' = rows
  | .mp l, .mp l' => l' = l
  | .darr e sz rows, .darr e' sz' rows' => e' = e ∧ sz' = sz ∧ DLess f n rows rows'
  | .darr e sz rows, .arr e' sz' rows' => e' = e ∧ sz' = sz ∧ rows = rows'.map (List.map D.c)
  | _, _ => False
def KLe (f : Nat → Option Nat) (n : List Nat) (h : Hp) (k : Nat) (b : HB) : Prop := match f k with
  | some k' => match h k' with
    | some b' => HLe f n b b'
    | none => False
  | none => match b with
    | .tail _ sz => 0 < sz
    | .arr _ sz rows => 0 < sz ∧ rows = []
    | .darr _ sz rows => 0 < sz ∧ rows = []
    | .mp _ => False
    | .box _ _ => False
def HLes (f : Nat → Option Nat) (n : List Nat) (h : Hp) : List (Nat × HB) → Prop
  | [] => True
  | (k, b) :: l => (kin k n = true ∧ KLe f n h k b) ∧ HLes f n h l
/-- no two keys that are kept stand for one old key -/
def injOn (f : Nat → Option Nat) : List (Nat × HB) → Bool
  | [] => true
  | (k, _) :: l => (l.all fun p => Nat.beq p.1 k || match f k, f p.1 with | some a, some b => !Nat.beq a b | _, _ => true) && injOn f l
/-- keys that were handed over keep their names -/
def fkOk (f : Nat → Option Nat) (n : List Nat) : List Nat → Bool
  | [] => true
  | k :: r => (match f k with | some k' => Nat.beq k' k | none => false) && (kin k n && fkOk f n r)
/-- e, h is worth what the lists say -/
inductive Wk (fk : List Nat) (e : Env) (h : Hp) (le : List (Nat × PV)) (lh : List (Nat × HB)) (n : List Nat) : Prop
  | mk (f : List (Nat × Nat)) (hi : injOn (fnL f) lh = true) (hf : fkOk (fnL f) n fk = true) (he : PLes (fnL f) n e le) (hh : HLes (fnL f) n h lh)

section
variable {c : Ctx} {nt : Nat} {n : List Nat} {σ : Sg} {e : Env} {h : Hp} {a : Act} {w : World} {f : Nat → Option Nat} {le : List (Nat × PV)} {lh : List (Nat × HB)}

def newSg (σ : Sg) (f : Nat → Option Nat) (n : List Nat) : Sg := fun k => if kin k n = true then (match f k with | some k' => σ k' | none => some (none, 0)) else none
theorem newSg_some {k k' : Nat} (h1 : kin k n = true) (h2 : f k = some k') : newSg σ f n k = σ k' := by unfold newSg; rw [if_pos h1, h2]
theorem ple_of {t : Nat} : ∀ {le : List (Nat × PV)}, PLes f n e le → PLe f n (ofL le t) (e t)
  | [], _ => by unfold ofL PLe; trivial
  | (t', v) :: l, hl => by
    unfold ofL
    cases hb : Nat.beq t t' with
    | true => rw [cond_true, Nat.eq_of_beq_eq_true hb]; exact hl.1
    | false => rw [cond_false]; exact ple_of hl.2
theorem hle_of {k : Nat} {b : HB} : ∀ {lh : List (Nat × HB)}, HLes f n h lh → hpL lh k = some b → kin k n = true ∧ KLe f n h k b
  | [], _, hb => by cases hb
  | (k', b') :: l, hl, hb => by
    unfold hpL at hb
    cases hq : Nat.beq k k' with
    | true =>
      rw [hq, cond_true] at hb
      cases hb
      rw [Nat.eq_of_beq_eq_true hq]; exact hl.1
    | false => rw [hq, cond_false] at hb; exact hle_of hl.2 hb
theorem injOn_out : ∀ {lh : List (Nat × HB)}, injOn f lh = true → ∀ k1 k2 b1 b2 x, (k1, b1) ∈ lh → (k2, b2) ∈ lh → f k1 = some x → f k2 = some x → k1 = k2
  | [], _, k1, k2, b1, b2, x, h1, _, _, _ => by cases h1
  | (k, b) :: l, hi, k1, k2, b1, b2, x, h1, h2, e1, e2 => by
    unfold injOn at hi
    simp only [Bool.and_eq_true] at hi
    obtain ⟨hi1, hi2⟩ := hi
    have one : ∀ q bq, (q, bq) ∈ l → f k = some x → f q = some x → q = k := by
      intro q bq hq ek eq
      have := List.all_eq_true.1 hi1 (q, bq) hq
      rw [ek, eq] at this
      simp only [Bool.or_eq_true, Bool.not_eq_true'] at this
      rcases this with this | this
      · exact Nat.eq_of_beq_eq_true this
      · have := Nat.beq_refl x; simp_all
    rcases List.mem_cons.1 h1 with h1 | h1
    · cases h1
      rcases List.mem_cons.1 h2 with h2 | h2
      · cases h2; rfl
      · exact (one k2 b2 h2 e1 e2).symm
    · rcases List.mem_cons.1 h2 with h2 | h2
      · cases h2; exact one k1 b1 h1 e2 e1
      · exact injOn_out hi2 k1 k2 b1 b2 x h1 h2 e1 e2

mutual
theorem drep_wk {F F' : Fzn} (hk : Keeps F F' w w) : ∀ (x y : D) (u : Value), DLe f n x y → DRep σ F w y u → DRep (newSg σ f n) F' w x u
  | .c x, y, u, hl, hr => by
    unfold DLe at hl
    split at hl
    · rename_i y
      unfold DRep at hr ⊢
      rcases hl with rfl | ⟨⟨sz, rfl⟩, rfl | ⟨sz', rfl⟩⟩
      · exact CRep.keeps hk _ _ hr
      · unfold CRep at hr ⊢
        obtain ⟨rfl, _⟩ := hr
        exact ⟨none, 0, rfl, Nat.le_refl _, Nat.zero_le _, fun _ => rfl, .inl rfl⟩
      · unfold CRep at hr ⊢
        obtain ⟨a, cap, h1, h2, h3, h4, _⟩ := hr
        exact ⟨a, cap, h1, h2, h3, h4, .inl rfl⟩
    · rename_i k e sz l
      subst hl
      have := rows_val (σ := σ) (F := F) (w := w) (x := .d (.app k e sz l)) (.inr ⟨k, e, rfl⟩) (u := u) (by unfold PRep; exact hr)
      unfold DRep
      refine CRep.keeps hk _ _ ?_
      unfold CRep
      exact this
    · obtain ⟨sz, rfl⟩ := hl
      unfold DRep at hr ⊢
      obtain ⟨a, rfl⟩ := hr
      unfold CRep
      exact ⟨a, 0, rfl, Nat.le_refl _, Nat.zero_le _, fun _ => rfl, .inl rfl⟩
    · exact hl.elim
  | .app k e sz l, y, u, hl, hr => by
    unfold DLe at hl
    split at hl
    · obtain ⟨h1, h2, rfl, rfl, rfl⟩ := hl
      unfold DRep at hr ⊢
      obtain ⟨g0, g⟩ := hr
      have hs := newSg_some (σ := σ) h1 h2
      refine ⟨g0, ?_⟩
      rcases g with ⟨g1, g2, g3⟩ | ⟨g, cap, cur, fr, g1, g3, g4, g5, g6, g7, g8⟩
      · exact .inl ⟨hs.trans g1, g2, g3⟩
      · exact .inr ⟨g, cap, cur, fr, hs.trans g1, g3, g4, g5, g6, g7, RowsAt.keeps hk _ _ _ _ g8⟩
    · obtain ⟨h1, h2, h3, rfl, rfl⟩ := hl
      unfold DRep CRep at hr
      unfold DRep
      have hs : newSg σ f n k = some (none, 0) := by unfold newSg; rw [if_pos h1, h2]
      exact ⟨h3, .inl ⟨hs, rfl, hr.1⟩⟩
    · exact hl.elim
  | .ptr k o, y, u, hl, hr => by
    unfold DLe at hl
    split at hl
    · obtain ⟨h1, h2, rfl⟩ := hl
      unfold DRep at hr ⊢
      obtain ⟨g, m, g1, g2⟩ := hr
      exact ⟨g, m, by unfold newSg; rw [if_pos h1, h2]; exact g1, g2⟩
    · exact hl.elim
  | .arr k e sz lo m, y, u, hl, hr => by
    unfold DLe at hl
    split at hl
    · obtain ⟨h1, h2, rfl, rfl, rfl, rfl⟩ := hl
      unfold DRep at hr ⊢
      obtain ⟨g0, g⟩ := hr
      have hs := newSg_some (σ := σ) h1 h2
      refine ⟨g0, ?_⟩
      rcases g with ⟨q, g1, g2, g3⟩ | ⟨g, q, off, cap, cur, fr, g1, g2⟩
      · exact .inl ⟨q, hs.trans g1, g2, g3⟩
      · exact .inr ⟨g, q, off, cap, cur, fr, hs.trans g1, g2⟩
    · obtain ⟨h1, h2, h3, rfl, rfl⟩ := hl
      unfold DRep CRep at hr
      unfold DRep
      have hs : newSg σ f n k = some (none, 0) := by unfold newSg; rw [if_pos h1, h2]
      exact ⟨h3, .inl ⟨0, hs, rfl, none, hr.1⟩⟩
    · obtain ⟨h1, h2, h3, rfl⟩ := hl
      unfold DRep at hr ⊢
      obtain ⟨a, hr⟩ := hr
      have hs : newSg σ f n k = some (none, 0) := by unfold newSg; rw [if_pos h1, h2]
      exact ⟨h3, .inl ⟨0, hs, rfl, a, hr⟩⟩
    · exact hl.elim
  | .elt k sz i o, y, u, hl, hr => by
    unfold DLe at hl
    split at hl
    · obtain ⟨h1, h2, rfl, rfl, rfl⟩ := hl
      unfold DRep at hr ⊢
      obtain ⟨g, m, g1, g2⟩ := hr
      exact ⟨g, m, by unfold newSg; rw [if_pos h1, h2]; exact g1, g2⟩
    · exact hl.elim
  | .clo g a l, y, u, hl, hr => by
    unfold DLe at hl
    split at hl
    · obtain ⟨rfl, h1, h2⟩ := hl
      unfold DRep at hr ⊢
      obtain ⟨us, vs, rfl, g1, g2⟩ := hr
      exact ⟨us, vs, rfl, dsrep_wk hk a _ us h1 g1, dsrep_wk hk l _ vs h2 g2⟩
    · exact hl.elim
  | .optp k o, y, u, hl, hr => by
    unfold DLe at hl
    split at hl
    · obtain ⟨h1, h2, rfl⟩ := hl
      unfold DRep at hr ⊢
      exact hr.imp id fun ⟨g, m, g1, g2⟩ => ⟨g, m, (newSg_some h1 h2).trans g1, g2⟩
    · obtain ⟨h1, h2, rfl⟩ := hl
      unfold DRep at hr ⊢
      obtain ⟨g, m, g1, g2⟩ := hr
      exact .inr ⟨g, m, (newSg_some h1 h2).trans g1, g2⟩
    · subst hl
      unfold DRep CRep at hr
      unfold DRep
      exact .inl hr.1
    · exact hl.elim
  | .data k e l, y, u, hl, hr => by
    unfold DLe at hl
    split at hl
    · obtain ⟨h1, h2, rfl, rfl⟩ := hl
      unfold DRep at hr ⊢
      rcases hr with hr | ⟨h0, g, cur, fr, g1, g2, g3, g4, g5, g6⟩
      · exact .inl hr
      · exact .inr ⟨h0, g, cur, fr, (newSg_some h1 h2).trans g1, g2, g3, g4, g5, RowsAt.keeps hk _ _ _ _ g6⟩
    · exact hl.elim
  | .mp k, y, u, hl, hr => by
    unfold DLe at hl
    split at hl
    · obtain ⟨h1, h2⟩ := hl
      unfold DRep at hr ⊢
      obtain ⟨g, m, g1, g2⟩ := hr
      exact ⟨g, m, (newSg_some h1 h2).trans g1, g2⟩
    · exact hl.elim
  | .emp, y, u, hl, hr => by
    unfold DLe at hl
    split at hl
    · unfold DRep at hr ⊢; exact hr
    · exact hl.elim
theorem dsrep_wk {F F' : Fzn} (hk : Keeps F F' w w) : ∀ (xs ys : List D) (us : List Value), DLes f n xs ys → DsRep σ F w ys us → DsRep (newSg σ f n) F' w xs us
  | [], ys, us, hl, hr => by
    unfold DLes at hl
    subst hl
    rw [dsRep_nil_inv hr]; exact dsRep_nil
  | x :: xs, ys, us, hl, hr => by
    unfold DLes at hl
    split at hl
    · exact hl.elim
    · obtain ⟨u, vs, rfl, h1, h2⟩ := dsRep_inv hr
      exact dsRep_cons (drep_wk hk x _ u hl.1 h1) (dsrep_wk hk xs _ vs hl.2 h2)
end
mutual
theorem prep_wk {F F' : Fzn} (hk : Keeps F F' w w) : ∀ (x y : PV) (u : Value), PLe f n x y → PRep σ F w y u → PRep (newSg σ f n) F' w x u
  | .any, y, u, hl, hr => by unfold PRep; trivial
  | .d x, y, u, hl, hr => by
    unfold PLe at hl
    split at hl
    · unfold PRep at hr ⊢; exact drep_wk hk _ _ _ hl hr
    · exact hl.elim
  | .agg l, y, u, hl, hr => by
    unfold PLe at hl
    split at hl
    · unfold PRep at hr ⊢
      obtain ⟨xs, h1, h2⟩ := hr
      exact ⟨xs, h1, dsrep_wk hk _ _ _ hl h2⟩
    · exact hl.elim
  | .tup l, y, u, hl, hr => by
    unfold PLe at hl
    split at hl
    · unfold PRep at hr ⊢
      obtain ⟨xs, h1, h2⟩ := hr
      exact ⟨xs, h1, psrep_wk hk _ _ _ hl h2⟩
    · exact hl.elim
theorem psrep_wk {F F' : Fzn} (hk : Keeps F F' w w) : ∀ (xs ys : List PV) (us : List Value), PLeT f n xs ys → PsRep σ F w ys us → PsRep (newSg σ f n) F' w xs us
  | [], ys, us, hl, hr => by
    unfold PLeT at hl
    subst hl
    cases us with
    | nil => unfold PsRep; trivial
    | cons _ _ => unfold PsRep at hr; exact hr.elim
  | x :: xs, ys, us, hl, hr => by
    unfold PLeT at hl
    split at hl
    · exact hl.elim
    · cases us with
      | nil => unfold PsRep at hr; exact hr.elim
      | cons u us =>
        unfold PsRep at hr ⊢
        exact ⟨prep_wk hk x _ u hl.1 hr.1, psrep_wk hk xs _ us hl.2 hr.2⟩
end

theorem kin_mem : ∀ {n : List Nat} {k : Nat}, kin k n = true → k ∈ n
  | x :: xs, k, h => by
    unfold kin at h
    cases hq : Nat.beq k x with
    | true => rw [Nat.eq_of_beq_eq_true hq]; exact List.mem_cons_self ..
    | false => rw [hq, cond_false] at h; exact List.mem_cons_of_mem _ (kin_mem h)

/-- a kept key stands for an old one, or for nothing yet -/
theorem hb_old (hh : HLes f n h lh) : ∀ k hb, hpL lh k = some hb → kin k n = true ∧ ((∃ k' b', f k = some k' ∧ h k' = some b' ∧ HLe f n hb b') ∨ (f k = none ∧ ((∃ e sz, hb = .tail e sz ∧ 0 < sz) ∨ (∃ e sz, hb = .arr e sz [] ∧ 0 < sz) ∨ ∃ e sz, hb = .darr e sz [] ∧ 0 < sz))) := by
  intro k hb hk
  obtain ⟨h1, h2⟩ := hle_of hh hk
  refine ⟨h1, ?_⟩
  unfold KLe at h2
  split at h2
  · rename_i k' hf
    split at h2
    · rename_i b' hb'; exact .inl ⟨k', b', hf, hb', h2⟩
    · exact h2.elim
  · rename_i hf
    split at h2
    · exact .inr ⟨hf, .inl ⟨_, _, rfl, h2⟩⟩
    · obtain ⟨h3, rfl⟩ := h2; exact .inr ⟨hf, .inr (.inl ⟨_, _, rfl, h3⟩)⟩
    · obtain ⟨h3, rfl⟩ := h2; exact .inr ⟨hf, .inr (.inr ⟨_, _, rfl, h3⟩)⟩
    · exact h2.elim
    · exact h2.elim
theorem dless_len : ∀ {l m : List (List D)}, DLess f n l m → m.length = l.length
  | [], m, h => by unfold DLess at h; subst h; rfl
  | x :: xs, m, h => by
    unfold DLess at h
    split at h
    · exact h.elim
    · rw [List.length_cons, List.length_cons, dless_len h.2]
theorem dles_len : ∀ {l m : List D}, DLes f n l m → m.length = l.length
  | [], m, h => by unfold DLes at h; subst h; rfl
  | x :: xs, m, h => by
    unfold DLes at h
    split at h
    · exact h.elim
    · rw [List.length_cons, List.length_cons, dles_len h.2]
theorem dless_row {s : Nat} : ∀ {l m : List (List D)}, DLess f n l m → (∀ r ∈ m, r.length = s) → ∀ r ∈ l, r.length = s
  | [], m, h, _, r, hr => by cases hr
  | x :: xs, m, h, hm, r, hr => by
    unfold DLess at h
    split at h
    · exact h.elim
    · rcases List.mem_cons.1 hr with rfl | hr
      · rw [← dles_len h.1]; exact hm _ (List.mem_cons_self ..)
      · exact dless_row h.2 (fun q hq => hm q (List.mem_cons_of_mem _ hq)) r hr
theorem dles_app : ∀ {a b c d : List D}, DLes f n a c → DLes f n b d → DLes f n (a ++ b) (c ++ d)
  | [], b, c, d, h1, h2 => by unfold DLes at h1; subst h1; exact h2
  | x :: xs, b, c, d, h1, h2 => by
    unfold DLes at h1
    split at h1
    · exact h1.elim
    · rw [List.cons_append, List.cons_append]; unfold DLes; exact ⟨h1.1, dles_app h1.2 h2⟩
theorem dless_flat : ∀ {l m : List (List D)}, DLess f n l m → DLes f n l.flatten m.flatten
  | [], m, h => by unfold DLess at h; subst h; unfold DLes; rfl
  | x :: xs, m, h => by
    unfold DLess at h
    split at h
    · exact h.elim
    · rw [List.flatten_cons, List.flatten_cons]; exact dles_app h.1 (dless_flat h.2)
theorem dless_app : ∀ {a b c d : List (List D)}, DLess f n a c → DLess f n b d → DLess f n (a ++ b) (c ++ d)
  | [], b, c, d, h1, h2 => by unfold DLess at h1; subst h1; exact h2
  | x :: xs, b, c, d, h1, h2 => by
    unfold DLess at h1
    split at h1
    · exact h1.elim
    · rw [List.cons_append, List.cons_append]; unfold DLess; exact ⟨h1.1, dless_app h1.2 h2⟩
theorem dles_cs : ∀ (l : List C), DLes f n (l.map D.c) (l.map D.c)
  | [] => by unfold DLes; rfl
  | x :: xs => by rw [List.map_cons]; unfold DLes; exact ⟨by unfold DLe; exact .inl rfl, dles_cs xs⟩
/-- rows of what is frozen are as they were -/
theorem dless_cs : ∀ (l : List (List C)), DLess f n (l.map (List.map D.c)) (l.map (List.map D.c))
  | [] => by unfold DLess; rfl
  | x :: xs => by rw [List.map_cons]; unfold DLess; exact ⟨dles_cs x, dless_cs xs⟩
theorem hle_shut {hb b' : HB} (hl : HLe f n hb b') {m o : Nat} (hs : b'.shut m o) : hb.shut m o := by
  cases b' with
  | box _ _ => exact hs.elim
  | arr _ _ _ => exact hs.elim
  | mp _ => exact hs.elim
  | darr _ _ _ => exact hs.elim
  | tail e' sz' =>
    cases hb with
    | tail e sz => obtain ⟨_, rfl⟩ := hl; exact hs
    | box _ _ => exact hl.elim
    | arr _ _ _ => exact hl.elim
    | mp _ => exact hl.elim
    | darr _ _ _ => exact hl.elim
theorem hb_wk {F F' : Fzn} {own own' : Nat → Prop} (hk : Keeps F F' w w) (hown : ∀ g, own g → own' g) {k k' : Nat} {hb b' : HB} (hin : kin k n = true) (hf : f k = some k') (hl : HLe f n hb b') (ho : HbOk σ F w own k' b') : HbOk (newSg σ f n) F' w own' k hb := by
  have hsg : newSg σ f n k = σ k' := by unfold newSg; rw [if_pos hin, hf]
  unfold HLe at hl
  split at hl
  · obtain ⟨g, m', cs, r1, r2, r3, r4⟩ := ho
    obtain ⟨rfl, hl⟩ := hl
    exact ⟨g, m', cs, hsg.trans r1, hown _ r2, r3, dsrep_wk hk _ _ _ hl r4⟩
  · obtain ⟨rfl, rfl⟩ := hl
    obtain ⟨r0, ob, m', r1, r2⟩ := ho
    refine ⟨r0, ob, m', hsg.trans r1, ?_⟩
    cases ob with
    | none => exact r2
    | some g => exact ⟨hown _ r2.1, r2.2⟩
  · obtain ⟨rfl, rfl, rfl⟩ := hl
    obtain ⟨r0, r00, ob, m', r1, r2⟩ := ho
    refine ⟨r0, r00, ob, m', hsg.trans r1, ?_⟩
    cases ob with
    | none => exact r2
    | some g =>
      obtain ⟨q1, cur, q2, q3, q4⟩ := r2
      exact ⟨hown _ q1, cur, q2, q3, CsRep.keeps hk _ _ q4⟩
  · obtain rfl := hl
    obtain ⟨g, m', es, cl, r1, r2, r3⟩ := ho
    exact ⟨g, m', es, cl, hsg.trans r1, hown _ r2, r3⟩
  · obtain ⟨rfl, rfl, hl⟩ := hl
    obtain ⟨r0, r00, ob, m', r1, r2⟩ := ho
    have hlen := dless_len hl
    refine ⟨r0, dless_row hl r00, ob, m', hsg.trans r1, ?_⟩
    cases ob with
    | none => subst r2; exact List.eq_nil_of_length_eq_zero hlen.symm
    | some g =>
      obtain ⟨q1, cur, q2, q3, q4⟩ := r2
      rw [hlen] at q3 q4
      exact ⟨hown _ q1, cur, q2, q3, dsrep_wk hk _ _ _ (dless_flat hl) q4⟩
  · rename_i e sz rows e' sz' rows'
    obtain ⟨rfl, rfl, rfl⟩ := hl
    obtain ⟨r0, r00, ob, m', r1, r2⟩ := ho
    refine ⟨r0, fun r hr => ?_, ob, m', hsg.trans r1, ?_⟩
    · obtain ⟨r', hr', rfl⟩ := List.mem_map.1 hr
      rw [List.length_map]; exact r00 r' hr'
    · cases ob with
      | none => subst r2; rfl
      | some g =>
        obtain ⟨q1, cur, q2, q3, q4⟩ := r2
        refine ⟨hown _ q1, cur, q2, by rw [List.length_map]; exact q3, ?_⟩
        rw [List.length_map, show (rows'.map (List.map D.c)).flatten = rows'.flatten.map D.c by rw [List.map_flatten]]
        exact dsRep_of_cs (CsRep.keeps hk _ _ q4)
  · exact hl.elim

theorem fkOk_out {fk : List Nat} (h : fkOk f n fk = true) : ∀ k ∈ fk, f k = some k ∧ kin k n = true := by
  induction fk with
  | nil => intro k hk; cases hk
  | cons q r ih =>
    intro k hk
    unfold fkOk at h
    simp only [Bool.and_eq_true] at h
    obtain ⟨h1, h2, h3⟩ := h
    rcases List.mem_cons.1 hk with rfl | hk
    · refine ⟨?_, h2⟩
      split at h1
      · rename_i k' hq; rw [hq, Nat.eq_of_beq_eq_true h1]
      · cases h1
    · exact ih h3 k hk
theorem sw_wk {fk : List Nat} (hfk : ∀ k, c.σ0 k ≠ none → k ∈ fk) (hs : SW c σ h w) (hi : injOn f lh = true) (hff : fkOk f n fk = true) (hh : HLes f n h lh) :
    Keeps (fz c σ h w) (fz c (newSg σ f n) (hpL lh) w) w w ∧ SW c (newSg σ f n) (hpL lh) w := by
  have old := hb_old hh
  have hkeep : Keeps (fz c σ h w) (fz c (newSg σ f n) (hpL lh) w) w w := by
    refine ⟨fun b o hf => hf.imp id fun ⟨f1, f2, f3⟩ => ⟨f1, f2, fun k m hb hk hσ => ?_⟩, fun _ _ _ => rfl⟩
    obtain ⟨g1, g2⟩ := old k hb hk
    unfold newSg at hσ
    rw [if_pos g1] at hσ
    rcases g2 with ⟨k', b', q1, q2, q3⟩ | ⟨q1, _⟩
    · rw [q1] at hσ
      exact hle_shut q3 (f3 k' m b' q2 hσ)
    · rw [q1] at hσ; cases hσ
  refine ⟨hkeep, hs.os, hs.tape, hs.output, hs.size, hs.block, fun k hb hk => ?_, fun k1 k2 g n1 n2 a1 a2 a3 a4 => ?_, hs.kept.trans hkeep, hs.shape, fun k x hk => ?_⟩
  · obtain ⟨g1, g2⟩ := old k hb hk
    rcases g2 with ⟨k', b', q1, q2, q3⟩ | ⟨q1, ⟨e, sz, rfl, q2⟩ | ⟨e, sz, rfl, q2⟩ | ⟨e, sz, rfl, q2⟩⟩
    · exact hb_wk hkeep (fun _ h => h) g1 q1 q3 (hs.hp k' b' q2)
    · exact ⟨q2, none, 0, by unfold newSg; rw [if_pos g1, q1], rfl⟩
    · exact ⟨q2, by simp, none, 0, by unfold newSg; rw [if_pos g1, q1], rfl⟩
    · exact ⟨q2, by simp, none, 0, by unfold newSg; rw [if_pos g1, q1], rfl⟩
  · cases hb1 : hpL lh k1 with
    | none => exact absurd hb1 a1
    | some b1 =>
      cases hb2 : hpL lh k2 with
      | none => exact absurd hb2 a2
      | some b2 =>
        obtain ⟨g1, g2⟩ := old k1 b1 hb1
        obtain ⟨g3, g4⟩ := old k2 b2 hb2
        unfold newSg at a3 a4
        rw [if_pos g1] at a3
        rw [if_pos g3] at a4
        rcases g2 with ⟨k1', b1', q1, q2, _⟩ | ⟨q1, _⟩
        · rcases g4 with ⟨k2', b2', r1, r2, _⟩ | ⟨r1, _⟩
          · rw [q1] at a3
            rw [r1] at a4
            have := hs.inj k1' k2' g n1 n2 (by rw [q2]; simp) (by rw [r2]; simp) a3 a4
            subst this
            exact injOn_out hi k1 k2 b1 b2 k1' (hpL_mem hb1) (hpL_mem hb2) q1 r1
          · rw [r1] at a4; cases a4
        · rw [q1] at a3; cases a3
  · obtain ⟨q1, q2⟩ := fkOk_out hff k (hfk k (by rw [hk]; simp))
    rw [newSg_some q2 q1]
    exact hs.sg0 k x hk
theorem st_wk {fk : List Nat} (hfk : ∀ k, c.σ0 k ≠ none → k ∈ fk) (hs : St c nt σ e h a w) (hw : Wk fk e h le lh n) : ∃ σ', St c nt σ' (ofL le) (hpL lh) a w ∧ ∀ k, k ∉ n → σ' k = none := by
  obtain ⟨f, hi, hff, he, hh⟩ := hw
  obtain ⟨hkeep, hsw⟩ := sw_wk hfk hs.toSW hi hff hh
  exact ⟨newSg σ (fnL f) n, ⟨hsw, fun t => prep_wk hkeep _ _ _ (ple_of he) (hs.env t), hs.defers, hs.nt⟩, fun k hk => by unfold newSg; rw [if_neg fun e => hk (kin_mem e)]⟩
end

end Go.Proofs.Ytohlkegmmbdlaaa.Pm

namespace Go.Proofs.Ytohlkegmmbdlaaa.Pm
open Go.RowKit
set_option linter.unusedVariables false

abbrev Cont := Exit → Env → Hp → List Nat → Prop
/-- what stands behind -/
def seqK (next : Env → Hp → List Nat → Prop) (Q : Cont) : Cont := fun x e h n => match x with
  | .normal => next e h n
  | x => Q x e h n
def blockK (id : Nat) (Q : Cont) : Cont := fun x e h n => match x with
  | .exit id' => match Nat.beq id' id with
    | true => Q .normal e h n
    | false => Q (.exit id') e h n
  | x => Q x e h n
def scopeK (Q : Cont) : Cont := fun x e h n => match x with
  | .goto _ => False
  | x => Q x e h n
/-- a loop's round: the next state -/
inductive Round (fk : List Nat) (S : Type) (E : S → List (Nat × PV)) (H : S → List (Nat × HB)) (n : List Nat) (inv : S → Prop) (μ : S → Nat) (s : S) (e : Env) (h : Hp) : Prop
  | mk (s' : S) (hi : inv s') (hμ : μ s' < μ s) (hw : Wk fk e h (E s') (H s') n)
def roundK (fk : List Nat) (S : Type) (E : S → List (Nat × PV)) (H : S → List (Nat × HB)) (n : List Nat) (inv : S → Prop) (μ : S → Nat) (s : S) (Q : Cont) : Cont := fun x e h m => match x with
  | .normal => Round fk S E H n inv μ s e h
  | x => Q x e h m
/-- a loop: what holds at each round's head, of a state S; a measure -/
inductive LoopC (fk : List Nat) (body : Env → Hp → List Nat → Cont → Prop) (e : Env) (h : Hp) (Q : Cont) : Prop
  | mk (S : Type) (E : S → List (Nat × PV)) (H : S → List (Nat × HB)) (n : List Nat) (inv : S → Prop) (μ : S → Nat) (s0 : S) (h0 : inv s0) (hm : Wk fk e h (E s0) (H s0) n)
      (round : ∀ s, inv s → body (ofL (E s)) (hpL (H s)) n (roundK fk S E H n inv μ s Q))
abbrev VT := Env → Hp → List Nat → Cont → Prop
noncomputable def vc (P : Program) (nt : Nat) (fk : List Nat) (X : XT) (cd : Code) : VT :=
  Code.rec (motive := fun _ => VT)
    (fun e h n Q => Q .normal e h n)
    (fun _ ops draw e h n Q => regionP P nt ops draw e h n X fun e' h' n' => Q .normal e' h' n')
    (fun _ _ ix iy e h n Q => ix e h n (seqK (fun e' h' n' => iy e' h' n' Q) Q))
    (fun c _ _ ix iy e h n Q => match ev e c with
      | .d (.c (.v (.bool b))) => BCase b (ix e h n Q) (iy e h n Q)
      | _ => False)
    (fun id _ i e h n Q => i e h n (blockK id Q))
    (fun _ i e h n Q => LoopC fk i e h Q)
    (fun _ _ _ _ _ _ _ _ _ _ => False)
    (fun id e h n Q => Q (.exit id) e h n)
    (fun _ i e h n Q => i e h n (scopeK Q))
    (fun _ _ _ _ _ => False)
    (fun _ _ _ _ _ => False)
    (fun e h n Q => Q .ret e h n)
    (fun _ _ _ _ _ => False) cd
theorem vc_cond {P : Program} {nt : Nat} {fk : List Nat} {X : XT} {c : Operand} {x y : Code} {e : Env} {h : Hp} {n : List Nat} {Q : Cont} :
    vc P nt fk X (.cond c x y) e h n Q = match ev e c with
      | .d (.c (.v (.bool b))) => BCase b (vc P nt fk X x e h n Q) (vc P nt fk X y e h n Q)
      | _ => False := rfl

/-- what holds behind -/
def After (c : Ctx) (nt : Nat) (X : XT) (Q : Cont) : Exit → Act → World → Prop := fun x a w => match x with
  | .panic ch => ∃ v, ch = [{ v := v, recovered := false }] ∧ ∃ e h n σ, X v e h n ∧ St c nt σ e h a w ∧ ∀ k, k ∉ n → σ k = none
  | x => ∃ e h n σ, Q x e h n ∧ St c nt σ e h a w ∧ ∀ k, k ∉ n → σ k = none

theorem vc_out {P : Program} {nt : Nat} {fk : List Nat} {X : XT} {c : Ctx} (hfk : ∀ k, c.σ0 k ≠ none → k ∈ fk) (hc : c.Ok) (hm : P.follows .mixedOrders = true) : ∀ (cd : Code) (e : Env) (h : Hp) (n : List Nat) (Q : Cont) (σ : Sg) (a : Act) (w : World), vc P nt fk X cd e h n Q → St c nt σ e h a w → (∀ k, k ∉ n → σ k = none) →
    cd.wp P (After c nt X Q) a w
  | .skip, e, h, n, Q, σ, a, w, hv, hs, hf => wp_skip ⟨e, h, n, σ, hv, hs, hf⟩
  | .region id ops draw, e, h, n, Q, σ, a, w, hv, hs, hf =>
    region_out hc hm hv (fun x e h n σ a w hx hs hf => ⟨x, rfl, e, h, n, σ, hx, hs, hf⟩) hs hf fun e' h' n' σ' a' w' hk hs' hf' => ⟨e', h', n', σ', hk, hs', hf'⟩
  | .seq x y, e, h, n, Q, σ, a, w, hv, hs, hf => by
    refine wp_seq (wp_mono (vc_out hfk hc hm x e h n _ σ a w hv hs hf) ?_)
    intro ex a' w' hq
    cases ex with
    | normal =>
      obtain ⟨e', h', n', σ', hq, hs', hf'⟩ := hq
      exact vc_out hfk hc hm y e' h' n' Q σ' a' w' hq hs' hf'
    | exit id => exact hq
    | goto l => exact hq
    | ret => exact hq
    | panic ch => exact hq
    | outgrown => exact hq
  | .cond o x y, e, h, n, Q, σ, a, w, hv, hs, hf => by
    rw [vc_cond] at hv
    split at hv
    · rename_i b hb
      have h1 := rep_ev hs o
      rw [hb] at h1
      have h2 := rep_v h1
      obtain ⟨ht, hff⟩ := hv
      refine wp_cond_split h2 (fun hb' => vc_out hfk hc hm x e h n Q σ a w (ht hb') hs hf) (fun hb' => vc_out hfk hc hm y e h n Q σ a w (hff hb') hs hf)
    · exact hv.elim
  | .block id cd, e, h, n, Q, σ, a, w, hv, hs, hf => by
    refine wp_block (wp_mono (vc_out hfk hc hm cd e h n _ σ a w hv hs hf) ?_)
    intro ex a' w' hq
    cases ex with
    | exit id' =>
      obtain ⟨e', h', n', σ', hq, hs', hf'⟩ := hq
      simp only [Exit.inBlock]
      simp only [blockK] at hq
      split at hq
      · rename_i hb
        rw [if_pos (Nat.eq_of_beq_eq_true hb)]
        exact ⟨e', h', n', σ', hq, hs', hf'⟩
      · rename_i hb
        rw [if_neg (fun e => by subst e; rw [Nat.beq_refl] at hb; cases hb)]
        exact ⟨e', h', n', σ', hq, hs', hf'⟩
    | normal => exact hq
    | goto l => exact hq
    | ret => exact hq
    | panic ch => exact hq
    | outgrown => exact hq
  | .loop cd, e, h, n, Q, σ, a, w, hv, hs, hf => by
    obtain ⟨S, E, H, m, inv, μ, s0, h0, hw, round⟩ := hv
    obtain ⟨σ0, hs0, hf0⟩ := st_wk hfk hs hw
    refine wp_loop_ghost (fun k a' w' => ∃ s σ, μ s = k ∧ inv s ∧ St c nt σ (ofL (E s)) (hpL (H s)) a' w' ∧ ∀ q, q ∉ m → σ q = none) (μ s0) ⟨s0, σ0, rfl, h0, hs0, hf0⟩ ?_
    rintro k a1 w1 ⟨s1, σ1, rfl, h1, h2, h3⟩
    refine wp_mono (vc_out hfk hc hm cd _ _ _ _ σ1 a1 w1 (round s1 h1) h2 h3) ?_
    intro ex a' w' hq
    cases ex with
    | normal =>
      obtain ⟨e', h', n', σ', hq, hs', hf'⟩ := hq
      obtain ⟨s2, i2, lt, hw2⟩ := hq
      obtain ⟨σ2, hs2, hf2⟩ := st_wk hfk hs' hw2
      exact ⟨μ s2, lt, s2, σ2, rfl, i2, hs2, hf2⟩
    | exit id => exact hq
    | goto l => exact hq
    | ret => exact hq
    | panic ch => exact hq
    | outgrown => exact hq
  | .exit id, e, h, n, Q, σ, a, w, hv, hs, hf => wp_exit ⟨e, h, n, σ, hv, hs, hf⟩
  | .scope cd, e, h, n, Q, σ, a, w, hv, hs, hf => by
    refine wp_scope_straight (wp_mono (vc_out hfk hc hm cd e h n _ σ a w hv hs hf) ?_)
    intro ex a' w' hq
    cases ex with
    | goto l => obtain ⟨e', h', n', σ', hq, hs', hf'⟩ := hq; exact hq
    | normal => exact hq
    | exit id => exact hq
    | ret => exact hq
    | panic ch => exact hq
    | outgrown => exact hq
  | .ret, e, h, n, Q, σ, a, w, hv, hs, hf => wp_ret ⟨e, h, n, σ, hv, hs, hf⟩
  | .rangeFunc _ _ _ _, e, h, n, Q, σ, a, w, hv, hs, hf => False.elim hv
  | .label _, e, h, n, Q, σ, a, w, hv, hs, hf => False.elim hv
  | .goto _, e, h, n, Q, σ, a, w, hv, hs, hf => False.elim hv
  | .refuse _, e, h, n, Q, σ, a, w, hv, hs, hf => False.elim hv


/-! ### what a function hands back -/
def resP (P : Program) (h : Hp) (e : Env) : List ResultVar → (List PV → Prop) → Prop
  | [], K => K []
  | .tmp t :: rs, K => PV.force (e t) fun v => resP P h e rs fun vs => K (v :: vs)
  | .cell t ty :: rs, K => loadP P h ty (e t) fun v _ => resP P h e rs fun vs => K (v :: vs)
/-- what a function hands back: an array of its own may be closed, for nobody writes it any more -/
def D.closeA (h : Hp) (x : D) (K : C → Prop) : Prop := match x with
  | .c y => K y
  | .app _ _ sz l => K (.sl sz l)
  | .arr k _ sz lo n => match h k with
    | some (.arr _ s rows) => match Nat.beq s sz with
      | true => Need (lo + n ≤ rows.length) (K (.sl sz ((rows.drop lo).take n)))
      | false => False
    | _ => False
  | .clo f [] [] => K (.v (.func (.func f) #[] #[]))
  | _ => False
/-- what closes to what -/
def ClL (h : Hp) : List D → List C → Prop
  | [], ys => ys = []
  | x :: xs, ys => match ys with
    | [] => False
    | y :: ys => D.closeA h x (fun z => z = y) ∧ ClL h xs ys
def ClR (h : Hp) : List (List D) → List (List C) → Prop
  | [], ys => ys = []
  | x :: xs, ys => match ys with
    | [] => False
    | y :: ys => ClL h x y ∧ ClR h xs ys
/-- rows that are closed -/
inductive RowsC (h : Hp) (rows : List (List D)) (K : List (List C) → Prop) : Prop
  | mk (rs : List (List C)) (hr : ClR h rows rs) (hk : K rs)
theorem clL_cs {h : Hp} : ∀ l : List C, ClL h (l.map D.c) l
  | [] => by unfold ClL; rfl
  | x :: xs => by rw [List.map_cons]; unfold ClL; exact ⟨rfl, clL_cs xs⟩
theorem clR_cs {h : Hp} : ∀ l : List (List C), ClR h (l.map (List.map D.c)) l
  | [] => by unfold ClR; rfl
  | x :: xs => by rw [List.map_cons]; unfold ClR; exact ⟨clL_cs x, clR_cs xs⟩
theorem clR_app {h : Hp} : ∀ {a b : List (List D)} {c d : List (List C)}, ClR h a c → ClR h b d → ClR h (a ++ b) (c ++ d)
  | [], b, c, d, h1, h2 => by unfold ClR at h1; subst h1; exact h2
  | x :: xs, b, c, d, h1, h2 => by
    unfold ClR at h1
    split at h1
    · exact h1.elim
    · rw [List.cons_append, List.cons_append]; unfold ClR; exact ⟨h1.1, clR_app h1.2 h2⟩
def D.closeH (h : Hp) (x : D) (K : C → Prop) : Prop := match x with
  | .c y => K y
  | .app _ _ sz l => K (.sl sz l)
  | .arr k _ sz lo n => match h k with
    | some (.arr _ s rows) => match Nat.beq s sz with
      | true => Need (lo + n ≤ rows.length) (K (.sl sz ((rows.drop lo).take n)))
      | false => False
    | some (.darr _ s rows) => match Nat.beq s sz with
      | true => RowsC h rows fun rs => Need (lo + n ≤ rs.length) (K (.sl sz ((rs.drop lo).take n)))
      | false => False
    | _ => False
  | .clo f [] [] => K (.v (.func (.func f) #[] #[]))
  | _ => False
def closeHL (h : Hp) : List D → (List C → Prop) → Prop
  | [], K => K []
  | x :: xs, K => D.closeH h x fun y => closeHL h xs fun ys => K (y :: ys)
mutual
def PV.closeH (h : Hp) : PV → (PV → Prop) → Prop
  | .d x, K => D.closeH h x fun y => K (.d (.c y))
  | .agg l, K => closeHL h l fun ys => K (.agg (ys.map D.c))
  | .tup l, K => closeHPs h l fun ys => K (.tup ys)
  | .any, _ => False
def closeHPs (h : Hp) : List PV → (List PV → Prop) → Prop
  | [], K => K []
  | x :: xs, K => PV.closeH h x fun y => closeHPs h xs fun ys => K (y :: ys)
end
inductive Ret (v r : PV) : Prop
  | mk (h : v = r)
  | le (h : PLe (fun _ => none) [] r v)
def tupOf (vs : List PV) (K : PV → Prop) : Prop := match vs with
  | [v] => K v
  | vs => K (.tup vs)
def retQ (P : Program) (fn : Func) (res : PV) : Cont := fun x e h _ => match x with
  | .normal => resP P h e fn.results.toList fun vs => closeHPs h vs fun vs => tupOf vs fun v => Ret v res
  | .ret => resP P h e fn.results.toList fun vs => closeHPs h vs fun vs => tupOf vs fun v => Ret v res
  | _ => False
/-- what it hands back with keys -/
inductive RetS (fk : List Nat) (h : Hp) (res : PV) (fin : Rf) (v : PV) : Prop
  | mk (f : List (Nat × Nat)) (n : List Nat) (hi : injOn (fnL f) fin = true) (hf : fkOk (fnL f) n fk = true) (hr : PLe (fnL f) n res v) (hh : HLes (fnL f) n h fin)
def retS (P : Program) (fn : Func) (fk : List Nat) (res : PV) (fin : Rf) : Cont := fun x e h _ => match x with
  | .normal => resP P h e fn.results.toList fun vs => tupOf vs fun v => RetS fk h res fin v
  | .ret => resP P h e fn.results.toList fun vs => tupOf vs fun v => RetS fk h res fin v
  | _ => False
def argsE (l : List PV) : Env := fun t => match l[t]? with
  | some v => v
  | none => .tup []

theorem loadP_run {P : Program} {c : Ctx} {σ : Sg} {h : Hp} {w : World} {t : TypeId} {x : PV} {K : PV → Rf → Prop} (hv : loadP P h t x K) (hs : SW c σ h w) {u : Value} (hu : PRep σ (fz c σ h w) w x u) :
    ∃ v z rf, K v rf ∧ (Instr.loadAt t u).run P w = .ok z w ∧ (∃ ad, u = .pointer (some ad)) ∧ PRep σ (fz c σ h w) w v z := by
  unfold loadP at hv
  split at hv
  · rename_i l
    obtain ⟨v, h1, h2⟩ := readP_out hv
    unfold PRep DRep CRep at hu
    obtain ⟨b, off, rfl, e3⟩ := hu
    obtain ⟨us, e4, e5, _⟩ := csAt_values e3
    obtain ⟨z, h3, h4⟩ := h2 σ _ w b off us (dsRep_of_cs e4) e5
    exact ⟨v, z, _, h1, by simp only [Instr.loadAt, Instr.sureAddr, Sem.run_bind, Sem.run_pure, Result.andThen_ok, h3], ⟨_, rfl⟩, h4⟩
  · rename_i k off
    split at hv
    · rename_i bt l hk
      obtain ⟨v, h1, h2⟩ := readP_out hv
      unfold PRep DRep at hu
      obtain ⟨g, n, e2, rfl⟩ := hu
      obtain ⟨g', n', cur, e4, e5, e6, e7⟩ := hs.hp k _ hk
      rw [e2] at e4; cases e4
      obtain ⟨z, h3, h4⟩ := h2 σ _ w g off (cur.toList.drop off) (e7.drop off) (fun j v hv => by
        rw [cell_of_row _ _ _ _ _ _ e6]
        rw [List.getElem?_drop] at hv
        simpa using hv)
      exact ⟨v, z, _, h1, by simp only [Instr.loadAt, Instr.sureAddr, Sem.run_bind, Sem.run_pure, Result.andThen_ok, h3], ⟨_, rfl⟩, h4⟩
    · exact hv.elim
  · rename_i k sz j off
    split at hv
    · rename_i e0 s rows hk
      split at hv
      · rename_i es
        obtain rfl := Nat.eq_of_beq_eq_true es
        obtain ⟨r, hr, hv⟩ := hv
        obtain ⟨v, h1, h2⟩ := readP_out hv
        unfold PRep DRep at hu
        obtain ⟨g, n, e2, rfl⟩ := hu
        obtain ⟨hz, hrl, ob, n', e4, e5⟩ := hs.hp k _ hk
        rw [e2] at e4; cases e4
        obtain ⟨e5, cur, e6, e7, e8⟩ := e5
        have hrep := row_rep hrl hr e8
        obtain ⟨z, h3, h4⟩ := h2 σ _ w g (j * s + off) ((((cur.toList.take (rows.length * s)).drop (j * s)).take s).drop off) (dsRep_of_cs (hrep.drop off)) (fun q v hv => by
          rw [cell_of_row _ _ _ _ _ _ e6]
          rw [List.getElem?_drop, List.getElem?_take] at hv
          split at hv
          · rw [List.getElem?_drop, List.getElem?_take] at hv
            split at hv
            · rw [← Array.getElem?_toList, ← hv]; congr 1; omega
            · cases hv
          · cases hv)
        exact ⟨v, z, _, h1, by simp only [Instr.loadAt, Instr.sureAddr, Sem.run_bind, Sem.run_pure, Result.andThen_ok, h3], ⟨_, rfl⟩, h4⟩
      · exact hv.elim
    · rename_i e0 s rows hk
      split at hv
      · rename_i es
        obtain rfl := Nat.eq_of_beq_eq_true es
        obtain ⟨r, hr, hv⟩ := hv
        obtain ⟨v, h1, h2⟩ := readP_out hv
        unfold PRep DRep at hu
        obtain ⟨g, n, e2, rfl⟩ := hu
        obtain ⟨hz, hrl, ob, n', e4, e5⟩ := hs.hp k _ hk
        rw [e2] at e4; cases e4
        obtain ⟨e5, cur, e6, e7, e8⟩ := e5
        have hrep := drow_rep hrl hr e8
        obtain ⟨z, h3, h4⟩ := h2 σ _ w g (j * s + off) ((((cur.toList.take (rows.length * s)).drop (j * s)).take s).drop off) (hrep.drop off) (fun q v hv => by
          rw [cell_of_row _ _ _ _ _ _ e6]
          rw [List.getElem?_drop, List.getElem?_take] at hv
          split at hv
          · rw [List.getElem?_drop, List.getElem?_take] at hv
            split at hv
            · rw [← Array.getElem?_toList, ← hv]; congr 1; omega
            · cases hv
          · cases hv)
        exact ⟨v, z, _, h1, by simp only [Instr.loadAt, Instr.sureAddr, Sem.run_bind, Sem.run_pure, Result.andThen_ok, h3], ⟨_, rfl⟩, h4⟩
      · exact hv.elim
    · exact hv.elim
  · exact hv.elim

def resF (tmps : Array Value) : ResultVar → Sem Value
  | .tmp t => pure (tmps.getD t undef)
  | .cell a t => do loadVar t (← asAddr (tmps.getD a undef))
theorem resP_out {P : Program} {c : Ctx} {nt : Nat} {σ : Sg} {e : Env} {h : Hp} {a : Act} {w : World} (hs : St c nt σ e h a w) : ∀ {rs : List ResultVar} {K : List PV → Prop}, resP P h e rs K →
    ∃ vs us, K vs ∧ (rs.mapM (resF a.tmps)).run P w = .ok us w ∧ PsRep σ (fz c σ h w) w vs us
  | [], K, hv => ⟨[], [], hv, by simp, by unfold PsRep; trivial⟩
  | .tmp t :: rs, K, hv => by
    unfold resP at hv
    obtain ⟨vs, us, h3, h4, h5⟩ := resP_out hs (force_out hv)
    refine ⟨e t :: vs, a.tmps.getD t undef :: us, h3, ?_, by unfold PsRep; exact ⟨hs.env t, h5⟩⟩
    simp only [List.mapM_cons, resF, Sem.run_bind, Sem.run_pure, Result.andThen_ok, h4]
  | .cell t ty :: rs, K, hv => by
    unfold resP at hv
    obtain ⟨v, z, _, g1, g2, ⟨ad, g3⟩, g4⟩ := loadP_run hv hs.toSW (hs.env t)
    obtain ⟨vs, us, h3, h4, h5⟩ := resP_out hs g1
    refine ⟨v :: vs, z :: us, h3, ?_, by unfold PsRep; exact ⟨g4, h5⟩⟩
    rw [g3] at g2
    have g5 : (loadVar ty ad).run P w = .ok z w := by simpa [Instr.loadAt, Instr.sureAddr] using g2
    simp only [List.mapM_cons, resF, Sem.run_bind, Sem.run_pure, Result.andThen_ok, h4, g3, asAddr, g5]

theorem psRep_len {σ : Sg} {F : Fzn} {w : World} : ∀ {l : List PV} {us : List Value}, PsRep σ F w l us → us.length = l.length
  | [], [], _ => rfl
  | _ :: _, _ :: us, h => by unfold PsRep at h; rw [List.length_cons, List.length_cons, psRep_len h.2]
  | [], _ :: _, h => by unfold PsRep at h; exact h.elim
  | _ :: _, [], h => by unfold PsRep at h; exact h.elim
theorem psRep_get {σ : Sg} {F : Fzn} {w : World} : ∀ {l : List PV} {us : List Value} (t : Nat), PsRep σ F w l us → PRep σ F w (argsE l t) ((us[t]?).getD undef)
  | [], [], t, _ => by unfold argsE; simp; exact rep_undef
  | x :: xs, u :: us, 0, h => by unfold PsRep at h; unfold argsE; simpa using h.1
  | x :: xs, u :: us, t + 1, h => by
    unfold PsRep at h
    have := psRep_get t h.2
    unfold argsE at this ⊢
    simpa using this
  | [], _ :: _, _, h => by unfold PsRep at h; exact h.elim
  | _ :: _, [], _, h => by unfold PsRep at h; exact h.elim

theorem tup_out {σ : Sg} {F : Fzn} {w : World} {vs : List PV} {us : List Value} {K : PV → Prop} (h : tupOf vs K) (hr : PsRep σ F w vs us) : ∃ v, K v ∧ PRep σ F w v (if h : us.toArray.size = 1 then us.toArray[0] else .tuple us.toArray) := by
  have hlen := psRep_len hr
  unfold tupOf at h
  split at h
  · rename_i v
    simp only [List.length_singleton] at hlen
    refine ⟨v, h, ?_⟩
    match us, hlen, hr with
    | [u], _, hr => unfold PsRep at hr; simpa using hr.1
  · rename_i hne
    refine ⟨_, h, ?_⟩
    have : ¬ us.toArray.size = 1 := by
      intro hq
      rw [List.size_toArray] at hq
      rw [hq] at hlen
      match vs, hlen, hne with
      | [v], _, hne => exact hne v rfl
    rw [dif_neg this]
    unfold PRep
    exact ⟨us, rfl, hr⟩
theorem results_run {P : Program} {c : Ctx} {nt : Nat} {σ : Sg} {e : Env} {h : Hp} {a : Act} {w : World} {fn : Func} {K : List PV → Prop} (hs : St c nt σ e h a w) (hr : resP P h e fn.results.toList K) :
    ∃ vs us, K vs ∧ (results fn a.tmps).run P w = .ok (if hx : us.toArray.size = 1 then us.toArray[0] else .tuple us.toArray) w ∧ PsRep σ (fz c σ h w) w vs us := by
  obtain ⟨vs, us, h1, h2, h3⟩ := resP_out hs hr
  refine ⟨vs, us, h1, ?_, h3⟩
  have he : results fn a.tmps = (do let vs ← fn.results.mapM (resF a.tmps); pure (if h : vs.size = 1 then vs[0] else .tuple vs)) := by
    unfold results
    congr 1
  rw [he, Array.mapM_eq_mapM_toList]
  simp only [Sem.run_bind, map_eq_pure_bind, bind_assoc, pure_bind, h2, Result.andThen_ok, Sem.run_pure]

/-! ### closing at the end -/
section
variable {c : Ctx} {σ : Sg} {h : Hp} {w : World} {F' : Fzn}
theorem arr_close (hall : ∀ b o, c.own b → b < w.heap.size → F' b o) {k e e2 s lo n : Nat} {rows : List (List C)} {u : Value} (hu : DRep σ (fz c σ h w) w (.arr k e s lo n) u) (hrl : ∀ r ∈ rows, r.length = s) (hle : lo + n ≤ rows.length)
    (hh : ∃ ob q, σ k = some (ob, q) ∧ match ob with
      | none => True
      | some g => c.own g ∧ ∃ cur : Array Value, w.heap[g]? = some (Obj.cells cur e2 (0, 0)) ∧ CsRep F' w rows.flatten (cur.toList.take (rows.length * s))) : CRep F' w (.sl s ((rows.drop lo).take n)) u := by
  obtain ⟨ob, q, h1, h2⟩ := hh
  unfold DRep at hu
  have hlen : ((rows.drop lo).take n).length = n := by rw [List.length_take, List.length_drop]; omega
  unfold CRep
  rw [hlen]
  obtain ⟨_, ⟨m, g1, rfl, b0, rfl⟩ | ⟨g, m, off, cap, cur, fr, g1, rfl, g3, g4, g5, g6, g7⟩⟩ := hu
  · exact ⟨b0, 0, rfl, Nat.le_refl _, Nat.zero_le _, fun _ => rfl, .inl (by simp)⟩
  · refine ⟨_, cap, rfl, g3, g4, (fun e => by cases e), ?_⟩
    by_cases hn : n = 0
    · subst hn; exact .inl (by simp)
    · right
      rw [g1] at h1
      cases h1
      obtain ⟨hown, cur2, p1, p3⟩ := h2
      obtain rfl := g7 (by omega)
      refine ⟨g, lo * s, rfl, ?_⟩
      have hlt : g < w.heap.size := (Array.getElem?_eq_some_iff.1 p1).1
      have hr : RowsAt F' w s g 0 rows := by
        rw [rowsAt_iff]
        refine ⟨hrl, csAt_of_values p3 (fun j u hu => ?_) (fun j hj => hall _ _ hown hlt)⟩
        rw [Nat.zero_add, cell_of_row _ _ _ _ _ _ p1]
        rw [List.getElem?_take] at hu
        split at hu
        · simpa using hu
        · cases hu
      have := rowsAt_take n (rowsAt_drop lo (by omega) hr)
      rwa [Nat.zero_add] at this
theorem closeA_out (hs : SW c σ h w) (hk : Keeps (fz c σ h w) F' w w) (hall : ∀ b o, c.own b → b < w.heap.size → F' b o) {x : D} {K : C → Prop} (hx : D.closeA h x K) : ∃ y, K y ∧ ∀ u, DRep σ (fz c σ h w) w x u → CRep F' w y u := by
  unfold D.closeA at hx
  split at hx
  · exact ⟨_, hx, fun u hu => by unfold DRep at hu; exact CRep.keeps hk _ _ hu⟩
  · rename_i k e sz l
    refine ⟨_, hx, fun u hu => ?_⟩
    have := rows_val (σ := σ) (F := fz c σ h w) (w := w) (x := .d (.app k e sz l)) (.inr ⟨k, e, rfl⟩) (u := u) (by unfold PRep; exact hu)
    refine CRep.keeps hk _ _ ?_
    unfold CRep
    exact this
  · rename_i k e sz lo n
    split at hx
    · rename_i e2 s rows hh
      split at hx
      · rename_i es
        obtain rfl := Nat.eq_of_beq_eq_true es
        obtain ⟨hle, hx⟩ := hx
        refine ⟨_, hx, fun u hu => ?_⟩
        obtain ⟨hz, hrl, ob, q, h1, h2⟩ := hs.hp k _ hh
        refine arr_close (e2 := e2) hall hu hrl hle ⟨ob, q, h1, ?_⟩
        cases ob with
        | none => trivial
        | some g => exact ⟨h2.1, h2.2.choose, h2.2.choose_spec.1, CsRep.keeps hk _ _ h2.2.choose_spec.2.2⟩
      · exact hx.elim
    · exact hx.elim
  · rename_i f
    refine ⟨_, hx, fun u hu => ?_⟩
    unfold DRep at hu
    obtain ⟨us, vs, rfl, h1, h2⟩ := hu
    rw [dsRep_nil_inv h1, dsRep_nil_inv h2]
    unfold CRep
    exact ⟨rfl, rfl⟩
  · exact hx.elim
theorem dsRep_split {F : Fzn} : ∀ {a b : List D} {us : List Value}, DsRep σ F w (a ++ b) us → ∃ u1 u2, us = u1 ++ u2 ∧ DsRep σ F w a u1 ∧ DsRep σ F w b u2
  | [], b, us, h => ⟨[], us, rfl, dsRep_nil, h⟩
  | x :: xs, b, us, h => by
    rw [List.cons_append] at h
    obtain ⟨u, vs, rfl, h1, h2⟩ := dsRep_inv h
    obtain ⟨u1, u2, rfl, h3, h4⟩ := dsRep_split h2
    exact ⟨u :: u1, u2, rfl, dsRep_cons h1 h3, h4⟩
theorem clL_out (hs : SW c σ h w) (hk : Keeps (fz c σ h w) F' w w) (hall : ∀ b o, c.own b → b < w.heap.size → F' b o) : ∀ {l : List D} {ys : List C}, ClL h l ys → ys.length = l.length ∧ ∀ us, DsRep σ (fz c σ h w) w l us → CsRep F' w ys us
  | [], ys, h => by unfold ClL at h; subst h; exact ⟨rfl, fun us hu => by rw [dsRep_nil_inv hu]; exact csRep_nil⟩
  | x :: xs, ys, h => by
    unfold ClL at h
    split at h
    · exact h.elim
    · obtain ⟨y, rfl, h2⟩ := closeA_out hs hk hall h.1
      obtain ⟨h3, h4⟩ := clL_out hs hk hall h.2
      refine ⟨by rw [List.length_cons, List.length_cons, h3], fun us hu => ?_⟩
      obtain ⟨u, vs, rfl, g1, g2⟩ := dsRep_inv hu
      exact csRep_cons (h2 u g1) (h4 vs g2)
theorem clR_out {s : Nat} (hs : SW c σ h w) (hk : Keeps (fz c σ h w) F' w w) (hall : ∀ b o, c.own b → b < w.heap.size → F' b o) : ∀ {l : List (List D)} {rs : List (List C)}, (∀ r ∈ l, r.length = s) → ClR h l rs →
    rs.length = l.length ∧ (∀ r ∈ rs, r.length = s) ∧ ∀ us, DsRep σ (fz c σ h w) w l.flatten us → CsRep F' w rs.flatten us
  | [], rs, _, hr => by
    unfold ClR at hr
    subst hr
    exact ⟨rfl, by simp, fun us hu => by rw [List.flatten_nil] at hu; rw [dsRep_nil_inv hu]; exact csRep_nil⟩
  | x :: xs, rs, hl, hr => by
    unfold ClR at hr
    split at hr
    · exact hr.elim
    · obtain ⟨g1, g2⟩ := clL_out hs hk hall hr.1
      obtain ⟨i1, i2, i3⟩ := clR_out hs hk hall (fun r hr => hl r (List.mem_cons_of_mem _ hr)) hr.2
      refine ⟨by rw [List.length_cons, List.length_cons, i1], fun r hr => ?_, fun us hu => ?_⟩
      · rcases List.mem_cons.1 hr with rfl | hr
        · rw [g1]; exact hl _ (List.mem_cons_self ..)
        · exact i2 r hr
      · rw [List.flatten_cons] at hu ⊢
        obtain ⟨u1, u2, rfl, f1, f2⟩ := dsRep_split hu
        exact CsRep.append (g2 u1 f1) (i3 u2 f2)
theorem closeH_out (hs : SW c σ h w) (hk : Keeps (fz c σ h w) F' w w) (hall : ∀ b o, c.own b → b < w.heap.size → F' b o) {x : D} {K : C → Prop} (hx : D.closeH h x K) : ∃ y, K y ∧ ∀ u, DRep σ (fz c σ h w) w x u → CRep F' w y u := by
  unfold D.closeH at hx
  split at hx
  · exact ⟨_, hx, fun u hu => by unfold DRep at hu; exact CRep.keeps hk _ _ hu⟩
  · rename_i k e sz l
    refine ⟨_, hx, fun u hu => ?_⟩
    have := rows_val (σ := σ) (F := fz c σ h w) (w := w) (x := .d (.app k e sz l)) (.inr ⟨k, e, rfl⟩) (u := u) (by unfold PRep; exact hu)
    refine CRep.keeps hk _ _ ?_
    unfold CRep
    exact this
  · rename_i k e sz lo n
    split at hx
    · rename_i e2 s rows hh
      split at hx
      · rename_i es
        obtain rfl := Nat.eq_of_beq_eq_true es
        obtain ⟨hle, hx⟩ := hx
        refine ⟨_, hx, fun u hu => ?_⟩
        obtain ⟨hz, hrl, ob, q, h1, h2⟩ := hs.hp k _ hh
        refine arr_close (e2 := e2) hall hu hrl hle ⟨ob, q, h1, ?_⟩
        cases ob with
        | none => trivial
        | some g => exact ⟨h2.1, h2.2.choose, h2.2.choose_spec.1, CsRep.keeps hk _ _ h2.2.choose_spec.2.2⟩
      · exact hx.elim
    · rename_i e2 s rows hh
      split at hx
      · rename_i es
        obtain rfl := Nat.eq_of_beq_eq_true es
        obtain ⟨rs, hr, hle, hx⟩ := hx
        refine ⟨_, hx, fun u hu => ?_⟩
        obtain ⟨hz, hrl, ob, q, h1, h2⟩ := hs.hp k _ hh
        obtain ⟨i1, i2, i3⟩ := clR_out hs hk hall hrl hr
        refine arr_close (e2 := e2) hall hu i2 hle ⟨ob, q, h1, ?_⟩
        cases ob with
        | none => trivial
        | some g =>
          obtain ⟨q1, cur, q2, q3, q4⟩ := h2
          exact ⟨q1, cur, q2, by rw [i1]; exact i3 _ q4⟩
      · exact hx.elim
    · exact hx.elim
  · rename_i f
    refine ⟨_, hx, fun u hu => ?_⟩
    unfold DRep at hu
    obtain ⟨us, vs, rfl, h1, h2⟩ := hu
    rw [dsRep_nil_inv h1, dsRep_nil_inv h2]
    unfold CRep
    exact ⟨rfl, rfl⟩
  · exact hx.elim
theorem closeHL_out (hs : SW c σ h w) (hk : Keeps (fz c σ h w) F' w w) (hall : ∀ b o, c.own b → b < w.heap.size → F' b o) : ∀ {l : List D} {K : List C → Prop}, closeHL h l K → ∃ ys, K ys ∧ ∀ us, DsRep σ (fz c σ h w) w l us → CsRep F' w ys us
  | [], K, h => ⟨[], h, fun us hu => by rw [dsRep_nil_inv hu]; exact csRep_nil⟩
  | x :: xs, K, h => by
    unfold closeHL at h
    obtain ⟨y, h1, h2⟩ := closeH_out hs hk hall h
    obtain ⟨ys, h3, h4⟩ := closeHL_out hs hk hall h1
    refine ⟨y :: ys, h3, fun us hu => ?_⟩
    obtain ⟨u, vs, rfl, g1, g2⟩ := dsRep_inv hu
    exact csRep_cons (h2 u g1) (h4 vs g2)
mutual
theorem pcloseH_out (hs : SW c σ h w) (hk : Keeps (fz c σ h w) F' w w) (hall : ∀ b o, c.own b → b < w.heap.size → F' b o) : ∀ {x : PV} {K : PV → Prop}, PV.closeH h x K → ∃ y, K y ∧ ∀ u, PRep σ (fz c σ h w) w x u → PRep (fun _ => none) F' w y u
  | .d x, K, h => by
    unfold PV.closeH at h
    obtain ⟨y, h1, h2⟩ := closeH_out hs hk hall h
    refine ⟨_, h1, fun u hu => ?_⟩
    unfold PRep at hu ⊢
    unfold DRep
    exact h2 u hu
  | .agg l, K, h => by
    unfold PV.closeH at h
    obtain ⟨ys, h1, h2⟩ := closeHL_out hs hk hall h
    refine ⟨_, h1, fun u hu => ?_⟩
    unfold PRep at hu ⊢
    obtain ⟨xs, rfl, hx⟩ := hu
    exact ⟨xs, rfl, dsRep_of_cs (h2 xs hx)⟩
  | .tup l, K, h => by
    unfold PV.closeH at h
    obtain ⟨ys, h1, h2⟩ := closeHPs_out hs hk hall h
    refine ⟨_, h1, fun u hu => ?_⟩
    unfold PRep at hu ⊢
    obtain ⟨xs, rfl, hx⟩ := hu
    exact ⟨xs, rfl, h2 xs hx⟩
  | .any, K, h => by unfold PV.closeH at h; exact h.elim
theorem closeHPs_out (hs : SW c σ h w) (hk : Keeps (fz c σ h w) F' w w) (hall : ∀ b o, c.own b → b < w.heap.size → F' b o) : ∀ {l : List PV} {K : List PV → Prop}, closeHPs h l K → ∃ ys, K ys ∧ ∀ us, PsRep σ (fz c σ h w) w l us → PsRep (fun _ => none) F' w ys us
  | [], K, h => by
    unfold closeHPs at h
    refine ⟨[], h, fun us hu => ?_⟩
    cases us with
    | nil => unfold PsRep; trivial
    | cons _ _ => unfold PsRep at hu; exact hu.elim
  | x :: xs, K, h => by
    unfold closeHPs at h
    obtain ⟨y, h1, h2⟩ := pcloseH_out hs hk hall h
    obtain ⟨ys, h3, h4⟩ := closeHPs_out hs hk hall h1
    refine ⟨y :: ys, h3, fun us hu => ?_⟩
    cases us with
    | nil => unfold PsRep at hu; exact hu.elim
    | cons u us => unfold PsRep at hu ⊢; exact ⟨h2 u hu.1, h4 us hu.2⟩
end
end

theorem getD_args {vs : List Value} {nt t : Nat} : (vs.toArray ++ Array.replicate (nt - vs.toArray.size) undef).getD t undef = (vs[t]?).getD undef := by
  rw [Array.getD_eq_getD_getElem?, Array.getElem?_append]
  split
  · simp
  · rename_i hlt
    have : vs[t]? = none := List.getElem?_eq_none (by simpa using hlt)
    rw [this, Array.getElem?_replicate]
    split <;> rfl

theorem pure_of {P : Program} {f : FuncId} {fn : Func} {cd : Code} {args : List PV} {res : PV} (hf : P.funcs[f]? = some fn) (hn : (fn.name == "runtime.NumGoroutine") = false) (hb : fn.body = some cd) (hm : P.follows .mixedOrders = true)
    (ha : Nat.ble args.length fn.ntmps = true) (hv : vc P fn.ntmps [] (fun _ _ _ _ => False) cd (argsE args) (fun _ => none) [] (retQ P fn res)) : Pure P f args res := by
  refine ⟨⟨fn, hf, hn, by rw [hb]; rfl⟩, fun F w vs hG hF hargs => ?_⟩
  have hal := Nat.le_of_ble_eq_true ha
  have hvl := psRep_len hargs
  obtain ⟨c, hcdef⟩ : ∃ c : Ctx, c = ⟨w, F, fun _ => False, fun _ _ => False, fun _ => none, []⟩ := ⟨_, rfl⟩
  have hn0 : c.n0 = w.heap.size := by rw [hcdef]
  have hF0 : c.F0 = F := by rw [hcdef]
  have hF1 : c.F1 = fun _ _ => False := by rw [hcdef]
  have hσ0 : c.σ0 = fun _ => none := by rw [hcdef]
  have hw0 : c.w0 = w := by rw [hcdef]
  have hdf : c.df = [] := by rw [hcdef]
  have hext : ∀ b, ¬ c.ext b := by intro b; rw [hcdef]; exact id
  have hc : c.Ok := ⟨fun b o h => ⟨by rw [hn0]; exact hF b o (by rw [← hF0]; exact h), hext b⟩, by rw [hw0]; exact hG, fun b _ => hext b⟩
  have hfz : ∀ b o, F b o → fz c (fun _ => none) (fun _ => none) w b o := fun b o h => .inl ⟨by rw [hn0]; exact hF b o h, by rw [hF0]; exact h⟩
  have hst : St c fn.ntmps (fun _ => none) (argsE args) (fun _ => none) { tmps := vs.toArray ++ Array.replicate (fn.ntmps - vs.toArray.size) undef, defers := [] } w := by
    refine ⟨⟨by rw [hw0], by rw [hw0], by rw [hw0], by rw [hn0]; exact Nat.le_refl _, fun b _ _ => by rw [hw0], (fun k hb hk => by cases hk), fun k k' g n n' hk => absurd rfl hk, ?_, by rw [hw0]; exact Shape.refl _, fun k x hk => by rw [hσ0] at hk; cases hk⟩, fun t => ?_, hdf.symm, ?_⟩
    · rw [hF1, hw0]; exact ⟨fun _ _ h => h.elim, fun _ _ h => h.elim⟩
    · have h1 := psRep_get t (PsRep.of_none (σ := fun _ => none) ⟨hfz, fun _ _ _ => rfl⟩ _ _ hargs)
      show PRep _ _ _ _ ((vs.toArray ++ Array.replicate (fn.ntmps - vs.toArray.size) undef).getD t undef)
      rw [getD_args]; exact h1
    · simp; omega
  refine calls_of_wp hf hb (wp_mono (vc_out (fun k hk => absurd (by rw [hσ0]) hk) hc hm cd _ _ _ _ _ _ w hv hst (fun _ _ => rfl)) ?_)
  intro x a' w' hq
  have fin : ∀ e' h' σ', St c fn.ntmps σ' e' h' a' w' → resP P h' e' fn.results.toList (fun vs => closeHPs h' vs fun vs => tupOf vs fun v => Ret v res) →
      a'.defers = [] ∧ ∃ v, (results fn a'.tmps).run P w' = .ok v w' ∧ ∃ v', Ending.returned v = .returned v' ∧ Below w.heap.size w w' ∧ PRep (fun _ => none) (fun b o => F b o ∨ (w.heap.size ≤ b ∧ b < w'.heap.size)) w' res v' := by
    intro e' h' σ' hs' hr
    obtain ⟨ps, us, h1, h2, h3⟩ := results_run hs' hr
    have hbel : Below w.heap.size w w' := ⟨by rw [hs'.os, hw0], by rw [hs'.tape, hw0], by rw [hs'.output, hw0], by have := hs'.size; rw [hn0] at this; exact this, fun k hk => by
      rw [hs'.block k (by rw [hn0]; exact hk) (hext k), hw0]⟩
    have hkeep : Keeps (fz c σ' h' w') (fun b o => F b o ∨ (w.heap.size ≤ b ∧ b < w'.heap.size)) w' w' := by
      refine ⟨fun b o hq => ?_, fun _ _ _ => rfl⟩
      rcases hq with ⟨q1, q2⟩ | ⟨q1, q2, _⟩
      · rw [hF0] at q2; exact .inl q2
      · rcases q1 with q1 | q1
        · rw [hn0] at q1; exact .inr ⟨q1, q2⟩
        · exact absurd q1 (hext b)
    obtain ⟨ps', h1, h4⟩ := closeHPs_out hs'.toSW hkeep (fun b o hown hlt => by
      rcases hown with q | q
      · rw [hn0] at q; exact .inr ⟨q, hlt⟩
      · exact absurd q (hext b)) h1
    obtain ⟨v, h5, h6⟩ := tup_out h1 (h4 us h3)
    refine ⟨hs'.defers.trans hdf, _, h2, _, rfl, hbel, ?_⟩
    rcases h5 with rfl | h5
    · exact h6
    · have := prep_wk (σ := fun _ => none) (f := fun _ => none) (n := []) (F' := fun b o => F b o ∨ (w.heap.size ≤ b ∧ b < w'.heap.size)) (w := w') ⟨fun _ _ h => h, fun _ _ _ => rfl⟩ _ _ _ h5 h6
      have e1 : newSg (fun _ => none) (fun _ => none) ([] : List Nat) = fun _ => none := by funext k; unfold newSg; rw [if_neg (by simp [kin])]
      rw [e1] at this
      exact this
  cases x with
  | normal => obtain ⟨e', h', n', σ', hq, hs', _⟩ := hq; exact fin _ _ _ hs' hq
  | ret => obtain ⟨e', h', n', σ', hq, hs', _⟩ := hq; exact fin _ _ _ hs' hq
  | exit id => obtain ⟨e', h', n', σ', hq, hs', _⟩ := hq; exact hq
  | goto l => obtain ⟨e', h', n', σ', hq, hs', _⟩ := hq; exact hq
  | panic ch => obtain ⟨v, _, e', h', n', σ', hq, _⟩ := hq; exact hq.elim
  | outgrown => obtain ⟨e', h', n', σ', hq, hs', _⟩ := hq; exact hq.elim

/-! ### with keys -/
theorem hp_keys {c : Ctx} {r : Rf} {σ : Sg} {w : World} (hs : SW c σ (hpL r) w) (hnd : ndK r = true) : ∀ k ∈ r.map Prod.fst, σ k ≠ none := by
  intro k hk
  obtain ⟨⟨q, b⟩, h1, h2⟩ := List.mem_map.1 hk
  simp only at h2
  subst h2
  exact hb_sg (hs.hp q b (mem_hpL hnd h1))
theorem st_begin {c : Ctx} {nt : Nat} {h : Hp} {args : List PV} {vs : List Value} (hs : SW c c.σ0 h c.w0) (hargs : PsRep c.σ0 (fz c c.σ0 h c.w0) c.w0 args vs) (ha : args.length ≤ nt) (hdf : c.df = []) :
    St c nt c.σ0 (argsE args) h { tmps := vs.toArray ++ Array.replicate (nt - vs.toArray.size) undef, defers := [] } c.w0 := by
  have hvl := psRep_len hargs
  refine ⟨hs, fun t => ?_, hdf.symm, by simp; omega⟩
  have h1 := psRep_get t hargs
  show PRep _ _ _ _ ((vs.toArray ++ Array.replicate (nt - vs.toArray.size) undef).getD t undef)
  rw [getD_args]; exact h1
theorem callS_of {P : Program} {f : FuncId} {fn : Func} {cd : Code} {args : List PV} {res : PV} {rd rf out : Rf} (hf : P.funcs[f]? = some fn) (hn : (fn.name == "runtime.NumGoroutine") = false) (hb : fn.body = some cd) (hm : P.follows .mixedOrders = true)
    (ha : Nat.ble args.length fn.ntmps = true) (fk : List Nat) (hfk : fk = (rd ++ rf).map Prod.fst)
    (hv : vc P fn.ntmps fk (fun _ _ _ _ => False) cd (argsE args) (hpL (rd ++ rf)) fk (retS P fn fk res (rd ++ out))) : CallS P f args rd rf res out := by
  refine ⟨⟨fn, hf, hn, by rw [hb]; rfl⟩, fun c vs hc hdf hfr hs hargs => ?_⟩
  have hst := st_begin hs hargs (Nat.le_of_ble_eq_true ha) hdf
  have hfr' : ∀ k, k ∉ fk → c.σ0 k = none := fun k hk => hfr k (by rw [← hfk]; exact hk)
  have hfk' : ∀ k, c.σ0 k ≠ none → k ∈ fk := fun k hk => Classical.byContradiction fun h => hk (hfr' k h)
  refine calls_of_wp hf hb (wp_mono (vc_out hfk' hc hm cd _ _ _ _ _ _ _ hv hst hfr') ?_)
  intro x a' w' hq
  have fin : ∀ e' h' σ', St c fn.ntmps σ' e' h' a' w' → resP P h' e' fn.results.toList (fun vs => tupOf vs fun v => RetS fk h' res (rd ++ out) v) →
      a'.defers = [] ∧ ∃ v, (results fn a'.tmps).run P w' = .ok v w' ∧ ∃ v' σ1, Ending.returned v = .returned v' ∧ SW c σ1 (hpL (rd ++ out)) w' ∧ PRep σ1 (fz c σ1 (hpL (rd ++ out)) w') w' res v' := by
    intro e' h' σ' hs' hr
    obtain ⟨ps, us, h1, h2, h3⟩ := results_run hs' hr
    obtain ⟨v, h5, h6⟩ := tup_out h1 h3
    obtain ⟨g, n, q1, q2, q3, q4⟩ := h5
    obtain ⟨hk, hsw⟩ := sw_wk hfk' hs'.toSW q1 q2 q4
    exact ⟨hs'.defers.trans hdf, _, h2, _, _, rfl, hsw, prep_wk hk _ _ _ q3 h6⟩
  cases x with
  | normal => obtain ⟨e', h', n', σ', hq, hs', _⟩ := hq; exact fin _ _ _ hs' hq
  | ret => obtain ⟨e', h', n', σ', hq, hs', _⟩ := hq; exact fin _ _ _ hs' hq
  | exit id => obtain ⟨e', h', n', σ', hq, hs', _⟩ := hq; exact hq
  | goto l => obtain ⟨e', h', n', σ', hq, hs', _⟩ := hq; exact hq
  | panic ch => obtain ⟨v, _, e', h', n', σ', hq, _⟩ := hq; exact hq.elim
  | outgrown => obtain ⟨e', h', n', σ', hq, hs', _⟩ := hq; exact hq.elim
theorem kin_of {k : Nat} : ∀ {n : List Nat}, k ∈ n → kin k n = true
  | x :: xs, h => by
    unfold kin
    cases hq : Nat.beq k x with
    | true => rfl
    | false =>
      rw [cond_false]
      rcases List.mem_cons.1 h with rfl | h
      · have := Nat.beq_refl k; rw [show Nat.beq k k = false from hq] at this; cases this
      · exact kin_of h
theorem fnL_id {k : Nat} : ∀ {n : List Nat}, k ∈ n → fnL (n.map fun k => (k, k)) k = some k
  | x :: xs, h => by
    show (bif Nat.beq k x then some x else _) = _
    cases hq : Nat.beq k x with
    | true => rw [cond_true, Nat.eq_of_beq_eq_true hq]
    | false =>
      rw [cond_false]
      rcases List.mem_cons.1 h with rfl | h
      · have := Nat.beq_refl k; rw [show Nat.beq k k = false from hq] at this; cases this
      · exact fnL_id h
theorem fkOk_id (fk : List Nat) : fkOk (fnL (fk.map fun k => (k, k))) fk fk = true := by
  have main : ∀ l : List Nat, (∀ k ∈ l, k ∈ fk) → fkOk (fnL (fk.map fun k => (k, k))) fk l = true := by
    intro l
    induction l with
    | nil => intro _; rfl
    | cons k l ih =>
      intro hl
      unfold fkOk
      rw [fnL_id (hl k (List.mem_cons_self ..)), kin_of (hl k (List.mem_cons_self ..)), ih fun q hq => hl q (List.mem_cons_of_mem _ hq)]
      simp
  exact main fk fun _ h => h
theorem callX_of {P : Program} {f : FuncId} {fn : Func} {cd : Code} {args : List PV} {x : Value} {rd : Rf} (hf : P.funcs[f]? = some fn) (hn : (fn.name == "runtime.NumGoroutine") = false) (hb : fn.body = some cd) (hm : P.follows .mixedOrders = true)
    (ha : Nat.ble args.length fn.ntmps = true) (fk : List Nat) (hfk : fk = rd.map Prod.fst)
    (hv : vc P fn.ntmps fk (fun y _ _ _ => y = x) cd (argsE args) (hpL rd) fk (fun _ _ _ _ => False)) : CallX P f args rd x := by
  refine ⟨⟨fn, hf, hn, by rw [hb]; rfl⟩, fun c vs hc hdf hfr hs hargs => ?_⟩
  have hst := st_begin hs hargs (Nat.le_of_ble_eq_true ha) hdf
  have hfr' : ∀ k, k ∉ fk → c.σ0 k = none := fun k hk => hfr k (by rw [← hfk]; exact hk)
  have hfk' : ∀ k, c.σ0 k ≠ none → k ∈ fk := fun k hk => Classical.byContradiction fun h => hk (hfr' k h)
  refine calls_of_wp hf hb (wp_mono (vc_out hfk' hc hm cd _ _ _ _ _ _ _ hv hst hfr') ?_)
  intro x' a' w' hq
  cases x' with
  | normal => obtain ⟨e', h', n', σ', hq, hs', _⟩ := hq; exact hq.elim
  | ret => obtain ⟨e', h', n', σ', hq, hs', _⟩ := hq; exact hq.elim
  | exit id => obtain ⟨e', h', n', σ', hq, hs', _⟩ := hq; exact hq
  | goto l => obtain ⟨e', h', n', σ', hq, hs', _⟩ := hq; exact hq
  | panic ch =>
    obtain ⟨v, rfl, e', h', n', σ', rfl, hs', _⟩ := hq
    obtain ⟨_, hsw⟩ := sw_wk (lh := []) (f := fnL (fk.map fun k => (k, k))) (n := fk) hfk' hs'.toSW rfl (fkOk_id fk) trivial
    exact ⟨hs'.defers.trans hdf, rfl, _, hsw⟩
  | outgrown => obtain ⟨e', h', n', σ', hq, hs', _⟩ := hq; exact hq.elim

end Go.Proofs.Ytohlkegmmbdlaaa.Pm
