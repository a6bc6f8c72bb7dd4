/- Parts of the proof, one behind the other: PmFun PmHand PmBytes PmOpen PdList PjDisk PmPre PjRef PjReady PjSteps PjSteps2 PjSteps3. Conditions: none beyond what each theorem says. -/
import Derived.Deep.LoopGhost
import Derived.Scope
import Derived.IntWalk
import Derived.Test.YtohlkegmmbdlaaaReads
import Derived.Test.YtohlkegmmbdlaaaDiskOpen
import Derived.Test.YtohlkegmmbdlaaaDiskFacts
import Derived.Test.YtohlkegmmbdlaaaDiskRead
import Derived.Test.YtohlkegmmbdlaaaDiskCrash
import Derived.Test.YtohlkegmmbdlaaaZ3
section
namespace Go.Proofs.Ytohlkegmmbdlaaa.Pm
open Go.RowKit
set_option linter.unusedVariables false
set_option linter.unusedSimpArgs false

/-! ### to know less; to name keys anew -/
def kin (k : Nat) : List Nat → Bool
  | [] => false
  | x :: xs => bif Nat.beq k x then true else kin k xs

def CLe (x y : C) : Prop := y = x ∨ (∃ sz, x = .sl sz []) ∧ (y = .v (.slice none 0 0) ∨ ∃ sz', y = .sl sz' [])
mutual
def DLe (f : Nat → Option Nat) (n : List Nat) : D → D → Prop
  | .c x, y => match y with
    | .c y => CLe x y
    | .app _ _ sz l => x = .sl sz l
    | .emp => ∃ sz, x = .sl sz []
    | _ => False
  | .app k e sz l, y => match y with
    | .app k' e' sz' l' => kin k n = true ∧ f k = some k' ∧ e' = e ∧ sz' = sz ∧ l' = l
    | .c y => kin k n = true ∧ f k = none ∧ 0 < sz ∧ l = [] ∧ y = .v (.slice none 0 0)
    | _ => False
  | .ptr k o, y => match y with
    | .ptr k' o' => kin k n = true ∧ f k = some k' ∧ o' = o
    | _ => False
  | .arr k e sz lo m, y => match y with
    | .arr k' e' sz' lo' m' => kin k n = true ∧ f k = some k' ∧ e' = e ∧ sz' = sz ∧ lo' = lo ∧ m' = m
    | .c y => kin k n = true ∧ f k = none ∧ 0 < sz ∧ m = 0 ∧ y = .v (.slice none 0 0)
    | .emp => kin k n = true ∧ f k = none ∧ 0 < sz ∧ m = 0
    | _ => False
  | .elt k sz i o, y => match y with
    | .elt k' sz' i' o' => kin k n = true ∧ f k = some k' ∧ sz' = sz ∧ i' = i ∧ o' = o
    | _ => False
  | .clo g a l, y => match y with
    | .clo g' a' l' => g' = g ∧ DLes f n a a' ∧ DLes f n l l'
    | _ => False
  | .optp k o, y => match y with
    | .optp k' o' => kin k n = true ∧ f k = some k' ∧ o' = o
    | .ptr k' o' => kin k n = true ∧ f k = some k' ∧ o' = o
    | .c y => y = .v (.pointer none)
    | _ => False
  | .data k e l, y => match y with
    | .data k' e' l' => kin k n = true ∧ f k = some k' ∧ e' = e ∧ l' = l
    | _ => False
  | .mp k, y => match y with
    | .mp k' => kin k n = true ∧ f k = some k'
    | _ => False
  | .emp, y => match y with
    | .emp => True
    | _ => False
def DLes (f : Nat → Option Nat) (n : List Nat) : List D → List D → Prop
  | [], y => y = []
  | x :: xs, y => match y with
    | [] => False
    | y :: ys => DLe f n x y ∧ DLes f n xs ys
end
def DLess (f : Nat → Option Nat) (n : List Nat) : List (List D) → List (List D) → Prop
  | [], y => y = []
  | x :: xs, y => match y with
    | [] => False
    | y :: ys => DLes f n x y ∧ DLess f n xs ys
mutual
def PLe (f : Nat → Option Nat) (n : List Nat) : PV → PV → Prop
  | .any, _ => True
  | .d x, y => match y with
    | .d y => DLe f n x y
    | _ => False
  | .agg l, y => match y with
    | .agg m => DLes f n l m
    | _ => False
  | .tup l, y => match y with
    | .tup m => PLeT f n l m
    | _ => False
def PLeT (f : Nat → Option Nat) (n : List Nat) : List PV → List PV → Prop
  | [], y => y = []
  | x :: xs, y => match y with
    | [] => False
    | y :: ys => PLe f n x y ∧ PLeT f n xs ys
end
/-- the slots that are kept -/
def ofL : List (Nat × PV) → Env
  | [], _ => .any
  | (t, v) :: l, j => bif Nat.beq j t then v else ofL l j
def PLes (f : Nat → Option Nat) (n : List Nat) (e : Env) : List (Nat × PV) → Prop
  | [] => True
  | (t, v) :: l => PLe f n v (e t) ∧ PLes f n e l
def HLe (f : Nat → Option Nat) (n : List Nat) : HB → HB → Prop
  | .box t l, .box t' m => t' = t ∧ DLes f n l m
  | .tail e sz, .tail e' sz' => e' = e ∧ sz' = sz
  | .arr e sz rows, .arr e' sz' rows' => e' = e ∧ sz' = sz ∧ rows' = rows
  | .mp l, .mp l' => l' = l
  | .darr e sz rows, .darr e' sz' rows' => e' = e ∧ sz' = sz ∧ DLess f n rows rows'
  | .darr e sz rows, .arr e' sz' rows' => e' = e ∧ sz' = sz ∧ rows = rows'.map (List.map D.c)
  | _, _ => False
def KLe (f : Nat → Option Nat) (n : List Nat) (h : Hp) (k : Nat) (b : HB) : Prop := match f k with
  | some k' => match h k' with
    | some b' => HLe f n b b'
    | none => False
  | none => match b with
    | .tail _ sz => 0 < sz
    | .arr _ sz rows => 0 < sz ∧ rows = []
    | .darr _ sz rows => 0 < sz ∧ rows = []
    | .mp _ => False
    | .box _ _ => False
def HLes (f : Nat → Option Nat) (n : List Nat) (h : Hp) : List (Nat × HB) → Prop
  | [] => True
  | (k, b) :: l => (kin k n = true ∧ KLe f n h k b) ∧ HLes f n h l
/-- no two keys that are kept stand for one old key -/
def injOn (f : Nat → Option Nat) : List (Nat × HB) → Bool
  | [] => true
  | (k, _) :: l => (l.all fun p => Nat.beq p.1 k || match f k, f p.1 with | some a, some b => !Nat.beq a b | _, _ => true) && injOn f l
/-- keys that were handed over keep their names -/
def fkOk (f : Nat → Option Nat) (n : List Nat) : List Nat → Bool
  | [] => true
  | k :: r => (match f k with | some k' => Nat.beq k' k | none => false) && (kin k n && fkOk f n r)
/-- e, h is worth what the lists say -/
inductive Wk (fk : List Nat) (e : Env) (h : Hp) (le : List (Nat × PV)) (lh : List (Nat × HB)) (n : List Nat) : Prop
  | mk (f : List (Nat × Nat)) (hi : injOn (fnL f) lh = true) (hf : fkOk (fnL f) n fk = true) (he : PLes (fnL f) n e le) (hh : HLes (fnL f) n h lh)

section
variable {c : Ctx} {nt : Nat} {n : List Nat} {σ : Sg} {e : Env} {h : Hp} {a : Act} {w : World} {f : Nat → Option Nat} {le : List (Nat × PV)} {lh : List (Nat × HB)}

def newSg (σ : Sg) (f : Nat → Option Nat) (n : List Nat) : Sg := fun k => if kin k n = true then (match f k with | some k' => σ k' | none => some (none, 0)) else none
theorem newSg_some {k k' : Nat} (h1 : kin k n = true) (h2 : f k = some k') : newSg σ f n k = σ k' := by unfold newSg; rw [if_pos h1, h2]
theorem ple_of {t : Nat} : ∀ {le : List (Nat × PV)}, PLes f n e le → PLe f n (ofL le t) (e t)
  | [], _ => by unfold ofL PLe; trivial
  | (t', v) :: l, hl => by
    unfold ofL
    cases hb : Nat.beq t t' with
    | true => rw [cond_true, Nat.eq_of_beq_eq_true hb]; exact hl.1
    | false => rw [cond_false]; exact ple_of hl.2
theorem hle_of {k : Nat} {b : HB} : ∀ {lh : List (Nat × HB)}, HLes f n h lh → hpL lh k = some b → kin k n = true ∧ KLe f n h k b
  | [], _, hb => by cases hb
  | (k', b') :: l, hl, hb => by
    unfold hpL at hb
    cases hq : Nat.beq k k' with
    | true =>
      rw [hq, cond_true] at hb
      cases hb
      rw [Nat.eq_of_beq_eq_true hq]; exact hl.1
    | false => rw [hq, cond_false] at hb; exact hle_of hl.2 hb
theorem injOn_out : ∀ {lh : List (Nat × HB)}, injOn f lh = true → ∀ k1 k2 b1 b2 x, (k1, b1) ∈ lh → (k2, b2) ∈ lh → f k1 = some x → f k2 = some x → k1 = k2
  | [], _, k1, k2, b1, b2, x, h1, _, _, _ => by cases h1
  | (k, b) :: l, hi, k1, k2, b1, b2, x, h1, h2, e1, e2 => by
    unfold injOn at hi
    simp only [Bool.and_eq_true] at hi
    obtain ⟨hi1, hi2⟩ := hi
    have one : ∀ q bq, (q, bq) ∈ l → f k = some x → f q = some x → q = k := by
      intro q bq hq ek eq
      have := List.all_eq_true.1 hi1 (q, bq) hq
      rw [ek, eq] at this
      simp only [Bool.or_eq_true, Bool.not_eq_true'] at this
      rcases this with this | this
      · exact Nat.eq_of_beq_eq_true this
      · have := Nat.beq_refl x; simp_all
    rcases List.mem_cons.1 h1 with h1 | h1
    · cases h1
      rcases List.mem_cons.1 h2 with h2 | h2
      · cases h2; rfl
      · exact (one k2 b2 h2 e1 e2).symm
    · rcases List.mem_cons.1 h2 with h2 | h2
      · cases h2; exact one k1 b1 h1 e2 e1
      · exact injOn_out hi2 k1 k2 b1 b2 x h1 h2 e1 e2

mutual
theorem drep_wk {F F' : Fzn} (hk : Keeps F F' w w) : ∀ (x y : D) (u : Value), DLe f n x y → DRep σ F w y u → DRep (newSg σ f n) F' w x u
  | .c x, y, u, hl, hr => by
    unfold DLe at hl
    split at hl
    · rename_i y
      unfold DRep at hr ⊢
      rcases hl with rfl | ⟨⟨sz, rfl⟩, rfl | ⟨sz', rfl⟩⟩
      · exact CRep.keeps hk _ _ hr
      · unfold CRep at hr ⊢
        obtain ⟨rfl, _⟩ := hr
        exact ⟨none, 0, rfl, Nat.le_refl _, Nat.zero_le _, fun _ => rfl, .inl rfl⟩
      · unfold CRep at hr ⊢
        obtain ⟨a, cap, h1, h2, h3, h4, _⟩ := hr
        exact ⟨a, cap, h1, h2, h3, h4, .inl rfl⟩
    · rename_i k e sz l
      subst hl
      have := rows_val (σ := σ) (F := F) (w := w) (x := .d (.app k e sz l)) (.inr ⟨k, e, rfl⟩) (u := u) (by unfold PRep; exact hr)
      unfold DRep
      refine CRep.keeps hk _ _ ?_
      unfold CRep
      exact this
    · obtain ⟨sz, rfl⟩ := hl
      unfold DRep at hr ⊢
      obtain ⟨a, rfl⟩ := hr
      unfold CRep
      exact ⟨a, 0, rfl, Nat.le_refl _, Nat.zero_le _, fun _ => rfl, .inl rfl⟩
    · exact hl.elim
  | .app k e sz l, y, u, hl, hr => by
    unfold DLe at hl
    split at hl
    · obtain ⟨h1, h2, rfl, rfl, rfl⟩ := hl
      unfold DRep at hr ⊢
      obtain ⟨g0, g⟩ := hr
      have hs := newSg_some (σ := σ) h1 h2
      refine ⟨g0, ?_⟩
      rcases g with ⟨g1, g2, g3⟩ | ⟨g, cap, cur, fr, g1, g3, g4, g5, g6, g7, g8⟩
      · exact .inl ⟨hs.trans g1, g2, g3⟩
      · exact .inr ⟨g, cap, cur, fr, hs.trans g1, g3, g4, g5, g6, g7, RowsAt.keeps hk _ _ _ _ g8⟩
    · obtain ⟨h1, h2, h3, rfl, rfl⟩ := hl
      unfold DRep CRep at hr
      unfold DRep
      have hs : newSg σ f n k = some (none, 0) := by unfold newSg; rw [if_pos h1, h2]
      exact ⟨h3, .inl ⟨hs, rfl, hr.1⟩⟩
    · exact hl.elim
  | .ptr k o, y, u, hl, hr => by
    unfold DLe at hl
    split at hl
    · obtain ⟨h1, h2, rfl⟩ := hl
      unfold DRep at hr ⊢
      obtain ⟨g, m, g1, g2⟩ := hr
      exact ⟨g, m, by unfold newSg; rw [if_pos h1, h2]; exact g1, g2⟩
    · exact hl.elim
  | .arr k e sz lo m, y, u, hl, hr => by
    unfold DLe at hl
    split at hl
    · obtain ⟨h1, h2, rfl, rfl, rfl, rfl⟩ := hl
      unfold DRep at hr ⊢
      obtain ⟨g0, g⟩ := hr
      have hs := newSg_some (σ := σ) h1 h2
      refine ⟨g0, ?_⟩
      rcases g with ⟨q, g1, g2, g3⟩ | ⟨g, q, off, cap, cur, fr, g1, g2⟩
      · exact .inl ⟨q, hs.trans g1, g2, g3⟩
      · exact .inr ⟨g, q, off, cap, cur, fr, hs.trans g1, g2⟩
    · obtain ⟨h1, h2, h3, rfl, rfl⟩ := hl
      unfold DRep CRep at hr
      unfold DRep
      have hs : newSg σ f n k = some (none, 0) := by unfold newSg; rw [if_pos h1, h2]
      exact ⟨h3, .inl ⟨0, hs, rfl, none, hr.1⟩⟩
    · obtain ⟨h1, h2, h3, rfl⟩ := hl
      unfold DRep at hr ⊢
      obtain ⟨a, hr⟩ := hr
      have hs : newSg σ f n k = some (none, 0) := by unfold newSg; rw [if_pos h1, h2]
      exact ⟨h3, .inl ⟨0, hs, rfl, a, hr⟩⟩
    · exact hl.elim
  | .elt k sz i o, y, u, hl, hr => by
    unfold DLe at hl
    split at hl
    · obtain ⟨h1, h2, rfl, rfl, rfl⟩ := hl
      unfold DRep at hr ⊢
      obtain ⟨g, m, g1, g2⟩ := hr
      exact ⟨g, m, by unfold newSg; rw [if_pos h1, h2]; exact g1, g2⟩
    · exact hl.elim
  | .clo g a l, y, u, hl, hr => by
    unfold DLe at hl
    split at hl
    · obtain ⟨rfl, h1, h2⟩ := hl
      unfold DRep at hr ⊢
      obtain ⟨us, vs, rfl, g1, g2⟩ := hr
      exact ⟨us, vs, rfl, dsrep_wk hk a _ us h1 g1, dsrep_wk hk l _ vs h2 g2⟩
    · exact hl.elim
  | .optp k o, y, u, hl, hr => by
    unfold DLe at hl
    split at hl
    · obtain ⟨h1, h2, rfl⟩ := hl
      unfold DRep at hr ⊢
      exact hr.imp id fun ⟨g, m, g1, g2⟩ => ⟨g, m, (newSg_some h1 h2).trans g1, g2⟩
    · obtain ⟨h1, h2, rfl⟩ := hl
      unfold DRep at hr ⊢
      obtain ⟨g, m, g1, g2⟩ := hr
      exact .inr ⟨g, m, (newSg_some h1 h2).trans g1, g2⟩
    · subst hl
      unfold DRep CRep at hr
      unfold DRep
      exact .inl hr.1
    · exact hl.elim
  | .data k e l, y, u, hl, hr => by
    unfold DLe at hl
    split at hl
    · obtain ⟨h1, h2, rfl, rfl⟩ := hl
      unfold DRep at hr ⊢
      rcases hr with hr | ⟨h0, g, cur, fr, g1, g2, g3, g4, g5, g6⟩
      · exact .inl hr
      · exact .inr ⟨h0, g, cur, fr, (newSg_some h1 h2).trans g1, g2, g3, g4, g5, RowsAt.keeps hk _ _ _ _ g6⟩
    · exact hl.elim
  | .mp k, y, u, hl, hr => by
    unfold DLe at hl
    split at hl
    · obtain ⟨h1, h2⟩ := hl
      unfold DRep at hr ⊢
      obtain ⟨g, m, g1, g2⟩ := hr
      exact ⟨g, m, (newSg_some h1 h2).trans g1, g2⟩
    · exact hl.elim
  | .emp, y, u, hl, hr => by
    unfold DLe at hl
    split at hl
    · unfold DRep at hr ⊢; exact hr
    · exact hl.elim
theorem dsrep_wk {F F' : Fzn} (hk : Keeps F F' w w) : ∀ (xs ys : List D) (us : List Value), DLes f n xs ys → DsRep σ F w ys us → DsRep (newSg σ f n) F' w xs us
  | [], ys, us, hl, hr => by
    unfold DLes at hl
    subst hl
    rw [dsRep_nil_inv hr]; exact dsRep_nil
  | x :: xs, ys, us, hl, hr => by
    unfold DLes at hl
    split at hl
    · exact hl.elim
    · obtain ⟨u, vs, rfl, h1, h2⟩ := dsRep_inv hr
      exact dsRep_cons (drep_wk hk x _ u hl.1 h1) (dsrep_wk hk xs _ vs hl.2 h2)
end
mutual
theorem prep_wk {F F' : Fzn} (hk : Keeps F F' w w) : ∀ (x y : PV) (u : Value), PLe f n x y → PRep σ F w y u → PRep (newSg σ f n) F' w x u
  | .any, y, u, hl, hr => by unfold PRep; trivial
  | .d x, y, u, hl, hr => by
    unfold PLe at hl
    split at hl
    · unfold PRep at hr ⊢; exact drep_wk hk _ _ _ hl hr
    · exact hl.elim
  | .agg l, y, u, hl, hr => by
    unfold PLe at hl
    split at hl
    · unfold PRep at hr ⊢
      obtain ⟨xs, h1, h2⟩ := hr
      exact ⟨xs, h1, dsrep_wk hk _ _ _ hl h2⟩
    · exact hl.elim
  | .tup l, y, u, hl, hr => by
    unfold PLe at hl
    split at hl
    · unfold PRep at hr ⊢
      obtain ⟨xs, h1, h2⟩ := hr
      exact ⟨xs, h1, psrep_wk hk _ _ _ hl h2⟩
    · exact hl.elim
theorem psrep_wk {F F' : Fzn} (hk : Keeps F F' w w) : ∀ (xs ys : List PV) (us : List Value), PLeT f n xs ys → PsRep σ F w ys us → PsRep (newSg σ f n) F' w xs us
  | [], ys, us, hl, hr => by
    unfold PLeT at hl
    subst hl
    cases us with
    | nil => unfold PsRep; trivial
    | cons _ _ => unfold PsRep at hr; exact hr.elim
  | x :: xs, ys, us, hl, hr => by
    unfold PLeT at hl
    split at hl
    · exact hl.elim
    · cases us with
      | nil => unfold PsRep at hr; exact hr.elim
      | cons u us =>
        unfold PsRep at hr ⊢
        exact ⟨prep_wk hk x _ u hl.1 hr.1, psrep_wk hk xs _ us hl.2 hr.2⟩
end

theorem kin_mem : ∀ {n : List Nat} {k : Nat}, kin k n = true → k ∈ n
  | x :: xs, k, h => by
    unfold kin at h
    cases hq : Nat.beq k x with
    | true => rw [Nat.eq_of_beq_eq_true hq]; exact List.mem_cons_self ..
    | false => rw [hq, cond_false] at h; exact List.mem_cons_of_mem _ (kin_mem h)

/-- a kept key stands for an old one, or for nothing yet -/
theorem hb_old (hh : HLes f n h lh) : ∀ k hb, hpL lh k = some hb → kin k n = true ∧ ((∃ k' b', f k = some k' ∧ h k' = some b' ∧ HLe f n hb b') ∨ (f k = none ∧ ((∃ e sz, hb = .tail e sz ∧ 0 < sz) ∨ (∃ e sz, hb = .arr e sz [] ∧ 0 < sz) ∨ ∃ e sz, hb = .darr e sz [] ∧ 0 < sz))) := by
  intro k hb hk
  obtain ⟨h1, h2⟩ := hle_of hh hk
  refine ⟨h1, ?_⟩
  unfold KLe at h2
  split at h2
  · rename_i k' hf
    split at h2
    · rename_i b' hb'; exact .inl ⟨k', b', hf, hb', h2⟩
    · exact h2.elim
  · rename_i hf
    split at h2
    · exact .inr ⟨hf, .inl ⟨_, _, rfl, h2⟩⟩
    · obtain ⟨h3, rfl⟩ := h2; exact .inr ⟨hf, .inr (.inl ⟨_, _, rfl, h3⟩)⟩
    · obtain ⟨h3, rfl⟩ := h2; exact .inr ⟨hf, .inr (.inr ⟨_, _, rfl, h3⟩)⟩
    · exact h2.elim
    · exact h2.elim
theorem dless_len : ∀ {l m : List (List D)}, DLess f n l m → m.length = l.length
  | [], m, h => by unfold DLess at h; subst h; rfl
  | x :: xs, m, h => by
    unfold DLess at h
    split at h
    · exact h.elim
    · rw [List.length_cons, List.length_cons, dless_len h.2]
theorem dles_len : ∀ {l m : List D}, DLes f n l m → m.length = l.length
  | [], m, h => by unfold DLes at h; subst h; rfl
  | x :: xs, m, h => by
    unfold DLes at h
    split at h
    · exact h.elim
    · rw [List.length_cons, List.length_cons, dles_len h.2]
theorem dless_row {s : Nat} : ∀ {l m : List (List D)}, DLess f n l m → (∀ r ∈ m, r.length = s) → ∀ r ∈ l, r.length = s
  | [], m, h, _, r, hr => by cases hr
  | x :: xs, m, h, hm, r, hr => by
    unfold DLess at h
    split at h
    · exact h.elim
    · rcases List.mem_cons.1 hr with rfl | hr
      · rw [← dles_len h.1]; exact hm _ (List.mem_cons_self ..)
      · exact dless_row h.2 (fun q hq => hm q (List.mem_cons_of_mem _ hq)) r hr
theorem dles_app : ∀ {a b c d : List D}, DLes f n a c → DLes f n b d → DLes f n (a ++ b) (c ++ d)
  | [], b, c, d, h1, h2 => by unfold DLes at h1; subst h1; exact h2
  | x :: xs, b, c, d, h1, h2 => by
    unfold DLes at h1
    split at h1
    · exact h1.elim
    · rw [List.cons_append, List.cons_append]; unfold DLes; exact ⟨h1.1, dles_app h1.2 h2⟩
theorem dless_flat : ∀ {l m : List (List D)}, DLess f n l m → DLes f n l.flatten m.flatten
  | [], m, h => by unfold DLess at h; subst h; unfold DLes; rfl
  | x :: xs, m, h => by
    unfold DLess at h
    split at h
    · exact h.elim
    · rw [List.flatten_cons, List.flatten_cons]; exact dles_app h.1 (dless_flat h.2)
theorem dless_app : ∀ {a b c d : List (List D)}, DLess f n a c → DLess f n b d → DLess f n (a ++ b) (c ++ d)
  | [], b, c, d, h1, h2 => by unfold DLess at h1; subst h1; exact h2
  | x :: xs, b, c, d, h1, h2 => by
    unfold DLess at h1
    split at h1
    · exact h1.elim
    · rw [List.cons_append, List.cons_append]; unfold DLess; exact ⟨h1.1, dless_app h1.2 h2⟩
theorem dles_cs : ∀ (l : List C), DLes f n (l.map D.c) (l.map D.c)
  | [] => by unfold DLes; rfl
  | x :: xs => by rw [List.map_cons]; unfold DLes; exact ⟨by unfold DLe; exact .inl rfl, dles_cs xs⟩
/-- rows of what is frozen are as they were -/
theorem dless_cs : ∀ (l : List (List C)), DLess f n (l.map (List.map D.c)) (l.map (List.map D.c))
  | [] => by unfold DLess; rfl
  | x :: xs => by rw [List.map_cons]; unfold DLess; exact ⟨dles_cs x, dless_cs xs⟩
theorem hle_shut {hb b' : HB} (hl : HLe f n hb b') {m o : Nat} (hs : b'.shut m o) : hb.shut m o := by
  cases b' with
  | box _ _ => exact hs.elim
  | arr _ _ _ => exact hs.elim
  | mp _ => exact hs.elim
  | darr _ _ _ => exact hs.elim
  | tail e' sz' =>
    cases hb with
    | tail e sz => obtain ⟨_, rfl⟩ := hl; exact hs
    | box _ _ => exact hl.elim
    | arr _ _ _ => exact hl.elim
    | mp _ => exact hl.elim
    | darr _ _ _ => exact hl.elim
theorem hb_wk {F F' : Fzn} {own own' : Nat → Prop} (hk : Keeps F F' w w) (hown : ∀ g, own g → own' g) {k k' : Nat} {hb b' : HB} (hin : kin k n = true) (hf : f k = some k') (hl : HLe f n hb b') (ho : HbOk σ F w own k' b') : HbOk (newSg σ f n) F' w own' k hb := by
  have hsg : newSg σ f n k = σ k' := by unfold newSg; rw [if_pos hin, hf]
  unfold HLe at hl
  split at hl
  · obtain ⟨g, m', cs, r1, r2, r3, r4⟩ := ho
    obtain ⟨rfl, hl⟩ := hl
    exact ⟨g, m', cs, hsg.trans r1, hown _ r2, r3, dsrep_wk hk _ _ _ hl r4⟩
  · obtain ⟨rfl, rfl⟩ := hl
    obtain ⟨r0, ob, m', r1, r2⟩ := ho
    refine ⟨r0, ob, m', hsg.trans r1, ?_⟩
    cases ob with
    | none => exact r2
    | some g => exact ⟨hown _ r2.1, r2.2⟩
  · obtain ⟨rfl, rfl, rfl⟩ := hl
    obtain ⟨r0, r00, ob, m', r1, r2⟩ := ho
    refine ⟨r0, r00, ob, m', hsg.trans r1, ?_⟩
    cases ob with
    | none => exact r2
    | some g =>
      obtain ⟨q1, cur, q2, q3, q4⟩ := r2
      exact ⟨hown _ q1, cur, q2, q3, CsRep.keeps hk _ _ q4⟩
  · obtain rfl := hl
    obtain ⟨g, m', es, cl, r1, r2, r3⟩ := ho
    exact ⟨g, m', es, cl, hsg.trans r1, hown _ r2, r3⟩
  · obtain ⟨rfl, rfl, hl⟩ := hl
    obtain ⟨r0, r00, ob, m', r1, r2⟩ := ho
    have hlen := dless_len hl
    refine ⟨r0, dless_row hl r00, ob, m', hsg.trans r1, ?_⟩
    cases ob with
    | none => subst r2; exact List.eq_nil_of_length_eq_zero hlen.symm
    | some g =>
      obtain ⟨q1, cur, q2, q3, q4⟩ := r2
      rw [hlen] at q3 q4
      exact ⟨hown _ q1, cur, q2, q3, dsrep_wk hk _ _ _ (dless_flat hl) q4⟩
  · rename_i e sz rows e' sz' rows'
    obtain ⟨rfl, rfl, rfl⟩ := hl
    obtain ⟨r0, r00, ob, m', r1, r2⟩ := ho
    refine ⟨r0, fun r hr => ?_, ob, m', hsg.trans r1, ?_⟩
    · obtain ⟨r', hr', rfl⟩ := List.mem_map.1 hr
      rw [List.length_map]; exact r00 r' hr'
    · cases ob with
      | none => subst r2; rfl
      | some g =>
        obtain ⟨q1, cur, q2, q3, q4⟩ := r2
        refine ⟨hown _ q1, cur, q2, by rw [List.length_map]; exact q3, ?_⟩
        rw [List.length_map, show (rows'.map (List.map D.c)).flatten = rows'.flatten.map D.c by rw [List.map_flatten]]
        exact dsRep_of_cs (CsRep.keeps hk _ _ q4)
  · exact hl.elim

theorem fkOk_out {fk : List Nat} (h : fkOk f n fk = true) : ∀ k ∈ fk, f k = some k ∧ kin k n = true := by
  induction fk with
  | nil => intro k hk; cases hk
  | cons q r ih =>
    intro k hk
    unfold fkOk at h
    simp only [Bool.and_eq_true] at h
    obtain ⟨h1, h2, h3⟩ := h
    rcases List.mem_cons.1 hk with rfl | hk
    · refine ⟨?_, h2⟩
      split at h1
      · rename_i k' hq; rw [hq, Nat.eq_of_beq_eq_true h1]
      · cases h1
    · exact ih h3 k hk
theorem sw_wk {fk : List Nat} (hfk : ∀ k, c.σ0 k ≠ none → k ∈ fk) (hs : SW c σ h w) (hi : injOn f lh = true) (hff : fkOk f n fk = true) (hh : HLes f n h lh) :
    Keeps (fz c σ h w) (fz c (newSg σ f n) (hpL lh) w) w w ∧ SW c (newSg σ f n) (hpL lh) w := by
  have old := hb_old hh
  have hkeep : Keeps (fz c σ h w) (fz c (newSg σ f n) (hpL lh) w) w w := by
    refine ⟨fun b o hf => hf.imp id fun ⟨f1, f2, f3⟩ => ⟨f1, f2, fun k m hb hk hσ => ?_⟩, fun _ _ _ => rfl⟩
    obtain ⟨g1, g2⟩ := old k hb hk
    unfold newSg at hσ
    rw [if_pos g1] at hσ
    rcases g2 with ⟨k', b', q1, q2, q3⟩ | ⟨q1, _⟩
    · rw [q1] at hσ
      exact hle_shut q3 (f3 k' m b' q2 hσ)
    · rw [q1] at hσ; cases hσ
  refine ⟨hkeep, hs.os, hs.tape, hs.output, hs.size, hs.block, fun k hb hk => ?_, fun k1 k2 g n1 n2 a1 a2 a3 a4 => ?_, hs.kept.trans hkeep, hs.shape, fun k x hk => ?_⟩
  · obtain ⟨g1, g2⟩ := old k hb hk
    rcases g2 with ⟨k', b', q1, q2, q3⟩ | ⟨q1, ⟨e, sz, rfl, q2⟩ | ⟨e, sz, rfl, q2⟩ | ⟨e, sz, rfl, q2⟩⟩
    · exact hb_wk hkeep (fun _ h => h) g1 q1 q3 (hs.hp k' b' q2)
    · exact ⟨q2, none, 0, by unfold newSg; rw [if_pos g1, q1], rfl⟩
    · exact ⟨q2, by simp, none, 0, by unfold newSg; rw [if_pos g1, q1], rfl⟩
    · exact ⟨q2, by simp, none, 0, by unfold newSg; rw [if_pos g1, q1], rfl⟩
  · cases hb1 : hpL lh k1 with
    | none => exact absurd hb1 a1
    | some b1 =>
      cases hb2 : hpL lh k2 with
      | none => exact absurd hb2 a2
      | some b2 =>
        obtain ⟨g1, g2⟩ := old k1 b1 hb1
        obtain ⟨g3, g4⟩ := old k2 b2 hb2
        unfold newSg at a3 a4
        rw [if_pos g1] at a3
        rw [if_pos g3] at a4
        rcases g2 with ⟨k1', b1', q1, q2, _⟩ | ⟨q1, _⟩
        · rcases g4 with ⟨k2', b2', r1, r2, _⟩ | ⟨r1, _⟩
          · rw [q1] at a3
            rw [r1] at a4
            have := hs.inj k1' k2' g n1 n2 (by rw [q2]; simp) (by rw [r2]; simp) a3 a4
            subst this
            exact injOn_out hi k1 k2 b1 b2 k1' (hpL_mem hb1) (hpL_mem hb2) q1 r1
          · rw [r1] at a4; cases a4
        · rw [q1] at a3; cases a3
  · obtain ⟨q1, q2⟩ := fkOk_out hff k (hfk k (by rw [hk]; simp))
    rw [newSg_some q2 q1]
    exact hs.sg0 k x hk
theorem st_wk {fk : List Nat} (hfk : ∀ k, c.σ0 k ≠ none → k ∈ fk) (hs : St c nt σ e h a w) (hw : Wk fk e h le lh n) : ∃ σ', St c nt σ' (ofL le) (hpL lh) a w ∧ ∀ k, k ∉ n → σ' k = none := by
  obtain ⟨f, hi, hff, he, hh⟩ := hw
  obtain ⟨hkeep, hsw⟩ := sw_wk hfk hs.toSW hi hff hh
  exact ⟨newSg σ (fnL f) n, ⟨hsw, fun t => prep_wk hkeep _ _ _ (ple_of he) (hs.env t), hs.defers, hs.nt⟩, fun k hk => by unfold newSg; rw [if_neg fun e => hk (kin_mem e)]⟩
end

end Go.Proofs.Ytohlkegmmbdlaaa.Pm

namespace Go.Proofs.Ytohlkegmmbdlaaa.Pm
open Go.RowKit
set_option linter.unusedVariables false

abbrev Cont := Exit → Env → Hp → List Nat → Prop
/-- what stands behind -/
def seqK (next : Env → Hp → List Nat → Prop) (Q : Cont) : Cont := fun x e h n => match x with
  | .normal => next e h n
  | x => Q x e h n
def blockK (id : Nat) (Q : Cont) : Cont := fun x e h n => match x with
  | .exit id' => match Nat.beq id' id with
    | true => Q .normal e h n
    | false => Q (.exit id') e h n
  | x => Q x e h n
def scopeK (Q : Cont) : Cont := fun x e h n => match x with
  | .goto _ => False
  | x => Q x e h n
/-- a loop's round: the next state -/
inductive Round (fk : List Nat) (S : Type) (E : S → List (Nat × PV)) (H : S → List (Nat × HB)) (n : List Nat) (inv : S → Prop) (μ : S → Nat) (s : S) (e : Env) (h : Hp) : Prop
  | mk (s' : S) (hi : inv s') (hμ : μ s' < μ s) (hw : Wk fk e h (E s') (H s') n)
def roundK (fk : List Nat) (S : Type) (E : S → List (Nat × PV)) (H : S → List (Nat × HB)) (n : List Nat) (inv : S → Prop) (μ : S → Nat) (s : S) (Q : Cont) : Cont := fun x e h m => match x with
  | .normal => Round fk S E H n inv μ s e h
  | x => Q x e h m
/-- a loop: what holds at each round's head, of a state S; a measure -/
inductive LoopC (fk : List Nat) (body : Env → Hp → List Nat → Cont → Prop) (e : Env) (h : Hp) (Q : Cont) : Prop
  | mk (S : Type) (E : S → List (Nat × PV)) (H : S → List (Nat × HB)) (n : List Nat) (inv : S → Prop) (μ : S → Nat) (s0 : S) (h0 : inv s0) (hm : Wk fk e h (E s0) (H s0) n)
      (round : ∀ s, inv s → body (ofL (E s)) (hpL (H s)) n (roundK fk S E H n inv μ s Q))
abbrev VT := Env → Hp → List Nat → Cont → Prop
noncomputable def vc (P : Program) (nt : Nat) (fk : List Nat) (X : XT) (cd : Code) : VT :=
  Code.rec (motive := fun _ => VT)
    (fun e h n Q => Q .normal e h n)
    (fun _ ops draw e h n Q => regionP P nt ops draw e h n X fun e' h' n' => Q .normal e' h' n')
    (fun _ _ ix iy e h n Q => ix e h n (seqK (fun e' h' n' => iy e' h' n' Q) Q))
    (fun c _ _ ix iy e h n Q => match ev e c with
      | .d (.c (.v (.bool b))) => BCase b (ix e h n Q) (iy e h n Q)
      | _ => False)
    (fun id _ i e h n Q => i e h n (blockK id Q))
    (fun _ i e h n Q => LoopC fk i e h Q)
    (fun _ _ _ _ _ _ _ _ _ _ => False)
    (fun id e h n Q => Q (.exit id) e h n)
    (fun _ i e h n Q => i e h n (scopeK Q))
    (fun _ _ _ _ _ => False)
    (fun _ _ _ _ _ => False)
    (fun e h n Q => Q .ret e h n)
    (fun _ _ _ _ _ => False) cd
theorem vc_cond {P : Program} {nt : Nat} {fk : List Nat} {X : XT} {c : Operand} {x y : Code} {e : Env} {h : Hp} {n : List Nat} {Q : Cont} :
    vc P nt fk X (.cond c x y) e h n Q = match ev e c with
      | .d (.c (.v (.bool b))) => BCase b (vc P nt fk X x e h n Q) (vc P nt fk X y e h n Q)
      | _ => False := rfl

/-- what holds behind -/
def After (c : Ctx) (nt : Nat) (X : XT) (Q : Cont) : Exit → Act → World → Prop := fun x a w => match x with
  | .panic ch => ∃ v, ch = [{ v := v, recovered := false }] ∧ ∃ e h n σ, X v e h n ∧ St c nt σ e h a w ∧ ∀ k, k ∉ n → σ k = none
  | x => ∃ e h n σ, Q x e h n ∧ St c nt σ e h a w ∧ ∀ k, k ∉ n → σ k = none

theorem vc_out {P : Program} {nt : Nat} {fk : List Nat} {X : XT} {c : Ctx} (hfk : ∀ k, c.σ0 k ≠ none → k ∈ fk) (hc : c.Ok) (hm : P.follows .mixedOrders = true) : ∀ (cd : Code) (e : Env) (h : Hp) (n : List Nat) (Q : Cont) (σ : Sg) (a : Act) (w : World), vc P nt fk X cd e h n Q → St c nt σ e h a w → (∀ k, k ∉ n → σ k = none) →
    cd.wp P (After c nt X Q) a w
  | .skip, e, h, n, Q, σ, a, w, hv, hs, hf => wp_skip ⟨e, h, n, σ, hv, hs, hf⟩
  | .region id ops draw, e, h, n, Q, σ, a, w, hv, hs, hf =>
    region_out hc hm hv (fun x e h n σ a w hx hs hf => ⟨x, rfl, e, h, n, σ, hx, hs, hf⟩) hs hf fun e' h' n' σ' a' w' hk hs' hf' => ⟨e', h', n', σ', hk, hs', hf'⟩
  | .seq x y, e, h, n, Q, σ, a, w, hv, hs, hf => by
    refine wp_seq (wp_mono (vc_out hfk hc hm x e h n _ σ a w hv hs hf) ?_)
    intro ex a' w' hq
    cases ex with
    | normal =>
      obtain ⟨e', h', n', σ', hq, hs', hf'⟩ := hq
      exact vc_out hfk hc hm y e' h' n' Q σ' a' w' hq hs' hf'
    | exit id => exact hq
    | goto l => exact hq
    | ret => exact hq
    | panic ch => exact hq
    | outgrown => exact hq
  | .cond o x y, e, h, n, Q, σ, a, w, hv, hs, hf => by
    rw [vc_cond] at hv
    split at hv
    · rename_i b hb
      have h1 := rep_ev hs o
      rw [hb] at h1
      have h2 := rep_v h1
      obtain ⟨ht, hff⟩ := hv
      refine wp_cond_split h2 (fun hb' => vc_out hfk hc hm x e h n Q σ a w (ht hb') hs hf) (fun hb' => vc_out hfk hc hm y e h n Q σ a w (hff hb') hs hf)
    · exact hv.elim
  | .block id cd, e, h, n, Q, σ, a, w, hv, hs, hf => by
    refine wp_block (wp_mono (vc_out hfk hc hm cd e h n _ σ a w hv hs hf) ?_)
    intro ex a' w' hq
    cases ex with
    | exit id' =>
      obtain ⟨e', h', n', σ', hq, hs', hf'⟩ := hq
      simp only [Exit.inBlock]
      simp only [blockK] at hq
      split at hq
      · rename_i hb
        rw [if_pos (Nat.eq_of_beq_eq_true hb)]
        exact ⟨e', h', n', σ', hq, hs', hf'⟩
      · rename_i hb
        rw [if_neg (fun e => by subst e; rw [Nat.beq_refl] at hb; cases hb)]
        exact ⟨e', h', n', σ', hq, hs', hf'⟩
    | normal => exact hq
    | goto l => exact hq
    | ret => exact hq
    | panic ch => exact hq
    | outgrown => exact hq
  | .loop cd, e, h, n, Q, σ, a, w, hv, hs, hf => by
    obtain ⟨S, E, H, m, inv, μ, s0, h0, hw, round⟩ := hv
    obtain ⟨σ0, hs0, hf0⟩ := st_wk hfk hs hw
    refine wp_loop_ghost (fun k a' w' => ∃ s σ, μ s = k ∧ inv s ∧ St c nt σ (ofL (E s)) (hpL (H s)) a' w' ∧ ∀ q, q ∉ m → σ q = none) (μ s0) ⟨s0, σ0, rfl, h0, hs0, hf0⟩ ?_
    rintro k a1 w1 ⟨s1, σ1, rfl, h1, h2, h3⟩
    refine wp_mono (vc_out hfk hc hm cd _ _ _ _ σ1 a1 w1 (round s1 h1) h2 h3) ?_
    intro ex a' w' hq
    cases ex with
    | normal =>
      obtain ⟨e', h', n', σ', hq, hs', hf'⟩ := hq
      obtain ⟨s2, i2, lt, hw2⟩ := hq
      obtain ⟨σ2, hs2, hf2⟩ := st_wk hfk hs' hw2
      exact ⟨μ s2, lt, s2, σ2, rfl, i2, hs2, hf2⟩
    | exit id => exact hq
    | goto l => exact hq
    | ret => exact hq
    | panic ch => exact hq
    | outgrown => exact hq
  | .exit id, e, h, n, Q, σ, a, w, hv, hs, hf => wp_exit ⟨e, h, n, σ, hv, hs, hf⟩
  | .scope cd, e, h, n, Q, σ, a, w, hv, hs, hf => by
    refine wp_scope_straight (wp_mono (vc_out hfk hc hm cd e h n _ σ a w hv hs hf) ?_)
    intro ex a' w' hq
    cases ex with
    | goto l => obtain ⟨e', h', n', σ', hq, hs', hf'⟩ := hq; exact hq
    | normal => exact hq
    | exit id => exact hq
    | ret => exact hq
    | panic ch => exact hq
    | outgrown => exact hq
  | .ret, e, h, n, Q, σ, a, w, hv, hs, hf => wp_ret ⟨e, h, n, σ, hv, hs, hf⟩
  | .rangeFunc _ _ _ _, e, h, n, Q, σ, a, w, hv, hs, hf => False.elim hv
  | .label _, e, h, n, Q, σ, a, w, hv, hs, hf => False.elim hv
  | .goto _, e, h, n, Q, σ, a, w, hv, hs, hf => False.elim hv
  | .refuse _, e, h, n, Q, σ, a, w, hv, hs, hf => False.elim hv


/-! ### what a function hands back -/
def resP (P : Program) (h : Hp) (e : Env) : List ResultVar → (List PV → Prop) → Prop
  | [], K => K []
  | .tmp t :: rs, K => PV.force (e t) fun v => resP P h e rs fun vs => K (v :: vs)
  | .cell t ty :: rs, K => loadP P h ty (e t) fun v _ => resP P h e rs fun vs => K (v :: vs)
/-- what a function hands back: an array of its own may be closed, for nobody writes it any more -/
def D.closeA (h : Hp) (x : D) (K : C → Prop) : Prop := match x with
  | .c y => K y
  | .app _ _ sz l => K (.sl sz l)
  | .arr k _ sz lo n => match h k with
    | some (.arr _ s rows) => match Nat.beq s sz with
      | true => Need (lo + n ≤ rows.length) (K (.sl sz ((rows.drop lo).take n)))
      | false => False
    | _ => False
  | .clo f [] [] => K (.v (.func (.func f) #[] #[]))
  | _ => False
/-- what closes to what -/
def ClL (h : Hp) : List D → List C → Prop
  | [], ys => ys = []
  | x :: xs, ys => match ys with
    | [] => False
    | y :: ys => D.closeA h x (fun z => z = y) ∧ ClL h xs ys
def ClR (h : Hp) : List (List D) → List (List C) → Prop
  | [], ys => ys = []
  | x :: xs, ys => match ys with
    | [] => False
    | y :: ys => ClL h x y ∧ ClR h xs ys
/-- rows that are closed -/
inductive RowsC (h : Hp) (rows : List (List D)) (K : List (List C) → Prop) : Prop
  | mk (rs : List (List C)) (hr : ClR h rows rs) (hk : K rs)
theorem clL_cs {h : Hp} : ∀ l : List C, ClL h (l.map D.c) l
  | [] => by unfold ClL; rfl
  | x :: xs => by rw [List.map_cons]; unfold ClL; exact ⟨rfl, clL_cs xs⟩
theorem clR_cs {h : Hp} : ∀ l : List (List C), ClR h (l.map (List.map D.c)) l
  | [] => by unfold ClR; rfl
  | x :: xs => by rw [List.map_cons]; unfold ClR; exact ⟨clL_cs x, clR_cs xs⟩
theorem clR_app {h : Hp} : ∀ {a b : List (List D)} {c d : List (List C)}, ClR h a c → ClR h b d → ClR h (a ++ b) (c ++ d)
  | [], b, c, d, h1, h2 => by unfold ClR at h1; subst h1; exact h2
  | x :: xs, b, c, d, h1, h2 => by
    unfold ClR at h1
    split at h1
    · exact h1.elim
    · rw [List.cons_append, List.cons_append]; unfold ClR; exact ⟨h1.1, clR_app h1.2 h2⟩
def D.closeH (h : Hp) (x : D) (K : C → Prop) : Prop := match x with
  | .c y => K y
  | .app _ _ sz l => K (.sl sz l)
  | .arr k _ sz lo n => match h k with
    | some (.arr _ s rows) => match Nat.beq s sz with
      | true => Need (lo + n ≤ rows.length) (K (.sl sz ((rows.drop lo).take n)))
      | false => False
    | some (.darr _ s rows) => match Nat.beq s sz with
      | true => RowsC h rows fun rs => Need (lo + n ≤ rs.length) (K (.sl sz ((rs.drop lo).take n)))
      | false => False
    | _ => False
  | .clo f [] [] => K (.v (.func (.func f) #[] #[]))
  | _ => False
def closeHL (h : Hp) : List D → (List C → Prop) → Prop
  | [], K => K []
  | x :: xs, K => D.closeH h x fun y => closeHL h xs fun ys => K (y :: ys)
mutual
def PV.closeH (h : Hp) : PV → (PV → Prop) → Prop
  | .d x, K => D.closeH h x fun y => K (.d (.c y))
  | .agg l, K => closeHL h l fun ys => K (.agg (ys.map D.c))
  | .tup l, K => closeHPs h l fun ys => K (.tup ys)
  | .any, _ => False
def closeHPs (h : Hp) : List PV → (List PV → Prop) → Prop
  | [], K => K []
  | x :: xs, K => PV.closeH h x fun y => closeHPs h xs fun ys => K (y :: ys)
end
inductive Ret (v r : PV) : Prop
  | mk (h : v = r)
  | le (h : PLe (fun _ => none) [] r v)
def tupOf (vs : List PV) (K : PV → Prop) : Prop := match vs with
  | [v] => K v
  | vs => K (.tup vs)
def retQ (P : Program) (fn : Func) (res : PV) : Cont := fun x e h _ => match x with
  | .normal => resP P h e fn.results.toList fun vs => closeHPs h vs fun vs => tupOf vs fun v => Ret v res
  | .ret => resP P h e fn.results.toList fun vs => closeHPs h vs fun vs => tupOf vs fun v => Ret v res
  | _ => False
/-- what it hands back with keys -/
inductive RetS (fk : List Nat) (h : Hp) (res : PV) (fin : Rf) (v : PV) : Prop
  | mk (f : List (Nat × Nat)) (n : List Nat) (hi : injOn (fnL f) fin = true) (hf : fkOk (fnL f) n fk = true) (hr : PLe (fnL f) n res v) (hh : HLes (fnL f) n h fin)
def retS (P : Program) (fn : Func) (fk : List Nat) (res : PV) (fin : Rf) : Cont := fun x e h _ => match x with
  | .normal => resP P h e fn.results.toList fun vs => tupOf vs fun v => RetS fk h res fin v
  | .ret => resP P h e fn.results.toList fun vs => tupOf vs fun v => RetS fk h res fin v
  | _ => False
def argsE (l : List PV) : Env := fun t => match l[t]? with
  | some v => v
  | none => .tup []

theorem loadP_run {P : Program} {c : Ctx} {σ : Sg} {h : Hp} {w : World} {t : TypeId} {x : PV} {K : PV → Rf → Prop} (hv : loadP P h t x K) (hs : SW c σ h w) {u : Value} (hu : PRep σ (fz c σ h w) w x u) :
    ∃ v z rf, K v rf ∧ (Instr.loadAt t u).run P w = .ok z w ∧ (∃ ad, u = .pointer (some ad)) ∧ PRep σ (fz c σ h w) w v z := by
  unfold loadP at hv
  split at hv
  · rename_i l
    obtain ⟨v, h1, h2⟩ := readP_out hv
    unfold PRep DRep CRep at hu
    obtain ⟨b, off, rfl, e3⟩ := hu
    obtain ⟨us, e4, e5, _⟩ := csAt_values e3
    obtain ⟨z, h3, h4⟩ := h2 σ _ w b off us (dsRep_of_cs e4) e5
    exact ⟨v, z, _, h1, by simp only [Instr.loadAt, Instr.sureAddr, Sem.run_bind, Sem.run_pure, Result.andThen_ok, h3], ⟨_, rfl⟩, h4⟩
  · rename_i k off
    split at hv
    · rename_i bt l hk
      obtain ⟨v, h1, h2⟩ := readP_out hv
      unfold PRep DRep at hu
      obtain ⟨g, n, e2, rfl⟩ := hu
      obtain ⟨g', n', cur, e4, e5, e6, e7⟩ := hs.hp k _ hk
      rw [e2] at e4; cases e4
      obtain ⟨z, h3, h4⟩ := h2 σ _ w g off (cur.toList.drop off) (e7.drop off) (fun j v hv => by
        rw [cell_of_row _ _ _ _ _ _ e6]
        rw [List.getElem?_drop] at hv
        simpa using hv)
      exact ⟨v, z, _, h1, by simp only [Instr.loadAt, Instr.sureAddr, Sem.run_bind, Sem.run_pure, Result.andThen_ok, h3], ⟨_, rfl⟩, h4⟩
    · exact hv.elim
  · rename_i k sz j off
    split at hv
    · rename_i e0 s rows hk
      split at hv
      · rename_i es
        obtain rfl := Nat.eq_of_beq_eq_true es
        obtain ⟨r, hr, hv⟩ := hv
        obtain ⟨v, h1, h2⟩ := readP_out hv
        unfold PRep DRep at hu
        obtain ⟨g, n, e2, rfl⟩ := hu
        obtain ⟨hz, hrl, ob, n', e4, e5⟩ := hs.hp k _ hk
        rw [e2] at e4; cases e4
        obtain ⟨e5, cur, e6, e7, e8⟩ := e5
        have hrep := row_rep hrl hr e8
        obtain ⟨z, h3, h4⟩ := h2 σ _ w g (j * s + off) ((((cur.toList.take (rows.length * s)).drop (j * s)).take s).drop off) (dsRep_of_cs (hrep.drop off)) (fun q v hv => by
          rw [cell_of_row _ _ _ _ _ _ e6]
          rw [List.getElem?_drop, List.getElem?_take] at hv
          split at hv
          · rw [List.getElem?_drop, List.getElem?_take] at hv
            split at hv
            · rw [← Array.getElem?_toList, ← hv]; congr 1; omega
            · cases hv
          · cases hv)
        exact ⟨v, z, _, h1, by simp only [Instr.loadAt, Instr.sureAddr, Sem.run_bind, Sem.run_pure, Result.andThen_ok, h3], ⟨_, rfl⟩, h4⟩
      · exact hv.elim
    · rename_i e0 s rows hk
      split at hv
      · rename_i es
        obtain rfl := Nat.eq_of_beq_eq_true es
        obtain ⟨r, hr, hv⟩ := hv
        obtain ⟨v, h1, h2⟩ := readP_out hv
        unfold PRep DRep at hu
        obtain ⟨g, n, e2, rfl⟩ := hu
        obtain ⟨hz, hrl, ob, n', e4, e5⟩ := hs.hp k _ hk
        rw [e2] at e4; cases e4
        obtain ⟨e5, cur, e6, e7, e8⟩ := e5
        have hrep := drow_rep hrl hr e8
        obtain ⟨z, h3, h4⟩ := h2 σ _ w g (j * s + off) ((((cur.toList.take (rows.length * s)).drop (j * s)).take s).drop off) (hrep.drop off) (fun q v hv => by
          rw [cell_of_row _ _ _ _ _ _ e6]
          rw [List.getElem?_drop, List.getElem?_take] at hv
          split at hv
          · rw [List.getElem?_drop, List.getElem?_take] at hv
            split at hv
            · rw [← Array.getElem?_toList, ← hv]; congr 1; omega
            · cases hv
          · cases hv)
        exact ⟨v, z, _, h1, by simp only [Instr.loadAt, Instr.sureAddr, Sem.run_bind, Sem.run_pure, Result.andThen_ok, h3], ⟨_, rfl⟩, h4⟩
      · exact hv.elim
    · exact hv.elim
  · exact hv.elim

def resF (tmps : Array Value) : ResultVar → Sem Value
  | .tmp t => pure (tmps.getD t undef)
  | .cell a t => do loadVar t (← asAddr (tmps.getD a undef))
theorem resP_out {P : Program} {c : Ctx} {nt : Nat} {σ : Sg} {e : Env} {h : Hp} {a : Act} {w : World} (hs : St c nt σ e h a w) : ∀ {rs : List ResultVar} {K : List PV → Prop}, resP P h e rs K →
    ∃ vs us, K vs ∧ (rs.mapM (resF a.tmps)).run P w = .ok us w ∧ PsRep σ (fz c σ h w) w vs us
  | [], K, hv => ⟨[], [], hv, by simp, by unfold PsRep; trivial⟩
  | .tmp t :: rs, K, hv => by
    unfold resP at hv
    obtain ⟨vs, us, h3, h4, h5⟩ := resP_out hs (force_out hv)
    refine ⟨e t :: vs, a.tmps.getD t undef :: us, h3, ?_, by unfold PsRep; exact ⟨hs.env t, h5⟩⟩
    simp only [List.mapM_cons, resF, Sem.run_bind, Sem.run_pure, Result.andThen_ok, h4]
  | .cell t ty :: rs, K, hv => by
    unfold resP at hv
    obtain ⟨v, z, _, g1, g2, ⟨ad, g3⟩, g4⟩ := loadP_run hv hs.toSW (hs.env t)
    obtain ⟨vs, us, h3, h4, h5⟩ := resP_out hs g1
    refine ⟨v :: vs, z :: us, h3, ?_, by unfold PsRep; exact ⟨g4, h5⟩⟩
    rw [g3] at g2
    have g5 : (loadVar ty ad).run P w = .ok z w := by simpa [Instr.loadAt, Instr.sureAddr] using g2
    simp only [List.mapM_cons, resF, Sem.run_bind, Sem.run_pure, Result.andThen_ok, h4, g3, asAddr, g5]

theorem psRep_len {σ : Sg} {F : Fzn} {w : World} : ∀ {l : List PV} {us : List Value}, PsRep σ F w l us → us.length = l.length
  | [], [], _ => rfl
  | _ :: _, _ :: us, h => by unfold PsRep at h; rw [List.length_cons, List.length_cons, psRep_len h.2]
  | [], _ :: _, h => by unfold PsRep at h; exact h.elim
  | _ :: _, [], h => by unfold PsRep at h; exact h.elim
theorem psRep_get {σ : Sg} {F : Fzn} {w : World} : ∀ {l : List PV} {us : List Value} (t : Nat), PsRep σ F w l us → PRep σ F w (argsE l t) ((us[t]?).getD undef)
  | [], [], t, _ => by unfold argsE; simp; exact rep_undef
  | x :: xs, u :: us, 0, h => by unfold PsRep at h; unfold argsE; simpa using h.1
  | x :: xs, u :: us, t + 1, h => by
    unfold PsRep at h
    have := psRep_get t h.2
    unfold argsE at this ⊢
    simpa using this
  | [], _ :: _, _, h => by unfold PsRep at h; exact h.elim
  | _ :: _, [], _, h => by unfold PsRep at h; exact h.elim

theorem tup_out {σ : Sg} {F : Fzn} {w : World} {vs : List PV} {us : List Value} {K : PV → Prop} (h : tupOf vs K) (hr : PsRep σ F w vs us) : ∃ v, K v ∧ PRep σ F w v (if h : us.toArray.size = 1 then us.toArray[0] else .tuple us.toArray) := by
  have hlen := psRep_len hr
  unfold tupOf at h
  split at h
  · rename_i v
    simp only [List.length_singleton] at hlen
    refine ⟨v, h, ?_⟩
    match us, hlen, hr with
    | [u], _, hr => unfold PsRep at hr; simpa using hr.1
  · rename_i hne
    refine ⟨_, h, ?_⟩
    have : ¬ us.toArray.size = 1 := by
      intro hq
      rw [List.size_toArray] at hq
      rw [hq] at hlen
      match vs, hlen, hne with
      | [v], _, hne => exact hne v rfl
    rw [dif_neg this]
    unfold PRep
    exact ⟨us, rfl, hr⟩
theorem results_run {P : Program} {c : Ctx} {nt : Nat} {σ : Sg} {e : Env} {h : Hp} {a : Act} {w : World} {fn : Func} {K : List PV → Prop} (hs : St c nt σ e h a w) (hr : resP P h e fn.results.toList K) :
    ∃ vs us, K vs ∧ (results fn a.tmps).run P w = .ok (if hx : us.toArray.size = 1 then us.toArray[0] else .tuple us.toArray) w ∧ PsRep σ (fz c σ h w) w vs us := by
  obtain ⟨vs, us, h1, h2, h3⟩ := resP_out hs hr
  refine ⟨vs, us, h1, ?_, h3⟩
  have he : results fn a.tmps = (do let vs ← fn.results.mapM (resF a.tmps); pure (if h : vs.size = 1 then vs[0] else .tuple vs)) := by
    unfold results
    congr 1
  rw [he, Array.mapM_eq_mapM_toList]
  simp only [Sem.run_bind, map_eq_pure_bind, bind_assoc, pure_bind, h2, Result.andThen_ok, Sem.run_pure]

/-! ### closing at the end -/
section
variable {c : Ctx} {σ : Sg} {h : Hp} {w : World} {F' : Fzn}
theorem arr_close (hall : ∀ b o, c.own b → b < w.heap.size → F' b o) {k e e2 s lo n : Nat} {rows : List (List C)} {u : Value} (hu : DRep σ (fz c σ h w) w (.arr k e s lo n) u) (hrl : ∀ r ∈ rows, r.length = s) (hle : lo + n ≤ rows.length)
    (hh : ∃ ob q, σ k = some (ob, q) ∧ match ob with
      | none => True
      | some g => c.own g ∧ ∃ cur : Array Value, w.heap[g]? = some (Obj.cells cur e2 (0, 0)) ∧ CsRep F' w rows.flatten (cur.toList.take (rows.length * s))) : CRep F' w (.sl s ((rows.drop lo).take n)) u := by
  obtain ⟨ob, q, h1, h2⟩ := hh
  unfold DRep at hu
  have hlen : ((rows.drop lo).take n).length = n := by rw [List.length_take, List.length_drop]; omega
  unfold CRep
  rw [hlen]
  obtain ⟨_, ⟨m, g1, rfl, b0, rfl⟩ | ⟨g, m, off, cap, cur, fr, g1, rfl, g3, g4, g5, g6, g7⟩⟩ := hu
  · exact ⟨b0, 0, rfl, Nat.le_refl _, Nat.zero_le _, fun _ => rfl, .inl (by simp)⟩
  · refine ⟨_, cap, rfl, g3, g4, (fun e => by cases e), ?_⟩
    by_cases hn : n = 0
    · subst hn; exact .inl (by simp)
    · right
      rw [g1] at h1
      cases h1
      obtain ⟨hown, cur2, p1, p3⟩ := h2
      obtain rfl := g7 (by omega)
      refine ⟨g, lo * s, rfl, ?_⟩
      have hlt : g < w.heap.size := (Array.getElem?_eq_some_iff.1 p1).1
      have hr : RowsAt F' w s g 0 rows := by
        rw [rowsAt_iff]
        refine ⟨hrl, csAt_of_values p3 (fun j u hu => ?_) (fun j hj => hall _ _ hown hlt)⟩
        rw [Nat.zero_add, cell_of_row _ _ _ _ _ _ p1]
        rw [List.getElem?_take] at hu
        split at hu
        · simpa using hu
        · cases hu
      have := rowsAt_take n (rowsAt_drop lo (by omega) hr)
      rwa [Nat.zero_add] at this
theorem closeA_out (hs : SW c σ h w) (hk : Keeps (fz c σ h w) F' w w) (hall : ∀ b o, c.own b → b < w.heap.size → F' b o) {x : D} {K : C → Prop} (hx : D.closeA h x K) : ∃ y, K y ∧ ∀ u, DRep σ (fz c σ h w) w x u → CRep F' w y u := by
  unfold D.closeA at hx
  split at hx
  · exact ⟨_, hx, fun u hu => by unfold DRep at hu; exact CRep.keeps hk _ _ hu⟩
  · rename_i k e sz l
    refine ⟨_, hx, fun u hu => ?_⟩
    have := rows_val (σ := σ) (F := fz c σ h w) (w := w) (x := .d (.app k e sz l)) (.inr ⟨k, e, rfl⟩) (u := u) (by unfold PRep; exact hu)
    refine CRep.keeps hk _ _ ?_
    unfold CRep
    exact this
  · rename_i k e sz lo n
    split at hx
    · rename_i e2 s rows hh
      split at hx
      · rename_i es
        obtain rfl := Nat.eq_of_beq_eq_true es
        obtain ⟨hle, hx⟩ := hx
        refine ⟨_, hx, fun u hu => ?_⟩
        obtain ⟨hz, hrl, ob, q, h1, h2⟩ := hs.hp k _ hh
        refine arr_close (e2 := e2) hall hu hrl hle ⟨ob, q, h1, ?_⟩
        cases ob with
        | none => trivial
        | some g => exact ⟨h2.1, h2.2.choose, h2.2.choose_spec.1, CsRep.keeps hk _ _ h2.2.choose_spec.2.2⟩
      · exact hx.elim
    · exact hx.elim
  · rename_i f
    refine ⟨_, hx, fun u hu => ?_⟩
    unfold DRep at hu
    obtain ⟨us, vs, rfl, h1, h2⟩ := hu
    rw [dsRep_nil_inv h1, dsRep_nil_inv h2]
    unfold CRep
    exact ⟨rfl, rfl⟩
  · exact hx.elim
theorem dsRep_split {F : Fzn} : ∀ {a b : List D} {us : List Value}, DsRep σ F w (a ++ b) us → ∃ u1 u2, us = u1 ++ u2 ∧ DsRep σ F w a u1 ∧ DsRep σ F w b u2
  | [], b, us, h => ⟨[], us, rfl, dsRep_nil, h⟩
  | x :: xs, b, us, h => by
    rw [List.cons_append] at h
    obtain ⟨u, vs, rfl, h1, h2⟩ := dsRep_inv h
    obtain ⟨u1, u2, rfl, h3, h4⟩ := dsRep_split h2
    exact ⟨u :: u1, u2, rfl, dsRep_cons h1 h3, h4⟩
theorem clL_out (hs : SW c σ h w) (hk : Keeps (fz c σ h w) F' w w) (hall : ∀ b o, c.own b → b < w.heap.size → F' b o) : ∀ {l : List D} {ys : List C}, ClL h l ys → ys.length = l.length ∧ ∀ us, DsRep σ (fz c σ h w) w l us → CsRep F' w ys us
  | [], ys, h => by unfold ClL at h; subst h; exact ⟨rfl, fun us hu => by rw [dsRep_nil_inv hu]; exact csRep_nil⟩
  | x :: xs, ys, h => by
    unfold ClL at h
    split at h
    · exact h.elim
    · obtain ⟨y, rfl, h2⟩ := closeA_out hs hk hall h.1
      obtain ⟨h3, h4⟩ := clL_out hs hk hall h.2
      refine ⟨by rw [List.length_cons, List.length_cons, h3], fun us hu => ?_⟩
      obtain ⟨u, vs, rfl, g1, g2⟩ := dsRep_inv hu
      exact csRep_cons (h2 u g1) (h4 vs g2)
theorem clR_out {s : Nat} (hs : SW c σ h w) (hk : Keeps (fz c σ h w) F' w w) (hall : ∀ b o, c.own b → b < w.heap.size → F' b o) : ∀ {l : List (List D)} {rs : List (List C)}, (∀ r ∈ l, r.length = s) → ClR h l rs →
    rs.length = l.length ∧ (∀ r ∈ rs, r.length = s) ∧ ∀ us, DsRep σ (fz c σ h w) w l.flatten us → CsRep F' w rs.flatten us
  | [], rs, _, hr => by
    unfold ClR at hr
    subst hr
    exact ⟨rfl, by simp, fun us hu => by rw [List.flatten_nil] at hu; rw [dsRep_nil_inv hu]; exact csRep_nil⟩
  | x :: xs, rs, hl, hr => by
    unfold ClR at hr
    split at hr
    · exact hr.elim
    · obtain ⟨g1, g2⟩ := clL_out hs hk hall hr.1
      obtain ⟨i1, i2, i3⟩ := clR_out hs hk hall (fun r hr => hl r (List.mem_cons_of_mem _ hr)) hr.2
      refine ⟨by rw [List.length_cons, List.length_cons, i1], fun r hr => ?_, fun us hu => ?_⟩
      · rcases List.mem_cons.1 hr with rfl | hr
        · rw [g1]; exact hl _ (List.mem_cons_self ..)
        · exact i2 r hr
      · rw [List.flatten_cons] at hu ⊢
        obtain ⟨u1, u2, rfl, f1, f2⟩ := dsRep_split hu
        exact CsRep.append (g2 u1 f1) (i3 u2 f2)
theorem closeH_out (hs : SW c σ h w) (hk : Keeps (fz c σ h w) F' w w) (hall : ∀ b o, c.own b → b < w.heap.size → F' b o) {x : D} {K : C → Prop} (hx : D.closeH h x K) : ∃ y, K y ∧ ∀ u, DRep σ (fz c σ h w) w x u → CRep F' w y u := by
  unfold D.closeH at hx
  split at hx
  · exact ⟨_, hx, fun u hu => by unfold DRep at hu; exact CRep.keeps hk _ _ hu⟩
  · rename_i k e sz l
    refine ⟨_, hx, fun u hu => ?_⟩
    have := rows_val (σ := σ) (F := fz c σ h w) (w := w) (x := .d (.app k e sz l)) (.inr ⟨k, e, rfl⟩) (u := u) (by unfold PRep; exact hu)
    refine CRep.keeps hk _ _ ?_
    unfold CRep
    exact this
  · rename_i k e sz lo n
    split at hx
    · rename_i e2 s rows hh
      split at hx
      · rename_i es
        obtain rfl := Nat.eq_of_beq_eq_true es
        obtain ⟨hle, hx⟩ := hx
        refine ⟨_, hx, fun u hu => ?_⟩
        obtain ⟨hz, hrl, ob, q, h1, h2⟩ := hs.hp k _ hh
        refine arr_close (e2 := e2) hall hu hrl hle ⟨ob, q, h1, ?_⟩
        cases ob with
        | none => trivial
        | some g => exact ⟨h2.1, h2.2.choose, h2.2.choose_spec.1, CsRep.keeps hk _ _ h2.2.choose_spec.2.2⟩
      · exact hx.elim
    · rename_i e2 s rows hh
      split at hx
      · rename_i es
        obtain rfl := Nat.eq_of_beq_eq_true es
        obtain ⟨rs, hr, hle, hx⟩ := hx
        refine ⟨_, hx, fun u hu => ?_⟩
        obtain ⟨hz, hrl, ob, q, h1, h2⟩ := hs.hp k _ hh
        obtain ⟨i1, i2, i3⟩ := clR_out hs hk hall hrl hr
        refine arr_close (e2 := e2) hall hu i2 hle ⟨ob, q, h1, ?_⟩
        cases ob with
        | none => trivial
        | some g =>
          obtain ⟨q1, cur, q2, q3, q4⟩ := h2
          exact ⟨q1, cur, q2, by rw [i1]; exact i3 _ q4⟩
      · exact hx.elim
    · exact hx.elim
  · rename_i f
    refine ⟨_, hx, fun u hu => ?_⟩
    unfold DRep at hu
    obtain ⟨us, vs, rfl, h1, h2⟩ := hu
    rw [dsRep_nil_inv h1, dsRep_nil_inv h2]
    unfold CRep
    exact ⟨rfl, rfl⟩
  · exact hx.elim
theorem closeHL_out (hs : SW c σ h w) (hk : Keeps (fz c σ h w) F' w w) (hall : ∀ b o, c.own b → b < w.heap.size → F' b o) : ∀ {l : List D} {K : List C → Prop}, closeHL h l K → ∃ ys, K ys ∧ ∀ us, DsRep σ (fz c σ h w) w l us → CsRep F' w ys us
  | [], K, h => ⟨[], h, fun us hu => by rw [dsRep_nil_inv hu]; exact csRep_nil⟩
  | x :: xs, K, h => by
    unfold closeHL at h
    obtain ⟨y, h1, h2⟩ := closeH_out hs hk hall h
    obtain ⟨ys, h3, h4⟩ := closeHL_out hs hk hall h1
    refine ⟨y :: ys, h3, fun us hu => ?_⟩
    obtain ⟨u, vs, rfl, g1, g2⟩ := dsRep_inv hu
    exact csRep_cons (h2 u g1) (h4 vs g2)
mutual
theorem pcloseH_out (hs : SW c σ h w) (hk : Keeps (fz c σ h w) F' w w) (hall : ∀ b o, c.own b → b < w.heap.size → F' b o) : ∀ {x : PV} {K : PV → Prop}, PV.closeH h x K → ∃ y, K y ∧ ∀ u, PRep σ (fz c σ h w) w x u → PRep (fun _ => none) F' w y u
  | .d x, K, h => by
    unfold PV.closeH at h
    obtain ⟨y, h1, h2⟩ := closeH_out hs hk hall h
    refine ⟨_, h1, fun u hu => ?_⟩
    unfold PRep at hu ⊢
    unfold DRep
    exact h2 u hu
  | .agg l, K, h => by
    unfold PV.closeH at h
    obtain ⟨ys, h1, h2⟩ := closeHL_out hs hk hall h
    refine ⟨_, h1, fun u hu => ?_⟩
    unfold PRep at hu ⊢
    obtain ⟨xs, rfl, hx⟩ := hu
    exact ⟨xs, rfl, dsRep_of_cs (h2 xs hx)⟩
  | .tup l, K, h => by
    unfold PV.closeH at h
    obtain ⟨ys, h1, h2⟩ := closeHPs_out hs hk hall h
    refine ⟨_, h1, fun u hu => ?_⟩
    unfold PRep at hu ⊢
    obtain ⟨xs, rfl, hx⟩ := hu
    exact ⟨xs, rfl, h2 xs hx⟩
  | .any, K, h => by unfold PV.closeH at h; exact h.elim
theorem closeHPs_out (hs : SW c σ h w) (hk : Keeps (fz c σ h w) F' w w) (hall : ∀ b o, c.own b → b < w.heap.size → F' b o) : ∀ {l : List PV} {K : List PV → Prop}, closeHPs h l K → ∃ ys, K ys ∧ ∀ us, PsRep σ (fz c σ h w) w l us → PsRep (fun _ => none) F' w ys us
  | [], K, h => by
    unfold closeHPs at h
    refine ⟨[], h, fun us hu => ?_⟩
    cases us with
    | nil => unfold PsRep; trivial
    | cons _ _ => unfold PsRep at hu; exact hu.elim
  | x :: xs, K, h => by
    unfold closeHPs at h
    obtain ⟨y, h1, h2⟩ := pcloseH_out hs hk hall h
    obtain ⟨ys, h3, h4⟩ := closeHPs_out hs hk hall h1
    refine ⟨y :: ys, h3, fun us hu => ?_⟩
    cases us with
    | nil => unfold PsRep at hu; exact hu.elim
    | cons u us => unfold PsRep at hu ⊢; exact ⟨h2 u hu.1, h4 us hu.2⟩
end
end

theorem getD_args {vs : List Value} {nt t : Nat} : (vs.toArray ++ Array.replicate (nt - vs.toArray.size) undef).getD t undef = (vs[t]?).getD undef := by
  rw [Array.getD_eq_getD_getElem?, Array.getElem?_append]
  split
  · simp
  · rename_i hlt
    have : vs[t]? = none := List.getElem?_eq_none (by simpa using hlt)
    rw [this, Array.getElem?_replicate]
    split <;> rfl

theorem pure_of {P : Program} {f : FuncId} {fn : Func} {cd : Code} {args : List PV} {res : PV} (hf : P.funcs[f]? = some fn) (hn : (fn.name == "runtime.NumGoroutine") = false) (hb : fn.body = some cd) (hm : P.follows .mixedOrders = true)
    (ha : Nat.ble args.length fn.ntmps = true) (hv : vc P fn.ntmps [] (fun _ _ _ _ => False) cd (argsE args) (fun _ => none) [] (retQ P fn res)) : Pure P f args res := by
  refine ⟨⟨fn, hf, hn, by rw [hb]; rfl⟩, fun F w vs hG hF hargs => ?_⟩
  have hal := Nat.le_of_ble_eq_true ha
  have hvl := psRep_len hargs
  obtain ⟨c, hcdef⟩ : ∃ c : Ctx, c = ⟨w, F, fun _ => False, fun _ _ => False, fun _ => none, []⟩ := ⟨_, rfl⟩
  have hn0 : c.n0 = w.heap.size := by rw [hcdef]
  have hF0 : c.F0 = F := by rw [hcdef]
  have hF1 : c.F1 = fun _ _ => False := by rw [hcdef]
  have hσ0 : c.σ0 = fun _ => none := by rw [hcdef]
  have hw0 : c.w0 = w := by rw [hcdef]
  have hdf : c.df = [] := by rw [hcdef]
  have hext : ∀ b, ¬ c.ext b := by intro b; rw [hcdef]; exact id
  have hc : c.Ok := ⟨fun b o h => ⟨by rw [hn0]; exact hF b o (by rw [← hF0]; exact h), hext b⟩, by rw [hw0]; exact hG, fun b _ => hext b⟩
  have hfz : ∀ b o, F b o → fz c (fun _ => none) (fun _ => none) w b o := fun b o h => .inl ⟨by rw [hn0]; exact hF b o h, by rw [hF0]; exact h⟩
  have hst : St c fn.ntmps (fun _ => none) (argsE args) (fun _ => none) { tmps := vs.toArray ++ Array.replicate (fn.ntmps - vs.toArray.size) undef, defers := [] } w := by
    refine ⟨⟨by rw [hw0], by rw [hw0], by rw [hw0], by rw [hn0]; exact Nat.le_refl _, fun b _ _ => by rw [hw0], (fun k hb hk => by cases hk), fun k k' g n n' hk => absurd rfl hk, ?_, by rw [hw0]; exact Shape.refl _, fun k x hk => by rw [hσ0] at hk; cases hk⟩, fun t => ?_, hdf.symm, ?_⟩
    · rw [hF1, hw0]; exact ⟨fun _ _ h => h.elim, fun _ _ h => h.elim⟩
    · have h1 := psRep_get t (PsRep.of_none (σ := fun _ => none) ⟨hfz, fun _ _ _ => rfl⟩ _ _ hargs)
      show PRep _ _ _ _ ((vs.toArray ++ Array.replicate (fn.ntmps - vs.toArray.size) undef).getD t undef)
      rw [getD_args]; exact h1
    · simp; omega
  refine calls_of_wp hf hb (wp_mono (vc_out (fun k hk => absurd (by rw [hσ0]) hk) hc hm cd _ _ _ _ _ _ w hv hst (fun _ _ => rfl)) ?_)
  intro x a' w' hq
  have fin : ∀ e' h' σ', St c fn.ntmps σ' e' h' a' w' → resP P h' e' fn.results.toList (fun vs => closeHPs h' vs fun vs => tupOf vs fun v => Ret v res) →
      a'.defers = [] ∧ ∃ v, (results fn a'.tmps).run P w' = .ok v w' ∧ ∃ v', Ending.returned v = .returned v' ∧ Below w.heap.size w w' ∧ PRep (fun _ => none) (fun b o => F b o ∨ (w.heap.size ≤ b ∧ b < w'.heap.size)) w' res v' := by
    intro e' h' σ' hs' hr
    obtain ⟨ps, us, h1, h2, h3⟩ := results_run hs' hr
    have hbel : Below w.heap.size w w' := ⟨by rw [hs'.os, hw0], by rw [hs'.tape, hw0], by rw [hs'.output, hw0], by have := hs'.size; rw [hn0] at this; exact this, fun k hk => by
      rw [hs'.block k (by rw [hn0]; exact hk) (hext k), hw0]⟩
    have hkeep : Keeps (fz c σ' h' w') (fun b o => F b o ∨ (w.heap.size ≤ b ∧ b < w'.heap.size)) w' w' := by
      refine ⟨fun b o hq => ?_, fun _ _ _ => rfl⟩
      rcases hq with ⟨q1, q2⟩ | ⟨q1, q2, _⟩
      · rw [hF0] at q2; exact .inl q2
      · rcases q1 with q1 | q1
        · rw [hn0] at q1; exact .inr ⟨q1, q2⟩
        · exact absurd q1 (hext b)
    obtain ⟨ps', h1, h4⟩ := closeHPs_out hs'.toSW hkeep (fun b o hown hlt => by
      rcases hown with q | q
      · rw [hn0] at q; exact .inr ⟨q, hlt⟩
      · exact absurd q (hext b)) h1
    obtain ⟨v, h5, h6⟩ := tup_out h1 (h4 us h3)
    refine ⟨hs'.defers.trans hdf, _, h2, _, rfl, hbel, ?_⟩
    rcases h5 with rfl | h5
    · exact h6
    · have := prep_wk (σ := fun _ => none) (f := fun _ => none) (n := []) (F' := fun b o => F b o ∨ (w.heap.size ≤ b ∧ b < w'.heap.size)) (w := w') ⟨fun _ _ h => h, fun _ _ _ => rfl⟩ _ _ _ h5 h6
      have e1 : newSg (fun _ => none) (fun _ => none) ([] : List Nat) = fun _ => none := by funext k; unfold newSg; rw [if_neg (by simp [kin])]
      rw [e1] at this
      exact this
  cases x with
  | normal => obtain ⟨e', h', n', σ', hq, hs', _⟩ := hq; exact fin _ _ _ hs' hq
  | ret => obtain ⟨e', h', n', σ', hq, hs', _⟩ := hq; exact fin _ _ _ hs' hq
  | exit id => obtain ⟨e', h', n', σ', hq, hs', _⟩ := hq; exact hq
  | goto l => obtain ⟨e', h', n', σ', hq, hs', _⟩ := hq; exact hq
  | panic ch => obtain ⟨v, _, e', h', n', σ', hq, _⟩ := hq; exact hq.elim
  | outgrown => obtain ⟨e', h', n', σ', hq, hs', _⟩ := hq; exact hq.elim

/-! ### with keys -/
theorem hp_keys {c : Ctx} {r : Rf} {σ : Sg} {w : World} (hs : SW c σ (hpL r) w) (hnd : ndK r = true) : ∀ k ∈ r.map Prod.fst, σ k ≠ none := by
  intro k hk
  obtain ⟨⟨q, b⟩, h1, h2⟩ := List.mem_map.1 hk
  simp only at h2
  subst h2
  exact hb_sg (hs.hp q b (mem_hpL hnd h1))
theorem st_begin {c : Ctx} {nt : Nat} {h : Hp} {args : List PV} {vs : List Value} (hs : SW c c.σ0 h c.w0) (hargs : PsRep c.σ0 (fz c c.σ0 h c.w0) c.w0 args vs) (ha : args.length ≤ nt) (hdf : c.df = []) :
    St c nt c.σ0 (argsE args) h { tmps := vs.toArray ++ Array.replicate (nt - vs.toArray.size) undef, defers := [] } c.w0 := by
  have hvl := psRep_len hargs
  refine ⟨hs, fun t => ?_, hdf.symm, by simp; omega⟩
  have h1 := psRep_get t hargs
  show PRep _ _ _ _ ((vs.toArray ++ Array.replicate (nt - vs.toArray.size) undef).getD t undef)
  rw [getD_args]; exact h1
theorem callS_of {P : Program} {f : FuncId} {fn : Func} {cd : Code} {args : List PV} {res : PV} {rd rf out : Rf} (hf : P.funcs[f]? = some fn) (hn : (fn.name == "runtime.NumGoroutine") = false) (hb : fn.body = some cd) (hm : P.follows .mixedOrders = true)
    (ha : Nat.ble args.length fn.ntmps = true) (fk : List Nat) (hfk : fk = (rd ++ rf).map Prod.fst)
    (hv : vc P fn.ntmps fk (fun _ _ _ _ => False) cd (argsE args) (hpL (rd ++ rf)) fk (retS P fn fk res (rd ++ out))) : CallS P f args rd rf res out := by
  refine ⟨⟨fn, hf, hn, by rw [hb]; rfl⟩, fun c vs hc hdf hfr hs hargs => ?_⟩
  have hst := st_begin hs hargs (Nat.le_of_ble_eq_true ha) hdf
  have hfr' : ∀ k, k ∉ fk → c.σ0 k = none := fun k hk => hfr k (by rw [← hfk]; exact hk)
  have hfk' : ∀ k, c.σ0 k ≠ none → k ∈ fk := fun k hk => Classical.byContradiction fun h => hk (hfr' k h)
  refine calls_of_wp hf hb (wp_mono (vc_out hfk' hc hm cd _ _ _ _ _ _ _ hv hst hfr') ?_)
  intro x a' w' hq
  have fin : ∀ e' h' σ', St c fn.ntmps σ' e' h' a' w' → resP P h' e' fn.results.toList (fun vs => tupOf vs fun v => RetS fk h' res (rd ++ out) v) →
      a'.defers = [] ∧ ∃ v, (results fn a'.tmps).run P w' = .ok v w' ∧ ∃ v' σ1, Ending.returned v = .returned v' ∧ SW c σ1 (hpL (rd ++ out)) w' ∧ PRep σ1 (fz c σ1 (hpL (rd ++ out)) w') w' res v' := by
    intro e' h' σ' hs' hr
    obtain ⟨ps, us, h1, h2, h3⟩ := results_run hs' hr
    obtain ⟨v, h5, h6⟩ := tup_out h1 h3
    obtain ⟨g, n, q1, q2, q3, q4⟩ := h5
    obtain ⟨hk, hsw⟩ := sw_wk hfk' hs'.toSW q1 q2 q4
    exact ⟨hs'.defers.trans hdf, _, h2, _, _, rfl, hsw, prep_wk hk _ _ _ q3 h6⟩
  cases x with
  | normal => obtain ⟨e', h', n', σ', hq, hs', _⟩ := hq; exact fin _ _ _ hs' hq
  | ret => obtain ⟨e', h', n', σ', hq, hs', _⟩ := hq; exact fin _ _ _ hs' hq
  | exit id => obtain ⟨e', h', n', σ', hq, hs', _⟩ := hq; exact hq
  | goto l => obtain ⟨e', h', n', σ', hq, hs', _⟩ := hq; exact hq
  | panic ch => obtain ⟨v, _, e', h', n', σ', hq, _⟩ := hq; exact hq.elim
  | outgrown => obtain ⟨e', h', n', σ', hq, hs', _⟩ := hq; exact hq.elim
theorem kin_of {k : Nat} : ∀ {n : List Nat}, k ∈ n → kin k n = true
  | x :: xs, h => by
    unfold kin
    cases hq : Nat.beq k x with
    | true => rfl
    | false =>
      rw [cond_false]
      rcases List.mem_cons.1 h with rfl | h
      · have := Nat.beq_refl k; rw [show Nat.beq k k = false from hq] at this; cases this
      · exact kin_of h
theorem fnL_id {k : Nat} : ∀ {n : List Nat}, k ∈ n → fnL (n.map fun k => (k, k)) k = some k
  | x :: xs, h => by
    show (bif Nat.beq k x then some x else _) = _
    cases hq : Nat.beq k x with
    | true => rw [cond_true, Nat.eq_of_beq_eq_true hq]
    | false =>
      rw [cond_false]
      rcases List.mem_cons.1 h with rfl | h
      · have := Nat.beq_refl k; rw [show Nat.beq k k = false from hq] at this; cases this
      · exact fnL_id h
theorem fkOk_id (fk : List Nat) : fkOk (fnL (fk.map fun k => (k, k))) fk fk = true := by
  have main : ∀ l : List Nat, (∀ k ∈ l, k ∈ fk) → fkOk (fnL (fk.map fun k => (k, k))) fk l = true := by
    intro l
    induction l with
    | nil => intro _; rfl
    | cons k l ih =>
      intro hl
      unfold fkOk
      rw [fnL_id (hl k (List.mem_cons_self ..)), kin_of (hl k (List.mem_cons_self ..)), ih fun q hq => hl q (List.mem_cons_of_mem _ hq)]
      simp
  exact main fk fun _ h => h
theorem callX_of {P : Program} {f : FuncId} {fn : Func} {cd : Code} {args : List PV} {x : Value} {rd : Rf} (hf : P.funcs[f]? = some fn) (hn : (fn.name == "runtime.NumGoroutine") = false) (hb : fn.body = some cd) (hm : P.follows .mixedOrders = true)
    (ha : Nat.ble args.length fn.ntmps = true) (fk : List Nat) (hfk : fk = rd.map Prod.fst)
    (hv : vc P fn.ntmps fk (fun y _ _ _ => y = x) cd (argsE args) (hpL rd) fk (fun _ _ _ _ => False)) : CallX P f args rd x := by
  refine ⟨⟨fn, hf, hn, by rw [hb]; rfl⟩, fun c vs hc hdf hfr hs hargs => ?_⟩
  have hst := st_begin hs hargs (Nat.le_of_ble_eq_true ha) hdf
  have hfr' : ∀ k, k ∉ fk → c.σ0 k = none := fun k hk => hfr k (by rw [← hfk]; exact hk)
  have hfk' : ∀ k, c.σ0 k ≠ none → k ∈ fk := fun k hk => Classical.byContradiction fun h => hk (hfr' k h)
  refine calls_of_wp hf hb (wp_mono (vc_out hfk' hc hm cd _ _ _ _ _ _ _ hv hst hfr') ?_)
  intro x' a' w' hq
  cases x' with
  | normal => obtain ⟨e', h', n', σ', hq, hs', _⟩ := hq; exact hq.elim
  | ret => obtain ⟨e', h', n', σ', hq, hs', _⟩ := hq; exact hq.elim
  | exit id => obtain ⟨e', h', n', σ', hq, hs', _⟩ := hq; exact hq
  | goto l => obtain ⟨e', h', n', σ', hq, hs', _⟩ := hq; exact hq
  | panic ch =>
    obtain ⟨v, rfl, e', h', n', σ', rfl, hs', _⟩ := hq
    obtain ⟨_, hsw⟩ := sw_wk (lh := []) (f := fnL (fk.map fun k => (k, k))) (n := fk) hfk' hs'.toSW rfl (fkOk_id fk) trivial
    exact ⟨hs'.defers.trans hdf, rfl, _, hsw⟩
  | outgrown => obtain ⟨e', h', n', σ', hq, hs', _⟩ := hq; exact hq.elim

end Go.Proofs.Ytohlkegmmbdlaaa.Pm
end

section
namespace Go.Proofs.Ytohlkegmmbdlaaa.Pm
open Go.RowKit

theorem BCase.t {b : Bool} {A B : Prop} (hb : b = true) (h : A) : BCase b A B := ⟨fun _ => h, fun e => by rw [hb] at e; cases e⟩
theorem BCase.f {b : Bool} {A B : Prop} (hb : b = false) (h : B) : BCase b A B := ⟨(fun e => by rw [hb] at e; cases e), fun _ => h⟩
theorem BCase.dt {p : Prop} [Decidable p] {A B : Prop} (hp : p) (h : A) : BCase (decide p) A B := BCase.t (decide_eq_true hp) h
theorem BCase.df {p : Prop} [Decidable p] {A B : Prop} (hp : ¬ p) (h : B) : BCase (decide p) A B := BCase.f (decide_eq_false hp) h
theorem BCase.d {p : Prop} [Decidable p] {A B : Prop} (h1 : p → A) (h2 : ¬ p → B) : BCase (decide p) A B := ⟨fun e => h1 (of_decide_eq_true e), fun e => h2 (of_decide_eq_false e)⟩
theorem BCase.tt {A B : Prop} (h : A) : BCase true A B := BCase.t rfl h
theorem BCase.ff {A B : Prop} (h : B) : BCase false A B := BCase.f rfl h
theorem Wr.i64 {x : Int} {K : Int → Prop} (h1 : -9223372036854775808 ≤ x) (h2 : x ≤ 9223372036854775807) (h : K x) : Wr .i64 x K := ⟨x, IntWalk.i64_in x ⟨h1, h2⟩, h⟩
theorem Idx.map {α : Type} {f : α → List C} {l : List α} {n : Nat} {K : List C → Prop} (hn : n < l.length) (h : K (f l[n])) : Idx (l.map f) (n : Int) K :=
  ⟨f l[n], by omega, by simp [hn], h⟩
theorem Idx.mapI {α : Type} {f : α → List C} {l : List α} {n : Int} {K : List C → Prop} (k : Nat) (hk : n = (k : Int)) (hn : k < l.length) (h : K (f l[k])) : Idx (l.map f) n K := by
  subst hk; exact Idx.map hn h
theorem PLe.int {f : Nat → Option Nat} {n : List Nat} {k : IntKind} {a b : Int} (h : b = a) : PLe f n (pInt k a) (pInt k b) := by rw [h]; exact .inl rfl
theorem PLe.c {f : Nat → Option Nat} {n : List Nat} {x y : C} (h : y = x) : PLe f n (.d (.c x)) (.d (.c y)) := .inl h

end Go.Proofs.Ytohlkegmmbdlaaa.Pm

namespace Go.Proofs.Ytohlkegmmbdlaaa.Pm
open Go.RowKit

/-- keys' names in contracts -/
abbrev FK : Nat := 1000000
abbrev FK1 : Nat := 1000001
abbrev NK : Nat := 2000000
abbrev FK2 : Nat := 1000002
abbrev FK3 : Nat := 1000003
abbrev NK1 : Nat := 2000001
abbrev NK2 : Nat := 2000002

theorem sl_of_row {F : Fzn} {w : World} {B e sz n : Nat} {v : Value} {xs : List Value} (h : w.ownsRow B e sz v n xs) {l : List (List C)} (hl : l.length = n) (hsz : ∀ r ∈ l, r.length = sz)
    (hx : CsRep F w l.flatten xs) (hF : ∀ b o, B ≤ b → b < w.heap.size → F b o) : CRep F w (.sl sz l) v := by
  obtain ⟨h1, h2⟩ := h
  unfold CRep
  rcases h2 with ⟨rfl, rfl⟩ | ⟨g, cap, cur, rfl, h3, h4, h5, h6, h7, h8⟩
  · have : l = [] := List.length_eq_zero_iff.1 hl
    subst this
    exact ⟨none, 0, rfl, Nat.le_refl _, Nat.zero_le _, fun _ => rfl, .inl rfl⟩
  · refine ⟨some ⟨g, 0, none⟩, cap, by rw [hl], by rw [hl]; exact h5, h6, (fun e => by cases e), .inr ⟨g, 0, rfl, ?_⟩⟩
    have hlt : g < w.heap.size := (Array.getElem?_eq_some_iff.1 h4).1
    rw [rowsAt_iff]
    refine ⟨hsz, csAt_of_values hx (fun j u hu => ?_) fun j hj => hF _ _ h3 hlt⟩
    rw [Nat.zero_add, cell_of_row _ _ _ _ _ _ h4, ← Array.getElem?_toList]
    rw [← h8] at hu
    rw [List.getElem?_take] at hu
    split at hu
    · exact hu
    · cases hu

def pv (x : Value) : PV := .d (.c (.v x))
theorem psRep_vals {σ : Sg} {F : Fzn} {w : World} : ∀ {vs us : List Value}, PsRep σ F w (vs.map pv) us → us = vs
  | [], [], _ => rfl
  | [], _ :: _, h => by unfold List.map PsRep at h; exact h.elim
  | _ :: _, [], h => by unfold List.map PsRep at h; exact h.elim
  | v :: vs, u :: us, h => by
    rw [List.map_cons] at h
    unfold PsRep at h
    rw [psRep_vals h.2]
    have := rep_v h.1
    rw [this]

theorem pure_hand {P : Program} {f : FuncId} {vs : List Value} {res : PV} (hf : fnOk P f)
    (h : ∀ w : World, GL w → Calls P f vs.toArray w fun e w' => ∃ v, e = .returned v ∧ Below w.heap.size w w' ∧ ∀ F : Fzn, (∀ b o, w.heap.size ≤ b → b < w'.heap.size → F b o) → PRep (fun _ => none) F w' res v) :
    Pure P f (vs.map pv) res := by
  refine ⟨hf, fun F w us hG hF hus => ?_⟩
  rw [psRep_vals hus]
  intro cs
  obtain ⟨e, w0, fr, ⟨v, h1, h2, h3⟩, h4⟩ := h w hG cs
  exact ⟨e, w0, fr, ⟨v, h1, h2, h3 _ fun b o h5 h6 => .inr ⟨h5, h6⟩⟩, h4⟩

def encS (s : ByteArray) : List C := [.v (.string s)]
theorem rep_texts {F : Fzn} {w : World} : ∀ l : List ByteArray, CsRep F w (l.map encS).flatten (l.map Value.string)
  | [] => by unfold CsRep; trivial
  | s :: l => by
    rw [List.map_cons, List.flatten_cons, List.map_cons]
    show CsRep F w (.v (.string s) :: (l.map encS).flatten) _
    unfold CsRep
    exact ⟨by unfold CRep; exact ⟨rfl, rfl⟩, rep_texts l⟩
end Go.Proofs.Ytohlkegmmbdlaaa.Pm
end

section
namespace Go.Proofs.Ytohlkegmmbdlaaa.Pm
open Go.RowKit
set_option linter.unusedVariables false
set_option linter.unusedSimpArgs false

def tx (l : List UInt8) : ByteArray := ⟨l.toArray⟩
theorem list_tx (l : List UInt8) : (tx l).data.toList = l := rfl
theorem tx_list (s : ByteArray) : tx s.data.toList = s := by cases s; simp [tx]
theorem tx_inj {a b : List UInt8} (h : tx a = tx b) : a = b := by rw [← list_tx a, h, list_tx]
theorem tx_eq {a b : List UInt8} : tx a = tx b ↔ a = b := ⟨tx_inj, fun h => by rw [h]⟩
theorem tx_size (l : List UInt8) : (tx l).size = l.length := rfl
theorem tx_append (a b : List UInt8) : tx a ++ tx b = tx (a ++ b) := by
  have h : (tx a ++ tx b).data.toList = a ++ b := by simp [ByteArray.data_append, tx]
  rw [← tx_list (tx a ++ tx b), h]
theorem extract_tx (l : List UInt8) (a b : Nat) : (tx l).extract a b = tx ((l.drop a).take (b - a)) := by
  have h : ((tx l).extract a b).data.toList = (l.drop a).take (b - a) := by
    simp [ByteArray.data_extract, tx]
  rw [← tx_list ((tx l).extract a b), h]
theorem size_mk (l : List UInt8) : (⟨l.toArray⟩ : ByteArray).size = l.length := rfl
theorem mk_tx (l : List UInt8) : (⟨l.toArray⟩ : ByteArray) = tx l := rfl
theorem tx_nil : tx [] = ByteArray.empty := rfl

/-- a number's lowest byte -/
def by1 (n : Int) : UInt8 := UInt8.ofNat (n % 256).toNat
theorem by1_int (n : Int) : ((by1 n).toNat : Int) = n % 256 := by
  have h1 : 0 ≤ n % 256 := by omega
  have h2 : n % 256 < 256 := by omega
  unfold by1
  rw [UInt8.toNat_ofNat']
  omega
theorem by1_mod (n : Int) : by1 (n % 256) = by1 n := by unfold by1; rw [Int.emod_emod_of_dvd n (Int.dvd_refl 256)]
theorem by1_toNat (b : UInt8) : by1 (b.toNat : Int) = b := by
  have := UInt8.toNat_lt b
  apply UInt8.toNat_inj.1
  have h := by1_int (b.toNat : Int)
  omega
theorem fdiv_pow (x : Int) (k m : Nat) : x.fdiv (2 ^ min (k : Int).toNat m) = x / 2 ^ min k m := by rw [Int.toNat_natCast, Int.fdiv_eq_ediv_of_nonneg _ (Int.pow_nonneg (by decide))]
theorem or_byte (a b : UInt8) : ((BitVec.ofInt 64 ((a.toNat : Int) * 256) ||| BitVec.ofInt 64 (b.toNat : Int)).toNat : Int) = (a.toNat : Int) * 256 + (b.toNat : Int) := by
  have ha := UInt8.toNat_lt a
  have hb := UInt8.toNat_lt b
  have e1 : BitVec.ofInt 64 ((a.toNat : Int) * 256) = BitVec.ofNat 64 (a.toNat * 256) := by rw [← BitVec.ofInt_natCast]; rfl
  have e2 : BitVec.ofInt 64 (b.toNat : Int) = BitVec.ofNat 64 b.toNat := BitVec.ofInt_natCast ..
  rw [e1, e2, BitVec.toNat_or, BitVec.toNat_ofNat, BitVec.toNat_ofNat, Nat.mod_eq_of_lt (by omega), Nat.mod_eq_of_lt (by omega)]
  have h := Nat.shiftLeft_add_eq_or_of_lt (i := 8) (b := b.toNat) (by omega) a.toNat
  rw [Nat.shiftLeft_eq] at h
  rw [show a.toNat * 256 = a.toNat * 2 ^ 8 from rfl, ← h]
  omega
theorem u8_lt (b : UInt8) : (b.toNat : Int) < 256 ∧ 0 ≤ (b.toNat : Int) := by have := UInt8.toNat_lt b; omega
theorem u8_eq {a b : UInt8} : ((a.toNat : Int) = (b.toNat : Int)) ↔ a = b := ⟨fun h => UInt8.toNat_inj.1 (by omega), fun h => by rw [h]⟩

theorem byteRows_set (l : List UInt8) (i : Nat) (b : UInt8) : (byteRows l).set i [C.v (.int .u8 (b.toNat : Int))] = byteRows (l.set i b) := by
  unfold byteRows; rw [List.map_set]
theorem bRows_length (l : List UInt8) : (byteRows l).length = l.length := List.length_map _

theorem Wr.u8 {x : Int} {K : Int → Prop} (h : K ((by1 x).toNat : Int)) : Wr .u8 x K := ⟨_, by rw [by1_int]; exact IntKind.wrap_u8' x, h⟩
theorem Wr.u32 {x : Int} {K : Int → Prop} (h1 : 0 ≤ x) (h2 : x ≤ 4294967295) (h : K x) : Wr .u32 x K := ⟨x, IntWalk.u32_in x ⟨h1, h2⟩, h⟩
theorem Wr.u64 {x : Int} {K : Int → Prop} (h1 : 0 ≤ x) (h2 : x ≤ 18446744073709551615) (h : K x) : Wr .u64 x K := ⟨x, IntWalk.u64_in x ⟨h1, h2⟩, h⟩
/-- lengths, for the reckoning's words -/
theorem lens : (∀ {α β : Type} {f : α → β} {l : List α}, (l.map f).length = l.length) ∧ (∀ {α : Type} {a b : List α}, (a ++ b).length = a.length + b.length) ∧ (∀ {α : Type} {l : List α} {i : Nat} {x : α}, (l.set i x).length = l.length) ∧
    (∀ {α : Type} {l : List α} {i : Nat}, (l.take i).length = min i l.length) ∧ (∀ {α : Type} {l : List α} {i : Nat}, (l.drop i).length = l.length - i) ∧ (∀ {α : Type} {n : Nat} {x : α}, (List.replicate n x).length = n) ∧
    (∀ {α : Type} {x : α} {l : List α}, (x :: l).length = l.length + 1) ∧ (∀ {α : Type}, ([] : List α).length = 0) ∧ (∀ {l : List UInt8}, (tx l).size = l.length) ∧ (∀ {l : List UInt8}, (⟨l.toArray⟩ : ByteArray).size = l.length) ∧
    (∀ {a b : ByteArray}, (a ++ b).size = a.size + b.size) :=
  ⟨List.length_map _, List.length_append, List.length_set, List.length_take, List.length_drop, List.length_replicate, List.length_cons, List.length_nil, rfl, rfl, ByteArray.size_append⟩
theorem Wr.ci {x : Int} {K : Int → Prop} (h : -9223372036854775808 ≤ x ∧ x ≤ 9223372036854775807) (k : K x) : Wr .i64 x K := Wr.i64 h.1 h.2 k
theorem Wr.c3 {x : Int} {K : Int → Prop} (h : 0 ≤ x ∧ x ≤ 4294967295) (k : K x) : Wr .u32 x K := Wr.u32 h.1 h.2 k
theorem Wr.c6 {x : Int} {K : Int → Prop} (h : 0 ≤ x ∧ x ≤ 18446744073709551615) (k : K x) : Wr .u64 x K := Wr.u64 h.1 h.2 k
theorem tdiv_nn {a : Int} (h : 0 ≤ a) (b : Int) : a.tdiv b = a / b := Int.tdiv_eq_ediv_of_nonneg h
theorem tmod_nn {a : Int} (h : 0 ≤ a) (b : Int) : a.tmod b = a % b := Int.tmod_eq_emod_of_nonneg h
theorem SIdx.tx {l : List UInt8} {n : Int} {K : Int → Prop} (k : Nat) (hk : n = k) (h : k < l.length) (hK : K ((l.getD k 0).toNat : Int)) : SIdx (tx l) n K := by
  subst hk
  have h1 : l[k]? = some l[k] := List.getElem?_eq_getElem h
  have h2 : l.getD k 0 = l[k] := by rw [List.getD_eq_getElem?_getD, h1]; rfl
  exact ⟨l.getD k 0, by omega, by show l[(k : Int).toNat]? = _; rw [Int.toNat_natCast, h1, h2], hK⟩
theorem Row.bytes {l : List UInt8} {k : Nat} {K : List C → Prop} (h : k < l.length) (hK : K [C.v (.int .u8 ((l.getD k 0).toNat : Int))]) : Row (byteRows l) k K := by
  have h1 : l[k]? = some l[k] := List.getElem?_eq_getElem h
  have h2 : l.getD k 0 = l[k] := by rw [List.getD_eq_getElem?_getD, h1]; rfl
  exact ⟨_, by unfold byteRows; rw [List.getElem?_map, h1, ← h2]; rfl, hK⟩
theorem Row.bytes' {rows : List (List C)} {l : List UInt8} {k k' : Nat} {K : List C → Prop} (e : rows = byteRows l) (hk : k' = k) (h : k < l.length) (hK : K [C.v (.int .u8 ((l.getD k 0).toNat : Int))]) : Row rows k' K := by
  subst e hk; exact Row.bytes h hK
theorem Idx.bytes {l : List UInt8} {n : Int} {K : List C → Prop} (k : Nat) (hk : n = k) (h : k < l.length) (hK : K [C.v (.int .u8 ((l.getD k 0).toNat : Int))]) : Idx (byteRows l) n K := by
  subst hk
  have h1 : l[k]? = some l[k] := List.getElem?_eq_getElem h
  have h2 : l.getD k 0 = l[k] := by rw [List.getD_eq_getElem?_getD, h1]; rfl
  exact ⟨_, by omega, by rw [Int.toNat_natCast]; unfold byteRows; rw [List.getElem?_map, h1, ← h2]; rfl, hK⟩
theorem Bytes.mk' {l : List UInt8} {K : List UInt8 → Prop} (h : K l) : Bytes (byteRows l) K := ⟨l, rfl, h⟩
theorem Bytes.of {r : List (List C)} {l : List UInt8} {K : List UInt8 → Prop} (e : r = byteRows l) (h : K l) : Bytes r K := ⟨l, e, h⟩

theorem BCase.not {b : Bool} {A B : Prop} (h : BCase b B A) : BCase (!b) A B := by
  obtain ⟨h1, h2⟩ := h
  exact ⟨fun e => h2 (by simpa using e), fun e => h1 (by simpa using e)⟩
theorem BCase.and {a b : Bool} {A B : Prop} (h : BCase a (BCase b A B) B) : BCase (a && b) A B := by
  obtain ⟨h1, h2⟩ := h
  cases a
  · exact ⟨(fun e => by cases e), fun _ => h2 rfl⟩
  · exact h1 rfl
theorem BCase.or {a b : Bool} {A B : Prop} (h : BCase a A (BCase b A B)) : BCase (a || b) A B := by
  obtain ⟨h1, h2⟩ := h
  cases a
  · exact h2 rfl
  · exact ⟨fun _ => h1 rfl, (fun e => by cases e)⟩
theorem PLe.text {f : Nat → Option Nat} {n : List Nat} {a b : ByteArray} (h : b = a) : PLe f n (pStr a) (pStr b) := by rw [h]; exact .inl rfl
theorem PLe.bool {f : Nat → Option Nat} {n : List Nat} {a b : Bool} (h : b = a) : PLe f n (pBool a) (pBool b) := by rw [h]; exact .inl rfl
theorem Ret.str {a b : ByteArray} (h : a = b) : Ret (pStr a) (pStr b) := Ret.mk (by rw [h])
theorem Ret.int {k : IntKind} {a b : Int} (h : a = b) : Ret (pInt k a) (pInt k b) := Ret.mk (by rw [h])
theorem Ret.bool {a b : Bool} (h : a = b) : Ret (pBool a) (pBool b) := Ret.mk (by rw [h])
theorem Ret.text {a b : List UInt8} (h : a = b) : Ret (pStr (tx a)) (pStr (tx b)) := Ret.mk (by rw [h])
theorem Ret.eq {v r : PV} (h : v = r) : Ret v r := Ret.mk h
/-- a contract with another answer, or other arguments, that are the same -/
theorem Pure.to {P : Program} {f : FuncId} {args args' : List PV} {res res' : PV} (h : Pure P f args res) (ha : args = args') (hr : res = res') : Pure P f args' res' := by
  subst ha hr; exact h

end Go.Proofs.Ytohlkegmmbdlaaa.Pm
end

section
namespace Go.Proofs.Ytohlkegmmbdlaaa.Pm
open Go.RowKit K
set_option linter.unusedVariables false
set_option linter.unusedSimpArgs false

/-- what was there at the begin -/
abbrev FW (w : World) : Fzn := fun b _ => b < w.heap.size
def OpensC (P : Program) (t : TypeId) (sz : Nat) {α : Type} (enc : α → List C) (ok : α → Prop) : Prop :=
  Opens P t sz (fun w cs a => CsRep (FW w) w (enc a) cs) ok

def eInt (x : Int) : List C := [.v (.int .i64 x)]
def eU64 (x : Int) : List C := [.v (.int .u64 x)]
def eU32 (x : Int) : List C := [.v (.int .u32 x)]
def eByte (x : UInt8) : List C := [.v (.int .u8 (x.toNat : Int))]
def eBool (x : Bool) : List C := [.v (.bool x)]
def eText (l : List UInt8) : List C := [.v (.string (tx l))]
def eSl {α : Type} (sz : Nat) (enc : α → List C) (l : List α) : List C := [.sl sz (l.map enc)]
def okInt (x : Int) : Prop := -9223372036854775808 ≤ x ∧ x ≤ 9223372036854775807
def okText (l : List UInt8) : Prop := l.length ≤ 140737488351232
def okAny {α : Type} (_ : α) : Prop := True
def okSl {α : Type} (b : Nat) (ok : α → Prop) (l : List α) : Prop := l.length * b ≤ 140737488351232 ∧ ∀ x ∈ l, ok x

section
variable {P : Program}
theorem openC_int {t : TypeId} (hu : P.underlying t = some (.int .i64)) (hc : P.cellsOf t = 1) : OpensC P t 1 eInt okInt := by
  obtain ⟨h1, h2, h3⟩ := opens_i64 hu hc
  refine ⟨h1, h2, fun h l => ?_⟩
  obtain ⟨h4, a, rfl, h6⟩ := h3 h l
  exact ⟨h4, a, csRep_cons (by unfold CRep; exact ⟨rfl, rfl⟩) csRep_nil, h6⟩
theorem openC_bool {t : TypeId} (hu : P.underlying t = some .bool) (hc : P.cellsOf t = 1) : OpensC P t 1 eBool okAny := by
  obtain ⟨h1, h2, h3⟩ := opens_bool hu hc
  refine ⟨h1, h2, fun h l => ?_⟩
  obtain ⟨h4, a, rfl, h6⟩ := h3 h l
  exact ⟨h4, a, csRep_cons (by unfold CRep; exact ⟨rfl, rfl⟩) csRep_nil, trivial⟩
theorem openC_text {t : TypeId} (hu : P.underlying t = some .string) (hc : P.cellsOf t = 1) : OpensC P t 1 eText okText := by
  obtain ⟨h1, h2, h3⟩ := opens_string hu hc
  refine ⟨h1, h2, fun h l => ?_⟩
  obtain ⟨h4, a, rfl, h6⟩ := h3 h l
  exact ⟨h4, a.data.toList, csRep_cons (by unfold CRep; rw [tx_list]; exact ⟨rfl, rfl⟩) csRep_nil, h6⟩

theorem csRep_rows {α : Type} {F : Fzn} {w : World} {enc : α → List C} : ∀ {l : List α} {css : List (List Value)}, css.length = l.length → (∀ (i : Nat) c x, css[i]? = some c → l[i]? = some x → CsRep F w (enc x) c) → CsRep F w (l.map enc).flatten css.flatten
  | [], [], _, _ => csRep_nil
  | [], _ :: _, h, _ => by simp at h
  | _ :: _, [], h, _ => by simp at h
  | x :: l, c :: css, h, k => by
    rw [List.map_cons, List.flatten_cons, List.flatten_cons]
    exact (k 0 c x rfl rfl).append (csRep_rows (by simpa using h) fun i d y hd hy => k (i + 1) d y (by simpa using hd) (by simpa using hy))
theorem openC_slice {t e : TypeId} {sz : Nat} {α : Type} {enc : α → List C} {ok : α → Prop} (hu : P.underlying t = some (.slice e)) (hc : P.cellsOf t = 1) (hl : ∀ x, (enc x).length = sz) (he : OpensC P e sz enc ok) :
    OpensC P t 1 (eSl sz enc) (okSl (P.bytesOf e) ok) := by
  obtain ⟨h1, h2, h3⟩ := opens_slice hu hc he
  refine ⟨h1, h2, fun h l => ?_⟩
  obtain ⟨h4, a, ⟨v, rfl, css, hs, hcl, hcs⟩, h6⟩ := h3 h l
  refine ⟨h4, a, csRep_cons ?_ csRep_nil, h6⟩
  obtain ⟨g0, ad, cap, rfl, g1, g2, g3, g4⟩ := hs
  unfold CRep
  refine ⟨ad, cap, by rw [List.length_map], by rw [List.length_map]; exact g1, g2, g3, ?_⟩
  rcases g4 with g4 | ⟨b, off, rfl, g5, g6⟩
  · left
    rw [List.eq_nil_of_length_eq_zero g4]; rfl
  · right
    refine ⟨b, off, rfl, ?_⟩
    rw [rowsAt_iff]
    refine ⟨fun r hr => ?_, csAt_of_values (csRep_rows hcl fun i c x hc hx => (hcs i c x hc hx).2) (fun j u hu => g6 j u hu) fun j hj => g5⟩
    obtain ⟨x, _, rfl⟩ := List.mem_map.1 hr
    exact hl x

/-- a struct's cells, field by field -/
theorem cs_field {F : Fzn} {w : World} {cs : List Value} {l m : List C} {off sz : Nat} (h1 : CsRep F w l ((cs.drop off).take sz)) (h2 : CsRep F w m (cs.drop (off + sz))) : CsRep F w (l ++ m) (cs.drop off) := by
  have := h1.append h2
  rwa [← List.drop_drop, List.take_append_drop] at this
theorem cs_end {F : Fzn} {w : World} {cs : List Value} {n : Nat} (h : cs.length = n) : CsRep F w [] (cs.drop n) := by
  rw [List.drop_of_length_le (by omega)]; exact csRep_nil

/-! ### parameters -/
theorem prep_one {w : World} {c : C} {v : Value} (hv : v.cells.toList = [v]) (h : CsRep (FW w) w [c] v.cells.toList) : PRep (fun _ => none) (FW w) w (.d (.c c)) v := by
  rw [hv] at h
  obtain ⟨u, us, e, h1, _⟩ := csRep_inv h
  cases e
  unfold PRep DRep
  exact h1
theorem prep_agg {w : World} {cs : List C} {v : Value} (hv : v = .agg v.cells.toList.toArray) (h : CsRep (FW w) w cs v.cells.toList) : PRep (fun _ => none) (FW w) w (.agg (cs.map D.c)) v := by
  unfold PRep
  exact ⟨_, hv, dsRep_of_cs h⟩
theorem prep_text {w : World} (a : ByteArray) : PRep (fun _ => none) (FW w) w (pStr (tx a.data.toList)) (.string a) := by
  rw [tx_list]; exact rep_str _
theorem psF_nil {w : World} : PsRep (fun _ => none) (FW w) w [] [] := by unfold PsRep; trivial
theorem psF_cons {w : World} {x : PV} {xs : List PV} {u : Value} {us : List Value} (h : PRep (fun _ => none) (FW w) w x u) (hs : PsRep (fun _ => none) (FW w) w xs us) : PsRep (fun _ => none) (FW w) w (x :: xs) (u :: us) := by unfold PsRep; exact ⟨h, hs⟩
theorem Pure.walkF {f : FuncId} {args : List PV} (h : Pure P f args (pBool true)) {w : World} (hG : GL w) (vs : List Value) (hargs : PsRep (fun _ => none) (FW w) w args vs) :
    Calls P f vs.toArray w fun e w' => e = .returned (.bool true) ∧ Below w.heap.size w w' := by
  refine (h.2 (FW w) w vs hG (fun _ _ e => e) hargs).mono ?_
  rintro e w' ⟨v, rfl, hb, hr⟩
  rw [rep_v hr]
  exact ⟨rfl, hb⟩
end
end Go.Proofs.Ytohlkegmmbdlaaa.Pm
end

section
namespace Go.Proofs.Ytohlkegmmbdlaaa.Pm
open Go.RowKit K
set_option linter.unusedVariables false
set_option linter.unusedSimpArgs false
set_option maxRecDepth 100000

def listEqB {α : Type} (eq : α → α → Bool) : List α → List α → Bool
  | [], [] => true
  | x :: a, y :: b => eq x y && listEqB eq a b
  | _, _ => false
theorem listEqB_iff {α : Type} {eq : α → α → Bool} (h : ∀ x y, eq x y = true ↔ x = y) : ∀ a b : List α, listEqB eq a b = true ↔ a = b
  | [], [] => by simp [listEqB]
  | [], _ :: _ => by simp [listEqB]
  | _ :: _, [] => by simp [listEqB]
  | x :: a, y :: b => by
    unfold listEqB
    rw [Bool.and_eq_true, h, listEqB_iff h a b, List.cons.injEq]
theorem listEqB_refl {α : Type} {eq : α → α → Bool} (h : ∀ x, eq x x = true) : ∀ a : List α, listEqB eq a a = true
  | [] => rfl
  | x :: a => by unfold listEqB; rw [h, listEqB_refl h a]; rfl
theorem listEqB_len {α : Type} {eq : α → α → Bool} : ∀ {a b : List α}, a.length ≠ b.length → listEqB eq a b = false
  | [], [], h => absurd rfl h
  | [], _ :: _, _ => rfl
  | _ :: _, [], _ => rfl
  | x :: a, y :: b, h => by
    unfold listEqB
    rw [listEqB_len (a := a) (b := b) (by simpa using h), Bool.and_false]
/-- the elements so far are the same -/
theorem listEqB_step {α : Type} {eq : α → α → Bool} : ∀ {a b : List α} {k : Nat}, listEqB eq (a.take k) (b.take k) = true → (h1 : k < a.length) → (h2 : k < b.length) → listEqB eq (a.take (k + 1)) (b.take (k + 1)) = eq a[k] b[k]
  | x :: a, y :: b, 0, _, _, _ => by simp [listEqB]
  | x :: a, y :: b, k + 1, h, h1, h2 => by
    simp only [List.take_succ_cons, listEqB, Bool.and_eq_true] at h
    have := listEqB_step (k := k) h.2 (by simpa using h1) (by simpa using h2)
    simp only [List.take_succ_cons, List.getElem_cons_succ]
    unfold listEqB
    rw [h.1, Bool.true_and]
    simpa using this
theorem listEqB_stop {α : Type} {eq : α → α → Bool} : ∀ {a b : List α} {k : Nat} (h1 : k < a.length) (h2 : k < b.length), eq a[k] b[k] = false → listEqB eq a b = false
  | x :: a, y :: b, 0, _, _, h => by
    simp only [List.getElem_cons_zero] at h
    unfold listEqB; rw [h, Bool.false_and]
  | x :: a, y :: b, k + 1, h1, h2, h => by
    simp only [List.getElem_cons_succ] at h
    unfold listEqB
    rw [listEqB_stop (k := k) (by simpa using h1) (by simpa using h2) h, Bool.and_false]
theorem listEqB_all {α : Type} {eq : α → α → Bool} {a b : List α} {k : Nat} (h : listEqB eq (a.take k) (b.take k) = true) (h1 : a.length ≤ k) (h2 : b.length ≤ k) : listEqB eq a b = true := by
  rwa [List.take_of_length_le h1, List.take_of_length_le h2] at h

theorem tx_empty {l : List UInt8} : tx l = ⟨#[]⟩ ↔ l = [] := by
  rw [show (⟨#[]⟩ : ByteArray) = tx [] from rfl, tx_eq]
theorem tx_empty_len {l : List UInt8} : tx l = ⟨#[]⟩ ↔ l.length = 0 := by rw [tx_empty, List.length_eq_zero_iff]
abbrev slV {α : Type} (sz : Nat) (enc : α → List C) (l : List α) : PV := .d (.c (.sl sz (l.map enc)))
theorem take_snoc {α : Type} {l : List α} {k : Nat} (h : k < l.length) : l.take (k + 1) = l.take k ++ [l[k]] := List.take_succ_eq_append_getElem h
theorem CLe.int {k : IntKind} {a b : Int} (h : b = a) : CLe (.v (.int k a)) (.v (.int k b)) := by rw [h]; exact .inl rfl
theorem CLe.text {a b : ByteArray} (h : b = a) : CLe (.v (.string a)) (.v (.string b)) := by rw [h]; exact .inl rfl
theorem CLe.bool {a b : Bool} (h : b = a) : CLe (.v (.bool a)) (.v (.bool b)) := by rw [h]; exact .inl rfl
theorem PLe.sl {f : Nat → Option Nat} {n : List Nat} {sz : Nat} {a b : List (List C)} (h : b = a) : PLe f n (.d (.c (.sl sz a))) (.d (.c (.sl sz b))) := by rw [h]; exact .inl rfl
/-- a contract serves arguments that are worth more (nil for an empty slice) -/
theorem Pure.le {P : Program} {f : FuncId} {args args' : List PV} {res : PV} (h : Pure P f args res) (hl : PLeT (fun _ => none) [] args args') : Pure P f args' res := by
  refine ⟨h.1, fun F w vs hG hF hus => h.2 F w vs hG hF ?_⟩
  have := psrep_wk (σ := fun _ => none) (f := fun _ => none) (n := []) (F' := F) (w := w) ⟨fun _ _ h => h, fun _ _ _ => rfl⟩ _ _ _ hl hus
  have e1 : newSg (fun _ => none) (fun _ => none) ([] : List Nat) = fun _ => none := by funext k; unfold newSg; rw [if_neg (by simp [kin])]
  rwa [e1] at this
/-! ### a plain call that is lent arrays of the caller's -/
def plainD : D → Bool
  | .c (.v _) => true
  | _ => false
mutual
def plainP : PV → Bool
  | .d x => plainD x
  | .agg l => l.all plainD
  | .tup l => plainPs l
  | .any => true
def plainPs : List PV → Bool
  | [] => true
  | x :: xs => plainP x && plainPs xs
end
section
variable {σ σ' : Sg} {F F' : Fzn} {w w' : World}
theorem plainD_rep {x : D} {u : Value} (h : plainD x = true) (hr : DRep σ F w x u) : DRep σ' F' w' x u := by
  unfold plainD at h
  split at h
  · unfold DRep CRep at hr ⊢; exact hr
  · cases h
theorem plainDs_rep : ∀ {l : List D} {us : List Value}, l.all plainD = true → DsRep σ F w l us → DsRep σ' F' w' l us
  | [], _, _, hr => by rw [dsRep_nil_inv hr]; exact dsRep_nil
  | x :: xs, _, h, hr => by
    rw [List.all_cons, Bool.and_eq_true] at h
    obtain ⟨u, vs, rfl, h1, h2⟩ := dsRep_inv hr
    exact dsRep_cons (plainD_rep h.1 h1) (plainDs_rep h.2 h2)
mutual
theorem plainP_rep : ∀ (x : PV) (u : Value), plainP x = true → PRep σ F w x u → PRep σ' F' w' x u
  | .d x, u, h, hr => by
    unfold plainP at h
    unfold PRep at hr ⊢
    exact plainD_rep h hr
  | .agg l, u, h, hr => by
    unfold plainP at h
    unfold PRep at hr ⊢
    obtain ⟨xs, h1, h2⟩ := hr
    exact ⟨xs, h1, plainDs_rep h h2⟩
  | .tup l, u, h, hr => by
    unfold plainP at h
    unfold PRep at hr ⊢
    obtain ⟨xs, h1, h2⟩ := hr
    exact ⟨xs, h1, plainPs_rep l xs h h2⟩
  | .any, u, h, hr => by unfold PRep; trivial
theorem plainPs_rep : ∀ (l : List PV) (us : List Value), plainPs l = true → PsRep σ F w l us → PsRep σ' F' w' l us
  | [], us, _, hr => by
    cases us with
    | nil => unfold PsRep; trivial
    | cons _ _ => unfold PsRep at hr; exact hr.elim
  | x :: xs, us, h, hr => by
    cases us with
    | nil => unfold PsRep at hr; exact hr.elim
    | cons u us =>
      unfold plainPs at h
      rw [Bool.and_eq_true] at h
      unfold PsRep at hr ⊢
      exact ⟨plainP_rep x u h.1 hr.1, plainPs_rep xs us h.2 hr.2⟩
end
end
theorem Pure.lend {P : Program} {f : FuncId} {ys args : List PV} {r : PV} {rd : Rf} (hp : Pure P f ys r) (hr : plainP r = true) (hy : closeHPs (hpL rd) args fun zs => zs = ys) : CallS P f args rd [] r [] := by
  refine ⟨hp.1, fun c vs hc hdf hfr hs hx => ?_⟩
  rw [List.append_nil] at hs hx ⊢
  have hk : Keeps (fz c c.σ0 (hpL rd) c.w0) (fun b o => fz c c.σ0 (hpL rd) c.w0 b o ∨ (c.own b ∧ b < c.w0.heap.size)) c.w0 c.w0 := ⟨fun _ _ h => .inl h, fun _ _ _ => rfl⟩
  obtain ⟨zs, rfl, hz⟩ := closeHPs_out hs hk (fun b o h1 h2 => .inr ⟨h1, h2⟩) hy
  refine (hp.2 (fun b o => fz c c.σ0 (hpL rd) c.w0 b o ∨ (c.own b ∧ b < c.w0.heap.size)) c.w0 vs (sw_gl hc hs) (fun b o h => ?_) (hz vs hx)).mono ?_
  · rcases h with h | h
    · exact fz_lt hs h
    · exact h.2
  · rintro en w' ⟨v, rfl, hb, hr'⟩
    exact ⟨v, c.σ0, rfl, sw_below hs hb, plainP_rep _ _ hr hr'⟩
theorem Need.by {n b lim : Nat} {K : Prop} (B : Nat) (hb : b = B) (h : n * B ≤ lim) (k : K) : Need (n * b ≤ lim) K := by subst hb; exact ⟨h, k⟩
theorem Idx.mapE {α : Type} {f : α → List C} {l : List α} {x : α} {n : Int} {K : List C → Prop} (k : Nat) (hk : n = (k : Int)) (hn : k < l.length) (hx : l[k] = x) (h : K (f x)) : Idx (l.map f) n K := by
  subst hx; exact Idx.mapI k hk hn h
end Go.Proofs.Ytohlkegmmbdlaaa.Pm
end

section
namespace Go.Proofs.Ytohlkegmmbdlaaa.Pm
open Go.RowKit K DiskP
set_option linter.unusedVariables false
set_option linter.unusedSimpArgs false
set_option maxRecDepth 100000

abbrev Dk := List ByteArray × List DiskP.Wr
def encW (x : DiskP.Wr) : List C := [.v (.int .i64 x.1), .v (.string x.2)]
abbrev pgsC (p : List ByteArray) : C := .sl 1 (p.map encS)
abbrev wrsC (q : List DiskP.Wr) : C := .sl 2 (q.map encW)
abbrev dkC (x : Dk) : List C := [pgsC x.1, wrsC x.2]
abbrev dkV (x : Dk) : PV := .agg [.c (pgsC x.1), .c (wrsC x.2)]

section
variable {F : Fzn} {w : World}
theorem csRep_one {x : Value} {us : List Value} (h : CsRep F w [.v x] us) : us = [x] := by
  obtain ⟨u, vs, rfl, h1, h2⟩ := csRep_inv h
  unfold CRep at h1
  rw [h1.1, csRep_nil_inv h2]
theorem csRep_strs : ∀ {l : List ByteArray} {us : List Value}, CsRep F w (l.map encS).flatten us → us = l.map Value.string
  | [], us, h => csRep_nil_inv h
  | s :: l, us, h => by
    rw [List.map_cons, List.flatten_cons] at h
    obtain ⟨u, vs, rfl, h1, h2⟩ := csRep_inv h
    unfold CRep at h1
    rw [h1.1, csRep_strs h2]; rfl
theorem csRep_wrs : ∀ {l : List DiskP.Wr} {us : List Value}, CsRep F w (l.map encW).flatten us → us = wrCells l
  | [], us, h => csRep_nil_inv h
  | s :: l, us, h => by
    rw [List.map_cons, List.flatten_cons] at h
    obtain ⟨u, vs, rfl, h1, h2⟩ := csRep_inv h
    obtain ⟨u2, vs2, rfl, h3, h4⟩ := csRep_inv h2
    unfold CRep at h1 h3
    rw [h1.1, h3.1, csRep_wrs h4]; rfl
theorem rep_wrs : ∀ l : List DiskP.Wr, CsRep F w (l.map encW).flatten (wrCells l)
  | [] => by unfold CsRep; trivial
  | s :: l => by
    rw [List.map_cons, List.flatten_cons]
    exact csRep_cons (by unfold CRep; exact ⟨rfl, rfl⟩) (csRep_cons (by unfold CRep; exact ⟨rfl, rfl⟩) (rep_wrs l))
theorem seen_of {rows : List (List C)} {sz : Nat} {u : Value} {vs : List Value} (h : CRep F w (.sl sz rows) u) (hF : ∀ b o, F b o → b < w.heap.size) (hv : ∀ us, CsRep F w rows.flatten us → us = vs) (hl : vs.length = rows.length * sz) (hsz : 0 < sz) : Seen w u rows.length sz vs := by
  unfold CRep at h
  obtain ⟨a, cap, rfl, h2, h3, h4, h5⟩ := h
  refine ⟨hl, a, cap, rfl, h2, h3, h4, ?_⟩
  rcases h5 with h5 | ⟨b, off, rfl, h6⟩
  · subst h5; exact .inl rfl
  · rcases Nat.eq_zero_or_pos rows.length with h0 | h0
    · exact .inl h0
    · right
      obtain ⟨g1, g2⟩ := rowsAt_iff.1 h6
      obtain ⟨us, g3, g4, g5⟩ := csAt_values g2
      obtain rfl := hv us g3
      refine ⟨b, off, rfl, ?_, g4⟩
      have := g5 0 (by rw [flatten_len g1]; exact Nat.mul_pos h0 hsz)
      exact hF _ _ this
theorem seen_strs {l : List ByteArray} {u : Value} (h : CRep F w (pgsC l) u) (hF : ∀ b o, F b o → b < w.heap.size) : Seen w u l.length 1 (l.map Value.string) := by
  have := seen_of h hF (fun us => csRep_strs) (by simp) (by decide)
  rwa [List.length_map] at this
theorem seen_wrs {l : List DiskP.Wr} {u : Value} (h : CRep F w (wrsC l) u) (hF : ∀ b o, F b o → b < w.heap.size) : Seen w u l.length 2 (wrCells l) := by
  have := seen_of h hF (fun us => csRep_wrs) (by rw [wrCells_len, List.length_map]) (by decide)
  rwa [List.length_map] at this
theorem isDisk_of {x : Dk} {u : Value} (h : PRep (fun _ => none) F w (dkV x) u) (hF : ∀ b o, F b o → b < w.heap.size) : IsDisk w u x.1 x.2 := by
  unfold PRep at h
  obtain ⟨xs, rfl, h⟩ := h
  obtain ⟨u1, vs, rfl, h1, h2⟩ := dsRep_inv h
  obtain ⟨u2, vs2, rfl, h3, h4⟩ := dsRep_inv h2
  obtain rfl := dsRep_nil_inv h4
  unfold DRep at h1 h3
  exact ⟨u1, u2, rfl, seen_strs h1 hF, seen_wrs h3 hF⟩
theorem strs_rows (l : List ByteArray) : ∀ r ∈ l.map encS, r.length = 1 := by
  intro r hr
  obtain ⟨x, _, rfl⟩ := List.mem_map.1 hr
  rfl
theorem wrs_rows (l : List DiskP.Wr) : ∀ r ∈ l.map encW, r.length = 2 := by
  intro r hr
  obtain ⟨x, _, rfl⟩ := List.mem_map.1 hr
  rfl
theorem own_strs {B e : Nat} {v : Value} {l : List ByteArray} (h : w.ownsRow B e 1 v l.length (l.map Value.string)) (hF : ∀ b o, B ≤ b → b < w.heap.size → F b o) : CRep F w (pgsC l) v :=
  sl_of_row h (List.length_map ..) (strs_rows l) (rep_texts l) hF
theorem own_wrs {B e : Nat} {v : Value} {l : List DiskP.Wr} (h : w.ownsRow B e 2 v l.length (wrCells l)) (hF : ∀ b o, B ≤ b → b < w.heap.size → F b o) : CRep F w (wrsC l) v :=
  sl_of_row h (List.length_map ..) (wrs_rows l) (rep_wrs l) hF
theorem own_dk {B : Nat} {v : Value} {x : Dk} (h : OwnDisk w B v x.1 x.2) (hF : ∀ b o, B ≤ b → b < w.heap.size → F b o) : PRep (fun _ => none) F w (dkV x) v := by
  obtain ⟨vp, vq, rfl, h1, h2⟩ := h
  unfold PRep
  exact ⟨_, rfl, dsRep_cons (by unfold DRep; exact own_strs h1 hF) (dsRep_cons (by unfold DRep; exact own_wrs h2 hF) dsRep_nil)⟩
theorem ps1 {x : PV} {vs : List Value} (h : PsRep (fun _ => none) F w [x] vs) : ∃ u, vs = [u] ∧ PRep (fun _ => none) F w x u := by
  cases vs with
  | nil => unfold PsRep at h; exact h.elim
  | cons u us =>
    unfold PsRep at h
    cases us with
    | nil => exact ⟨u, rfl, h.1⟩
    | cons _ _ => have := h.2; unfold PsRep at this; exact this.elim
theorem ps2 {x y : PV} {vs : List Value} (h : PsRep (fun _ => none) F w [x, y] vs) : ∃ u v, vs = [u, v] ∧ PRep (fun _ => none) F w x u ∧ PRep (fun _ => none) F w y v := by
  cases vs with
  | nil => unfold PsRep at h; exact h.elim
  | cons u us =>
    unfold PsRep at h
    obtain ⟨v, rfl, h2⟩ := ps1 h.2
    exact ⟨u, v, rfl, h.1, h2⟩
theorem ps3 {x y z : PV} {vs : List Value} (h : PsRep (fun _ => none) F w [x, y, z] vs) : ∃ u v t, vs = [u, v, t] ∧ PRep (fun _ => none) F w x u ∧ PRep (fun _ => none) F w y v ∧ PRep (fun _ => none) F w z t := by
  cases vs with
  | nil => unfold PsRep at h; exact h.elim
  | cons u us =>
    unfold PsRep at h
    obtain ⟨v, t, rfl, h2⟩ := ps2 h.2
    exact ⟨u, v, t, rfl, h.1, h2⟩
theorem ps4 {x y z z' : PV} {vs : List Value} (h : PsRep (fun _ => none) F w [x, y, z, z'] vs) : ∃ u v t s, vs = [u, v, t, s] ∧ PRep (fun _ => none) F w x u ∧ PRep (fun _ => none) F w y v ∧ PRep (fun _ => none) F w z t ∧ PRep (fun _ => none) F w z' s := by
  cases vs with
  | nil => unfold PsRep at h; exact h.elim
  | cons u us =>
    unfold PsRep at h
    obtain ⟨v, t, s, rfl, h2⟩ := ps3 h.2
    exact ⟨u, v, t, s, rfl, h.1, h2⟩
theorem rep_tup2 {a b : PV} {u v : Value} (h1 : PRep (fun _ => none) F w a u) (h2 : PRep (fun _ => none) F w b v) : PRep (fun _ => none) F w (.tup [a, b]) (.tuple #[u, v]) := by
  unfold PRep
  exact ⟨[u, v], rfl, by unfold PsRep; exact ⟨h1, by unfold PsRep; exact ⟨h2, by unfold PsRep; trivial⟩⟩⟩
end
theorem p_dcheck (x : Dk) : Pure Try.prog 39 [dkV x] (pInt .i64 (check x.1 x.2)) := by
  refine ⟨⟨_, Try.func39, by rfl, by rfl⟩, fun F w vs hG hF hp => ?_⟩
  obtain ⟨u, rfl, h1⟩ := ps1 hp
  refine (check_any x.1 x.2 u w (isDisk_of h1 hF)).mono ?_
  rintro e w' ⟨rfl, hb⟩
  exact ⟨_, rfl, hb, rep_int _ _⟩
theorem p_dcheckref (x : Dk) : Pure Try.prog 40 [dkV x] (pInt .i64 (check x.1 x.2)) := by
  refine ⟨⟨_, Try.func40, by rfl, by rfl⟩, fun F w vs hG hF hp => ?_⟩
  obtain ⟨u, rfl, h1⟩ := ps1 hp
  refine (diskcheck_any x.1 x.2 u w (isDisk_of h1 hF)).mono ?_
  rintro e w' ⟨rfl, hb⟩
  exact ⟨_, rfl, hb, rep_int _ _⟩
theorem p_dread (x : Dk) (n : Int) : Pure Try.prog 29 [dkV x, pInt .i64 n] (.tup [pStr (readR x.1 x.2 n).1, pInt .i64 (readR x.1 x.2 n).2]) := by
  refine ⟨⟨_, Try.func29, by rfl, by rfl⟩, fun F w vs hG hF hp => ?_⟩
  obtain ⟨u, v, rfl, h1, h2⟩ := ps2 hp
  rw [rep_v h2]
  refine (read_any x.1 x.2 u n w (isDisk_of h1 hF)).mono ?_
  rintro e w' ⟨rfl, hb⟩
  exact ⟨_, rfl, hb, rep_tup2 (rep_str _) (rep_int _ _)⟩
theorem p_down (x : Dk) (hp : x.1.length ≤ 1000) (hq : x.2.length ≤ 1000) : Pure Try.prog 41 [dkV x] (dkV x) := by
  refine ⟨⟨_, Try.func41, by rfl, by rfl⟩, fun F w vs hG hF hps => ?_⟩
  obtain ⟨u, rfl, h1⟩ := ps1 hps
  refine (own_any x.1 x.2 u w hp hq (isDisk_of h1 hF)).mono ?_
  rintro e w' ⟨v, rfl, ho, hb⟩
  exact ⟨_, rfl, hb, own_dk ho fun b o b1 b2 => .inr ⟨b1, b2⟩⟩
theorem p_dwrite (x : Dk) (n : Int) (s : ByteArray) : Pure Try.prog 62 [dkV x, pInt .i64 n, pStr s] (.tup [dkV (writeP x.1 x.2 n s, writeQ x.1 x.2 n s), pInt .i64 (writeE x.1 x.2 n s)]) := by
  refine ⟨⟨_, Try.func62, by rfl, by rfl⟩, fun F w vs hG hF hps => ?_⟩
  obtain ⟨u, v, t, rfl, h1, h2, h3⟩ := ps3 hps
  rw [rep_v h2, rep_v h3]
  refine (write_any x.1 x.2 u n s w (isDisk_of h1 hF)).mono ?_
  rintro e w' ⟨v, rfl, ho, hb⟩
  exact ⟨_, rfl, hb, rep_tup2 (own_dk ho fun b o b1 b2 => .inr ⟨b1, b2⟩) (rep_int _ _)⟩
theorem p_dsync (x : Dk) : Pure Try.prog 64 [dkV x] (.tup [dkV (settleP x.1 x.2 (fun _ => true), []), pInt .i64 (check x.1 x.2)]) := by
  refine ⟨⟨_, Try.func64, by rfl, by rfl⟩, fun F w vs hG hF hps => ?_⟩
  obtain ⟨u, rfl, h1⟩ := ps1 hps
  refine (sync_any x.1 x.2 u w (isDisk_of h1 hF)).mono ?_
  rintro e w' ⟨v, rfl, ho, hb⟩
  exact ⟨_, rfl, hb, rep_tup2 (own_dk (x := (settleP x.1 x.2 (fun _ => true), [])) ho fun b o b1 b2 => .inr ⟨b1, b2⟩) (rep_int _ _)⟩
theorem p_dcrash (x : Dk) (m : Int) (h0 : 0 ≤ m) (h1 : m ≤ 18446744073709551615) : Pure Try.prog 27 [dkV x, pInt .u64 m] (.tup [dkV (settleP x.1 x.2 (bitAt m), []), pInt .i64 (check x.1 x.2)]) := by
  refine ⟨⟨_, Try.func27, by rfl, by rfl⟩, fun F w vs hG hF hps => ?_⟩
  obtain ⟨u, v, rfl, h1, h2⟩ := ps2 hps
  rw [rep_v h2]
  refine (crash_any x.1 x.2 u m (by assumption) (by assumption) w (isDisk_of h1 hF)).mono ?_
  rintro e w' ⟨v, rfl, ho, hb⟩
  exact ⟨_, rfl, hb, rep_tup2 (own_dk (x := (settleP x.1 x.2 (bitAt m), [])) ho fun b o b1 b2 => .inr ⟨b1, b2⟩) (rep_int _ _)⟩
theorem p_dcrashof (x : Dk) (m : Int) (h0 : 0 ≤ m) (h1 : m ≤ 18446744073709551615) : Pure Try.prog 66 [dkV x, pInt .u64 m] (.tup [dkV (crashP x.1 x.2 m, []), pInt .i64 (check x.1 x.2)]) := by
  refine ⟨⟨_, Try.func66, by rfl, by rfl⟩, fun F w vs hG hF hps => ?_⟩
  obtain ⟨u, v, rfl, h1, h2⟩ := ps2 hps
  rw [rep_v h2]
  refine (crashof_any x.1 x.2 u m (by assumption) (by assumption) w (isDisk_of h1 hF)).mono ?_
  rintro e w' ⟨v, rfl, ho, hb⟩
  exact ⟨_, rfl, hb, rep_tup2 (own_dk (x := (crashP x.1 x.2 m, [])) ho fun b o b1 b2 => .inr ⟨b1, b2⟩) (rep_int _ _)⟩
theorem p_settled (p : List ByteArray) (q : List DiskP.Wr) (m : Int) (h0 : 0 ≤ m) (h1 : m ≤ 18446744073709551615) : Pure Try.prog 25 [.d (.c (pgsC p)), .d (.c (wrsC q)), pInt .u64 m] (.d (.c (pgsC (settled p q m)))) := by
  refine ⟨⟨_, Try.func25, by rfl, by rfl⟩, fun F w vs hG hF hps => ?_⟩
  obtain ⟨u, v, t, rfl, g1, g2, g3⟩ := ps3 hps
  rw [rep_v g3]
  unfold PRep DRep at g1 g2
  refine (settled_any p q u v m h0 h1 w (seen_strs g1 hF) (seen_wrs g2 hF)).mono ?_
  rintro e w' ⟨v, rfl, ho, hb⟩
  exact ⟨_, rfl, hb, by unfold PRep DRep; exact own_strs ho fun b o b1 b2 => .inr ⟨b1, b2⟩⟩
theorem p_pageat (p : List ByteArray) (n : Int) : Pure Try.prog 35 [.d (.c (pgsC p)), pInt .i64 n] (pStr (pageAt p n)) := by
  refine ⟨⟨_, Try.func35, by rfl, by rfl⟩, fun F w vs hG hF hps => ?_⟩
  obtain ⟨u, v, rfl, g1, g2⟩ := ps2 hps
  rw [rep_v g2]
  unfold PRep DRep at g1
  refine (pageat_any p u n w (seen_strs g1 hF)).mono ?_
  rintro e w' ⟨rfl, rfl⟩
  exact ⟨_, rfl, Below.refl _ _, rep_str _⟩
theorem p_lastof (p : List ByteArray) (q : List DiskP.Wr) (m n : Int) (h0 : 0 ≤ m) (h1 : m ≤ 18446744073709551615) : Pure Try.prog 49 [.d (.c (pgsC p)), .d (.c (wrsC q)), pInt .u64 m, pInt .i64 n] (pStr (lastOf (pageAt p n) q m n)) := by
  refine ⟨⟨_, Try.func49, by rfl, by rfl⟩, fun F w vs hG hF hps => ?_⟩
  obtain ⟨u, v, t, s, rfl, g1, g2, g3, g4⟩ := ps4 hps
  rw [rep_v g3, rep_v g4]
  unfold PRep DRep at g1 g2
  refine (lastof_any p q u v m h0 h1 n w (seen_strs g1 hF) (seen_wrs g2 hF)).mono ?_
  rintro e w' ⟨rfl, rfl⟩
  exact ⟨_, rfl, Below.refl _ _, rep_str _⟩
theorem p_samedisk (x y : Dk) : Pure Try.prog 44 [dkV x, dkV y] (pBool (sameD x y)) := by
  refine ⟨⟨_, Try.func44, by rfl, by rfl⟩, fun F w vs hG hF hps => ?_⟩
  obtain ⟨u, v, rfl, g1, g2⟩ := ps2 hps
  refine (samedisk_any x.1 y.1 x.2 y.2 u v w (isDisk_of g1 hF) (isDisk_of g2 hF)).mono ?_
  rintro e w' ⟨rfl, hb⟩
  exact ⟨_, rfl, hb, rep_bool _⟩
end Go.Proofs.Ytohlkegmmbdlaaa.Pm
end

section
namespace Go.Proofs.Ytohlkegmmbdlaaa.Pm
open Go.RowKit K
set_option linter.unusedVariables false
set_option linter.unusedSimpArgs false
set_option maxRecDepth 100000

def hasPre (l m : List UInt8) : Bool := decide (l.take m.length = m)
theorem p_haspre0 (l m : List UInt8) : Pure Try.prog 73 [pStr (tx l), pStr (tx m)] (pBool (hasPre l m)) := by
  have tl := tx_size l
  have tm := tx_size m
  refine pure_of Try.func73 (by rfl) rfl (by kernel_rfl) (by rfl) ?_
  by_cases h : m.length ≤ l.length
  · have e : (tx l).extract (0 : Int).toNat ((tx m).size : Int).toNat = tx (l.take m.length) := by
      rw [extract_tx, Int.toNat_natCast, tm]; rfl
    (((conv => whnf); repeat ((with_reducible first | refine BCase.tt ?_ | refine BCase.ff ?_); (conv => whnf))); repeat' ((first | with_reducible refine Wr.u8 ?_ | ((with_reducible first | refine Wr.ci ?wxs ?_ | refine Wr.c3 ?wxs ?_ | refine Wr.c6 ?wxs ?_ | refine BCase.dt ?wxs ?_); case wxs => (first | omega | (simp only [lens, true_and, and_true]; (try omega); done))) | ((with_reducible refine BCase.df ?wxs ?_); case wxs => (first | omega | (simp only [lens, true_and, and_true]; (try omega); done))) | ((with_reducible refine Need.mk ?wxs ?_); case wxs => first | (first | omega | (simp only [lens, true_and, and_true]; (try omega); done)) | decide | kernel_rfl) | refine BCase.t (by decide) ?_ | refine BCase.f (by decide) ?_ | with_reducible (first | refine EmpOr.app ?_ | refine BCase.not ?_ | refine BCase.and ?_ | refine BCase.or ?_ | refine BCase.d (fun _ => ?_) (fun _ => ?_))) <;> ((conv => whnf); repeat ((with_reducible first | refine BCase.tt ?_ | refine BCase.ff ?_); (conv => whnf)))))
    refine Ret.bool ?_
    unfold hasPre
    rw [e]
    exact decide_eq_decide.2 tx_eq
  · (((conv => whnf); repeat ((with_reducible first | refine BCase.tt ?_ | refine BCase.ff ?_); (conv => whnf))); repeat' ((first | with_reducible refine Wr.u8 ?_ | ((with_reducible first | refine Wr.ci ?wxs ?_ | refine Wr.c3 ?wxs ?_ | refine Wr.c6 ?wxs ?_ | refine BCase.dt ?wxs ?_); case wxs => (first | omega | (simp only [lens, true_and, and_true]; (try omega); done))) | ((with_reducible refine BCase.df ?wxs ?_); case wxs => (first | omega | (simp only [lens, true_and, and_true]; (try omega); done))) | ((with_reducible refine Need.mk ?wxs ?_); case wxs => first | (first | omega | (simp only [lens, true_and, and_true]; (try omega); done)) | decide | kernel_rfl) | refine BCase.t (by decide) ?_ | refine BCase.f (by decide) ?_ | with_reducible (first | refine EmpOr.app ?_ | refine BCase.not ?_ | refine BCase.and ?_ | refine BCase.or ?_ | refine BCase.d (fun _ => ?_) (fun _ => ?_))) <;> ((conv => whnf); repeat ((with_reducible first | refine BCase.tt ?_ | refine BCase.ff ?_); (conv => whnf)))))
    refine Ret.bool ?_
    unfold hasPre
    rw [eq_comm, decide_eq_false_iff_not]
    intro q
    have := congrArg List.length q
    rw [List.length_take] at this
    omega
theorem p_haspre (l m : List UInt8) : Pure Try.prog 68 [pStr (tx l), pStr (tx m)] (pBool (hasPre l m)) := by
  refine pure_of Try.func68 (by rfl) rfl (by kernel_rfl) (by rfl) ?_
  (((conv => whnf); repeat ((with_reducible first | refine BCase.tt ?_ | refine BCase.ff ?_); (conv => whnf))); repeat' ((first | with_reducible refine Wr.u8 ?_ | ((with_reducible first | refine Wr.ci ?wxs ?_ | refine Wr.c3 ?wxs ?_ | refine Wr.c6 ?wxs ?_ | refine BCase.dt ?wxs ?_); case wxs => (first | omega | (simp only [lens, true_and, and_true]; (try omega); done))) | ((with_reducible refine BCase.df ?wxs ?_); case wxs => (first | omega | (simp only [lens, true_and, and_true]; (try omega); done))) | ((with_reducible refine Need.mk ?wxs ?_); case wxs => first | (first | omega | (simp only [lens, true_and, and_true]; (try omega); done)) | decide | kernel_rfl) | refine BCase.t (by decide) ?_ | refine BCase.f (by decide) ?_ | refine CallP.pure _ rfl _ (p_haspre0 l m) ?_ | with_reducible (first | refine EmpOr.app ?_ | refine BCase.not ?_ | refine BCase.and ?_ | refine BCase.or ?_ | refine BCase.d (fun _ => ?_) (fun _ => ?_))) <;> ((conv => whnf); repeat ((with_reducible first | refine BCase.tt ?_ | refine BCase.ff ?_); (conv => whnf)))))
  exact Ret.mk rfl
end Go.Proofs.Ytohlkegmmbdlaaa.Pm
end

section
namespace Go.Proofs.Ytohlkegmmbdlaaa.Pm
open Go.RowKit K DiskP
set_option linter.unusedVariables false
set_option linter.unusedSimpArgs false
set_option maxRecDepth 100000

abbrev Str := Dk × Dk
abbrev stV (s : Str) : PV := .agg [.c (pgsC s.1.1), .c (wrsC s.1.2), .c (pgsC s.2.1), .c (wrsC s.2.2)]
abbrev all1 : Int := 18446744073709551615
def storeChk (s : Str) : Int := if check s.1.1 s.1.2 ≠ 0 then check s.1.1 s.1.2 else check s.2.1 s.2.2
/-- does a text begin with a J? -/
def isJ (p : ByteArray) : Bool := match p.data.toList with
  | b :: _ => decide ((b.toNat : Int) = 74)
  | [] => false
def hotR (s : Str) : Bool := isJ (lastOf (pageAt s.2.1 0) s.2.2 all1 0)
def hotP (s : Str) : Bool := isJ (readR s.2.1 s.2.2 0).1
def waitsR (s : Str) : Bool := decide (0 < s.1.2.length + s.2.2.length)
theorem p_sametexts (a b : List ByteArray) : Pure Try.prog 24 [.d (.c (pgsC a)), .d (.c (pgsC b))] (pBool (decide (a = b))) := by
  refine ⟨⟨_, Try.func24, by rfl, by rfl⟩, fun F w vs hG hF hps => ?_⟩
  obtain ⟨u, v, rfl, g1, g2⟩ := ps2 hps
  unfold PRep DRep at g1 g2
  refine (sametexts_any a b u v w (seen_strs g1 hF) (seen_strs g2 hF)).mono ?_
  rintro e w' ⟨rfl, hb⟩
  exact ⟨_, rfl, hb, rep_bool _⟩
theorem p_scheck (s : Str) : Pure Try.prog 14 [stV s] (pInt .i64 (storeChk s)) := by
  refine pure_of Try.func14 (by rfl) rfl (by kernel_rfl) (by rfl) ?_
  unfold storeChk
  have c1 := p_dcheck s.1
  have c2 := p_dcheck s.2
  by_cases h : check s.1.1 s.1.2 = 0
  · rw [if_neg (not_not_intro h)]
    (((conv => whnf); repeat ((with_reducible first | refine BCase.tt ?_ | refine BCase.ff ?_); (conv => whnf))); repeat' ((first | with_reducible refine Wr.u8 ?_ | ((with_reducible first | refine Wr.ci ?wxs ?_ | refine Wr.c3 ?wxs ?_ | refine Wr.c6 ?wxs ?_ | refine BCase.dt ?wxs ?_); case wxs => (first | omega | (simp only [lens, true_and, and_true]; (try omega); done))) | ((with_reducible refine BCase.df ?wxs ?_); case wxs => (first | omega | (simp only [lens, true_and, and_true]; (try omega); done))) | ((with_reducible refine Need.mk ?wxs ?_); case wxs => first | (first | omega | (simp only [lens, true_and, and_true]; (try omega); done)) | decide | kernel_rfl) | refine BCase.t (by decide) ?_ | refine BCase.f (by decide) ?_ | refine CallP.pure _ rfl _ (c1) ?_ | refine CallP.pure _ rfl _ (c2) ?_ | with_reducible (first | refine EmpOr.app ?_ | refine BCase.not ?_ | refine BCase.and ?_ | refine BCase.or ?_ | refine BCase.d (fun _ => ?_) (fun _ => ?_))) <;> ((conv => whnf); repeat ((with_reducible first | refine BCase.tt ?_ | refine BCase.ff ?_); (conv => whnf)))))
    exact Ret.mk rfl
  · rw [if_pos h]
    (((conv => whnf); repeat ((with_reducible first | refine BCase.tt ?_ | refine BCase.ff ?_); (conv => whnf))); repeat' ((first | with_reducible refine Wr.u8 ?_ | ((with_reducible first | refine Wr.ci ?wxs ?_ | refine Wr.c3 ?wxs ?_ | refine Wr.c6 ?wxs ?_ | refine BCase.dt ?wxs ?_); case wxs => (first | omega | (simp only [lens, true_and, and_true]; (try omega); done))) | ((with_reducible refine BCase.df ?wxs ?_); case wxs => (first | omega | (simp only [lens, true_and, and_true]; (try omega); done))) | ((with_reducible refine Need.mk ?wxs ?_); case wxs => first | (first | omega | (simp only [lens, true_and, and_true]; (try omega); done)) | decide | kernel_rfl) | refine BCase.t (by decide) ?_ | refine BCase.f (by decide) ?_ | refine CallP.pure _ rfl _ (c1) ?_ | refine CallP.pure _ rfl _ (c2) ?_ | with_reducible (first | refine EmpOr.app ?_ | refine BCase.not ?_ | refine BCase.and ?_ | refine BCase.or ?_ | refine BCase.d (fun _ => ?_) (fun _ => ?_))) <;> ((conv => whnf); repeat ((with_reducible first | refine BCase.tt ?_ | refine BCase.ff ?_); (conv => whnf)))))
    exact Ret.mk rfl
theorem p_scheckref (s : Str) : Pure Try.prog 15 [stV s] (pInt .i64 (storeChk s)) := by
  refine pure_of Try.func15 (by rfl) rfl (by kernel_rfl) (by rfl) ?_
  unfold storeChk
  have c1 := p_dcheckref s.1
  have c2 := p_dcheckref s.2
  by_cases h : check s.1.1 s.1.2 = 0
  · rw [if_neg (not_not_intro h)]
    (((conv => whnf); repeat ((with_reducible first | refine BCase.tt ?_ | refine BCase.ff ?_); (conv => whnf))); repeat' ((first | with_reducible refine Wr.u8 ?_ | ((with_reducible first | refine Wr.ci ?wxs ?_ | refine Wr.c3 ?wxs ?_ | refine Wr.c6 ?wxs ?_ | refine BCase.dt ?wxs ?_); case wxs => (first | omega | (simp only [lens, true_and, and_true]; (try omega); done))) | ((with_reducible refine BCase.df ?wxs ?_); case wxs => (first | omega | (simp only [lens, true_and, and_true]; (try omega); done))) | ((with_reducible refine Need.mk ?wxs ?_); case wxs => first | (first | omega | (simp only [lens, true_and, and_true]; (try omega); done)) | decide | kernel_rfl) | refine BCase.t (by decide) ?_ | refine BCase.f (by decide) ?_ | refine CallP.pure _ rfl _ (c1) ?_ | refine CallP.pure _ rfl _ (c2) ?_ | with_reducible (first | refine EmpOr.app ?_ | refine BCase.not ?_ | refine BCase.and ?_ | refine BCase.or ?_ | refine BCase.d (fun _ => ?_) (fun _ => ?_))) <;> ((conv => whnf); repeat ((with_reducible first | refine BCase.tt ?_ | refine BCase.ff ?_); (conv => whnf)))))
    exact Ret.mk rfl
  · rw [if_pos h]
    (((conv => whnf); repeat ((with_reducible first | refine BCase.tt ?_ | refine BCase.ff ?_); (conv => whnf))); repeat' ((first | with_reducible refine Wr.u8 ?_ | ((with_reducible first | refine Wr.ci ?wxs ?_ | refine Wr.c3 ?wxs ?_ | refine Wr.c6 ?wxs ?_ | refine BCase.dt ?wxs ?_); case wxs => (first | omega | (simp only [lens, true_and, and_true]; (try omega); done))) | ((with_reducible refine BCase.df ?wxs ?_); case wxs => (first | omega | (simp only [lens, true_and, and_true]; (try omega); done))) | ((with_reducible refine Need.mk ?wxs ?_); case wxs => first | (first | omega | (simp only [lens, true_and, and_true]; (try omega); done)) | decide | kernel_rfl) | refine BCase.t (by decide) ?_ | refine BCase.f (by decide) ?_ | refine CallP.pure _ rfl _ (c1) ?_ | refine CallP.pure _ rfl _ (c2) ?_ | with_reducible (first | refine EmpOr.app ?_ | refine BCase.not ?_ | refine BCase.and ?_ | refine BCase.or ?_ | refine BCase.d (fun _ => ?_) (fun _ => ?_))) <;> ((conv => whnf); repeat ((with_reducible first | refine BCase.tt ?_ | refine BCase.ff ?_); (conv => whnf)))))
    exact Ret.mk rfl
theorem p_ishot (s : Str) : Pure Try.prog 48 [stV s] (pBool (hotR s)) := by
  refine pure_of Try.func48 (by rfl) rfl (by kernel_rfl) (by rfl) ?_
  unfold hotR
  have pl := p_lastof s.2.1 s.2.2 all1 0 (by decide) (by decide)
  generalize lastOf (pageAt s.2.1 0) s.2.2 all1 0 = p at *
  obtain ⟨l, rfl⟩ : ∃ l, p = tx l := ⟨p.data.toList, (tx_list p).symm⟩
  have tz := tx_size l
  cases l with
  | nil =>
    (((conv => whnf); repeat ((with_reducible first | refine BCase.tt ?_ | refine BCase.ff ?_); (conv => whnf))); repeat' ((first | with_reducible refine Wr.u8 ?_ | ((with_reducible first | refine Wr.ci ?wxs ?_ | refine Wr.c3 ?wxs ?_ | refine Wr.c6 ?wxs ?_ | refine BCase.dt ?wxs ?_); case wxs => (first | omega | (simp only [lens, true_and, and_true]; (try omega); done))) | ((with_reducible refine BCase.df ?wxs ?_); case wxs => (first | omega | (simp only [lens, true_and, and_true]; (try omega); done))) | ((with_reducible refine Need.mk ?wxs ?_); case wxs => first | (first | omega | (simp only [lens, true_and, and_true]; (try omega); done)) | decide | kernel_rfl) | refine BCase.t (by decide) ?_ | refine BCase.f (by decide) ?_ | refine CallP.pure _ rfl _ (pl) ?_ | with_reducible (first | refine EmpOr.app ?_ | refine BCase.not ?_ | refine BCase.and ?_ | refine BCase.or ?_ | refine BCase.d (fun _ => ?_) (fun _ => ?_))) <;> ((conv => whnf); repeat ((with_reducible first | refine BCase.tt ?_ | refine BCase.ff ?_); (conv => whnf)))))
    exact Ret.mk rfl
  | cons b l =>
    rw [List.length_cons] at tz
    (((conv => whnf); repeat ((with_reducible first | refine BCase.tt ?_ | refine BCase.ff ?_); (conv => whnf))); repeat' ((first | with_reducible refine Wr.u8 ?_ | ((with_reducible first | refine Wr.ci ?wxs ?_ | refine Wr.c3 ?wxs ?_ | refine Wr.c6 ?wxs ?_ | refine BCase.dt ?wxs ?_); case wxs => (first | omega | (simp only [lens, true_and, and_true]; (try omega); done))) | ((with_reducible refine BCase.df ?wxs ?_); case wxs => (first | omega | (simp only [lens, true_and, and_true]; (try omega); done))) | ((with_reducible refine Need.mk ?wxs ?_); case wxs => first | (first | omega | (simp only [lens, true_and, and_true]; (try omega); done)) | decide | kernel_rfl) | refine BCase.t (by decide) ?_ | refine BCase.f (by decide) ?_ | refine CallP.pure _ rfl _ (pl) ?_ | (refine SIdx.mk b (by decide) rfl ?_) | with_reducible (first | refine EmpOr.app ?_ | refine BCase.not ?_ | refine BCase.and ?_ | refine BCase.or ?_ | refine BCase.d (fun _ => ?_) (fun _ => ?_))) <;> ((conv => whnf); repeat ((with_reducible first | refine BCase.tt ?_ | refine BCase.ff ?_); (conv => whnf)))))
    exact Ret.mk rfl
theorem isJ_pre (l : List UInt8) : hasPre l [74] = isJ (tx l) := by
  unfold hasPre isJ
  cases l with
  | nil => rfl
  | cons b l =>
    show decide ([b] = [74]) = decide ((b.toNat : Int) = 74)
    rw [decide_eq_decide]
    constructor
    · intro h; cases h; rfl
    · intro h
      have : b = 74 := UInt8.toNat_inj.1 (by show b.toNat = 74; omega)
      rw [this]
theorem p_hot (s : Str) : Pure Try.prog 46 [stV s] (pBool (hotP s)) := by
  refine pure_of Try.func46 (by rfl) rfl (by kernel_rfl) (by rfl) ?_
  unfold hotP
  have pl := p_dread s.2 0
  generalize readR s.2.1 s.2.2 0 = r at *
  obtain ⟨p, e⟩ := r
  obtain ⟨l, rfl⟩ : ∃ l, p = tx l := ⟨p.data.toList, (tx_list p).symm⟩
  have ph := (p_haspre l [74]).to rfl (by rw [isJ_pre])
  (((conv => whnf); repeat ((with_reducible first | refine BCase.tt ?_ | refine BCase.ff ?_); (conv => whnf))); repeat' ((first | with_reducible refine Wr.u8 ?_ | ((with_reducible first | refine Wr.ci ?wxs ?_ | refine Wr.c3 ?wxs ?_ | refine Wr.c6 ?wxs ?_ | refine BCase.dt ?wxs ?_); case wxs => (first | omega | (simp only [lens, true_and, and_true]; (try omega); done))) | ((with_reducible refine BCase.df ?wxs ?_); case wxs => (first | omega | (simp only [lens, true_and, and_true]; (try omega); done))) | ((with_reducible refine Need.mk ?wxs ?_); case wxs => first | (first | omega | (simp only [lens, true_and, and_true]; (try omega); done)) | decide | kernel_rfl) | refine BCase.t (by decide) ?_ | refine BCase.f (by decide) ?_ | refine CallP.pure _ rfl _ (pl) ?_ | refine CallP.pure _ rfl _ (ph) ?_ | with_reducible (first | refine EmpOr.app ?_ | refine BCase.not ?_ | refine BCase.and ?_ | refine BCase.or ?_ | refine BCase.d (fun _ => ?_) (fun _ => ?_))) <;> ((conv => whnf); repeat ((with_reducible first | refine BCase.tt ?_ | refine BCase.ff ?_); (conv => whnf)))))
  exact Ret.mk rfl
theorem p_waits (s : Str) (h1 : s.1.2.length ≤ 140737488355328) (h2 : s.2.2.length ≤ 140737488355328) : Pure Try.prog 45 [stV s] (pBool (waitsR s)) := by
  refine pure_of Try.func45 (by rfl) rfl (by kernel_rfl) (by rfl) ?_
  unfold waitsR
  (((conv => whnf); repeat ((with_reducible first | refine BCase.tt ?_ | refine BCase.ff ?_); (conv => whnf))); repeat' ((first | with_reducible refine Wr.u8 ?_ | ((with_reducible first | refine Wr.ci ?wxs ?_ | refine Wr.c3 ?wxs ?_ | refine Wr.c6 ?wxs ?_ | refine BCase.dt ?wxs ?_); case wxs => (first | omega | (simp only [lens, true_and, and_true]; (try omega); done))) | ((with_reducible refine BCase.df ?wxs ?_); case wxs => (first | omega | (simp only [lens, true_and, and_true]; (try omega); done))) | ((with_reducible refine Need.mk ?wxs ?_); case wxs => first | (first | omega | (simp only [lens, true_and, and_true]; (try omega); done)) | decide | kernel_rfl) | refine BCase.t (by decide) ?_ | refine BCase.f (by decide) ?_ | with_reducible (first | refine EmpOr.app ?_ | refine BCase.not ?_ | refine BCase.and ?_ | refine BCase.or ?_ | refine BCase.d (fun _ => ?_) (fun _ => ?_))) <;> ((conv => whnf); repeat ((with_reducible first | refine BCase.tt ?_ | refine BCase.ff ?_); (conv => whnf)))))
  refine Ret.bool ?_
  rw [decide_eq_decide, List.length_map, List.length_map]; omega
end Go.Proofs.Ytohlkegmmbdlaaa.Pm
end

section
namespace Go.Proofs.Ytohlkegmmbdlaaa.Pm
open Go.RowKit K DiskP
set_option linter.unusedVariables false
set_option linter.unusedSimpArgs false
set_option maxRecDepth 100000

def badWr (p : List ByteArray) : List DiskP.Wr → List DiskP.Wr → Int
  | _, [] => 0
  | seen, w :: r => if inPlace w.1 = false then 3 else if 256 < w.2.size then 2 else if seen.any (fun x => x.1 == w.1) = true then 6 else if 256 < (pageAt p w.1).size then 2 else badWr p (seen ++ [w]) r
theorem badWr_cons (p : List ByteArray) (seen : List DiskP.Wr) (w : DiskP.Wr) (r : List DiskP.Wr) : badWr p seen (w :: r) = if inPlace w.1 = false then 3 else if 256 < w.2.size then 2 else if seen.any (fun x => x.1 == w.1) = true then 6 else if 256 < (pageAt p w.1).size then 2 else badWr p (seen ++ [w]) r := rfl
def stepsE (s : Str) (l : List DiskP.Wr) : Int := if storeChk s ≠ 0 then storeChk s else if waitsR s = true ∨ hotP s = true then 4 else if 31 < l.length then 2 else badWr s.1.1 [] l
theorem storeChk_ok {s : Str} (h : storeChk s = 0) : check s.1.1 s.1.2 = 0 ∧ check s.2.1 s.2.2 = 0 := by
  unfold storeChk at h
  split at h
  · rename_i q; exact absurd h q
  · rename_i q; exact ⟨by simpa using q, h⟩
theorem hot_eq {s : Str} (h : storeChk s = 0) : hotP s = hotR s := by
  obtain ⟨h1, h2⟩ := storeChk_ok h
  unfold hotP hotR
  have h48 := (check_ok _ _ h2).2.2.2.1
  rw [readR_ok h2, if_neg (by decide), lastOf_kept, allOn _ (by omega)]
theorem read_bare {p : List ByteArray} (h : check p [] = 0) {n : Int} (hn : inPlace n = true) : readR p [] n = (pageAt p n, 0) := by
  rw [readR_ok h, if_neg (by rw [hn]; decide)]; rfl
/-- which pages have been named -/
def seenRows (seen : List DiskP.Wr) : List (List C) := (List.range 32).map fun n : Nat => [C.v (.bool (seen.any fun x => x.1 == (n : Int)))]
theorem seenRows_at (seen : List DiskP.Wr) {n : Int} (h0 : 0 ≤ n) (h1 : n < 32) : (seenRows seen)[n.toNat]? = some [C.v (.bool (seen.any fun x => x.1 == n))] := by
  unfold seenRows
  rw [List.getElem?_map, List.getElem?_range (by omega), Option.map_some, Int.toNat_of_nonneg h0]
theorem seenRows_set (seen : List DiskP.Wr) (w : DiskP.Wr) (h0 : 0 ≤ w.1) (h1 : w.1 < 32) : (seenRows seen).set w.1.toNat [C.v (.bool true)] = seenRows (seen ++ [w]) := by
  apply List.ext_getElem?
  intro i
  unfold seenRows
  rw [List.getElem?_set]
  by_cases hi : i < 32
  · rw [List.getElem?_map, List.getElem?_range hi, List.getElem?_map, List.getElem?_range hi]
    by_cases e : w.1.toNat = i
    · rw [if_pos e, if_pos (by simp; omega), Option.map_some]
      have : (w.1 == (i : Int)) = true := by rw [beq_iff_eq]; omega
      rw [List.any_append]; simp [this]
    · rw [if_neg e, Option.map_some, Option.map_some]
      have : (w.1 == (i : Int)) = false := by rw [beq_eq_false_iff_ne]; omega
      rw [List.any_append]; simp [this]
  · have e1 : ((List.range 32).map fun n : Nat => [C.v (.bool (seen.any fun x => x.1 == (n : Int)))])[i]? = none := List.getElem?_eq_none (by simp; omega)
    have e2 : ((List.range 32).map fun n : Nat => [C.v (.bool ((seen ++ [w]).any fun x => x.1 == (n : Int)))])[i]? = none := List.getElem?_eq_none (by simp; omega)
    rw [e1, e2, if_neg (by omega)]
theorem p_dplace (n : Int) : Pure Try.prog 52 [pInt .i64 n] (pBool (inPlace n)) := by
  refine pure_of Try.func52 (by rfl) rfl (by kernel_rfl) (by rfl) ?_
  unfold inPlace
  by_cases h0 : 0 ≤ n
  · (((conv => whnf); repeat ((with_reducible first | refine BCase.tt ?_ | refine BCase.ff ?_); (conv => whnf))); repeat' ((first | with_reducible refine Wr.u8 ?_ | ((with_reducible first | refine Wr.ci ?wxs ?_ | refine Wr.c3 ?wxs ?_ | refine Wr.c6 ?wxs ?_ | refine BCase.dt ?wxs ?_); case wxs => (first | omega | (simp only [lens, true_and, and_true]; (try omega); done))) | ((with_reducible refine BCase.df ?wxs ?_); case wxs => (first | omega | (simp only [lens, true_and, and_true]; (try omega); done))) | ((with_reducible refine Need.mk ?wxs ?_); case wxs => first | (first | omega | (simp only [lens, true_and, and_true]; (try omega); done)) | decide | kernel_rfl) | refine BCase.t (by decide) ?_ | refine BCase.f (by decide) ?_ | with_reducible (first | refine EmpOr.app ?_ | refine BCase.not ?_ | refine BCase.and ?_ | refine BCase.or ?_ | refine BCase.d (fun _ => ?_) (fun _ => ?_))) <;> ((conv => whnf); repeat ((with_reducible first | refine BCase.tt ?_ | refine BCase.ff ?_); (conv => whnf)))))
    refine Ret.bool ?_
    rw [decide_eq_true h0, Bool.true_and]
  · (((conv => whnf); repeat ((with_reducible first | refine BCase.tt ?_ | refine BCase.ff ?_); (conv => whnf))); repeat' ((first | with_reducible refine Wr.u8 ?_ | ((with_reducible first | refine Wr.ci ?wxs ?_ | refine Wr.c3 ?wxs ?_ | refine Wr.c6 ?wxs ?_ | refine BCase.dt ?wxs ?_); case wxs => (first | omega | (simp only [lens, true_and, and_true]; (try omega); done))) | ((with_reducible refine BCase.df ?wxs ?_); case wxs => (first | omega | (simp only [lens, true_and, and_true]; (try omega); done))) | ((with_reducible refine Need.mk ?wxs ?_); case wxs => first | (first | omega | (simp only [lens, true_and, and_true]; (try omega); done)) | decide | kernel_rfl) | refine BCase.t (by decide) ?_ | refine BCase.f (by decide) ?_ | with_reducible (first | refine EmpOr.app ?_ | refine BCase.not ?_ | refine BCase.and ?_ | refine BCase.or ?_ | refine BCase.d (fun _ => ?_) (fun _ => ?_))) <;> ((conv => whnf); repeat ((with_reducible first | refine BCase.tt ?_ | refine BCase.ff ?_); (conv => whnf)))))
    refine Ret.bool ?_
    rw [decide_eq_false h0, Bool.false_and]
abbrev storeBox (s : Str) : HB := .box 27 [.c (pgsC s.1.1), .c (wrsC s.1.2), .c (pgsC s.2.1), .c (wrsC s.2.2)]
theorem p_ready (s : Str) (l : List DiskP.Wr) (h1 : s.1.2.length ≤ 140737488355328) (h2 : s.2.2.length ≤ 140737488355328) (hl : l.length ≤ 140737488355328) (hi : ∀ w ∈ l, okInt w.1) : Pure Try.prog 28 [stV s, .d (.c (wrsC l))] (pInt .i64 (stepsE s l)) := by
  have pc := p_scheck s
  have pw := p_waits s h1 h2
  have ph := p_hot s
  refine pure_of Try.func28 (by rfl) rfl (by kernel_rfl) (by rfl) ?_
  unfold stepsE
  by_cases h : storeChk s = 0
  · rw [if_neg (not_not_intro h)]
    rw [h] at pc
    by_cases hw : waitsR s = true ∨ hotP s = true
    · rw [if_pos hw]
      cases hb : waitsR s with
      | true =>
        rw [hb] at pw
        (((conv => whnf); repeat ((with_reducible first | refine BCase.tt ?_ | refine BCase.ff ?_); (conv => whnf))); repeat' ((first | with_reducible refine Wr.u8 ?_ | ((with_reducible first | refine Wr.ci ?wxs ?_ | refine Wr.c3 ?wxs ?_ | refine Wr.c6 ?wxs ?_ | refine BCase.dt ?wxs ?_); case wxs => (first | omega | (simp only [lens, true_and, and_true]; (try omega); done))) | ((with_reducible refine BCase.df ?wxs ?_); case wxs => (first | omega | (simp only [lens, true_and, and_true]; (try omega); done))) | ((with_reducible refine Need.mk ?wxs ?_); case wxs => first | (first | omega | (simp only [lens, true_and, and_true]; (try omega); done)) | decide | kernel_rfl) | refine BCase.t (by decide) ?_ | refine BCase.f (by decide) ?_ | refine CallP.pure _ rfl _ (pc) ?_ | refine CallP.pure _ rfl _ (pw) ?_ | refine CallP.pure _ rfl _ (ph) ?_ | with_reducible (first | refine EmpOr.app ?_ | refine BCase.not ?_ | refine BCase.and ?_ | refine BCase.or ?_ | refine BCase.d (fun _ => ?_) (fun _ => ?_))) <;> ((conv => whnf); repeat ((with_reducible first | refine BCase.tt ?_ | refine BCase.ff ?_); (conv => whnf)))))
        exact Ret.mk rfl
      | false =>
        have hb2 : hotP s = true := by rcases hw with e | e; rw [hb] at e; cases e; exact e
        rw [hb] at pw
        rw [hb2] at ph
        (((conv => whnf); repeat ((with_reducible first | refine BCase.tt ?_ | refine BCase.ff ?_); (conv => whnf))); repeat' ((first | with_reducible refine Wr.u8 ?_ | ((with_reducible first | refine Wr.ci ?wxs ?_ | refine Wr.c3 ?wxs ?_ | refine Wr.c6 ?wxs ?_ | refine BCase.dt ?wxs ?_); case wxs => (first | omega | (simp only [lens, true_and, and_true]; (try omega); done))) | ((with_reducible refine BCase.df ?wxs ?_); case wxs => (first | omega | (simp only [lens, true_and, and_true]; (try omega); done))) | ((with_reducible refine Need.mk ?wxs ?_); case wxs => first | (first | omega | (simp only [lens, true_and, and_true]; (try omega); done)) | decide | kernel_rfl) | refine BCase.t (by decide) ?_ | refine BCase.f (by decide) ?_ | refine CallP.pure _ rfl _ (pc) ?_ | refine CallP.pure _ rfl _ (pw) ?_ | refine CallP.pure _ rfl _ (ph) ?_ | with_reducible (first | refine EmpOr.app ?_ | refine BCase.not ?_ | refine BCase.and ?_ | refine BCase.or ?_ | refine BCase.d (fun _ => ?_) (fun _ => ?_))) <;> ((conv => whnf); repeat ((with_reducible first | refine BCase.tt ?_ | refine BCase.ff ?_); (conv => whnf)))))
        exact Ret.mk rfl
    · rw [if_neg hw]
      have hw1 : waitsR s = false := by cases e : waitsR s <;> simp_all
      have hw2 : hotP s = false := by cases e : hotP s <;> simp_all
      rw [hw1] at pw
      rw [hw2] at ph
      by_cases h31 : 31 < l.length
      · rw [if_pos h31]
        (((conv => whnf); repeat ((with_reducible first | refine BCase.tt ?_ | refine BCase.ff ?_); (conv => whnf))); repeat' ((first | with_reducible refine Wr.u8 ?_ | ((with_reducible first | refine Wr.ci ?wxs ?_ | refine Wr.c3 ?wxs ?_ | refine Wr.c6 ?wxs ?_ | refine BCase.dt ?wxs ?_); case wxs => (first | omega | (simp only [lens, true_and, and_true]; (try omega); done))) | ((with_reducible refine BCase.df ?wxs ?_); case wxs => (first | omega | (simp only [lens, true_and, and_true]; (try omega); done))) | ((with_reducible refine Need.mk ?wxs ?_); case wxs => first | (first | omega | (simp only [lens, true_and, and_true]; (try omega); done)) | decide | kernel_rfl) | refine BCase.t (by decide) ?_ | refine BCase.f (by decide) ?_ | refine CallP.pure _ rfl _ (pc) ?_ | refine CallP.pure _ rfl _ (pw) ?_ | refine CallP.pure _ rfl _ (ph) ?_ | with_reducible (first | refine EmpOr.app ?_ | refine BCase.not ?_ | refine BCase.and ?_ | refine BCase.or ?_ | refine BCase.d (fun _ => ?_) (fun _ => ?_))) <;> ((conv => whnf); repeat ((with_reducible first | refine BCase.tt ?_ | refine BCase.ff ?_); (conv => whnf)))))
        exact Ret.mk rfl
      · rw [if_neg h31]
        have hq : s.1.2 = [] := by
          unfold waitsR at hw1
          rw [decide_eq_false_iff_not] at hw1
          exact List.eq_nil_of_length_eq_zero (by omega)
        have hck := (storeChk_ok h).1
        rw [hq] at hck
        (((conv => whnf); repeat ((with_reducible first | refine BCase.tt ?_ | refine BCase.ff ?_); (conv => whnf))); repeat' ((first | with_reducible refine Wr.u8 ?_ | ((with_reducible first | refine Wr.ci ?wxs ?_ | refine Wr.c3 ?wxs ?_ | refine Wr.c6 ?wxs ?_ | refine BCase.dt ?wxs ?_); case wxs => (first | omega | (simp only [lens, true_and, and_true]; (try omega); done))) | ((with_reducible refine BCase.df ?wxs ?_); case wxs => (first | omega | (simp only [lens, true_and, and_true]; (try omega); done))) | ((with_reducible refine Need.mk ?wxs ?_); case wxs => first | (first | omega | (simp only [lens, true_and, and_true]; (try omega); done)) | decide | kernel_rfl) | refine BCase.t (by decide) ?_ | refine BCase.f (by decide) ?_ | refine CallP.pure _ rfl _ (pc) ?_ | refine CallP.pure _ rfl _ (pw) ?_ | refine CallP.pure _ rfl _ (ph) ?_ | with_reducible (first | refine EmpOr.app ?_ | refine BCase.not ?_ | refine BCase.and ?_ | refine BCase.or ?_ | refine BCase.d (fun _ => ?_) (fun _ => ?_))) <;> ((conv => whnf); repeat ((with_reducible first | refine BCase.tt ?_ | refine BCase.ff ?_); (conv => whnf)))))
        refine LoopC.mk Nat (fun j => [(2, .d (.ptr 2 0)), (6, .d (.ptr 6 0)), (26, .d (.c (wrsC l))), (27, pInt .i64 l.length), (28, pInt .i64 j)]) (fun j => [(2, storeBox s), (6, .arr 84 1 (seenRows (l.take j)))]) [2, 6] (fun j => j ≤ l.length ∧ badWr s.1.1 [] l = badWr s.1.1 (l.take j) (l.drop j)) (fun j => l.length - j) 0 ⟨Nat.zero_le _, rfl⟩ ?start ?round
        case start => exact ⟨[(2, 2), (6, 6)], rfl, rfl, ⟨⟨rfl, rfl, rfl⟩, ⟨rfl, rfl, rfl⟩, .inl rfl, PLe.int (by simp), .inl rfl, trivial⟩, ⟨rfl, rfl, .inl rfl, .inl rfl, .inl rfl, .inl rfl, rfl⟩, ⟨rfl, rfl, rfl, rfl⟩, trivial⟩
        case round =>
          rintro j ⟨hj, hz⟩
          by_cases q : j < l.length
          · have hm := List.getElem_mem q
            have hio := hi _ hm
            rw [List.drop_eq_getElem_cons q, badWr_cons] at hz
            have pr := p_dread s.1 l[j].1
            have tw : l[j] = (l[j].1, l[j].2) := rfl
            by_cases hp : 0 ≤ l[j].1 ∧ l[j].1 < 32
            · obtain ⟨hp0, hp1⟩ := hp
              rw [if_neg (by rw [inPlace_t ⟨hp0, hp1⟩]; decide)] at hz
              rw [hq, read_bare hck (inPlace_t ⟨hp0, hp1⟩)] at pr
              by_cases ht : 256 < l[j].2.size
              · rw [if_pos ht] at hz
                (((conv => whnf); repeat ((with_reducible first | refine BCase.tt ?_ | refine BCase.ff ?_); (conv => whnf))); repeat' ((first | with_reducible refine Wr.u8 ?_ | ((with_reducible first | refine Wr.ci ?wxs ?_ | refine Wr.c3 ?wxs ?_ | refine Wr.c6 ?wxs ?_ | refine BCase.dt ?wxs ?_); case wxs => (first | omega | (simp only [lens, true_and, and_true]; (try omega); done))) | ((with_reducible refine BCase.df ?wxs ?_); case wxs => (first | omega | (simp only [lens, true_and, and_true]; (try omega); done))) | ((with_reducible refine Need.mk ?wxs ?_); case wxs => first | (first | omega | (simp only [lens, true_and, and_true]; (try omega); done)) | decide | kernel_rfl) | refine BCase.t (by decide) ?_ | refine BCase.f (by decide) ?_ | (refine Idx.mapI j rfl q ?_) | refine CallP.pure _ rfl _ (pr) ?_ | with_reducible (first | refine EmpOr.app ?_ | refine BCase.not ?_ | refine BCase.and ?_ | refine BCase.or ?_ | refine BCase.d (fun _ => ?_) (fun _ => ?_))) <;> ((conv => whnf); repeat ((with_reducible first | refine BCase.tt ?_ | refine BCase.ff ?_); (conv => whnf)))))
                exact Ret.int hz.symm
              · rw [if_neg ht] at hz
                have hrow := seenRows_at (l.take j) hp0 hp1
                have hset := seenRows_set (l.take j) l[j] hp0 hp1
                cases hs : (l.take j).any (fun x => x.1 == l[j].1) with
                | true =>
                  rw [if_pos hs] at hz
                  rw [hs] at hrow
                  (((conv => whnf); repeat ((with_reducible first | refine BCase.tt ?_ | refine BCase.ff ?_); (conv => whnf))); repeat' ((first | with_reducible refine Wr.u8 ?_ | ((with_reducible first | refine Wr.ci ?wxs ?_ | refine Wr.c3 ?wxs ?_ | refine Wr.c6 ?wxs ?_ | refine BCase.dt ?wxs ?_); case wxs => (first | omega | (simp only [lens, true_and, and_true]; (try omega); done))) | ((with_reducible refine BCase.df ?wxs ?_); case wxs => (first | omega | (simp only [lens, true_and, and_true]; (try omega); done))) | ((with_reducible refine Need.mk ?wxs ?_); case wxs => first | (first | omega | (simp only [lens, true_and, and_true]; (try omega); done)) | decide | kernel_rfl) | refine BCase.t (by decide) ?_ | refine BCase.f (by decide) ?_ | (refine Idx.mapI j rfl q ?_) | refine CallP.pure _ rfl _ (pr) ?_ | (refine Row.mk _ hrow ?_) | with_reducible (first | refine EmpOr.app ?_ | refine BCase.not ?_ | refine BCase.and ?_ | refine BCase.or ?_ | refine BCase.d (fun _ => ?_) (fun _ => ?_))) <;> ((conv => whnf); repeat ((with_reducible first | refine BCase.tt ?_ | refine BCase.ff ?_); (conv => whnf)))))
                  exact Ret.int hz.symm
                | false =>
                  rw [if_neg (by rw [hs]; decide)] at hz
                  rw [hs] at hrow
                  by_cases ho : 256 < (pageAt s.1.1 l[j].1).size
                  · rw [if_pos ho] at hz
                    (((conv => whnf); repeat ((with_reducible first | refine BCase.tt ?_ | refine BCase.ff ?_); (conv => whnf))); repeat' ((first | with_reducible refine Wr.u8 ?_ | ((with_reducible first | refine Wr.ci ?wxs ?_ | refine Wr.c3 ?wxs ?_ | refine Wr.c6 ?wxs ?_ | refine BCase.dt ?wxs ?_); case wxs => (first | omega | (simp only [lens, true_and, and_true]; (try omega); done))) | ((with_reducible refine BCase.df ?wxs ?_); case wxs => (first | omega | (simp only [lens, true_and, and_true]; (try omega); done))) | ((with_reducible refine Need.mk ?wxs ?_); case wxs => first | (first | omega | (simp only [lens, true_and, and_true]; (try omega); done)) | decide | kernel_rfl) | refine BCase.t (by decide) ?_ | refine BCase.f (by decide) ?_ | (refine Idx.mapI j rfl q ?_) | refine CallP.pure _ rfl _ (pr) ?_ | (refine Row.mk _ hrow ?_) | with_reducible (first | refine EmpOr.app ?_ | refine BCase.not ?_ | refine BCase.and ?_ | refine BCase.or ?_ | refine BCase.d (fun _ => ?_) (fun _ => ?_))) <;> ((conv => whnf); repeat ((with_reducible first | refine BCase.tt ?_ | refine BCase.ff ?_); (conv => whnf)))))
                    exact Ret.int hz.symm
                  · rw [if_neg ho] at hz
                    (((conv => whnf); repeat ((with_reducible first | refine BCase.tt ?_ | refine BCase.ff ?_); (conv => whnf))); repeat' ((first | with_reducible refine Wr.u8 ?_ | ((with_reducible first | refine Wr.ci ?wxs ?_ | refine Wr.c3 ?wxs ?_ | refine Wr.c6 ?wxs ?_ | refine BCase.dt ?wxs ?_); case wxs => (first | omega | (simp only [lens, true_and, and_true]; (try omega); done))) | ((with_reducible refine BCase.df ?wxs ?_); case wxs => (first | omega | (simp only [lens, true_and, and_true]; (try omega); done))) | ((with_reducible refine Need.mk ?wxs ?_); case wxs => first | (first | omega | (simp only [lens, true_and, and_true]; (try omega); done)) | decide | kernel_rfl) | refine BCase.t (by decide) ?_ | refine BCase.f (by decide) ?_ | (refine Idx.mapI j rfl q ?_) | refine CallP.pure _ rfl _ (pr) ?_ | (refine Row.mk _ hrow ?_) | with_reducible (first | refine EmpOr.app ?_ | refine BCase.not ?_ | refine BCase.and ?_ | refine BCase.or ?_ | refine BCase.d (fun _ => ?_) (fun _ => ?_))) <;> ((conv => whnf); repeat ((with_reducible first | refine BCase.tt ?_ | refine BCase.ff ?_); (conv => whnf)))))
                    refine ⟨j + 1, ⟨by omega, ?_⟩, by omega, [(2, 2), (6, 6)], rfl, rfl, ⟨⟨rfl, rfl, rfl⟩, ⟨rfl, rfl, rfl⟩, .inl rfl, .inl rfl, PLe.int (by omega), trivial⟩, ⟨rfl, rfl, .inl rfl, .inl rfl, .inl rfl, .inl rfl, rfl⟩, ⟨rfl, rfl, rfl, ?_⟩, trivial⟩
                    · rw [hz, take_snoc q]
                    · rw [take_snoc q]
                      exact hset
            · rw [if_pos (inPlace_f hp)] at hz
              by_cases hp0 : l[j].1 < 0
              · (((conv => whnf); repeat ((with_reducible first | refine BCase.tt ?_ | refine BCase.ff ?_); (conv => whnf))); repeat' ((first | with_reducible refine Wr.u8 ?_ | ((with_reducible first | refine Wr.ci ?wxs ?_ | refine Wr.c3 ?wxs ?_ | refine Wr.c6 ?wxs ?_ | refine BCase.dt ?wxs ?_); case wxs => (first | omega | (simp only [lens, true_and, and_true]; (try omega); done))) | ((with_reducible refine BCase.df ?wxs ?_); case wxs => (first | omega | (simp only [lens, true_and, and_true]; (try omega); done))) | ((with_reducible refine Need.mk ?wxs ?_); case wxs => first | (first | omega | (simp only [lens, true_and, and_true]; (try omega); done)) | decide | kernel_rfl) | refine BCase.t (by decide) ?_ | refine BCase.f (by decide) ?_ | (refine Idx.mapI j rfl q ?_) | refine CallP.pure _ rfl _ (pr) ?_ | with_reducible (first | refine EmpOr.app ?_ | refine BCase.not ?_ | refine BCase.and ?_ | refine BCase.or ?_ | refine BCase.d (fun _ => ?_) (fun _ => ?_))) <;> ((conv => whnf); repeat ((with_reducible first | refine BCase.tt ?_ | refine BCase.ff ?_); (conv => whnf)))))
                exact Ret.int hz.symm
              · (((conv => whnf); repeat ((with_reducible first | refine BCase.tt ?_ | refine BCase.ff ?_); (conv => whnf))); repeat' ((first | with_reducible refine Wr.u8 ?_ | ((with_reducible first | refine Wr.ci ?wxs ?_ | refine Wr.c3 ?wxs ?_ | refine Wr.c6 ?wxs ?_ | refine BCase.dt ?wxs ?_); case wxs => (first | omega | (simp only [lens, true_and, and_true]; (try omega); done))) | ((with_reducible refine BCase.df ?wxs ?_); case wxs => (first | omega | (simp only [lens, true_and, and_true]; (try omega); done))) | ((with_reducible refine Need.mk ?wxs ?_); case wxs => first | (first | omega | (simp only [lens, true_and, and_true]; (try omega); done)) | decide | kernel_rfl) | refine BCase.t (by decide) ?_ | refine BCase.f (by decide) ?_ | (refine Idx.mapI j rfl q ?_) | refine CallP.pure _ rfl _ (pr) ?_ | with_reducible (first | refine EmpOr.app ?_ | refine BCase.not ?_ | refine BCase.and ?_ | refine BCase.or ?_ | refine BCase.d (fun _ => ?_) (fun _ => ?_))) <;> ((conv => whnf); repeat ((with_reducible first | refine BCase.tt ?_ | refine BCase.ff ?_); (conv => whnf)))))
                exact Ret.int hz.symm
          · rw [List.drop_of_length_le (by omega)] at hz
            (((conv => whnf); repeat ((with_reducible first | refine BCase.tt ?_ | refine BCase.ff ?_); (conv => whnf))); repeat' ((first | with_reducible refine Wr.u8 ?_ | ((with_reducible first | refine Wr.ci ?wxs ?_ | refine Wr.c3 ?wxs ?_ | refine Wr.c6 ?wxs ?_ | refine BCase.dt ?wxs ?_); case wxs => (first | omega | (simp only [lens, true_and, and_true]; (try omega); done))) | ((with_reducible refine BCase.df ?wxs ?_); case wxs => (first | omega | (simp only [lens, true_and, and_true]; (try omega); done))) | ((with_reducible refine Need.mk ?wxs ?_); case wxs => first | (first | omega | (simp only [lens, true_and, and_true]; (try omega); done)) | decide | kernel_rfl) | refine BCase.t (by decide) ?_ | refine BCase.f (by decide) ?_ | with_reducible (first | refine EmpOr.app ?_ | refine BCase.not ?_ | refine BCase.and ?_ | refine BCase.or ?_ | refine BCase.d (fun _ => ?_) (fun _ => ?_))) <;> ((conv => whnf); repeat ((with_reducible first | refine BCase.tt ?_ | refine BCase.ff ?_); (conv => whnf)))))
            exact Ret.int hz.symm
  · rw [if_pos h]
    (((conv => whnf); repeat ((with_reducible first | refine BCase.tt ?_ | refine BCase.ff ?_); (conv => whnf))); repeat' ((first | with_reducible refine Wr.u8 ?_ | ((with_reducible first | refine Wr.ci ?wxs ?_ | refine Wr.c3 ?wxs ?_ | refine Wr.c6 ?wxs ?_ | refine BCase.dt ?wxs ?_); case wxs => (first | omega | (simp only [lens, true_and, and_true]; (try omega); done))) | ((with_reducible refine BCase.df ?wxs ?_); case wxs => (first | omega | (simp only [lens, true_and, and_true]; (try omega); done))) | ((with_reducible refine Need.mk ?wxs ?_); case wxs => first | (first | omega | (simp only [lens, true_and, and_true]; (try omega); done)) | decide | kernel_rfl) | refine BCase.t (by decide) ?_ | refine BCase.f (by decide) ?_ | refine CallP.pure _ rfl _ (pc) ?_ | with_reducible (first | refine EmpOr.app ?_ | refine BCase.not ?_ | refine BCase.and ?_ | refine BCase.or ?_ | refine BCase.d (fun _ => ?_) (fun _ => ?_))) <;> ((conv => whnf); repeat ((with_reducible first | refine BCase.tt ?_ | refine BCase.ff ?_); (conv => whnf)))))
    exact Ret.mk rfl
end Go.Proofs.Ytohlkegmmbdlaaa.Pm
end

section
namespace Go.Proofs.Ytohlkegmmbdlaaa.Pm
open Go.RowKit K DiskP
set_option linter.unusedVariables false
set_option linter.unusedSimpArgs false
set_option maxRecDepth 100000

theorem any_false {l : List DiskP.Wr} {j : Nat} {n : Int} : (l.take j).any (fun x => x.1 == n) = false ↔ ∀ i (h : i < l.length), i < j → l[i].1 ≠ n := by
  rw [List.any_eq_false]
  constructor
  · intro h i hi hij e
    refine h l[i] (List.mem_take_iff_getElem.2 ⟨i, by omega, rfl⟩) ?_
    simp [e]
  · intro h x hx e
    obtain ⟨i, hi, rfl⟩ := List.mem_take_iff_getElem.1 hx
    exact h i (by omega) (by omega) (by simpa using e)
theorem p_stepscheck (s : Str) (l : List DiskP.Wr) (h1 : s.1.2.length ≤ 140737488355328) (h2 : s.2.2.length ≤ 140737488355328) (hl : l.length ≤ 140737488355328) (hi : ∀ w ∈ l, okInt w.1) : Pure Try.prog 26 [stV s, .d (.c (wrsC l))] (pInt .i64 (stepsE s l)) := by
  have pc := p_scheckref s
  have ph := p_ishot s
  refine pure_of Try.func26 (by rfl) rfl (by kernel_rfl) (by rfl) ?_
  unfold stepsE
  by_cases h : storeChk s = 0
  · rw [if_neg (not_not_intro h), hot_eq h]
    rw [h] at pc
    by_cases hw : waitsR s = true ∨ hotR s = true
    · rw [if_pos hw]
      by_cases w1 : 0 < s.1.2.length
      · (((conv => whnf); repeat ((with_reducible first | refine BCase.tt ?_ | refine BCase.ff ?_); (conv => whnf))); repeat' ((first | with_reducible refine Wr.u8 ?_ | ((with_reducible first | refine Wr.ci ?wxs ?_ | refine Wr.c3 ?wxs ?_ | refine Wr.c6 ?wxs ?_ | refine BCase.dt ?wxs ?_); case wxs => (first | omega | (simp only [lens, true_and, and_true]; (try omega); done))) | ((with_reducible refine BCase.df ?wxs ?_); case wxs => (first | omega | (simp only [lens, true_and, and_true]; (try omega); done))) | ((with_reducible refine Need.mk ?wxs ?_); case wxs => first | (first | omega | (simp only [lens, true_and, and_true]; (try omega); done)) | decide | kernel_rfl) | refine BCase.t (by decide) ?_ | refine BCase.f (by decide) ?_ | refine CallP.pure _ rfl _ (pc) ?_ | with_reducible (first | refine EmpOr.app ?_ | refine BCase.not ?_ | refine BCase.and ?_ | refine BCase.or ?_ | refine BCase.d (fun _ => ?_) (fun _ => ?_))) <;> ((conv => whnf); repeat ((with_reducible first | refine BCase.tt ?_ | refine BCase.ff ?_); (conv => whnf)))))
        exact Ret.mk rfl
      · by_cases w2 : 0 < s.2.2.length
        · (((conv => whnf); repeat ((with_reducible first | refine BCase.tt ?_ | refine BCase.ff ?_); (conv => whnf))); repeat' ((first | with_reducible refine Wr.u8 ?_ | ((with_reducible first | refine Wr.ci ?wxs ?_ | refine Wr.c3 ?wxs ?_ | refine Wr.c6 ?wxs ?_ | refine BCase.dt ?wxs ?_); case wxs => (first | omega | (simp only [lens, true_and, and_true]; (try omega); done))) | ((with_reducible refine BCase.df ?wxs ?_); case wxs => (first | omega | (simp only [lens, true_and, and_true]; (try omega); done))) | ((with_reducible refine Need.mk ?wxs ?_); case wxs => first | (first | omega | (simp only [lens, true_and, and_true]; (try omega); done)) | decide | kernel_rfl) | refine BCase.t (by decide) ?_ | refine BCase.f (by decide) ?_ | refine CallP.pure _ rfl _ (pc) ?_ | with_reducible (first | refine EmpOr.app ?_ | refine BCase.not ?_ | refine BCase.and ?_ | refine BCase.or ?_ | refine BCase.d (fun _ => ?_) (fun _ => ?_))) <;> ((conv => whnf); repeat ((with_reducible first | refine BCase.tt ?_ | refine BCase.ff ?_); (conv => whnf)))))
          exact Ret.mk rfl
        · have hb : waitsR s = false := by unfold waitsR; exact decide_eq_false (by omega)
          have hb2 : hotR s = true := by rcases hw with e | e; rw [hb] at e; cases e; exact e
          rw [hb2] at ph
          (((conv => whnf); repeat ((with_reducible first | refine BCase.tt ?_ | refine BCase.ff ?_); (conv => whnf))); repeat' ((first | with_reducible refine Wr.u8 ?_ | ((with_reducible first | refine Wr.ci ?wxs ?_ | refine Wr.c3 ?wxs ?_ | refine Wr.c6 ?wxs ?_ | refine BCase.dt ?wxs ?_); case wxs => (first | omega | (simp only [lens, true_and, and_true]; (try omega); done))) | ((with_reducible refine BCase.df ?wxs ?_); case wxs => (first | omega | (simp only [lens, true_and, and_true]; (try omega); done))) | ((with_reducible refine Need.mk ?wxs ?_); case wxs => first | (first | omega | (simp only [lens, true_and, and_true]; (try omega); done)) | decide | kernel_rfl) | refine BCase.t (by decide) ?_ | refine BCase.f (by decide) ?_ | refine CallP.pure _ rfl _ (pc) ?_ | refine CallP.pure _ rfl _ (ph) ?_ | with_reducible (first | refine EmpOr.app ?_ | refine BCase.not ?_ | refine BCase.and ?_ | refine BCase.or ?_ | refine BCase.d (fun _ => ?_) (fun _ => ?_))) <;> ((conv => whnf); repeat ((with_reducible first | refine BCase.tt ?_ | refine BCase.ff ?_); (conv => whnf)))))
          exact Ret.mk rfl
    · rw [if_neg hw]
      have hw1 : waitsR s = false := by cases e : waitsR s <;> simp_all
      have hw2 : hotR s = false := by cases e : hotR s <;> simp_all
      have hw3 : ¬ 0 < s.1.2.length + s.2.2.length := by unfold waitsR at hw1; exact of_decide_eq_false hw1
      rw [hw2] at ph
      by_cases h31 : 31 < l.length
      · rw [if_pos h31]
        (((conv => whnf); repeat ((with_reducible first | refine BCase.tt ?_ | refine BCase.ff ?_); (conv => whnf))); repeat' ((first | with_reducible refine Wr.u8 ?_ | ((with_reducible first | refine Wr.ci ?wxs ?_ | refine Wr.c3 ?wxs ?_ | refine Wr.c6 ?wxs ?_ | refine BCase.dt ?wxs ?_); case wxs => (first | omega | (simp only [lens, true_and, and_true]; (try omega); done))) | ((with_reducible refine BCase.df ?wxs ?_); case wxs => (first | omega | (simp only [lens, true_and, and_true]; (try omega); done))) | ((with_reducible refine Need.mk ?wxs ?_); case wxs => first | (first | omega | (simp only [lens, true_and, and_true]; (try omega); done)) | decide | kernel_rfl) | refine BCase.t (by decide) ?_ | refine BCase.f (by decide) ?_ | refine CallP.pure _ rfl _ (pc) ?_ | refine CallP.pure _ rfl _ (ph) ?_ | with_reducible (first | refine EmpOr.app ?_ | refine BCase.not ?_ | refine BCase.and ?_ | refine BCase.or ?_ | refine BCase.d (fun _ => ?_) (fun _ => ?_))) <;> ((conv => whnf); repeat ((with_reducible first | refine BCase.tt ?_ | refine BCase.ff ?_); (conv => whnf)))))
        exact Ret.mk rfl
      · rw [if_neg h31]
        (((conv => whnf); repeat ((with_reducible first | refine BCase.tt ?_ | refine BCase.ff ?_); (conv => whnf))); repeat' ((first | with_reducible refine Wr.u8 ?_ | ((with_reducible first | refine Wr.ci ?wxs ?_ | refine Wr.c3 ?wxs ?_ | refine Wr.c6 ?wxs ?_ | refine BCase.dt ?wxs ?_); case wxs => (first | omega | (simp only [lens, true_and, and_true]; (try omega); done))) | ((with_reducible refine BCase.df ?wxs ?_); case wxs => (first | omega | (simp only [lens, true_and, and_true]; (try omega); done))) | ((with_reducible refine Need.mk ?wxs ?_); case wxs => first | (first | omega | (simp only [lens, true_and, and_true]; (try omega); done)) | decide | kernel_rfl) | refine BCase.t (by decide) ?_ | refine BCase.f (by decide) ?_ | refine CallP.pure _ rfl _ (pc) ?_ | refine CallP.pure _ rfl _ (ph) ?_ | with_reducible (first | refine EmpOr.app ?_ | refine BCase.not ?_ | refine BCase.and ?_ | refine BCase.or ?_ | refine BCase.d (fun _ => ?_) (fun _ => ?_))) <;> ((conv => whnf); repeat ((with_reducible first | refine BCase.tt ?_ | refine BCase.ff ?_); (conv => whnf)))))
        refine LoopC.mk Nat (fun j => [(1, .d (.c (wrsC l))), (2, .d (.ptr 2 0)), (6, pInt .i64 j)]) (fun j => [(2, storeBox s)]) [2] (fun j => j ≤ l.length ∧ badWr s.1.1 [] l = badWr s.1.1 (l.take j) (l.drop j)) (fun j => l.length - j) 0 ⟨Nat.zero_le _, rfl⟩ ?start ?round
        case start => exact ⟨[(2, 2)], rfl, rfl, ⟨.inl rfl, ⟨rfl, rfl, rfl⟩, .inl rfl, trivial⟩, ⟨rfl, rfl, .inl rfl, .inl rfl, .inl rfl, .inl rfl, rfl⟩, trivial⟩
        case round =>
          rintro j ⟨hj, hz⟩
          by_cases q : j < l.length
          · have hm := List.getElem_mem q
            have hio := hi _ hm
            rw [List.drop_eq_getElem_cons q, badWr_cons] at hz
            have pp := p_pageat s.1.1 l[j].1
            by_cases hp : 0 ≤ l[j].1 ∧ l[j].1 < 32
            · obtain ⟨hp0, hp1⟩ := hp
              rw [if_neg (by rw [inPlace_t ⟨hp0, hp1⟩]; decide)] at hz
              by_cases ht : 256 < l[j].2.size
              · rw [if_pos ht] at hz
                (((conv => whnf); repeat ((with_reducible first | refine BCase.tt ?_ | refine BCase.ff ?_); (conv => whnf))); repeat' ((first | with_reducible refine Wr.u8 ?_ | ((with_reducible first | refine Wr.ci ?wxs ?_ | refine Wr.c3 ?wxs ?_ | refine Wr.c6 ?wxs ?_ | refine BCase.dt ?wxs ?_); case wxs => (first | omega | (simp only [lens, true_and, and_true]; (try omega); done))) | ((with_reducible refine BCase.df ?wxs ?_); case wxs => (first | omega | (simp only [lens, true_and, and_true]; (try omega); done))) | ((with_reducible refine Need.mk ?wxs ?_); case wxs => first | (first | omega | (simp only [lens, true_and, and_true]; (try omega); done)) | decide | kernel_rfl) | refine BCase.t (by decide) ?_ | refine BCase.f (by decide) ?_ | (refine Idx.mapI j rfl q ?_) | with_reducible (first | refine EmpOr.app ?_ | refine BCase.not ?_ | refine BCase.and ?_ | refine BCase.or ?_ | refine BCase.d (fun _ => ?_) (fun _ => ?_))) <;> ((conv => whnf); repeat ((with_reducible first | refine BCase.tt ?_ | refine BCase.ff ?_); (conv => whnf)))))
                exact Ret.int hz.symm
              · rw [if_neg ht] at hz
                (((conv => whnf); repeat ((with_reducible first | refine BCase.tt ?_ | refine BCase.ff ?_); (conv => whnf))); repeat' ((first | with_reducible refine Wr.u8 ?_ | ((with_reducible first | refine Wr.ci ?wxs ?_ | refine Wr.c3 ?wxs ?_ | refine Wr.c6 ?wxs ?_ | refine BCase.dt ?wxs ?_); case wxs => (first | omega | (simp only [lens, true_and, and_true]; (try omega); done))) | ((with_reducible refine BCase.df ?wxs ?_); case wxs => (first | omega | (simp only [lens, true_and, and_true]; (try omega); done))) | ((with_reducible refine Need.mk ?wxs ?_); case wxs => first | (first | omega | (simp only [lens, true_and, and_true]; (try omega); done)) | decide | kernel_rfl) | refine BCase.t (by decide) ?_ | refine BCase.f (by decide) ?_ | (refine Idx.mapI j rfl q ?_) | with_reducible (first | refine EmpOr.app ?_ | refine BCase.not ?_ | refine BCase.and ?_ | refine BCase.or ?_ | refine BCase.d (fun _ => ?_) (fun _ => ?_))) <;> ((conv => whnf); repeat ((with_reducible first | refine BCase.tt ?_ | refine BCase.ff ?_); (conv => whnf)))))
                refine LoopC.mk Nat (fun k => [(1, .d (.c (wrsC l))), (2, .d (.ptr 2 0)), (6, pInt .i64 j), (7, pInt .i64 k)]) (fun k => [(2, storeBox s)]) [2] (fun k => k ≤ j ∧ ∀ i (h : i < l.length), i < k → l[i].1 ≠ l[j].1) (fun k => j - k) 0 ⟨Nat.zero_le _, fun i h e => absurd e (by omega)⟩ ?start2 ?round2
                case start2 => exact ⟨[(2, 2)], rfl, rfl, ⟨.inl rfl, ⟨rfl, rfl, rfl⟩, .inl rfl, .inl rfl, trivial⟩, ⟨rfl, rfl, .inl rfl, .inl rfl, .inl rfl, .inl rfl, rfl⟩, trivial⟩
                case round2 =>
                  rintro k ⟨hk, hn⟩
                  by_cases hkj : k < j
                  · by_cases he : l[k].1 = l[j].1
                    · have hs : (l.take j).any (fun x => x.1 == l[j].1) = true := by
                        cases e : (l.take j).any (fun x => x.1 == l[j].1) with
                        | true => rfl
                        | false => exact absurd he (any_false.1 e k (by omega) hkj)
                      rw [if_pos hs] at hz
                      (((conv => whnf); repeat ((with_reducible first | refine BCase.tt ?_ | refine BCase.ff ?_); (conv => whnf))); repeat' ((first | with_reducible refine Wr.u8 ?_ | ((with_reducible first | refine Wr.ci ?wxs ?_ | refine Wr.c3 ?wxs ?_ | refine Wr.c6 ?wxs ?_ | refine BCase.dt ?wxs ?_); case wxs => (first | omega | (simp only [lens, true_and, and_true]; (try omega); done))) | ((with_reducible refine BCase.df ?wxs ?_); case wxs => (first | omega | (simp only [lens, true_and, and_true]; (try omega); done))) | ((with_reducible refine Need.mk ?wxs ?_); case wxs => first | (first | omega | (simp only [lens, true_and, and_true]; (try omega); done)) | decide | kernel_rfl) | refine BCase.t (by decide) ?_ | refine BCase.f (by decide) ?_ | (first | refine Idx.mapI k rfl (by omega) ?_ | refine Idx.mapI j rfl q ?_) | with_reducible (first | refine EmpOr.app ?_ | refine BCase.not ?_ | refine BCase.and ?_ | refine BCase.or ?_ | refine BCase.d (fun _ => ?_) (fun _ => ?_))) <;> ((conv => whnf); repeat ((with_reducible first | refine BCase.tt ?_ | refine BCase.ff ?_); (conv => whnf)))))
                      exact Ret.int hz.symm
                    · (((conv => whnf); repeat ((with_reducible first | refine BCase.tt ?_ | refine BCase.ff ?_); (conv => whnf))); repeat' ((first | with_reducible refine Wr.u8 ?_ | ((with_reducible first | refine Wr.ci ?wxs ?_ | refine Wr.c3 ?wxs ?_ | refine Wr.c6 ?wxs ?_ | refine BCase.dt ?wxs ?_); case wxs => (first | omega | (simp only [lens, true_and, and_true]; (try omega); done))) | ((with_reducible refine BCase.df ?wxs ?_); case wxs => (first | omega | (simp only [lens, true_and, and_true]; (try omega); done))) | ((with_reducible refine Need.mk ?wxs ?_); case wxs => first | (first | omega | (simp only [lens, true_and, and_true]; (try omega); done)) | decide | kernel_rfl) | refine BCase.t (by decide) ?_ | refine BCase.f (by decide) ?_ | (first | refine Idx.mapI k rfl (by omega) ?_ | refine Idx.mapI j rfl q ?_) | with_reducible (first | refine EmpOr.app ?_ | refine BCase.not ?_ | refine BCase.and ?_ | refine BCase.or ?_ | refine BCase.d (fun _ => ?_) (fun _ => ?_))) <;> ((conv => whnf); repeat ((with_reducible first | refine BCase.tt ?_ | refine BCase.ff ?_); (conv => whnf)))))
                      refine ⟨k + 1, ⟨by omega, fun i h e => ?_⟩, by omega, [(2, 2)], rfl, rfl, ⟨.inl rfl, ⟨rfl, rfl, rfl⟩, .inl rfl, PLe.int (by omega), trivial⟩, ⟨rfl, rfl, .inl rfl, .inl rfl, .inl rfl, .inl rfl, rfl⟩, trivial⟩
                      by_cases e2 : i = k
                      · subst e2; exact he
                      · exact hn i h (by omega)
                  · obtain rfl : k = j := by omega
                    rw [if_neg (by rw [any_false.2 hn]; decide)] at hz
                    by_cases ho : 256 < (pageAt s.1.1 l[k].1).size
                    · rw [if_pos ho] at hz
                      (((conv => whnf); repeat ((with_reducible first | refine BCase.tt ?_ | refine BCase.ff ?_); (conv => whnf))); repeat' ((first | with_reducible refine Wr.u8 ?_ | ((with_reducible first | refine Wr.ci ?wxs ?_ | refine Wr.c3 ?wxs ?_ | refine Wr.c6 ?wxs ?_ | refine BCase.dt ?wxs ?_); case wxs => (first | omega | (simp only [lens, true_and, and_true]; (try omega); done))) | ((with_reducible refine BCase.df ?wxs ?_); case wxs => (first | omega | (simp only [lens, true_and, and_true]; (try omega); done))) | ((with_reducible refine Need.mk ?wxs ?_); case wxs => first | (first | omega | (simp only [lens, true_and, and_true]; (try omega); done)) | decide | kernel_rfl) | refine BCase.t (by decide) ?_ | refine BCase.f (by decide) ?_ | (refine Idx.mapI k rfl q ?_) | refine CallP.pure _ rfl _ (pp) ?_ | with_reducible (first | refine EmpOr.app ?_ | refine BCase.not ?_ | refine BCase.and ?_ | refine BCase.or ?_ | refine BCase.d (fun _ => ?_) (fun _ => ?_))) <;> ((conv => whnf); repeat ((with_reducible first | refine BCase.tt ?_ | refine BCase.ff ?_); (conv => whnf)))))
                      exact Ret.int hz.symm
                    · rw [if_neg ho] at hz
                      (((conv => whnf); repeat ((with_reducible first | refine BCase.tt ?_ | refine BCase.ff ?_); (conv => whnf))); repeat' ((first | with_reducible refine Wr.u8 ?_ | ((with_reducible first | refine Wr.ci ?wxs ?_ | refine Wr.c3 ?wxs ?_ | refine Wr.c6 ?wxs ?_ | refine BCase.dt ?wxs ?_); case wxs => (first | omega | (simp only [lens, true_and, and_true]; (try omega); done))) | ((with_reducible refine BCase.df ?wxs ?_); case wxs => (first | omega | (simp only [lens, true_and, and_true]; (try omega); done))) | ((with_reducible refine Need.mk ?wxs ?_); case wxs => first | (first | omega | (simp only [lens, true_and, and_true]; (try omega); done)) | decide | kernel_rfl) | refine BCase.t (by decide) ?_ | refine BCase.f (by decide) ?_ | (refine Idx.mapI k rfl q ?_) | refine CallP.pure _ rfl _ (pp) ?_ | with_reducible (first | refine EmpOr.app ?_ | refine BCase.not ?_ | refine BCase.and ?_ | refine BCase.or ?_ | refine BCase.d (fun _ => ?_) (fun _ => ?_))) <;> ((conv => whnf); repeat ((with_reducible first | refine BCase.tt ?_ | refine BCase.ff ?_); (conv => whnf)))))
                      refine ⟨k + 1, ⟨by omega, ?_⟩, by omega, [(2, 2)], rfl, rfl, ⟨.inl rfl, ⟨rfl, rfl, rfl⟩, PLe.int (by omega), trivial⟩, ⟨rfl, rfl, .inl rfl, .inl rfl, .inl rfl, .inl rfl, rfl⟩, trivial⟩
                      rw [hz, take_snoc q]
            · rw [if_pos (inPlace_f hp)] at hz
              by_cases hp0 : l[j].1 < 0
              · (((conv => whnf); repeat ((with_reducible first | refine BCase.tt ?_ | refine BCase.ff ?_); (conv => whnf))); repeat' ((first | with_reducible refine Wr.u8 ?_ | ((with_reducible first | refine Wr.ci ?wxs ?_ | refine Wr.c3 ?wxs ?_ | refine Wr.c6 ?wxs ?_ | refine BCase.dt ?wxs ?_); case wxs => (first | omega | (simp only [lens, true_and, and_true]; (try omega); done))) | ((with_reducible refine BCase.df ?wxs ?_); case wxs => (first | omega | (simp only [lens, true_and, and_true]; (try omega); done))) | ((with_reducible refine Need.mk ?wxs ?_); case wxs => first | (first | omega | (simp only [lens, true_and, and_true]; (try omega); done)) | decide | kernel_rfl) | refine BCase.t (by decide) ?_ | refine BCase.f (by decide) ?_ | (refine Idx.mapI j rfl q ?_) | with_reducible (first | refine EmpOr.app ?_ | refine BCase.not ?_ | refine BCase.and ?_ | refine BCase.or ?_ | refine BCase.d (fun _ => ?_) (fun _ => ?_))) <;> ((conv => whnf); repeat ((with_reducible first | refine BCase.tt ?_ | refine BCase.ff ?_); (conv => whnf)))))
                exact Ret.int hz.symm
              · (((conv => whnf); repeat ((with_reducible first | refine BCase.tt ?_ | refine BCase.ff ?_); (conv => whnf))); repeat' ((first | with_reducible refine Wr.u8 ?_ | ((with_reducible first | refine Wr.ci ?wxs ?_ | refine Wr.c3 ?wxs ?_ | refine Wr.c6 ?wxs ?_ | refine BCase.dt ?wxs ?_); case wxs => (first | omega | (simp only [lens, true_and, and_true]; (try omega); done))) | ((with_reducible refine BCase.df ?wxs ?_); case wxs => (first | omega | (simp only [lens, true_and, and_true]; (try omega); done))) | ((with_reducible refine Need.mk ?wxs ?_); case wxs => first | (first | omega | (simp only [lens, true_and, and_true]; (try omega); done)) | decide | kernel_rfl) | refine BCase.t (by decide) ?_ | refine BCase.f (by decide) ?_ | (refine Idx.mapI j rfl q ?_) | with_reducible (first | refine EmpOr.app ?_ | refine BCase.not ?_ | refine BCase.and ?_ | refine BCase.or ?_ | refine BCase.d (fun _ => ?_) (fun _ => ?_))) <;> ((conv => whnf); repeat ((with_reducible first | refine BCase.tt ?_ | refine BCase.ff ?_); (conv => whnf)))))
                exact Ret.int hz.symm
          · rw [List.drop_of_length_le (by omega)] at hz
            (((conv => whnf); repeat ((with_reducible first | refine BCase.tt ?_ | refine BCase.ff ?_); (conv => whnf))); repeat' ((first | with_reducible refine Wr.u8 ?_ | ((with_reducible first | refine Wr.ci ?wxs ?_ | refine Wr.c3 ?wxs ?_ | refine Wr.c6 ?wxs ?_ | refine BCase.dt ?wxs ?_); case wxs => (first | omega | (simp only [lens, true_and, and_true]; (try omega); done))) | ((with_reducible refine BCase.df ?wxs ?_); case wxs => (first | omega | (simp only [lens, true_and, and_true]; (try omega); done))) | ((with_reducible refine Need.mk ?wxs ?_); case wxs => first | (first | omega | (simp only [lens, true_and, and_true]; (try omega); done)) | decide | kernel_rfl) | refine BCase.t (by decide) ?_ | refine BCase.f (by decide) ?_ | with_reducible (first | refine EmpOr.app ?_ | refine BCase.not ?_ | refine BCase.and ?_ | refine BCase.or ?_ | refine BCase.d (fun _ => ?_) (fun _ => ?_))) <;> ((conv => whnf); repeat ((with_reducible first | refine BCase.tt ?_ | refine BCase.ff ?_); (conv => whnf)))))
            exact Ret.int hz.symm
  · rw [if_pos h]
    (((conv => whnf); repeat ((with_reducible first | refine BCase.tt ?_ | refine BCase.ff ?_); (conv => whnf))); repeat' ((first | with_reducible refine Wr.u8 ?_ | ((with_reducible first | refine Wr.ci ?wxs ?_ | refine Wr.c3 ?wxs ?_ | refine Wr.c6 ?wxs ?_ | refine BCase.dt ?wxs ?_); case wxs => (first | omega | (simp only [lens, true_and, and_true]; (try omega); done))) | ((with_reducible refine BCase.df ?wxs ?_); case wxs => (first | omega | (simp only [lens, true_and, and_true]; (try omega); done))) | ((with_reducible refine Need.mk ?wxs ?_); case wxs => first | (first | omega | (simp only [lens, true_and, and_true]; (try omega); done)) | decide | kernel_rfl) | refine BCase.t (by decide) ?_ | refine BCase.f (by decide) ?_ | refine CallP.pure _ rfl _ (pc) ?_ | with_reducible (first | refine EmpOr.app ?_ | refine BCase.not ?_ | refine BCase.and ?_ | refine BCase.or ?_ | refine BCase.d (fun _ => ?_) (fun _ => ?_))) <;> ((conv => whnf); repeat ((with_reducible first | refine BCase.tt ?_ | refine BCase.ff ?_); (conv => whnf)))))
    exact Ret.mk rfl

/-! ### ops -/
abbrev Opr := Int × Int × ByteArray
def encO (x : Opr) : List C := [.v (.int .i64 x.1), .v (.int .i64 x.2.1), .v (.string x.2.2)]
abbrev opsC (l : List Opr) : C := .sl 3 (l.map encO)
abbrev listBox (k : Nat) (l : List Opr) : HB := .box 54 [.app k 67 3 (l.map encO)]
abbrev opT : HB := .tail 67 3
theorem s_put (l : List Opr) (k n : Int) (s : ByteArray) (h : l.length ≤ 1000) : CallS Try.prog 54 [.d (.ptr FK 0), pInt .i64 k, pInt .i64 n, pStr s] [] [(FK, listBox FK1 l), (FK1, opT)] (.tup []) [(FK, listBox NK (l ++ [(k, n, s)])), (NK, opT)] := by
  refine callS_of Try.func54 (by rfl) rfl (by kernel_rfl) (by rfl) [FK, FK1] rfl ?_
  (((conv => whnf); repeat ((with_reducible first | refine BCase.tt ?_ | refine BCase.ff ?_); (conv => whnf))); repeat' ((first | with_reducible refine Wr.u8 ?_ | ((with_reducible first | refine Wr.ci ?wxs ?_ | refine Wr.c3 ?wxs ?_ | refine Wr.c6 ?wxs ?_ | refine BCase.dt ?wxs ?_); case wxs => (first | omega | (simp only [lens, true_and, and_true]; (try omega); done))) | ((with_reducible refine BCase.df ?wxs ?_); case wxs => (first | omega | (simp only [lens, true_and, and_true]; (try omega); done))) | ((with_reducible refine Need.mk ?wxs ?_); case wxs => first | (first | omega | (simp only [lens, true_and, and_true]; (try omega); done)) | decide | kernel_rfl) | refine BCase.t (by decide) ?_ | refine BCase.f (by decide) ?_ | (refine Need.by 32 rfl (by simp only [List.length_map, List.length_singleton]; omega) ?_) | with_reducible (first | refine EmpOr.app ?_ | refine BCase.not ?_ | refine BCase.and ?_ | refine BCase.or ?_ | refine BCase.d (fun _ => ?_) (fun _ => ?_))) <;> ((conv => whnf); repeat ((with_reducible first | refine BCase.tt ?_ | refine BCase.ff ?_); (conv => whnf)))))
  refine RetS.mk [(FK, FK), (FK1, FK1), (NK, 18)] [FK, FK1, NK] rfl rfl ?_ ?_
  · exact rfl
  · exact ⟨⟨rfl, rfl, ⟨rfl, rfl, rfl, rfl, by rw [List.map_append]; rfl⟩, rfl⟩, ⟨rfl, rfl, rfl⟩, trivial⟩
end Go.Proofs.Ytohlkegmmbdlaaa.Pm
end

section
namespace Go.Proofs.Ytohlkegmmbdlaaa.Pm
open Go.RowKit K DiskP
set_option linter.unusedVariables false
set_option linter.unusedSimpArgs false
set_option maxRecDepth 100000

theorem s_journal (l : List Opr) (n : Int) (s : ByteArray) (h : l.length ≤ 1000) : CallS Try.prog 30 [.d (.ptr FK 0), pInt .i64 n, pStr s] [] [(FK, listBox FK1 l), (FK1, opT)] (.tup []) [(FK, listBox NK (l ++ [(2, n, s)])), (NK, opT)] := by
  refine callS_of Try.func30 (by rfl) rfl (by kernel_rfl) (by rfl) [FK, FK1] rfl ?_
  (((conv => whnf); repeat ((with_reducible first | refine BCase.tt ?_ | refine BCase.ff ?_); (conv => whnf))); repeat' ((first | with_reducible refine Wr.u8 ?_ | ((with_reducible first | refine Wr.ci ?wxs ?_ | refine Wr.c3 ?wxs ?_ | refine Wr.c6 ?wxs ?_ | refine BCase.dt ?wxs ?_); case wxs => (first | omega | (simp only [lens, true_and, and_true]; (try omega); done))) | ((with_reducible refine BCase.df ?wxs ?_); case wxs => (first | omega | (simp only [lens, true_and, and_true]; (try omega); done))) | ((with_reducible refine Need.mk ?wxs ?_); case wxs => first | (first | omega | (simp only [lens, true_and, and_true]; (try omega); done)) | decide | kernel_rfl) | refine BCase.t (by decide) ?_ | refine BCase.f (by decide) ?_ | (refine CallP.ret [(FK, FK), (FK1, FK1), (NK, 9)] _ _ _ _ _ _ _ (s_put l 2 n s h) rfl rfl rfl rfl ⟨rfl, rfl, trivial⟩ ?_) | with_reducible (first | refine EmpOr.app ?_ | refine BCase.not ?_ | refine BCase.and ?_ | refine BCase.or ?_ | refine BCase.d (fun _ => ?_) (fun _ => ?_))) <;> ((conv => whnf); repeat ((with_reducible first | refine BCase.tt ?_ | refine BCase.ff ?_); (conv => whnf)))))
  exact RetS.mk [(FK, FK), (FK1, FK1), (NK, 9)] [FK, FK1, NK] rfl rfl rfl ⟨⟨rfl, rfl, ⟨rfl, rfl, rfl, rfl, rfl⟩, rfl⟩, ⟨rfl, rfl, rfl⟩, trivial⟩
theorem s_data (l : List Opr) (n : Int) (s : ByteArray) (h : l.length ≤ 1000) : CallS Try.prog 32 [.d (.ptr FK 0), pInt .i64 n, pStr s] [] [(FK, listBox FK1 l), (FK1, opT)] (.tup []) [(FK, listBox NK (l ++ [(1, n, s)])), (NK, opT)] := by
  refine callS_of Try.func32 (by rfl) rfl (by kernel_rfl) (by rfl) [FK, FK1] rfl ?_
  (((conv => whnf); repeat ((with_reducible first | refine BCase.tt ?_ | refine BCase.ff ?_); (conv => whnf))); repeat' ((first | with_reducible refine Wr.u8 ?_ | ((with_reducible first | refine Wr.ci ?wxs ?_ | refine Wr.c3 ?wxs ?_ | refine Wr.c6 ?wxs ?_ | refine BCase.dt ?wxs ?_); case wxs => (first | omega | (simp only [lens, true_and, and_true]; (try omega); done))) | ((with_reducible refine BCase.df ?wxs ?_); case wxs => (first | omega | (simp only [lens, true_and, and_true]; (try omega); done))) | ((with_reducible refine Need.mk ?wxs ?_); case wxs => first | (first | omega | (simp only [lens, true_and, and_true]; (try omega); done)) | decide | kernel_rfl) | refine BCase.t (by decide) ?_ | refine BCase.f (by decide) ?_ | (refine CallP.ret [(FK, FK), (FK1, FK1), (NK, 9)] _ _ _ _ _ _ _ (s_put l 1 n s h) rfl rfl rfl rfl ⟨rfl, rfl, trivial⟩ ?_) | with_reducible (first | refine EmpOr.app ?_ | refine BCase.not ?_ | refine BCase.and ?_ | refine BCase.or ?_ | refine BCase.d (fun _ => ?_) (fun _ => ?_))) <;> ((conv => whnf); repeat ((with_reducible first | refine BCase.tt ?_ | refine BCase.ff ?_); (conv => whnf)))))
  exact RetS.mk [(FK, FK), (FK1, FK1), (NK, 9)] [FK, FK1, NK] rfl rfl rfl ⟨⟨rfl, rfl, ⟨rfl, rfl, rfl, rfl, rfl⟩, rfl⟩, ⟨rfl, rfl, rfl⟩, trivial⟩
theorem s_sync (l : List Opr) (k : Int) (h : l.length ≤ 1000) : CallS Try.prog 31 [.d (.ptr FK 0), pInt .i64 k] [] [(FK, listBox FK1 l), (FK1, opT)] (.tup []) [(FK, listBox NK (l ++ [(k, 0, ⟨#[]⟩)])), (NK, opT)] := by
  refine callS_of Try.func31 (by rfl) rfl (by kernel_rfl) (by rfl) [FK, FK1] rfl ?_
  (((conv => whnf); repeat ((with_reducible first | refine BCase.tt ?_ | refine BCase.ff ?_); (conv => whnf))); repeat' ((first | with_reducible refine Wr.u8 ?_ | ((with_reducible first | refine Wr.ci ?wxs ?_ | refine Wr.c3 ?wxs ?_ | refine Wr.c6 ?wxs ?_ | refine BCase.dt ?wxs ?_); case wxs => (first | omega | (simp only [lens, true_and, and_true]; (try omega); done))) | ((with_reducible refine BCase.df ?wxs ?_); case wxs => (first | omega | (simp only [lens, true_and, and_true]; (try omega); done))) | ((with_reducible refine Need.mk ?wxs ?_); case wxs => first | (first | omega | (simp only [lens, true_and, and_true]; (try omega); done)) | decide | kernel_rfl) | refine BCase.t (by decide) ?_ | refine BCase.f (by decide) ?_ | (refine CallP.ret [(FK, FK), (FK1, FK1), (NK, 6)] _ _ _ _ _ _ _ (s_put l k 0 ⟨#[]⟩ h) rfl rfl rfl rfl ⟨rfl, rfl, trivial⟩ ?_) | with_reducible (first | refine EmpOr.app ?_ | refine BCase.not ?_ | refine BCase.and ?_ | refine BCase.or ?_ | refine BCase.d (fun _ => ?_) (fun _ => ?_))) <;> ((conv => whnf); repeat ((with_reducible first | refine BCase.tt ?_ | refine BCase.ff ?_); (conv => whnf)))))
  exact RetS.mk [(FK, FK), (FK1, FK1), (NK, 6)] [FK, FK1, NK] rfl rfl rfl ⟨⟨rfl, rfl, ⟨rfl, rfl, rfl, rfl, rfl⟩, rfl⟩, ⟨rfl, rfl, rfl⟩, trivial⟩
def endO : List Opr := [(3, 0, ⟨#[]⟩), (2, 0, ⟨#[45]⟩), (4, 0, ⟨#[]⟩)]
theorem s_cold (l : List Opr) (h : l.length ≤ 900) : CallS Try.prog 33 [.d (.ptr FK 0)] [] [(FK, listBox FK1 l), (FK1, opT)] (.d (.c (opsC (l ++ endO)))) [(FK, listBox NK (l ++ endO)), (NK, opT)] := by
  have e : l ++ [((3 : Int), (0 : Int), (⟨#[]⟩ : ByteArray))] ++ [((2 : Int), (0 : Int), (⟨#[45]⟩ : ByteArray))] ++ [((4 : Int), (0 : Int), (⟨#[]⟩ : ByteArray))] = l ++ endO := by simp [endO]
  refine callS_of Try.func33 (by rfl) rfl (by kernel_rfl) (by rfl) [FK, FK1] rfl ?_
  (((conv => whnf); repeat ((with_reducible first | refine BCase.tt ?_ | refine BCase.ff ?_); (conv => whnf))); repeat' ((first | with_reducible refine Wr.u8 ?_ | ((with_reducible first | refine Wr.ci ?wxs ?_ | refine Wr.c3 ?wxs ?_ | refine Wr.c6 ?wxs ?_ | refine BCase.dt ?wxs ?_); case wxs => (first | omega | (simp only [lens, true_and, and_true]; (try omega); done))) | ((with_reducible refine BCase.df ?wxs ?_); case wxs => (first | omega | (simp only [lens, true_and, and_true]; (try omega); done))) | ((with_reducible refine Need.mk ?wxs ?_); case wxs => first | (first | omega | (simp only [lens, true_and, and_true]; (try omega); done)) | decide | kernel_rfl) | refine BCase.t (by decide) ?_ | refine BCase.f (by decide) ?_ | (refine CallP.ret [(FK, FK), (FK1, FK1), (NK, 4)] _ _ _ _ _ _ _ (s_sync l 3 (by omega)) rfl rfl rfl rfl ⟨rfl, rfl, trivial⟩ ?_) | (refine CallP.ret [(FK, FK), (FK1, 4), (NK, 6)] _ _ _ _ _ _ _ (s_journal (l ++ [(3, 0, ⟨#[]⟩)]) 0 ⟨#[45]⟩ (by simp; omega)) rfl rfl rfl rfl ⟨rfl, rfl, trivial⟩ ?_) | (refine CallP.ret [(FK, FK), (FK1, 6), (NK, 8)] _ _ _ _ _ _ _ (s_sync (l ++ [(3, 0, ⟨#[]⟩)] ++ [(2, 0, ⟨#[45]⟩)]) 4 (by simp; omega)) rfl rfl rfl rfl ⟨rfl, rfl, trivial⟩ ?_) | with_reducible (first | refine EmpOr.app ?_ | refine BCase.not ?_ | refine BCase.and ?_ | refine BCase.or ?_ | refine BCase.d (fun _ => ?_) (fun _ => ?_))) <;> ((conv => whnf); repeat ((with_reducible first | refine BCase.tt ?_ | refine BCase.ff ?_); (conv => whnf)))))
  exact RetS.mk [(FK, FK), (FK1, FK1), (NK, 8)] [FK, FK1, NK] rfl rfl (by rw [← e]; rfl) ⟨⟨rfl, rfl, ⟨rfl, rfl, rfl, rfl, by rw [← e]⟩, rfl⟩, ⟨rfl, rfl, rfl⟩, trivial⟩
end Go.Proofs.Ytohlkegmmbdlaaa.Pm
end

section
namespace Go.Proofs.Ytohlkegmmbdlaaa.Pm
open Go.RowKit K DiskP
set_option linter.unusedVariables false
set_option linter.unusedSimpArgs false
set_option maxRecDepth 100000

def twoB (n : Int) : ByteArray := tx [by1 (n / 256), by1 n]
def jEnts (p : List ByteArray) (l : List DiskP.Wr) : List Opr := l.mapIdx fun i w => (2, (i : Int) + 1, twoB w.1 ++ pageAt p w.1)
def dEnts (l : List DiskP.Wr) : List Opr := l.map fun w => (1, w.1, w.2)
def jHead (m : Nat) : ByteArray := tx [74, by1 m]
def jHot (m : Nat) : List Opr := [(4, 0, ⟨#[]⟩), (2, 0, jHead m), (4, 0, ⟨#[]⟩)]
def stepsO (p : List ByteArray) (l : List DiskP.Wr) : List Opr := jEnts p l ++ jHot l.length ++ dEnts l ++ endO
def stepsR (s : Str) (l : List DiskP.Wr) : List Opr := if stepsE s l = 0 then stepsO s.1.1 l else []
theorem jEnts_len (p : List ByteArray) (l : List DiskP.Wr) : (jEnts p l).length = l.length := List.length_mapIdx
theorem jEnts_at (p : List ByteArray) {l : List DiskP.Wr} {j : Nat} (h : j < l.length) : (jEnts p l).take (j + 1) = (jEnts p l).take j ++ [(2, (j : Int) + 1, twoB l[j].1 ++ pageAt p l[j].1)] := by
  rw [take_snoc (by rw [jEnts_len]; exact h)]
  unfold jEnts
  rw [List.getElem_mapIdx]
theorem badWr_ok {p : List ByteArray} : ∀ {l seen : List DiskP.Wr}, badWr p seen l = 0 → ∀ w ∈ l, inPlace w.1 = true ∧ w.2.size ≤ 256 ∧ (pageAt p w.1).size ≤ 256
  | [], _, _, w, hw => by cases hw
  | x :: l, seen, h, w, hw => by
    rw [badWr_cons] at h
    by_cases h1 : inPlace x.1 = false
    · rw [if_pos h1] at h; cases h
    · rw [if_neg h1] at h
      by_cases h2 : 256 < x.2.size
      · rw [if_pos h2] at h; cases h
      · rw [if_neg h2] at h
        by_cases h3 : seen.any (fun y => y.1 == x.1) = true
        · rw [if_pos h3] at h; cases h
        · rw [if_neg h3] at h
          by_cases h4 : 256 < (pageAt p x.1).size
          · rw [if_pos h4] at h; cases h
          · rw [if_neg h4] at h
            rcases List.mem_cons.1 hw with rfl | hw
            · exact ⟨by simpa using h1, by omega, by omega⟩
            · exact badWr_ok h w hw
theorem stepsE_ok {s : Str} {l : List DiskP.Wr} (h : stepsE s l = 0) : storeChk s = 0 ∧ s.1.2 = [] ∧ s.2.2 = [] ∧ hotP s = false ∧ l.length ≤ 31 ∧ badWr s.1.1 [] l = 0 := by
  unfold stepsE at h
  by_cases h1 : storeChk s = 0
  · rw [if_neg (not_not_intro h1)] at h
    by_cases h2 : waitsR s = true ∨ hotP s = true
    · rw [if_pos h2] at h; cases h
    · rw [if_neg h2] at h
      by_cases h3 : 31 < l.length
      · rw [if_pos h3] at h; cases h
      · rw [if_neg h3] at h
        have hw1 : waitsR s = false := by cases e : waitsR s <;> simp_all
        have hw2 : hotP s = false := by cases e : hotP s <;> simp_all
        unfold waitsR at hw1
        have := of_decide_eq_false hw1
        exact ⟨h1, List.eq_nil_of_length_eq_zero (by omega), List.eq_nil_of_length_eq_zero (by omega), hw2, by omega, h⟩
  · rw [if_pos h1] at h; exact absurd h h1
theorem inPlace_lt {n : Int} (h : inPlace n = true) : 0 ≤ n ∧ n < 32 := by unfold inPlace at h; simpa using h
theorem fdiv8 {n : Int} : n.fdiv (2 ^ min (8 : Int).toNat IntKind.i64.bits) = n / 256 := by
  show n.fdiv 256 = _
  exact Int.fdiv_eq_ediv_of_nonneg _ (by decide)
theorem p_steps (s : Str) (l : List DiskP.Wr) (h1 : s.1.2.length ≤ 140737488355328) (h2 : s.2.2.length ≤ 140737488355328) (hl : l.length ≤ 140737488355328) (hi : ∀ w ∈ l, okInt w.1) : Pure Try.prog 11 [stV s, .d (.c (wrsC l))] (.tup [.d (.c (opsC (stepsR s l))), pInt .i64 (stepsE s l)]) := by
  have pr := p_ready s l h1 h2 hl hi
  unfold stepsR
  refine pure_of Try.func11 (by rfl) rfl (by kernel_rfl) (by rfl) ?_
  by_cases h : stepsE s l = 0
  · obtain ⟨q1, q2, q3, q4, q5, q6⟩ := stepsE_ok h
    have hck := (storeChk_ok q1).1
    rw [q2] at hck
    have ok := badWr_ok q6
    rw [if_pos h]
    rw [h] at pr ⊢
    (((conv => whnf); repeat ((with_reducible first | refine BCase.tt ?_ | refine BCase.ff ?_); (conv => whnf))); repeat' ((first | with_reducible refine Wr.u8 ?_ | ((with_reducible first | refine Wr.ci ?wxs ?_ | refine Wr.c3 ?wxs ?_ | refine Wr.c6 ?wxs ?_ | refine BCase.dt ?wxs ?_); case wxs => (first | omega | (simp only [lens, true_and, and_true]; (try omega); done))) | ((with_reducible refine BCase.df ?wxs ?_); case wxs => (first | omega | (simp only [lens, true_and, and_true]; (try omega); done))) | ((with_reducible refine Need.mk ?wxs ?_); case wxs => first | (first | omega | (simp only [lens, true_and, and_true]; (try omega); done)) | decide | kernel_rfl) | refine BCase.t (by decide) ?_ | refine BCase.f (by decide) ?_ | refine CallP.pure _ rfl _ (pr) ?_ | with_reducible (first | refine EmpOr.app ?_ | refine BCase.not ?_ | refine BCase.and ?_ | refine BCase.or ?_ | refine BCase.d (fun _ => ?_) (fun _ => ?_))) <;> ((conv => whnf); repeat ((with_reducible first | refine BCase.tt ?_ | refine BCase.ff ?_); (conv => whnf)))))
    refine LoopC.mk Nat (fun j => [(2, .d (.ptr 2 0)), (7, .d (.ptr 20 0)), (1, .d (.c (wrsC l))), (21, .d (.c (wrsC l))), (22, pInt .i64 l.length), (23, pInt .i64 j)]) (fun j => [(2, storeBox s), (20, listBox 90 ((jEnts s.1.1 l).take j)), (90, opT)]) [2, 20, 90] (fun j => j ≤ l.length) (fun j => l.length - j) 0 (Nat.zero_le _) ?start ?round
    case start => exact ⟨[(2, 2), (20, 20)], rfl, rfl, ⟨⟨rfl, rfl, rfl⟩, ⟨rfl, rfl, rfl⟩, .inl rfl, .inl rfl, PLe.int (by simp), .inl rfl, trivial⟩, ⟨rfl, rfl, .inl rfl, .inl rfl, .inl rfl, .inl rfl, rfl⟩, ⟨rfl, rfl, ⟨rfl, rfl, Nat.zero_lt_succ _, rfl, rfl⟩, rfl⟩, ⟨rfl, Nat.zero_lt_succ _⟩, trivial⟩
    case round =>
      intro j hj
      by_cases q : j < l.length
      · obtain ⟨o1, o2, o3⟩ := ok _ (List.getElem_mem q)
        obtain ⟨o4, o5⟩ := inPlace_lt o1
        have pd := p_dread s.1 l[j].1
        rw [q2, read_bare hck o1] at pd
        have je := jEnts_at s.1.1 q
        have ts : (tx [by1 (l[j].1 / 256), by1 l[j].1]).size = 2 := rfl
        (((conv => whnf); repeat ((with_reducible first | refine BCase.tt ?_ | refine BCase.ff ?_); (conv => whnf))); repeat' ((first | with_reducible refine Wr.u8 ?_ | ((with_reducible first | refine Wr.ci ?wxs ?_ | refine Wr.c3 ?wxs ?_ | refine Wr.c6 ?wxs ?_ | refine BCase.dt ?wxs ?_); case wxs => (first | omega | (simp only [lens, true_and, and_true]; (try omega); done))) | ((with_reducible refine BCase.df ?wxs ?_); case wxs => (first | omega | (simp only [lens, true_and, and_true]; (try omega); done))) | ((with_reducible refine Need.mk ?wxs ?_); case wxs => first | (first | omega | (simp only [lens, true_and, and_true]; (try omega); done)) | decide | kernel_rfl) | refine BCase.t (by decide) ?_ | refine BCase.f (by decide) ?_ | (refine Idx.mapI j rfl q ?_) | refine CallP.pure _ rfl _ (pd) ?_ | (refine Bytes.of (l := [by1 (l[j].1 / 256), by1 l[j].1]) (by rw [fdiv8]; rfl) ?_) | (refine CallP.ret [(FK, 20), (FK1, 90), (NK, 50)] _ _ _ _ _ _ _ (s_journal ((jEnts s.1.1 l).take j) ((j : Int) + 1) (twoB l[j].1 ++ pageAt s.1.1 l[j].1) (by rw [List.length_take, jEnts_len]; omega)) rfl rfl rfl rfl ⟨rfl, rfl, trivial⟩ ?_) | with_reducible (first | refine EmpOr.app ?_ | refine BCase.not ?_ | refine BCase.and ?_ | refine BCase.or ?_ | refine BCase.d (fun _ => ?_) (fun _ => ?_))) <;> ((conv => whnf); repeat ((with_reducible first | refine BCase.tt ?_ | refine BCase.ff ?_); (conv => whnf)))))
        refine ⟨j + 1, by omega, by omega, [(2, 2), (20, 20), (90, 50)], rfl, rfl, ⟨⟨rfl, rfl, rfl⟩, ⟨rfl, rfl, rfl⟩, .inl rfl, .inl rfl, .inl rfl, PLe.int (by omega), trivial⟩, ⟨rfl, rfl, .inl rfl, .inl rfl, .inl rfl, .inl rfl, rfl⟩, ⟨rfl, rfl, ⟨rfl, rfl, rfl, rfl, by rw [je]⟩, rfl⟩, ⟨rfl, rfl, rfl⟩, trivial⟩
      · have ej : (jEnts s.1.1 l).take j = jEnts s.1.1 l := List.take_of_length_le (by rw [jEnts_len]; omega)
        have lj := jEnts_len s.1.1 l
        rw [ej]
        generalize hJ : jEnts s.1.1 l = J at *
        have e1 : (l.map encW).length = l.length := List.length_map ..
        (((conv => whnf); repeat ((with_reducible first | refine BCase.tt ?_ | refine BCase.ff ?_); (conv => whnf))); repeat' ((first | with_reducible refine Wr.u8 ?_ | ((with_reducible first | refine Wr.ci ?wxs ?_ | refine Wr.c3 ?wxs ?_ | refine Wr.c6 ?wxs ?_ | refine BCase.dt ?wxs ?_); case wxs => (first | omega | (simp only [lens, true_and, and_true]; (try omega); done))) | ((with_reducible refine BCase.df ?wxs ?_); case wxs => (first | omega | (simp only [lens, true_and, and_true]; (try omega); done))) | ((with_reducible refine Need.mk ?wxs ?_); case wxs => first | (first | omega | (simp only [lens, true_and, and_true]; (try omega); done)) | decide | kernel_rfl) | refine BCase.t (by decide) ?_ | refine BCase.f (by decide) ?_ | (refine CallP.ret [(FK, 20), (FK1, 90), (NK, 53)] _ _ _ _ _ _ _ (s_sync J 4 (by omega)) rfl rfl rfl rfl ⟨rfl, rfl, trivial⟩ ?_) | (refine Bytes.of (l := [74, by1 l.length]) (by rw [← e1]; rfl) ?_) | (refine CallP.ret [(FK, 20), (FK1, 53), (NK, 60)] _ _ _ _ _ _ _ (s_journal (J ++ [(4, 0, ⟨#[]⟩)]) 0 (jHead l.length) (by simp; omega)) rfl rfl rfl rfl ⟨rfl, rfl, trivial⟩ ?_) | (refine CallP.ret [(FK, 20), (FK1, 60), (NK, 62)] _ _ _ _ _ _ _ (s_sync (J ++ [(4, 0, ⟨#[]⟩)] ++ [(2, 0, jHead l.length)]) 4 (by simp; omega)) rfl rfl rfl rfl ⟨rfl, rfl, trivial⟩ ?_) | with_reducible (first | refine EmpOr.app ?_ | refine BCase.not ?_ | refine BCase.and ?_ | refine BCase.or ?_ | refine BCase.d (fun _ => ?_) (fun _ => ?_))) <;> ((conv => whnf); repeat ((with_reducible first | refine BCase.tt ?_ | refine BCase.ff ?_); (conv => whnf)))))
        have eH : J ++ [((4 : Int), (0 : Int), (⟨#[]⟩ : ByteArray))] ++ [((2 : Int), (0 : Int), jHead l.length)] ++ [((4 : Int), (0 : Int), (⟨#[]⟩ : ByteArray))] = J ++ jHot l.length := by simp [jHot]
        have lH : (J ++ jHot l.length).length = l.length + 3 := by simp [jHot, lj]
        refine LoopC.mk Nat (fun j => [(2, .d (.ptr 2 0)), (7, .d (.ptr 20 0)), (63, .d (.c (wrsC l))), (64, pInt .i64 l.length), (65, pInt .i64 j)]) (fun j => [(2, storeBox s), (20, listBox 91 (J ++ jHot l.length ++ (dEnts l).take j)), (91, opT)]) [2, 20, 91] (fun j => j ≤ l.length) (fun j => l.length - j) 0 (Nat.zero_le _) ?start2 ?round2
        case start2 => exact ⟨[(2, 2), (20, 20), (91, 62)], rfl, rfl, ⟨⟨rfl, rfl, rfl⟩, ⟨rfl, rfl, rfl⟩, .inl rfl, PLe.int (by simp), .inl rfl, trivial⟩, ⟨rfl, rfl, .inl rfl, .inl rfl, .inl rfl, .inl rfl, rfl⟩, ⟨rfl, rfl, ⟨rfl, rfl, rfl, rfl, by rw [eH, List.take_zero, List.append_nil]⟩, rfl⟩, ⟨rfl, rfl, rfl⟩, trivial⟩
        case round2 =>
          intro k hk
          have ld : (dEnts l).length = l.length := by unfold dEnts; exact List.length_map ..
          by_cases qk : k < l.length
          · have ed : (dEnts l).take (k + 1) = (dEnts l).take k ++ [(1, l[k].1, l[k].2)] := by
              rw [take_snoc (by rw [ld]; exact qk)]
              unfold dEnts
              rw [List.getElem_map]
            (((conv => whnf); repeat ((with_reducible first | refine BCase.tt ?_ | refine BCase.ff ?_); (conv => whnf))); repeat' ((first | with_reducible refine Wr.u8 ?_ | ((with_reducible first | refine Wr.ci ?wxs ?_ | refine Wr.c3 ?wxs ?_ | refine Wr.c6 ?wxs ?_ | refine BCase.dt ?wxs ?_); case wxs => (first | omega | (simp only [lens, true_and, and_true]; (try omega); done))) | ((with_reducible refine BCase.df ?wxs ?_); case wxs => (first | omega | (simp only [lens, true_and, and_true]; (try omega); done))) | ((with_reducible refine Need.mk ?wxs ?_); case wxs => first | (first | omega | (simp only [lens, true_and, and_true]; (try omega); done)) | decide | kernel_rfl) | refine BCase.t (by decide) ?_ | refine BCase.f (by decide) ?_ | (refine Idx.mapI k rfl qk ?_) | (refine CallP.ret [(FK, 20), (FK1, 91), (NK, 74)] _ _ _ _ _ _ _ (s_data (J ++ jHot l.length ++ (dEnts l).take k) l[k].1 l[k].2 (by rw [List.length_append, List.length_take, lH]; omega)) rfl rfl rfl rfl ⟨rfl, rfl, trivial⟩ ?_) | with_reducible (first | refine EmpOr.app ?_ | refine BCase.not ?_ | refine BCase.and ?_ | refine BCase.or ?_ | refine BCase.d (fun _ => ?_) (fun _ => ?_))) <;> ((conv => whnf); repeat ((with_reducible first | refine BCase.tt ?_ | refine BCase.ff ?_); (conv => whnf)))))
            exact ⟨k + 1, by omega, by omega, [(2, 2), (20, 20), (91, 74)], rfl, rfl, ⟨⟨rfl, rfl, rfl⟩, ⟨rfl, rfl, rfl⟩, .inl rfl, .inl rfl, PLe.int (by omega), trivial⟩, ⟨rfl, rfl, .inl rfl, .inl rfl, .inl rfl, .inl rfl, rfl⟩, ⟨rfl, rfl, ⟨rfl, rfl, rfl, rfl, by rw [ed, ← List.append_assoc]⟩, rfl⟩, ⟨rfl, rfl, rfl⟩, trivial⟩
          · have ek : (dEnts l).take k = dEnts l := List.take_of_length_le (by omega)
            rw [ek]
            (((conv => whnf); repeat ((with_reducible first | refine BCase.tt ?_ | refine BCase.ff ?_); (conv => whnf))); repeat' ((first | with_reducible refine Wr.u8 ?_ | ((with_reducible first | refine Wr.ci ?wxs ?_ | refine Wr.c3 ?wxs ?_ | refine Wr.c6 ?wxs ?_ | refine BCase.dt ?wxs ?_); case wxs => (first | omega | (simp only [lens, true_and, and_true]; (try omega); done))) | ((with_reducible refine BCase.df ?wxs ?_); case wxs => (first | omega | (simp only [lens, true_and, and_true]; (try omega); done))) | ((with_reducible refine Need.mk ?wxs ?_); case wxs => first | (first | omega | (simp only [lens, true_and, and_true]; (try omega); done)) | decide | kernel_rfl) | refine BCase.t (by decide) ?_ | refine BCase.f (by decide) ?_ | (refine CallP.ret [(FK, 20), (FK1, 91), (NK, 77)] _ _ _ _ _ _ _ (s_cold (J ++ jHot l.length ++ dEnts l) (by rw [List.length_append, lH]; omega)) rfl rfl rfl rfl ⟨rfl, rfl, trivial⟩ ?_) | with_reducible (first | refine EmpOr.app ?_ | refine BCase.not ?_ | refine BCase.and ?_ | refine BCase.or ?_ | refine BCase.d (fun _ => ?_) (fun _ => ?_))) <;> ((conv => whnf); repeat ((with_reducible first | refine BCase.tt ?_ | refine BCase.ff ?_); (conv => whnf)))))
            refine Ret.eq ?_
            unfold stepsO
            rw [hJ]
  · rw [if_neg h]
    (((conv => whnf); repeat ((with_reducible first | refine BCase.tt ?_ | refine BCase.ff ?_); (conv => whnf))); repeat' ((first | with_reducible refine Wr.u8 ?_ | ((with_reducible first | refine Wr.ci ?wxs ?_ | refine Wr.c3 ?wxs ?_ | refine Wr.c6 ?wxs ?_ | refine BCase.dt ?wxs ?_); case wxs => (first | omega | (simp only [lens, true_and, and_true]; (try omega); done))) | ((with_reducible refine BCase.df ?wxs ?_); case wxs => (first | omega | (simp only [lens, true_and, and_true]; (try omega); done))) | ((with_reducible refine Need.mk ?wxs ?_); case wxs => first | (first | omega | (simp only [lens, true_and, and_true]; (try omega); done)) | decide | kernel_rfl) | refine BCase.t (by decide) ?_ | refine BCase.f (by decide) ?_ | refine CallP.pure _ rfl _ (pr) ?_ | with_reducible (first | refine EmpOr.app ?_ | refine BCase.not ?_ | refine BCase.and ?_ | refine BCase.or ?_ | refine BCase.d (fun _ => ?_) (fun _ => ?_))) <;> ((conv => whnf); repeat ((with_reducible first | refine BCase.tt ?_ | refine BCase.ff ?_); (conv => whnf)))))
    exact Ret.le ⟨.inr ⟨⟨3, rfl⟩, .inl rfl⟩, .inl rfl, rfl⟩
theorem p_onebyteN (n : Int) : Pure Try.prog 36 [pInt .i64 n] (pStr (tx [by1 n])) := by
  refine pure_of Try.func36 (by rfl) rfl (by kernel_rfl) (by rfl) ?_
  (((conv => whnf); repeat ((with_reducible first | refine BCase.tt ?_ | refine BCase.ff ?_); (conv => whnf))); repeat' ((first | with_reducible refine Wr.u8 ?_ | ((with_reducible first | refine Wr.ci ?wxs ?_ | refine Wr.c3 ?wxs ?_ | refine Wr.c6 ?wxs ?_ | refine BCase.dt ?wxs ?_); case wxs => (first | omega | (simp only [lens, true_and, and_true]; (try omega); done))) | ((with_reducible refine BCase.df ?wxs ?_); case wxs => (first | omega | (simp only [lens, true_and, and_true]; (try omega); done))) | ((with_reducible refine Need.mk ?wxs ?_); case wxs => first | (first | omega | (simp only [lens, true_and, and_true]; (try omega); done)) | decide | kernel_rfl) | refine BCase.t (by decide) ?_ | refine BCase.f (by decide) ?_ | with_reducible (first | refine EmpOr.app ?_ | refine BCase.not ?_ | refine BCase.and ?_ | refine BCase.or ?_ | refine BCase.d (fun _ => ?_) (fun _ => ?_))) <;> ((conv => whnf); repeat ((with_reducible first | refine BCase.tt ?_ | refine BCase.ff ?_); (conv => whnf)))))
  refine Bytes.of (l := [by1 n]) rfl ?_
  (((conv => whnf); repeat ((with_reducible first | refine BCase.tt ?_ | refine BCase.ff ?_); (conv => whnf))); repeat' ((first | with_reducible refine Wr.u8 ?_ | ((with_reducible first | refine Wr.ci ?wxs ?_ | refine Wr.c3 ?wxs ?_ | refine Wr.c6 ?wxs ?_ | refine BCase.dt ?wxs ?_); case wxs => (first | omega | (simp only [lens, true_and, and_true]; (try omega); done))) | ((with_reducible refine BCase.df ?wxs ?_); case wxs => (first | omega | (simp only [lens, true_and, and_true]; (try omega); done))) | ((with_reducible refine Need.mk ?wxs ?_); case wxs => first | (first | omega | (simp only [lens, true_and, and_true]; (try omega); done)) | decide | kernel_rfl) | refine BCase.t (by decide) ?_ | refine BCase.f (by decide) ?_ | with_reducible (first | refine EmpOr.app ?_ | refine BCase.not ?_ | refine BCase.and ?_ | refine BCase.or ?_ | refine BCase.d (fun _ => ?_) (fun _ => ?_))) <;> ((conv => whnf); repeat ((with_reducible first | refine BCase.tt ?_ | refine BCase.ff ?_); (conv => whnf)))))
  exact Ret.mk rfl
theorem by1_mod' (n : Int) : by1 (n % 256) = by1 n := by unfold by1; rw [Int.emod_emod_of_dvd _ (by decide)]
theorem p_two (n : Int) (h0 : 0 ≤ n) (h1 : n ≤ 9223372036854775807) : Pure Try.prog 34 [pInt .i64 n] (pStr (twoB n)) := by
  have e1 := tdiv_nn h0 256
  have e2 := tmod_nn h0 256
  refine pure_of Try.func34 (by rfl) rfl (by kernel_rfl) (by rfl) ?_
  (((conv => whnf); repeat ((with_reducible first | refine BCase.tt ?_ | refine BCase.ff ?_); (conv => whnf))); repeat' ((first | with_reducible refine Wr.u8 ?_ | ((with_reducible first | refine Wr.ci ?wxs ?_ | refine Wr.c3 ?wxs ?_ | refine Wr.c6 ?wxs ?_ | refine BCase.dt ?wxs ?_); case wxs => (first | omega | (simp only [lens, true_and, and_true]; (try omega); done))) | ((with_reducible refine BCase.df ?wxs ?_); case wxs => (first | omega | (simp only [lens, true_and, and_true]; (try omega); done))) | ((with_reducible refine Need.mk ?wxs ?_); case wxs => first | (first | omega | (simp only [lens, true_and, and_true]; (try omega); done)) | decide | kernel_rfl) | refine BCase.t (by decide) ?_ | refine BCase.f (by decide) ?_ | refine CallP.pure _ rfl _ (p_onebyteN _) ?_ | with_reducible (first | refine EmpOr.app ?_ | refine BCase.not ?_ | refine BCase.and ?_ | refine BCase.or ?_ | refine BCase.d (fun _ => ?_) (fun _ => ?_))) <;> ((conv => whnf); repeat ((with_reducible first | refine BCase.tt ?_ | refine BCase.ff ?_); (conv => whnf)))))
  refine Ret.str ?_
  unfold twoB
  rw [tx_append, e1, e2, by1_mod']; rfl
theorem p_endops : Pure Try.prog 37 [] (.d (.c (opsC endO))) := by
  refine pure_of Try.func37 (by rfl) rfl (by kernel_rfl) (by rfl) ?_
  (((conv => whnf); repeat ((with_reducible first | refine BCase.tt ?_ | refine BCase.ff ?_); (conv => whnf))); repeat' ((first | with_reducible refine Wr.u8 ?_ | ((with_reducible first | refine Wr.ci ?wxs ?_ | refine Wr.c3 ?wxs ?_ | refine Wr.c6 ?wxs ?_ | refine BCase.dt ?wxs ?_); case wxs => (first | omega | (simp only [lens, true_and, and_true]; (try omega); done))) | ((with_reducible refine BCase.df ?wxs ?_); case wxs => (first | omega | (simp only [lens, true_and, and_true]; (try omega); done))) | ((with_reducible refine Need.mk ?wxs ?_); case wxs => first | (first | omega | (simp only [lens, true_and, and_true]; (try omega); done)) | decide | kernel_rfl) | refine BCase.t (by decide) ?_ | refine BCase.f (by decide) ?_ | with_reducible (first | refine EmpOr.app ?_ | refine BCase.not ?_ | refine BCase.and ?_ | refine BCase.or ?_ | refine BCase.d (fun _ => ?_) (fun _ => ?_))) <;> ((conv => whnf); repeat ((with_reducible first | refine BCase.tt ?_ | refine BCase.ff ?_); (conv => whnf)))))
  exact Ret.mk rfl
theorem p_stepsof (s : Str) (l : List DiskP.Wr) (h1 : s.1.2.length ≤ 140737488355328) (h2 : s.2.2.length ≤ 140737488355328) (hl : l.length ≤ 140737488355328) (hi : ∀ w ∈ l, okInt w.1) : Pure Try.prog 12 [stV s, .d (.c (wrsC l))] (.tup [.d (.c (opsC (stepsR s l))), pInt .i64 (stepsE s l)]) := by
  have pr := p_stepscheck s l h1 h2 hl hi
  unfold stepsR
  refine pure_of Try.func12 (by rfl) rfl (by kernel_rfl) (by rfl) ?_
  by_cases h : stepsE s l = 0
  · obtain ⟨q1, q2, q3, q4, q5, q6⟩ := stepsE_ok h
    have ok := badWr_ok q6
    have e1 : (l.map encW).length = l.length := List.length_map ..
    rw [if_pos h]
    rw [h] at pr ⊢
    (((conv => whnf); repeat ((with_reducible first | refine BCase.tt ?_ | refine BCase.ff ?_); (conv => whnf))); repeat' ((first | with_reducible refine Wr.u8 ?_ | ((with_reducible first | refine Wr.ci ?wxs ?_ | refine Wr.c3 ?wxs ?_ | refine Wr.c6 ?wxs ?_ | refine BCase.dt ?wxs ?_); case wxs => (first | omega | (simp only [lens, true_and, and_true]; (try omega); done))) | ((with_reducible refine BCase.df ?wxs ?_); case wxs => (first | omega | (simp only [lens, true_and, and_true]; (try omega); done))) | ((with_reducible refine Need.mk ?wxs ?_); case wxs => first | (first | omega | (simp only [lens, true_and, and_true]; (try omega); done)) | decide | kernel_rfl) | refine BCase.t (by decide) ?_ | refine BCase.f (by decide) ?_ | refine CallP.pure _ rfl _ (pr) ?_ | with_reducible (first | refine EmpOr.app ?_ | refine BCase.not ?_ | refine BCase.and ?_ | refine BCase.or ?_ | refine BCase.d (fun _ => ?_) (fun _ => ?_))) <;> ((conv => whnf); repeat ((with_reducible first | refine BCase.tt ?_ | refine BCase.ff ?_); (conv => whnf)))))
    refine LoopC.mk Nat (fun j => [(2, .d (.ptr 2 0)), (1, .d (.c (wrsC l))), (7, .d (.app 90 67 3 (((jEnts s.1.1 l).take j).map encO))), (8, pInt .i64 j)]) (fun j => [(2, storeBox s), (90, opT)]) [2, 90] (fun j => j ≤ l.length) (fun j => l.length - j) 0 (Nat.zero_le _) ?start ?round
    case start => exact ⟨[(2, 2)], rfl, rfl, ⟨⟨rfl, rfl, rfl⟩, .inl rfl, ⟨rfl, rfl, Nat.zero_lt_succ _, rfl, rfl⟩, .inl rfl, trivial⟩, ⟨rfl, rfl, .inl rfl, .inl rfl, .inl rfl, .inl rfl, rfl⟩, ⟨rfl, Nat.zero_lt_succ _⟩, trivial⟩
    case round =>
      intro j hj
      have lt : (((jEnts s.1.1 l).take j).map encO).length = j := by rw [List.length_map, List.length_take, jEnts_len]; omega
      by_cases q : j < l.length
      · obtain ⟨o1, o2, o3⟩ := ok _ (List.getElem_mem q)
        obtain ⟨o4, o5⟩ := inPlace_lt o1
        have pt := p_two l[j].1 o4 (by omega)
        have pp := p_pageat s.1.1 l[j].1
        have je := jEnts_at s.1.1 q
        have ts : (twoB l[j].1).size = 2 := rfl
        (((conv => whnf); repeat ((with_reducible first | refine BCase.tt ?_ | refine BCase.ff ?_); (conv => whnf))); repeat' ((first | with_reducible refine Wr.u8 ?_ | ((with_reducible first | refine Wr.ci ?wxs ?_ | refine Wr.c3 ?wxs ?_ | refine Wr.c6 ?wxs ?_ | refine BCase.dt ?wxs ?_); case wxs => (first | omega | (simp only [lens, true_and, and_true]; (try omega); done))) | ((with_reducible refine BCase.df ?wxs ?_); case wxs => (first | omega | (simp only [lens, true_and, and_true]; (try omega); done))) | ((with_reducible refine Need.mk ?wxs ?_); case wxs => first | (first | omega | (simp only [lens, true_and, and_true]; (try omega); done)) | decide | kernel_rfl) | refine BCase.t (by decide) ?_ | refine BCase.f (by decide) ?_ | (refine Idx.mapI j rfl q ?_) | refine CallP.pure _ rfl _ (pt) ?_ | refine CallP.pure _ rfl _ (pp) ?_ | (refine Need.by 32 rfl (by rw [lt]; simp only [List.length_singleton]; omega) ?_) | with_reducible (first | refine EmpOr.app ?_ | refine BCase.not ?_ | refine BCase.and ?_ | refine BCase.or ?_ | refine BCase.d (fun _ => ?_) (fun _ => ?_))) <;> ((conv => whnf); repeat ((with_reducible first | refine BCase.tt ?_ | refine BCase.ff ?_); (conv => whnf)))))
        exact ⟨j + 1, by omega, by omega, [(2, 2), (90, 43)], rfl, rfl, ⟨⟨rfl, rfl, rfl⟩, .inl rfl, ⟨rfl, rfl, rfl, rfl, by rw [je, List.map_append]; rfl⟩, PLe.int (by omega), trivial⟩, ⟨rfl, rfl, .inl rfl, .inl rfl, .inl rfl, .inl rfl, rfl⟩, ⟨rfl, rfl, rfl⟩, trivial⟩
      · have ej : (jEnts s.1.1 l).take j = jEnts s.1.1 l := List.take_of_length_le (by rw [jEnts_len]; omega)
        have lj := jEnts_len s.1.1 l
        rw [ej] at lt ⊢
        generalize hJ : jEnts s.1.1 l = J at *
        have po := (p_onebyteN (l.length : Int)).to (args' := [pInt .i64 ((l.map encW).length : Int)]) (by rw [e1]) rfl
        (((conv => whnf); repeat ((with_reducible first | refine BCase.tt ?_ | refine BCase.ff ?_); (conv => whnf))); repeat' ((first | with_reducible refine Wr.u8 ?_ | ((with_reducible first | refine Wr.ci ?wxs ?_ | refine Wr.c3 ?wxs ?_ | refine Wr.c6 ?wxs ?_ | refine BCase.dt ?wxs ?_); case wxs => (first | omega | (simp only [lens, true_and, and_true]; (try omega); done))) | ((with_reducible refine BCase.df ?wxs ?_); case wxs => (first | omega | (simp only [lens, true_and, and_true]; (try omega); done))) | ((with_reducible refine Need.mk ?wxs ?_); case wxs => first | (first | omega | (simp only [lens, true_and, and_true]; (try omega); done)) | decide | kernel_rfl) | refine BCase.t (by decide) ?_ | refine BCase.f (by decide) ?_ | refine CallP.pure _ rfl _ (po) ?_ | (refine Need.by 32 rfl (by rw [lt]; simp only [List.length_cons, List.length_nil]; omega) ?_) | with_reducible (first | refine EmpOr.app ?_ | refine BCase.not ?_ | refine BCase.and ?_ | refine BCase.or ?_ | refine BCase.d (fun _ => ?_) (fun _ => ?_))) <;> ((conv => whnf); repeat ((with_reducible first | refine BCase.tt ?_ | refine BCase.ff ?_); (conv => whnf)))))
        have eH : J.map encO ++ [encO ((4 : Int), (0 : Int), (⟨#[]⟩ : ByteArray)), encO ((2 : Int), (0 : Int), (⟨#[74]⟩ : ByteArray) ++ tx [by1 l.length]), encO ((4 : Int), (0 : Int), (⟨#[]⟩ : ByteArray))] = (J ++ jHot l.length).map encO := by
          rw [List.map_append, show (⟨#[74]⟩ : ByteArray) ++ tx [by1 l.length] = jHead l.length from tx_append [74] [by1 l.length]]; rfl
        have lH : (J ++ jHot l.length).length = l.length + 3 := by simp [jHot, lj]
        refine LoopC.mk Nat (fun j => [(2, .d (.ptr 2 0)), (1, .d (.c (wrsC l))), (7, .d (.app 91 67 3 ((J ++ jHot l.length ++ (dEnts l).take j).map encO))), (9, pInt .i64 j)]) (fun j => [(2, storeBox s), (91, opT)]) [2, 91] (fun j => j ≤ l.length) (fun j => l.length - j) 0 (Nat.zero_le _) ?start2 ?round2
        case start2 => exact ⟨[(2, 2), (91, 53)], rfl, rfl, ⟨⟨rfl, rfl, rfl⟩, .inl rfl, ⟨rfl, rfl, rfl, rfl, by rw [List.take_zero, List.append_nil]; exact eH⟩, .inl rfl, trivial⟩, ⟨rfl, rfl, .inl rfl, .inl rfl, .inl rfl, .inl rfl, rfl⟩, ⟨rfl, rfl, rfl⟩, trivial⟩
        case round2 =>
          intro k hk
          have ld : (dEnts l).length = l.length := by unfold dEnts; exact List.length_map ..
          have lt2 : ((J ++ jHot l.length ++ (dEnts l).take k).map encO).length = l.length + 3 + k := by rw [List.length_map, List.length_append, List.length_take, lH, ld]; omega
          by_cases qk : k < l.length
          · have ed : (dEnts l).take (k + 1) = (dEnts l).take k ++ [(1, l[k].1, l[k].2)] := by
              rw [take_snoc (by rw [ld]; exact qk)]
              unfold dEnts
              rw [List.getElem_map]
            (((conv => whnf); repeat ((with_reducible first | refine BCase.tt ?_ | refine BCase.ff ?_); (conv => whnf))); repeat' ((first | with_reducible refine Wr.u8 ?_ | ((with_reducible first | refine Wr.ci ?wxs ?_ | refine Wr.c3 ?wxs ?_ | refine Wr.c6 ?wxs ?_ | refine BCase.dt ?wxs ?_); case wxs => (first | omega | (simp only [lens, true_and, and_true]; (try omega); done))) | ((with_reducible refine BCase.df ?wxs ?_); case wxs => (first | omega | (simp only [lens, true_and, and_true]; (try omega); done))) | ((with_reducible refine Need.mk ?wxs ?_); case wxs => first | (first | omega | (simp only [lens, true_and, and_true]; (try omega); done)) | decide | kernel_rfl) | refine BCase.t (by decide) ?_ | refine BCase.f (by decide) ?_ | (refine Idx.mapI k rfl qk ?_) | (refine Need.by 32 rfl (by rw [lt2]; simp only [List.length_singleton]; omega) ?_) | with_reducible (first | refine EmpOr.app ?_ | refine BCase.not ?_ | refine BCase.and ?_ | refine BCase.or ?_ | refine BCase.d (fun _ => ?_) (fun _ => ?_))) <;> ((conv => whnf); repeat ((with_reducible first | refine BCase.tt ?_ | refine BCase.ff ?_); (conv => whnf)))))
            exact ⟨k + 1, by omega, by omega, [(2, 2), (91, 73)], rfl, rfl, ⟨⟨rfl, rfl, rfl⟩, .inl rfl, ⟨rfl, rfl, rfl, rfl, by rw [ed, ← List.append_assoc]; exact (List.map_append (l₁ := J ++ jHot l.length ++ (dEnts l).take k) (l₂ := [(1, l[k].1, l[k].2)]) (f := encO)).symm⟩, PLe.int (by omega), trivial⟩, ⟨rfl, rfl, .inl rfl, .inl rfl, .inl rfl, .inl rfl, rfl⟩, ⟨rfl, rfl, rfl⟩, trivial⟩
          · have ek : (dEnts l).take k = dEnts l := List.take_of_length_le (by omega)
            rw [ek] at lt2 ⊢
            (((conv => whnf); repeat ((with_reducible first | refine BCase.tt ?_ | refine BCase.ff ?_); (conv => whnf))); repeat' ((first | with_reducible refine Wr.u8 ?_ | ((with_reducible first | refine Wr.ci ?wxs ?_ | refine Wr.c3 ?wxs ?_ | refine Wr.c6 ?wxs ?_ | refine BCase.dt ?wxs ?_); case wxs => (first | omega | (simp only [lens, true_and, and_true]; (try omega); done))) | ((with_reducible refine BCase.df ?wxs ?_); case wxs => (first | omega | (simp only [lens, true_and, and_true]; (try omega); done))) | ((with_reducible refine Need.mk ?wxs ?_); case wxs => first | (first | omega | (simp only [lens, true_and, and_true]; (try omega); done)) | decide | kernel_rfl) | refine BCase.t (by decide) ?_ | refine BCase.f (by decide) ?_ | refine CallP.pure _ rfl _ (p_endops) ?_ | (refine Need.by 32 rfl (by rw [lt2]; simp only [List.length_map, endO, List.length_cons, List.length_nil]; omega) ?_) | with_reducible (first | refine EmpOr.app ?_ | refine BCase.not ?_ | refine BCase.and ?_ | refine BCase.or ?_ | refine BCase.d (fun _ => ?_) (fun _ => ?_))) <;> ((conv => whnf); repeat ((with_reducible first | refine BCase.tt ?_ | refine BCase.ff ?_); (conv => whnf)))))
            refine Ret.eq ?_
            unfold stepsO
            rw [hJ]
            have em := List.map_append (f := encO) (l₁ := J ++ jHot l.length ++ dEnts l) (l₂ := endO)
            show _ = PV.tup [.d (.c (.sl 3 (List.map encO (J ++ jHot l.length ++ dEnts l ++ endO)))), _]
            rw [em]
  · rw [if_neg h]
    (((conv => whnf); repeat ((with_reducible first | refine BCase.tt ?_ | refine BCase.ff ?_); (conv => whnf))); repeat' ((first | with_reducible refine Wr.u8 ?_ | ((with_reducible first | refine Wr.ci ?wxs ?_ | refine Wr.c3 ?wxs ?_ | refine Wr.c6 ?wxs ?_ | refine BCase.dt ?wxs ?_); case wxs => (first | omega | (simp only [lens, true_and, and_true]; (try omega); done))) | ((with_reducible refine BCase.df ?wxs ?_); case wxs => (first | omega | (simp only [lens, true_and, and_true]; (try omega); done))) | ((with_reducible refine Need.mk ?wxs ?_); case wxs => first | (first | omega | (simp only [lens, true_and, and_true]; (try omega); done)) | decide | kernel_rfl) | refine BCase.t (by decide) ?_ | refine BCase.f (by decide) ?_ | refine CallP.pure _ rfl _ (pr) ?_ | with_reducible (first | refine EmpOr.app ?_ | refine BCase.not ?_ | refine BCase.and ?_ | refine BCase.or ?_ | refine BCase.d (fun _ => ?_) (fun _ => ?_))) <;> ((conv => whnf); repeat ((with_reducible first | refine BCase.tt ?_ | refine BCase.ff ?_); (conv => whnf)))))
    exact Ret.le ⟨.inr ⟨⟨3, rfl⟩, .inl rfl⟩, .inl rfl, rfl⟩
end Go.Proofs.Ytohlkegmmbdlaaa.Pm
end
