/- The plain machine's state, and what of the model's world it tells. -/
import Derived.Test.YtohlkegmmbdlaaaPmRep
import Derived.Maps.AppendAt
import Derived.Deep.MidRow
namespace Go.Proofs.Ytohlkegmmbdlaaa.Pm
open Go.RowKit

abbrev Sg := Nat → Option (Option Nat × Nat)

def upd {α : Type} (f : Nat → α) (k : Nat) (x : α) : Nat → α := fun j => bif Nat.beq j k then x else f j
theorem upd_same {α : Type} (f : Nat → α) (k : Nat) (x : α) : upd f k x k = x := by unfold upd; rw [show Nat.beq k k = true from Nat.beq_refl k]; rfl
theorem upd_ne {α : Type} (f : Nat → α) {k j : Nat} (x : α) (h : j ≠ k) : upd f k x j = f j := by
  unfold upd
  have : Nat.beq j k = false := by rw [Bool.eq_false_iff]; intro e; exact h (Nat.eq_of_beq_eq_true e)
  rw [this]; rfl
theorem upd_comm {α : Type} (f : Nat → α) {k j : Nat} (x y : α) (h : j ≠ k) : upd (upd f k x) j y = upd (upd f j y) k x := by
  funext i
  by_cases h1 : i = j
  · subst h1; rw [upd_same, upd_ne _ _ h, upd_same]
  · rw [upd_ne _ _ h1]
    by_cases h2 : i = k
    · subst h2; rw [upd_same, upd_same]
    · rw [upd_ne _ _ h2, upd_ne _ _ h2, upd_ne _ _ h1]

/-- where a call began: its world; what was frozen there for good; which elder blocks it may write; what was frozen in all; which blocks the keys that it was handed stand for; what the frame has deferred -/
structure Ctx where
  w0 : World
  F0 : Fzn
  ext : Nat → Prop
  F1 : Fzn
  σ0 : Sg
  df : List Deferred
abbrev Ctx.n0 (c : Ctx) : Nat := c.w0.heap.size
structure Ctx.Ok (c : Ctx) : Prop where
  fz : ∀ b o, c.F0 b o → b < c.n0 ∧ ¬ c.ext b
  gl : GL c.w0
  gb : ∀ b, GB b → ¬ c.ext b
/-- blocks that may be written -/
def Ctx.own (c : Ctx) (b : Nat) : Prop := c.n0 ≤ b ∨ c.ext b

/-- cell o may be written under a key -/
def HB.shut (m o : Nat) : HB → Prop
  | .box _ _ => False
  | .tail _ sz => o < m * sz
  | .arr _ _ _ => False
  | .mp _ => False
  | .darr _ _ _ => False
/-- frozen: what was so at the call's begin; of the call's own blocks what no key may write -/
def Fz (c : Ctx) (σ : Sg) (h : Hp) (hs : Nat) : Fzn := fun b o =>
  (b < c.n0 ∧ c.F0 b o) ∨ (c.own b ∧ b < hs ∧ ∀ k m hb, h k = some hb → σ k = some (some b, m) → hb.shut m o)

section
variable (σ : Sg) (F : Fzn) (w : World)
mutual
def DRep : D → Value → Prop
  | .c x, u => CRep F w x u
  | .app k e sz l, u => 0 < sz ∧ ((σ k = some (none, l.length) ∧ l = [] ∧ u = .slice none 0 0) ∨
      ∃ (g cap : Nat) (cur : Array Value) (fr : Nat × Nat), σ k = some (some g, l.length) ∧ u = .slice (some ⟨g, 0, none⟩) l.length cap ∧ l.length ≤ cap ∧ cap ≤ maxLen ∧
        w.heap[g]? = some (Obj.cells cur e fr) ∧ cur.size = cap * sz ∧ RowsAt F w sz g 0 l)
  | .ptr k off, u => ∃ g n, σ k = some (some g, n) ∧ u = .pointer (some ⟨g, off, none⟩)
  | .arr k e sz lo n, u => 0 < sz ∧ ((∃ m, σ k = some (none, m) ∧ n = 0 ∧ ∃ b0 : Option Addr, u = .slice b0 0 0) ∨
      ∃ (g m off cap : Nat) (cur : Array Value) (fr : Nat × Nat), σ k = some (some g, m) ∧ u = .slice (some ⟨g, off, none⟩) n cap ∧ n ≤ cap ∧ cap ≤ maxLen ∧
        w.heap[g]? = some (Obj.cells cur e fr) ∧ off + cap * sz ≤ cur.size ∧ (0 < cap → off = lo * sz))
  | .elt k sz i off, u => ∃ g n, σ k = some (some g, n) ∧ u = .pointer (some ⟨g, i * sz + off, none⟩)
  | .clo f a l, u => ∃ us vs : List Value, u = .func (.func f) us.toArray vs.toArray ∧ DsRep a us ∧ DsRep l vs
  | .optp k off, u => u = .pointer none ∨ ∃ g n, σ k = some (some g, n) ∧ u = .pointer (some ⟨g, off, none⟩)
  | .data k e l, u => (l = [] ∧ ∃ p, u = .pointer p) ∨ (l ≠ [] ∧ ∃ (g : Nat) (cur : Array Value) (fr : Nat × Nat), σ k = some (some g, l.length) ∧ u = .pointer (some ⟨g, 0, none⟩) ∧
      w.heap[g]? = some (Obj.cells cur e fr) ∧ l.length ≤ cur.size ∧ l.length ≤ maxLen ∧ RowsAt F w 1 g 0 l)
  | .mp k, u => ∃ g n, σ k = some (some g, n) ∧ u = .map (some g)
  | .emp, u => ∃ a, u = .slice a 0 0
def DsRep : List D → List Value → Prop
  | [], [] => True
  | x :: xs, u :: us => DRep x u ∧ DsRep xs us
  | _, _ => False
end
mutual
def PRep : PV → Value → Prop
  | .d x, u => DRep σ F w x u
  | .agg l, u => ∃ xs : List Value, u = .agg xs.toArray ∧ DsRep σ F w l xs
  | .tup l, u => ∃ us : List Value, u = .tuple us.toArray ∧ PsRep l us
  | .any, _ => True
def PsRep : List PV → List Value → Prop
  | [], [] => True
  | x :: xs, u :: us => PRep x u ∧ PsRep xs us
  | _, _ => False
end
/-- what stands under a key -/
def HbOk (own : Nat → Prop) (k : Nat) : HB → Prop
  | .box T l => ∃ (g n : Nat) (cs : Array Value), σ k = some (some g, n) ∧ own g ∧ w.heap[g]? = some (Obj.cells cs T (0, 0)) ∧ DsRep σ F w l cs.toList
  | .tail e sz => 0 < sz ∧ ∃ ob n, σ k = some (ob, n) ∧ match ob with
      | none => n = 0
      | some g => own g ∧ ∃ cur : Array Value, w.heap[g]? = some (Obj.cells cur e (0, 0))
  | .arr e sz rows => 0 < sz ∧ (∀ r ∈ rows, r.length = sz) ∧ ∃ ob n, σ k = some (ob, n) ∧ match ob with
      | none => rows = []
      | some g => own g ∧ ∃ cur : Array Value, w.heap[g]? = some (Obj.cells cur e (0, 0)) ∧ rows.length * sz ≤ cur.size ∧ CsRep F w rows.flatten (cur.toList.take (rows.length * sz))
  | .mp l => ∃ (g n : Nat) (es : Array MapEntry) (clock : Nat), σ k = some (some g, n) ∧ own g ∧ w.heap[g]? = some (.map es clock) ∧ es.toList.map (fun e => (e.key, e.val)) = l.map (fun p => (Value.string p.1, p.2))
  | .darr e sz rows => 0 < sz ∧ (∀ r ∈ rows, r.length = sz) ∧ ∃ ob n, σ k = some (ob, n) ∧ match ob with
      | none => rows = []
      | some g => own g ∧ ∃ cur : Array Value, w.heap[g]? = some (Obj.cells cur e (0, 0)) ∧ rows.length * sz ≤ cur.size ∧ DsRep σ F w rows.flatten (cur.toList.take (rows.length * sz))
end

/-- blocks keep their type and how many cells they have -/
def Shape (w w' : World) : Prop := ∀ (g : Nat) (cur : Array Value) (e : TypeId) (fr : Nat × Nat), w.heap[g]? = some (Obj.cells cur e fr) → ∃ (cur' : Array Value) (fr' : Nat × Nat), w'.heap[g]? = some (Obj.cells cur' e fr') ∧ cur'.size = cur.size
theorem Shape.refl (w : World) : Shape w w := fun _ cur _ fr h => ⟨cur, fr, h, rfl⟩
theorem Shape.trans {a b c : World} (h : Shape a b) (k : Shape b c) : Shape a c := fun g cur e fr hg => by
  obtain ⟨c1, f1, h1, h2⟩ := h g cur e fr hg
  obtain ⟨c2, f2, h3, h4⟩ := k g c1 e f1 h1
  exact ⟨c2, f2, h3, h4.trans h2⟩
theorem Keeps.trans {F F1 F2 : Fzn} {a b c : World} (h : Keeps F F1 a b) (k : Keeps F1 F2 b c) : Keeps F F2 a c :=
  ⟨fun _ _ x => k.le _ _ (h.le _ _ x), fun _ _ x => (k.cell _ _ (h.le _ _ x)).trans (h.cell _ _ x)⟩

/-- one world behind another: what was known stays so -/
structure Evo (σ σ' : Sg) (F F' : Fzn) (w w' : World) : Prop where
  sg : ∀ k x, σ k = some x → σ' k = some x
  keeps : Keeps F F' w w'
  shape : Shape w w'

section
variable {σ σ' : Sg} {F F' : Fzn} {w w' : World}
theorem dsRep_nil : DsRep σ F w [] [] := by unfold DsRep; trivial
theorem dsRep_cons {x : D} {xs : List D} {u : Value} {us : List Value} (h1 : DRep σ F w x u) (h2 : DsRep σ F w xs us) : DsRep σ F w (x :: xs) (u :: us) := by unfold DsRep; exact ⟨h1, h2⟩
theorem dsRep_nil_inv {us : List Value} (h : DsRep σ F w [] us) : us = [] := by
  cases us with
  | nil => rfl
  | cons _ _ => unfold DsRep at h; exact h.elim
theorem dsRep_inv {x : D} {xs : List D} {us : List Value} (h : DsRep σ F w (x :: xs) us) : ∃ u vs, us = u :: vs ∧ DRep σ F w x u ∧ DsRep σ F w xs vs := by
  cases us with
  | nil => unfold DsRep at h; exact h.elim
  | cons u vs => unfold DsRep at h; exact ⟨u, vs, rfl, h⟩
mutual
theorem DRep.evo (ev : Evo σ σ' F F' w w') : ∀ (x : D) (u : Value), DRep σ F w x u → DRep σ' F' w' x u
  | .c x, u, h => by unfold DRep at h ⊢; exact CRep.keeps ev.keeps x u h
  | .app k e sz l, u, h => by
    unfold DRep at h ⊢
    obtain ⟨h0, h⟩ := h
    refine ⟨h0, ?_⟩
    rcases h with ⟨h1, h2, h3⟩ | ⟨g, cap, cur, fr, h1, h3, h4, h5, h6, h7, h8⟩
    · exact .inl ⟨ev.sg _ _ h1, h2, h3⟩
    · obtain ⟨cur', fr', h9, h10⟩ := ev.shape _ _ _ _ h6
      exact .inr ⟨g, cap, cur', fr', ev.sg _ _ h1, h3, h4, h5, h9, by omega, RowsAt.keeps ev.keeps sz g 0 l h8⟩
  | .ptr k off, u, h => by
    unfold DRep at h ⊢
    obtain ⟨g, n, h1, h2⟩ := h
    exact ⟨g, n, ev.sg _ _ h1, h2⟩
  | .arr k e sz lo n, u, h => by
    unfold DRep at h ⊢
    obtain ⟨h0, h⟩ := h
    refine ⟨h0, ?_⟩
    rcases h with ⟨m, h1, h2, h3⟩ | ⟨g, m, off, cap, cur, fr, h1, h2, h3, h4, h5, h6, h7⟩
    · exact .inl ⟨m, ev.sg _ _ h1, h2, h3⟩
    · obtain ⟨cur', fr', h9, h10⟩ := ev.shape _ _ _ _ h5
      exact .inr ⟨g, m, off, cap, cur', fr', ev.sg _ _ h1, h2, h3, h4, h9, by rw [h10]; exact h6, h7⟩
  | .elt k sz i off, u, h => by
    unfold DRep at h ⊢
    obtain ⟨g, n, h1, h2⟩ := h
    exact ⟨g, n, ev.sg _ _ h1, h2⟩
  | .clo f a l, u, h => by
    unfold DRep at h ⊢
    obtain ⟨us, vs, h1, h2, h3⟩ := h
    exact ⟨us, vs, h1, DsRep.evo ev a us h2, DsRep.evo ev l vs h3⟩
  | .optp k off, u, h => by
    unfold DRep at h ⊢
    exact h.imp id fun ⟨g, n, h1, h2⟩ => ⟨g, n, ev.sg _ _ h1, h2⟩
  | .data k e l, u, h => by
    unfold DRep at h ⊢
    rcases h with h | ⟨h0, g, cur, fr, h1, h2, h3, h4, h5, h6⟩
    · exact .inl h
    · obtain ⟨cur', fr', h9, h10⟩ := ev.shape _ _ _ _ h3
      exact .inr ⟨h0, g, cur', fr', ev.sg _ _ h1, h2, h9, by omega, h5, RowsAt.keeps ev.keeps 1 g 0 l h6⟩
  | .mp k, u, h => by
    unfold DRep at h ⊢
    obtain ⟨g, n, h1, h2⟩ := h
    exact ⟨g, n, ev.sg _ _ h1, h2⟩
  | .emp, u, h => by unfold DRep at h ⊢; exact h
theorem DsRep.evo (ev : Evo σ σ' F F' w w') : ∀ (l : List D) (us : List Value), DsRep σ F w l us → DsRep σ' F' w' l us
  | [], [], _ => by unfold DsRep; trivial
  | _ :: l, _ :: us, h => by unfold DsRep at h ⊢; exact ⟨DRep.evo ev _ _ h.1, DsRep.evo ev l us h.2⟩
  | [], _ :: _, h => by unfold DsRep at h; exact h.elim
  | _ :: _, [], h => by unfold DsRep at h; exact h.elim
end
mutual
theorem PRep.evo (ev : Evo σ σ' F F' w w') : ∀ (x : PV) (u : Value), PRep σ F w x u → PRep σ' F' w' x u
  | .d x, u, h => by unfold PRep at h ⊢; exact DRep.evo ev x u h
  | .agg l, u, h => by
    unfold PRep at h ⊢
    obtain ⟨xs, h1, h2⟩ := h
    exact ⟨xs, h1, DsRep.evo ev l xs h2⟩
  | .tup l, u, h => by
    unfold PRep at h ⊢
    obtain ⟨us, h1, h2⟩ := h
    exact ⟨us, h1, PsRep.evo ev l us h2⟩
  | .any, u, h => by unfold PRep; trivial
theorem PsRep.evo (ev : Evo σ σ' F F' w w') : ∀ (l : List PV) (us : List Value), PsRep σ F w l us → PsRep σ' F' w' l us
  | [], [], _ => by unfold PsRep; trivial
  | x :: xs, u :: us, h => by unfold PsRep at h ⊢; exact ⟨PRep.evo ev x u h.1, PsRep.evo ev xs us h.2⟩
  | [], _ :: _, h => by unfold PsRep at h; exact h.elim
  | _ :: _, [], h => by unfold PsRep at h; exact h.elim
end
theorem DsRep.len : ∀ {l : List D} {us : List Value}, DsRep σ F w l us → us.length = l.length
  | [], _, h => by rw [dsRep_nil_inv h]; rfl
  | _ :: _, _, h => by obtain ⟨u, vs, rfl, _, h2⟩ := dsRep_inv h; rw [List.length_cons, List.length_cons, DsRep.len h2]
theorem DsRep.append : ∀ {cs ds : List D} {us vs : List Value}, DsRep σ F w cs us → DsRep σ F w ds vs → DsRep σ F w (cs ++ ds) (us ++ vs)
  | [], _, _, _, h, k => by rw [dsRep_nil_inv h]; exact k
  | _ :: _, _, _, _, h, k => by obtain ⟨u, vs, rfl, h1, h2⟩ := dsRep_inv h; exact dsRep_cons h1 (DsRep.append h2 k)
theorem DsRep.take : ∀ {cs : List D} {us : List Value} (n : Nat), DsRep σ F w cs us → DsRep σ F w (cs.take n) (us.take n)
  | [], _, n, h => by rw [dsRep_nil_inv h]; simpa using dsRep_nil
  | c :: cs, us, 0, h => by simpa using dsRep_nil
  | c :: cs, _, n + 1, h => by obtain ⟨u, vs, rfl, h1, h2⟩ := dsRep_inv h; exact dsRep_cons h1 (DsRep.take n h2)
theorem DsRep.drop : ∀ {cs : List D} {us : List Value} (n : Nat), DsRep σ F w cs us → DsRep σ F w (cs.drop n) (us.drop n)
  | [], _, n, h => by rw [dsRep_nil_inv h]; simpa using dsRep_nil
  | c :: cs, us, 0, h => h
  | c :: cs, _, n + 1, h => by obtain ⟨u, vs, rfl, h1, h2⟩ := dsRep_inv h; exact DsRep.drop n h2
theorem DsRep.get : ∀ {cs : List D} {us : List Value} {j : Nat} {c : D}, DsRep σ F w cs us → cs[j]? = some c → ∃ u, us[j]? = some u ∧ DRep σ F w c u
  | [], _, _, _, _, h => by simp at h
  | c :: cs, _, 0, c', h, e => by
    obtain ⟨u, vs, rfl, h1, h2⟩ := dsRep_inv h
    simp only [List.getElem?_cons_zero, Option.some.injEq] at e
    subst e
    exact ⟨u, rfl, h1⟩
  | c :: cs, _, j + 1, c', h, e => by
    obtain ⟨u, vs, rfl, h1, h2⟩ := dsRep_inv h
    simp only [List.getElem?_cons_succ] at e ⊢
    exact DsRep.get h2 e
theorem dsRep_of_cs : ∀ {cs : List C} {us : List Value}, CsRep F w cs us → DsRep σ F w (cs.map D.c) us
  | [], _, h => by rw [csRep_nil_inv h]; exact dsRep_nil
  | _ :: _, _, h => by obtain ⟨u, vs, rfl, h1, h2⟩ := csRep_inv h; exact dsRep_cons (by unfold DRep; exact h1) (dsRep_of_cs h2)
theorem oneCell_of_drep {x : D} {u : Value} (h : DRep σ F w x u) : u.oneCell' = true := by
  cases x with
  | c x => unfold DRep at h; exact oneCell_of_rep h
  | app k e sz l =>
    unfold DRep at h
    obtain ⟨_, ⟨_, _, rfl⟩ | ⟨g, cap, cur, _, _, rfl, _⟩⟩ := h <;> rfl
  | ptr k off => unfold DRep at h; obtain ⟨g, n, _, rfl⟩ := h; rfl
  | arr k e sz lo n =>
    unfold DRep at h
    obtain ⟨_, ⟨_, _, _, _, rfl⟩ | ⟨_, _, _, _, _, _, _, rfl, _⟩⟩ := h <;> rfl
  | elt k sz i off => unfold DRep at h; obtain ⟨g, n, _, rfl⟩ := h; rfl
  | clo f a l => unfold DRep at h; obtain ⟨_, _, rfl, _⟩ := h; rfl
  | optp k off => unfold DRep at h; obtain rfl | ⟨_, _, _, rfl⟩ := h <;> rfl
  | data k e l => unfold DRep at h; obtain ⟨_, _, rfl⟩ | ⟨_, _, _, _, _, rfl, _⟩ := h <;> rfl
  | mp k => unfold DRep at h; obtain ⟨g, n, _, rfl⟩ := h; rfl
  | emp => unfold DRep at h; obtain ⟨a, rfl⟩ := h; rfl
theorem DsRep.one : ∀ {l : List D} {us : List Value}, DsRep σ F w l us → ∀ u ∈ us, u.oneCell' = true
  | [], _, h, u, hu => by rw [dsRep_nil_inv h] at hu; cases hu
  | _ :: cs, _, h, u, hu => by
    obtain ⟨x, vs, rfl, h1, h2⟩ := dsRep_inv h
    rcases List.mem_cons.1 hu with rfl | hu
    · exact oneCell_of_drep h1
    · exact DsRep.one h2 u hu
end

/-- what the plain machine says of the model's world -/
structure SW (c : Ctx) (σ : Sg) (h : Hp) (w : World) : Prop where
  os : w.os = c.w0.os
  tape : w.tape = c.w0.tape
  output : w.output = c.w0.output
  size : c.n0 ≤ w.heap.size
  block : ∀ b, b < c.n0 → ¬ c.ext b → w.heap[b]? = c.w0.heap[b]?
  hp : ∀ k hb, h k = some hb → HbOk σ (Fz c σ h w.heap.size) w c.own k hb
  inj : ∀ k k' g n n', h k ≠ none → h k' ≠ none → σ k = some (some g, n) → σ k' = some (some g, n') → k = k'
  kept : Keeps c.F1 (Fz c σ h w.heap.size) c.w0 w
  shape : Shape c.w0 w
  sg0 : ∀ k x, c.σ0 k = some x → σ k = some x
/-- the state: besides, what the slots hold -/
structure St (c : Ctx) (nt : Nat) (σ : Sg) (e : Env) (h : Hp) (a : Act) (w : World) : Prop extends SW c σ h w where
  env : ∀ t, PRep σ (Fz c σ h w.heap.size) w (e t) (a.tmps.getD t undef)
  defers : a.defers = c.df
  nt : a.tmps.size = nt

end Go.Proofs.Ytohlkegmmbdlaaa.Pm
