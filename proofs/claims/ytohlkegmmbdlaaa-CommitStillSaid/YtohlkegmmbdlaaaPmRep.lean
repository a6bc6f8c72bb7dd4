/- A plain machine beside the model's: its values are lists and records; what a value in memory stands for. -/
import Derived.Test.YtohlkegmmbdlaaaPmGl
namespace Go.Proofs.Ytohlkegmmbdlaaa.Pm
open Go.RowKit

/-- what a cell stands for: itself; a slice that is only read (rows of sz cells); an address at which the cells l lie for good -/
inductive C where
  | v (x : Value)
  | sl (sz : Nat) (l : List (List C))
  | ro (l : List C)
  | ifc (t : TypeId) (l : List C)
  | ifc1 (t : TypeId) (x : C)

/-- what a cell of the call's own may stand for besides: a slice that is being made (key k, elements of type e); an address in a box; a slice (n rows from row lo on) of an array of the call's own; an address in row i of it; a function with what it has bound and captured; nil, or an address in a box; the address at which a slice's elements (one cell each) begin; a map of the call's own; an empty slice without room -/
inductive D where
  | c (x : C)
  | app (k e sz : Nat) (l : List (List C))
  | ptr (k off : Nat)
  | arr (k e sz lo n : Nat)
  | elt (k sz i off : Nat)
  | clo (f : FuncId) (a l : List D)
  | optp (k off : Nat)
  | data (k e : Nat) (l : List (List C))
  | mp (k : Nat)
  | emp

inductive PV where
  | d (x : D)
  | agg (l : List D)
  | tup (l : List PV)
  | any

/-- what a key stands for -/
inductive HB where
  | box (t : Nat) (l : List D)
  | tail (e sz : Nat)
  | arr (e sz : Nat) (rows : List (List C))
  | mp (l : List (ByteArray × Value))
  | darr (e sz : Nat) (rows : List (List D))

abbrev Env := Nat → PV
abbrev Hp := Nat → Option HB
abbrev Fzn := Nat → Nat → Prop

mutual
def CRep (F : Fzn) (w : World) : C → Value → Prop
  | .v x, u => u = x ∧ x.oneCell' = true
  | .sl sz l, u => ∃ a cap, u = .slice a l.length cap ∧ l.length ≤ cap ∧ cap ≤ maxLen ∧ (a = none → cap = 0) ∧ (l = [] ∨ ∃ b off, a = some ⟨b, off, none⟩ ∧ RowsAt F w sz b off l)
  | .ro l, u => ∃ b off, u = .pointer (some ⟨b, off, none⟩) ∧ CsAt F w b off l
  | .ifc t l, u => ∃ us : List Value, u = .iface t (.agg us.toArray) ∧ CsRep F w l us
  | .ifc1 t x, u => ∃ v, u = .iface t v ∧ CRep F w x v
/-- cells one by one -/
def CsRep (F : Fzn) (w : World) : List C → List Value → Prop
  | [], [] => True
  | c :: cs, u :: us => CRep F w c u ∧ CsRep F w cs us
  | _, _ => False
def CsAt (F : Fzn) (w : World) (b : Nat) : Nat → List C → Prop
  | _, [] => True
  | off, c :: cs => (F b off ∧ ∃ u, w.cell? ⟨b, off, none⟩ = some u ∧ CRep F w c u) ∧ CsAt F w b (off + 1) cs
def RowsAt (F : Fzn) (w : World) (sz b : Nat) : Nat → List (List C) → Prop
  | _, [] => True
  | off, r :: rs => (r.length = sz ∧ CsAt F w b off r) ∧ RowsAt F w sz b (off + sz) rs
end

/-- what was frozen ahead is as it was, and frozen -/
structure Keeps (F F' : Fzn) (w w' : World) : Prop where
  le : ∀ b o, F b o → F' b o
  cell : ∀ b o, F b o → w'.cell? ⟨b, o, none⟩ = w.cell? ⟨b, o, none⟩

mutual
theorem CRep.keeps {F F' : Fzn} {w w' : World} (hk : Keeps F F' w w') : ∀ (c : C) (u : Value), CRep F w c u → CRep F' w' c u
  | .v _, _, h => by unfold CRep at h ⊢; exact h
  | .sl sz l, u, h => by
    unfold CRep at h ⊢
    obtain ⟨a, cap, h1, h2, h3, h4, h5⟩ := h
    exact ⟨a, cap, h1, h2, h3, h4, h5.imp id fun ⟨b, off, h6, h7⟩ => ⟨b, off, h6, RowsAt.keeps hk sz b off l h7⟩⟩
  | .ro l, u, h => by
    unfold CRep at h ⊢
    obtain ⟨b, off, h1, h2⟩ := h
    exact ⟨b, off, h1, CsAt.keeps hk b off l h2⟩
  | .ifc t l, u, h => by
    unfold CRep at h ⊢
    obtain ⟨us, h1, h2⟩ := h
    exact ⟨us, h1, CsRep.keeps hk l us h2⟩
  | .ifc1 t x, u, h => by
    unfold CRep at h ⊢
    obtain ⟨v, h1, h2⟩ := h
    exact ⟨v, h1, CRep.keeps hk x v h2⟩
theorem CsRep.keeps {F F' : Fzn} {w w' : World} (hk : Keeps F F' w w') : ∀ (cs : List C) (us : List Value), CsRep F w cs us → CsRep F' w' cs us
  | [], [], _ => by unfold CsRep; trivial
  | _ :: cs, _ :: us, h => by unfold CsRep at h ⊢; exact ⟨CRep.keeps hk _ _ h.1, CsRep.keeps hk cs us h.2⟩
  | [], _ :: _, h => by unfold CsRep at h; exact h.elim
  | _ :: _, [], h => by unfold CsRep at h; exact h.elim
theorem CsAt.keeps {F F' : Fzn} {w w' : World} (hk : Keeps F F' w w') (b : Nat) : ∀ (off : Nat) (l : List C), CsAt F w b off l → CsAt F' w' b off l
  | _, [], _ => by unfold CsAt; trivial
  | off, c :: cs, h => by
    unfold CsAt at h ⊢
    obtain ⟨⟨h0, u, h1, h2⟩, h3⟩ := h
    exact ⟨⟨hk.le _ _ h0, u, (hk.cell _ _ h0).trans h1, CRep.keeps hk c u h2⟩, CsAt.keeps hk b _ cs h3⟩
theorem RowsAt.keeps {F F' : Fzn} {w w' : World} (hk : Keeps F F' w w') (sz b : Nat) : ∀ (off : Nat) (l : List (List C)), RowsAt F w sz b off l → RowsAt F' w' sz b off l
  | _, [], _ => by unfold RowsAt; trivial
  | off, r :: rs, h => by
    unfold RowsAt at h ⊢
    obtain ⟨⟨h0, h1⟩, h2⟩ := h
    exact ⟨⟨h0, CsAt.keeps hk b off r h1⟩, RowsAt.keeps hk sz b _ rs h2⟩
end

theorem oneCell_of_rep {F : Fzn} {w : World} {c : C} {u : Value} (h : CRep F w c u) : u.oneCell' = true := by
  cases c with
  | v x => unfold CRep at h; obtain ⟨rfl, h⟩ := h; exact h
  | sl sz l => unfold CRep at h; obtain ⟨a, cap, rfl, _⟩ := h; rfl
  | ro l => unfold CRep at h; obtain ⟨b, off, rfl, _⟩ := h; rfl
  | ifc t l => unfold CRep at h; obtain ⟨us, rfl, _⟩ := h; rfl
  | ifc1 t x => unfold CRep at h; obtain ⟨v, rfl, _⟩ := h; rfl

section
variable {F F' : Fzn} {w w' : World}

theorem csRep_nil : CsRep F w [] [] := by unfold CsRep; trivial
theorem csRep_cons {c : C} {cs : List C} {u : Value} {us : List Value} (h1 : CRep F w c u) (h2 : CsRep F w cs us) : CsRep F w (c :: cs) (u :: us) := by unfold CsRep; exact ⟨h1, h2⟩
theorem csRep_nil_inv {us : List Value} (h : CsRep F w [] us) : us = [] := by
  cases us with
  | nil => rfl
  | cons _ _ => unfold CsRep at h; exact h.elim
theorem csRep_inv {c : C} {cs : List C} {us : List Value} (h : CsRep F w (c :: cs) us) : ∃ u vs, us = u :: vs ∧ CRep F w c u ∧ CsRep F w cs vs := by
  cases us with
  | nil => unfold CsRep at h; exact h.elim
  | cons u vs => unfold CsRep at h; exact ⟨u, vs, rfl, h⟩
theorem CsRep.len : ∀ {cs : List C} {us : List Value}, CsRep F w cs us → us.length = cs.length
  | [], _, h => by rw [csRep_nil_inv h]; rfl
  | _ :: cs, _, h => by obtain ⟨u, vs, rfl, _, h2⟩ := csRep_inv h; rw [List.length_cons, List.length_cons, CsRep.len h2]
theorem CsRep.one : ∀ {cs : List C} {us : List Value}, CsRep F w cs us → ∀ u ∈ us, u.oneCell' = true
  | [], _, h, u, hu => by rw [csRep_nil_inv h] at hu; cases hu
  | _ :: cs, _, h, u, hu => by
    obtain ⟨x, vs, rfl, h1, h2⟩ := csRep_inv h
    rcases List.mem_cons.1 hu with rfl | hu
    · exact oneCell_of_rep h1
    · exact CsRep.one h2 u hu
theorem CsRep.append : ∀ {cs ds : List C} {us vs : List Value}, CsRep F w cs us → CsRep F w ds vs → CsRep F w (cs ++ ds) (us ++ vs)
  | [], _, _, _, h, k => by rw [csRep_nil_inv h]; exact k
  | _ :: _, _, _, _, h, k => by obtain ⟨x, vs, rfl, h1, h2⟩ := csRep_inv h; exact csRep_cons h1 (CsRep.append h2 k)
theorem CsRep.get : ∀ {cs : List C} {us : List Value} {j : Nat} {c : C}, CsRep F w cs us → cs[j]? = some c → ∃ u, us[j]? = some u ∧ CRep F w c u
  | [], _, _, _, _, h => by simp at h
  | c :: cs, _, 0, c', h, e => by
    obtain ⟨x, vs, rfl, h1, h2⟩ := csRep_inv h
    simp only [List.getElem?_cons_zero, Option.some.injEq] at e
    subst e
    exact ⟨x, rfl, h1⟩
  | c :: cs, _, j + 1, c', h, e => by
    obtain ⟨x, vs, rfl, h1, h2⟩ := csRep_inv h
    simp only [List.getElem?_cons_succ] at e ⊢
    exact CsRep.get h2 e
theorem CsRep.take : ∀ {cs : List C} {us : List Value} (n : Nat), CsRep F w cs us → CsRep F w (cs.take n) (us.take n)
  | [], _, n, h => by rw [csRep_nil_inv h]; simpa using csRep_nil
  | c :: cs, us, 0, h => by simpa using csRep_nil
  | c :: cs, _, n + 1, h => by obtain ⟨x, vs, rfl, h1, h2⟩ := csRep_inv h; exact csRep_cons h1 (CsRep.take n h2)
theorem CsRep.drop : ∀ {cs : List C} {us : List Value} (n : Nat), CsRep F w cs us → CsRep F w (cs.drop n) (us.drop n)
  | [], _, n, h => by rw [csRep_nil_inv h]; simpa using csRep_nil
  | c :: cs, us, 0, h => h
  | c :: cs, _, n + 1, h => by obtain ⟨x, vs, rfl, h1, h2⟩ := csRep_inv h; exact CsRep.drop n h2

/-- cells that lie in a block: their values -/
theorem csAt_values {b : Nat} : ∀ {off : Nat} {l : List C}, CsAt F w b off l → ∃ us, CsRep F w l us ∧ (∀ j u, us[j]? = some u → w.cell? ⟨b, off + j, none⟩ = some u) ∧ ∀ j, j < l.length → F b (off + j)
  | _, [], _ => ⟨[], csRep_nil, by simp, by simp⟩
  | off, c :: cs, h => by
    unfold CsAt at h
    obtain ⟨⟨h0, u, h1, h2⟩, h3⟩ := h
    obtain ⟨us, h4, h5, h6⟩ := csAt_values h3
    refine ⟨u :: us, csRep_cons h2 h4, fun j x hx => ?_, fun j hj => ?_⟩
    · cases j with
      | zero => simp only [List.getElem?_cons_zero, Option.some.injEq] at hx; subst hx; exact h1
      | succ j =>
        have := h5 j x (by simpa using hx)
        rwa [show off + 1 + j = off + (j + 1) by omega] at this
    · cases j with
      | zero => exact h0
      | succ j =>
        have := h6 j (by simpa using hj)
        rwa [show off + 1 + j = off + (j + 1) by omega] at this
theorem csAt_of_values {b : Nat} : ∀ {off : Nat} {l : List C} {us : List Value}, CsRep F w l us → (∀ j u, us[j]? = some u → w.cell? ⟨b, off + j, none⟩ = some u) → (∀ j, j < l.length → F b (off + j)) → CsAt F w b off l
  | _, [], _, _, _, _ => by unfold CsAt; trivial
  | off, c :: cs, us, h, h1, h2 => by
    obtain ⟨u, us, rfl, g1, g2⟩ := csRep_inv h
    unfold CsAt
    refine ⟨⟨h2 0 (by simp), u, h1 0 u rfl, g1⟩, csAt_of_values (us := us) g2 (fun j x hx => ?_) (fun j hj => ?_)⟩
    · have := h1 (j + 1) x (by simpa using hx)
      rwa [show off + (j + 1) = off + 1 + j by omega] at this
    · have := h2 (j + 1) (by simpa using hj)
      rwa [show off + (j + 1) = off + 1 + j by omega] at this
theorem csAt_append {b : Nat} : ∀ {off : Nat} {l m : List C}, CsAt F w b off (l ++ m) ↔ CsAt F w b off l ∧ CsAt F w b (off + l.length) m
  | off, [], m => by simp [CsAt]
  | off, c :: cs, m => by
    simp only [List.cons_append, CsAt, csAt_append (l := cs), List.length_cons, and_assoc]
    rw [show off + (cs.length + 1) = off + 1 + cs.length by omega]
theorem csAt_drop {b off : Nat} {l : List C} (n : Nat) (hn : n ≤ l.length) (h : CsAt F w b off l) : CsAt F w b (off + n) (l.drop n) := by
  rw [← List.take_append_drop n l, csAt_append, List.length_take, Nat.min_eq_left hn] at h
  exact h.2
theorem csAt_take {b off : Nat} {l : List C} (n : Nat) (h : CsAt F w b off l) : CsAt F w b off (l.take n) := by
  rw [← List.take_append_drop n l, csAt_append] at h
  exact h.1
theorem rowsAt_iff {sz b : Nat} : ∀ {off : Nat} {l : List (List C)}, RowsAt F w sz b off l ↔ (∀ r ∈ l, r.length = sz) ∧ CsAt F w b off l.flatten
  | off, [] => by simp [RowsAt, CsAt]
  | off, r :: rs => by
    simp only [RowsAt, rowsAt_iff (l := rs), List.flatten_cons, csAt_append, List.mem_cons, forall_eq_or_imp]
    constructor
    · rintro ⟨⟨h1, h2⟩, h3, h4⟩; exact ⟨⟨h1, h3⟩, h2, by rw [h1]; exact h4⟩
    · rintro ⟨⟨h1, h3⟩, h2, h4⟩; exact ⟨⟨h1, h2⟩, h3, by rw [h1] at h4; exact h4⟩
theorem flatten_len {α : Type} {sz : Nat} : ∀ {l : List (List α)}, (∀ r ∈ l, r.length = sz) → l.flatten.length = l.length * sz
  | [], _ => by simp
  | r :: rs, h => by
    rw [List.flatten_cons, List.length_append, h r (List.mem_cons_self ..), flatten_len (l := rs) fun q hq => h q (List.mem_cons_of_mem _ hq), List.length_cons, Nat.add_mul]
    omega
theorem rowsAt_get {sz b : Nat} : ∀ {off : Nat} {l : List (List C)} {i : Nat} {r : List C}, RowsAt F w sz b off l → l[i]? = some r → r.length = sz ∧ CsAt F w b (off + i * sz) r
  | off, [], i, r, _, h => by simp at h
  | off, r0 :: rs, 0, r, h, e => by
    simp only [List.getElem?_cons_zero, Option.some.injEq] at e
    subst e
    unfold RowsAt at h
    simpa using h.1
  | off, r0 :: rs, i + 1, r, h, e => by
    simp only [List.getElem?_cons_succ] at e
    unfold RowsAt at h
    have := rowsAt_get h.2 e
    rwa [show off + sz + i * sz = off + (i + 1) * sz by rw [Nat.add_mul]; omega] at this
theorem rowsAt_append {sz b : Nat} : ∀ {off : Nat} {l m : List (List C)}, RowsAt F w sz b off (l ++ m) ↔ RowsAt F w sz b off l ∧ RowsAt F w sz b (off + l.length * sz) m
  | off, [], m => by simp [RowsAt]
  | off, r :: rs, m => by
    simp only [List.cons_append, RowsAt, rowsAt_append (l := rs), List.length_cons, and_assoc]
    rw [show off + (rs.length + 1) * sz = off + sz + rs.length * sz by rw [Nat.add_mul]; omega]
theorem rowsAt_drop {sz b off : Nat} {l : List (List C)} (n : Nat) (hn : n ≤ l.length) (h : RowsAt F w sz b off l) : RowsAt F w sz b (off + n * sz) (l.drop n) := by
  rw [← List.take_append_drop n l, rowsAt_append, List.length_take, Nat.min_eq_left hn] at h
  exact h.2
theorem rowsAt_take {sz b off : Nat} {l : List (List C)} (n : Nat) (h : RowsAt F w sz b off l) : RowsAt F w sz b off (l.take n) := by
  rw [← List.take_append_drop n l, rowsAt_append] at h
  exact h.1
end

end Go.Proofs.Ytohlkegmmbdlaaa.Pm
