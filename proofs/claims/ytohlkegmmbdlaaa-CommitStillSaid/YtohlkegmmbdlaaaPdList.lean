/- Lists of plain data: equality, loops over them. -/
import Derived.Test.YtohlkegmmbdlaaaPmOpen
namespace Go.Proofs.Ytohlkegmmbdlaaa.Pm
open Go.RowKit K
set_option linter.unusedVariables false
set_option linter.unusedSimpArgs false
set_option maxRecDepth 100000

def listEqB {α : Type} (eq : α → α → Bool) : List α → List α → Bool
  | [], [] => true
  | x :: a, y :: b => eq x y && listEqB eq a b
  | _, _ => false
theorem listEqB_iff {α : Type} {eq : α → α → Bool} (h : ∀ x y, eq x y = true ↔ x = y) : ∀ a b : List α, listEqB eq a b = true ↔ a = b
  | [], [] => by simp [listEqB]
  | [], _ :: _ => by simp [listEqB]
  | _ :: _, [] => by simp [listEqB]
  | x :: a, y :: b => by
    unfold listEqB
    rw [Bool.and_eq_true, h, listEqB_iff h a b, List.cons.injEq]
theorem listEqB_refl {α : Type} {eq : α → α → Bool} (h : ∀ x, eq x x = true) : ∀ a : List α, listEqB eq a a = true
  | [] => rfl
  | x :: a => by unfold listEqB; rw [h, listEqB_refl h a]; rfl
theorem listEqB_len {α : Type} {eq : α → α → Bool} : ∀ {a b : List α}, a.length ≠ b.length → listEqB eq a b = false
  | [], [], h => absurd rfl h
  | [], _ :: _, _ => rfl
  | _ :: _, [], _ => rfl
  | x :: a, y :: b, h => by
    unfold listEqB
    rw [listEqB_len (a := a) (b := b) (by simpa using h), Bool.and_false]
/-- the elements so far are the same -/
theorem listEqB_step {α : Type} {eq : α → α → Bool} : ∀ {a b : List α} {k : Nat}, listEqB eq (a.take k) (b.take k) = true → (h1 : k < a.length) → (h2 : k < b.length) → listEqB eq (a.take (k + 1)) (b.take (k + 1)) = eq a[k] b[k]
  | x :: a, y :: b, 0, _, _, _ => by simp [listEqB]
  | x :: a, y :: b, k + 1, h, h1, h2 => by
    simp only [List.take_succ_cons, listEqB, Bool.and_eq_true] at h
    have := listEqB_step (k := k) h.2 (by simpa using h1) (by simpa using h2)
    simp only [List.take_succ_cons, List.getElem_cons_succ]
    unfold listEqB
    rw [h.1, Bool.true_and]
    simpa using this
theorem listEqB_stop {α : Type} {eq : α → α → Bool} : ∀ {a b : List α} {k : Nat} (h1 : k < a.length) (h2 : k < b.length), eq a[k] b[k] = false → listEqB eq a b = false
  | x :: a, y :: b, 0, _, _, h => by
    simp only [List.getElem_cons_zero] at h
    unfold listEqB; rw [h, Bool.false_and]
  | x :: a, y :: b, k + 1, h1, h2, h => by
    simp only [List.getElem_cons_succ] at h
    unfold listEqB
    rw [listEqB_stop (k := k) (by simpa using h1) (by simpa using h2) h, Bool.and_false]
theorem listEqB_all {α : Type} {eq : α → α → Bool} {a b : List α} {k : Nat} (h : listEqB eq (a.take k) (b.take k) = true) (h1 : a.length ≤ k) (h2 : b.length ≤ k) : listEqB eq a b = true := by
  rwa [List.take_of_length_le h1, List.take_of_length_le h2] at h

theorem tx_empty {l : List UInt8} : tx l = ⟨#[]⟩ ↔ l = [] := by
  rw [show (⟨#[]⟩ : ByteArray) = tx [] from rfl, tx_eq]
theorem tx_empty_len {l : List UInt8} : tx l = ⟨#[]⟩ ↔ l.length = 0 := by rw [tx_empty, List.length_eq_zero_iff]
abbrev slV {α : Type} (sz : Nat) (enc : α → List C) (l : List α) : PV := .d (.c (.sl sz (l.map enc)))
theorem take_snoc {α : Type} {l : List α} {k : Nat} (h : k < l.length) : l.take (k + 1) = l.take k ++ [l[k]] := List.take_succ_eq_append_getElem h
theorem CLe.int {k : IntKind} {a b : Int} (h : b = a) : CLe (.v (.int k a)) (.v (.int k b)) := by rw [h]; exact .inl rfl
theorem CLe.text {a b : ByteArray} (h : b = a) : CLe (.v (.string a)) (.v (.string b)) := by rw [h]; exact .inl rfl
theorem CLe.bool {a b : Bool} (h : b = a) : CLe (.v (.bool a)) (.v (.bool b)) := by rw [h]; exact .inl rfl
theorem PLe.sl {f : Nat → Option Nat} {n : List Nat} {sz : Nat} {a b : List (List C)} (h : b = a) : PLe f n (.d (.c (.sl sz a))) (.d (.c (.sl sz b))) := by rw [h]; exact .inl rfl
/-- a contract serves arguments that are worth more (nil for an empty slice) -/
theorem Pure.le {P : Program} {f : FuncId} {args args' : List PV} {res : PV} (h : Pure P f args res) (hl : PLeT (fun _ => none) [] args args') : Pure P f args' res := by
  refine ⟨h.1, fun F w vs hG hF hus => h.2 F w vs hG hF ?_⟩
  have := psrep_wk (σ := fun _ => none) (f := fun _ => none) (n := []) (F' := F) (w := w) ⟨fun _ _ h => h, fun _ _ _ => rfl⟩ _ _ _ hl hus
  have e1 : newSg (fun _ => none) (fun _ => none) ([] : List Nat) = fun _ => none := by funext k; unfold newSg; rw [if_neg (by simp [kin])]
  rwa [e1] at this
/-! ### a plain call that is lent arrays of the caller's -/
def plainD : D → Bool
  | .c (.v _) => true
  | _ => false
mutual
def plainP : PV → Bool
  | .d x => plainD x
  | .agg l => l.all plainD
  | .tup l => plainPs l
  | .any => true
def plainPs : List PV → Bool
  | [] => true
  | x :: xs => plainP x && plainPs xs
end
section
variable {σ σ' : Sg} {F F' : Fzn} {w w' : World}
theorem plainD_rep {x : D} {u : Value} (h : plainD x = true) (hr : DRep σ F w x u) : DRep σ' F' w' x u := by
  unfold plainD at h
  split at h
  · unfold DRep CRep at hr ⊢; exact hr
  · cases h
theorem plainDs_rep : ∀ {l : List D} {us : List Value}, l.all plainD = true → DsRep σ F w l us → DsRep σ' F' w' l us
  | [], _, _, hr => by rw [dsRep_nil_inv hr]; exact dsRep_nil
  | x :: xs, _, h, hr => by
    rw [List.all_cons, Bool.and_eq_true] at h
    obtain ⟨u, vs, rfl, h1, h2⟩ := dsRep_inv hr
    exact dsRep_cons (plainD_rep h.1 h1) (plainDs_rep h.2 h2)
mutual
theorem plainP_rep : ∀ (x : PV) (u : Value), plainP x = true → PRep σ F w x u → PRep σ' F' w' x u
  | .d x, u, h, hr => by
    unfold plainP at h
    unfold PRep at hr ⊢
    exact plainD_rep h hr
  | .agg l, u, h, hr => by
    unfold plainP at h
    unfold PRep at hr ⊢
    obtain ⟨xs, h1, h2⟩ := hr
    exact ⟨xs, h1, plainDs_rep h h2⟩
  | .tup l, u, h, hr => by
    unfold plainP at h
    unfold PRep at hr ⊢
    obtain ⟨xs, h1, h2⟩ := hr
    exact ⟨xs, h1, plainPs_rep l xs h h2⟩
  | .any, u, h, hr => by unfold PRep; trivial
theorem plainPs_rep : ∀ (l : List PV) (us : List Value), plainPs l = true → PsRep σ F w l us → PsRep σ' F' w' l us
  | [], us, _, hr => by
    cases us with
    | nil => unfold PsRep; trivial
    | cons _ _ => unfold PsRep at hr; exact hr.elim
  | x :: xs, us, h, hr => by
    cases us with
    | nil => unfold PsRep at hr; exact hr.elim
    | cons u us =>
      unfold plainPs at h
      rw [Bool.and_eq_true] at h
      unfold PsRep at hr ⊢
      exact ⟨plainP_rep x u h.1 hr.1, plainPs_rep xs us h.2 hr.2⟩
end
end
theorem Pure.lend {P : Program} {f : FuncId} {ys args : List PV} {r : PV} {rd : Rf} (hp : Pure P f ys r) (hr : plainP r = true) (hy : closeHPs (hpL rd) args fun zs => zs = ys) : CallS P f args rd [] r [] := by
  refine ⟨hp.1, fun c vs hc hdf hfr hs hx => ?_⟩
  rw [List.append_nil] at hs hx ⊢
  have hk : Keeps (fz c c.σ0 (hpL rd) c.w0) (fun b o => fz c c.σ0 (hpL rd) c.w0 b o ∨ (c.own b ∧ b < c.w0.heap.size)) c.w0 c.w0 := ⟨fun _ _ h => .inl h, fun _ _ _ => rfl⟩
  obtain ⟨zs, rfl, hz⟩ := closeHPs_out hs hk (fun b o h1 h2 => .inr ⟨h1, h2⟩) hy
  refine (hp.2 (fun b o => fz c c.σ0 (hpL rd) c.w0 b o ∨ (c.own b ∧ b < c.w0.heap.size)) c.w0 vs (sw_gl hc hs) (fun b o h => ?_) (hz vs hx)).mono ?_
  · rcases h with h | h
    · exact fz_lt hs h
    · exact h.2
  · rintro en w' ⟨v, rfl, hb, hr'⟩
    exact ⟨v, c.σ0, rfl, sw_below hs hb, plainP_rep _ _ hr hr'⟩
theorem Need.by {n b lim : Nat} {K : Prop} (B : Nat) (hb : b = B) (h : n * B ≤ lim) (k : K) : Need (n * b ≤ lim) K := by subst hb; exact ⟨h, k⟩
theorem Idx.mapE {α : Type} {f : α → List C} {l : List α} {x : α} {n : Int} {K : List C → Prop} (k : Nat) (hk : n = (k : Int)) (hn : k < l.length) (hx : l[k] = x) (h : K (f x)) : Idx (l.map f) n K := by
  subst hx; exact Idx.mapI k hk hn h
end Go.Proofs.Ytohlkegmmbdlaaa.Pm
