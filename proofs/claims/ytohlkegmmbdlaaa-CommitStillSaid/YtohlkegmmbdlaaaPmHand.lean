/- Small laws for the reckoning's stops. -/
import Derived.Test.YtohlkegmmbdlaaaPmFun
import Derived.IntWalk
namespace Go.Proofs.Ytohlkegmmbdlaaa.Pm
open Go.RowKit

theorem BCase.t {b : Bool} {A B : Prop} (hb : b = true) (h : A) : BCase b A B := ⟨fun _ => h, fun e => by rw [hb] at e; cases e⟩
theorem BCase.f {b : Bool} {A B : Prop} (hb : b = false) (h : B) : BCase b A B := ⟨(fun e => by rw [hb] at e; cases e), fun _ => h⟩
theorem BCase.dt {p : Prop} [Decidable p] {A B : Prop} (hp : p) (h : A) : BCase (decide p) A B := BCase.t (decide_eq_true hp) h
theorem BCase.df {p : Prop} [Decidable p] {A B : Prop} (hp : ¬ p) (h : B) : BCase (decide p) A B := BCase.f (decide_eq_false hp) h
theorem BCase.d {p : Prop} [Decidable p] {A B : Prop} (h1 : p → A) (h2 : ¬ p → B) : BCase (decide p) A B := ⟨fun e => h1 (of_decide_eq_true e), fun e => h2 (of_decide_eq_false e)⟩
theorem BCase.tt {A B : Prop} (h : A) : BCase true A B := BCase.t rfl h
theorem BCase.ff {A B : Prop} (h : B) : BCase false A B := BCase.f rfl h
theorem Wr.i64 {x : Int} {K : Int → Prop} (h1 : -9223372036854775808 ≤ x) (h2 : x ≤ 9223372036854775807) (h : K x) : Wr .i64 x K := ⟨x, IntWalk.i64_in x ⟨h1, h2⟩, h⟩
theorem Idx.map {α : Type} {f : α → List C} {l : List α} {n : Nat} {K : List C → Prop} (hn : n < l.length) (h : K (f l[n])) : Idx (l.map f) (n : Int) K :=
  ⟨f l[n], by omega, by simp [hn], h⟩
theorem Idx.mapI {α : Type} {f : α → List C} {l : List α} {n : Int} {K : List C → Prop} (k : Nat) (hk : n = (k : Int)) (hn : k < l.length) (h : K (f l[k])) : Idx (l.map f) n K := by
  subst hk; exact Idx.map hn h
theorem PLe.int {f : Nat → Option Nat} {n : List Nat} {k : IntKind} {a b : Int} (h : b = a) : PLe f n (pInt k a) (pInt k b) := by rw [h]; exact .inl rfl
theorem PLe.c {f : Nat → Option Nat} {n : List Nat} {x y : C} (h : y = x) : PLe f n (.d (.c x)) (.d (.c y)) := .inl h

end Go.Proofs.Ytohlkegmmbdlaaa.Pm

namespace Go.Proofs.Ytohlkegmmbdlaaa.Pm
open Go.RowKit

/-- keys' names in contracts -/
abbrev FK : Nat := 1000000
abbrev FK1 : Nat := 1000001
abbrev NK : Nat := 2000000
abbrev FK2 : Nat := 1000002
abbrev FK3 : Nat := 1000003
abbrev NK1 : Nat := 2000001
abbrev NK2 : Nat := 2000002

theorem sl_of_row {F : Fzn} {w : World} {B e sz n : Nat} {v : Value} {xs : List Value} (h : w.ownsRow B e sz v n xs) {l : List (List C)} (hl : l.length = n) (hsz : ∀ r ∈ l, r.length = sz)
    (hx : CsRep F w l.flatten xs) (hF : ∀ b o, B ≤ b → b < w.heap.size → F b o) : CRep F w (.sl sz l) v := by
  obtain ⟨h1, h2⟩ := h
  unfold CRep
  rcases h2 with ⟨rfl, rfl⟩ | ⟨g, cap, cur, rfl, h3, h4, h5, h6, h7, h8⟩
  · have : l = [] := List.length_eq_zero_iff.1 hl
    subst this
    exact ⟨none, 0, rfl, Nat.le_refl _, Nat.zero_le _, fun _ => rfl, .inl rfl⟩
  · refine ⟨some ⟨g, 0, none⟩, cap, by rw [hl], by rw [hl]; exact h5, h6, (fun e => by cases e), .inr ⟨g, 0, rfl, ?_⟩⟩
    have hlt : g < w.heap.size := (Array.getElem?_eq_some_iff.1 h4).1
    rw [rowsAt_iff]
    refine ⟨hsz, csAt_of_values hx (fun j u hu => ?_) fun j hj => hF _ _ h3 hlt⟩
    rw [Nat.zero_add, cell_of_row _ _ _ _ _ _ h4, ← Array.getElem?_toList]
    rw [← h8] at hu
    rw [List.getElem?_take] at hu
    split at hu
    · exact hu
    · cases hu

def pv (x : Value) : PV := .d (.c (.v x))
theorem psRep_vals {σ : Sg} {F : Fzn} {w : World} : ∀ {vs us : List Value}, PsRep σ F w (vs.map pv) us → us = vs
  | [], [], _ => rfl
  | [], _ :: _, h => by unfold List.map PsRep at h; exact h.elim
  | _ :: _, [], h => by unfold List.map PsRep at h; exact h.elim
  | v :: vs, u :: us, h => by
    rw [List.map_cons] at h
    unfold PsRep at h
    rw [psRep_vals h.2]
    have := rep_v h.1
    rw [this]

theorem pure_hand {P : Program} {f : FuncId} {vs : List Value} {res : PV} (hf : fnOk P f)
    (h : ∀ w : World, GL w → Calls P f vs.toArray w fun e w' => ∃ v, e = .returned v ∧ Below w.heap.size w w' ∧ ∀ F : Fzn, (∀ b o, w.heap.size ≤ b → b < w'.heap.size → F b o) → PRep (fun _ => none) F w' res v) :
    Pure P f (vs.map pv) res := by
  refine ⟨hf, fun F w us hG hF hus => ?_⟩
  rw [psRep_vals hus]
  intro cs
  obtain ⟨e, w0, fr, ⟨v, h1, h2, h3⟩, h4⟩ := h w hG cs
  exact ⟨e, w0, fr, ⟨v, h1, h2, h3 _ fun b o h5 h6 => .inr ⟨h5, h6⟩⟩, h4⟩

def encS (s : ByteArray) : List C := [.v (.string s)]
theorem rep_texts {F : Fzn} {w : World} : ∀ l : List ByteArray, CsRep F w (l.map encS).flatten (l.map Value.string)
  | [] => by unfold CsRep; trivial
  | s :: l => by
    rw [List.map_cons, List.flatten_cons, List.map_cons]
    show CsRep F w (.v (.string s) :: (l.map encS).flatten) _
    unfold CsRep
    exact ⟨by unfold CRep; exact ⟨rfl, rfl⟩, rep_texts l⟩
end Go.Proofs.Ytohlkegmmbdlaaa.Pm
