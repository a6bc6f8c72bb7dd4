/- Small laws for the reckoning's stops. -/
import Derived.Test.YthogcgnhhcbkkaaDoorPmFun
import Derived.IntWalk
namespace Go.Proofs.YthogcgnhhcbkkaaDoor.Pm
open Go.RowKit

theorem BCase.t {b : Bool} {A B : Prop} (hb : b = true) (h : A) : BCase b A B := ⟨fun _ => h, fun e => by rw [hb] at e; cases e⟩
theorem BCase.f {b : Bool} {A B : Prop} (hb : b = false) (h : B) : BCase b A B := ⟨(fun e => by rw [hb] at e; cases e), fun _ => h⟩
theorem BCase.dt {p : Prop} [Decidable p] {A B : Prop} (hp : p) (h : A) : BCase (decide p) A B := BCase.t (decide_eq_true hp) h
theorem BCase.df {p : Prop} [Decidable p] {A B : Prop} (hp : ¬ p) (h : B) : BCase (decide p) A B := BCase.f (decide_eq_false hp) h
theorem BCase.d {p : Prop} [Decidable p] {A B : Prop} (h1 : p → A) (h2 : ¬ p → B) : BCase (decide p) A B := ⟨fun e => h1 (of_decide_eq_true e), fun e => h2 (of_decide_eq_false e)⟩
theorem BCase.tt {A B : Prop} (h : A) : BCase true A B := BCase.t rfl h
theorem BCase.ff {A B : Prop} (h : B) : BCase false A B := BCase.f rfl h
theorem Wr.i64 {x : Int} {K : Int → Prop} (h1 : -9223372036854775808 ≤ x) (h2 : x ≤ 9223372036854775807) (h : K x) : Wr .i64 x K := ⟨x, IntWalk.i64_in x ⟨h1, h2⟩, h⟩
theorem Idx.map {α : Type} {f : α → List C} {l : List α} {n : Nat} {K : List C → Prop} (hn : n < l.length) (h : K (f l[n])) : Idx (l.map f) (n : Int) K :=
  ⟨f l[n], by omega, by simp [hn], h⟩
theorem Idx.mapI {α : Type} {f : α → List C} {l : List α} {n : Int} {K : List C → Prop} (k : Nat) (hk : n = (k : Int)) (hn : k < l.length) (h : K (f l[k])) : Idx (l.map f) n K := by
  subst hk; exact Idx.map hn h
theorem PLe.int {f : Nat → Option Nat} {n : List Nat} {k : IntKind} {a b : Int} (h : b = a) : PLe f n (pInt k a) (pInt k b) := by rw [h]; exact .inl rfl
theorem PLe.c {f : Nat → Option Nat} {n : List Nat} {x y : C} (h : y = x) : PLe f n (.d (.c x)) (.d (.c y)) := .inl h

end Go.Proofs.YthogcgnhhcbkkaaDoor.Pm
