/- tables out of rows, rows out of tables -/
import Derived.Test.YtjpkacjmmclkeaaPdRows
namespace Go.Proofs.Ytjpkacjmmclkeaa.Pm
open Go.RowKit K
set_option linter.unusedVariables false
set_option linter.unusedSimpArgs false
set_option maxRecDepth 100000

def schB (x : EntryD) : Bool := match x.Row with
  | [] => false
  | v :: r => decide (v.Kind = 2) && r.all unB
def schS (x : EntryD) : SchemaD := match x.Row with
  | [] => ⟨0, [], []⟩
  | v :: r => ⟨x.Id, v.S, r.map unC⟩
def rowText (l : List ValueD) : Prop := l.length * 32 ≤ 140737488351232 ∧ ∀ v ∈ l, okText v.S
def entText (l : List EntryD) : Prop := l.length * 32 ≤ 140737488351232 ∧ ∀ x ∈ l, rowText x.Row
theorem unB_kind {v : ValueD} (h : unB v = true) : ¬ (v.Kind ≠ 2 ∨ v.S.length < 3) := by
  unfold unB at h
  simp only [Bool.and_eq_true, decide_eq_true_eq] at h
  omega
theorem unR_unC {v : ValueD} (h : unB v = true) : unR v = unC v := if_neg (unB_kind h)
abbrev tCol : Nat := 44
abbrev tSch : Nat := 39
abbrev tEnt : Nat := 50
abbrev tVal : Nat := 46
theorem map_take_snoc {α β : Type} {f : α → β} {l : List α} {k : Nat} (h : k < l.length) : (l.take k).map f ++ [f l[k]] = (l.take (k + 1)).map f := by
  rw [take_snoc h, List.map_append]; rfl
theorem p_schema (x : EntryD) (hx : rowText x.Row) : Pure Try.prog 21 [eV x] (.tup [sV (if schB x then schS x else ⟨0, [], []⟩), pBool (schB x)]) := by
  obtain ⟨hl, hn⟩ := hx
  refine pure_of Try.func21 (by rfl) rfl (by kernel_rfl) (by rfl) ?_
  obtain ⟨id, row⟩ := x
  cases row with
  | nil =>
    (((conv => whnf); repeat ((first | with_reducible refine BCase.tt ?_ | with_reducible refine BCase.ff ?_); (conv => whnf))); repeat' (first | ((first | with_reducible refine Wr.u8 ?_ | ((first | with_reducible refine Wr.ci ?s ?_ | with_reducible refine Wr.c3 ?s ?_ | with_reducible refine Wr.c6 ?s ?_ | with_reducible refine BCase.dt ?s ?_); case s => (first | omega | (simp only [lens, true_and, and_true]; (try omega); done))) | (with_reducible refine BCase.df ?s ?_; case s => (first | omega | (simp only [lens, true_and, and_true]; (try omega); done))) | (with_reducible refine Need.mk ?s ?_; case s => first | (first | omega | (simp only [lens, true_and, and_true]; (try omega); done)) | decide | kernel_rfl) | refine BCase.t (by decide) ?_ | refine BCase.f (by decide) ?_); ((conv => whnf); repeat ((first | with_reducible refine BCase.tt ?_ | with_reducible refine BCase.ff ?_); (conv => whnf)))) | ((with_reducible refine EmpOr.app ?_); ((conv => whnf); repeat ((first | with_reducible refine BCase.tt ?_ | with_reducible refine BCase.ff ?_); (conv => whnf)))) | (first | with_reducible refine BCase.not ?_ | with_reducible refine BCase.and ?_ | with_reducible refine BCase.or ?_) | ((with_reducible refine BCase.d (fun _ => ?_) (fun _ => ?_)) <;> ((conv => whnf); repeat ((first | with_reducible refine BCase.tt ?_ | with_reducible refine BCase.ff ?_); (conv => whnf))))))
    exact Ret.le ⟨⟨.inl rfl, .inl rfl, .inr ⟨⟨4, rfl⟩, .inl rfl⟩, rfl⟩, .inl rfl, rfl⟩
  | cons v r =>
    have hl : (r.length + 1) * 32 ≤ 140737488351232 := hl
    have hr : ∀ x ∈ r, okText x.S := fun x hx => hn x (List.mem_cons_of_mem _ hx)
    by_cases h2 : v.Kind = 2
    · have hz : schB ⟨id, v :: r⟩ = r.all unB := by unfold schB; simp [h2]
      have i0 : ∀ {K : List C → Prop}, K (ValueD.c v) → Idx ((v :: r).map ValueD.c) 0 K := fun h => Idx.mapI (l := v :: r) 0 rfl (Nat.zero_lt_succ _) h
      (((conv => whnf); repeat ((first | with_reducible refine BCase.tt ?_ | with_reducible refine BCase.ff ?_); (conv => whnf))); repeat' (first | ((first | with_reducible refine Wr.u8 ?_ | ((first | with_reducible refine Wr.ci ?s ?_ | with_reducible refine Wr.c3 ?s ?_ | with_reducible refine Wr.c6 ?s ?_ | with_reducible refine BCase.dt ?s ?_); case s => (first | omega | (simp only [lens, true_and, and_true]; (try omega); done))) | (with_reducible refine BCase.df ?s ?_; case s => (first | omega | (simp only [lens, true_and, and_true]; (try omega); done))) | (with_reducible refine Need.mk ?s ?_; case s => first | (first | omega | (simp only [lens, true_and, and_true]; (try omega); done)) | decide | kernel_rfl) | refine BCase.t (by decide) ?_ | refine BCase.f (by decide) ?_); ((conv => whnf); repeat ((first | with_reducible refine BCase.tt ?_ | with_reducible refine BCase.ff ?_); (conv => whnf)))) | (( refine i0 ?_); ((conv => whnf); repeat ((first | with_reducible refine BCase.tt ?_ | with_reducible refine BCase.ff ?_); (conv => whnf)))) | ((with_reducible refine EmpOr.app ?_); ((conv => whnf); repeat ((first | with_reducible refine BCase.tt ?_ | with_reducible refine BCase.ff ?_); (conv => whnf)))) | (first | with_reducible refine BCase.not ?_ | with_reducible refine BCase.and ?_ | with_reducible refine BCase.or ?_) | ((with_reducible refine BCase.d (fun _ => ?_) (fun _ => ?_)) <;> ((conv => whnf); repeat ((first | with_reducible refine BCase.tt ?_ | with_reducible refine BCase.ff ?_); (conv => whnf))))))
      refine LoopC.mk Nat (fun k => [(2, .d (.ptr 2 0)), (4, .d (.ptr 4 0)), (32, slV 3 ValueD.c r), (33, pInt .i64 r.length), (34, pInt .i64 k)]) (fun k => [(2, .box tSch [.c (.v (.int .i64 0)), .c (.v (.string ⟨#[]⟩)), .c (.v (.slice none 0 0))]), (4, .box tSch [.c (.v (.int .i64 id)), .c (.v (.string (tx v.S))), .app 60 tCol 4 (((r.take k).map unC).map ColumnD.c)]), (60, .tail tCol 4)]) [2, 4, 60] (fun k => k ≤ r.length ∧ ∀ x ∈ r.take k, unB x = true) (fun k => r.length - k) 0 ⟨Nat.zero_le _, by simp⟩ ?start ?round
      case start =>
        exact ⟨[(2, 2), (4, 4)], rfl, rfl, ⟨⟨rfl, rfl, rfl⟩, ⟨rfl, rfl, rfl⟩, PLe.sl (by show List.take _ _ = _; exact List.take_of_length_le (by simp)), PLe.int (by simp), .inl rfl, trivial⟩, ⟨rfl, rfl, .inl rfl, .inl rfl, .inl rfl, rfl⟩, ⟨rfl, rfl, .inl rfl, .inl rfl, ⟨rfl, rfl, Nat.zero_lt_succ _, rfl, rfl⟩, rfl⟩, ⟨rfl, Nat.zero_lt_succ _⟩, trivial⟩
      case round =>
        rintro k ⟨hk, ha⟩
        by_cases h1 : k < r.length
        · have pu := p_uncolumn r[k] (hr _ (List.getElem_mem h1))
          cases hb : unB r[k] with
          | true =>
            rw [hb, unR_unC hb] at pu
            (((conv => whnf); repeat ((first | with_reducible refine BCase.tt ?_ | with_reducible refine BCase.ff ?_); (conv => whnf))); repeat' (first | ((first | with_reducible refine Wr.u8 ?_ | ((first | with_reducible refine Wr.ci ?s ?_ | with_reducible refine Wr.c3 ?s ?_ | with_reducible refine Wr.c6 ?s ?_ | with_reducible refine BCase.dt ?s ?_); case s => (first | omega | (simp only [lens, true_and, and_true]; (try omega); done))) | (with_reducible refine BCase.df ?s ?_; case s => (first | omega | (simp only [lens, true_and, and_true]; (try omega); done))) | (with_reducible refine Need.mk ?s ?_; case s => first | (first | omega | (simp only [lens, true_and, and_true]; (try omega); done)) | decide | kernel_rfl) | refine BCase.t (by decide) ?_ | refine BCase.f (by decide) ?_); ((conv => whnf); repeat ((first | with_reducible refine BCase.tt ?_ | with_reducible refine BCase.ff ?_); (conv => whnf)))) | (( refine Idx.mapI k rfl h1 ?_); ((conv => whnf); repeat ((first | with_reducible refine BCase.tt ?_ | with_reducible refine BCase.ff ?_); (conv => whnf)))) | ((refine CallP.pure _ rfl _ (pu) ?_); ((conv => whnf); repeat ((first | with_reducible refine BCase.tt ?_ | with_reducible refine BCase.ff ?_); (conv => whnf)))) | (( refine Need.mk (by show (_ + 1) * 32 ≤ _; simp only [List.length_map, List.length_take]; omega) ?_); ((conv => whnf); repeat ((first | with_reducible refine BCase.tt ?_ | with_reducible refine BCase.ff ?_); (conv => whnf)))) | ((with_reducible refine EmpOr.app ?_); ((conv => whnf); repeat ((first | with_reducible refine BCase.tt ?_ | with_reducible refine BCase.ff ?_); (conv => whnf)))) | (first | with_reducible refine BCase.not ?_ | with_reducible refine BCase.and ?_ | with_reducible refine BCase.or ?_) | ((with_reducible refine BCase.d (fun _ => ?_) (fun _ => ?_)) <;> ((conv => whnf); repeat ((first | with_reducible refine BCase.tt ?_ | with_reducible refine BCase.ff ?_); (conv => whnf))))))
            refine ⟨k + 1, ⟨by omega, ?_⟩, by omega, [(2, 2), (4, 4), (60, 50)], rfl, rfl, ⟨⟨rfl, rfl, rfl⟩, ⟨rfl, rfl, rfl⟩, .inl rfl, .inl rfl, PLe.int (by omega), trivial⟩, ⟨rfl, rfl, .inl rfl, .inl rfl, .inl rfl, rfl⟩, ⟨rfl, rfl, .inl rfl, .inl rfl, ⟨rfl, rfl, rfl, rfl, ?_⟩, rfl⟩, ⟨rfl, rfl, rfl⟩, trivial⟩
            · rw [take_snoc h1]
              intro x hx
              rcases List.mem_append.1 hx with hx | hx
              · exact ha x hx
              · rw [List.mem_singleton.1 hx]; exact hb
            · rw [← map_take_snoc h1, List.map_append]; rfl
          | false =>
            rw [hb] at pu
            have hz2 : r.all unB = false := by
              rw [List.all_eq_false]
              exact ⟨r[k], List.getElem_mem h1, by rw [hb]; decide⟩
            rw [hz, hz2]
            (((conv => whnf); repeat ((first | with_reducible refine BCase.tt ?_ | with_reducible refine BCase.ff ?_); (conv => whnf))); repeat' (first | ((first | with_reducible refine Wr.u8 ?_ | ((first | with_reducible refine Wr.ci ?s ?_ | with_reducible refine Wr.c3 ?s ?_ | with_reducible refine Wr.c6 ?s ?_ | with_reducible refine BCase.dt ?s ?_); case s => (first | omega | (simp only [lens, true_and, and_true]; (try omega); done))) | (with_reducible refine BCase.df ?s ?_; case s => (first | omega | (simp only [lens, true_and, and_true]; (try omega); done))) | (with_reducible refine Need.mk ?s ?_; case s => first | (first | omega | (simp only [lens, true_and, and_true]; (try omega); done)) | decide | kernel_rfl) | refine BCase.t (by decide) ?_ | refine BCase.f (by decide) ?_); ((conv => whnf); repeat ((first | with_reducible refine BCase.tt ?_ | with_reducible refine BCase.ff ?_); (conv => whnf)))) | (( refine Idx.mapI k rfl h1 ?_); ((conv => whnf); repeat ((first | with_reducible refine BCase.tt ?_ | with_reducible refine BCase.ff ?_); (conv => whnf)))) | ((refine CallP.pure _ rfl _ (pu) ?_); ((conv => whnf); repeat ((first | with_reducible refine BCase.tt ?_ | with_reducible refine BCase.ff ?_); (conv => whnf)))) | ((with_reducible refine EmpOr.app ?_); ((conv => whnf); repeat ((first | with_reducible refine BCase.tt ?_ | with_reducible refine BCase.ff ?_); (conv => whnf)))) | (first | with_reducible refine BCase.not ?_ | with_reducible refine BCase.and ?_ | with_reducible refine BCase.or ?_) | ((with_reducible refine BCase.d (fun _ => ?_) (fun _ => ?_)) <;> ((conv => whnf); repeat ((first | with_reducible refine BCase.tt ?_ | with_reducible refine BCase.ff ?_); (conv => whnf))))))
            exact Ret.le ⟨⟨.inl rfl, .inl rfl, .inr ⟨⟨4, rfl⟩, .inl rfl⟩, rfl⟩, .inl rfl, rfl⟩
        · have hz2 : r.all unB = true := by
            rw [List.all_eq_true]
            exact fun x hx => ha x (by rw [List.take_of_length_le (by omega)]; exact hx)
          rw [hz, hz2]
          (((conv => whnf); repeat ((first | with_reducible refine BCase.tt ?_ | with_reducible refine BCase.ff ?_); (conv => whnf))); repeat' (first | ((first | with_reducible refine Wr.u8 ?_ | ((first | with_reducible refine Wr.ci ?s ?_ | with_reducible refine Wr.c3 ?s ?_ | with_reducible refine Wr.c6 ?s ?_ | with_reducible refine BCase.dt ?s ?_); case s => (first | omega | (simp only [lens, true_and, and_true]; (try omega); done))) | (with_reducible refine BCase.df ?s ?_; case s => (first | omega | (simp only [lens, true_and, and_true]; (try omega); done))) | (with_reducible refine Need.mk ?s ?_; case s => first | (first | omega | (simp only [lens, true_and, and_true]; (try omega); done)) | decide | kernel_rfl) | refine BCase.t (by decide) ?_ | refine BCase.f (by decide) ?_); ((conv => whnf); repeat ((first | with_reducible refine BCase.tt ?_ | with_reducible refine BCase.ff ?_); (conv => whnf)))) | ((with_reducible refine EmpOr.app ?_); ((conv => whnf); repeat ((first | with_reducible refine BCase.tt ?_ | with_reducible refine BCase.ff ?_); (conv => whnf)))) | (first | with_reducible refine BCase.not ?_ | with_reducible refine BCase.and ?_ | with_reducible refine BCase.or ?_) | ((with_reducible refine BCase.d (fun _ => ?_) (fun _ => ?_)) <;> ((conv => whnf); repeat ((first | with_reducible refine BCase.tt ?_ | with_reducible refine BCase.ff ?_); (conv => whnf))))))
          refine Ret.mk ?_
          rw [List.take_of_length_le (by omega)]; rfl
    · have hz : schB ⟨id, v :: r⟩ = false := by unfold schB; simp [h2]
      rw [hz]
      have i0 : ∀ {K : List C → Prop}, K (ValueD.c v) → Idx ((v :: r).map ValueD.c) 0 K := fun h => Idx.mapI (l := v :: r) 0 rfl (Nat.zero_lt_succ _) h
      (((conv => whnf); repeat ((first | with_reducible refine BCase.tt ?_ | with_reducible refine BCase.ff ?_); (conv => whnf))); repeat' (first | ((first | with_reducible refine Wr.u8 ?_ | ((first | with_reducible refine Wr.ci ?s ?_ | with_reducible refine Wr.c3 ?s ?_ | with_reducible refine Wr.c6 ?s ?_ | with_reducible refine BCase.dt ?s ?_); case s => (first | omega | (simp only [lens, true_and, and_true]; (try omega); done))) | (with_reducible refine BCase.df ?s ?_; case s => (first | omega | (simp only [lens, true_and, and_true]; (try omega); done))) | (with_reducible refine Need.mk ?s ?_; case s => first | (first | omega | (simp only [lens, true_and, and_true]; (try omega); done)) | decide | kernel_rfl) | refine BCase.t (by decide) ?_ | refine BCase.f (by decide) ?_); ((conv => whnf); repeat ((first | with_reducible refine BCase.tt ?_ | with_reducible refine BCase.ff ?_); (conv => whnf)))) | (( refine i0 ?_); ((conv => whnf); repeat ((first | with_reducible refine BCase.tt ?_ | with_reducible refine BCase.ff ?_); (conv => whnf)))) | ((with_reducible refine EmpOr.app ?_); ((conv => whnf); repeat ((first | with_reducible refine BCase.tt ?_ | with_reducible refine BCase.ff ?_); (conv => whnf)))) | (first | with_reducible refine BCase.not ?_ | with_reducible refine BCase.and ?_ | with_reducible refine BCase.or ?_) | ((with_reducible refine BCase.d (fun _ => ?_) (fun _ => ?_)) <;> ((conv => whnf); repeat ((first | with_reducible refine BCase.tt ?_ | with_reducible refine BCase.ff ?_); (conv => whnf))))))
      exact Ret.le ⟨⟨.inl rfl, .inl rfl, .inr ⟨⟨4, rfl⟩, .inl rfl⟩, rfl⟩, .inl rfl, rfl⟩
def catE (l : List EntryD) : Int := if entChk l ≠ 0 then entChk l else if l.all schB = false then 1 else schChk (l.map schS)
def catL (l : List EntryD) : List SchemaD := if catE l = 0 then l.map schS else []
theorem schS_sh {x : EntryD} (h : rowText x.Row) (hb : schB x = true) : okText (schS x).Name ∧ colsSh (schS x).Cols := by
  obtain ⟨id, row⟩ := x
  cases row with
  | nil => cases hb
  | cons v r =>
    obtain ⟨h1, h2⟩ := h
    refine ⟨h2 v (List.mem_cons_self ..), ?_, ?_⟩
    · show (r.map unC).length ≤ _
      rw [List.length_map]
      have : (r.length + 1) * 32 ≤ 140737488351232 := h1
      omega
    · intro c hc
      obtain ⟨w, hw, rfl⟩ := List.mem_map.1 hc
      have := h2 w (List.mem_cons_of_mem _ hw)
      unfold okText unC at *
      simp only [List.length_drop]; omega
theorem schS_all {l : List EntryD} (h : entText l) (hb : l.all schB = true) : schSh (l.map schS) := by
  refine ⟨by have := h.1; show _ ≤ _; rw [List.length_map]; omega, fun s hs => ?_⟩
  obtain ⟨x, hx, rfl⟩ := List.mem_map.1 hs
  exact schS_sh (h.2 x hx) (List.all_eq_true.1 hb x hx)
theorem entText_short {l : List EntryD} (h : entText l) : rowsShort l := fun x hx => by have := (h.2 x hx).1; omega
theorem p_of (l : List EntryD) (hl : entText l) : Pure Try.prog 9 [slV 2 EntryD.c l] (.tup [slV 3 SchemaD.c (catL l), pInt .i64 (catE l)]) := by
  have pe := p_entchk l (by have := hl.1; omega) (entText_short hl)
  have hlen := hl.1
  refine pure_of Try.func9 (by rfl) rfl (by kernel_rfl) (by rfl) ?_
  by_cases he : entChk l = 0
  · rw [he] at pe
    have hle : l.length ≤ 40 := by
      unfold entChk at he
      split at he
      · cases he
      · omega
    have e0 : catE l = if l.all schB = false then 1 else schChk (l.map schS) := if_neg (not_not_intro he)
    (((conv => whnf); repeat ((first | with_reducible refine BCase.tt ?_ | with_reducible refine BCase.ff ?_); (conv => whnf))); repeat' (first | ((first | with_reducible refine Wr.u8 ?_ | ((first | with_reducible refine Wr.ci ?s ?_ | with_reducible refine Wr.c3 ?s ?_ | with_reducible refine Wr.c6 ?s ?_ | with_reducible refine BCase.dt ?s ?_); case s => (first | omega | (simp only [lens, true_and, and_true]; (try omega); done))) | (with_reducible refine BCase.df ?s ?_; case s => (first | omega | (simp only [lens, true_and, and_true]; (try omega); done))) | (with_reducible refine Need.mk ?s ?_; case s => first | (first | omega | (simp only [lens, true_and, and_true]; (try omega); done)) | decide | kernel_rfl) | refine BCase.t (by decide) ?_ | refine BCase.f (by decide) ?_); ((conv => whnf); repeat ((first | with_reducible refine BCase.tt ?_ | with_reducible refine BCase.ff ?_); (conv => whnf)))) | ((refine CallP.pure _ rfl _ (pe) ?_); ((conv => whnf); repeat ((first | with_reducible refine BCase.tt ?_ | with_reducible refine BCase.ff ?_); (conv => whnf)))) | ((with_reducible refine EmpOr.app ?_); ((conv => whnf); repeat ((first | with_reducible refine BCase.tt ?_ | with_reducible refine BCase.ff ?_); (conv => whnf)))) | (first | with_reducible refine BCase.not ?_ | with_reducible refine BCase.and ?_ | with_reducible refine BCase.or ?_) | ((with_reducible refine BCase.d (fun _ => ?_) (fun _ => ?_)) <;> ((conv => whnf); repeat ((first | with_reducible refine BCase.tt ?_ | with_reducible refine BCase.ff ?_); (conv => whnf))))))
    refine LoopC.mk Nat (fun k => [(5, .d (.app 60 tSch 3 (((l.take k).map schS).map SchemaD.c))), (16, slV 2 EntryD.c l), (17, pInt .i64 l.length), (18, pInt .i64 k)]) (fun k => [(60, .tail tSch 3)]) [60] (fun k => k ≤ l.length ∧ ∀ x ∈ l.take k, schB x = true) (fun k => l.length - k) 0 ⟨Nat.zero_le _, by simp⟩ ?start ?round
    case start => exact ⟨[], rfl, rfl, ⟨⟨rfl, rfl, Nat.zero_lt_succ _, rfl, rfl⟩, .inl rfl, PLe.int (by simp), .inl rfl, trivial⟩, ⟨rfl, Nat.zero_lt_succ _⟩, trivial⟩
    case round =>
      rintro k ⟨hk, ha⟩
      by_cases h1 : k < l.length
      · have ps := p_schema l[k] (hl.2 _ (List.getElem_mem h1))
        cases hb : schB l[k] with
        | true =>
          rw [hb, if_pos rfl] at ps
          (((conv => whnf); repeat ((first | with_reducible refine BCase.tt ?_ | with_reducible refine BCase.ff ?_); (conv => whnf))); repeat' (first | ((first | with_reducible refine Wr.u8 ?_ | ((first | with_reducible refine Wr.ci ?s ?_ | with_reducible refine Wr.c3 ?s ?_ | with_reducible refine Wr.c6 ?s ?_ | with_reducible refine BCase.dt ?s ?_); case s => (first | omega | (simp only [lens, true_and, and_true]; (try omega); done))) | (with_reducible refine BCase.df ?s ?_; case s => (first | omega | (simp only [lens, true_and, and_true]; (try omega); done))) | (with_reducible refine Need.mk ?s ?_; case s => first | (first | omega | (simp only [lens, true_and, and_true]; (try omega); done)) | decide | kernel_rfl) | refine BCase.t (by decide) ?_ | refine BCase.f (by decide) ?_); ((conv => whnf); repeat ((first | with_reducible refine BCase.tt ?_ | with_reducible refine BCase.ff ?_); (conv => whnf)))) | (( refine Idx.mapI k rfl h1 ?_); ((conv => whnf); repeat ((first | with_reducible refine BCase.tt ?_ | with_reducible refine BCase.ff ?_); (conv => whnf)))) | ((refine CallP.pure _ rfl _ (ps) ?_); ((conv => whnf); repeat ((first | with_reducible refine BCase.tt ?_ | with_reducible refine BCase.ff ?_); (conv => whnf)))) | (( refine Need.mk (by show (_ + 1) * 48 ≤ _; simp only [List.length_map, List.length_take]; omega) ?_); ((conv => whnf); repeat ((first | with_reducible refine BCase.tt ?_ | with_reducible refine BCase.ff ?_); (conv => whnf)))) | ((with_reducible refine EmpOr.app ?_); ((conv => whnf); repeat ((first | with_reducible refine BCase.tt ?_ | with_reducible refine BCase.ff ?_); (conv => whnf)))) | (first | with_reducible refine BCase.not ?_ | with_reducible refine BCase.and ?_ | with_reducible refine BCase.or ?_) | ((with_reducible refine BCase.d (fun _ => ?_) (fun _ => ?_)) <;> ((conv => whnf); repeat ((first | with_reducible refine BCase.tt ?_ | with_reducible refine BCase.ff ?_); (conv => whnf))))))
          refine ⟨k + 1, ⟨by omega, ?_⟩, by omega, [(60, 32)], rfl, rfl, ⟨⟨rfl, rfl, rfl, rfl, ?_⟩, .inl rfl, .inl rfl, PLe.int (by omega), trivial⟩, ⟨rfl, rfl, rfl⟩, trivial⟩
          · rw [take_snoc h1]
            intro x hx
            rcases List.mem_append.1 hx with hx | hx
            · exact ha x hx
            · rw [List.mem_singleton.1 hx]; exact hb
          · rw [← map_take_snoc h1, List.map_append]; rfl
        | false =>
          rw [hb] at ps
          have hz2 : l.all schB = false := by
            rw [List.all_eq_false]
            exact ⟨l[k], List.getElem_mem h1, by rw [hb]; decide⟩
          have e1 : catE l = 1 := by rw [e0, hz2]; rfl
          unfold catL
          rw [e1]
          (((conv => whnf); repeat ((first | with_reducible refine BCase.tt ?_ | with_reducible refine BCase.ff ?_); (conv => whnf))); repeat' (first | ((first | with_reducible refine Wr.u8 ?_ | ((first | with_reducible refine Wr.ci ?s ?_ | with_reducible refine Wr.c3 ?s ?_ | with_reducible refine Wr.c6 ?s ?_ | with_reducible refine BCase.dt ?s ?_); case s => (first | omega | (simp only [lens, true_and, and_true]; (try omega); done))) | (with_reducible refine BCase.df ?s ?_; case s => (first | omega | (simp only [lens, true_and, and_true]; (try omega); done))) | (with_reducible refine Need.mk ?s ?_; case s => first | (first | omega | (simp only [lens, true_and, and_true]; (try omega); done)) | decide | kernel_rfl) | refine BCase.t (by decide) ?_ | refine BCase.f (by decide) ?_); ((conv => whnf); repeat ((first | with_reducible refine BCase.tt ?_ | with_reducible refine BCase.ff ?_); (conv => whnf)))) | (( refine Idx.mapI k rfl h1 ?_); ((conv => whnf); repeat ((first | with_reducible refine BCase.tt ?_ | with_reducible refine BCase.ff ?_); (conv => whnf)))) | ((refine CallP.pure _ rfl _ (ps) ?_); ((conv => whnf); repeat ((first | with_reducible refine BCase.tt ?_ | with_reducible refine BCase.ff ?_); (conv => whnf)))) | ((with_reducible refine EmpOr.app ?_); ((conv => whnf); repeat ((first | with_reducible refine BCase.tt ?_ | with_reducible refine BCase.ff ?_); (conv => whnf)))) | (first | with_reducible refine BCase.not ?_ | with_reducible refine BCase.and ?_ | with_reducible refine BCase.or ?_) | ((with_reducible refine BCase.d (fun _ => ?_) (fun _ => ?_)) <;> ((conv => whnf); repeat ((first | with_reducible refine BCase.tt ?_ | with_reducible refine BCase.ff ?_); (conv => whnf))))))
          exact Ret.le ⟨.inr ⟨⟨3, rfl⟩, .inl rfl⟩, .inl rfl, rfl⟩
      · have hz2 : l.all schB = true := by
          rw [List.all_eq_true]
          exact fun x hx => ha x (by rw [List.take_of_length_le (by omega)]; exact hx)
        have e1 : catE l = schChk (l.map schS) := by rw [e0, hz2]; rfl
        have pc := p_catcheck (l.map schS) (schS_all hl hz2)
        unfold catL
        rw [e1]
        rw [List.take_of_length_le (by omega)]
        by_cases h9 : schChk (l.map schS) = 0
        · rw [if_pos h9]
          rw [h9] at pc ⊢
          (((conv => whnf); repeat ((first | with_reducible refine BCase.tt ?_ | with_reducible refine BCase.ff ?_); (conv => whnf))); repeat' (first | ((first | with_reducible refine Wr.u8 ?_ | ((first | with_reducible refine Wr.ci ?s ?_ | with_reducible refine Wr.c3 ?s ?_ | with_reducible refine Wr.c6 ?s ?_ | with_reducible refine BCase.dt ?s ?_); case s => (first | omega | (simp only [lens, true_and, and_true]; (try omega); done))) | (with_reducible refine BCase.df ?s ?_; case s => (first | omega | (simp only [lens, true_and, and_true]; (try omega); done))) | (with_reducible refine Need.mk ?s ?_; case s => first | (first | omega | (simp only [lens, true_and, and_true]; (try omega); done)) | decide | kernel_rfl) | refine BCase.t (by decide) ?_ | refine BCase.f (by decide) ?_); ((conv => whnf); repeat ((first | with_reducible refine BCase.tt ?_ | with_reducible refine BCase.ff ?_); (conv => whnf)))) | ((refine CallP.pure _ rfl _ (pc) ?_); ((conv => whnf); repeat ((first | with_reducible refine BCase.tt ?_ | with_reducible refine BCase.ff ?_); (conv => whnf)))) | ((with_reducible refine EmpOr.app ?_); ((conv => whnf); repeat ((first | with_reducible refine BCase.tt ?_ | with_reducible refine BCase.ff ?_); (conv => whnf)))) | (first | with_reducible refine BCase.not ?_ | with_reducible refine BCase.and ?_ | with_reducible refine BCase.or ?_) | ((with_reducible refine BCase.d (fun _ => ?_) (fun _ => ?_)) <;> ((conv => whnf); repeat ((first | with_reducible refine BCase.tt ?_ | with_reducible refine BCase.ff ?_); (conv => whnf))))))
          exact Ret.mk rfl
        · rw [if_neg h9]
          (((conv => whnf); repeat ((first | with_reducible refine BCase.tt ?_ | with_reducible refine BCase.ff ?_); (conv => whnf))); repeat' (first | ((first | with_reducible refine Wr.u8 ?_ | ((first | with_reducible refine Wr.ci ?s ?_ | with_reducible refine Wr.c3 ?s ?_ | with_reducible refine Wr.c6 ?s ?_ | with_reducible refine BCase.dt ?s ?_); case s => (first | omega | (simp only [lens, true_and, and_true]; (try omega); done))) | (with_reducible refine BCase.df ?s ?_; case s => (first | omega | (simp only [lens, true_and, and_true]; (try omega); done))) | (with_reducible refine Need.mk ?s ?_; case s => first | (first | omega | (simp only [lens, true_and, and_true]; (try omega); done)) | decide | kernel_rfl) | refine BCase.t (by decide) ?_ | refine BCase.f (by decide) ?_); ((conv => whnf); repeat ((first | with_reducible refine BCase.tt ?_ | with_reducible refine BCase.ff ?_); (conv => whnf)))) | ((refine CallP.pure _ rfl _ (pc) ?_); ((conv => whnf); repeat ((first | with_reducible refine BCase.tt ?_ | with_reducible refine BCase.ff ?_); (conv => whnf)))) | ((with_reducible refine EmpOr.app ?_); ((conv => whnf); repeat ((first | with_reducible refine BCase.tt ?_ | with_reducible refine BCase.ff ?_); (conv => whnf)))) | (first | with_reducible refine BCase.not ?_ | with_reducible refine BCase.and ?_ | with_reducible refine BCase.or ?_) | ((with_reducible refine BCase.d (fun _ => ?_) (fun _ => ?_)) <;> ((conv => whnf); repeat ((first | with_reducible refine BCase.tt ?_ | with_reducible refine BCase.ff ?_); (conv => whnf))))))
          exact Ret.le ⟨.inr ⟨⟨3, rfl⟩, .inl rfl⟩, .inl rfl, rfl⟩
  · have e0 : catE l = entChk l := if_pos he
    unfold catL
    rw [e0, if_neg he]
    (((conv => whnf); repeat ((first | with_reducible refine BCase.tt ?_ | with_reducible refine BCase.ff ?_); (conv => whnf))); repeat' (first | ((first | with_reducible refine Wr.u8 ?_ | ((first | with_reducible refine Wr.ci ?s ?_ | with_reducible refine Wr.c3 ?s ?_ | with_reducible refine Wr.c6 ?s ?_ | with_reducible refine BCase.dt ?s ?_); case s => (first | omega | (simp only [lens, true_and, and_true]; (try omega); done))) | (with_reducible refine BCase.df ?s ?_; case s => (first | omega | (simp only [lens, true_and, and_true]; (try omega); done))) | (with_reducible refine Need.mk ?s ?_; case s => first | (first | omega | (simp only [lens, true_and, and_true]; (try omega); done)) | decide | kernel_rfl) | refine BCase.t (by decide) ?_ | refine BCase.f (by decide) ?_); ((conv => whnf); repeat ((first | with_reducible refine BCase.tt ?_ | with_reducible refine BCase.ff ?_); (conv => whnf)))) | ((refine CallP.pure _ rfl _ (pe) ?_); ((conv => whnf); repeat ((first | with_reducible refine BCase.tt ?_ | with_reducible refine BCase.ff ?_); (conv => whnf)))) | ((with_reducible refine EmpOr.app ?_); ((conv => whnf); repeat ((first | with_reducible refine BCase.tt ?_ | with_reducible refine BCase.ff ?_); (conv => whnf)))) | (first | with_reducible refine BCase.not ?_ | with_reducible refine BCase.and ?_ | with_reducible refine BCase.or ?_) | ((with_reducible refine BCase.d (fun _ => ?_) (fun _ => ?_)) <;> ((conv => whnf); repeat ((first | with_reducible refine BCase.tt ?_ | with_reducible refine BCase.ff ?_); (conv => whnf))))))
    exact Ret.le ⟨.inr ⟨⟨3, rfl⟩, .inl rfl⟩, .inl rfl, rfl⟩
end Go.Proofs.Ytjpkacjmmclkeaa.Pm
