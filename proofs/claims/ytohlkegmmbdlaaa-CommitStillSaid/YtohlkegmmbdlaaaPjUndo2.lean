/- journal: the reference's Undo; Recover -/
import Derived.Test.YtohlkegmmbdlaaaPjUndo
namespace Go.Proofs.Ytohlkegmmbdlaaa.Pm
open Go.RowKit K DiskP
set_option linter.unusedVariables false
set_option linter.unusedSimpArgs false
set_option maxRecDepth 100000

theorem first_row {p : List ByteArray} {l : List UInt8} (h : pageAt p 0 = tx l) (hl : l ≠ []) : (p.map encS)[(0 : Int).toNat]? = some [C.v (.string (tx l))] := by
  cases p with
  | nil =>
    exfalso
    have : (⟨#[]⟩ : ByteArray) = tx l := h
    have : tx l = tx [] := this.symm
    exact hl (tx_eq.1 this)
  | cons x p =>
    have : x = tx l := h
    rw [this]; rfl
theorem recL_cases (m : List UInt8) : (m.length < 2 ∧ recL m = none) ∨ ∃ a b r, m = a :: b :: r := by
  match m with
  | [] => exact .inl ⟨by simp, rfl⟩
  | [a] => exact .inl ⟨by simp, rfl⟩
  | a :: b :: r => exact .inr ⟨a, b, r, rfl⟩
theorem p_undoof (s : Str) : Pure Try.prog 22 [stV s] (.tup [.d (.c (opsC (undoR s).1)), pInt .i64 (undoR s).2]) := by
  have pc := p_scheckref s
  have ph := p_ishot s
  have bad : ∀ e, undoR s = ([], e) → Ret (.tup [.d (.c (.v (.slice none 0 0))), pInt .i64 e]) (.tup [.d (.c (opsC (undoR s).1)), pInt .i64 (undoR s).2]) := by
    intro e he
    rw [he]
    exact Ret.le ⟨.inr ⟨⟨3, rfl⟩, .inl rfl⟩, .inl rfl, rfl⟩
  refine pure_of Try.func22 (by rfl) rfl (by kernel_rfl) (by rfl) ?_
  by_cases h : storeChk s = 0
  · have hR : undoR s = if waitsR s = true then ([], 4) else if hotR s = false then ([], 0) else _ := if_neg (not_not_intro h)
    rw [h] at pc
    cases hw : waitsR s with
    | true =>
      rw [hw, if_pos rfl] at hR
      have hw' : 0 < s.1.2.length + s.2.2.length := by unfold waitsR at hw; exact of_decide_eq_true hw
      by_cases w1 : 0 < s.1.2.length
      · (((conv => whnf); repeat ((first | with_reducible refine BCase.tt ?_ | with_reducible refine BCase.ff ?_); (conv => whnf))); repeat' (first | ((first | with_reducible refine Wr.u8 ?_ | ((first | with_reducible refine Wr.ci ?wxs ?_ | with_reducible refine Wr.c3 ?wxs ?_ | with_reducible refine Wr.c6 ?wxs ?_ | with_reducible refine BCase.dt ?wxs ?_); case wxs => (first | omega | (simp only [lens, true_and, and_true]; (try omega); done))) | (with_reducible refine BCase.df ?wxs ?_; case wxs => (first | omega | (simp only [lens, true_and, and_true]; (try omega); done))) | (with_reducible refine Need.mk ?wxs ?_; case wxs => first | (first | omega | (simp only [lens, true_and, and_true]; (try omega); done)) | decide | kernel_rfl) | refine BCase.t (by decide) ?_ | refine BCase.f (by decide) ?_); ((conv => whnf); repeat ((first | with_reducible refine BCase.tt ?_ | with_reducible refine BCase.ff ?_); (conv => whnf)))) | ((refine CallP.pure _ rfl _ (pc) ?_); ((conv => whnf); repeat ((first | with_reducible refine BCase.tt ?_ | with_reducible refine BCase.ff ?_); (conv => whnf)))) | ((with_reducible refine EmpOr.app ?_); ((conv => whnf); repeat ((first | with_reducible refine BCase.tt ?_ | with_reducible refine BCase.ff ?_); (conv => whnf)))) | (first | with_reducible refine BCase.not ?_ | with_reducible refine BCase.and ?_ | with_reducible refine BCase.or ?_) | ((with_reducible refine BCase.d (fun _ => ?_) (fun _ => ?_)) <;> ((conv => whnf); repeat ((first | with_reducible refine BCase.tt ?_ | with_reducible refine BCase.ff ?_); (conv => whnf))))))
        exact bad 4 hR
      · (((conv => whnf); repeat ((first | with_reducible refine BCase.tt ?_ | with_reducible refine BCase.ff ?_); (conv => whnf))); repeat' (first | ((first | with_reducible refine Wr.u8 ?_ | ((first | with_reducible refine Wr.ci ?wxs ?_ | with_reducible refine Wr.c3 ?wxs ?_ | with_reducible refine Wr.c6 ?wxs ?_ | with_reducible refine BCase.dt ?wxs ?_); case wxs => (first | omega | (simp only [lens, true_and, and_true]; (try omega); done))) | (with_reducible refine BCase.df ?wxs ?_; case wxs => (first | omega | (simp only [lens, true_and, and_true]; (try omega); done))) | (with_reducible refine Need.mk ?wxs ?_; case wxs => first | (first | omega | (simp only [lens, true_and, and_true]; (try omega); done)) | decide | kernel_rfl) | refine BCase.t (by decide) ?_ | refine BCase.f (by decide) ?_); ((conv => whnf); repeat ((first | with_reducible refine BCase.tt ?_ | with_reducible refine BCase.ff ?_); (conv => whnf)))) | ((refine CallP.pure _ rfl _ (pc) ?_); ((conv => whnf); repeat ((first | with_reducible refine BCase.tt ?_ | with_reducible refine BCase.ff ?_); (conv => whnf)))) | ((with_reducible refine EmpOr.app ?_); ((conv => whnf); repeat ((first | with_reducible refine BCase.tt ?_ | with_reducible refine BCase.ff ?_); (conv => whnf)))) | (first | with_reducible refine BCase.not ?_ | with_reducible refine BCase.and ?_ | with_reducible refine BCase.or ?_) | ((with_reducible refine BCase.d (fun _ => ?_) (fun _ => ?_)) <;> ((conv => whnf); repeat ((first | with_reducible refine BCase.tt ?_ | with_reducible refine BCase.ff ?_); (conv => whnf))))))
        exact bad 4 hR
    | false =>
      rw [hw, if_neg (by decide)] at hR
      obtain ⟨e1, e2, e3⟩ := hot_head h hw
      have w1 : s.1.2.length = 0 := by rw [e2]; rfl
      have w2 : s.2.2.length = 0 := by rw [e3]; rfl
      cases hh : hotR s with
      | false =>
        rw [hh, if_pos rfl] at hR
        rw [hh] at ph
        (((conv => whnf); repeat ((first | with_reducible refine BCase.tt ?_ | with_reducible refine BCase.ff ?_); (conv => whnf))); repeat' (first | ((first | with_reducible refine Wr.u8 ?_ | ((first | with_reducible refine Wr.ci ?wxs ?_ | with_reducible refine Wr.c3 ?wxs ?_ | with_reducible refine Wr.c6 ?wxs ?_ | with_reducible refine BCase.dt ?wxs ?_); case wxs => (first | omega | (simp only [lens, true_and, and_true]; (try omega); done))) | (with_reducible refine BCase.df ?wxs ?_; case wxs => (first | omega | (simp only [lens, true_and, and_true]; (try omega); done))) | (with_reducible refine Need.mk ?wxs ?_; case wxs => first | (first | omega | (simp only [lens, true_and, and_true]; (try omega); done)) | decide | kernel_rfl) | refine BCase.t (by decide) ?_ | refine BCase.f (by decide) ?_); ((conv => whnf); repeat ((first | with_reducible refine BCase.tt ?_ | with_reducible refine BCase.ff ?_); (conv => whnf)))) | ((refine CallP.pure _ rfl _ (pc) ?_); ((conv => whnf); repeat ((first | with_reducible refine BCase.tt ?_ | with_reducible refine BCase.ff ?_); (conv => whnf)))) | ((refine CallP.pure _ rfl _ (ph) ?_); ((conv => whnf); repeat ((first | with_reducible refine BCase.tt ?_ | with_reducible refine BCase.ff ?_); (conv => whnf)))) | ((with_reducible refine EmpOr.app ?_); ((conv => whnf); repeat ((first | with_reducible refine BCase.tt ?_ | with_reducible refine BCase.ff ?_); (conv => whnf)))) | (first | with_reducible refine BCase.not ?_ | with_reducible refine BCase.and ?_ | with_reducible refine BCase.or ?_) | ((with_reducible refine BCase.d (fun _ => ?_) (fun _ => ?_)) <;> ((conv => whnf); repeat ((first | with_reducible refine BCase.tt ?_ | with_reducible refine BCase.ff ?_); (conv => whnf))))))
        exact bad 0 hR
      | true =>
        rw [hh, if_neg (by decide)] at hR
        rw [hh] at ph e1
        obtain ⟨k1, k2⟩ := storeChk_ok h
        rw [e3] at k2
        have hsz := pageAt_size (check_ok _ _ k2).2.1
        obtain ⟨hd, ehd⟩ : ∃ l, pageAt s.2.1 0 = tx l := ⟨_, (tx_list _).symm⟩
        rw [ehd] at hR e1
        have hne : hd ≠ [] := by rintro rfl; cases e1
        have hrow := first_row ehd hne
        have thd := tx_size hd
        have twoCase : (∃ a b, hd = [a, b]) ∨ hd.length ≠ 2 := by
          by_cases q : hd.length = 2
          · left
            match hd, q with
            | [a, b], _ => exact ⟨a, b, rfl⟩
          · exact .inr q
        rcases twoCase with ⟨a, b, rfl⟩ | q
        · have hb := b.toNat_lt
          rw [headN_two] at hR
          have hl2 : (tx [a, b]).size = 2 := rfl
          by_cases q : b.toNat ≤ 31
          · rw [if_pos q] at hR
            simp only at hR
            have hR := Lib.hid hR
            (((conv => whnf); repeat ((first | with_reducible refine BCase.tt ?_ | with_reducible refine BCase.ff ?_); (conv => whnf))); repeat' (first | ((first | with_reducible refine Wr.u8 ?_ | ((first | with_reducible refine Wr.ci ?wxs ?_ | with_reducible refine Wr.c3 ?wxs ?_ | with_reducible refine Wr.c6 ?wxs ?_ | with_reducible refine BCase.dt ?wxs ?_); case wxs => (first | omega | (simp only [lens, true_and, and_true]; (try omega); done))) | (with_reducible refine BCase.df ?wxs ?_; case wxs => (first | omega | (simp only [lens, true_and, and_true]; (try omega); done))) | (with_reducible refine Need.mk ?wxs ?_; case wxs => first | (first | omega | (simp only [lens, true_and, and_true]; (try omega); done)) | decide | kernel_rfl) | refine BCase.t (by decide) ?_ | refine BCase.f (by decide) ?_); ((conv => whnf); repeat ((first | with_reducible refine BCase.tt ?_ | with_reducible refine BCase.ff ?_); (conv => whnf)))) | ((refine CallP.pure _ rfl _ (pc) ?_); ((conv => whnf); repeat ((first | with_reducible refine BCase.tt ?_ | with_reducible refine BCase.ff ?_); (conv => whnf)))) | ((refine CallP.pure _ rfl _ (ph) ?_); ((conv => whnf); repeat ((first | with_reducible refine BCase.tt ?_ | with_reducible refine BCase.ff ?_); (conv => whnf)))) | (( first | refine Idx.mk _ (by decide) hrow ?_ | refine SIdx.mk b (by decide) rfl ?_); ((conv => whnf); repeat ((first | with_reducible refine BCase.tt ?_ | with_reducible refine BCase.ff ?_); (conv => whnf)))) | ((with_reducible refine EmpOr.app ?_); ((conv => whnf); repeat ((first | with_reducible refine BCase.tt ?_ | with_reducible refine BCase.ff ?_); (conv => whnf)))) | (first | with_reducible refine BCase.not ?_ | with_reducible refine BCase.and ?_ | with_reducible refine BCase.or ?_) | ((with_reducible refine BCase.d (fun _ => ?_) (fun _ => ?_)) <;> ((conv => whnf); repeat ((first | with_reducible refine BCase.tt ?_ | with_reducible refine BCase.ff ?_); (conv => whnf))))))
            refine LoopC.mk (Nat × List Opr) (fun x => [(1, .d (.ptr 1 0)), (5, .d (.c (pgsC s.2.1))), (6, .d (.app 90 67 3 (x.2.map encO))), (7, pInt .i64 (x.1 + 1 : Nat))]) (fun x => [(1, storeBox s), (90, opT)]) [1, 90] (fun x => x.1 ≤ b.toNat ∧ x.2.length = x.1 ∧ UndoI s b.toNat x.1 x.2) (fun x => b.toNat - x.1) (0, []) ⟨Nat.zero_le _, rfl, ?init⟩ ?start ?round
            case init =>
              show undoL _ 1 b.toNat = (undoL _ 1 b.toNat).map fun r => [] ++ r
              simp
            case start => exact ⟨[(1, 1)], rfl, rfl, ⟨⟨rfl, rfl, rfl⟩, .inl rfl, ⟨rfl, rfl, Nat.zero_lt_succ _, rfl, rfl⟩, .inl rfl, trivial⟩, ⟨rfl, rfl, .inl rfl, .inl rfl, .inl rfl, .inl rfl, rfl⟩, ⟨rfl, Nat.zero_lt_succ _⟩, trivial⟩
            case round =>
              rintro ⟨k, l⟩ ⟨hk, hl, hI⟩
              simp only at hk hl hI ⊢
              have ll : (l.map encO).length = k := by rw [List.length_map, hl]
              by_cases hkb : k < b.toNat
              · have pp := p_pageat s.2.1 ((k + 1 : Nat) : Int)
                obtain ⟨m, em⟩ : ∃ m, pageAt s.2.1 ((k + 1 : Nat) : Int) = tx m := ⟨_, (tx_list _).symm⟩
                have hm := hsz ((k + 1 : Nat) : Int)
                rw [em] at pp hm
                rw [tx_size] at hm
                have tm := tx_size m
                rcases recL_cases m with ⟨g1, g2⟩ | ⟨x, y, r, rfl⟩
                · have hbad := hI.bad hkb (by rw [em]; exact g2)
                  (((conv => whnf); repeat ((first | with_reducible refine BCase.tt ?_ | with_reducible refine BCase.ff ?_); (conv => whnf))); repeat' (first | ((first | with_reducible refine Wr.u8 ?_ | ((first | with_reducible refine Wr.ci ?wxs ?_ | with_reducible refine Wr.c3 ?wxs ?_ | with_reducible refine Wr.c6 ?wxs ?_ | with_reducible refine BCase.dt ?wxs ?_); case wxs => (first | omega | (simp only [lens, true_and, and_true]; (try omega); done))) | (with_reducible refine BCase.df ?wxs ?_; case wxs => (first | omega | (simp only [lens, true_and, and_true]; (try omega); done))) | (with_reducible refine Need.mk ?wxs ?_; case wxs => first | (first | omega | (simp only [lens, true_and, and_true]; (try omega); done)) | decide | kernel_rfl) | refine BCase.t (by decide) ?_ | refine BCase.f (by decide) ?_); ((conv => whnf); repeat ((first | with_reducible refine BCase.tt ?_ | with_reducible refine BCase.ff ?_); (conv => whnf)))) | ((refine CallP.pure _ rfl _ (pp) ?_); ((conv => whnf); repeat ((first | with_reducible refine BCase.tt ?_ | with_reducible refine BCase.ff ?_); (conv => whnf)))) | (( first | refine Idx.mk _ (by decide) hrow ?_ | refine SIdx.mk b (by decide) rfl ?_); ((conv => whnf); repeat ((first | with_reducible refine BCase.tt ?_ | with_reducible refine BCase.ff ?_); (conv => whnf)))) | ((with_reducible refine EmpOr.app ?_); ((conv => whnf); repeat ((first | with_reducible refine BCase.tt ?_ | with_reducible refine BCase.ff ?_); (conv => whnf)))) | (first | with_reducible refine BCase.not ?_ | with_reducible refine BCase.and ?_ | with_reducible refine BCase.or ?_) | ((with_reducible refine BCase.d (fun _ => ?_) (fun _ => ?_)) <;> ((conv => whnf); repeat ((first | with_reducible refine BCase.tt ?_ | with_reducible refine BCase.ff ?_); (conv => whnf))))))
                  exact bad 1 (by rw [hR.out, hbad])
                · have hx := x.toNat_lt
                  have hy := y.toNat_lt
                  rw [List.length_cons, List.length_cons] at tm
                  by_cases gx : x.toNat = 0
                  · by_cases gy : y.toNat < 32
                    · have hn := hI.next hkb (by rw [em]; exact (recL_two x y r).trans (if_pos ⟨gx, gy⟩))
                      have e1 : (tx (x :: y :: r)).extract (2 : Int).toNat ((tx (x :: y :: r)).size : Int).toNat = tx r := by
                        rw [Int.toNat_natCast]
                        show (tx (x :: y :: r)).extract 2 _ = _
                        rw [extract_from]; rfl
                      (((conv => whnf); repeat ((first | with_reducible refine BCase.tt ?_ | with_reducible refine BCase.ff ?_); (conv => whnf))); repeat' (first | ((first | with_reducible refine Wr.u8 ?_ | ((first | with_reducible refine Wr.ci ?wxs ?_ | with_reducible refine Wr.c3 ?wxs ?_ | with_reducible refine Wr.c6 ?wxs ?_ | with_reducible refine BCase.dt ?wxs ?_); case wxs => (first | omega | (simp only [lens, true_and, and_true]; (try omega); done))) | (with_reducible refine BCase.df ?wxs ?_; case wxs => (first | omega | (simp only [lens, true_and, and_true]; (try omega); done))) | (with_reducible refine Need.mk ?wxs ?_; case wxs => first | (first | omega | (simp only [lens, true_and, and_true]; (try omega); done)) | decide | kernel_rfl) | refine BCase.t (by decide) ?_ | refine BCase.f (by decide) ?_); ((conv => whnf); repeat ((first | with_reducible refine BCase.tt ?_ | with_reducible refine BCase.ff ?_); (conv => whnf)))) | ((refine CallP.pure _ rfl _ (pp) ?_); ((conv => whnf); repeat ((first | with_reducible refine BCase.tt ?_ | with_reducible refine BCase.ff ?_); (conv => whnf)))) | (( first | refine Idx.mk _ (by decide) hrow ?_ | refine SIdx.mk (s := tx [a, b]) b (by decide) rfl ?_ | refine SIdx.mk (s := tx (x :: y :: r)) (n := 0) x (by decide) rfl ?_ | refine SIdx.mk (s := tx (x :: y :: r)) (n := 1) y (by decide) rfl ?_); ((conv => whnf); repeat ((first | with_reducible refine BCase.tt ?_ | with_reducible refine BCase.ff ?_); (conv => whnf)))) | (( refine Need.by 32 rfl (by rw [ll]; simp only [List.length_singleton]; omega) ?_); ((conv => whnf); repeat ((first | with_reducible refine BCase.tt ?_ | with_reducible refine BCase.ff ?_); (conv => whnf)))) | ((with_reducible refine EmpOr.app ?_); ((conv => whnf); repeat ((first | with_reducible refine BCase.tt ?_ | with_reducible refine BCase.ff ?_); (conv => whnf)))) | (first | with_reducible refine BCase.not ?_ | with_reducible refine BCase.and ?_ | with_reducible refine BCase.or ?_) | ((with_reducible refine BCase.d (fun _ => ?_) (fun _ => ?_)) <;> ((conv => whnf); repeat ((first | with_reducible refine BCase.tt ?_ | with_reducible refine BCase.ff ?_); (conv => whnf))))))
                      exact ⟨(k + 1, l ++ [(1, (y.toNat : Int), tx r)]), ⟨by show k + 1 ≤ _; omega, by simp; omega, hn⟩, by show b.toNat - (k + 1) < b.toNat - k; omega, [(1, 1), (90, 83)], rfl, rfl, ⟨⟨rfl, rfl, rfl⟩, .inl rfl, ⟨rfl, rfl, rfl, rfl, by rw [e1, List.map_append]; rfl⟩, PLe.int (by omega), trivial⟩, ⟨rfl, rfl, .inl rfl, .inl rfl, .inl rfl, .inl rfl, rfl⟩, ⟨rfl, rfl, rfl⟩, trivial⟩
                    · have hbad := hI.bad hkb (by rw [em]; exact (recL_two x y r).trans (if_neg fun e => gy e.2))
                      (((conv => whnf); repeat ((first | with_reducible refine BCase.tt ?_ | with_reducible refine BCase.ff ?_); (conv => whnf))); repeat' (first | ((first | with_reducible refine Wr.u8 ?_ | ((first | with_reducible refine Wr.ci ?wxs ?_ | with_reducible refine Wr.c3 ?wxs ?_ | with_reducible refine Wr.c6 ?wxs ?_ | with_reducible refine BCase.dt ?wxs ?_); case wxs => (first | omega | (simp only [lens, true_and, and_true]; (try omega); done))) | (with_reducible refine BCase.df ?wxs ?_; case wxs => (first | omega | (simp only [lens, true_and, and_true]; (try omega); done))) | (with_reducible refine Need.mk ?wxs ?_; case wxs => first | (first | omega | (simp only [lens, true_and, and_true]; (try omega); done)) | decide | kernel_rfl) | refine BCase.t (by decide) ?_ | refine BCase.f (by decide) ?_); ((conv => whnf); repeat ((first | with_reducible refine BCase.tt ?_ | with_reducible refine BCase.ff ?_); (conv => whnf)))) | ((refine CallP.pure _ rfl _ (pp) ?_); ((conv => whnf); repeat ((first | with_reducible refine BCase.tt ?_ | with_reducible refine BCase.ff ?_); (conv => whnf)))) | (( first | refine Idx.mk _ (by decide) hrow ?_ | refine SIdx.mk (s := tx [a, b]) b (by decide) rfl ?_ | refine SIdx.mk (s := tx (x :: y :: r)) (n := 0) x (by decide) rfl ?_ | refine SIdx.mk (s := tx (x :: y :: r)) (n := 1) y (by decide) rfl ?_); ((conv => whnf); repeat ((first | with_reducible refine BCase.tt ?_ | with_reducible refine BCase.ff ?_); (conv => whnf)))) | ((with_reducible refine EmpOr.app ?_); ((conv => whnf); repeat ((first | with_reducible refine BCase.tt ?_ | with_reducible refine BCase.ff ?_); (conv => whnf)))) | (first | with_reducible refine BCase.not ?_ | with_reducible refine BCase.and ?_ | with_reducible refine BCase.or ?_) | ((with_reducible refine BCase.d (fun _ => ?_) (fun _ => ?_)) <;> ((conv => whnf); repeat ((first | with_reducible refine BCase.tt ?_ | with_reducible refine BCase.ff ?_); (conv => whnf))))))
                      exact bad 1 (by rw [hR.out, hbad])
                  · have hbad := hI.bad hkb (by rw [em]; exact (recL_two x y r).trans (if_neg fun e => gx e.1))
                    (((conv => whnf); repeat ((first | with_reducible refine BCase.tt ?_ | with_reducible refine BCase.ff ?_); (conv => whnf))); repeat' (first | ((first | with_reducible refine Wr.u8 ?_ | ((first | with_reducible refine Wr.ci ?wxs ?_ | with_reducible refine Wr.c3 ?wxs ?_ | with_reducible refine Wr.c6 ?wxs ?_ | with_reducible refine BCase.dt ?wxs ?_); case wxs => (first | omega | (simp only [lens, true_and, and_true]; (try omega); done))) | (with_reducible refine BCase.df ?wxs ?_; case wxs => (first | omega | (simp only [lens, true_and, and_true]; (try omega); done))) | (with_reducible refine Need.mk ?wxs ?_; case wxs => first | (first | omega | (simp only [lens, true_and, and_true]; (try omega); done)) | decide | kernel_rfl) | refine BCase.t (by decide) ?_ | refine BCase.f (by decide) ?_); ((conv => whnf); repeat ((first | with_reducible refine BCase.tt ?_ | with_reducible refine BCase.ff ?_); (conv => whnf)))) | ((refine CallP.pure _ rfl _ (pp) ?_); ((conv => whnf); repeat ((first | with_reducible refine BCase.tt ?_ | with_reducible refine BCase.ff ?_); (conv => whnf)))) | (( first | refine Idx.mk _ (by decide) hrow ?_ | refine SIdx.mk (s := tx [a, b]) b (by decide) rfl ?_ | refine SIdx.mk (s := tx (x :: y :: r)) (n := 0) x (by decide) rfl ?_ | refine SIdx.mk (s := tx (x :: y :: r)) (n := 1) y (by decide) rfl ?_); ((conv => whnf); repeat ((first | with_reducible refine BCase.tt ?_ | with_reducible refine BCase.ff ?_); (conv => whnf)))) | ((with_reducible refine EmpOr.app ?_); ((conv => whnf); repeat ((first | with_reducible refine BCase.tt ?_ | with_reducible refine BCase.ff ?_); (conv => whnf)))) | (first | with_reducible refine BCase.not ?_ | with_reducible refine BCase.and ?_ | with_reducible refine BCase.or ?_) | ((with_reducible refine BCase.d (fun _ => ?_) (fun _ => ?_)) <;> ((conv => whnf); repeat ((first | with_reducible refine BCase.tt ?_ | with_reducible refine BCase.ff ?_); (conv => whnf))))))
                    exact bad 1 (by rw [hR.out, hbad])
              · obtain rfl : k = b.toNat := by omega
                have hdone := hI.done
                (((conv => whnf); repeat ((first | with_reducible refine BCase.tt ?_ | with_reducible refine BCase.ff ?_); (conv => whnf))); repeat' (first | ((first | with_reducible refine Wr.u8 ?_ | ((first | with_reducible refine Wr.ci ?wxs ?_ | with_reducible refine Wr.c3 ?wxs ?_ | with_reducible refine Wr.c6 ?wxs ?_ | with_reducible refine BCase.dt ?wxs ?_); case wxs => (first | omega | (simp only [lens, true_and, and_true]; (try omega); done))) | (with_reducible refine BCase.df ?wxs ?_; case wxs => (first | omega | (simp only [lens, true_and, and_true]; (try omega); done))) | (with_reducible refine Need.mk ?wxs ?_; case wxs => first | (first | omega | (simp only [lens, true_and, and_true]; (try omega); done)) | decide | kernel_rfl) | refine BCase.t (by decide) ?_ | refine BCase.f (by decide) ?_); ((conv => whnf); repeat ((first | with_reducible refine BCase.tt ?_ | with_reducible refine BCase.ff ?_); (conv => whnf)))) | ((refine CallP.pure _ rfl _ (p_endops) ?_); ((conv => whnf); repeat ((first | with_reducible refine BCase.tt ?_ | with_reducible refine BCase.ff ?_); (conv => whnf)))) | (( first | refine Idx.mk _ (by decide) hrow ?_ | refine SIdx.mk b (by decide) rfl ?_); ((conv => whnf); repeat ((first | with_reducible refine BCase.tt ?_ | with_reducible refine BCase.ff ?_); (conv => whnf)))) | (( refine Need.by 32 rfl (by rw [ll]; simp only [List.length_map, endO, List.length_cons, List.length_nil]; omega) ?_); ((conv => whnf); repeat ((first | with_reducible refine BCase.tt ?_ | with_reducible refine BCase.ff ?_); (conv => whnf)))) | ((with_reducible refine EmpOr.app ?_); ((conv => whnf); repeat ((first | with_reducible refine BCase.tt ?_ | with_reducible refine BCase.ff ?_); (conv => whnf)))) | (first | with_reducible refine BCase.not ?_ | with_reducible refine BCase.and ?_ | with_reducible refine BCase.or ?_) | ((with_reducible refine BCase.d (fun _ => ?_) (fun _ => ?_)) <;> ((conv => whnf); repeat ((first | with_reducible refine BCase.tt ?_ | with_reducible refine BCase.ff ?_); (conv => whnf))))))
                refine Ret.eq ?_
                rw [hR.out, hdone]
                have em := List.map_append (f := encO) (l₁ := l) (l₂ := endO)
                show _ = PV.tup [.d (.c (.sl 3 (List.map encO (l ++ endO)))), _]
                rw [em]
          · rw [if_neg q] at hR
            (((conv => whnf); repeat ((first | with_reducible refine BCase.tt ?_ | with_reducible refine BCase.ff ?_); (conv => whnf))); repeat' (first | ((first | with_reducible refine Wr.u8 ?_ | ((first | with_reducible refine Wr.ci ?wxs ?_ | with_reducible refine Wr.c3 ?wxs ?_ | with_reducible refine Wr.c6 ?wxs ?_ | with_reducible refine BCase.dt ?wxs ?_); case wxs => (first | omega | (simp only [lens, true_and, and_true]; (try omega); done))) | (with_reducible refine BCase.df ?wxs ?_; case wxs => (first | omega | (simp only [lens, true_and, and_true]; (try omega); done))) | (with_reducible refine Need.mk ?wxs ?_; case wxs => first | (first | omega | (simp only [lens, true_and, and_true]; (try omega); done)) | decide | kernel_rfl) | refine BCase.t (by decide) ?_ | refine BCase.f (by decide) ?_); ((conv => whnf); repeat ((first | with_reducible refine BCase.tt ?_ | with_reducible refine BCase.ff ?_); (conv => whnf)))) | ((refine CallP.pure _ rfl _ (pc) ?_); ((conv => whnf); repeat ((first | with_reducible refine BCase.tt ?_ | with_reducible refine BCase.ff ?_); (conv => whnf)))) | ((refine CallP.pure _ rfl _ (ph) ?_); ((conv => whnf); repeat ((first | with_reducible refine BCase.tt ?_ | with_reducible refine BCase.ff ?_); (conv => whnf)))) | (( first | refine Idx.mk _ (by decide) hrow ?_ | refine SIdx.mk b (by decide) rfl ?_); ((conv => whnf); repeat ((first | with_reducible refine BCase.tt ?_ | with_reducible refine BCase.ff ?_); (conv => whnf)))) | ((with_reducible refine EmpOr.app ?_); ((conv => whnf); repeat ((first | with_reducible refine BCase.tt ?_ | with_reducible refine BCase.ff ?_); (conv => whnf)))) | (first | with_reducible refine BCase.not ?_ | with_reducible refine BCase.and ?_ | with_reducible refine BCase.or ?_) | ((with_reducible refine BCase.d (fun _ => ?_) (fun _ => ?_)) <;> ((conv => whnf); repeat ((first | with_reducible refine BCase.tt ?_ | with_reducible refine BCase.ff ?_); (conv => whnf))))))
            exact bad 1 hR
        · have hn : headN (tx hd) = none := by
            show headN ⟨hd.toArray⟩ = none
            unfold headN
            match hd, q with
            | [], _ => rfl
            | [_], _ => rfl
            | [_, _], q => exact absurd rfl q
            | _ :: _ :: _ :: _, _ => rfl
          rw [hn] at hR
          (((conv => whnf); repeat ((first | with_reducible refine BCase.tt ?_ | with_reducible refine BCase.ff ?_); (conv => whnf))); repeat' (first | ((first | with_reducible refine Wr.u8 ?_ | ((first | with_reducible refine Wr.ci ?wxs ?_ | with_reducible refine Wr.c3 ?wxs ?_ | with_reducible refine Wr.c6 ?wxs ?_ | with_reducible refine BCase.dt ?wxs ?_); case wxs => (first | omega | (simp only [lens, true_and, and_true]; (try omega); done))) | (with_reducible refine BCase.df ?wxs ?_; case wxs => (first | omega | (simp only [lens, true_and, and_true]; (try omega); done))) | (with_reducible refine Need.mk ?wxs ?_; case wxs => first | (first | omega | (simp only [lens, true_and, and_true]; (try omega); done)) | decide | kernel_rfl) | refine BCase.t (by decide) ?_ | refine BCase.f (by decide) ?_); ((conv => whnf); repeat ((first | with_reducible refine BCase.tt ?_ | with_reducible refine BCase.ff ?_); (conv => whnf)))) | ((refine CallP.pure _ rfl _ (pc) ?_); ((conv => whnf); repeat ((first | with_reducible refine BCase.tt ?_ | with_reducible refine BCase.ff ?_); (conv => whnf)))) | ((refine CallP.pure _ rfl _ (ph) ?_); ((conv => whnf); repeat ((first | with_reducible refine BCase.tt ?_ | with_reducible refine BCase.ff ?_); (conv => whnf)))) | (( refine Idx.mk _ (by decide) hrow ?_); ((conv => whnf); repeat ((first | with_reducible refine BCase.tt ?_ | with_reducible refine BCase.ff ?_); (conv => whnf)))) | ((with_reducible refine EmpOr.app ?_); ((conv => whnf); repeat ((first | with_reducible refine BCase.tt ?_ | with_reducible refine BCase.ff ?_); (conv => whnf)))) | (first | with_reducible refine BCase.not ?_ | with_reducible refine BCase.and ?_ | with_reducible refine BCase.or ?_) | ((with_reducible refine BCase.d (fun _ => ?_) (fun _ => ?_)) <;> ((conv => whnf); repeat ((first | with_reducible refine BCase.tt ?_ | with_reducible refine BCase.ff ?_); (conv => whnf))))))
          exact bad 1 hR
  · have hR : undoR s = ([], storeChk s) := if_pos h
    (((conv => whnf); repeat ((first | with_reducible refine BCase.tt ?_ | with_reducible refine BCase.ff ?_); (conv => whnf))); repeat' (first | ((first | with_reducible refine Wr.u8 ?_ | ((first | with_reducible refine Wr.ci ?wxs ?_ | with_reducible refine Wr.c3 ?wxs ?_ | with_reducible refine Wr.c6 ?wxs ?_ | with_reducible refine BCase.dt ?wxs ?_); case wxs => (first | omega | (simp only [lens, true_and, and_true]; (try omega); done))) | (with_reducible refine BCase.df ?wxs ?_; case wxs => (first | omega | (simp only [lens, true_and, and_true]; (try omega); done))) | (with_reducible refine Need.mk ?wxs ?_; case wxs => first | (first | omega | (simp only [lens, true_and, and_true]; (try omega); done)) | decide | kernel_rfl) | refine BCase.t (by decide) ?_ | refine BCase.f (by decide) ?_); ((conv => whnf); repeat ((first | with_reducible refine BCase.tt ?_ | with_reducible refine BCase.ff ?_); (conv => whnf)))) | ((refine CallP.pure _ rfl _ (pc) ?_); ((conv => whnf); repeat ((first | with_reducible refine BCase.tt ?_ | with_reducible refine BCase.ff ?_); (conv => whnf)))) | ((with_reducible refine EmpOr.app ?_); ((conv => whnf); repeat ((first | with_reducible refine BCase.tt ?_ | with_reducible refine BCase.ff ?_); (conv => whnf)))) | (first | with_reducible refine BCase.not ?_ | with_reducible refine BCase.and ?_ | with_reducible refine BCase.or ?_) | ((with_reducible refine BCase.d (fun _ => ?_) (fun _ => ?_)) <;> ((conv => whnf); repeat ((first | with_reducible refine BCase.tt ?_ | with_reducible refine BCase.ff ?_); (conv => whnf))))))
    exact bad _ hR
theorem undoR_len (s : Str) : (undoR s).1.length ≤ 34 := by
  unfold undoR
  split
  · simp
  · split
    · simp
    · split
      · simp
      · split
        · simp
        · rename_i n hn
          split
          · simp
          · rename_i l hl
            have := undoL_len _ _ _ _ hl
            have hn31 : n ≤ 31 := by
              unfold headN at hn
              split at hn
              · split at hn
                · cases hn; assumption
                · cases hn
              · cases hn
            rw [List.length_append]
            show l.length + 3 ≤ 34
            omega
def recoverR (s : Str) : Str × Int := if (undoR s).2 ≠ 0 then (zeroS, (undoR s).2) else playR s (undoR s).1
theorem p_recover (s : Str) (h1 : s.1.2.length ≤ 140737488355328) (h2 : s.2.2.length ≤ 140737488355328) : Pure Try.prog 21 [stV s] (.tup [stV (recoverR s).1, pInt .i64 (recoverR s).2]) := by
  have pu := p_undo s h1 h2
  have pp := p_play s (undoR s).1 (by have := undoR_len s; omega)
  unfold recoverR
  refine pure_of Try.func21 (by rfl) rfl (by kernel_rfl) (by rfl) ?_
  by_cases h : (undoR s).2 = 0
  · rw [if_neg (not_not_intro h)]
    rw [h] at pu
    (((conv => whnf); repeat ((first | with_reducible refine BCase.tt ?_ | with_reducible refine BCase.ff ?_); (conv => whnf))); repeat' (first | ((first | with_reducible refine Wr.u8 ?_ | ((first | with_reducible refine Wr.ci ?wxs ?_ | with_reducible refine Wr.c3 ?wxs ?_ | with_reducible refine Wr.c6 ?wxs ?_ | with_reducible refine BCase.dt ?wxs ?_); case wxs => (first | omega | (simp only [lens, true_and, and_true]; (try omega); done))) | (with_reducible refine BCase.df ?wxs ?_; case wxs => (first | omega | (simp only [lens, true_and, and_true]; (try omega); done))) | (with_reducible refine Need.mk ?wxs ?_; case wxs => first | (first | omega | (simp only [lens, true_and, and_true]; (try omega); done)) | decide | kernel_rfl) | refine BCase.t (by decide) ?_ | refine BCase.f (by decide) ?_); ((conv => whnf); repeat ((first | with_reducible refine BCase.tt ?_ | with_reducible refine BCase.ff ?_); (conv => whnf)))) | ((refine CallP.pure _ rfl _ (pu) ?_); ((conv => whnf); repeat ((first | with_reducible refine BCase.tt ?_ | with_reducible refine BCase.ff ?_); (conv => whnf)))) | ((refine CallP.pure _ rfl _ (pp) ?_); ((conv => whnf); repeat ((first | with_reducible refine BCase.tt ?_ | with_reducible refine BCase.ff ?_); (conv => whnf)))) | ((with_reducible refine EmpOr.app ?_); ((conv => whnf); repeat ((first | with_reducible refine BCase.tt ?_ | with_reducible refine BCase.ff ?_); (conv => whnf)))) | (first | with_reducible refine BCase.not ?_ | with_reducible refine BCase.and ?_ | with_reducible refine BCase.or ?_) | ((with_reducible refine BCase.d (fun _ => ?_) (fun _ => ?_)) <;> ((conv => whnf); repeat ((first | with_reducible refine BCase.tt ?_ | with_reducible refine BCase.ff ?_); (conv => whnf))))))
    exact Ret.mk rfl
  · rw [if_pos h]
    (((conv => whnf); repeat ((first | with_reducible refine BCase.tt ?_ | with_reducible refine BCase.ff ?_); (conv => whnf))); repeat' (first | ((first | with_reducible refine Wr.u8 ?_ | ((first | with_reducible refine Wr.ci ?wxs ?_ | with_reducible refine Wr.c3 ?wxs ?_ | with_reducible refine Wr.c6 ?wxs ?_ | with_reducible refine BCase.dt ?wxs ?_); case wxs => (first | omega | (simp only [lens, true_and, and_true]; (try omega); done))) | (with_reducible refine BCase.df ?wxs ?_; case wxs => (first | omega | (simp only [lens, true_and, and_true]; (try omega); done))) | (with_reducible refine Need.mk ?wxs ?_; case wxs => first | (first | omega | (simp only [lens, true_and, and_true]; (try omega); done)) | decide | kernel_rfl) | refine BCase.t (by decide) ?_ | refine BCase.f (by decide) ?_); ((conv => whnf); repeat ((first | with_reducible refine BCase.tt ?_ | with_reducible refine BCase.ff ?_); (conv => whnf)))) | ((refine CallP.pure _ rfl _ (pu) ?_); ((conv => whnf); repeat ((first | with_reducible refine BCase.tt ?_ | with_reducible refine BCase.ff ?_); (conv => whnf)))) | ((refine CallP.pure _ rfl _ (pp) ?_); ((conv => whnf); repeat ((first | with_reducible refine BCase.tt ?_ | with_reducible refine BCase.ff ?_); (conv => whnf)))) | ((with_reducible refine EmpOr.app ?_); ((conv => whnf); repeat ((first | with_reducible refine BCase.tt ?_ | with_reducible refine BCase.ff ?_); (conv => whnf)))) | (first | with_reducible refine BCase.not ?_ | with_reducible refine BCase.and ?_ | with_reducible refine BCase.or ?_) | ((with_reducible refine BCase.d (fun _ => ?_) (fun _ => ?_)) <;> ((conv => whnf); repeat ((first | with_reducible refine BCase.tt ?_ | with_reducible refine BCase.ff ?_); (conv => whnf))))))
    exact Ret.le ⟨⟨.inr ⟨⟨1, rfl⟩, .inl rfl⟩, .inr ⟨⟨2, rfl⟩, .inl rfl⟩, .inr ⟨⟨1, rfl⟩, .inl rfl⟩, .inr ⟨⟨2, rfl⟩, .inl rfl⟩, rfl⟩, .inl rfl, rfl⟩
end Go.Proofs.Ytohlkegmmbdlaaa.Pm
