/- the document's tables of rows; equality of tables -/
import Derived.Test.YtjpkacjmmclkeaaPdRef
namespace Go.Proofs.Ytjpkacjmmclkeaa.Pm
open Go.RowKit K
set_option linter.unusedVariables false
set_option linter.unusedSimpArgs false
set_option maxRecDepth 100000

/-- the k-th way of a column's marks -/
def cK (k : Nat) : ColumnD := ⟨[], ((k / 4 : Nat) : Int), decide (k / 2 % 2 = 1), decide (k % 2 = 1)⟩
theorem cK_T (k : Nat) : colT (cK k) = colH (cK k) := by unfold colT; exact List.append_nil _
theorem unB_cK {v : ValueD} {k : Nat} (hk : k < 16) (h2 : v.Kind = 2) (hN : v.N = 0) (h3 : 3 ≤ v.S.length) (h : v.S.take 3 = colT (cK k)) : unB v = true ∧ unC v = { cK k with Name := v.S.drop 3 } := by
  obtain ⟨kd, n, s⟩ := v
  simp only at h2 hN h3 h
  subst h2 hN
  match s, h3, h with
  | a :: b :: c :: r, _, h =>
    rw [cK_T] at h
    have h : a = by1 (48 + ((k / 4 : Nat) : Int)) ∧ b = flagB (decide (k / 2 % 2 = 1)) 110 ∧ c = flagB (decide (k % 2 = 1)) 117 := by
      simpa [colH, cK] using h
    obtain ⟨rfl, rfl, rfl⟩ := h
    have e0 := by1_int (48 + ((k / 4 : Nat) : Int))
    have e1 : ((by1 (48 + ((k / 4 : Nat) : Int))).toNat : Int) - 48 = ((k / 4 : Nat) : Int) := by omega
    have f1 : ∀ (x : Bool), decide (flagB x 110 = 110) = x := by decide
    have f2 : ∀ (x : Bool), decide (flagB x 117 = 117) = x := by decide
    have hC : unC ⟨2, 0, by1 (48 + ((k / 4 : Nat) : Int)) :: flagB (decide (k / 2 % 2 = 1)) 110 :: flagB (decide (k % 2 = 1)) 117 :: r⟩ = ⟨r, ((k / 4 : Nat) : Int), decide (k / 2 % 2 = 1), decide (k % 2 = 1)⟩ := by
      show ColumnD.mk r (((by1 (48 + ((k / 4 : Nat) : Int))).toNat : Int) - 48) (decide (flagB (decide (k / 2 % 2 = 1)) 110 = 110)) (decide (flagB (decide (k % 2 = 1)) 117 = 117)) = _
      rw [e1, f1, f2]
    refine ⟨?_, hC⟩
    unfold unB
    rw [hC]
    simp only [List.length_cons, Bool.and_eq_true, decide_eq_true_eq]
    refine ⟨trivial, by omega, by omega, by omega, ?_⟩
    rw [ValueD.eqB_iff]
    rfl
theorem cK_unB {v : ValueD} (h : unB v = true) : v.Kind = 2 ∧ v.N = 0 ∧ 3 ≤ v.S.length ∧ ∃ k, k < 16 ∧ v.S.take 3 = colT (cK k) := by
  unfold unB at h
  simp only [Bool.and_eq_true, decide_eq_true_eq] at h
  obtain ⟨h1, h2, h3, h4, h5⟩ := h
  rw [ValueD.eqB_iff] at h5
  have hs : v.S = colT (unC v) := by have := congrArg ValueD.S h5; exact this.symm
  have hn : v.N = 0 := by have := congrArg ValueD.N h5; exact this.symm
  refine ⟨h1, hn, h2, (unC v).Kind.toNat * 4 + (if (unC v).NotNull then 2 else 0) + (if (unC v).Unique then 1 else 0), ?_, ?_⟩
  · split <;> split <;> omega
  · rw [cK_T, hs]
    generalize unC v = c at *
    obtain ⟨nm, kd, nn, un⟩ := c
    simp only at h3 h4
    obtain ⟨q, rfl⟩ : ∃ q : Nat, kd = q := ⟨kd.toNat, by omega⟩
    have hq : q ≤ 3 := by omega
    show colH ⟨nm, (q : Int), nn, un⟩ = _
    unfold colH cK
    have e1 : ((q : Int).toNat * 4 + (if nn = true then 2 else 0) + (if un = true then 1 else 0)) / 4 = q := by split <;> split <;> omega
    have e2 : decide (((q : Int).toNat * 4 + (if nn = true then 2 else 0) + (if un = true then 1 else 0)) / 2 % 2 = 1) = nn := by cases nn <;> cases un <;> simp <;> omega
    have e3 : decide (((q : Int).toNat * 4 + (if nn = true then 2 else 0) + (if un = true then 1 else 0)) % 2 = 1) = un := by cases nn <;> cases un <;> simp <;> omega
    simp only [e1, e2, e3]
theorem p_colof (v : ValueD) (hv : okText v.S) (hN : vChk v = 0) : Pure Try.prog 26 [vV v] (.tup [cV (if unB v then unC v else ⟨[], 0, false, false⟩), pBool (unB v)]) := by
  have hn := hv
  unfold okText at hn
  have tz := tx_size v.S
  refine pure_of Try.func26 (by rfl) rfl (by kernel_rfl) (by rfl) ?_
  (((conv => whnf); repeat ((first | with_reducible refine BCase.tt ?_ | with_reducible refine BCase.ff ?_); (conv => whnf))); repeat' (first | ((first | with_reducible refine Wr.u8 ?_ | ((first | with_reducible refine Wr.ci ?s ?_ | with_reducible refine Wr.c3 ?s ?_ | with_reducible refine Wr.c6 ?s ?_ | with_reducible refine BCase.dt ?s ?_); case s => (first | omega | (simp only [lens, true_and, and_true]; (try omega); done))) | (with_reducible refine BCase.df ?s ?_; case s => (first | omega | (simp only [lens, true_and, and_true]; (try omega); done))) | (with_reducible refine Need.mk ?s ?_; case s => first | (first | omega | (simp only [lens, true_and, and_true]; (try omega); done)) | decide | kernel_rfl) | refine BCase.t (by decide) ?_ | refine BCase.f (by decide) ?_); ((conv => whnf); repeat ((first | with_reducible refine BCase.tt ?_ | with_reducible refine BCase.ff ?_); (conv => whnf)))) | ((with_reducible refine EmpOr.app ?_); ((conv => whnf); repeat ((first | with_reducible refine BCase.tt ?_ | with_reducible refine BCase.ff ?_); (conv => whnf)))) | (first | with_reducible refine BCase.not ?_ | with_reducible refine BCase.and ?_ | with_reducible refine BCase.or ?_) | ((with_reducible refine BCase.d (fun _ => ?_) (fun _ => ?_)) <;> ((conv => whnf); repeat ((first | with_reducible refine BCase.tt ?_ | with_reducible refine BCase.ff ?_); (conv => whnf))))))
  refine LoopC.mk Nat (fun k => [(1, .d (.ptr 1 0)), (2, .d (.ptr 2 0)), (4, pInt .i64 k)]) (fun k => [(1, .box tVal (v.c.map D.c)), (2, .box tCol [.c (.v (.string ⟨#[]⟩)), .c (.v (.int .i64 0)), .c (.v (.bool false)), .c (.v (.bool false))])]) [1, 2] (fun k => k ≤ 16 ∧ ∀ j, j < k → ¬ (v.Kind = 2 ∧ 3 ≤ v.S.length ∧ v.S.take 3 = colT (cK j))) (fun k => 16 - k) 0 ⟨Nat.zero_le _, fun j h => absurd h (Nat.not_lt_zero _)⟩ ?start ?round
  case start => exact ⟨[(1, 1), (2, 2)], rfl, rfl, ⟨⟨rfl, rfl, rfl⟩, ⟨rfl, rfl, rfl⟩, .inl rfl, trivial⟩, ⟨rfl, rfl, .inl rfl, .inl rfl, .inl rfl, rfl⟩, ⟨rfl, rfl, .inl rfl, .inl rfl, .inl rfl, .inl rfl, rfl⟩, trivial⟩
  case round =>
    rintro k ⟨hk, hno⟩
    by_cases h1 : k < 16
    · have q1 : ((k : Int).tdiv 4) = ((k / 4 : Nat) : Int) := by rw [tdiv_nn (by omega)]; omega
      have q2 : (((k : Int).tdiv 2).tmod 2) = ((k / 2 % 2 : Nat) : Int) := by rw [tdiv_nn (by omega), tmod_nn (by omega)]; omega
      have q3 : ((k : Int).tmod 2) = ((k % 2 : Nat) : Int) := by rw [tmod_nn (by omega)]; omega
      have b1 : 0 ≤ (k : Int).tdiv 4 ∧ (k : Int).tdiv 4 ≤ 16 := by rw [q1]; omega
      have b2 : 0 ≤ (k : Int).tdiv 2 ∧ (k : Int).tdiv 2 ≤ 16 := by rw [tdiv_nn (by omega)]; omega
      have q4 : decide (((k : Int).tdiv 2).tmod 2 = 1) = decide (k / 2 % 2 = 1) := by rw [q2]; exact decide_eq_decide.2 (by omega)
      have q5 : decide ((k : Int).tmod 2 = 1) = decide (k % 2 = 1) := by rw [q3]; exact decide_eq_decide.2 (by omega)
      have ec : PV.agg [D.c (C.v (.string ⟨#[]⟩)), D.c (C.v (.int .i64 ((k : Int).tdiv 4))), D.c (C.v (.bool (decide (((k : Int).tdiv 2).tmod 2 = 1)))), D.c (C.v (.bool (decide ((k : Int).tmod 2 = 1))))] = cV (cK k) := by
        rw [q1, q4, q5]; rfl
      have pt := (p_coltext (cK k) ⟨by show (0 : Int) ≤ ((k / 4 : Nat) : Int); omega, by show ((k / 4 : Nat) : Int) ≤ 3; omega⟩ (by show 0 ≤ _; omega)).to (congrArg (fun x => [x]) ec.symm) rfl
      have e3 : (tx v.S).extract (0 : Int).toNat (3 : Int).toNat = tx (v.S.take 3) := by
        rw [extract_tx]; rfl
      have e4 : (tx v.S).extract (3 : Int).toNat (v.S.length : Int).toNat = tx (v.S.drop 3) := by
        rw [extract_tx, Int.toNat_natCast]
        exact congrArg tx (List.take_of_length_le (by rw [List.length_drop]; exact Nat.le_refl _))
      by_cases hc : v.Kind = 2 ∧ 3 ≤ v.S.length ∧ v.S.take 3 = colT (cK k)
      · obtain ⟨c1, c2, c3⟩ := hc
        have hN0 : v.N = 0 := by
          unfold vChk at hN
          split at hN
          · cases hN
          · split at hN
            · cases hN
            · rename_i g; omega
        obtain ⟨u1, u2⟩ := unB_cK h1 c1 hN0 c2 c3
        rw [u1, if_pos rfl, u2]
        have ht : (tx v.S).extract (0 : Int).toNat (3 : Int).toNat = tx (colT (cK k)) := by rw [e3, c3]
        (((conv => whnf); repeat ((first | with_reducible refine BCase.tt ?_ | with_reducible refine BCase.ff ?_); (conv => whnf))); repeat' (first | ((first | with_reducible refine Wr.u8 ?_ | ((first | with_reducible refine Wr.ci ?s ?_ | with_reducible refine Wr.c3 ?s ?_ | with_reducible refine Wr.c6 ?s ?_ | with_reducible refine BCase.dt ?s ?_); case s => (first | omega | (simp only [lens, true_and, and_true]; (try omega); done))) | (with_reducible refine BCase.df ?s ?_; case s => (first | omega | (simp only [lens, true_and, and_true]; (try omega); done))) | (with_reducible refine Need.mk ?s ?_; case s => first | (first | omega | (simp only [lens, true_and, and_true]; (try omega); done)) | decide | kernel_rfl) | refine BCase.t (by decide) ?_ | refine BCase.f (by decide) ?_); ((conv => whnf); repeat ((first | with_reducible refine BCase.tt ?_ | with_reducible refine BCase.ff ?_); (conv => whnf)))) | ((refine CallP.pure _ rfl _ (pt) ?_); ((conv => whnf); repeat ((first | with_reducible refine BCase.tt ?_ | with_reducible refine BCase.ff ?_); (conv => whnf)))) | (( refine BCase.dt ht ?_); ((conv => whnf); repeat ((first | with_reducible refine BCase.tt ?_ | with_reducible refine BCase.ff ?_); (conv => whnf)))) | ((with_reducible refine EmpOr.app ?_); ((conv => whnf); repeat ((first | with_reducible refine BCase.tt ?_ | with_reducible refine BCase.ff ?_); (conv => whnf)))) | (first | with_reducible refine BCase.not ?_ | with_reducible refine BCase.and ?_ | with_reducible refine BCase.or ?_) | ((with_reducible refine BCase.d (fun _ => ?_) (fun _ => ?_)) <;> ((conv => whnf); repeat ((first | with_reducible refine BCase.tt ?_ | with_reducible refine BCase.ff ?_); (conv => whnf))))))
        refine Ret.mk (tup2 ?_ rfl)
        show PV.agg [D.c (C.v (.string ((tx v.S).extract (3 : Int).toNat (v.S.length : Int).toNat))), D.c (C.v (.int .i64 ((k : Int).tdiv 4))), D.c (C.v (.bool (decide (((k : Int).tdiv 2).tmod 2 = 1)))), D.c (C.v (.bool (decide ((k : Int).tmod 2 = 1))))] = _
        rw [e4, q1, q4, q5]; rfl
      · have ht : 3 ≤ v.S.length → v.Kind = 2 → ¬ (tx v.S).extract (0 : Int).toNat (3 : Int).toNat = tx (colT (cK k)) := fun g1 g2 e => hc ⟨g2, g1, by rw [e3] at e; exact tx_inj e⟩
        (((conv => whnf); repeat ((first | with_reducible refine BCase.tt ?_ | with_reducible refine BCase.ff ?_); (conv => whnf))); repeat' (first | ((first | with_reducible refine Wr.u8 ?_ | ((first | with_reducible refine Wr.ci ?s ?_ | with_reducible refine Wr.c3 ?s ?_ | with_reducible refine Wr.c6 ?s ?_ | with_reducible refine BCase.dt ?s ?_); case s => (first | omega | (simp only [lens, true_and, and_true]; (try omega); done))) | (with_reducible refine BCase.df ?s ?_; case s => (first | omega | (simp only [lens, true_and, and_true]; (try omega); done))) | (with_reducible refine Need.mk ?s ?_; case s => first | (first | omega | (simp only [lens, true_and, and_true]; (try omega); done)) | decide | kernel_rfl) | refine BCase.t (by decide) ?_ | refine BCase.f (by decide) ?_); ((conv => whnf); repeat ((first | with_reducible refine BCase.tt ?_ | with_reducible refine BCase.ff ?_); (conv => whnf)))) | ((refine CallP.pure _ rfl _ (pt) ?_); ((conv => whnf); repeat ((first | with_reducible refine BCase.tt ?_ | with_reducible refine BCase.ff ?_); (conv => whnf)))) | (( refine BCase.df (ht (by omega) (by omega)) ?_); ((conv => whnf); repeat ((first | with_reducible refine BCase.tt ?_ | with_reducible refine BCase.ff ?_); (conv => whnf)))) | ((with_reducible refine EmpOr.app ?_); ((conv => whnf); repeat ((first | with_reducible refine BCase.tt ?_ | with_reducible refine BCase.ff ?_); (conv => whnf)))) | (first | with_reducible refine BCase.not ?_ | with_reducible refine BCase.and ?_ | with_reducible refine BCase.or ?_) | ((with_reducible refine BCase.d (fun _ => ?_) (fun _ => ?_)) <;> ((conv => whnf); repeat ((first | with_reducible refine BCase.tt ?_ | with_reducible refine BCase.ff ?_); (conv => whnf))))))
        all_goals
          refine ⟨k + 1, ⟨by omega, fun j hj => ?_⟩, by omega, [(1, 1), (2, 2)], rfl, rfl, ⟨⟨rfl, rfl, rfl⟩, ⟨rfl, rfl, rfl⟩, PLe.int (by omega), trivial⟩, ⟨rfl, rfl, .inl rfl, .inl rfl, .inl rfl, rfl⟩, ⟨rfl, rfl, .inl rfl, .inl rfl, .inl rfl, .inl rfl, rfl⟩, trivial⟩
          by_cases g : j = k
          · subst g; exact hc
          · exact hno j (by omega)
    · have hb : unB v = false := by
        rw [Bool.eq_false_iff]
        intro h
        obtain ⟨g1, g2, g3, j, g4, g5⟩ := cK_unB h
        exact hno j (by omega) ⟨g1, g3, g5⟩
      rw [hb]
      (((conv => whnf); repeat ((first | with_reducible refine BCase.tt ?_ | with_reducible refine BCase.ff ?_); (conv => whnf))); repeat' (first | ((first | with_reducible refine Wr.u8 ?_ | ((first | with_reducible refine Wr.ci ?s ?_ | with_reducible refine Wr.c3 ?s ?_ | with_reducible refine Wr.c6 ?s ?_ | with_reducible refine BCase.dt ?s ?_); case s => (first | omega | (simp only [lens, true_and, and_true]; (try omega); done))) | (with_reducible refine BCase.df ?s ?_; case s => (first | omega | (simp only [lens, true_and, and_true]; (try omega); done))) | (with_reducible refine Need.mk ?s ?_; case s => first | (first | omega | (simp only [lens, true_and, and_true]; (try omega); done)) | decide | kernel_rfl) | refine BCase.t (by decide) ?_ | refine BCase.f (by decide) ?_); ((conv => whnf); repeat ((first | with_reducible refine BCase.tt ?_ | with_reducible refine BCase.ff ?_); (conv => whnf)))) | ((with_reducible refine EmpOr.app ?_); ((conv => whnf); repeat ((first | with_reducible refine BCase.tt ?_ | with_reducible refine BCase.ff ?_); (conv => whnf)))) | (first | with_reducible refine BCase.not ?_ | with_reducible refine BCase.and ?_ | with_reducible refine BCase.or ?_) | ((with_reducible refine BCase.d (fun _ => ?_) (fun _ => ?_)) <;> ((conv => whnf); repeat ((first | with_reducible refine BCase.tt ?_ | with_reducible refine BCase.ff ?_); (conv => whnf))))))
      exact Ret.mk rfl
end Go.Proofs.Ytjpkacjmmclkeaa.Pm
