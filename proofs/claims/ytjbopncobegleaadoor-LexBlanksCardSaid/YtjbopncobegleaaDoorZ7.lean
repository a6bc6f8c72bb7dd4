/- Parts of the proof, one behind the other: PkLaws2. Conditions: none beyond what each theorem says. -/
import Derived.Test.YtjbopncobegleaaDoorZ6
section
namespace Go.Proofs.YtjbopncobegleaaDoor.Pm
open Go.RowKit K
set_option linter.unusedVariables false
set_option linter.unusedSimpArgs false
set_option maxRecDepth 100000
theorem okTk_len {l : List TokenD} (h : okTk l) : l.length ≤ 140737488355328 := by
 have h1 := h.1
 rw [show Tryd.prog.bytesOf 29 = 40 by kernel_rfl] at h1
 omega
def bgS : List UInt8 := [83, 101, 108, 101, 99, 116, 32, 39, 105, 116, 39, 39, 115, 39, 60, 61, 120, 39, 48, 65, 39, 32, 45, 45, 32, 115, 111, 10, 49, 50]
def bgL : List TokenD := [⟨1, 0, 0, [115, 101, 108, 101, 99, 116]⟩, ⟨3, 7, 0, [105, 116, 39, 115]⟩, ⟨5, 14, 0, [60, 61]⟩, ⟨4, 16, 0, [10]⟩, ⟨2, 28, 12, []⟩]
theorem bg1 : lexF bgS = (bgL, 0, 0) := by decide +kernel
theorem bg2 : lexF [97, 32, 32, 49, 50, 98] = ([], 3, 1) := by decide +kernel
def bgP : List TokenD := [⟨1, 0, 0, [97]⟩, ⟨5, 0, 0, [60, 61]⟩, ⟨2, 0, 7, []⟩]
theorem bgT : ∀ t ∈ bgP, tChk t = 0 := by decide +kernel
theorem bg4 : prtL bgP = [97, 32, 60, 61, 32, 55] := by
 have : Lib.decDigits 7 = [55] := by rw [Lib.decDigits, dif_pos (by decide)]; rfl
 show (32 :: ([97] ++ (32 :: ([60, 61] ++ (32 :: (Lib.decDigits 7 ++ [])))))).drop 1 = _
 rw [this]; rfl
theorem bg3 : prtE bgP = 0 := by
 have : tAllE bgP = 0 := by
  unfold tAllE
  rw [if_neg (by decide)]
  exact tChkAll_ok.2 bgT
 unfold prtE
 rw [if_neg (not_not_intro this), bg4, if_neg (by decide)]
theorem p_lexbegun : Pure Tryd.prog 11 [] (pBool true) := by
 have q1 := p_Lex bgS (by unfold okText; decide)
 have q2 := p_Lex [97, 32, 32, 49, 50, 98] (by unfold okText; decide)
 have q3 := p_Print bgP (by decide) (by unfold TokenD.ok okInt okText; decide)
 rw [bg1] at q1
 rw [bg2] at q2
 rw [show prtR bgP = prtL bgP from if_pos bg3, bg4, bg3] at q3
 have q1 : Pure Tryd.prog 9 [.d (.c (.v (.string ⟨#[83, 101, 108, 101, 99, 116, 32, 39, 105, 116, 39, 39, 115, 39, 60, 61, 120, 39, 48, 65, 39, 32, 45, 45, 32, 115, 111, 10, 49, 50]⟩)))] (.tup [slV 4 TokenD.c bgL, pInt .i64 0, pInt .i64 0]) := q1
 have q2 : Pure Tryd.prog 9 [.d (.c (.v (.string ⟨#[97, 32, 32, 49, 50, 98]⟩)))] (.tup [slV 4 TokenD.c [], pInt .i64 3, pInt .i64 1]) := q2
 have q4 := p_reserved [98, 121]
 have q5 := p_reserved [110, 97, 109, 101]
 rw [show resB [98, 121] = true by decide] at q4
 rw [show resB [110, 97, 109, 101] = false by decide] at q5
 unfold bgP at q3
 refine pure_of Tryd.func11 (by rfl) rfl (by kernel_rfl) (by rfl) ?_
 ((conv => whnf); repeat' ((first | (with_reducible first | apply a_ | apply b_ | apply c_) | ((with_reducible first | apply d_ | apply e_ | apply f_ | apply g_); focus first | omega | (simp only [q_] <;> omega)) | ((with_reducible first | apply i_ | apply h_); focus first | omega | (simp only [q_] <;> omega)) | ((with_reducible apply h_); focus first | decide | kernel_rfl) | refine BCase.t (by decide) ?_ | refine BCase.f (by decide) ?_ | refine CallP.pure _ rfl _ (q1) ?_ | refine CallP.pure _ rfl _ (q2) ?_ | refine CallP.pure _ rfl _ (q3) ?_ | refine CallP.pure _ rfl _ (q4) ?_ | refine CallP.pure _ rfl _ (q5) ?_ | (refine Idx.mk _ (by decide) rfl ?_) | with_reducible first | apply l_ | apply m_ | apply n_ | apply o_ | refine p_ (fun _ => ?_) (fun _ => ?_)) <;> (conv => whnf)))
 exact Ret.bool (by decide +kernel)
theorem sameB_refl (l : List TokenD) : sameB l l = true := decide_eq_true rfl
theorem law_LexTells (s : List UInt8) (hs : okText s) : Pure Tryd.prog 3 [pStr (tx s)] (pBool true) := by
 have p1 := p_Lex s hs
 have p2 := p_tokensof s hs
 have hl : (lexF s).1.length ≤ 120 := by
  by_cases h : (lexF s).2.2 = 0
  ·obtain ⟨_, L, _, h2, h3⟩ := lexF_ok h
   rw [h3]; show (toks L).length ≤ 120; unfold toks; rw [List.length_map]; exact h2
  ·rw [lexF_bad h]; decide
 have p3 := p_sametokens (lexF s).1 (lexF s).1 (by omega)
 rw [sameB_refl] at p3
 refine pure_of Tryd.func3 (by rfl) rfl (by kernel_rfl) (by rfl) ?_
 ((conv => whnf); repeat' ((first | (with_reducible first | apply a_ | apply b_ | apply c_) | ((with_reducible first | apply d_ | apply e_ | apply f_ | apply g_); focus first | omega | (simp only [q_] <;> omega)) | ((with_reducible first | apply i_ | apply h_); focus first | omega | (simp only [q_] <;> omega)) | ((with_reducible apply h_); focus first | decide | kernel_rfl) | refine BCase.t (by decide) ?_ | refine BCase.f (by decide) ?_ | refine CallP.pure _ rfl _ (p1) ?_ | refine CallP.pure _ rfl _ (p2) ?_ | refine CallP.pure _ rfl _ (p_lexbegun) ?_ | refine CallP.pure _ rfl _ (p3) ?_ | with_reducible first | apply l_ | apply m_ | apply n_ | apply o_ | refine p_ (fun _ => ?_) (fun _ => ?_)) <;> (conv => whnf)))
 refine LoopC.mk Nat (fun k => [(3, slV 4 TokenD.c (lexF s).1), (6, slV 4 TokenD.c (lexF s).1), (9, pInt .i64 (k : Int))]) (fun _ => []) [] (fun k => k ≤ (lexF s).1.length) (fun k => (lexF s).1.length - k) 0 (Nat.zero_le _) ?start ?round
 case start => exact ⟨[], rfl, rfl, ⟨.inl rfl, .inl rfl, .inl rfl, trivial⟩, trivial⟩
 case round =>
  intro k hk
  have hk : k ≤ (lexF s).1.length := hk
  by_cases q : k < (lexF s).1.length
  ·((conv => whnf); repeat' ((first | (with_reducible first | apply a_ | apply b_ | apply c_) | ((with_reducible first | apply d_ | apply e_ | apply f_ | apply g_); focus first | omega | (simp only [q_] <;> omega)) | ((with_reducible first | apply i_ | apply h_); focus first | omega | (simp only [q_] <;> omega)) | ((with_reducible apply h_); focus first | decide | kernel_rfl) | refine BCase.t (by decide) ?_ | refine BCase.f (by decide) ?_ | (refine Idx.mapI k rfl q ?_) | with_reducible first | apply l_ | apply m_ | apply n_ | apply o_ | refine p_ (fun _ => ?_) (fun _ => ?_)) <;> (conv => whnf)))
   exact ⟨k + 1, by omega, by omega, [], rfl, rfl, ⟨.inl rfl, .inl rfl, PLe.int (by omega), trivial⟩, trivial⟩
  ·((conv => whnf); repeat' ((first | (with_reducible first | apply a_ | apply b_ | apply c_) | ((with_reducible first | apply d_ | apply e_ | apply f_ | apply g_); focus first | omega | (simp only [q_] <;> omega)) | ((with_reducible first | apply i_ | apply h_); focus first | omega | (simp only [q_] <;> omega)) | ((with_reducible apply h_); focus first | decide | kernel_rfl) | refine BCase.t (by decide) ?_ | refine BCase.f (by decide) ?_ | with_reducible first | apply l_ | apply m_ | apply n_ | apply o_ | refine p_ (fun _ => ?_) (fun _ => ?_)) <;> (conv => whnf)))
   exact Ret.bool rfl
theorem law_LexPrints (l : List TokenD) (hl : okTk l) (s : List UInt8) (hs : okText s) : Pure Tryd.prog 4 [slV 4 TokenD.c l, pStr (tx s)] (pBool true) := by
 have p1 := p_Print l (okTk_len hl) hl.2
 have p2 := p_printedof l (okTk_len hl) hl.2
 have p3 := p_reserved s
 have p4 := p_resref s hs
 refine pure_of Tryd.func4 (by rfl) rfl (by kernel_rfl) (by rfl) ?_
 ((conv => whnf); repeat' ((first | (with_reducible first | apply a_ | apply b_ | apply c_) | ((with_reducible first | apply d_ | apply e_ | apply f_ | apply g_); focus first | omega | (simp only [q_] <;> omega)) | ((with_reducible first | apply i_ | apply h_); focus first | omega | (simp only [q_] <;> omega)) | ((with_reducible apply h_); focus first | decide | kernel_rfl) | refine BCase.t (by decide) ?_ | refine BCase.f (by decide) ?_ | refine CallP.pure _ rfl _ (p1) ?_ | refine CallP.pure _ rfl _ (p2) ?_ | refine CallP.pure _ rfl _ (p_lexbegun) ?_ | refine CallP.pure _ rfl _ (p3) ?_ | refine CallP.pure _ rfl _ (p4) ?_ | with_reducible first | apply l_ | apply m_ | apply n_ | apply o_ | refine p_ (fun _ => ?_) (fun _ => ?_)) <;> (conv => whnf)))
 all_goals first | exact Ret.bool rfl | exact Ret.bool (by simp; done) | (exfalso; omega)
theorem prtE_ok {l : List TokenD} (h : prtE l = 0) : l.length ≤ 120 ∧ (∀ t ∈ l, tChk t = 0) ∧ (prtL l).length ≤ 300 := by
 unfold prtE at h
 by_cases h1 : tAllE l = 0
 ·rw [if_neg (not_not_intro h1)] at h
  obtain ⟨a, b⟩ := tAllE_ok h1
  refine ⟨a, b, ?_⟩
  apply Decidable.byContradiction
  intro x
  rw [if_pos (by omega)] at h
  cases h
 ·rw [if_pos h1] at h; exact absurd h h1
theorem law_LexBack (l : List TokenD) (hl : okTk l) : Pure Tryd.prog 5 [slV 4 TokenD.c l] (pBool true) := by
 have p1 := p_Print l (okTk_len hl) hl.2
 refine pure_of Tryd.func5 (by rfl) rfl (by kernel_rfl) (by rfl) ?_
 by_cases h : prtE l = 0
 ·obtain ⟨h1, h2, h3⟩ := prtE_ok h
  obtain ⟨m, e1, e2⟩ := prt_back h2 (fun t ht => (hl.2 t ht).2.2.1) h1 h3
  have p2 := p_Lex (prtL l) (by unfold okText; omega)
  have p3 := p_sametokens l m (by omega)
  rw [show sameB l m = true from decide_eq_true e2.symm] at p3
  rw [e1] at p2
  rw [show prtR l = prtL l from if_pos h, h] at p1
  ((conv => whnf); repeat' ((first | (with_reducible first | apply a_ | apply b_ | apply c_) | ((with_reducible first | apply d_ | apply e_ | apply f_ | apply g_); focus first | omega | (simp only [q_] <;> omega)) | ((with_reducible first | apply i_ | apply h_); focus first | omega | (simp only [q_] <;> omega)) | ((with_reducible apply h_); focus first | decide | kernel_rfl) | refine BCase.t (by decide) ?_ | refine BCase.f (by decide) ?_ | refine CallP.pure _ rfl _ (p1) ?_ | refine CallP.pure _ rfl _ (p_lexbegun) ?_ | refine CallP.pure _ rfl _ (p2) ?_ | refine CallP.pure _ rfl _ (p3) ?_ | with_reducible first | apply l_ | apply m_ | apply n_ | apply o_ | refine p_ (fun _ => ?_) (fun _ => ?_)) <;> (conv => whnf)))
  all_goals first | exact Ret.bool rfl | exact Ret.bool (by simp; done) | (exfalso; omega)
 ·rw [show prtR l = [] from if_neg h] at p1
  ((conv => whnf); repeat' ((first | (with_reducible first | apply a_ | apply b_ | apply c_) | ((with_reducible first | apply d_ | apply e_ | apply f_ | apply g_); focus first | omega | (simp only [q_] <;> omega)) | ((with_reducible first | apply i_ | apply h_); focus first | omega | (simp only [q_] <;> omega)) | ((with_reducible apply h_); focus first | decide | kernel_rfl) | refine BCase.t (by decide) ?_ | refine BCase.f (by decide) ?_ | refine CallP.pure _ rfl _ (p1) ?_ | refine CallP.pure _ rfl _ (p_lexbegun) ?_ | with_reducible first | apply l_ | apply m_ | apply n_ | apply o_ | refine p_ (fun _ => ?_) (fun _ => ?_)) <;> (conv => whnf)))
  all_goals first | exact Ret.bool rfl | exact Ret.bool (by simp; done) | (exfalso; omega)
theorem tS_len {t : TokenD} (h : tChk t = 0) : t.S.length ≤ 16 := by
 obtain ⟨hk, hf, hl, _⟩ := tChk_ok h
 apply Decidable.byContradiction
 intro x
 by_cases k1 : t.Kind = 1
 ·exact hl (.inl ⟨k1, by omega⟩)
 ·by_cases k2 : t.Kind = 2
  ·have : t.S = [] := Decidable.of_not_not fun y => hf (.inl ⟨k2, y⟩)
   rw [this] at x; simp at x
  ·by_cases k5 : t.Kind = 5
   ·have hs : sigL t.S = t.S.length := Decidable.of_not_not fun y => hf (.inr (.inr (.inr ⟨k5, .inr y⟩)))
    have := sig_small _ hs
    omega
   ·exact hl (.inr ⟨by omega, by omega⟩)
theorem runs_at (l : List UInt8) : ∀ (L : List (Nat × Tk × Nat)) (k : Nat), Runs l k L → ∀ t ∈ toks L, 0 ≤ t.At ∧ t.At ≤ l.length
 | [], _, _, t, ht => absurd ht (by simp [toks])
 | (p, a, n) :: L, k, h, t, ht => by
  obtain ⟨_, h2, _, h4⟩ := h
  rcases List.mem_cons.1 ht with rfl | ht
  ·exact ⟨by show (0 : Int) ≤ (p : Int); omega, by show (p : Int) ≤ (l.length : Int); omega⟩
  ·exact runs_at l L _ h4 t ht
theorem runs_ok {l : List UInt8} (h3 : l.length ≤ 300) {L : List (Nat × Tk × Nat)} {k : Nat} (h : Runs l k L) : ∀ t ∈ toks L, TokenD.ok t := by
 intro t ht
 obtain ⟨h1, h2⟩ := runs_right l L k h t ht
 have h4 := tS_len h1
 have h5 := runs_at l L k h t ht
 obtain ⟨h6, _⟩ := tChk_ok h1
 exact ⟨⟨by omega, by omega⟩, ⟨by omega, by omega⟩, h2, by unfold okText; omega⟩
theorem law_LexAgain (s : List UInt8) (hs : okText s) : Pure Tryd.prog 6 [pStr (tx s)] (pBool true) := by
 have p1 := p_Lex s hs
 refine pure_of Tryd.func6 (by rfl) rfl (by kernel_rfl) (by rfl) ?_
 by_cases h : (lexF s).2.2 = 0
 ·obtain ⟨h3, L, hr, h120, he⟩ := lexF_ok h
  have hok := runs_right s L 0 hr
  have htl : (toks L).length ≤ 120 := by unfold toks; rw [List.length_map]; exact h120
  rw [he] at p1
  have p2 := p_Print (toks L) (by omega) (runs_ok h3 hr)
  by_cases hp : prtE (toks L) = 0
  ·obtain ⟨a1, a2, a3⟩ := prtE_ok hp
   obtain ⟨m, e1, e2⟩ := prt_back a2 (fun t ht => (hok t ht).2) a1 a3
   have p3 := p_Lex (prtL (toks L)) (by unfold okText; omega)
   have p4 := p_sametokens (toks L) m (by omega)
   rw [show sameB (toks L) m = true from decide_eq_true e2.symm] at p4
   rw [e1] at p3
   rw [show prtR (toks L) = prtL (toks L) from if_pos hp, hp] at p2
   ((conv => whnf); repeat' ((first | (with_reducible first | apply a_ | apply b_ | apply c_) | ((with_reducible first | apply d_ | apply e_ | apply f_ | apply g_); focus first | omega | (simp only [q_] <;> omega)) | ((with_reducible first | apply i_ | apply h_); focus first | omega | (simp only [q_] <;> omega)) | ((with_reducible apply h_); focus first | decide | kernel_rfl) | refine BCase.t (by decide) ?_ | refine BCase.f (by decide) ?_ | refine CallP.pure _ rfl _ (p1) ?_ | refine CallP.pure _ rfl _ (p_lexbegun) ?_ | refine CallP.pure _ rfl _ (p2) ?_ | refine CallP.pure _ rfl _ (p3) ?_ | refine CallP.pure _ rfl _ (p4) ?_ | with_reducible first | apply l_ | apply m_ | apply n_ | apply o_ | refine p_ (fun _ => ?_) (fun _ => ?_)) <;> (conv => whnf)))
   all_goals first | exact Ret.bool rfl | exact Ret.bool (by simp; done) | (exfalso; omega)
  ·have hp2 : prtE (toks L) = 2 := by
    have ha : tAllE (toks L) = 0 := by
     unfold tAllE
     rw [if_neg (by omega)]
     exact tChkAll_ok.2 fun t ht => (hok t ht).1
    unfold prtE at hp ⊢
    rw [if_neg (not_not_intro ha)] at hp ⊢
    split at hp
    ·rename_i q; rw [if_pos q]
    ·exact absurd rfl hp
   rw [hp2] at p2
   ((conv => whnf); repeat' ((first | (with_reducible first | apply a_ | apply b_ | apply c_) | ((with_reducible first | apply d_ | apply e_ | apply f_ | apply g_); focus first | omega | (simp only [q_] <;> omega)) | ((with_reducible first | apply i_ | apply h_); focus first | omega | (simp only [q_] <;> omega)) | ((with_reducible apply h_); focus first | decide | kernel_rfl) | refine BCase.t (by decide) ?_ | refine BCase.f (by decide) ?_ | refine CallP.pure _ rfl _ (p1) ?_ | refine CallP.pure _ rfl _ (p_lexbegun) ?_ | refine CallP.pure _ rfl _ (p2) ?_ | with_reducible first | apply l_ | apply m_ | apply n_ | apply o_ | refine p_ (fun _ => ?_) (fun _ => ?_)) <;> (conv => whnf)))
   all_goals first | exact Ret.bool rfl | exact Ret.bool (by simp; done) | (exfalso; omega)
 ·rw [lexF_bad h] at p1
  ((conv => whnf); repeat' ((first | (with_reducible first | apply a_ | apply b_ | apply c_) | ((with_reducible first | apply d_ | apply e_ | apply f_ | apply g_); focus first | omega | (simp only [q_] <;> omega)) | ((with_reducible first | apply i_ | apply h_); focus first | omega | (simp only [q_] <;> omega)) | ((with_reducible apply h_); focus first | decide | kernel_rfl) | refine BCase.t (by decide) ?_ | refine BCase.f (by decide) ?_ | refine CallP.pure _ rfl _ (p1) ?_ | refine CallP.pure _ rfl _ (p_lexbegun) ?_ | with_reducible first | apply l_ | apply m_ | apply n_ | apply o_ | refine p_ (fun _ => ?_) (fun _ => ?_)) <;> (conv => whnf)))
  all_goals first | exact Ret.bool rfl | exact Ret.bool (by simp; done) | (exfalso; omega)
theorem toks_get {L : List (Nat × Tk × Nat)} {k : Nat} (h : k < L.length) (h' : k < (toks L).length) : (toks L)[k].At = (L[k].1 : Int) := by
 have e : (toks L)[k]? = some (tokD L[k].1 L[k].2.1) := by
  unfold toks
  rw [List.getElem?_map, List.getElem?_eq_getElem h]; rfl
 rw [List.getElem?_eq_getElem h'] at e
 rw [Option.some.inj e]; rfl
theorem law_LexPlaces (s : List UInt8) (hs : okText s) (k : Int) (hk : okInt k) : Pure Tryd.prog 7 [pStr (tx s), pInt .i64 k] (pBool true) := by
 have tz := tx_size s
 have p1 := p_Lex s hs
 refine pure_of Tryd.func7 (by rfl) rfl (by kernel_rfl) (by rfl) ?_
 by_cases h : (lexF s).2.2 = 0
 ·obtain ⟨h3, L, hr, h120, he⟩ := lexF_ok h
  have htl : (toks L).length = L.length := by unfold toks; rw [List.length_map]
  rw [he] at p1
  by_cases hkr : 0 ≤ k ∧ k < L.length
  ·obtain ⟨n, rfl⟩ : ∃ n : Nat, k = n := ⟨k.toNat, by omega⟩
   have hn : n < L.length := by omega
   have hn' : n < (toks L).length := by omega
   obtain ⟨g1, g2, g3, ⟨m1, e1, e2⟩, ⟨m2, e3, e4⟩⟩ := places h3 h120 hr n hn
   have ea := toks_get hn hn'
   have p2 := p_Lex (s.take L[n].1) (by unfold okText; rw [List.length_take]; omega)
   have p3 := p_Lex (s.drop L[n].1) (by unfold okText; rw [List.length_drop]; omega)
   rw [e1] at p2
   rw [e3] at p3
   have x2 : (tx s).extract (0 : Int).toNat ((toks L)[n].At).toNat = tx (s.take L[n].1) := by
    rw [extract_tx, ea]; show tx ((s.drop 0).take _) = _; rw [List.drop_zero]; congr 2
   have x3 : (tx s).extract ((toks L)[n].At).toNat ((s.length : Nat) : Int).toNat = tx (s.drop L[n].1) := by
    rw [extract_tx, ea, show ((L[n].1 : Nat) : Int).toNat = L[n].1 by omega]
    exact congrArg tx (List.take_of_length_le (by rw [List.length_drop]; omega))
   rw [← x2] at p2
   rw [← x3] at p3
   have ha := congrArg List.length e2
   have hb := congrArg List.length e4
   rw [List.length_map, List.length_map, List.length_take] at ha
   rw [List.length_map, List.length_map, List.length_drop] at hb
   have p4 := p_sametokens m1 ((toks L).take n) (by omega)
   have p5 := p_sametokens m2 ((toks L).drop n) (by omega)
   rw [show sameB m1 ((toks L).take n) = true from decide_eq_true e2] at p4
   rw [show sameB m2 ((toks L).drop n) = true from decide_eq_true e4] at p5
   have xa : PV.d (.c (.sl 4 (List.take (((n : Nat) : Int).toNat - Int.toNat 0) (List.drop (Int.toNat 0) (List.map TokenD.c (toks L)))))) = slV 4 TokenD.c ((toks L).take n) := by
    rw [show ((n : Nat) : Int).toNat - Int.toNat 0 = n by omega, show Int.toNat 0 = 0 from rfl, List.drop_zero, ← List.map_take]
   have xb : PV.d (.c (.sl 4 (List.take (((((toks L).map TokenD.c).length : Nat) : Int).toNat - ((n : Nat) : Int).toNat) (List.drop ((n : Nat) : Int).toNat (List.map TokenD.c (toks L)))))) = slV 4 TokenD.c ((toks L).drop n) := by
    rw [List.length_map, show ((n : Nat) : Int).toNat = n by omega, show (((toks L).length : Nat) : Int).toNat = (toks L).length by omega, ← List.map_drop, List.take_of_length_le (by rw [List.length_map, List.length_drop]; omega)]
   rw [← xa] at p4
   rw [← xb] at p5
   by_cases hn0 : n = 0
   ·subst hn0
    have p6 := p_skipped s hs 0 (Nat.zero_le _)
    have g3 := g3 rfl
    ((conv => whnf); repeat' ((first | (with_reducible first | apply a_ | apply b_ | apply c_) | ((with_reducible first | apply d_ | apply e_ | apply f_ | apply g_); focus first | omega | (simp only [q_] <;> omega)) | ((with_reducible first | apply i_ | apply h_); focus first | omega | (simp only [q_] <;> omega)) | ((with_reducible apply h_); focus first | decide | kernel_rfl) | refine BCase.t (by decide) ?_ | refine BCase.f (by decide) ?_ | refine CallP.pure _ rfl _ (p1) ?_ | refine CallP.pure _ rfl _ (p_lexbegun) ?_ | (refine Idx.mapI 0 rfl hn' ?_) | refine CallP.pure _ rfl _ (p2) ?_ | refine CallP.pure _ rfl _ (p3) ?_ | refine CallP.pure _ rfl _ (p4) ?_ | refine CallP.pure _ rfl _ (p5) ?_ | refine CallP.pure _ rfl _ (p6) ?_ | with_reducible first | apply l_ | apply m_ | apply n_ | apply o_ | refine p_ (fun _ => ?_) (fun _ => ?_)) <;> (conv => whnf)))
    all_goals first | exact Ret.bool rfl | exact Ret.bool (by simp; done) | (exfalso; omega)
   ·have q0 : n - 1 < L.length := by omega
    have q0' : n - 1 < (toks L).length := by omega
    have ep := toks_get q0 q0'
    have gp := g2 (n - 1) (by omega)
    have hik : (n : Int) - 1 = ((n - 1 : Nat) : Int) := by omega
    ((conv => whnf); repeat' ((first | (with_reducible first | apply a_ | apply b_ | apply c_) | ((with_reducible first | apply d_ | apply e_ | apply f_ | apply g_); focus first | omega | (simp only [q_] <;> omega)) | ((with_reducible first | apply i_ | apply h_); focus first | omega | (simp only [q_] <;> omega)) | ((with_reducible apply h_); focus first | decide | kernel_rfl) | refine BCase.t (by decide) ?_ | refine BCase.f (by decide) ?_ | refine CallP.pure _ rfl _ (p1) ?_ | refine CallP.pure _ rfl _ (p_lexbegun) ?_ | (first | refine Idx.mapI n rfl hn' ?_ | refine Idx.mapI (n - 1) hik q0' ?_) | refine CallP.pure _ rfl _ (p2) ?_ | refine CallP.pure _ rfl _ (p3) ?_ | refine CallP.pure _ rfl _ (p4) ?_ | refine CallP.pure _ rfl _ (p5) ?_ | with_reducible first | apply l_ | apply m_ | apply n_ | apply o_ | refine p_ (fun _ => ?_) (fun _ => ?_)) <;> (conv => whnf)))
    all_goals first | exact Ret.bool rfl | exact Ret.bool (by simp; done) | (exfalso; omega)
  ·((conv => whnf); repeat' ((first | (with_reducible first | apply a_ | apply b_ | apply c_) | ((with_reducible first | apply d_ | apply e_ | apply f_ | apply g_); focus first | omega | (simp only [q_] <;> omega)) | ((with_reducible first | apply i_ | apply h_); focus first | omega | (simp only [q_] <;> omega)) | ((with_reducible apply h_); focus first | decide | kernel_rfl) | refine BCase.t (by decide) ?_ | refine BCase.f (by decide) ?_ | refine CallP.pure _ rfl _ (p1) ?_ | refine CallP.pure _ rfl _ (p_lexbegun) ?_ | with_reducible first | apply l_ | apply m_ | apply n_ | apply o_ | refine p_ (fun _ => ?_) (fun _ => ?_)) <;> (conv => whnf)))
   all_goals first | exact Ret.bool rfl | exact Ret.bool (by simp; done) | (exfalso; simp only [List.length_map] at *; omega)
 ·((conv => whnf); repeat' ((first | (with_reducible first | apply a_ | apply b_ | apply c_) | ((with_reducible first | apply d_ | apply e_ | apply f_ | apply g_); focus first | omega | (simp only [q_] <;> omega)) | ((with_reducible first | apply i_ | apply h_); focus first | omega | (simp only [q_] <;> omega)) | ((with_reducible apply h_); focus first | decide | kernel_rfl) | refine BCase.t (by decide) ?_ | refine BCase.f (by decide) ?_ | refine CallP.pure _ rfl _ (p1) ?_ | refine CallP.pure _ rfl _ (p_lexbegun) ?_ | with_reducible first | apply l_ | apply m_ | apply n_ | apply o_ | refine p_ (fun _ => ?_) (fun _ => ?_)) <;> (conv => whnf)))
  all_goals first | exact Ret.bool rfl | exact Ret.bool (by simp; done) | (exfalso; omega)
theorem law_LexBlanks (s : List UInt8) (hs : okText s) (t : List UInt8) (ht : okText t) : Pure Tryd.prog 8 [pStr (tx s), pStr (tx t)] (pBool true) := by
 have sz := tx_size s
 have tz := tx_size t
 have p1 := p_Lex s hs
 have p2 := p_Lex t ht
 refine pure_of Tryd.func8 (by rfl) rfl (by kernel_rfl) (by rfl) ?_
 by_cases h : (lexF s).2.2 = 0 ∧ (lexF t).2.2 = 0 ∧ s.length ≤ 140 ∧ t.length ≤ 140 ∧ (lexF s).1.length ≤ 60 ∧ (lexF t).1.length ≤ 60
 ·obtain ⟨hf, hg, l1, l2, l3, l4⟩ := h
  obtain ⟨_, A, ha, _, ea⟩ := lexF_ok hf
  obtain ⟨_, B, hb, _, eb⟩ := lexF_ok hg
  have hla : (toks A).length = A.length := by unfold toks; rw [List.length_map]
  have hlb : (toks B).length = B.length := by unfold toks; rw [List.length_map]
  rw [ea] at p1 l3
  rw [eb] at p2 l4
  have l3 : A.length ≤ 60 := by rw [← hla]; exact l3
  have l4 : B.length ≤ 60 := by rw [← hlb]; exact l4
  obtain ⟨m, e1, e2⟩ := blanks ha hb l1 l2 l3 l4
  have hU : (preL ++ (s ++ 10 :: (t ++ postL))).length ≤ 300 := by
   rw [List.length_append, List.length_append, List.length_cons, List.length_append]
   show 7 + (s.length + (t.length + 11 + 1)) ≤ 300
   omega
  have p3 := p_Lex (preL ++ (s ++ 10 :: (t ++ postL))) (by unfold okText; omega)
  rw [e1] at p3
  have xs : (⟨#[32, 9, 45, 45, 39, 120, 10]⟩ : ByteArray) ++ tx s ++ (⟨#[10]⟩ : ByteArray) ++ tx t ++ (⟨#[32, 45, 45, 32, 110, 111, 32, 109, 111, 114, 101]⟩ : ByteArray) = tx (preL ++ (s ++ 10 :: (t ++ postL))) := by
   have : preL ++ (s ++ 10 :: (t ++ postL)) = preL ++ s ++ [10] ++ t ++ postL := by simp
   rw [this, ← tx_append, ← tx_append, ← tx_append, ← tx_append]; rfl
  have p3 : Pure Tryd.prog 9 [pStr ((⟨#[32, 9, 45, 45, 39, 120, 10]⟩ : ByteArray) ++ tx s ++ (⟨#[10]⟩ : ByteArray) ++ tx t ++ (⟨#[32, 45, 45, 32, 110, 111, 32, 109, 111, 114, 101]⟩ : ByteArray))] (.tup [slV 4 TokenD.c m, pInt .i64 0, pInt .i64 0]) := by rw [xs]; exact p3
  have hml := congrArg List.length e2
  rw [List.length_map, List.length_append, List.length_map, List.length_map] at hml
  have p4 := p_sametokens m (toks A ++ toks B) (by omega)
  rw [show sameB m (toks A ++ toks B) = true from decide_eq_true (by rw [e2, List.map_append])] at p4
  have xn : PV.d (.c (.sl 4 ([] ++ List.map TokenD.c (toks A) ++ List.map TokenD.c (toks B)))) = slV 4 TokenD.c (toks A ++ toks B) := by
   rw [List.nil_append, ← List.map_append]
  rw [← xn] at p4
  have z1 : ((⟨#[32, 9, 45, 45, 39, 120, 10]⟩ : ByteArray) ++ tx s).size = 7 + s.length := by rw [show (⟨#[32, 9, 45, 45, 39, 120, 10]⟩ : ByteArray) = tx preL from rfl, tx_append, tx_size, List.length_append]; rfl
  have z2 : ((⟨#[32, 9, 45, 45, 39, 120, 10]⟩ : ByteArray) ++ tx s ++ (⟨#[10]⟩ : ByteArray)).size = 7 + s.length + 1 := by rw [show (⟨#[32, 9, 45, 45, 39, 120, 10]⟩ : ByteArray) = tx preL from rfl, tx_append, show (⟨#[10]⟩ : ByteArray) = tx [10] from rfl, tx_append, tx_size, List.length_append, List.length_append]; rfl
  have z3 : ((⟨#[32, 9, 45, 45, 39, 120, 10]⟩ : ByteArray) ++ tx s ++ (⟨#[10]⟩ : ByteArray) ++ tx t).size = 7 + s.length + 1 + t.length := by rw [show (⟨#[32, 9, 45, 45, 39, 120, 10]⟩ : ByteArray) = tx preL from rfl, tx_append, show (⟨#[10]⟩ : ByteArray) = tx [10] from rfl, tx_append, tx_append, tx_size, List.length_append, List.length_append, List.length_append]; rfl
  ((conv => whnf); repeat' ((first | (with_reducible first | apply a_ | apply b_ | apply c_) | ((with_reducible first | apply d_ | apply e_ | apply f_ | apply g_); focus first | omega | (simp only [q_] <;> omega)) | ((with_reducible first | apply i_ | apply h_); focus first | omega | (simp only [q_] <;> omega)) | ((with_reducible apply h_); focus first | decide | kernel_rfl) | refine BCase.t (by decide) ?_ | refine BCase.f (by decide) ?_ | refine CallP.pure _ rfl _ (p1) ?_ | refine CallP.pure _ rfl _ (p2) ?_ | refine CallP.pure _ rfl _ (p_lexbegun) ?_ | refine CallP.pure _ rfl _ (p3) ?_ | refine CallP.pure _ rfl _ (p4) ?_ | (first | refine Need.mk (by show 7 + (tx s).size ≤ _; omega) ?_ | refine Need.mk (by rw [z1]; show _ + 1 ≤ _; omega) ?_ | refine Need.mk (by rw [z2]; show _ + (tx t).size ≤ _; omega) ?_ | refine Need.mk (by rw [z3]; show _ + 11 ≤ _; omega) ?_) | (refine Need.by 40 rfl (by simp only [List.length_map, List.length_append, List.length_nil]; omega) ?_) | with_reducible first | apply l_ | apply m_ | apply n_ | apply o_ | refine p_ (fun _ => ?_) (fun _ => ?_)) <;> (conv => whnf)))
  all_goals first | exact Ret.mk rfl | exact Ret.bool (by simp; done) | (exfalso; simp only [List.length_map] at *; omega)
 ·((conv => whnf); repeat' ((first | (with_reducible first | apply a_ | apply b_ | apply c_) | ((with_reducible first | apply d_ | apply e_ | apply f_ | apply g_); focus first | omega | (simp only [q_] <;> omega)) | ((with_reducible first | apply i_ | apply h_); focus first | omega | (simp only [q_] <;> omega)) | ((with_reducible apply h_); focus first | decide | kernel_rfl) | refine BCase.t (by decide) ?_ | refine BCase.f (by decide) ?_ | refine CallP.pure _ rfl _ (p1) ?_ | refine CallP.pure _ rfl _ (p2) ?_ | refine CallP.pure _ rfl _ (p_lexbegun) ?_ | with_reducible first | apply l_ | apply m_ | apply n_ | apply o_ | refine p_ (fun _ => ?_) (fun _ => ?_)) <;> (conv => whnf)))
  all_goals first | exact Ret.bool rfl | exact Ret.bool (by simp; done) | (exfalso; simp only [List.length_map] at *; omega)
end Go.Proofs.YtjbopncobegleaaDoor.Pm
end
