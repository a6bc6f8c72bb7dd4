/- Parts of the proof, one behind the other: PvDigits PkPlain PkThm PvHex PmPre PvOf PkLex PkNext PkNext2 PdSet PdCat PdSch PdEntry PdRows PdOf PdRef PvRef PvRef2 PvRef3. Conditions: none beyond what each theorem says. -/
import Derived.Test.YtjbopncobegleaaDoorYShelf
import Derived.Test.YtjbopncobegleaaDoorZ4
section
namespace Go.Proofs.YtjbopncobegleaaDoor.Pm
open Go.RowKit K
set_option linter.unusedVariables false
set_option linter.unusedSimpArgs false
set_option maxRecDepth 100000
def digV (s : List UInt8) (most : Nat) : Nat := if digE s most = 0 then dval s else 0
theorem dval_take {s : List UInt8} {k : Nat} (h : k < s.length) : dval (s.take (k + 1)) = dval (s.take k) * 10 + (s[k].toNat - 48) := by rw [take_snoc h, dval_snoc]
theorem dval_mono : ∀ (l : List UInt8) (n m : Nat), n ≤ m → l.foldl dstep n ≤ l.foldl dstep m
  | [], n, m, h => h
  | c :: l, n, m, h => by
    rw [List.foldl_cons, List.foldl_cons]
    refine dval_mono l _ _ ?_
    unfold dstep; omega
theorem dstep_le : ∀ (l : List UInt8) (n : Nat), n ≤ l.foldl dstep n
  | [], n => Nat.le_refl _
  | c :: l, n => by
    rw [List.foldl_cons]
    have := dstep_le l (dstep n c)
    unfold dstep at this ⊢; omega
theorem dval_pre (s : List UInt8) (k : Nat) : dval (s.take k) ≤ dval s := by
  conv => rhs; rw [← List.take_append_drop k s]
  unfold dval
  rw [List.foldl_append]
  exact dstep_le _ _
theorem p_Digits (s : List UInt8) (hs : s.length ≤ 140737488351232) (most : Nat) (hm : 9 ≤ most ∧ most ≤ 9223372036854775808) : Pure Tryd.prog 62 [pStr (tx s), pInt .u64 (most : Int)] (.tup [pInt .u64 (digV s most : Int), pInt .i64 (digE s most)]) := by
  have hz := tx_size s
  refine pure_of Tryd.func62 (by rfl) rfl (by kernel_rfl) (by rfl) ?_
  unfold digV
  by_cases h0 : s = []
  · have he : digE s most = 1 := by unfold digE; rw [if_pos (.inl h0)]
    have ht : tx s = ⟨#[]⟩ := by rw [h0]; rfl
    rw [he, if_neg (by decide)]
    ((conv => whnf); repeat' ((first | (with_reducible first | apply a_ | apply b_ | apply c_) | ((with_reducible first | apply d_ | apply e_ | apply f_ | apply g_); focus first | omega | (simp only [q_] <;> omega)) | ((with_reducible first | apply i_ | apply h_); focus first | omega | (simp only [q_] <;> omega)) | ((with_reducible apply h_); focus first | decide | kernel_rfl) | refine BCase.t (by decide) ?_ | refine BCase.f (by decide) ?_ | (refine BCase.dt ht ?_) | with_reducible first | apply l_ | apply m_ | apply n_ | apply o_ | refine p_ (fun _ => ?_) (fun _ => ?_)) <;> (conv => whnf)))
    all_goals exact Ret.eq rfl
  · have ht : ¬ tx s = ⟨#[]⟩ := fun e => h0 (tx_empty.1 e)
    have l0 : 0 < s.length := List.length_pos_iff.2 h0
    have d48 : s.headD 0 = 48 ↔ (((s.getD 0 0).toNat : Nat) : Int) = 48 := by
      rw [headD_get]
      exact ⟨fun e => by rw [e]; rfl, fun e => by rw [← u8_back (s.getD 0 0), show (s.getD 0 0).toNat = 48 by omega]; rfl⟩
    by_cases h1 : s.headD 0 = 48 ∧ 1 < s.length
    · have he : digE s most = 1 := by unfold digE; rw [if_pos (.inr (.inl h1))]
      have n48 := d48.1 h1.1
      have n1 := h1.2
      rw [he, if_neg (by decide)]
      ((conv => whnf); repeat' ((first | (with_reducible first | apply a_ | apply b_ | apply c_) | ((with_reducible first | apply d_ | apply e_ | apply f_ | apply g_); focus first | omega | (simp only [q_] <;> omega)) | ((with_reducible first | apply i_ | apply h_); focus first | omega | (simp only [q_] <;> omega)) | ((with_reducible apply h_); focus first | decide | kernel_rfl) | refine BCase.t (by decide) ?_ | refine BCase.f (by decide) ?_ | (refine BCase.df ht ?_) | (refine SIdx.tx 0 rfl l0 ?_) | with_reducible first | apply l_ | apply m_ | apply n_ | apply o_ | refine p_ (fun _ => ?_) (fun _ => ?_)) <;> (conv => whnf)))
      all_goals exact Ret.eq rfl
    · have hb : ¬ ((((s.getD 0 0).toNat : Nat) : Int) = 48 ∧ 1 < s.length) := fun x => h1 ⟨d48.2 x.1, x.2⟩
      ((conv => whnf); repeat' ((first | (with_reducible first | apply a_ | apply b_ | apply c_) | ((with_reducible first | apply d_ | apply e_ | apply f_ | apply g_); focus first | omega | (simp only [q_] <;> omega)) | ((with_reducible first | apply i_ | apply h_); focus first | omega | (simp only [q_] <;> omega)) | ((with_reducible apply h_); focus first | decide | kernel_rfl) | refine BCase.t (by decide) ?_ | refine BCase.f (by decide) ?_ | (refine BCase.df ht ?_) | (refine SIdx.tx 0 rfl l0 ?_) | with_reducible first | apply l_ | apply m_ | apply n_ | apply o_ | refine p_ (fun _ => ?_) (fun _ => ?_)) <;> (conv => whnf)))
      all_goals
        refine LoopC.mk (Nat × Nat × Bool) (fun x => [(1, pInt .u64 (most : Int)), (6, pInt .u64 (x.2.1 : Int)), (7, pBool x.2.2), (24, .d (.c (.sl 1 (s.map fun b => [C.v (.int .u8 (b.toNat : Int))])))), (25, pInt .i64 s.length), (26, pInt .i64 x.1)]) (fun _ => []) [] (fun x => x.1 ≤ s.length ∧ (s.take x.1).all isDig = true ∧ (x.2.2 = false → x.2.1 = dval (s.take x.1) ∧ x.2.1 ≤ most) ∧ (x.2.2 = true → most < dval (s.take x.1))) (fun x => s.length - x.1) (0, 0, false) ⟨Nat.zero_le _, by rw [List.take_zero]; rfl, (fun _ => ⟨by rw [List.take_zero]; rfl, Nat.zero_le _⟩), fun h => by cases h⟩ ?start ?round
        case start => exact ⟨[], rfl, rfl, ⟨.inl rfl, PLe.int rfl, .inl rfl, .inl (by rw [list_tx]), PLe.int (by rw [List.length_map, list_tx]), .inl rfl, trivial⟩, trivial⟩
        case round =>
          rintro ⟨k, n, o⟩ ⟨hk, ha, hf, ht2⟩
          have hk : k ≤ s.length := hk
          have ha : (s.take k).all isDig = true := ha
          have hp : (((k, n, o) : Nat × Nat × Bool).2.1 : Int) = (n : Int) := rfl
          have hf : o = false → n = dval (s.take k) ∧ n ≤ most := hf
          have ht2 : o = true → most < dval (s.take k) := ht2
          by_cases q : k < s.length
          · have hu := s[k].toNat_lt
            have hv := dval_take q
            have hall : (s.take (k + 1)).all isDig = ((s.take k).all isDig && isDig s[k]) := by rw [take_snoc q, List.all_append]; simp
            by_cases hd : isDig s[k] = true
            · have hd2 := of_decide_eq_true hd
              have e8 : ((by1 (((s[k].toNat : Nat) : Int) - 48)).toNat : Int) = ((s[k].toNat : Nat) : Int) - 48 := by rw [by1_int]; omega
              have et : ((most : Int) - ((by1 (((s[k].toNat : Nat) : Int) - 48)).toNat : Int)).tdiv 10 = ((most : Int) - (((s[k].toNat : Nat) : Int) - 48)) / 10 := by rw [e8, tdiv_nn (by omega)]
              have ha2 : (s.take (k + 1)).all isDig = true := by rw [hall, ha, hd]; rfl
              cases o with
              | true =>
                have hlt := ht2 rfl
                ((conv => whnf); repeat' ((first | (with_reducible first | apply a_ | apply b_ | apply c_) | ((with_reducible first | apply d_ | apply e_ | apply f_ | apply g_); focus first | omega | (simp only [q_] <;> omega)) | ((with_reducible first | apply i_ | apply h_); focus first | omega | (simp only [q_] <;> omega)) | ((with_reducible apply h_); focus first | decide | kernel_rfl) | refine BCase.t (by decide) ?_ | refine BCase.f (by decide) ?_ | (refine Idx.mapI k rfl q ?_) | with_reducible first | apply l_ | apply m_ | apply n_ | apply o_ | refine p_ (fun _ => ?_) (fun _ => ?_)) <;> (conv => whnf)))
                all_goals exact ⟨(k + 1, n, true), ⟨by show k + 1 ≤ _; omega, ha2, (fun h => by cases h), fun _ => by show most < dval (s.take (k + 1)); omega⟩, by show s.length - (k + 1) < s.length - k; omega, [], rfl, rfl, ⟨.inl rfl, .inl rfl, .inl rfl, .inl rfl, .inl rfl, PLe.int (by omega), trivial⟩, trivial⟩
              | false =>
                obtain ⟨hn, hle⟩ := hf rfl
                ((conv => whnf); repeat' ((first | (with_reducible first | apply a_ | apply b_ | apply c_) | ((with_reducible first | apply d_ | apply e_ | apply f_ | apply g_); focus first | omega | (simp only [q_] <;> omega)) | ((with_reducible first | apply i_ | apply h_); focus first | omega | (simp only [q_] <;> omega)) | ((with_reducible apply h_); focus first | decide | kernel_rfl) | refine BCase.t (by decide) ?_ | refine BCase.f (by decide) ?_ | (refine Idx.mapI k rfl q ?_) | with_reducible first | apply l_ | apply m_ | apply n_ | apply o_ | refine p_ (fun _ => ?_) (fun _ => ?_)) <;> (conv => whnf)))
                all_goals first
                  | exact ⟨(k + 1, n, true), ⟨by show k + 1 ≤ _; omega, ha2, (fun h => by cases h), fun _ => by show most < dval (s.take (k + 1)); omega⟩, by show s.length - (k + 1) < s.length - k; omega, [], rfl, rfl, ⟨.inl rfl, .inl rfl, PLe.bool (decide_eq_true (by omega)), .inl rfl, .inl rfl, PLe.int (by omega), trivial⟩, trivial⟩
                  | exact ⟨(k + 1, dval (s.take (k + 1)), false), ⟨by show k + 1 ≤ _; omega, ha2, (fun _ => ⟨rfl, by show dval (s.take (k + 1)) ≤ most; omega⟩), fun h => by cases h⟩, by show s.length - (k + 1) < s.length - k; omega, [], rfl, rfl, ⟨.inl rfl, PLe.int (by show _ = ((dval (s.take (k + 1)) : Nat) : Int); omega), PLe.bool (decide_eq_false (by omega)), .inl rfl, .inl rfl, PLe.int (by omega), trivial⟩, trivial⟩
                  | (exfalso; omega)
            · have hd2 : ¬ (48 ≤ s[k].toNat ∧ s[k].toNat ≤ 57) := fun x => hd (decide_eq_true x)
              have hsall : s.all isDig = false := by
                cases hx : s.all isDig with
                | false => rfl
                | true => exact absurd (List.all_eq_true.1 hx _ (List.getElem_mem q)) hd
              have he : digE s most = 1 := by unfold digE; rw [if_pos (.inr (.inr hsall))]
              rw [he, if_neg (by decide)]
              ((conv => whnf); repeat' ((first | (with_reducible first | apply a_ | apply b_ | apply c_) | ((with_reducible first | apply d_ | apply e_ | apply f_ | apply g_); focus first | omega | (simp only [q_] <;> omega)) | ((with_reducible first | apply i_ | apply h_); focus first | omega | (simp only [q_] <;> omega)) | ((with_reducible apply h_); focus first | decide | kernel_rfl) | refine BCase.t (by decide) ?_ | refine BCase.f (by decide) ?_ | (refine Idx.mapI k rfl q ?_) | with_reducible first | apply l_ | apply m_ | apply n_ | apply o_ | refine p_ (fun _ => ?_) (fun _ => ?_)) <;> (conv => whnf)))
              all_goals first | exact Ret.eq rfl | (exfalso; omega)
          · rw [List.take_of_length_le (by omega)] at ha hf ht2
            have hq : ¬ (s = [] ∨ (s.headD 0 = 48 ∧ 1 < s.length) ∨ s.all isDig = false) := fun h => h.elim h0 fun h => h.elim h1 fun h => by rw [ha] at h; cases h
            cases o with
            | true =>
              have hlt := ht2 rfl
              have he : digE s most = 8 := by unfold digE; rw [if_neg hq, if_pos hlt]
              rw [he, if_neg (by decide)]
              ((conv => whnf); repeat' ((first | (with_reducible first | apply a_ | apply b_ | apply c_) | ((with_reducible first | apply d_ | apply e_ | apply f_ | apply g_); focus first | omega | (simp only [q_] <;> omega)) | ((with_reducible first | apply i_ | apply h_); focus first | omega | (simp only [q_] <;> omega)) | ((with_reducible apply h_); focus first | decide | kernel_rfl) | refine BCase.t (by decide) ?_ | refine BCase.f (by decide) ?_ | with_reducible first | apply l_ | apply m_ | apply n_ | apply o_ | refine p_ (fun _ => ?_) (fun _ => ?_)) <;> (conv => whnf)))
              all_goals exact Ret.eq rfl
            | false =>
              obtain ⟨hn, hle⟩ := hf rfl
              have he : digE s most = 0 := by unfold digE; rw [if_neg hq, if_neg (by omega)]
              rw [he, if_pos rfl, ← hn]
              ((conv => whnf); repeat' ((first | (with_reducible first | apply a_ | apply b_ | apply c_) | ((with_reducible first | apply d_ | apply e_ | apply f_ | apply g_); focus first | omega | (simp only [q_] <;> omega)) | ((with_reducible first | apply i_ | apply h_); focus first | omega | (simp only [q_] <;> omega)) | ((with_reducible apply h_); focus first | decide | kernel_rfl) | refine BCase.t (by decide) ?_ | refine BCase.f (by decide) ?_ | with_reducible first | apply l_ | apply m_ | apply n_ | apply o_ | refine p_ (fun _ => ?_) (fun _ => ?_)) <;> (conv => whnf)))
              all_goals exact Ret.eq rfl
end Go.Proofs.YtjbopncobegleaaDoor.Pm
end
section
namespace Go.Proofs.YtjbopncobegleaaDoor.Pm
open Go.RowKit K
set_option linter.unusedVariables false
set_option linter.unusedSimpArgs false
set_option maxRecDepth 100000
structure TokenD where
  Kind : Int
  At : Int
  N : Int
  S : List UInt8
def TokenD.c (x : TokenD) : List C := [.v (.int .i64 x.Kind), .v (.int .i64 x.At), .v (.int .i64 x.N), .v (.string (tx x.S))]
def TokenD.ok (x : TokenD) : Prop := okInt x.Kind ∧ okInt x.At ∧ okInt x.N ∧ okText x.S
theorem openC_Token : OpensC Tryd.prog 29 4 TokenD.c TokenD.ok := by
  refine ⟨by kernel_rfl, by decide, ?_⟩
  intro H enc w spare held fuel cs x h hl
  have ht : Tryd.prog.underlying 29 = some (.struct (Tryd.prog.fieldsOf 29)) := by kernel_rfl
  have hlen := struct_len ht h
  rw [show Tryd.prog.cellsOf 29 = 4 by kernel_rfl] at hlen
  obtain ⟨a0, e0, k0⟩ := field_of ht h hl 0 3 0 1 (by kernel_rfl) (openC_int Tryd.underlying3 (by kernel_rfl))
  obtain ⟨a1, e1, k1⟩ := field_of ht h hl 1 3 1 1 (by kernel_rfl) (openC_int Tryd.underlying3 (by kernel_rfl))
  obtain ⟨a2, e2, k2⟩ := field_of ht h hl 2 2 2 1 (by kernel_rfl) (openC_int Tryd.underlying2 (by kernel_rfl))
  obtain ⟨a3, e3, k3⟩ := field_of ht h hl 3 9 3 1 (by kernel_rfl) (openC_text Tryd.underlying9 (by kernel_rfl))
  have hall : CsRep (FW w) w (eInt a0 ++ (eInt a1 ++ (eInt a2 ++ (eText a3 ++ [])))) (cs.drop 0) := (cs_field e0 (cs_field e1 (cs_field e2 (cs_field e3 (cs_end hlen)))))
  rw [List.drop_zero] at hall
  exact ⟨hlen, ⟨a0, a1, a2, a3⟩, hall, ⟨k0, k1, k2, k3⟩⟩
def TokenD.eqB (x y : TokenD) : Bool := (decide (x.Kind = y.Kind) && (decide (x.At = y.At) && (decide (x.N = y.N) && (decide (tx x.S = tx y.S) && true))))
theorem TokenD.eqB_iff (x y : TokenD) : TokenD.eqB x y = true ↔ x = y := by
  cases x; cases y
  simp [TokenD.eqB, tx_eq]
def blankB (c : UInt8) : Bool := decide (c.toNat = 32) || (decide (c.toNat = 9) || (decide (c.toNat = 10) || decide (c.toNat = 13)))
def skR : Bool → List UInt8 → List UInt8
  | _, [] => []
  | true, c :: r => skR (decide (c.toNat ≠ 10)) r
  | false, c :: r => if blankB c then skR false r else if c.toNat = 45 ∧ (r.headD 0).toNat = 45 then skR true r else c :: r
def skL (r : List UInt8) : List UInt8 := skR false r
def no10 (c : UInt8) : Bool := decide (c.toNat ≠ 10)
theorem skR_nil (b : Bool) : skR b [] = [] := by cases b <;> rfl
theorem skR_t (c : UInt8) (r : List UInt8) : skR true (c :: r) = skR (decide (c.toNat ≠ 10)) r := rfl
theorem skR_f (c : UInt8) (r : List UInt8) : skR false (c :: r) = if blankB c then skR false r else if c.toNat = 45 ∧ (r.headD 0).toNat = 45 then skR true r else c :: r := rfl
theorem blank_10 {c : UInt8} (h : c.toNat = 10) : blankB c = true := by unfold blankB; rw [decide_eq_true h]; simp
theorem skR_true : ∀ r : List UInt8, skR true r = skL (r.dropWhile no10)
  | [] => rfl
  | c :: r => by
    rw [skR_t]
    by_cases h : c.toNat = 10
    · rw [decide_eq_false (by simp [h])]
      have : (c :: r).dropWhile no10 = c :: r := by
        rw [List.dropWhile_cons, if_neg]
        unfold no10; simp [h]
      rw [this]
      unfold skL
      rw [skR_f, if_pos (blank_10 h)]
    · rw [decide_eq_true h, skR_true r]
      congr 1
      rw [List.dropWhile_cons, if_pos]
      exact decide_eq_true h
theorem skR_le : ∀ (b : Bool) (r : List UInt8), (skR b r).length ≤ r.length
  | b, [] => by rw [skR_nil]; exact Nat.le_refl _
  | true, c :: r => by rw [skR_t, List.length_cons]; have := skR_le (decide (c.toNat ≠ 10)) r; omega
  | false, c :: r => by
    rw [skR_f]
    split
    · rw [List.length_cons]; have := skR_le false r; omega
    · split
      · rw [List.length_cons]; have := skR_le true r; omega
      · exact Nat.le_refl _
theorem skR_suf : ∀ (b : Bool) (r : List UInt8), r.drop (r.length - (skR b r).length) = skR b r
  | b, [] => by rw [skR_nil]; rfl
  | true, c :: r => by
    rw [skR_t]
    have h1 := skR_suf (decide (c.toNat ≠ 10)) r
    have h2 := skR_le (decide (c.toNat ≠ 10)) r
    rw [List.length_cons, show r.length + 1 - (skR (decide (c.toNat ≠ 10)) r).length = (r.length - (skR (decide (c.toNat ≠ 10)) r).length) + 1 by omega, List.drop_succ_cons]
    exact h1
  | false, c :: r => by
    rw [skR_f]
    split
    · have h1 := skR_suf false r
      have h2 := skR_le false r
      rw [List.length_cons, show r.length + 1 - (skR false r).length = (r.length - (skR false r).length) + 1 by omega, List.drop_succ_cons]
      exact h1
    · split
      · have h1 := skR_suf true r
        have h2 := skR_le true r
        rw [List.length_cons, show r.length + 1 - (skR true r).length = (r.length - (skR true r).length) + 1 by omega, List.drop_succ_cons]
        exact h1
      · rw [Nat.sub_self]; rfl
def skK (l : List UInt8) (k : Nat) : Nat := l.length - (skL (l.drop k)).length
theorem skK_le (l : List UInt8) (k : Nat) : skK l k ≤ l.length := Nat.sub_le _ _
theorem skK_ge {l : List UInt8} {k : Nat} (h : k ≤ l.length) : k ≤ skK l k := by
  unfold skK skL
  have := skR_le false (l.drop k)
  rw [List.length_drop] at this
  omega
theorem skK_drop {l : List UInt8} {k : Nat} (h : k ≤ l.length) : l.drop (skK l k) = skL (l.drop k) := by
  have h1 := skR_suf false (l.drop k)
  have h2 := skR_le false (l.drop k)
  rw [List.length_drop, List.drop_drop] at h1
  rw [List.length_drop] at h2
  have : k + (l.length - k - (skR false (l.drop k)).length) = skK l k := by unfold skK skL; omega
  rw [this] at h1
  exact h1
def qLen : List UInt8 → Option Nat
  | [] => none
  | [c] => if c.toNat = 39 then some 1 else none
  | c :: d :: r => if c.toNat = 39 then (if d.toNat = 39 then (qLen r).map (· + 2) else some 1) else (qLen (d :: r)).map (· + 1)
theorem qLen_o {c : UInt8} (h : c.toNat ≠ 39) (r : List UInt8) : qLen (c :: r) = (qLen r).map (· + 1) := by
  cases r with
  | nil => simp [qLen, h]
  | cons d r => simp [qLen, h]
theorem qLen_q {c d : UInt8} (h : c.toNat = 39) (r : List UInt8) : qLen (c :: d :: r) = if d.toNat = 39 then (qLen r).map (· + 2) else some 1 := by simp [qLen, h]
theorem qLen_1 {c : UInt8} (h : c.toNat = 39) : qLen [c] = some 1 := by simp [qLen, h]
theorem qLen_le : ∀ (N : Nat) (r : List UInt8) (n : Nat), r.length ≤ N → qLen r = some n → 1 ≤ n ∧ n ≤ r.length
  | _, [], n, _, h => by cases h
  | _, [c], n, _, h => by
    unfold qLen at h
    split at h
    · cases h; exact ⟨Nat.le_refl _, Nat.le_refl _⟩
    · cases h
  | 0, _ :: _ :: _, _, hN, _ => by simp at hN
  | N + 1, c :: d :: r, n, hN, h => by
    rw [List.length_cons, List.length_cons] at hN ⊢
    by_cases hc : c.toNat = 39
    · rw [qLen_q hc] at h
      split at h
      · cases hq : qLen r with
        | none => rw [hq] at h; cases h
        | some m =>
          rw [hq] at h
          cases h
          have := qLen_le N r m (by omega) hq
          show 1 ≤ m + 2 ∧ m + 2 ≤ r.length + 1 + 1
          omega
      · cases h; omega
    · rw [qLen_o hc] at h
      cases hq : qLen (d :: r) with
      | none => rw [hq] at h; cases h
      | some m =>
        rw [hq] at h
        cases h
        have := qLen_le N (d :: r) m (by rw [List.length_cons]; omega) hq
        rw [List.length_cons] at this
        show 1 ≤ m + 1 ∧ m + 1 ≤ r.length + 1 + 1
        omega
def pairB (a b : UInt8) : Bool := decide (a.toNat = 60 ∧ b.toNat = 62) || (decide (a.toNat = 60 ∧ b.toNat = 61) || decide (a.toNat = 62 ∧ b.toNat = 61))
def singL : List UInt8 := [40, 41, 44, 59, 42, 43, 45, 47, 37, 61, 60, 62]
def singB (a : UInt8) : Bool := singL.any fun b => decide (a = b)
def sigL : List UInt8 → Nat
  | [] => 0
  | [a] => if singB a then 1 else 0
  | a :: b :: _ => if pairB a b then 2 else if singB a then 1 else 0
theorem sigL_1 (a : UInt8) : sigL [a] = if singB a then 1 else 0 := rfl
theorem sigL_2 (a b : UInt8) (r : List UInt8) : sigL (a :: b :: r) = if pairB a b then 2 else if singB a then 1 else 0 := rfl
theorem sigL_le : ∀ r : List UInt8, sigL r ≤ r.length ∧ sigL r ≤ 2
  | [] => ⟨Nat.le_refl _, by decide⟩
  | [a] => by rw [sigL_1]; split <;> simp
  | a :: b :: r => by
    rw [sigL_2]
    split
    · simp
    · split <;> simp
abbrev Tk := Int × Int × List UInt8
def qTok (kind : Int) (read : List UInt8 → Option (List UInt8)) (r : List UInt8) : Tk × Int × Nat :=
  match qLen (r.drop 1) with
  | none => ((0, 0, []), 1, 0)
  | some n => match read (r.take (n + 1)) with
    | none => ((0, 0, []), 1, 0)
    | some t => if 16 < t.length then ((0, 0, []), 2, 0) else ((kind, 0, t), 0, n + 1)
def innB (c : UInt8) : Bool := letB c || digB c
def wTok (r : List UInt8) : Tk × Int × Nat := if 12 < (r.takeWhile innB).length then ((0, 0, []), 2, 0) else ((1, 0, (r.takeWhile innB).map smB), 0, (r.takeWhile innB).length)
def headB (p : UInt8 → Bool) : List UInt8 → Bool
  | [] => false
  | c :: _ => p c
def nTok (r : List UInt8) : Tk × Int × Nat :=
  if headB letB (r.dropWhile digB) then ((0, 0, []), 1, 0)
  else ((2, (digV (r.takeWhile digB) most1 : Int), []), digE (r.takeWhile digB) most1, (r.takeWhile digB).length)
def sTok (r : List UInt8) : Tk × Int × Nat := if sigL r = 0 then ((0, 0, []), 1, 0) else ((5, 0, r.take (sigL r)), 0, sigL r)
def isX (c : UInt8) : Bool := decide (c.toNat = 88 ∨ c.toNat = 120)
def off1 (x : Tk × Int × Nat) : Tk × Int × Nat := (x.1, x.2.1, if x.2.1 = 0 then x.2.2 + 1 else 0)
def tkL (r : List UInt8) : Tk × Int × Nat :=
  if isX (r.headD 0) = true ∧ ((r.drop 1).headD 0).toNat = 39 then off1 (qTok 4 (hexL true) (r.drop 1))
  else if (r.headD 0).toNat = 39 then qTok 3 quotL r
  else if letB (r.headD 0) then wTok r
  else if digB (r.headD 0) then nTok r
  else sTok r
def tokD (k : Nat) (t : Tk) : TokenD := ⟨t.1, k, t.2.1, t.2.2⟩
def lexG (l : List UInt8) : Nat → Nat → List TokenD → List TokenD × Int × Int
  | 0, _, acc => (acc, 0, 0)
  | N + 1, k, acc =>
    if skK l k < l.length then
      (if acc.length = 120 then ([], (skK l k : Int), 2)
       else if (tkL (l.drop (skK l k))).2.1 ≠ 0 then ([], (skK l k : Int), (tkL (l.drop (skK l k))).2.1)
       else lexG l N (skK l k + (tkL (l.drop (skK l k))).2.2) (acc ++ [tokD (skK l k) (tkL (l.drop (skK l k))).1]))
    else (acc, 0, 0)
def lexF (l : List UInt8) : List TokenD × Int × Int := if 300 < l.length then ([], 0, 2) else lexG l (l.length + 1) 0 []
theorem takeWhile_le {p : UInt8 → Bool} (r : List UInt8) : (r.takeWhile p).length ≤ r.length := (List.takeWhile_sublist p).length_le
theorem qTok_ok {kind : Int} {read : List UInt8 → Option (List UInt8)} {r : List UInt8} (h : (qTok kind read r).2.1 = 0) : ∃ n t, qLen (r.drop 1) = some n ∧ read (r.take (n + 1)) = some t ∧ t.length ≤ 16 ∧ qTok kind read r = ((kind, 0, t), 0, n + 1) := by
  unfold qTok at h ⊢
  cases hq : qLen (r.drop 1) with
  | none => rw [hq] at h; cases h
  | some n =>
    rw [hq] at h
    simp only at h ⊢
    cases hr : read (r.take (n + 1)) with
    | none => rw [hr] at h; cases h
    | some t =>
      rw [hr] at h
      simp only at h ⊢
      by_cases h16 : 16 < t.length
      · rw [if_pos h16] at h; cases h
      · rw [if_neg h16]
        exact ⟨n, t, rfl, hr, by omega, rfl⟩
theorem head_len {r : List UInt8} {p : UInt8 → Bool} (h : p (r.headD 0) = true) (h0 : p 0 = false) : r ≠ [] := by
  rintro rfl
  rw [show ([] : List UInt8).headD 0 = 0 from rfl, h0] at h
  cases h
theorem takeWhile_pos {p : UInt8 → Bool} {r : List UInt8} (h : p (r.headD 0) = true) (h0 : p 0 = false) : 1 ≤ (r.takeWhile p).length := by
  cases r with
  | nil => exact absurd rfl (head_len h h0)
  | cons c r =>
    have h : p c = true := h
    rw [List.takeWhile_cons, if_pos h]
    simp
theorem tkL_len {r : List UInt8} (h : (tkL r).2.1 = 0) : 1 ≤ (tkL r).2.2 ∧ (tkL r).2.2 ≤ r.length := by
  unfold tkL at h ⊢
  by_cases c1 : isX (r.headD 0) = true ∧ ((r.drop 1).headD 0).toNat = 39
  · rw [if_pos c1] at h ⊢
    obtain ⟨n, t, h1, h2, h3, h4⟩ := qTok_ok (show (qTok 4 (hexL true) (r.drop 1)).2.1 = 0 from h)
    have := (qLen_le _ _ _ (Nat.le_refl _) h1).2
    rw [h4]
    show 1 ≤ n + 1 + 1 ∧ n + 1 + 1 ≤ r.length
    rw [List.drop_drop, List.length_drop] at this
    have hq := (qLen_le _ _ _ (Nat.le_refl _) h1).1
    omega
  · rw [if_neg c1] at h ⊢
    by_cases c2 : (r.headD 0).toNat = 39
    · rw [if_pos c2] at h ⊢
      obtain ⟨n, t, h1, h2, h3, h4⟩ := qTok_ok h
      have := qLen_le _ _ _ (Nat.le_refl _) h1
      rw [List.length_drop] at this
      rw [h4]
      show 1 ≤ n + 1 ∧ n + 1 ≤ r.length
      omega
    · rw [if_neg c2] at h ⊢
      by_cases c3 : letB (r.headD 0) = true
      · rw [if_pos c3] at h ⊢
        unfold wTok at h ⊢
        have h1 := takeWhile_le (p := innB) r
        have h2 := takeWhile_pos (p := innB) (r := r) (by unfold innB; rw [c3]; rfl) (by decide)
        split
        · rename_i q; rw [if_pos q] at h; cases h
        · exact ⟨h2, h1⟩
      · rw [if_neg c3] at h ⊢
        by_cases c4 : digB (r.headD 0) = true
        · rw [if_pos c4] at h ⊢
          unfold nTok at h ⊢
          have h1 := takeWhile_le (p := digB) r
          have h2 := takeWhile_pos (p := digB) (r := r) c4 (by decide)
          split
          · rename_i q; rw [if_pos q] at h; cases h
          · exact ⟨h2, h1⟩
        · rw [if_neg c4] at h ⊢
          unfold sTok at h ⊢
          have h1 := sigL_le r
          split
          · rename_i q; rw [if_pos q] at h; cases h
          · rename_i q
            show 1 ≤ sigL r ∧ sigL r ≤ r.length
            omega
end Go.Proofs.YtjbopncobegleaaDoor.Pm
end
section
namespace Go.Proofs.YtjbopncobegleaaDoor.Pm
open Go.RowKit K
set_option linter.unusedVariables false
set_option linter.unusedSimpArgs false
set_option maxRecDepth 100000
theorem head_take {r : List UInt8} {m : Nat} (h : 1 ≤ m) : (r.take m).headD 0 = r.headD 0 := by
  cases r with
  | nil => simp
  | cons a r => obtain ⟨m, rfl⟩ : ∃ k, m = k + 1 := ⟨m - 1, by omega⟩; rfl
theorem skR_cut : ∀ (b : Bool) (r : List UInt8) (m : Nat), r.length - (skR b r).length ≤ m → skR b (r.take m) = (skR b r).take (m - (r.length - (skR b r).length))
  | b, [], m, _ => by rw [List.take_nil, skR_nil, List.take_nil]
  | b, c :: r, 0, h => by
    have h1 := skR_le b (c :: r)
    rw [List.take_zero, skR_nil]
    rw [List.length_cons] at h h1 ⊢
    have : 0 - (r.length + 1 - (skR b (c :: r)).length) = 0 := by omega
    rw [this, List.take_zero]
  | true, c :: r, m + 1, h => by
    have h1 := skR_le (decide (c.toNat ≠ 10)) r
    rw [skR_t, List.length_cons] at h
    rw [List.take_succ_cons, skR_t, skR_t, skR_cut _ r m (by omega), List.length_cons]
    congr 1; omega
  | false, c :: r, m + 1, h => by
    rw [skR_f, List.length_cons] at h
    rw [List.take_succ_cons, skR_f, skR_f, List.length_cons]
    by_cases hb : blankB c = true
    · have h1 := skR_le false r
      rw [if_pos hb] at h ⊢
      rw [if_pos hb, skR_cut false r m (by omega)]
      congr 1; omega
    · rw [if_neg hb] at h ⊢
      rw [if_neg hb]
      by_cases hr : c.toNat = 45 ∧ (r.headD 0).toNat = 45
      · rw [if_pos hr] at h ⊢
        have hm : 1 ≤ m := by
          have h1 := skR_le true r
          cases r with
          | nil => exact absurd hr.2 (by decide)
          | cons d r =>
            have h2 := skR_le (decide (d.toNat ≠ 10)) r
            rw [skR_t, List.length_cons] at h
            omega
        have h1 := skR_le true r
        rw [if_pos ⟨hr.1, by rw [head_take hm]; exact hr.2⟩, skR_cut true r m (by omega)]
        congr 1; omega
      · rw [if_neg hr] at h ⊢
        have hn : ¬ (c.toNat = 45 ∧ ((r.take m).headD 0).toNat = 45) := by
          rintro ⟨x1, x2⟩
          by_cases hm : 1 ≤ m
          · rw [head_take hm] at x2; exact hr ⟨x1, x2⟩
          · rw [show m = 0 by omega, List.take_zero] at x2; exact absurd x2 (by decide)
        rw [if_neg hn, List.length_cons]
        rw [show m + 1 - (r.length + 1 - (r.length + 1)) = m + 1 by omega, List.take_succ_cons]
theorem qLen_cut : ∀ (N : Nat) (r : List UInt8) (n m : Nat), r.length ≤ N → qLen r = some n → n ≤ m → qLen (r.take m) = some n
  | _, [], n, m, _, h, _ => by cases h
  | _, [c], n, m, _, h, hm => by
    have := qLen_le _ _ _ (Nat.le_refl _) h
    rw [List.take_of_length_le (by rw [List.length_singleton] at *; omega)]
    exact h
  | 0, _ :: _ :: _, _, _, hN, _, _ => by simp at hN
  | N + 1, c :: d :: r, n, m, hN, h, hm => by
    rw [List.length_cons, List.length_cons] at hN
    by_cases hc : c.toNat = 39
    · rw [qLen_q hc] at h
      by_cases hd : d.toNat = 39
      · rw [if_pos hd] at h
        cases hq : qLen r with
        | none => rw [hq] at h; cases h
        | some k =>
          rw [hq] at h
          have h : k + 2 = n := Option.some.inj h
          obtain ⟨m, rfl⟩ : ∃ j, m = j + 2 := ⟨m - 2, by omega⟩
          rw [List.take_succ_cons, List.take_succ_cons, qLen_q hc, if_pos hd, qLen_cut N r k m (by omega) hq (by omega)]
          show some (k + 2) = _
          rw [h]
      · rw [if_neg hd] at h
        have h : 1 = n := Option.some.inj h
        subst h
        by_cases h2 : 2 ≤ m
        · obtain ⟨m, rfl⟩ : ∃ j, m = j + 2 := ⟨m - 2, by omega⟩
          rw [List.take_succ_cons, List.take_succ_cons, qLen_q hc, if_neg hd]
        · rw [show m = 1 by omega]
          exact qLen_1 hc
    · rw [qLen_o hc] at h
      cases hq : qLen (d :: r) with
      | none => rw [hq] at h; cases h
      | some k =>
        rw [hq] at h
        have h : k + 1 = n := Option.some.inj h
        obtain ⟨m, rfl⟩ : ∃ j, m = j + 1 := ⟨m - 1, by omega⟩
        rw [List.take_succ_cons, qLen_o hc, qLen_cut N (d :: r) k m (by rw [List.length_cons]; omega) hq (by omega)]
        show some (k + 1) = _
        rw [h]
theorem takeWhile_cut {p : UInt8 → Bool} : ∀ (r : List UInt8) (m : Nat), (r.takeWhile p).length ≤ m → (r.take m).takeWhile p = r.takeWhile p
  | [], m, _ => by rw [List.take_nil]
  | c :: r, 0, h => by
    have : (c :: r).takeWhile p = [] := List.length_eq_zero_iff.1 (Nat.le_zero.1 h)
    rw [this]; rfl
  | c :: r, m + 1, h => by
    rw [List.take_succ_cons, List.takeWhile_cons, List.takeWhile_cons]
    by_cases hc : p c = true
    · rw [List.takeWhile_cons, if_pos hc, List.length_cons] at h
      rw [if_pos hc, if_pos hc, takeWhile_cut r m (by omega)]
    · rw [if_neg hc, if_neg hc]
theorem dropWhile_cut {p : UInt8 → Bool} : ∀ (r : List UInt8) (m : Nat), (r.takeWhile p).length ≤ m → (r.take m).dropWhile p = (r.dropWhile p).take (m - (r.takeWhile p).length)
  | [], m, _ => by rw [List.take_nil, List.dropWhile_nil, List.take_nil]
  | c :: r, 0, h => by
    have : (c :: r).takeWhile p = [] := List.length_eq_zero_iff.1 (Nat.le_zero.1 h)
    rw [this]; rfl
  | c :: r, m + 1, h => by
    rw [List.take_succ_cons, List.dropWhile_cons, List.dropWhile_cons]
    by_cases hc : p c = true
    · rw [List.takeWhile_cons, if_pos hc, List.length_cons] at h
      rw [if_pos hc, if_pos hc, List.takeWhile_cons, if_pos hc, List.length_cons, dropWhile_cut r m (by omega)]
      congr 1; omega
    · rw [if_neg hc, if_neg hc, List.takeWhile_cons, if_neg hc]
      rfl
theorem headB_cut {p : UInt8 → Bool} {r : List UInt8} (m : Nat) (h : headB p r = false) : headB p (r.take m) = false := by
  cases r with
  | nil => rw [List.take_nil]; rfl
  | cons a r =>
    cases m with
    | zero => rfl
    | succ m => exact h
theorem sigL_cut (r : List UInt8) (m : Nat) (h : sigL r ≤ m) (h1 : 1 ≤ m) : sigL (r.take m) = sigL r := by
  match r with
  | [] => rw [List.take_nil]
  | [a] => rw [List.take_of_length_le (by rw [List.length_singleton]; omega)]
  | a :: b :: r =>
    by_cases h2 : 2 ≤ m
    · obtain ⟨m, rfl⟩ : ∃ j, m = j + 2 := ⟨m - 2, by omega⟩
      rw [List.take_succ_cons, List.take_succ_cons, sigL_2, sigL_2]
    · rw [show m = 1 by omega] at h ⊢
      rw [sigL_2] at h ⊢
      show sigL [a] = _
      rw [sigL_1]
      by_cases hp : pairB a b = true
      · rw [if_pos hp] at h; omega
      · rw [if_neg hp]
theorem qTok_cut {kind : Int} {read : List UInt8 → Option (List UInt8)} {r : List UInt8} {m : Nat} (h : (qTok kind read r).2.1 = 0) (hm : (qTok kind read r).2.2 ≤ m) : qTok kind read (r.take m) = qTok kind read r := by
  obtain ⟨n, t, h1, h2, h3, h4⟩ := qTok_ok h
  rw [h4] at hm
  have hm : n + 1 ≤ m := hm
  have e1 : qLen ((r.take m).drop 1) = some n := by
    rw [List.drop_take]
    exact qLen_cut _ _ n (m - 1) (Nat.le_refl _) h1 (by omega)
  rw [h4]
  unfold qTok
  rw [e1]
  simp only
  rw [List.take_take, show min (n + 1) m = n + 1 by omega, h2]
  simp only
  rw [if_neg (by omega)]
theorem tk_cut {r : List UInt8} {m : Nat} (h : (tkL r).2.1 = 0) (hm : (tkL r).2.2 ≤ m) : tkL (r.take m) = tkL r := by
  have hl := tkL_len h
  have m1 : 1 ≤ m := by omega
  have eh := head_take (r := r) m1
  unfold tkL at h hm ⊢
  rw [eh]
  by_cases c1 : isX (r.headD 0) = true ∧ ((r.drop 1).headD 0).toNat = 39
  · rw [if_pos c1] at h hm
    have hq : (qTok 4 (hexL true) (r.drop 1)).2.1 = 0 := h
    have hm : (if (qTok 4 (hexL true) (r.drop 1)).2.1 = 0 then (qTok 4 (hexL true) (r.drop 1)).2.2 + 1 else 0) ≤ m := hm
    rw [if_pos hq] at hm
    obtain ⟨n, t, h1, h2, h3, h4⟩ := qTok_ok hq
    have h5 : (qTok 4 (hexL true) (r.drop 1)).2.2 = n + 1 := by rw [h4]
    have hd : ((r.take m).drop 1).headD 0 = (r.drop 1).headD 0 := by rw [List.drop_take]; exact head_take (by omega)
    rw [if_pos c1, if_pos ⟨c1.1, by rw [hd]; exact c1.2⟩, List.drop_take, qTok_cut hq (by omega)]
  · rw [if_neg c1] at h hm
    have c1' : ¬ (isX (r.headD 0) = true ∧ (((r.take m).drop 1).headD 0).toNat = 39) := by
      rintro ⟨x1, x2⟩
      rw [List.drop_take] at x2
      by_cases h2 : 1 ≤ m - 1
      · rw [head_take h2] at x2; exact c1 ⟨x1, x2⟩
      · rw [show m - 1 = 0 by omega, List.take_zero] at x2; exact absurd x2 (by decide)
    rw [if_neg c1, if_neg c1']
    by_cases c2 : (r.headD 0).toNat = 39
    · rw [if_pos c2] at h hm ⊢
      rw [if_pos c2]
      exact qTok_cut h hm
    · rw [if_neg c2] at h hm ⊢
      rw [if_neg c2]
      by_cases c3 : letB (r.headD 0) = true
      · rw [if_pos c3] at h hm ⊢
        rw [if_pos c3]
        unfold wTok at h hm ⊢
        by_cases h12 : 12 < (r.takeWhile innB).length
        · rw [if_pos h12] at h; cases h
        · rw [if_neg h12] at hm
          rw [takeWhile_cut r m hm]
      · rw [if_neg c3] at h hm ⊢
        rw [if_neg c3]
        by_cases c4 : digB (r.headD 0) = true
        · rw [if_pos c4] at h hm ⊢
          rw [if_pos c4]
          unfold nTok at h hm ⊢
          by_cases hh : headB letB (r.dropWhile digB) = true
          · rw [if_pos hh] at h; cases h
          · rw [if_neg hh] at hm
            have hm : (r.takeWhile digB).length ≤ m := hm
            rw [takeWhile_cut r m hm, dropWhile_cut r m hm, if_neg hh, if_neg]
            rw [headB_cut _ (Bool.eq_false_iff.2 hh)]; decide
        · rw [if_neg c4] at h hm ⊢
          rw [if_neg c4]
          unfold sTok at h hm ⊢
          by_cases h0 : sigL r = 0
          · rw [if_pos h0] at h; cases h
          · rw [if_neg h0] at hm
            have hm : sigL r ≤ m := hm
            rw [sigL_cut r m hm m1, List.take_take, show min (sigL r) m = sigL r by omega]
def wsp (y : List UInt8) : Prop := y = [] ∨ (y.headD 0).toNat = 10 ∨ (y.headD 0).toNat = 32
theorem wsp_no {y : List UInt8} (h : wsp y) {c : UInt8} {r : List UInt8} (e : y = c :: r) : c.toNat = 10 ∨ c.toNat = 32 := by
  subst e
  rcases h with h | h
  · cases h
  · exact h
theorem wsp_p {y : List UInt8} (h : wsp y) {p : UInt8 → Bool} (hp : ∀ c : UInt8, c.toNat = 10 ∨ c.toNat = 32 → p c = false) : y.takeWhile p = [] ∧ y.dropWhile p = y := by
  cases y with
  | nil => exact ⟨rfl, rfl⟩
  | cons c r =>
    have := hp c (wsp_no h rfl)
    rw [List.takeWhile_cons, List.dropWhile_cons, if_neg (by rw [this]; decide), if_neg (by rw [this]; decide)]
    exact ⟨rfl, rfl⟩
theorem takeWhile_ext {p : UInt8 → Bool} : ∀ (r : List UInt8) {y : List UInt8}, y.takeWhile p = [] → (r ++ y).takeWhile p = r.takeWhile p
  | [], y, h => h
  | c :: r, y, h => by
    rw [List.cons_append, List.takeWhile_cons, List.takeWhile_cons, takeWhile_ext r h]
theorem dropWhile_ext {p : UInt8 → Bool} : ∀ (r : List UInt8) {y : List UInt8}, y.dropWhile p = y → (r ++ y).dropWhile p = r.dropWhile p ++ y
  | [], y, h => h
  | c :: r, y, h => by
    rw [List.cons_append, List.dropWhile_cons, List.dropWhile_cons]
    split
    · exact dropWhile_ext r h
    · rfl
theorem ws_not (c : UInt8) (h : c.toNat = 10 ∨ c.toNat = 32) : letB c = false ∧ digB c = false ∧ innB c = false ∧ c.toNat ≠ 39 ∧ c.toNat ≠ 45 ∧ c.toNat ≠ 61 ∧ c.toNat ≠ 62 := by
  have e : c = 10 ∨ c = 32 := h.imp (fun h => by rw [← u8_back c, h]; rfl) (fun h => by rw [← u8_back c, h]; rfl)
  rcases e with rfl | rfl <;> decide
theorem skR_ext : ∀ (b : Bool) (r : List UInt8) {y : List UInt8}, wsp y → skR b r ≠ [] → skR b (r ++ y) = skR b r ++ y
  | b, [], y, _, h => absurd (skR_nil b) h
  | true, c :: r, y, hy, h => by
    rw [skR_t] at h
    rw [List.cons_append, skR_t, skR_t, skR_ext _ r hy h]
  | false, c :: r, y, hy, h => by
    rw [skR_f] at h
    rw [List.cons_append, skR_f, skR_f]
    by_cases hb : blankB c = true
    · rw [if_pos hb] at h ⊢
      rw [if_pos hb, skR_ext false r hy h]
    · rw [if_neg hb] at h ⊢
      rw [if_neg hb]
      have hh : r ≠ [] → (r ++ y).headD 0 = r.headD 0 := by
        intro hr
        cases r with
        | nil => exact absurd rfl hr
        | cons a r => rfl
      by_cases hr : c.toNat = 45 ∧ (r.headD 0).toNat = 45
      · have hr0 : r ≠ [] := fun e => by rw [e] at hr; exact absurd hr.2 (by decide)
        rw [if_pos hr] at h ⊢
        rw [if_pos ⟨hr.1, by rw [hh hr0]; exact hr.2⟩, skR_ext true r hy h]
      · rw [if_neg hr, if_neg]
        · rfl
        · rintro ⟨x1, x2⟩
          by_cases hr0 : r = []
          · rw [hr0, List.nil_append] at x2
            cases y with
            | nil => exact absurd x2 (by decide)
            | cons d y => exact (ws_not d (wsp_no hy rfl)).2.2.2.2.1 x2
          · rw [hh hr0] at x2; exact hr ⟨x1, x2⟩
theorem skR_end : ∀ (b : Bool) (r : List UInt8), skR b r = [] → ∃ b', ∀ y, (y.headD 0).toNat ≠ 45 → skR b (r ++ y) = skR b' y
  | b, [], _ => ⟨b, fun y _ => rfl⟩
  | true, c :: r, h => by
    rw [skR_t] at h
    obtain ⟨b', hb⟩ := skR_end _ r h
    exact ⟨b', fun y hy => by rw [List.cons_append, skR_t, hb y hy]⟩
  | false, c :: r, h => by
    rw [skR_f] at h
    by_cases hb : blankB c = true
    · rw [if_pos hb] at h
      obtain ⟨b', hb'⟩ := skR_end _ r h
      exact ⟨b', fun y hy => by rw [List.cons_append, skR_f, if_pos hb, hb' y hy]⟩
    · rw [if_neg hb] at h
      by_cases hr : c.toNat = 45 ∧ (r.headD 0).toNat = 45
      · rw [if_pos hr] at h
        obtain ⟨b', hb'⟩ := skR_end _ r h
        refine ⟨b', fun y hy => ?_⟩
        have hr0 : (r ++ y).headD 0 = r.headD 0 := by
          cases r with
          | nil => exact absurd hr.2 (by decide)
          | cons a r => rfl
        rw [List.cons_append, skR_f, if_neg hb, if_pos ⟨hr.1, by rw [hr0]; exact hr.2⟩, hb' y hy]
      · rw [if_neg hr] at h; cases h
theorem qLen_ext : ∀ (N : Nat) (r : List UInt8) (n : Nat) {y : List UInt8}, r.length ≤ N → wsp y → qLen r = some n → qLen (r ++ y) = some n
  | _, [], n, y, _, _, h => by cases h
  | _, [c], n, y, _, hy, h => by
    have hc : c.toNat = 39 := by
      unfold qLen at h
      split at h
      · assumption
      · cases h
    rw [qLen_1 hc] at h
    cases y with
    | nil => rw [List.append_nil, qLen_1 hc]; exact h
    | cons d y =>
      rw [List.singleton_append, qLen_q hc, if_neg (ws_not d (wsp_no hy rfl)).2.2.2.1]; exact h
  | 0, _ :: _ :: _, _, _, hN, _, _ => by simp at hN
  | N + 1, c :: d :: r, n, y, hN, hy, h => by
    rw [List.length_cons, List.length_cons] at hN
    by_cases hc : c.toNat = 39
    · rw [qLen_q hc] at h
      rw [List.cons_append, List.cons_append, qLen_q hc]
      by_cases hd : d.toNat = 39
      · rw [if_pos hd] at h ⊢
        cases hq : qLen r with
        | none => rw [hq] at h; cases h
        | some k =>
          rw [hq] at h
          rw [qLen_ext N r k (by omega) hy hq]; exact h
      · rw [if_neg hd] at h ⊢; exact h
    · rw [qLen_o hc] at h
      rw [List.cons_append, qLen_o hc]
      cases hq : qLen (d :: r) with
      | none => rw [hq] at h; cases h
      | some k =>
        rw [hq] at h
        rw [qLen_ext N (d :: r) k (by rw [List.length_cons]; omega) hy hq]; exact h
theorem qTok_ext {kind : Int} {read : List UInt8 → Option (List UInt8)} {r y : List UInt8} (hy : wsp y) (h : (qTok kind read r).2.1 = 0) : qTok kind read (r ++ y) = qTok kind read r := by
  obtain ⟨n, t, h1, h2, h3, h4⟩ := qTok_ok h
  have hn := qLen_le _ _ _ (Nat.le_refl _) h1
  rw [List.length_drop] at hn
  have e1 : qLen ((r ++ y).drop 1) = some n := by
    rw [List.drop_append_of_le_length (by omega)]
    exact qLen_ext _ _ n (Nat.le_refl _) hy h1
  rw [h4]
  unfold qTok
  rw [e1]
  simp only
  rw [List.take_append_of_le_length (by omega), h2]
  simp only
  rw [if_neg (by omega)]
theorem pair_ws (a c : UInt8) (h : c.toNat = 10 ∨ c.toNat = 32) : pairB a c = false := by
  obtain ⟨_, _, _, _, _, h1, h2⟩ := ws_not c h
  unfold pairB
  rw [decide_eq_false (by simp [h2]), decide_eq_false (by simp [h1]), decide_eq_false (by simp [h1])]; rfl
theorem sigL_ext (r : List UInt8) {y : List UInt8} (hy : wsp y) (hr : r ≠ []) : sigL (r ++ y) = sigL r := by
  match r with
  | [] => exact absurd rfl hr
  | [a] =>
    cases y with
    | nil => rfl
    | cons c y => rw [List.singleton_append, sigL_2, sigL_1, pair_ws a c (wsp_no hy rfl)]; rfl
  | a :: b :: r => rw [List.cons_append, List.cons_append, sigL_2, sigL_2]
theorem headB_ext {p : UInt8 → Bool} {r y : List UInt8} (hy : wsp y) (hp : ∀ c : UInt8, c.toNat = 10 ∨ c.toNat = 32 → p c = false) (h : headB p r = false) : headB p (r ++ y) = false := by
  cases r with
  | nil =>
    cases y with
    | nil => rfl
    | cons c y => exact hp c (wsp_no hy rfl)
  | cons a r => exact h
theorem tk_ext {r y : List UInt8} (hy : wsp y) (h : (tkL r).2.1 = 0) : tkL (r ++ y) = tkL r := by
  have hl := tkL_len h
  have hr0 : r ≠ [] := fun e => by rw [e] at hl; simp at hl; omega
  have eh : (r ++ y).headD 0 = r.headD 0 := by
    cases r with
    | nil => exact absurd rfl hr0
    | cons a r => rfl
  have l1 : 1 ≤ r.length := List.length_pos_iff.2 hr0
  unfold tkL at h ⊢
  rw [eh, List.drop_append_of_le_length l1]
  by_cases c1 : isX (r.headD 0) = true ∧ ((r.drop 1).headD 0).toNat = 39
  · rw [if_pos c1] at h
    have hd0 : r.drop 1 ≠ [] := fun e => by rw [e] at c1; exact absurd c1.2 (by decide)
    have hd : (r.drop 1 ++ y).headD 0 = (r.drop 1).headD 0 := by
      cases hr : r.drop 1 with
      | nil => exact absurd hr hd0
      | cons a q => rfl
    rw [if_pos c1, if_pos ⟨c1.1, by rw [hd]; exact c1.2⟩, qTok_ext hy (show (qTok 4 (hexL true) (r.drop 1)).2.1 = 0 from h)]
  · rw [if_neg c1] at h
    have c1' : ¬ (isX (r.headD 0) = true ∧ ((r.drop 1 ++ y).headD 0).toNat = 39) := by
      rintro ⟨x1, x2⟩
      cases hr : r.drop 1 with
      | nil =>
        rw [hr, List.nil_append] at x2
        cases y with
        | nil => exact absurd x2 (by decide)
        | cons d y => exact (ws_not d (wsp_no hy rfl)).2.2.2.1 x2
      | cons a q =>
        rw [hr] at x2 c1
        exact c1 ⟨x1, x2⟩
    rw [if_neg c1, if_neg c1']
    by_cases c2 : (r.headD 0).toNat = 39
    · rw [if_pos c2] at h ⊢
      rw [if_pos c2]
      exact qTok_ext hy h
    · rw [if_neg c2] at h ⊢
      rw [if_neg c2]
      have w1 := wsp_p hy (p := innB) fun c hc => (ws_not c hc).2.2.1
      have w2 := wsp_p hy (p := digB) fun c hc => (ws_not c hc).2.1
      by_cases c3 : letB (r.headD 0) = true
      · rw [if_pos c3] at h ⊢
        rw [if_pos c3]
        unfold wTok
        rw [takeWhile_ext r w1.1]
      · rw [if_neg c3] at h ⊢
        rw [if_neg c3]
        by_cases c4 : digB (r.headD 0) = true
        · rw [if_pos c4] at h ⊢
          rw [if_pos c4]
          unfold nTok at h ⊢
          rw [takeWhile_ext r w2.1, dropWhile_ext r w2.2]
          by_cases hh : headB letB (r.dropWhile digB) = true
          · rw [if_pos hh] at h; cases h
          · rw [if_neg hh, if_neg]
            rw [headB_ext hy (fun c hc => (ws_not c hc).1) (Bool.eq_false_iff.2 hh)]; decide
        · rw [if_neg c4] at h ⊢
          rw [if_neg c4]
          unfold sTok
          have hsl := sigL_le r
          rw [sigL_ext r hy hr0, List.take_append_of_le_length hsl.1]
end Go.Proofs.YtjbopncobegleaaDoor.Pm
end
section
namespace Go.Proofs.YtjbopncobegleaaDoor.Pm
open Go.RowKit K
set_option linter.unusedVariables false
set_option linter.unusedSimpArgs false
set_option maxRecDepth 100000
def hexI (c : UInt8) : Int := match hexv c with
  | some k => (k : Int)
  | none => -1
theorem hexI_ix (c : UInt8) : Lib.indexByte hexTab.data.toList c = hexI c := by
  have h : ∀ n : Nat, n < 256 → Lib.indexByte hexTab.data.toList (UInt8.ofNat n) = hexI (UInt8.ofNat n) := by decide +kernel
  have := h c.toNat c.toNat_lt
  rwa [u8_back] at this
theorem hexI_some {c : UInt8} {k : Nat} (h : hexv c = some k) : hexI c = k := by unfold hexI; rw [h]
theorem hexI_none {c : UInt8} (h : hexv c = none) : hexI c = -1 := by unfold hexI; rw [h]
theorem hexI_le (c : UInt8) : -1 ≤ hexI c ∧ hexI c ≤ 15 := by
  cases h : hexv c with
  | none => rw [hexI_none h]; omega
  | some k => rw [hexI_some h]; have := (hexd_v h).1; omega
theorem p_indexhex (c : UInt8) : Pure Tryd.prog 60 [.d (.c (.v (.string ⟨#[48, 49, 50, 51, 52, 53, 54, 55, 56, 57, 97, 98, 99, 100, 101, 102]⟩))), pInt .u8 (c.toNat : Int)] (pInt .i64 (hexI c)) := by
  refine pure_hand (vs := [.string hexTab, .int .u8 (c.toNat : Int)]) ⟨_, Tryd.func60, by rfl, by rfl⟩ fun w hG => ?_
  refine (Tryd.strings_IndexByte hexTab (c.toNat : Int) w).mono ?_
  rintro e w' ⟨rfl, rfl⟩
  refine ⟨_, rfl, Below.refl _ _, fun F _ => ?_⟩
  rw [show ((c.toNat : Int).toNat.toUInt8) = c from u8_back c, hexI_ix]
  exact rep_int _ _
theorem hexI_get {c : UInt8} (h : ¬ hexI c < 0) : hexv c = some (hexI c).toNat ∧ 0 ≤ hexI c ∧ hexI c < 16 := by
  cases hc : hexv c with
  | none => rw [hexI_none hc] at h; omega
  | some k => rw [hexI_some hc]; have := (hexd_v hc).1; exact ⟨rfl, by omega, by omega⟩
theorem hexI_neg {c : UInt8} (h : hexI c < 0) : hexv c = none := by
  cases hc : hexv c with
  | none => rfl
  | some k => rw [hexI_some hc] at h; omega
theorem Idx.mapV {α : Type} {f : α → List C} {l : List α} {n : Int} {K : List C → Prop} (k : Nat) (hk : n = (k : Int)) (x : α) (hx : l[k]? = some x) (h : K (f x)) : Idx (l.map f) n K :=
  ⟨f x, by omega, by rw [hk]; simp [hx], h⟩
theorem Wr.shl {n : Nat} {K : Int → Prop} (hn : n < 16) (h : K ((n : Int) * 2 ^ min (Int.toNat 4) IntKind.i64.bits)) : Wr .i64 ((n : Int) * 2 ^ min (Int.toNat 4) IntKind.i64.bits) K := by
  have e : (2 : Int) ^ min (Int.toNat 4) IntKind.i64.bits = 16 := rfl
  exact Wr.i64 (by rw [e]; omega) (by rw [e]; omega) h
theorem Wr.or {n : Nat} {x : Int} {K : Int → Prop} (hn : n < 16) (hx : 0 ≤ x ∧ x < 16) (h : K (((n * 16 + x.toNat : Nat)) : Int)) : Wr .i64 (((BitVec.ofInt IntKind.i64.bits ((n : Int) * 2 ^ min (Int.toNat 4) IntKind.i64.bits) ||| BitVec.ofInt IntKind.i64.bits x).toNat : Nat) : Int) K := by
  obtain ⟨m, rfl⟩ : ∃ m : Nat, x = m := ⟨x.toNat, by omega⟩
  have hm : m < 16 := by omega
  have key : ∀ a : Nat, a < 16 → ∀ b : Nat, b < 16 → (BitVec.ofInt 64 ((a : Int) * 16) ||| BitVec.ofInt 64 (b : Int)).toNat = a * 16 + b := by decide +kernel
  have e : (BitVec.ofInt IntKind.i64.bits ((n : Int) * 2 ^ min (Int.toNat 4) IntKind.i64.bits) ||| BitVec.ofInt IntKind.i64.bits (m : Int)).toNat = n * 16 + m := key n hn m hm
  rw [e]
  exact Wr.i64 (by omega) (by omega) h
def hexc (any : Bool) (c : UInt8) : UInt8 := if any = true ∧ 65 ≤ c.toNat ∧ c.toNat ≤ 70 then UInt8.ofNat (c.toNat + 32) else c
theorem hexw_c (any : Bool) (c : UInt8) : hexw any c = hexv (hexc any c) := by
  unfold hexw hexc
  split
  · rename_i h
    have e : (UInt8.ofNat (c.toNat + 32)).toNat = c.toNat + 32 := u8_small (by omega)
    unfold hexv
    rw [e, if_neg (by omega), if_pos (by omega)]
    congr 1
  · rfl
theorem p_Hexed (s : List UInt8) (hs : s.length ≤ 140737488351232) (any : Bool) : Pure Tryd.prog 38 [pStr (tx s), pBool any] (optP (hexL any s)) := by
  have hz := tx_size s
  refine pure_of Tryd.func38 (by rfl) rfl (by kernel_rfl) (by rfl) ?_
  unfold hexL
  by_cases h2 : s.length < 2
  · rw [if_pos (.inl h2)]
    ((conv => whnf); repeat' ((first | (with_reducible first | apply a_ | apply b_ | apply c_) | ((with_reducible first | apply d_ | apply e_ | apply f_ | apply g_); focus first | omega | (simp only [q_] <;> omega)) | ((with_reducible first | apply i_ | apply h_); focus first | omega | (simp only [q_] <;> omega)) | ((with_reducible apply h_); focus first | decide | kernel_rfl) | refine BCase.t (by decide) ?_ | refine BCase.f (by decide) ?_ | with_reducible first | apply l_ | apply m_ | apply n_ | apply o_ | refine p_ (fun _ => ?_) (fun _ => ?_)) <;> (conv => whnf)))
    all_goals exact Ret.eq rfl
  · have hne : s ≠ [] := fun e => by rw [e] at h2; simp at h2
    have l0 : 0 < s.length := by omega
    have l1 : s.length - 1 < s.length := by omega
    have e1 : ((tx s).size : Int) - 1 = ((s.length - 1 : Nat) : Int) := by omega
    have em : ((tx s).size : Int).tmod 2 = ((s.length % 2 : Nat) : Int) := by rw [hz]; rfl
    have d39 : ∀ c : UInt8, c = 39 ↔ ((c.toNat : Nat) : Int) = 39 := fun c => ⟨fun e => by rw [e]; rfl, fun e => by rw [← u8_back c, show c.toNat = 39 by omega]; rfl⟩
    by_cases c0 : s.length % 2 = 0
    · by_cases c1 : s.headD 0 = 39
      · have n1 := c1
        rw [headD_get, d39] at n1
        by_cases c2 : s.getLastD 0 = 39
        · rw [if_neg (fun h => h.elim h2 fun h => h.elim (fun x => x c0) fun h => h.elim (fun x => x c1) (fun x => x c2))]
          rw [lastD_get hne, d39] at c2
          have hin : (innerL s).length + 2 = s.length := by unfold innerL; rw [List.length_take, List.length_drop]; omega
          ((conv => whnf); repeat' ((first | (with_reducible first | apply a_ | apply b_ | apply c_) | ((with_reducible first | apply d_ | apply e_ | apply f_ | apply g_); focus first | omega | (simp only [q_] <;> omega)) | ((with_reducible first | apply i_ | apply h_); focus first | omega | (simp only [q_] <;> omega)) | ((with_reducible apply h_); focus first | decide | kernel_rfl) | refine BCase.t (by decide) ?_ | refine BCase.f (by decide) ?_ | (first | refine SIdx.tx 0 rfl l0 ?_ | refine SIdx.tx (s.length - 1) e1 l1 ?_) | with_reducible first | apply l_ | apply m_ | apply n_ | apply o_ | refine p_ (fun _ => ?_) (fun _ => ?_)) <;> (conv => whnf)))
          refine LoopC.mk (List UInt8 × List UInt8) (fun x => [(1, pBool any), (6, .d (.app 60 5 1 (byteRows x.2))), (7, pStr (tx x.1))]) (fun _ => [(60, .tail 5 1)]) [60] (fun x => x.1.length + x.2.length ≤ s.length ∧ x.1.length % 2 = 0 ∧ unhex any (innerL s) = thenL x.2 (unhex any x.1)) (fun x => x.1.length) (innerL s, []) ⟨by show (innerL s).length + 0 ≤ _; omega, by show (innerL s).length % 2 = 0; omega, by show _ = thenL [] _; unfold thenL; cases unhex any (innerL s) <;> rfl⟩ ?start ?round
          case start => exact ⟨[], rfl, rfl, ⟨.inl rfl, ⟨rfl, rfl, Nat.zero_lt_succ _, rfl, rfl⟩, PLe.text (inner_tx s), trivial⟩, ⟨rfl, Nat.zero_lt_succ _⟩, trivial⟩
          case round =>
            rintro ⟨r, t⟩ ⟨hl, hev, hq⟩
            have hl : r.length + t.length ≤ s.length := hl
            have hev : r.length % 2 = 0 := hev
            have hq : unhex any (innerL s) = thenL t (unhex any r) := hq
            have hrz := tx_size r
            have hbl := byteRows_ln t
            cases r with
            | nil =>
              have hem : ¬ ¬ tx ([] : List UInt8) = ⟨#[]⟩ := not_not_intro rfl
              have hq : unhex any (innerL s) = some t := by rw [hq]; show some (t ++ []) = _; rw [List.append_nil]
              rw [hq]
              ((conv => whnf); repeat' ((first | (with_reducible first | apply a_ | apply b_ | apply c_) | ((with_reducible first | apply d_ | apply e_ | apply f_ | apply g_); focus first | omega | (simp only [q_] <;> omega)) | ((with_reducible first | apply i_ | apply h_); focus first | omega | (simp only [q_] <;> omega)) | ((with_reducible apply h_); focus first | decide | kernel_rfl) | refine BCase.t (by decide) ?_ | refine BCase.f (by decide) ?_ | (refine BCase.df hem ?_) | with_reducible first | apply l_ | apply m_ | apply n_ | apply o_ | refine p_ (fun _ => ?_) (fun _ => ?_)) <;> (conv => whnf)))
              refine Bytes.mk t rfl ?_
              ((conv => whnf); repeat' ((first | (with_reducible first | apply a_ | apply b_ | apply c_) | ((with_reducible first | apply d_ | apply e_ | apply f_ | apply g_); focus first | omega | (simp only [q_] <;> omega)) | ((with_reducible first | apply i_ | apply h_); focus first | omega | (simp only [q_] <;> omega)) | ((with_reducible apply h_); focus first | decide | kernel_rfl) | refine BCase.t (by decide) ?_ | refine BCase.f (by decide) ?_ | with_reducible first | apply l_ | apply m_ | apply n_ | apply o_ | refine p_ (fun _ => ?_) (fun _ => ?_)) <;> (conv => whnf)))
              exact Ret.eq rfl
            | cons a r =>
            cases r with
            | nil => simp at hev
            | cons b r =>
              have hne2 : ¬ tx (a :: b :: r) = ⟨#[]⟩ := fun e => by rw [tx_empty] at e; cases e
              rw [unhex] at hq
              rw [List.length_cons, List.length_cons] at hl hev
              have e2 : (tx (a :: b :: r)).extract (0 : Int).toNat (2 : Int).toNat = tx [a, b] := by rw [extract_tx]; rfl
              ((conv => whnf); repeat' ((first | (with_reducible first | apply a_ | apply b_ | apply c_) | ((with_reducible first | apply d_ | apply e_ | apply f_ | apply g_); focus first | omega | (simp only [q_] <;> omega)) | ((with_reducible first | apply i_ | apply h_); focus first | omega | (simp only [q_] <;> omega)) | ((with_reducible apply h_); focus first | decide | kernel_rfl) | refine BCase.t (by decide) ?_ | refine BCase.f (by decide) ?_ | (refine BCase.dt hne2 ?_) | with_reducible first | apply l_ | apply m_ | apply n_ | apply o_ | refine p_ (fun _ => ?_) (fun _ => ?_)) <;> (conv => whnf)))
              refine Need.mk ?nd ?_
              case nd => rw [e2]; show (2 : Nat) ≤ 9223372036854775807; omega
              ((conv => whnf); repeat' ((first | (with_reducible first | apply a_ | apply b_ | apply c_) | ((with_reducible first | apply d_ | apply e_ | apply f_ | apply g_); focus first | omega | (simp only [q_] <;> omega)) | ((with_reducible first | apply i_ | apply h_); focus first | omega | (simp only [q_] <;> omega)) | ((with_reducible apply h_); focus first | decide | kernel_rfl) | refine BCase.t (by decide) ?_ | refine BCase.f (by decide) ?_ | with_reducible first | apply l_ | apply m_ | apply n_ | apply o_ | refine p_ (fun _ => ?_) (fun _ => ?_)) <;> (conv => whnf)))
              refine LoopC.mk (Nat × Nat) (fun x => [(1, pBool any), (6, .d (.app 60 5 1 (byteRows t))), (7, pStr (tx (a :: b :: r))), (8, pInt .i64 (x.2 : Int)), (45, .d (.c (.sl 1 ([a, b].map fun b => [C.v (.int .u8 (b.toNat : Int))])))), (46, pInt .i64 2), (47, pInt .i64 (x.1 : Int))]) (fun _ => [(60, .tail 5 1)]) [60] (fun x => (x.1 = 0 ∧ x.2 = 0) ∨ (x.1 = 1 ∧ hexw any a = some x.2) ∨ (x.1 = 2 ∧ ∃ u v, hexw any a = some u ∧ hexw any b = some v ∧ x.2 = u * 16 + v ∧ u < 16 ∧ v < 16)) (fun x => 2 - x.1) (0, 0) (.inl ⟨rfl, rfl⟩) ?start2 ?round2
              case start2 => exact ⟨[(60, 60)], rfl, rfl, ⟨.inl rfl, ⟨rfl, rfl, rfl, rfl, rfl⟩, .inl rfl, .inl rfl, .inl (by rw [e2]; rfl), PLe.int (by rw [e2]; rfl), .inl rfl, trivial⟩, ⟨rfl, rfl, rfl⟩, trivial⟩
              case round2 =>
                rintro ⟨k, n⟩ hi
                have hi : (k = 0 ∧ n = 0) ∨ (k = 1 ∧ hexw any a = some n) ∨ (k = 2 ∧ ∃ u v, hexw any a = some u ∧ hexw any b = some v ∧ n = u * 16 + v ∧ u < 16 ∧ v < 16) := hi
                have hcc : ∀ c : UInt8, (any = true ∧ 65 ≤ c.toNat ∧ c.toNat ≤ 70) → hexc any c = by1 ((c.toNat : Int) + 32) := by
                  intro c h
                  unfold hexc
                  rw [if_pos h, ← by1_toNat (UInt8.ofNat (c.toNat + 32)), u8_small (by omega)]
                  congr 1
                have hcn : ∀ c : UInt8, ¬ (any = true ∧ 65 ≤ c.toNat ∧ c.toNat ≤ 70) → hexc any c = c := fun c h => if_neg h
                rcases hi with ⟨rfl, rfl⟩ | ⟨rfl, ha⟩ | ⟨rfl, u, v, hu, hv, rfl, u16, v16⟩
                · have fin : ∀ z : UInt8, hexc any a = z → ¬ hexI z < 0 → hexw any a = some (0 * 16 + (hexI z).toNat) := by
                    intro z h1 h2
                    rw [hexw_c, h1, (hexI_get h2).1]; simp
                  have bad : ∀ z : UInt8, hexc any a = z → hexI z < 0 → unhex any (innerL s) = none := by
                    intro z h1 h2
                    rw [hq, hexw_c, h1, hexI_neg h2]; rfl
                  by_cases q : any = true ∧ 65 ≤ a.toNat ∧ a.toNat ≤ 70
                  · have hz1 := hcc a q
                    obtain ⟨rfl, q1, q2⟩ := q
                    ((conv => whnf); repeat' ((first | (with_reducible first | apply a_ | apply b_ | apply c_) | ((with_reducible first | apply d_ | apply e_ | apply f_ | apply g_); focus first | omega | (simp only [q_] <;> omega)) | ((with_reducible first | apply i_ | apply h_); focus first | omega | (simp only [q_] <;> omega)) | ((with_reducible apply h_); focus first | decide | kernel_rfl) | refine BCase.t (by decide) ?_ | refine BCase.f (by decide) ?_ | (refine Idx.mapV 0 rfl a rfl ?_) | refine CallP.pure _ rfl _ (p_indexhex _) ?_ | (refine Wr.or (n := 0) (by omega) (hexI_get (by assumption)).2 ?_) | with_reducible first | apply l_ | apply m_ | apply n_ | apply o_ | refine p_ (fun _ => ?_) (fun _ => ?_)) <;> (conv => whnf)))
                    all_goals first
                      | (rw [bad _ hz1 (by assumption)]; exact Ret.eq rfl)
                      | exact ⟨(1, 0 * 16 + _), .inr (.inl ⟨rfl, fin _ hz1 (by assumption)⟩), by show 2 - 1 < 2 - 0; omega, [(60, 60)], rfl, rfl, ⟨.inl rfl, ⟨rfl, rfl, rfl, rfl, rfl⟩, .inl rfl, .inl rfl, .inl rfl, .inl rfl, .inl rfl, trivial⟩, ⟨rfl, rfl, rfl⟩, trivial⟩
                  · have hz1 := hcn a q
                    cases any
                    all_goals
                      ((conv => whnf); repeat' ((first | (with_reducible first | apply a_ | apply b_ | apply c_) | ((with_reducible first | apply d_ | apply e_ | apply f_ | apply g_); focus first | omega | (simp only [q_] <;> omega)) | ((with_reducible first | apply i_ | apply h_); focus first | omega | (simp only [q_] <;> omega)) | ((with_reducible apply h_); focus first | decide | kernel_rfl) | refine BCase.t (by decide) ?_ | refine BCase.f (by decide) ?_ | (refine Idx.mapV 0 rfl a rfl ?_) | refine CallP.pure _ rfl _ (p_indexhex _) ?_ | (refine Wr.or (n := 0) (by omega) (hexI_get (by assumption)).2 ?_) | with_reducible first | apply l_ | apply m_ | apply n_ | apply o_ | refine p_ (fun _ => ?_) (fun _ => ?_)) <;> (conv => whnf)))
                    all_goals first
                      | (exfalso; exact q ⟨rfl, by omega, by omega⟩)
                      | (rw [bad _ hz1 (by assumption)]; exact Ret.eq rfl)
                      | exact ⟨(1, 0 * 16 + _), .inr (.inl ⟨rfl, fin _ hz1 (by assumption)⟩), by show 2 - 1 < 2 - 0; omega, [(60, 60)], rfl, rfl, ⟨.inl rfl, ⟨rfl, rfl, rfl, rfl, rfl⟩, .inl rfl, .inl rfl, .inl rfl, .inl rfl, .inl rfl, trivial⟩, ⟨rfl, rfl, rfl⟩, trivial⟩
                · have n16 : n < 16 := by rw [hexw_c] at ha; exact (hexd_v ha).1
                  have fin : ∀ z : UInt8, hexc any b = z → ¬ hexI z < 0 → hexw any b = some (hexI z).toNat ∧ (hexI z).toNat < 16 := by
                    intro z h1 h2
                    obtain ⟨g1, g2, g3⟩ := hexI_get h2
                    rw [hexw_c, h1, g1]; exact ⟨rfl, by omega⟩
                  have bad : ∀ z : UInt8, hexc any b = z → hexI z < 0 → unhex any (innerL s) = none := by
                    intro z h1 h2
                    rw [hq, ha, hexw_c, h1, hexI_neg h2]; rfl
                  by_cases q : any = true ∧ 65 ≤ b.toNat ∧ b.toNat ≤ 70
                  · have hz1 := hcc b q
                    obtain ⟨rfl, q1, q2⟩ := q
                    ((conv => whnf); repeat' ((first | (with_reducible first | apply a_ | apply b_ | apply c_) | ((with_reducible first | apply d_ | apply e_ | apply f_ | apply g_); focus first | omega | (simp only [q_] <;> omega)) | ((with_reducible first | apply i_ | apply h_); focus first | omega | (simp only [q_] <;> omega)) | ((with_reducible apply h_); focus first | decide | kernel_rfl) | refine BCase.t (by decide) ?_ | refine BCase.f (by decide) ?_ | (refine Idx.mapV 1 rfl b rfl ?_) | refine CallP.pure _ rfl _ (p_indexhex _) ?_ | (refine Wr.shl (n := n) n16 ?_) | (refine Wr.or (n := n) n16 (hexI_get (by assumption)).2 ?_) | with_reducible first | apply l_ | apply m_ | apply n_ | apply o_ | refine p_ (fun _ => ?_) (fun _ => ?_)) <;> (conv => whnf)))
                    all_goals first
                      | (rw [bad _ hz1 (by assumption)]; exact Ret.eq rfl)
                      | exact ⟨(2, n * 16 + _), .inr (.inr ⟨rfl, n, _, ha, (fin _ hz1 (by assumption)).1, rfl, n16, (fin _ hz1 (by assumption)).2⟩), by show 2 - 2 < 2 - 1; omega, [(60, 60)], rfl, rfl, ⟨.inl rfl, ⟨rfl, rfl, rfl, rfl, rfl⟩, .inl rfl, .inl rfl, .inl rfl, .inl rfl, .inl rfl, trivial⟩, ⟨rfl, rfl, rfl⟩, trivial⟩
                  · have hz1 := hcn b q
                    cases any
                    all_goals
                      ((conv => whnf); repeat' ((first | (with_reducible first | apply a_ | apply b_ | apply c_) | ((with_reducible first | apply d_ | apply e_ | apply f_ | apply g_); focus first | omega | (simp only [q_] <;> omega)) | ((with_reducible first | apply i_ | apply h_); focus first | omega | (simp only [q_] <;> omega)) | ((with_reducible apply h_); focus first | decide | kernel_rfl) | refine BCase.t (by decide) ?_ | refine BCase.f (by decide) ?_ | (refine Idx.mapV 1 rfl b rfl ?_) | refine CallP.pure _ rfl _ (p_indexhex _) ?_ | (refine Wr.shl (n := n) n16 ?_) | (refine Wr.or (n := n) n16 (hexI_get (by assumption)).2 ?_) | with_reducible first | apply l_ | apply m_ | apply n_ | apply o_ | refine p_ (fun _ => ?_) (fun _ => ?_)) <;> (conv => whnf)))
                    all_goals first
                      | (exfalso; exact q ⟨rfl, by omega, by omega⟩)
                      | (rw [bad _ hz1 (by assumption)]; exact Ret.eq rfl)
                      | exact ⟨(2, n * 16 + _), .inr (.inr ⟨rfl, n, _, ha, (fin _ hz1 (by assumption)).1, rfl, n16, (fin _ hz1 (by assumption)).2⟩), by show 2 - 2 < 2 - 1; omega, [(60, 60)], rfl, rfl, ⟨.inl rfl, ⟨rfl, rfl, rfl, rfl, rfl⟩, .inl rfl, .inl rfl, .inl rfl, .inl rfl, .inl rfl, trivial⟩, ⟨rfl, rfl, rfl⟩, trivial⟩
                · rw [hu, hv] at hq
                  have hq : unhex any (innerL s) = thenL t ((unhex any r).map (UInt8.ofNat (u * 16 + v) :: ·)) := hq
                  have e3 : (tx (a :: b :: r)).extract (2 : Int).toNat (((a :: b :: r).length : Nat) : Int).toNat = tx r := by
                    rw [extract_tx]
                    exact congrArg tx (List.take_of_length_le (by rw [List.length_drop]; show _ ≤ (a :: b :: r).length - 2; exact Nat.le_refl _))
                  ((conv => whnf); repeat' ((first | (with_reducible first | apply a_ | apply b_ | apply c_) | ((with_reducible first | apply d_ | apply e_ | apply f_ | apply g_); focus first | omega | (simp only [q_] <;> omega)) | ((with_reducible first | apply i_ | apply h_); focus first | omega | (simp only [q_] <;> omega)) | ((with_reducible apply h_); focus first | decide | kernel_rfl) | refine BCase.t (by decide) ?_ | refine BCase.f (by decide) ?_ | (refine Need.by 1 rfl (by simp only [List.length_singleton]; omega) ?_) | with_reducible first | apply l_ | apply m_ | apply n_ | apply o_ | refine p_ (fun _ => ?_) (fun _ => ?_)) <;> (conv => whnf)))
                  refine ⟨(r, t ++ [UInt8.ofNat (u * 16 + v)]), ⟨by show r.length + (t ++ [_]).length ≤ _; rw [List.length_append, List.length_singleton]; omega, by show r.length % 2 = 0; omega, ?_⟩, by show r.length < (a :: b :: r).length; rw [List.length_cons, List.length_cons]; omega, [(60, 75)], rfl, rfl, ⟨.inl rfl, ⟨rfl, rfl, rfl, rfl, ?_⟩, PLe.text e3, trivial⟩, ⟨rfl, rfl, rfl⟩, trivial⟩
                  · show _ = thenL (t ++ [UInt8.ofNat (u * 16 + v)]) (unhex any r)
                    rw [hq]; unfold thenL
                    cases unhex any r <;> simp
                  · show _ = byteRows (t ++ [UInt8.ofNat (u * 16 + v)])
                    rw [byteRows_app]
                    have : by1 (((u * 16 + v : Nat)) : Int) = UInt8.ofNat (u * 16 + v) := by
                      rw [← by1_toNat (UInt8.ofNat (u * 16 + v)), u8_small (by omega)]
                    show _ = byteRows t ++ byteRows [UInt8.ofNat (u * 16 + v)]
                    rw [← this]; rfl
        · rw [if_pos (.inr (.inr (.inr c2)))]
          rw [lastD_get hne, d39] at c2
          ((conv => whnf); repeat' ((first | (with_reducible first | apply a_ | apply b_ | apply c_) | ((with_reducible first | apply d_ | apply e_ | apply f_ | apply g_); focus first | omega | (simp only [q_] <;> omega)) | ((with_reducible first | apply i_ | apply h_); focus first | omega | (simp only [q_] <;> omega)) | ((with_reducible apply h_); focus first | decide | kernel_rfl) | refine BCase.t (by decide) ?_ | refine BCase.f (by decide) ?_ | (first | refine SIdx.tx 0 rfl l0 ?_ | refine SIdx.tx (s.length - 1) e1 l1 ?_) | with_reducible first | apply l_ | apply m_ | apply n_ | apply o_ | refine p_ (fun _ => ?_) (fun _ => ?_)) <;> (conv => whnf)))
          all_goals exact Ret.eq rfl
      · rw [if_pos (.inr (.inr (.inl c1)))]
        rw [headD_get, d39] at c1
        ((conv => whnf); repeat' ((first | (with_reducible first | apply a_ | apply b_ | apply c_) | ((with_reducible first | apply d_ | apply e_ | apply f_ | apply g_); focus first | omega | (simp only [q_] <;> omega)) | ((with_reducible first | apply i_ | apply h_); focus first | omega | (simp only [q_] <;> omega)) | ((with_reducible apply h_); focus first | decide | kernel_rfl) | refine BCase.t (by decide) ?_ | refine BCase.f (by decide) ?_ | (refine SIdx.tx 0 rfl l0 ?_) | with_reducible first | apply l_ | apply m_ | apply n_ | apply o_ | refine p_ (fun _ => ?_) (fun _ => ?_)) <;> (conv => whnf)))
        all_goals exact Ret.eq rfl
    · rw [if_pos (.inr (.inl c0))]
      ((conv => whnf); repeat' ((first | (with_reducible first | apply a_ | apply b_ | apply c_) | ((with_reducible first | apply d_ | apply e_ | apply f_ | apply g_); focus first | omega | (simp only [q_] <;> omega)) | ((with_reducible first | apply i_ | apply h_); focus first | omega | (simp only [q_] <;> omega)) | ((with_reducible apply h_); focus first | decide | kernel_rfl) | refine BCase.t (by decide) ?_ | refine BCase.f (by decide) ?_ | with_reducible first | apply l_ | apply m_ | apply n_ | apply o_ | refine p_ (fun _ => ?_) (fun _ => ?_)) <;> (conv => whnf)))
      all_goals exact Ret.eq rfl
end Go.Proofs.YtjbopncobegleaaDoor.Pm
end
section
namespace Go.Proofs.YtjbopncobegleaaDoor.Pm
open Go.RowKit K
set_option linter.unusedVariables false
set_option linter.unusedSimpArgs false
set_option maxRecDepth 100000
def hasPre (l m : List UInt8) : Bool := decide (l.take m.length = m)
theorem p_haspre0 (l m : List UInt8) : Pure Tryd.prog 58 [pStr (tx l), pStr (tx m)] (pBool (hasPre l m)) := by
  have tl := tx_size l
  have tm := tx_size m
  refine pure_of Tryd.func58 (by rfl) rfl (by kernel_rfl) (by rfl) ?_
  by_cases h : m.length ≤ l.length
  · have e : (tx l).extract (0 : Int).toNat ((tx m).size : Int).toNat = tx (l.take m.length) := by
      rw [extract_tx, Int.toNat_natCast, tm]; rfl
    ((conv => whnf); repeat' ((first | (with_reducible first | apply a_ | apply b_ | apply c_) | ((with_reducible first | apply d_ | apply e_ | apply f_ | apply g_); focus first | omega | (simp only [q_] <;> omega)) | ((with_reducible first | apply i_ | apply h_); focus first | omega | (simp only [q_] <;> omega)) | ((with_reducible apply h_); focus first | decide | kernel_rfl) | refine BCase.t (by decide) ?_ | refine BCase.f (by decide) ?_ | with_reducible first | apply l_ | apply m_ | apply n_ | apply o_ | refine p_ (fun _ => ?_) (fun _ => ?_)) <;> (conv => whnf)))
    refine Ret.bool ?_
    unfold hasPre
    rw [e]
    exact decide_eq_decide.2 tx_eq
  · ((conv => whnf); repeat' ((first | (with_reducible first | apply a_ | apply b_ | apply c_) | ((with_reducible first | apply d_ | apply e_ | apply f_ | apply g_); focus first | omega | (simp only [q_] <;> omega)) | ((with_reducible first | apply i_ | apply h_); focus first | omega | (simp only [q_] <;> omega)) | ((with_reducible apply h_); focus first | decide | kernel_rfl) | refine BCase.t (by decide) ?_ | refine BCase.f (by decide) ?_ | with_reducible first | apply l_ | apply m_ | apply n_ | apply o_ | refine p_ (fun _ => ?_) (fun _ => ?_)) <;> (conv => whnf)))
    refine Ret.bool ?_
    unfold hasPre
    rw [eq_comm, decide_eq_false_iff_not]
    intro q
    have := congrArg List.length q
    rw [List.length_take] at this
    omega
theorem p_haspre (l m : List UInt8) : Pure Tryd.prog 32 [pStr (tx l), pStr (tx m)] (pBool (hasPre l m)) := by
  refine pure_of Tryd.func32 (by rfl) rfl (by kernel_rfl) (by rfl) ?_
  ((conv => whnf); repeat' ((first | (with_reducible first | apply a_ | apply b_ | apply c_) | ((with_reducible first | apply d_ | apply e_ | apply f_ | apply g_); focus first | omega | (simp only [q_] <;> omega)) | ((with_reducible first | apply i_ | apply h_); focus first | omega | (simp only [q_] <;> omega)) | ((with_reducible apply h_); focus first | decide | kernel_rfl) | refine BCase.t (by decide) ?_ | refine BCase.f (by decide) ?_ | refine CallP.pure _ rfl _ (p_haspre0 l m) ?_ | with_reducible first | apply l_ | apply m_ | apply n_ | apply o_ | refine p_ (fun _ => ?_) (fun _ => ?_)) <;> (conv => whnf)))
  exact Ret.mk rfl
end Go.Proofs.YtjbopncobegleaaDoor.Pm
end
section
namespace Go.Proofs.YtjbopncobegleaaDoor.Pm
open Go.RowKit K
set_option linter.unusedVariables false
set_option linter.unusedSimpArgs false
set_option maxRecDepth 100000
def cutPre (l m : List UInt8) : List UInt8 := if hasPre l m then l.drop m.length else l
theorem hasPre_len {l m : List UInt8} (h : hasPre l m = true) : m.length ≤ l.length := by
  have := congrArg List.length (of_decide_eq_true h)
  rw [List.length_take] at this; omega
theorem hasPre_1 (l : List UInt8) (c : UInt8) (hc : c ≠ 0) : hasPre l [c] = decide (l.headD 0 = c) := by
  unfold hasPre
  cases l with
  | nil => rw [decide_eq_false (by simp)]; exact (decide_eq_false (fun e : (0 : UInt8) = c => hc e.symm)).symm
  | cons a r => simp
def numN (s : List UInt8) : Int × Int :=
  if s.headD 0 = 45 then (-(digV (s.drop 1) most2 : Int), if digE (s.drop 1) most2 = 0 ∧ digV (s.drop 1) most2 = 0 then 1 else digE (s.drop 1) most2) else ((digV s most1 : Int), digE s most1)
theorem numA_N (s : List UInt8) : numA s = if (numN s).2 ≠ 0 then (zeroW, (numN s).2) else (⟨1, (numN s).1, []⟩, 0) := by
  unfold numA numN
  generalize s.drop 1 = r
  by_cases h : s.headD 0 = 45
  · rw [if_pos h, if_pos h]
    by_cases he : digE (r) most2 = 0
    · have hv : digV (r) most2 = dval (r) := by unfold digV; rw [if_pos he]
      rw [if_neg (by simp [he])]
      simp only [he, hv, true_and]
      by_cases h0 : dval (r) = 0
      · simp [h0]
      · simp [h0]
    · rw [if_pos he]
      simp [he]
  · rw [if_neg h, if_neg h]
    by_cases he : digE s most1 = 0
    · have hv : digV s most1 = dval s := by unfold digV; rw [if_pos he]
      simp [he, hv]
    · simp [he]
theorem digV_le (s : List UInt8) (most : Nat) : digV s most ≤ most := by
  unfold digV
  split
  · rename_i h; exact (digE_ok h).2.2.2
  · exact Nat.zero_le _
theorem numN_le (s : List UInt8) : -9223372036854775808 ≤ (numN s).1 ∧ (numN s).1 ≤ 9223372036854775807 := by
  unfold numN
  split
  · have hv : digV (s.drop 1) most2 ≤ 9223372036854775808 := digV_le (s.drop 1) most2
    constructor <;> show (_ : Int) ≤ _ <;> omega
  · have hv : digV s most1 ≤ 9223372036854775807 := digV_le s most1
    constructor <;> show (_ : Int) ≤ _ <;> omega
end Go.Proofs.YtjbopncobegleaaDoor.Pm
end
section
namespace Go.Proofs.YtjbopncobegleaaDoor.Pm
open Go.RowKit K
set_option linter.unusedVariables false
set_option linter.unusedSimpArgs false
set_option maxRecDepth 100000
theorem drop_cons {l : List UInt8} {k : Nat} (h : k < l.length) : l.drop k = l.getD k 0 :: l.drop (k + 1) := by
  rw [List.drop_eq_getElem_cons h, List.getD_eq_getElem?_getD, List.getElem?_eq_getElem h]; rfl
theorem head_drop (l : List UInt8) (k : Nat) : (l.drop k).headD 0 = l.getD k 0 := by
  rw [headD_get, List.getD_eq_getElem?_getD, List.getD_eq_getElem?_getD, List.getElem?_drop]; rfl
theorem drop_runTo {p : UInt8 → Bool} {l : List UInt8} {k : Nat} : l.drop (runTo p l k) = (l.drop k).dropWhile p := by
  unfold runTo
  rw [← List.drop_drop]
  conv => lhs; arg 2; rw [← List.takeWhile_append_dropWhile (p := p) (l := l.drop k)]
  rw [List.drop_left]
theorem d39 (c : UInt8) : c = 39 ↔ ((c.toNat : Nat) : Int) = 39 := ⟨fun e => by rw [e]; rfl, fun e => by rw [← u8_back c, show c.toNat = 39 by omega]; rfl⟩
def qEnd (l : List UInt8) (k : Nat) : PV := match qLen (l.drop (k + 1)) with
  | none => .tup [pInt .i64 0, pBool false]
  | some n => .tup [pInt .i64 ((k + 1 + n : Nat) : Int), pBool true]
theorem p_quoteEnd (l : List UInt8) (hl : okText l) (k : Nat) (hk : k < l.length) : Pure Tryd.prog 59 [pStr (tx l), pInt .i64 (k : Int)] (qEnd l k) := by
  have tz := tx_size l
  have hl' : l.length ≤ 140737488351232 := hl
  refine pure_of Tryd.func59 (by rfl) rfl (by kernel_rfl) (by rfl) ?_
  unfold qEnd
  ((conv => whnf); repeat' ((first | (with_reducible first | apply a_ | apply b_ | apply c_) | ((with_reducible first | apply d_ | apply e_ | apply f_ | apply g_); focus first | omega | (simp only [q_] <;> omega)) | ((with_reducible first | apply i_ | apply h_); focus first | omega | (simp only [q_] <;> omega)) | ((with_reducible apply h_); focus first | decide | kernel_rfl) | refine BCase.t (by decide) ?_ | refine BCase.f (by decide) ?_ | with_reducible first | apply l_ | apply m_ | apply n_ | apply o_ | refine p_ (fun _ => ?_) (fun _ => ?_)) <;> (conv => whnf)))
  refine LoopC.mk Nat (fun j => [(0, pStr (tx l)), (1, pInt .i64 (j : Int))]) (fun _ => []) [] (fun j => k + 1 ≤ j ∧ j ≤ l.length ∧ qLen (l.drop (k + 1)) = (qLen (l.drop j)).map (· + (j - (k + 1)))) (fun j => l.length - j) (k + 1) ⟨Nat.le_refl _, hk, by cases qLen (l.drop (k + 1)) <;> simp⟩ ?start ?round
  case start => exact ⟨[], rfl, rfl, ⟨.inl rfl, PLe.int (by omega), trivial⟩, trivial⟩
  case round =>
    rintro j ⟨h1, h2, hq⟩
    have h1 : k + 1 ≤ j := h1
    have h2 : j ≤ l.length := h2
    have hq : qLen (l.drop (k + 1)) = (qLen (l.drop j)).map (· + (j - (k + 1))) := hq
    by_cases q : j < l.length
    · by_cases c1 : (l.getD j 0).toNat = 39
      · by_cases q1 : j + 1 < l.length
        · rw [drop_cons q, drop_cons q1, qLen_q c1] at hq
          by_cases c2 : (l.getD (j + 1) 0).toNat = 39
          · rw [if_pos c2] at hq
            ((conv => whnf); repeat' ((first | (with_reducible first | apply a_ | apply b_ | apply c_) | ((with_reducible first | apply d_ | apply e_ | apply f_ | apply g_); focus first | omega | (simp only [q_] <;> omega)) | ((with_reducible first | apply i_ | apply h_); focus first | omega | (simp only [q_] <;> omega)) | ((with_reducible apply h_); focus first | decide | kernel_rfl) | refine BCase.t (by decide) ?_ | refine BCase.f (by decide) ?_ | (first | refine SIdx.tx j rfl q ?_ | refine SIdx.tx (j + 1) (by omega) q1 ?_) | with_reducible first | apply l_ | apply m_ | apply n_ | apply o_ | refine p_ (fun _ => ?_) (fun _ => ?_)) <;> (conv => whnf)))
            refine ⟨j + 2, ⟨by omega, by omega, ?_⟩, by omega, [], rfl, rfl, ⟨.inl rfl, PLe.int (by omega), trivial⟩, trivial⟩
            rw [hq]
            cases qLen (l.drop (j + 1 + 1)) with
            | none => rfl
            | some n => show some (n + 2 + (j - (k + 1))) = some (n + (j + 2 - (k + 1))); congr 1; omega
          · rw [if_neg c2] at hq
            have hq : qLen (l.drop (k + 1)) = some (1 + (j - (k + 1))) := hq
            rw [hq]
            ((conv => whnf); repeat' ((first | (with_reducible first | apply a_ | apply b_ | apply c_) | ((with_reducible first | apply d_ | apply e_ | apply f_ | apply g_); focus first | omega | (simp only [q_] <;> omega)) | ((with_reducible first | apply i_ | apply h_); focus first | omega | (simp only [q_] <;> omega)) | ((with_reducible apply h_); focus first | decide | kernel_rfl) | refine BCase.t (by decide) ?_ | refine BCase.f (by decide) ?_ | (first | refine SIdx.tx j rfl q ?_ | refine SIdx.tx (j + 1) (by omega) q1 ?_) | with_reducible first | apply l_ | apply m_ | apply n_ | apply o_ | refine p_ (fun _ => ?_) (fun _ => ?_)) <;> (conv => whnf)))
            all_goals exact Ret.eq (by show PV.tup [_, _] = PV.tup [pInt .i64 ((k + 1 + (1 + (j - (k + 1))) : Nat) : Int), _]; rw [show ((k + 1 + (1 + (j - (k + 1))) : Nat) : Int) = (j : Int) + 1 by omega])
        · rw [drop_cons q, List.drop_of_length_le (show l.length ≤ j + 1 by omega), qLen_1 c1] at hq
          have hq : qLen (l.drop (k + 1)) = some (1 + (j - (k + 1))) := hq
          rw [hq]
          ((conv => whnf); repeat' ((first | (with_reducible first | apply a_ | apply b_ | apply c_) | ((with_reducible first | apply d_ | apply e_ | apply f_ | apply g_); focus first | omega | (simp only [q_] <;> omega)) | ((with_reducible first | apply i_ | apply h_); focus first | omega | (simp only [q_] <;> omega)) | ((with_reducible apply h_); focus first | decide | kernel_rfl) | refine BCase.t (by decide) ?_ | refine BCase.f (by decide) ?_ | (refine SIdx.tx j rfl q ?_) | with_reducible first | apply l_ | apply m_ | apply n_ | apply o_ | refine p_ (fun _ => ?_) (fun _ => ?_)) <;> (conv => whnf)))
          all_goals exact Ret.eq (by show PV.tup [_, _] = PV.tup [pInt .i64 ((k + 1 + (1 + (j - (k + 1))) : Nat) : Int), _]; rw [show ((k + 1 + (1 + (j - (k + 1))) : Nat) : Int) = (j : Int) + 1 by omega])
      · rw [drop_cons q, qLen_o c1] at hq
        ((conv => whnf); repeat' ((first | (with_reducible first | apply a_ | apply b_ | apply c_) | ((with_reducible first | apply d_ | apply e_ | apply f_ | apply g_); focus first | omega | (simp only [q_] <;> omega)) | ((with_reducible first | apply i_ | apply h_); focus first | omega | (simp only [q_] <;> omega)) | ((with_reducible apply h_); focus first | decide | kernel_rfl) | refine BCase.t (by decide) ?_ | refine BCase.f (by decide) ?_ | (refine SIdx.tx j rfl q ?_) | with_reducible first | apply l_ | apply m_ | apply n_ | apply o_ | refine p_ (fun _ => ?_) (fun _ => ?_)) <;> (conv => whnf)))
        refine ⟨j + 1, ⟨by omega, by omega, ?_⟩, by omega, [], rfl, rfl, ⟨.inl rfl, PLe.int (by omega), trivial⟩, trivial⟩
        rw [hq]
        cases qLen (l.drop (j + 1)) with
        | none => rfl
        | some n => show some (n + 1 + (j - (k + 1))) = some (n + (j + 1 - (k + 1))); congr 1; omega
    · rw [List.drop_of_length_le (show l.length ≤ j by omega)] at hq
      have hq : qLen (l.drop (k + 1)) = none := hq
      rw [hq]
      ((conv => whnf); repeat' ((first | (with_reducible first | apply a_ | apply b_ | apply c_) | ((with_reducible first | apply d_ | apply e_ | apply f_ | apply g_); focus first | omega | (simp only [q_] <;> omega)) | ((with_reducible first | apply i_ | apply h_); focus first | omega | (simp only [q_] <;> omega)) | ((with_reducible apply h_); focus first | decide | kernel_rfl) | refine BCase.t (by decide) ?_ | refine BCase.f (by decide) ?_ | with_reducible first | apply l_ | apply m_ | apply n_ | apply o_ | refine p_ (fun _ => ?_) (fun _ => ?_)) <;> (conv => whnf)))
      exact Ret.eq rfl
def pairL (m : Nat) : List UInt8 := if m = 0 then [60, 62] else if m = 1 then [60, 61] else [62, 61]
theorem pairB_iff (a b : UInt8) : pairB a b = true ↔ ∃ m, m < 3 ∧ [a, b] = pairL m := by
  have e : ∀ (c : UInt8) (n : Nat) (hn : n < 256), c.toNat = n ↔ c = UInt8.ofNat n := fun c n hn => ⟨fun h => by rw [← h, u8_back], fun h => by rw [h, u8_small hn]⟩
  unfold pairB
  rw [Bool.or_eq_true, Bool.or_eq_true, decide_eq_true_eq, decide_eq_true_eq, decide_eq_true_eq, e a 60 (by decide), e b 62 (by decide), e b 61 (by decide), e a 62 (by decide)]
  constructor
  · rintro (⟨rfl, rfl⟩ | ⟨rfl, rfl⟩ | ⟨rfl, rfl⟩)
    · exact ⟨0, by decide, rfl⟩
    · exact ⟨1, by decide, rfl⟩
    · exact ⟨2, by decide, rfl⟩
  · rintro ⟨m, hm, h⟩
    have : m = 0 ∨ m = 1 ∨ m = 2 := by omega
    rcases this with rfl | rfl | rfl
    · cases h; exact .inl ⟨rfl, rfl⟩
    · cases h; exact .inr (.inl ⟨rfl, rfl⟩)
    · cases h; exact .inr (.inr ⟨rfl, rfl⟩)
theorem sing_ix (c : UInt8) : 0 ≤ Lib.indexByte singL c ↔ singB c = true := by
  have h : ∀ n : Nat, n < 256 → (0 ≤ Lib.indexByte singL (UInt8.ofNat n) ↔ singB (UInt8.ofNat n) = true) := by decide +kernel
  have := h c.toNat c.toNat_lt
  rwa [u8_back] at this
theorem p_indexsing (c : UInt8) : Pure Tryd.prog 60 [.d (.c (.v (.string ⟨#[40, 41, 44, 59, 42, 43, 45, 47, 37, 61, 60, 62]⟩))), pInt .u8 (c.toNat : Int)] (pInt .i64 (Lib.indexByte singL c)) := by
  refine pure_hand (vs := [.string ⟨#[40, 41, 44, 59, 42, 43, 45, 47, 37, 61, 60, 62]⟩, .int .u8 (c.toNat : Int)]) ⟨_, Tryd.func60, by rfl, by rfl⟩ fun w hG => ?_
  refine (Tryd.strings_IndexByte ⟨#[40, 41, 44, 59, 42, 43, 45, 47, 37, 61, 60, 62]⟩ (c.toNat : Int) w).mono ?_
  rintro e w' ⟨rfl, rfl⟩
  refine ⟨_, rfl, Below.refl _ _, fun F _ => ?_⟩
  rw [show ((c.toNat : Int).toNat.toUInt8) = c from u8_back c]
  exact rep_int _ _
theorem two_tx {l : List UInt8} {k : Nat} (h : k + 1 < l.length) : (tx l).extract ((k : Nat) : Int).toNat (((k : Nat) : Int) + 2).toNat = tx [l.getD k 0, l.getD (k + 1) 0] := by
  rw [extract_tx]
  have e1 : ((k : Nat) : Int).toNat = k := by omega
  have e2 : (((k : Nat) : Int) + 2).toNat - ((k : Nat) : Int).toNat = 2 := by omega
  rw [e2, e1, drop_cons (by omega), drop_cons h]; rfl
theorem p_signEnd (l : List UInt8) (hl : okText l) (k : Nat) (hk : k < l.length) : Pure Tryd.prog 44 [pStr (tx l), pInt .i64 (k : Int)] (pInt .i64 ((k + sigL (l.drop k) : Nat) : Int)) := by
  have tz := tx_size l
  have hl' : l.length ≤ 140737488351232 := hl
  have ps := p_indexsing (l.getD k 0)
  have hs := sing_ix (l.getD k 0)
  refine pure_of Tryd.func44 (by rfl) rfl (by kernel_rfl) (by rfl) ?_
  by_cases q : k + 1 < l.length
  · rw [drop_cons hk, drop_cons q, sigL_2]
    ((conv => whnf); repeat' ((first | (with_reducible first | apply a_ | apply b_ | apply c_) | ((with_reducible first | apply d_ | apply e_ | apply f_ | apply g_); focus first | omega | (simp only [q_] <;> omega)) | ((with_reducible first | apply i_ | apply h_); focus first | omega | (simp only [q_] <;> omega)) | ((with_reducible apply h_); focus first | decide | kernel_rfl) | refine BCase.t (by decide) ?_ | refine BCase.f (by decide) ?_ | with_reducible first | apply l_ | apply m_ | apply n_ | apply o_ | refine p_ (fun _ => ?_) (fun _ => ?_)) <;> (conv => whnf)))
    refine LoopC.mk Nat (fun m => [(0, pStr (tx l)), (1, pInt .i64 (k : Int)), (5, pInt .i64 ((2 * m : Nat) : Int))]) (fun _ => []) [] (fun m => m ≤ 3 ∧ ∀ j, j < m → [l.getD k 0, l.getD (k + 1) 0] ≠ pairL j) (fun m => 3 - m) 0 ⟨Nat.zero_le _, fun j h => absurd h (Nat.not_lt_zero _)⟩ ?start ?round
    case start => exact ⟨[], rfl, rfl, ⟨.inl rfl, .inl rfl, .inl rfl, trivial⟩, trivial⟩
    case round =>
      rintro m ⟨hm, hp⟩
      have hm : m ≤ 3 := hm
      by_cases m3 : m < 3
      · have e1 := two_tx q
        have e2 : (⟨#[60, 62, 60, 61, 62, 61]⟩ : ByteArray).extract ((2 * m : Nat) : Int).toNat (((2 * m : Nat) : Int) + 2).toNat = tx (pairL m) := by
          have : ∀ m, m < 3 → (⟨#[60, 62, 60, 61, 62, 61]⟩ : ByteArray).extract ((2 * m : Nat) : Int).toNat (((2 * m : Nat) : Int) + 2).toNat = tx (pairL m) := by decide +kernel
          exact this m m3
        by_cases hx : [l.getD k 0, l.getD (k + 1) 0] = pairL m
        · rw [if_pos ((pairB_iff _ _).2 ⟨m, m3, hx⟩)]
          have ex : (tx l).extract ((k : Nat) : Int).toNat (((k : Nat) : Int) + 2).toNat = (⟨#[60, 62, 60, 61, 62, 61]⟩ : ByteArray).extract ((2 * m : Nat) : Int).toNat (((2 * m : Nat) : Int) + 2).toNat := by rw [e1, e2, hx]
          ((conv => whnf); repeat' ((first | (with_reducible first | apply a_ | apply b_ | apply c_) | ((with_reducible first | apply d_ | apply e_ | apply f_ | apply g_); focus first | omega | (simp only [q_] <;> omega)) | ((with_reducible first | apply i_ | apply h_); focus first | omega | (simp only [q_] <;> omega)) | ((with_reducible apply h_); focus first | decide | kernel_rfl) | refine BCase.t (by decide) ?_ | refine BCase.f (by decide) ?_ | (refine Need.mk (by show (0 : Int) ≤ ((2 * m : Nat) : Int) ∧ ((2 * m : Nat) : Int) ≤ ((2 * m : Nat) : Int) + 2 ∧ ((2 * m : Nat) : Int) + 2 ≤ (6 : Int); omega) ?_) | (refine BCase.dt ex ?_) | with_reducible first | apply l_ | apply m_ | apply n_ | apply o_ | refine p_ (fun _ => ?_) (fun _ => ?_)) <;> (conv => whnf)))
          exact Ret.int (by omega)
        · have ex : ¬ (tx l).extract ((k : Nat) : Int).toNat (((k : Nat) : Int) + 2).toNat = (⟨#[60, 62, 60, 61, 62, 61]⟩ : ByteArray).extract ((2 * m : Nat) : Int).toNat (((2 * m : Nat) : Int) + 2).toNat := by rw [e1, e2]; exact fun h => hx (tx_inj h)
          ((conv => whnf); repeat' ((first | (with_reducible first | apply a_ | apply b_ | apply c_) | ((with_reducible first | apply d_ | apply e_ | apply f_ | apply g_); focus first | omega | (simp only [q_] <;> omega)) | ((with_reducible first | apply i_ | apply h_); focus first | omega | (simp only [q_] <;> omega)) | ((with_reducible apply h_); focus first | decide | kernel_rfl) | refine BCase.t (by decide) ?_ | refine BCase.f (by decide) ?_ | (refine Need.mk (by show (0 : Int) ≤ ((2 * m : Nat) : Int) ∧ ((2 * m : Nat) : Int) ≤ ((2 * m : Nat) : Int) + 2 ∧ ((2 * m : Nat) : Int) + 2 ≤ (6 : Int); omega) ?_) | (refine BCase.df ex ?_) | with_reducible first | apply l_ | apply m_ | apply n_ | apply o_ | refine p_ (fun _ => ?_) (fun _ => ?_)) <;> (conv => whnf)))
          refine ⟨m + 1, ⟨by omega, fun j hj => ?_⟩, by omega, [], rfl, rfl, ⟨.inl rfl, .inl rfl, PLe.int (by omega), trivial⟩, trivial⟩
          by_cases h : j = m
          · rw [h]; exact hx
          · exact hp j (by omega)
      · have hn : ¬ pairB (l.getD k 0) (l.getD (k + 1) 0) = true := by
          rw [pairB_iff]
          rintro ⟨j, h1, h2⟩
          exact hp j (by omega) h2
        rw [if_neg hn]
        by_cases hb : singB (l.getD k 0) = true
        · have := hs.2 hb
          rw [if_pos hb]
          ((conv => whnf); repeat' ((first | (with_reducible first | apply a_ | apply b_ | apply c_) | ((with_reducible first | apply d_ | apply e_ | apply f_ | apply g_); focus first | omega | (simp only [q_] <;> omega)) | ((with_reducible first | apply i_ | apply h_); focus first | omega | (simp only [q_] <;> omega)) | ((with_reducible apply h_); focus first | decide | kernel_rfl) | refine BCase.t (by decide) ?_ | refine BCase.f (by decide) ?_ | (refine SIdx.tx k rfl hk ?_) | refine CallP.pure _ rfl _ (ps) ?_ | with_reducible first | apply l_ | apply m_ | apply n_ | apply o_ | refine p_ (fun _ => ?_) (fun _ => ?_)) <;> (conv => whnf)))
          exact Ret.int (by omega)
        · have : ¬ 0 ≤ Lib.indexByte singL (l.getD k 0) := fun x => hb (hs.1 x)
          rw [if_neg hb]
          ((conv => whnf); repeat' ((first | (with_reducible first | apply a_ | apply b_ | apply c_) | ((with_reducible first | apply d_ | apply e_ | apply f_ | apply g_); focus first | omega | (simp only [q_] <;> omega)) | ((with_reducible first | apply i_ | apply h_); focus first | omega | (simp only [q_] <;> omega)) | ((with_reducible apply h_); focus first | decide | kernel_rfl) | refine BCase.t (by decide) ?_ | refine BCase.f (by decide) ?_ | (refine SIdx.tx k rfl hk ?_) | refine CallP.pure _ rfl _ (ps) ?_ | with_reducible first | apply l_ | apply m_ | apply n_ | apply o_ | refine p_ (fun _ => ?_) (fun _ => ?_)) <;> (conv => whnf)))
          exact Ret.int (by omega)
  · rw [drop_cons hk, List.drop_of_length_le (show l.length ≤ k + 1 by omega), sigL_1]
    by_cases hb : singB (l.getD k 0) = true
    · have := hs.2 hb
      rw [if_pos hb]
      ((conv => whnf); repeat' ((first | (with_reducible first | apply a_ | apply b_ | apply c_) | ((with_reducible first | apply d_ | apply e_ | apply f_ | apply g_); focus first | omega | (simp only [q_] <;> omega)) | ((with_reducible first | apply i_ | apply h_); focus first | omega | (simp only [q_] <;> omega)) | ((with_reducible apply h_); focus first | decide | kernel_rfl) | refine BCase.t (by decide) ?_ | refine BCase.f (by decide) ?_ | (refine SIdx.tx k rfl hk ?_) | refine CallP.pure _ rfl _ (ps) ?_ | with_reducible first | apply l_ | apply m_ | apply n_ | apply o_ | refine p_ (fun _ => ?_) (fun _ => ?_)) <;> (conv => whnf)))
      exact Ret.int (by omega)
    · have : ¬ 0 ≤ Lib.indexByte singL (l.getD k 0) := fun x => hb (hs.1 x)
      rw [if_neg hb]
      ((conv => whnf); repeat' ((first | (with_reducible first | apply a_ | apply b_ | apply c_) | ((with_reducible first | apply d_ | apply e_ | apply f_ | apply g_); focus first | omega | (simp only [q_] <;> omega)) | ((with_reducible first | apply i_ | apply h_); focus first | omega | (simp only [q_] <;> omega)) | ((with_reducible apply h_); focus first | decide | kernel_rfl) | refine BCase.t (by decide) ?_ | refine BCase.f (by decide) ?_ | (refine SIdx.tx k rfl hk ?_) | refine CallP.pure _ rfl _ (ps) ?_ | with_reducible first | apply l_ | apply m_ | apply n_ | apply o_ | refine p_ (fun _ => ?_) (fun _ => ?_)) <;> (conv => whnf)))
      exact Ret.int (by omega)
end Go.Proofs.YtjbopncobegleaaDoor.Pm
end
section
namespace Go.Proofs.YtjbopncobegleaaDoor.Pm
open Go.RowKit K
set_option linter.unusedVariables false
set_option linter.unusedSimpArgs false
set_option maxRecDepth 100000
abbrev tV (x : TokenD) : PV := .agg (x.c.map D.c)
abbrev tkV (t : Tk) : PV := tV (tokD 0 t)
abbrev lxB (l : List UInt8) (k : Nat) : HB := .box 40 [.c (.v (.string (tx l))), .c (.v (.int .i64 (k : Int)))]
theorem p_skip1 (b : UInt8) : Pure Tryd.prog 34 [pInt .u8 (b.toNat : Int)] (pBool (no10 b)) := by
  refine pure_of Tryd.func34 (by rfl) rfl (by kernel_rfl) (by rfl) ?_
  ((conv => whnf); repeat' ((first | (with_reducible first | apply a_ | apply b_ | apply c_) | ((with_reducible first | apply d_ | apply e_ | apply f_ | apply g_); focus first | omega | (simp only [q_] <;> omega)) | ((with_reducible first | apply i_ | apply h_); focus first | omega | (simp only [q_] <;> omega)) | ((with_reducible apply h_); focus first | decide | kernel_rfl) | refine BCase.t (by decide) ?_ | refine BCase.f (by decide) ?_ | with_reducible first | apply l_ | apply m_ | apply n_ | apply o_ | refine p_ (fun _ => ?_) (fun _ => ?_)) <;> (conv => whnf)))
  refine Ret.bool ?_
  unfold no10
  exact decide_eq_decide.2 (by omega)
theorem hasPre_2 (c : UInt8) (r : List UInt8) : hasPre (c :: r) [45, 45] = decide (c.toNat = 45 ∧ (r.headD 0).toNat = 45) := by
  have e : ∀ d : UInt8, d = 45 ↔ d.toNat = 45 := fun d => ⟨fun h => by rw [h]; rfl, fun h => by rw [← u8_back d, h]; rfl⟩
  unfold hasPre
  cases r with
  | nil => exact decide_eq_decide.2 ⟨fun h => by simp at h, fun h => by simp at h⟩
  | cons d r =>
    refine decide_eq_decide.2 ?_
    show [c, d] = [45, 45] ↔ c.toNat = 45 ∧ d.toNat = 45
    simp [e]
theorem s_skip (l : List UInt8) (hl : l.length ≤ 1000) (k : Nat) (hk : k ≤ l.length) : CallS Tryd.prog 18 [.d (.ptr FK 0)] [] [(FK, lxB l k)] (.tup []) [(FK, lxB l (skK l k))] := by
  have tz := tx_size l
  have ho : okText l := by unfold okText; omega
  refine callS_of Tryd.func18 (by rfl) rfl (by kernel_rfl) (by rfl) [FK] rfl ?_
  ((conv => whnf); repeat' ((first | (with_reducible first | apply a_ | apply b_ | apply c_) | ((with_reducible first | apply d_ | apply e_ | apply f_ | apply g_); focus first | omega | (simp only [q_] <;> omega)) | ((with_reducible first | apply i_ | apply h_); focus first | omega | (simp only [q_] <;> omega)) | ((with_reducible apply h_); focus first | decide | kernel_rfl) | refine BCase.t (by decide) ?_ | refine BCase.f (by decide) ?_ | with_reducible first | apply l_ | apply m_ | apply n_ | apply o_ | refine p_ (fun _ => ?_) (fun _ => ?_)) <;> (conv => whnf)))
  refine LoopC.mk Nat (fun j => [(0, .d (.ptr FK 0))]) (fun j => [(FK, lxB l j)]) [FK] (fun j => k ≤ j ∧ j ≤ l.length ∧ skL (l.drop k) = skL (l.drop j)) (fun j => l.length - j) k ⟨Nat.le_refl _, hk, rfl⟩ ?start ?round
  case start => exact ⟨[(FK, FK)], rfl, rfl, ⟨⟨rfl, rfl, rfl⟩, trivial⟩, ⟨rfl, rfl, .inl rfl, .inl rfl, rfl⟩, trivial⟩
  case round =>
    rintro j ⟨h1, h2, hq⟩
    have h1 : k ≤ j := h1
    have h2 : j ≤ l.length := h2
    have hq : skL (l.drop k) = skL (l.drop j) := hq
    by_cases q : j < l.length
    · rw [drop_cons q] at hq
      unfold skL at hq
      rw [skR_f] at hq
      by_cases hb : blankB (l.getD j 0) = true
      · rw [if_pos hb] at hq
        have hb2 : (l.getD j 0).toNat = 32 ∨ (l.getD j 0).toNat = 9 ∨ (l.getD j 0).toNat = 10 ∨ (l.getD j 0).toNat = 13 := by
          unfold blankB at hb
          simpa using hb
        ((conv => whnf); repeat' ((first | (with_reducible first | apply a_ | apply b_ | apply c_) | ((with_reducible first | apply d_ | apply e_ | apply f_ | apply g_); focus first | omega | (simp only [q_] <;> omega)) | ((with_reducible first | apply i_ | apply h_); focus first | omega | (simp only [q_] <;> omega)) | ((with_reducible apply h_); focus first | decide | kernel_rfl) | refine BCase.t (by decide) ?_ | refine BCase.f (by decide) ?_ | (refine SIdx.tx j rfl q ?_) | with_reducible first | apply l_ | apply m_ | apply n_ | apply o_ | refine p_ (fun _ => ?_) (fun _ => ?_)) <;> (conv => whnf)))
        all_goals first
          | exact ⟨j + 1, ⟨by omega, by omega, hq⟩, by omega, [(FK, FK)], rfl, rfl, ⟨⟨rfl, rfl, rfl⟩, trivial⟩, ⟨rfl, rfl, .inl rfl, .inl (congrArg (fun x => C.v (.int .i64 x)) (by omega)), rfl⟩, trivial⟩
          | (exfalso; omega)
      · rw [if_neg hb] at hq
        have hb2 : ¬ ((l.getD j 0).toNat = 32 ∨ (l.getD j 0).toNat = 9 ∨ (l.getD j 0).toNat = 10 ∨ (l.getD j 0).toNat = 13) := by
          unfold blankB at hb
          simpa using hb
        have ph := p_haspre (l.drop j) [45, 45]
        rw [drop_cons q, hasPre_2] at ph
        have ex : (tx l).extract ((j : Nat) : Int).toNat ((l.length : Nat) : Int).toNat = tx (l.getD j 0 :: l.drop (j + 1)) := by
          rw [extract_tx, ← drop_cons q, show ((j : Nat) : Int).toNat = j by omega]
          exact congrArg tx (List.take_of_length_le (by rw [List.length_drop]; omega))
        have ph : Pure Tryd.prog 32 [pStr ((tx l).extract ((j : Nat) : Int).toNat ((l.length : Nat) : Int).toNat), pStr (tx [45, 45])] (pBool (decide ((l.getD j 0).toNat = 45 ∧ ((l.drop (j + 1)).headD 0).toNat = 45))) := by rw [ex]; exact ph
        by_cases hr : (l.getD j 0).toNat = 45 ∧ ((l.drop (j + 1)).headD 0).toNat = 45
        · rw [decide_eq_true hr] at ph
          rw [if_pos hr] at hq
          have pr := p_run 34 no10 p_skip1 l ho j h2
          have hn : no10 (l.getD j 0) = true := decide_eq_true (by omega)
          have hst := runTo_step q hn
          have hle := runTo_le (p := no10) h2
          have hlt : j + 1 ≤ runTo no10 l j := by rw [hst]; exact Nat.le_add_right _ _
          ((conv => whnf); repeat' ((first | (with_reducible first | apply a_ | apply b_ | apply c_) | ((with_reducible first | apply d_ | apply e_ | apply f_ | apply g_); focus first | omega | (simp only [q_] <;> omega)) | ((with_reducible first | apply i_ | apply h_); focus first | omega | (simp only [q_] <;> omega)) | ((with_reducible apply h_); focus first | decide | kernel_rfl) | refine BCase.t (by decide) ?_ | refine BCase.f (by decide) ?_ | (refine SIdx.tx j rfl q ?_) | refine CallP.pure _ rfl _ (ph) ?_ | refine CallP.pure _ rfl _ (pr) ?_ | with_reducible first | apply l_ | apply m_ | apply n_ | apply o_ | refine p_ (fun _ => ?_) (fun _ => ?_)) <;> (conv => whnf)))
          refine ⟨runTo no10 l j, ⟨by omega, hle, ?_⟩, by omega, [(FK, FK)], rfl, rfl, ⟨⟨rfl, rfl, rfl⟩, trivial⟩, ⟨rfl, rfl, .inl rfl, .inl rfl, rfl⟩, trivial⟩
          rw [drop_runTo, drop_cons q, List.dropWhile_cons, if_pos hn]
          exact hq.trans (skR_true _)
        · rw [decide_eq_false hr] at ph
          rw [if_neg hr, ← drop_cons q] at hq
          have hk2 : skK l k = j := by
            unfold skK skL
            rw [hq, List.length_drop]; omega
          rw [hk2]
          ((conv => whnf); repeat' ((first | (with_reducible first | apply a_ | apply b_ | apply c_) | ((with_reducible first | apply d_ | apply e_ | apply f_ | apply g_); focus first | omega | (simp only [q_] <;> omega)) | ((with_reducible first | apply i_ | apply h_); focus first | omega | (simp only [q_] <;> omega)) | ((with_reducible apply h_); focus first | decide | kernel_rfl) | refine BCase.t (by decide) ?_ | refine BCase.f (by decide) ?_ | (refine SIdx.tx j rfl q ?_) | refine CallP.pure _ rfl _ (ph) ?_ | with_reducible first | apply l_ | apply m_ | apply n_ | apply o_ | refine p_ (fun _ => ?_) (fun _ => ?_)) <;> (conv => whnf)))
          all_goals exact RetS.mk [(FK, FK)] [FK] rfl rfl rfl ⟨⟨rfl, rfl, .inl rfl, .inl rfl, rfl⟩, trivial⟩
    · have hk2 : skK l k = j := by
        unfold skK
        rw [hq, List.drop_of_length_le (show l.length ≤ j by omega)]
        show l.length - 0 = j
        omega
      rw [hk2]
      ((conv => whnf); repeat' ((first | (with_reducible first | apply a_ | apply b_ | apply c_) | ((with_reducible first | apply d_ | apply e_ | apply f_ | apply g_); focus first | omega | (simp only [q_] <;> omega)) | ((with_reducible first | apply i_ | apply h_); focus first | omega | (simp only [q_] <;> omega)) | ((with_reducible apply h_); focus first | decide | kernel_rfl) | refine BCase.t (by decide) ?_ | refine BCase.f (by decide) ?_ | with_reducible first | apply l_ | apply m_ | apply n_ | apply o_ | refine p_ (fun _ => ?_) (fun _ => ?_)) <;> (conv => whnf)))
      exact RetS.mk [(FK, FK)] [FK] rfl rfl rfl ⟨⟨rfl, rfl, .inl rfl, .inl rfl, rfl⟩, trivial⟩
abbrev zTok : List D := [.c (.v (.int .i64 0)), .c (.v (.int .i64 0)), .c (.v (.int .i64 0)), .c (.v (.string ⟨#[]⟩))]
theorem run_take {p : UInt8 → Bool} {l : List UInt8} {k : Nat} : (l.drop k).take (runTo p l k - k) = (l.drop k).takeWhile p := by
  unfold runTo
  rw [Nat.add_sub_cancel_left]
  conv => lhs; arg 2; rw [← List.takeWhile_append_dropWhile (p := p) (l := l.drop k)]
  rw [List.take_left]
theorem run_len {p : UInt8 → Bool} {l : List UInt8} {k : Nat} : ((l.drop k).takeWhile p).length = runTo p l k - k := by unfold runTo; omega
theorem runTo_ge {p : UInt8 → Bool} {l : List UInt8} {k : Nat} : k ≤ runTo p l k := Nat.le_add_right _ _
theorem s_word (l : List UInt8) (hl : l.length ≤ 1000) (k : Nat) (hk : k ≤ l.length) : CallS Tryd.prog 41 [.d (.ptr FK 0)] [] [(FK, lxB l k)] (.tup [tkV (wTok (l.drop k)).1, pInt .i64 (wTok (l.drop k)).2.1]) [(FK, lxB l (k + (wTok (l.drop k)).2.2))] := by
  have tz := tx_size l
  have ho : okText l := by unfold okText; omega
  have pr := p_run 61 innB p_inner l ho k hk
  have hge := runTo_ge (p := innB) (l := l) (k := k)
  have hle := runTo_le (p := innB) hk
  have hrl := run_len (p := innB) (l := l) (k := k)
  refine callS_of Tryd.func41 (by rfl) rfl (by kernel_rfl) (by rfl) [FK] rfl ?_
  unfold wTok
  by_cases h12 : 12 < ((l.drop k).takeWhile innB).length
  · rw [if_pos h12]
    ((conv => whnf); repeat' ((first | (with_reducible first | apply a_ | apply b_ | apply c_) | ((with_reducible first | apply d_ | apply e_ | apply f_ | apply g_); focus first | omega | (simp only [q_] <;> omega)) | ((with_reducible first | apply i_ | apply h_); focus first | omega | (simp only [q_] <;> omega)) | ((with_reducible apply h_); focus first | decide | kernel_rfl) | refine BCase.t (by decide) ?_ | refine BCase.f (by decide) ?_ | refine CallP.pure _ rfl _ (pr) ?_ | with_reducible first | apply l_ | apply m_ | apply n_ | apply o_ | refine p_ (fun _ => ?_) (fun _ => ?_)) <;> (conv => whnf)))
    all_goals first
      | exact RetS.mk [(FK, FK)] [FK] rfl rfl ⟨⟨.inl rfl, .inl rfl, .inl rfl, .inl rfl, rfl⟩, .inl rfl, rfl⟩ ⟨⟨rfl, rfl, .inl rfl, .inl (congrArg (fun x => C.v (.int .i64 x)) (show ((k : Nat) : Int) = ((k + 0 : Nat) : Int) by omega)), rfl⟩, trivial⟩
      | exact RetS.mk [(FK, FK)] [FK] rfl rfl rfl ⟨⟨rfl, rfl, .inl rfl, .inl (congrArg (fun x => C.v (.int .i64 x)) (show ((k : Nat) : Int) = ((k + 0 : Nat) : Int) by omega)), rfl⟩, trivial⟩
      | (exfalso; omega)
  · rw [if_neg h12]
    ((conv => whnf); repeat' ((first | (with_reducible first | apply a_ | apply b_ | apply c_) | ((with_reducible first | apply d_ | apply e_ | apply f_ | apply g_); focus first | omega | (simp only [q_] <;> omega)) | ((with_reducible first | apply i_ | apply h_); focus first | omega | (simp only [q_] <;> omega)) | ((with_reducible apply h_); focus first | decide | kernel_rfl) | refine BCase.t (by decide) ?_ | refine BCase.f (by decide) ?_ | refine CallP.pure _ rfl _ (pr) ?_ | with_reducible first | apply l_ | apply m_ | apply n_ | apply o_ | refine p_ (fun _ => ?_) (fun _ => ?_)) <;> (conv => whnf)))
    refine LoopC.mk Nat (fun j => [(0, .d (.ptr FK 0)), (2, .d (.ptr 2 0)), (4, pInt .i64 (runTo innB l k : Int)), (5, .d (.app 60 5 1 (byteRows (((l.drop k).take (j - k)).map smB))))]) (fun j => [(FK, lxB l j), (2, .box 29 zTok), (60, .tail 5 1)]) [FK, 2, 60] (fun j => k ≤ j ∧ j ≤ runTo innB l k) (fun j => runTo innB l k - j) k ⟨Nat.le_refl _, hge⟩ ?start ?round
    case start => exact ⟨[(FK, FK), (2, 2)], rfl, rfl, ⟨⟨rfl, rfl, rfl⟩, ⟨rfl, rfl, rfl⟩, .inl rfl, ⟨rfl, rfl, Nat.zero_lt_succ _, by rw [Nat.sub_self]; rfl, rfl⟩, trivial⟩, ⟨rfl, rfl, .inl rfl, .inl rfl, rfl⟩, ⟨rfl, rfl, .inl rfl, .inl rfl, .inl rfl, .inl rfl, rfl⟩, ⟨rfl, Nat.zero_lt_succ _⟩, trivial⟩
    case round =>
      rintro j ⟨h1, h2⟩
      have h1 : k ≤ j := h1
      have h2 : j ≤ runTo innB l k := h2
      by_cases q : j < runTo innB l k
      · have qj : j < l.length := by omega
        have hb := byteRows_ln (((l.drop k).take (j - k)).map smB)
        have hbl : (((l.drop k).take (j - k)).map smB).length ≤ 1000 := by rw [List.length_map, List.length_take, List.length_drop]; omega
        ((conv => whnf); repeat' ((first | (with_reducible first | apply a_ | apply b_ | apply c_) | ((with_reducible first | apply d_ | apply e_ | apply f_ | apply g_); focus first | omega | (simp only [q_] <;> omega)) | ((with_reducible first | apply i_ | apply h_); focus first | omega | (simp only [q_] <;> omega)) | ((with_reducible apply h_); focus first | decide | kernel_rfl) | refine BCase.t (by decide) ?_ | refine BCase.f (by decide) ?_ | (refine SIdx.tx j rfl qj ?_) | refine CallP.pure _ rfl _ (p_small _) ?_ | (refine Need.by 1 rfl (by simp only [List.length_singleton]; omega) ?_) | with_reducible first | apply l_ | apply m_ | apply n_ | apply o_ | refine p_ (fun _ => ?_) (fun _ => ?_)) <;> (conv => whnf)))
        refine ⟨j + 1, ⟨by omega, by omega⟩, by omega, [(FK, FK), (2, 2), (60, 48)], rfl, rfl, ⟨⟨rfl, rfl, rfl⟩, ⟨rfl, rfl, rfl⟩, .inl rfl, ⟨rfl, rfl, rfl, rfl, ?_⟩, trivial⟩, ⟨rfl, rfl, .inl rfl, .inl (congrArg (fun x => C.v (.int .i64 x)) (by omega)), rfl⟩, ⟨rfl, rfl, .inl rfl, .inl rfl, .inl rfl, .inl rfl, rfl⟩, ⟨rfl, rfl, rfl⟩, trivial⟩
        have e : (l.drop k).take (j + 1 - k) = (l.drop k).take (j - k) ++ [l.getD j 0] := by
          have hd : j - k < (l.drop k).length := by rw [List.length_drop]; omega
          rw [show j + 1 - k = (j - k) + 1 by omega, take_snoc hd, List.getElem_drop]
          congr 2
          rw [List.getD_eq_getElem?_getD, List.getElem?_eq_getElem qj]
          show l[k + (j - k)] = l[j]
          congr 1; omega
        show _ = byteRows (((l.drop k).take (j + 1 - k)).map smB)
        rw [e, List.map_append, byteRows_app]; rfl
      · have ej : j = runTo innB l k := by omega
        subst ej
        ((conv => whnf); repeat' ((first | (with_reducible first | apply a_ | apply b_ | apply c_) | ((with_reducible first | apply d_ | apply e_ | apply f_ | apply g_); focus first | omega | (simp only [q_] <;> omega)) | ((with_reducible first | apply i_ | apply h_); focus first | omega | (simp only [q_] <;> omega)) | ((with_reducible apply h_); focus first | decide | kernel_rfl) | refine BCase.t (by decide) ?_ | refine BCase.f (by decide) ?_ | with_reducible first | apply l_ | apply m_ | apply n_ | apply o_ | refine p_ (fun _ => ?_) (fun _ => ?_)) <;> (conv => whnf)))
        refine Bytes.mk (((l.drop k).take (runTo innB l k - k)).map smB) rfl ?_
        ((conv => whnf); repeat' ((first | (with_reducible first | apply a_ | apply b_ | apply c_) | ((with_reducible first | apply d_ | apply e_ | apply f_ | apply g_); focus first | omega | (simp only [q_] <;> omega)) | ((with_reducible first | apply i_ | apply h_); focus first | omega | (simp only [q_] <;> omega)) | ((with_reducible apply h_); focus first | decide | kernel_rfl) | refine BCase.t (by decide) ?_ | refine BCase.f (by decide) ?_ | with_reducible first | apply l_ | apply m_ | apply n_ | apply o_ | refine p_ (fun _ => ?_) (fun _ => ?_)) <;> (conv => whnf)))
        refine RetS.mk [(FK, FK)] [FK] rfl rfl ?_ ⟨⟨rfl, rfl, .inl rfl, .inl (congrArg (fun x => C.v (.int .i64 x)) (show ((runTo innB l k : Nat) : Int) = ((k + ((l.drop k).takeWhile innB).length : Nat) : Int) by omega)), rfl⟩, trivial⟩
        rw [run_take]
        first
          | exact rfl
          | exact ⟨⟨.inl rfl, .inl rfl, .inl rfl, .inl rfl, rfl⟩, .inl rfl, rfl⟩
          | exact ⟨⟨.inl rfl, .inl rfl, .inl rfl, .inl rfl, trivial⟩, .inl rfl, trivial⟩
theorem s_number (l : List UInt8) (hl : l.length ≤ 1000) (k : Nat) (hk : k ≤ l.length) : CallS Tryd.prog 43 [.d (.ptr FK 0)] [] [(FK, lxB l k)] (.tup [tkV (nTok (l.drop k)).1, pInt .i64 (nTok (l.drop k)).2.1]) [(FK, lxB l (k + (nTok (l.drop k)).2.2))] := by
  have tz := tx_size l
  have ho : okText l := by unfold okText; omega
  have pr := p_run 42 digB p_digit l ho k hk
  have hge := runTo_ge (p := digB) (l := l) (k := k)
  have hle := runTo_le (p := digB) hk
  have hrl := run_len (p := digB) (l := l) (k := k)
  have pd := p_Digits ((l.drop k).takeWhile digB) (by rw [hrl]; omega) most1 ⟨by decide, by decide⟩
  have hv : digV ((l.drop k).takeWhile digB) most1 ≤ 9223372036854775807 := digV_le _ most1
  have ex : (tx l).extract ((k : Nat) : Int).toNat ((runTo digB l k : Nat) : Int).toNat = tx ((l.drop k).takeWhile digB) := by
    rw [extract_tx, ← run_take]
    congr 2 <;> omega
  have pd : Pure Tryd.prog 62 [pStr ((tx l).extract ((k : Nat) : Int).toNat ((runTo digB l k : Nat) : Int).toNat), pInt .u64 (most1 : Int)] (.tup [pInt .u64 (digV ((l.drop k).takeWhile digB) most1 : Int), pInt .i64 (digE ((l.drop k).takeWhile digB) most1)]) := by rw [ex]; exact pd
  have hw : (l.drop k).dropWhile digB = l.drop (runTo digB l k) := drop_runTo.symm
  refine callS_of Tryd.func43 (by rfl) rfl (by kernel_rfl) (by rfl) [FK] rfl ?_
  unfold nTok
  rw [hw]
  by_cases q : runTo digB l k < l.length
  · rw [drop_cons q]
    have pf := p_first (l.getD (runTo digB l k) 0)
    by_cases hf : letB (l.getD (runTo digB l k) 0) = true
    · rw [hf] at pf
      rw [show headB letB (l.getD (runTo digB l k) 0 :: l.drop (runTo digB l k + 1)) = true from hf, if_pos rfl]
      ((conv => whnf); repeat' ((first | (with_reducible first | apply a_ | apply b_ | apply c_) | ((with_reducible first | apply d_ | apply e_ | apply f_ | apply g_); focus first | omega | (simp only [q_] <;> omega)) | ((with_reducible first | apply i_ | apply h_); focus first | omega | (simp only [q_] <;> omega)) | ((with_reducible apply h_); focus first | decide | kernel_rfl) | refine BCase.t (by decide) ?_ | refine BCase.f (by decide) ?_ | refine CallP.pure _ rfl _ (pr) ?_ | refine CallP.pure _ rfl _ (pf) ?_ | (refine SIdx.tx (runTo digB l k) rfl q ?_) | with_reducible first | apply l_ | apply m_ | apply n_ | apply o_ | refine p_ (fun _ => ?_) (fun _ => ?_)) <;> (conv => whnf)))
      exact RetS.mk [(FK, FK)] [FK] rfl rfl ⟨⟨.inl rfl, .inl rfl, .inl rfl, .inl rfl, rfl⟩, .inl rfl, rfl⟩ ⟨⟨rfl, rfl, .inl rfl, .inl (congrArg (fun x => C.v (.int .i64 x)) (show ((k : Nat) : Int) = ((k + 0 : Nat) : Int) by omega)), rfl⟩, trivial⟩
    · have hf : letB (l.getD (runTo digB l k) 0) = false := Bool.eq_false_iff.2 hf
      rw [hf] at pf
      rw [show headB letB (l.getD (runTo digB l k) 0 :: l.drop (runTo digB l k + 1)) = false from hf, if_neg (by decide)]
      ((conv => whnf); repeat' ((first | (with_reducible first | apply a_ | apply b_ | apply c_) | ((with_reducible first | apply d_ | apply e_ | apply f_ | apply g_); focus first | omega | (simp only [q_] <;> omega)) | ((with_reducible first | apply i_ | apply h_); focus first | omega | (simp only [q_] <;> omega)) | ((with_reducible apply h_); focus first | decide | kernel_rfl) | refine BCase.t (by decide) ?_ | refine BCase.f (by decide) ?_ | refine CallP.pure _ rfl _ (pr) ?_ | refine CallP.pure _ rfl _ (pf) ?_ | (refine SIdx.tx (runTo digB l k) rfl q ?_) | refine CallP.pure _ rfl _ (pd) ?_ | with_reducible first | apply l_ | apply m_ | apply n_ | apply o_ | refine p_ (fun _ => ?_) (fun _ => ?_)) <;> (conv => whnf)))
      exact RetS.mk [(FK, FK)] [FK] rfl rfl ⟨⟨.inl rfl, .inl rfl, .inl rfl, .inl rfl, rfl⟩, .inl rfl, rfl⟩ ⟨⟨rfl, rfl, .inl rfl, .inl (congrArg (fun x => C.v (.int .i64 x)) (show ((runTo digB l k : Nat) : Int) = ((k + ((l.drop k).takeWhile digB).length : Nat) : Int) by omega)), rfl⟩, trivial⟩
  · rw [List.drop_of_length_le (show l.length ≤ runTo digB l k by omega), show headB letB [] = false from rfl, if_neg (by decide)]
    ((conv => whnf); repeat' ((first | (with_reducible first | apply a_ | apply b_ | apply c_) | ((with_reducible first | apply d_ | apply e_ | apply f_ | apply g_); focus first | omega | (simp only [q_] <;> omega)) | ((with_reducible first | apply i_ | apply h_); focus first | omega | (simp only [q_] <;> omega)) | ((with_reducible apply h_); focus first | decide | kernel_rfl) | refine BCase.t (by decide) ?_ | refine BCase.f (by decide) ?_ | refine CallP.pure _ rfl _ (pr) ?_ | refine CallP.pure _ rfl _ (pd) ?_ | with_reducible first | apply l_ | apply m_ | apply n_ | apply o_ | refine p_ (fun _ => ?_) (fun _ => ?_)) <;> (conv => whnf)))
    exact RetS.mk [(FK, FK)] [FK] rfl rfl ⟨⟨.inl rfl, .inl rfl, .inl rfl, .inl rfl, rfl⟩, .inl rfl, rfl⟩ ⟨⟨rfl, rfl, .inl rfl, .inl (congrArg (fun x => C.v (.int .i64 x)) (show ((runTo digB l k : Nat) : Int) = ((k + ((l.drop k).takeWhile digB).length : Nat) : Int) by omega)), rfl⟩, trivial⟩
theorem p_next1 (s : List UInt8) (hs : s.length ≤ 140737488351232) : Pure Tryd.prog 37 [pStr (tx s)] (optP (hexL true s)) := by
  have ph := p_Hexed s hs true
  unfold optP at ph ⊢
  refine pure_of Tryd.func37 (by rfl) rfl (by kernel_rfl) (by rfl) ?_
  cases h : hexL true s with
  | none =>
    rw [h] at ph
    ((conv => whnf); repeat' ((first | (with_reducible first | apply a_ | apply b_ | apply c_) | ((with_reducible first | apply d_ | apply e_ | apply f_ | apply g_); focus first | omega | (simp only [q_] <;> omega)) | ((with_reducible first | apply i_ | apply h_); focus first | omega | (simp only [q_] <;> omega)) | ((with_reducible apply h_); focus first | decide | kernel_rfl) | refine BCase.t (by decide) ?_ | refine BCase.f (by decide) ?_ | refine CallP.pure _ rfl _ (ph) ?_ | with_reducible first | apply l_ | apply m_ | apply n_ | apply o_ | refine p_ (fun _ => ?_) (fun _ => ?_)) <;> (conv => whnf)))
    exact Ret.eq rfl
  | some t =>
    rw [h] at ph
    ((conv => whnf); repeat' ((first | (with_reducible first | apply a_ | apply b_ | apply c_) | ((with_reducible first | apply d_ | apply e_ | apply f_ | apply g_); focus first | omega | (simp only [q_] <;> omega)) | ((with_reducible first | apply i_ | apply h_); focus first | omega | (simp only [q_] <;> omega)) | ((with_reducible apply h_); focus first | decide | kernel_rfl) | refine BCase.t (by decide) ?_ | refine BCase.f (by decide) ?_ | refine CallP.pure _ rfl _ (ph) ?_ | with_reducible first | apply l_ | apply m_ | apply n_ | apply o_ | refine p_ (fun _ => ?_) (fun _ => ?_)) <;> (conv => whnf)))
    exact Ret.eq rfl
theorem s_quote (f : FuncId) (read : List UInt8 → Option (List UInt8)) (hf : ∀ s : List UInt8, s.length ≤ 140737488351232 → Pure Tryd.prog f [pStr (tx s)] (optP (read s))) (kind : Int) (l : List UInt8) (hl : l.length ≤ 1000) (k from_ : Nat) (hk : from_ < l.length) :
    CallS Tryd.prog 36 [.d (.ptr FK 0), pInt .i64 kind, pInt .i64 (from_ : Int), fnV f] [] [(FK, lxB l k)] (.tup [tkV (qTok kind read (l.drop from_)).1, pInt .i64 (qTok kind read (l.drop from_)).2.1]) [(FK, lxB l (if (qTok kind read (l.drop from_)).2.1 = 0 then from_ + (qTok kind read (l.drop from_)).2.2 else k))] := by
  have tz := tx_size l
  have ho : okText l := by unfold okText; omega
  have pe := p_quoteEnd l ho from_ hk
  unfold qEnd at pe
  refine callS_of Tryd.func36 (by rfl) rfl (by kernel_rfl) (by rfl) [FK] rfl ?_
  unfold qTok
  rw [List.drop_drop]
  cases hq : qLen (l.drop (from_ + 1)) with
  | none =>
    rw [hq] at pe
    ((conv => whnf); repeat' ((first | (with_reducible first | apply a_ | apply b_ | apply c_) | ((with_reducible first | apply d_ | apply e_ | apply f_ | apply g_); focus first | omega | (simp only [q_] <;> omega)) | ((with_reducible first | apply i_ | apply h_); focus first | omega | (simp only [q_] <;> omega)) | ((with_reducible apply h_); focus first | decide | kernel_rfl) | refine BCase.t (by decide) ?_ | refine BCase.f (by decide) ?_ | refine CallP.pure _ rfl _ (pe) ?_ | with_reducible first | apply l_ | apply m_ | apply n_ | apply o_ | refine p_ (fun _ => ?_) (fun _ => ?_)) <;> (conv => whnf)))
    exact RetS.mk [(FK, FK)] [FK] rfl rfl ⟨⟨.inl rfl, .inl rfl, .inl rfl, .inl rfl, rfl⟩, .inl rfl, rfl⟩ ⟨⟨rfl, rfl, .inl rfl, .inl rfl, rfl⟩, trivial⟩
  | some n =>
    rw [hq] at pe
    have hn := qLen_le _ _ _ (Nat.le_refl _) hq
    rw [List.length_drop] at hn
    have ex : (tx l).extract ((from_ : Nat) : Int).toNat ((from_ + 1 + n : Nat) : Int).toNat = tx ((l.drop from_).take (n + 1)) := by
      rw [extract_tx]
      congr 2 <;> omega
    have pf := hf ((l.drop from_).take (n + 1)) (by rw [List.length_take, List.length_drop]; omega)
    unfold optP at pf
    have pf : Pure Tryd.prog f [pStr ((tx l).extract ((from_ : Nat) : Int).toNat ((from_ + 1 + n : Nat) : Int).toNat)] (match read ((l.drop from_).take (n + 1)) with
      | none => .tup [pStr (tx []), pBool false]
      | some t => .tup [pStr (tx t), pBool true]) := by rw [ex]; exact pf
    simp only
    cases hr : read ((l.drop from_).take (n + 1)) with
    | none =>
      rw [hr] at pf
      ((conv => whnf); repeat' ((first | (with_reducible first | apply a_ | apply b_ | apply c_) | ((with_reducible first | apply d_ | apply e_ | apply f_ | apply g_); focus first | omega | (simp only [q_] <;> omega)) | ((with_reducible first | apply i_ | apply h_); focus first | omega | (simp only [q_] <;> omega)) | ((with_reducible apply h_); focus first | decide | kernel_rfl) | refine BCase.t (by decide) ?_ | refine BCase.f (by decide) ?_ | refine CallP.pure _ rfl _ (pe) ?_ | refine CallP.pure _ rfl _ (pf) ?_ | with_reducible first | apply l_ | apply m_ | apply n_ | apply o_ | refine p_ (fun _ => ?_) (fun _ => ?_)) <;> (conv => whnf)))
      exact RetS.mk [(FK, FK)] [FK] rfl rfl ⟨⟨.inl rfl, .inl rfl, .inl rfl, .inl rfl, rfl⟩, .inl rfl, rfl⟩ ⟨⟨rfl, rfl, .inl rfl, .inl rfl, rfl⟩, trivial⟩
    | some t =>
      rw [hr] at pf
      have tt := tx_size t
      simp only
      by_cases h16 : 16 < t.length
      · rw [if_pos h16]
        ((conv => whnf); repeat' ((first | (with_reducible first | apply a_ | apply b_ | apply c_) | ((with_reducible first | apply d_ | apply e_ | apply f_ | apply g_); focus first | omega | (simp only [q_] <;> omega)) | ((with_reducible first | apply i_ | apply h_); focus first | omega | (simp only [q_] <;> omega)) | ((with_reducible apply h_); focus first | decide | kernel_rfl) | refine BCase.t (by decide) ?_ | refine BCase.f (by decide) ?_ | refine CallP.pure _ rfl _ (pe) ?_ | refine CallP.pure _ rfl _ (pf) ?_ | with_reducible first | apply l_ | apply m_ | apply n_ | apply o_ | refine p_ (fun _ => ?_) (fun _ => ?_)) <;> (conv => whnf)))
        exact RetS.mk [(FK, FK)] [FK] rfl rfl ⟨⟨.inl rfl, .inl rfl, .inl rfl, .inl rfl, rfl⟩, .inl rfl, rfl⟩ ⟨⟨rfl, rfl, .inl rfl, .inl rfl, rfl⟩, trivial⟩
      · rw [if_neg h16]
        ((conv => whnf); repeat' ((first | (with_reducible first | apply a_ | apply b_ | apply c_) | ((with_reducible first | apply d_ | apply e_ | apply f_ | apply g_); focus first | omega | (simp only [q_] <;> omega)) | ((with_reducible first | apply i_ | apply h_); focus first | omega | (simp only [q_] <;> omega)) | ((with_reducible apply h_); focus first | decide | kernel_rfl) | refine BCase.t (by decide) ?_ | refine BCase.f (by decide) ?_ | refine CallP.pure _ rfl _ (pe) ?_ | refine CallP.pure _ rfl _ (pf) ?_ | with_reducible first | apply l_ | apply m_ | apply n_ | apply o_ | refine p_ (fun _ => ?_) (fun _ => ?_)) <;> (conv => whnf)))
        exact RetS.mk [(FK, FK)] [FK] rfl rfl ⟨⟨.inl rfl, .inl rfl, .inl rfl, .inl rfl, rfl⟩, .inl rfl, rfl⟩ ⟨⟨rfl, rfl, .inl rfl, .inl (congrArg (fun x => C.v (.int .i64 x)) (show ((from_ + 1 + n : Nat) : Int) = ((from_ + (n + 1) : Nat) : Int) by omega)), rfl⟩, trivial⟩
end Go.Proofs.YtjbopncobegleaaDoor.Pm
end
section
namespace Go.Proofs.YtjbopncobegleaaDoor.Pm
open Go.RowKit K
set_option linter.unusedVariables false
set_option linter.unusedSimpArgs false
set_option maxRecDepth 100000
theorem smB_x (c : UInt8) : (((smB c).toNat : Nat) : Int) = 120 ↔ isX c = true := by
  unfold isX
  rw [decide_eq_true_eq]
  by_cases h : upB c = true
  · have := smB_up h
    have hu := of_decide_eq_true h
    omega
  · have h : upB c = false := Bool.eq_false_iff.2 h
    rw [smB_no h]
    have hu := of_decide_eq_false h
    omega
theorem getD_lt {l : List UInt8} {k n : Nat} (h : (l.getD k 0).toNat = n) (hn : n ≠ 0) : k < l.length := by
  apply Decidable.byContradiction
  intro hk
  rw [List.getD_eq_getElem?_getD, List.getElem?_eq_none (by omega)] at h
  exact hn h.symm
theorem s_next (l : List UInt8) (hl : l.length ≤ 1000) (k : Nat) (hk : k < l.length) : CallS Tryd.prog 19 [.d (.ptr FK 0)] [] [(FK, lxB l k)] (.tup [tkV (tkL (l.drop k)).1, pInt .i64 (tkL (l.drop k)).2.1]) [(FK, lxB l (k + (tkL (l.drop k)).2.2))] := by
  have tz := tx_size l
  have ho : okText l := by unfold okText; omega
  have hx := smB_x (l.getD k 0)
  have hd1 : ((l.drop k).drop 1).headD 0 = l.getD (k + 1) 0 := by rw [List.drop_drop, head_drop]
  refine callS_of Tryd.func19 (by rfl) rfl (by kernel_rfl) (by rfl) [FK] rfl ?_
  unfold tkL
  rw [hd1, head_drop, List.drop_drop]
  by_cases c1 : isX (l.getD k 0) = true ∧ (l.getD (k + 1) 0).toNat = 39
  · rw [if_pos c1]
    have q1 := getD_lt c1.2 (by decide)
    have hsx := hx.2 c1.1
    have h39 := c1.2
    have pq := s_quote 37 (hexL true) p_next1 4 l hl k (k + 1) q1
    ((conv => whnf); repeat' ((first | (with_reducible first | apply a_ | apply b_ | apply c_) | ((with_reducible first | apply d_ | apply e_ | apply f_ | apply g_); focus first | omega | (simp only [q_] <;> omega)) | ((with_reducible first | apply i_ | apply h_); focus first | omega | (simp only [q_] <;> omega)) | ((with_reducible apply h_); focus first | decide | kernel_rfl) | refine BCase.t (by decide) ?_ | refine BCase.f (by decide) ?_ | (first | refine SIdx.tx k rfl hk ?_ | refine SIdx.tx (k + 1) (by omega) q1 ?_) | refine CallP.pure _ rfl _ (p_small _) ?_ | with_reducible first | apply l_ | apply m_ | apply n_ | apply o_ | refine p_ (fun _ => ?_) (fun _ => ?_)) <;> (conv => whnf)))
    refine CallP.ret [(FK, FK)] _ _ _ _ _ _ _ pq rfl rfl rfl rfl ⟨rfl, trivial⟩ ?_
    ((conv => whnf); repeat' ((first | (with_reducible first | apply a_ | apply b_ | apply c_) | ((with_reducible first | apply d_ | apply e_ | apply f_ | apply g_); focus first | omega | (simp only [q_] <;> omega)) | ((with_reducible first | apply i_ | apply h_); focus first | omega | (simp only [q_] <;> omega)) | ((with_reducible apply h_); focus first | decide | kernel_rfl) | refine BCase.t (by decide) ?_ | refine BCase.f (by decide) ?_ | with_reducible first | apply l_ | apply m_ | apply n_ | apply o_ | refine p_ (fun _ => ?_) (fun _ => ?_)) <;> (conv => whnf)))
    refine RetS.mk [(FK, FK)] [FK] rfl rfl ⟨⟨.inl rfl, .inl rfl, .inl rfl, .inl rfl, rfl⟩, .inl rfl, rfl⟩ ⟨⟨rfl, rfl, .inl rfl, .inl (congrArg (fun x => C.v (.int .i64 x)) ?_), rfl⟩, trivial⟩
    show (((if (qTok 4 (hexL true) (l.drop (k + 1))).2.1 = 0 then k + 1 + (qTok 4 (hexL true) (l.drop (k + 1))).2.2 else k : Nat)) : Int) = ((k + (if (qTok 4 (hexL true) (l.drop (k + 1))).2.1 = 0 then (qTok 4 (hexL true) (l.drop (k + 1))).2.2 + 1 else 0) : Nat) : Int)
    split <;> omega
  · rw [if_neg c1]
    have hno : ¬ ((((smB (l.getD k 0)).toNat : Nat) : Int) = 120 ∧ k + 1 < l.length ∧ (l.getD (k + 1) 0).toNat = 39) := fun h => c1 ⟨hx.1 h.1, h.2.2⟩
    by_cases c2 : (l.getD k 0).toNat = 39
    · rw [if_pos c2]
      have pq := s_quote 39 quotL p_Quoted 3 l hl k k hk
      ((conv => whnf); repeat' ((first | (with_reducible first | apply a_ | apply b_ | apply c_) | ((with_reducible first | apply d_ | apply e_ | apply f_ | apply g_); focus first | omega | (simp only [q_] <;> omega)) | ((with_reducible first | apply i_ | apply h_); focus first | omega | (simp only [q_] <;> omega)) | ((with_reducible apply h_); focus first | decide | kernel_rfl) | refine BCase.t (by decide) ?_ | refine BCase.f (by decide) ?_ | (first | refine SIdx.tx k rfl hk ?_ | refine SIdx.tx (k + 1) (by omega) (by omega) ?_) | refine CallP.pure _ rfl _ (p_small _) ?_ | with_reducible first | apply l_ | apply m_ | apply n_ | apply o_ | refine p_ (fun _ => ?_) (fun _ => ?_)) <;> (conv => whnf)))
      all_goals
        refine CallP.ret [(FK, FK)] _ _ _ _ _ _ _ pq rfl rfl rfl rfl ⟨rfl, trivial⟩ ?_
        ((conv => whnf); repeat' ((first | (with_reducible first | apply a_ | apply b_ | apply c_) | ((with_reducible first | apply d_ | apply e_ | apply f_ | apply g_); focus first | omega | (simp only [q_] <;> omega)) | ((with_reducible first | apply i_ | apply h_); focus first | omega | (simp only [q_] <;> omega)) | ((with_reducible apply h_); focus first | decide | kernel_rfl) | refine BCase.t (by decide) ?_ | refine BCase.f (by decide) ?_ | with_reducible first | apply l_ | apply m_ | apply n_ | apply o_ | refine p_ (fun _ => ?_) (fun _ => ?_)) <;> (conv => whnf)))
        refine RetS.mk [(FK, FK)] [FK] rfl rfl ⟨⟨.inl rfl, .inl rfl, .inl rfl, .inl rfl, rfl⟩, .inl rfl, rfl⟩ ⟨⟨rfl, rfl, .inl rfl, .inl (congrArg (fun x => C.v (.int .i64 x)) ?_), rfl⟩, trivial⟩
        show (((if (qTok 3 quotL (l.drop k)).2.1 = 0 then k + (qTok 3 quotL (l.drop k)).2.2 else k : Nat)) : Int) = ((k + (qTok 3 quotL (l.drop k)).2.2 : Nat) : Int)
        split
        · rfl
        · rename_i h
          have : (qTok 3 quotL (l.drop k)).2.2 = 0 := by
            unfold qTok at h ⊢
            split
            · rfl
            · rename_i n hn
              rw [hn] at h
              simp only at h ⊢
              split
              · rfl
              · rename_i t ht
                rw [ht] at h
                simp only at h ⊢
                split
                · rfl
                · rename_i q; rw [if_neg q] at h; exact absurd rfl h
          omega
    · rw [if_neg c2]
      have pf := p_first (l.getD k 0)
      cases hf : letB (l.getD k 0) with
      | true =>
        rw [hf] at pf
        rw [if_pos rfl]
        have pw := s_word l hl k (Nat.le_of_lt hk)
        ((conv => whnf); repeat' ((first | (with_reducible first | apply a_ | apply b_ | apply c_) | ((with_reducible first | apply d_ | apply e_ | apply f_ | apply g_); focus first | omega | (simp only [q_] <;> omega)) | ((with_reducible first | apply i_ | apply h_); focus first | omega | (simp only [q_] <;> omega)) | ((with_reducible apply h_); focus first | decide | kernel_rfl) | refine BCase.t (by decide) ?_ | refine BCase.f (by decide) ?_ | (first | refine SIdx.tx k rfl hk ?_ | refine SIdx.tx (k + 1) (by omega) (by omega) ?_) | refine CallP.pure _ rfl _ (p_small _) ?_ | refine CallP.pure _ rfl _ (pf) ?_ | with_reducible first | apply l_ | apply m_ | apply n_ | apply o_ | refine p_ (fun _ => ?_) (fun _ => ?_)) <;> (conv => whnf)))
        all_goals
          refine CallP.ret [(FK, FK)] _ _ _ _ _ _ _ pw rfl rfl rfl rfl ⟨rfl, trivial⟩ ?_
          ((conv => whnf); repeat' ((first | (with_reducible first | apply a_ | apply b_ | apply c_) | ((with_reducible first | apply d_ | apply e_ | apply f_ | apply g_); focus first | omega | (simp only [q_] <;> omega)) | ((with_reducible first | apply i_ | apply h_); focus first | omega | (simp only [q_] <;> omega)) | ((with_reducible apply h_); focus first | decide | kernel_rfl) | refine BCase.t (by decide) ?_ | refine BCase.f (by decide) ?_ | with_reducible first | apply l_ | apply m_ | apply n_ | apply o_ | refine p_ (fun _ => ?_) (fun _ => ?_)) <;> (conv => whnf)))
          exact RetS.mk [(FK, FK)] [FK] rfl rfl ⟨⟨.inl rfl, .inl rfl, .inl rfl, .inl rfl, rfl⟩, .inl rfl, rfl⟩ ⟨⟨rfl, rfl, .inl rfl, .inl rfl, rfl⟩, trivial⟩
      | false =>
        rw [hf] at pf
        rw [if_neg (by decide)]
        have pd := p_digit (l.getD k 0)
        cases hd : digB (l.getD k 0) with
        | true =>
          rw [hd] at pd
          rw [if_pos rfl]
          have pw := s_number l hl k (Nat.le_of_lt hk)
          ((conv => whnf); repeat' ((first | (with_reducible first | apply a_ | apply b_ | apply c_) | ((with_reducible first | apply d_ | apply e_ | apply f_ | apply g_); focus first | omega | (simp only [q_] <;> omega)) | ((with_reducible first | apply i_ | apply h_); focus first | omega | (simp only [q_] <;> omega)) | ((with_reducible apply h_); focus first | decide | kernel_rfl) | refine BCase.t (by decide) ?_ | refine BCase.f (by decide) ?_ | (first | refine SIdx.tx k rfl hk ?_ | refine SIdx.tx (k + 1) (by omega) (by omega) ?_) | refine CallP.pure _ rfl _ (p_small _) ?_ | refine CallP.pure _ rfl _ (pf) ?_ | refine CallP.pure _ rfl _ (pd) ?_ | with_reducible first | apply l_ | apply m_ | apply n_ | apply o_ | refine p_ (fun _ => ?_) (fun _ => ?_)) <;> (conv => whnf)))
          all_goals
            refine CallP.ret [(FK, FK)] _ _ _ _ _ _ _ pw rfl rfl rfl rfl ⟨rfl, trivial⟩ ?_
            ((conv => whnf); repeat' ((first | (with_reducible first | apply a_ | apply b_ | apply c_) | ((with_reducible first | apply d_ | apply e_ | apply f_ | apply g_); focus first | omega | (simp only [q_] <;> omega)) | ((with_reducible first | apply i_ | apply h_); focus first | omega | (simp only [q_] <;> omega)) | ((with_reducible apply h_); focus first | decide | kernel_rfl) | refine BCase.t (by decide) ?_ | refine BCase.f (by decide) ?_ | with_reducible first | apply l_ | apply m_ | apply n_ | apply o_ | refine p_ (fun _ => ?_) (fun _ => ?_)) <;> (conv => whnf)))
            exact RetS.mk [(FK, FK)] [FK] rfl rfl ⟨⟨.inl rfl, .inl rfl, .inl rfl, .inl rfl, rfl⟩, .inl rfl, rfl⟩ ⟨⟨rfl, rfl, .inl rfl, .inl rfl, rfl⟩, trivial⟩
        | false =>
          rw [hd] at pd
          rw [if_neg (by decide)]
          have ps := p_signEnd l ho k hk
          have hsl := sigL_le (l.drop k)
          rw [List.length_drop] at hsl
          have ex : (tx l).extract ((k : Nat) : Int).toNat ((k + sigL (l.drop k) : Nat) : Int).toNat = tx ((l.drop k).take (sigL (l.drop k))) := by
            rw [extract_tx]
            congr 2 <;> omega
          unfold sTok
          by_cases h0 : sigL (l.drop k) = 0
          · rw [if_pos h0]
            ((conv => whnf); repeat' ((first | (with_reducible first | apply a_ | apply b_ | apply c_) | ((with_reducible first | apply d_ | apply e_ | apply f_ | apply g_); focus first | omega | (simp only [q_] <;> omega)) | ((with_reducible first | apply i_ | apply h_); focus first | omega | (simp only [q_] <;> omega)) | ((with_reducible apply h_); focus first | decide | kernel_rfl) | refine BCase.t (by decide) ?_ | refine BCase.f (by decide) ?_ | (first | refine SIdx.tx k rfl hk ?_ | refine SIdx.tx (k + 1) (by omega) (by omega) ?_) | refine CallP.pure _ rfl _ (p_small _) ?_ | refine CallP.pure _ rfl _ (pf) ?_ | refine CallP.pure _ rfl _ (pd) ?_ | refine CallP.pure _ rfl _ (ps) ?_ | with_reducible first | apply l_ | apply m_ | apply n_ | apply o_ | refine p_ (fun _ => ?_) (fun _ => ?_)) <;> (conv => whnf)))
            all_goals exact RetS.mk [(FK, FK)] [FK] rfl rfl ⟨⟨.inl rfl, .inl rfl, .inl rfl, .inl rfl, rfl⟩, .inl rfl, rfl⟩ ⟨⟨rfl, rfl, .inl rfl, .inl (congrArg (fun x => C.v (.int .i64 x)) (show ((k : Nat) : Int) = ((k + 0 : Nat) : Int) by omega)), rfl⟩, trivial⟩
          · rw [if_neg h0]
            ((conv => whnf); repeat' ((first | (with_reducible first | apply a_ | apply b_ | apply c_) | ((with_reducible first | apply d_ | apply e_ | apply f_ | apply g_); focus first | omega | (simp only [q_] <;> omega)) | ((with_reducible first | apply i_ | apply h_); focus first | omega | (simp only [q_] <;> omega)) | ((with_reducible apply h_); focus first | decide | kernel_rfl) | refine BCase.t (by decide) ?_ | refine BCase.f (by decide) ?_ | (first | refine SIdx.tx k rfl hk ?_ | refine SIdx.tx (k + 1) (by omega) (by omega) ?_) | refine CallP.pure _ rfl _ (p_small _) ?_ | refine CallP.pure _ rfl _ (pf) ?_ | refine CallP.pure _ rfl _ (pd) ?_ | refine CallP.pure _ rfl _ (ps) ?_ | with_reducible first | apply l_ | apply m_ | apply n_ | apply o_ | refine p_ (fun _ => ?_) (fun _ => ?_)) <;> (conv => whnf)))
            all_goals exact RetS.mk [(FK, FK)] [FK] rfl rfl ⟨⟨.inl rfl, .inl rfl, .inl rfl, .inl (congrArg (fun x => C.v (.string x)) ex), rfl⟩, .inl rfl, rfl⟩ ⟨⟨rfl, rfl, .inl rfl, .inl rfl, rfl⟩, trivial⟩
theorem p_Lex (l : List UInt8) (hl : okText l) : Pure Tryd.prog 9 [pStr (tx l)] (.tup [slV 4 TokenD.c (lexF l).1, pInt .i64 (lexF l).2.1, pInt .i64 (lexF l).2.2]) := by
  have tz := tx_size l
  have hl' : l.length ≤ 140737488351232 := hl
  refine pure_of Tryd.func9 (by rfl) rfl (by kernel_rfl) (by rfl) ?_
  by_cases h3 : 300 < l.length
  · rw [show lexF l = ([], 0, 2) from if_pos h3]
    ((conv => whnf); repeat' ((first | (with_reducible first | apply a_ | apply b_ | apply c_) | ((with_reducible first | apply d_ | apply e_ | apply f_ | apply g_); focus first | omega | (simp only [q_] <;> omega)) | ((with_reducible first | apply i_ | apply h_); focus first | omega | (simp only [q_] <;> omega)) | ((with_reducible apply h_); focus first | decide | kernel_rfl) | refine BCase.t (by decide) ?_ | refine BCase.f (by decide) ?_ | with_reducible first | apply l_ | apply m_ | apply n_ | apply o_ | refine p_ (fun _ => ?_) (fun _ => ?_)) <;> (conv => whnf)))
    all_goals exact Ret.le ⟨.inr ⟨⟨4, rfl⟩, .inl rfl⟩, .inl rfl, .inl rfl, rfl⟩
  · have hF : lexF l = lexG l (l.length + 1) 0 [] := if_neg h3
    have pk := s_skip l (by omega) 0 (Nat.zero_le _)
    ((conv => whnf); repeat' ((first | (with_reducible first | apply a_ | apply b_ | apply c_) | ((with_reducible first | apply d_ | apply e_ | apply f_ | apply g_); focus first | omega | (simp only [q_] <;> omega)) | ((with_reducible first | apply i_ | apply h_); focus first | omega | (simp only [q_] <;> omega)) | ((with_reducible apply h_); focus first | decide | kernel_rfl) | refine BCase.t (by decide) ?_ | refine BCase.f (by decide) ?_ | with_reducible first | apply l_ | apply m_ | apply n_ | apply o_ | refine p_ (fun _ => ?_) (fun _ => ?_)) <;> (conv => whnf)))
    refine CallP.ret [(FK, 15)] _ _ _ _ _ _ _ pk rfl rfl rfl rfl ⟨rfl, trivial⟩ ?_
    ((conv => whnf); repeat' ((first | (with_reducible first | apply a_ | apply b_ | apply c_) | ((with_reducible first | apply d_ | apply e_ | apply f_ | apply g_); focus first | omega | (simp only [q_] <;> omega)) | ((with_reducible first | apply i_ | apply h_); focus first | omega | (simp only [q_] <;> omega)) | ((with_reducible apply h_); focus first | decide | kernel_rfl) | refine BCase.t (by decide) ?_ | refine BCase.f (by decide) ?_ | with_reducible first | apply l_ | apply m_ | apply n_ | apply o_ | refine p_ (fun _ => ?_) (fun _ => ?_)) <;> (conv => whnf)))
    refine LoopC.mk (Nat × List TokenD) (fun s => [(0, pStr (tx l)), (5, .d (.app 60 29 4 (s.2.map TokenD.c))), (6, .d (.ptr 15 0))]) (fun s => [(15, lxB l s.1), (60, .tail 29 4)]) [15, 60] (fun s => s.1 ≤ l.length ∧ s.2.length ≤ 120 ∧ ∃ N k, k ≤ l.length ∧ l.length - k < N ∧ skK l k = s.1 ∧ lexG l N k s.2 = lexF l) (fun s => l.length - s.1) (skK l 0, []) ⟨skK_le _ _, Nat.zero_le _, l.length + 1, 0, Nat.zero_le _, by omega, rfl, hF.symm⟩ ?start ?round
    case start => exact ⟨[(15, 15)], rfl, rfl, ⟨.inl rfl, ⟨rfl, rfl, Nat.zero_lt_succ _, rfl, rfl⟩, ⟨rfl, rfl, rfl⟩, trivial⟩, ⟨rfl, rfl, .inl rfl, .inl rfl, rfl⟩, ⟨rfl, Nat.zero_lt_succ _⟩, trivial⟩
    case round =>
      rintro ⟨p, acc⟩ ⟨hp, ha, N, k, hk, hN, hpk, hg⟩
      have hp : p ≤ l.length := hp
      have ha : acc.length ≤ 120 := ha
      have hpk : skK l k = p := hpk
      have hg : lexG l N k acc = lexF l := hg
      have hkp := skK_ge hk
      rw [hpk] at hkp
      cases N with
      | zero => omega
      | succ N =>
        rw [lexG, hpk] at hg
        by_cases q : p < l.length
        · rw [if_pos q] at hg
          by_cases h120 : acc.length = 120
          · rw [if_pos h120] at hg
            rw [← hg]
            ((conv => whnf); repeat' ((first | (with_reducible first | apply a_ | apply b_ | apply c_) | ((with_reducible first | apply d_ | apply e_ | apply f_ | apply g_); focus first | omega | (simp only [q_] <;> omega)) | ((with_reducible first | apply i_ | apply h_); focus first | omega | (simp only [q_] <;> omega)) | ((with_reducible apply h_); focus first | decide | kernel_rfl) | refine BCase.t (by decide) ?_ | refine BCase.f (by decide) ?_ | with_reducible first | apply l_ | apply m_ | apply n_ | apply o_ | refine p_ (fun _ => ?_) (fun _ => ?_)) <;> (conv => whnf)))
            all_goals first
              | exact Ret.le ⟨.inr ⟨⟨4, rfl⟩, .inl rfl⟩, .inl rfl, .inl rfl, rfl⟩
              | (exfalso; simp only [List.length_map] at *; omega)
          · rw [if_neg h120] at hg
            have pn := s_next l (by omega) p q
            have hln : (tkL (l.drop p)).2.1 = 0 → _ := tkL_len (r := l.drop p)
            rw [List.length_drop] at hln
            by_cases he : (tkL (l.drop p)).2.1 = 0
            · rw [if_neg (by simp [he])] at hg
              have hn := hln he
              have pk2 := s_skip l (by omega) (p + (tkL (l.drop p)).2.2) (by omega)
              ((conv => whnf); repeat' ((first | (with_reducible first | apply a_ | apply b_ | apply c_) | ((with_reducible first | apply d_ | apply e_ | apply f_ | apply g_); focus first | omega | (simp only [q_] <;> omega)) | ((with_reducible first | apply i_ | apply h_); focus first | omega | (simp only [q_] <;> omega)) | ((with_reducible apply h_); focus first | decide | kernel_rfl) | refine BCase.t (by decide) ?_ | refine BCase.f (by decide) ?_ | with_reducible first | apply l_ | apply m_ | apply n_ | apply o_ | refine p_ (fun _ => ?_) (fun _ => ?_)) <;> (conv => whnf)))
              refine CallP.ret [(FK, 15)] _ _ _ _ _ _ _ pn rfl rfl rfl rfl ⟨rfl, trivial⟩ ?_
              ((conv => whnf); repeat' ((first | (with_reducible first | apply a_ | apply b_ | apply c_) | ((with_reducible first | apply d_ | apply e_ | apply f_ | apply g_); focus first | omega | (simp only [q_] <;> omega)) | ((with_reducible first | apply i_ | apply h_); focus first | omega | (simp only [q_] <;> omega)) | ((with_reducible apply h_); focus first | decide | kernel_rfl) | refine BCase.t (by decide) ?_ | refine BCase.f (by decide) ?_ | (refine Need.by 40 rfl (by simp only [List.length_map, List.length_singleton]; omega) ?_) | with_reducible first | apply l_ | apply m_ | apply n_ | apply o_ | refine p_ (fun _ => ?_) (fun _ => ?_)) <;> (conv => whnf)))
              refine CallP.ret [(FK, 15)] _ _ _ _ _ _ _ pk2 rfl rfl rfl rfl ⟨rfl, trivial⟩ ?_
              ((conv => whnf); repeat' ((first | (with_reducible first | apply a_ | apply b_ | apply c_) | ((with_reducible first | apply d_ | apply e_ | apply f_ | apply g_); focus first | omega | (simp only [q_] <;> omega)) | ((with_reducible first | apply i_ | apply h_); focus first | omega | (simp only [q_] <;> omega)) | ((with_reducible apply h_); focus first | decide | kernel_rfl) | refine BCase.t (by decide) ?_ | refine BCase.f (by decide) ?_ | with_reducible first | apply l_ | apply m_ | apply n_ | apply o_ | refine p_ (fun _ => ?_) (fun _ => ?_)) <;> (conv => whnf)))
              have hsk := skK_ge (l := l) (k := p + (tkL (l.drop p)).2.2) (by omega)
              refine ⟨(skK l (p + (tkL (l.drop p)).2.2), acc ++ [tokD p (tkL (l.drop p)).1]), ⟨skK_le _ _, by show (acc ++ [_]).length ≤ 120; rw [List.length_append, List.length_singleton]; omega, N, p + (tkL (l.drop p)).2.2, by omega, by omega, rfl, hg⟩, by show l.length - skK l _ < l.length - p; omega, [(15, 15), (60, 48)], rfl, rfl, ⟨.inl rfl, ⟨rfl, rfl, rfl, rfl, ?_⟩, ⟨rfl, rfl, rfl⟩, trivial⟩, ⟨rfl, rfl, .inl rfl, .inl rfl, rfl⟩, ⟨rfl, rfl, rfl⟩, trivial⟩
              show _ = (acc ++ [tokD p (tkL (l.drop p)).1]).map TokenD.c
              rw [List.map_append]; rfl
            · rw [if_pos he] at hg
              rw [← hg]
              ((conv => whnf); repeat' ((first | (with_reducible first | apply a_ | apply b_ | apply c_) | ((with_reducible first | apply d_ | apply e_ | apply f_ | apply g_); focus first | omega | (simp only [q_] <;> omega)) | ((with_reducible first | apply i_ | apply h_); focus first | omega | (simp only [q_] <;> omega)) | ((with_reducible apply h_); focus first | decide | kernel_rfl) | refine BCase.t (by decide) ?_ | refine BCase.f (by decide) ?_ | with_reducible first | apply l_ | apply m_ | apply n_ | apply o_ | refine p_ (fun _ => ?_) (fun _ => ?_)) <;> (conv => whnf)))
              refine CallP.ret [(FK, 15)] _ _ _ _ _ _ _ pn rfl rfl rfl rfl ⟨rfl, trivial⟩ ?_
              ((conv => whnf); repeat' ((first | (with_reducible first | apply a_ | apply b_ | apply c_) | ((with_reducible first | apply d_ | apply e_ | apply f_ | apply g_); focus first | omega | (simp only [q_] <;> omega)) | ((with_reducible first | apply i_ | apply h_); focus first | omega | (simp only [q_] <;> omega)) | ((with_reducible apply h_); focus first | decide | kernel_rfl) | refine BCase.t (by decide) ?_ | refine BCase.f (by decide) ?_ | with_reducible first | apply l_ | apply m_ | apply n_ | apply o_ | refine p_ (fun _ => ?_) (fun _ => ?_)) <;> (conv => whnf)))
              all_goals exact Ret.le ⟨.inr ⟨⟨4, rfl⟩, .inl rfl⟩, .inl rfl, .inl rfl, rfl⟩
        · rw [if_neg q] at hg
          rw [← hg]
          ((conv => whnf); repeat' ((first | (with_reducible first | apply a_ | apply b_ | apply c_) | ((with_reducible first | apply d_ | apply e_ | apply f_ | apply g_); focus first | omega | (simp only [q_] <;> omega)) | ((with_reducible first | apply i_ | apply h_); focus first | omega | (simp only [q_] <;> omega)) | ((with_reducible apply h_); focus first | decide | kernel_rfl) | refine BCase.t (by decide) ?_ | refine BCase.f (by decide) ?_ | with_reducible first | apply l_ | apply m_ | apply n_ | apply o_ | refine p_ (fun _ => ?_) (fun _ => ?_)) <;> (conv => whnf)))
          exact Ret.mk rfl
end Go.Proofs.YtjbopncobegleaaDoor.Pm
end
section
namespace Go.Proofs.YtjbopncobegleaaDoor.Pm
open Go.RowKit K
set_option linter.unusedVariables false
set_option linter.unusedSimpArgs false
set_option maxRecDepth 100000
def nmap (seen : List (List UInt8)) : List (ByteArray × Value) := seen.map fun s => (tx s, .agg #[])
theorem mpGet_nmap : ∀ (seen : List (List UInt8)) (s : List UInt8), mpGet (nmap seen) (tx s) = if s ∈ seen then some (.agg #[]) else none
  | [], s => rfl
  | a :: l, s => by
    show (bif decide (tx s = tx a) then _ else _) = _
    by_cases h : s = a
    · subst h; simp
    · have : ¬ tx s = tx a := fun e => h (tx_inj e)
      rw [decide_eq_false this, cond_false]
      show mpGet (nmap l) (tx s) = _
      rw [mpGet_nmap l s]
      simp [h]
theorem mpPut_nmap : ∀ (seen : List (List UInt8)) (s : List UInt8), mpPut (nmap seen) (tx s) (.agg #[]) = if s ∈ seen then nmap seen else nmap (seen ++ [s])
  | [], s => rfl
  | a :: l, s => by
    show (bif decide (tx s = tx a) then _ else _) = _
    by_cases h : s = a
    · subst h; simp [nmap]
    · have : ¬ tx s = tx a := fun e => h (tx_inj e)
      rw [decide_eq_false this, cond_false]
      show _ :: mpPut (nmap l) (tx s) _ = _
      rw [mpPut_nmap l s]
      by_cases h2 : s ∈ l
      · simp [h2, nmap]
      · simp [h, h2, nmap]
theorem nmap_plain (seen : List (List UInt8)) : ∀ p ∈ nmap seen, plainV p.2 = true := by
  intro p hp
  obtain ⟨s, _, rfl⟩ := List.mem_map.1 hp
  rfl
end Go.Proofs.YtjbopncobegleaaDoor.Pm
end
section
namespace Go.Proofs.YtjbopncobegleaaDoor.Pm
open Go.RowKit K
set_option linter.unusedVariables false
set_option linter.unusedSimpArgs false
set_option maxRecDepth 100000
structure ColumnD where
  Name : List UInt8
  Kind : Int
  NotNull : Bool
  Unique : Bool
def ColumnD.c (x : ColumnD) : List C := [.v (.string (tx x.Name)), .v (.int .i64 x.Kind), .v (.bool x.NotNull), .v (.bool x.Unique)]
def ColumnD.ok (x : ColumnD) : Prop := okText x.Name ∧ okInt x.Kind ∧ okAny x.NotNull ∧ okAny x.Unique
def ColumnD.eqB (x y : ColumnD) : Bool := (decide (tx x.Name = tx y.Name) && (decide (x.Kind = y.Kind) && ((x.NotNull == y.NotNull) && ((x.Unique == y.Unique) && true))))
theorem ColumnD.eqB_iff (x y : ColumnD) : ColumnD.eqB x y = true ↔ x = y := by
  cases x; cases y
  simp [ColumnD.eqB, tx_eq]
structure SchemaD where
  Id : Int
  Name : List UInt8
  Cols : List ColumnD
def SchemaD.c (x : SchemaD) : List C := [.v (.int .i64 x.Id), .v (.string (tx x.Name)), .sl 4 (x.Cols.map ColumnD.c)]
abbrev cV (x : ColumnD) : PV := .agg (x.c.map D.c)
abbrev sV (x : SchemaD) : PV := .agg (x.c.map D.c)
def SchemaD.eqB (x y : SchemaD) : Bool := decide (x.Id = y.Id) && (decide (tx x.Name = tx y.Name) && listEqB ColumnD.eqB x.Cols y.Cols)
theorem SchemaD.eqB_iff (x y : SchemaD) : SchemaD.eqB x y = true ↔ x = y := by
  cases x; cases y
  simp [SchemaD.eqB, listEqB_iff ColumnD.eqB_iff, tx_eq]
def colsGo (seen : List (List UInt8)) : List ColumnD → Int
  | [] => 0
  | c :: r => if nameB c.Name = false then 1 else if c.Kind < 0 ∨ 3 < c.Kind then 7 else if c.Name ∈ seen then 6 else colsGo (seen ++ [c.Name]) r
def colsChk (l : List ColumnD) : Int := if l.length = 0 then 1 else if 6 < l.length then 2 else colsGo [] l
def schGo (last : Int) (seen : List (List UInt8)) : List SchemaD → Int
  | [] => 0
  | s :: r => if s.Id < 1 ∨ 999 < s.Id then 3 else if s.Id ≤ last then 4 else if nameB s.Name = false then 1 else if colsChk s.Cols ≠ 0 then colsChk s.Cols else if s.Name ∈ seen then 6 else schGo s.Id (seen ++ [s.Name]) r
def schChk (l : List SchemaD) : Int := if 6 < l.length then 2 else schGo 0 [] l
abbrev nsz (n : Nat) : Prop := n ≤ 140737488355328
def colsSh (l : List ColumnD) : Prop := nsz l.length ∧ ∀ c ∈ l, okText c.Name
def schSh (l : List SchemaD) : Prop := nsz l.length ∧ ∀ s ∈ l, okText s.Name ∧ colsSh s.Cols
theorem mem_take {α : Type} {f : α → List UInt8} {l : List α} {k : Nat} {s : List UInt8} : s ∈ (l.take k).map f ↔ ∃ j, ∃ h : j < l.length, j < k ∧ f l[j] = s := by
  rw [List.mem_map]
  constructor
  · rintro ⟨x, hx, rfl⟩
    obtain ⟨j, hj, rfl⟩ := List.getElem_of_mem hx
    rw [List.length_take] at hj
    exact ⟨j, by omega, by omega, by rw [List.getElem_take]⟩
  · rintro ⟨j, h, h2, rfl⟩
    exact ⟨l[j], List.mem_take_iff_getElem.2 ⟨j, by omega, rfl⟩, rfl⟩
end Go.Proofs.YtjbopncobegleaaDoor.Pm
end
section
namespace Go.Proofs.YtjbopncobegleaaDoor.Pm
open Go.RowKit K
set_option linter.unusedVariables false
set_option linter.unusedSimpArgs false
set_option maxRecDepth 100000
end Go.Proofs.YtjbopncobegleaaDoor.Pm
end
section
namespace Go.Proofs.YtjbopncobegleaaDoor.Pm
open Go.RowKit K
set_option linter.unusedVariables false
set_option linter.unusedSimpArgs false
set_option maxRecDepth 100000
structure EntryD where
  Id : Int
  Row : List ValueD
def EntryD.c (x : EntryD) : List C := [.v (.int .i64 x.Id), .sl 3 (x.Row.map ValueD.c)]
def EntryD.ok (x : EntryD) : Prop := okInt x.Id ∧ (okSl (Tryd.prog.bytesOf 61) ValueD.ok) x.Row
def rowChk (l : List ValueD) : Int := if 8 < l.length then 2 else vChkAll l
def riseE (id last : Int) : Int := if id < 1 then 3 else if id ≤ last then 4 else 0
def entGo (last : Int) : List EntryD → Int
  | [] => 0
  | x :: r => if riseE x.Id last ≠ 0 then riseE x.Id last else if rowChk x.Row ≠ 0 then rowChk x.Row else entGo x.Id r
def entChk (l : List EntryD) : Int := if 40 < l.length then 2 else entGo 0 l
def EntryD.eqB (x y : EntryD) : Bool := decide (x.Id = y.Id) && listEqB ValueD.eqB x.Row y.Row
theorem EntryD.eqB_iff (x y : EntryD) : EntryD.eqB x y = true ↔ x = y := by
  cases x; cases y
  simp [EntryD.eqB, listEqB_iff ValueD.eqB_iff]
abbrev rowsShort (l : List EntryD) : Prop := ∀ x ∈ l, x.Row.length ≤ 140737488355328
abbrev idBox (n : Int) : HB := .box 2 [.c (.v (.int .i64 n))]
end Go.Proofs.YtjbopncobegleaaDoor.Pm
end
section
namespace Go.Proofs.YtjbopncobegleaaDoor.Pm
open Go.RowKit K
set_option linter.unusedVariables false
set_option linter.unusedSimpArgs false
set_option maxRecDepth 100000
def flagB (b : Bool) (c : UInt8) : UInt8 := if b then c else 45
def colH (c : ColumnD) : List UInt8 := [by1 (48 + c.Kind), flagB c.NotNull 110, flagB c.Unique 117]
def colT (c : ColumnD) : List UInt8 := colH c ++ c.Name
def colV (c : ColumnD) : ValueD := ⟨2, 0, colT c⟩
def kindOk (c : ColumnD) : Prop := 0 ≤ c.Kind ∧ c.Kind ≤ 3
def entOf (s : SchemaD) : EntryD := ⟨s.Id, ⟨2, 0, s.Name⟩ :: s.Cols.map colV⟩
abbrev eV (x : EntryD) : PV := .agg (x.c.map D.c)
def unC (v : ValueD) : ColumnD := ⟨v.S.drop 3, ((v.S.getD 0 0).toNat : Int) - 48, decide (v.S.getD 1 0 = 110), decide (v.S.getD 2 0 = 117)⟩
def unShort (v : ValueD) : Prop := v.Kind ≠ 2 ∨ v.S.length < 3
def unB (v : ValueD) : Bool := decide (v.Kind = 2) && (decide (3 ≤ v.S.length) && (decide (0 ≤ (unC v).Kind) && (decide ((unC v).Kind ≤ 3) && ValueD.eqB (colV (unC v)) v)))
def unR (v : ValueD) : ColumnD := if v.Kind ≠ 2 ∨ v.S.length < 3 then ⟨[], 0, false, false⟩ else unC v
theorem tup2 {a b : PV} {x y : Bool} (h : a = b) (k : x = y) : PV.tup [a, pBool x] = PV.tup [b, pBool y] := by rw [h, k]
theorem u8_dec (a b : UInt8) : decide ((a.toNat : Int) = (b.toNat : Int)) = decide (a = b) := by
  by_cases h : a = b
  · simp [h]
  · rw [decide_eq_false h, decide_eq_false fun e => h (u8_eq.1 e)]
end Go.Proofs.YtjbopncobegleaaDoor.Pm
end
section
namespace Go.Proofs.YtjbopncobegleaaDoor.Pm
open Go.RowKit K
set_option linter.unusedVariables false
set_option linter.unusedSimpArgs false
set_option maxRecDepth 100000
def schB (x : EntryD) : Bool := match x.Row with
  | [] => false
  | v :: r => decide (v.Kind = 2) && r.all unB
def schS (x : EntryD) : SchemaD := match x.Row with
  | [] => ⟨0, [], []⟩
  | v :: r => ⟨x.Id, v.S, r.map unC⟩
def rowText (l : List ValueD) : Prop := l.length * 32 ≤ 140737488351232 ∧ ∀ v ∈ l, okText v.S
def entText (l : List EntryD) : Prop := l.length * 32 ≤ 140737488351232 ∧ ∀ x ∈ l, rowText x.Row
theorem unB_kind {v : ValueD} (h : unB v = true) : ¬ (v.Kind ≠ 2 ∨ v.S.length < 3) := by
  unfold unB at h
  simp only [Bool.and_eq_true, decide_eq_true_eq] at h
  omega
theorem unR_unC {v : ValueD} (h : unB v = true) : unR v = unC v := if_neg (unB_kind h)
abbrev tVal : Nat := 61
theorem map_take_snoc {α β : Type} {f : α → β} {l : List α} {k : Nat} (h : k < l.length) : (l.take k).map f ++ [f l[k]] = (l.take (k + 1)).map f := by
  rw [take_snoc h, List.map_append]; rfl
def catE (l : List EntryD) : Int := if entChk l ≠ 0 then entChk l else if l.all schB = false then 1 else schChk (l.map schS)
def catL (l : List EntryD) : List SchemaD := if catE l = 0 then l.map schS else []
theorem schS_sh {x : EntryD} (h : rowText x.Row) (hb : schB x = true) : okText (schS x).Name ∧ colsSh (schS x).Cols := by
  obtain ⟨id, row⟩ := x
  cases row with
  | nil => cases hb
  | cons v r =>
    obtain ⟨h1, h2⟩ := h
    refine ⟨h2 v (List.mem_cons_self ..), ?_, ?_⟩
    · show (r.map unC).length ≤ _
      rw [List.length_map]
      have : (r.length + 1) * 32 ≤ 140737488351232 := h1
      omega
    · intro c hc
      obtain ⟨w, hw, rfl⟩ := List.mem_map.1 hc
      have := h2 w (List.mem_cons_of_mem _ hw)
      unfold okText unC at *
      simp only [List.length_drop]; omega
theorem schS_all {l : List EntryD} (h : entText l) (hb : l.all schB = true) : schSh (l.map schS) := by
  refine ⟨by have := h.1; show _ ≤ _; rw [List.length_map]; omega, fun s hs => ?_⟩
  obtain ⟨x, hx, rfl⟩ := List.mem_map.1 hs
  exact schS_sh (h.2 x hx) (List.all_eq_true.1 hb x hx)
theorem entText_short {l : List EntryD} (h : entText l) : rowsShort l := fun x hx => by have := (h.2 x hx).1; omega
end Go.Proofs.YtjbopncobegleaaDoor.Pm
end
section
namespace Go.Proofs.YtjbopncobegleaaDoor.Pm
open Go.RowKit K
set_option linter.unusedVariables false
set_option linter.unusedSimpArgs false
set_option maxRecDepth 100000
theorem colsGo_ok : ∀ {l : List ColumnD} {seen : List (List UInt8)}, colsGo seen l = 0 → ∀ c ∈ l, kindOk c ∧ nameB c.Name = true
  | [], _, _, c, hc => by cases hc
  | x :: l, seen, h, c, hc => by
    unfold colsGo at h
    split at h
    · cases h
    · split at h
      · cases h
      · split at h
        · cases h
        · rename_i h1 h2 h3
          rcases List.mem_cons.1 hc with rfl | hc
          · exact ⟨⟨by omega, by omega⟩, by simpa using h1⟩
          · exact colsGo_ok h c hc
theorem colsChk_ok {l : List ColumnD} (h : colsChk l = 0) : (1 ≤ l.length ∧ l.length ≤ 6) ∧ ∀ c ∈ l, kindOk c ∧ nameB c.Name = true := by
  unfold colsChk at h
  split at h
  · cases h
  · split at h
    · cases h
    · exact ⟨by omega, colsGo_ok h⟩
theorem schGo_ok : ∀ {l : List SchemaD} {last : Int} {seen : List (List UInt8)}, schGo last seen l = 0 → ∀ s ∈ l, colsChk s.Cols = 0 ∧ nameB s.Name = true ∧ (1 ≤ s.Id ∧ s.Id ≤ 999)
  | [], _, _, _, s, hs => by cases hs
  | x :: l, last, seen, h, s, hs => by
    unfold schGo at h
    split at h
    · cases h
    · split at h
      · cases h
      · split at h
        · cases h
        · split at h
          · rename_i h4; exact absurd h h4
          · split at h
            · cases h
            · rename_i h1 h2 h3 h4 h5
              rcases List.mem_cons.1 hs with rfl | hs
              · exact ⟨by omega, by simpa using h3, by omega⟩
              · exact schGo_ok h s hs
theorem schChk_ok {l : List SchemaD} (h : schChk l = 0) : l.length ≤ 6 ∧ ∀ s ∈ l, colsChk s.Cols = 0 ∧ nameB s.Name = true ∧ (1 ≤ s.Id ∧ s.Id ≤ 999) := by
  unfold schChk at h
  split at h
  · cases h
  · exact ⟨by omega, schGo_ok h⟩
theorem p_digits0 : Pure Tryd.prog 74 [pInt .u64 0] (pStr (tx [])) := by
  refine pure_of Tryd.func74 (by rfl) rfl (by kernel_rfl) (by rfl) ?_
  ((conv => whnf); repeat' ((first | (with_reducible first | apply a_ | apply b_ | apply c_) | ((with_reducible first | apply d_ | apply e_ | apply f_ | apply g_); focus first | omega | (simp only [q_] <;> omega)) | ((with_reducible first | apply i_ | apply h_); focus first | omega | (simp only [q_] <;> omega)) | ((with_reducible apply h_); focus first | decide | kernel_rfl) | refine BCase.t (by decide) ?_ | refine BCase.f (by decide) ?_ | with_reducible first | apply l_ | apply m_ | apply n_ | apply o_ | refine p_ (fun _ => ?_) (fun _ => ?_)) <;> (conv => whnf)))
  exact Ret.mk rfl
theorem p_digit1 (n : Int) (h1 : 1 ≤ n) (h2 : n ≤ 9) : Pure Tryd.prog 74 [pInt .u64 n] (pStr (tx [by1 (n + 48)])) := by
  refine pure_of Tryd.func74 (by rfl) rfl (by kernel_rfl) (by rfl) ?_
  have e1 : n.tdiv 10 = 0 := by rw [tdiv_nn (by omega)]; omega
  have e2 : n.tmod 10 = n := by rw [tmod_nn (by omega)]; omega
  have p0 : Pure Tryd.prog 74 [pInt .u64 (n.tdiv 10)] (pStr (tx [])) := by rw [e1]; exact p_digits0
  have p1 : Pure Tryd.prog 64 [pInt .i64 (n.tmod 10 + 48)] (pStr (tx [by1 (n + 48)])) := by rw [e2]; exact p_onebyteN (n + 48)
  ((conv => whnf); repeat' ((first | (with_reducible first | apply a_ | apply b_ | apply c_) | ((with_reducible first | apply d_ | apply e_ | apply f_ | apply g_); focus first | omega | (simp only [q_] <;> omega)) | ((with_reducible first | apply i_ | apply h_); focus first | omega | (simp only [q_] <;> omega)) | ((with_reducible apply h_); focus first | decide | kernel_rfl) | refine BCase.t (by decide) ?_ | refine BCase.f (by decide) ?_ | refine CallP.pure _ rfl _ (p0) ?_ | refine CallP.pure _ rfl _ (p1) ?_ | with_reducible first | apply l_ | apply m_ | apply n_ | apply o_ | refine p_ (fun _ => ?_) (fun _ => ?_)) <;> (conv => whnf)))
  exact Ret.text rfl
theorem p_inttext (n : Int) (h1 : 0 ≤ n) (h2 : n ≤ 9) : Pure Tryd.prog 56 [pInt .i64 n] (pStr (tx [by1 (48 + n)])) := by
  refine pure_of Tryd.func56 (by rfl) rfl (by kernel_rfl) (by rfl) ?_
  by_cases h0 : n = 0
  · subst h0
    ((conv => whnf); repeat' ((first | (with_reducible first | apply a_ | apply b_ | apply c_) | ((with_reducible first | apply d_ | apply e_ | apply f_ | apply g_); focus first | omega | (simp only [q_] <;> omega)) | ((with_reducible first | apply i_ | apply h_); focus first | omega | (simp only [q_] <;> omega)) | ((with_reducible apply h_); focus first | decide | kernel_rfl) | refine BCase.t (by decide) ?_ | refine BCase.f (by decide) ?_ | with_reducible first | apply l_ | apply m_ | apply n_ | apply o_ | refine p_ (fun _ => ?_) (fun _ => ?_)) <;> (conv => whnf)))
    exact Ret.text rfl
  · have pd := p_digit1 n (by omega) h2
    ((conv => whnf); repeat' ((first | (with_reducible first | apply a_ | apply b_ | apply c_) | ((with_reducible first | apply d_ | apply e_ | apply f_ | apply g_); focus first | omega | (simp only [q_] <;> omega)) | ((with_reducible first | apply i_ | apply h_); focus first | omega | (simp only [q_] <;> omega)) | ((with_reducible apply h_); focus first | decide | kernel_rfl) | refine BCase.t (by decide) ?_ | refine BCase.f (by decide) ?_ | refine CallP.pure _ rfl _ (pd) ?_ | with_reducible first | apply l_ | apply m_ | apply n_ | apply o_ | refine p_ (fun _ => ?_) (fun _ => ?_)) <;> (conv => whnf)))
    exact Ret.text (by rw [Int.add_comm])
def rowsL (l : List SchemaD) : List EntryD := if schChk l = 0 then l.map entOf else []
end Go.Proofs.YtjbopncobegleaaDoor.Pm
end
section
namespace Go.Proofs.YtjbopncobegleaaDoor.Pm
open Go.RowKit K
set_option linter.unusedVariables false
set_option linter.unusedSimpArgs false
set_option maxRecDepth 100000
def digL (n : Nat) : List UInt8 := if n = 0 then [] else Lib.decDigits n
theorem digL_step {n : Nat} (h : n ≠ 0) : digL n = digL (n / 10) ++ [UInt8.ofNat (48 + n % 10)] := by
  unfold digL
  rw [if_neg h, Lib.decDigits]
  by_cases h10 : n < 10
  · rw [dif_pos h10, if_pos (by omega), show n % 10 = n by omega]; rfl
  · rw [dif_neg h10, if_neg (by omega)]
theorem digL_len : ∀ (k n : Nat), n < 10 ^ k → (digL n).length ≤ k
  | 0, n, h => by
    have : n = 0 := by simpa using h
    subst this
    simp [digL]
  | k + 1, n, h => by
    by_cases h0 : n = 0
    · subst h0; simp [digL]
    · rw [digL_step h0, List.length_append, List.length_singleton]
      have := digL_len k (n / 10) (by rw [Nat.pow_succ] at h; omega)
      omega
theorem p_digitsof : ∀ (N n : Nat), n ≤ N → n ≤ 18446744073709551615 → Pure Tryd.prog 74 [pInt .u64 (n : Int)] (pStr (tx (digL n)))
  | N, n, hN, hn => by
    by_cases h0 : n = 0
    · subst h0; exact p_digits0
    · match N, hN with
      | 0, hN => exact absurd (Nat.le_zero.1 hN) h0
      | N + 1, hN =>
        have e1 : (n : Int).tdiv 10 = ((n / 10 : Nat) : Int) := by rw [tdiv_nn (by omega)]; omega
        have e2 : (n : Int).tmod 10 = ((n % 10 : Nat) : Int) := by rw [tmod_nn (by omega)]; omega
        have p0 : Pure Tryd.prog 74 [pInt .u64 ((n : Int).tdiv 10)] (pStr (tx (digL (n / 10)))) := by rw [e1]; exact p_digitsof N (n / 10) (by omega) (by omega)
        have p1 : Pure Tryd.prog 64 [pInt .i64 ((n : Int).tmod 10 + 48)] (pStr (tx [UInt8.ofNat (48 + n % 10)])) := by
          have : UInt8.ofNat (48 + n % 10) = by1 ((n : Int).tmod 10 + 48) := by
            rw [e2, ← by1_toNat (UInt8.ofNat (48 + n % 10)), u8_small (by omega)]
            congr 1; omega
          rw [this]
          exact p_onebyteN _
        have hl := digL_len 20 (n / 10) (by show _ < 100000000000000000000; omega)
        have tz := tx_size (digL (n / 10))
        refine pure_of Tryd.func74 (by rfl) rfl (by kernel_rfl) (by rfl) ?_
        ((conv => whnf); repeat' ((first | (with_reducible first | apply a_ | apply b_ | apply c_) | ((with_reducible first | apply d_ | apply e_ | apply f_ | apply g_); focus first | omega | (simp only [q_] <;> omega)) | ((with_reducible first | apply i_ | apply h_); focus first | omega | (simp only [q_] <;> omega)) | ((with_reducible apply h_); focus first | decide | kernel_rfl) | refine BCase.t (by decide) ?_ | refine BCase.f (by decide) ?_ | refine CallP.pure _ rfl _ (p0) ?_ | refine CallP.pure _ rfl _ (p1) ?_ | (refine Need.mk (by show (digL (n / 10)).length + 1 ≤ _; omega) ?_) | with_reducible first | apply l_ | apply m_ | apply n_ | apply o_ | refine p_ (fun _ => ?_) (fun _ => ?_)) <;> (conv => whnf)))
        exact Ret.text (digL_step h0).symm
theorem p_inttextN (n : Int) (h1 : -9223372036854775808 ≤ n) (h2 : n ≤ 9223372036854775807) : Pure Tryd.prog 56 [pInt .i64 n] (pStr (tx (Lib.itoa n))) := by
  refine pure_of Tryd.func56 (by rfl) rfl (by kernel_rfl) (by rfl) ?_
  by_cases h0 : n = 0
  · subst h0
    ((conv => whnf); repeat' ((first | (with_reducible first | apply a_ | apply b_ | apply c_) | ((with_reducible first | apply d_ | apply e_ | apply f_ | apply g_); focus first | omega | (simp only [q_] <;> omega)) | ((with_reducible first | apply i_ | apply h_); focus first | omega | (simp only [q_] <;> omega)) | ((with_reducible apply h_); focus first | decide | kernel_rfl) | refine BCase.t (by decide) ?_ | refine BCase.f (by decide) ?_ | with_reducible first | apply l_ | apply m_ | apply n_ | apply o_ | refine p_ (fun _ => ?_) (fun _ => ?_)) <;> (conv => whnf)))
    refine Ret.text ?_
    unfold Lib.itoa
    rw [if_neg (by decide), Lib.decDigits, dif_pos (by decide)]; rfl
  · by_cases hn : n < 0
    · have e : (0 - (n + 1)) + 1 = ((n.natAbs : Nat) : Int) := by omega
      have pd : Pure Tryd.prog 74 [pInt .u64 ((0 - (n + 1)) + 1)] (pStr (tx (digL n.natAbs))) := by rw [e]; exact p_digitsof _ _ (Nat.le_refl _) (by omega)
      have hl := digL_len 20 n.natAbs (by show _ < 100000000000000000000; omega)
      have tz := tx_size (digL n.natAbs)
      ((conv => whnf); repeat' ((first | (with_reducible first | apply a_ | apply b_ | apply c_) | ((with_reducible first | apply d_ | apply e_ | apply f_ | apply g_); focus first | omega | (simp only [q_] <;> omega)) | ((with_reducible first | apply i_ | apply h_); focus first | omega | (simp only [q_] <;> omega)) | ((with_reducible apply h_); focus first | decide | kernel_rfl) | refine BCase.t (by decide) ?_ | refine BCase.f (by decide) ?_ | refine CallP.pure _ rfl _ (pd) ?_ | (refine Need.mk (by show 1 + (digL n.natAbs).length ≤ _; omega) ?_) | with_reducible first | apply l_ | apply m_ | apply n_ | apply o_ | refine p_ (fun _ => ?_) (fun _ => ?_)) <;> (conv => whnf)))
      refine Ret.text (a := [45] ++ digL n.natAbs) ?_
      unfold Lib.itoa digL
      rw [if_pos hn, if_neg (by omega)]; rfl
    · have e : n = ((n.toNat : Nat) : Int) := by omega
      have pd : Pure Tryd.prog 74 [pInt .u64 n] (pStr (tx (digL n.toNat))) := by rw [show pInt .u64 n = pInt .u64 ((n.toNat : Nat) : Int) by rw [← e]]; exact p_digitsof _ _ (Nat.le_refl _) (by omega)
      ((conv => whnf); repeat' ((first | (with_reducible first | apply a_ | apply b_ | apply c_) | ((with_reducible first | apply d_ | apply e_ | apply f_ | apply g_); focus first | omega | (simp only [q_] <;> omega)) | ((with_reducible first | apply i_ | apply h_); focus first | omega | (simp only [q_] <;> omega)) | ((with_reducible apply h_); focus first | decide | kernel_rfl) | refine BCase.t (by decide) ?_ | refine BCase.f (by decide) ?_ | refine CallP.pure _ rfl _ (pd) ?_ | with_reducible first | apply l_ | apply m_ | apply n_ | apply o_ | refine p_ (fun _ => ?_) (fun _ => ?_)) <;> (conv => whnf)))
      refine Ret.text ?_
      unfold Lib.itoa digL
      rw [if_neg hn, if_neg (by omega)]
theorem p_hexdigit (n : Nat) (h : n < 16) : Pure Tryd.prog 57 [pInt .i64 (n : Int)] (pStr (tx [hexd n])) := by
  have : n = 0 ∨ n = 1 ∨ n = 2 ∨ n = 3 ∨ n = 4 ∨ n = 5 ∨ n = 6 ∨ n = 7 ∨ n = 8 ∨ n = 9 ∨ n = 10 ∨ n = 11 ∨ n = 12 ∨ n = 13 ∨ n = 14 ∨ n = 15 := by omega
  have e : ∀ k, k < 16 → (⟨#[48, 49, 50, 51, 52, 53, 54, 55, 56, 57, 97, 98, 99, 100, 101, 102]⟩ : ByteArray).extract ((k : Nat) : Int).toNat (((k : Nat) : Int) + 1).toNat = tx [hexd k] := by decide +kernel
  refine pure_of Tryd.func57 (by rfl) rfl (by kernel_rfl) (by rfl) ?_
  ((conv => whnf); repeat' ((first | (with_reducible first | apply a_ | apply b_ | apply c_) | ((with_reducible first | apply d_ | apply e_ | apply f_ | apply g_); focus first | omega | (simp only [q_] <;> omega)) | ((with_reducible first | apply i_ | apply h_); focus first | omega | (simp only [q_] <;> omega)) | ((with_reducible apply h_); focus first | decide | kernel_rfl) | refine BCase.t (by decide) ?_ | refine BCase.f (by decide) ?_ | (refine Need.mk (by show (0 : Int) ≤ n ∧ (n : Int) ≤ n + 1 ∧ (n : Int) + 1 ≤ (16 : Int); omega) ?_) | with_reducible first | apply l_ | apply m_ | apply n_ | apply o_ | refine p_ (fun _ => ?_) (fun _ => ?_)) <;> (conv => whnf)))
  exact Ret.str (e n h)
theorem p_hexof (c : UInt8) : Pure Tryd.prog 76 [pInt .u8 (c.toNat : Int)] (pInt .i64 (hexI c)) := by
  have hc := c.toNat_lt
  refine pure_of Tryd.func76 (by rfl) rfl (by kernel_rfl) (by rfl) ?_
  unfold hexI hexv
  by_cases h1 : 48 ≤ c.toNat ∧ c.toNat ≤ 57
  · rw [if_pos h1]
    ((conv => whnf); repeat' ((first | (with_reducible first | apply a_ | apply b_ | apply c_) | ((with_reducible first | apply d_ | apply e_ | apply f_ | apply g_); focus first | omega | (simp only [q_] <;> omega)) | ((with_reducible first | apply i_ | apply h_); focus first | omega | (simp only [q_] <;> omega)) | ((with_reducible apply h_); focus first | decide | kernel_rfl) | refine BCase.t (by decide) ?_ | refine BCase.f (by decide) ?_ | with_reducible first | apply l_ | apply m_ | apply n_ | apply o_ | refine p_ (fun _ => ?_) (fun _ => ?_)) <;> (conv => whnf)))
    all_goals exact Ret.int (by show _ = ((c.toNat - 48 : Nat) : Int); omega)
  · rw [if_neg h1]
    by_cases h2 : 97 ≤ c.toNat ∧ c.toNat ≤ 102
    · rw [if_pos h2]
      ((conv => whnf); repeat' ((first | (with_reducible first | apply a_ | apply b_ | apply c_) | ((with_reducible first | apply d_ | apply e_ | apply f_ | apply g_); focus first | omega | (simp only [q_] <;> omega)) | ((with_reducible first | apply i_ | apply h_); focus first | omega | (simp only [q_] <;> omega)) | ((with_reducible apply h_); focus first | decide | kernel_rfl) | refine BCase.t (by decide) ?_ | refine BCase.f (by decide) ?_ | with_reducible first | apply l_ | apply m_ | apply n_ | apply o_ | refine p_ (fun _ => ?_) (fun _ => ?_)) <;> (conv => whnf)))
      all_goals first
        | exact Ret.int (by show _ = ((c.toNat - 87 : Nat) : Int); omega)
        | (exfalso; omega)
    · rw [if_neg h2]
      ((conv => whnf); repeat' ((first | (with_reducible first | apply a_ | apply b_ | apply c_) | ((with_reducible first | apply d_ | apply e_ | apply f_ | apply g_); focus first | omega | (simp only [q_] <;> omega)) | ((with_reducible first | apply i_ | apply h_); focus first | omega | (simp only [q_] <;> omega)) | ((with_reducible apply h_); focus first | decide | kernel_rfl) | refine BCase.t (by decide) ?_ | refine BCase.f (by decide) ?_ | with_reducible first | apply l_ | apply m_ | apply n_ | apply o_ | refine p_ (fun _ => ?_) (fun _ => ?_)) <;> (conv => whnf)))
      all_goals first
        | exact Ret.int rfl
        | (exfalso; omega)
end Go.Proofs.YtjbopncobegleaaDoor.Pm
end
section
namespace Go.Proofs.YtjbopncobegleaaDoor.Pm
open Go.RowKit K
set_option linter.unusedVariables false
set_option linter.unusedSimpArgs false
set_option maxRecDepth 100000
theorem p_textless (a b : List UInt8) (ha : okText a) (hb : okText b) : Pure Tryd.prog 77 [pStr (tx a), pStr (tx b)] (pBool (decide (Lib.compareBytes a b < 0))) := by
  refine pure_hand (vs := [.string (tx a), .string (tx b)]) ⟨_, Tryd.func77, by rfl, by rfl⟩ fun w hG => ?_
  refine (ValP.textless_any (tx a) (tx b) w ha hb).mono ?_
  rintro e w' ⟨rfl, hbl⟩
  exact ⟨_, rfl, hbl, fun F _ => rep_bool _⟩
theorem p_alldigits (s : List UInt8) (hs : okText s) : Pure Tryd.prog 65 [pStr (tx s)] (pBool (allB s)) := by
  have hz := tx_size s
  have hs' : s.length ≤ 140737488351232 := hs
  have d48 : ∀ c : UInt8, c = 48 ↔ ((c.toNat : Nat) : Int) = 48 := fun c => ⟨fun e => by rw [e]; rfl, fun e => by rw [← u8_back c, show c.toNat = 48 by omega]; rfl⟩
  have h48 := d48 (s.getD 0 0)
  rw [← headD_get] at h48
  rw [headD_get] at h48
  refine pure_of Tryd.func65 (by rfl) rfl (by kernel_rfl) (by rfl) ?_
  ((conv => whnf); repeat' ((first | (with_reducible first | apply a_ | apply b_ | apply c_) | ((with_reducible first | apply d_ | apply e_ | apply f_ | apply g_); focus first | omega | (simp only [q_] <;> omega)) | ((with_reducible first | apply i_ | apply h_); focus first | omega | (simp only [q_] <;> omega)) | ((with_reducible apply h_); focus first | decide | kernel_rfl) | refine BCase.t (by decide) ?_ | refine BCase.f (by decide) ?_ | with_reducible first | apply l_ | apply m_ | apply n_ | apply o_ | refine p_ (fun _ => ?_) (fun _ => ?_)) <;> (conv => whnf)))
  refine LoopC.mk Nat (fun k => [(0, pStr (tx s)), (3, pInt .i64 (k : Int))]) (fun _ => []) [] (fun k => k ≤ s.length ∧ (s.take k).all isDig = true) (fun k => s.length - k) 0 ⟨Nat.zero_le _, by rw [List.take_zero]; rfl⟩ ?start ?round
  case start => exact ⟨[], rfl, rfl, ⟨.inl rfl, .inl rfl, trivial⟩, trivial⟩
  case round =>
    rintro k ⟨hk, ha⟩
    have hk : k ≤ s.length := hk
    have ha : (s.take k).all isDig = true := ha
    by_cases q : k < s.length
    · have eg : s.getD k 0 = s[k] := by rw [List.getD_eq_getElem?_getD, List.getElem?_eq_getElem q]; rfl
      have hall : (s.take (k + 1)).all isDig = ((s.take k).all isDig && isDig s[k]) := by rw [take_snoc q, List.all_append]; simp
      by_cases hd : isDig s[k] = true
      · have hd2 := of_decide_eq_true hd
        rw [← eg] at hd2
        ((conv => whnf); repeat' ((first | (with_reducible first | apply a_ | apply b_ | apply c_) | ((with_reducible first | apply d_ | apply e_ | apply f_ | apply g_); focus first | omega | (simp only [q_] <;> omega)) | ((with_reducible first | apply i_ | apply h_); focus first | omega | (simp only [q_] <;> omega)) | ((with_reducible apply h_); focus first | decide | kernel_rfl) | refine BCase.t (by decide) ?_ | refine BCase.f (by decide) ?_ | (refine SIdx.tx k rfl q ?_) | with_reducible first | apply l_ | apply m_ | apply n_ | apply o_ | refine p_ (fun _ => ?_) (fun _ => ?_)) <;> (conv => whnf)))
        exact ⟨k + 1, ⟨by show k + 1 ≤ _; omega, by show (s.take (k + 1)).all isDig = true; rw [hall, ha, hd]; rfl⟩, by show s.length - (k + 1) < s.length - k; omega, [], rfl, rfl, ⟨.inl rfl, PLe.int (by omega), trivial⟩, trivial⟩
      · have hd2 : ¬ (48 ≤ s[k].toNat ∧ s[k].toNat ≤ 57) := fun x => hd (decide_eq_true x)
        rw [← eg] at hd2
        have hf : allB s = false := by
          unfold allB
          cases hx : s.all isDig with
          | false => rfl
          | true => exact absurd (List.all_eq_true.1 hx _ (List.getElem_mem q)) hd
        rw [hf]
        ((conv => whnf); repeat' ((first | (with_reducible first | apply a_ | apply b_ | apply c_) | ((with_reducible first | apply d_ | apply e_ | apply f_ | apply g_); focus first | omega | (simp only [q_] <;> omega)) | ((with_reducible first | apply i_ | apply h_); focus first | omega | (simp only [q_] <;> omega)) | ((with_reducible apply h_); focus first | decide | kernel_rfl) | refine BCase.t (by decide) ?_ | refine BCase.f (by decide) ?_ | (refine SIdx.tx k rfl q ?_) | with_reducible first | apply l_ | apply m_ | apply n_ | apply o_ | refine p_ (fun _ => ?_) (fun _ => ?_)) <;> (conv => whnf)))
        all_goals first
          | exact Ret.bool rfl
          | (exfalso; omega)
    · rw [List.take_of_length_le (by omega)] at ha
      unfold allB
      rw [ha]
      by_cases h1 : s.length = 1
      · ((conv => whnf); repeat' ((first | (with_reducible first | apply a_ | apply b_ | apply c_) | ((with_reducible first | apply d_ | apply e_ | apply f_ | apply g_); focus first | omega | (simp only [q_] <;> omega)) | ((with_reducible first | apply i_ | apply h_); focus first | omega | (simp only [q_] <;> omega)) | ((with_reducible apply h_); focus first | decide | kernel_rfl) | refine BCase.t (by decide) ?_ | refine BCase.f (by decide) ?_ | with_reducible first | apply l_ | apply m_ | apply n_ | apply o_ | refine p_ (fun _ => ?_) (fun _ => ?_)) <;> (conv => whnf)))
        all_goals exact Ret.bool (by rw [decide_eq_true h1]; rfl)
      · by_cases h2 : 1 < s.length
        · ((conv => whnf); repeat' ((first | (with_reducible first | apply a_ | apply b_ | apply c_) | ((with_reducible first | apply d_ | apply e_ | apply f_ | apply g_); focus first | omega | (simp only [q_] <;> omega)) | ((with_reducible first | apply i_ | apply h_); focus first | omega | (simp only [q_] <;> omega)) | ((with_reducible apply h_); focus first | decide | kernel_rfl) | refine BCase.t (by decide) ?_ | refine BCase.f (by decide) ?_ | (refine SIdx.tx 0 rfl (by omega) ?_) | with_reducible first | apply l_ | apply m_ | apply n_ | apply o_ | refine p_ (fun _ => ?_) (fun _ => ?_)) <;> (conv => whnf)))
          all_goals
            refine Ret.bool ?_
            rw [decide_eq_false h1, decide_eq_true h2, Bool.true_and, Bool.false_or, Bool.true_and, headD_get]
            exact decide_eq_decide.2 (not_congr h48.symm)
        · ((conv => whnf); repeat' ((first | (with_reducible first | apply a_ | apply b_ | apply c_) | ((with_reducible first | apply d_ | apply e_ | apply f_ | apply g_); focus first | omega | (simp only [q_] <;> omega)) | ((with_reducible first | apply i_ | apply h_); focus first | omega | (simp only [q_] <;> omega)) | ((with_reducible apply h_); focus first | decide | kernel_rfl) | refine BCase.t (by decide) ?_ | refine BCase.f (by decide) ?_ | with_reducible first | apply l_ | apply m_ | apply n_ | apply o_ | refine p_ (fun _ => ?_) (fun _ => ?_)) <;> (conv => whnf)))
          all_goals exact Ret.bool (by rw [decide_eq_false h1, decide_eq_false h2]; rfl)
theorem p_lessdigits (a b : List UInt8) (ha : okText a) (hb : okText b) : Pure Tryd.prog 66 [pStr (tx a), pStr (tx b)] (pBool (lessB a b)) := by
  have az := tx_size a
  have bz := tx_size b
  have pt := p_textless b a hb ha
  refine pure_of Tryd.func66 (by rfl) rfl (by kernel_rfl) (by rfl) ?_
  unfold lessB
  by_cases h1 : a.length < b.length
  · ((conv => whnf); repeat' ((first | (with_reducible first | apply a_ | apply b_ | apply c_) | ((with_reducible first | apply d_ | apply e_ | apply f_ | apply g_); focus first | omega | (simp only [q_] <;> omega)) | ((with_reducible first | apply i_ | apply h_); focus first | omega | (simp only [q_] <;> omega)) | ((with_reducible apply h_); focus first | decide | kernel_rfl) | refine BCase.t (by decide) ?_ | refine BCase.f (by decide) ?_ | refine CallP.pure _ rfl _ (pt) ?_ | with_reducible first | apply l_ | apply m_ | apply n_ | apply o_ | refine p_ (fun _ => ?_) (fun _ => ?_)) <;> (conv => whnf)))
    all_goals exact Ret.bool (by rw [decide_eq_true h1]; rfl)
  · by_cases h2 : a.length = b.length
    · ((conv => whnf); repeat' ((first | (with_reducible first | apply a_ | apply b_ | apply c_) | ((with_reducible first | apply d_ | apply e_ | apply f_ | apply g_); focus first | omega | (simp only [q_] <;> omega)) | ((with_reducible first | apply i_ | apply h_); focus first | omega | (simp only [q_] <;> omega)) | ((with_reducible apply h_); focus first | decide | kernel_rfl) | refine BCase.t (by decide) ?_ | refine BCase.f (by decide) ?_ | refine CallP.pure _ rfl _ (pt) ?_ | with_reducible first | apply l_ | apply m_ | apply n_ | apply o_ | refine p_ (fun _ => ?_) (fun _ => ?_)) <;> (conv => whnf)))
      all_goals
        refine Ret.bool ?_
        rw [decide_eq_false h1, decide_eq_true h2, Bool.false_or, Bool.true_and]
    · ((conv => whnf); repeat' ((first | (with_reducible first | apply a_ | apply b_ | apply c_) | ((with_reducible first | apply d_ | apply e_ | apply f_ | apply g_); focus first | omega | (simp only [q_] <;> omega)) | ((with_reducible first | apply i_ | apply h_); focus first | omega | (simp only [q_] <;> omega)) | ((with_reducible apply h_); focus first | decide | kernel_rfl) | refine BCase.t (by decide) ?_ | refine BCase.f (by decide) ?_ | refine CallP.pure _ rfl _ (pt) ?_ | with_reducible first | apply l_ | apply m_ | apply n_ | apply o_ | refine p_ (fun _ => ?_) (fun _ => ?_)) <;> (conv => whnf)))
      all_goals exact Ret.bool (by rw [decide_eq_false h1, decide_eq_false h2]; rfl)
theorem most1_dig : tx [57, 50, 50, 51, 51, 55, 50, 48, 51, 54, 56, 53, 52, 55, 55, 53, 56, 48, 55] = ⟨#[57, 50, 50, 51, 51, 55, 50, 48, 51, 54, 56, 53, 52, 55, 55, 53, 56, 48, 55]⟩ := rfl
theorem p_intof (s : List UInt8) (hs : okText s) (below : Bool) : Pure Tryd.prog 51 [pStr (tx s), pBool below] (.tup [pInt .i64 (intO s below).1, pInt .i64 (intO s below).2]) := by
  have hz := tx_size s
  have hs' : s.length ≤ 140737488351232 := hs
  have pa := p_alldigits s hs
  have e48 : tx s = ⟨#[48]⟩ ↔ s = [48] := tx_eq (b := [48])
  have p1 := p_lessdigits s [57, 50, 50, 51, 51, 55, 50, 48, 51, 54, 56, 53, 52, 55, 55, 53, 56, 48, 55] hs (by unfold okText; decide)
  have p2 := p_lessdigits s [57, 50, 50, 51, 51, 55, 50, 48, 51, 54, 56, 53, 52, 55, 55, 53, 56, 48, 56] hs (by unfold okText; decide)
  refine pure_of Tryd.func51 (by rfl) rfl (by kernel_rfl) (by rfl) ?_
  by_cases ha : allB s = true
  · rw [ha] at pa
    rw [less_iff ha (by decide)] at p1 p2
    have v1 : dval [57, 50, 50, 51, 51, 55, 50, 48, 51, 54, 56, 53, 52, 55, 55, 53, 56, 48, 55] = 9223372036854775807 := by decide
    have v2 : dval [57, 50, 50, 51, 51, 55, 50, 48, 51, 54, 56, 53, 52, 55, 55, 53, 56, 48, 56] = 9223372036854775808 := by decide
    rw [v1] at p1
    rw [v2] at p2
    have hd := ((allB_iff s).1 ha).1
    cases below with
    | true =>
      by_cases h0 : s = [48]
      · rw [show intO s true = (0, 1) from if_pos (.inr ⟨rfl, h0⟩)]
        ((conv => whnf); repeat' ((first | (with_reducible first | apply a_ | apply b_ | apply c_) | ((with_reducible first | apply d_ | apply e_ | apply f_ | apply g_); focus first | omega | (simp only [q_] <;> omega)) | ((with_reducible first | apply i_ | apply h_); focus first | omega | (simp only [q_] <;> omega)) | ((with_reducible apply h_); focus first | decide | kernel_rfl) | refine BCase.t (by decide) ?_ | refine BCase.f (by decide) ?_ | refine CallP.pure _ rfl _ (pa) ?_ | (refine BCase.dt (e48.2 h0) ?_) | with_reducible first | apply l_ | apply m_ | apply n_ | apply o_ | refine p_ (fun _ => ?_) (fun _ => ?_)) <;> (conv => whnf)))
        all_goals exact Ret.eq rfl
      · have h0' : ¬ tx s = ⟨#[48]⟩ := fun x => h0 (e48.1 x)
        rw [intO_ok true ha (fun _ => h0)]
        by_cases hb : most2 < dval s
        · rw [if_pos (show (if (true : Bool) = true then most2 else most1) < dval s from hb)]
          have hb2 : ¬ dval s ≤ 9223372036854775808 := Nat.not_le.2 hb
          ((conv => whnf); repeat' ((first | (with_reducible first | apply a_ | apply b_ | apply c_) | ((with_reducible first | apply d_ | apply e_ | apply f_ | apply g_); focus first | omega | (simp only [q_] <;> omega)) | ((with_reducible first | apply i_ | apply h_); focus first | omega | (simp only [q_] <;> omega)) | ((with_reducible apply h_); focus first | decide | kernel_rfl) | refine BCase.t (by decide) ?_ | refine BCase.f (by decide) ?_ | refine CallP.pure _ rfl _ (pa) ?_ | refine CallP.pure _ rfl _ (p2) ?_ | (refine BCase.df h0' ?_) | with_reducible first | apply l_ | apply m_ | apply n_ | apply o_ | refine p_ (fun _ => ?_) (fun _ => ?_)) <;> (conv => whnf)))
          all_goals exact Ret.eq rfl
        · rw [if_neg (show ¬ (if (true : Bool) = true then most2 else most1) < dval s from hb)]
          have hb2 : dval s ≤ 9223372036854775808 := Nat.not_lt.1 hb
          ((conv => whnf); repeat' ((first | (with_reducible first | apply a_ | apply b_ | apply c_) | ((with_reducible first | apply d_ | apply e_ | apply f_ | apply g_); focus first | omega | (simp only [q_] <;> omega)) | ((with_reducible first | apply i_ | apply h_); focus first | omega | (simp only [q_] <;> omega)) | ((with_reducible apply h_); focus first | decide | kernel_rfl) | refine BCase.t (by decide) ?_ | refine BCase.f (by decide) ?_ | refine CallP.pure _ rfl _ (pa) ?_ | refine CallP.pure _ rfl _ (p2) ?_ | (refine BCase.df h0' ?_) | with_reducible first | apply l_ | apply m_ | apply n_ | apply o_ | refine p_ (fun _ => ?_) (fun _ => ?_)) <;> (conv => whnf)))
          refine LoopC.mk Nat (fun k => [(0, pStr (tx s)), (1, pBool true), (6, pInt .i64 (-(dval (s.take k) : Int))), (7, pInt .i64 (k : Int))]) (fun _ => []) [] (fun k => k ≤ s.length) (fun k => s.length - k) 0 (Nat.zero_le _) ?start ?round
          case start => exact ⟨[], rfl, rfl, ⟨.inl rfl, .inl rfl, PLe.int (by rw [List.take_zero]; rfl), .inl rfl, trivial⟩, trivial⟩
          case round =>
            intro k hk
            have hk : k ≤ s.length := hk
            by_cases q : k < s.length
            · have eg : s.getD k 0 = s[k] := by rw [List.getD_eq_getElem?_getD, List.getElem?_eq_getElem q]; rfl
              have hdk := of_decide_eq_true (List.all_eq_true.1 hd _ (List.getElem_mem q))
              have hv := dval_take q
              have hp := dval_pre s (k + 1)
              rw [← eg] at hdk hv
              ((conv => whnf); repeat' ((first | (with_reducible first | apply a_ | apply b_ | apply c_) | ((with_reducible first | apply d_ | apply e_ | apply f_ | apply g_); focus first | omega | (simp only [q_] <;> omega)) | ((with_reducible first | apply i_ | apply h_); focus first | omega | (simp only [q_] <;> omega)) | ((with_reducible apply h_); focus first | decide | kernel_rfl) | refine BCase.t (by decide) ?_ | refine BCase.f (by decide) ?_ | (refine SIdx.tx k rfl q ?_) | with_reducible first | apply l_ | apply m_ | apply n_ | apply o_ | refine p_ (fun _ => ?_) (fun _ => ?_)) <;> (conv => whnf)))
              exact ⟨k + 1, by show k + 1 ≤ _; omega, by show s.length - (k + 1) < s.length - k; omega, [], rfl, rfl, ⟨.inl rfl, .inl rfl, PLe.int (by omega), PLe.int (by omega), trivial⟩, trivial⟩
            · ((conv => whnf); repeat' ((first | (with_reducible first | apply a_ | apply b_ | apply c_) | ((with_reducible first | apply d_ | apply e_ | apply f_ | apply g_); focus first | omega | (simp only [q_] <;> omega)) | ((with_reducible first | apply i_ | apply h_); focus first | omega | (simp only [q_] <;> omega)) | ((with_reducible apply h_); focus first | decide | kernel_rfl) | refine BCase.t (by decide) ?_ | refine BCase.f (by decide) ?_ | with_reducible first | apply l_ | apply m_ | apply n_ | apply o_ | refine p_ (fun _ => ?_) (fun _ => ?_)) <;> (conv => whnf)))
              refine Ret.eq ?_
              rw [List.take_of_length_le (by omega)]; rfl
    | false =>
      rw [intO_ok false ha (fun x => by cases x)]
      by_cases hb : most1 < dval s
      · rw [if_pos (show (if (false : Bool) = true then most2 else most1) < dval s from hb)]
        have hb2 : ¬ dval s ≤ 9223372036854775807 := Nat.not_le.2 hb
        ((conv => whnf); repeat' ((first | (with_reducible first | apply a_ | apply b_ | apply c_) | ((with_reducible first | apply d_ | apply e_ | apply f_ | apply g_); focus first | omega | (simp only [q_] <;> omega)) | ((with_reducible first | apply i_ | apply h_); focus first | omega | (simp only [q_] <;> omega)) | ((with_reducible apply h_); focus first | decide | kernel_rfl) | refine BCase.t (by decide) ?_ | refine BCase.f (by decide) ?_ | refine CallP.pure _ rfl _ (pa) ?_ | refine CallP.pure _ rfl _ (p1) ?_ | with_reducible first | apply l_ | apply m_ | apply n_ | apply o_ | refine p_ (fun _ => ?_) (fun _ => ?_)) <;> (conv => whnf)))
        all_goals exact Ret.eq rfl
      · rw [if_neg (show ¬ (if (false : Bool) = true then most2 else most1) < dval s from hb)]
        have hb2 : dval s ≤ 9223372036854775807 := Nat.not_lt.1 hb
        ((conv => whnf); repeat' ((first | (with_reducible first | apply a_ | apply b_ | apply c_) | ((with_reducible first | apply d_ | apply e_ | apply f_ | apply g_); focus first | omega | (simp only [q_] <;> omega)) | ((with_reducible first | apply i_ | apply h_); focus first | omega | (simp only [q_] <;> omega)) | ((with_reducible apply h_); focus first | decide | kernel_rfl) | refine BCase.t (by decide) ?_ | refine BCase.f (by decide) ?_ | refine CallP.pure _ rfl _ (pa) ?_ | refine CallP.pure _ rfl _ (p1) ?_ | with_reducible first | apply l_ | apply m_ | apply n_ | apply o_ | refine p_ (fun _ => ?_) (fun _ => ?_)) <;> (conv => whnf)))
        refine LoopC.mk Nat (fun k => [(0, pStr (tx s)), (1, pBool false), (6, pInt .i64 (dval (s.take k) : Int)), (7, pInt .i64 (k : Int))]) (fun _ => []) [] (fun k => k ≤ s.length) (fun k => s.length - k) 0 (Nat.zero_le _) ?start ?round
        case start => exact ⟨[], rfl, rfl, ⟨.inl rfl, .inl rfl, PLe.int (by rw [List.take_zero]; rfl), .inl rfl, trivial⟩, trivial⟩
        case round =>
          intro k hk
          have hk : k ≤ s.length := hk
          by_cases q : k < s.length
          · have eg : s.getD k 0 = s[k] := by rw [List.getD_eq_getElem?_getD, List.getElem?_eq_getElem q]; rfl
            have hdk := of_decide_eq_true (List.all_eq_true.1 hd _ (List.getElem_mem q))
            have hv := dval_take q
            have hp := dval_pre s (k + 1)
            rw [← eg] at hdk hv
            ((conv => whnf); repeat' ((first | (with_reducible first | apply a_ | apply b_ | apply c_) | ((with_reducible first | apply d_ | apply e_ | apply f_ | apply g_); focus first | omega | (simp only [q_] <;> omega)) | ((with_reducible first | apply i_ | apply h_); focus first | omega | (simp only [q_] <;> omega)) | ((with_reducible apply h_); focus first | decide | kernel_rfl) | refine BCase.t (by decide) ?_ | refine BCase.f (by decide) ?_ | (refine SIdx.tx k rfl q ?_) | with_reducible first | apply l_ | apply m_ | apply n_ | apply o_ | refine p_ (fun _ => ?_) (fun _ => ?_)) <;> (conv => whnf)))
            exact ⟨k + 1, by show k + 1 ≤ _; omega, by show s.length - (k + 1) < s.length - k; omega, [], rfl, rfl, ⟨.inl rfl, .inl rfl, PLe.int (by omega), PLe.int (by omega), trivial⟩, trivial⟩
          · ((conv => whnf); repeat' ((first | (with_reducible first | apply a_ | apply b_ | apply c_) | ((with_reducible first | apply d_ | apply e_ | apply f_ | apply g_); focus first | omega | (simp only [q_] <;> omega)) | ((with_reducible first | apply i_ | apply h_); focus first | omega | (simp only [q_] <;> omega)) | ((with_reducible apply h_); focus first | decide | kernel_rfl) | refine BCase.t (by decide) ?_ | refine BCase.f (by decide) ?_ | with_reducible first | apply l_ | apply m_ | apply n_ | apply o_ | refine p_ (fun _ => ?_) (fun _ => ?_)) <;> (conv => whnf)))
            refine Ret.eq ?_
            rw [List.take_of_length_le (by omega)]; rfl
  · have hf : allB s = false := Bool.eq_false_iff.2 ha
    rw [intO_bad below hf]
    rw [hf] at pa
    ((conv => whnf); repeat' ((first | (with_reducible first | apply a_ | apply b_ | apply c_) | ((with_reducible first | apply d_ | apply e_ | apply f_ | apply g_); focus first | omega | (simp only [q_] <;> omega)) | ((with_reducible first | apply i_ | apply h_); focus first | omega | (simp only [q_] <;> omega)) | ((with_reducible apply h_); focus first | decide | kernel_rfl) | refine BCase.t (by decide) ?_ | refine BCase.f (by decide) ?_ | refine CallP.pure _ rfl _ (pa) ?_ | with_reducible first | apply l_ | apply m_ | apply n_ | apply o_ | refine p_ (fun _ => ?_) (fun _ => ?_)) <;> (conv => whnf)))
    all_goals exact Ret.eq rfl
end Go.Proofs.YtjbopncobegleaaDoor.Pm
end
section
namespace Go.Proofs.YtjbopncobegleaaDoor.Pm
open Go.RowKit K
set_option linter.unusedVariables false
set_option linter.unusedSimpArgs false
set_option maxRecDepth 100000
theorem inner_get {s : List UInt8} {j : Nat} (h : j < (innerL s).length) : s.getD (j + 1) 0 = (innerL s)[j] := by
  have h2 : j + 1 < s.length := by unfold innerL at h; rw [List.length_take, List.length_drop] at h; omega
  have e : (innerL s)[j]? = s[j + 1]? := by
    have h3 : j < s.length - 2 := by unfold innerL at h; rw [List.length_take, List.length_drop] at h; omega
    unfold innerL
    rw [List.getElem?_take, if_pos h3, List.getElem?_drop, Nat.add_comm]
  rw [List.getElem?_eq_getElem h] at e
  rw [List.getD_eq_getElem?_getD, ← e]; rfl
theorem inner_len {s : List UInt8} (h : 2 ≤ s.length) : (innerL s).length = s.length - 2 := by unfold innerL; rw [List.length_take, List.length_drop]; omega
theorem one_tx {s : List UInt8} {k : Nat} (h : k < s.length) : (tx s).extract ((k : Nat) : Int).toNat (((k : Nat) : Int) + 1).toNat = tx [s.getD k 0] := by
  rw [extract_tx]
  have e1 : ((k : Nat) : Int).toNat = k := by omega
  have e2 : (((k : Nat) : Int) + 1).toNat - ((k : Nat) : Int).toNat = 1 := by omega
  rw [e2, e1, List.drop_eq_getElem_cons h, List.getD_eq_getElem?_getD, List.getElem?_eq_getElem h]; rfl
theorem unq_drop_o {m : List UInt8} {j : Nat} (h : j < m.length) (hb : m[j] ≠ 39) : unq (m.drop j) = thenL [m[j]] (unq (m.drop (j + 1))) := by
  rw [List.drop_eq_getElem_cons h, unq_o hb]; rfl
theorem unq_drop_q {m : List UInt8} {j : Nat} (h : j + 1 < m.length) (hb : m[j]'(by omega) = 39) : unq (m.drop j) = if m[j + 1] = 39 then thenL [39] (unq (m.drop (j + 2))) else none := by
  rw [List.drop_eq_getElem_cons (by omega), List.drop_eq_getElem_cons h, hb, unq_q]; rfl
theorem unq_drop_1 {m : List UInt8} {j : Nat} (h : j < m.length) (h1 : ¬ j + 1 < m.length) (hb : m[j] = 39) : unq (m.drop j) = none := by
  rw [List.drop_eq_getElem_cons h, List.drop_of_length_le (by omega), hb]; exact unq_1
theorem thenL_then (a b : List UInt8) (o : Option (List UInt8)) : thenL a (thenL b o) = thenL (a ++ b) o := by
  unfold thenL
  cases o <;> simp
theorem p_quotedref (s : List UInt8) (hs : okText s) : Pure Tryd.prog 46 [pStr (tx s)] (optP (quotL s)) := by
  have hz := tx_size s
  have hs' : s.length ≤ 140737488351232 := hs
  refine pure_of Tryd.func46 (by rfl) rfl (by kernel_rfl) (by rfl) ?_
  unfold quotL
  by_cases h2 : s.length < 2
  · rw [if_pos (.inl h2)]
    ((conv => whnf); repeat' ((first | (with_reducible first | apply a_ | apply b_ | apply c_) | ((with_reducible first | apply d_ | apply e_ | apply f_ | apply g_); focus first | omega | (simp only [q_] <;> omega)) | ((with_reducible first | apply i_ | apply h_); focus first | omega | (simp only [q_] <;> omega)) | ((with_reducible apply h_); focus first | decide | kernel_rfl) | refine BCase.t (by decide) ?_ | refine BCase.f (by decide) ?_ | with_reducible first | apply l_ | apply m_ | apply n_ | apply o_ | refine p_ (fun _ => ?_) (fun _ => ?_)) <;> (conv => whnf)))
    all_goals exact Ret.eq rfl
  · have hne : s ≠ [] := fun e => by rw [e] at h2; simp at h2
    have l0 : 0 < s.length := by omega
    have l1 : s.length - 1 < s.length := by omega
    have e1 : (s.length : Int) - 1 = ((s.length - 1 : Nat) : Int) := by omega
    have d39 : ∀ c : UInt8, c = 39 ↔ ((c.toNat : Nat) : Int) = 39 := fun c => ⟨fun e => by rw [e]; rfl, fun e => by rw [← u8_back c, show c.toNat = 39 by omega]; rfl⟩
    by_cases c1 : s.headD 0 = 39
    · have n1 := c1
      rw [headD_get, d39] at n1
      by_cases c2 : s.getLastD 0 = 39
      · rw [if_neg (fun h => h.elim h2 fun h => h.elim (fun x => x c1) (fun x => x c2))]
        rw [lastD_get hne, d39] at c2
        have hin := inner_len (s := s) (by omega)
        ((conv => whnf); repeat' ((first | (with_reducible first | apply a_ | apply b_ | apply c_) | ((with_reducible first | apply d_ | apply e_ | apply f_ | apply g_); focus first | omega | (simp only [q_] <;> omega)) | ((with_reducible first | apply i_ | apply h_); focus first | omega | (simp only [q_] <;> omega)) | ((with_reducible apply h_); focus first | decide | kernel_rfl) | refine BCase.t (by decide) ?_ | refine BCase.f (by decide) ?_ | (first | refine SIdx.tx 0 rfl l0 ?_ | refine SIdx.tx (s.length - 1) e1 l1 ?_) | with_reducible first | apply l_ | apply m_ | apply n_ | apply o_ | refine p_ (fun _ => ?_) (fun _ => ?_)) <;> (conv => whnf)))
        refine LoopC.mk (Nat × List UInt8) (fun x => [(0, pStr (tx s)), (4, pInt .i64 s.length), (5, pStr (tx x.2)), (6, pInt .i64 ((x.1 + 1 : Nat) : Int))]) (fun _ => []) [] (fun x => x.1 ≤ (innerL s).length ∧ x.2.length ≤ x.1 ∧ unq (innerL s) = thenL x.2 (unq ((innerL s).drop x.1))) (fun x => (innerL s).length - x.1) (0, []) ⟨Nat.zero_le _, Nat.zero_le _, by show _ = thenL [] (unq ((innerL s).drop 0)); rw [List.drop_zero]; unfold thenL; cases unq (innerL s) <;> rfl⟩ ?start ?round
        case start => exact ⟨[], rfl, rfl, ⟨.inl rfl, .inl rfl, .inl rfl, .inl rfl, trivial⟩, trivial⟩
        case round =>
          rintro ⟨j, t⟩ ⟨hj, ht, hq⟩
          have hj : j ≤ (innerL s).length := hj
          have ht : t.length ≤ j := ht
          have hq : unq (innerL s) = thenL t (unq ((innerL s).drop j)) := hq
          have tz := tx_size t
          by_cases q : j < (innerL s).length
          · have g0 := inner_get q
            have j1 : j + 1 < s.length := by omega
            by_cases hb : (innerL s)[j] = 39
            · have n0 := hb
              rw [← g0, d39] at n0
              by_cases q1 : j + 1 < (innerL s).length
              · have g1 := inner_get q1
                have j2 : j + 1 + 1 < s.length := by omega
                rw [unq_drop_q q1 hb] at hq
                by_cases hc : (innerL s)[j + 1] = 39
                · have n2 := hc
                  rw [← g1, d39] at n2
                  rw [if_pos hc, thenL_then] at hq
                  have eo := one_tx j2
                  rw [g1, hc] at eo
                  have eo' : (tx s).extract (((j + 1 : Nat) : Int) + 1).toNat (((j + 1 : Nat) : Int) + 1 + 1).toNat = tx [39] := by
                    rw [← eo]
                    congr 1 <;> omega
                  ((conv => whnf); repeat' ((first | (with_reducible first | apply a_ | apply b_ | apply c_) | ((with_reducible first | apply d_ | apply e_ | apply f_ | apply g_); focus first | omega | (simp only [q_] <;> omega)) | ((with_reducible first | apply i_ | apply h_); focus first | omega | (simp only [q_] <;> omega)) | ((with_reducible apply h_); focus first | decide | kernel_rfl) | refine BCase.t (by decide) ?_ | refine BCase.f (by decide) ?_ | (first | refine SIdx.tx (j + 1) rfl j1 ?_ | refine SIdx.tx (j + 1 + 1) (by omega) j2 ?_) | (refine Need.mk (by rw [eo']; show t.length + 1 ≤ _; omega) ?_) | with_reducible first | apply l_ | apply m_ | apply n_ | apply o_ | refine p_ (fun _ => ?_) (fun _ => ?_)) <;> (conv => whnf)))
                  exact ⟨(j + 2, t ++ [39]), ⟨by show j + 2 ≤ _; omega, by show (t ++ [39]).length ≤ j + 2; rw [List.length_append, List.length_singleton]; omega, hq⟩, by show _ - (j + 2) < _ - j; omega, [], rfl, rfl, ⟨.inl rfl, .inl rfl, PLe.c (by rw [eo', tx_append]), PLe.int (by show ((j + 2 + 1 : Nat) : Int) = _; omega), trivial⟩, trivial⟩
                · have n2 := hc
                  rw [← g1, d39] at n2
                  rw [if_neg hc] at hq
                  have hq : unq (innerL s) = none := hq
                  rw [hq]
                  ((conv => whnf); repeat' ((first | (with_reducible first | apply a_ | apply b_ | apply c_) | ((with_reducible first | apply d_ | apply e_ | apply f_ | apply g_); focus first | omega | (simp only [q_] <;> omega)) | ((with_reducible first | apply i_ | apply h_); focus first | omega | (simp only [q_] <;> omega)) | ((with_reducible apply h_); focus first | decide | kernel_rfl) | refine BCase.t (by decide) ?_ | refine BCase.f (by decide) ?_ | (first | refine SIdx.tx (j + 1) rfl j1 ?_ | refine SIdx.tx (j + 1 + 1) (by omega) j2 ?_) | with_reducible first | apply l_ | apply m_ | apply n_ | apply o_ | refine p_ (fun _ => ?_) (fun _ => ?_)) <;> (conv => whnf)))
                  all_goals exact Ret.eq rfl
              · rw [unq_drop_1 q q1 hb] at hq
                have hq : unq (innerL s) = none := hq
                rw [hq]
                ((conv => whnf); repeat' ((first | (with_reducible first | apply a_ | apply b_ | apply c_) | ((with_reducible first | apply d_ | apply e_ | apply f_ | apply g_); focus first | omega | (simp only [q_] <;> omega)) | ((with_reducible first | apply i_ | apply h_); focus first | omega | (simp only [q_] <;> omega)) | ((with_reducible apply h_); focus first | decide | kernel_rfl) | refine BCase.t (by decide) ?_ | refine BCase.f (by decide) ?_ | (refine SIdx.tx (j + 1) rfl j1 ?_) | with_reducible first | apply l_ | apply m_ | apply n_ | apply o_ | refine p_ (fun _ => ?_) (fun _ => ?_)) <;> (conv => whnf)))
                all_goals exact Ret.eq rfl
            · have n0 := hb
              rw [← g0, d39] at n0
              rw [unq_drop_o q hb, thenL_then] at hq
              have eo := one_tx j1
              rw [g0] at eo
              ((conv => whnf); repeat' ((first | (with_reducible first | apply a_ | apply b_ | apply c_) | ((with_reducible first | apply d_ | apply e_ | apply f_ | apply g_); focus first | omega | (simp only [q_] <;> omega)) | ((with_reducible first | apply i_ | apply h_); focus first | omega | (simp only [q_] <;> omega)) | ((with_reducible apply h_); focus first | decide | kernel_rfl) | refine BCase.t (by decide) ?_ | refine BCase.f (by decide) ?_ | (refine SIdx.tx (j + 1) rfl j1 ?_) | (refine Need.mk (by rw [eo]; show t.length + 1 ≤ _; omega) ?_) | with_reducible first | apply l_ | apply m_ | apply n_ | apply o_ | refine p_ (fun _ => ?_) (fun _ => ?_)) <;> (conv => whnf)))
              exact ⟨(j + 1, t ++ [(innerL s)[j]]), ⟨by show j + 1 ≤ _; omega, by show (t ++ [_]).length ≤ j + 1; rw [List.length_append, List.length_singleton]; omega, hq⟩, by show _ - (j + 1) < _ - j; omega, [], rfl, rfl, ⟨.inl rfl, .inl rfl, PLe.c (by rw [eo, tx_append]), PLe.int (by show ((j + 1 + 1 : Nat) : Int) = _; omega), trivial⟩, trivial⟩
          · rw [List.drop_of_length_le (by omega)] at hq
            have hq : unq (innerL s) = some t := by rw [hq]; show some (t ++ []) = _; rw [List.append_nil]
            rw [hq]
            ((conv => whnf); repeat' ((first | (with_reducible first | apply a_ | apply b_ | apply c_) | ((with_reducible first | apply d_ | apply e_ | apply f_ | apply g_); focus first | omega | (simp only [q_] <;> omega)) | ((with_reducible first | apply i_ | apply h_); focus first | omega | (simp only [q_] <;> omega)) | ((with_reducible apply h_); focus first | decide | kernel_rfl) | refine BCase.t (by decide) ?_ | refine BCase.f (by decide) ?_ | with_reducible first | apply l_ | apply m_ | apply n_ | apply o_ | refine p_ (fun _ => ?_) (fun _ => ?_)) <;> (conv => whnf)))
            exact Ret.eq rfl
      · rw [if_pos (.inr (.inr c2))]
        rw [lastD_get hne, d39] at c2
        ((conv => whnf); repeat' ((first | (with_reducible first | apply a_ | apply b_ | apply c_) | ((with_reducible first | apply d_ | apply e_ | apply f_ | apply g_); focus first | omega | (simp only [q_] <;> omega)) | ((with_reducible first | apply i_ | apply h_); focus first | omega | (simp only [q_] <;> omega)) | ((with_reducible apply h_); focus first | decide | kernel_rfl) | refine BCase.t (by decide) ?_ | refine BCase.f (by decide) ?_ | (first | refine SIdx.tx 0 rfl l0 ?_ | refine SIdx.tx (s.length - 1) e1 l1 ?_) | with_reducible first | apply l_ | apply m_ | apply n_ | apply o_ | refine p_ (fun _ => ?_) (fun _ => ?_)) <;> (conv => whnf)))
        all_goals exact Ret.eq rfl
    · rw [if_pos (.inr (.inl c1))]
      rw [headD_get, d39] at c1
      ((conv => whnf); repeat' ((first | (with_reducible first | apply a_ | apply b_ | apply c_) | ((with_reducible first | apply d_ | apply e_ | apply f_ | apply g_); focus first | omega | (simp only [q_] <;> omega)) | ((with_reducible first | apply i_ | apply h_); focus first | omega | (simp only [q_] <;> omega)) | ((with_reducible apply h_); focus first | decide | kernel_rfl) | refine BCase.t (by decide) ?_ | refine BCase.f (by decide) ?_ | (refine SIdx.tx 0 rfl l0 ?_) | with_reducible first | apply l_ | apply m_ | apply n_ | apply o_ | refine p_ (fun _ => ?_) (fun _ => ?_)) <;> (conv => whnf)))
      all_goals exact Ret.eq rfl
theorem p_hexedref (s : List UInt8) (hs : okText s) : Pure Tryd.prog 63 [pStr (tx s)] (optP (hexR s)) := by
  have hz := tx_size s
  have hs' : s.length ≤ 140737488351232 := hs
  have em : (s.length : Int).tmod 2 = ((s.length % 2 : Nat) : Int) := rfl
  have d39 : ∀ c : UInt8, c = 39 ↔ ((c.toNat : Nat) : Int) = 39 := fun c => ⟨fun e => by rw [e]; rfl, fun e => by rw [← u8_back c, show c.toNat = 39 by omega]; rfl⟩
  have d120 : ∀ c : UInt8, c = 120 ↔ ((c.toNat : Nat) : Int) = 120 := fun c => ⟨fun e => by rw [e]; rfl, fun e => by rw [← u8_back c, show c.toNat = 120 by omega]; rfl⟩
  refine pure_of Tryd.func63 (by rfl) rfl (by kernel_rfl) (by rfl) ?_
  unfold hexR
  by_cases h2 : s.length < 3
  · rw [if_pos (.inl h2)]
    ((conv => whnf); repeat' ((first | (with_reducible first | apply a_ | apply b_ | apply c_) | ((with_reducible first | apply d_ | apply e_ | apply f_ | apply g_); focus first | omega | (simp only [q_] <;> omega)) | ((with_reducible first | apply i_ | apply h_); focus first | omega | (simp only [q_] <;> omega)) | ((with_reducible apply h_); focus first | decide | kernel_rfl) | refine BCase.t (by decide) ?_ | refine BCase.f (by decide) ?_ | with_reducible first | apply l_ | apply m_ | apply n_ | apply o_ | refine p_ (fun _ => ?_) (fun _ => ?_)) <;> (conv => whnf)))
    all_goals exact Ret.eq rfl
  · have hne : s ≠ [] := fun e => by rw [e] at h2; simp at h2
    have l0 : 0 < s.length := by omega
    have l1 : s.length - 1 < s.length := by omega
    have l2 : 1 < s.length := by omega
    have e1 : (s.length : Int) - 1 = ((s.length - 1 : Nat) : Int) := by omega
    by_cases c0 : s.length % 2 = 0
    · rw [if_pos (.inr (.inl c0))]
      ((conv => whnf); repeat' ((first | (with_reducible first | apply a_ | apply b_ | apply c_) | ((with_reducible first | apply d_ | apply e_ | apply f_ | apply g_); focus first | omega | (simp only [q_] <;> omega)) | ((with_reducible first | apply i_ | apply h_); focus first | omega | (simp only [q_] <;> omega)) | ((with_reducible apply h_); focus first | decide | kernel_rfl) | refine BCase.t (by decide) ?_ | refine BCase.f (by decide) ?_ | with_reducible first | apply l_ | apply m_ | apply n_ | apply o_ | refine p_ (fun _ => ?_) (fun _ => ?_)) <;> (conv => whnf)))
      all_goals exact Ret.eq rfl
    · by_cases c1 : s.headD 0 = 120
      · have n1 := c1
        rw [headD_get, d120] at n1
        by_cases c2 : s.getD 1 0 = 39
        · have n2 := c2
          rw [d39] at n2
          by_cases c3 : s.getLastD 0 = 39
          · rw [if_neg (fun h => h.elim h2 fun h => h.elim c0 fun h => h.elim (fun x => x c1) fun h => h.elim (fun x => x c2) (fun x => x c3))]
            have n3 := c3
            rw [lastD_get hne, d39] at n3
            have hin := inner_len (s := s.drop 1) (by rw [List.length_drop]; omega)
            rw [List.length_drop] at hin
            have hget : ∀ j (h : j < (innerL (s.drop 1)).length), s.getD (j + 2) 0 = (innerL (s.drop 1))[j] := by
              intro j h
              rw [← inner_get h, List.getD_eq_getElem?_getD, List.getD_eq_getElem?_getD, List.getElem?_drop]
              congr 2; omega
            ((conv => whnf); repeat' ((first | (with_reducible first | apply a_ | apply b_ | apply c_) | ((with_reducible first | apply d_ | apply e_ | apply f_ | apply g_); focus first | omega | (simp only [q_] <;> omega)) | ((with_reducible first | apply i_ | apply h_); focus first | omega | (simp only [q_] <;> omega)) | ((with_reducible apply h_); focus first | decide | kernel_rfl) | refine BCase.t (by decide) ?_ | refine BCase.f (by decide) ?_ | (first | refine SIdx.tx 0 rfl l0 ?_ | refine SIdx.tx 1 rfl l2 ?_ | refine SIdx.tx (s.length - 1) e1 l1 ?_) | with_reducible first | apply l_ | apply m_ | apply n_ | apply o_ | refine p_ (fun _ => ?_) (fun _ => ?_)) <;> (conv => whnf)))
            refine LoopC.mk (Nat × List UInt8) (fun x => [(0, pStr (tx s)), (4, pInt .i64 s.length), (5, pStr (tx x.2)), (6, pInt .i64 ((2 * x.1 + 2 : Nat) : Int))]) (fun _ => []) [] (fun x => 2 * x.1 ≤ (innerL (s.drop 1)).length ∧ x.2.length ≤ x.1 ∧ unhex false (innerL (s.drop 1)) = thenL x.2 (unhex false ((innerL (s.drop 1)).drop (2 * x.1)))) (fun x => (innerL (s.drop 1)).length - 2 * x.1) (0, []) ⟨Nat.zero_le _, Nat.zero_le _, by show _ = thenL [] (unhex false ((innerL (s.drop 1)).drop 0)); rw [List.drop_zero]; unfold thenL; cases unhex false (innerL (s.drop 1)) <;> rfl⟩ ?start ?round
            case start => exact ⟨[], rfl, rfl, ⟨.inl rfl, .inl rfl, .inl rfl, .inl rfl, trivial⟩, trivial⟩
            case round =>
              rintro ⟨j, t⟩ ⟨hj, ht, hq⟩
              have hj : 2 * j ≤ (innerL (s.drop 1)).length := hj
              have ht : t.length ≤ j := ht
              have hq : unhex false (innerL (s.drop 1)) = thenL t (unhex false ((innerL (s.drop 1)).drop (2 * j))) := hq
              have tz := tx_size t
              by_cases q : 2 * j < (innerL (s.drop 1)).length
              · have q1 : 2 * j + 1 < (innerL (s.drop 1)).length := by omega
                have g0 := hget (2 * j) q
                have g1 := hget (2 * j + 1) q1
                have j1 : 2 * j + 2 < s.length := by omega
                have j2 : 2 * j + 1 + 2 < s.length := by omega
                have pa := p_hexof (s.getD (2 * j + 2) 0)
                have pb := p_hexof (s.getD (2 * j + 1 + 2) 0)
                rw [g0] at pa
                rw [g1] at pb
                rw [List.drop_eq_getElem_cons q, List.drop_eq_getElem_cons q1, unhex] at hq
                generalize hca : (innerL (s.drop 1))[2 * j] = a at *
                generalize hcb : (innerL (s.drop 1))[2 * j + 1] = b at *
                have ha := hexI_le a
                have hb := hexI_le b
                have ew : ∀ c, hexw false c = hexv c := fun c => by unfold hexw; rw [if_neg (by simp)]
                rw [ew, ew] at hq
                have pa' : Pure Tryd.prog 76 [pInt .u8 ((s.getD (2 * j + 2) 0).toNat : Int)] (pInt .i64 (hexI a)) := by rw [g0]; exact pa
                have pb' : Pure Tryd.prog 76 [pInt .u8 ((s.getD (2 * j + 1 + 2) 0).toNat : Int)] (pInt .i64 (hexI b)) := by rw [g1]; exact pb
                by_cases na : hexI a < 0
                · rw [hexI_neg na] at hq
                  have hq : unhex false (innerL (s.drop 1)) = none := hq
                  rw [hq]
                  ((conv => whnf); repeat' ((first | (with_reducible first | apply a_ | apply b_ | apply c_) | ((with_reducible first | apply d_ | apply e_ | apply f_ | apply g_); focus first | omega | (simp only [q_] <;> omega)) | ((with_reducible first | apply i_ | apply h_); focus first | omega | (simp only [q_] <;> omega)) | ((with_reducible apply h_); focus first | decide | kernel_rfl) | refine BCase.t (by decide) ?_ | refine BCase.f (by decide) ?_ | (first | refine SIdx.tx (2 * j + 2) rfl j1 ?_ | refine SIdx.tx (2 * j + 1 + 2) (by omega) j2 ?_) | refine CallP.pure _ rfl _ (pa') ?_ | refine CallP.pure _ rfl _ (pb') ?_ | with_reducible first | apply l_ | apply m_ | apply n_ | apply o_ | refine p_ (fun _ => ?_) (fun _ => ?_)) <;> (conv => whnf)))
                  all_goals exact Ret.eq rfl
                · by_cases nb : hexI b < 0
                  · rw [(hexI_get na).1, hexI_neg nb] at hq
                    have hq : unhex false (innerL (s.drop 1)) = none := hq
                    rw [hq]
                    ((conv => whnf); repeat' ((first | (with_reducible first | apply a_ | apply b_ | apply c_) | ((with_reducible first | apply d_ | apply e_ | apply f_ | apply g_); focus first | omega | (simp only [q_] <;> omega)) | ((with_reducible first | apply i_ | apply h_); focus first | omega | (simp only [q_] <;> omega)) | ((with_reducible apply h_); focus first | decide | kernel_rfl) | refine BCase.t (by decide) ?_ | refine BCase.f (by decide) ?_ | (first | refine SIdx.tx (2 * j + 2) rfl j1 ?_ | refine SIdx.tx (2 * j + 1 + 2) (by omega) j2 ?_) | refine CallP.pure _ rfl _ (pa') ?_ | refine CallP.pure _ rfl _ (pb') ?_ | with_reducible first | apply l_ | apply m_ | apply n_ | apply o_ | refine p_ (fun _ => ?_) (fun _ => ?_)) <;> (conv => whnf)))
                    all_goals exact Ret.eq rfl
                  · rw [(hexI_get na).1, (hexI_get nb).1] at hq
                    have hq : unhex false (innerL (s.drop 1)) = thenL t (thenL [UInt8.ofNat ((hexI a).toNat * 16 + (hexI b).toNat)] (unhex false ((innerL (s.drop 1)).drop (2 * j + 1 + 1)))) := hq
                    rw [thenL_then] at hq
                    have eb : by1 (hexI a * 16 + hexI b) = UInt8.ofNat ((hexI a).toNat * 16 + (hexI b).toNat) := by
                      rw [← by1_toNat (UInt8.ofNat ((hexI a).toNat * 16 + (hexI b).toNat)), u8_small (by omega)]
                      congr 1; omega
                    have po := p_onebyteN (hexI a * 16 + hexI b)
                    rw [eb] at po
                    ((conv => whnf); repeat' ((first | (with_reducible first | apply a_ | apply b_ | apply c_) | ((with_reducible first | apply d_ | apply e_ | apply f_ | apply g_); focus first | omega | (simp only [q_] <;> omega)) | ((with_reducible first | apply i_ | apply h_); focus first | omega | (simp only [q_] <;> omega)) | ((with_reducible apply h_); focus first | decide | kernel_rfl) | refine BCase.t (by decide) ?_ | refine BCase.f (by decide) ?_ | (first | refine SIdx.tx (2 * j + 2) rfl j1 ?_ | refine SIdx.tx (2 * j + 1 + 2) (by omega) j2 ?_) | refine CallP.pure _ rfl _ (pa') ?_ | refine CallP.pure _ rfl _ (pb') ?_ | refine CallP.pure _ rfl _ (po) ?_ | (refine Need.mk (by show t.length + 1 ≤ _; omega) ?_) | with_reducible first | apply l_ | apply m_ | apply n_ | apply o_ | refine p_ (fun _ => ?_) (fun _ => ?_)) <;> (conv => whnf)))
                    exact ⟨(j + 1, t ++ [UInt8.ofNat ((hexI a).toNat * 16 + (hexI b).toNat)]), ⟨by show 2 * (j + 1) ≤ _; omega, by show (t ++ [_]).length ≤ j + 1; rw [List.length_append, List.length_singleton]; omega, hq⟩, by show _ - 2 * (j + 1) < _ - 2 * j; omega, [], rfl, rfl, ⟨.inl rfl, .inl rfl, PLe.c (by rw [tx_append]), PLe.int (by show ((2 * (j + 1) + 2 : Nat) : Int) = _; omega), trivial⟩, trivial⟩
              · rw [List.drop_of_length_le (l := innerL (s.drop 1)) (by omega)] at hq
                have hq : unhex false (innerL (s.drop 1)) = some t := by rw [hq]; show some (t ++ []) = _; rw [List.append_nil]
                rw [hq]
                ((conv => whnf); repeat' ((first | (with_reducible first | apply a_ | apply b_ | apply c_) | ((with_reducible first | apply d_ | apply e_ | apply f_ | apply g_); focus first | omega | (simp only [q_] <;> omega)) | ((with_reducible first | apply i_ | apply h_); focus first | omega | (simp only [q_] <;> omega)) | ((with_reducible apply h_); focus first | decide | kernel_rfl) | refine BCase.t (by decide) ?_ | refine BCase.f (by decide) ?_ | with_reducible first | apply l_ | apply m_ | apply n_ | apply o_ | refine p_ (fun _ => ?_) (fun _ => ?_)) <;> (conv => whnf)))
                exact Ret.eq rfl
          · rw [if_pos (.inr (.inr (.inr (.inr c3))))]
            rw [lastD_get hne, d39] at c3
            ((conv => whnf); repeat' ((first | (with_reducible first | apply a_ | apply b_ | apply c_) | ((with_reducible first | apply d_ | apply e_ | apply f_ | apply g_); focus first | omega | (simp only [q_] <;> omega)) | ((with_reducible first | apply i_ | apply h_); focus first | omega | (simp only [q_] <;> omega)) | ((with_reducible apply h_); focus first | decide | kernel_rfl) | refine BCase.t (by decide) ?_ | refine BCase.f (by decide) ?_ | (first | refine SIdx.tx 0 rfl l0 ?_ | refine SIdx.tx 1 rfl l2 ?_ | refine SIdx.tx (s.length - 1) e1 l1 ?_) | with_reducible first | apply l_ | apply m_ | apply n_ | apply o_ | refine p_ (fun _ => ?_) (fun _ => ?_)) <;> (conv => whnf)))
            all_goals exact Ret.eq rfl
        · rw [if_pos (.inr (.inr (.inr (.inl c2))))]
          rw [d39] at c2
          ((conv => whnf); repeat' ((first | (with_reducible first | apply a_ | apply b_ | apply c_) | ((with_reducible first | apply d_ | apply e_ | apply f_ | apply g_); focus first | omega | (simp only [q_] <;> omega)) | ((with_reducible first | apply i_ | apply h_); focus first | omega | (simp only [q_] <;> omega)) | ((with_reducible apply h_); focus first | decide | kernel_rfl) | refine BCase.t (by decide) ?_ | refine BCase.f (by decide) ?_ | (first | refine SIdx.tx 0 rfl l0 ?_ | refine SIdx.tx 1 rfl l2 ?_ | refine SIdx.tx (s.length - 1) e1 l1 ?_) | with_reducible first | apply l_ | apply m_ | apply n_ | apply o_ | refine p_ (fun _ => ?_) (fun _ => ?_)) <;> (conv => whnf)))
          all_goals exact Ret.eq rfl
      · rw [if_pos (.inr (.inr (.inl c1)))]
        rw [headD_get, d120] at c1
        ((conv => whnf); repeat' ((first | (with_reducible first | apply a_ | apply b_ | apply c_) | ((with_reducible first | apply d_ | apply e_ | apply f_ | apply g_); focus first | omega | (simp only [q_] <;> omega)) | ((with_reducible first | apply i_ | apply h_); focus first | omega | (simp only [q_] <;> omega)) | ((with_reducible apply h_); focus first | decide | kernel_rfl) | refine BCase.t (by decide) ?_ | refine BCase.f (by decide) ?_ | (refine SIdx.tx 0 rfl l0 ?_) | with_reducible first | apply l_ | apply m_ | apply n_ | apply o_ | refine p_ (fun _ => ?_) (fun _ => ?_)) <;> (conv => whnf)))
        all_goals exact Ret.eq rfl
end Go.Proofs.YtjbopncobegleaaDoor.Pm
end
