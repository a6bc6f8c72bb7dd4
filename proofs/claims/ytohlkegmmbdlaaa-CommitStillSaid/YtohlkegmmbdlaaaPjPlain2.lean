/- journal, plainly: stores that are calm, stores whose journal is hot; what recovering makes of them -/
import Derived.Test.YtohlkegmmbdlaaaPjPlain
namespace Go.Proofs.Ytohlkegmmbdlaaa.Pm
open Go.RowKit K DiskP
set_option linter.unusedVariables false
set_option linter.unusedSimpArgs false
set_option maxRecDepth 100000

def dOps (q : List DiskP.Wr) : List Opr := q.map fun w => (1, w.1, w.2)
def jOps (q : List DiskP.Wr) : List Opr := q.map fun w => (2, w.1, w.2)
def okW (x : DiskP.Wr) : Prop := inPlace x.1 = true ∧ tooLong x.2 = false
theorem check_more {p : List ByteArray} {q r : List DiskP.Wr} (h : check p q = 0) (hl : (q ++ r).length ≤ 48) (hr : ∀ x ∈ r, okW x) : check p (q ++ r) = 0 := by
  obtain ⟨a, b, c, d, e⟩ := check_ok p q h
  exact check_of _ _ a b c hl fun x hx => (List.mem_append.1 hx).elim (e x) (hr x)
theorem writeE_of {p : List ByteArray} {q : List DiskP.Wr} {x : DiskP.Wr} (h : check p q = 0) (hl : q.length < 48) (hx : okW x) : writeE p q x.1 x.2 = 0 := by
  unfold writeE
  rw [if_neg (not_not_intro h), if_neg (by rw [hx.1]; decide), if_neg]
  rintro (e | e)
  · rw [hx.2] at e; cases e
  · omega
/-- writes that wait -/
theorem play_dOps : ∀ {r q : List DiskP.Wr} {p : List ByteArray} {J : Dk}, check p q = 0 → (q ++ r).length ≤ 48 → (∀ x ∈ r, okW x) → playG ((p, q), J) (dOps r) = (((p, q ++ r), J), 0)
  | [], q, p, J, h, hl, hr => by rw [List.append_nil]; rfl
  | x :: r, q, p, J, h, hl, hr => by
    have hx := hr x (List.mem_cons_self ..)
    rw [List.length_append, List.length_cons] at hl
    have he := writeE_of h (by omega) hx
    have e : opR ((p, q), J) (1, x.1, x.2) = (((p, q ++ [x]), J), 0) := by
      unfold opR
      rw [if_pos rfl]
      obtain ⟨a, b⟩ := writeP_yes he
      show (((writeP p q x.1 x.2, writeQ p q x.1 x.2), J), writeE p q x.1 x.2) = _
      rw [a, b, he]
    show playG ((p, q), J) ((1, x.1, x.2) :: dOps r) = _
    rw [playG_cons, e]
    show (if (0 : Int) = 0 then playG ((p, q ++ [x]), J) (dOps r) else _) = _
    rw [if_pos rfl, play_dOps (check_more h (by rw [List.length_append, List.length_singleton]; omega) (by simpa using hx)) (by rw [List.append_assoc]; simp; omega) (fun y hy => hr y (List.mem_cons_of_mem _ hy)), List.append_assoc]
    rfl
theorem play_jOps : ∀ {r q : List DiskP.Wr} {p : List ByteArray} {D : Dk}, check p q = 0 → (q ++ r).length ≤ 48 → (∀ x ∈ r, okW x) → playG (D, (p, q)) (jOps r) = ((D, (p, q ++ r)), 0)
  | [], q, p, D, h, hl, hr => by rw [List.append_nil]; rfl
  | x :: r, q, p, D, h, hl, hr => by
    have hx := hr x (List.mem_cons_self ..)
    rw [List.length_append, List.length_cons] at hl
    have he := writeE_of h (by omega) hx
    have e : opR (D, (p, q)) (2, x.1, x.2) = ((D, (p, q ++ [x])), 0) := by
      unfold opR
      rw [if_neg (show ¬ (2 : Int) = 1 by decide), if_pos rfl]
      obtain ⟨a, b⟩ := writeP_yes he
      show ((D, (writeP p q x.1 x.2, writeQ p q x.1 x.2)), writeE p q x.1 x.2) = _
      rw [a, b, he]
    show playG (D, (p, q)) ((2, x.1, x.2) :: jOps r) = _
    rw [playG_cons, e]
    show (if (0 : Int) = 0 then playG (D, (p, q ++ [x])) (jOps r) else _) = _
    rw [if_pos rfl, play_jOps (check_more h (by rw [List.length_append, List.length_singleton]; omega) (by simpa using hx)) (by rw [List.append_assoc]; simp; omega) (fun y hy => hr y (List.mem_cons_of_mem _ hy)), List.append_assoc]
    rfl
theorem opR_syncD {p : List ByteArray} {q : List DiskP.Wr} {J : Dk} (h : check p q = 0) (n : Int) (s : ByteArray) : opR ((p, q), J) (3, n, s) = (((crashP p q all1, []), J), 0) := by
  unfold opR
  rw [if_neg (show ¬ (3 : Int) = 1 by decide), if_neg (show ¬ (3 : Int) = 2 by decide), if_pos rfl, h]
theorem opR_syncJ {p : List ByteArray} {q : List DiskP.Wr} {D : Dk} (h : check p q = 0) (n : Int) (s : ByteArray) : opR (D, (p, q)) (4, n, s) = ((D, (crashP p q all1, [])), 0) := by
  unfold opR
  rw [if_neg (show ¬ (4 : Int) = 1 by decide), if_neg (show ¬ (4 : Int) = 2 by decide), if_neg (show ¬ (4 : Int) = 3 by decide), if_pos rfl, h]

/-- one write that has landed, or not -/
theorem crash_one {p : List ByteArray} (h : check p [] = 0) {x : DiskP.Wr} (hx : okW x) (m : Int) : crashP p [x] m = p ∨ ∀ n : Nat, pageAt (crashP p [x] m) n = if (n : Int) = x.1 then x.2 else pageAt p n := by
  have hc : check p [x] = 0 := check_more h (by simp) (by simpa using hx)
  have h2 := check_ok _ _ (settleP_pages (m := m) hc)
  have h1 := check_ok _ _ h
  obtain ⟨hx0, hx1⟩ := inPlace_lt hx.1
  cases hb : bitAt m 0 with
  | false =>
    left
    refine pages_ext h2.2.2.1 h1.2.2.1 fun n => ?_
    rw [pageAt_crash hc, kept_none [x] (bitAt m) (fun i hi => by simp at hi; subst hi; exact hb)]
    by_cases c : n < 32
    · rw [if_pos c]; rfl
    · rw [if_neg c, pageAt_far h1.1 (by omega)]
  | true =>
    right
    intro n
    rw [pageAt_crash hc, kept_all [x] (bitAt m) (fun i hi => by simp at hi; subst hi; exact hb)]
    by_cases c : n < 32
    · rw [if_pos c]
      show (if (x.1 == (n : Int)) = true then x.2 else pageAt p n) = _
      by_cases e : (n : Int) = x.1
      · rw [if_pos e, if_pos (by simpa using e.symm)]
      · rw [if_neg e, if_neg (by simpa using fun q => e q.symm)]
    · rw [if_neg c, if_neg (by omega), pageAt_far h1.1 (by omega)]
theorem crash_one_all {p : List ByteArray} (h : check p [] = 0) {x : DiskP.Wr} (hx : okW x) (n : Nat) : pageAt (crashP p [x] all1) n = if (n : Int) = x.1 then x.2 else pageAt p n := by
  have hc : check p [x] = 0 := check_more h (by simp) (by simpa using hx)
  obtain ⟨hx0, hx1⟩ := inPlace_lt hx.1
  rw [pageAt_crash hc, allOn [x] (by simp)]
  by_cases c : n < 32
  · rw [if_pos c]
    show (if (x.1 == (n : Int)) = true then x.2 else pageAt p n) = _
    by_cases e : (n : Int) = x.1
    · rw [if_pos e, if_pos (by simpa using e.symm)]
    · rw [if_neg e, if_neg (by simpa using fun q => e q.symm)]
  · rw [if_neg c, if_neg (by omega), pageAt_far (check_ok _ _ h).1 (by omega)]

/-! ### calm and hot -/
/-- nothing waits, the journal is not hot, the pages are R -/
structure Calm (R : List ByteArray) (u : Str) : Prop where
  d : u.1 = (R, [])
  j : u.2.2 = []
  cd : check R [] = 0
  cj : check u.2.1 [] = 0
  cold : isJ (pageAt u.2.1 0) = false
/-- nothing waits, the journal is hot and says what pages R had where they may differ -/
structure Hot (R : List ByteArray) (e : List DiskP.Wr) (u : Str) : Prop where
  dq : u.1.2 = []
  jq : u.2.2 = []
  cR : check R [] = 0
  cd : check u.1.1 [] = 0
  cj : check u.2.1 [] = 0
  len : e.length ≤ 31
  ok : ∀ x ∈ e, inPlace x.1 = true ∧ x.2.size ≤ 256 ∧ x.2 = pageAt R x.1
  head : pageAt u.2.1 0 = jHead e.length
  ents : ∀ i (h : i < e.length), pageAt u.2.1 ((i + 1 : Nat) : Int) = twoB e[i].1 ++ e[i].2
  rest : ∀ n : Nat, (∀ x ∈ e, x.1 ≠ (n : Int)) → pageAt u.1.1 n = pageAt R n
theorem recR_ent {n : Int} {s : ByteArray} (h : inPlace n = true) : recR (twoB n ++ s) = some (1, n, s) := by
  obtain ⟨h0, h1⟩ := inPlace_lt h
  obtain ⟨l, rfl⟩ : ∃ l, s = tx l := ⟨_, (tx_list s).symm⟩
  have e1 : by1 (n / 256) = 0 := by
    unfold by1
    rw [show n / 256 = 0 by omega]; rfl
  have e2 : ((by1 n).toNat : Int) = n := by
    unfold by1
    rw [show (n % 256).toNat = n.toNat by omega, UInt8.toNat_ofNat']
    omega
  unfold twoB
  rw [tx_append, recR_tx]
  show recL (by1 (n / 256) :: by1 n :: l) = _
  rw [recL_two, e1, if_pos ⟨rfl, by omega⟩, e2]
theorem undoL_ents {f : Nat → ByteArray} : ∀ {e : List DiskP.Wr} {i : Nat}, (∀ x ∈ e, inPlace x.1 = true) → (∀ k (h : k < e.length), f (i + k) = twoB e[k].1 ++ e[k].2) → undoL f i e.length = some (dOps e)
  | [], i, _, _ => rfl
  | x :: e, i, hp, he => by
    rw [List.length_cons, undoL_succ]
    have h0 := he 0 (by simp)
    rw [Nat.add_zero] at h0
    rw [h0]
    show (match recR (twoB x.1 ++ x.2) with | none => none | some o => _) = _
    rw [recR_ent (hp x (List.mem_cons_self ..))]
    show (undoL f (i + 1) e.length).map _ = _
    rw [undoL_ents (e := e) (fun y hy => hp y (List.mem_cons_of_mem _ hy)) (fun k hk => by
      have := he (k + 1) (by simpa using hk)
      rw [show i + 1 + k = i + (k + 1) by omega]
      simpa using this)]
    rfl
theorem Calm.chk {R : List ByteArray} {u : Str} (h : Calm R u) : storeChk u = 0 ∧ waitsR u = false ∧ hotR u = false := by
  obtain ⟨⟨p, q⟩, j, q'⟩ := u
  obtain ⟨h1, h2, h3, h4, h5⟩ := h
  cases h1
  simp only at h2 h4 h5
  subst h2
  refine ⟨?_, rfl, ?_⟩
  · unfold storeChk; rw [if_neg (not_not_intro h3)]; exact h4
  · exact h5
theorem Calm.undo {R : List ByteArray} {u : Str} (h : Calm R u) : undoR u = ([], 0) := by
  obtain ⟨h1, h2, h3⟩ := h.chk
  unfold undoR
  rw [if_neg (not_not_intro h1), if_neg (by rw [h2]; decide), if_pos h3]
theorem Calm.recover {R : List ByteArray} {u : Str} (h : Calm R u) : recoverR u = (u, 0) := by
  unfold recoverR
  rw [h.undo, if_neg (by decide)]
  exact playR_ok h.chk.1 (by simp)
theorem Calm.plain {R : List ByteArray} {u : Str} (h : Calm R u) : plainE u = true := by
  have h3 := h.chk.2.2
  unfold plainE
  rw [h3, h.j, h.d]; rfl
theorem jHead_hot (m : Nat) : isJ (jHead m) = true := rfl
theorem headN_head {m : Nat} (h : m ≤ 31) : headN (jHead m) = some m := by
  have e : (by1 (m : Int)).toNat = m := by
    unfold by1
    rw [show ((m : Int) % 256).toNat = m by omega, UInt8.toNat_ofNat']
    omega
  show (if (by1 (m : Int)).toNat ≤ 31 then some (by1 (m : Int)).toNat else none) = _
  rw [e, if_pos h]
theorem Hot.chk {R : List ByteArray} {e : List DiskP.Wr} {u : Str} (h : Hot R e u) : storeChk u = 0 ∧ waitsR u = false ∧ hotR u = true := by
  refine ⟨?_, ?_, ?_⟩
  · unfold storeChk; rw [h.dq, h.jq, if_neg (not_not_intro h.cd)]; exact h.cj
  · unfold waitsR; rw [h.dq, h.jq]; rfl
  · unfold hotR
    rw [h.jq]
    show isJ (pageAt u.2.1 0) = true
    rw [h.head]; rfl
theorem Hot.undo {R : List ByteArray} {e : List DiskP.Wr} {u : Str} (h : Hot R e u) : undoR u = (dOps e ++ endO, 0) := by
  obtain ⟨h1, h2, h3⟩ := h.chk
  unfold undoR
  rw [if_neg (not_not_intro h1), if_neg (by rw [h2]; decide), if_neg (by rw [h3]; decide), h.head, headN_head h.len]
  simp only
  rw [undoL_ents (fun x hx => (h.ok x hx).1) (fun k hk => by rw [Nat.add_comm]; exact h.ents k hk)]
end Go.Proofs.Ytohlkegmmbdlaaa.Pm
