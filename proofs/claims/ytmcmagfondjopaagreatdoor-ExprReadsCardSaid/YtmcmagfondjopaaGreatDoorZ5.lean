/- Parts of the proof, one behind the other: PxCheck PnPlain PnGram PnGram2 PnRef PnRef2 PnRef3 PnRef4 PnRef5 PnRef6 PxAlone PmClone PxDeep PnRd PnRd2. Conditions: none beyond what each theorem says. -/
import Derived.Test.YtmcmagfondjopaaGreatDoorZ4
set_option linter.unusedVariables false
set_option linter.unusedSimpArgs false
namespace Go.Proofs.YtmcmagfondjopaaGreatDoor.Pm
section
set_option maxRecDepth 100000
def noV : ValueD := ⟨0, 0, []⟩
def leastK (op : Int) : Int := if op = 1 ∨ op = 2 then 0 else if op = 3 ∨ op = 4 ∨ op = 18 ∨ op = 19 then 1 else if op = 24 ∨ op = 25 then 3 else 2
def mostK (op : Int) : Int := if op = 22 ∨ op = 23 then 7 else leastK op
def alF (n : NodeD) : Int :=
 if n.Op < 1 ∨ 25 < n.Op then 7
 else if n.Kids < leastK n.Op ∨ mostK n.Op < n.Kids ∨ (n.Op ≠ 1 ∧ ValueD.eqB n.V noV = false) ∨ (n.Op ≠ 2 ∧ n.Name ≠ []) then 1
 else if n.Op = 1 then (if vChk n.V ≠ 0 then vChk n.V else if n.V.N < 0 then 3 else 0)
 else if n.Op = 2 ∧ nameB n.Name = false then 1 else 0
theorem leastK_pos (op : Int) : 0 ≤ leastK op ∧ leastK op ≤ 3 := by unfold leastK; (repeat' split) <;> omega
theorem mostK_le (op : Int) : mostK op ≤ 7 := by have := leastK_pos op; unfold mostK; split <;> omega
theorem alF_kids {n : NodeD} (h : alF n = 0) : 0 ≤ n.Kids ∧ n.Kids ≤ 7 ∧ leastK n.Op ≤ n.Kids ∧ n.Kids ≤ mostK n.Op ∧ 1 ≤ n.Op ∧ n.Op ≤ 25 := by
 have h1 := leastK_pos n.Op
 have h2 := mostK_le n.Op
 unfold alF at h
 split at h
 ·omega
 ·split at h
  ·omega
  ·rename_i h4 h3
   have a1 : ¬ n.Kids < leastK n.Op := fun q => h3 (.inl q)
   have a2 : ¬ mostK n.Op < n.Kids := fun q => h3 (.inr (.inl q))
   omega
def chkO : Nat → List NodeD → Int
 | o, [] => if o ≠ 1 then 1 else 0
 | o, n :: r => if alF n ≠ 0 then alF n else if (o : Int) < n.Kids then 1 else chkO (o + 1 - n.Kids.toNat) r
theorem chkO_cons (o : Nat) (n : NodeD) (r : List NodeD) : chkO o (n :: r) = if alF n ≠ 0 then alF n else if (o : Int) < n.Kids then 1 else chkO (o + 1 - n.Kids.toNat) r := rfl
def maxL : List Nat → Nat
 | [] => 0
 | x :: r => max x (maxL r)
def deepF (n : NodeD) (ks : List Nat) : Except Int Nat := .ok (maxL ks + 1)
def depthE (e : List NodeD) : Nat := match walkR deepF e with
 | .ok d => d
 | .error _ => 0
def checkF (e : List NodeD) : Int := if 60 < e.length then 2 else if chkO 0 e ≠ 0 then chkO 0 e else if 12 < depthE e then 10 else 0
def chkR : List Nat → List NodeD → Int
 | st, [] => if st.length ≠ 1 then 1 else if 12 < st.headD 0 then 10 else 0
 | st, n :: r => if alF n ≠ 0 then alF n else if (st.length : Int) < n.Kids then 1 else chkR (st.take (st.length - n.Kids.toNat) ++ [maxL (st.drop (st.length - n.Kids.toNat)) + 1]) r
theorem chkR_cons (st : List Nat) (n : NodeD) (r : List NodeD) : chkR st (n :: r) = if alF n ≠ 0 then alF n else if (st.length : Int) < n.Kids then 1 else chkR (st.take (st.length - n.Kids.toNat) ++ [maxL (st.drop (st.length - n.Kids.toNat)) + 1]) r := rfl
theorem take_len {α : Type} (st : List α) (k : Nat) (x : α) (h : k ≤ st.length) : (st.take (st.length - k) ++ [x]).length = st.length + 1 - k := by
 rw [List.length_append, List.length_take, List.length_singleton]; omega
theorem chk_walk {α : Type} (f : NodeD → List α → α) : ∀ (e : List NodeD) (st : List α), chkO st.length e = 0 → ∃ x, walkG (fun n ks => .ok (f n ks)) st e = .ok [x]
 | [], st, h => by
  unfold chkO at h
  split at h
  ·cases h
  ·rename_i q
   match st, Decidable.of_not_not q with
   | [x], _ => exact ⟨x, rfl⟩
 | n :: r, st, h => by
  rw [chkO_cons] at h
  split at h
  ·rename_i q; exact absurd h q
  ·rename_i q
   have hk := alF_kids (Decidable.of_not_not q)
   split at h
   ·cases h
   ·rename_i g
    rw [walkG_cons, if_neg (by omega)]
    exact chk_walk f r _ (by rw [take_len _ _ _ (by omega)]; exact h)
theorem chkR_chkO : ∀ (e : List NodeD) (st : List Nat), chkR st e = if chkO st.length e ≠ 0 then chkO st.length e else match walkG deepF st e with
  | .ok [d] => if 12 < d then 10 else 0
  | _ => 0
 | [], st => by
  unfold chkR chkO
  by_cases h : st.length = 1
  ·match st, h with
   | [d], _ => rfl
  ·rw [if_pos h, if_pos h]; rfl
 | n :: r, st => by
  rw [chkR_cons, chkO_cons]
  by_cases q : alF n ≠ 0
  ·rw [if_pos q, if_pos q, if_pos q]
  ·have hk := alF_kids (Decidable.of_not_not q)
   rw [if_neg q, if_neg q]
   by_cases g : (st.length : Int) < n.Kids
   ·rw [if_pos g, if_pos g]; rfl
   ·have g2 : ¬ (n.Kids < 0 ∨ (st.length : Int) < n.Kids) := by omega
    have ih := chkR_chkO r (st.take (st.length - n.Kids.toNat) ++ [maxL (st.drop (st.length - n.Kids.toNat)) + 1])
    rw [take_len _ _ _ (by omega)] at ih
    rw [if_neg g, if_neg g, ih]
    have hw : walkG deepF st (n :: r) = walkG deepF (st.take (st.length - n.Kids.toNat) ++ [maxL (st.drop (st.length - n.Kids.toNat)) + 1]) r := by
     rw [walkG_cons, if_neg g2]; rfl
    rw [hw]
theorem checkR_eq (e : List NodeD) : (if 60 < e.length then 2 else if e.length = 0 then 1 else chkR [] e) = checkF e := by
 unfold checkF
 by_cases h : 60 < e.length
 ·rw [if_pos h, if_pos h]
 ·rw [if_neg h, if_neg h]
  by_cases h0 : e.length = 0
  ·rw [if_pos h0]
   obtain rfl := List.eq_nil_of_length_eq_zero h0
   rfl
  ·rw [if_neg h0, chkR_chkO]
   have e0 : chkO ([] : List Nat).length e = chkO 0 e := rfl
   rw [e0]
   by_cases q : chkO 0 e ≠ 0
   ·rw [if_pos q, if_pos q]
   ·rw [if_neg q, if_neg q]
    obtain ⟨x, hx⟩ := chk_walk (fun _ ks => maxL ks + 1) e [] (Decidable.of_not_not q)
    have hx : walkG deepF [] e = .ok [x] := hx
    unfold depthE walkR
    rw [hx]
theorem chk_all : ∀ (e : List NodeD) (o : Nat), chkO o e = 0 → ∀ n ∈ e, alF n = 0
 | [], _, _, n, h => by cases h
 | m :: r, o, h, n, hn => by
  rw [chkO_cons] at h
  split at h
  ·rename_i q; exact absurd h q
  ·rename_i q
   rcases List.mem_cons.1 hn with rfl | hn
   ·exact Decidable.of_not_not q
   ·split at h
    ·cases h
    ·exact chk_all r _ h n hn
theorem chk_bal : ∀ (e : List NodeD) (o : Nat), (∀ n ∈ e, alF n = 0) → (∃ (st ts : List Ex), st.length = o ∧ walkG treeF st e = .ok ts ∧ ts.length = 1) → chkO o e = 0
 | [], o, _, ⟨st, ts, h1, h2, h3⟩ => by
  cases h2
  unfold chkO
  rw [if_neg (by omega)]
 | n :: r, o, ha, ⟨st, ts, h1, h2, h3⟩ => by
  have hn := ha n (List.mem_cons_self ..)
  have hk := alF_kids hn
  rw [walkG_cons] at h2
  split at h2
  ·cases h2
  ·rename_i g
   rw [chkO_cons, if_neg (by rw [hn]; decide), if_neg (by omega)]
   refine chk_bal r _ (fun m hm => ha m (List.mem_cons_of_mem _ hm)) ⟨_, ts, ?_, h2, h3⟩
   rw [take_len _ _ _ (by omega), h1]
theorem fold_deep (t : Ex) : foldX deepF t = .ok t.depth := by
 refine Ex.rec (motive_1 := fun t => foldX deepF t = .ok t.depth) (motive_2 := fun l => ∃ vs, foldXs deepF l = .ok vs ∧ maxL vs = Ex.depths l) (fun n ks ih => ?_) ⟨[], by rw [foldXs], by rw [Ex.depths]; rfl⟩ (fun t ts h1 h2 => ?_) t
 ·obtain ⟨vs, h1, h2⟩ := ih
  rw [foldX, h1, Ex.depth, ← h2]; rfl
 ·obtain ⟨vs, h3, h4⟩ := h2
  refine ⟨t.depth :: vs, by rw [foldXs, h1, h3], ?_⟩
  rw [Ex.depths, ← h4]; rfl
theorem depthE_flat {t : Ex} (h : t.good) : depthE t.flat = t.depth := by
 unfold depthE
 rw [walkR_fold _ t h, fold_deep]
structure RightT (t : Ex) : Prop where
 good : t.good
 all : ∀ n ∈ t.flat, alF n = 0
 deep : t.depth ≤ 12
 len : t.flat.length ≤ 60
theorem right_of {e : List NodeD} (h : checkF e = 0) : ∃ t : Ex, RightT t ∧ t.flat = e := by
 unfold checkF at h
 split at h
 ·cases h
 ·rename_i h60
  split at h
  ·rename_i q; exact absurd h q
  ·rename_i q
   have q := Decidable.of_not_not q
   split at h
   ·cases h
   ·rename_i h12
    obtain ⟨x, hx⟩ := chk_walk (fun _ ks => maxL ks + 1) e [] q
    have hx : walkR deepF e = .ok x := by
     unfold walkR
     rw [show walkG deepF [] e = .ok [x] from hx]
    obtain ⟨t, h1, rfl⟩ := tree_of_walk hx
    rw [depthE_flat h1] at h12
    exact ⟨t, ⟨h1, chk_all _ _ q, by omega, by omega⟩, rfl⟩
theorem chkO_flat {t : Ex} (h : t.good) (ha : ∀ n ∈ t.flat, alF n = 0) : chkO 0 t.flat = 0 := by
 have hw := walk_fold treeF t h [] []
 rw [List.append_nil, foldX_tree] at hw
 exact chk_bal _ 0 ha ⟨[], _, rfl, hw, rfl⟩
theorem check_right {t : Ex} (h : RightT t) : checkF t.flat = 0 := by
 unfold checkF
 rw [if_neg (by have := h.len; omega), chkO_flat h.good h.all, if_neg (by decide), depthE_flat h.good, if_neg (by have := h.deep; omega)]
end
section
open Go.RowKit K
abbrev wNot : List UInt8 := [110, 111, 116]
abbrev wNull : List UInt8 := [110, 117, 108, 108]
abbrev wIs : List UInt8 := [105, 115]
abbrev wLike : List UInt8 := [108, 105, 107, 101]
abbrev wIn : List UInt8 := [105, 110]
abbrev wBetw : List UInt8 := [98, 101, 116, 119, 101, 101, 110]
abbrev wAnd : List UInt8 := [97, 110, 100]
abbrev wOr : List UInt8 := [111, 114]
abbrev sLp : List UInt8 := [40]
abbrev sRp : List UInt8 := [41]
abbrev sCo : List UInt8 := [44]
abbrev sMi : List UInt8 := [45]
def isM (t : TokenD) (s : List UInt8) : Bool := decide ((t.Kind = 1 ∨ t.Kind = 5) ∧ t.S = s)
def sgn (op : Int) : List UInt8 :=
 if op = 5 then [43] else if op = 6 ∨ op = 3 then [45] else if op = 7 then [42] else if op = 8 then [47] else if op = 9 then [37] else
 if op = 10 then [61] else if op = 11 then [60, 62] else if op = 12 then [60] else if op = 13 then [60, 61] else if op = 14 then [62] else if op = 15 then [62, 61] else
 if op = 16 then wAnd else if op = 17 then wOr else if op = 4 then wNot else []
def isH (s : List UInt8) : List TokenD → Bool
 | [] => false
 | t :: _ => isM t s
def tkO (s : List UInt8) (l : List TokenD) : List TokenD := if isH s l then l.drop 1 else l
def opAt : List Int → List TokenD → Option Int
 | [], _ => none
 | o :: os, l => if isH (sgn o) l then some o else opAt os l
def nOp (op kids : Int) : NodeD := ⟨op, kids, noV, []⟩
abbrev PR := Option (List TokenD × List NodeD)
def chainR (one : List TokenD → PR) (ops : List Int) : Nat → List TokenD → PR
 | 0, l => some (l, [])
 | n + 1, l => match opAt ops l with
  | none => some (l, [])
  | some o => match one (l.drop 1) with
   | none => none
   | some (r, ns) => match chainR one ops n r with
    | none => none
    | some (r2, ms) => some (r2, ns ++ (nOp o 2 :: ms))
def chainF (one : List TokenD → PR) (ops : List Int) (l : List TokenD) : PR :=
 match one l with
 | none => none
 | some (r, ns) => match chainR one ops (r.length + 1) r with
  | none => none
  | some (r2, ms) => some (r2, ns ++ ms)
def heads (s : List UInt8) : List TokenD → Nat
 | [] => 0
 | t :: r => if isM t s then heads s r + 1 else 0
def preF (s : List UInt8) (op : Int) (one : List TokenD → PR) (l : List TokenD) : PR :=
 match one (l.drop (heads s l)) with
 | none => none
 | some (r, ns) => some (r, ns ++ List.replicate (heads s l) (nOp op 1))
def litF (t : TokenD) : Option NodeD :=
 if t.Kind = 2 then some ⟨1, 0, ⟨1, t.N, []⟩, []⟩ else if t.Kind = 3 then some ⟨1, 0, ⟨2, 0, t.S⟩, []⟩ else if t.Kind = 4 then some ⟨1, 0, ⟨3, 0, t.S⟩, []⟩ else
 if isM t wNull then some ⟨1, 0, noV, []⟩ else if t.Kind = 1 ∧ nameB t.S = true then some ⟨2, 0, noV, t.S⟩ else none
def oneF (rec : List TokenD → PR) : List TokenD → PR
 | [] => none
 | t :: r => if isM t sLp then (match rec r with
   | none => none
   | some (r2, ns) => if isH sRp r2 then some (r2.drop 1, ns) else none)
  else match litF t with
   | none => none
   | some n => some (r, [n])
abbrev negF (rec : List TokenD → PR) : List TokenD → PR := preF sMi 3 (oneF rec)
abbrev mulF (rec : List TokenD → PR) : List TokenD → PR := chainF (negF rec) [7, 8, 9]
abbrev addF (rec : List TokenD → PR) : List TokenD → PR := chainF (mulF rec) [5, 6]
def listR (rec : List TokenD → PR) : Nat → List TokenD → Option (List TokenD × List NodeD × Nat)
 | 0, l => some (l, [], 0)
 | n + 1, l => if isH sCo l then (match rec (l.drop 1) with
   | none => none
   | some (r, ns) => match listR rec n r with
    | none => none
    | some (r2, ms, k) => some (r2, ns ++ ms, k + 1))
  else some (l, [], 0)
def listF (rec : List TokenD → PR) (l : List TokenD) : Option (List TokenD × List NodeD × Nat) :=
 if isH sLp l then (match rec (l.drop 1) with
  | none => none
  | some (r, ns) => match listR rec (r.length + 1) r with
   | none => none
   | some (r2, ms, k) => if isH sRp r2 then some (r2.drop 1, ns ++ ms, k + 1) else none)
 else none
def twoF (rec : List TokenD → PR) (l : List TokenD) : PR :=
 match addF rec l with
 | none => none
 | some (r, ns) => if isH wAnd r then (match addF rec (r.drop 1) with
   | none => none
   | some (r2, ms) => some (r2, ns ++ ms))
  else none
def tailF (rec : List TokenD → PR) (k : Nat) (l : List TokenD) : PR :=
 if isH wLike l then (match addF rec (l.drop 1) with
  | none => none
  | some (r, ns) => some (r, ns ++ [nOp (20 + k) 2]))
 else if isH wIn l then (match listF rec (l.drop 1) with
  | none => none
  | some (r, ns, n) => some (r, ns ++ [nOp (22 + k) (n + 1)]))
 else if isH wBetw l then (match twoF rec (l.drop 1) with
  | none => none
  | some (r, ns) => some (r, ns ++ [nOp (24 + k) 3]))
 else if k = 1 then none else some (l, [])
def isF (l : List TokenD) : PR :=
 if isH wNot l then (if isH wNull (l.drop 1) then some (l.drop 2, [nOp 19 1]) else none)
 else if isH wNull l then some (l.drop 1, [nOp 18 1]) else none
def moreF (rec : List TokenD → PR) (l : List TokenD) : PR :=
 match opAt [10, 11, 12, 13, 14, 15] l with
 | some o => (match addF rec (l.drop 1) with
  | none => none
  | some (r, ns) => some (r, ns ++ [nOp o 2]))
 | none => if isH wIs l then isF (l.drop 1)
  else if isH wNot l then tailF rec 1 (l.drop 1) else tailF rec 0 l
def askF (rec : List TokenD → PR) (l : List TokenD) : PR :=
 match addF rec l with
 | none => none
 | some (r, ns) => match moreF rec r with
  | none => none
  | some (r2, ms) => some (r2, ns ++ ms)
abbrev notF (rec : List TokenD → PR) : List TokenD → PR := preF wNot 4 (askF rec)
abbrev andF (rec : List TokenD → PR) : List TokenD → PR := chainF (notF rec) [16]
abbrev orF (rec : List TokenD → PR) : List TokenD → PR := chainF (andF rec) [17]
def pOr : Nat → List TokenD → PR
 | 0 => fun _ => none
 | n + 1 => orF (pOr n)
def fit (b : Nat) (l : List TokenD) (x : PR) : Prop := ∀ r ns, x = some (r, ns) → ∃ k, b ≤ k ∧ k ≤ l.length ∧ r = l.drop k ∧ ns.length ≤ k
theorem isH_pos {s : List UInt8} {l : List TokenD} (h : isH s l = true) : 0 < l.length := by
 cases l with
 | nil => cases h
 | cons _ _ => simp
theorem opAt_pos {l : List TokenD} {o : Int} : ∀ {ops : List Int}, opAt ops l = some o → isH (sgn o) l = true ∧ o ∈ ops
 | [], h => by cases h
 | a :: os, h => by
  rw [opAt] at h
  split at h
  ·rename_i g; cases h; exact ⟨g, List.mem_cons_self⟩
  ·exact ⟨(opAt_pos h).1, List.mem_cons_of_mem _ (opAt_pos h).2⟩
theorem fit_at {b a : Nat} {l : List TokenD} {x : PR} (ha : a ≤ l.length) (h : fit b (l.drop a) x) {r : List TokenD} {ns : List NodeD} (e : x = some (r, ns)) : ∃ k, b + a ≤ k ∧ k ≤ l.length ∧ r = l.drop k ∧ ns.length + a ≤ k := by
 obtain ⟨k, h1, h2, h3, h4⟩ := h r ns e
 rw [List.length_drop] at h2
 refine ⟨a + k, by omega, by omega, ?_, by omega⟩
 rw [h3, List.drop_drop]
theorem fit_chainR {one : List TokenD → PR} {ops : List Int} (h1 : ∀ l, fit 1 l (one l)) : ∀ (n : Nat) (l : List TokenD), fit 0 l (chainR one ops n l)
 | 0, l => fun r ns e => by rw [chainR] at e; cases e; exact ⟨0, Nat.le_refl _, Nat.zero_le _, rfl, Nat.le_refl _⟩
 | n + 1, l => fun r ns e => by
  rw [chainR] at e
  split at e
  ·cases e; exact ⟨0, Nat.le_refl _, Nat.zero_le _, rfl, Nat.le_refl _⟩
  ·rename_i o ho
   have hp := isH_pos (opAt_pos ho).1
   split at e
   ·cases e
   ·rename_i r1 ns1 e1
    obtain ⟨k1, a1, a2, a3, a4⟩ := fit_at hp (h1 _) e1
    split at e
    ·cases e
    ·rename_i r2 ms e2
     cases e
     subst a3
     obtain ⟨k2, b1, b2, b3, b4⟩ := fit_at a2 (fit_chainR h1 n (l.drop k1)) e2
     refine ⟨k2, Nat.zero_le _, b2, b3, ?_⟩
     rw [List.length_append, List.length_cons]; omega
theorem fit_chainF {one : List TokenD → PR} {ops : List Int} (h1 : ∀ l, fit 1 l (one l)) (l : List TokenD) : fit 1 l (chainF one ops l) := fun r ns e => by
 unfold chainF at e
 split at e
 ·cases e
 ·rename_i r1 ns1 e1
  obtain ⟨k1, a1, a2, a3, a4⟩ := h1 l r1 ns1 e1
  split at e
  ·cases e
  ·rename_i r2 ms e2
   cases e
   subst a3
   obtain ⟨k2, b1, b2, b3, b4⟩ := fit_at a2 (fit_chainR h1 _ (l.drop k1)) e2
   refine ⟨k2, by omega, b2, b3, ?_⟩
   rw [List.length_append]; omega
theorem heads_le (s : List UInt8) : ∀ l : List TokenD, heads s l ≤ l.length
 | [] => Nat.le_refl _
 | t :: r => by
  have := heads_le s r
  rw [heads]
  split
  ·rw [List.length_cons]; omega
  ·omega
theorem fit_pre {one : List TokenD → PR} {s : List UInt8} {op : Int} (h1 : ∀ l, fit 1 l (one l)) (l : List TokenD) : fit 1 l (preF s op one l) := fun r ns e => by
 unfold preF at e
 split at e
 ·cases e
 ·rename_i r1 ns1 e1
  cases e
  obtain ⟨k1, a1, a2, a3, a4⟩ := fit_at (heads_le s l) (h1 _) e1
  refine ⟨k1, by omega, a2, a3, ?_⟩
  rw [List.length_append, List.length_replicate]; omega
theorem fit_one {rec : List TokenD → PR} (h : ∀ l, fit 1 l (rec l)) : ∀ l, fit 1 l (oneF rec l)
 | [] => fun r ns e => by cases e
 | t :: l => fun r ns e => by
  rw [oneF] at e
  split at e
  ·split at e
   ·cases e
   ·rename_i r2 ms e2
    obtain ⟨k, h1, h2, h3, h4⟩ := h l r2 ms e2
    split at e
    ·rename_i g
     have hp := isH_pos g
     cases e
     subst h3
     rw [List.length_drop] at hp
     refine ⟨k + 2, by omega, by rw [List.length_cons]; omega, ?_, by omega⟩
     rw [List.drop_drop]; rfl
    ·cases e
  ·split at e
   ·cases e
   ·cases e
    exact ⟨1, Nat.le_refl _, by simp, rfl, Nat.le_refl _⟩
def fitL (b : Nat) (l : List TokenD) (x : Option (List TokenD × List NodeD × Nat)) : Prop := ∀ r ns n, x = some (r, ns, n) → ∃ k, b ≤ k ∧ k ≤ l.length ∧ r = l.drop k ∧ ns.length + b ≤ k ∧ n ≤ k
theorem fit_listR {rec : List TokenD → PR} (h : ∀ l, fit 1 l (rec l)) : ∀ (n : Nat) (l : List TokenD), fitL 0 l (listR rec n l)
 | 0, l => fun r ns m e => by rw [listR] at e; cases e; exact ⟨0, Nat.le_refl _, Nat.zero_le _, rfl, Nat.le_refl _, Nat.le_refl _⟩
 | n + 1, l => fun r ns m e => by
  rw [listR] at e
  split at e
  ·rename_i g
   have hp := isH_pos g
   split at e
   ·cases e
   ·rename_i r1 ns1 e1
    obtain ⟨k1, a1, a2, a3, a4⟩ := fit_at hp (h _) e1
    split at e
    ·cases e
    ·rename_i r2 ms k e2
     cases e
     subst a3
     obtain ⟨k2, b1, b2, b3, b4, b5⟩ := fit_listR h n (l.drop k1) _ _ _ e2
     rw [List.length_drop] at b2
     refine ⟨k1 + k2, Nat.zero_le _, by omega, by rw [b3, List.drop_drop], ?_, by omega⟩
     rw [List.length_append]; omega
  ·cases e; exact ⟨0, Nat.le_refl _, Nat.zero_le _, rfl, Nat.le_refl _, Nat.le_refl _⟩
theorem fit_list {rec : List TokenD → PR} (h : ∀ l, fit 1 l (rec l)) (l : List TokenD) : fitL 2 l (listF rec l) := fun r ns m e => by
 unfold listF at e
 split at e
 ·rename_i g
  have hp := isH_pos g
  split at e
  ·cases e
  ·rename_i r1 ns1 e1
   obtain ⟨k1, a1, a2, a3, a4⟩ := fit_at hp (h _) e1
   split at e
   ·cases e
   ·rename_i r2 ms k e2
    subst a3
    obtain ⟨k2, b1, b2, b3, b4, b5⟩ := fit_listR h _ (l.drop k1) _ _ _ e2
    rw [List.length_drop] at b2
    split at e
    ·rename_i g2
     have hp2 := isH_pos g2
     cases e
     subst b3
     rw [List.length_drop, List.length_drop] at hp2
     refine ⟨k1 + k2 + 1, by omega, by omega, by rw [List.drop_drop, List.drop_drop, Nat.add_assoc], ?_, by omega⟩
     rw [List.length_append]; omega
    ·cases e
 ·cases e
theorem fit_two {rec : List TokenD → PR} (ha : ∀ l, fit 1 l (addF rec l)) (l : List TokenD) : fit 2 l (twoF rec l) := fun r ns e => by
 unfold twoF at e
 split at e
 ·cases e
 ·rename_i r1 ns1 e1
  obtain ⟨k1, a1, a2, a3, a4⟩ := ha l r1 ns1 e1
  split at e
  ·rename_i g
   have hp := isH_pos g
   split at e
   ·cases e
   ·rename_i r2 ms e2
    cases e
    subst a3
    rw [List.length_drop] at hp
    rw [List.drop_drop] at e2
    obtain ⟨k2, b1, b2, b3, b4⟩ := fit_at (by omega) (ha _) e2
    refine ⟨k2, by omega, b2, b3, ?_⟩
    rw [List.length_append]; omega
  ·cases e
theorem fit_tail {rec : List TokenD → PR} (h : ∀ l, fit 1 l (rec l)) (ha : ∀ l, fit 1 l (addF rec l)) (k : Nat) (l : List TokenD) : fit 0 l (tailF rec k l) := fun r ns e => by
 unfold tailF at e
 split at e
 ·rename_i g
  have hp := isH_pos g
  split at e
  ·cases e
  ·rename_i r1 ns1 e1
   cases e
   obtain ⟨k1, a1, a2, a3, a4⟩ := fit_at hp (ha _) e1
   refine ⟨k1, by omega, a2, a3, ?_⟩
   rw [List.length_append, List.length_singleton]; omega
 ·split at e
  ·rename_i g
   have hp := isH_pos g
   split at e
   ·cases e
   ·rename_i r1 ns1 n e1
    cases e
    obtain ⟨k1, a1, a2, a3, a4, a5⟩ := fit_list h _ _ _ _ e1
    rw [List.length_drop] at a2
    refine ⟨1 + k1, by omega, by omega, by rw [a3, List.drop_drop], ?_⟩
    rw [List.length_append, List.length_singleton]; omega
  ·split at e
   ·rename_i g
    have hp := isH_pos g
    split at e
    ·cases e
    ·rename_i r1 ns1 e1
     cases e
     obtain ⟨k1, a1, a2, a3, a4⟩ := fit_at hp (fit_two ha _) e1
     refine ⟨k1, by omega, a2, a3, ?_⟩
     rw [List.length_append, List.length_singleton]; omega
   ·split at e
    ·cases e
    ·cases e; exact ⟨0, Nat.le_refl _, Nat.zero_le _, rfl, Nat.le_refl _⟩
theorem fit_is (l : List TokenD) : fit 1 l (isF l) := fun r ns e => by
 unfold isF at e
 split at e
 ·split at e
  ·rename_i g1 g2
   have hp := isH_pos g2
   rw [List.length_drop] at hp
   cases e
   exact ⟨2, by omega, by omega, rfl, by simp⟩
  ·cases e
 ·split at e
  ·rename_i g1 g2
   have hp := isH_pos g2
   cases e
   exact ⟨1, by omega, by omega, rfl, by simp⟩
  ·cases e
theorem fit_more {rec : List TokenD → PR} (h : ∀ l, fit 1 l (rec l)) (ha : ∀ l, fit 1 l (addF rec l)) (l : List TokenD) : fit 0 l (moreF rec l) := fun r ns e => by
 unfold moreF at e
 split at e
 ·rename_i o ho
  have hp := isH_pos (opAt_pos ho).1
  split at e
  ·cases e
  ·rename_i r1 ns1 e1
   cases e
   obtain ⟨k1, a1, a2, a3, a4⟩ := fit_at hp (ha _) e1
   refine ⟨k1, by omega, a2, a3, ?_⟩
   rw [List.length_append, List.length_singleton]; omega
 ·split at e
  ·rename_i g
   obtain ⟨k1, a1, a2, a3, a4⟩ := fit_at (isH_pos g) (fit_is _) e
   exact ⟨k1, by omega, a2, a3, by omega⟩
  ·split at e
   ·rename_i g
    obtain ⟨k1, a1, a2, a3, a4⟩ := fit_at (isH_pos g) (fit_tail h ha 1 _) e
    exact ⟨k1, by omega, a2, a3, by omega⟩
   ·exact fit_tail h ha 0 l r ns e
theorem fit_ask {rec : List TokenD → PR} (h : ∀ l, fit 1 l (rec l)) (ha : ∀ l, fit 1 l (addF rec l)) (l : List TokenD) : fit 1 l (askF rec l) := fun r ns e => by
 unfold askF at e
 split at e
 ·cases e
 ·rename_i r1 ns1 e1
  obtain ⟨k1, a1, a2, a3, a4⟩ := ha l r1 ns1 e1
  split at e
  ·cases e
  ·rename_i r2 ms e2
   cases e
   subst a3
   obtain ⟨k2, b1, b2, b3, b4⟩ := fit_at a2 (fit_more h ha (l.drop k1)) e2
   refine ⟨k2, by omega, b2, b3, ?_⟩
   rw [List.length_append]; omega
theorem fit_neg {rec : List TokenD → PR} (h : ∀ l, fit 1 l (rec l)) (l : List TokenD) : fit 1 l (negF rec l) := fit_pre (fit_one h) l
theorem fit_mul {rec : List TokenD → PR} (h : ∀ l, fit 1 l (rec l)) (l : List TokenD) : fit 1 l (mulF rec l) := fit_chainF (fit_neg h) l
theorem fit_add {rec : List TokenD → PR} (h : ∀ l, fit 1 l (rec l)) (l : List TokenD) : fit 1 l (addF rec l) := fit_chainF (fit_mul h) l
theorem fit_not {rec : List TokenD → PR} (h : ∀ l, fit 1 l (rec l)) (l : List TokenD) : fit 1 l (notF rec l) := fit_pre (fit_ask h (fit_add h)) l
theorem fit_and {rec : List TokenD → PR} (h : ∀ l, fit 1 l (rec l)) (l : List TokenD) : fit 1 l (andF rec l) := fit_chainF (fit_not h) l
theorem fit_orF {rec : List TokenD → PR} (h : ∀ l, fit 1 l (rec l)) (l : List TokenD) : fit 1 l (orF rec l) := fit_chainF (fit_and h) l
theorem fit_pOr : ∀ (n : Nat) (l : List TokenD), fit 1 l (pOr n l)
 | 0, l => fun r ns e => by cases e
 | n + 1, l => fit_orF (fit_pOr n) l
theorem chainR_fuel {one : List TokenD → PR} {ops : List Int} (h1 : ∀ l, fit 1 l (one l)) : ∀ (n m : Nat) (l : List TokenD), l.length < n → l.length < m → chainR one ops n l = chainR one ops m l
 | 0, _, l, h, _ => absurd h (Nat.not_lt_zero _)
 | _ + 1, 0, l, _, h => absurd h (Nat.not_lt_zero _)
 | n + 1, m + 1, l, hn, hm => by
  rw [chainR, chainR]
  cases ho : opAt ops l with
  | none => rfl
  | some o =>
   have hp := isH_pos (opAt_pos ho).1
   cases e1 : one (l.drop 1) with
   | none => simp only [e1]
   | some x =>
    obtain ⟨r, ns⟩ := x
    obtain ⟨k1, a1, a2, a3, a4⟩ := fit_at hp (h1 _) e1
    have hl : r.length + 2 ≤ l.length := by rw [a3, List.length_drop]; omega
    simp only [e1]
    rw [chainR_fuel h1 n m r (by omega) (by omega)]
theorem listR_fuel {rec : List TokenD → PR} (h1 : ∀ l, fit 1 l (rec l)) : ∀ (n m : Nat) (l : List TokenD), l.length < n → l.length < m → listR rec n l = listR rec m l
 | 0, _, l, h, _ => absurd h (Nat.not_lt_zero _)
 | _ + 1, 0, l, _, h => absurd h (Nat.not_lt_zero _)
 | n + 1, m + 1, l, hn, hm => by
  rw [listR, listR]
  cases ho : isH sCo l with
  | false => rfl
  | true =>
   have hp := isH_pos ho
   cases e1 : rec (l.drop 1) with
   | none => simp only [e1]
   | some x =>
    obtain ⟨r, ns⟩ := x
    obtain ⟨k1, a1, a2, a3, a4⟩ := fit_at hp (h1 _) e1
    have hl : r.length + 2 ≤ l.length := by rw [a3, List.length_drop]; omega
    simp only [e1]
    rw [listR_fuel h1 n m r (by omega) (by omega)]
end
section
open Go.RowKit K
set_option maxRecDepth 100000
abbrev cmpL : List Int := [10, 11, 12, 13, 14, 15]
abbrev lvs : List (Nat × List Int) := [(1, [17]), (2, [16]), (5, [5, 6]), (6, [7, 8, 9])]
def NotQ (k : Nat) (q : List TokenD) : Prop := (k = 0 ∧ q = []) ∨ (k = 1 ∧ ∃ t, q = [t] ∧ isM t wNot = true)
abbrev Pc := TokenD × List TokenD × Ex
def pcsT (ps : List Pc) : List TokenD := ps.flatMap fun p => p.1 :: p.2.1
inductive RD : Nat → List TokenD → Ex → Prop
 | lit {t : TokenD} {n : NodeD} (h1 : isM t sLp = false) (h2 : litF t = some n) : RD 8 [t] (.mk n [])
 | par {o c : TokenD} {l : List TokenD} {t : Ex} (h1 : isM o sLp = true) (h2 : isM c sRp = true) (h : RD 1 l t) : RD 8 (o :: (l ++ [c])) t
 | up {k : Nat} {l : List TokenD} {t : Ex} (h1 : 1 ≤ k) (h8 : k < 8) (h : RD (k + 1) l t) : RD k l t
 | neg {o : TokenD} {l : List TokenD} {t : Ex} (h1 : isM o sMi = true) (h : RD 7 l t) : RD 7 (o :: l) (.mk (nOp 3 1) [t])
 | not {o : TokenD} {l : List TokenD} {t : Ex} (h1 : isM o wNot = true) (h : RD 3 l t) : RD 3 (o :: l) (.mk (nOp 4 1) [t])
 | bin {k : Nat} {ops : List Int} {op : Int} {o : TokenD} {l m : List TokenD} {a b : Ex} (hk : (k, ops) ∈ lvs) (ho : op ∈ ops) (h1 : isM o (sgn op) = true) (ha : RD k l a) (hb : RD (k + 1) m b) : RD k (l ++ o :: m) (.mk (nOp op 2) [a, b])
 | cmp {op : Int} {o : TokenD} {l m : List TokenD} {a b : Ex} (ho : op ∈ cmpL) (h1 : isM o (sgn op) = true) (ha : RD 5 l a) (hb : RD 5 m b) : RD 4 (l ++ o :: m) (.mk (nOp op 2) [a, b])
 | isn {i u : TokenD} {l : List TokenD} {a : Ex} (h1 : isM i wIs = true) (h2 : isM u wNull = true) (ha : RD 5 l a) : RD 4 (l ++ [i, u]) (.mk (nOp 18 1) [a])
 | isnn {i n u : TokenD} {l : List TokenD} {a : Ex} (h1 : isM i wIs = true) (h2 : isM n wNot = true) (h3 : isM u wNull = true) (ha : RD 5 l a) : RD 4 (l ++ [i, n, u]) (.mk (nOp 19 1) [a])
 | like {k : Nat} {q : List TokenD} {o : TokenD} {l m : List TokenD} {a b : Ex} (hq : NotQ k q) (h1 : isM o wLike = true) (ha : RD 5 l a) (hb : RD 5 m b) : RD 4 (l ++ (q ++ o :: m)) (.mk (nOp (20 + (k : Int)) 2) [a, b])
 | betw {k : Nat} {q : List TokenD} {o d : TokenD} {l m p : List TokenD} {a b c : Ex} (hq : NotQ k q) (h1 : isM o wBetw = true) (h2 : isM d wAnd = true) (ha : RD 5 l a) (hb : RD 5 m b) (hc : RD 5 p c) : RD 4 (l ++ (q ++ o :: (m ++ d :: p))) (.mk (nOp (24 + (k : Int)) 3) [a, b, c])
 | isin {k : Nat} {q : List TokenD} {o c : TokenD} {l : List TokenD} {a : Ex} {p0 : Pc} {ps : List Pc} (hq : NotQ k q) (h1 : isM o wIn = true) (h2 : isM p0.1 sLp = true) (h3 : ∀ p ∈ ps, isM p.1 sCo = true) (h4 : isM c sRp = true) (ha : RD 5 l a) (hp : ∀ p ∈ p0 :: ps, RD 1 p.2.1 p.2.2) :
   RD 4 (l ++ (q ++ o :: (pcsT (p0 :: ps) ++ [c]))) (.mk (nOp (22 + (k : Int)) ((ps.length : Int) + 2)) (a :: (p0 :: ps).map fun p => p.2.2))
def Snd (k : Nat) (f : List TokenD → PR) : Prop := ∀ l r ns, f l = some (r, ns) → ∃ pre t, l = pre ++ r ∧ RD k pre t ∧ ns = t.flat
theorem isH_cons {s : List UInt8} {l : List TokenD} (h : isH s l = true) : ∃ t, l = t :: l.drop 1 ∧ isM t s = true := by
 cases l with
 | nil => cases h
 | cons t r => exact ⟨t, rfl, h⟩
theorem flat_mk (n : NodeD) (ks : List Ex) : (Ex.mk n ks).flat = Ex.flats ks ++ [n] := by rw [Ex.flat]
theorem flats_two (a b : Ex) : Ex.flats [a, b] = a.flat ++ b.flat := by rw [Ex.flats, Ex.flats_one]
theorem snd_one {rec : List TokenD → PR} (h : Snd 1 rec) : Snd 8 (oneF rec) := by
 intro l r ns e
 cases l with
 | nil => cases e
 | cons t l =>
  rw [oneF] at e
  split at e
  ·rename_i ht
   split at e
   ·cases e
   ·rename_i r2 ms e2
    split at e
    ·rename_i g
     cases e
     obtain ⟨pre, x, h1, h2, h3⟩ := h _ _ _ e2
     obtain ⟨c, h4, h5⟩ := isH_cons g
     refine ⟨t :: (pre ++ [c]), x, ?_, .par ht h5 h2, h3⟩
     rw [h1, List.cons_append, List.append_assoc]
     conv => lhs; rw [h4]
     rfl
    ·cases e
  ·rename_i ht
   rw [Bool.not_eq_true] at ht
   split at e
   ·cases e
   ·rename_i n hn
    cases e
    exact ⟨[t], .mk n [], rfl, .lit ht hn, by rw [Ex.flat, Ex.flats]; rfl⟩
theorem heads_drop {s : List UInt8} : ∀ {l : List TokenD}, ∃ q : List TokenD, l = q ++ l.drop (heads s l) ∧ q.length = heads s l ∧ ∀ t ∈ q, isM t s = true
 | [] => ⟨[], rfl, rfl, fun t h => absurd h (List.not_mem_nil)⟩
 | t :: r => by
  obtain ⟨q, h1, h2, h3⟩ := heads_drop (s := s) (l := r)
  rw [heads]
  split
  ·rename_i g
   refine ⟨t :: q, ?_, by rw [List.length_cons, h2], ?_⟩
   ·rw [List.drop_succ_cons, List.cons_append, ← h1]
   ·intro x hx
    rcases List.mem_cons.1 hx with rfl | hx
    ·exact g
    ·exact h3 x hx
  ·exact ⟨[], rfl, rfl, fun t h => absurd h (List.not_mem_nil)⟩
theorem snd_pre {one : List TokenD → PR} {s : List UInt8} {op : Int} {k : Nat} (hk : 1 ≤ k) (hk8 : k < 8) (hs : ∀ {o : TokenD} {l : List TokenD} {t : Ex}, isM o s = true → RD k l t → RD k (o :: l) (.mk (nOp op 1) [t])) (h : Snd (k + 1) one) : Snd k (preF s op one) := by
 intro l r ns e
 unfold preF at e
 split at e
 ·cases e
 rename_i r1 ns1 e1
 cases e
 obtain ⟨pre, x, h1, h2, h3⟩ := h _ _ _ e1
 obtain ⟨q, q1, q2, q3⟩ := heads_drop (s := s) (l := l)
 have key : ∀ (q : List TokenD), (∀ t ∈ q, isM t s = true) → ∃ y, RD k (q ++ pre) y ∧ y.flat = x.flat ++ List.replicate q.length (nOp op 1) := by
  intro q
  induction q with
  | nil => intro _; exact ⟨x, .up hk hk8 h2, by rw [List.length_nil, List.replicate_zero, List.append_nil]⟩
  | cons t q ih =>
   intro hq
   obtain ⟨y, y1, y2⟩ := ih fun z hz => hq z (List.mem_cons_of_mem _ hz)
   refine ⟨.mk (nOp op 1) [y], hs (hq t List.mem_cons_self) y1, ?_⟩
   rw [flat_mk, Ex.flats_one, y2, List.length_cons, List.replicate_succ', List.append_assoc]
 obtain ⟨y, y1, y2⟩ := key q q3
 refine ⟨q ++ pre, y, ?_, y1, ?_⟩
 ·rw [List.append_assoc, ← h1]; exact q1
 ·rw [y2, q2, h3]
theorem snd_chainR {one : List TokenD → PR} {ops : List Int} {k : Nat} (hk : (k, ops) ∈ lvs) (h : Snd (k + 1) one) : ∀ (n : Nat) (pre : List TokenD) (a : Ex) (l r : List TokenD) (ms : List NodeD), RD k pre a → chainR one ops n l = some (r, ms) → ∃ pre2 t, l = pre2 ++ r ∧ RD k (pre ++ pre2) t ∧ a.flat ++ ms = t.flat
 | 0, pre, a, l, r, ms, ha, e => by rw [chainR] at e; cases e; exact ⟨[], a, rfl, by rw [List.append_nil]; exact ha, by rw [List.append_nil]⟩
 | n + 1, pre, a, l, r, ms, ha, e => by
  rw [chainR] at e
  split at e
  ·cases e; exact ⟨[], a, rfl, by rw [List.append_nil]; exact ha, by rw [List.append_nil]⟩
  ·rename_i o ho
   obtain ⟨o1, o2⟩ := opAt_pos ho
   obtain ⟨t, t1, t2⟩ := isH_cons o1
   split at e
   ·cases e
   ·rename_i r1 ns e1
    obtain ⟨m, b, m1, m2, m3⟩ := h _ _ _ e1
    split at e
    ·cases e
    ·rename_i r2 ms2 e2
     cases e
     obtain ⟨p2, x, x1, x2, x3⟩ := snd_chainR hk h n (pre ++ t :: m) (.mk (nOp o 2) [a, b]) r1 r ms2 (.bin hk o2 t2 ha m2) e2
     refine ⟨t :: (m ++ p2), x, ?_, ?_, ?_⟩
     ·conv => lhs; rw [t1, m1, x1]
      rw [List.cons_append, List.append_assoc]
     ·rw [List.append_assoc] at x2; exact x2
     ·rw [← x3, flat_mk, flats_two, m3, List.append_assoc, List.append_assoc]; rfl
theorem snd_chainF {one : List TokenD → PR} {ops : List Int} {k : Nat} (hk : (k, ops) ∈ lvs) (hk1 : 1 ≤ k) (hk8 : k < 8) (h : Snd (k + 1) one) : Snd k (chainF one ops) := by
 intro l r ns e
 unfold chainF at e
 split at e
 ·cases e
 rename_i r1 ns1 e1
 obtain ⟨pre, a, a1, a2, a3⟩ := h _ _ _ e1
 split at e
 ·cases e
 rename_i r2 ms e2
 cases e
 obtain ⟨p2, x, x1, x2, x3⟩ := snd_chainR hk h _ pre a r1 r ms (.up hk1 hk8 a2) e2
 exact ⟨pre ++ p2, x, by rw [a1, x1, List.append_assoc], x2, by rw [a3]; exact x3⟩
theorem snd_listR {rec : List TokenD → PR} (h : Snd 1 rec) : ∀ (n : Nat) (l r : List TokenD) (ms : List NodeD) (k : Nat), listR rec n l = some (r, ms, k) → ∃ ps : List Pc, l = pcsT ps ++ r ∧ (∀ p ∈ ps, isM p.1 sCo = true) ∧ (∀ p ∈ ps, RD 1 p.2.1 p.2.2) ∧ ms = Ex.flats (ps.map fun p => p.2.2) ∧ k = ps.length
 | 0, l, r, ms, k, e => by rw [listR] at e; cases e; exact ⟨[], rfl, fun p h => absurd h (List.not_mem_nil), fun p h => absurd h (List.not_mem_nil), by rw [List.map_nil, Ex.flats], rfl⟩
 | n + 1, l, r, ms, k, e => by
  rw [listR] at e
  split at e
  ·rename_i g
   obtain ⟨t, t1, t2⟩ := isH_cons g
   split at e
   ·cases e
   rename_i r1 ns e1
   obtain ⟨m, b, m1, m2, m3⟩ := h _ _ _ e1
   split at e
   ·cases e
   rename_i r2 ms2 k2 e2
   cases e
   obtain ⟨ps, p1, p2, p3, p4, p5⟩ := snd_listR h n r1 r ms2 k2 e2
   refine ⟨(t, m, b) :: ps, ?_, ?_, ?_, ?_, ?_⟩
   ·conv => lhs; rw [t1, m1, p1]
    show t :: (m ++ (pcsT ps ++ r)) = (t :: m ++ pcsT ps) ++ r
    rw [List.cons_append, List.cons_append, List.append_assoc]
   ·intro p hp
    rcases List.mem_cons.1 hp with rfl | hp
    ·exact t2
    ·exact p2 p hp
   ·intro p hp
    rcases List.mem_cons.1 hp with rfl | hp
    ·exact m2
    ·exact p3 p hp
   ·rw [List.map_cons, Ex.flats, m3, p4]
   ·rw [List.length_cons, p5]
  ·cases e; exact ⟨[], rfl, fun p h => absurd h (List.not_mem_nil), fun p h => absurd h (List.not_mem_nil), by rw [List.map_nil, Ex.flats], rfl⟩
theorem snd_tail {rec : List TokenD → PR} (h : Snd 1 rec) (ha : Snd 5 (addF rec)) {k : Nat} {q l0 : List TokenD} {a : Ex} (hq : NotQ k q) (h0 : RD 5 l0 a) {l r : List TokenD} {ms : List NodeD} (e : tailF rec k l = some (r, ms)) : ∃ pre t, q ++ l = pre ++ r ∧ RD 4 (l0 ++ pre) t ∧ a.flat ++ ms = t.flat := by
 unfold tailF at e
 split at e
 ·rename_i g
  obtain ⟨o, t1, t2⟩ := isH_cons g
  split at e
  ·cases e
  rename_i r1 ns e1
  cases e
  obtain ⟨m, b, m1, m2, m3⟩ := ha _ _ _ e1
  refine ⟨q ++ o :: m, _, ?_, .like hq t2 h0 m2, ?_⟩
  ·conv => lhs; rw [t1, m1]
   rw [List.append_assoc]; rfl
  ·rw [flat_mk, flats_two, m3, List.append_assoc]
 ·split at e
  ·rename_i g
   obtain ⟨o, t1, t2⟩ := isH_cons g
   split at e
   ·cases e
   rename_i r1 ns n e1
   cases e
   unfold listF at e1
   split at e1
   ·rename_i g1
    obtain ⟨p, u1, u2⟩ := isH_cons g1
    split at e1
    ·cases e1
    rename_i r2 ns2 e2
    obtain ⟨m, b, m1, m2, m3⟩ := h _ _ _ e2
    split at e1
    ·cases e1
    rename_i r3 ms3 k3 e3
    obtain ⟨ps, p1, p2, p3, p4, p5⟩ := snd_listR h _ _ _ _ _ e3
    split at e1
    ·rename_i g3
     obtain ⟨c, c1, c2⟩ := isH_cons g3
     cases e1
     refine ⟨q ++ o :: (pcsT ((p, m, b) :: ps) ++ [c]), _, ?_, .isin (p0 := (p, m, b)) (ps := ps) hq t2 u2 p2 c2 h0 ?_, ?_⟩
     ·conv => lhs; rw [t1, u1, m1, p1, c1]
      show q ++ o :: (p :: (m ++ (pcsT ps ++ c :: List.drop 1 r3))) = (q ++ o :: ((p :: m ++ pcsT ps) ++ [c])) ++ List.drop 1 r3
      simp only [List.append_assoc, List.cons_append, List.nil_append]
     ·intro z hz
      rcases List.mem_cons.1 hz with rfl | hz
      ·exact m2
      ·exact p3 z hz
     ·rw [flat_mk, Ex.flats, List.map_cons, Ex.flats, m3, p4, p5]
      have : ((ps.length + 1 : Nat) : Int) + 1 = (ps.length : Int) + 2 := by omega
      rw [this]
      simp only [List.append_assoc]
    ·cases e1
   ·cases e1
  ·split at e
   ·rename_i g
    obtain ⟨o, t1, t2⟩ := isH_cons g
    split at e
    ·cases e
    rename_i r1 ns e1
    cases e
    unfold twoF at e1
    split at e1
    ·cases e1
    rename_i r2 ns2 e2
    obtain ⟨m, b, m1, m2, m3⟩ := ha _ _ _ e2
    split at e1
    ·rename_i g2
     obtain ⟨d, d1, d2⟩ := isH_cons g2
     split at e1
     ·cases e1
     rename_i r3 ns3 e3
     cases e1
     obtain ⟨p, c, c1, c2, c3⟩ := ha _ _ _ e3
     refine ⟨q ++ o :: (m ++ d :: p), _, ?_, .betw hq t2 d2 h0 m2 c2, ?_⟩
     ·conv => lhs; rw [t1, m1, d1, c1]
      simp only [List.append_assoc, List.cons_append]
     ·rw [flat_mk, Ex.flats, flats_two, m3, c3]
      simp only [List.append_assoc]
    ·cases e1
   ·split at e
    ·cases e
    ·rename_i g
     cases e
     obtain ⟨k0, q0⟩ | ⟨k1, _⟩ := hq
     ·subst q0
      exact ⟨[], a, rfl, by rw [List.append_nil]; exact .up (by omega) (by omega) h0, by rw [List.append_nil]⟩
     ·exact absurd k1 g
theorem snd_ask {rec : List TokenD → PR} (h : Snd 1 rec) (ha : Snd 5 (addF rec)) : Snd 4 (askF rec) := by
 intro l r ns e
 unfold askF at e
 split at e
 ·cases e
 rename_i r1 ns1 e1
 obtain ⟨l0, a, a1, a2, a3⟩ := ha _ _ _ e1
 split at e
 ·cases e
 rename_i r2 ms e2
 cases e
 subst a1 a3
 suffices ∃ pre t, r1 = pre ++ r ∧ RD 4 (l0 ++ pre) t ∧ a.flat ++ ms = t.flat by
  obtain ⟨pre, t, x1, x2, x3⟩ := this
  exact ⟨l0 ++ pre, t, by rw [x1, List.append_assoc], x2, x3⟩
 unfold moreF at e2
 split at e2
 ·rename_i o ho
  obtain ⟨o1, o2⟩ := opAt_pos ho
  obtain ⟨t, t1, t2⟩ := isH_cons o1
  split at e2
  ·cases e2
  rename_i r3 bs e3
  cases e2
  obtain ⟨m, b, m1, m2, m3⟩ := ha _ _ _ e3
  refine ⟨t :: m, _, ?_, .cmp o2 t2 a2 m2, ?_⟩
  ·conv => lhs; rw [t1, m1]
   rfl
  ·rw [flat_mk, flats_two, m3, List.append_assoc]
 ·split at e2
  ·rename_i g
   obtain ⟨i, i1, i2⟩ := isH_cons g
   unfold isF at e2
   split at e2
   ·rename_i g2
    obtain ⟨n, n1, n2⟩ := isH_cons g2
    split at e2
    ·rename_i g3
     obtain ⟨u, u1, u2⟩ := isH_cons g3
     cases e2
     refine ⟨[i, n, u], _, ?_, .isnn i2 n2 u2 a2, ?_⟩
     ·conv => lhs; rw [i1, n1, u1]
      rw [List.drop_drop (l := List.drop 1 r1)]
      rfl
     ·rw [flat_mk, Ex.flats_one]
    ·cases e2
   ·split at e2
    ·rename_i g3
     obtain ⟨u, u1, u2⟩ := isH_cons g3
     cases e2
     refine ⟨[i, u], _, ?_, .isn i2 u2 a2, ?_⟩
     ·conv => lhs; rw [i1, u1]
      rfl
     ·rw [flat_mk, Ex.flats_one]
    ·cases e2
  ·split at e2
   ·rename_i g
    obtain ⟨n, n1, n2⟩ := isH_cons g
    obtain ⟨pre, t, x1, x2, x3⟩ := snd_tail h ha (k := 1) (q := [n]) (.inr ⟨rfl, n, rfl, n2⟩) a2 e2
    exact ⟨pre, t, by rw [← x1]; exact n1, x2, x3⟩
   ·exact snd_tail h ha (k := 0) (q := []) (.inl ⟨rfl, rfl⟩) a2 e2
theorem snd_pOr : ∀ n : Nat, Snd 1 (pOr n)
 | 0 => fun l r ns e => by cases e
 | n + 1 => by
  have ih := snd_pOr n
  have c1 := snd_one ih
  have c2 : Snd 7 (negF (pOr n)) := snd_pre (by omega) (by omega) (fun h1 h2 => .neg h1 h2) c1
  have c3 : Snd 6 (mulF (pOr n)) := snd_chainF (by decide) (by omega) (by omega) c2
  have c4 : Snd 5 (addF (pOr n)) := snd_chainF (by decide) (by omega) (by omega) c3
  have c5 := snd_ask ih c4
  have c6 : Snd 3 (notF (pOr n)) := snd_pre (by omega) (by omega) (fun h1 h2 => .not h1 h2) c5
  have c7 : Snd 2 (andF (pOr n)) := snd_chainF (by decide) (by omega) (by omega) c6
  exact snd_chainF (by decide) (by omega) (by omega) c7
end
section
open Go.RowKit K
set_option maxRecDepth 100000
abbrev mk6 : List (List UInt8) := [[42], [47], [37]]
abbrev mk5 : List (List UInt8) := mk6 ++ [[43], [45]]
abbrev mk4 : List (List UInt8) := mk5 ++ ([[61], [60, 62], [60], [60, 61], [62], [62, 61]] ++ [wIs, wNot, wLike, wIn, wBetw])
abbrev mk2 : List (List UInt8) := mk4 ++ [wAnd]
abbrev mk1 : List (List UInt8) := mk2 ++ [wOr]
def marks : Nat → List (List UInt8)
 | 1 => mk1
 | 2 => mk2
 | 3 => mk4
 | 4 => mk4
 | 5 => mk5
 | 6 => mk6
 | _ => []
def Stp (k : Nat) (r : List TokenD) : Prop := ∀ s ∈ marks k, isH s r = false
theorem isM_iff {t : TokenD} {s : List UInt8} : isM t s = true ↔ (t.Kind = 1 ∨ t.Kind = 5) ∧ t.S = s := by unfold isM; exact decide_eq_true_iff
theorem isM_ne {t : TokenD} {a b : List UInt8} (h : isM t a = true) (hb : b ≠ a) : isM t b = false := by
 rw [isM_iff] at h
 unfold isM
 exact decide_eq_false fun x => hb (x.2.symm.trans h.2)
theorem st_of {k : Nat} {s : List UInt8} {x : TokenD} {r : List TokenD} (h : isM x s = true) (hd : ∀ m ∈ marks k, m ≠ s) : Stp k (x :: r) := fun m hm => isM_ne h (hd m hm)
theorem st_le {j k : Nat} {r : List TokenD} (h : Stp k r) (hs : ∀ m ∈ marks j, m ∈ marks k) : Stp j r := fun m hm => h m (hs m hm)
theorem opAt_no : ∀ {ops : List Int} {r : List TokenD}, (∀ o ∈ ops, isH (sgn o) r = false) → opAt ops r = none
 | [], _, _ => rfl
 | a :: os, r, h => by
  rw [opAt, if_neg (by rw [h a List.mem_cons_self]; decide)]
  exact opAt_no fun o ho => h o (List.mem_cons_of_mem _ ho)
theorem opAt_of : ∀ {ops : List Int} {r : List TokenD} {x : TokenD} {op : Int}, op ∈ ops → (∀ o ∈ ops, sgn o = sgn op → o = op) → isM x (sgn op) = true → opAt ops (x :: r) = some op
 | [], _, _, _, h, _, _ => absurd h (List.not_mem_nil)
 | a :: os, r, x, op, h, hu, hx => by
  rw [opAt]
  by_cases e : a = op
  ·subst e
   rw [if_pos (show isH (sgn a) (x :: r) = true from hx)]
  ·have : isH (sgn a) (x :: r) = false := isM_ne hx fun q => e (hu a List.mem_cons_self q)
   rw [if_neg (by rw [this]; decide)]
   rcases List.mem_cons.1 h with h | h
   ·exact absurd h.symm e
   ·exact opAt_of h (fun o ho => hu o (List.mem_cons_of_mem _ ho)) hx
def lvF (rec : List TokenD → PR) : Nat → List TokenD → PR
 | 1 => orF rec
 | 2 => andF rec
 | 3 => notF rec
 | 4 => askF rec
 | 5 => addF rec
 | 6 => mulF rec
 | 7 => negF rec
 | _ => oneF rec
theorem lvs_cases {k : Nat} {ops : List Int} (h : (k, ops) ∈ lvs) : (k = 1 ∧ ops = [17]) ∨ (k = 2 ∧ ops = [16]) ∨ (k = 5 ∧ ops = [5, 6]) ∨ (k = 6 ∧ ops = [7, 8, 9]) := by
 simp only [List.mem_cons, Prod.mk.injEq, List.not_mem_nil, or_false] at h
 exact h
theorem lvF_chain (rec : List TokenD → PR) {k : Nat} {ops : List Int} (h : (k, ops) ∈ lvs) : lvF rec k = chainF (lvF rec (k + 1)) ops := by
 rcases lvs_cases h with ⟨rfl, rfl⟩ | ⟨rfl, rfl⟩ | ⟨rfl, rfl⟩ | ⟨rfl, rfl⟩ <;> rfl
theorem lvs_marks : ∀ p ∈ lvs, ∀ op ∈ p.2, ∀ m ∈ marks (p.1 + 1), m ≠ sgn op := by decide +kernel
theorem lvs_in : ∀ p ∈ lvs, ∀ op ∈ p.2, sgn op ∈ marks p.1 := by decide +kernel
theorem lvs_sub : ∀ p ∈ lvs, ∀ m ∈ marks (p.1 + 1), m ∈ marks p.1 := by decide +kernel
theorem lvs_inj : ∀ p ∈ lvs, ∀ op ∈ p.2, ∀ o ∈ p.2, sgn o = sgn op → o = op := by decide +kernel
theorem cmp_inj : ∀ op ∈ cmpL, ∀ o ∈ cmpL, sgn o = sgn op → o = op := by decide +kernel
theorem cmp_marks : ∀ op ∈ cmpL, ∀ m ∈ marks 5, m ≠ sgn op := by decide +kernel
theorem cmp_in : ∀ op ∈ cmpL, sgn op ∈ marks 4 := by decide +kernel
theorem cmp_word : ∀ op ∈ cmpL, sgn op ≠ wIs ∧ sgn op ≠ wNot ∧ sgn op ≠ wLike ∧ sgn op ≠ wIn ∧ sgn op ≠ wBetw := by decide +kernel
theorem fit_lv (n : Nat) : ∀ (k : Nat) (l : List TokenD), fit 1 l (lvF (pOr n) k l) := by
 have h := fit_pOr n
 intro k
 match k with
 | 0 => exact fit_one h
 | 1 => exact fit_orF h
 | 2 => exact fit_and h
 | 3 => exact fit_not h
 | 4 => exact fit_ask h (fit_add h)
 | 5 => exact fit_add h
 | 6 => exact fit_mul h
 | 7 => exact fit_neg h
 | k + 8 => exact fit_one h
def chK (one : List TokenD → PR) (ops : List Int) (t : List NodeD) (r : List TokenD) : PR :=
 match chainR one ops (r.length + 1) r with
 | none => none
 | some (r2, ms) => some (r2, t ++ ms)
def Rds (k : Nat) (l : List TokenD) (t : Ex) : Prop := ∀ n, l.length ≤ n → (∀ r, Stp k r → lvF (pOr n) k (l ++ r) = some (r, t.flat)) ∧
 (∀ ops, (k, ops) ∈ lvs → ∀ r, Stp (k + 1) r → lvF (pOr n) k (l ++ r) = chK (lvF (pOr n) (k + 1)) ops t.flat r)
theorem rds_chain {k : Nat} {ops : List Int} {l : List TokenD} {t : Ex} (hk : (k, ops) ∈ lvs) (h : ∀ n, l.length ≤ n → ∀ r, Stp (k + 1) r → lvF (pOr n) k (l ++ r) = chK (lvF (pOr n) (k + 1)) ops t.flat r) : Rds k l t := by
 intro n hn
 refine ⟨fun r hr => ?_, fun ops' hk' r hr => ?_⟩
 ·rw [h n hn r (st_le hr (lvs_sub _ hk))]
  have ho : opAt ops r = none := opAt_no fun o ho => hr _ (lvs_in _ hk o ho)
  unfold chK
  rw [chainR, ho]
  simp only [List.append_nil]
 ·have : ops' = ops := by
   rcases lvs_cases hk with ⟨rfl, rfl⟩ | ⟨rfl, rfl⟩ | ⟨rfl, rfl⟩ | ⟨rfl, rfl⟩ <;> (rcases lvs_cases hk' with ⟨h1, h2⟩ | ⟨h1, h2⟩ | ⟨h1, h2⟩ | ⟨h1, h2⟩ <;> first | exact h2 | (exact absurd h1 (by decide)))
  subst this
  exact h n hn r hr
theorem rds_flat {k : Nat} {l : List TokenD} {t : Ex} (hk : ∀ ops, (k, ops) ∉ lvs) (h : ∀ n, l.length ≤ n → ∀ r, Stp k r → lvF (pOr n) k (l ++ r) = some (r, t.flat)) : Rds k l t :=
 fun n hn => ⟨h n hn, fun ops ho => absurd ho (hk ops)⟩
theorem no_lv {k : Nat} (h : k ≠ 1 ∧ k ≠ 2 ∧ k ≠ 5 ∧ k ≠ 6) : ∀ ops, (k, ops) ∉ lvs := by
 intro ops ho
 rcases lvs_cases ho with ⟨rfl, _⟩ | ⟨rfl, _⟩ | ⟨rfl, _⟩ | ⟨rfl, _⟩ <;> omega
theorem name_not {l : List UInt8} (h : nameB l = true) (hr : resB l = true) : False := by
 unfold nameB at h
 rw [hr] at h
 simp at h
theorem lit_head {t : TokenD} {n : NodeD} (h : litF t = some n) : isM t wNot = false ∧ isM t sMi = false := by
 unfold litF at h
 have two : ∀ s : List UInt8, s ≠ wNull → resB s = true ∨ wordB s = false → isM t s = false := by
  intro s hs hr
  cases e : isM t s with
  | false => rfl
  | true =>
   obtain ⟨e1, e2⟩ := isM_iff.1 e
   rw [if_neg (by omega), if_neg (by omega), if_neg (by omega), if_neg (by rw [isM_ne e (fun q => hs q.symm)]; decide)] at h
   split at h
   ·rename_i g
    rw [e2] at g
    rcases hr with hr | hr
    ·exact (name_not g.2 hr).elim
    ·have := g.2; unfold nameB at this; rw [hr] at this; simp at this
   ·cases h
 exact ⟨two wNot (by decide) (.inl (by decide +kernel)), two sMi (by decide) (.inr (by decide +kernel))⟩
theorem rd_head {k : Nat} {l : List TokenD} {t : Ex} (h : RD k l t) : ∃ x l', l = x :: l' ∧ (4 ≤ k → isM x wNot = false) ∧ (8 ≤ k → isM x sMi = false) := by
 induction h with
 | @lit t n h1 h2 => exact ⟨t, [], rfl, fun _ => (lit_head h2).1, fun _ => (lit_head h2).2⟩
 | @par o c l t h1 h2 h ih => exact ⟨o, _, rfl, fun _ => isM_ne h1 (by decide), fun _ => isM_ne h1 (by decide)⟩
 | up h1 h8 h ih => obtain ⟨x, l', e, a, b⟩ := ih; exact ⟨x, l', e, fun q => a (by omega), fun q => b (by omega)⟩
 | neg h1 h ih => exact ⟨_, _, rfl, fun _ => isM_ne h1 (by decide), fun q => absurd q (by decide)⟩
 | not h1 h ih => exact ⟨_, _, rfl, fun q => absurd q (by decide), fun q => absurd q (by decide)⟩
 | bin hk ho h1 ha hb iha ihb =>
  obtain ⟨x, l', e, a, b⟩ := iha
  subst e
  exact ⟨x, _, rfl, a, b⟩
 | cmp ho h1 ha hb iha ihb => obtain ⟨x, l', e, a, b⟩ := iha; subst e; exact ⟨x, _, rfl, fun q => a (by decide), fun q => absurd q (by decide)⟩
 | isn h1 h2 ha iha => obtain ⟨x, l', e, a, b⟩ := iha; subst e; exact ⟨x, _, rfl, fun q => a (by decide), fun q => absurd q (by decide)⟩
 | isnn h1 h2 h3 ha iha => obtain ⟨x, l', e, a, b⟩ := iha; subst e; exact ⟨x, _, rfl, fun q => a (by decide), fun q => absurd q (by decide)⟩
 | like hq h1 ha hb iha ihb => obtain ⟨x, l', e, a, b⟩ := iha; subst e; exact ⟨x, _, rfl, fun q => a (by decide), fun q => absurd q (by decide)⟩
 | betw hq h1 h2 ha hb hc iha ihb ihc => obtain ⟨x, l', e, a, b⟩ := iha; subst e; exact ⟨x, _, rfl, fun q => a (by decide), fun q => absurd q (by decide)⟩
 | isin hq h1 h2 h3 h4 ha hp iha ihp => obtain ⟨x, l', e, a, b⟩ := iha; subst e; exact ⟨x, _, rfl, fun q => a (by decide), fun q => absurd q (by decide)⟩
theorem preF_cons {one : List TokenD → PR} {s : List UInt8} {op : Int} {o : TokenD} {x r : List TokenD} {ns : List NodeD} (ho : isM o s = true) (h : preF s op one x = some (r, ns)) : preF s op one (o :: x) = some (r, ns ++ [nOp op 1]) := by
 unfold preF at h ⊢
 have e : heads s (o :: x) = heads s x + 1 := by rw [heads, if_pos ho]
 rw [e, List.drop_succ_cons]
 cases e1 : one (x.drop (heads s x)) with
 | none => rw [e1] at h; cases h
 | some y =>
  obtain ⟨r1, n1⟩ := y
  rw [e1] at h
  dsimp only at h ⊢
  cases h
  rw [List.replicate_succ', List.append_assoc]
theorem preF_zero {one : List TokenD → PR} {s : List UInt8} {op : Int} {x : TokenD} {l r : List TokenD} {ns : List NodeD} (hx : isM x s = false) (h : one (x :: l) = some (r, ns)) : preF s op one (x :: l) = some (r, ns) := by
 unfold preF
 have e : heads s (x :: l) = 0 := by rw [heads, if_neg (by rw [hx]; decide)]
 rw [e, List.drop_zero, h]
 simp only [List.replicate_zero, List.append_nil]
theorem ask_of {rec : List TokenD → PR} {l x r : List TokenD} {a ns : List NodeD} (h1 : addF rec (l ++ x) = some (x, a)) (h2 : moreF rec x = some (r, ns)) : askF rec (l ++ x) = some (r, a ++ ns) := by
 unfold askF
 rw [h1]
 dsimp only
 rw [h2]
theorem more_none {rec : List TokenD → PR} {r : List TokenD} (h : Stp 4 r) : moreF rec r = some (r, []) := by
 unfold moreF
 rw [opAt_no fun o ho => h _ (cmp_in o ho)]
 dsimp only
 rw [if_neg (by rw [h wIs (by decide)]; decide), if_neg (by rw [h wNot (by decide)]; decide)]
 unfold tailF
 rw [if_neg (by rw [h wLike (by decide)]; decide), if_neg (by rw [h wIn (by decide)]; decide), if_neg (by rw [h wBetw (by decide)]; decide), if_neg (by decide)]
theorem more_tail {rec : List TokenD → PR} {k : Nat} {q : List TokenD} {o : TokenD} {s : List UInt8} {x r : List TokenD} {ns : List NodeD} (hq : NotQ k q) (ho : isM o s = true) (hs : s = wLike ∨ s = wIn ∨ s = wBetw) (h : tailF rec k (o :: x) = some (r, ns)) : moreF rec (q ++ o :: x) = some (r, ns) := by
 unfold moreF
 rcases hq with ⟨rfl, rfl⟩ | ⟨rfl, t, rfl, ht⟩
 ·have e : opAt cmpL (o :: x) = none := opAt_no fun p hp => isM_ne ho (by obtain ⟨_, _, a, b, c⟩ := cmp_word p hp; rcases hs with rfl | rfl | rfl <;> assumption)
  rw [List.nil_append, e]
  dsimp only
  rw [if_neg (show ¬ isH wIs (o :: x) = true by rw [show isH wIs (o :: x) = false from isM_ne ho (by rcases hs with rfl | rfl | rfl <;> decide)]; decide), if_neg (show ¬ isH wNot (o :: x) = true by rw [show isH wNot (o :: x) = false from isM_ne ho (by rcases hs with rfl | rfl | rfl <;> decide)]; decide)]
  exact h
 ·have e : opAt cmpL (t :: o :: x) = none := opAt_no fun p hp => isM_ne ht (cmp_word p hp).2.1
  rw [List.singleton_append, e]
  dsimp only
  rw [if_neg (show ¬ isH wIs (t :: o :: x) = true by rw [show isH wIs (t :: o :: x) = false from isM_ne ht (by decide)]; decide), if_pos (show isH wNot (t :: o :: x) = true from ht)]
  exact h
theorem notq_st {k : Nat} {q : List TokenD} {o : TokenD} {s : List UInt8} {x : List TokenD} (hq : NotQ k q) (ho : isM o s = true) (hs : s = wLike ∨ s = wIn ∨ s = wBetw) : Stp 5 (q ++ o :: x) := by
 rcases hq with ⟨rfl, rfl⟩ | ⟨rfl, t, rfl, ht⟩
 ·exact st_of ho (by rcases hs with rfl | rfl | rfl <;> decide)
 ·exact st_of ht (by decide)
theorem list_of {rec : List TokenD → PR} (hf : ∀ l, fit 1 l (rec l)) : ∀ (ps : List Pc) (n : Nat) (r : List TokenD), (∀ p ∈ ps, isM p.1 sCo = true) → (∀ p ∈ ps, ∀ r, Stp 1 r → rec (p.2.1 ++ r) = some (r, p.2.2.flat)) → isH sRp r = true → Stp 1 r → isH sCo r = false → (pcsT ps ++ r).length < n → listR rec n (pcsT ps ++ r) = some (r, Ex.flats (ps.map fun p => p.2.2), ps.length)
 | [], 0, r, _, _, _, _, _, hn => absurd hn (Nat.not_lt_zero _)
 | [], n + 1, r, _, _, _, _, hc, hn => by
  show listR rec (n + 1) r = _
  rw [listR, if_neg (by rw [hc]; decide), List.map_nil, Ex.flats]
  rfl
 | p :: ps, 0, r, _, _, _, _, _, hn => absurd hn (Nat.not_lt_zero _)
 | p :: ps, n + 1, r, h1, h2, h3, h4, h5, hn => by
  have hx : pcsT (p :: ps) ++ r = p.1 :: (p.2.1 ++ (pcsT ps ++ r)) := by
   show (p.1 :: p.2.1 ++ pcsT ps) ++ r = _
   rw [List.cons_append, List.cons_append, List.append_assoc]
  rw [hx] at hn ⊢
  rw [List.length_cons, List.length_append] at hn
  rw [listR, if_pos (show isH sCo (p.1 :: _) = true from h1 p List.mem_cons_self)]
  have hst : Stp 1 (pcsT ps ++ r) := by
   cases ps with
   | nil => exact h4
   | cons p' ps => exact st_of (h1 p' (List.mem_cons_of_mem _ List.mem_cons_self)) (by decide)
  rw [List.drop_succ_cons, List.drop_zero, h2 p List.mem_cons_self _ hst]
  dsimp only
  rw [list_of hf ps n r (fun x hx => h1 x (List.mem_cons_of_mem _ hx)) (fun x hx => h2 x (List.mem_cons_of_mem _ hx)) h3 h4 h5 (by omega)]
  rfl
theorem rd_reads {k : Nat} {l : List TokenD} {t : Ex} (h : RD k l t) : Rds k l t := by
 induction h with
 | @lit t n h1 h2 =>
  refine rds_flat (no_lv (by omega)) fun m hm r hr => ?_
  show oneF (pOr m) (t :: r) = _
  rw [oneF, if_neg (by rw [h1]; decide), h2, Ex.flat, Ex.flats]
  rfl
 | @par o c l t h1 h2 h ih =>
  refine rds_flat (no_lv (by omega)) fun m hm r hr => ?_
  rw [List.length_cons, List.length_append, List.length_singleton] at hm
  obtain ⟨m, rfl⟩ : ∃ m', m = m' + 1 := ⟨m - 1, by omega⟩
  have e : (o :: (l ++ [c])) ++ r = o :: (l ++ c :: r) := by simp
  rw [e]
  show oneF (pOr (m + 1)) (o :: (l ++ c :: r)) = _
  have := (ih m (by omega)).1 (c :: r) (st_of h2 (by decide))
  have : pOr (m + 1) (l ++ c :: r) = some (c :: r, t.flat) := this
  rw [oneF, if_pos h1, this]
  dsimp only
  rw [if_pos (show isH sRp (c :: r) = true from h2)]
  rfl
 | @up k l t h1 h8 h ih =>
  by_cases hc : k = 1 ∨ k = 2 ∨ k = 5 ∨ k = 6
  ·obtain ⟨ops, hk⟩ : ∃ ops, (k, ops) ∈ lvs := by
    rcases hc with rfl | rfl | rfl | rfl
    ·exact ⟨[17], by decide⟩
    ·exact ⟨[16], by decide⟩
    ·exact ⟨[5, 6], by decide⟩
    ·exact ⟨[7, 8, 9], by decide⟩
   refine rds_chain hk fun n hn r hr => ?_
   rw [lvF_chain _ hk]
   unfold chainF
   rw [(ih n hn).1 r hr]
   rfl
  ·obtain ⟨x, l', e, n1, n2⟩ := rd_head h
   refine rds_flat (no_lv (by omega)) fun n hn r hr => ?_
   have hk : k = 3 ∨ k = 4 ∨ k = 7 := by omega
   rcases hk with rfl | rfl | rfl
   ·have := (ih n hn).1 r hr
    subst e
    exact preF_zero (n1 (by omega)) this
   ·have := (ih n hn).1 r (st_le hr (by decide))
    have := ask_of this (more_none hr)
    rw [List.append_nil] at this
    exact this
   ·have := (ih n hn).1 r (st_le hr (by decide))
    subst e
    exact preF_zero (n2 (by omega)) this
 | @neg o l t h1 h ih =>
  refine rds_flat (no_lv (by omega)) fun n hn r hr => ?_
  rw [List.length_cons] at hn
  rw [flat_mk, Ex.flats_one]
  exact preF_cons h1 ((ih n (by omega)).1 r hr)
 | @not o l t h1 h ih =>
  refine rds_flat (no_lv (by omega)) fun n hn r hr => ?_
  rw [List.length_cons] at hn
  rw [flat_mk, Ex.flats_one]
  exact preF_cons h1 ((ih n (by omega)).1 r hr)
 | @bin k ops op o l m a b hk ho h1 ha hb iha ihb =>
  refine rds_chain hk fun n hn r hr => ?_
  rw [List.length_append, List.length_cons] at hn
  rw [List.append_assoc, List.cons_append, (iha n (by omega)).2 ops hk (o :: (m ++ r)) (st_of h1 (lvs_marks _ hk op ho))]
  have eo : opAt ops (o :: (m ++ r)) = some op := opAt_of ho (lvs_inj _ hk op ho) h1
  have eb := (ihb n (by omega)).1 r hr
  unfold chK
  rw [chainR, eo]
  dsimp only
  rw [List.drop_succ_cons, List.drop_zero, eb]
  dsimp only
  rw [chainR_fuel (fit_lv n (k + 1)) _ (r.length + 1) r (by rw [List.length_cons, List.length_append]; omega) (by omega)]
  cases chainR (lvF (pOr n) (k + 1)) ops (r.length + 1) r with
  | none => rfl
  | some y =>
   dsimp only
   rw [flat_mk, flats_two]
   simp only [List.append_assoc, List.cons_append, List.nil_append]
 | @cmp op o l m a b ho h1 ha hb iha ihb =>
  refine rds_flat (no_lv (by omega)) fun n hn r hr => ?_
  rw [List.length_append, List.length_cons] at hn
  have ea := (iha n (by omega)).1 (o :: (m ++ r)) (st_of h1 (cmp_marks op ho))
  have eb := (ihb n (by omega)).1 r (st_le hr (by decide))
  have eb : addF (pOr n) (m ++ r) = some (r, b.flat) := eb
  rw [List.append_assoc, List.cons_append]
  rw [flat_mk, flats_two, List.append_assoc]
  refine ask_of ea ?_
  unfold moreF
  rw [show opAt [10, 11, 12, 13, 14, 15] (o :: (m ++ r)) = some op from opAt_of ho (cmp_inj op ho) h1]
  dsimp only
  rw [List.drop_succ_cons, List.drop_zero, eb]
 | @isn i u l a h1 h2 ha iha =>
  refine rds_flat (no_lv (by omega)) fun n hn r hr => ?_
  rw [List.length_append] at hn
  have ea := (iha n (by omega)).1 (i :: u :: r) (st_of h1 (by decide))
  rw [List.append_assoc, show [i, u] ++ r = i :: u :: r from rfl]
  rw [flat_mk, Ex.flats_one]
  refine ask_of ea ?_
  unfold moreF
  rw [show opAt [10, 11, 12, 13, 14, 15] (i :: u :: r) = none from opAt_no fun p hp => isM_ne h1 (cmp_word p hp).1]
  dsimp only
  rw [if_pos (show isH wIs (i :: u :: r) = true from h1), List.drop_succ_cons, List.drop_zero]
  unfold isF
  rw [if_neg (show ¬ isH wNot (u :: r) = true by rw [show isH wNot (u :: r) = false from isM_ne h2 (by decide)]; decide), if_pos (show isH wNull (u :: r) = true from h2)]
  rfl
 | @isnn i q u l a h1 h2 h3 ha iha =>
  refine rds_flat (no_lv (by omega)) fun n hn r hr => ?_
  rw [List.length_append] at hn
  have ea := (iha n (by omega)).1 (i :: q :: u :: r) (st_of h1 (by decide))
  rw [List.append_assoc, show [i, q, u] ++ r = i :: q :: u :: r from rfl]
  rw [flat_mk, Ex.flats_one]
  refine ask_of ea ?_
  unfold moreF
  rw [show opAt [10, 11, 12, 13, 14, 15] (i :: q :: u :: r) = none from opAt_no fun p hp => isM_ne h1 (cmp_word p hp).1]
  dsimp only
  rw [if_pos (show isH wIs (i :: q :: u :: r) = true from h1), List.drop_succ_cons, List.drop_zero]
  unfold isF
  rw [if_pos (show isH wNot (q :: u :: r) = true from h2), List.drop_succ_cons, List.drop_zero, if_pos (show isH wNull (u :: r) = true from h3)]
  rfl
 | @like k q o l m a b hq h1 ha hb iha ihb =>
  refine rds_flat (no_lv (by omega)) fun n hn r hr => ?_
  simp only [List.length_append, List.length_cons] at hn
  have e : (l ++ (q ++ o :: m)) ++ r = l ++ (q ++ o :: (m ++ r)) := by simp
  rw [e]
  have ea := (iha n (by omega)).1 (q ++ o :: (m ++ r)) (notq_st hq h1 (.inl rfl))
  have eb : addF (pOr n) (m ++ r) = some (r, b.flat) := (ihb n (by omega)).1 r (st_le hr (by decide))
  rw [flat_mk, flats_two, List.append_assoc]
  refine ask_of ea (more_tail hq h1 (.inl rfl) ?_)
  unfold tailF
  rw [if_pos (show isH wLike (o :: (m ++ r)) = true from h1), List.drop_succ_cons, List.drop_zero, eb]
 | @betw k q o d l m p a b c hq h1 h2 ha hb hc iha ihb ihc =>
  refine rds_flat (no_lv (by omega)) fun n hn r hr => ?_
  simp only [List.length_append, List.length_cons] at hn
  have e : (l ++ (q ++ o :: (m ++ d :: p))) ++ r = l ++ (q ++ o :: (m ++ d :: (p ++ r))) := by simp
  rw [e]
  have ea := (iha n (by omega)).1 (q ++ o :: (m ++ d :: (p ++ r))) (notq_st hq h1 (.inr (.inr rfl)))
  have eb : addF (pOr n) (m ++ d :: (p ++ r)) = some (d :: (p ++ r), b.flat) := (ihb n (by omega)).1 _ (st_of h2 (by decide))
  have ec : addF (pOr n) (p ++ r) = some (r, c.flat) := (ihc n (by omega)).1 r (st_le hr (by decide))
  rw [flat_mk, Ex.flats, flats_two, List.append_assoc]
  refine ask_of ea (more_tail hq h1 (.inr (.inr rfl)) ?_)
  unfold tailF
  rw [if_neg (show ¬ isH wLike (o :: (m ++ d :: (p ++ r))) = true by rw [show isH wLike (o :: (m ++ d :: (p ++ r))) = false from isM_ne h1 (by decide)]; decide), if_neg (show ¬ isH wIn (o :: (m ++ d :: (p ++ r))) = true by rw [show isH wIn (o :: (m ++ d :: (p ++ r))) = false from isM_ne h1 (by decide)]; decide), if_pos (show isH wBetw (o :: (m ++ d :: (p ++ r))) = true from h1), List.drop_succ_cons, List.drop_zero]
  unfold twoF
  rw [eb]
  dsimp only
  rw [if_pos (show isH wAnd (d :: (p ++ r)) = true from h2), List.drop_succ_cons, List.drop_zero, ec]
 | @isin k q o c l a p0 ps hq h1 h2 h3 h4 ha hp iha ihp =>
  refine rds_flat (no_lv (by omega)) fun n hn r hr => ?_
  have hpt : pcsT (p0 :: ps) = p0.1 :: (p0.2.1 ++ pcsT ps) := rfl
  rw [hpt] at hn ⊢
  simp only [List.length_append, List.length_cons, List.length_nil] at hn
  have e : (l ++ (q ++ o :: ((p0.1 :: (p0.2.1 ++ pcsT ps)) ++ [c]))) ++ r = l ++ (q ++ o :: (p0.1 :: (p0.2.1 ++ (pcsT ps ++ c :: r)))) := by simp
  rw [e]
  have ea := (iha n (by omega)).1 (q ++ o :: (p0.1 :: (p0.2.1 ++ (pcsT ps ++ c :: r)))) (notq_st hq h1 (.inr (.inl rfl)))
  obtain ⟨m, rfl⟩ : ∃ m, n = m + 1 := ⟨n - 1, by omega⟩
  have hlen : ∀ p ∈ ps, p.2.1.length ≤ (pcsT ps).length := by
   intro p hp
   unfold pcsT
   obtain ⟨s, t, rfl⟩ := List.append_of_mem hp
   rw [List.flatMap_append, List.flatMap_cons, List.length_append, List.length_append, List.length_cons]
   omega
  have hc : Stp 1 (c :: r) := st_of h4 (by decide)
  have hst : Stp 1 (pcsT ps ++ c :: r) := by
   cases ps with
   | nil => exact hc
   | cons p' ps => exact st_of (h3 p' List.mem_cons_self) (by decide)
  have e0 : pOr (m + 1) (p0.2.1 ++ (pcsT ps ++ c :: r)) = some (pcsT ps ++ c :: r, p0.2.2.flat) := (ihp p0 List.mem_cons_self m (by omega)).1 _ hst
  have eL := list_of (fit_pOr (m + 1)) ps ((pcsT ps ++ c :: r).length + 1) (c :: r) h3 (fun p hp r hr => by
   have := hlen p hp
   exact (ihp p (List.mem_cons_of_mem _ hp) m (by omega)).1 r hr) h4 hc (isM_ne h4 (by decide)) (Nat.lt_succ_self _)
  rw [flat_mk, Ex.flats, List.append_assoc]
  refine ask_of ea (more_tail hq h1 (.inr (.inl rfl)) ?_)
  unfold tailF
  rw [if_neg (show ¬ isH wLike (o :: (p0.1 :: (p0.2.1 ++ (pcsT ps ++ c :: r)))) = true by rw [show isH wLike (o :: (p0.1 :: (p0.2.1 ++ (pcsT ps ++ c :: r)))) = false from isM_ne h1 (by decide)]; decide), if_pos (show isH wIn (o :: (p0.1 :: (p0.2.1 ++ (pcsT ps ++ c :: r)))) = true from h1), List.drop_succ_cons, List.drop_zero]
  unfold listF
  rw [if_pos (show isH sLp (p0.1 :: (p0.2.1 ++ (pcsT ps ++ c :: r))) = true from h2), List.drop_succ_cons, List.drop_zero, e0]
  dsimp only
  rw [eL]
  dsimp only
  rw [if_pos (show isH sRp (c :: r) = true from h4)]
  dsimp only
  rw [List.map_cons, Ex.flats, show ((ps.length + 1 : Nat) : Int) + 1 = (ps.length : Int) + 2 by omega]
  rfl
theorem rd_pOr {l : List TokenD} {t : Ex} (h : RD 1 l t) : pOr (l.length + 1) l = some ([], t.flat) := by
 have := (rd_reads h l.length (Nat.le_refl _)).1 [] (fun s _ => rfl)
 rw [List.append_nil] at this
 exact this
end
section
open Go.RowKit K
set_option maxRecDepth 100000
def endB (t : TokenD) : Bool := decide (2 ≤ t.Kind ∧ t.Kind ≤ 4) || (isM t sRp || (isM t wNull || (decide (t.Kind = 1) && nameB t.S)))
def dEnd (d : Nat) (l : List TokenD) : Option Nat :=
 match l with
 | [] => some d
 | t :: r => if isM t sRp then (if d = 0 then none else dEnd (d - 1) r)
  else if isM t sLp then dEnd (d + 1) r else dEnd d r
theorem dEnd_append : ∀ (l m : List TokenD) (d e : Nat), dEnd d l = some e → dEnd d (l ++ m) = dEnd e m
 | [], m, d, e, h => by rw [dEnd] at h; cases h; rfl
 | t :: l, m, d, e, h => by
  rw [List.cons_append, dEnd]
  rw [dEnd] at h
  split
  ·rename_i g
   rw [if_pos g] at h
   split at h
   ·cases h
   ·rename_i g2; rw [if_neg g2]; exact dEnd_append l m _ e h
  ·rename_i g
   rw [if_neg g] at h
   split
   ·rename_i g2; rw [if_pos g2] at h; exact dEnd_append l m _ e h
   ·rename_i g2; rw [if_neg g2] at h; exact dEnd_append l m _ e h
theorem dEnd_shift (c : Nat) : ∀ (l : List TokenD) (d e : Nat), dEnd d l = some e → dEnd (d + c) l = some (e + c)
 | [], d, e, h => by rw [dEnd] at h ⊢; cases h; rfl
 | t :: l, d, e, h => by
  rw [dEnd] at h ⊢
  split
  ·rename_i g
   rw [if_pos g] at h
   split at h
   ·cases h
   ·rename_i g2; rw [if_neg (by omega), show d + c - 1 = (d - 1) + c by omega]; exact dEnd_shift c l _ e h
  ·rename_i g
   rw [if_neg g] at h
   split
   ·rename_i g2; rw [if_pos g2] at h; rw [Nat.add_right_comm]; exact dEnd_shift c l _ e h
   ·rename_i g2; rw [if_neg g2] at h; exact dEnd_shift c l _ e h
theorem dEnd_mark {t : TokenD} {w : List UInt8} (h : isM t w = true) (h1 : w ≠ sLp) (h2 : w ≠ sRp) (d : Nat) (r : List TokenD) : dEnd d (t :: r) = dEnd d r := by
 rw [dEnd, if_neg (by rw [isM_ne h h2.symm]; decide), if_neg (by rw [isM_ne h h1.symm]; decide)]
theorem lit_mark {t : TokenD} {n : NodeD} {s : List UInt8} (h : litF t = some n) (hs : s ≠ wNull) (hr : nameB s = false) : isM t s = false := by
 unfold litF at h
 cases e : isM t s with
 | false => rfl
 | true =>
  obtain ⟨e1, e2⟩ := isM_iff.1 e
  rw [if_neg (by omega), if_neg (by omega), if_neg (by omega), if_neg (by rw [isM_ne e (fun q => hs q.symm)]; decide)] at h
  split at h
  ·rename_i g
   rw [e2] at g
   rw [g.2] at hr; cases hr
  ·cases h
theorem lit_end {t : TokenD} {n : NodeD} (h : litF t = some n) : endB t = true := by
 unfold litF at h
 unfold endB
 by_cases h2 : 2 ≤ t.Kind ∧ t.Kind ≤ 4
 ·rw [decide_eq_true h2]; rfl
 rw [if_neg (by omega), if_neg (by omega), if_neg (by omega)] at h
 split at h
 ·rename_i g; rw [g]; simp
 ·split at h
  ·rename_i g; rw [g.2, decide_eq_true g.1]; simp
  ·cases h
def mkOk (w : List UInt8) : Bool := decide (w ≠ sLp) && (decide (w ≠ sRp) && (decide (w ≠ wBetw) && (decide (w ≠ wNull) && !nameB w)))
theorem mkOk_out {w : List UInt8} (h : mkOk w = true) : w ≠ sLp ∧ w ≠ sRp ∧ w ≠ wBetw ∧ w ≠ wNull ∧ nameB w = false := by
 unfold mkOk at h
 simp only [Bool.and_eq_true, decide_eq_true_eq, Bool.not_eq_true'] at h
 exact h
theorem mark_end {t : TokenD} {w : List UInt8} (h : isM t w = true) (h2 : w ≠ sRp) (h3 : w ≠ wNull) (h4 : nameB w = false) : endB t = false := by
 obtain ⟨e1, e2⟩ := isM_iff.1 h
 unfold endB
 rw [decide_eq_false (by omega), isM_ne h h2.symm, isM_ne h h3.symm, e2, h4]
 simp
theorem balR {k : Nat} {l : List TokenD} {t : Ex} (h : RD k l t) : dEnd 0 l = some 0 := by
 have two : ∀ {a b : List TokenD}, dEnd 0 a = some 0 → dEnd 0 b = some 0 → dEnd 0 (a ++ b) = some 0 := fun ha hb => by rw [dEnd_append _ _ 0 0 ha, hb]
 have mk : ∀ {o : TokenD} {w : List UInt8} {b : List TokenD}, isM o w = true → (decide (w ≠ sLp) && decide (w ≠ sRp)) = true → dEnd 0 b = some 0 → dEnd 0 (o :: b) = some 0 := fun ho hw hb => by
  simp only [Bool.and_eq_true, decide_eq_true_eq] at hw
  rw [dEnd_mark ho hw.1 hw.2, hb]
 have br : ∀ {o c : TokenD} {b : List TokenD}, isM o sLp = true → isM c sRp = true → dEnd 0 b = some 0 → dEnd 0 (o :: (b ++ [c])) = some 0 := fun ho hc hb => by
  rw [dEnd, if_neg (by rw [isM_ne ho (by decide)]; decide), if_pos ho, dEnd_append _ _ 1 1 (dEnd_shift 1 _ 0 0 hb), dEnd, if_pos hc]
  rfl
 have nq : ∀ {k : Nat} {q b : List TokenD}, NotQ k q → dEnd 0 b = some 0 → dEnd 0 (q ++ b) = some 0 := fun hq hb => by
  rcases hq with ⟨_, rfl⟩ | ⟨_, x, rfl, hx⟩
  ·exact hb
  ·exact mk hx (by decide) hb
 have op : ∀ p ∈ lvs, ∀ op ∈ p.2, (decide (sgn op ≠ sLp) && decide (sgn op ≠ sRp)) = true := by decide +kernel
 have oc : ∀ op ∈ cmpL, (decide (sgn op ≠ sLp) && decide (sgn op ≠ sRp)) = true := by decide +kernel
 induction h with
 | lit h1 h2 =>
  rw [dEnd, if_neg (by rw [lit_mark h2 (by decide) (by decide +kernel)]; decide), if_neg (by rw [h1]; decide)]
  rfl
 | par h1 h2 h ih => exact br h1 h2 ih
 | up h1 h8 h ih => exact ih
 | neg h1 h ih => exact mk h1 (by decide) ih
 | not h1 h ih => exact mk h1 (by decide) ih
 | bin hk ho h1 ha hb iha ihb => exact two iha (mk h1 (op _ hk _ ho) ihb)
 | cmp ho h1 ha hb iha ihb => exact two iha (mk h1 (oc _ ho) ihb)
 | isn h1 h2 ha iha => exact two iha (mk h1 (by decide) (mk h2 (by decide) rfl))
 | isnn h1 h2 h3 ha iha => exact two iha (mk h1 (by decide) (mk h2 (by decide) (mk h3 (by decide) rfl)))
 | like hq h1 ha hb iha ihb => exact two iha (nq hq (mk h1 (by decide) ihb))
 | betw hq h1 h2 ha hb hc iha ihb ihc => exact two iha (nq hq (mk h1 (by decide) (two ihb (mk h2 (by decide) ihc))))
 | @isin k q o c l a p0 ps hq h1 h2 h3 h4 ha hp iha ihp =>
  have pc : ∀ ps : List Pc, (∀ p ∈ ps, isM p.1 sCo = true) → (∀ p ∈ ps, dEnd 0 p.2.1 = some 0) → dEnd 0 (pcsT ps) = some 0 := by
   intro ps
   induction ps with
   | nil => intro _ _; rfl
   | cons p ps ih =>
    intro a1 a2
    show dEnd 0 (p.1 :: p.2.1 ++ pcsT ps) = some 0
    rw [List.cons_append]
    exact mk (a1 p List.mem_cons_self) (by decide) (two (a2 p List.mem_cons_self) (ih (fun x hx => a1 x (List.mem_cons_of_mem _ hx)) fun x hx => a2 x (List.mem_cons_of_mem _ hx)))
  have e : pcsT (p0 :: ps) ++ [c] = p0.1 :: ((p0.2.1 ++ pcsT ps) ++ [c]) := by
   show (p0.1 :: p0.2.1 ++ pcsT ps) ++ [c] = _
   simp
  rw [e]
  exact two iha (nq hq (mk h1 (by decide) (br h2 h4 (two (ihp p0 List.mem_cons_self) (pc ps h3 fun x hx => ihp x (List.mem_cons_of_mem _ hx))))))
structure Sc where
 d : Nat
 bt : Nat
 pe : Bool
 i : Nat
 at_ : Option Nat
def recD (d : Nat) (t : TokenD) : Nat := if isM t sRp then d - 1 else d
def nxtD (d : Nat) (t : TokenD) : Nat := if isM t sLp then recD d t + 1 else recD d t
def scS (ops : List Int) (s : Sc) (t : TokenD) : Sc :=
 { d := nxtD s.d t, pe := endB t, i := s.i + 1, bt := if recD s.d t = 0 then (if isM t wBetw then s.bt + 1 else if isM t wAnd then s.bt - 1 else s.bt) else s.bt, at_ := if recD s.d t = 0 ∧ isM t wBetw = false ∧ ¬ (isM t wAnd = true ∧ 0 < s.bt) ∧ s.pe = true ∧ (ops.any fun o => isM t (sgn o)) = true then some s.i else s.at_ }
abbrev scF (ops : List Int) (s : Sc) (l : List TokenD) : Sc := l.foldl (scS ops) s
def lastF (ops : List Int) (l : List TokenD) : Option Nat := if dEnd 0 l = some 0 then (scF ops ⟨0, 0, false, 0, none⟩ l).at_ else none
theorem sc_deep (ops : List Int) (c : Nat) : ∀ (l : List TokenD) (d e : Nat) (s : Sc), dEnd d l = some e → s.d = d + (c + 1) → (scF ops s l).d = e + (c + 1) ∧ (scF ops s l).bt = s.bt ∧ (scF ops s l).i = s.i + l.length ∧ (scF ops s l).at_ = s.at_
 | [], d, e, s, h, hs => by rw [dEnd] at h; cases h; exact ⟨hs, rfl, rfl, rfl⟩
 | t :: l, d, e, s, h, hs => by
  rw [dEnd] at h
  have key : ∀ d', recD s.d t ≠ 0 → nxtD s.d t = d' + (c + 1) → dEnd d' l = some e → (scF ops s (t :: l)).d = e + (c + 1) ∧ (scF ops s (t :: l)).bt = s.bt ∧ (scF ops s (t :: l)).i = s.i + (t :: l).length ∧ (scF ops s (t :: l)).at_ = s.at_ := by
   intro d' h0 h1 h2
   obtain ⟨a1, a2, a3, a4⟩ := sc_deep ops c l d' e (scS ops s t) h2 h1
   refine ⟨a1, ?_, ?_, ?_⟩
   ·show (scF ops (scS ops s t) l).bt = _
    rw [a2]
    exact if_neg h0
   ·show (scF ops (scS ops s t) l).i = _
    rw [a3, List.length_cons]
    show s.i + 1 + _ = _
    omega
   ·show (scF ops (scS ops s t) l).at_ = _
    rw [a4]
    exact if_neg fun x => h0 x.1
  split at h
  ·rename_i g
   have g2 : isM t sLp = false := isM_ne g (by decide)
   split at h
   ·cases h
   ·have hr : recD s.d t = d - 1 + (c + 1) := by unfold recD; rw [if_pos g, hs]; omega
    exact key (d - 1) (by omega) (by unfold nxtD; rw [if_neg (by rw [g2]; decide), hr]) h
  ·rename_i g
   have hr : recD s.d t = d + (c + 1) := by unfold recD; rw [if_neg g, hs]
   split at h
   ·rename_i g2; exact key (d + 1) (by omega) (by unfold nxtD; rw [if_pos g2, hr]; omega) h
   ·rename_i g2; exact key d (by omega) (by unfold nxtD; rw [if_neg g2, hr]) h
theorem recD_0 {d : Nat} {t : TokenD} (h : isM t sRp = false) : recD d t = d := by unfold recD; rw [if_neg (by rw [h]; decide)]
theorem nxtD_0 {d : Nat} {t : TokenD} (h : isM t sRp = false) (h2 : isM t sLp = false) : nxtD d t = d := by unfold nxtD; rw [if_neg (by rw [h2]; decide), recD_0 h]
structure Goes (ops : List Int) (s s' : Sc) (n bt : Nat) (pe keep : Bool) : Prop where
 d : s'.d = 0
 bt : s'.bt = bt
 pe : s'.pe = pe
 i : s'.i = s.i + n
 keep : keep = true → s'.at_ = s.at_
theorem goes_mark {ops : List Int} {s : Sc} {o : TokenD} {w : List UInt8} (hd : s.d = 0) (h : isM o w = true) (hw : mkOk w = true) (keep : Bool) (hk : keep = true → s.pe = false ∨ (w = wAnd ∧ 0 < s.bt) ∨ ∀ p ∈ ops, sgn p ≠ w) : Goes ops s (scS ops s o) 1 (if w = wAnd then s.bt - 1 else s.bt) false keep := by
 obtain ⟨w1, w2, w3, w4, w5⟩ := mkOk_out hw
 have r1 := isM_ne h w2.symm
 have r0 : recD s.d o = 0 := by rw [recD_0 r1, hd]
 refine ⟨?_, ?_, mark_end h w2 w4 w5, rfl, fun hkk => ?_⟩
 ·show nxtD s.d o = 0
  rw [nxtD_0 r1 (isM_ne h w1.symm), hd]
 ·show (if recD s.d o = 0 then (if isM o wBetw then s.bt + 1 else if isM o wAnd then s.bt - 1 else s.bt) else s.bt) = _
  rw [if_pos r0, if_neg (by rw [isM_ne h w3.symm]; decide)]
  by_cases e : w = wAnd
  ·subst e; rw [if_pos h, if_pos rfl]
  ·rw [if_neg e, if_neg (by rw [isM_ne h (fun q => e q.symm)]; decide)]
 ·refine if_neg ?_
  rintro ⟨_, _, x2, x3, x4⟩
  rcases hk hkk with hp | ⟨rfl, hb⟩ | hp
  ·rw [hp] at x3; cases x3
  ·exact x2 ⟨h, hb⟩
  ·rw [List.any_eq_true] at x4
   obtain ⟨p, p1, p2⟩ := x4
   exact hp p p1 ((isM_iff.1 p2).2.symm.trans (isM_iff.1 h).2)
end
section
open Go.RowKit K
set_option maxRecDepth 100000
theorem pcs_bal : ∀ ps : List Pc, (∀ p ∈ ps, isM p.1 sCo = true) → (∀ p ∈ ps, dEnd 0 p.2.1 = some 0) → dEnd 0 (pcsT ps) = some 0
 | [], _, _ => rfl
 | p :: ps, a1, a2 => by
  show dEnd 0 (p.1 :: p.2.1 ++ pcsT ps) = some 0
  rw [List.cons_append, dEnd_mark (a1 p List.mem_cons_self) (by decide) (by decide), dEnd_append _ _ 0 0 (a2 p List.mem_cons_self)]
  exact pcs_bal ps (fun x hx => a1 x (List.mem_cons_of_mem _ hx)) fun x hx => a2 x (List.mem_cons_of_mem _ hx)
theorem Goes.trans {ops : List Int} {s s1 s2 : Sc} {n1 n2 b1 b2 : Nat} {p1 p2 k1 k2 k : Bool} (h1 : Goes ops s s1 n1 b1 p1 k1) (h2 : Goes ops s1 s2 n2 b2 p2 k2) (hk : k = true → k1 = true ∧ k2 = true) : Goes ops s s2 (n1 + n2) b2 p2 k :=
 ⟨h2.d, h2.bt, h2.pe, by rw [h2.i, h1.i, Nat.add_assoc], fun q => by rw [h2.keep (hk q).2, h1.keep (hk q).1]⟩
theorem Goes.cast {ops : List Int} {s s' : Sc} {n n' b b' : Nat} {p k : Bool} (h : Goes ops s s' n b p k) (hn : n = n') (hb : b = b') : Goes ops s s' n' b' p k := by subst hn hb; exact h
theorem scF_append (ops : List Int) (s : Sc) (l m : List TokenD) : scF ops s (l ++ m) = scF ops (scF ops s l) m := List.foldl_append
theorem sgn_ok : ∀ p ∈ lvs, ∀ op ∈ p.2, mkOk (sgn op) = true := by decide +kernel
theorem cmp_ok : ∀ op ∈ cmpL, mkOk (sgn op) = true := by decide +kernel
theorem sgn_apart : ∀ a ∈ lvs, ∀ b ∈ lvs, a.1 < b.1 → ∀ p ∈ a.2, ∀ q ∈ b.2, sgn p ≠ sgn q := by decide +kernel
theorem sgn_cmp : ∀ a ∈ lvs, ∀ p ∈ a.2, ∀ q ∈ cmpL, sgn p ≠ sgn q := by decide +kernel
theorem sgn_words : ∀ a ∈ lvs, ∀ p ∈ a.2, sgn p ≠ wIs ∧ sgn p ≠ wNot ∧ sgn p ≠ wLike ∧ sgn p ≠ wIn ∧ sgn p ≠ wNull ∧ sgn p ≠ wBetw ∧ sgn p ≠ sLp ∧ sgn p ≠ sRp := by decide +kernel
theorem cmp_and : ∀ op ∈ cmpL, sgn op ≠ wAnd := by decide +kernel
theorem sgn_and : ∀ p ∈ lvs, 4 < p.1 → ∀ op ∈ p.2, sgn op ≠ wAnd := by decide +kernel
theorem no_any {ops : List Int} {o : TokenD} {w : List UInt8} (h : isM o w = true) (hw : ∀ p ∈ ops, sgn p ≠ w) : (ops.any fun p => isM o (sgn p)) = false := by
 rw [Bool.eq_false_iff]
 intro x
 rw [List.any_eq_true] at x
 obtain ⟨p, p1, p2⟩ := x
 exact hw p p1 ((isM_iff.1 p2).2.symm.trans (isM_iff.1 h).2)
theorem goes_betw {ops : List Int} {s : Sc} {o : TokenD} (hd : s.d = 0) (h : isM o wBetw = true) : Goes ops s (scS ops s o) 1 (s.bt + 1) false true := by
 have r1 := isM_ne h (show sRp ≠ wBetw by decide)
 have r0 : recD s.d o = 0 := by rw [recD_0 r1, hd]
 refine ⟨?_, ?_, mark_end h (by decide) (by decide) (by decide +kernel), rfl, fun _ => if_neg fun x => ?_⟩
 ·show nxtD s.d o = 0
  rw [nxtD_0 r1 (isM_ne h (by decide)), hd]
 ·show (if recD s.d o = 0 then (if isM o wBetw then s.bt + 1 else if isM o wAnd then s.bt - 1 else s.bt) else s.bt) = _
  rw [if_pos r0, if_pos h]
 ·rw [h] at x; exact absurd x.2.1 (by decide)
theorem goes_null {ops : List Int} {s : Sc} {o : TokenD} (hd : s.d = 0) (h : isM o wNull = true) (hs : s.pe = false) : Goes ops s (scS ops s o) 1 s.bt true true := by
 have r1 := isM_ne h (show sRp ≠ wNull by decide)
 have r0 : recD s.d o = 0 := by rw [recD_0 r1, hd]
 refine ⟨?_, ?_, ?_, rfl, fun _ => if_neg fun x => ?_⟩
 ·show nxtD s.d o = 0
  rw [nxtD_0 r1 (isM_ne h (by decide)), hd]
 ·show (if recD s.d o = 0 then (if isM o wBetw then s.bt + 1 else if isM o wAnd then s.bt - 1 else s.bt) else s.bt) = _
  rw [if_pos r0, if_neg (by rw [isM_ne h (by decide)]; decide), if_neg (by rw [isM_ne h (by decide)]; decide)]
 ·show endB o = true
  unfold endB; rw [h]; simp
 ·rw [hs] at x; exact absurd x.2.2.2.1 (by decide)
theorem goes_lit {ops : List Int} {s : Sc} {t : TokenD} {n : NodeD} (hd : s.d = 0) (h1 : isM t sLp = false) (h2 : litF t = some n) (hs : s.pe = false) : Goes ops s (scS ops s t) 1 s.bt true true := by
 have r1 := lit_mark h2 (show sRp ≠ wNull by decide) (by decide +kernel)
 have r0 : recD s.d t = 0 := by rw [recD_0 r1, hd]
 refine ⟨?_, ?_, lit_end h2, rfl, fun _ => if_neg fun x => ?_⟩
 ·show nxtD s.d t = 0
  rw [nxtD_0 r1 h1, hd]
 ·show (if recD s.d t = 0 then (if isM t wBetw then s.bt + 1 else if isM t wAnd then s.bt - 1 else s.bt) else s.bt) = _
  rw [if_pos r0, if_neg (by rw [lit_mark h2 (by decide) (by decide +kernel)]; decide), if_neg (by rw [lit_mark h2 (by decide) (by decide +kernel)]; decide)]
 ·rw [hs] at x; exact absurd x.2.2.2.1 (by decide)
theorem goes_par {ops : List Int} {k : Nat} (hk : (k, ops) ∈ lvs) {s : Sc} {o c : TokenD} {l : List TokenD} (hd : s.d = 0) (h1 : isM o sLp = true) (h2 : isM c sRp = true) (hb : dEnd 0 l = some 0) : Goes ops s (scF ops s (o :: (l ++ [c]))) (l.length + 2) s.bt true true := by
 have q1 : ∀ p ∈ ops, sgn p ≠ sLp := fun p hp => (sgn_words _ hk p hp).2.2.2.2.2.2.1
 have q2 : ∀ p ∈ ops, sgn p ≠ sRp := fun p hp => (sgn_words _ hk p hp).2.2.2.2.2.2.2
 have e0 : scF ops s (o :: (l ++ [c])) = scS ops (scF ops (scS ops s o) l) c := by
  show scF ops (scS ops s o) (l ++ [c]) = _
  rw [scF_append]; rfl
 rw [e0]
 obtain ⟨s1, hs1⟩ : ∃ s1, s1 = scS ops s o := ⟨_, rfl⟩
 have a1 : s1.d = 1 := by
  rw [hs1]
  show nxtD s.d o = 1
  unfold nxtD
  rw [if_pos h1, recD_0 (isM_ne h1 (by decide)), hd]
 have a2 : s1.bt = s.bt := by
  rw [hs1]
  show (if recD s.d o = 0 then (if isM o wBetw then s.bt + 1 else if isM o wAnd then s.bt - 1 else s.bt) else s.bt) = _
  split
  ·rw [if_neg (by rw [isM_ne h1 (by decide)]; decide), if_neg (by rw [isM_ne h1 (by decide)]; decide)]
  ·rfl
 have a3 : s1.i = s.i + 1 := by rw [hs1]; rfl
 have a4 : s1.at_ = s.at_ := by
  rw [hs1]
  exact if_neg fun x => by rw [no_any h1 q1] at x; exact absurd x.2.2.2.2 (by decide)
 rw [← hs1]
 obtain ⟨b1, b2, b3, b4⟩ := sc_deep ops 0 l 0 0 s1 hb a1
 obtain ⟨s2, hs2⟩ : ∃ s2, s2 = scF ops s1 l := ⟨_, rfl⟩
 rw [← hs2] at b1 b2 b3 b4 ⊢
 have c0 : recD s2.d c = 0 := by unfold recD; rw [if_pos h2, b1]
 refine ⟨?_, ?_, ?_, ?_, fun _ => ?_⟩
 ·show nxtD s2.d c = 0
  unfold nxtD
  rw [if_neg (by rw [isM_ne h2 (by decide)]; decide), c0]
 ·show (if recD s2.d c = 0 then (if isM c wBetw then s2.bt + 1 else if isM c wAnd then s2.bt - 1 else s2.bt) else s2.bt) = _
  rw [if_pos c0, if_neg (by rw [isM_ne h2 (by decide)]; decide), if_neg (by rw [isM_ne h2 (by decide)]; decide), b2, a2]
 ·show endB c = true
  unfold endB; rw [h2]; simp
 ·show s2.i + 1 = _
  rw [b3, a3]; omega
 ·rw [← a4, ← b4]
  exact if_neg fun x => by rw [no_any h2 q2] at x; exact absurd x.2.2.2.2 (by decide)
theorem goes_rd {j : Nat} {l : List TokenD} {t : Ex} (h : RD j l t) : ∀ (ops : List Int) (k : Nat), (k, ops) ∈ lvs → ∀ s : Sc, s.d = 0 → s.pe = false → (j ≤ 4 → s.bt = 0) → Goes ops s (scF ops s l) l.length s.bt true (decide (k < j)) := by
 have notq : ∀ {ops : List Int} {k : Nat} {kk : Nat} {q : List TokenD} {s : Sc} (keep : Bool), (k, ops) ∈ lvs → NotQ kk q → s.d = 0 → s.bt = 0 → ∃ p, Goes ops s (scF ops s q) q.length 0 p keep ∧ (q = [] ∨ p = false) := by
  intro ops k kk q s keep hk hq hd hb
  rcases hq with ⟨_, rfl⟩ | ⟨_, x, rfl, hx⟩
  ·exact ⟨s.pe, ⟨hd, hb, rfl, rfl, fun _ => rfl⟩, .inl rfl⟩
  ·exact ⟨false, (goes_mark hd hx (by decide +kernel) keep fun _ => .inr (.inr fun p hp => (sgn_words _ hk p hp).2.1)).cast rfl (by rw [if_neg (by decide), hb]), .inr rfl⟩
 induction h with
 | lit h1 h2 =>
  intro ops k hk s hd hp hb
  have := goes_lit (ops := ops) hd h1 h2 hp
  exact ⟨this.d, this.bt, this.pe, this.i, fun _ => this.keep rfl⟩
 | par h1 h2 h ih =>
  intro ops k hk s hd hp hb
  have := goes_par hk hd h1 h2 (balR h)
  exact ⟨this.d, this.bt, this.pe, by rw [this.i, List.length_cons, List.length_append]; rfl, fun _ => this.keep rfl⟩
 | up h1 h8 h ih =>
  intro ops k hk s hd hp hb
  have := ih ops k hk s hd hp (fun q => hb (by omega))
  exact ⟨this.d, this.bt, this.pe, this.i, fun q => this.keep (by rw [decide_eq_true_iff] at q ⊢; omega)⟩
 | neg h1 h ih =>
  intro ops k hk s hd hp hb
  have g1 := goes_mark (ops := ops) hd h1 (by decide +kernel) true fun _ => .inl hp
  have g2 := ih ops k hk (scS ops s _) g1.d g1.pe (fun q => absurd q (by decide))
  exact (g1.trans g2 fun q => ⟨rfl, q⟩).cast (by rw [List.length_cons, Nat.add_comm]) (by rw [g1.bt, if_neg (by decide)])
 | not h1 h ih =>
  intro ops k hk s hd hp hb
  have g1 := goes_mark (ops := ops) hd h1 (by decide +kernel) true fun _ => .inl hp
  have g2 := ih ops k hk (scS ops s _) g1.d g1.pe (fun q => by rw [g1.bt, if_neg (by decide)]; exact hb q)
  exact (g1.trans g2 fun q => ⟨rfl, q⟩).cast (by rw [List.length_cons, Nat.add_comm]) (by rw [g1.bt, if_neg (by decide)])
 | @bin k0 ops0 op o l m a b hk0 ho h1 ha hb iha ihb =>
  intro ops k hk s hd hp hbt
  have g1 := iha ops k hk s hd hp hbt
  have g2 := goes_mark (ops := ops) g1.d h1 (sgn_ok _ hk0 _ ho) (decide (k < k0)) fun q => .inr (.inr fun p hp => sgn_apart _ hk _ hk0 (of_decide_eq_true q) p hp op ho)
  have e : (if sgn op = wAnd then (scF ops s l).bt - 1 else (scF ops s l).bt) = s.bt := by
   split
   ·rename_i q
    have : k0 ≤ 4 := Nat.le_of_not_lt fun x => sgn_and _ hk0 x _ ho q
    rw [g1.bt, hbt this]
   ·exact g1.bt
  have g3 := ihb ops k hk (scS ops (scF ops s l) o) g2.d g2.pe (fun q => by rw [g2.bt, e]; exact hbt (by omega))
  rw [scF_append]
  refine ((g1.trans g2 (k := decide (k < k0)) fun q => ⟨q, q⟩).trans g3 fun q => ⟨q, ?_⟩).cast (by rw [List.length_append, List.length_cons]; omega) (by rw [g2.bt, e])
  rw [decide_eq_true_iff] at q ⊢; omega
 | @cmp op o l m a b ho h1 ha hb iha ihb =>
  intro ops k hk s hd hp hbt
  have g1 := iha ops k hk s hd hp (fun q => absurd q (by decide))
  have g2 := goes_mark (ops := ops) g1.d h1 (cmp_ok _ ho) true fun q => .inr (.inr fun p hp => sgn_cmp _ hk p hp op ho)
  have g3 := ihb ops k hk (scS ops (scF ops s l) o) g2.d g2.pe (fun q => absurd q (by decide))
  rw [scF_append]
  refine ((g1.trans g2 (k := decide (k < 4)) fun q => ⟨?_, rfl⟩).trans g3 fun q => ⟨q, ?_⟩).cast (by rw [List.length_append, List.length_cons]; omega) (by rw [g2.bt, if_neg (cmp_and op ho), g1.bt])
  all_goals (rw [decide_eq_true_iff] at q ⊢; omega)
 | @isn i u l a h1 h2 ha iha =>
  intro ops k hk s hd hp hbt
  have g1 := iha ops k hk s hd hp (fun q => absurd q (by decide))
  have g2 := goes_mark (ops := ops) g1.d h1 (by decide +kernel) true fun q => .inr (.inr fun p hp => (sgn_words _ hk p hp).1)
  have g3 := goes_null (ops := ops) g2.d h2 g2.pe
  rw [scF_append]
  refine ((g1.trans g2 (k := decide (k < 4)) fun q => ⟨?_, rfl⟩).trans g3 fun q => ⟨q, rfl⟩).cast (by rw [List.length_append]; rfl) (by rw [g2.bt, if_neg (by decide), g1.bt])
  rw [decide_eq_true_iff] at q ⊢; omega
 | @isnn i n u l a h1 h2 h3 ha iha =>
  intro ops k hk s hd hp hbt
  have g1 := iha ops k hk s hd hp (fun q => absurd q (by decide))
  have g2 := goes_mark (ops := ops) g1.d h1 (by decide +kernel) true fun q => .inr (.inr fun p hp => (sgn_words _ hk p hp).1)
  have g3 := goes_mark (ops := ops) g2.d h2 (by decide +kernel) true fun q => .inl g2.pe
  have g4 := goes_null (ops := ops) g3.d h3 g3.pe
  rw [scF_append]
  refine (((g1.trans g2 (k := decide (k < 4)) fun q => ⟨?_, rfl⟩).trans g3 (k := decide (k < 4)) fun q => ⟨q, rfl⟩).trans g4 fun q => ⟨q, rfl⟩).cast (by rw [List.length_append]; rfl) (by rw [g3.bt, if_neg (by decide), g2.bt, if_neg (by decide), g1.bt])
  rw [decide_eq_true_iff] at q ⊢; omega
 | @like kk q o l m a b hq h1 ha hb iha ihb =>
  intro ops k hk s hd hp hbt
  have h0 := hbt (by decide)
  have g1 := iha ops k hk s hd hp (fun q => absurd q (by decide))
  obtain ⟨p, g2, _⟩ := notq true hk hq g1.d (by rw [g1.bt, h0])
  have g3 := goes_mark (ops := ops) g2.d h1 (by decide +kernel) true fun q => .inr (.inr fun p hp => (sgn_words _ hk p hp).2.2.1)
  have g4 := ihb ops k hk _ g3.d g3.pe (fun q => absurd q (by decide))
  rw [scF_append, scF_append]
  refine (((g1.trans g2 (k := decide (k < 4)) fun q => ⟨?_, rfl⟩).trans g3 (k := decide (k < 4)) fun q => ⟨q, rfl⟩).trans g4 fun q => ⟨q, ?_⟩).cast (by simp only [List.length_append, List.length_cons]; omega) (by rw [g3.bt, if_neg (by decide), g2.bt, h0])
  all_goals (rw [decide_eq_true_iff] at q ⊢; omega)
 | @betw kk q o d l m p a b c hq h1 h2 ha hb hc iha ihb ihc =>
  intro ops k hk s hd hp hbt
  have h0 := hbt (by decide)
  have g1 := iha ops k hk s hd hp (fun q => absurd q (by decide))
  obtain ⟨p, g2, _⟩ := notq true hk hq g1.d (by rw [g1.bt, h0])
  have g3 := goes_betw (ops := ops) g2.d h1
  have g4 := ihb ops k hk _ g3.d g3.pe (fun q => absurd q (by decide))
  have g5 := goes_mark (ops := ops) g4.d h2 (by decide +kernel) true fun q => .inr (.inl ⟨rfl, by rw [g4.bt, g3.bt]; omega⟩)
  have g6 := ihc ops k hk _ g5.d g5.pe (fun q => absurd q (by decide))
  rw [scF_append, scF_append]
  show Goes ops s (scF ops (scS ops (scF ops (scF ops s l) q) o) (m ++ d :: _)) _ _ _ _
  rw [scF_append]
  refine (((((g1.trans g2 (k := decide (k < 4)) fun q => ⟨?_, rfl⟩).trans g3 (k := decide (k < 4)) fun q => ⟨q, rfl⟩).trans g4 (k := decide (k < 4)) fun q => ⟨q, ?_⟩).trans g5 (k := decide (k < 4)) fun q => ⟨q, rfl⟩).trans g6 fun q => ⟨q, ?_⟩).cast (by simp only [List.length_append, List.length_cons]; omega) (by rw [g5.bt, if_pos rfl, g4.bt, g3.bt, g2.bt]; exact h0.symm)
  all_goals (rw [decide_eq_true_iff] at q ⊢; omega)
 | @isin kk q o c l a p0 ps hq h1 h2 h3 h4 ha hp iha ihp =>
  intro ops k hk s hd hp0 hbt
  have h0 := hbt (by decide)
  have hbp : dEnd 0 (p0.2.1 ++ pcsT ps) = some 0 := by
   rw [dEnd_append _ _ 0 0 (balR (hp p0 List.mem_cons_self))]
   exact pcs_bal ps h3 fun x hx => balR (hp x (List.mem_cons_of_mem _ hx))
  have e : pcsT (p0 :: ps) ++ [c] = p0.1 :: ((p0.2.1 ++ pcsT ps) ++ [c]) := by
   show (p0.1 :: p0.2.1 ++ pcsT ps) ++ [c] = _
   simp
  rw [e]
  have g1 := iha ops k hk s hd hp0 (fun q => absurd q (by decide))
  obtain ⟨p, g2, _⟩ := notq true hk hq g1.d (by rw [g1.bt, h0])
  have g3 := goes_mark (ops := ops) g2.d h1 (by decide +kernel) true fun q => .inr (.inr fun p hp => (sgn_words _ hk p hp).2.2.2.1)
  have g4 := goes_par (ops := ops) hk g3.d h2 h4 hbp
  rw [scF_append, scF_append]
  refine (((g1.trans g2 (k := decide (k < 4)) fun q => ⟨?_, rfl⟩).trans g3 (k := decide (k < 4)) fun q => ⟨q, rfl⟩).trans g4 fun q => ⟨q, rfl⟩).cast (by simp only [List.length_append, List.length_cons, List.length_nil]; omega) (by rw [g3.bt, if_neg (by decide), g2.bt, h0])
  rw [decide_eq_true_iff] at q ⊢; omega
theorem last_rd {k : Nat} {ops : List Int} (hk : (k, ops) ∈ lvs) {l : List TokenD} {t : Ex} (h : RD k l t) : (RD (k + 1) l t ∧ lastF ops l = none) ∨ ∃ l1 o l2 op a b, l = l1 ++ o :: l2 ∧ op ∈ ops ∧ isM o (sgn op) = true ∧ RD k l1 a ∧ RD (k + 1) l2 b ∧ t = .mk (nOp op 2) [a, b] ∧ lastF ops l = some l1.length := by
 have hbal := balR h
 unfold lastF
 rw [if_pos hbal]
 have up : ∀ {l : List TokenD} {t : Ex}, RD (k + 1) l t → (scF ops ⟨0, 0, false, 0, none⟩ l).at_ = none := fun h =>
  (goes_rd h ops k hk ⟨0, 0, false, 0, none⟩ rfl rfl (fun _ => rfl)).keep (decide_eq_true (Nat.lt_succ_self k))
 have main : ∀ {j : Nat} {l : List TokenD} {t : Ex}, RD j l t → j = k → (RD (k + 1) l t ∧ (scF ops ⟨0, 0, false, 0, none⟩ l).at_ = none) ∨ ∃ l1 o l2 op a b, l = l1 ++ o :: l2 ∧ op ∈ ops ∧ isM o (sgn op) = true ∧ RD k l1 a ∧ RD (k + 1) l2 b ∧ t = .mk (nOp op 2) [a, b] ∧ (scF ops ⟨0, 0, false, 0, none⟩ l).at_ = some l1.length := by
  intro j l t h
  cases h with
  | lit h1 h2 => intro e; subst e; exact absurd hk (no_lv (by omega) ops)
  | par h1 h2 h => intro e; subst e; exact absurd hk (no_lv (by omega) ops)
  | up h1 h8 hh => intro e; subst e; exact .inl ⟨hh, up hh⟩
  | neg h1 h => intro e; subst e; exact absurd hk (no_lv (by omega) ops)
  | not h1 h => intro e; subst e; exact absurd hk (no_lv (by omega) ops)
  | @bin k0 ops0 op o l m a b hk0 ho h1 ha hb =>
   intro e
   subst e
   have eo : ops0 = ops := by
    rcases lvs_cases hk with ⟨e1, e2⟩ | ⟨e1, e2⟩ | ⟨e1, e2⟩ | ⟨e1, e2⟩ <;> (rcases lvs_cases hk0 with ⟨f1, f2⟩ | ⟨f1, f2⟩ | ⟨f1, f2⟩ | ⟨f1, f2⟩ <;> first | (rw [e2, f2]; done) | omega)
   subst eo
   refine .inr ⟨l, o, m, op, a, b, rfl, ho, h1, ha, hb, rfl, ?_⟩
   have g1 := goes_rd ha ops0 j hk ⟨0, 0, false, 0, none⟩ rfl rfl (fun _ => rfl)
   rw [scF_append]
   obtain ⟨s1, hs1⟩ : ∃ s1, s1 = scF ops0 ⟨0, 0, false, 0, none⟩ l := ⟨_, rfl⟩
   rw [← hs1] at g1 ⊢
   have g2 := goes_mark (ops := ops0) g1.d h1 (sgn_ok _ hk _ ho) false fun q => absurd q (by decide)
   have hbt : (scS ops0 s1 o).bt = 0 := by
    rw [g2.bt]
    have := g1.bt
    split
    ·rw [this]; rfl
    ·rw [this]
   have g3 := goes_rd hb ops0 j hk (scS ops0 s1 o) g2.d g2.pe (fun _ => hbt)
   show (scF ops0 (scS ops0 s1 o) m).at_ = some l.length
   rw [g3.keep (decide_eq_true (Nat.lt_succ_self j))]
   obtain ⟨w1, w2, w3, w4, w5⟩ := mkOk_out (sgn_ok _ hk _ ho)
   have r0 : recD s1.d o = 0 := by rw [recD_0 (isM_ne h1 w2.symm), g1.d]
   have : (scS ops0 s1 o).at_ = some s1.i := if_pos ⟨r0, isM_ne h1 w3.symm, fun x => by rw [g1.bt] at x; exact absurd x.2 (by decide), g1.pe, by rw [List.any_eq_true]; exact ⟨op, ho, h1⟩⟩
   rw [this, g1.i, Nat.zero_add]
  | cmp ho h1 ha hb => intro e; subst e; exact absurd hk (no_lv (by omega) ops)
  | isn h1 h2 ha => intro e; subst e; exact absurd hk (no_lv (by omega) ops)
  | isnn h1 h2 h3 ha => intro e; subst e; exact absurd hk (no_lv (by omega) ops)
  | like hq h1 ha hb => intro e; subst e; exact absurd hk (no_lv (by omega) ops)
  | betw hq h1 h2 ha hb hc => intro e; subst e; exact absurd hk (no_lv (by omega) ops)
  | isin hq h1 h2 h3 h4 ha hp => intro e; subst e; exact absurd hk (no_lv (by omega) ops)
 exact main h rfl
end
section
open Go.RowKit K
set_option maxRecDepth 100000
theorem snd_lv (n : Nat) (k : Nat) (h1 : 1 ≤ k) (h8 : k ≤ 8) : Snd k (lvF (pOr n) k) := by
 have ih := snd_pOr n
 have c1 := snd_one ih
 have c2 : Snd 7 (negF (pOr n)) := snd_pre (by omega) (by omega) (fun h1 h2 => .neg h1 h2) c1
 have c3 : Snd 6 (mulF (pOr n)) := snd_chainF (by decide) (by omega) (by omega) c2
 have c4 : Snd 5 (addF (pOr n)) := snd_chainF (by decide) (by omega) (by omega) c3
 have c5 := snd_ask ih c4
 have c6 : Snd 3 (notF (pOr n)) := snd_pre (by omega) (by omega) (fun h1 h2 => .not h1 h2) c5
 have c7 : Snd 2 (andF (pOr n)) := snd_chainF (by decide) (by omega) (by omega) c6
 have c8 : Snd 1 (orF (pOr n)) := snd_chainF (by decide) (by omega) (by omega) c7
 have : k = 1 ∨ k = 2 ∨ k = 3 ∨ k = 4 ∨ k = 5 ∨ k = 6 ∨ k = 7 ∨ k = 8 := by omega
 rcases this with rfl | rfl | rfl | rfl | rfl | rfl | rfl | rfl <;> assumption
def pK (k : Nat) (l : List TokenD) : Option (List NodeD) :=
 match lvF (pOr l.length) k l with
 | some ([], ns) => some ns
 | _ => none
theorem pK_iff {k : Nat} (h1 : 1 ≤ k) (h8 : k ≤ 8) (l : List TokenD) (ns : List NodeD) : pK k l = some ns ↔ ∃ t, RD k l t ∧ ns = t.flat := by
 constructor
 ·intro h
  unfold pK at h
  split at h
  ·rename_i ns' e
   cases h
   obtain ⟨pre, t, e1, e2, e3⟩ := snd_lv _ k h1 h8 _ _ _ e
   rw [List.append_nil] at e1
   subst e1
   exact ⟨t, e2, e3⟩
  ·cases h
 ·rintro ⟨t, h, rfl⟩
  have := (rd_reads h l.length (Nat.le_refl _)).1 [] (fun s _ => rfl)
  rw [List.append_nil] at this
  unfold pK
  rw [this]
theorem pK_eq {k : Nat} (h1 : 1 ≤ k) (h8 : k ≤ 8) (l : List TokenD) (x : Option (List NodeD)) (ha : ∀ t, RD k l t → x = some t.flat) (hb : ∀ ns, x = some ns → ∃ t, RD k l t ∧ ns = t.flat) : pK k l = x := by
 cases hp : pK k l with
 | some ns =>
  obtain ⟨t, e1, e2⟩ := (pK_iff h1 h8 l ns).1 hp
  rw [ha t e1, e2]
 | none =>
  cases hx : x with
  | none => rfl
  | some ns =>
   rw [(pK_iff h1 h8 l ns).2 (hb ns hx)] at hp
   cases hp
def bothF (a b : Option (List NodeD)) (op : Int) : Option (List NodeD) :=
 match a, b with
 | some x, some y => some (x ++ y ++ [nOp op 2])
 | _, _ => none
def aboveF (a : Option (List NodeD)) (op : Int) : Option (List NodeD) := a.map fun x => x ++ [nOp op 1]
theorem sc_found {ops : List Int} : ∀ (l pre : List TokenD) (s : Sc), s.i = pre.length → (∀ j, s.at_ = some j → ∃ l1 o l2, pre = l1 ++ o :: l2 ∧ l1.length = j ∧ ∃ op ∈ ops, isM o (sgn op) = true) → ∀ j, (scF ops s l).at_ = some j → ∃ l1 o l2, pre ++ l = l1 ++ o :: l2 ∧ l1.length = j ∧ ∃ op ∈ ops, isM o (sgn op) = true
 | [], pre, s, hi, h, j, hj => by rw [List.append_nil]; exact h j hj
 | t :: l, pre, s, hi, h, j, hj => by
  have := sc_found l (pre ++ [t]) (scS ops s t) (by rw [List.length_append, ← hi]; rfl) (by
   intro j hj
   have hj : (if recD s.d t = 0 ∧ isM t wBetw = false ∧ ¬ (isM t wAnd = true ∧ 0 < s.bt) ∧ s.pe = true ∧ (ops.any fun o => isM t (sgn o)) = true then some s.i else s.at_) = some j := hj
   split at hj
   ·rename_i g
    cases hj
    obtain ⟨_, _, _, _, g⟩ := g
    rw [List.any_eq_true] at g
    obtain ⟨op, g1, g2⟩ := g
    exact ⟨pre, t, [], rfl, hi.symm, op, g1, g2⟩
   ·obtain ⟨l1, o, l2, e1, e2, e3⟩ := h j hj
    exact ⟨l1, o, l2 ++ [t], by rw [e1]; simp, e2, e3⟩) j hj
  rwa [List.append_assoc] at this
theorem last_found {ops : List Int} {l : List TokenD} {j : Nat} (h : lastF ops l = some j) : ∃ l1 o l2, l = l1 ++ o :: l2 ∧ l1.length = j ∧ ∃ op ∈ ops, isM o (sgn op) = true := by
 unfold lastF at h
 split at h
 ·have := sc_found l [] ⟨0, 0, false, 0, none⟩ rfl (fun j hj => by cases hj) j h
  rwa [List.nil_append] at this
 ·cases h
theorem ref_chain {k : Nat} {ops : List Int} (hk : (k, ops) ∈ lvs) (l : List TokenD) :
  (lastF ops l = none → pK k l = pK (k + 1) l) ∧ (∀ l1 o l2 op, l = l1 ++ o :: l2 → lastF ops l = some l1.length → op ∈ ops → isM o (sgn op) = true → pK k l = bothF (pK k l1) (pK (k + 1) l2) op) := by
 have hk1 : 1 ≤ k ∧ k + 1 ≤ 8 := by rcases lvs_cases hk with ⟨rfl, _⟩ | ⟨rfl, _⟩ | ⟨rfl, _⟩ | ⟨rfl, _⟩ <;> omega
 obtain ⟨a1, a2⟩ := hk1
 constructor
 ·intro hn
  refine pK_eq a1 (by omega) l _ (fun t ht => ?_) (fun ns hns => ?_)
  ·rcases last_rd hk ht with ⟨h, _⟩ | ⟨l1, o, l2, op, a, b, _, _, _, _, _, _, h⟩
   ·exact (pK_iff (by omega) a2 l _).2 ⟨t, h, rfl⟩
   ·rw [hn] at h; cases h
  ·obtain ⟨t, e1, e2⟩ := (pK_iff (by omega) a2 l ns).1 hns
   exact ⟨t, .up a1 (by omega) e1, e2⟩
 ·intro l1 o l2 op el hl ho hm
  refine pK_eq a1 (by omega) l _ (fun t ht => ?_) (fun ns hns => ?_)
  ·rcases last_rd hk ht with ⟨_, h⟩ | ⟨m1, o', m2, op', a, b, em, ho', hm', ha, hb, et, h⟩
   ·rw [hl] at h; cases h
   ·rw [hl] at h
    have hlen : l1.length = m1.length := Option.some.inj h
    rw [el] at em
    obtain ⟨e1, e2⟩ := List.append_inj em hlen
    injection e2 with e2 e3
    subst e1 e2 e3
    have : op' = op := lvs_inj _ hk op ho op' ho' ((isM_iff.1 hm').2.symm.trans (isM_iff.1 hm).2)
    subst this
    rw [(pK_iff a1 (by omega) l1 _).2 ⟨a, ha, rfl⟩, (pK_iff (by omega) a2 l2 _).2 ⟨b, hb, rfl⟩, et, flat_mk, flats_two]
    rfl
  ·unfold bothF at hns
   split at hns
   ·rename_i x y ex ey
    cases hns
    obtain ⟨a, ha, rfl⟩ := (pK_iff a1 (by omega) l1 _).1 ex
    obtain ⟨b, hb, rfl⟩ := (pK_iff (by omega) a2 l2 _).1 ey
    rw [el]
    exact ⟨_, .bin hk ho hm ha hb, by rw [flat_mk, flats_two]⟩
   ·cases hns
theorem inv_pre {j : Nat} {l : List TokenD} {t : Ex} (h : RD j l t) : (j = 3 → RD 4 l t ∨ ∃ o m x, l = o :: m ∧ isM o wNot = true ∧ RD 3 m x ∧ t = .mk (nOp 4 1) [x]) ∧ (j = 7 → RD 8 l t ∨ ∃ o m x, l = o :: m ∧ isM o sMi = true ∧ RD 7 m x ∧ t = .mk (nOp 3 1) [x]) := by
 cases h with
 | lit h1 h2 => exact ⟨fun q => absurd q (by decide), fun q => absurd q (by decide)⟩
 | par h1 h2 h => exact ⟨fun q => absurd q (by decide), fun q => absurd q (by decide)⟩
 | up h1 h8 hh => exact ⟨fun q => by subst q; exact .inl hh, fun q => by subst q; exact .inl hh⟩
 | neg h1 hh => exact ⟨fun q => absurd q (by decide), fun _ => .inr ⟨_, _, _, rfl, h1, hh, rfl⟩⟩
 | not h1 hh => exact ⟨fun _ => .inr ⟨_, _, _, rfl, h1, hh, rfl⟩, fun q => absurd q (by decide)⟩
 | bin hk ho h1 ha hb => exact ⟨fun q => absurd hk (no_lv (by omega) _), fun q => absurd hk (no_lv (by omega) _)⟩
 | cmp ho h1 ha hb => exact ⟨fun q => absurd q (by decide), fun q => absurd q (by decide)⟩
 | isn h1 h2 ha => exact ⟨fun q => absurd q (by decide), fun q => absurd q (by decide)⟩
 | isnn h1 h2 h3 ha => exact ⟨fun q => absurd q (by decide), fun q => absurd q (by decide)⟩
 | like hq h1 ha hb => exact ⟨fun q => absurd q (by decide), fun q => absurd q (by decide)⟩
 | betw hq h1 h2 ha hb hc => exact ⟨fun q => absurd q (by decide), fun q => absurd q (by decide)⟩
 | isin hq h1 h2 h3 h4 ha hp => exact ⟨fun q => absurd q (by decide), fun q => absurd q (by decide)⟩
theorem ref_not (l : List TokenD) : pK 3 l = if isH wNot l then aboveF (pK 3 (l.drop 1)) 4 else pK 4 l := by
 refine pK_eq (by omega) (by omega) l _ (fun t ht => ?_) (fun ns hns => ?_)
 ·rcases (inv_pre ht).1 rfl with h | ⟨o, m, x, rfl, h1, h2, rfl⟩
  ·obtain ⟨y, l', rfl, n1, n2⟩ := rd_head h
   rw [if_neg (show ¬ isH wNot (y :: l') = true by rw [show isH wNot (y :: l') = false from n1 (by omega)]; decide)]
   exact (pK_iff (by omega) (by omega) _ _).2 ⟨t, h, rfl⟩
  ·rw [if_pos (show isH wNot (o :: m) = true from h1), List.drop_succ_cons, List.drop_zero, (pK_iff (by omega) (by omega) _ _).2 ⟨x, h2, rfl⟩, flat_mk, Ex.flats_one]
   rfl
 ·split at hns
  ·rename_i g
   obtain ⟨o, e1, e2⟩ := isH_cons g
   unfold aboveF at hns
   rw [Option.map_eq_some_iff] at hns
   obtain ⟨x, hx, rfl⟩ := hns
   obtain ⟨a, ha, rfl⟩ := (pK_iff (by omega) (by omega) _ _).1 hx
   rw [e1]
   exact ⟨_, .not e2 ha, by rw [flat_mk, Ex.flats_one]⟩
  ·obtain ⟨a, ha, rfl⟩ := (pK_iff (by omega) (by omega) _ _).1 hns
   exact ⟨a, .up (by omega) (by omega) ha, rfl⟩
theorem ref_neg (l : List TokenD) : pK 7 l = if isH sMi l then aboveF (pK 7 (l.drop 1)) 3 else pK 8 l := by
 refine pK_eq (by omega) (by omega) l _ (fun t ht => ?_) (fun ns hns => ?_)
 ·rcases (inv_pre ht).2 rfl with h | ⟨o, m, x, rfl, h1, h2, rfl⟩
  ·obtain ⟨y, l', rfl, n1, n2⟩ := rd_head h
   rw [if_neg (show ¬ isH sMi (y :: l') = true by rw [show isH sMi (y :: l') = false from n2 (by omega)]; decide)]
   exact (pK_iff (by omega) (by omega) _ _).2 ⟨t, h, rfl⟩
  ·rw [if_pos (show isH sMi (o :: m) = true from h1), List.drop_succ_cons, List.drop_zero, (pK_iff (by omega) (by omega) _ _).2 ⟨x, h2, rfl⟩, flat_mk, Ex.flats_one]
   rfl
 ·split at hns
  ·rename_i g
   obtain ⟨o, e1, e2⟩ := isH_cons g
   unfold aboveF at hns
   rw [Option.map_eq_some_iff] at hns
   obtain ⟨x, hx, rfl⟩ := hns
   obtain ⟨a, ha, rfl⟩ := (pK_iff (by omega) (by omega) _ _).1 hx
   rw [e1]
   exact ⟨_, .neg e2 ha, by rw [flat_mk, Ex.flats_one]⟩
  ·obtain ⟨a, ha, rfl⟩ := (pK_iff (by omega) (by omega) _ _).1 hns
   exact ⟨a, .up (by omega) (by omega) ha, rfl⟩
theorem inv_one {j : Nat} {l : List TokenD} {t : Ex} (h : RD j l t) : j = 8 → (∃ x n, l = [x] ∧ isM x sLp = false ∧ litF x = some n ∧ t = .mk n []) ∨ ∃ o m c, l = o :: (m ++ [c]) ∧ isM o sLp = true ∧ isM c sRp = true ∧ RD 1 m t := by
 cases h with
 | lit h1 h2 => exact fun _ => .inl ⟨_, _, rfl, h1, h2, rfl⟩
 | par h1 h2 h => exact fun _ => .inr ⟨_, _, _, rfl, h1, h2, h⟩
 | up h1 h8 hh => intro q; omega
 | neg h1 hh => exact fun q => absurd q (by decide)
 | not h1 hh => exact fun q => absurd q (by decide)
 | bin hk ho h1 ha hb => exact fun q => absurd hk (no_lv (by omega) _)
 | cmp ho h1 ha hb => exact fun q => absurd q (by decide)
 | isn h1 h2 ha => exact fun q => absurd q (by decide)
 | isnn h1 h2 h3 ha => exact fun q => absurd q (by decide)
 | like hq h1 ha hb => exact fun q => absurd q (by decide)
 | betw hq h1 h2 ha hb hc => exact fun q => absurd q (by decide)
 | isin hq h1 h2 h3 h4 ha hp => exact fun q => absurd q (by decide)
theorem ref_par {o c : TokenD} {m : List TokenD} (h1 : isM o sLp = true) (h2 : isM c sRp = true) : pK 8 (o :: (m ++ [c])) = pK 1 m := by
 refine pK_eq (by omega) (by omega) _ _ (fun t ht => ?_) (fun ns hns => ?_)
 ·rcases inv_one ht rfl with ⟨x, n, e, _⟩ | ⟨o', m', c', e, _, _, h⟩
  ·have := congrArg List.length e; simp at this
  ·injection e with e1 e2
   have := List.append_inj' e2 rfl
   rw [this.1]
   exact (pK_iff (by omega) (by omega) _ _).2 ⟨t, h, rfl⟩
 ·obtain ⟨a, ha, rfl⟩ := (pK_iff (by omega) (by omega) _ _).1 hns
  exact ⟨a, .par h1 h2 ha, rfl⟩
theorem ref_lit (x : TokenD) (h1 : isM x sLp = false) : pK 8 [x] = (litF x).map fun n => [n] := by
 refine pK_eq (by omega) (by omega) _ _ (fun t ht => ?_) (fun ns hns => ?_)
 ·rcases inv_one ht rfl with ⟨y, n, e, _, e2, e3⟩ | ⟨o', m', c', e, _, _, h⟩
  ·injection e with e
   subst e e3
   rw [e2, Ex.flat, Ex.flats]; rfl
  ·have := congrArg List.length e; simp at this
 ·rw [Option.map_eq_some_iff] at hns
  obtain ⟨n, hn, rfl⟩ := hns
  exact ⟨_, .lit h1 hn, by rw [Ex.flat, Ex.flats]; rfl⟩
theorem ref_none {l : List TokenD} (h1 : ∀ o m c, l = o :: (m ++ [c]) → isM o sLp = true → isM c sRp = true → False) (h2 : ∀ x, l = [x] → isM x sLp = false → litF x = none) : pK 8 l = none := by
 refine pK_eq (by omega) (by omega) _ _ (fun t ht => ?_) (fun ns hns => by cases hns)
 rcases inv_one ht rfl with ⟨y, n, e, e1, e2, e3⟩ | ⟨o', m', c', e, a, b, h⟩
 ·rw [h2 y e e1] at e2; cases e2
 ·exact (h1 _ _ _ e a b).elim
end
section
open Go.RowKit K
set_option maxRecDepth 100000
def anyM (W : List (List UInt8)) (t : TokenD) : Bool := W.any fun w => isM t w
def wOk (W : List (List UInt8)) : Bool := W.all fun w => decide (w ≠ sLp) && (decide (w ≠ sRp) && (decide (w ≠ wNull) && !nameB w))
theorem wOk_out {W : List (List UInt8)} (h : wOk W = true) {w : List UInt8} (hw : w ∈ W) : w ≠ sLp ∧ w ≠ sRp ∧ w ≠ wNull ∧ nameB w = false := by
 unfold wOk at h
 rw [List.all_eq_true] at h
 have := h w hw
 simp only [Bool.and_eq_true, decide_eq_true_eq, Bool.not_eq_true'] at this
 exact this
theorem anyM_mark {W : List (List UInt8)} {o : TokenD} {v : List UInt8} (h : isM o v = true) (hv : v ∉ W) : anyM W o = false := by
 unfold anyM
 rw [Bool.eq_false_iff]
 intro x
 rw [List.any_eq_true] at x
 obtain ⟨w, w1, w2⟩ := x
 exact hv (((isM_iff.1 h).2.symm.trans (isM_iff.1 w2).2) ▸ w1)
theorem anyM_lit {W : List (List UInt8)} (hW : wOk W = true) {t : TokenD} {n : NodeD} (h : litF t = some n) : anyM W t = false := by
 unfold anyM
 rw [Bool.eq_false_iff]
 intro x
 rw [List.any_eq_true] at x
 obtain ⟨w, w1, w2⟩ := x
 obtain ⟨_, _, w3, w4⟩ := wOk_out hW w1
 rw [lit_mark h w3 w4] at w2
 cases w2
theorem anyM_of {W : List (List UInt8)} {o : TokenD} {v : List UInt8} (h : isM o v = true) (hv : v ∈ W) : anyM W o = true := by
 unfold anyM
 rw [List.any_eq_true]
 exact ⟨v, hv, h⟩
theorem anyM_out {W : List (List UInt8)} {o : TokenD} (h : anyM W o = true) : ∃ v ∈ W, isM o v = true := by
 unfold anyM at h
 rwa [List.any_eq_true] at h
def firstAt (W : List (List UInt8)) (d : Nat) (l : List TokenD) : Option Nat :=
 match l with
 | [] => none
 | t :: r => if recD d t = 0 ∧ anyM W t = true then some 0 else (firstAt W (nxtD d t) r).map (· + 1)
theorem dEnd_nxt {d e : Nat} {t : TokenD} {r : List TokenD} (h : dEnd d (t :: r) = some e) : dEnd (nxtD d t) r = some e := by
 rw [dEnd] at h
 unfold nxtD recD
 split at h
 ·rename_i g
  rw [if_neg (by rw [isM_ne g (by decide)]; decide), if_pos g]
  split at h
  ·cases h
  ·exact h
 ·rename_i g
  rw [if_neg g]
  split at h
  ·rename_i g2; rw [if_pos g2]; exact h
  ·rename_i g2; rw [if_neg g2]; exact h
theorem first_app (W : List (List UInt8)) : ∀ (l m : List TokenD) (d e : Nat), firstAt W d l = none → dEnd d l = some e → firstAt W d (l ++ m) = (firstAt W e m).map (· + l.length)
 | [], m, d, e, h1, h2 => by
  rw [dEnd] at h2; cases h2
  show firstAt W d m = _
  cases firstAt W d m <;> rfl
 | t :: l, m, d, e, h1, h2 => by
  rw [firstAt] at h1
  split at h1
  ·cases h1
  ·rename_i g
   rw [Option.map_eq_none_iff] at h1
   rw [List.cons_append, firstAt, if_neg g, first_app W l m _ e h1 (dEnd_nxt h2), Option.map_map]
   cases firstAt W e m with
   | none => rfl
   | some x => show some (x + l.length + 1) = some (x + (l.length + 1)); rw [Nat.add_assoc]
theorem first_deep (W : List (List UInt8)) (c : Nat) : ∀ (l : List TokenD) (d e : Nat), dEnd d l = some e → firstAt W (d + (c + 1)) l = none
 | [], d, e, h => rfl
 | t :: l, d, e, h => by
  have h' := h
  rw [dEnd] at h'
  have hr : recD (d + (c + 1)) t ≠ 0 := by
   unfold recD
   split
   ·rename_i g
    rw [if_pos g] at h'
    split at h'
    ·cases h'
    ·omega
   ·omega
  have hn : nxtD (d + (c + 1)) t = nxtD d t + (c + 1) := by
   unfold nxtD recD
   by_cases g : isM t sRp = true
   ·rw [if_pos g, if_pos g]
    rw [if_pos g] at h'
    split at h'
    ·cases h'
    ·rw [if_neg (by rw [isM_ne g (by decide)]; decide), if_neg (by rw [isM_ne g (by decide)]; decide)]; omega
   ·rw [if_neg g, if_neg g]
    split <;> omega
  rw [firstAt, if_neg (fun x => hr x.1), hn, first_deep W c l _ e (dEnd_nxt h)]
  rfl
theorem first_mark {W : List (List UInt8)} {o : TokenD} {v : List UInt8} (h : isM o v = true) (h1 : v ≠ sLp) (h2 : v ≠ sRp) (hv : v ∉ W) (r : List TokenD) : firstAt W 0 (o :: r) = (firstAt W 0 r).map (· + 1) := by
 rw [firstAt, if_neg (fun x => by rw [anyM_mark h hv] at x; exact absurd x.2 (by decide)), nxtD_0 (isM_ne h h2.symm) (isM_ne h h1.symm)]
theorem first_hit {W : List (List UInt8)} {o : TokenD} {v : List UInt8} (h : isM o v = true) (h2 : v ≠ sRp) (hv : v ∈ W) (r : List TokenD) : firstAt W 0 (o :: r) = some 0 := by
 rw [firstAt, if_pos ⟨recD_0 (isM_ne h h2.symm), anyM_of h hv⟩]
theorem first_br {W : List (List UInt8)} (hW : wOk W = true) {o c : TokenD} {l : List TokenD} (h1 : isM o sLp = true) (h2 : isM c sRp = true) (hb : dEnd 0 l = some 0) : firstAt W 0 (o :: (l ++ [c])) = none := by
 have no : anyM W o = false := anyM_mark h1 fun x => (wOk_out hW x).1 rfl
 have nc : anyM W c = false := anyM_mark h2 fun x => (wOk_out hW x).2.1 rfl
 have hn : nxtD 0 o = 1 := by unfold nxtD; rw [if_pos h1, recD_0 (isM_ne h1 (by decide))]
 rw [firstAt, if_neg (fun x => by rw [no] at x; exact absurd x.2 (by decide)), hn, first_app W l [c] 1 1 (first_deep W 0 l 0 0 hb) (dEnd_shift 1 l 0 0 hb), firstAt, if_neg (fun x => by rw [nc] at x; exact absurd x.2 (by decide))]
 rfl
theorem first_two {W : List (List UInt8)} {l m : List TokenD} (h1 : firstAt W 0 l = none) (hb : dEnd 0 l = some 0) (h2 : firstAt W 0 m = none) : firstAt W 0 (l ++ m) = none := by
 rw [first_app W l m 0 0 h1 hb, h2]; rfl
theorem lvs_mk5 : ∀ p ∈ lvs, 5 ≤ p.1 → ∀ op ∈ p.2, sgn op ∈ mk5 := by decide +kernel
theorem first_rd {W : List (List UInt8)} (hW : wOk W = true) {j : Nat} {l : List TokenD} {t : Ex} (h : RD j l t) : ((5 ≤ j ∧ ∀ v ∈ mk5, v ∉ W) ∨ W = [sCo]) → firstAt W 0 l = none := by
 have mk : ∀ {o : TokenD} {w : List UInt8} {b : List TokenD}, isM o w = true → (decide (w ≠ sLp) && decide (w ≠ sRp)) = true → w ∉ W → firstAt W 0 b = none → firstAt W 0 (o :: b) = none := fun ho hw hv hb => by
  simp only [Bool.and_eq_true, decide_eq_true_eq] at hw
  rw [first_mark ho hw.1 hw.2 hv, hb]; rfl
 have mB : ∀ {o : TokenD} {w : List UInt8} {b : List TokenD}, isM o w = true → (decide (w ≠ sLp) && decide (w ≠ sRp)) = true → dEnd 0 b = some 0 → dEnd 0 (o :: b) = some 0 := fun ho hw hb => by
  simp only [Bool.and_eq_true, decide_eq_true_eq] at hw
  rw [dEnd_mark ho hw.1 hw.2, hb]
 have nq : W = [sCo] → ∀ {k : Nat} {q b : List TokenD}, NotQ k q → firstAt W 0 b = none → firstAt W 0 (q ++ b) = none := fun e _ q b hq hb => by
  rcases hq with ⟨_, rfl⟩ | ⟨_, x, rfl, hx⟩
  ·exact hb
  ·exact mk hx (by decide) (by rw [e]; decide) hb
 have op : ∀ p ∈ lvs, ∀ op ∈ p.2, (decide (sgn op ≠ sLp) && decide (sgn op ≠ sRp)) = true ∧ sgn op ∉ [sCo] := by decide +kernel
 have oc : ∀ op ∈ cmpL, (decide (sgn op ≠ sLp) && decide (sgn op ≠ sRp)) = true ∧ sgn op ∉ [sCo] := by decide +kernel
 induction h with
 | lit h1 h2 =>
  intro _
  rw [firstAt, if_neg (fun x => by rw [anyM_lit hW h2] at x; exact absurd x.2 (by decide))]
  rfl
 | par h1 h2 h ih => intro _; exact first_br hW h1 h2 (balR h)
 | up h1 h8 h ih => intro q; exact ih (q.imp (fun x => ⟨by omega, x.2⟩) id)
 | neg h1 h ih => intro q; exact mk h1 (by decide) (q.elim (fun x => x.2 _ (by decide)) fun x => by rw [x]; decide) (ih q)
 | not h1 h ih => intro q; exact mk h1 (by decide) (q.elim (fun x => absurd x.1 (by decide)) fun x => by rw [x]; decide) (ih q)
 | @bin k ops op0 o l m a b hk ho h1 ha hb iha ihb =>
  intro q
  refine first_two (iha q) (balR ha) (mk h1 (op _ hk _ ho).1 ?_ (ihb (q.imp (fun x => ⟨by omega, x.2⟩) id)))
  rcases q with q | q
  ·exact q.2 _ (lvs_mk5 _ hk q.1 _ ho)
  ·rw [q]; exact (op _ hk _ ho).2
 | cmp ho h1 ha hb iha ihb =>
  intro q
  have q : W = [sCo] := q.elim (fun x => absurd x.1 (by decide)) id
  exact first_two (iha (.inr q)) (balR ha) (mk h1 (oc _ ho).1 (by rw [q]; exact (oc _ ho).2) (ihb (.inr q)))
 | isn h1 h2 ha iha =>
  intro q
  have q : W = [sCo] := q.elim (fun x => absurd x.1 (by decide)) id
  exact first_two (iha (.inr q)) (balR ha) (mk h1 (by decide) (by rw [q]; decide) (mk h2 (by decide) (by rw [q]; decide) rfl))
 | isnn h1 h2 h3 ha iha =>
  intro q
  have q : W = [sCo] := q.elim (fun x => absurd x.1 (by decide)) id
  exact first_two (iha (.inr q)) (balR ha) (mk h1 (by decide) (by rw [q]; decide) (mk h2 (by decide) (by rw [q]; decide) (mk h3 (by decide) (by rw [q]; decide) rfl)))
 | like hq h1 ha hb iha ihb =>
  intro q
  have q : W = [sCo] := q.elim (fun x => absurd x.1 (by decide)) id
  exact first_two (iha (.inr q)) (balR ha) (nq q hq (mk h1 (by decide) (by rw [q]; decide) (ihb (.inr q))))
 | betw hq h1 h2 ha hb hc iha ihb ihc =>
  intro q
  have q : W = [sCo] := q.elim (fun x => absurd x.1 (by decide)) id
  exact first_two (iha (.inr q)) (balR ha) (nq q hq (mk h1 (by decide) (by rw [q]; decide) (first_two (ihb (.inr q)) (balR hb) (mk h2 (by decide) (by rw [q]; decide) (ihc (.inr q))))))
 | @isin k qq o c l a p0 ps hq h1 h2 h3 h4 ha hp iha ihp =>
  intro q
  have q : W = [sCo] := q.elim (fun x => absurd x.1 (by decide)) id
  have hbp : dEnd 0 (p0.2.1 ++ pcsT ps) = some 0 := by
   rw [dEnd_append _ _ 0 0 (balR (hp p0 List.mem_cons_self))]
   exact pcs_bal ps h3 fun x hx => balR (hp x (List.mem_cons_of_mem _ hx))
  have e : pcsT (p0 :: ps) ++ [c] = p0.1 :: ((p0.2.1 ++ pcsT ps) ++ [c]) := by
   show (p0.1 :: p0.2.1 ++ pcsT ps) ++ [c] = _
   simp
  rw [e]
  exact first_two (iha (.inr q)) (balR ha) (nq q hq (mk h1 (by decide) (by rw [q]; decide) (first_br hW h2 h4 hbp)))
def splitC (d : Nat) (l : List TokenD) : List (List TokenD) :=
 match l with
 | [] => [[]]
 | t :: r => if recD d t = 0 ∧ isM t sCo = true then [] :: splitC (nxtD d t) r else
  match splitC (nxtD d t) r with
  | [] => [[t]]
  | p :: ps => (t :: p) :: ps
theorem split_ne : ∀ (l : List TokenD) (d : Nat), splitC d l ≠ []
 | [], d => by simp [splitC]
 | t :: r, d => by
  rw [splitC]
  split
  ·simp
  ·split <;> simp
def withC (p : List TokenD) (qs : List (TokenD × List TokenD)) : List TokenD := p ++ qs.flatMap fun q => q.1 :: q.2
theorem split_join : ∀ (l : List TokenD) (d : Nat) (p : List TokenD) (ps : List (List TokenD)), splitC d l = p :: ps → ∃ qs : List (TokenD × List TokenD), qs.map Prod.snd = ps ∧ (∀ q ∈ qs, isM q.1 sCo = true) ∧ l = withC p qs
 | [], d, p, ps, h => by rw [splitC] at h; cases h; exact ⟨[], rfl, fun q hq => absurd hq (List.not_mem_nil), rfl⟩
 | t :: r, d, p, ps, h => by
  rw [splitC] at h
  split at h
  ·rename_i g
   cases h
   cases hs : splitC (nxtD d t) r with
   | nil => exact absurd hs (split_ne r _)
   | cons p' ps' =>
    obtain ⟨qs, e1, e2, e3⟩ := split_join r _ p' ps' hs
    refine ⟨(t, p') :: qs, by rw [List.map_cons, e1], ?_, ?_⟩
    ·intro q hq
     rcases List.mem_cons.1 hq with rfl | hq
     ·exact g.2
     ·exact e2 q hq
    ·conv => lhs; rw [e3]
     rfl
  ·cases hs : splitC (nxtD d t) r with
   | nil => exact absurd hs (split_ne r _)
   | cons p' ps' =>
    rw [hs] at h
    cases h
    obtain ⟨qs, e1, e2, e3⟩ := split_join r _ p' ps hs
    exact ⟨qs, e1, e2, by (conv => lhs; rw [e3]); rfl⟩
theorem split_app : ∀ (l m : List TokenD) (d e : Nat) (p : List TokenD) (ps : List (List TokenD)), firstAt [sCo] d l = none → dEnd d l = some e → splitC e m = p :: ps → splitC d (l ++ m) = (l ++ p) :: ps
 | [], m, d, e, p, ps, h1, h2, h3 => by rw [dEnd] at h2; cases h2; exact h3
 | t :: l, m, d, e, p, ps, h1, h2, h3 => by
  rw [firstAt] at h1
  split at h1
  ·cases h1
  ·rename_i g
   rw [Option.map_eq_none_iff] at h1
   have g' : ¬ (recD d t = 0 ∧ isM t sCo = true) := fun x => g ⟨x.1, anyM_of x.2 List.mem_cons_self⟩
   rw [List.cons_append, splitC, if_neg g', split_app l m _ e p ps h1 (dEnd_nxt h2) h3]
   rfl
theorem split_pcs : ∀ (ps : List Pc) (p : List TokenD), (∀ p ∈ ps, isM p.1 sCo = true) → firstAt [sCo] 0 p = none → dEnd 0 p = some 0 → (∀ p ∈ ps, firstAt [sCo] 0 p.2.1 = none ∧ dEnd 0 p.2.1 = some 0) → splitC 0 (p ++ pcsT ps) = p :: ps.map fun p => p.2.1
 | [], p, _, h2, h3, _ => by
  have := split_app p [] 0 0 [] [] h2 h3 rfl
  rw [List.append_nil] at this
  show splitC 0 (p ++ []) = _
  rw [List.append_nil, this]; rfl
 | x :: ps, p, h1, h2, h3, h4 => by
  have ih := split_pcs ps x.2.1 (fun y hy => h1 y (List.mem_cons_of_mem _ hy)) (h4 x List.mem_cons_self).1 (h4 x List.mem_cons_self).2 fun y hy => h4 y (List.mem_cons_of_mem _ hy)
  have hx := h1 x List.mem_cons_self
  have e : splitC 0 (x.1 :: (x.2.1 ++ pcsT ps)) = [] :: (x.2.1 :: ps.map fun p => p.2.1) := by
   rw [splitC, if_pos ⟨recD_0 (isM_ne hx (by decide)), hx⟩, nxtD_0 (isM_ne hx (by decide)) (isM_ne hx (by decide)), ih]
  have := split_app p (x.1 :: (x.2.1 ++ pcsT ps)) 0 0 _ _ h2 h3 e
  rw [List.append_nil] at this
  exact this
def listG : List (List TokenD) → Option (List NodeD × Nat)
 | [] => some ([], 0)
 | p :: ps => match pK 1 p with
  | none => none
  | some b => match listG ps with
   | none => none
   | some (ms, n) => some (b ++ ms, n + 1)
theorem listG_of : ∀ (ps : List Pc), (∀ p ∈ ps, RD 1 p.2.1 p.2.2) → listG (ps.map fun p => p.2.1) = some (Ex.flats (ps.map fun p => p.2.2), ps.length)
 | [], _ => by rw [List.map_nil, List.map_nil, listG, Ex.flats]; rfl
 | p :: ps, h => by
  rw [List.map_cons, List.map_cons, listG, (pK_iff (by omega) (by omega) _ _).2 ⟨p.2.2, h p List.mem_cons_self, rfl⟩]
  dsimp only
  rw [listG_of ps fun x hx => h x (List.mem_cons_of_mem _ hx), Ex.flats]
  rfl
end
section
open Go.RowKit K
set_option maxRecDepth 100000
abbrev askW : List (List UInt8) := [[61], [60, 62], [60], [60, 61], [62], [62, 61], wIs, wNot, wLike, wIn, wBetw]
def askN (l : List TokenD) : Nat := if dEnd 0 l = some 0 then (firstAt askW 0 l).getD l.length else l.length
def andAt (l : List TokenD) : Option Nat := if dEnd 0 l = some 0 then firstAt [wAnd] 0 l else none
def listRF (a : List NodeD) (l : List TokenD) (op : Int) : Option (List NodeD) :=
 if dEnd 0 l = some 0 then (match listG (splitC 0 l) with
  | some (ms, n) => some (a ++ ms ++ [nOp op ((n : Int) + 1)])
  | none => none)
 else none
def betwR (a : List NodeD) (l : List TokenD) (op : Int) : Option (List NodeD) :=
 match andAt l with
 | none => none
 | some j => match pK 5 ((l.take j).drop 1) with
  | none => none
  | some b => match pK 5 (l.drop (j + 1)) with
   | none => none
   | some c => some (a ++ b ++ c ++ [nOp op 3])
def tailR (a : List NodeD) (k : Nat) (l : List TokenD) : Option (List NodeD) :=
 if isH wLike l then bothF (some a) (pK 5 (l.drop 1)) (20 + (k : Int))
 else if isH wBetw l then betwR a l (24 + (k : Int))
 else if isH wIn l = true ∧ 3 ≤ l.length ∧ isH sLp (l.drop 1) = true ∧ isH sRp (l.drop (l.length - 1)) = true then listRF a ((l.drop 2).take (l.length - 3)) (22 + (k : Int))
 else none
def isR (a : List NodeD) (l : List TokenD) : Option (List NodeD) :=
 if l.length = 2 ∧ isH wNull (l.drop 1) = true then some (a ++ [nOp 18 1])
 else if l.length = 3 ∧ isH wNot (l.drop 1) = true ∧ isH wNull (l.drop 2) = true then some (a ++ [nOp 19 1])
 else none
def moreR (a : List NodeD) (l : List TokenD) : Option (List NodeD) :=
 match opAt cmpL l with
 | some o => bothF (some a) (pK 5 (l.drop 1)) o
 | none => if isH wIs l then isR a l else if isH wNot l then tailR a 1 (l.drop 1) else tailR a 0 l
def refAsk (l : List TokenD) : Option (List NodeD) :=
 match pK 5 (l.take (askN l)) with
 | none => none
 | some a => if askN l = l.length then some a else moreR a (l.drop (askN l))
theorem first_found {W : List (List UInt8)} : ∀ (l : List TokenD) (d j : Nat), firstAt W d l = some j → ∃ l1 o l2, l = l1 ++ o :: l2 ∧ l1.length = j ∧ anyM W o = true
 | [], d, j, h => by cases h
 | t :: l, d, j, h => by
  rw [firstAt] at h
  split at h
  ·rename_i g; cases h; exact ⟨[], t, l, rfl, rfl, g.2⟩
  ·rw [Option.map_eq_some_iff] at h
   obtain ⟨i, hi, rfl⟩ := h
   obtain ⟨l1, o, l2, e1, e2, e3⟩ := first_found l _ i hi
   exact ⟨t :: l1, o, l2, by rw [e1]; rfl, by rw [List.length_cons, e2], e3⟩
theorem listG_pcs : ∀ (qs : List (TokenD × List TokenD)) (ms : List NodeD) (n : Nat), listG (qs.map Prod.snd) = some (ms, n) → ∃ Ps : List Pc, Ps.map (fun p => (p.1, p.2.1)) = qs ∧ (∀ p ∈ Ps, RD 1 p.2.1 p.2.2) ∧ ms = Ex.flats (Ps.map fun p => p.2.2) ∧ n = Ps.length
 | [], ms, n, h => by rw [List.map_nil, listG] at h; cases h; exact ⟨[], rfl, fun p h => absurd h (List.not_mem_nil), by rw [List.map_nil, Ex.flats], rfl⟩
 | q :: qs, ms, n, h => by
  rw [List.map_cons, listG] at h
  split at h
  ·cases h
  rename_i b hb
  split at h
  ·cases h
  rename_i ms' n' h'
  cases h
  obtain ⟨t, t1, t2⟩ := (pK_iff (by omega) (by omega) _ _).1 hb
  obtain ⟨Ps, e1, e2, e3, e4⟩ := listG_pcs qs ms' n' h'
  refine ⟨(q.1, q.2, t) :: Ps, by rw [List.map_cons, e1], ?_, by rw [List.map_cons, Ex.flats, t2, e3], by rw [List.length_cons, e4]⟩
  intro p hp
  rcases List.mem_cons.1 hp with rfl | hp
  ·exact t1
  ·exact e2 p hp
theorem isH_last {l : List TokenD} {s : List UInt8} (h : isH s (l.drop (l.length - 1)) = true) : ∃ c, l = l.take (l.length - 1) ++ [c] ∧ isM c s = true := by
 obtain ⟨c, e1, e2⟩ := isH_cons h
 refine ⟨c, ?_, e2⟩
 have hl : (l.drop (l.length - 1)).length ≤ 1 := by rw [List.length_drop]; omega
 have e3 : (l.drop (l.length - 1)).drop 1 = [] := List.drop_eq_nil_iff.2 hl
 rw [e3] at e1
 conv => lhs; rw [← List.take_append_drop (l.length - 1) l]
 rw [e1]
theorem tailR_sound {k : Nat} {q l0 l : List TokenD} {a : Ex} {ns : List NodeD} (hq : NotQ k q) (h0 : RD 5 l0 a) (h : tailR a.flat k l = some ns) : ∃ t, RD 4 (l0 ++ (q ++ l)) t ∧ ns = t.flat := by
 unfold tailR at h
 split at h
 ·rename_i g
  obtain ⟨o, o1, o2⟩ := isH_cons g
  unfold bothF at h
  split at h
  ·rename_i x y ex ey
   cases h
   cases ex
   obtain ⟨b, hb, rfl⟩ := (pK_iff (by omega) (by omega) _ _).1 ey
   rw [o1]
   exact ⟨_, .like hq o2 h0 hb, by rw [flat_mk, flats_two]⟩
  ·cases h
 ·split at h
  ·rename_i g
   obtain ⟨o, o1, o2⟩ := isH_cons g
   unfold betwR at h
   split at h
   ·cases h
   rename_i j hj
   unfold andAt at hj
   split at hj
   case isFalse => cases hj
   obtain ⟨l1, d, l2, e1, e2, e3⟩ := first_found _ _ _ hj
   obtain ⟨v, v1, v2⟩ := anyM_out e3
   have v1 : v = wAnd := by simpa using v1
   subst v1
   split at h
   ·cases h
   rename_i b hb
   split at h
   ·cases h
   rename_i c hc
   cases h
   cases l1 with
   | nil =>
    rw [e1] at o1
    injection o1 with o1 _
    rw [o1] at v2
    exact absurd (isM_ne v2 (show wBetw ≠ wAnd by decide)) (by rw [o2]; decide)
   | cons o' m =>
    have eo : o' = o := by rw [e1] at o1; injection o1
    subst eo
    rw [e1, List.take_left' e2] at hb
    rw [List.drop_succ_cons, List.drop_zero] at hb
    have hc' : ((o' :: m) ++ d :: l2).drop (j + 1) = l2 := by
     have e4 : (o' :: m) ++ d :: l2 = ((o' :: m) ++ [d]) ++ l2 := by simp
     rw [e4]
     exact List.drop_left' (by rw [List.length_append, e2]; rfl)
    rw [e1, hc'] at hc
    obtain ⟨tb, b1, rfl⟩ := (pK_iff (by omega) (by omega) _ _).1 hb
    obtain ⟨tc, c1, rfl⟩ := (pK_iff (by omega) (by omega) _ _).1 hc
    rw [e1]
    exact ⟨_, .betw hq o2 v2 h0 b1 c1, by rw [flat_mk, Ex.flats, flats_two]; simp only [List.append_assoc]⟩
  ·split at h
   case isFalse => cases h
   rename_i g
   obtain ⟨g1, g2, g3, g4⟩ := g
   obtain ⟨o, o1, o2⟩ := isH_cons g1
   obtain ⟨p, p1, p2⟩ := isH_cons g3
   obtain ⟨c, c1, c2⟩ := isH_last g4
   obtain ⟨x, hx⟩ : ∃ x, x = (l.drop 2).take (l.length - 3) := ⟨_, rfl⟩
   rw [← hx] at h
   have el : l = o :: p :: (x ++ [c]) := by
    rw [List.drop_drop] at p1
    have e1 : l = o :: p :: l.drop 2 := by rw [p1] at o1; exact o1
    have e2 : l.drop 2 = x ++ [c] := by
     have := congrArg (List.drop 2) c1
     rw [List.drop_append_of_le_length (by rw [List.length_take]; omega), List.drop_take] at this
     rw [this, hx]
     rfl
    rw [e2] at e1
    exact e1
   unfold listRF at h
   split at h
   case isFalse => cases h
   split at h
   case h_2 => cases h
   rename_i ms n hg
   cases h
   cases hs : splitC 0 x with
   | nil => exact absurd hs (split_ne x 0)
   | cons p' ps' =>
    obtain ⟨qs, q1, q2, q3⟩ := split_join x 0 p' ps' hs
    rw [hs, ← q1] at hg
    have hg : listG (((p, p') :: qs).map Prod.snd) = some (ms, n) := hg
    obtain ⟨Ps, P1, P2, P3, P4⟩ := listG_pcs _ _ _ hg
    cases Ps with
    | nil => cases P1
    | cons p0 Ps =>
     rw [List.map_cons] at P1
     injection P1 with P5 P6
     have eP : pcsT (p0 :: Ps) = p :: x := by
      have e1 : p0.1 = p := congrArg Prod.fst P5
      have e2 : p0.2.1 = p' := congrArg Prod.snd P5
      show (p0.1 :: p0.2.1) ++ pcsT Ps = p :: x
      rw [e1, e2, q3]
      have : pcsT Ps = qs.flatMap fun q => q.1 :: q.2 := by
       rw [← P6]
       unfold pcsT
       rw [List.flatMap_map]
      rw [this]; rfl
     have hco : ∀ y ∈ Ps, isM y.1 sCo = true := by
      intro y hy
      have : (y.1, y.2.1) ∈ qs := by rw [← P6]; exact List.mem_map.2 ⟨y, hy, rfl⟩
      exact q2 _ this
     have hp0 : isM p0.1 sLp = true := by
      have e1 : p0.1 = p := congrArg Prod.fst P5
      rw [e1]; exact p2
     have := RD.isin (p0 := p0) (ps := Ps) hq o2 hp0 hco c2 h0 P2
     rw [eP] at this
     rw [el]
     refine ⟨_, this, ?_⟩
     rw [flat_mk, Ex.flats, P3, P4, List.length_cons, show ((Ps.length + 1 : Nat) : Int) + 1 = (Ps.length : Int) + 2 by omega]
theorem moreR_sound {l0 l : List TokenD} {a : Ex} {ns : List NodeD} (h0 : RD 5 l0 a) (h : moreR a.flat l = some ns) : ∃ t, RD 4 (l0 ++ l) t ∧ ns = t.flat := by
 unfold moreR at h
 split at h
 ·rename_i o ho
  obtain ⟨o1, o2⟩ := opAt_pos ho
  obtain ⟨x, x1, x2⟩ := isH_cons o1
  unfold bothF at h
  split at h
  ·rename_i u v ex ey
   cases h
   cases ex
   obtain ⟨b, hb, rfl⟩ := (pK_iff (by omega) (by omega) _ _).1 ey
   rw [x1]
   exact ⟨_, .cmp o2 x2 h0 hb, by rw [flat_mk, flats_two]⟩
  ·cases h
 ·split at h
  ·rename_i g
   obtain ⟨i, i1, i2⟩ := isH_cons g
   unfold isR at h
   split at h
   ·rename_i g2
    obtain ⟨u, u1, u2⟩ := isH_cons g2.2
    cases h
    have e : l = [i, u] := by
     have : (l.drop 1).drop 1 = [] := List.drop_eq_nil_iff.2 (by rw [List.length_drop]; omega)
     rw [this] at u1
     rw [u1] at i1; exact i1
    rw [e]
    exact ⟨_, .isn i2 u2 h0, by rw [flat_mk, Ex.flats_one]⟩
   ·split at h
    ·rename_i g2
     obtain ⟨n, n1, n2⟩ := isH_cons g2.2.1
     obtain ⟨u, u1, u2⟩ := isH_cons g2.2.2
     cases h
     have e : l = [i, n, u] := by
      have : (l.drop 2).drop 1 = [] := List.drop_eq_nil_iff.2 (by rw [List.length_drop]; omega)
      rw [this] at u1
      rw [List.drop_drop] at n1
      have n1 : l.drop 1 = n :: l.drop 2 := n1
      rw [u1] at n1
      rw [n1] at i1; exact i1
     rw [e]
     exact ⟨_, .isnn i2 n2 u2 h0, by rw [flat_mk, Ex.flats_one]⟩
    ·cases h
  ·split at h
   ·rename_i g
    obtain ⟨n, n1, n2⟩ := isH_cons g
    obtain ⟨t, t1, t2⟩ := tailR_sound (k := 1) (q := [n]) (.inr ⟨rfl, n, rfl, n2⟩) h0 h
    rw [n1]
    exact ⟨t, t1, t2⟩
   ·exact tailR_sound (k := 0) (q := []) (.inl ⟨rfl, rfl⟩) h0 h
theorem refAsk_sound {l : List TokenD} {ns : List NodeD} (h : refAsk l = some ns) : ∃ t, RD 4 l t ∧ ns = t.flat := by
 unfold refAsk at h
 split at h
 ·cases h
 rename_i a ha
 obtain ⟨x, hx, rfl⟩ := (pK_iff (by omega) (by omega) _ _).1 ha
 split at h
 ·rename_i g
  cases h
  rw [g, List.take_length] at hx
  exact ⟨x, .up (by omega) (by omega) hx, rfl⟩
 ·obtain ⟨t, t1, t2⟩ := moreR_sound hx h
  rw [List.take_append_drop] at t1
  exact ⟨t, t1, t2⟩
end
section
open Go.RowKit K
set_option maxRecDepth 100000
theorem askW_ok : wOk askW = true := by decide +kernel
theorem mk5_ask : ∀ v ∈ mk5, v ∉ askW := by decide
theorem cmp_ask : ∀ op ∈ cmpL, sgn op ∈ askW ∧ sgn op ≠ sRp := by decide +kernel
theorem ask_len {l : List TokenD} {a : Ex} (h : RD 5 l a) : askN l = l.length := by
 unfold askN
 rw [if_pos (balR h), first_rd askW_ok h (.inl ⟨Nat.le_refl _, mk5_ask⟩)]
 rfl
theorem ask_at {l m : List TokenD} {a : Ex} (h : RD 5 l a) (hm : firstAt askW 0 m = some 0) (hb : dEnd 0 (l ++ m) = some 0) : askN (l ++ m) = l.length := by
 unfold askN
 rw [if_pos hb, first_app askW l m 0 0 (first_rd askW_ok h (.inl ⟨Nat.le_refl _, mk5_ask⟩)) (balR h), hm]
 show (some (0 + l.length)).getD _ = _
 rw [Nat.zero_add]; rfl
theorem refAsk_at {l m : List TokenD} {a : Ex} {ns : List NodeD} (h : RD 5 l a) (hm : firstAt askW 0 m = some 0) (hb : dEnd 0 (l ++ m) = some 0) (hr : moreR a.flat m = some ns) : refAsk (l ++ m) = some ns := by
 unfold refAsk
 have hp : 0 < m.length := by
  cases m with
  | nil => cases hm
  | cons _ _ => simp
 rw [ask_at h hm hb, List.take_left' rfl, (pK_iff (by omega) (by omega) _ _).2 ⟨a, h, rfl⟩]
 dsimp only
 rw [if_neg (by rw [List.length_append]; omega), List.drop_left' rfl, hr]
theorem bothF_of {l : List TokenD} {a : List NodeD} {b : Ex} (h : RD 5 l b) (op : Int) : bothF (some a) (pK 5 l) op = some (a ++ b.flat ++ [nOp op 2]) := by
 rw [(pK_iff (by omega) (by omega) _ _).2 ⟨b, h, rfl⟩]; rfl
theorem moreR_tail {k : Nat} {q : List TokenD} {o : TokenD} {s : List UInt8} {x : List TokenD} {a : List NodeD} {ns : List NodeD} (hq : NotQ k q) (ho : isM o s = true) (hs : s = wLike ∨ s = wIn ∨ s = wBetw) (h : tailR a k (o :: x) = some ns) : moreR a (q ++ o :: x) = some ns := by
 unfold moreR
 rcases hq with ⟨rfl, rfl⟩ | ⟨rfl, t, rfl, ht⟩
 ·have e : opAt cmpL (o :: x) = none := opAt_no fun p hp => isM_ne ho (by obtain ⟨_, _, a, b, c⟩ := cmp_word p hp; rcases hs with rfl | rfl | rfl <;> assumption)
  rw [List.nil_append, e]
  dsimp only
  rw [if_neg (show ¬ isH wIs (o :: x) = true by rw [show isH wIs (o :: x) = false from isM_ne ho (by rcases hs with rfl | rfl | rfl <;> decide)]; decide), if_neg (show ¬ isH wNot (o :: x) = true by rw [show isH wNot (o :: x) = false from isM_ne ho (by rcases hs with rfl | rfl | rfl <;> decide)]; decide)]
  exact h
 ·have e : opAt cmpL (t :: o :: x) = none := opAt_no fun p hp => isM_ne ht (cmp_word p hp).2.1
  rw [List.singleton_append, e]
  dsimp only
  rw [if_neg (show ¬ isH wIs (t :: o :: x) = true by rw [show isH wIs (t :: o :: x) = false from isM_ne ht (by decide)]; decide), if_pos (show isH wNot (t :: o :: x) = true from ht)]
  exact h
theorem notq_hit {k : Nat} {q : List TokenD} {o : TokenD} {s : List UInt8} {x : List TokenD} (hq : NotQ k q) (ho : isM o s = true) (hs : s = wLike ∨ s = wIn ∨ s = wBetw) : firstAt askW 0 (q ++ o :: x) = some 0 := by
 rcases hq with ⟨rfl, rfl⟩ | ⟨rfl, t, rfl, ht⟩
 ·exact first_hit ho (by rcases hs with rfl | rfl | rfl <;> decide) (by rcases hs with rfl | rfl | rfl <;> decide) x
 ·exact first_hit ht (by decide) (by decide) _
theorem bal_right {l m : List TokenD} (h : dEnd 0 (l ++ m) = some 0) (hl : dEnd 0 l = some 0) : dEnd 0 m = some 0 := by
 rwa [dEnd_append _ _ 0 0 hl] at h
theorem bal_q {k : Nat} {q m : List TokenD} (hq : NotQ k q) (h : dEnd 0 (q ++ m) = some 0) : dEnd 0 m = some 0 := by
 rcases hq with ⟨rfl, rfl⟩ | ⟨rfl, t, rfl, ht⟩
 ·exact h
 ·rw [List.singleton_append, dEnd_mark ht (by decide) (by decide)] at h; exact h
theorem refAsk_complete {j : Nat} {l : List TokenD} {t : Ex} (h : RD j l t) : j = 4 → refAsk l = some t.flat := by
 have hbal := balR h
 cases h with
 | lit h1 h2 => exact fun q => absurd q (by decide)
 | par h1 h2 h => exact fun q => absurd q (by decide)
 | up h1 h8 hh =>
  intro q
  subst q
  unfold refAsk
  rw [ask_len hh, List.take_length, (pK_iff (by omega) (by omega) _ _).2 ⟨t, hh, rfl⟩]
  dsimp only
  rw [if_pos rfl]
 | neg h1 hh => exact fun q => absurd q (by decide)
 | not h1 hh => exact fun q => absurd q (by decide)
 | bin hk ho h1 ha hb => exact fun q => absurd hk (no_lv (by omega) _)
 | @cmp op o l m a b ho h1 ha hb =>
  intro _
  refine refAsk_at ha (first_hit h1 (cmp_ask op ho).2 (cmp_ask op ho).1 m) hbal ?_
  unfold moreR
  rw [opAt_of ho (cmp_inj op ho) h1]
  dsimp only
  rw [List.drop_succ_cons, List.drop_zero, bothF_of hb, flat_mk, flats_two]
 | @isn i u l a h1 h2 ha =>
  intro _
  refine refAsk_at ha (first_hit h1 (by decide) (by decide) _) hbal ?_
  unfold moreR
  rw [show opAt cmpL [i, u] = none from opAt_no fun p hp => isM_ne h1 (cmp_word p hp).1]
  dsimp only
  rw [if_pos (show isH wIs [i, u] = true from h1)]
  unfold isR
  rw [if_pos ⟨rfl, h2⟩, flat_mk, Ex.flats_one]
 | @isnn i n u l a h1 h2 h3 ha =>
  intro _
  refine refAsk_at ha (first_hit h1 (by decide) (by decide) _) hbal ?_
  unfold moreR
  rw [show opAt cmpL [i, n, u] = none from opAt_no fun p hp => isM_ne h1 (cmp_word p hp).1]
  dsimp only
  rw [if_pos (show isH wIs [i, n, u] = true from h1)]
  unfold isR
  rw [if_neg (fun x => absurd x.1 (by simp)), if_pos ⟨rfl, h2, h3⟩, flat_mk, Ex.flats_one]
 | @like k q o l m a b hq h1 ha hb =>
  intro _
  refine refAsk_at ha (notq_hit hq h1 (.inl rfl)) hbal (moreR_tail hq h1 (.inl rfl) ?_)
  unfold tailR
  rw [if_pos (show isH wLike (o :: m) = true from h1), List.drop_succ_cons, List.drop_zero, bothF_of hb, flat_mk, flats_two]
 | @betw k q o d l m p a b c hq h1 h2 ha hb hc =>
  intro _
  have hbr := bal_q hq (bal_right hbal (balR ha))
  refine refAsk_at ha (notq_hit hq h1 (.inr (.inr rfl))) hbal (moreR_tail hq h1 (.inr (.inr rfl)) ?_)
  unfold tailR
  rw [if_neg (show ¬ isH wLike (o :: (m ++ d :: p)) = true by rw [show isH wLike (o :: (m ++ d :: p)) = false from isM_ne h1 (by decide)]; decide), if_pos (show isH wBetw (o :: (m ++ d :: p)) = true from h1)]
  have hat : andAt (o :: (m ++ d :: p)) = some (m.length + 1) := by
   unfold andAt
   rw [if_pos hbr, first_mark h1 (by decide) (by decide) (by decide), first_app [wAnd] m (d :: p) 0 0 (first_rd (by decide +kernel) hb (.inl ⟨Nat.le_refl _, by decide⟩)) (balR hb), first_hit h2 (by decide) List.mem_cons_self]
   show some (0 + m.length + 1) = _
   rw [Nat.zero_add]
  unfold betwR
  rw [hat]
  dsimp only
  have e1 : ((o :: (m ++ d :: p)).take (m.length + 1)).drop 1 = m := by
   rw [List.take_succ_cons, List.drop_succ_cons, List.drop_zero, List.take_left' rfl]
  have e2 : (o :: (m ++ d :: p)).drop (m.length + 1 + 1) = p := by
   rw [List.drop_succ_cons, show m ++ d :: p = (m ++ [d]) ++ p by simp]
   exact List.drop_left' (by rw [List.length_append]; rfl)
  rw [e1, e2, (pK_iff (by omega) (by omega) _ _).2 ⟨b, hb, rfl⟩]
  dsimp only
  rw [(pK_iff (by omega) (by omega) _ _).2 ⟨c, hc, rfl⟩]
  dsimp only
  rw [flat_mk, Ex.flats, flats_two]
  simp only [List.append_assoc]
 | @isin k q o c l a p0 ps hq h1 h2 h3 h4 ha hp =>
  intro _
  have hbp : dEnd 0 (p0.2.1 ++ pcsT ps) = some 0 := by
   rw [dEnd_append _ _ 0 0 (balR (hp p0 List.mem_cons_self))]
   exact pcs_bal ps h3 fun x hx => balR (hp x (List.mem_cons_of_mem _ hx))
  have e : pcsT (p0 :: ps) ++ [c] = p0.1 :: ((p0.2.1 ++ pcsT ps) ++ [c]) := by
   show (p0.1 :: p0.2.1 ++ pcsT ps) ++ [c] = _
   simp
  rw [e] at hbal ⊢
  refine refAsk_at ha (notq_hit hq h1 (.inr (.inl rfl))) hbal (moreR_tail hq h1 (.inr (.inl rfl)) ?_)
  obtain ⟨x, hx⟩ : ∃ x, x = p0.2.1 ++ pcsT ps := ⟨_, rfl⟩
  rw [← hx]
  unfold tailR
  rw [if_neg (show ¬ isH wLike (o :: p0.1 :: (x ++ [c])) = true by rw [show isH wLike (o :: p0.1 :: (x ++ [c])) = false from isM_ne h1 (by decide)]; decide), if_neg (show ¬ isH wBetw (o :: p0.1 :: (x ++ [c])) = true by rw [show isH wBetw (o :: p0.1 :: (x ++ [c])) = false from isM_ne h1 (by decide)]; decide)]
  have hlen : (o :: p0.1 :: (x ++ [c])).length = x.length + 3 := by simp
  have hdr : (o :: p0.1 :: (x ++ [c])).drop (x.length + 3 - 1) = [c] := by
   show (p0.1 :: (x ++ [c])).drop (x.length + 1) = [c]
   rw [List.drop_succ_cons, List.drop_left' rfl]
  have hin : ((o :: p0.1 :: (x ++ [c])).drop 2).take (x.length + 3 - 3) = x := by
   show (x ++ [c]).take (x.length + 3 - 3) = x
   rw [show x.length + 3 - 3 = x.length by omega, List.take_left' rfl]
  rw [if_pos ⟨h1, by rw [hlen]; omega, h2, by rw [hlen, hdr]; exact h4⟩, hlen, hin]
  unfold listRF
  have hco : wOk [sCo] = true := by decide +kernel
  have hsp : splitC 0 x = (p0 :: ps).map fun p => p.2.1 := by
   rw [hx]
   exact split_pcs ps p0.2.1 h3 (first_rd hco (hp p0 List.mem_cons_self) (.inr rfl)) (balR (hp p0 List.mem_cons_self)) fun y hy => ⟨first_rd hco (hp y (List.mem_cons_of_mem _ hy)) (.inr rfl), balR (hp y (List.mem_cons_of_mem _ hy))⟩
  rw [if_pos (by rw [hx]; exact hbp), hsp, listG_of (p0 :: ps) hp]
  dsimp only
  rw [flat_mk, Ex.flats, List.length_cons, show ((ps.length + 1 : Nat) : Int) + 1 = (ps.length : Int) + 2 by omega]
theorem ref_ask (l : List TokenD) : pK 4 l = refAsk l :=
 pK_eq (by omega) (by omega) l _ (fun t ht => refAsk_complete ht rfl) (fun ns h => refAsk_sound h)
end
section
open Go.RowKit K
set_option maxRecDepth 100000
theorem Idx.lit {l : List (List C)} {n : Int} {r : List C} {K : List C → Prop} (h0 : decide (0 ≤ n) = true) (h : l[n.toNat]? = some r) (hk : K r) : Idx l n K := ⟨r, of_decide_eq_true h0, h, hk⟩
theorem p_span (op : Int) : Pure Tryz.prog 42 [pInt .i64 op] (.tup [pInt .i64 (leastK op), pInt .i64 (mostK op), pBool (decide (1 ≤ op ∧ op ≤ 25))]) := by
 refine pure_of Tryz.func42 (by rfl) rfl (by kernel_rfl) (by rfl) ?_
 by_cases h : 1 ≤ op ∧ op ≤ 25
 ·have hc : op = 1 ∨ op = 2 ∨ op = 3 ∨ op = 4 ∨ op = 5 ∨ op = 6 ∨ op = 7 ∨ op = 8 ∨ op = 9 ∨ op = 10 ∨ op = 11 ∨ op = 12 ∨ op = 13 ∨ op = 14 ∨ op = 15 ∨ op = 16 ∨ op = 17 ∨ op = 18 ∨ op = 19 ∨ op = 20 ∨ op = 21 ∨ op = 22 ∨ op = 23 ∨ op = 24 ∨ op = 25 := by omega
  clear h
  rcases hc with rfl | rfl | rfl | rfl | rfl | rfl | rfl | rfl | rfl | rfl | rfl | rfl | rfl | rfl | rfl | rfl | rfl | rfl | rfl | rfl | rfl | rfl | rfl | rfl | rfl
  all_goals
   ((conv => whnf);repeat' ((first|(with_reducible first|apply a_|apply b_|apply c_)|((with_reducible first|apply d_|apply e_|apply f_|apply g_);focus first|omega|(simp only [q_]<;>omega))|((with_reducible first|apply i_|apply h_);focus first|omega|(simp only [q_]<;>omega))|((with_reducible apply h_);focus first|decide|kernel_rfl)|refine s_ (by decide) ?_|refine t_ (by decide) ?_|with_reducible first|apply l_|apply m_|apply n_|apply o_|refine p_ (fun _ => ?_) (fun _ => ?_))<;>(conv => whnf)))
   exact Ret.eq rfl
 ·have e1 : leastK op = 2 := by unfold leastK; rw [if_neg (by omega), if_neg (by omega), if_neg (by omega)]
  have e2 : mostK op = 2 := by unfold mostK; rw [if_neg (by omega), e1]
  rw [e1, e2, decide_eq_false h]
  have h17 : 5 ≤ op → decide (op ≤ 17) = false := fun g => decide_eq_false (by omega)
  ((conv => whnf);repeat' ((first|(with_reducible first|apply a_|apply b_|apply c_)|((with_reducible first|apply d_|apply e_|apply f_|apply g_);focus first|omega|(simp only [q_]<;>omega))|((with_reducible first|apply i_|apply h_);focus first|omega|(simp only [q_]<;>omega))|((with_reducible apply h_);focus first|decide|kernel_rfl)|refine s_ (by decide) ?_|refine t_ (by decide) ?_|with_reducible first|apply l_|apply m_|apply n_|apply o_|refine p_ (fun _ => ?_) (fun _ => ?_))<;>(conv => whnf)))
  all_goals first
   | exact Ret.eq rfl
   | (rename_i g; exact Ret.eq (by rw [h17 g]))
theorem p_kidsof (op : Int) : Pure Tryz.prog 75 [pInt .i64 op] (.tup [pInt .i64 (if 1 ≤ op ∧ op ≤ 25 then leastK op else -1), pInt .i64 (if 1 ≤ op ∧ op ≤ 25 then mostK op else -1)]) := by
 refine pure_of Tryz.func75 (by rfl) rfl (by kernel_rfl) (by rfl) ?_
 by_cases h : 1 ≤ op ∧ op ≤ 25
 ·have hc : op = 1 ∨ op = 2 ∨ op = 3 ∨ op = 4 ∨ op = 5 ∨ op = 6 ∨ op = 7 ∨ op = 8 ∨ op = 9 ∨ op = 10 ∨ op = 11 ∨ op = 12 ∨ op = 13 ∨ op = 14 ∨ op = 15 ∨ op = 16 ∨ op = 17 ∨ op = 18 ∨ op = 19 ∨ op = 20 ∨ op = 21 ∨ op = 22 ∨ op = 23 ∨ op = 24 ∨ op = 25 := by omega
  clear h
  rcases hc with rfl | rfl | rfl | rfl | rfl | rfl | rfl | rfl | rfl | rfl | rfl | rfl | rfl | rfl | rfl | rfl | rfl | rfl | rfl | rfl | rfl | rfl | rfl | rfl | rfl
  all_goals
   ((conv => whnf);repeat' ((first|(with_reducible first|apply a_|apply b_|apply c_)|((with_reducible first|apply d_|apply e_|apply f_|apply g_);focus first|omega|(simp only [q_]<;>omega))|((with_reducible first|apply i_|apply h_);focus first|omega|(simp only [q_]<;>omega))|((with_reducible apply h_);focus first|decide|kernel_rfl)|refine s_ (by decide) ?_|refine t_ (by decide) ?_|(refine Idx.lit rfl rfl ?_)|with_reducible first|apply l_|apply m_|apply n_|apply o_|refine p_ (fun _ => ?_) (fun _ => ?_))<;>(conv => whnf)))
   exact Ret.eq rfl
 ·rw [if_neg h, if_neg h]
  ((conv => whnf);repeat' ((first|(with_reducible first|apply a_|apply b_|apply c_)|((with_reducible first|apply d_|apply e_|apply f_|apply g_);focus first|omega|(simp only [q_]<;>omega))|((with_reducible first|apply i_|apply h_);focus first|omega|(simp only [q_]<;>omega))|((with_reducible apply h_);focus first|decide|kernel_rfl)|refine s_ (by decide) ?_|refine t_ (by decide) ?_|with_reducible first|apply l_|apply m_|apply n_|apply o_|refine p_ (fun _ => ?_) (fun _ => ?_))<;>(conv => whnf)))
  all_goals exact Ret.eq rfl
theorem alF_cases (n : NodeD) :
  (¬ (1 ≤ n.Op ∧ n.Op ≤ 25) ∧ alF n = 7)
  ∨ ((1 ≤ n.Op ∧ n.Op ≤ 25) ∧ (n.Kids < leastK n.Op ∨ mostK n.Op < n.Kids) ∧ alF n = 1)
  ∨ ((1 ≤ n.Op ∧ n.Op ≤ 25) ∧ leastK n.Op ≤ n.Kids ∧ n.Kids ≤ mostK n.Op ∧
   ((n.Op = 1 ∧ n.Name ≠ [] ∧ alF n = 1) ∨ (n.Op = 1 ∧ n.Name = [] ∧ vChk n.V ≠ 0 ∧ alF n = vChk n.V) ∨ (n.Op = 1 ∧ n.Name = [] ∧ vChk n.V = 0 ∧ n.V.N < 0 ∧ alF n = 3) ∨ (n.Op = 1 ∧ n.Name = [] ∧ vChk n.V = 0 ∧ ¬ n.V.N < 0 ∧ alF n = 0)
    ∨ (n.Op ≠ 1 ∧ ValueD.eqB n.V noV = false ∧ alF n = 1)
    ∨ (n.Op = 2 ∧ ValueD.eqB n.V noV = true ∧ nameB n.Name = false ∧ alF n = 1) ∨ (n.Op = 2 ∧ ValueD.eqB n.V noV = true ∧ nameB n.Name = true ∧ alF n = 0)
    ∨ (n.Op ≠ 1 ∧ n.Op ≠ 2 ∧ ValueD.eqB n.V noV = true ∧ n.Name ≠ [] ∧ alF n = 1) ∨ (n.Op ≠ 1 ∧ n.Op ≠ 2 ∧ ValueD.eqB n.V noV = true ∧ n.Name = [] ∧ alF n = 0))) := by
 unfold alF
 by_cases h : 1 ≤ n.Op ∧ n.Op ≤ 25
 ·rw [if_neg (by omega)]
  by_cases hk : n.Kids < leastK n.Op ∨ mostK n.Op < n.Kids
  ·exact .inr (.inl ⟨h, hk, by rw [if_pos (by rcases hk with q | q; exact .inl q; exact .inr (.inl q))]⟩)
  ·refine .inr (.inr ⟨h, by omega, by omega, ?_⟩)
   have k1 : ¬ n.Kids < leastK n.Op := fun q => hk (.inl q)
   have k2 : ¬ mostK n.Op < n.Kids := fun q => hk (.inr q)
   by_cases h1 : n.Op = 1
   ·by_cases hN : n.Name = []
    ·by_cases hv : vChk n.V = 0
     ·by_cases hn : n.V.N < 0
      ·refine .inr (.inr (.inl ⟨h1, hN, hv, hn, ?_⟩)); simp [k1, k2, h1, hN, hv, hn]
       rw [h1] at k1 k2; omega
      ·refine .inr (.inr (.inr (.inl ⟨h1, hN, hv, hn, ?_⟩))); simp [k1, k2, h1, hN, hv, hn]
       rw [h1] at k1 k2; omega
     ·refine .inr (.inl ⟨h1, hN, hv, ?_⟩); simp [k1, k2, h1, hN, hv]
      rw [h1] at k1 k2; intro q; exfalso; omega
    ·refine .inl ⟨h1, hN, ?_⟩; simp [h1, hN]
   ·cases hV : ValueD.eqB n.V noV with
    | false => refine .inr (.inr (.inr (.inr (.inl ⟨h1, rfl, ?_⟩)))); simp [h1]
    | true =>
     by_cases h2 : n.Op = 2
     ·cases hB : nameB n.Name with
      | false => refine .inr (.inr (.inr (.inr (.inr (.inl ⟨h2, rfl, rfl, ?_⟩))))); simp [h2]
      | true =>
       refine .inr (.inr (.inr (.inr (.inr (.inr (.inl ⟨h2, rfl, rfl, ?_⟩)))))); simp [h2]
       rw [h2] at k1 k2; omega
     ·by_cases hN : n.Name = []
      ·refine .inr (.inr (.inr (.inr (.inr (.inr (.inr (.inr ⟨h1, h2, rfl, hN, ?_⟩))))))); simp [h1, h2, hN, k1, k2]
      ·refine .inr (.inr (.inr (.inr (.inr (.inr (.inr (.inl ⟨h1, h2, rfl, hN, ?_⟩))))))); simp [h1, h2, hN]
 ·exact .inl ⟨h, by rw [if_pos (by omega)]⟩
theorem p_alone (n : NodeD) (hn : okText n.Name) : Pure Tryz.prog 29 [nV n] (pInt .i64 (alF n)) := by
 have pn := p_isname n.Name hn
 have pv := p_vcheck n.V
 have kk := leastK_pos n.Op
 have tn : n.Name = [] → tx n.Name = ⟨#[]⟩ := fun e => by rw [e]; rfl
 have tn2 : n.Name ≠ [] → ¬ tx n.Name = ⟨#[]⟩ := fun e q => e (tx_mk.1 q)
 refine pure_of Tryz.func29 (by rfl) rfl (by kernel_rfl) (by rfl) ?_
 rcases alF_cases n with ⟨h, e⟩ | ⟨h, hk, e⟩ | ⟨h, k1, k2, ⟨h1, hN, e⟩ | ⟨h1, hN, hv, e⟩ | ⟨h1, hN, hv, hn, e⟩ | ⟨h1, hN, hv, hn, e⟩ | ⟨h1, hV, e⟩ | ⟨h2, hV, hB, e⟩ | ⟨h2, hV, hB, e⟩ | ⟨h1, h2, hV, hN, e⟩ | ⟨h1, h2, hV, hN, e⟩⟩ <;> rw [e]
 ·((conv => whnf);repeat' ((first|(with_reducible first|apply a_|apply b_|apply c_)|((with_reducible first|apply d_|apply e_|apply f_|apply g_);focus first|omega|(simp only [q_]<;>omega))|((with_reducible first|apply i_|apply h_);focus first|omega|(simp only [q_]<;>omega))|((with_reducible apply h_);focus first|decide|kernel_rfl)|refine s_ (by decide) ?_|refine t_ (by decide) ?_|refine r_ (p_span n.Op) rfl ?_|refine r_ pv rfl ?_|refine r_ pn rfl ?_|with_reducible first|apply l_|apply m_|apply n_|apply o_|refine p_ (fun _ => ?_) (fun _ => ?_))<;>(conv => whnf)))
  all_goals exact Ret.int rfl
 ·((conv => whnf);repeat' ((first|(with_reducible first|apply a_|apply b_|apply c_)|((with_reducible first|apply d_|apply e_|apply f_|apply g_);focus first|omega|(simp only [q_]<;>omega))|((with_reducible first|apply i_|apply h_);focus first|omega|(simp only [q_]<;>omega))|((with_reducible apply h_);focus first|decide|kernel_rfl)|refine s_ (by decide) ?_|refine t_ (by decide) ?_|refine r_ (p_span n.Op) rfl ?_|refine r_ pv rfl ?_|refine r_ pn rfl ?_|with_reducible first|apply l_|apply m_|apply n_|apply o_|refine p_ (fun _ => ?_) (fun _ => ?_))<;>(conv => whnf)))
  all_goals first | exact Ret.int rfl | (exfalso; omega)
 ·((conv => whnf);repeat' ((first|(with_reducible first|apply a_|apply b_|apply c_)|((with_reducible first|apply d_|apply e_|apply f_|apply g_);focus first|omega|(simp only [q_]<;>omega))|((with_reducible first|apply i_|apply h_);focus first|omega|(simp only [q_]<;>omega))|((with_reducible apply h_);focus first|decide|kernel_rfl)|refine s_ (by decide) ?_|refine t_ (by decide) ?_|refine r_ (p_span n.Op) rfl ?_|refine r_ pv rfl ?_|refine r_ pn rfl ?_|(refine BCase.dt (tn2 hN) ?_)|with_reducible first|apply l_|apply m_|apply n_|apply o_|refine p_ (fun _ => ?_) (fun _ => ?_))<;>(conv => whnf)))
  all_goals exact Ret.int rfl
 ·((conv => whnf);repeat' ((first|(with_reducible first|apply a_|apply b_|apply c_)|((with_reducible first|apply d_|apply e_|apply f_|apply g_);focus first|omega|(simp only [q_]<;>omega))|((with_reducible first|apply i_|apply h_);focus first|omega|(simp only [q_]<;>omega))|((with_reducible apply h_);focus first|decide|kernel_rfl)|refine s_ (by decide) ?_|refine t_ (by decide) ?_|refine r_ (p_span n.Op) rfl ?_|refine r_ pv rfl ?_|refine r_ pn rfl ?_|(refine BCase.df (not_not_intro (tn hN)) ?_)|(refine BCase.dt hv ?_)|with_reducible first|apply l_|apply m_|apply n_|apply o_|refine p_ (fun _ => ?_) (fun _ => ?_))<;>(conv => whnf)))
  all_goals exact Ret.int rfl
 ·rw [hv] at pv
  ((conv => whnf);repeat' ((first|(with_reducible first|apply a_|apply b_|apply c_)|((with_reducible first|apply d_|apply e_|apply f_|apply g_);focus first|omega|(simp only [q_]<;>omega))|((with_reducible first|apply i_|apply h_);focus first|omega|(simp only [q_]<;>omega))|((with_reducible apply h_);focus first|decide|kernel_rfl)|refine s_ (by decide) ?_|refine t_ (by decide) ?_|refine r_ (p_span n.Op) rfl ?_|refine r_ pv rfl ?_|refine r_ pn rfl ?_|(refine BCase.df (not_not_intro (tn hN)) ?_)|with_reducible first|apply l_|apply m_|apply n_|apply o_|refine p_ (fun _ => ?_) (fun _ => ?_))<;>(conv => whnf)))
  all_goals exact Ret.int rfl
 ·rw [hv] at pv
  ((conv => whnf);repeat' ((first|(with_reducible first|apply a_|apply b_|apply c_)|((with_reducible first|apply d_|apply e_|apply f_|apply g_);focus first|omega|(simp only [q_]<;>omega))|((with_reducible first|apply i_|apply h_);focus first|omega|(simp only [q_]<;>omega))|((with_reducible apply h_);focus first|decide|kernel_rfl)|refine s_ (by decide) ?_|refine t_ (by decide) ?_|refine r_ (p_span n.Op) rfl ?_|refine r_ pv rfl ?_|refine r_ pn rfl ?_|(refine BCase.df (not_not_intro (tn hN)) ?_)|with_reducible first|apply l_|apply m_|apply n_|apply o_|refine p_ (fun _ => ?_) (fun _ => ?_))<;>(conv => whnf)))
  all_goals exact Ret.int rfl
 ·((conv => whnf);repeat' ((first|(with_reducible first|apply a_|apply b_|apply c_)|((with_reducible first|apply d_|apply e_|apply f_|apply g_);focus first|omega|(simp only [q_]<;>omega))|((with_reducible first|apply i_|apply h_);focus first|omega|(simp only [q_]<;>omega))|((with_reducible apply h_);focus first|decide|kernel_rfl)|refine s_ (by decide) ?_|refine t_ (by decide) ?_|refine r_ (p_span n.Op) rfl ?_|refine r_ pv rfl ?_|refine r_ pn rfl ?_|(refine BCase.t (congrArg not hV) ?_)|with_reducible first|apply l_|apply m_|apply n_|apply o_|refine p_ (fun _ => ?_) (fun _ => ?_))<;>(conv => whnf)))
  all_goals exact Ret.int rfl
 ·rw [hB] at pn
  ((conv => whnf);repeat' ((first|(with_reducible first|apply a_|apply b_|apply c_)|((with_reducible first|apply d_|apply e_|apply f_|apply g_);focus first|omega|(simp only [q_]<;>omega))|((with_reducible first|apply i_|apply h_);focus first|omega|(simp only [q_]<;>omega))|((with_reducible apply h_);focus first|decide|kernel_rfl)|refine s_ (by decide) ?_|refine t_ (by decide) ?_|refine r_ (p_span n.Op) rfl ?_|refine r_ pv rfl ?_|refine r_ pn rfl ?_|(refine BCase.f (congrArg not hV) ?_)|with_reducible first|apply l_|apply m_|apply n_|apply o_|refine p_ (fun _ => ?_) (fun _ => ?_))<;>(conv => whnf)))
  all_goals exact Ret.int rfl
 ·rw [hB] at pn
  ((conv => whnf);repeat' ((first|(with_reducible first|apply a_|apply b_|apply c_)|((with_reducible first|apply d_|apply e_|apply f_|apply g_);focus first|omega|(simp only [q_]<;>omega))|((with_reducible first|apply i_|apply h_);focus first|omega|(simp only [q_]<;>omega))|((with_reducible apply h_);focus first|decide|kernel_rfl)|refine s_ (by decide) ?_|refine t_ (by decide) ?_|refine r_ (p_span n.Op) rfl ?_|refine r_ pv rfl ?_|refine r_ pn rfl ?_|(refine BCase.f (congrArg not hV) ?_)|with_reducible first|apply l_|apply m_|apply n_|apply o_|refine p_ (fun _ => ?_) (fun _ => ?_))<;>(conv => whnf)))
  all_goals exact Ret.int rfl
 ·((conv => whnf);repeat' ((first|(with_reducible first|apply a_|apply b_|apply c_)|((with_reducible first|apply d_|apply e_|apply f_|apply g_);focus first|omega|(simp only [q_]<;>omega))|((with_reducible first|apply i_|apply h_);focus first|omega|(simp only [q_]<;>omega))|((with_reducible apply h_);focus first|decide|kernel_rfl)|refine s_ (by decide) ?_|refine t_ (by decide) ?_|refine r_ (p_span n.Op) rfl ?_|refine r_ pv rfl ?_|refine r_ pn rfl ?_|(refine BCase.f (congrArg not hV) ?_)|(refine BCase.dt (tn2 hN) ?_)|with_reducible first|apply l_|apply m_|apply n_|apply o_|refine p_ (fun _ => ?_) (fun _ => ?_))<;>(conv => whnf)))
  all_goals exact Ret.int rfl
 ·((conv => whnf);repeat' ((first|(with_reducible first|apply a_|apply b_|apply c_)|((with_reducible first|apply d_|apply e_|apply f_|apply g_);focus first|omega|(simp only [q_]<;>omega))|((with_reducible first|apply i_|apply h_);focus first|omega|(simp only [q_]<;>omega))|((with_reducible apply h_);focus first|decide|kernel_rfl)|refine s_ (by decide) ?_|refine t_ (by decide) ?_|refine r_ (p_span n.Op) rfl ?_|refine r_ pv rfl ?_|refine r_ pn rfl ?_|(refine BCase.f (congrArg not hV) ?_)|(refine BCase.df (not_not_intro (tn hN)) ?_)|with_reducible first|apply l_|apply m_|apply n_|apply o_|refine p_ (fun _ => ?_) (fun _ => ?_))<;>(conv => whnf)))
  all_goals exact Ret.int rfl
theorem p_nodecheck (n : NodeD) (hn : okText n.Name) : Pure Tryz.prog 51 [nV n] (pInt .i64 (alF n)) := by
 have pn := p_namecheck n.Name hn
 have pv := p_vcheckref n.V
 have kk := leastK_pos n.Op
 have tn : n.Name = [] → tx n.Name = ⟨#[]⟩ := fun e => by rw [e]; rfl
 have tn2 : n.Name ≠ [] → ¬ tx n.Name = ⟨#[]⟩ := fun e q => e (tx_mk.1 q)
 refine pure_of Tryz.func51 (by rfl) rfl (by kernel_rfl) (by rfl) ?_
 rcases alF_cases n with ⟨h, e⟩ | ⟨h, hk, e⟩ | ⟨h, k1, k2, ⟨h1, hN, e⟩ | ⟨h1, hN, hv, e⟩ | ⟨h1, hN, hv, hn, e⟩ | ⟨h1, hN, hv, hn, e⟩ | ⟨h1, hV, e⟩ | ⟨h2, hV, hB, e⟩ | ⟨h2, hV, hB, e⟩ | ⟨h1, h2, hV, hN, e⟩ | ⟨h1, h2, hV, hN, e⟩⟩ <;> rw [e]
 ·((conv => whnf);repeat' ((first|(with_reducible first|apply a_|apply b_|apply c_)|((with_reducible first|apply d_|apply e_|apply f_|apply g_);focus first|omega|(simp only [q_]<;>omega))|((with_reducible first|apply i_|apply h_);focus first|omega|(simp only [q_]<;>omega))|((with_reducible apply h_);focus first|decide|kernel_rfl)|refine s_ (by decide) ?_|refine t_ (by decide) ?_|refine r_ (p_kidsof n.Op) rfl ?_|refine r_ pv rfl ?_|refine r_ pn rfl ?_|with_reducible first|apply l_|apply m_|apply n_|apply o_|refine p_ (fun _ => ?_) (fun _ => ?_))<;>(conv => whnf)))
  all_goals exact Ret.int rfl
 ·((conv => whnf);repeat' ((first|(with_reducible first|apply a_|apply b_|apply c_)|((with_reducible first|apply d_|apply e_|apply f_|apply g_);focus first|omega|(simp only [q_]<;>omega))|((with_reducible first|apply i_|apply h_);focus first|omega|(simp only [q_]<;>omega))|((with_reducible apply h_);focus first|decide|kernel_rfl)|refine s_ (by decide) ?_|refine t_ (by decide) ?_|refine r_ (p_kidsof n.Op) rfl ?_|refine r_ pv rfl ?_|refine r_ pn rfl ?_|with_reducible first|apply l_|apply m_|apply n_|apply o_|refine p_ (fun _ => ?_) (fun _ => ?_))<;>(conv => whnf)))
  all_goals first | exact Ret.int rfl | (exfalso; omega)
 ·((conv => whnf);repeat' ((first|(with_reducible first|apply a_|apply b_|apply c_)|((with_reducible first|apply d_|apply e_|apply f_|apply g_);focus first|omega|(simp only [q_]<;>omega))|((with_reducible first|apply i_|apply h_);focus first|omega|(simp only [q_]<;>omega))|((with_reducible apply h_);focus first|decide|kernel_rfl)|refine s_ (by decide) ?_|refine t_ (by decide) ?_|refine r_ (p_kidsof n.Op) rfl ?_|refine r_ pv rfl ?_|refine r_ pn rfl ?_|(refine BCase.dt (tn2 hN) ?_)|with_reducible first|apply l_|apply m_|apply n_|apply o_|refine p_ (fun _ => ?_) (fun _ => ?_))<;>(conv => whnf)))
  all_goals exact Ret.int rfl
 ·((conv => whnf);repeat' ((first|(with_reducible first|apply a_|apply b_|apply c_)|((with_reducible first|apply d_|apply e_|apply f_|apply g_);focus first|omega|(simp only [q_]<;>omega))|((with_reducible first|apply i_|apply h_);focus first|omega|(simp only [q_]<;>omega))|((with_reducible apply h_);focus first|decide|kernel_rfl)|refine s_ (by decide) ?_|refine t_ (by decide) ?_|refine r_ (p_kidsof n.Op) rfl ?_|refine r_ pv rfl ?_|refine r_ pn rfl ?_|(refine BCase.df (not_not_intro (tn hN)) ?_)|(refine BCase.dt hv ?_)|with_reducible first|apply l_|apply m_|apply n_|apply o_|refine p_ (fun _ => ?_) (fun _ => ?_))<;>(conv => whnf)))
  all_goals exact Ret.int rfl
 ·rw [hv] at pv
  ((conv => whnf);repeat' ((first|(with_reducible first|apply a_|apply b_|apply c_)|((with_reducible first|apply d_|apply e_|apply f_|apply g_);focus first|omega|(simp only [q_]<;>omega))|((with_reducible first|apply i_|apply h_);focus first|omega|(simp only [q_]<;>omega))|((with_reducible apply h_);focus first|decide|kernel_rfl)|refine s_ (by decide) ?_|refine t_ (by decide) ?_|refine r_ (p_kidsof n.Op) rfl ?_|refine r_ pv rfl ?_|refine r_ pn rfl ?_|(refine BCase.df (not_not_intro (tn hN)) ?_)|with_reducible first|apply l_|apply m_|apply n_|apply o_|refine p_ (fun _ => ?_) (fun _ => ?_))<;>(conv => whnf)))
  all_goals exact Ret.int rfl
 ·rw [hv] at pv
  ((conv => whnf);repeat' ((first|(with_reducible first|apply a_|apply b_|apply c_)|((with_reducible first|apply d_|apply e_|apply f_|apply g_);focus first|omega|(simp only [q_]<;>omega))|((with_reducible first|apply i_|apply h_);focus first|omega|(simp only [q_]<;>omega))|((with_reducible apply h_);focus first|decide|kernel_rfl)|refine s_ (by decide) ?_|refine t_ (by decide) ?_|refine r_ (p_kidsof n.Op) rfl ?_|refine r_ pv rfl ?_|refine r_ pn rfl ?_|(refine BCase.df (not_not_intro (tn hN)) ?_)|with_reducible first|apply l_|apply m_|apply n_|apply o_|refine p_ (fun _ => ?_) (fun _ => ?_))<;>(conv => whnf)))
  all_goals exact Ret.int rfl
 ·((conv => whnf);repeat' ((first|(with_reducible first|apply a_|apply b_|apply c_)|((with_reducible first|apply d_|apply e_|apply f_|apply g_);focus first|omega|(simp only [q_]<;>omega))|((with_reducible first|apply i_|apply h_);focus first|omega|(simp only [q_]<;>omega))|((with_reducible apply h_);focus first|decide|kernel_rfl)|refine s_ (by decide) ?_|refine t_ (by decide) ?_|refine r_ (p_kidsof n.Op) rfl ?_|refine r_ pv rfl ?_|refine r_ pn rfl ?_|(refine BCase.t (congrArg not hV) ?_)|with_reducible first|apply l_|apply m_|apply n_|apply o_|refine p_ (fun _ => ?_) (fun _ => ?_))<;>(conv => whnf)))
  all_goals exact Ret.int rfl
 ·rw [hB] at pn
  ((conv => whnf);repeat' ((first|(with_reducible first|apply a_|apply b_|apply c_)|((with_reducible first|apply d_|apply e_|apply f_|apply g_);focus first|omega|(simp only [q_]<;>omega))|((with_reducible first|apply i_|apply h_);focus first|omega|(simp only [q_]<;>omega))|((with_reducible apply h_);focus first|decide|kernel_rfl)|refine s_ (by decide) ?_|refine t_ (by decide) ?_|refine r_ (p_kidsof n.Op) rfl ?_|refine r_ pv rfl ?_|refine r_ pn rfl ?_|(refine BCase.f (congrArg not hV) ?_)|with_reducible first|apply l_|apply m_|apply n_|apply o_|refine p_ (fun _ => ?_) (fun _ => ?_))<;>(conv => whnf)))
  all_goals exact Ret.int rfl
 ·rw [hB] at pn
  ((conv => whnf);repeat' ((first|(with_reducible first|apply a_|apply b_|apply c_)|((with_reducible first|apply d_|apply e_|apply f_|apply g_);focus first|omega|(simp only [q_]<;>omega))|((with_reducible first|apply i_|apply h_);focus first|omega|(simp only [q_]<;>omega))|((with_reducible apply h_);focus first|decide|kernel_rfl)|refine s_ (by decide) ?_|refine t_ (by decide) ?_|refine r_ (p_kidsof n.Op) rfl ?_|refine r_ pv rfl ?_|refine r_ pn rfl ?_|(refine BCase.f (congrArg not hV) ?_)|with_reducible first|apply l_|apply m_|apply n_|apply o_|refine p_ (fun _ => ?_) (fun _ => ?_))<;>(conv => whnf)))
  all_goals exact Ret.int rfl
 ·((conv => whnf);repeat' ((first|(with_reducible first|apply a_|apply b_|apply c_)|((with_reducible first|apply d_|apply e_|apply f_|apply g_);focus first|omega|(simp only [q_]<;>omega))|((with_reducible first|apply i_|apply h_);focus first|omega|(simp only [q_]<;>omega))|((with_reducible apply h_);focus first|decide|kernel_rfl)|refine s_ (by decide) ?_|refine t_ (by decide) ?_|refine r_ (p_kidsof n.Op) rfl ?_|refine r_ pv rfl ?_|refine r_ pn rfl ?_|(refine BCase.f (congrArg not hV) ?_)|(refine BCase.dt (tn2 hN) ?_)|with_reducible first|apply l_|apply m_|apply n_|apply o_|refine p_ (fun _ => ?_) (fun _ => ?_))<;>(conv => whnf)))
  all_goals exact Ret.int rfl
 ·((conv => whnf);repeat' ((first|(with_reducible first|apply a_|apply b_|apply c_)|((with_reducible first|apply d_|apply e_|apply f_|apply g_);focus first|omega|(simp only [q_]<;>omega))|((with_reducible first|apply i_|apply h_);focus first|omega|(simp only [q_]<;>omega))|((with_reducible apply h_);focus first|decide|kernel_rfl)|refine s_ (by decide) ?_|refine t_ (by decide) ?_|refine r_ (p_kidsof n.Op) rfl ?_|refine r_ pv rfl ?_|refine r_ pn rfl ?_|(refine BCase.f (congrArg not hV) ?_)|(refine BCase.df (not_not_intro (tn hN)) ?_)|with_reducible first|apply l_|apply m_|apply n_|apply o_|refine p_ (fun _ => ?_) (fun _ => ?_))<;>(conv => whnf)))
  all_goals exact Ret.int rfl
end
section
open Go.RowKit
theorem pure_sl0 {P : Program} {f : FuncId} {sz : Nat} {post : List PV} {r : PV} (h1 : Pure P f (.d (.c (.v (.slice none 0 0))) :: post) r) (h2 : ∀ a cap, Pure P f (.d (.c (.v (.slice (some a) 0 cap))) :: post) r) : Pure P f (.d (.c (.sl sz [])) :: post) r := by
 refine ⟨h1.1, fun F w vs hG hF hp => ?_⟩
 cases vs with
 | nil => unfold PsRep at hp; exact hp.elim
 | cons u us =>
  unfold PsRep at hp
  obtain ⟨q1, q2⟩ := hp
  unfold PRep DRep CRep at q1
  obtain ⟨a, cap, rfl, _, _, g3, _⟩ := q1
  have mk : ∀ x, Pure P f (.d (.c (.v x)) :: post) r → x.oneCell' = true → .slice a ([] : List (List C)).length cap = x → Calls P f (.slice a ([] : List (List C)).length cap :: us).toArray w fun e w' => ∃ v, e = .returned v ∧ Below w.heap.size w w' ∧ PRep (fun _ => none) (fun b o => F b o ∨ (w.heap.size ≤ b ∧ b < w'.heap.size)) w' r v := by
   rintro x hx h1 rfl
   refine hx.2 F w _ hG hF ?_
   unfold PsRep
   exact ⟨by unfold PRep DRep CRep; exact ⟨rfl, h1⟩, q2⟩
  cases a with
  | none => obtain rfl := g3 rfl; exact mk _ h1 rfl rfl
  | some a => exact mk _ (h2 a cap) rfl rfl
theorem Pure.empty1 {P : Program} {f : FuncId} {k e sz lo : Nat} {r : PV} {rd : Rf} (hp : Pure P f [.d (.c (.sl sz []))] r) : CallS P f [.d (.arr k e sz lo 0)] rd [] r [] := by
 refine ⟨hp.1, fun c vs hc hdf hfr hs hx => ?_⟩
 rw [List.append_nil] at hs hx ⊢
 have hx' : PsRep (fun _ => none) (fz c c.σ0 (hpL rd) c.w0) c.w0 [.d (.c (.sl sz []))] vs := by
  match vs, hx with
  | [u], hx =>
   unfold PsRep at hx ⊢
   refine ⟨?_, by unfold PsRep; trivial⟩
   have h1 := hx.1
   unfold PRep DRep at h1
   have mk : ∀ (a : Option Addr) (cap : Nat), (a = none → cap = 0) → cap ≤ maxLen → u = .slice a 0 cap → PRep (fun _ => none) (fz c c.σ0 (hpL rd) c.w0) c.w0 (.d (.c (.sl sz []))) u := by
    rintro a cap h2 h3 rfl
    unfold PRep DRep CRep
    exact ⟨a, cap, rfl, Nat.zero_le _, h3, h2, .inl rfl⟩
   obtain ⟨_, ⟨m, d1, _, b0, rfl⟩ | ⟨g, m, off, cap, cur, fr, d1, rfl, d3, d4, d5, d6, d7⟩⟩ := h1
   ·exact mk b0 0 (fun _ => rfl) (Nat.zero_le _) rfl
   ·exact mk _ cap (fun e => by cases e) d4 rfl
  | [], hx => unfold PsRep at hx; exact hx.elim
  | _ :: _ :: _, hx => unfold PsRep PsRep at hx; exact hx.2.elim
 refine (hp.2 (fz c c.σ0 (hpL rd) c.w0) c.w0 vs (sw_gl hc hs) (fun b o h => fz_lt hs h) hx').mono ?_
 rintro en w' ⟨v, rfl, hb, hr⟩
 have ev := evo_below hs hb
 refine ⟨v, c.σ0, rfl, sw_below hs hb, PRep.of_none ⟨fun b o' hf => ?_, fun _ _ _ => rfl⟩ _ _ hr⟩
 rcases hf with hf | ⟨f1, f2⟩
 ·exact ev.keeps.le _ _ hf
 ·refine .inr ⟨.inl (Nat.le_trans hs.size f1), f2, fun k n hb' hk' hσ => ?_⟩
  have := (hb_block (hs.hp k hb' hk') hσ).1
  omega
end
section
open Go.RowKit K
set_option maxRecDepth 100000
def dC (x : Nat) : List C := [.v (.int .i64 x)]
theorem maxL_snoc (l : List Nat) (x : Nat) : maxL (l ++ [x]) = max (maxL l) x := by
 induction l with
 | nil => simp [maxL]
 | cons y l ih => rw [List.cons_append, maxL, maxL, ih]; omega
theorem maxL_le : ∀ (l : List Nat) (b : Nat), (∀ x ∈ l, x ≤ b) → maxL l ≤ b
 | [], _, _ => Nat.zero_le _
 | x :: l, b, h => by
  rw [maxL]
  have := h x (List.mem_cons_self ..)
  have := maxL_le l b fun y hy => h y (List.mem_cons_of_mem _ hy)
  omega
theorem p_deeper (n : NodeD) (l : List Nat) (hl : l.length ≤ 1000) (hx : ∀ x ∈ l, x ≤ 1000000) : Pure Tryz.prog 31 [nV n, slV 1 dC l] (.tup [pInt .i64 ((maxL l + 1 : Nat) : Int), pInt .i64 0]) := by
 refine pure_of Tryz.func31 (by rfl) rfl (by kernel_rfl) (by rfl) ?_
 ((conv => whnf);repeat' ((first|(with_reducible first|apply a_|apply b_|apply c_)|((with_reducible first|apply d_|apply e_|apply f_|apply g_);focus first|omega|(simp only [q_]<;>omega))|((with_reducible first|apply i_|apply h_);focus first|omega|(simp only [q_]<;>omega))|((with_reducible apply h_);focus first|decide|kernel_rfl)|refine s_ (by decide) ?_|refine t_ (by decide) ?_|with_reducible first|apply l_|apply m_|apply n_|apply o_|refine p_ (fun _ => ?_) (fun _ => ?_))<;>(conv => whnf)))
 refine LoopC.mk Nat (fun k => [(6, pInt .i64 (maxL (l.take k))), (9, slV 1 dC l), (10, pInt .i64 l.length), (11, pInt .i64 k)]) (fun _ => []) [] (fun k => k ≤ l.length) (fun k => l.length - k) 0 (Nat.zero_le _) ?start ?round
 case start => exact ⟨[], rfl, rfl, ⟨PLe.int rfl, .inl rfl, PLe.int (by simp), .inl rfl, trivial⟩, trivial⟩
 case round =>
  intro k hk
  by_cases h1 : k < l.length
  ·have hs := maxL_snoc (l.take k) l[k]
   rw [← take_snoc h1] at hs
   ((conv => whnf);repeat' ((first|(with_reducible first|apply a_|apply b_|apply c_)|((with_reducible first|apply d_|apply e_|apply f_|apply g_);focus first|omega|(simp only [q_]<;>omega))|((with_reducible first|apply i_|apply h_);focus first|omega|(simp only [q_]<;>omega))|((with_reducible apply h_);focus first|decide|kernel_rfl)|refine s_ (by decide) ?_|refine t_ (by decide) ?_|(refine Idx.mapI k rfl h1 ?_)|with_reducible first|apply l_|apply m_|apply n_|apply o_|refine p_ (fun _ => ?_) (fun _ => ?_))<;>(conv => whnf)))
   all_goals
    refine ⟨k + 1, by omega, by omega, [], rfl, rfl, ⟨PLe.int (by rw [hs]; (repeat' split) <;> omega), .inl rfl, .inl rfl, PLe.int (by omega), trivial⟩, trivial⟩
  ·have hm : ∀ l : List Nat, (∀ x ∈ l, x ≤ 1000000) → maxL l ≤ 1000000 := by
    intro l
    induction l with
    | nil => intro _; decide
    | cons x l ih => intro h; rw [maxL]; have := h x (List.mem_cons_self ..); have := ih fun y hy => h y (List.mem_cons_of_mem _ hy); omega
   have := hm l hx
   rw [List.take_of_length_le (by omega)]
   ((conv => whnf);repeat' ((first|(with_reducible first|apply a_|apply b_|apply c_)|((with_reducible first|apply d_|apply e_|apply f_|apply g_);focus first|omega|(simp only [q_]<;>omega))|((with_reducible first|apply i_|apply h_);focus first|omega|(simp only [q_]<;>omega))|((with_reducible apply h_);focus first|decide|kernel_rfl)|refine s_ (by decide) ?_|refine t_ (by decide) ?_|with_reducible first|apply l_|apply m_|apply n_|apply o_|refine p_ (fun _ => ?_) (fun _ => ?_))<;>(conv => whnf)))
   refine Ret.eq ?_
   simp
theorem p_clonei (l : List Nat) (h : l.length ≤ 1000000) : Pure Tryz.prog 45 [slV 1 dC l] (slV 1 dC l) := by
 cases l with
 | nil =>
  refine pure_sl0 ?_ fun a cap => ?_
  ·refine pure_of Tryz.func45 (by rfl) rfl (by kernel_rfl) (by rfl) ?_
   ((conv => whnf);repeat' ((first|(with_reducible first|apply a_|apply b_|apply c_)|((with_reducible first|apply d_|apply e_|apply f_|apply g_);focus first|omega|(simp only [q_]<;>omega))|((with_reducible first|apply i_|apply h_);focus first|omega|(simp only [q_]<;>omega))|((with_reducible apply h_);focus first|decide|kernel_rfl)|refine s_ (by decide) ?_|refine t_ (by decide) ?_|with_reducible first|apply l_|apply m_|apply n_|apply o_|refine p_ (fun _ => ?_) (fun _ => ?_))<;>(conv => whnf)))
   exact Ret.le (.inr ⟨⟨1, rfl⟩, .inl rfl⟩)
  ·refine pure_of Tryz.func45 (by rfl) rfl (by kernel_rfl) (by rfl) ?_
   ((conv => whnf);repeat' ((first|(with_reducible first|apply a_|apply b_|apply c_)|((with_reducible first|apply d_|apply e_|apply f_|apply g_);focus first|omega|(simp only [q_]<;>omega))|((with_reducible first|apply i_|apply h_);focus first|omega|(simp only [q_]<;>omega))|((with_reducible apply h_);focus first|decide|kernel_rfl)|refine s_ (by decide) ?_|refine t_ (by decide) ?_|with_reducible first|apply l_|apply m_|apply n_|apply o_|refine p_ (fun _ => ?_) (fun _ => ?_))<;>(conv => whnf)))
   exact Ret.mk rfl
 | cons x l =>
  refine pure_of Tryz.func45 (by rfl) rfl (by kernel_rfl) (by rfl) ?_
  ((conv => whnf);repeat' ((first|(with_reducible first|apply a_|apply b_|apply c_)|((with_reducible first|apply d_|apply e_|apply f_|apply g_);focus first|omega|(simp only [q_]<;>omega))|((with_reducible first|apply i_|apply h_);focus first|omega|(simp only [q_]<;>omega))|((with_reducible apply h_);focus first|decide|kernel_rfl)|refine s_ (by decide) ?_|refine t_ (by decide) ?_|(refine Need.mk (List.cons_ne_nil _ _) ?_)|(refine Need.by 8 rfl (by simp only [List.length_map, List.length_nil, Nat.zero_add];omega) ?_)|with_reducible first|apply l_|apply m_|apply n_|apply o_|refine p_ (fun _ => ?_) (fun _ => ?_))<;>(conv => whnf)))
  exact Ret.mk rfl
theorem s_clonei (l : List Nat) (lo n : Nat) (h : lo + n ≤ l.length) (hn : n ≠ 0) (hz : l.length ≤ 1000000) : CallS Tryz.prog 45 [.d (.arr FK 3 1 lo n)] [(FK, .arr 3 1 (l.map dC))] [] (slV 1 dC ((l.drop lo).take n)) [] := by
 refine callS_of Tryz.func45 (by rfl) rfl (by kernel_rfl) (by rfl) [FK] rfl ?_
 ((conv => whnf);repeat' ((first|(with_reducible first|apply a_|apply b_|apply c_)|((with_reducible first|apply d_|apply e_|apply f_|apply g_);focus first|omega|(simp only [q_]<;>omega))|((with_reducible first|apply i_|apply h_);focus first|omega|(simp only [q_]<;>omega))|((with_reducible apply h_);focus first|decide|kernel_rfl)|refine s_ (by decide) ?_|refine t_ (by decide) ?_|(refine Need.mk hn ?_)|(refine Need.mk (by rw [List.length_map];exact h) ?_)|(refine Need.by 8 rfl (by simp only [List.length_nil, Nat.zero_add];omega) ?_)|with_reducible first|apply l_|apply m_|apply n_|apply o_|refine p_ (fun _ => ?_) (fun _ => ?_))<;>(conv => whnf)))
 refine RetS.mk [(FK, FK)] [FK] rfl rfl ?_ ?_
 ·show C.sl 1 _ = C.sl 1 _
  rw [List.map_take, List.map_drop]; rfl
 ·exact ⟨⟨rfl, rfl, rfl, rfl⟩, trivial⟩
theorem s_lasti (st : List Nat) (K : Int) (h0 : 0 ≤ K) (h1 : K ≤ st.length) (hz : st.length ≤ 1000000) : CallS Tryz.prog 45 [.d (.arr FK 3 1 (0 + ((st.length : Int) - K).toNat) (((st.length : Nat) : Int).toNat - ((st.length : Int) - K).toNat))] [(FK, .arr 3 1 (st.map dC))] [] (slV 1 dC (st.drop (st.length - K.toNat))) [] := by
 have e1 : 0 + ((st.length : Int) - K).toNat = st.length - K.toNat := by omega
 have e2 : ((st.length : Nat) : Int).toNat - ((st.length : Int) - K).toNat = K.toNat := by omega
 rw [e1, e2]
 by_cases k0 : K = 0
 ·subst k0
  rw [show st.drop (st.length - (0 : Int).toNat) = [] from List.drop_of_length_le (by simp)]
  exact (p_clonei [] (by simp)).empty1
 ·have := s_clonei st (st.length - K.toNat) K.toNat (by omega) (by omega) hz
  rwa [List.take_of_length_le (by rw [List.length_drop]; omega)] at this
def wiE (l : List NodeD) (j : Nat) (st : List Nat) : List (Nat × PV) := [(1, fnV 31), (6, pInt .i64 0), (7, .d (.arr 60 3 1 0 st.length)), (13, slV 6 NodeD.c l), (14, pInt .i64 l.length), (15, pInt .i64 j)]
def eInt2 (r : Except Int Nat) : PV := match r with
 | .ok d => .tup [pInt .i64 d, pInt .i64 0]
 | .error x => .tup [pInt .i64 0, pInt .i64 x]
theorem p_walki (l : List NodeD) (hl : l.length ≤ 1000) : Pure Tryz.prog 30 [slV 6 NodeD.c l, fnV 31] (eInt2 (walkR deepF l)) := by
 refine pure_of Tryz.func30 (by rfl) rfl (by kernel_rfl) (by rfl) ?_
 ((conv => whnf);repeat' ((first|(with_reducible first|apply a_|apply b_|apply c_)|((with_reducible first|apply d_|apply e_|apply f_|apply g_);focus first|omega|(simp only [q_]<;>omega))|((with_reducible first|apply i_|apply h_);focus first|omega|(simp only [q_]<;>omega))|((with_reducible apply h_);focus first|decide|kernel_rfl)|refine s_ (by decide) ?_|refine t_ (by decide) ?_|with_reducible first|apply l_|apply m_|apply n_|apply o_|refine p_ (fun _ => ?_) (fun _ => ?_))<;>(conv => whnf)))
 refine LoopC.mk (Nat × List Nat) (fun s => wiE l s.1 s.2) (fun s => [(60, .arr 3 1 (s.2.map dC))]) [60] (fun s => s.1 ≤ l.length ∧ s.2.length ≤ s.1 ∧ (∀ x ∈ s.2, x ≤ s.1) ∧ walkG deepF [] l = walkG deepF s.2 (l.drop s.1)) (fun s => l.length - s.1) (0, []) ⟨Nat.zero_le _, Nat.zero_le _, by simp, rfl⟩ ?start ?round
 case start => exact ⟨[], rfl, rfl, ⟨.inl rfl, .inl rfl, ⟨rfl, rfl, Nat.zero_lt_succ _, rfl, rfl⟩, .inl rfl, PLe.int (by simp), .inl rfl, trivial⟩, ⟨rfl, Nat.zero_lt_succ _, rfl⟩, trivial⟩
 case round =>
  rintro ⟨j, st⟩ ⟨hj, i1, i2, i3⟩
  have hj : j ≤ l.length := hj
  have i1 : st.length ≤ j := i1
  have i2 : ∀ x ∈ st, x ≤ j := i2
  have i3 : walkG deepF [] l = walkG deepF st (l.drop j) := i3
  by_cases q : j < l.length
  ·rw [List.drop_eq_getElem_cons q, walkG_cons] at i3
   by_cases g : l[j].Kids < 0 ∨ (st.length : Int) < l[j].Kids
   ·rw [if_pos g] at i3
    have hw : walkR deepF l = .error 1 := by unfold walkR; rw [i3]
    rw [hw]
    ((conv => whnf);repeat' ((first|(with_reducible first|apply a_|apply b_|apply c_)|((with_reducible first|apply d_|apply e_|apply f_|apply g_);focus first|omega|(simp only [q_]<;>omega))|((with_reducible first|apply i_|apply h_);focus first|omega|(simp only [q_]<;>omega))|((with_reducible apply h_);focus first|decide|kernel_rfl)|refine s_ (by decide) ?_|refine t_ (by decide) ?_|(refine Idx.mapI j rfl q ?_)|with_reducible first|apply l_|apply m_|apply n_|apply o_|refine p_ (fun _ => ?_) (fun _ => ?_))<;>(conv => whnf)))
    all_goals exact Ret.eq rfl
   ·rw [if_neg g] at i3
    have g1 : ¬ l[j].Kids < 0 := fun q => g (.inl q)
    have g2 : ¬ (st.length : Int) < l[j].Kids := fun q => g (.inr q)
    have pc := s_lasti st l[j].Kids (by omega) (by omega) (by omega)
    have pd := p_deeper l[j] (st.drop (st.length - l[j].Kids.toNat)) (by rw [List.length_drop]; omega) (fun x hx => by have := i2 x (List.mem_of_mem_drop hx); omega)
    ((conv => whnf);repeat' ((first|(with_reducible first|apply a_|apply b_|apply c_)|((with_reducible first|apply d_|apply e_|apply f_|apply g_);focus first|omega|(simp only [q_]<;>omega))|((with_reducible first|apply i_|apply h_);focus first|omega|(simp only [q_]<;>omega))|((with_reducible apply h_);focus first|decide|kernel_rfl)|refine s_ (by decide) ?_|refine t_ (by decide) ?_|(refine Idx.mapI j rfl q ?_)|(refine CallP.ret [(FK, 60)] _ _ _ _ _ _ _ pc rfl rfl rfl rfl ⟨rfl, trivial⟩ ?_)|refine r_ pd rfl ?_|(refine Need.by 8 rfl (by simp only [List.length_singleton];omega) ?_)|with_reducible first|apply l_|apply m_|apply n_|apply o_|refine p_ (fun _ => ?_) (fun _ => ?_))<;>(conv => whnf)))
    have hx1 : ∀ x ∈ st.drop (st.length - l[j].Kids.toNat), x ≤ j := fun x hx => i2 x (List.mem_of_mem_drop hx)
    have hx2 := maxL_le _ _ hx1
    refine ⟨(j + 1, st.take (st.length - l[j].Kids.toNat) ++ [maxL (st.drop (st.length - l[j].Kids.toNat)) + 1]), ⟨by show j + 1 ≤ _; omega, ?_, ?_, i3⟩, by show l.length - (j + 1) < l.length - j; omega, [(60, 54)], rfl, rfl, ⟨.inl rfl, .inl rfl, ⟨rfl, rfl, rfl, rfl, rfl, ?_⟩, .inl rfl, .inl rfl, PLe.int rfl, trivial⟩, ⟨rfl, rfl, rfl, ?_⟩, trivial⟩
    ·show (st.take _ ++ [_]).length ≤ j + 1
     rw [List.length_append, List.length_take, List.length_singleton]; omega
    ·intro x hx
     show x ≤ j + 1
     rcases List.mem_append.1 hx with hx | hx
     ·have := i2 x (List.mem_of_mem_take hx); omega
     ·rw [List.mem_singleton.1 hx]; omega
    ·show _ = (st.take _ ++ [_]).length
     rw [List.length_append, List.length_take, List.length_singleton]; simp only [List.length_singleton]; omega
    ·show _ = (st.take _ ++ [_]).map dC
     rw [List.map_append, List.map_take]
     have e1 : ((st.length : Int) - l[j].Kids).toNat = st.length - l[j].Kids.toNat := by omega
     show (st.map dC).take ((st.length : Int) - l[j].Kids).toNat ++ _ = _
     rw [e1]; rfl
  ·rw [List.drop_of_length_le (by omega)] at i3
   have i3 : walkG deepF [] l = .ok st := i3
   rcases st with _ | ⟨x, _ | ⟨y, r⟩⟩
   ·have hw : walkR deepF l = .error 1 := by unfold walkR; rw [i3]
    rw [hw]
    ((conv => whnf);repeat' ((first|(with_reducible first|apply a_|apply b_|apply c_)|((with_reducible first|apply d_|apply e_|apply f_|apply g_);focus first|omega|(simp only [q_]<;>omega))|((with_reducible first|apply i_|apply h_);focus first|omega|(simp only [q_]<;>omega))|((with_reducible apply h_);focus first|decide|kernel_rfl)|refine s_ (by decide) ?_|refine t_ (by decide) ?_|with_reducible first|apply l_|apply m_|apply n_|apply o_|refine p_ (fun _ => ?_) (fun _ => ?_))<;>(conv => whnf)))
    all_goals exact Ret.eq rfl
   ·have hw : walkR deepF l = .ok x := by unfold walkR; rw [i3]
    rw [hw]
    ((conv => whnf);repeat' ((first|(with_reducible first|apply a_|apply b_|apply c_)|((with_reducible first|apply d_|apply e_|apply f_|apply g_);focus first|omega|(simp only [q_]<;>omega))|((with_reducible first|apply i_|apply h_);focus first|omega|(simp only [q_]<;>omega))|((with_reducible apply h_);focus first|decide|kernel_rfl)|refine s_ (by decide) ?_|refine t_ (by decide) ?_|with_reducible first|apply l_|apply m_|apply n_|apply o_|refine p_ (fun _ => ?_) (fun _ => ?_))<;>(conv => whnf)))
    refine Row.mk _ rfl ?_
    ((conv => whnf);repeat' ((first|(with_reducible first|apply a_|apply b_|apply c_)|((with_reducible first|apply d_|apply e_|apply f_|apply g_);focus first|omega|(simp only [q_]<;>omega))|((with_reducible first|apply i_|apply h_);focus first|omega|(simp only [q_]<;>omega))|((with_reducible apply h_);focus first|decide|kernel_rfl)|refine s_ (by decide) ?_|refine t_ (by decide) ?_|with_reducible first|apply l_|apply m_|apply n_|apply o_|refine p_ (fun _ => ?_) (fun _ => ?_))<;>(conv => whnf)))
    all_goals exact Ret.eq rfl
   ·have hw : walkR deepF l = .error 1 := by unfold walkR; rw [i3]
    rw [hw]
    ((conv => whnf);repeat' ((first|(with_reducible first|apply a_|apply b_|apply c_)|((with_reducible first|apply d_|apply e_|apply f_|apply g_);focus first|omega|(simp only [q_]<;>omega))|((with_reducible first|apply i_|apply h_);focus first|omega|(simp only [q_]<;>omega))|((with_reducible apply h_);focus first|decide|kernel_rfl)|refine s_ (by decide) ?_|refine t_ (by decide) ?_|with_reducible first|apply l_|apply m_|apply n_|apply o_|refine p_ (fun _ => ?_) (fun _ => ?_))<;>(conv => whnf)))
    all_goals exact Ret.eq rfl
end
section
open Go.RowKit K
set_option maxRecDepth 100000
theorem p_ismark (t : TokenD) (s : List UInt8) : Pure Tryz.prog 72 [tV t, pStr (tx s)] (pBool (isM t s)) := by
 refine pure_of Tryz.func72 (by rfl) rfl (by kernel_rfl) (by rfl) ?_
 unfold isM
 by_cases hs : t.S = s
 ·have hx : tx t.S = tx s := congrArg tx hs
  by_cases hk : t.Kind = 1 ∨ t.Kind = 5
  ·rw [decide_eq_true (show _ ∧ _ from ⟨hk, hs⟩)]
   ((conv => whnf);repeat' ((first|(with_reducible first|apply a_|apply b_|apply c_)|((with_reducible first|apply d_|apply e_|apply f_|apply g_);focus first|omega|(simp only [q_]<;>omega))|((with_reducible first|apply i_|apply h_);focus first|omega|(simp only [q_]<;>omega))|((with_reducible apply h_);focus first|decide|kernel_rfl)|refine s_ (by decide) ?_|refine t_ (by decide) ?_|(refine BCase.dt hx ?_)|with_reducible first|apply l_|apply m_|apply n_|apply o_|refine p_ (fun _ => ?_) (fun _ => ?_))<;>(conv => whnf)))
   all_goals first | exact Ret.bool rfl | exact Ret.bool (decide_eq_true hx) | exact Ret.bool (by simp [hx]) | (exfalso; omega)
  ·rw [decide_eq_false (show ¬ (_ ∧ _) from fun x => hk x.1)]
   ((conv => whnf);repeat' ((first|(with_reducible first|apply a_|apply b_|apply c_)|((with_reducible first|apply d_|apply e_|apply f_|apply g_);focus first|omega|(simp only [q_]<;>omega))|((with_reducible first|apply i_|apply h_);focus first|omega|(simp only [q_]<;>omega))|((with_reducible apply h_);focus first|decide|kernel_rfl)|refine s_ (by decide) ?_|refine t_ (by decide) ?_|with_reducible first|apply l_|apply m_|apply n_|apply o_|refine p_ (fun _ => ?_) (fun _ => ?_))<;>(conv => whnf)))
   all_goals first | exact Ret.bool rfl | (exfalso; omega)
 ·have hx : ¬ tx t.S = tx s := fun x => hs (tx_inj x)
  rw [decide_eq_false (show ¬ (_ ∧ _) from fun x => hs x.2)]
  ((conv => whnf);repeat' ((first|(with_reducible first|apply a_|apply b_|apply c_)|((with_reducible first|apply d_|apply e_|apply f_|apply g_);focus first|omega|(simp only [q_]<;>omega))|((with_reducible first|apply i_|apply h_);focus first|omega|(simp only [q_]<;>omega))|((with_reducible apply h_);focus first|decide|kernel_rfl)|refine s_ (by decide) ?_|refine t_ (by decide) ?_|(refine BCase.df hx ?_)|with_reducible first|apply l_|apply m_|apply n_|apply o_|refine p_ (fun _ => ?_) (fun _ => ?_))<;>(conv => whnf)))
  all_goals first | exact Ret.bool rfl | exact Ret.bool (decide_eq_false hx) | exact Ret.bool (by simp [hx]) | (exfalso; omega)
theorem p_ends (t : TokenD) (ht : okText t.S) : Pure Tryz.prog 73 [tV t] (pBool (endB t)) := by
 have p1 : Pure _ _ [tV t, pStr ⟨#[41]⟩] _ := p_ismark t sRp
 have p2 : Pure _ _ [tV t, pStr ⟨#[110, 117, 108, 108]⟩] _ := p_ismark t wNull
 have p3 := p_namecheck t.S ht
 refine pure_of Tryz.func73 (by rfl) rfl (by kernel_rfl) (by rfl) ?_
 unfold endB
 cases hR : isM t sRp <;> cases hN : isM t wNull <;> cases hB : nameB t.S <;> rw [hR] at p1 <;> rw [hN] at p2 <;> rw [hB] at p3
 all_goals
  by_cases k1 : 2 ≤ t.Kind ∧ t.Kind ≤ 4 <;> by_cases k2 : t.Kind = 1 <;> simp only [k1, k2, decide_true, decide_false, Bool.true_or, Bool.false_or, Bool.true_and, Bool.false_and, Bool.or_true, Bool.or_false, Bool.and_true, Bool.and_false]
 all_goals
  ((conv => whnf);repeat' ((first|(with_reducible first|apply a_|apply b_|apply c_)|((with_reducible first|apply d_|apply e_|apply f_|apply g_);focus first|omega|(simp only [q_]<;>omega))|((with_reducible first|apply i_|apply h_);focus first|omega|(simp only [q_]<;>omega))|((with_reducible apply h_);focus first|decide|kernel_rfl)|refine s_ (by decide) ?_|refine t_ (by decide) ?_|refine r_ p1 rfl ?_|refine r_ p2 rfl ?_|refine r_ p3 rfl ?_|with_reducible first|apply l_|apply m_|apply n_|apply o_|refine p_ (fun _ => ?_) (fun _ => ?_))<;>(conv => whnf)))
  all_goals first | exact Ret.bool rfl | (exfalso; omega)
end
section
open Go.RowKit K
set_option maxRecDepth 100000
def depV (d : Nat) : List TokenD → List Nat
 | [] => []
 | t :: r => recD d t :: depV (nxtD d t) r
theorem depV_len : ∀ (l : List TokenD) (d : Nat), (depV d l).length = l.length
 | [], _ => rfl
 | t :: r, d => by rw [depV, List.length_cons, List.length_cons, depV_len r]
theorem depV_app : ∀ (l m : List TokenD) (d e : Nat), dEnd d l = some e → depV d (l ++ m) = depV d l ++ depV e m
 | [], m, d, e, h => by rw [dEnd] at h; cases h; rfl
 | t :: l, m, d, e, h => by
  show recD d t :: depV (nxtD d t) (l ++ m) = recD d t :: (depV (nxtD d t) l ++ depV e m)
  rw [depV_app l m _ e (dEnd_nxt h)]
theorem dEnd_one {d : Nat} {t : TokenD} (h : ¬ (isM t sRp = true ∧ d = 0)) : dEnd d [t] = some (nxtD d t) := by
 unfold dEnd nxtD recD
 by_cases h1 : isM t sRp = true
 ·have h2 : isM t sLp = false := isM_ne h1 (by decide)
  have hd : d ≠ 0 := fun x => h ⟨h1, x⟩
  rw [if_pos h1, if_neg hd, if_neg (by rw [h2]; decide), if_pos h1]; rfl
 ·rw [if_neg h1, if_neg h1]
  by_cases h2 : isM t sLp = true
  ·rw [if_pos h2, if_pos h2]; rfl
  ·rw [if_neg h2, if_neg h2]; rfl
theorem dEnd_stop {t : TokenD} {r : List TokenD} (h : isM t sRp = true) : dEnd 0 (t :: r) = none := by
 rw [dEnd, if_pos h, if_pos rfl]
theorem dEnd_at {l : List TokenD} {i d : Nat} (h : dEnd 0 (l.take i) = some d) : dEnd 0 l = dEnd d (l.drop i) := by
 have := dEnd_append (l.take i) (l.drop i) 0 d h
 rwa [List.take_append_drop] at this
def depR (l : List TokenD) : List Nat × Bool := match dEnd 0 l with
 | none => ([], false)
 | some e => (depV 0 l, decide (e = 0))
theorem p_depthsof (l : List TokenD) (hl : l.length ≤ 100000) : Pure Tryz.prog 71 [slV 4 TokenD.c l] (.tup [slV 1 dC (depR l).1, pBool (depR l).2]) := by
 refine pure_of Tryz.func71 (by rfl) rfl (by kernel_rfl) (by rfl) ?_
 ((conv => whnf);repeat' ((first|(with_reducible first|apply a_|apply b_|apply c_)|((with_reducible first|apply d_|apply e_|apply f_|apply g_);focus first|omega|(simp only [q_]<;>omega))|((with_reducible first|apply i_|apply h_);focus first|omega|(simp only [q_]<;>omega))|((with_reducible apply h_);focus first|decide|kernel_rfl)|refine s_ (by decide) ?_|refine t_ (by decide) ?_|with_reducible first|apply l_|apply m_|apply n_|apply o_|refine p_ (fun _ => ?_) (fun _ => ?_))<;>(conv => whnf)))
 refine LoopC.mk (Nat × Nat) (fun s => [(0, slV 4 TokenD.c l), (4, .d (.app 60 3 1 ((depV 0 (l.take s.1)).map dC))), (5, pInt .i64 (s.2 : Int)), (6, pInt .i64 (s.1 : Int))]) (fun _ => [(60, .tail 3 1)]) [60] (fun s => s.1 ≤ l.length ∧ s.2 ≤ s.1 ∧ dEnd 0 (l.take s.1) = some s.2) (fun s => l.length - s.1) (0, 0) ⟨Nat.zero_le _, Nat.zero_le _, by rw [List.take_zero]; rfl⟩ ?start ?round
 case start => exact ⟨[], rfl, rfl, ⟨.inl rfl, ⟨rfl, rfl, Nat.zero_lt_succ _, rfl, rfl⟩, .inl rfl, .inl rfl, trivial⟩, ⟨rfl, Nat.zero_lt_succ _⟩, trivial⟩
 case round =>
  rintro ⟨i, d⟩ ⟨hi, hd, he⟩
  have hi : i ≤ l.length := hi
  have hd : d ≤ i := hd
  have he : dEnd 0 (l.take i) = some d := he
  have hfull := dEnd_at he
  by_cases q : i < l.length
  ·rw [List.drop_eq_getElem_cons q] at hfull
   have p1 : Pure _ _ [tV l[i], pStr ⟨#[41]⟩] _ := p_ismark l[i] sRp
   have p2 : Pure _ _ [tV l[i], pStr ⟨#[40]⟩] _ := p_ismark l[i] sLp
   have hdl : (depV 0 (l.take i)).length = i := by rw [depV_len, List.length_take]; omega
   have hml : ((depV 0 (l.take i)).map dC).length = i := by rw [List.length_map, hdl]
   by_cases hs : isM l[i] sRp = true ∧ d = 0
   ·obtain ⟨h1, rfl⟩ := hs
    rw [h1] at p1
    rw [dEnd_stop h1] at hfull
    unfold depR
    rw [hfull]
    ((conv => whnf);repeat' ((first|(with_reducible first|apply a_|apply b_|apply c_)|((with_reducible first|apply d_|apply e_|apply f_|apply g_);focus first|omega|(simp only [q_]<;>omega))|((with_reducible first|apply i_|apply h_);focus first|omega|(simp only [q_]<;>omega))|((with_reducible apply h_);focus first|decide|kernel_rfl)|refine s_ (by decide) ?_|refine t_ (by decide) ?_|(refine Idx.mapI i rfl q ?_)|refine r_ p1 rfl ?_|with_reducible first|apply l_|apply m_|apply n_|apply o_|refine p_ (fun _ => ?_) (fun _ => ?_))<;>(conv => whnf)))
    all_goals first | exact Ret.le ⟨.inr ⟨⟨1, rfl⟩, .inl rfl⟩, .inl rfl, rfl⟩ | (exfalso; omega)
   ·have hone := dEnd_one hs
    have hst : dEnd 0 (l.take (i + 1)) = some (nxtD d l[i]) := by
     rw [take_snoc q, dEnd_append _ _ 0 d he, hone]
    have hdv : depV 0 (l.take (i + 1)) = depV 0 (l.take i) ++ [recD d l[i]] := by
     rw [take_snoc q, depV_app _ _ 0 d he]; rfl
    cases h1 : isM l[i] sRp with
    | true =>
     have h2 : isM l[i] sLp = false := isM_ne h1 (by decide)
     have hd0 : d ≠ 0 := fun x => hs ⟨h1, x⟩
     have hr : recD d l[i] = d - 1 := by unfold recD; rw [if_pos h1]
     have hn : nxtD d l[i] = d - 1 := by unfold nxtD; rw [if_neg (by rw [h2]; decide), hr]
     rw [h1] at p1
     rw [h2] at p2
     rw [hn] at hst
     rw [hr] at hdv
     ((conv => whnf);repeat' ((first|(with_reducible first|apply a_|apply b_|apply c_)|((with_reducible first|apply d_|apply e_|apply f_|apply g_);focus first|omega|(simp only [q_]<;>omega))|((with_reducible first|apply i_|apply h_);focus first|omega|(simp only [q_]<;>omega))|((with_reducible apply h_);focus first|decide|kernel_rfl)|refine s_ (by decide) ?_|refine t_ (by decide) ?_|(refine Idx.mapI i rfl q ?_)|refine r_ p1 rfl ?_|refine r_ p2 rfl ?_|(refine Need.by 8 rfl (by simp only [List.length_singleton];omega) ?_)|with_reducible first|apply l_|apply m_|apply n_|apply o_|refine p_ (fun _ => ?_) (fun _ => ?_))<;>(conv => whnf)))
     all_goals first
      | exact ⟨(i + 1, d - 1), ⟨by show i + 1 ≤ _; omega, by show d - 1 ≤ i + 1; omega, hst⟩, by show l.length - (i + 1) < l.length - i; omega, [(60, 25)], rfl, rfl, ⟨.inl rfl, ⟨rfl, rfl, rfl, rfl, by rw [hdv, List.map_append]; show _ = _ ++ [[C.v (.int .i64 ((d - 1 : Nat) : Int))]]; rw [Int.ofNat_sub (by omega)]; rfl⟩, PLe.int (by omega), PLe.int (by omega), trivial⟩, ⟨rfl, rfl, rfl⟩, trivial⟩
      | (exfalso; omega)
    | false =>
     have hr : recD d l[i] = d := by unfold recD; rw [if_neg (by rw [h1]; decide)]
     rw [h1] at p1
     rw [hr] at hdv
     cases h2 : isM l[i] sLp with
     | true =>
      have hn : nxtD d l[i] = d + 1 := by unfold nxtD; rw [if_pos h2, hr]
      rw [h2] at p2
      rw [hn] at hst
      ((conv => whnf);repeat' ((first|(with_reducible first|apply a_|apply b_|apply c_)|((with_reducible first|apply d_|apply e_|apply f_|apply g_);focus first|omega|(simp only [q_]<;>omega))|((with_reducible first|apply i_|apply h_);focus first|omega|(simp only [q_]<;>omega))|((with_reducible apply h_);focus first|decide|kernel_rfl)|refine s_ (by decide) ?_|refine t_ (by decide) ?_|(refine Idx.mapI i rfl q ?_)|refine r_ p1 rfl ?_|refine r_ p2 rfl ?_|(refine Need.by 8 rfl (by simp only [List.length_singleton];omega) ?_)|with_reducible first|apply l_|apply m_|apply n_|apply o_|refine p_ (fun _ => ?_) (fun _ => ?_))<;>(conv => whnf)))
      all_goals first
       | exact ⟨(i + 1, d + 1), ⟨by show i + 1 ≤ _; omega, by show d + 1 ≤ i + 1; omega, hst⟩, by show l.length - (i + 1) < l.length - i; omega, [(60, 25)], rfl, rfl, ⟨.inl rfl, ⟨rfl, rfl, rfl, rfl, by rw [hdv, List.map_append]; rfl⟩, PLe.int (by omega), PLe.int (by omega), trivial⟩, ⟨rfl, rfl, rfl⟩, trivial⟩
       | (exfalso; omega)
     | false =>
      have hn : nxtD d l[i] = d := by unfold nxtD; rw [if_neg (by rw [h2]; decide), hr]
      rw [h2] at p2
      rw [hn] at hst
      ((conv => whnf);repeat' ((first|(with_reducible first|apply a_|apply b_|apply c_)|((with_reducible first|apply d_|apply e_|apply f_|apply g_);focus first|omega|(simp only [q_]<;>omega))|((with_reducible first|apply i_|apply h_);focus first|omega|(simp only [q_]<;>omega))|((with_reducible apply h_);focus first|decide|kernel_rfl)|refine s_ (by decide) ?_|refine t_ (by decide) ?_|(refine Idx.mapI i rfl q ?_)|refine r_ p1 rfl ?_|refine r_ p2 rfl ?_|(refine Need.by 8 rfl (by simp only [List.length_singleton];omega) ?_)|with_reducible first|apply l_|apply m_|apply n_|apply o_|refine p_ (fun _ => ?_) (fun _ => ?_))<;>(conv => whnf)))
      all_goals first
       | exact ⟨(i + 1, d), ⟨by show i + 1 ≤ _; omega, by show d ≤ i + 1; omega, hst⟩, by show l.length - (i + 1) < l.length - i; omega, [(60, 25)], rfl, rfl, ⟨.inl rfl, ⟨rfl, rfl, rfl, rfl, by rw [hdv, List.map_append]; rfl⟩, .inl rfl, PLe.int (by omega), trivial⟩, ⟨rfl, rfl, rfl⟩, trivial⟩
       | (exfalso; omega)
  ·rw [List.drop_of_length_le (by omega)] at hfull
   have hfull : dEnd 0 l = some d := hfull
   have e : l.take i = l := List.take_of_length_le (by omega)
   unfold depR
   rw [hfull, e]
   by_cases g : d = 0
   ·subst g
    ((conv => whnf);repeat' ((first|(with_reducible first|apply a_|apply b_|apply c_)|((with_reducible first|apply d_|apply e_|apply f_|apply g_);focus first|omega|(simp only [q_]<;>omega))|((with_reducible first|apply i_|apply h_);focus first|omega|(simp only [q_]<;>omega))|((with_reducible apply h_);focus first|decide|kernel_rfl)|refine s_ (by decide) ?_|refine t_ (by decide) ?_|with_reducible first|apply l_|apply m_|apply n_|apply o_|refine p_ (fun _ => ?_) (fun _ => ?_))<;>(conv => whnf)))
    all_goals first | exact Ret.eq rfl | (exfalso; omega)
   ·have : decide (d = 0) = false := decide_eq_false g
    ((conv => whnf);repeat' ((first|(with_reducible first|apply a_|apply b_|apply c_)|((with_reducible first|apply d_|apply e_|apply f_|apply g_);focus first|omega|(simp only [q_]<;>omega))|((with_reducible first|apply i_|apply h_);focus first|omega|(simp only [q_]<;>omega))|((with_reducible apply h_);focus first|decide|kernel_rfl)|refine s_ (by decide) ?_|refine t_ (by decide) ?_|with_reducible first|apply l_|apply m_|apply n_|apply o_|refine p_ (fun _ => ?_) (fun _ => ?_))<;>(conv => whnf)))
    all_goals first | exact Ret.eq rfl | exact Ret.eq (by simp [this]) | (exfalso; omega) | skip
end
end Go.Proofs.YtmcmagfondjopaaGreatDoor.Pm
