/- Parts of the proof, one behind the other: PxPlainB PxPlainC PxLaws3 PxSplit3 PxLaws4. Conditions: none beyond what each theorem says. -/
import Derived.Test.YtpkifeagopceaaaDoorZ5
section
namespace Go.Proofs.YtpkifeagopceaaaDoor.Pm
open Go.RowKit K
set_option linter.unusedVariables false
set_option linter.unusedSimpArgs false
set_option maxRecDepth 100000
def LookLe (a b : Look) : Prop := ∀ s v, a s = some v → b s = some v
theorem nodF_le {a b : Look} (h : LookLe a b) {n : NodeD} {k : List ValueD} {v : ValueD} (hv : nodF a n k = .ok v) : nodF b n k = .ok v := by
 by_cases h2 : n.Op = 2
 ·have e : ∀ look : Look, nodV look n k = (match look n.Name with
   | some v => (v, 0)
   | none => (noV, 5)) := fun look => by
   unfold nodV
   rw [if_neg (by omega), if_pos h2]
   cases look n.Name <;> rfl
  unfold nodF at hv ⊢
  rw [e] at hv ⊢
  cases hq : a n.Name with
  | none => rw [hq] at hv; cases hv
  | some x => rw [hq] at hv; rw [h _ _ hq]; exact hv
 ·rw [← nodF_look (a := a) (b := b) h2]; exact hv
theorem walkG_le {a b : Look} (h : LookLe a b) : ∀ (l : List NodeD) (st us : List ValueD), walkG (nodF a) st l = .ok us → walkG (nodF b) st l = .ok us
 | [], st, us, hw => hw
 | n :: l, st, us, hw => by
  rw [walkG_cons] at hw ⊢
  split at hw
  ·cases hw
  ·rename_i g
   rw [if_neg g]
   split at hw
   ·cases hw
   ·rename_i x hx
    rw [nodF_le h hx]
    exact walkG_le h l _ us hw
theorem walkR_le {a b : Look} (h : LookLe a b) {l : List NodeD} {v : ValueD} (hw : walkR (nodF a) l = .ok v) : walkR (nodF b) l = .ok v := by
 unfold walkR at hw ⊢
 split at hw
 ·cases hw
 ·rename_i x hx
  rw [walkG_le h _ _ _ hx]; exact hw
 ·cases hw
theorem lookC_more : ∀ (cols : List (List UInt8)) (row : List ValueD) (name : List UInt8) (more : ValueD), cols.length = row.length → LookLe (lookC cols row) (lookC (cols ++ [name]) (row ++ [more]))
 | [], [], name, more, _, s, v, h => by cases h
 | [], _ :: _, name, more, hl, s, v, h => by cases hl
 | _ :: _, [], name, more, hl, s, v, h => by cases hl
 | c :: cs, x :: xs, name, more, hl, s, v, h => by
  unfold lookC at h
  rw [List.cons_append, List.cons_append, lookC]
  split at h
  ·rename_i e; rw [if_pos e]; exact h
  ·rename_i e; rw [if_neg e]; exact lookC_more cs xs name more (by simpa using hl) s v h
theorem evalF_more {e : List NodeD} {cols : List (List UInt8)} {row : List ValueD} {name : List UInt8} {more v : ValueD} (h : evalF e cols row = .ok v) (h8 : cols.length < 8) (hm : vChk more = 0) : evalF e (cols ++ [name]) (row ++ [more]) = .ok v := by
 unfold evalF at h
 split at h
 ·cases h
 ·rename_i q
  have q := Decidable.of_not_not q
  obtain ⟨h1, h2, h3, h4⟩ := scope_ok q
  have hs : scopeE e (cols ++ [name]) (row ++ [more]) = 0 := by
   unfold scopeE
   rw [if_neg (by rw [h1]; decide), if_neg (by simp; omega), if_neg (by simp [h3])]
   refine vChkAll_ok.2 fun x hx => ?_
   rcases List.mem_append.1 hx with hx | hx
   ·exact h4 x hx
   ·rw [List.mem_singleton.1 hx]; exact hm
  unfold evalF
  rw [if_neg (by rw [hs]; decide)]
  exact walkR_le (lookC_more cols row name more h3) h
mutual
theorem hasC_fold : ∀ t : Ex, hasC (foldE t) = hasC t
 | .mk n ks => by
  cases h : hasC (.mk n ks) with
  | false => exact foldE_has _ h
  | true =>
   rw [foldE, h]
   unfold foldN
   rw [if_pos rfl, hasC, hasCs_fold ks, ← hasC, h]
theorem hasCs_fold : ∀ l : List Ex, hasCs (foldEs l) = hasCs l
 | [] => by rw [foldEs]
 | t :: l => by rw [foldEs, hasCs, hasCs, hasC_fold t, hasCs_fold l]
end
theorem fold_lit {v : ValueD} (h0 : 0 ≤ v.N) : foldE (litT v) = litT v := by
 rw [foldE, hasC_lit, foldEs]
 unfold foldN
 rw [if_neg (by simp), foldX_lit]
 exact if_pos h0
mutual
theorem fold_fold : ∀ t : Ex, foldE (foldE t) = foldE t
 | .mk n ks => by
  have hk := fold_folds ks
  have key : foldE (.mk n (foldEs ks)) = foldN (hasC (.mk n ks)) n (foldEs ks) := by
   rw [foldE, hk, hasC, hasCs_fold, ← hasC]
  rw [foldE]
  cases hc : hasC (.mk n ks) with
  | true =>
   rw [hc] at key
   have e : foldN true n (foldEs ks) = .mk n (foldEs ks) := by unfold foldN; exact if_pos rfl
   rw [e] at key ⊢
   exact key
  | false =>
   rw [hc] at key
   have e : foldN false n (foldEs ks) = match foldX (nodF noLook) (.mk n (foldEs ks)) with
    | .ok v => if 0 ≤ v.N then litT v else .mk n (foldEs ks)
    | .error _ => .mk n (foldEs ks) := by unfold foldN; exact if_neg (by simp)
   cases hx : foldX (nodF noLook) (.mk n (foldEs ks)) with
   | error x =>
    rw [hx] at e
    rw [e] at key ⊢
    exact key
   | ok v =>
    rw [hx] at e
    by_cases h0 : 0 ≤ v.N
    ·have e : foldN false n (foldEs ks) = litT v := e.trans (if_pos h0)
     rw [e]; exact fold_lit h0
    ·have e : foldN false n (foldEs ks) = .mk n (foldEs ks) := e.trans (if_neg h0)
     rw [e] at key ⊢
     exact key
theorem fold_folds : ∀ l : List Ex, foldEs (foldEs l) = foldEs l
 | [] => by rw [foldEs, foldEs]
 | t :: l => by rw [foldEs, foldEs, fold_fold t, fold_folds l]
end
mutual
theorem fold_names : ∀ t : Ex, HN t.flat → ∀ n ∈ (foldE t).flat, okText n.Name
 | .mk n ks, h, m, hm => by
  rw [foldE] at hm
  have hk := folds_names ks (hn_kids h)
  have base : ∀ m ∈ (Ex.mk n (foldEs ks)).flat, okText m.Name := by
   intro m hm
   rw [Ex.flat] at hm
   rcases List.mem_append.1 hm with hm | hm
   ·exact hk m hm
   ·rw [List.mem_singleton.1 hm]; exact (hn_root h).1
  have lit : ∀ v, ∀ m ∈ (litT v).flat, okText m.Name := by
   intro v m hm
   rw [lit_flat] at hm
   rw [List.mem_singleton.1 hm]; exact Nat.zero_le _
  unfold foldN at hm
  split at hm
  ·exact base m hm
  ·split at hm
   ·split at hm
    ·exact lit _ m hm
    ·exact base m hm
   ·exact base m hm
theorem folds_names : ∀ l : List Ex, HN (Ex.flats l) → ∀ n ∈ Ex.flats (foldEs l), okText n.Name
 | [], _, m, hm => by rw [foldEs, Ex.flats] at hm; cases hm
 | t :: l, h, m, hm => by
  rw [Ex.flats] at h
  rw [foldEs, Ex.flats] at hm
  rcases List.mem_append.1 hm with hm | hm
  ·exact fold_names t (fun m hm => h m (List.mem_append_left _ hm)) m hm
  ·exact folds_names l (fun m hm => h m (List.mem_append_right _ hm)) m hm
end
theorem fold_right {t : Ex} (h : RightT t) (hn : HN t.flat) : RightT (foldE t) := by
 refine ⟨foldE_good t h.good, fun n hm => (foldE_nin t (nin_tree h hn) n hm).1, ?_, ?_⟩
 ·have := foldE_depth t
  have := h.deep
  omega
 ·have := foldE_short t
  have := h.len
  omega
theorem cou_range {op : Int} (h : couF op ≠ 0) : (10 ≤ op ∧ op ≤ 15 ∨ 18 ≤ op ∧ op ≤ 25) ∧ (10 ≤ couF op ∧ couF op ≤ 15 ∨ 18 ≤ couF op ∧ couF op ≤ 25) ∧ couF (couF op) = op ∧ leastK (couF op) = leastK op ∧ mostK (couF op) = mostK op ∧ negB (couF op) = !negB op := by
 by_cases hr : 10 ≤ op ∧ op ≤ 25
 ·have hc : op = 10 ∨ op = 11 ∨ op = 12 ∨ op = 13 ∨ op = 14 ∨ op = 15 ∨ op = 16 ∨ op = 17 ∨ op = 18 ∨ op = 19 ∨ op = 20 ∨ op = 21 ∨ op = 22 ∨ op = 23 ∨ op = 24 ∨ op = 25 := by omega
  clear hr
  rcases hc with rfl | rfl | rfl | rfl | rfl | rfl | rfl | rfl | rfl | rfl | rfl | rfl | rfl | rfl | rfl | rfl
  all_goals first | decide | exact absurd rfl h
 ·exfalso
  apply h
  unfold couF
  rw [if_neg (by omega), if_neg (by omega), if_neg (by omega)]
theorem al_opN {n : NodeD} {op : Int} (h : alF n = 0) (h1 : n.Op ≠ 1) (h2 : n.Op ≠ 2) (o1 : op ≠ 1) (o2 : op ≠ 2) (o3 : 1 ≤ op ∧ op ≤ 25) (hl : leastK op = leastK n.Op) (hm : mostK op = mostK n.Op) : alF (opN n op) = 0 := by
 obtain ⟨hV, hN⟩ := alF_plain h h1 h2
 obtain ⟨k1, k2, k3, k4, k5, k6⟩ := alF_kids h
 unfold alF
 rw [if_neg (by show ¬ (op < 1 ∨ 25 < op); omega), if_neg, if_neg (by show ¬ op = 1; exact o1), if_neg (by show ¬ (op = 2 ∧ _); exact fun x => o2 x.1)]
 rintro (g | g | g | g)
 ·have g : n.Kids < leastK op := g
  omega
 ·have g : mostK op < n.Kids := g
  omega
 ·have : ValueD.eqB n.V noV = true := by rw [hV]; rfl
  have g : ValueD.eqB n.V noV = false := g.2
  rw [this] at g; cases g
 ·exact g.2 hN
theorem al_not : alF notN = 0 := by decide
def AlT (t : Ex) : Prop := ∀ n ∈ t.flat, alF n = 0
theorem alT_root {n : NodeD} {ks : List Ex} (h : AlT (.mk n ks)) : alF n = 0 := h n (by rw [Ex.flat]; simp)
theorem alT_kids {n : NodeD} {ks : List Ex} (h : AlT (.mk n ks)) : ∀ m ∈ Ex.flats ks, alF m = 0 := fun m hm => h m (by rw [Ex.flat]; exact List.mem_append_left _ hm)
theorem alT_kid {n : NodeD} {ks : List Ex} (h : AlT (.mk n ks)) : ∀ k ∈ ks, AlT k := fun k hk m hm => alT_kids h m (flats_mem hk hm)
theorem alT_mk {n : NodeD} {ks : List Ex} (h : alF n = 0) (hk : ∀ m ∈ Ex.flats ks, alF m = 0) : AlT (.mk n ks) := by
 intro m hm
 rw [Ex.flat] at hm
 rcases List.mem_append.1 hm with hm | hm
 ·exact hk m hm
 ·rw [List.mem_singleton.1 hm]; exact h
theorem not_kids {n : NodeD} {ks : List Ex} (hg : (Ex.mk n ks).good) (ha : alF n = 0) (h4 : n.Op = 4) : ∃ k, ks = [k] := by
 rw [Ex.good] at hg
 obtain ⟨k1, k2, k3, k4, k5, k6⟩ := alF_kids ha
 rw [h4] at k3 k4
 have : leastK 4 = 1 := rfl
 have : mostK 4 = 1 := rfl
 exact List.length_eq_one_iff.1 (by omega)
theorem and_kids {n : NodeD} {ks : List Ex} (hg : (Ex.mk n ks).good) (ha : alF n = 0) (h : n.Op = 16 ∨ n.Op = 17) : ∃ a b, ks = [a, b] := by
 rw [Ex.good] at hg
 obtain ⟨k1, k2, k3, k4, k5, k6⟩ := alF_kids ha
 have hK : ks.length = 2 := by
  rcases h with g | g <;> rw [g] at k3 k4
  ·have : leastK 16 = 2 := rfl
   have : mostK 16 = 2 := rfl
   omega
  ·have : leastK 17 = 2 := rfl
   have : mostK 17 = 2 := rfl
   omega
 match ks, hK with
 | [a, b], _ => exact ⟨a, b, rfl⟩
theorem and_al {n : NodeD} (ha : alF n = 0) (h : n.Op = 16 ∨ n.Op = 17) (neg : Bool) : alF (opN n (if neg then 33 - n.Op else n.Op)) = 0 := by
 rcases h with g | g <;> cases neg <;> simp only [g, if_true, if_false, Bool.false_eq_true]
 all_goals
  refine al_opN ha (by omega) (by omega) (by decide) (by decide) (by decide) (by rw [g] <;> decide) (by rw [g] <;> decide)
mutual
theorem push_shape (neg : Bool) : ∀ t : Ex, t.good → AlT t → (pushE neg t).good ∧ AlT (pushE neg t)
 | .mk n ks, hg, ha => by
  have hr := alT_root ha
  have hg0 := hg
  rw [Ex.good] at hg
  by_cases h4 : n.Op = 4
  ·obtain ⟨k, rfl⟩ := not_kids hg0 hr h4
   have := pushs_shape (!neg) [k] hg.2 (alT_kids ha)
   rw [pushE_not neg h4]
   rw [pushEs, pushEs, Ex.goods, Ex.flats_one] at this
   exact ⟨this.1.1, this.2⟩
  ·by_cases h16 : n.Op = 16 ∨ n.Op = 17
   ·have := pushs_shape neg ks hg.2 (alT_kids ha)
    rw [pushE_and neg h16]
    refine ⟨?_, alT_mk (and_al hr h16 neg) this.2⟩
    rw [Ex.good, pushEs_map, List.length_map]
    rw [pushEs_map] at this
    exact ⟨hg.1, this.1⟩
   ·rw [pushE_else neg h4 h16]
    cases neg with
    | false => rw [if_neg (by simp)]; exact ⟨hg0, ha⟩
    | true =>
     rw [if_pos rfl]
     by_cases hc : couF n.Op = 0
     ·rw [if_neg (by rw [hc]; decide)]
      refine ⟨?_, alT_mk al_not (by rw [Ex.flats_one]; exact ha)⟩
      rw [Ex.good, Ex.goods, Ex.goods]
      exact ⟨rfl, hg0, trivial⟩
     ·rw [if_pos hc]
      obtain ⟨c1, c2, c3, c4, c5, c6⟩ := cou_range hc
      refine ⟨?_, alT_mk (al_opN hr (by omega) (by omega) (by omega) (by omega) (by omega) c4 c5) (alT_kids ha)⟩
      rw [Ex.good]
      exact hg
theorem pushs_shape (neg : Bool) : ∀ l : List Ex, Ex.goods l → (∀ m ∈ Ex.flats l, alF m = 0) → Ex.goods (pushEs neg l) ∧ ∀ m ∈ Ex.flats (pushEs neg l), alF m = 0
 | [], _, _ => by rw [pushEs]; exact ⟨by rw [Ex.goods]; trivial, fun m hm => by rw [Ex.flats] at hm; cases hm⟩
 | t :: l, hg, ha => by
  rw [Ex.goods] at hg
  rw [Ex.flats] at ha
  have h1 := push_shape neg t hg.1 fun m hm => ha m (List.mem_append_left _ hm)
  have h2 := pushs_shape neg l hg.2 fun m hm => ha m (List.mem_append_right _ hm)
  rw [pushEs, Ex.goods, Ex.flats]
  refine ⟨⟨h1.1, h2.1⟩, fun m hm => ?_⟩
  rcases List.mem_append.1 hm with hm | hm
  ·exact h1.2 m hm
  ·exact h2.2 m hm
end
theorem chk_sizes {t : Ex} (hg : t.good) (ha : AlT t) : checkF t.flat = 0 ∨ checkF t.flat = 2 ∨ checkF t.flat = 10 := by
 unfold checkF
 split
 ·exact .inr (.inl rfl)
 ·rw [chkO_flat hg ha, if_neg (by decide)]
  split
  ·exact .inr (.inr rfl)
  ·exact .inl rfl
theorem right_tree {t : Ex} (hg : t.good) (h : checkF t.flat = 0) : RightT t := by
 obtain ⟨u, hu, hf⟩ := right_of h
 rw [← flat_inj hu.good hg hf]; exact hu
mutual
theorem push_push (a b : Bool) : ∀ t : Ex, t.good → AlT t → pushE a (pushE b t) = pushE (a ^^ b) t
 | .mk n ks, hg, ha => by
  have hr := alT_root ha
  have hg0 := hg
  rw [Ex.good] at hg
  by_cases h4 : n.Op = 4
  ·obtain ⟨k, rfl⟩ := not_kids hg0 hr h4
   have := push_pushs a (!b) [k] hg.2 (alT_kids ha)
   rw [pushEs, pushEs, pushEs, pushEs, pushEs, pushEs] at this
   rw [pushE_not b h4, pushE_not (a ^^ b) h4, List.head_eq_of_cons_eq this]
   cases a <;> cases b <;> rfl
  ·by_cases h16 : n.Op = 16 ∨ n.Op = 17
   ·have := push_pushs a b ks hg.2 (alT_kids ha)
    have h17 : (opN n (if b then 33 - n.Op else n.Op)).Op = 16 ∨ (opN n (if b then 33 - n.Op else n.Op)).Op = 17 := by
     show (if b then 33 - n.Op else n.Op) = 16 ∨ (if b then 33 - n.Op else n.Op) = 17
     cases b <;> simp <;> omega
    rw [pushE_and b h16, pushE_and a h17, pushE_and (a ^^ b) h16, this]
    have e : opN (opN n (if b then 33 - n.Op else n.Op)) (if a then 33 - (opN n (if b then 33 - n.Op else n.Op)).Op else (opN n (if b then 33 - n.Op else n.Op)).Op) = opN n (if (a ^^ b) then 33 - n.Op else n.Op) := by
     unfold opN
     congr 1
     cases a <;> cases b <;> simp <;> omega
    rw [e]
   ·cases b with
    | false =>
     rw [pushE_else false h4 h16, if_neg (by simp), Bool.xor_false]
    | true =>
     rw [pushE_else true h4 h16, if_pos rfl]
     by_cases hc : couF n.Op = 0
     ·rw [if_neg (by rw [hc]; decide), pushE_not a (show notN.Op = 4 from rfl)]
      cases a <;> rfl
     ·rw [if_pos hc]
      obtain ⟨c1, c2, c3, c4, c5, c6⟩ := cou_range hc
      have d4 : (opN n (couF n.Op)).Op ≠ 4 := by show couF n.Op ≠ 4; omega
      have d16 : ¬ ((opN n (couF n.Op)).Op = 16 ∨ (opN n (couF n.Op)).Op = 17) := by show ¬ (couF n.Op = 16 ∨ couF n.Op = 17); omega
      rw [pushE_else a d4 d16, pushE_else (a ^^ true) h4 h16]
      cases a with
      | false =>
       rw [if_neg (by simp), Bool.false_xor, if_pos rfl, if_pos hc]
      | true =>
       rw [if_pos rfl, if_pos (by show couF (couF n.Op) ≠ 0; rw [c3]; omega), Bool.true_xor, if_neg (by simp)]
       show Ex.mk (opN (opN n (couF n.Op)) (couF (couF n.Op))) ks = _
       rw [c3]; rfl
theorem push_pushs (a b : Bool) : ∀ l : List Ex, Ex.goods l → (∀ m ∈ Ex.flats l, alF m = 0) → pushEs a (pushEs b l) = pushEs (a ^^ b) l
 | [], _, _ => by rw [pushEs, pushEs, pushEs]
 | t :: l, hg, ha => by
  rw [Ex.goods] at hg
  rw [Ex.flats] at ha
  rw [pushEs, pushEs, pushEs, push_push a b t hg.1 fun m hm => ha m (List.mem_append_left _ hm), push_pushs a b l hg.2 fun m hm => ha m (List.mem_append_right _ hm)]
end
theorem push_below (neg : Bool) : ∀ (N : Nat) (t : Ex), t.flat.length ≤ N → t.good → AlT t → ∀ m ks, pushE neg t = .mk m ks → m.Op = 4 → ∃ k js, ks = [.mk k js] ∧ (k.Op = 1 ∨ k.Op = 2 ∨ k.Op = 3 ∨ (5 ≤ k.Op ∧ k.Op ≤ 9))
 | 0, t, hN, _, _, _, _, _, _ => by have := t.flat_pos; omega
 | N + 1, .mk n ls, hN, hg, ha, m, ks, he, hm => by
  have hr := alT_root ha
  have hg0 := hg
  rw [Ex.good] at hg
  rw [Ex.flat, List.length_append, List.length_singleton] at hN
  by_cases h4 : n.Op = 4
  ·obtain ⟨k, rfl⟩ := not_kids hg0 hr h4
   rw [pushE_not neg h4] at he
   rw [Ex.flats_one] at hN
   rw [Ex.goods] at hg
   exact push_below (!neg) N k (by omega) hg.2.1 (alT_kid ha k (List.mem_singleton.2 rfl)) m ks he hm
  ·by_cases h16 : n.Op = 16 ∨ n.Op = 17
   ·rw [pushE_and neg h16] at he
    obtain ⟨rfl, _⟩ := Ex.mk.inj he
    have hm : (if neg then 33 - n.Op else n.Op) = 4 := hm
    exfalso
    cases neg <;> simp at hm <;> omega
   ·rw [pushE_else neg h4 h16] at he
    obtain ⟨k1, k2, k3, k4, k5, k6⟩ := alF_kids hr
    cases neg with
    | false =>
     rw [if_neg (by simp)] at he
     obtain ⟨rfl, _⟩ := Ex.mk.inj he
     exact absurd hm h4
    | true =>
     rw [if_pos rfl] at he
     by_cases hc : couF n.Op = 0
     ·rw [if_neg (by rw [hc]; decide)] at he
      obtain ⟨_, rfl⟩ := Ex.mk.inj he
      refine ⟨n, ls, rfl, ?_⟩
      have h10 : ¬ (10 ≤ n.Op) := by
       intro h
       unfold couF at hc
       split at hc
       ·omega
       ·split at hc
        ·omega
        ·split at hc
         ·omega
         ·omega
      omega
     ·rw [if_pos hc] at he
      obtain ⟨c1, c2, c3, c4, c5, c6⟩ := cou_range hc
      obtain ⟨rfl, _⟩ := Ex.mk.inj he
      have hm : couF n.Op = 4 := hm
      omega
end Go.Proofs.YtpkifeagopceaaaDoor.Pm
end
section
namespace Go.Proofs.YtpkifeagopceaaaDoor.Pm
open Go.RowKit K
set_option linter.unusedVariables false
set_option linter.unusedSimpArgs false
set_option maxRecDepth 100000
theorem mea_tol {t : Int} (h : IsT t) : meaV (tolV t) = (t, 0) := by rcases h with rfl | rfl | rfl <;> rfl
theorem mea_isT (v : ValueD) : IsT (meaV v).1 := by
 unfold meaV
 split
 ·exact .inr (.inl rfl)
 ·split
  ·exact isT_of _
  ·exact .inl rfl
theorem tnot_not {t : Int} (h : IsT t) : tNot (tNot t) = t := by rcases h with rfl | rfl | rfl <;> rfl
theorem ask_isT (op : Int) (k : List ValueD) : IsT (askV op k).1 := by
 unfold askV
 by_cases a1 : op = 10
 ·rw [if_pos a1]; exact isT_same _ _
 rw [if_neg a1]
 by_cases a2 : op = 12
 ·rw [if_pos a2]; exact isT_less _ _
 rw [if_neg a2]
 by_cases a3 : op = 14
 ·rw [if_pos a3]; exact isT_less _ _
 rw [if_neg a3]
 by_cases a4 : op = 18
 ·rw [if_pos a4]; exact isT_of _
 rw [if_neg a4]
 by_cases a5 : op = 22
 ·rw [if_pos a5]; exact isT_any _
 rw [if_neg a5]
 by_cases a6 : op = 24
 ·rw [if_pos a6]; exact isT_and _ _
 rw [if_neg a6]
 by_cases a7 : op = 20
 ·rw [if_pos a7]
  unfold likV
  split
  ·exact .inl rfl
  ·split
   ·exact .inr (.inl rfl)
   ·exact isT_of _
 rw [if_neg a7]
 unfold joiV
 split
 ·exact .inl rfl
 ·show IsT (if op = 16 then _ else _)
  split
  ·exact isT_all _
  ·split
   ·exact isT_any _
   ·exact isT_not _
def tvR (r : Except Int ValueD) : Option Int := match r with
 | .ok v => if (meaV v).2 = 0 then some (meaV v).1 else none
 | .error _ => none
theorem tvR_isT {r : Except Int ValueD} {x : Int} (h : tvR r = some x) : IsT x := by
 unfold tvR at h
 split at h
 ·split at h
  ·cases h; exact mea_isT _
  ·cases h
 ·cases h
theorem tvR_tol {t : Int} (h : IsT t) : tvR (.ok (tolV t)) = some t := by
 unfold tvR
 rw [show (match (Except.ok (tolV t) : Except Int ValueD) with | .ok v => if (meaV v).2 = 0 then some (meaV v).1 else none | .error _ => none) = if (meaV (tolV t)).2 = 0 then some (meaV (tolV t)).1 else none from rfl, mea_tol h]
 rfl
theorem nodF_ask {look : Look} {n : NodeD} {k : List ValueD} (h1 : n.Op ≠ 1) (h2 : n.Op ≠ 2) (h3 : ¬ (n.Op = 3 ∨ (5 ≤ n.Op ∧ n.Op ≤ 9))) : tvR (nodF look n k) = if (askV (if negB n.Op then couF n.Op else n.Op) k).2 ≠ 0 then none else some (if negB n.Op then tNot (askV (if negB n.Op then couF n.Op else n.Op) k).1 else (askV (if negB n.Op then couF n.Op else n.Op) k).1) := by
 have e : nodV look n k = if (askV (if negB n.Op then couF n.Op else n.Op) k).2 ≠ 0 then (noV, (askV (if negB n.Op then couF n.Op else n.Op) k).2) else (tolV (if negB n.Op then tNot (askV (if negB n.Op then couF n.Op else n.Op) k).1 else (askV (if negB n.Op then couF n.Op else n.Op) k).1), 0) := by
  unfold nodV
  rw [if_neg h1, if_neg h2, if_neg h3]
 unfold nodF
 rw [e]
 by_cases g : (askV (if negB n.Op then couF n.Op else n.Op) k).2 ≠ 0
 ·rw [if_pos g, if_pos g, if_neg g]; rfl
 ·rw [if_neg g, if_neg g, if_pos rfl]
  refine tvR_tol ?_
  split
  ·exact isT_not _
  ·exact ask_isT _ _
noncomputable def tvo (look : Look) (t : Ex) : Option Int := tvR (foldX (nodF look) t)
theorem tvo_not (look : Look) {n : NodeD} {k : Ex} (h : n.Op = 4) : tvo look (.mk n [k]) = (tvo look k).map tNot := by
 unfold tvo
 rw [foldX, foldXs, foldXs]
 cases foldX (nodF look) k with
 | error x => rfl
 | ok v =>
  show tvR (nodF look n [v]) = _
  rw [nodF_ask (by omega) (by omega) (by omega), h]
  have en : negB 4 = false := by decide
  have ea : askV 4 [v] = joiV 4 [v] := by simp [askV]
  simp only [en, Bool.false_eq_true, if_false, ea]
  unfold joiV tvR
  by_cases g : (meaV v).2 = 0
  ·simp [g]
  ·simp [g]
theorem tvo_two (look : Look) {n : NodeD} {a b : Ex} (h : n.Op = 16 ∨ n.Op = 17) : tvo look (.mk n [a, b]) = match tvo look a, tvo look b with
  | some x, some y => some (if n.Op = 16 then tAll [x, y] else tAny [x, y])
  | _, _ => none := by
 unfold tvo
 rw [foldX, foldXs, foldXs, foldXs]
 cases foldX (nodF look) a with
 | error x => rfl
 | ok u =>
  cases foldX (nodF look) b with
  | error x =>
   show none = match tvR (.ok u), tvR (.error x) with
    | some x, some y => some (if n.Op = 16 then tAll [x, y] else tAny [x, y])
    | _, _ => none
   cases tvR (.ok u) <;> rfl
  | ok v =>
   show tvR (nodF look n [u, v]) = _
   rw [nodF_ask (by omega) (by omega) (by omega)]
   have en : negB n.Op = false := by rcases h with g | g <;> rw [g] <;> decide
   have ea : askV n.Op [u, v] = joiV n.Op [u, v] := by rcases h with g | g <;> rw [g] <;> simp [askV]
   simp only [en, Bool.false_eq_true, if_false, ea]
   unfold joiV tvR
   by_cases g1 : (meaV u).2 = 0
   ·by_cases g2 : (meaV v).2 = 0
    ·rcases h with g | g <;> simp [g1, g2, g]
    ·simp [g1, g2]
   ·simp [g1]
theorem de_morgan {x y : Int} (hx : IsT x) (hy : IsT y) : tNot (tAll [x, y]) = tAny [tNot x, tNot y] ∧ tNot (tAny [x, y]) = tAll [tNot x, tNot y] := by
 rcases hx with rfl | rfl | rfl <;> rcases hy with rfl | rfl | rfl <;> decide
theorem push_tv (look : Look) : ∀ (N : Nat) (t : Ex), t.flat.length ≤ N → t.good → AlT t → tvo look (pushE false t) = tvo look t ∧ tvo look (pushE true t) = (tvo look t).map tNot
 | 0, t, hN, _, _ => by have := t.flat_pos; omega
 | N + 1, .mk n ks, hN, hg, ha => by
  have hr := alT_root ha
  have hg0 := hg
  rw [Ex.good] at hg
  rw [Ex.flat, List.length_append, List.length_singleton] at hN
  have nn : ∀ t : Ex, ((tvo look t).map tNot).map tNot = tvo look t := by
   intro t
   cases hx : tvo look t with
   | none => rfl
   | some x => show some (tNot (tNot x)) = _; rw [tnot_not (tvR_isT hx)]
  by_cases h4 : n.Op = 4
  ·obtain ⟨k, rfl⟩ := not_kids hg0 hr h4
   rw [Ex.flats_one] at hN
   rw [Ex.goods] at hg
   obtain ⟨p1, p2⟩ := push_tv look N k (by omega) hg.2.1 (alT_kid ha k (List.mem_singleton.2 rfl))
   rw [pushE_not _ h4, pushE_not _ h4, tvo_not look h4]
   exact ⟨p2, by rw [nn]; exact p1⟩
  ·by_cases h16 : n.Op = 16 ∨ n.Op = 17
   ·obtain ⟨a, b, rfl⟩ := and_kids hg0 hr h16
    rw [Ex.flats, Ex.flats_one, List.length_append] at hN
    rw [Ex.goods, Ex.goods] at hg
    have pa := a.flat_pos
    have pb := b.flat_pos
    obtain ⟨a1, a2⟩ := push_tv look N a (by omega) hg.2.1 (alT_kid ha a (by simp))
    obtain ⟨b1, b2⟩ := push_tv look N b (by omega) hg.2.2.1 (alT_kid ha b (by simp))
    rw [pushE_and _ h16, pushE_and _ h16, pushEs, pushEs, pushEs, pushEs, pushEs, pushEs]
    have hf : (if (false : Bool) = true then 33 - n.Op else n.Op) = n.Op := rfl
    have ht : (if (true : Bool) = true then 33 - n.Op else n.Op) = 33 - n.Op := rfl
    have e1 := tvo_two look (n := opN n n.Op) (a := pushE false a) (b := pushE false b) h16
    have e2 := tvo_two look (n := opN n (33 - n.Op)) (a := pushE true a) (b := pushE true b) (show 33 - n.Op = 16 ∨ 33 - n.Op = 17 by omega)
    rw [hf, ht, e1, e2, tvo_two look h16, a1, a2, b1, b2]
    refine ⟨rfl, ?_⟩
    cases hx : tvo look a with
    | none => rfl
    | some x =>
     cases hy : tvo look b with
     | none => rfl
     | some y =>
      obtain ⟨d1, d2⟩ := de_morgan (tvR_isT hx) (tvR_isT hy)
      show some (if 33 - n.Op = 16 then tAll [tNot x, tNot y] else tAny [tNot x, tNot y]) = some (tNot (if n.Op = 16 then tAll [x, y] else tAny [x, y]))
      rcases h16 with g | g
      ·rw [g, if_neg (by decide), if_pos rfl, d1]
      ·rw [g, if_pos (by decide), if_neg (by decide), d2]
   ·rw [pushE_else _ h4 h16, pushE_else _ h4 h16, if_neg (by simp), if_pos rfl]
    refine ⟨rfl, ?_⟩
    by_cases hc : couF n.Op = 0
    ·rw [if_neg (by rw [hc]; decide), tvo_not look (show notN.Op = 4 from rfl)]
    ·rw [if_pos hc]
     obtain ⟨c1, c2, c3, c4, c5, c6⟩ := cou_range hc
     unfold tvo
     rw [foldX, foldX]
     cases foldXs (nodF look) ks with
     | error x => rfl
     | ok vs =>
      show tvR (nodF look (opN n (couF n.Op)) vs) = (tvR (nodF look n vs)).map tNot
      have e : (opN n (couF n.Op)).Op = couF n.Op := rfl
      rw [nodF_ask (by rw [e]; omega) (by rw [e]; omega) (by rw [e]; omega), nodF_ask (by omega) (by omega) (by omega), e, c6, c3]
      cases hb : negB n.Op with
      | true =>
       simp only [Bool.not_true, Bool.false_eq_true, if_false, if_true]
       by_cases g : (askV (couF n.Op) vs).2 = 0
       ·simp only [g, ne_eq, not_true_eq_false, if_false, Option.map_some]
        rw [tnot_not (ask_isT _ _)]
       ·simp [g]
      | false =>
       simp only [Bool.not_false, Bool.false_eq_true, if_false, if_true]
       by_cases g : (askV n.Op vs).2 = 0
       ·simp [g]
       ·simp [g]
theorem truR_tv {r s : Except Int ValueD} (hr : ∀ x, r = .error x → x ≠ 0) (hs : ∀ x, s = .error x → x ≠ 0) (h : tvR r = tvR s) : (truR r).1 = (truR s).1 ∧ ((truR r).2 = 0 ↔ (truR s).2 = 0) := by
 have one : ∀ r : Except Int ValueD, (∀ x, r = .error x → x ≠ 0) → (tvR r = none ∧ (truR r).1 = 0 ∧ (truR r).2 ≠ 0) ∨ ∃ x, tvR r = some x ∧ truR r = (x, 0) := by
  intro r hr
  cases r with
  | error x => exact .inl ⟨rfl, rfl, hr x rfl⟩
  | ok v =>
   by_cases g : (meaV v).2 = 0
   ·refine .inr ⟨(meaV v).1, if_pos g, ?_⟩
    show meaV v = _
    rw [← g]
   ·refine .inl ⟨if_neg g, ?_, g⟩
    show (meaV v).1 = 0
    unfold meaV at g ⊢
    split
    ·rename_i q; rw [if_pos q] at g; exact absurd rfl g
    ·rename_i q
     rw [if_neg q] at g
     split
     ·rename_i q2; rw [if_pos q2] at g; exact absurd rfl g
     ·rfl
 rcases one r hr with ⟨a1, a2, a3⟩ | ⟨x, a1, a2⟩ <;> rcases one s hs with ⟨b1, b2, b3⟩ | ⟨y, b1, b2⟩
 ·exact ⟨by rw [a2, b2], ⟨fun q => absurd q a3, fun q => absurd q b3⟩⟩
 ·rw [a1, b1] at h; cases h
 ·rw [a1, b1] at h; cases h
 ·rw [a1, b1] at h
  cases h
  rw [a2, b2]
  exact ⟨rfl, Iff.rfl⟩
end Go.Proofs.YtpkifeagopceaaaDoor.Pm
end
section
namespace Go.Proofs.YtpkifeagopceaaaDoor.Pm
open Go.RowKit K
set_option linter.unusedVariables false
set_option linter.unusedSimpArgs false
set_option maxRecDepth 100000
theorem law_EvalMore (e : List NodeD) (he : okNs e) (cols : List (List UInt8)) (hc : okSl (Tryd.prog.bytesOf 9) okText cols) (row : List ValueD) (hr : okVs row) (name : List UInt8) (hn : okText name) (more : ValueD) (hm : ValueD.ok more) : Pure Tryd.prog 3 [slV 6 NodeD.c e, slV 1 eText cols, slV 3 ValueD.c row, pStr (tx name), vV more] (pBool true) := by
 have p1 := p_eval e (okNs_hn he) cols row (okVs_len hr) (okVs_in hr)
 have pc := p_vcheckref more
 refine pure_of Tryd.func3 (by rfl) rfl (by kernel_rfl) (by rfl) ?_
 cases hv : evalF e cols row with
 | error x =>
  have hx := evalF_err hv
  rw [hv] at p1
  have p1 : Pure _ _ _ (.tup [vV noV, pInt .i64 x]) := p1
  ((conv => whnf); repeat' ((first | (with_reducible first | apply a_ | apply b_ | apply c_) | ((with_reducible first | apply d_ | apply e_ | apply f_ | apply g_); focus first | omega | (simp only [q_] <;> omega)) | ((with_reducible first | apply i_ | apply h_); focus first | omega | (simp only [q_] <;> omega)) | ((with_reducible apply h_); focus first | decide | kernel_rfl) | refine BCase.t (by decide) ?_ | refine BCase.f (by decide) ?_ | refine CallP.pure _ rfl _ (p1) ?_ | refine CallP.pure _ rfl _ (p_evalbegun) ?_ | refine CallP.pure _ rfl _ (pc) ?_ | with_reducible first | apply l_ | apply m_ | apply n_ | apply o_ | refine p_ (fun _ => ?_) (fun _ => ?_)) <;> (conv => whnf)))
  all_goals first | exact Ret.bool (by decide) | (exact Ret.bool (by simp)) | (exfalso; omega)
 | ok v =>
  rw [hv] at p1
  have p1 : Pure _ _ _ (.tup [vV v, pInt .i64 0]) := p1
  by_cases h8 : 8 ≤ cols.length
  ·((conv => whnf); repeat' ((first | (with_reducible first | apply a_ | apply b_ | apply c_) | ((with_reducible first | apply d_ | apply e_ | apply f_ | apply g_); focus first | omega | (simp only [q_] <;> omega)) | ((with_reducible first | apply i_ | apply h_); focus first | omega | (simp only [q_] <;> omega)) | ((with_reducible apply h_); focus first | decide | kernel_rfl) | refine BCase.t (by decide) ?_ | refine BCase.f (by decide) ?_ | refine CallP.pure _ rfl _ (p1) ?_ | refine CallP.pure _ rfl _ (p_evalbegun) ?_ | refine CallP.pure _ rfl _ (pc) ?_ | with_reducible first | apply l_ | apply m_ | apply n_ | apply o_ | refine p_ (fun _ => ?_) (fun _ => ?_)) <;> (conv => whnf)))
   all_goals first | exact Ret.bool (by decide) | (exact Ret.bool (by simp)) | (exfalso; omega)
  ·by_cases hc2 : vChk more = 0
   ·have hs : scopeE e cols row = 0 := by
     unfold evalF at hv
     split at hv
     ·cases hv
     ·rename_i q; exact Decidable.of_not_not q
    obtain ⟨h1, h2, h3, h4⟩ := scope_ok hs
    have p2 := p_eval e (okNs_hn he) (cols ++ [name]) (row ++ [more]) (by rw [List.length_append, List.length_singleton]; omega) (fun v hv => by
     rcases List.mem_append.1 hv with hv | hv
     ·exact okVs_in hr v hv
     ·rw [List.mem_singleton.1 hv]; exact hm.2.1)
    rw [evalF_more hv (by omega) hc2] at p2
    have p2 : Pure _ _ _ (.tup [vV v, pInt .i64 0]) := p2
    have e1 : slV 1 eText (cols ++ [name]) = .d (.c (.sl 1 ([] ++ cols.map eText ++ [eText name]))) := by unfold slV; rw [List.map_append]; rfl
    have e2 : slV 3 ValueD.c (row ++ [more]) = .d (.c (.sl 3 ([] ++ row.map ValueD.c ++ [more.c]))) := by unfold slV; rw [List.map_append]; rfl
    rw [e1, e2] at p2
    rw [hc2] at pc
    ((conv => whnf); repeat' ((first | (with_reducible first | apply a_ | apply b_ | apply c_) | ((with_reducible first | apply d_ | apply e_ | apply f_ | apply g_); focus first | omega | (simp only [q_] <;> omega)) | ((with_reducible first | apply i_ | apply h_); focus first | omega | (simp only [q_] <;> omega)) | ((with_reducible apply h_); focus first | decide | kernel_rfl) | refine BCase.t (by decide) ?_ | refine BCase.f (by decide) ?_ | refine CallP.pure _ rfl _ (p1) ?_ | refine CallP.pure _ rfl _ (p_evalbegun) ?_ | refine CallP.pure _ rfl _ (pc) ?_ | refine CallP.pure _ rfl _ (p2) ?_ | (refine Need.by 16 rfl (by simp only [List.length_map, List.length_append, List.length_nil, List.length_singleton]; omega) ?_) | (refine Need.by 32 rfl (by simp only [List.length_map, List.length_append, List.length_nil, List.length_singleton]; omega) ?_) | with_reducible first | apply l_ | apply m_ | apply n_ | apply o_ | refine p_ (fun _ => ?_) (fun _ => ?_)) <;> (conv => whnf)))
    all_goals first | exact Ret.bool (by decide) | (exact Ret.bool (by simp)) | (exfalso; omega)
   ·((conv => whnf); repeat' ((first | (with_reducible first | apply a_ | apply b_ | apply c_) | ((with_reducible first | apply d_ | apply e_ | apply f_ | apply g_); focus first | omega | (simp only [q_] <;> omega)) | ((with_reducible first | apply i_ | apply h_); focus first | omega | (simp only [q_] <;> omega)) | ((with_reducible apply h_); focus first | decide | kernel_rfl) | refine BCase.t (by decide) ?_ | refine BCase.f (by decide) ?_ | refine CallP.pure _ rfl _ (p1) ?_ | refine CallP.pure _ rfl _ (p_evalbegun) ?_ | refine CallP.pure _ rfl _ (pc) ?_ | with_reducible first | apply l_ | apply m_ | apply n_ | apply o_ | refine p_ (fun _ => ?_) (fun _ => ?_)) <;> (conv => whnf)))
    all_goals first | exact Ret.bool (by decide) | (exact Ret.bool (by simp)) | (exfalso; omega)
theorem evalF_tree {t : Ex} (ht : RightT t) (cols : List (List UInt8)) (row : List ValueD) : evalF t.flat cols row = if scopeE t.flat cols row ≠ 0 then .error (scopeE t.flat cols row) else foldX (nodF (lookC cols row)) t := by
 unfold evalF
 rw [walkR_fold _ _ ht.good]
theorem scope_same {e m : List NodeD} (h : checkF e = checkF m) (cols : List (List UInt8)) (row : List ValueD) : scopeE e cols row = scopeE m cols row := by unfold scopeE; rw [h]
theorem evalF_fold {t : Ex} (ht : RightT t) (hn : HN t.flat) (cols : List (List UInt8)) (row : List ValueD) : evalF (foldE t).flat cols row = evalF t.flat cols row := by
 have hf := fold_right ht hn
 rw [evalF_tree hf, evalF_tree ht, foldE_val, scope_same ((check_right hf).trans (check_right ht).symm)]
theorem foldE_hn {t : Ex} (h : NInT t) (hn : HN t.flat) : HN (foldE t).flat := by
 intro n hm
 refine ⟨?_, (foldE_nin t h n hm).2⟩
 have := (foldE_nin t h n hm).1
 exact fold_names t hn n hm
theorem law_FoldSame (e : List NodeD) (he : okNs e) (cols : List (List UInt8)) (hc : okSl (Tryd.prog.bytesOf 9) okText cols) (row : List ValueD) (hr : okVs row) : Pure Tryd.prog 4 [slV 6 NodeD.c e, slV 1 eText cols, slV 3 ValueD.c row] (pBool true) := by
 have p1 := p_Fold e (okNs_hn he)
 have p2 := p_eval e (okNs_hn he) cols row (okVs_len hr) (okVs_in hr)
 obtain ⟨v, x, hv⟩ := eVal_pair (evalF e cols row)
 refine pure_of Tryd.func4 (by rfl) rfl (by kernel_rfl) (by rfl) ?_
 by_cases h : checkF e = 0
 ·obtain ⟨t, ht, rfl⟩ := right_of h
  have hN := nin_tree ht (okNs_hn he)
  have hf := fold_right ht (okNs_hn he)
  have hH := foldE_hn hN (okNs_hn he)
  have p3 := p_eval (foldE t).flat hH cols row (okVs_len hr) (okVs_in hr)
  have p4 := p_Fold (foldE t).flat hH
  rw [evalF_fold ht (okNs_hn he), hv] at p3
  rw [foldA_tree ht] at p1
  rw [foldA_tree hf, fold_fold] at p4
  rw [hv] at p2
  have hl := ht.len
  have hs := foldE_short t
  have p5 := p_samenodes (foldE t).flat (foldE t).flat (by omega)
  rw [listEq_refl] at p5
  ((conv => whnf); repeat' ((first | (with_reducible first | apply a_ | apply b_ | apply c_) | ((with_reducible first | apply d_ | apply e_ | apply f_ | apply g_); focus first | omega | (simp only [q_] <;> omega)) | ((with_reducible first | apply i_ | apply h_); focus first | omega | (simp only [q_] <;> omega)) | ((with_reducible apply h_); focus first | decide | kernel_rfl) | refine BCase.t (by decide) ?_ | refine BCase.f (by decide) ?_ | refine CallP.pure _ rfl _ (p1) ?_ | refine CallP.pure _ rfl _ (p_evalbegun) ?_ | refine CallP.pure _ rfl _ (p2) ?_ | refine CallP.pure _ rfl _ (p3) ?_ | refine CallP.pure _ rfl _ (p4) ?_ | refine CallP.pure _ rfl _ (p5) ?_ | with_reducible first | apply l_ | apply m_ | apply n_ | apply o_ | refine p_ (fun _ => ?_) (fun _ => ?_)) <;> (conv => whnf)))
  all_goals first | exact Ret.bool (by decide) | (exact Ret.bool (by simp)) | (exfalso; omega)
 ·have hA : foldA e = ([], checkF e) := by unfold foldA; rw [if_pos h]
  have hS : scopeE e cols row = checkF e := by unfold scopeE; rw [if_pos h]
  have hE : evalF e cols row = .error (checkF e) := by unfold evalF; rw [hS, if_pos h]
  rw [hA] at p1
  rw [hE] at p2
  have p2 : Pure _ _ _ (.tup [vV noV, pInt .i64 (checkF e)]) := p2
  ((conv => whnf); repeat' ((first | (with_reducible first | apply a_ | apply b_ | apply c_) | ((with_reducible first | apply d_ | apply e_ | apply f_ | apply g_); focus first | omega | (simp only [q_] <;> omega)) | ((with_reducible first | apply i_ | apply h_); focus first | omega | (simp only [q_] <;> omega)) | ((with_reducible apply h_); focus first | decide | kernel_rfl) | refine BCase.t (by decide) ?_ | refine BCase.f (by decide) ?_ | refine CallP.pure _ rfl _ (p1) ?_ | refine CallP.pure _ rfl _ (p_evalbegun) ?_ | refine CallP.pure _ rfl _ (p2) ?_ | with_reducible first | apply l_ | apply m_ | apply n_ | apply o_ | refine p_ (fun _ => ?_) (fun _ => ?_)) <;> (conv => whnf)))
  all_goals first | exact Ret.bool (by decide) | (exact Ret.bool (by simp)) | (exfalso; omega)
theorem law_PushSame (e : List NodeD) (he : okNs e) (cols : List (List UInt8)) (hc : okSl (Tryd.prog.bytesOf 9) okText cols) (row : List ValueD) (hr : okVs row) : Pure Tryd.prog 5 [slV 6 NodeD.c e, slV 1 eText cols, slV 3 ValueD.c row] (pBool true) := by
 have p2 := p_truthE e (okNs_hn he) cols row (okVs_len hr) (okVs_in hr)
 refine pure_of Tryd.func5 (by rfl) rfl (by kernel_rfl) (by rfl) ?_
 by_cases h : checkF e = 0
 ·obtain ⟨t, ht, rfl⟩ := right_of h
  have p1 := p_Push t ht (okNs_hn he)
  unfold pushA at p1
  by_cases hq : checkF (pushE false t).flat = 0
  ·rw [if_neg (by rw [hq]; decide)] at p1
   have hg := (push_shape false t ht.good ht.all).1
   have p3 := p_truthE (pushE false t).flat (pushE_hn false t (okNs_hn he)) cols row (okVs_len hr) (okVs_in hr)
   have hsame : (truR (evalF (pushE false t).flat cols row)).1 = (truR (evalF t.flat cols row)).1 ∧ ((truR (evalF (pushE false t).flat cols row)).2 = 0 ↔ (truR (evalF t.flat cols row)).2 = 0) := by
    refine truR_tv (fun x => evalF_err) (fun x => evalF_err) ?_
    rw [evalF_tree ht]
    unfold evalF
    rw [scope_same (hq.trans (check_right ht).symm), walkR_fold _ _ hg]
    split
    ·rfl
    ·exact (push_tv (lookC cols row) _ t (Nat.le_refl _) ht.good ht.all).1
   obtain ⟨s1, s2⟩ := hsame
   rw [s1] at p3
   generalize (truR (evalF (pushE false t).flat cols row)).2 = a at p3 s2
   generalize (truR (evalF t.flat cols row)).2 = b at p2 s2
   by_cases hb : b = 0
   ·have ha := s2.2 hb
    subst ha hb
    ((conv => whnf); repeat' ((first | (with_reducible first | apply a_ | apply b_ | apply c_) | ((with_reducible first | apply d_ | apply e_ | apply f_ | apply g_); focus first | omega | (simp only [q_] <;> omega)) | ((with_reducible first | apply i_ | apply h_); focus first | omega | (simp only [q_] <;> omega)) | ((with_reducible apply h_); focus first | decide | kernel_rfl) | refine BCase.t (by decide) ?_ | refine BCase.f (by decide) ?_ | refine CallP.pure _ rfl _ (p1) ?_ | refine CallP.pure _ rfl _ (p_evalbegun) ?_ | refine CallP.pure _ rfl _ (p2) ?_ | refine CallP.pure _ rfl _ (p3) ?_ | with_reducible first | apply l_ | apply m_ | apply n_ | apply o_ | refine p_ (fun _ => ?_) (fun _ => ?_)) <;> (conv => whnf)))
    all_goals first | exact Ret.bool (by decide) | (exact Ret.bool (by simp)) | (exfalso; omega)
   ·have ha : a ≠ 0 := fun q => hb (s2.1 q)
    ((conv => whnf); repeat' ((first | (with_reducible first | apply a_ | apply b_ | apply c_) | ((with_reducible first | apply d_ | apply e_ | apply f_ | apply g_); focus first | omega | (simp only [q_] <;> omega)) | ((with_reducible first | apply i_ | apply h_); focus first | omega | (simp only [q_] <;> omega)) | ((with_reducible apply h_); focus first | decide | kernel_rfl) | refine BCase.t (by decide) ?_ | refine BCase.f (by decide) ?_ | refine CallP.pure _ rfl _ (p1) ?_ | refine CallP.pure _ rfl _ (p_evalbegun) ?_ | refine CallP.pure _ rfl _ (p2) ?_ | refine CallP.pure _ rfl _ (p3) ?_ | with_reducible first | apply l_ | apply m_ | apply n_ | apply o_ | refine p_ (fun _ => ?_) (fun _ => ?_)) <;> (conv => whnf)))
    all_goals first | exact Ret.bool (by decide) | (exact Ret.bool (by simp [ha, hb])) | (exfalso; omega)
  ·rw [if_pos hq] at p1
   ((conv => whnf); repeat' ((first | (with_reducible first | apply a_ | apply b_ | apply c_) | ((with_reducible first | apply d_ | apply e_ | apply f_ | apply g_); focus first | omega | (simp only [q_] <;> omega)) | ((with_reducible first | apply i_ | apply h_); focus first | omega | (simp only [q_] <;> omega)) | ((with_reducible apply h_); focus first | decide | kernel_rfl) | refine BCase.t (by decide) ?_ | refine BCase.f (by decide) ?_ | refine CallP.pure _ rfl _ (p1) ?_ | refine CallP.pure _ rfl _ (p_evalbegun) ?_ | refine CallP.pure _ rfl _ (p2) ?_ | with_reducible first | apply l_ | apply m_ | apply n_ | apply o_ | refine p_ (fun _ => ?_) (fun _ => ?_)) <;> (conv => whnf)))
   all_goals first | exact Ret.bool (by decide) | (exact Ret.bool (by simp)) | (exfalso; omega)
 ·have p1 := p_Push_bad e (okNs_hn he) h
  ((conv => whnf); repeat' ((first | (with_reducible first | apply a_ | apply b_ | apply c_) | ((with_reducible first | apply d_ | apply e_ | apply f_ | apply g_); focus first | omega | (simp only [q_] <;> omega)) | ((with_reducible first | apply i_ | apply h_); focus first | omega | (simp only [q_] <;> omega)) | ((with_reducible apply h_); focus first | decide | kernel_rfl) | refine BCase.t (by decide) ?_ | refine BCase.f (by decide) ?_ | refine CallP.pure _ rfl _ (p1) ?_ | refine CallP.pure _ rfl _ (p_evalbegun) ?_ | refine CallP.pure _ rfl _ (p2) ?_ | with_reducible first | apply l_ | apply m_ | apply n_ | apply o_ | refine p_ (fun _ => ?_) (fun _ => ?_)) <;> (conv => whnf)))
  all_goals first | exact Ret.bool (by decide) | (exact Ret.bool (by simp)) | (exfalso; omega)
abbrev notT (t : Ex) : Ex := .mk notN [t]
theorem notT_flat (t : Ex) : (notT t).flat = t.flat ++ [notN] := by rw [Ex.flat, Ex.flats_one]
theorem notT_good {t : Ex} (h : t.good) : (notT t).good := by rw [Ex.good, Ex.goods, Ex.goods]; exact ⟨rfl, h, trivial⟩
theorem notT_al {t : Ex} (h : AlT t) : AlT (notT t) := alT_mk al_not (by rw [Ex.flats_one]; exact h)
theorem notT_hn {t : Ex} (h : HN t.flat) : HN (notT t).flat := hn_mk hn_not (by rw [Ex.flats_one]; exact h)
theorem push_not_goes {t : Ex} (hg : t.good) (ha : AlT t) (hn : HN t.flat) : ∃ m x, Pure Tryd.prog 13 [slV 6 NodeD.c (t.flat ++ [notN])] (.tup [slV 6 NodeD.c m, pInt .i64 x]) ∧ ((x = 2 ∨ x = 10) ∧ m = [] ∨ x = 0 ∧ m = (pushE true t).flat ∧ checkF (pushE true t).flat = 0) := by
 have hg1 := notT_good hg
 have ha1 := notT_al ha
 have hn1 := notT_hn hn
 rw [← notT_flat]
 have hp : pushE false (notT t) = pushE true t := pushE_not false rfl
 rcases chk_sizes hg1 ha1 with h | h | h
 ·have p := p_Push (notT t) (right_tree hg1 h) hn1
  unfold pushA at p
  rw [hp] at p
  obtain ⟨g2, a2⟩ := push_shape true t hg ha
  rcases chk_sizes g2 a2 with q | q | q
  ·rw [if_neg (by rw [q]; decide)] at p
   exact ⟨_, _, p, .inr ⟨rfl, rfl, q⟩⟩
  ·rw [if_pos (by rw [q]; decide), q] at p
   exact ⟨_, _, p, .inl ⟨.inl rfl, rfl⟩⟩
  ·rw [if_pos (by rw [q]; decide), q] at p
   exact ⟨_, _, p, .inl ⟨.inr rfl, rfl⟩⟩
 ·have p := p_Push_bad (notT t).flat hn1 (by rw [h]; decide)
  rw [h] at p
  exact ⟨_, _, p, .inl ⟨.inl rfl, rfl⟩⟩
 ·have p := p_Push_bad (notT t).flat hn1 (by rw [h]; decide)
  rw [h] at p
  exact ⟨_, _, p, .inl ⟨.inr rfl, rfl⟩⟩
set_option maxHeartbeats 4000000 in
theorem law_PushDown (e : List NodeD) (he : okNs e) : Pure Tryd.prog 6 [slV 6 NodeD.c e] (pBool true) := by
 refine pure_of Tryd.func6 (by rfl) rfl (by kernel_rfl) (by rfl) ?_
 by_cases h : checkF e = 0
 ·obtain ⟨t, ht, rfl⟩ := right_of h
  have p1 := p_Push t ht (okNs_hn he)
  unfold pushA at p1
  by_cases hq : checkF (pushE false t).flat = 0
  ·rw [if_neg (by rw [hq]; decide)] at p1
   obtain ⟨hg, ha⟩ := push_shape false t ht.good ht.all
   have hH := pushE_hn false t (okNs_hn he)
   have hb := push_below false _ t (Nat.le_refl _) ht.good ht.all
   have hpp := push_push true true (pushE false t) hg ha
   have hpp : pushE true (pushE true (pushE false t)) = pushE false t := hpp.trans (push_push false false t ht.good ht.all)
   obtain ⟨s, hs⟩ : ∃ s, s = pushE false t := ⟨_, rfl⟩
   rw [← hs] at p1 hq hg ha hH hpp
   have p1 : Pure _ _ _ (.tup [slV 6 NodeD.c s.flat, pInt .i64 0]) := p1
   have hl := (right_tree hg hq).len
   obtain ⟨m1, x1, pA, hA⟩ := push_not_goes hg ha hH
   obtain ⟨g2, a2⟩ := push_shape true s hg ha
   obtain ⟨m2, x2, pB, hB⟩ := push_not_goes g2 a2 (pushE_hn true s hH)
   have eA : slV 6 NodeD.c (s.flat ++ [notN]) = .d (.c (.sl 6 ([] ++ s.flat.map NodeD.c ++ [notN.c]))) := by unfold slV; rw [List.map_append]; rfl
   have eB : slV 6 NodeD.c ((pushE true s).flat ++ [notN]) = .d (.c (.sl 6 ([] ++ (pushE true s).flat.map NodeD.c ++ [notN.c]))) := by unfold slV; rw [List.map_append]; rfl
   rw [eA] at pA
   rw [eB] at pB
   have pn : Pure Tryd.prog 15 [pInt .i64 4, pInt .i64 1] (nV notN) := p_nop 4 1
   have hl2 := pushE_len true s
   have p5 := p_samenodes s.flat s.flat (by omega)
   rw [listEq_refl] at p5
   by_cases h60 : 60 ≤ t.flat.length
   ·((conv => whnf); repeat' ((first | (with_reducible first | apply a_ | apply b_ | apply c_) | ((with_reducible first | apply d_ | apply e_ | apply f_ | apply g_); focus first | omega | (simp only [q_] <;> omega)) | ((with_reducible first | apply i_ | apply h_); focus first | omega | (simp only [q_] <;> omega)) | ((with_reducible apply h_); focus first | decide | kernel_rfl) | refine BCase.t (by decide) ?_ | refine BCase.f (by decide) ?_ | refine CallP.pure _ rfl _ (p1) ?_ | refine CallP.pure _ rfl _ (p_evalbegun) ?_ | with_reducible first | apply l_ | apply m_ | apply n_ | apply o_ | refine p_ (fun _ => ?_) (fun _ => ?_)) <;> (conv => whnf)))
    all_goals first | exact Ret.bool (by decide) | (exact Ret.bool (by simp)) | (exfalso; omega)
   ·obtain ⟨r, js⟩ := s
    have hs2 : (Ex.mk r js).flat = Ex.flats js ++ [r] := by rw [Ex.flat]
    have hsl : (Ex.mk r js).flat.length = (Ex.flats js).length + 1 := by rw [hs2, List.length_append, List.length_singleton]
    have hml : ((Ex.mk r js).flat.map NodeD.c).length = (Ex.flats js).length + 1 := by rw [List.length_map, hsl]
    have hr1 : (Ex.flats js).length < (Ex.mk r js).flat.length := by omega
    have hr2 : (Ex.mk r js).flat[(Ex.flats js).length] = r := by
     have : (Ex.mk r js).flat[(Ex.flats js).length]? = some r := by rw [hs2, List.getElem?_append_right (Nat.le_refl _), Nat.sub_self]; rfl
     rw [List.getElem?_eq_getElem hr1] at this
     exact Option.some.inj this
    by_cases hr4 : r.Op = 4
    ·obtain ⟨k, ls, rfl, hk⟩ := hb r js hs.symm hr4
     have hfl : Ex.flats [Ex.mk k ls] = Ex.flats ls ++ [k] := by rw [Ex.flats_one, Ex.flat]
     have hfl2 : (Ex.flats [Ex.mk k ls]).length = (Ex.flats ls).length + 1 := by rw [hfl, List.length_append, List.length_singleton]
     have hk1 : (Ex.flats ls).length < (Ex.mk r [Ex.mk k ls]).flat.length := by omega
     have hk2 : (Ex.mk r [Ex.mk k ls]).flat[(Ex.flats ls).length] = k := by
      have : (Ex.mk r [Ex.mk k ls]).flat[(Ex.flats ls).length]? = some k := by rw [hs2, hfl, List.append_assoc, List.getElem?_append_right (Nat.le_refl _), Nat.sub_self]; rfl
      rw [List.getElem?_eq_getElem hk1] at this
      exact Option.some.inj this
     rcases hA with ⟨hx, rfl⟩ | ⟨rfl, rfl, hq2⟩
     ·rcases hx with rfl | rfl
      all_goals
       ((conv => whnf); repeat' ((first | (with_reducible first | apply a_ | apply b_ | apply c_) | ((with_reducible first | apply d_ | apply e_ | apply f_ | apply g_); focus first | omega | (simp only [q_] <;> omega)) | ((with_reducible first | apply i_ | apply h_); focus first | omega | (simp only [q_] <;> omega)) | ((with_reducible apply h_); focus first | decide | kernel_rfl) | refine BCase.t (by decide) ?_ | refine BCase.f (by decide) ?_ | refine CallP.pure _ rfl _ (p1) ?_ | refine CallP.pure _ rfl _ (p_evalbegun) ?_ | (first | refine Idx.mapE (Ex.flats [Ex.mk k ls]).length (by omega) hr1 hr2 ?_ | refine Idx.mapE (Ex.flats ls).length (by omega) hk1 hk2 ?_) | refine CallP.pure _ rfl _ (pn) ?_ | refine CallP.pure _ rfl _ (pA) ?_ | refine CallP.pure _ rfl _ (pB) ?_ | refine CallP.pure _ rfl _ (p5) ?_ | (refine Need.by 64 rfl (by simp only [List.length_map, List.length_append, List.length_nil, List.length_singleton]; omega) ?_) | with_reducible first | apply l_ | apply m_ | apply n_ | apply o_ | refine p_ (fun _ => ?_) (fun _ => ?_)) <;> (conv => whnf)))
       all_goals first | exact Ret.bool (by decide) | (exact Ret.bool (by simp)) | (exfalso; omega)
     ·rcases hB with ⟨hx, rfl⟩ | ⟨rfl, rfl, hq3⟩
      ·rcases hx with rfl | rfl
       all_goals
        ((conv => whnf); repeat' ((first | (with_reducible first | apply a_ | apply b_ | apply c_) | ((with_reducible first | apply d_ | apply e_ | apply f_ | apply g_); focus first | omega | (simp only [q_] <;> omega)) | ((with_reducible first | apply i_ | apply h_); focus first | omega | (simp only [q_] <;> omega)) | ((with_reducible apply h_); focus first | decide | kernel_rfl) | refine BCase.t (by decide) ?_ | refine BCase.f (by decide) ?_ | refine CallP.pure _ rfl _ (p1) ?_ | refine CallP.pure _ rfl _ (p_evalbegun) ?_ | (first | refine Idx.mapE (Ex.flats [Ex.mk k ls]).length (by omega) hr1 hr2 ?_ | refine Idx.mapE (Ex.flats ls).length (by omega) hk1 hk2 ?_) | refine CallP.pure _ rfl _ (pn) ?_ | refine CallP.pure _ rfl _ (pA) ?_ | refine CallP.pure _ rfl _ (pB) ?_ | refine CallP.pure _ rfl _ (p5) ?_ | (refine Need.by 64 rfl (by simp only [List.length_map, List.length_append, List.length_nil, List.length_singleton]; omega) ?_) | with_reducible first | apply l_ | apply m_ | apply n_ | apply o_ | refine p_ (fun _ => ?_) (fun _ => ?_)) <;> (conv => whnf)))
        all_goals first | exact Ret.bool (by decide) | (exact Ret.bool (by simp)) | (exfalso; omega)
      ·rw [hpp] at pB
       ((conv => whnf); repeat' ((first | (with_reducible first | apply a_ | apply b_ | apply c_) | ((with_reducible first | apply d_ | apply e_ | apply f_ | apply g_); focus first | omega | (simp only [q_] <;> omega)) | ((with_reducible first | apply i_ | apply h_); focus first | omega | (simp only [q_] <;> omega)) | ((with_reducible apply h_); focus first | decide | kernel_rfl) | refine BCase.t (by decide) ?_ | refine BCase.f (by decide) ?_ | refine CallP.pure _ rfl _ (p1) ?_ | refine CallP.pure _ rfl _ (p_evalbegun) ?_ | (first | refine Idx.mapE (Ex.flats [Ex.mk k ls]).length (by omega) hr1 hr2 ?_ | refine Idx.mapE (Ex.flats ls).length (by omega) hk1 hk2 ?_) | refine CallP.pure _ rfl _ (pn) ?_ | refine CallP.pure _ rfl _ (pA) ?_ | refine CallP.pure _ rfl _ (pB) ?_ | refine CallP.pure _ rfl _ (p5) ?_ | (refine Need.by 64 rfl (by simp only [List.length_map, List.length_append, List.length_nil, List.length_singleton]; omega) ?_) | with_reducible first | apply l_ | apply m_ | apply n_ | apply o_ | refine p_ (fun _ => ?_) (fun _ => ?_)) <;> (conv => whnf)))
       all_goals first | exact Ret.bool (by decide) | (exact Ret.bool (by simp)) | (exfalso; omega)
    ·rcases hA with ⟨hx, rfl⟩ | ⟨rfl, rfl, hq2⟩
     ·rcases hx with rfl | rfl
      all_goals
       ((conv => whnf); repeat' ((first | (with_reducible first | apply a_ | apply b_ | apply c_) | ((with_reducible first | apply d_ | apply e_ | apply f_ | apply g_); focus first | omega | (simp only [q_] <;> omega)) | ((with_reducible first | apply i_ | apply h_); focus first | omega | (simp only [q_] <;> omega)) | ((with_reducible apply h_); focus first | decide | kernel_rfl) | refine BCase.t (by decide) ?_ | refine BCase.f (by decide) ?_ | refine CallP.pure _ rfl _ (p1) ?_ | refine CallP.pure _ rfl _ (p_evalbegun) ?_ | (refine Idx.mapE (Ex.flats js).length (by omega) hr1 hr2 ?_) | refine CallP.pure _ rfl _ (pn) ?_ | refine CallP.pure _ rfl _ (pA) ?_ | refine CallP.pure _ rfl _ (pB) ?_ | refine CallP.pure _ rfl _ (p5) ?_ | (refine Need.by 64 rfl (by simp only [List.length_map, List.length_append, List.length_nil, List.length_singleton]; omega) ?_) | with_reducible first | apply l_ | apply m_ | apply n_ | apply o_ | refine p_ (fun _ => ?_) (fun _ => ?_)) <;> (conv => whnf)))
       all_goals first | exact Ret.bool (by decide) | (exact Ret.bool (by simp)) | (exfalso; omega)
     ·rcases hB with ⟨hx, rfl⟩ | ⟨rfl, rfl, hq3⟩
      ·rcases hx with rfl | rfl
       all_goals
        ((conv => whnf); repeat' ((first | (with_reducible first | apply a_ | apply b_ | apply c_) | ((with_reducible first | apply d_ | apply e_ | apply f_ | apply g_); focus first | omega | (simp only [q_] <;> omega)) | ((with_reducible first | apply i_ | apply h_); focus first | omega | (simp only [q_] <;> omega)) | ((with_reducible apply h_); focus first | decide | kernel_rfl) | refine BCase.t (by decide) ?_ | refine BCase.f (by decide) ?_ | refine CallP.pure _ rfl _ (p1) ?_ | refine CallP.pure _ rfl _ (p_evalbegun) ?_ | (refine Idx.mapE (Ex.flats js).length (by omega) hr1 hr2 ?_) | refine CallP.pure _ rfl _ (pn) ?_ | refine CallP.pure _ rfl _ (pA) ?_ | refine CallP.pure _ rfl _ (pB) ?_ | refine CallP.pure _ rfl _ (p5) ?_ | (refine Need.by 64 rfl (by simp only [List.length_map, List.length_append, List.length_nil, List.length_singleton]; omega) ?_) | with_reducible first | apply l_ | apply m_ | apply n_ | apply o_ | refine p_ (fun _ => ?_) (fun _ => ?_)) <;> (conv => whnf)))
        all_goals first | exact Ret.bool (by decide) | (exact Ret.bool (by simp)) | (exfalso; omega)
      ·rw [hpp] at pB
       ((conv => whnf); repeat' ((first | (with_reducible first | apply a_ | apply b_ | apply c_) | ((with_reducible first | apply d_ | apply e_ | apply f_ | apply g_); focus first | omega | (simp only [q_] <;> omega)) | ((with_reducible first | apply i_ | apply h_); focus first | omega | (simp only [q_] <;> omega)) | ((with_reducible apply h_); focus first | decide | kernel_rfl) | refine BCase.t (by decide) ?_ | refine BCase.f (by decide) ?_ | refine CallP.pure _ rfl _ (p1) ?_ | refine CallP.pure _ rfl _ (p_evalbegun) ?_ | (refine Idx.mapE (Ex.flats js).length (by omega) hr1 hr2 ?_) | refine CallP.pure _ rfl _ (pn) ?_ | refine CallP.pure _ rfl _ (pA) ?_ | refine CallP.pure _ rfl _ (pB) ?_ | refine CallP.pure _ rfl _ (p5) ?_ | (refine Need.by 64 rfl (by simp only [List.length_map, List.length_append, List.length_nil, List.length_singleton]; omega) ?_) | with_reducible first | apply l_ | apply m_ | apply n_ | apply o_ | refine p_ (fun _ => ?_) (fun _ => ?_)) <;> (conv => whnf)))
       all_goals first | exact Ret.bool (by decide) | (exact Ret.bool (by simp)) | (exfalso; omega)
  ·rw [if_pos hq] at p1
   ((conv => whnf); repeat' ((first | (with_reducible first | apply a_ | apply b_ | apply c_) | ((with_reducible first | apply d_ | apply e_ | apply f_ | apply g_); focus first | omega | (simp only [q_] <;> omega)) | ((with_reducible first | apply i_ | apply h_); focus first | omega | (simp only [q_] <;> omega)) | ((with_reducible apply h_); focus first | decide | kernel_rfl) | refine BCase.t (by decide) ?_ | refine BCase.f (by decide) ?_ | refine CallP.pure _ rfl _ (p1) ?_ | refine CallP.pure _ rfl _ (p_evalbegun) ?_ | with_reducible first | apply l_ | apply m_ | apply n_ | apply o_ | refine p_ (fun _ => ?_) (fun _ => ?_)) <;> (conv => whnf)))
   all_goals first | exact Ret.bool (by decide) | (exact Ret.bool (by simp)) | (exfalso; omega)
 ·have p1 := p_Push_bad e (okNs_hn he) h
  ((conv => whnf); repeat' ((first | (with_reducible first | apply a_ | apply b_ | apply c_) | ((with_reducible first | apply d_ | apply e_ | apply f_ | apply g_); focus first | omega | (simp only [q_] <;> omega)) | ((with_reducible first | apply i_ | apply h_); focus first | omega | (simp only [q_] <;> omega)) | ((with_reducible apply h_); focus first | decide | kernel_rfl) | refine BCase.t (by decide) ?_ | refine BCase.f (by decide) ?_ | refine CallP.pure _ rfl _ (p1) ?_ | refine CallP.pure _ rfl _ (p_evalbegun) ?_ | with_reducible first | apply l_ | apply m_ | apply n_ | apply o_ | refine p_ (fun _ => ?_) (fun _ => ?_)) <;> (conv => whnf)))
  all_goals first | exact Ret.bool (by decide) | (exact Ret.bool (by simp)) | (exfalso; omega)
end Go.Proofs.YtpkifeagopceaaaDoor.Pm
end
section
namespace Go.Proofs.YtpkifeagopceaaaDoor.Pm
open Go.RowKit K
set_option linter.unusedVariables false
set_option linter.unusedSimpArgs false
set_option maxRecDepth 100000
theorem s_split (n : NodeD) (ks : List Ex) (hg : (Ex.mk n ks).good) (e : List NodeD) (he : (Ex.mk n ks).flat = e) (hl : e.length ≤ 1000) : CallS Tryd.prog 29 [slV 6 NodeD.c e] [] [] (.d (.arr NK 22 1 0 ks.length)) [(NK, .arr 22 1 (ks.map fun k => ek k.flat))] := by
 have hg0 := hg
 rw [Ex.good] at hg0
 obtain ⟨hk, hgs⟩ := hg0
 have hlen : e.length = (Ex.flats ks).length + 1 := by rw [← he, Ex.flat, List.length_append, List.length_singleton]
 have hml : (e.map NodeD.c).length = (Ex.flats ks).length + 1 := by rw [List.length_map, hlen]
 have he2 := root_at (n := n) (ks := ks) (e := e) (pre := []) (post := []) (by rw [he]; simp)
 obtain ⟨hr1, hr2⟩ := root_get he2
 have hpl : ([] ++ Ex.flats ks).length = (Ex.flats ks).length := rfl
 have hkb := len_le_flats ks
 have hsp : Ex.flats ks = Ex.flats (ks.take ks.length) := by rw [List.take_length]
 refine callS_of Tryd.func29 (by rfl) rfl (by kernel_rfl) (by rfl) [] rfl ?_
 ((conv => whnf); repeat' ((first | (with_reducible first | apply a_ | apply b_ | apply c_) | ((with_reducible first | apply d_ | apply e_ | apply f_ | apply g_); focus first | omega | (simp only [q_] <;> omega)) | ((with_reducible first | apply i_ | apply h_); focus first | omega | (simp only [q_] <;> omega)) | ((with_reducible apply h_); focus first | decide | kernel_rfl) | refine BCase.t (by decide) ?_ | refine BCase.f (by decide) ?_ | (refine Idx.mapE ([] ++ Ex.flats ks).length (by omega) hr1 hr2 ?_) | with_reducible first | apply l_ | apply m_ | apply n_ | apply o_ | refine p_ (fun _ => ?_) (fun _ => ?_)) <;> (conv => whnf)))
 refine Need.mk ⟨by omega, rfl, (by show (24 : Int) * _ ≤ _; omega), by omega⟩ ?_
 ((conv => whnf); repeat' ((first | (with_reducible first | apply a_ | apply b_ | apply c_) | ((with_reducible first | apply d_ | apply e_ | apply f_ | apply g_); focus first | omega | (simp only [q_] <;> omega)) | ((with_reducible first | apply i_ | apply h_); focus first | omega | (simp only [q_] <;> omega)) | ((with_reducible apply h_); focus first | decide | kernel_rfl) | refine BCase.t (by decide) ?_ | refine BCase.f (by decide) ?_ | with_reducible first | apply l_ | apply m_ | apply n_ | apply o_ | refine p_ (fun _ => ?_) (fun _ => ?_)) <;> (conv => whnf)))
 refine LoopC.mk Nat (fun k => [(4, slV 6 NodeD.c (Ex.flats (ks.take (ks.length - k)))), (5, .d (.arr 60 22 1 0 ks.length)), (6, pInt .i64 ((ks.length : Int) - 1 - k))]) (fun k => [(60, .arr 22 1 (splR ks k))]) [60] (fun k => k ≤ ks.length) (fun k => ks.length - k) 0 (Nat.zero_le _) ?start ?round
 case start =>
  refine ⟨[(60, 22)], rfl, rfl, ⟨?_, ⟨rfl, rfl, rfl, rfl, rfl, ?_⟩, PLe.int (by omega), trivial⟩, ⟨rfl, rfl, rfl, ?_⟩, trivial⟩
  ·have e1 : ((e.map NodeD.c).drop 0).take ((((e.map NodeD.c).length : Int) - 1).toNat - 0) = (Ex.flats ks).map NodeD.c := by
    rw [List.drop_zero, hml, show ((((Ex.flats ks).length + 1 : Nat) : Int) - 1).toNat - 0 = (Ex.flats ks).length by omega, he2, List.nil_append, List.map_append, List.take_left' (by rw [List.length_map])]
   exact .inl (congrArg (C.sl 6) (e1.trans (by rw [Nat.sub_zero, ← hsp])))
  ·omega
  ·show List.replicate _ nilR = _
   unfold splR
   rw [Nat.sub_zero, List.drop_length, List.map_nil, List.append_nil, show n.Kids.toNat = ks.length by omega]
 case round =>
  intro k hk2
  have hk2 : k ≤ ks.length := hk2
  by_cases q : k < ks.length
  ·have hi : ks.length - (k + 1) < ks.length := by omega
   have hm := List.getElem_mem hi
   have hkg := Ex.goods_mem hgs _ hm
   have hfl := flat_le_flats hm
   have hs := flats_snoc hi
   rw [show ks.length - (k + 1) + 1 = ks.length - k by omega] at hs
   have hsl : (Ex.flats (ks.take (ks.length - k))).length ≤ (Ex.flats ks).length := by
    have := flats_part hi
    rw [show ks.length - (k + 1) + 1 = ks.length - k by omega] at this
    rw [this, hs]; simp
   obtain ⟨pre, hpre⟩ : ∃ R, R = Ex.flats (ks.take (ks.length - (k + 1))) := ⟨_, rfl⟩
   obtain ⟨t, ht⟩ : ∃ t, t = ks[ks.length - (k + 1)] := ⟨_, rfl⟩
   rw [← ht] at hs hkg hfl
   rw [← hpre] at hs
   have hRl : (Ex.flats (ks.take (ks.length - k))).length = pre.length + t.flat.length := by rw [hs, List.length_append]
   ((conv => whnf); repeat' ((first | (with_reducible first | apply a_ | apply b_ | apply c_) | ((with_reducible first | apply d_ | apply e_ | apply f_ | apply g_); focus first | omega | (simp only [q_] <;> omega)) | ((with_reducible first | apply i_ | apply h_); focus first | omega | (simp only [q_] <;> omega)) | ((with_reducible apply h_); focus first | decide | kernel_rfl) | refine BCase.t (by decide) ?_ | refine BCase.f (by decide) ?_ | with_reducible first | apply l_ | apply m_ | apply n_ | apply o_ | refine p_ (fun _ => ?_) (fun _ => ?_)) <;> (conv => whnf)))
   refine LoopC.mk Nat (fun r => [(4, slV 6 NodeD.c (Ex.flats (ks.take (ks.length - k)))), (5, .d (.arr 60 22 1 0 ks.length)), (6, pInt .i64 ((ks.length : Int) - 1 - k)), (7, pInt .i64 ((pre.length + (t.flat.length - r) : Nat) : Int)), (8, pInt .i64 (bal (t.flat.take (t.flat.length - r))))]) (fun _ => [(60, .arr 22 1 (splR ks k))]) [60] (fun r => r ≤ t.flat.length) (fun r => t.flat.length - r) 0 (Nat.zero_le _) ?s2 ?r2
   case s2 => exact ⟨[(60, 60)], rfl, rfl, ⟨.inl rfl, ⟨rfl, rfl, rfl, rfl, rfl, rfl⟩, .inl rfl, PLe.int (by simp only [List.length_map]; omega), PLe.int (by rw [Nat.sub_zero, List.take_length, bal_flat t hkg]), trivial⟩, ⟨rfl, rfl, rfl, rfl⟩, trivial⟩
   case r2 =>
    intro r hr
    have hr : r ≤ t.flat.length := hr
    by_cases q2 : r < t.flat.length
    ·have hb1 := bal_in hkg (m := t.flat.length - r) (by omega)
     have hb2 := bal_in hkg (m := t.flat.length - (r + 1)) (by omega)
     have hb3 := bal_step (l := t.flat) (m := t.flat.length - (r + 1)) (by omega)
     rw [show t.flat.length - (r + 1) + 1 = t.flat.length - r by omega] at hb3
     have hb4 := hb1.2.2.2 (by omega)
     have hlt : pre.length + (t.flat.length - (r + 1)) < (Ex.flats (ks.take (ks.length - k))).length := by omega
     have hget : (Ex.flats (ks.take (ks.length - k)))[pre.length + (t.flat.length - (r + 1))] = t.flat[t.flat.length - (r + 1)] := by
      have : (Ex.flats (ks.take (ks.length - k)))[pre.length + (t.flat.length - (r + 1))]? = some t.flat[t.flat.length - (r + 1)] := by
       rw [hs, List.getElem?_append_right (by omega), Nat.add_sub_cancel_left, List.getElem?_eq_getElem (by omega)]
      rw [List.getElem?_eq_getElem hlt] at this
      exact Option.some.inj this
     ((conv => whnf); repeat' ((first | (with_reducible first | apply a_ | apply b_ | apply c_) | ((with_reducible first | apply d_ | apply e_ | apply f_ | apply g_); focus first | omega | (simp only [q_] <;> omega)) | ((with_reducible first | apply i_ | apply h_); focus first | omega | (simp only [q_] <;> omega)) | ((with_reducible apply h_); focus first | decide | kernel_rfl) | refine BCase.t (by decide) ?_ | refine BCase.f (by decide) ?_ | (refine Idx.mapE (pre.length + (t.flat.length - (r + 1))) (by omega) hlt hget ?_) | with_reducible first | apply l_ | apply m_ | apply n_ | apply o_ | refine p_ (fun _ => ?_) (fun _ => ?_)) <;> (conv => whnf)))
     exact ⟨r + 1, by show r + 1 ≤ _; omega, by omega, [(60, 60)], rfl, rfl, ⟨.inl rfl, ⟨rfl, rfl, rfl, rfl, rfl, rfl⟩, .inl rfl, PLe.int (by omega), PLe.int (by omega), trivial⟩, ⟨rfl, rfl, rfl, rfl⟩, trivial⟩
    ·have er : t.flat.length - r = 0 := by omega
     have hb0 : bal (t.flat.take (t.flat.length - r)) = 0 := by rw [er, List.take_zero]; rfl
     have lR : ∀ n, n = ks.length - (k + 1) → (splR ks k)[n]? = some nilR := by
      rintro n rfl; exact splR_row q
     have lS : ∀ n v, n = ks.length - (k + 1) → v = ek t.flat → (splR ks k).set n v = splR ks (k + 1) := by
      rintro n v rfl hv
      exact splR_step q (by rw [hv, ht])
     ((conv => whnf); repeat' ((first | (with_reducible first | apply a_ | apply b_ | apply c_) | ((with_reducible first | apply d_ | apply e_ | apply f_ | apply g_); focus first | omega | (simp only [q_] <;> omega)) | ((with_reducible first | apply i_ | apply h_); focus first | omega | (simp only [q_] <;> omega)) | ((with_reducible apply h_); focus first | decide | kernel_rfl) | refine BCase.t (by decide) ?_ | refine BCase.f (by decide) ?_ | (refine Row.mk nilR (lR _ (by omega)) ?_) | with_reducible first | apply l_ | apply m_ | apply n_ | apply o_ | refine p_ (fun _ => ?_) (fun _ => ?_)) <;> (conv => whnf)))
     refine ⟨k + 1, by show k + 1 ≤ _; omega, by omega, [(60, 60)], rfl, rfl, ⟨.inl ?_, ⟨rfl, rfl, rfl, rfl, rfl, rfl⟩, PLe.int (by omega), trivial⟩, ⟨rfl, rfl, rfl, ?_⟩, trivial⟩
     ·have e1 : (((Ex.flats (ks.take (ks.length - k))).map NodeD.c).drop 0).take ((pre.length + (t.flat.length - r) : Nat) : Int).toNat = pre.map NodeD.c := by
       rw [List.drop_zero, er, hs, List.map_append, show ((pre.length + 0 : Nat) : Int).toNat = pre.length by omega, List.take_left' (by rw [List.length_map])]
      exact congrArg (C.sl 6) (e1.trans (by rw [hpre]))
     ·apply lS
      ·omega
      ·have e2 : (((Ex.flats (ks.take (ks.length - k))).map NodeD.c).drop ((pre.length + (t.flat.length - r) : Nat) : Int).toNat).take ((((Ex.flats (ks.take (ks.length - k))).map NodeD.c).length : Int).toNat - ((pre.length + (t.flat.length - r) : Nat) : Int).toNat) = t.flat.map NodeD.c := by
        rw [er, hs, List.map_append, show ((pre.length + 0 : Nat) : Int).toNat = pre.length by omega, List.drop_left' (by rw [List.length_map])]
        exact List.take_of_length_le (by rw [List.length_append, List.length_map, List.length_map]; omega)
       exact congrArg (fun x => [C.sl 6 x]) e2
  ·((conv => whnf); repeat' ((first | (with_reducible first | apply a_ | apply b_ | apply c_) | ((with_reducible first | apply d_ | apply e_ | apply f_ | apply g_); focus first | omega | (simp only [q_] <;> omega)) | ((with_reducible first | apply i_ | apply h_); focus first | omega | (simp only [q_] <;> omega)) | ((with_reducible apply h_); focus first | decide | kernel_rfl) | refine BCase.t (by decide) ?_ | refine BCase.f (by decide) ?_ | with_reducible first | apply l_ | apply m_ | apply n_ | apply o_ | refine p_ (fun _ => ?_) (fun _ => ?_)) <;> (conv => whnf)))
   refine RetS.mk [(NK, 60)] [NK] rfl rfl ⟨rfl, rfl, rfl, rfl, rfl, rfl⟩ ⟨⟨rfl, rfl, rfl, ?_⟩, trivial⟩
   show splR ks k = _
   unfold splR
   rw [show ks.length - k = 0 by omega]; rfl
theorem p_clonen (l : List NodeD) (h : l.length ≤ 1000000) : Pure Tryd.prog 30 [slV 6 NodeD.c l] (slV 6 NodeD.c l) := by
 cases l with
 | nil =>
  refine pure_sl0 ?_ fun a cap => ?_
  ·refine pure_of Tryd.func30 (by rfl) rfl (by kernel_rfl) (by rfl) ?_
   ((conv => whnf); repeat' ((first | (with_reducible first | apply a_ | apply b_ | apply c_) | ((with_reducible first | apply d_ | apply e_ | apply f_ | apply g_); focus first | omega | (simp only [q_] <;> omega)) | ((with_reducible first | apply i_ | apply h_); focus first | omega | (simp only [q_] <;> omega)) | ((with_reducible apply h_); focus first | decide | kernel_rfl) | refine BCase.t (by decide) ?_ | refine BCase.f (by decide) ?_ | with_reducible first | apply l_ | apply m_ | apply n_ | apply o_ | refine p_ (fun _ => ?_) (fun _ => ?_)) <;> (conv => whnf)))
   exact Ret.le (.inr ⟨⟨6, rfl⟩, .inl rfl⟩)
  ·refine pure_of Tryd.func30 (by rfl) rfl (by kernel_rfl) (by rfl) ?_
   ((conv => whnf); repeat' ((first | (with_reducible first | apply a_ | apply b_ | apply c_) | ((with_reducible first | apply d_ | apply e_ | apply f_ | apply g_); focus first | omega | (simp only [q_] <;> omega)) | ((with_reducible first | apply i_ | apply h_); focus first | omega | (simp only [q_] <;> omega)) | ((with_reducible apply h_); focus first | decide | kernel_rfl) | refine BCase.t (by decide) ?_ | refine BCase.f (by decide) ?_ | with_reducible first | apply l_ | apply m_ | apply n_ | apply o_ | refine p_ (fun _ => ?_) (fun _ => ?_)) <;> (conv => whnf)))
   exact Ret.mk rfl
 | cons x l =>
  refine pure_of Tryd.func30 (by rfl) rfl (by kernel_rfl) (by rfl) ?_
  ((conv => whnf); repeat' ((first | (with_reducible first | apply a_ | apply b_ | apply c_) | ((with_reducible first | apply d_ | apply e_ | apply f_ | apply g_); focus first | omega | (simp only [q_] <;> omega)) | ((with_reducible first | apply i_ | apply h_); focus first | omega | (simp only [q_] <;> omega)) | ((with_reducible apply h_); focus first | decide | kernel_rfl) | refine BCase.t (by decide) ?_ | refine BCase.f (by decide) ?_ | (refine Need.mk (List.cons_ne_nil _ _) ?_) | (refine Need.by 64 rfl (by simp only [List.length_map, List.length_nil, Nat.zero_add]; omega) ?_) | with_reducible first | apply l_ | apply m_ | apply n_ | apply o_ | refine p_ (fun _ => ?_) (fun _ => ?_)) <;> (conv => whnf)))
  exact Ret.mk rfl
theorem p_kids_bad (e : List NodeD) (hn : ∀ n ∈ e, okText n.Name) (h : checkF e ≠ 0) : Pure Tryd.prog 16 [slV 6 NodeD.c e] (.tup [.d (.c (.sl 1 [])), pInt .i64 (checkF e)]) := by
 have pc := p_echeck e hn
 refine pure_of Tryd.func16 (by rfl) rfl (by kernel_rfl) (by rfl) ?_
 ((conv => whnf); repeat' ((first | (with_reducible first | apply a_ | apply b_ | apply c_) | ((with_reducible first | apply d_ | apply e_ | apply f_ | apply g_); focus first | omega | (simp only [q_] <;> omega)) | ((with_reducible first | apply i_ | apply h_); focus first | omega | (simp only [q_] <;> omega)) | ((with_reducible apply h_); focus first | decide | kernel_rfl) | refine BCase.t (by decide) ?_ | refine BCase.f (by decide) ?_ | refine CallP.pure _ rfl _ (pc) ?_ | with_reducible first | apply l_ | apply m_ | apply n_ | apply o_ | refine p_ (fun _ => ?_) (fun _ => ?_)) <;> (conv => whnf)))
 all_goals first | exact Ret.le ⟨.inr ⟨⟨1, rfl⟩, .inl rfl⟩, .inl rfl, rfl⟩ | (exfalso; omega)
theorem p_kids (n : NodeD) (ks : List Ex) (ht : RightT (.mk n ks)) (e : List NodeD) (he : (Ex.mk n ks).flat = e) (hn : ∀ n ∈ e, okText n.Name) : Pure Tryd.prog 16 [slV 6 NodeD.c e] (.tup [.d (.c (.sl 1 (ks.map fun k => ek k.flat))), pInt .i64 0]) := by
 have hl := ht.len
 have pc := p_echeck e hn
 rw [← he, check_right ht, he] at pc
 rw [he] at hl
 have ps := s_split n ks ht.good e he (by omega)
 have hlen : e.length = (Ex.flats ks).length + 1 := by rw [← he, Ex.flat, List.length_append, List.length_singleton]
 have hkb := len_le_flats ks
 refine pure_of Tryd.func16 (by rfl) rfl (by kernel_rfl) (by rfl) ?_
 obtain ⟨rows, hrows⟩ : ∃ rows, rows = ks.map fun k => ek k.flat := ⟨_, rfl⟩
 have hrl : rows.length = ks.length := by rw [hrows, List.length_map]
 rw [← hrows] at ps ⊢
 ((conv => whnf); repeat' ((first | (with_reducible first | apply a_ | apply b_ | apply c_) | ((with_reducible first | apply d_ | apply e_ | apply f_ | apply g_); focus first | omega | (simp only [q_] <;> omega)) | ((with_reducible first | apply i_ | apply h_); focus first | omega | (simp only [q_] <;> omega)) | ((with_reducible apply h_); focus first | decide | kernel_rfl) | refine BCase.t (by decide) ?_ | refine BCase.f (by decide) ?_ | refine CallP.pure _ rfl _ (pc) ?_ | (refine CallP.ret [(NK, 14)] _ _ _ _ _ _ _ ps rfl rfl rfl rfl trivial ?_) | with_reducible first | apply l_ | apply m_ | apply n_ | apply o_ | refine p_ (fun _ => ?_) (fun _ => ?_)) <;> (conv => whnf)))
 refine LoopC.mk Nat (fun j => [(5, .d (.arr 60 22 1 0 ks.length)), (15, .d (.arr 60 22 1 0 ks.length)), (16, pInt .i64 ks.length), (17, pInt .i64 j)]) (fun _ => [(60, .arr 22 1 rows)]) [60] (fun j => j ≤ ks.length) (fun j => ks.length - j) 0 (Nat.zero_le _) ?start ?round
 case start => exact ⟨[(60, 14)], rfl, rfl, ⟨⟨rfl, rfl, rfl, rfl, rfl, rfl⟩, ⟨rfl, rfl, rfl, rfl, rfl, rfl⟩, PLe.int (by simp), .inl rfl, trivial⟩, ⟨rfl, rfl, rfl, rfl⟩, trivial⟩
 case round =>
  intro j hj
  have hj : j ≤ ks.length := hj
  by_cases q : j < ks.length
  ·have hm := List.getElem_mem q
   have hfl := flat_le_flats hm
   have pk := p_clonen ks[j].flat (by omega)
   have lR : ∀ m, m = j → rows[m]? = some (ek ks[j].flat) := by
    rintro m rfl
    rw [hrows, List.getElem?_map, List.getElem?_eq_getElem q]; rfl
   have lS : ∀ m v, m = j → v = ek ks[j].flat → rows.set m v = rows := by
    rintro m v rfl rfl
    refine List.ext_getElem? fun i => ?_
    by_cases h : m = i
    ·subst h
     rw [List.getElem?_set_self (by omega), lR m rfl]
    ·rw [List.getElem?_set_ne h]
   ((conv => whnf); repeat' ((first | (with_reducible first | apply a_ | apply b_ | apply c_) | ((with_reducible first | apply d_ | apply e_ | apply f_ | apply g_); focus first | omega | (simp only [q_] <;> omega)) | ((with_reducible first | apply i_ | apply h_); focus first | omega | (simp only [q_] <;> omega)) | ((with_reducible apply h_); focus first | decide | kernel_rfl) | refine BCase.t (by decide) ?_ | refine BCase.f (by decide) ?_ | (refine Row.mk _ (lR _ (by omega)) ?_) | refine CallP.pure _ rfl _ (pk) ?_ | with_reducible first | apply l_ | apply m_ | apply n_ | apply o_ | refine p_ (fun _ => ?_) (fun _ => ?_)) <;> (conv => whnf)))
   refine ⟨j + 1, by show j + 1 ≤ _; omega, by omega, [(60, 60)], rfl, rfl, ⟨⟨rfl, rfl, rfl, rfl, rfl, rfl⟩, ⟨rfl, rfl, rfl, rfl, rfl, rfl⟩, .inl rfl, PLe.int rfl, trivial⟩, ⟨rfl, rfl, rfl, ?_⟩, trivial⟩
   exact lS _ _ (by omega) rfl
  ·((conv => whnf); repeat' ((first | (with_reducible first | apply a_ | apply b_ | apply c_) | ((with_reducible first | apply d_ | apply e_ | apply f_ | apply g_); focus first | omega | (simp only [q_] <;> omega)) | ((with_reducible first | apply i_ | apply h_); focus first | omega | (simp only [q_] <;> omega)) | ((with_reducible apply h_); focus first | decide | kernel_rfl) | refine BCase.t (by decide) ?_ | refine BCase.f (by decide) ?_ | with_reducible first | apply l_ | apply m_ | apply n_ | apply o_ | refine p_ (fun _ => ?_) (fun _ => ?_)) <;> (conv => whnf)))
   refine Ret.eq ?_
   show PV.tup [PV.d (D.c (C.sl 1 (List.take _ (List.drop 0 _)))), _] = _
   rw [List.drop_zero, List.take_of_length_le (by omega)]
end Go.Proofs.YtpkifeagopceaaaDoor.Pm
end
section
namespace Go.Proofs.YtpkifeagopceaaaDoor.Pm
open Go.RowKit K
set_option linter.unusedVariables false
set_option linter.unusedSimpArgs false
set_option maxRecDepth 100000
theorem kid_right {n : NodeD} {ks : List Ex} (h : RightT (.mk n ks)) {k : Ex} (hk : k ∈ ks) : RightT k := by
 have hg := h.good
 rw [Ex.good] at hg
 refine ⟨Ex.goods_mem hg.2 k hk, fun m hm => h.all m (by rw [Ex.flat]; exact List.mem_append_left _ (flats_mem hk hm)), ?_, ?_⟩
 ·have h1 := h.deep
  have h2 := Ex.depths_mem k hk
  rw [Ex.depth] at h1
  omega
 ·have h1 := h.len
  have h2 := flat_le_flats hk
  rw [Ex.flat, List.length_append] at h1
  omega
def litsT (ws : List ValueD) : List Ex := ws.map litT
theorem lits_flat : ∀ ws : List ValueD, Ex.flats (litsT ws) = ws.map litN
 | [] => by unfold litsT; rw [List.map_nil, Ex.flats]; rfl
 | w :: ws => by
  show Ex.flats (litT w :: litsT ws) = litN w :: ws.map litN
  rw [Ex.flats, lits_flat ws, lit_flat]; rfl
theorem lits_fold (look : Look) : ∀ ws : List ValueD, foldXs (nodF look) (litsT ws) = .ok ws
 | [] => by unfold litsT; rw [List.map_nil, foldXs]
 | w :: ws => by
  show foldXs (nodF look) (litT w :: litsT ws) = _
  rw [foldXs, foldX_lit, lits_fold look ws]
theorem lits_good : ∀ ws : List ValueD, Ex.goods (litsT ws)
 | [] => by unfold litsT; rw [List.map_nil, Ex.goods]; trivial
 | w :: ws => by
  show Ex.goods (litT w :: litsT ws)
  rw [Ex.goods, Ex.good, Ex.goods]
  exact ⟨⟨rfl, trivial⟩, lits_good ws⟩
theorem lits_depth : ∀ ws : List ValueD, Ex.depths (litsT ws) ≤ 1
 | [] => by unfold litsT; rw [List.map_nil, Ex.depths]; omega
 | w :: ws => by
  show Ex.depths (litT w :: litsT ws) ≤ 1
  rw [Ex.depths, Ex.depth, Ex.depths]
  have := lits_depth ws
  omega
theorem lits_right {n : NodeD} {ks : List Ex} (h : RightT (.mk n ks)) {ws : List ValueD} (hl : ws.length = ks.length) (hw : ∀ w ∈ ws, RV w ∧ 0 ≤ w.N) : RightT (.mk n (litsT ws)) := by
 have hg := h.good
 rw [Ex.good] at hg
 have hr := h.all n (by rw [Ex.flat]; simp)
 obtain ⟨k1, k2, k3, k4, k5, k6⟩ := alF_kids hr
 refine ⟨?_, ?_, ?_, ?_⟩
 ·rw [Ex.good]
  exact ⟨by unfold litsT; rw [List.length_map, hl]; exact hg.1, lits_good ws⟩
 ·intro m hm
  rw [Ex.flat, lits_flat] at hm
  rcases List.mem_append.1 hm with hm | hm
  ·obtain ⟨w, hw2, rfl⟩ := List.mem_map.1 hm
   exact lit_al (hw w hw2).1 (hw w hw2).2
  ·rw [List.mem_singleton.1 hm]; exact hr
 ·rw [Ex.depth]
  have := lits_depth ws
  omega
 ·rw [Ex.flat, lits_flat, List.length_append, List.length_map, List.length_singleton, hl]
  omega
theorem foldXs_snoc {α : Type} {f : NodeD → List α → Except Int α} : ∀ (a : List Ex) (t : Ex) (us : List α), foldXs f a = .ok us → foldXs f (a ++ [t]) = match foldX f t with
  | .ok v => .ok (us ++ [v])
  | .error x => .error x
 | [], t, us, h => by
  rw [foldXs] at h; cases h
  rw [List.nil_append, foldXs, foldXs]
  cases foldX f t <;> rfl
 | b :: a, t, us, h => by
  rw [foldXs] at h
  rw [List.cons_append, foldXs]
  split at h
  ·cases h
  ·rename_i v hv
   split at h
   ·cases h
   ·rename_i vs hvs
    cases h
    show (match foldXs f (a ++ [t]) with | .error e => Except.error e | .ok vs => .ok (v :: vs)) = _
    rw [foldXs_snoc a t vs hvs]
    cases foldX f t <;> rfl
theorem foldXs_pre {α : Type} {f : NodeD → List α → Except Int α} : ∀ (a b : List Ex) {x : Int}, foldXs f a = .error x → foldXs f (a ++ b) = .error x
 | [], b, x, h => by rw [foldXs] at h; cases h
 | t :: a, b, x, h => by
  rw [foldXs] at h
  rw [List.cons_append, foldXs]
  split at h
  ·rename_i y hy; cases h; rfl
  ·rename_i v hv
   split at h
   ·rename_i y hy; cases h
    show (match foldXs f (a ++ b) with | .error e => Except.error e | .ok vs => .ok (v :: vs)) = _
    rw [foldXs_pre a b hy]
   ·cases h
theorem eVal_err {y : Int} {v : ValueD} {x : Int} (h : eVal (.error y) = .tup [vV v, pInt .i64 x]) : v = noV ∧ x = y := by
 have h1 : PV.tup [.agg [.c (.v (.int .i64 0)), .c (.v (.int .i64 0)), .c (.v (.string (tx [])))], .d (.c (.v (.int .i64 y)))] = PV.tup [.agg [.c (.v (.int .i64 v.Kind)), .c (.v (.int .i64 v.N)), .c (.v (.string (tx v.S)))], .d (.c (.v (.int .i64 x)))] := h
 simp only [PV.tup.injEq, List.cons.injEq, PV.agg.injEq, PV.d.injEq, D.c.injEq, C.v.injEq, Value.int.injEq, Value.string.injEq, true_and, and_true] at h1
 obtain ⟨⟨a, b, c⟩, d⟩ := h1
 have c := tx_inj c
 refine ⟨?_, d.symm⟩
 obtain ⟨k, n, s⟩ := v
 unfold noV
 congr 1
 ·exact a.symm
 ·exact b.symm
 ·exact c.symm
theorem law_EvalKids (e : List NodeD) (he : okNs e) (cols : List (List UInt8)) (hc : okSl (Tryd.prog.bytesOf 9) okText cols) (row : List ValueD) (hr : okVs row) : Pure Tryd.prog 7 [slV 6 NodeD.c e, slV 1 eText cols, slV 3 ValueD.c row] (pBool true) := by
 have p1 := p_eval e (okNs_hn he) cols row (okVs_len hr) (okVs_in hr)
 refine pure_of Tryd.func7 (by rfl) rfl (by kernel_rfl) (by rfl) ?_
 by_cases h : checkF e ≠ 0
 ·have hS : scopeE e cols row = checkF e := by unfold scopeE; rw [if_pos h]
  have hE : evalF e cols row = .error (checkF e) := by unfold evalF; rw [hS, if_pos h]
  have pk := p_kids_bad e (fun n hn => (okNs_hn he n hn).1) h
  rw [hE] at p1
  have p1 : Pure _ _ _ (.tup [vV noV, pInt .i64 (checkF e)]) := p1
  ((conv => whnf); repeat' ((first | (with_reducible first | apply a_ | apply b_ | apply c_) | ((with_reducible first | apply d_ | apply e_ | apply f_ | apply g_); focus first | omega | (simp only [q_] <;> omega)) | ((with_reducible first | apply i_ | apply h_); focus first | omega | (simp only [q_] <;> omega)) | ((with_reducible apply h_); focus first | decide | kernel_rfl) | refine BCase.t (by decide) ?_ | refine BCase.f (by decide) ?_ | refine CallP.pure _ rfl _ (p1) ?_ | refine CallP.pure _ rfl _ (pk) ?_ | refine CallP.pure _ rfl _ (p_evalbegun) ?_ | with_reducible first | apply l_ | apply m_ | apply n_ | apply o_ | refine p_ (fun _ => ?_) (fun _ => ?_)) <;> (conv => whnf)))
  all_goals first | exact Ret.bool (by decide) | (exact Ret.bool (by simp)) | (exfalso; omega)
 ·have h : checkF e = 0 := Decidable.of_not_not h
  obtain ⟨t, ht, rfl⟩ := right_of h
  obtain ⟨n, ks⟩ := t
  have hN := nin_tree ht (okNs_hn he)
  have hHN := okNs_hn he
  obtain ⟨v, x, hv⟩ := eVal_pair (evalF (Ex.mk n ks).flat cols row)
  have hlen := ht.len
  have hgood := ht.good
  have hflat : (Ex.mk n ks).flat = Ex.flats ks ++ [n] := by rw [Ex.flat]
  have hel : (Ex.mk n ks).flat.length = (Ex.flats ks).length + 1 := by rw [hflat, List.length_append, List.length_singleton]
  have hkb := len_le_flats ks
  obtain ⟨e, hee⟩ : ∃ e, e = (Ex.mk n ks).flat := ⟨_, rfl⟩
  have pk := p_kids n ks ht e hee.symm (fun m hm => (hHN m (by rw [← hee]; exact hm)).1)
  have hvE := hv
  rw [← hee] at p1 hv hel hlen ⊢
  rw [hv] at p1
  have hml : (e.map NodeD.c).length = (Ex.flats ks).length + 1 := by rw [List.length_map, hel]
  have hr1 : (Ex.flats ks).length < e.length := by omega
  have hr2 : e[(Ex.flats ks).length] = n := by
   have : e[(Ex.flats ks).length]? = some n := by rw [hee, hflat, List.getElem?_append_right (Nat.le_refl _), Nat.sub_self]; rfl
   rw [List.getElem?_eq_getElem hr1] at this
   exact Option.some.inj this
  have hkF : ∀ k ∈ ks, HN k.flat := fun k hk m hm => hHN m (by rw [hflat]; exact List.mem_append_left _ (flats_mem hk hm))
  ((conv => whnf); repeat' ((first | (with_reducible first | apply a_ | apply b_ | apply c_) | ((with_reducible first | apply d_ | apply e_ | apply f_ | apply g_); focus first | omega | (simp only [q_] <;> omega)) | ((with_reducible first | apply i_ | apply h_); focus first | omega | (simp only [q_] <;> omega)) | ((with_reducible apply h_); focus first | decide | kernel_rfl) | refine BCase.t (by decide) ?_ | refine BCase.f (by decide) ?_ | refine CallP.pure _ rfl _ (p1) ?_ | refine CallP.pure _ rfl _ (pk) ?_ | refine CallP.pure _ rfl _ (p_evalbegun) ?_ | with_reducible first | apply l_ | apply m_ | apply n_ | apply o_ | refine p_ (fun _ => ?_) (fun _ => ?_)) <;> (conv => whnf)))
  refine LoopC.mk (Nat × List ValueD) (fun s => [(0, slV 6 NodeD.c e), (1, slV 1 eText cols), (2, slV 3 ValueD.c row), (7, .d (.ptr 7 0)), (8, pInt .i64 x), (9, .d (.c (.sl 1 (ks.map fun k => ek k.flat)))), (11, .d (.app 60 40 6 ((s.2.map litN).map NodeD.c))), (12, pInt .i64 s.1)]) (fun s => [(7, .box 26 (v.c.map D.c)), (60, .tail 40 6)]) [7, 60] (fun s => s.1 ≤ ks.length ∧ s.2.length = s.1 ∧ (s.1 ≠ 0 → scopeE e cols row = 0) ∧ foldXs (nodF (lookC cols row)) (ks.take s.1) = .ok s.2 ∧ ∀ w ∈ s.2, RV w ∧ 0 ≤ w.N) (fun s => ks.length - s.1) (0, []) ⟨Nat.zero_le _, rfl, fun q => absurd rfl q, by show foldXs _ (ks.take 0) = _; rw [List.take_zero, foldXs], (fun w hw => absurd hw (List.not_mem_nil))⟩ ?start ?round
  case start => exact ⟨[(7, 7)], rfl, rfl, ⟨.inl rfl, .inl rfl, .inl rfl, ⟨rfl, rfl, rfl⟩, .inl rfl, .inl rfl, ⟨rfl, rfl, Nat.zero_lt_succ _, rfl, rfl⟩, .inl rfl, trivial⟩, ⟨rfl, rfl, ⟨.inl rfl, .inl rfl, .inl rfl, rfl⟩⟩, ⟨rfl, Nat.zero_lt_succ _⟩, trivial⟩
  case round =>
   rintro ⟨j, ws⟩ ⟨hj, hwl, hsc, hfx, hws⟩
   have hj : j ≤ ks.length := hj
   have hwl : ws.length = j := hwl
   have hsc : j ≠ 0 → scopeE e cols row = 0 := hsc
   have hfx : foldXs (nodF (lookC cols row)) (ks.take j) = .ok ws := hfx
   have hws : ∀ w ∈ ws, RV w ∧ 0 ≤ w.N := hws
   by_cases q : j < ks.length
   ·have hm := List.getElem_mem q
    have hkr := kid_right ht hm
    have pv := p_eval ks[j].flat (hkF _ hm) cols row (okVs_len hr) (okVs_in hr)
    have hks : scopeE ks[j].flat cols row = scopeE e cols row := scope_same (by rw [hee, check_right ht, check_right hkr]) cols row
    have hdr : ks = ks.take (j + 1) ++ ks.drop (j + 1) := (List.take_append_drop _ _).symm
    have hsn := foldXs_snoc (f := nodF (lookC cols row)) (ks.take j) ks[j] ws hfx
    rw [← take_snoc q] at hsn
    cases hev : evalF ks[j].flat cols row with
    | error y =>
     have hy := evalF_err hev
     rw [hev] at pv
     have pv : Pure _ _ _ (.tup [vV noV, pInt .i64 y]) := pv
     have hE : evalF (Ex.mk n ks).flat cols row = .error y := by
      rw [evalF_tree hkr, hks] at hev
      rw [evalF_tree ht, ← hee]
      split at hev
      ·rename_i g; rw [if_pos g]; exact hev
      ·rename_i g
       rw [if_neg g, foldX]
       rw [hev] at hsn
       have hsn : foldXs (nodF (lookC cols row)) (ks.take (j + 1)) = .error y := hsn
       have := foldXs_pre _ (ks.drop (j + 1)) hsn
       rw [← hdr] at this
       rw [this]
     rw [hE] at hvE
     obtain ⟨rfl, rfl⟩ := eVal_err hvE
     ((conv => whnf); repeat' ((first | (with_reducible first | apply a_ | apply b_ | apply c_) | ((with_reducible first | apply d_ | apply e_ | apply f_ | apply g_); focus first | omega | (simp only [q_] <;> omega)) | ((with_reducible first | apply i_ | apply h_); focus first | omega | (simp only [q_] <;> omega)) | ((with_reducible apply h_); focus first | decide | kernel_rfl) | refine BCase.t (by decide) ?_ | refine BCase.f (by decide) ?_ | (refine Idx.mapI (f := fun k => ek k.flat) j rfl q ?_) | refine CallP.pure _ rfl _ (pv) ?_ | with_reducible first | apply l_ | apply m_ | apply n_ | apply o_ | refine p_ (fun _ => ?_) (fun _ => ?_)) <;> (conv => whnf)))
     all_goals first | exact Ret.bool (by decide) | (exact Ret.bool (by simp)) | (exfalso; omega)
    | ok w =>
     rw [hev] at pv
     have pv : Pure _ _ _ (.tup [vV w, pInt .i64 0]) := pv
     by_cases h0 : w.N < 0
     ·((conv => whnf); repeat' ((first | (with_reducible first | apply a_ | apply b_ | apply c_) | ((with_reducible first | apply d_ | apply e_ | apply f_ | apply g_); focus first | omega | (simp only [q_] <;> omega)) | ((with_reducible first | apply i_ | apply h_); focus first | omega | (simp only [q_] <;> omega)) | ((with_reducible apply h_); focus first | decide | kernel_rfl) | refine BCase.t (by decide) ?_ | refine BCase.f (by decide) ?_ | (refine Idx.mapI (f := fun k => ek k.flat) j rfl q ?_) | refine CallP.pure _ rfl _ (pv) ?_ | with_reducible first | apply l_ | apply m_ | apply n_ | apply o_ | refine p_ (fun _ => ?_) (fun _ => ?_)) <;> (conv => whnf)))
      all_goals first | exact Ret.bool (by decide) | (exact Ret.bool (by simp)) | (exfalso; omega)
     ·have hs0 : scopeE e cols row = 0 := by
       rw [evalF_tree hkr, hks] at hev
       split at hev
       ·cases hev
       ·rename_i g; exact Decidable.of_not_not g
      have hxe : foldX (nodF (lookC cols row)) ks[j] = .ok w := by
       rw [evalF_tree hkr, hks, hs0, if_neg (by decide)] at hev
       exact hev
      rw [hxe] at hsn
      have hsn : foldXs (nodF (lookC cols row)) (ks.take (j + 1)) = .ok (ws ++ [w]) := hsn
      have hrw := evalF_rv (hkF _ hm) (okVs_in hr) hev
      have pl := p_nlit w
      ((conv => whnf); repeat' ((first | (with_reducible first | apply a_ | apply b_ | apply c_) | ((with_reducible first | apply d_ | apply e_ | apply f_ | apply g_); focus first | omega | (simp only [q_] <;> omega)) | ((with_reducible first | apply i_ | apply h_); focus first | omega | (simp only [q_] <;> omega)) | ((with_reducible apply h_); focus first | decide | kernel_rfl) | refine BCase.t (by decide) ?_ | refine BCase.f (by decide) ?_ | (refine Idx.mapI (f := fun k => ek k.flat) j rfl q ?_) | refine CallP.pure _ rfl _ (pv) ?_ | refine CallP.pure _ rfl _ (pl) ?_ | (refine Need.by 64 rfl (by simp only [List.length_map, List.length_singleton]; omega) ?_) | with_reducible first | apply l_ | apply m_ | apply n_ | apply o_ | refine p_ (fun _ => ?_) (fun _ => ?_)) <;> (conv => whnf)))
      refine ⟨(j + 1, ws ++ [w]), ⟨by show j + 1 ≤ _; omega, by show (ws ++ [w]).length = j + 1; simp [hwl], fun _ => hs0, hsn, ?_⟩, by show ks.length - (j + 1) < ks.length - j; omega, [(7, 7), (60, 74)], rfl, rfl, ⟨.inl rfl, .inl rfl, .inl rfl, ⟨rfl, rfl, rfl⟩, .inl rfl, .inl rfl, ⟨rfl, rfl, rfl, rfl, by show _ = ((ws ++ [w]).map litN).map NodeD.c; rw [List.map_append, List.map_append]; rfl⟩, PLe.int (by omega), trivial⟩, ⟨rfl, rfl, ⟨.inl rfl, .inl rfl, .inl rfl, rfl⟩⟩, ⟨rfl, rfl, rfl⟩, trivial⟩
      intro u hu
      rcases List.mem_append.1 hu with hu | hu
      ·exact hws u hu
      ·rw [List.mem_singleton.1 hu]; exact ⟨hrw, by omega⟩
   ·rw [List.take_of_length_le (by omega)] at hfx
    by_cases hk0 : ks.length = 0
    ·((conv => whnf); repeat' ((first | (with_reducible first | apply a_ | apply b_ | apply c_) | ((with_reducible first | apply d_ | apply e_ | apply f_ | apply g_); focus first | omega | (simp only [q_] <;> omega)) | ((with_reducible first | apply i_ | apply h_); focus first | omega | (simp only [q_] <;> omega)) | ((with_reducible apply h_); focus first | decide | kernel_rfl) | refine BCase.t (by decide) ?_ | refine BCase.f (by decide) ?_ | with_reducible first | apply l_ | apply m_ | apply n_ | apply o_ | refine p_ (fun _ => ?_) (fun _ => ?_)) <;> (conv => whnf)))
     all_goals first | exact Ret.bool (by decide) | (exact Ret.bool (by simp)) | (exfalso; omega)
    ·have hs0 := hsc (by omega)
     have hlr := lits_right ht (ws := ws) (by omega) hws
     have hlH : HN (Ex.mk n (litsT ws)).flat := hn_mk (hn_root hHN) (by
      rw [lits_flat]
      intro m hm
      obtain ⟨w, hw, rfl⟩ := List.mem_map.1 hm
      exact ⟨Nat.zero_le _, (hws w hw).1.2⟩)
     have pv := p_eval (Ex.mk n (litsT ws)).flat hlH cols row (okVs_len hr) (okVs_in hr)
     have hE : evalF (Ex.mk n (litsT ws)).flat cols row = evalF (Ex.mk n ks).flat cols row := by
      rw [evalF_tree hlr, evalF_tree ht, scope_same ((check_right hlr).trans (check_right ht).symm), foldX, foldX, lits_fold, hfx]
     rw [hE, hvE] at pv
     have eL : slV 6 NodeD.c (Ex.mk n (litsT ws)).flat = .d (.c (.sl 6 ((ws.map litN).map NodeD.c ++ [n.c]))) := by
      rw [Ex.flat, lits_flat]; unfold slV; rw [List.map_append]; rfl
     rw [eL] at pv
     ((conv => whnf); repeat' ((first | (with_reducible first | apply a_ | apply b_ | apply c_) | ((with_reducible first | apply d_ | apply e_ | apply f_ | apply g_); focus first | omega | (simp only [q_] <;> omega)) | ((with_reducible first | apply i_ | apply h_); focus first | omega | (simp only [q_] <;> omega)) | ((with_reducible apply h_); focus first | decide | kernel_rfl) | refine BCase.t (by decide) ?_ | refine BCase.f (by decide) ?_ | (refine Idx.mapE (Ex.flats ks).length (by omega) hr1 hr2 ?_) | refine CallP.pure _ rfl _ (pv) ?_ | (refine Need.by 64 rfl (by simp only [List.length_map, List.length_singleton]; omega) ?_) | with_reducible first | apply l_ | apply m_ | apply n_ | apply o_ | refine p_ (fun _ => ?_) (fun _ => ?_)) <;> (conv => whnf)))
     all_goals first | exact Ret.bool (by decide) | (exact Ret.bool (by simp)) | (exfalso; omega)
end Go.Proofs.YtpkifeagopceaaaDoor.Pm
end
