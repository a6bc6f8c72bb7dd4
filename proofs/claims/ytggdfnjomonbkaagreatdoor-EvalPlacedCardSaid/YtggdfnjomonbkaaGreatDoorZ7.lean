/- Parts of the proof, one behind the other: PxPush2 PxBegun PxBegun2 PxLaws PxSub PxLaws2. Conditions: none beyond what each theorem says. -/
import Derived.Test.YtggdfnjomonbkaaGreatDoorZ6
section
namespace Go.Proofs.YtggdfnjomonbkaaGreatDoor.Pm
open Go.RowKit K
set_option linter.unusedVariables false
set_option linter.unusedSimpArgs false
set_option maxRecDepth 100000
mutual
theorem pushE_len (neg : Bool) : ∀ t : Ex, (pushE neg t).flat.length ≤ 2 * t.flat.length
  | .mk n ks => by
    have hp : ∀ b, (Ex.flats (pushEs b ks)).length ≤ 2 * (Ex.flats ks).length := fun b => pushEs_len b ks
    have hl : (Ex.mk n ks).flat.length = (Ex.flats ks).length + 1 := by rw [Ex.flat, List.length_append, List.length_singleton]
    rw [pushE_eq, hl]
    split
    · have h := hp (!neg)
      split
      · rename_i k hk
        rw [hk, Ex.flats_one] at h
        omega
      · rw [hl]; omega
    · split
      · have h := hp neg
        rw [Ex.flat, List.length_append, List.length_singleton]; omega
      · split
        · split
          · rw [Ex.flat, List.length_append, List.length_singleton]; omega
          · rw [Ex.flat, Ex.flats_one, List.length_append, List.length_singleton, hl]; omega
        · rw [hl]; omega
theorem pushEs_len (neg : Bool) : ∀ l : List Ex, (Ex.flats (pushEs neg l)).length ≤ 2 * (Ex.flats l).length
  | [] => by rw [pushEs]; exact Nat.zero_le _
  | t :: l => by
    rw [pushEs, Ex.flats, Ex.flats, List.length_append, List.length_append]
    have h1 := pushE_len neg t
    have h2 := pushEs_len neg l
    omega
end
def HN (e : List NodeD) : Prop := ∀ n ∈ e, hNode n
theorem hn_opN {n : NodeD} (op : Int) (h : hNode n) : hNode (opN n op) := h
theorem hn_not : hNode notN := ⟨Nat.zero_le _, by decide⟩
theorem hn_root {n : NodeD} {ks : List Ex} (h : HN (Ex.mk n ks).flat) : hNode n := h n (by rw [Ex.flat]; simp)
theorem hn_kids {n : NodeD} {ks : List Ex} (h : HN (Ex.mk n ks).flat) : HN (Ex.flats ks) := fun m hm => h m (by rw [Ex.flat]; exact List.mem_append_left _ hm)
theorem hn_mk {n : NodeD} {ks : List Ex} (h : hNode n) (hk : HN (Ex.flats ks)) : HN (Ex.mk n ks).flat := by
  intro m hm
  rw [Ex.flat] at hm
  rcases List.mem_append.1 hm with hm | hm
  · exact hk m hm
  · rw [List.mem_singleton.1 hm]; exact h
mutual
theorem pushE_hn (neg : Bool) : ∀ t : Ex, HN t.flat → HN (pushE neg t).flat
  | .mk n ks, h => by
    have h1 := hn_root h
    have h2 := hn_kids h
    have hp : ∀ b, HN (Ex.flats (pushEs b ks)) := fun b => pushEs_hn b ks h2
    rw [pushE_eq]
    split
    · have h3 := hp (!neg)
      split
      · rename_i k hk
        rw [hk, Ex.flats_one] at h3
        exact h3
      · exact h
    · split
      · exact hn_mk (hn_opN _ h1) (hp neg)
      · split
        · split
          · exact hn_mk (hn_opN _ h1) h2
          · refine hn_mk hn_not ?_
            rw [Ex.flats_one]; exact h
        · exact h
theorem pushEs_hn (neg : Bool) : ∀ l : List Ex, HN (Ex.flats l) → HN (Ex.flats (pushEs neg l))
  | [], _ => by rw [pushEs, Ex.flats]; intro m hm; cases hm
  | t :: l, h => by
    rw [Ex.flats] at h
    rw [pushEs, Ex.flats]
    intro m hm
    rcases List.mem_append.1 hm with hm | hm
    · exact pushE_hn neg t (fun m hm => h m (List.mem_append_left _ hm)) m hm
    · exact pushEs_hn neg l (fun m hm => h m (List.mem_append_right _ hm)) m hm
end
def pushA (t : Ex) : List NodeD × Int := if checkF (pushE false t).flat ≠ 0 then ([], checkF (pushE false t).flat) else ((pushE false t).flat, 0)
theorem p_Push_bad (e : List NodeD) (hn : HN e) (h : checkF e ≠ 0) : Pure Tryz.prog 21 [slV 6 NodeD.c e] (.tup [slV 6 NodeD.c [], pInt .i64 (checkF e)]) := by
  have pc := p_echeck e (fun n h => (hn n h).1)
  refine pure_of Tryz.func21 (by rfl) rfl (by kernel_rfl) (by rfl) ?_
  ((conv => whnf); repeat' ((first | (with_reducible first | apply a_ | apply b_ | apply c_) | ((with_reducible first | apply d_ | apply e_ | apply f_ | apply g_); focus first | omega | (simp only [q_] <;> omega)) | ((with_reducible first | apply i_ | apply h_); focus first | omega | (simp only [q_] <;> omega)) | ((with_reducible apply h_); focus first | decide | kernel_rfl) | refine BCase.t (by decide) ?_ | refine BCase.f (by decide) ?_ | refine CallP.pure _ rfl _ (pc) ?_ | with_reducible first | apply l_ | apply m_ | apply n_ | apply o_ | refine p_ (fun _ => ?_) (fun _ => ?_)) <;> (conv => whnf)))
  all_goals first | exact Ret.le ⟨.inr ⟨⟨6, rfl⟩, .inl rfl⟩, .inl rfl, rfl⟩ | (exfalso; omega)
theorem p_Push (t : Ex) (ht : RightT t) (hn : HN t.flat) : Pure Tryz.prog 21 [slV 6 NodeD.c t.flat] (.tup [slV 6 NodeD.c (pushA t).1, pInt .i64 (pushA t).2]) := by
  have h60 := ht.len
  have pc := p_echeck t.flat (fun n h => (hn n h).1)
  rw [check_right ht] at pc
  have hl2 := pushE_len false t
  have pp := s_push _ t (Nat.le_refl _) ht.good ht.all false [] (by simp only [List.length_nil]; omega) (by omega)
  have pp := pp.nil_arr (by decide) (by decide)
  rw [List.nil_append] at pp
  have pk := p_echeck (pushE false t).flat (fun n h => (pushE_hn false t hn n h).1)
  have pk' := pk.lend (rd := [(FK, .arr 37 6 ((pushE false t).flat.map NodeD.c))]) (args := [.d (.arr FK 37 6 0 (pushE false t).flat.length)]) rfl (by
    refine ⟨by simp, ?_⟩
    show [PV.d (D.c (C.sl 6 (List.take _ (List.drop 0 _))))] = _
    rw [List.drop_zero, List.take_of_length_le (by simp)])
  refine pure_of Tryz.func21 (by rfl) rfl (by kernel_rfl) (by rfl) ?_
  unfold pushA
  by_cases hc : checkF (pushE false t).flat = 0
  · rw [if_neg (by rw [hc]; decide)]
    rw [hc] at pk'
    ((conv => whnf); repeat' ((first | (with_reducible first | apply a_ | apply b_ | apply c_) | ((with_reducible first | apply d_ | apply e_ | apply f_ | apply g_); focus first | omega | (simp only [q_] <;> omega)) | ((with_reducible first | apply i_ | apply h_); focus first | omega | (simp only [q_] <;> omega)) | ((with_reducible apply h_); focus first | decide | kernel_rfl) | refine BCase.t (by decide) ?_ | refine BCase.f (by decide) ?_ | refine CallP.pure _ rfl _ (pc) ?_ | (refine CallP.ret [(FK, 12), (NK, 15)] _ _ _ _ _ _ _ pp rfl rfl rfl rfl ⟨rfl, trivial⟩ ?_) | (refine CallP.ret [(FK, 15)] _ _ _ _ _ _ _ pk' rfl rfl rfl rfl ⟨rfl, trivial⟩ ?_) | with_reducible first | apply l_ | apply m_ | apply n_ | apply o_ | refine p_ (fun _ => ?_) (fun _ => ?_)) <;> (conv => whnf)))
    refine Ret.eq ?_
    show PV.tup [PV.d (D.c (C.sl 6 (List.take _ (List.drop 0 _)))), _] = _
    rw [List.drop_zero, List.take_of_length_le (by simp)]
  · rw [if_pos hc]
    ((conv => whnf); repeat' ((first | (with_reducible first | apply a_ | apply b_ | apply c_) | ((with_reducible first | apply d_ | apply e_ | apply f_ | apply g_); focus first | omega | (simp only [q_] <;> omega)) | ((with_reducible first | apply i_ | apply h_); focus first | omega | (simp only [q_] <;> omega)) | ((with_reducible apply h_); focus first | decide | kernel_rfl) | refine BCase.t (by decide) ?_ | refine BCase.f (by decide) ?_ | refine CallP.pure _ rfl _ (pc) ?_ | (refine CallP.ret [(FK, 12), (NK, 15)] _ _ _ _ _ _ _ pp rfl rfl rfl rfl ⟨rfl, trivial⟩ ?_) | (refine CallP.ret [(FK, 15)] _ _ _ _ _ _ _ pk' rfl rfl rfl rfl ⟨rfl, trivial⟩ ?_) | with_reducible first | apply l_ | apply m_ | apply n_ | apply o_ | refine p_ (fun _ => ?_) (fun _ => ?_)) <;> (conv => whnf)))
    all_goals first | exact Ret.le ⟨.inr ⟨⟨6, rfl⟩, .inl rfl⟩, .inl rfl, rfl⟩ | (exfalso; omega)
def pairsL : List Int := [10, 11, 12, 15, 13, 14, 18, 19, 20, 21, 22, 23, 24, 25]
theorem p_counterof (op : Int) : Pure Tryz.prog 84 [pInt .i64 op] (pInt .i64 (couF op)) := by
  refine pure_of Tryz.func84 (by rfl) rfl (by kernel_rfl) (by rfl) ?_
  ((conv => whnf); repeat' ((first | (with_reducible first | apply a_ | apply b_ | apply c_) | ((with_reducible first | apply d_ | apply e_ | apply f_ | apply g_); focus first | omega | (simp only [q_] <;> omega)) | ((with_reducible first | apply i_ | apply h_); focus first | omega | (simp only [q_] <;> omega)) | ((with_reducible apply h_); focus first | decide | kernel_rfl) | refine BCase.t (by decide) ?_ | refine BCase.f (by decide) ?_ | with_reducible first | apply l_ | apply m_ | apply n_ | apply o_ | refine p_ (fun _ => ?_) (fun _ => ?_)) <;> (conv => whnf)))
  refine LoopC.mk Nat (fun j => [(0, pInt .i64 op), (3, .d (.app 5 3 1 (pairsL.map eInt))), (4, pInt .i64 j)]) (fun _ => [(5, .tail 3 1)]) [5] (fun j => j ≤ 14 ∧ ∀ i (h : i < 14), i < j → pairsL[i]'h ≠ op) (fun j => 14 - j) 0 ⟨Nat.zero_le _, fun i h h2 => absurd h2 (Nat.not_lt_zero _)⟩ ?start ?round
  case start => exact ⟨[(5, 5)], rfl, rfl, ⟨.inl rfl, ⟨rfl, rfl, rfl, rfl, rfl⟩, .inl rfl, trivial⟩, ⟨rfl, rfl, rfl⟩, trivial⟩
  case round =>
    rintro j ⟨hj, hi⟩
    have hj : j ≤ 14 := hj
    have h14 : (pairsL.map eInt).length = 14 := rfl
    by_cases q : j < 14
    · by_cases e : pairsL[j]'q = op
      · have hc : j = 0 ∨ j = 1 ∨ j = 2 ∨ j = 3 ∨ j = 4 ∨ j = 5 ∨ j = 6 ∨ j = 7 ∨ j = 8 ∨ j = 9 ∨ j = 10 ∨ j = 11 ∨ j = 12 ∨ j = 13 := by omega
        clear hi hj
        rcases hc with rfl | rfl | rfl | rfl | rfl | rfl | rfl | rfl | rfl | rfl | rfl | rfl | rfl | rfl
        all_goals
          simp only [pairsL, List.getElem_cons_zero, List.getElem_cons_succ] at e
          subst e
          ((conv => whnf); repeat' ((first | (with_reducible first | apply a_ | apply b_ | apply c_) | ((with_reducible first | apply d_ | apply e_ | apply f_ | apply g_); focus first | omega | (simp only [q_] <;> omega)) | ((with_reducible first | apply i_ | apply h_); focus first | omega | (simp only [q_] <;> omega)) | ((with_reducible apply h_); focus first | decide | kernel_rfl) | refine BCase.t (by decide) ?_ | refine BCase.f (by decide) ?_ | (refine Idx.lit rfl rfl ?_) | with_reducible first | apply l_ | apply m_ | apply n_ | apply o_ | refine p_ (fun _ => ?_) (fun _ => ?_)) <;> (conv => whnf)))
          exact Ret.int (by decide)
      · ((conv => whnf); repeat' ((first | (with_reducible first | apply a_ | apply b_ | apply c_) | ((with_reducible first | apply d_ | apply e_ | apply f_ | apply g_); focus first | omega | (simp only [q_] <;> omega)) | ((with_reducible first | apply i_ | apply h_); focus first | omega | (simp only [q_] <;> omega)) | ((with_reducible apply h_); focus first | decide | kernel_rfl) | refine BCase.t (by decide) ?_ | refine BCase.f (by decide) ?_ | (refine Idx.mapI j rfl q ?_) | with_reducible first | apply l_ | apply m_ | apply n_ | apply o_ | refine p_ (fun _ => ?_) (fun _ => ?_)) <;> (conv => whnf)))
        refine ⟨j + 1, ⟨by omega, fun i h h2 => ?_⟩, by omega, [(5, 5)], rfl, rfl, ⟨.inl rfl, ⟨rfl, rfl, rfl, rfl, rfl⟩, PLe.int rfl, trivial⟩, ⟨rfl, rfl, rfl⟩, trivial⟩
        by_cases h3 : i = j
        · subst h3; exact e
        · exact hi i h (by omega)
    · have hc : couF op = 0 := by
        have h0 : (10 : Int) ≠ op := hi 0 (by decide) (by omega)
        have h1 : (11 : Int) ≠ op := hi 1 (by decide) (by omega)
        have h2 : (12 : Int) ≠ op := hi 2 (by decide) (by omega)
        have h3 : (15 : Int) ≠ op := hi 3 (by decide) (by omega)
        have h4 : (13 : Int) ≠ op := hi 4 (by decide) (by omega)
        have h5 : (14 : Int) ≠ op := hi 5 (by decide) (by omega)
        have h6 : (18 : Int) ≠ op := hi 6 (by decide) (by omega)
        have h7 : (19 : Int) ≠ op := hi 7 (by decide) (by omega)
        have h8 : (20 : Int) ≠ op := hi 8 (by decide) (by omega)
        have h9 : (21 : Int) ≠ op := hi 9 (by decide) (by omega)
        have h10 : (22 : Int) ≠ op := hi 10 (by decide) (by omega)
        have h11 : (23 : Int) ≠ op := hi 11 (by decide) (by omega)
        have h12 : (24 : Int) ≠ op := hi 12 (by decide) (by omega)
        have h13 : (25 : Int) ≠ op := hi 13 (by decide) (by omega)
        unfold couF
        rw [if_neg (by omega), if_neg (by omega), if_neg (by omega)]
      rw [hc]
      ((conv => whnf); repeat' ((first | (with_reducible first | apply a_ | apply b_ | apply c_) | ((with_reducible first | apply d_ | apply e_ | apply f_ | apply g_); focus first | omega | (simp only [q_] <;> omega)) | ((with_reducible first | apply i_ | apply h_); focus first | omega | (simp only [q_] <;> omega)) | ((with_reducible apply h_); focus first | decide | kernel_rfl) | refine BCase.t (by decide) ?_ | refine BCase.f (by decide) ?_ | with_reducible first | apply l_ | apply m_ | apply n_ | apply o_ | refine p_ (fun _ => ?_) (fun _ => ?_)) <;> (conv => whnf)))
      exact Ret.int rfl
theorem alF_plain {n : NodeD} (h : alF n = 0) (h1 : n.Op ≠ 1) (h2 : n.Op ≠ 2) : n.V = noV ∧ n.Name = [] := by
  unfold alF at h
  split at h
  · cases h
  · split at h
    · cases h
    · rename_i q
      have q1 : ¬ (n.Op ≠ 1 ∧ ValueD.eqB n.V noV = false) := fun x => q (.inr (.inr (.inl x)))
      have q2 : ¬ (n.Op ≠ 2 ∧ n.Name ≠ []) := fun x => q (.inr (.inr (.inr x)))
      refine ⟨?_, ?_⟩
      · refine (ValueD.eqB_iff _ _).1 ?_
        cases hb : ValueD.eqB n.V noV with
        | true => rfl
        | false => exact absurd ⟨h1, hb⟩ q1
      · exact Decidable.of_not_not fun x => q2 ⟨h2, x⟩
theorem p_push_not : ∀ (N : Nat) (t : Ex), t.flat.length ≤ N → t.good → (∀ n ∈ t.flat, alF n = 0) → t.flat.length ≤ 1000 →
    Pure Tryz.prog 42 [slV 6 NodeD.c t.flat] (slV 6 NodeD.c (pushE false t).flat) ∧ Pure Tryz.prog 62 [slV 6 NodeD.c t.flat] (slV 6 NodeD.c (pushE true t).flat)
  | 0, t, hN, hg, ha, hl => by have := t.flat_pos; omega
  | N + 1, .mk n ks, hN, hg, ha, hl => by
    have hg0 := hg
    rw [Ex.good] at hg
    obtain ⟨hk, hgs⟩ := hg
    have hlen : (Ex.mk n ks).flat.length = (Ex.flats ks).length + 1 := by rw [Ex.flat, List.length_append, List.length_singleton]
    have hkb := len_le_flats ks
    have han : alF n = 0 := ha n (by rw [Ex.flat]; simp)
    have hak : ∀ k ∈ ks, ∀ m ∈ k.flat, alF m = 0 := fun k hk m hm => ha m (by rw [Ex.flat]; exact List.mem_append_left _ (flats_mem hk hm))
    obtain ⟨h1, h2, h3, h4, h5, h6⟩ := alF_kids han
    obtain ⟨e, he⟩ : ∃ e, e = (Ex.mk n ks).flat := ⟨_, rfl⟩
    have pk := p_exprkids n ks hg0 e he.symm (by rw [he]; exact hl)
    have he2 := root_at (n := n) (ks := ks) (e := e) (pre := []) (post := []) (by rw [he]; simp)
    obtain ⟨hr1, hr2⟩ := root_get he2
    have hel : e.length = (Ex.flats ks).length + 1 := by rw [he, hlen]
    have hml : (e.map NodeD.c).length = (Ex.flats ks).length + 1 := by rw [List.length_map, hel]
    have hpl : ([] ++ Ex.flats ks).length = (Ex.flats ks).length := rfl
    have hfe : (Ex.mk n ks).flat = Ex.flats ks ++ [n] := by rw [Ex.flat]
    have hem : e.map NodeD.c = (Ex.flats ks).map NodeD.c ++ [n.c] := by rw [he, hfe, List.map_append]; rfl
    rw [← he] at hl hN ⊢
    by_cases g4 : n.Op = 4
    · have hk1 : ks.length = 1 := by
        rw [g4] at h3 h4
        have : leastK 4 = 1 := rfl
        have : mostK 4 = 1 := rfl
        omega
      obtain ⟨k, rfl⟩ : ∃ k, ks = [k] := List.length_eq_one_iff.1 hk1
      have hf1 : Ex.flats [k] = k.flat := Ex.flats_one k
      rw [hf1] at hel hlen
      have pp := p_push_not N k (by omega) (Ex.goods_mem hgs k (List.mem_singleton.2 rfl)) (hak k (List.mem_singleton.2 rfl)) (by omega)
      obtain ⟨p1, p2⟩ := pp
      refine ⟨?_, ?_⟩
      · refine pure_of Tryz.func42 (by rfl) rfl (by kernel_rfl) (by rfl) ?_
        rw [pushE_not false g4]
        ((conv => whnf); repeat' ((first | (with_reducible first | apply a_ | apply b_ | apply c_) | ((with_reducible first | apply d_ | apply e_ | apply f_ | apply g_); focus first | omega | (simp only [q_] <;> omega)) | ((with_reducible first | apply i_ | apply h_); focus first | omega | (simp only [q_] <;> omega)) | ((with_reducible apply h_); focus first | decide | kernel_rfl) | refine BCase.t (by decide) ?_ | refine BCase.f (by decide) ?_ | (refine Idx.mapE ([] ++ Ex.flats [k]).length (by omega) hr1 hr2 ?_) | refine CallP.pure _ rfl _ (pk) ?_ | refine CallP.pure _ rfl _ (p2) ?_ | (refine Idx.lit rfl rfl ?_) | with_reducible first | apply l_ | apply m_ | apply n_ | apply o_ | refine p_ (fun _ => ?_) (fun _ => ?_)) <;> (conv => whnf)))
        exact Ret.eq rfl
      · refine pure_of Tryz.func62 (by rfl) rfl (by kernel_rfl) (by rfl) ?_
        rw [pushE_not true g4]
        ((conv => whnf); repeat' ((first | (with_reducible first | apply a_ | apply b_ | apply c_) | ((with_reducible first | apply d_ | apply e_ | apply f_ | apply g_); focus first | omega | (simp only [q_] <;> omega)) | ((with_reducible first | apply i_ | apply h_); focus first | omega | (simp only [q_] <;> omega)) | ((with_reducible apply h_); focus first | decide | kernel_rfl) | refine BCase.t (by decide) ?_ | refine BCase.f (by decide) ?_ | (refine Idx.mapE ([] ++ Ex.flats [k]).length (by omega) hr1 hr2 ?_) | refine CallP.pure _ rfl _ (pk) ?_ | refine CallP.pure _ rfl _ (p1) ?_ | (refine Idx.lit rfl rfl ?_) | with_reducible first | apply l_ | apply m_ | apply n_ | apply o_ | refine p_ (fun _ => ?_) (fun _ => ?_)) <;> (conv => whnf)))
        exact Ret.eq rfl
    by_cases g16 : n.Op = 16 ∨ n.Op = 17
    · obtain ⟨hV, hNm⟩ := alF_plain han (by omega) (by omega)
      have hK : n.Kids = 2 := by
        rcases g16 with g | g <;> rw [g] at h3 h4
        · have : leastK 16 = 2 := rfl
          have : mostK 16 = 2 := rfl
          omega
        · have : leastK 17 = 2 := rfl
          have : mostK 17 = 2 := rfl
          omega
      obtain ⟨a, b, rfl⟩ : ∃ a b, ks = [a, b] := by
        match ks, hk with
        | [a, b], _ => exact ⟨a, b, rfl⟩
        | [], hk => rw [hK] at hk; simp at hk
        | [_], hk => rw [hK] at hk; simp at hk
        | _ :: _ :: _ :: _, hk => rw [hK] at hk; simp at hk; omega
      have hfl2 : Ex.flats [a, b] = a.flat ++ b.flat := by rw [Ex.flats, Ex.flats_one]
      have hfll : (Ex.flats [a, b]).length = a.flat.length + b.flat.length := by rw [hfl2, List.length_append]
      obtain ⟨a1, a2⟩ := p_push_not N a (by omega) (Ex.goods_mem hgs a (by simp)) (hak a (by simp)) (by omega)
      obtain ⟨b1, b2⟩ := p_push_not N b (by omega) (Ex.goods_mem hgs b (by simp)) (hak b (by simp)) (by omega)
      have la := pushE_len false a
      have lb := pushE_len false b
      have la2 := pushE_len true a
      have lb2 := pushE_len true b
      have hfp : ∀ neg op, (Ex.mk (opN n op) (pushEs neg [a, b])).flat.map NodeD.c = (pushE neg a).flat.map NodeD.c ++ (pushE neg b).flat.map NodeD.c ++ [(⟨op, 2, noV, []⟩ : NodeD).c] := by
        intro neg op
        have e1 : opN n op = ⟨op, 2, noV, []⟩ := by unfold opN; rw [hV, hNm, hK]
        rw [Ex.flat, pushEs, pushEs, pushEs, Ex.flats, Ex.flats_one, List.map_append, List.map_append, e1]; rfl
      refine ⟨?_, ?_⟩
      · refine pure_of Tryz.func42 (by rfl) rfl (by kernel_rfl) (by rfl) ?_
        rw [pushE_and false g16, if_neg (by simp)]
        rcases g16 with g | g
        all_goals
          ((conv => whnf); repeat' ((first | (with_reducible first | apply a_ | apply b_ | apply c_) | ((with_reducible first | apply d_ | apply e_ | apply f_ | apply g_); focus first | omega | (simp only [q_] <;> omega)) | ((with_reducible first | apply i_ | apply h_); focus first | omega | (simp only [q_] <;> omega)) | ((with_reducible apply h_); focus first | decide | kernel_rfl) | refine BCase.t (by decide) ?_ | refine BCase.f (by decide) ?_ | (refine Idx.mapE ([] ++ Ex.flats [a, b]).length (by omega) hr1 hr2 ?_) | refine CallP.pure _ rfl _ (pk) ?_ | refine CallP.pure _ rfl _ (a1) ?_ | refine CallP.pure _ rfl _ (b1) ?_ | (refine Idx.lit rfl rfl ?_) | (refine Need.by 64 rfl (by simp only [List.length_map, List.length_append, List.length_nil, List.length_singleton]; omega) ?_) | with_reducible first | apply l_ | apply m_ | apply n_ | apply o_ | refine p_ (fun _ => ?_) (fun _ => ?_)) <;> (conv => whnf)))
          refine Ret.eq ?_
          show _ = PV.d (.c (.sl 6 ((Ex.mk (opN n n.Op) (pushEs false [a, b])).flat.map NodeD.c)))
          rw [hfp]; rfl
      · refine pure_of Tryz.func62 (by rfl) rfl (by kernel_rfl) (by rfl) ?_
        rw [pushE_and true g16, if_pos rfl]
        rcases g16 with g | g
        all_goals
          ((conv => whnf); repeat' ((first | (with_reducible first | apply a_ | apply b_ | apply c_) | ((with_reducible first | apply d_ | apply e_ | apply f_ | apply g_); focus first | omega | (simp only [q_] <;> omega)) | ((with_reducible first | apply i_ | apply h_); focus first | omega | (simp only [q_] <;> omega)) | ((with_reducible apply h_); focus first | decide | kernel_rfl) | refine BCase.t (by decide) ?_ | refine BCase.f (by decide) ?_ | (refine Idx.mapE ([] ++ Ex.flats [a, b]).length (by omega) hr1 hr2 ?_) | refine CallP.pure _ rfl _ (pk) ?_ | refine CallP.pure _ rfl _ (a2) ?_ | refine CallP.pure _ rfl _ (b2) ?_ | (refine Idx.lit rfl rfl ?_) | (refine Need.by 64 rfl (by simp only [List.length_map, List.length_append, List.length_nil, List.length_singleton]; omega) ?_) | with_reducible first | apply l_ | apply m_ | apply n_ | apply o_ | refine p_ (fun _ => ?_) (fun _ => ?_)) <;> (conv => whnf)))
          refine Ret.eq ?_
          show _ = PV.d (.c (.sl 6 ((Ex.mk (opN n (33 - n.Op)) (pushEs true [a, b])).flat.map NodeD.c)))
          rw [hfp]; rfl
    rw [pushE_else false g4 g16, pushE_else true g4 g16, if_neg (by simp), if_pos rfl]
    have pc := p_counterof n.Op
    refine ⟨?_, ?_⟩
    · refine pure_of Tryz.func42 (by rfl) rfl (by kernel_rfl) (by rfl) ?_
      ((conv => whnf); repeat' ((first | (with_reducible first | apply a_ | apply b_ | apply c_) | ((with_reducible first | apply d_ | apply e_ | apply f_ | apply g_); focus first | omega | (simp only [q_] <;> omega)) | ((with_reducible first | apply i_ | apply h_); focus first | omega | (simp only [q_] <;> omega)) | ((with_reducible apply h_); focus first | decide | kernel_rfl) | refine BCase.t (by decide) ?_ | refine BCase.f (by decide) ?_ | (refine Idx.mapE ([] ++ Ex.flats ks).length (by omega) hr1 hr2 ?_) | refine CallP.pure _ rfl _ (pk) ?_ | (refine Need.by 64 rfl (by simp only [List.length_map, List.length_nil, Nat.zero_add]; omega) ?_) | with_reducible first | apply l_ | apply m_ | apply n_ | apply o_ | refine p_ (fun _ => ?_) (fun _ => ?_)) <;> (conv => whnf)))
      rw [← he]
      exact Ret.eq rfl
    · refine pure_of Tryz.func62 (by rfl) rfl (by kernel_rfl) (by rfl) ?_
      by_cases gc : couF n.Op = 0
      · rw [if_neg (by rw [gc]; decide)]
        rw [gc] at pc
        ((conv => whnf); repeat' ((first | (with_reducible first | apply a_ | apply b_ | apply c_) | ((with_reducible first | apply d_ | apply e_ | apply f_ | apply g_); focus first | omega | (simp only [q_] <;> omega)) | ((with_reducible first | apply i_ | apply h_); focus first | omega | (simp only [q_] <;> omega)) | ((with_reducible apply h_); focus first | decide | kernel_rfl) | refine BCase.t (by decide) ?_ | refine BCase.f (by decide) ?_ | (refine Idx.mapE ([] ++ Ex.flats ks).length (by omega) hr1 hr2 ?_) | refine CallP.pure _ rfl _ (pk) ?_ | refine CallP.pure _ rfl _ (pc) ?_ | (refine Need.by 64 rfl (by simp only [List.length_map, List.length_append, List.length_singleton, List.length_nil]; omega) ?_) | with_reducible first | apply l_ | apply m_ | apply n_ | apply o_ | refine p_ (fun _ => ?_) (fun _ => ?_)) <;> (conv => whnf)))
        have hfn : (Ex.mk notN [Ex.mk n ks]).flat = e ++ [notN] := by rw [Ex.flat, Ex.flats_one, he]
        rw [hfn]
        refine Ret.eq ?_
        show _ = PV.d (.c (.sl 6 ((e ++ [notN]).map NodeD.c)))
        rw [List.map_append]; rfl
      · rw [if_pos gc]
        have hfn : (Ex.mk (opN n (couF n.Op)) ks).flat = Ex.flats ks ++ [opN n (couF n.Op)] := by rw [Ex.flat]
        have lS : ∀ m r, m = (Ex.flats ks).length → r = (opN n (couF n.Op)).c → (e.map NodeD.c).set m r = (Ex.flats ks ++ [opN n (couF n.Op)]).map NodeD.c := by
          rintro m r rfl rfl
          rw [hem, List.set_append_right _ _ (by simp), List.length_map, Nat.sub_self, List.map_append]
          rfl
        have lR : ∀ m, m = (Ex.flats ks).length → (e.map NodeD.c)[m]? = some n.c := by
          rintro m rfl
          rw [hem, List.getElem?_append_right (by simp), List.length_map, Nat.sub_self]; rfl
        rw [hfn]
        ((conv => whnf); repeat' ((first | (with_reducible first | apply a_ | apply b_ | apply c_) | ((with_reducible first | apply d_ | apply e_ | apply f_ | apply g_); focus first | omega | (simp only [q_] <;> omega)) | ((with_reducible first | apply i_ | apply h_); focus first | omega | (simp only [q_] <;> omega)) | ((with_reducible apply h_); focus first | decide | kernel_rfl) | refine BCase.t (by decide) ?_ | refine BCase.f (by decide) ?_ | (refine EmpOr.emp ?_) | (refine Row.mk n.c (lR _ (by omega)) ?_) | (refine Idx.mapE ([] ++ Ex.flats ks).length (by omega) hr1 hr2 ?_) | refine CallP.pure _ rfl _ (pk) ?_ | refine CallP.pure _ rfl _ (pc) ?_ | (refine Need.by 64 rfl (by simp only [List.length_map, List.length_append, List.length_singleton]; omega) ?_) | with_reducible first | apply l_ | apply m_ | apply n_ | apply o_ | refine p_ (fun _ => ?_) (fun _ => ?_)) <;> (conv => whnf)))
        have key : ∀ m r q, m = (Ex.flats ks).length → r = (opN n (couF n.Op)).c → q = e.length → C.sl 6 (List.take q (List.drop 0 ((e.map NodeD.c).set m r))) = C.sl 6 ((Ex.flats ks ++ [opN n (couF n.Op)]).map NodeD.c) := by
          intro m r q hm hr hq
          rw [lS m r hm hr, List.drop_zero, List.take_of_length_le (by simp only [List.length_map, List.length_append, List.length_singleton]; omega)]
        exact Ret.eq (congrArg (fun x => PV.d (D.c x)) (key _ _ _ (by omega) rfl (by simp only [List.length_map, List.length_nil, Nat.zero_add])))
end Go.Proofs.YtggdfnjomonbkaaGreatDoor.Pm
end
section
namespace Go.Proofs.YtggdfnjomonbkaaGreatDoor.Pm
open Go.RowKit K
set_option linter.unusedVariables false
set_option linter.unusedSimpArgs false
set_option maxRecDepth 100000
theorem p_scopecheck (e : List NodeD) (hn : ∀ n ∈ e, okText n.Name) (cols : List (List UInt8)) (row : List ValueD) (hr : row.length ≤ 140737488355328) : Pure Tryz.prog 25 [slV 6 NodeD.c e, slV 1 eText cols, slV 3 ValueD.c row] (pInt .i64 (scopeE e cols row)) := by
  have pe := p_exprcheck e hn
  have pc := p_checkvalues row hr
  refine pure_of Tryz.func25 (by rfl) rfl (by kernel_rfl) (by rfl) ?_
  unfold scopeE
  by_cases h1 : checkF e = 0
  · rw [if_neg (by rw [h1]; decide)]
    rw [h1] at pe
    by_cases h2 : 8 < cols.length
    · rw [if_pos h2]
      ((conv => whnf); repeat' ((first | (with_reducible first | apply a_ | apply b_ | apply c_) | ((with_reducible first | apply d_ | apply e_ | apply f_ | apply g_); focus first | omega | (simp only [q_] <;> omega)) | ((with_reducible first | apply i_ | apply h_); focus first | omega | (simp only [q_] <;> omega)) | ((with_reducible apply h_); focus first | decide | kernel_rfl) | refine BCase.t (by decide) ?_ | refine BCase.f (by decide) ?_ | refine CallP.pure _ rfl _ (pe) ?_ | with_reducible first | apply l_ | apply m_ | apply n_ | apply o_ | refine p_ (fun _ => ?_) (fun _ => ?_)) <;> (conv => whnf)))
      all_goals first | exact Ret.int rfl | (exfalso; omega)
    · rw [if_neg h2]
      by_cases h3 : cols.length = row.length
      · rw [if_neg (by omega)]
        ((conv => whnf); repeat' ((first | (with_reducible first | apply a_ | apply b_ | apply c_) | ((with_reducible first | apply d_ | apply e_ | apply f_ | apply g_); focus first | omega | (simp only [q_] <;> omega)) | ((with_reducible first | apply i_ | apply h_); focus first | omega | (simp only [q_] <;> omega)) | ((with_reducible apply h_); focus first | decide | kernel_rfl) | refine BCase.t (by decide) ?_ | refine BCase.f (by decide) ?_ | refine CallP.pure _ rfl _ (pe) ?_ | refine CallP.pure _ rfl _ (pc) ?_ | with_reducible first | apply l_ | apply m_ | apply n_ | apply o_ | refine p_ (fun _ => ?_) (fun _ => ?_)) <;> (conv => whnf)))
        all_goals first | exact Ret.int rfl | (exfalso; omega)
      · rw [if_pos h3]
        ((conv => whnf); repeat' ((first | (with_reducible first | apply a_ | apply b_ | apply c_) | ((with_reducible first | apply d_ | apply e_ | apply f_ | apply g_); focus first | omega | (simp only [q_] <;> omega)) | ((with_reducible first | apply i_ | apply h_); focus first | omega | (simp only [q_] <;> omega)) | ((with_reducible apply h_); focus first | decide | kernel_rfl) | refine BCase.t (by decide) ?_ | refine BCase.f (by decide) ?_ | refine CallP.pure _ rfl _ (pe) ?_ | with_reducible first | apply l_ | apply m_ | apply n_ | apply o_ | refine p_ (fun _ => ?_) (fun _ => ?_)) <;> (conv => whnf)))
        all_goals first | exact Ret.int rfl | (exfalso; omega)
  · rw [if_pos h1]
    ((conv => whnf); repeat' ((first | (with_reducible first | apply a_ | apply b_ | apply c_) | ((with_reducible first | apply d_ | apply e_ | apply f_ | apply g_); focus first | omega | (simp only [q_] <;> omega)) | ((with_reducible first | apply i_ | apply h_); focus first | omega | (simp only [q_] <;> omega)) | ((with_reducible apply h_); focus first | decide | kernel_rfl) | refine BCase.t (by decide) ?_ | refine BCase.f (by decide) ?_ | refine CallP.pure _ rfl _ (pe) ?_ | with_reducible first | apply l_ | apply m_ | apply n_ | apply o_ | refine p_ (fun _ => ?_) (fun _ => ?_)) <;> (conv => whnf)))
    all_goals first | exact Ret.int rfl | (exfalso; omega)
theorem nin_tree {t : Ex} (ht : RightT t) (hn : HN t.flat) : NInT t := fun n hm => ⟨ht.all n hm, (hn n hm).2⟩
theorem p_evalof (e : List NodeD) (hn : HN e) (cols : List (List UInt8)) (row : List ValueD) (hr : row.length ≤ 140737488355328) (hv : ∀ v ∈ row, WholeP.In64 v.N) : Pure Tryz.prog 9 [slV 6 NodeD.c e, slV 1 eText cols, slV 3 ValueD.c row] (eVal (evalF e cols row)) := by
  have pc := p_scopecheck e (fun n h => (hn n h).1) cols row hr
  refine pure_of Tryz.func9 (by rfl) rfl (by kernel_rfl) (by rfl) ?_
  unfold evalF
  by_cases h : scopeE e cols row = 0
  · rw [if_neg (by rw [h]; decide)]
    rw [h] at pc
    obtain ⟨h1, h2, h3, h4⟩ := scope_ok h
    obtain ⟨t, ht, rfl⟩ := right_of h1
    have pr := p_valueof cols row h3 (by omega) (fun v hm => ⟨h4 v hm, hv v hm⟩) _ t (Nat.le_refl _) ht.good (nin_tree ht hn) (by have := ht.len; omega)
    rw [walkR_fold _ _ ht.good]
    cases hw : foldX (nodF (lookC cols row)) t with
    | ok v =>
      rw [hw] at pr
      have pr : Pure _ _ _ (.tup [vV v, pInt .i64 0]) := pr
      ((conv => whnf); repeat' ((first | (with_reducible first | apply a_ | apply b_ | apply c_) | ((with_reducible first | apply d_ | apply e_ | apply f_ | apply g_); focus first | omega | (simp only [q_] <;> omega)) | ((with_reducible first | apply i_ | apply h_); focus first | omega | (simp only [q_] <;> omega)) | ((with_reducible apply h_); focus first | decide | kernel_rfl) | refine BCase.t (by decide) ?_ | refine BCase.f (by decide) ?_ | refine CallP.pure _ rfl _ (pc) ?_ | refine CallP.pure _ rfl _ (pr) ?_ | with_reducible first | apply l_ | apply m_ | apply n_ | apply o_ | refine p_ (fun _ => ?_) (fun _ => ?_)) <;> (conv => whnf)))
      exact Ret.eq rfl
    | error x =>
      rw [hw] at pr
      have pr : Pure _ _ _ (.tup [vV noV, pInt .i64 x]) := pr
      ((conv => whnf); repeat' ((first | (with_reducible first | apply a_ | apply b_ | apply c_) | ((with_reducible first | apply d_ | apply e_ | apply f_ | apply g_); focus first | omega | (simp only [q_] <;> omega)) | ((with_reducible first | apply i_ | apply h_); focus first | omega | (simp only [q_] <;> omega)) | ((with_reducible apply h_); focus first | decide | kernel_rfl) | refine BCase.t (by decide) ?_ | refine BCase.f (by decide) ?_ | refine CallP.pure _ rfl _ (pc) ?_ | refine CallP.pure _ rfl _ (pr) ?_ | with_reducible first | apply l_ | apply m_ | apply n_ | apply o_ | refine p_ (fun _ => ?_) (fun _ => ?_)) <;> (conv => whnf)))
      exact Ret.eq rfl
  · rw [if_pos h]
    ((conv => whnf); repeat' ((first | (with_reducible first | apply a_ | apply b_ | apply c_) | ((with_reducible first | apply d_ | apply e_ | apply f_ | apply g_); focus first | omega | (simp only [q_] <;> omega)) | ((with_reducible first | apply i_ | apply h_); focus first | omega | (simp only [q_] <;> omega)) | ((with_reducible apply h_); focus first | decide | kernel_rfl) | refine BCase.t (by decide) ?_ | refine BCase.f (by decide) ?_ | refine CallP.pure _ rfl _ (pc) ?_ | with_reducible first | apply l_ | apply m_ | apply n_ | apply o_ | refine p_ (fun _ => ?_) (fun _ => ?_)) <;> (conv => whnf)))
    all_goals first | exact Ret.eq rfl | (exfalso; omega)
theorem evalF_rv {e : List NodeD} {cols : List (List UInt8)} {row : List ValueD} {v : ValueD} (hn : HN e) (hv : ∀ v ∈ row, WholeP.In64 v.N) (h : evalF e cols row = .ok v) : RV v := by
  unfold evalF at h
  split at h
  · cases h
  · rename_i q
    obtain ⟨h1, h2, h3, h4⟩ := scope_ok (Decidable.of_not_not q)
    obtain ⟨h5, h6⟩ := check_all h1
    exact walkR_rv (look_ok fun v hm => ⟨h4 v hm, hv v hm⟩) (fun n hm => ⟨h6 n hm, (hn n hm).2⟩) h
theorem p_truthfor (e : List NodeD) (hn : HN e) (cols : List (List UInt8)) (row : List ValueD) (hr : row.length ≤ 140737488355328) (hv : ∀ v ∈ row, WholeP.In64 v.N) : Pure Tryz.prog 12 [slV 6 NodeD.c e, slV 1 eText cols, slV 3 ValueD.c row] (.tup [pInt .i64 (truR (evalF e cols row)).1, pInt .i64 (truR (evalF e cols row)).2]) := by
  have pr := p_evalof e hn cols row hr hv
  refine pure_of Tryz.func12 (by rfl) rfl (by kernel_rfl) (by rfl) ?_
  cases hw : evalF e cols row with
  | ok v =>
    rw [hw] at pr
    have pr : Pure _ _ _ (.tup [vV v, pInt .i64 0]) := pr
    have pm := p_truthof v (okV_kind (evalF_rv hn hv hw).1).1
    ((conv => whnf); repeat' ((first | (with_reducible first | apply a_ | apply b_ | apply c_) | ((with_reducible first | apply d_ | apply e_ | apply f_ | apply g_); focus first | omega | (simp only [q_] <;> omega)) | ((with_reducible first | apply i_ | apply h_); focus first | omega | (simp only [q_] <;> omega)) | ((with_reducible apply h_); focus first | decide | kernel_rfl) | refine BCase.t (by decide) ?_ | refine BCase.f (by decide) ?_ | refine CallP.pure _ rfl _ (pr) ?_ | refine CallP.pure _ rfl _ (pm) ?_ | with_reducible first | apply l_ | apply m_ | apply n_ | apply o_ | refine p_ (fun _ => ?_) (fun _ => ?_)) <;> (conv => whnf)))
    exact Ret.eq rfl
  | error x =>
    rw [hw] at pr
    have pr : Pure _ _ _ (.tup [vV noV, pInt .i64 x]) := pr
    have h0 := evalF_err hw
    ((conv => whnf); repeat' ((first | (with_reducible first | apply a_ | apply b_ | apply c_) | ((with_reducible first | apply d_ | apply e_ | apply f_ | apply g_); focus first | omega | (simp only [q_] <;> omega)) | ((with_reducible first | apply i_ | apply h_); focus first | omega | (simp only [q_] <;> omega)) | ((with_reducible apply h_); focus first | decide | kernel_rfl) | refine BCase.t (by decide) ?_ | refine BCase.f (by decide) ?_ | refine CallP.pure _ rfl _ (pr) ?_ | with_reducible first | apply l_ | apply m_ | apply n_ | apply o_ | refine p_ (fun _ => ?_) (fun _ => ?_)) <;> (conv => whnf)))
    all_goals first | exact Ret.eq rfl | (exfalso; omega)
theorem p_pushedof_bad (e : List NodeD) (hn : HN e) (h : checkF e ≠ 0) : Pure Tryz.prog 22 [slV 6 NodeD.c e] (.tup [slV 6 NodeD.c [], pInt .i64 (checkF e)]) := by
  have pc := p_exprcheck e (fun n h => (hn n h).1)
  refine pure_of Tryz.func22 (by rfl) rfl (by kernel_rfl) (by rfl) ?_
  ((conv => whnf); repeat' ((first | (with_reducible first | apply a_ | apply b_ | apply c_) | ((with_reducible first | apply d_ | apply e_ | apply f_ | apply g_); focus first | omega | (simp only [q_] <;> omega)) | ((with_reducible first | apply i_ | apply h_); focus first | omega | (simp only [q_] <;> omega)) | ((with_reducible apply h_); focus first | decide | kernel_rfl) | refine BCase.t (by decide) ?_ | refine BCase.f (by decide) ?_ | refine CallP.pure _ rfl _ (pc) ?_ | with_reducible first | apply l_ | apply m_ | apply n_ | apply o_ | refine p_ (fun _ => ?_) (fun _ => ?_)) <;> (conv => whnf)))
  all_goals first | exact Ret.le ⟨.inr ⟨⟨6, rfl⟩, .inl rfl⟩, .inl rfl, rfl⟩ | (exfalso; omega)
theorem p_pushedof (t : Ex) (ht : RightT t) (hn : HN t.flat) : Pure Tryz.prog 22 [slV 6 NodeD.c t.flat] (.tup [slV 6 NodeD.c (pushA t).1, pInt .i64 (pushA t).2]) := by
  have h60 := ht.len
  have pc := p_exprcheck t.flat (fun n h => (hn n h).1)
  rw [check_right ht] at pc
  have pp := (p_push_not _ t (Nat.le_refl _) ht.good ht.all (by omega)).1
  have pk := p_exprcheck (pushE false t).flat (fun n h => (pushE_hn false t hn n h).1)
  refine pure_of Tryz.func22 (by rfl) rfl (by kernel_rfl) (by rfl) ?_
  unfold pushA
  by_cases hc : checkF (pushE false t).flat = 0
  · rw [if_neg (by rw [hc]; decide)]
    rw [hc] at pk
    ((conv => whnf); repeat' ((first | (with_reducible first | apply a_ | apply b_ | apply c_) | ((with_reducible first | apply d_ | apply e_ | apply f_ | apply g_); focus first | omega | (simp only [q_] <;> omega)) | ((with_reducible first | apply i_ | apply h_); focus first | omega | (simp only [q_] <;> omega)) | ((with_reducible apply h_); focus first | decide | kernel_rfl) | refine BCase.t (by decide) ?_ | refine BCase.f (by decide) ?_ | refine CallP.pure _ rfl _ (pc) ?_ | refine CallP.pure _ rfl _ (pp) ?_ | refine CallP.pure _ rfl _ (pk) ?_ | with_reducible first | apply l_ | apply m_ | apply n_ | apply o_ | refine p_ (fun _ => ?_) (fun _ => ?_)) <;> (conv => whnf)))
    exact Ret.eq rfl
  · rw [if_pos hc]
    ((conv => whnf); repeat' ((first | (with_reducible first | apply a_ | apply b_ | apply c_) | ((with_reducible first | apply d_ | apply e_ | apply f_ | apply g_); focus first | omega | (simp only [q_] <;> omega)) | ((with_reducible first | apply i_ | apply h_); focus first | omega | (simp only [q_] <;> omega)) | ((with_reducible apply h_); focus first | decide | kernel_rfl) | refine BCase.t (by decide) ?_ | refine BCase.f (by decide) ?_ | refine CallP.pure _ rfl _ (pc) ?_ | refine CallP.pure _ rfl _ (pp) ?_ | refine CallP.pure _ rfl _ (pk) ?_ | with_reducible first | apply l_ | apply m_ | apply n_ | apply o_ | refine p_ (fun _ => ?_) (fun _ => ?_)) <;> (conv => whnf)))
    all_goals first | exact Ret.le ⟨.inr ⟨⟨6, rfl⟩, .inl rfl⟩, .inl rfl, rfl⟩ | (exfalso; omega)
theorem p_nodes (l : List NodeD) : Pure Tryz.prog 27 [slV 6 NodeD.c l] (slV 6 NodeD.c l) := by
  refine pure_of Tryz.func27 (by rfl) rfl (by kernel_rfl) (by rfl) ?_
  ((conv => whnf); repeat' ((first | (with_reducible first | apply a_ | apply b_ | apply c_) | ((with_reducible first | apply d_ | apply e_ | apply f_ | apply g_); focus first | omega | (simp only [q_] <;> omega)) | ((with_reducible first | apply i_ | apply h_); focus first | omega | (simp only [q_] <;> omega)) | ((with_reducible apply h_); focus first | decide | kernel_rfl) | refine BCase.t (by decide) ?_ | refine BCase.f (by decide) ?_ | with_reducible first | apply l_ | apply m_ | apply n_ | apply o_ | refine p_ (fun _ => ?_) (fun _ => ?_)) <;> (conv => whnf)))
  exact Ret.eq rfl
def colN (s : List UInt8) : NodeD := ⟨2, 0, noV, s⟩
def opsN (op k : Int) : NodeD := ⟨op, k, noV, []⟩
theorem p_ncol (s : List UInt8) : Pure Tryz.prog 15 [pStr (tx s)] (nV (colN s)) := by
  refine pure_of Tryz.func15 (by rfl) rfl (by kernel_rfl) (by rfl) ?_
  ((conv => whnf); repeat' ((first | (with_reducible first | apply a_ | apply b_ | apply c_) | ((with_reducible first | apply d_ | apply e_ | apply f_ | apply g_); focus first | omega | (simp only [q_] <;> omega)) | ((with_reducible first | apply i_ | apply h_); focus first | omega | (simp only [q_] <;> omega)) | ((with_reducible apply h_); focus first | decide | kernel_rfl) | refine BCase.t (by decide) ?_ | refine BCase.f (by decide) ?_ | with_reducible first | apply l_ | apply m_ | apply n_ | apply o_ | refine p_ (fun _ => ?_) (fun _ => ?_)) <;> (conv => whnf)))
  exact Ret.eq rfl
theorem p_nlit (v : ValueD) : Pure Tryz.prog 16 [vV v] (nV (litN v)) := by
  refine pure_of Tryz.func16 (by rfl) rfl (by kernel_rfl) (by rfl) ?_
  ((conv => whnf); repeat' ((first | (with_reducible first | apply a_ | apply b_ | apply c_) | ((with_reducible first | apply d_ | apply e_ | apply f_ | apply g_); focus first | omega | (simp only [q_] <;> omega)) | ((with_reducible first | apply i_ | apply h_); focus first | omega | (simp only [q_] <;> omega)) | ((with_reducible apply h_); focus first | decide | kernel_rfl) | refine BCase.t (by decide) ?_ | refine BCase.f (by decide) ?_ | with_reducible first | apply l_ | apply m_ | apply n_ | apply o_ | refine p_ (fun _ => ?_) (fun _ => ?_)) <;> (conv => whnf)))
  exact Ret.eq rfl
theorem p_nop (op k : Int) : Pure Tryz.prog 29 [pInt .i64 op, pInt .i64 k] (nV (opsN op k)) := by
  refine pure_of Tryz.func29 (by rfl) rfl (by kernel_rfl) (by rfl) ?_
  ((conv => whnf); repeat' ((first | (with_reducible first | apply a_ | apply b_ | apply c_) | ((with_reducible first | apply d_ | apply e_ | apply f_ | apply g_); focus first | omega | (simp only [q_] <;> omega)) | ((with_reducible first | apply i_ | apply h_); focus first | omega | (simp only [q_] <;> omega)) | ((with_reducible apply h_); focus first | decide | kernel_rfl) | refine BCase.t (by decide) ?_ | refine BCase.f (by decide) ?_ | with_reducible first | apply l_ | apply m_ | apply n_ | apply o_ | refine p_ (fun _ => ?_) (fun _ => ?_)) <;> (conv => whnf)))
  exact Ret.eq rfl
theorem p_vI (n : Int) : Pure Tryz.prog 28 [pInt .i64 n] (vV ⟨1, n, []⟩) := by
  refine pure_of Tryz.func28 (by rfl) rfl (by kernel_rfl) (by rfl) ?_
  ((conv => whnf); repeat' ((first | (with_reducible first | apply a_ | apply b_ | apply c_) | ((with_reducible first | apply d_ | apply e_ | apply f_ | apply g_); focus first | omega | (simp only [q_] <;> omega)) | ((with_reducible first | apply i_ | apply h_); focus first | omega | (simp only [q_] <;> omega)) | ((with_reducible apply h_); focus first | decide | kernel_rfl) | refine BCase.t (by decide) ?_ | refine BCase.f (by decide) ?_ | with_reducible first | apply l_ | apply m_ | apply n_ | apply o_ | refine p_ (fun _ => ?_) (fun _ => ?_)) <;> (conv => whnf)))
  exact Ret.eq rfl
theorem p_vT (s : List UInt8) : Pure Tryz.prog 30 [pStr (tx s)] (vV ⟨2, 0, s⟩) := by
  refine pure_of Tryz.func30 (by rfl) rfl (by kernel_rfl) (by rfl) ?_
  ((conv => whnf); repeat' ((first | (with_reducible first | apply a_ | apply b_ | apply c_) | ((with_reducible first | apply d_ | apply e_ | apply f_ | apply g_); focus first | omega | (simp only [q_] <;> omega)) | ((with_reducible first | apply i_ | apply h_); focus first | omega | (simp only [q_] <;> omega)) | ((with_reducible apply h_); focus first | decide | kernel_rfl) | refine BCase.t (by decide) ?_ | refine BCase.f (by decide) ?_ | with_reducible first | apply l_ | apply m_ | apply n_ | apply o_ | refine p_ (fun _ => ?_) (fun _ => ?_)) <;> (conv => whnf)))
  exact Ret.eq rfl
def bE : List NodeD := [colN [97], litN ⟨1, 2, []⟩, litN ⟨1, 3, []⟩, opsN 7 2, opsN 12 2, opsN 4 1]
def bM : List NodeD := [colN [97], litN ⟨1, 6, []⟩, opsN 12 2, opsN 4 1]
def bT : Ex := .mk (opsN 4 1) [.mk (opsN 12 2) [.mk (colN [97]) [], .mk (litN ⟨1, 6, []⟩) []]]
def bP : List NodeD := [colN [97], litN ⟨1, 6, []⟩, opsN 15 2]
theorem hn_small {e : List NodeD} (h : ∀ n ∈ e, n.Name.length ≤ 10 ∧ WholeP.In64 n.V.N) : HN e := fun n hn => ⟨by have := (h n hn).1; unfold okText; omega, (h n hn).2⟩
theorem b1 : evalF bE [[97]] [⟨1, 7, []⟩] = .ok ⟨1, 1, []⟩ := by rfl
theorem b2 : truR (evalF bE [[97]] [noV]) = (1, 0) := by rfl
theorem b3 : evalF bE [[98]] [⟨1, 7, []⟩] = .error 5 := by rfl
theorem b4 : foldA bE = (bM, 0) := by rfl
theorem b5 : pushA bT = (bP, 0) := by rfl
theorem b6 : truR (evalF [litN ⟨2, 0, [97]⟩] [] []) = (0, 7) := by rfl
theorem b7 : checkF bT.flat = 0 := by rfl
theorem b8 : bT.flat = bM := by rfl
end Go.Proofs.YtggdfnjomonbkaaGreatDoor.Pm
end
section
namespace Go.Proofs.YtggdfnjomonbkaaGreatDoor.Pm
open Go.RowKit K
set_option linter.unusedVariables false
set_option linter.unusedSimpArgs false
set_option maxRecDepth 100000
theorem bT_right : RightT bT := by
  obtain ⟨t, ht, hf⟩ := right_of b7
  have hg : bT.good := by unfold bT; simp [Ex.good, Ex.goods, opsN, colN, litN]
  rw [← flat_inj ht.good hg hf]; exact ht
theorem p_evalbegun : Pure Tryz.prog 10 [] (pBool true) := by
  have hE : HN bE := hn_small (by decide)
  have hM : HN bM := hn_small (by decide)
  have hX : HN [litN ⟨2, 0, [97]⟩] := hn_small (by decide)
  have i7 : ∀ v ∈ [(⟨1, 7, []⟩ : ValueD)], WholeP.In64 v.N := by decide
  have q1 := p_eval bE hE [[97]] [⟨1, 7, []⟩] (by decide) i7
  have q2 := p_truthE bE hE [[97]] [noV] (by decide) (by decide)
  have q3 := p_eval bE hE [[98]] [⟨1, 7, []⟩] (by decide) i7
  have q4 := p_Fold bE hE
  have q5 := p_Push bT bT_right (by rw [b8]; exact hM)
  have q6 := p_truthE [litN ⟨2, 0, [97]⟩] hX [] [] (by decide) (by decide)
  rw [b1] at q1
  rw [b2] at q2
  rw [b3] at q3
  rw [b4] at q4
  rw [b5, b8] at q5
  rw [b6] at q6
  have q6 := q6.le (args' := [slV 6 NodeD.c [litN ⟨2, 0, [97]⟩], .d (.c (.v (.slice none 0 0))), .d (.c (.v (.slice none 0 0)))]) ⟨.inl rfl, .inr ⟨⟨1, rfl⟩, .inl rfl⟩, .inr ⟨⟨3, rfl⟩, .inl rfl⟩, rfl⟩
  have q1 : Pure _ _ _ (.tup [vV ⟨1, 1, []⟩, pInt .i64 0]) := q1
  have q3 : Pure _ _ _ (.tup [vV noV, pInt .i64 5]) := q3
  have ca : Pure _ _ [pStr ⟨#[97]⟩] _ := p_ncol [97]
  have vt : Pure _ _ [pStr ⟨#[97]⟩] _ := p_vT [97]
  have nE := p_nodes bE
  have nM := p_nodes bM
  have nP := p_nodes bP
  have nX := p_nodes [litN ⟨2, 0, [97]⟩]
  have sM := p_samenodes bM bM (by decide)
  have sP := p_samenodes bP bP (by decide)
  refine pure_of Tryz.func10 (by rfl) rfl (by kernel_rfl) (by rfl) ?_
  ((conv => whnf); repeat' ((first | (with_reducible first | apply a_ | apply b_ | apply c_) | ((with_reducible first | apply d_ | apply e_ | apply f_ | apply g_); focus first | omega | (simp only [q_] <;> omega)) | ((with_reducible first | apply i_ | apply h_); focus first | omega | (simp only [q_] <;> omega)) | ((with_reducible apply h_); focus first | decide | kernel_rfl) | refine BCase.t (by decide) ?_ | refine BCase.f (by decide) ?_ | refine CallP.pure _ rfl _ (ca) ?_ | refine CallP.pure _ rfl _ (vt) ?_ | refine CallP.pure _ rfl _ (p_vI _) ?_ | refine CallP.pure _ rfl _ (p_nlit ⟨1, _, []⟩) ?_ | refine CallP.pure _ rfl _ (p_nlit ⟨2, 0, [97]⟩) ?_ | refine CallP.pure _ rfl _ (p_nop _ _) ?_ | refine CallP.pure _ rfl _ (nE) ?_ | refine CallP.pure _ rfl _ (nM) ?_ | refine CallP.pure _ rfl _ (nP) ?_ | refine CallP.pure _ rfl _ (nX) ?_ | refine CallP.pure _ rfl _ (q1) ?_ | refine CallP.pure _ rfl _ (q2) ?_ | refine CallP.pure _ rfl _ (q3) ?_ | refine CallP.pure _ rfl _ (q4) ?_ | refine CallP.pure _ rfl _ (q5) ?_ | refine CallP.pure _ rfl _ (q6) ?_ | refine CallP.pure _ rfl _ (sM) ?_ | refine CallP.pure _ rfl _ (sP) ?_ | with_reducible first | apply l_ | apply m_ | apply n_ | apply o_ | refine p_ (fun _ => ?_) (fun _ => ?_)) <;> (conv => whnf)))
  exact Ret.bool (by decide +kernel)
end Go.Proofs.YtggdfnjomonbkaaGreatDoor.Pm
end
section
namespace Go.Proofs.YtggdfnjomonbkaaGreatDoor.Pm
open Go.RowKit K
set_option linter.unusedVariables false
set_option linter.unusedSimpArgs false
set_option maxRecDepth 100000
abbrev okNs (e : List NodeD) : Prop := okSl (Tryz.prog.bytesOf 37) NodeD.ok e
abbrev okVs (l : List ValueD) : Prop := okSl (Tryz.prog.bytesOf 26) ValueD.ok l
theorem okNs_hn {e : List NodeD} (h : okNs e) : HN e := fun n hn => by
  have := h.2 n hn
  exact ⟨this.2.2.2, this.2.2.1.2.1⟩
theorem okNs_len {e : List NodeD} (h : okNs e) : e.length ≤ 140737488351232 := by
  have h1 := h.1
  rw [show Tryz.prog.bytesOf 37 = 64 by kernel_rfl] at h1
  omega
theorem okVs_in {l : List ValueD} (h : okVs l) : ∀ v ∈ l, WholeP.In64 v.N := fun v hv => (h.2 v hv).2.1
theorem okVs_len {l : List ValueD} (h : okVs l) : l.length ≤ 140737488355328 := by
  have h1 := h.1
  rw [show Tryz.prog.bytesOf 26 = 32 by kernel_rfl] at h1
  omega
theorem eVal_pair (r : Except Int ValueD) : ∃ v x, eVal r = .tup [vV v, pInt .i64 x] := by
  cases r with
  | ok v => exact ⟨v, 0, rfl⟩
  | error x => exact ⟨noV, x, rfl⟩
theorem listEq_refl (l : List NodeD) : listEqB NodeD.eqB l l = true := by
  induction l with
  | nil => rfl
  | cons x l ih =>
    have := (NodeD.eqB_iff x x).2 rfl
    first
      | (rw [listEqB, this, ih]; rfl)
      | (unfold listEqB at ih ⊢; simp [this] at ih ⊢; done)
theorem law_EvalTells (e : List NodeD) (he : okNs e) (cols : List (List UInt8)) (hc : okSl (Tryz.prog.bytesOf 9) okText cols) (row : List ValueD) (hr : okVs row) : Pure Tryz.prog 3 [slV 6 NodeD.c e, slV 1 eText cols, slV 3 ValueD.c row] (pBool true) := by
  have p1 := p_eval e (okNs_hn he) cols row (okVs_len hr) (okVs_in hr)
  have p2 := p_evalof e (okNs_hn he) cols row (okVs_len hr) (okVs_in hr)
  obtain ⟨v, x, hv⟩ := eVal_pair (evalF e cols row)
  rw [hv] at p1 p2
  refine pure_of Tryz.func3 (by rfl) rfl (by kernel_rfl) (by rfl) ?_
  ((conv => whnf); repeat' ((first | (with_reducible first | apply a_ | apply b_ | apply c_) | ((with_reducible first | apply d_ | apply e_ | apply f_ | apply g_); focus first | omega | (simp only [q_] <;> omega)) | ((with_reducible first | apply i_ | apply h_); focus first | omega | (simp only [q_] <;> omega)) | ((with_reducible apply h_); focus first | decide | kernel_rfl) | refine BCase.t (by decide) ?_ | refine BCase.f (by decide) ?_ | refine CallP.pure _ rfl _ (p_evalbegun) ?_ | refine CallP.pure _ rfl _ (p1) ?_ | refine CallP.pure _ rfl _ (p2) ?_ | with_reducible first | apply l_ | apply m_ | apply n_ | apply o_ | refine p_ (fun _ => ?_) (fun _ => ?_)) <;> (conv => whnf)))
  all_goals first | exact Ret.bool rfl | (exact Ret.bool (by simp)) | skip
theorem law_TruthTells (e : List NodeD) (he : okNs e) (cols : List (List UInt8)) (hc : okSl (Tryz.prog.bytesOf 9) okText cols) (row : List ValueD) (hr : okVs row) : Pure Tryz.prog 4 [slV 6 NodeD.c e, slV 1 eText cols, slV 3 ValueD.c row] (pBool true) := by
  have p1 := p_truthE e (okNs_hn he) cols row (okVs_len hr) (okVs_in hr)
  have p2 := p_truthfor e (okNs_hn he) cols row (okVs_len hr) (okVs_in hr)
  refine pure_of Tryz.func4 (by rfl) rfl (by kernel_rfl) (by rfl) ?_
  ((conv => whnf); repeat' ((first | (with_reducible first | apply a_ | apply b_ | apply c_) | ((with_reducible first | apply d_ | apply e_ | apply f_ | apply g_); focus first | omega | (simp only [q_] <;> omega)) | ((with_reducible first | apply i_ | apply h_); focus first | omega | (simp only [q_] <;> omega)) | ((with_reducible apply h_); focus first | decide | kernel_rfl) | refine BCase.t (by decide) ?_ | refine BCase.f (by decide) ?_ | refine CallP.pure _ rfl _ (p_evalbegun) ?_ | refine CallP.pure _ rfl _ (p1) ?_ | refine CallP.pure _ rfl _ (p2) ?_ | with_reducible first | apply l_ | apply m_ | apply n_ | apply o_ | refine p_ (fun _ => ?_) (fun _ => ?_)) <;> (conv => whnf)))
  all_goals first | exact Ret.bool rfl | (exact Ret.bool (by simp)) | skip
theorem law_FoldTells (e : List NodeD) (he : okNs e) : Pure Tryz.prog 6 [slV 6 NodeD.c e] (pBool true) := by
  have p1 := p_Fold e (okNs_hn he)
  have p2 := p_exprcheck e (fun n h => (okNs_hn he n h).1)
  refine pure_of Tryz.func6 (by rfl) rfl (by kernel_rfl) (by rfl) ?_
  by_cases h : checkF e = 0
  · obtain ⟨t, ht, rfl⟩ := right_of h
    rw [foldA_tree ht] at p1
    rw [h] at p2
    have hl := ht.len
    have p3 := p_foldof _ t (Nat.le_refl _) ht.good (nin_tree ht (okNs_hn he)) (by omega)
    have hs := foldE_short t
    have p4 := p_samenodes (foldE t).flat (foldE t).flat (by omega)
    rw [listEq_refl] at p4
    ((conv => whnf); repeat' ((first | (with_reducible first | apply a_ | apply b_ | apply c_) | ((with_reducible first | apply d_ | apply e_ | apply f_ | apply g_); focus first | omega | (simp only [q_] <;> omega)) | ((with_reducible first | apply i_ | apply h_); focus first | omega | (simp only [q_] <;> omega)) | ((with_reducible apply h_); focus first | decide | kernel_rfl) | refine BCase.t (by decide) ?_ | refine BCase.f (by decide) ?_ | refine CallP.pure _ rfl _ (p_evalbegun) ?_ | refine CallP.pure _ rfl _ (p1) ?_ | refine CallP.pure _ rfl _ (p2) ?_ | refine CallP.pure _ rfl _ (p3) ?_ | refine CallP.pure _ rfl _ (p4) ?_ | with_reducible first | apply l_ | apply m_ | apply n_ | apply o_ | refine p_ (fun _ => ?_) (fun _ => ?_)) <;> (conv => whnf)))
    all_goals first | exact Ret.bool rfl | (exact Ret.bool (by simp)) | skip
  · have : foldA e = ([], checkF e) := by unfold foldA; rw [if_pos h]
    rw [this] at p1
    have p4 := (p_samenodes [] [] (by decide)).le (args' := [slV 6 NodeD.c [], .d (.c (.v (.slice none 0 0)))]) ⟨.inl rfl, .inr ⟨⟨6, rfl⟩, .inl rfl⟩, rfl⟩
    ((conv => whnf); repeat' ((first | (with_reducible first | apply a_ | apply b_ | apply c_) | ((with_reducible first | apply d_ | apply e_ | apply f_ | apply g_); focus first | omega | (simp only [q_] <;> omega)) | ((with_reducible first | apply i_ | apply h_); focus first | omega | (simp only [q_] <;> omega)) | ((with_reducible apply h_); focus first | decide | kernel_rfl) | refine BCase.t (by decide) ?_ | refine BCase.f (by decide) ?_ | refine CallP.pure _ rfl _ (p_evalbegun) ?_ | refine CallP.pure _ rfl _ (p1) ?_ | refine CallP.pure _ rfl _ (p2) ?_ | refine CallP.pure _ rfl _ (p4) ?_ | with_reducible first | apply l_ | apply m_ | apply n_ | apply o_ | refine p_ (fun _ => ?_) (fun _ => ?_)) <;> (conv => whnf)))
    all_goals first | exact Ret.bool rfl | (exact Ret.bool (by simp)) | (exfalso; omega) | skip
theorem law_PushTells (e : List NodeD) (he : okNs e) : Pure Tryz.prog 7 [slV 6 NodeD.c e] (pBool true) := by
  refine pure_of Tryz.func7 (by rfl) rfl (by kernel_rfl) (by rfl) ?_
  have pq : ∃ m x, m.length ≤ 1000 ∧ Pure Tryz.prog 21 [slV 6 NodeD.c e] (.tup [slV 6 NodeD.c m, pInt .i64 x]) ∧ Pure Tryz.prog 22 [slV 6 NodeD.c e] (.tup [slV 6 NodeD.c m, pInt .i64 x]) := by
    by_cases h : checkF e = 0
    · obtain ⟨t, ht, rfl⟩ := right_of h
      refine ⟨(pushA t).1, (pushA t).2, ?_, p_Push t ht (okNs_hn he), p_pushedof t ht (okNs_hn he)⟩
      have h1 := pushE_len false t
      have h2 := ht.len
      unfold pushA
      split
      · exact Nat.zero_le _
      · show (pushE false t).flat.length ≤ 1000
        omega
    · exact ⟨[], checkF e, Nat.zero_le _, p_Push_bad e (okNs_hn he) h, p_pushedof_bad e (okNs_hn he) h⟩
  obtain ⟨m, x, hm, p1, p2⟩ := pq
  have p4 := p_samenodes m m (by omega)
  rw [listEq_refl] at p4
  ((conv => whnf); repeat' ((first | (with_reducible first | apply a_ | apply b_ | apply c_) | ((with_reducible first | apply d_ | apply e_ | apply f_ | apply g_); focus first | omega | (simp only [q_] <;> omega)) | ((with_reducible first | apply i_ | apply h_); focus first | omega | (simp only [q_] <;> omega)) | ((with_reducible apply h_); focus first | decide | kernel_rfl) | refine BCase.t (by decide) ?_ | refine BCase.f (by decide) ?_ | refine CallP.pure _ rfl _ (p_evalbegun) ?_ | refine CallP.pure _ rfl _ (p1) ?_ | refine CallP.pure _ rfl _ (p2) ?_ | refine CallP.pure _ rfl _ (p4) ?_ | with_reducible first | apply l_ | apply m_ | apply n_ | apply o_ | refine p_ (fun _ => ?_) (fun _ => ?_)) <;> (conv => whnf)))
  all_goals first | exact Ret.bool rfl | (exact Ret.bool (by simp)) | skip
end Go.Proofs.YtggdfnjomonbkaaGreatDoor.Pm
end
section
namespace Go.Proofs.YtggdfnjomonbkaaGreatDoor.Pm
open Go.RowKit K
set_option linter.unusedVariables false
set_option linter.unusedSimpArgs false
set_option maxRecDepth 100000
theorem walkG_map {α : Type} {f : NodeD → List α → Except Int α} {g : NodeD → NodeD} : ∀ (l : List NodeD) (st : List α), (∀ n ∈ l, (g n).Kids = n.Kids ∧ ∀ ks, f (g n) ks = f n ks) → walkG f st (l.map g) = walkG f st l
  | [], st, _ => rfl
  | n :: l, st, h => by
    obtain ⟨h1, h2⟩ := h n (List.mem_cons_self ..)
    rw [List.map_cons, walkG_cons, walkG_cons, h1, h2]
    split
    · rfl
    · split
      · rfl
      · exact walkG_map l _ fun m hm => h m (List.mem_cons_of_mem _ hm)
theorem walkR_map {α : Type} {f : NodeD → List α → Except Int α} {g : NodeD → NodeD} {l : List NodeD} (h : ∀ n ∈ l, (g n).Kids = n.Kids ∧ ∀ ks, f (g n) ks = f n ks) : walkR f (l.map g) = walkR f l := by
  unfold walkR
  rw [walkG_map l [] h]
theorem chkO_map {g : NodeD → NodeD} : ∀ (l : List NodeD) (o : Nat), (∀ n ∈ l, (g n).Kids = n.Kids ∧ alF (g n) = alF n) → chkO o (l.map g) = chkO o l
  | [], o, _ => rfl
  | n :: l, o, h => by
    obtain ⟨h1, h2⟩ := h n (List.mem_cons_self ..)
    rw [List.map_cons, chkO_cons, chkO_cons, h1, h2, chkO_map l _ fun m hm => h m (List.mem_cons_of_mem _ hm)]
theorem checkF_map {g : NodeD → NodeD} {l : List NodeD} (h : ∀ n ∈ l, (g n).Kids = n.Kids ∧ alF (g n) = alF n) : checkF (l.map g) = checkF l := by
  unfold checkF depthE
  rw [List.length_map, chkO_map l 0 h, walkR_map fun n hn => ⟨(h n hn).1, fun ks => rfl⟩]
def subN (c : List UInt8) (v : ValueD) (n : NodeD) : NodeD := if NodeD.eqB n (colN c) = true then litN v else n
theorem col_al {c : List UInt8} (h : nameB c = true) : alF (colN c) = 0 := by
  unfold alF
  rw [if_neg (by show ¬ ((2 : Int) < 1 ∨ (25 : Int) < 2); omega), if_neg]
  · refine (if_neg (show ¬ (colN c).Op = 1 by show ¬ (2 : Int) = 1; omega)).trans ?_
    refine if_neg ?_
    rintro ⟨_, q⟩
    rw [show (colN c).Name = c from rfl, h] at q
    cases q
  · rintro (g | g | g | g)
    · exact absurd g (by show ¬ (0 : Int) < leastK 2; decide)
    · exact absurd g (by show ¬ mostK 2 < (0 : Int); decide)
    · exact absurd g.2 (by show ¬ ValueD.eqB noV noV = false; decide)
    · exact absurd rfl g.1
theorem sub_node {c : List UInt8} {v : ValueD} (hc : nameB c = true) (hv : vChk v = 0) (h0 : 0 ≤ v.N) (hi : WholeP.In64 v.N) (n : NodeD) : (subN c v n).Kids = n.Kids ∧ alF (subN c v n) = alF n := by
  unfold subN
  split
  · rename_i h
    obtain rfl := (NodeD.eqB_iff _ _).1 h
    exact ⟨rfl, by rw [col_al hc, lit_al ⟨hv, hi⟩ h0]⟩
  · exact ⟨rfl, rfl⟩
theorem lookC_first : ∀ (cols : List (List UInt8)) (row : List ValueD) (k : Nat) (hk : k < cols.length) (hr : k < row.length), (∀ i (h : i < cols.length), i < k → cols[i] ≠ cols[k]) → lookC cols row cols[k] = some row[k]
  | c :: cs, v :: vs, 0, _, _, _ => by unfold lookC; exact if_pos rfl
  | c :: cs, v :: vs, k + 1, hk, hr, h => by
    have h0 := h 0 (Nat.zero_lt_succ _) (Nat.zero_lt_succ _)
    unfold lookC
    rw [if_neg (fun e => h0 e.symm)]
    exact lookC_first cs vs k (Nat.lt_of_succ_lt_succ hk) (Nat.lt_of_succ_lt_succ hr) fun i hi hik => h (i + 1) (Nat.succ_lt_succ hi) (Nat.succ_lt_succ hik)
theorem nodF_col {look : Look} {c : List UInt8} {v : ValueD} (h : look c = some v) (ks : List ValueD) : nodF look (colN c) ks = .ok v := by
  have : nodV look (colN c) ks = (v, 0) := by
    unfold nodV
    refine (if_neg (show ¬ (2 : Int) = 1 by omega)).trans ((if_pos (show (2 : Int) = 2 from rfl)).trans ?_)
    rw [show (colN c).Name = c from rfl, h]
  unfold nodF
  rw [this]; rfl
theorem nodF_lit {look : Look} {v : ValueD} (ks : List ValueD) : nodF look (litN v) ks = .ok v := by
  have : nodV look (litN v) ks = (v, 0) := by unfold nodV; exact if_pos rfl
  unfold nodF
  rw [this]; rfl
theorem evalF_sub {e : List NodeD} {cols : List (List UInt8)} {row : List ValueD} {k : Nat} (hk : k < cols.length) (hr : k < row.length) (hf : ∀ i (h : i < cols.length), i < k → cols[i] ≠ cols[k]) (hv : vChk row[k] = 0) (h0 : 0 ≤ row[k].N) (hi : WholeP.In64 row[k].N) (hc : nameB cols[k] = true) :
    evalF (e.map (subN cols[k] row[k])) cols row = evalF e cols row := by
  have hs := sub_node (c := cols[k]) (v := row[k]) hc hv h0 hi
  have h1 : checkF (e.map (subN cols[k] row[k])) = checkF e := checkF_map fun n _ => hs n
  have h2 : scopeE (e.map (subN cols[k] row[k])) cols row = scopeE e cols row := by unfold scopeE; rw [h1]
  unfold evalF
  rw [h2]
  split
  · rfl
  · refine walkR_map fun n _ => ⟨(hs n).1, fun ks => ?_⟩
    unfold subN
    split
    · rename_i h
      obtain rfl := (NodeD.eqB_iff _ _).1 h
      rw [nodF_col (lookC_first cols row k hk hr hf), nodF_lit]
    · rfl
end Go.Proofs.YtggdfnjomonbkaaGreatDoor.Pm
end
section
namespace Go.Proofs.YtggdfnjomonbkaaGreatDoor.Pm
open Go.RowKit K
set_option linter.unusedVariables false
set_option linter.unusedSimpArgs false
set_option maxRecDepth 100000
def subL (g : NodeD → NodeD) (e : List NodeD) (j : Nat) : List NodeD := (e.take j).map g ++ e.drop j
theorem subL_len (g : NodeD → NodeD) (e : List NodeD) (j : Nat) : (subL g e j).length = e.length := by
  unfold subL
  rw [List.length_append, List.length_map, ← List.length_append, List.take_append_drop]
theorem subL_get (g : NodeD → NodeD) {e : List NodeD} {j : Nat} (q : j < e.length) : ((subL g e j).map NodeD.c)[j]? = some e[j].c := by
  have hj : ((e.take j).map g).length = j := by rw [List.length_map, List.length_take]; omega
  unfold subL
  rw [List.getElem?_map, List.getElem?_append_right (by omega), hj, Nat.sub_self, List.drop_eq_getElem_cons q]; rfl
theorem subL_step (g : NodeD → NodeD) {e : List NodeD} {j : Nat} (q : j < e.length) : subL g e (j + 1) = (subL g e j).set j (g e[j]) := by
  have hj : ((e.take j).map g).length = j := by rw [List.length_map, List.length_take]; omega
  unfold subL
  rw [List.set_append_right _ _ (by omega), hj, Nat.sub_self, List.drop_eq_getElem_cons q, take_snoc q, List.map_append, List.append_assoc]; rfl
theorem law_EvalPlaced (e : List NodeD) (he : okNs e) (cols : List (List UInt8)) (hc : okSl (Tryz.prog.bytesOf 9) okText cols) (row : List ValueD) (hr : okVs row) (k : Int) (hk : -9223372036854775808 ≤ k ∧ k ≤ 9223372036854775807) : Pure Tryz.prog 5 [slV 6 NodeD.c e, slV 1 eText cols, slV 3 ValueD.c row, pInt .i64 k] (pBool true) := by
  have p1 := p_eval e (okNs_hn he) cols row (okVs_len hr) (okVs_in hr)
  obtain ⟨v, x, hv⟩ := eVal_pair (evalF e cols row)
  rw [hv] at p1
  have hel := okNs_len he
  have he1 := he.1
  rw [show Tryz.prog.bytesOf 37 = 64 by kernel_rfl] at he1
  refine pure_of Tryz.func5 (by rfl) rfl (by kernel_rfl) (by rfl) ?_
  by_cases c1 : k < 0
  · ((conv => whnf); repeat' ((first | (with_reducible first | apply a_ | apply b_ | apply c_) | ((with_reducible first | apply d_ | apply e_ | apply f_ | apply g_); focus first | omega | (simp only [q_] <;> omega)) | ((with_reducible first | apply i_ | apply h_); focus first | omega | (simp only [q_] <;> omega)) | ((with_reducible apply h_); focus first | decide | kernel_rfl) | refine BCase.t (by decide) ?_ | refine BCase.f (by decide) ?_ | refine CallP.pure _ rfl _ (p1) ?_ | refine CallP.pure _ rfl _ (p_evalbegun) ?_ | with_reducible first | apply l_ | apply m_ | apply n_ | apply o_ | refine p_ (fun _ => ?_) (fun _ => ?_)) <;> (conv => whnf)))
    all_goals first | exact Ret.bool rfl | (exfalso; omega)
  by_cases c2 : (cols.length : Int) ≤ k
  · ((conv => whnf); repeat' ((first | (with_reducible first | apply a_ | apply b_ | apply c_) | ((with_reducible first | apply d_ | apply e_ | apply f_ | apply g_); focus first | omega | (simp only [q_] <;> omega)) | ((with_reducible first | apply i_ | apply h_); focus first | omega | (simp only [q_] <;> omega)) | ((with_reducible apply h_); focus first | decide | kernel_rfl) | refine BCase.t (by decide) ?_ | refine BCase.f (by decide) ?_ | refine CallP.pure _ rfl _ (p1) ?_ | refine CallP.pure _ rfl _ (p_evalbegun) ?_ | with_reducible first | apply l_ | apply m_ | apply n_ | apply o_ | refine p_ (fun _ => ?_) (fun _ => ?_)) <;> (conv => whnf)))
    all_goals first | exact Ret.bool rfl | (exfalso; omega)
  by_cases c3 : (row.length : Int) ≤ k
  · ((conv => whnf); repeat' ((first | (with_reducible first | apply a_ | apply b_ | apply c_) | ((with_reducible first | apply d_ | apply e_ | apply f_ | apply g_); focus first | omega | (simp only [q_] <;> omega)) | ((with_reducible first | apply i_ | apply h_); focus first | omega | (simp only [q_] <;> omega)) | ((with_reducible apply h_); focus first | decide | kernel_rfl) | refine BCase.t (by decide) ?_ | refine BCase.f (by decide) ?_ | refine CallP.pure _ rfl _ (p1) ?_ | refine CallP.pure _ rfl _ (p_evalbegun) ?_ | with_reducible first | apply l_ | apply m_ | apply n_ | apply o_ | refine p_ (fun _ => ?_) (fun _ => ?_)) <;> (conv => whnf)))
    all_goals first | exact Ret.bool rfl | (exfalso; omega)
  obtain ⟨n, rfl⟩ : ∃ n : Nat, k = n := ⟨k.toNat, by omega⟩
  have k2 : n < cols.length := by omega
  have k3 : n < row.length := by omega
  have pc := p_vcheckref row[n]
  have pn := p_namecheck cols[n] (hc.2 _ (List.getElem_mem k2))
  by_cases c4' : vChk row[n] ≠ 0
  · ((conv => whnf); repeat' ((first | (with_reducible first | apply a_ | apply b_ | apply c_) | ((with_reducible first | apply d_ | apply e_ | apply f_ | apply g_); focus first | omega | (simp only [q_] <;> omega)) | ((with_reducible first | apply i_ | apply h_); focus first | omega | (simp only [q_] <;> omega)) | ((with_reducible apply h_); focus first | decide | kernel_rfl) | refine BCase.t (by decide) ?_ | refine BCase.f (by decide) ?_ | refine CallP.pure _ rfl _ (p1) ?_ | refine CallP.pure _ rfl _ (p_evalbegun) ?_ | (refine Idx.mapI (l := row) n rfl k3 ?_) | refine CallP.pure _ rfl _ (pc) ?_ | with_reducible first | apply l_ | apply m_ | apply n_ | apply o_ | refine p_ (fun _ => ?_) (fun _ => ?_)) <;> (conv => whnf)))
    all_goals first | exact Ret.bool rfl | (exfalso; omega)
  have c4 : vChk row[n] = 0 := Decidable.of_not_not c4'
  rw [c4] at pc
  by_cases c5 : row[n].N < 0
  · ((conv => whnf); repeat' ((first | (with_reducible first | apply a_ | apply b_ | apply c_) | ((with_reducible first | apply d_ | apply e_ | apply f_ | apply g_); focus first | omega | (simp only [q_] <;> omega)) | ((with_reducible first | apply i_ | apply h_); focus first | omega | (simp only [q_] <;> omega)) | ((with_reducible apply h_); focus first | decide | kernel_rfl) | refine BCase.t (by decide) ?_ | refine BCase.f (by decide) ?_ | refine CallP.pure _ rfl _ (p1) ?_ | refine CallP.pure _ rfl _ (p_evalbegun) ?_ | (refine Idx.mapI (l := row) n rfl k3 ?_) | refine CallP.pure _ rfl _ (pc) ?_ | with_reducible first | apply l_ | apply m_ | apply n_ | apply o_ | refine p_ (fun _ => ?_) (fun _ => ?_)) <;> (conv => whnf)))
    all_goals first | exact Ret.bool rfl | (exfalso; omega)
  cases c6 : nameB cols[n] with
  | false =>
    rw [c6] at pn
    ((conv => whnf); repeat' ((first | (with_reducible first | apply a_ | apply b_ | apply c_) | ((with_reducible first | apply d_ | apply e_ | apply f_ | apply g_); focus first | omega | (simp only [q_] <;> omega)) | ((with_reducible first | apply i_ | apply h_); focus first | omega | (simp only [q_] <;> omega)) | ((with_reducible apply h_); focus first | decide | kernel_rfl) | refine BCase.t (by decide) ?_ | refine BCase.f (by decide) ?_ | refine CallP.pure _ rfl _ (p1) ?_ | refine CallP.pure _ rfl _ (p_evalbegun) ?_ | (refine Idx.mapI (l := row) n rfl k3 ?_) | (refine Idx.mapI (l := cols) n rfl k2 ?_) | refine CallP.pure _ rfl _ (pc) ?_ | refine CallP.pure _ rfl _ (pn) ?_ | with_reducible first | apply l_ | apply m_ | apply n_ | apply o_ | refine p_ (fun _ => ?_) (fun _ => ?_)) <;> (conv => whnf)))
    all_goals first | exact Ret.bool rfl | (exfalso; omega)
  | true =>
    rw [c6] at pn
    ((conv => whnf); repeat' ((first | (with_reducible first | apply a_ | apply b_ | apply c_) | ((with_reducible first | apply d_ | apply e_ | apply f_ | apply g_); focus first | omega | (simp only [q_] <;> omega)) | ((with_reducible first | apply i_ | apply h_); focus first | omega | (simp only [q_] <;> omega)) | ((with_reducible apply h_); focus first | decide | kernel_rfl) | refine BCase.t (by decide) ?_ | refine BCase.f (by decide) ?_ | refine CallP.pure _ rfl _ (p1) ?_ | refine CallP.pure _ rfl _ (p_evalbegun) ?_ | (refine Idx.mapI (l := row) n rfl k3 ?_) | (refine Idx.mapI (l := cols) n rfl k2 ?_) | refine CallP.pure _ rfl _ (pc) ?_ | refine CallP.pure _ rfl _ (pn) ?_ | with_reducible first | apply l_ | apply m_ | apply n_ | apply o_ | refine p_ (fun _ => ?_) (fun _ => ?_)) <;> (conv => whnf)))
    refine LoopC.mk Nat (fun j => [(0, slV 6 NodeD.c e), (1, slV 1 eText cols), (2, slV 3 ValueD.c row), (3, pInt .i64 n), (9, .d (.ptr 9 0)), (10, pInt .i64 x), (11, pInt .i64 j)]) (fun j => [(9, .box 26 (v.c.map D.c))]) [9] (fun j => j ≤ n ∧ ∀ i (h : i < cols.length), i < j → cols[i] ≠ cols[n]) (fun j => n - j) 0 ⟨Nat.zero_le _, fun i h h2 => absurd h2 (Nat.not_lt_zero _)⟩ ?start ?round
    case start => exact ⟨[(9, 9)], rfl, rfl, ⟨.inl rfl, .inl rfl, .inl rfl, .inl rfl, ⟨rfl, rfl, rfl⟩, .inl rfl, .inl rfl, trivial⟩, ⟨rfl, rfl, ⟨.inl rfl, .inl rfl, .inl rfl, rfl⟩⟩, trivial⟩
    case round =>
      rintro j ⟨hj, hi⟩
      have hj : j ≤ n := hj
      by_cases q : j < n
      · have q2 : j < cols.length := by omega
        by_cases ce : cols[j] = cols[n]
        · have ce2 : tx cols[j] = tx cols[n] := by rw [ce]
          ((conv => whnf); repeat' ((first | (with_reducible first | apply a_ | apply b_ | apply c_) | ((with_reducible first | apply d_ | apply e_ | apply f_ | apply g_); focus first | omega | (simp only [q_] <;> omega)) | ((with_reducible first | apply i_ | apply h_); focus first | omega | (simp only [q_] <;> omega)) | ((with_reducible apply h_); focus first | decide | kernel_rfl) | refine BCase.t (by decide) ?_ | refine BCase.f (by decide) ?_ | (first | refine Idx.mapI (l := cols) j rfl q2 ?_ | refine Idx.mapI (l := cols) n rfl k2 ?_) | (refine BCase.dt ce2 ?_) | with_reducible first | apply l_ | apply m_ | apply n_ | apply o_ | refine p_ (fun _ => ?_) (fun _ => ?_)) <;> (conv => whnf)))
          all_goals first | exact Ret.bool rfl | (exfalso; omega)
        · have ce2 : ¬ tx cols[j] = tx cols[n] := fun h => ce (tx_inj h)
          ((conv => whnf); repeat' ((first | (with_reducible first | apply a_ | apply b_ | apply c_) | ((with_reducible first | apply d_ | apply e_ | apply f_ | apply g_); focus first | omega | (simp only [q_] <;> omega)) | ((with_reducible first | apply i_ | apply h_); focus first | omega | (simp only [q_] <;> omega)) | ((with_reducible apply h_); focus first | decide | kernel_rfl) | refine BCase.t (by decide) ?_ | refine BCase.f (by decide) ?_ | (first | refine Idx.mapI (l := cols) j rfl q2 ?_ | refine Idx.mapI (l := cols) n rfl k2 ?_) | (refine BCase.df ce2 ?_) | with_reducible first | apply l_ | apply m_ | apply n_ | apply o_ | refine p_ (fun _ => ?_) (fun _ => ?_)) <;> (conv => whnf)))
          refine ⟨j + 1, ⟨by omega, fun i h h2 => ?_⟩, by omega, [(9, 9)], rfl, rfl, ⟨.inl rfl, .inl rfl, .inl rfl, .inl rfl, ⟨rfl, rfl, rfl⟩, .inl rfl, PLe.int (by omega), trivial⟩, ⟨rfl, rfl, ⟨.inl rfl, .inl rfl, .inl rfl, rfl⟩⟩, trivial⟩
          by_cases h3 : i = j
          · subst h3; exact ce
          · exact hi i h (by omega)
      · have hj2 : j = n := by omega
        subst hj2
        have pS := evalF_sub (e := e) k2 k3 hi c4 (by omega) (okVs_in hr _ (List.getElem_mem k3)) c6
        obtain ⟨g, hg⟩ : ∃ g, g = subN cols[j] row[j] := ⟨_, rfl⟩
        rw [← hg] at pS
        ((conv => whnf); repeat' ((first | (with_reducible first | apply a_ | apply b_ | apply c_) | ((with_reducible first | apply d_ | apply e_ | apply f_ | apply g_); focus first | omega | (simp only [q_] <;> omega)) | ((with_reducible first | apply i_ | apply h_); focus first | omega | (simp only [q_] <;> omega)) | ((with_reducible apply h_); focus first | decide | kernel_rfl) | refine BCase.t (by decide) ?_ | refine BCase.f (by decide) ?_ | (refine EmpOr.emp ?_) | (refine Need.by 64 rfl (by simp only [List.length_map, List.length_nil, Nat.zero_add]; omega) ?_) | with_reducible first | apply l_ | apply m_ | apply n_ | apply o_ | refine p_ (fun _ => ?_) (fun _ => ?_)) <;> (conv => whnf)))
        refine LoopC.mk Nat (fun i => [(1, slV 1 eText cols), (2, slV 3 ValueD.c row), (3, pInt .i64 j), (9, .d (.ptr 9 0)), (10, pInt .i64 x), (12, .d (.arr 60 37 6 0 e.length)), (13, pInt .i64 i)]) (fun i => [(9, .box 26 (v.c.map D.c)), (60, .arr 37 6 ((subL g e i).map NodeD.c))]) [9, 60] (fun i => i ≤ e.length) (fun i => e.length - i) 0 (Nat.zero_le _) ?s2 ?r2
        case s2 =>
          refine ⟨[(9, 9), (60, 79)], rfl, rfl, ⟨.inl rfl, .inl rfl, .inl rfl, ⟨rfl, rfl, rfl⟩, .inl rfl, ⟨rfl, rfl, rfl, rfl, rfl, ?_⟩, .inl rfl, trivial⟩, ⟨rfl, rfl, ⟨.inl rfl, .inl rfl, .inl rfl, rfl⟩⟩, ⟨rfl, rfl, rfl, rfl⟩, trivial⟩
          simp only [List.length_map, List.length_nil, Nat.zero_add]
        case r2 =>
          intro i hi2
          have hi2 : i ≤ e.length := hi2
          have hsl := subL_len g e i
          by_cases q2 : i < e.length
          · have hm := List.getElem_mem q2
            have lR : ∀ m, m = i → ((subL g e i).map NodeD.c)[m]? = some e[i].c := by rintro m rfl; exact subL_get g q2
            have hst := subL_step g q2
            have pcol := p_ncol cols[j]
            have plit := p_nlit row[j]
            have key : ∀ m r, m = i → r = (g e[i]).c → ((subL g e i).map NodeD.c).set m r = (subL g e (i + 1)).map NodeD.c := by
              rintro m r rfl rfl
              rw [hst, List.map_set]
            cases hx : NodeD.eqB e[i] (colN cols[j]) with
            | true =>
              have hge : g e[i] = litN row[j] := by rw [hg]; unfold subN; rw [if_pos hx]
              have heq := (NodeD.eqB_iff _ _).1 hx
              have hcc : e[i].c = (colN cols[j]).c := by rw [heq]
              rw [hcc] at lR
              ((conv => whnf); repeat' ((first | (with_reducible first | apply a_ | apply b_ | apply c_) | ((with_reducible first | apply d_ | apply e_ | apply f_ | apply g_); focus first | omega | (simp only [q_] <;> omega)) | ((with_reducible first | apply i_ | apply h_); focus first | omega | (simp only [q_] <;> omega)) | ((with_reducible apply h_); focus first | decide | kernel_rfl) | refine BCase.t (by decide) ?_ | refine BCase.f (by decide) ?_ | (refine Row.mk _ (lR _ (by omega)) ?_) | (refine Idx.mapI (l := cols) j rfl k2 ?_) | (refine Idx.mapI (l := row) j rfl k3 ?_) | refine CallP.pure _ rfl _ (pcol) ?_ | refine CallP.pure _ rfl _ (plit) ?_ | with_reducible first | apply l_ | apply m_ | apply n_ | apply o_ | refine p_ (fun _ => ?_) (fun _ => ?_)) <;> (conv => whnf)))
              refine ⟨i + 1, by show i + 1 ≤ _; omega, by omega, [(9, 9), (60, 60)], rfl, rfl, ⟨.inl rfl, .inl rfl, .inl rfl, ⟨rfl, rfl, rfl⟩, .inl rfl, ⟨rfl, rfl, rfl, rfl, rfl, rfl⟩, PLe.int rfl, trivial⟩, ⟨rfl, rfl, ⟨.inl rfl, .inl rfl, .inl rfl, rfl⟩⟩, ⟨rfl, rfl, rfl, ?_⟩, trivial⟩
              exact key _ _ (by omega) (by rw [hge]; rfl)
            | false =>
              have hge : g e[i] = e[i] := by rw [hg]; unfold subN; rw [if_neg (by rw [hx]; simp)]
              have hsame : subL g e (i + 1) = subL g e i := by
                unfold subL
                rw [take_snoc q2, List.map_append, List.append_assoc, List.drop_eq_getElem_cons q2]
                show _ ++ (g e[i] :: _) = _
                rw [hge]; rfl
              ((conv => whnf); repeat' ((first | (with_reducible first | apply a_ | apply b_ | apply c_) | ((with_reducible first | apply d_ | apply e_ | apply f_ | apply g_); focus first | omega | (simp only [q_] <;> omega)) | ((with_reducible first | apply i_ | apply h_); focus first | omega | (simp only [q_] <;> omega)) | ((with_reducible apply h_); focus first | decide | kernel_rfl) | refine BCase.t (by decide) ?_ | refine BCase.f (by decide) ?_ | (refine Row.mk _ (lR _ (by omega)) ?_) | (refine Idx.mapI (l := cols) j rfl k2 ?_) | (refine Idx.mapI (l := row) j rfl k3 ?_) | refine CallP.pure _ rfl _ (pcol) ?_ | refine CallP.pure _ rfl _ (plit) ?_ | with_reducible first | apply l_ | apply m_ | apply n_ | apply o_ | refine p_ (fun _ => ?_) (fun _ => ?_)) <;> (conv => whnf)))
              all_goals first
                | (exfalso; rename_i a1 a2 a3 a4 a5 a6; have hb : NodeD.eqB e[i] (colN cols[j]) = true := by simp [NodeD.eqB, a1, a2, a3, a4, a5, a6]
                   rw [hx] at hb; cases hb)
                | (exact ⟨i + 1, by show i + 1 ≤ _; omega, by omega, [(9, 9), (60, 60)], rfl, rfl, ⟨.inl rfl, .inl rfl, .inl rfl, ⟨rfl, rfl, rfl⟩, .inl rfl, ⟨rfl, rfl, rfl, rfl, rfl, rfl⟩, PLe.int rfl, trivial⟩, ⟨rfl, rfl, ⟨.inl rfl, .inl rfl, .inl rfl, rfl⟩⟩, ⟨rfl, rfl, rfl, congrArg (List.map NodeD.c) hsame.symm⟩, trivial⟩)
          · have hfull : subL g e i = e.map g := by unfold subL; rw [List.take_of_length_le (by omega), List.drop_of_length_le (by omega), List.append_nil]
            rw [hfull]
            have hHN : HN (e.map g) := by
              intro m hm
              obtain ⟨m0, hm0, rfl⟩ := List.mem_map.1 hm
              rw [hg]; unfold subN
              split
              · exact ⟨Nat.zero_le _, okVs_in hr _ (List.getElem_mem k3)⟩
              · exact okNs_hn he m0 hm0
            have p2 := p_eval (e.map g) hHN cols row (okVs_len hr) (okVs_in hr)
            rw [pS, hv] at p2
            have p2' := p2.lend (rd := [(FK, .arr 37 6 ((e.map g).map NodeD.c))]) (args := [.d (.arr FK 37 6 0 e.length), slV 1 eText cols, slV 3 ValueD.c row]) rfl (by
              refine ⟨by simp, ?_⟩
              show [PV.d (D.c (C.sl 6 (List.take _ (List.drop 0 _)))), _, _] = _
              rw [List.drop_zero, List.take_of_length_le (by simp)])
            ((conv => whnf); repeat' ((first | (with_reducible first | apply a_ | apply b_ | apply c_) | ((with_reducible first | apply d_ | apply e_ | apply f_ | apply g_); focus first | omega | (simp only [q_] <;> omega)) | ((with_reducible first | apply i_ | apply h_); focus first | omega | (simp only [q_] <;> omega)) | ((with_reducible apply h_); focus first | decide | kernel_rfl) | refine BCase.t (by decide) ?_ | refine BCase.f (by decide) ?_ | (refine CallP.ret [(FK, 60)] _ _ _ _ _ _ _ p2' rfl rfl rfl rfl ⟨rfl, trivial⟩ ?_) | with_reducible first | apply l_ | apply m_ | apply n_ | apply o_ | refine p_ (fun _ => ?_) (fun _ => ?_)) <;> (conv => whnf)))
            all_goals first | exact Ret.bool rfl | (exact Ret.bool (by simp)) | skip
end Go.Proofs.YtggdfnjomonbkaaGreatDoor.Pm
end
