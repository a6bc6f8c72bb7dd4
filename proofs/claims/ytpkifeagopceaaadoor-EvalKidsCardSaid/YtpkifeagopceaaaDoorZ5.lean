/- Parts of the proof, one behind the other: PxNode6 PxAsk PxScope PxNodeP PxWalkV PmClone PxWalkV2 PxAlone PxDeep PxChk PxRaw PmLikeR PmMatchOf PxNodeR PxNodeR2 PxSplit PxValue PxSame PxFoldE PxFold PxFold2 PxFold3 PxSplit2 PmNil PxPush PxPush2 PxBegun PxBegun2 PxLaws. Conditions: none beyond what each theorem says. -/
import Derived.Test.YtpkifeagopceaaaDoorZ4
section
namespace Go.Proofs.YtpkifeagopceaaaDoor.Pm
open Go.RowKit K
set_option linter.unusedVariables false
set_option linter.unusedSimpArgs false
set_option maxRecDepth 100000
theorem mea_err {v : ValueD} (h : (meaV v).2 ≠ 0) : (meaV v).2 = 7 := by
  unfold meaV at h ⊢
  split
  · rename_i q; rw [if_pos q] at h; exact absurd rfl h
  · rename_i q
    rw [if_neg q] at h
    split
    · rename_i r; rw [if_pos r] at h; exact absurd rfl h
    · rfl
theorem p_join (op : Int) (k : List ValueD) (h0 : 0 < k.length) (hl : k.length ≤ 1000) : Pure Tryd.prog 59 [pInt .i64 op, slV 3 ValueD.c k] (.tup [pInt .i64 (joiV op k).1, pInt .i64 (joiV op k).2]) := by
  have hlm : 0 < (k.map fun v => (meaV v).1).length := by rw [List.length_map]; exact h0
  have eh : (k.map fun v => (meaV v).1).headD 0 = (k.map fun v => (meaV v).1)[0] := by cases k with
    | nil => simp at h0
    | cons x k => rfl
  have pa := p_lall (k.map fun v => (meaV v).1) (by rw [List.length_map]; omega)
  have py := p_lany (k.map fun v => (meaV v).1) (by rw [List.length_map]; omega)
  have pn := p_lnot (k.map fun v => (meaV v).1)[0]
  refine pure_of Tryd.func59 (by rfl) rfl (by kernel_rfl) (by rfl) ?_
  ((conv => whnf); repeat' ((first | (with_reducible first | apply a_ | apply b_ | apply c_) | ((with_reducible first | apply d_ | apply e_ | apply f_ | apply g_); focus first | omega | (simp only [q_] <;> omega)) | ((with_reducible first | apply i_ | apply h_); focus first | omega | (simp only [q_] <;> omega)) | ((with_reducible apply h_); focus first | decide | kernel_rfl) | refine BCase.t (by decide) ?_ | refine BCase.f (by decide) ?_ | with_reducible first | apply l_ | apply m_ | apply n_ | apply o_ | refine p_ (fun _ => ?_) (fun _ => ?_)) <;> (conv => whnf)))
  refine LoopC.mk Nat (fun j => [(0, pInt .i64 op), (6, .d (.app 60 3 1 (((k.take j).map fun v => (meaV v).1).map eInt))), (11, slV 3 ValueD.c k), (12, pInt .i64 k.length), (13, pInt .i64 j)]) (fun _ => [(60, .tail 3 1)]) [60] (fun j => j ≤ k.length ∧ (k.take j).any (fun v => decide ((meaV v).2 ≠ 0)) = false) (fun j => k.length - j) 0 ⟨Nat.zero_le _, rfl⟩ ?start ?round
  case start => exact ⟨[], rfl, rfl, ⟨.inl rfl, ⟨rfl, rfl, Nat.zero_lt_succ _, rfl, rfl⟩, .inl rfl, PLe.int (by simp), .inl rfl, trivial⟩, ⟨rfl, Nat.zero_lt_succ _⟩, trivial⟩
  case round =>
    rintro j ⟨hj, hb⟩
    have hj : j ≤ k.length := hj
    by_cases h1 : j < k.length
    · have pm := p_meant k[j]
      by_cases he : (meaV k[j]).2 = 0
      · rw [he] at pm
        ((conv => whnf); repeat' ((first | (with_reducible first | apply a_ | apply b_ | apply c_) | ((with_reducible first | apply d_ | apply e_ | apply f_ | apply g_); focus first | omega | (simp only [q_] <;> omega)) | ((with_reducible first | apply i_ | apply h_); focus first | omega | (simp only [q_] <;> omega)) | ((with_reducible apply h_); focus first | decide | kernel_rfl) | refine BCase.t (by decide) ?_ | refine BCase.f (by decide) ?_ | (refine Idx.mapI j rfl h1 ?_) | refine CallP.pure _ rfl _ (pm) ?_ | (refine Need.by 8 rfl (by simp only [List.length_map, List.length_take, List.length_singleton]; omega) ?_) | with_reducible first | apply l_ | apply m_ | apply n_ | apply o_ | refine p_ (fun _ => ?_) (fun _ => ?_)) <;> (conv => whnf)))
        refine ⟨j + 1, ⟨by omega, ?_⟩, by omega, [(60, 28)], rfl, rfl, ⟨.inl rfl, ⟨rfl, rfl, rfl, rfl, by rw [take_snoc h1, List.map_append, List.map_append]; rfl⟩, .inl rfl, .inl rfl, PLe.int rfl, trivial⟩, ⟨rfl, rfl, rfl⟩, trivial⟩
        rw [take_snoc h1, List.any_append, hb]; simp [he]
      · have hk : joiV op k = (0, 7) := by
          unfold joiV
          rw [if_pos (List.any_eq_true.2 ⟨k[j], List.getElem_mem h1, decide_eq_true he⟩)]
        rw [hk]
        rw [mea_err he] at pm
        ((conv => whnf); repeat' ((first | (with_reducible first | apply a_ | apply b_ | apply c_) | ((with_reducible first | apply d_ | apply e_ | apply f_ | apply g_); focus first | omega | (simp only [q_] <;> omega)) | ((with_reducible first | apply i_ | apply h_); focus first | omega | (simp only [q_] <;> omega)) | ((with_reducible apply h_); focus first | decide | kernel_rfl) | refine BCase.t (by decide) ?_ | refine BCase.f (by decide) ?_ | (refine Idx.mapI j rfl h1 ?_) | refine CallP.pure _ rfl _ (pm) ?_ | with_reducible first | apply l_ | apply m_ | apply n_ | apply o_ | refine p_ (fun _ => ?_) (fun _ => ?_)) <;> (conv => whnf)))
        all_goals exact Ret.eq rfl
    · rw [List.take_of_length_le (by omega)] at hb
      rw [List.take_of_length_le (by omega)]
      unfold joiV
      rw [hb, if_neg (by simp), eh]
      by_cases h16 : op = 16
      · rw [if_pos h16]
        ((conv => whnf); repeat' ((first | (with_reducible first | apply a_ | apply b_ | apply c_) | ((with_reducible first | apply d_ | apply e_ | apply f_ | apply g_); focus first | omega | (simp only [q_] <;> omega)) | ((with_reducible first | apply i_ | apply h_); focus first | omega | (simp only [q_] <;> omega)) | ((with_reducible apply h_); focus first | decide | kernel_rfl) | refine BCase.t (by decide) ?_ | refine BCase.f (by decide) ?_ | refine CallP.pure _ rfl _ (pa) ?_ | with_reducible first | apply l_ | apply m_ | apply n_ | apply o_ | refine p_ (fun _ => ?_) (fun _ => ?_)) <;> (conv => whnf)))
        all_goals first | exact Ret.eq rfl | (exfalso; omega)
      · rw [if_neg h16]
        by_cases h17 : op = 17
        · rw [if_pos h17]
          ((conv => whnf); repeat' ((first | (with_reducible first | apply a_ | apply b_ | apply c_) | ((with_reducible first | apply d_ | apply e_ | apply f_ | apply g_); focus first | omega | (simp only [q_] <;> omega)) | ((with_reducible first | apply i_ | apply h_); focus first | omega | (simp only [q_] <;> omega)) | ((with_reducible apply h_); focus first | decide | kernel_rfl) | refine BCase.t (by decide) ?_ | refine BCase.f (by decide) ?_ | refine CallP.pure _ rfl _ (py) ?_ | with_reducible first | apply l_ | apply m_ | apply n_ | apply o_ | refine p_ (fun _ => ?_) (fun _ => ?_)) <;> (conv => whnf)))
          all_goals first | exact Ret.eq rfl | (exfalso; omega)
        · rw [if_neg h17]
          ((conv => whnf); repeat' ((first | (with_reducible first | apply a_ | apply b_ | apply c_) | ((with_reducible first | apply d_ | apply e_ | apply f_ | apply g_); focus first | omega | (simp only [q_] <;> omega)) | ((with_reducible first | apply i_ | apply h_); focus first | omega | (simp only [q_] <;> omega)) | ((with_reducible apply h_); focus first | decide | kernel_rfl) | refine BCase.t (by decide) ?_ | refine BCase.f (by decide) ?_ | (refine Idx.mapI 0 rfl hlm ?_) | refine CallP.pure _ rfl _ (pn) ?_ | with_reducible first | apply l_ | apply m_ | apply n_ | apply o_ | refine p_ (fun _ => ?_) (fun _ => ?_)) <;> (conv => whnf)))
          all_goals exact Ret.eq rfl
end Go.Proofs.YtpkifeagopceaaaDoor.Pm
end
section
namespace Go.Proofs.YtpkifeagopceaaaDoor.Pm
open Go.RowKit K
set_option linter.unusedVariables false
set_option linter.unusedSimpArgs false
set_option maxRecDepth 100000
theorem p_reckon (op : Int) (ho : op = 3 ∨ (5 ≤ op ∧ op ≤ 9)) (k : List ValueD) (h0 : 0 < k.length) (hl : k.length ≤ 1000) (hin : ∀ v ∈ k, WholeP.In64 v.N) :
    Pure Tryd.prog 43 [pInt .i64 op, slV 3 ValueD.c k] (.tup [vV (recV op k).1, pInt .i64 (recV op k).2]) := by
  have hc : op = 3 ∨ op = 5 ∨ op = 6 ∨ op = 7 ∨ op = 8 ∨ op = 9 := by omega
  rcases hc with rfl | rfl | rfl | rfl | rfl | rfl
  · exact p_reckon_of 3 _ p_reck3 (fun a b ha hb => p_reckneg a b ha) k h0 hl hin
  · exact p_reckon_of 5 _ p_reck5 p_wadd k h0 hl hin
  · exact p_reckon_of 6 _ p_reck6 p_wsub k h0 hl hin
  · exact p_reckon_of 7 _ p_reck7 p_wmul k h0 hl hin
  · exact p_reckon_of 8 _ p_reck8 p_wdiv k h0 hl hin
  · exact p_reckon_of 9 _ p_reck9 p_wmod k h0 hl hin
theorem getD_at {k : List ValueD} {i : Nat} (h : i < k.length) : k.getD i noV = k[i] := by rw [List.getD_eq_getElem?_getD, List.getElem?_eq_getElem h]; rfl
theorem p_ask (op : Int) (k : List ValueD) (h1 : leastK op ≤ k.length) (h2 : (k.length : Int) ≤ mostK op) (ho : op = 4 ∨ op = 10 ∨ op = 12 ∨ op = 14 ∨ op = 16 ∨ op = 17 ∨ op = 18 ∨ op = 20 ∨ op = 22 ∨ op = 24) :
    Pure Tryd.prog 45 [pInt .i64 op, slV 3 ValueD.c k] (.tup [pInt .i64 (askV op k).1, pInt .i64 (askV op k).2]) := by
  have hm := mostK_le op
  have hp : 1 ≤ leastK op := by rcases ho with rfl | rfl | rfl | rfl | rfl | rfl | rfl | rfl | rfl | rfl <;> decide
  have l0 : 0 < k.length := by omega
  refine pure_of Tryd.func45 (by rfl) rfl (by kernel_rfl) (by rfl) ?_
  unfold askV
  by_cases a10 : op = 10
  · subst a10
    have l1 : 1 < k.length := by have : leastK 10 = 2 := rfl; omega
    have pa := p_rawsame k[0] k[1]
    rw [getD_at l0, getD_at l1]
    ((conv => whnf); repeat' ((first | (with_reducible first | apply a_ | apply b_ | apply c_) | ((with_reducible first | apply d_ | apply e_ | apply f_ | apply g_); focus first | omega | (simp only [q_] <;> omega)) | ((with_reducible first | apply i_ | apply h_); focus first | omega | (simp only [q_] <;> omega)) | ((with_reducible apply h_); focus first | decide | kernel_rfl) | refine BCase.t (by decide) ?_ | refine BCase.f (by decide) ?_ | (refine Idx.mapI 0 rfl l0 ?_) | (refine Idx.mapI 1 rfl l1 ?_) | refine CallP.pure _ rfl _ (pa) ?_ | with_reducible first | apply l_ | apply m_ | apply n_ | apply o_ | refine p_ (fun _ => ?_) (fun _ => ?_)) <;> (conv => whnf)))
    all_goals exact Ret.eq rfl
  rw [if_neg a10]
  by_cases a12 : op = 12
  · subst a12
    have l1 : 1 < k.length := by have : leastK 12 = 2 := rfl; omega
    have pa := p_rawless k[0] k[1]
    rw [getD_at l0, getD_at l1]
    ((conv => whnf); repeat' ((first | (with_reducible first | apply a_ | apply b_ | apply c_) | ((with_reducible first | apply d_ | apply e_ | apply f_ | apply g_); focus first | omega | (simp only [q_] <;> omega)) | ((with_reducible first | apply i_ | apply h_); focus first | omega | (simp only [q_] <;> omega)) | ((with_reducible apply h_); focus first | decide | kernel_rfl) | refine BCase.t (by decide) ?_ | refine BCase.f (by decide) ?_ | (refine Idx.mapI 0 rfl l0 ?_) | (refine Idx.mapI 1 rfl l1 ?_) | refine CallP.pure _ rfl _ (pa) ?_ | with_reducible first | apply l_ | apply m_ | apply n_ | apply o_ | refine p_ (fun _ => ?_) (fun _ => ?_)) <;> (conv => whnf)))
    all_goals exact Ret.eq rfl
  rw [if_neg a12]
  by_cases a14 : op = 14
  · subst a14
    have l1 : 1 < k.length := by have : leastK 14 = 2 := rfl; omega
    have pa := p_rawless k[1] k[0]
    rw [getD_at l0, getD_at l1]
    ((conv => whnf); repeat' ((first | (with_reducible first | apply a_ | apply b_ | apply c_) | ((with_reducible first | apply d_ | apply e_ | apply f_ | apply g_); focus first | omega | (simp only [q_] <;> omega)) | ((with_reducible first | apply i_ | apply h_); focus first | omega | (simp only [q_] <;> omega)) | ((with_reducible apply h_); focus first | decide | kernel_rfl) | refine BCase.t (by decide) ?_ | refine BCase.f (by decide) ?_ | (refine Idx.mapI 0 rfl l0 ?_) | (refine Idx.mapI 1 rfl l1 ?_) | refine CallP.pure _ rfl _ (pa) ?_ | with_reducible first | apply l_ | apply m_ | apply n_ | apply o_ | refine p_ (fun _ => ?_) (fun _ => ?_)) <;> (conv => whnf)))
    all_goals exact Ret.eq rfl
  rw [if_neg a14]
  by_cases a18 : op = 18
  · subst a18
    have pa := p_lof (isN k[0])
    rw [getD_at l0]
    ((conv => whnf); repeat' ((first | (with_reducible first | apply a_ | apply b_ | apply c_) | ((with_reducible first | apply d_ | apply e_ | apply f_ | apply g_); focus first | omega | (simp only [q_] <;> omega)) | ((with_reducible first | apply i_ | apply h_); focus first | omega | (simp only [q_] <;> omega)) | ((with_reducible apply h_); focus first | decide | kernel_rfl) | refine BCase.t (by decide) ?_ | refine BCase.f (by decide) ?_ | (refine Idx.mapI 0 rfl l0 ?_) | refine CallP.pure _ rfl _ (pa) ?_ | with_reducible first | apply l_ | apply m_ | apply n_ | apply o_ | refine p_ (fun _ => ?_) (fun _ => ?_)) <;> (conv => whnf)))
    all_goals exact Ret.eq rfl
  rw [if_neg a18]
  by_cases a22 : op = 22
  · subst a22
    have pa := p_rawin k[0] (k.drop 1) (by rw [List.length_drop]; omega)
    rw [getD_at l0]
    have e1 : ∀ n, n = (((k.map ValueD.c).length : Nat) : Int).toNat - (1 : Int).toNat → slV 3 ValueD.c (k.drop 1) = .d (.c (.sl 3 (((k.map ValueD.c).drop (1 : Int).toNat).take n))) := by
      rintro n rfl
      rw [List.take_of_length_le (by rw [List.length_drop]; omega), ← List.map_drop]; rfl
    rw [e1 _ rfl] at pa
    ((conv => whnf); repeat' ((first | (with_reducible first | apply a_ | apply b_ | apply c_) | ((with_reducible first | apply d_ | apply e_ | apply f_ | apply g_); focus first | omega | (simp only [q_] <;> omega)) | ((with_reducible first | apply i_ | apply h_); focus first | omega | (simp only [q_] <;> omega)) | ((with_reducible apply h_); focus first | decide | kernel_rfl) | refine BCase.t (by decide) ?_ | refine BCase.f (by decide) ?_ | (refine Idx.mapI 0 rfl l0 ?_) | refine CallP.pure _ rfl _ (pa) ?_ | with_reducible first | apply l_ | apply m_ | apply n_ | apply o_ | refine p_ (fun _ => ?_) (fun _ => ?_)) <;> (conv => whnf)))
    all_goals exact Ret.eq rfl
  rw [if_neg a22]
  by_cases a24 : op = 24
  · subst a24
    have l1 : 1 < k.length := by have : leastK 24 = 3 := rfl; omega
    have l2 : 2 < k.length := by have : leastK 24 = 3 := rfl; omega
    have pa := p_rawbetween k[0] k[1] k[2]
    rw [getD_at l0, getD_at l1, getD_at l2]
    ((conv => whnf); repeat' ((first | (with_reducible first | apply a_ | apply b_ | apply c_) | ((with_reducible first | apply d_ | apply e_ | apply f_ | apply g_); focus first | omega | (simp only [q_] <;> omega)) | ((with_reducible first | apply i_ | apply h_); focus first | omega | (simp only [q_] <;> omega)) | ((with_reducible apply h_); focus first | decide | kernel_rfl) | refine BCase.t (by decide) ?_ | refine BCase.f (by decide) ?_ | (refine Idx.mapI 0 rfl l0 ?_) | (refine Idx.mapI 1 rfl l1 ?_) | (refine Idx.mapI 2 rfl l2 ?_) | refine CallP.pure _ rfl _ (pa) ?_ | with_reducible first | apply l_ | apply m_ | apply n_ | apply o_ | refine p_ (fun _ => ?_) (fun _ => ?_)) <;> (conv => whnf)))
    all_goals exact Ret.eq rfl
  rw [if_neg a24]
  by_cases a20 : op = 20
  · subst a20
    have pa := p_liken k (by have : leastK 20 = 2 := rfl; have : mostK 20 = 2 := rfl; omega)
    rw [if_pos rfl]
    ((conv => whnf); repeat' ((first | (with_reducible first | apply a_ | apply b_ | apply c_) | ((with_reducible first | apply d_ | apply e_ | apply f_ | apply g_); focus first | omega | (simp only [q_] <;> omega)) | ((with_reducible first | apply i_ | apply h_); focus first | omega | (simp only [q_] <;> omega)) | ((with_reducible apply h_); focus first | decide | kernel_rfl) | refine BCase.t (by decide) ?_ | refine BCase.f (by decide) ?_ | refine CallP.pure _ rfl _ (pa) ?_ | with_reducible first | apply l_ | apply m_ | apply n_ | apply o_ | refine p_ (fun _ => ?_) (fun _ => ?_)) <;> (conv => whnf)))
    all_goals exact Ret.eq rfl
  rw [if_neg a20]
  have pa := p_join op k l0 (by omega)
  ((conv => whnf); repeat' ((first | (with_reducible first | apply a_ | apply b_ | apply c_) | ((with_reducible first | apply d_ | apply e_ | apply f_ | apply g_); focus first | omega | (simp only [q_] <;> omega)) | ((with_reducible first | apply i_ | apply h_); focus first | omega | (simp only [q_] <;> omega)) | ((with_reducible apply h_); focus first | decide | kernel_rfl) | refine BCase.t (by decide) ?_ | refine BCase.f (by decide) ?_ | refine CallP.pure _ rfl _ (pa) ?_ | with_reducible first | apply l_ | apply m_ | apply n_ | apply o_ | refine p_ (fun _ => ?_) (fun _ => ?_)) <;> (conv => whnf)))
  all_goals first | exact Ret.eq rfl | (exfalso; omega)
end Go.Proofs.YtpkifeagopceaaaDoor.Pm
end
section
namespace Go.Proofs.YtpkifeagopceaaaDoor.Pm
open Go.RowKit K
set_option linter.unusedVariables false
set_option linter.unusedSimpArgs false
set_option maxRecDepth 100000
abbrev Cols := List (List UInt8 × ValueD)
def vAgg (v : ValueD) : Value := .agg #[.int .i64 v.Kind, .int .i64 v.N, .string (tx v.S)]
def vmap (l : Cols) : List (ByteArray × Value) := l.map fun p => (tx p.1, vAgg p.2)
def vget : Cols → List UInt8 → Option ValueD
  | [], _ => none
  | (k, v) :: l, s => if s = k then some v else vget l s
def vput : Cols → List UInt8 → ValueD → Cols
  | [], s, x => [(s, x)]
  | (k, v) :: l, s, x => if s = k then (s, x) :: l else (k, v) :: vput l s x
theorem mpGet_vmap : ∀ (l : Cols) (s : List UInt8), mpGet (vmap l) (tx s) = (vget l s).map vAgg
  | [], s => rfl
  | (a, v) :: l, s => by
    show (bif decide (tx s = tx a) then _ else _) = _
    unfold vget
    by_cases h : s = a
    · subst h; simp
    · have : ¬ tx s = tx a := fun e => h (tx_inj e)
      rw [decide_eq_false this, cond_false, if_neg h]
      exact mpGet_vmap l s
theorem mpPut_vmap : ∀ (l : Cols) (s : List UInt8) (x : ValueD), mpPut (vmap l) (tx s) (vAgg x) = vmap (vput l s x)
  | [], s, x => rfl
  | (a, v) :: l, s, x => by
    show (bif decide (tx s = tx a) then _ else _) = _
    unfold vput
    by_cases h : s = a
    · subst h; simp [vmap]
    · have : ¬ tx s = tx a := fun e => h (tx_inj e)
      rw [decide_eq_false this, cond_false, if_neg h]
      show _ :: mpPut (vmap l) (tx s) _ = _
      rw [mpPut_vmap l s]; rfl
theorem vmap_plain (l : Cols) : ∀ p ∈ vmap l, plainV p.2 = true := by
  intro p hp
  obtain ⟨s, _, rfl⟩ := List.mem_map.1 hp
  rfl
theorem vget_put : ∀ (l : Cols) (s : List UInt8) (x : ValueD) (t : List UInt8), vget (vput l s x) t = if t = s then some x else vget l t
  | [], s, x, t => rfl
  | (k, v) :: l, s, x, t => by
    unfold vput
    by_cases h : s = k
    · subst h
      rw [if_pos rfl]
      unfold vget
      by_cases h2 : t = s
      · rw [if_pos h2, if_pos h2]
      · rw [if_neg h2, if_neg h2]
        by_cases h3 : t = s
        · exact absurd h3 h2
        · rw [if_neg h3]
    · rw [if_neg h]
      by_cases h2 : t = k
      · subst h2
        rw [vget, if_pos rfl, vget, if_pos rfl, if_neg (fun e => h e.symm)]
      · rw [vget, if_neg h2, vget_put l s x t, vget, if_neg h2]
def scM : List (List UInt8) → List ValueD → Cols
  | c :: cs, v :: vs => vput (scM cs vs) c v
  | _, _ => []
def lookC : List (List UInt8) → List ValueD → Look
  | c :: cs, v :: vs, s => if s = c then some v else lookC cs vs s
  | _, _, _ => none
theorem vget_scM : ∀ (cols : List (List UInt8)) (row : List ValueD) (s : List UInt8), vget (scM cols row) s = lookC cols row s
  | [], _, _ => by cases ‹List ValueD› <;> rfl
  | _ :: _, [], _ => rfl
  | c :: cs, v :: vs, s => by
    unfold scM lookC
    rw [vget_put, vget_scM cs vs s]
theorem s_scoped (cols : List (List UInt8)) (row : List ValueD) (h : cols.length = row.length) (hl : cols.length ≤ 1000000) : CallS Tryd.prog 33 [slV 1 eText cols, slV 3 ValueD.c row] [] [] (.agg [.mp NK]) [(NK, .mp (vmap (scM cols row)))] := by
  refine callS_of Tryd.func33 (by rfl) rfl (by kernel_rfl) (by rfl) [] rfl ?_
  ((conv => whnf); repeat' ((first | (with_reducible first | apply a_ | apply b_ | apply c_) | ((with_reducible first | apply d_ | apply e_ | apply f_ | apply g_); focus first | omega | (simp only [q_] <;> omega)) | ((with_reducible first | apply i_ | apply h_); focus first | omega | (simp only [q_] <;> omega)) | ((with_reducible apply h_); focus first | decide | kernel_rfl) | refine BCase.t (by decide) ?_ | refine BCase.f (by decide) ?_ | with_reducible first | apply l_ | apply m_ | apply n_ | apply o_ | refine p_ (fun _ => ?_) (fun _ => ?_)) <;> (conv => whnf)))
  refine LoopC.mk Nat (fun j => [(0, slV 1 eText cols), (1, slV 3 ValueD.c row), (4, .d (.ptr 4 0)), (5, .d (.ptr 5 0)), (6, pInt .i64 ((cols.length : Int) - 1 - j))]) (fun j => [(4, .box 69 [.c (.v (.map none))]), (5, .box 69 [.mp 7]), (7, .mp (vmap (scM (cols.drop (cols.length - j)) (row.drop (cols.length - j)))))]) [4, 5, 7] (fun j => j ≤ cols.length) (fun j => cols.length - j) 0 (Nat.zero_le _) ?start ?round
  case start =>
    refine ⟨[(4, 4), (5, 5), (7, 7)], rfl, rfl, ⟨.inl rfl, .inl rfl, ⟨rfl, rfl, rfl⟩, ⟨rfl, rfl, rfl⟩, PLe.int (by simp), trivial⟩, ⟨rfl, rfl, ⟨.inl rfl, rfl⟩⟩, ⟨rfl, rfl, ⟨⟨rfl, rfl⟩, rfl⟩⟩, ⟨rfl, ?_⟩, trivial⟩
    show [] = vmap _
    rw [Nat.sub_zero, List.drop_length]; rfl
  case round =>
    intro j hj
    have hj : j ≤ cols.length := hj
    by_cases q : j < cols.length
    · have hi : cols.length - (j + 1) < cols.length := by omega
      have hr : cols.length - (j + 1) < row.length := by omega
      have e1 : scM (cols.drop (cols.length - (j + 1))) (row.drop (cols.length - (j + 1))) = vput (scM (cols.drop (cols.length - j)) (row.drop (cols.length - j))) cols[cols.length - (j + 1)] row[cols.length - (j + 1)] := by
        rw [List.drop_eq_getElem_cons hi, List.drop_eq_getElem_cons hr, show cols.length - (j + 1) + 1 = cols.length - j by omega]; rfl
      ((conv => whnf); repeat' ((first | (with_reducible first | apply a_ | apply b_ | apply c_) | ((with_reducible first | apply d_ | apply e_ | apply f_ | apply g_); focus first | omega | (simp only [q_] <;> omega)) | ((with_reducible first | apply i_ | apply h_); focus first | omega | (simp only [q_] <;> omega)) | ((with_reducible apply h_); focus first | decide | kernel_rfl) | refine BCase.t (by decide) ?_ | refine BCase.f (by decide) ?_ | (refine Idx.mapI (l := cols) (cols.length - (j + 1)) (by omega) hi ?_) | (refine Idx.mapI (l := row) (cols.length - (j + 1)) (by omega) hr ?_) | with_reducible first | apply l_ | apply m_ | apply n_ | apply o_ | refine p_ (fun _ => ?_) (fun _ => ?_)) <;> (conv => whnf)))
      refine ⟨j + 1, by show j + 1 ≤ _; omega, by omega, [(4, 4), (5, 5), (7, 7)], rfl, rfl, ⟨.inl rfl, .inl rfl, ⟨rfl, rfl, rfl⟩, ⟨rfl, rfl, rfl⟩, PLe.int (by omega), trivial⟩, ⟨rfl, rfl, ⟨.inl rfl, rfl⟩⟩, ⟨rfl, rfl, ⟨⟨rfl, rfl⟩, rfl⟩⟩, ⟨rfl, ?_⟩, trivial⟩
      show mpPut (vmap _) (tx _) (vAgg _) = vmap _
      rw [mpPut_vmap, e1]
    · have e0 : cols.length - j = 0 := by omega
      ((conv => whnf); repeat' ((first | (with_reducible first | apply a_ | apply b_ | apply c_) | ((with_reducible first | apply d_ | apply e_ | apply f_ | apply g_); focus first | omega | (simp only [q_] <;> omega)) | ((with_reducible first | apply i_ | apply h_); focus first | omega | (simp only [q_] <;> omega)) | ((with_reducible apply h_); focus first | decide | kernel_rfl) | refine BCase.t (by decide) ?_ | refine BCase.f (by decide) ?_ | with_reducible first | apply l_ | apply m_ | apply n_ | apply o_ | refine p_ (fun _ => ?_) (fun _ => ?_)) <;> (conv => whnf)))
      refine RetS.mk [(NK, 7)] [NK] rfl rfl ?_ ?_
      · exact ⟨⟨rfl, rfl⟩, rfl⟩
      · refine ⟨⟨rfl, ?_⟩, trivial⟩
        show vmap _ = vmap _
        rw [e0, List.drop_zero, List.drop_zero]
end Go.Proofs.YtpkifeagopceaaaDoor.Pm
end
section
namespace Go.Proofs.YtpkifeagopceaaaDoor.Pm
open Go.RowKit K
set_option linter.unusedVariables false
set_option linter.unusedSimpArgs false
set_option maxRecDepth 100000
theorem ple_ve {f : Nat → Option Nat} {n : List Nat} {a b : ValueD} {x y : Int} (h1 : b = a) (h2 : y = x) : PLe f n (.tup [vV a, pInt .i64 x]) (.tup [vV b, pInt .i64 y]) := by
  subst h1 h2
  exact ⟨⟨.inl rfl, .inl rfl, .inl rfl, rfl⟩, .inl rfl, rfl⟩
theorem s_node (cols : Cols) (n : NodeD) (k : List ValueD) (hn : alF n = 0) (hl : (k.length : Int) = n.Kids) (hk : ∀ v ∈ k, WholeP.In64 v.N) :
    CallS Tryd.prog 34 [.agg [.mp FK], nV n, slV 3 ValueD.c k] [(FK, .mp (vmap cols))] [] (.tup [vV (nodV (vget cols) n k).1, pInt .i64 (nodV (vget cols) n k).2]) [] := by
  obtain ⟨h1, h2, h3, h4, h5, h6⟩ := alF_kids hn
  refine callS_of Tryd.func34 (by rfl) rfl (by kernel_rfl) (by rfl) [FK] rfl ?_
  unfold nodV
  by_cases g1 : n.Op = 1
  · rw [if_pos g1]
    ((conv => whnf); repeat' ((first | (with_reducible first | apply a_ | apply b_ | apply c_) | ((with_reducible first | apply d_ | apply e_ | apply f_ | apply g_); focus first | omega | (simp only [q_] <;> omega)) | ((with_reducible first | apply i_ | apply h_); focus first | omega | (simp only [q_] <;> omega)) | ((with_reducible apply h_); focus first | decide | kernel_rfl) | refine BCase.t (by decide) ?_ | refine BCase.f (by decide) ?_ | with_reducible first | apply l_ | apply m_ | apply n_ | apply o_ | refine p_ (fun _ => ?_) (fun _ => ?_)) <;> (conv => whnf)))
    refine RetS.mk [(FK, FK)] [FK] rfl rfl (ple_ve rfl rfl) ⟨⟨rfl, rfl⟩, trivial⟩
  rw [if_neg g1]
  by_cases g2 : n.Op = 2
  · rw [if_pos g2]
    ((conv => whnf); repeat' ((first | (with_reducible first | apply a_ | apply b_ | apply c_) | ((with_reducible first | apply d_ | apply e_ | apply f_ | apply g_); focus first | omega | (simp only [q_] <;> omega)) | ((with_reducible first | apply i_ | apply h_); focus first | omega | (simp only [q_] <;> omega)) | ((with_reducible apply h_); focus first | decide | kernel_rfl) | refine BCase.t (by decide) ?_ | refine BCase.f (by decide) ?_ | with_reducible first | apply l_ | apply m_ | apply n_ | apply o_ | refine p_ (fun _ => ?_) (fun _ => ?_)) <;> (conv => whnf)))
    refine Need.mk ⟨rfl, vmap_plain cols⟩ ?_
    ((conv => whnf); repeat' ((first | (with_reducible first | apply a_ | apply b_ | apply c_) | ((with_reducible first | apply d_ | apply e_ | apply f_ | apply g_); focus first | omega | (simp only [q_] <;> omega)) | ((with_reducible first | apply i_ | apply h_); focus first | omega | (simp only [q_] <;> omega)) | ((with_reducible apply h_); focus first | decide | kernel_rfl) | refine BCase.t (by decide) ?_ | refine BCase.f (by decide) ?_ | with_reducible first | apply l_ | apply m_ | apply n_ | apply o_ | refine p_ (fun _ => ?_) (fun _ => ?_)) <;> (conv => whnf)))
    refine ⟨fun v hv => ?_, fun hv => ?_⟩
    · rw [mpGet_vmap] at hv
      cases hg : vget cols n.Name with
      | none => rw [hg] at hv; cases hv
      | some x =>
        rw [hg] at hv
        obtain rfl : v = vAgg x := (Option.some.inj hv).symm
        ((conv => whnf); repeat' ((first | (with_reducible first | apply a_ | apply b_ | apply c_) | ((with_reducible first | apply d_ | apply e_ | apply f_ | apply g_); focus first | omega | (simp only [q_] <;> omega)) | ((with_reducible first | apply i_ | apply h_); focus first | omega | (simp only [q_] <;> omega)) | ((with_reducible apply h_); focus first | decide | kernel_rfl) | refine BCase.t (by decide) ?_ | refine BCase.f (by decide) ?_ | with_reducible first | apply l_ | apply m_ | apply n_ | apply o_ | refine p_ (fun _ => ?_) (fun _ => ?_)) <;> (conv => whnf)))
        refine RetS.mk [(FK, FK)] [FK] rfl rfl (ple_ve (b := x) rfl rfl) ⟨⟨rfl, rfl⟩, trivial⟩
    · rw [mpGet_vmap] at hv
      cases hg : vget cols n.Name with
      | some x => rw [hg] at hv; cases hv
      | none =>
        ((conv => whnf); repeat' ((first | (with_reducible first | apply a_ | apply b_ | apply c_) | ((with_reducible first | apply d_ | apply e_ | apply f_ | apply g_); focus first | omega | (simp only [q_] <;> omega)) | ((with_reducible first | apply i_ | apply h_); focus first | omega | (simp only [q_] <;> omega)) | ((with_reducible apply h_); focus first | decide | kernel_rfl) | refine BCase.t (by decide) ?_ | refine BCase.f (by decide) ?_ | with_reducible first | apply l_ | apply m_ | apply n_ | apply o_ | refine p_ (fun _ => ?_) (fun _ => ?_)) <;> (conv => whnf)))
        refine RetS.mk [(FK, FK)] [FK] rfl rfl (ple_ve (b := noV) rfl rfl) ⟨⟨rfl, rfl⟩, trivial⟩
  rw [if_neg g2]
  by_cases g3 : n.Op = 3 ∨ (5 ≤ n.Op ∧ n.Op ≤ 9)
  · rw [if_pos g3]
    have l0 : 0 < k.length := by
      have : leastK n.Op = 1 ∨ leastK n.Op = 2 := by unfold leastK; (repeat' split) <;> omega
      omega
    have pr := p_reckon n.Op g3 k l0 (by omega) hk
    ((conv => whnf); repeat' ((first | (with_reducible first | apply a_ | apply b_ | apply c_) | ((with_reducible first | apply d_ | apply e_ | apply f_ | apply g_); focus first | omega | (simp only [q_] <;> omega)) | ((with_reducible first | apply i_ | apply h_); focus first | omega | (simp only [q_] <;> omega)) | ((with_reducible apply h_); focus first | decide | kernel_rfl) | refine BCase.t (by decide) ?_ | refine BCase.f (by decide) ?_ | refine CallP.pure _ rfl _ (pr) ?_ | with_reducible first | apply l_ | apply m_ | apply n_ | apply o_ | refine p_ (fun _ => ?_) (fun _ => ?_)) <;> (conv => whnf)))
    all_goals exact RetS.mk [(FK, FK)] [FK] rfl rfl (ple_ve rfl rfl) ⟨⟨rfl, rfl⟩, trivial⟩
  rw [if_neg g3]
  have pn := p_negated n.Op
  have pc := p_counter n.Op
  have cases_ : n.Op = 4 ∨ n.Op = 10 ∨ n.Op = 11 ∨ n.Op = 12 ∨ n.Op = 13 ∨ n.Op = 14 ∨ n.Op = 15 ∨ n.Op = 16 ∨ n.Op = 17 ∨ n.Op = 18 ∨ n.Op = 19 ∨ n.Op = 20 ∨ n.Op = 21 ∨ n.Op = 22 ∨ n.Op = 23 ∨ n.Op = 24 ∨ n.Op = 25 := by omega
  obtain ⟨op, hop⟩ : ∃ op, op = if negB n.Op then couF n.Op else n.Op := ⟨_, rfl⟩
  have hask : leastK op = leastK n.Op ∧ mostK op = mostK n.Op ∧ (op = 4 ∨ op = 10 ∨ op = 12 ∨ op = 14 ∨ op = 16 ∨ op = 17 ∨ op = 18 ∨ op = 20 ∨ op = 22 ∨ op = 24) := by
    rw [hop]
    rcases cases_ with e | e | e | e | e | e | e | e | e | e | e | e | e | e | e | e | e <;> rw [e] <;> decide
  have pa := p_ask op k (by rw [hask.1]; omega) (by rw [hask.2.1]; omega) hask.2.2
  rw [← hop]
  have pt := p_lnot (askV op k).1
  cases hb : negB n.Op with
  | true =>
    rw [hb, if_pos rfl] at hop
    rw [← hop] at pc
    rw [hb] at pn
    have pv := p_told (tNot (askV op k).1)
    by_cases he : (askV op k).2 = 0
    · rw [if_neg (by rw [he]; decide)]
      ((conv => whnf); repeat' ((first | (with_reducible first | apply a_ | apply b_ | apply c_) | ((with_reducible first | apply d_ | apply e_ | apply f_ | apply g_); focus first | omega | (simp only [q_] <;> omega)) | ((with_reducible first | apply i_ | apply h_); focus first | omega | (simp only [q_] <;> omega)) | ((with_reducible apply h_); focus first | decide | kernel_rfl) | refine BCase.t (by decide) ?_ | refine BCase.f (by decide) ?_ | refine CallP.pure _ rfl _ (pn) ?_ | refine CallP.pure _ rfl _ (pc) ?_ | refine CallP.pure _ rfl _ (pa) ?_ | refine CallP.pure _ rfl _ (pt) ?_ | refine CallP.pure _ rfl _ (pv) ?_ | with_reducible first | apply l_ | apply m_ | apply n_ | apply o_ | refine p_ (fun _ => ?_) (fun _ => ?_)) <;> (conv => whnf)))
      all_goals first | exact RetS.mk [(FK, FK)] [FK] rfl rfl (ple_ve rfl rfl) ⟨⟨rfl, rfl⟩, trivial⟩ | (exfalso; omega)
    · rw [if_pos he]
      ((conv => whnf); repeat' ((first | (with_reducible first | apply a_ | apply b_ | apply c_) | ((with_reducible first | apply d_ | apply e_ | apply f_ | apply g_); focus first | omega | (simp only [q_] <;> omega)) | ((with_reducible first | apply i_ | apply h_); focus first | omega | (simp only [q_] <;> omega)) | ((with_reducible apply h_); focus first | decide | kernel_rfl) | refine BCase.t (by decide) ?_ | refine BCase.f (by decide) ?_ | refine CallP.pure _ rfl _ (pn) ?_ | refine CallP.pure _ rfl _ (pc) ?_ | refine CallP.pure _ rfl _ (pa) ?_ | refine CallP.pure _ rfl _ (pt) ?_ | refine CallP.pure _ rfl _ (pv) ?_ | with_reducible first | apply l_ | apply m_ | apply n_ | apply o_ | refine p_ (fun _ => ?_) (fun _ => ?_)) <;> (conv => whnf)))
      all_goals first | exact RetS.mk [(FK, FK)] [FK] rfl rfl (ple_ve (b := noV) rfl rfl) ⟨⟨rfl, rfl⟩, trivial⟩ | (exfalso; omega)
  | false =>
    rw [hb, if_neg (by simp)] at hop
    subst hop
    rw [hb] at pn
    have pv := p_told (askV n.Op k).1
    by_cases he : (askV n.Op k).2 = 0
    · rw [if_neg (by rw [he]; decide)]
      ((conv => whnf); repeat' ((first | (with_reducible first | apply a_ | apply b_ | apply c_) | ((with_reducible first | apply d_ | apply e_ | apply f_ | apply g_); focus first | omega | (simp only [q_] <;> omega)) | ((with_reducible first | apply i_ | apply h_); focus first | omega | (simp only [q_] <;> omega)) | ((with_reducible apply h_); focus first | decide | kernel_rfl) | refine BCase.t (by decide) ?_ | refine BCase.f (by decide) ?_ | refine CallP.pure _ rfl _ (pn) ?_ | refine CallP.pure _ rfl _ (pa) ?_ | refine CallP.pure _ rfl _ (pt) ?_ | refine CallP.pure _ rfl _ (pv) ?_ | with_reducible first | apply l_ | apply m_ | apply n_ | apply o_ | refine p_ (fun _ => ?_) (fun _ => ?_)) <;> (conv => whnf)))
      all_goals first | exact RetS.mk [(FK, FK)] [FK] rfl rfl (ple_ve rfl rfl) ⟨⟨rfl, rfl⟩, trivial⟩ | (exfalso; omega)
    · rw [if_pos he]
      ((conv => whnf); repeat' ((first | (with_reducible first | apply a_ | apply b_ | apply c_) | ((with_reducible first | apply d_ | apply e_ | apply f_ | apply g_); focus first | omega | (simp only [q_] <;> omega)) | ((with_reducible first | apply i_ | apply h_); focus first | omega | (simp only [q_] <;> omega)) | ((with_reducible apply h_); focus first | decide | kernel_rfl) | refine BCase.t (by decide) ?_ | refine BCase.f (by decide) ?_ | refine CallP.pure _ rfl _ (pn) ?_ | refine CallP.pure _ rfl _ (pa) ?_ | refine CallP.pure _ rfl _ (pt) ?_ | refine CallP.pure _ rfl _ (pv) ?_ | with_reducible first | apply l_ | apply m_ | apply n_ | apply o_ | refine p_ (fun _ => ?_) (fun _ => ?_)) <;> (conv => whnf)))
      all_goals first | exact RetS.mk [(FK, FK)] [FK] rfl rfl (ple_ve (b := noV) rfl rfl) ⟨⟨rfl, rfl⟩, trivial⟩ | (exfalso; omega)
end Go.Proofs.YtpkifeagopceaaaDoor.Pm
end
section
namespace Go.Proofs.YtpkifeagopceaaaDoor.Pm
open Go.RowKit K
set_option linter.unusedVariables false
set_option linter.unusedSimpArgs false
set_option maxRecDepth 100000
def RV (v : ValueD) : Prop := OkV v ∧ WholeP.In64 v.N
theorem rv_no : RV noV := ⟨noV_ok, by decide⟩
theorem rv_tol (t : Int) : RV (tolV t) := ⟨tolV_ok t, by unfold tolV; (repeat' split) <;> decide⟩
theorem fit_in {n : Int} (h : (WholeP.fit n).2 = 0) : WholeP.In64 (WholeP.fit n).1 := by
  unfold WholeP.fit at h ⊢
  split
  · rename_i q; exact q
  · decide
theorem tmod_in {a b : Int} (ha : WholeP.In64 a) : WholeP.In64 (a.tmod b) := by
  obtain ⟨a1, a2⟩ := ha
  have hn : (a.tmod b).natAbs ≤ a.natAbs := by rw [Int.natAbs_tmod]; exact Nat.mod_le _ _
  by_cases h : 0 ≤ a
  · have := Int.tmod_nonneg b h
    constructor <;> omega
  · have e : a.tmod b = -((-a).tmod b) := by rw [Int.neg_tmod]; simp
    have := Int.tmod_nonneg (a := -a) b (by omega)
    constructor <;> omega
theorem who_in {op a b : Int} (ha : WholeP.In64 a) (h : (whoF op a b).2 = 0) : WholeP.In64 (whoF op a b).1 := by
  unfold whoF at h ⊢
  split
  · rename_i q; rw [if_pos q] at h; exact fit_in h
  · rename_i q; rw [if_neg q] at h
    split
    · rename_i q; rw [if_pos q] at h; exact fit_in h
    · rename_i q; rw [if_neg q] at h
      split
      · rename_i q; rw [if_pos q] at h; exact fit_in h
      · rename_i q; rw [if_neg q] at h
        split
        · rename_i q; rw [if_pos q] at h
          unfold WholeP.quo at h ⊢
          split
          · decide
          · rename_i q; rw [if_neg q] at h; exact fit_in h
        · rename_i q; rw [if_neg q] at h
          split
          · unfold WholeP.rem
            split
            · decide
            · exact tmod_in ha
          · rename_i q; rw [if_neg q] at h; exact fit_in h
theorem rec_rv {op : Int} {k : List ValueD} (hk : ∀ v ∈ k, WholeP.In64 v.N) : RV (recV op k).1 := by
  unfold recV
  split
  · exact rv_no
  · split
    · exact rv_no
    · split
      · exact rv_no
      · rename_i h
        have h : (whoF op (k.headD noV).N (k.getLastD noV).N).2 = 0 := Decidable.of_not_not h
        have ha : WholeP.In64 (k.headD noV).N := by
          cases k with
          | nil => decide
          | cons v k => exact hk v (List.mem_cons_self ..)
        have := who_in ha h
        refine ⟨?_, this⟩
        show vChk _ = 0
        unfold vChk
        rw [if_neg (by show ¬ ((1 : Int) < 0 ∨ (3 : Int) < 1); omega), if_neg (by show ¬ (((1 : Int) ≠ 1 ∧ _) ∨ ((1 : Int) < 2 ∧ ([] : List UInt8).length ≠ 0)); simp), if_neg (by show ¬ 16 < ([] : List UInt8).length; simp)]
theorem alF_lit {n : NodeD} (h : alF n = 0) (h1 : n.Op = 1) : OkV n.V ∧ 0 ≤ n.V.N := by
  unfold alF at h
  split at h
  · cases h
  · split at h
    · cases h
    · split at h
      · rename_i q; exact absurd h q
      · rename_i q
        have q : vChk n.V = 0 := Decidable.of_not_not q
        split at h
        · cases h
        · exact ⟨q, by omega⟩
def LookOk (look : Look) : Prop := ∀ s v, look s = some v → RV v
theorem nod_rv {look : Look} (hL : LookOk look) {n : NodeD} {k : List ValueD} (hn : alF n = 0) (hv : WholeP.In64 n.V.N) (hk : ∀ v ∈ k, WholeP.In64 v.N) : RV (nodV look n k).1 := by
  unfold nodV
  by_cases g1 : n.Op = 1
  · rw [if_pos g1]; exact ⟨(alF_lit hn g1).1, hv⟩
  rw [if_neg g1]
  by_cases g2 : n.Op = 2
  · rw [if_pos g2]
    cases hq : look n.Name with
    | none => exact rv_no
    | some v => exact hL _ _ hq
  rw [if_neg g2]
  by_cases g3 : n.Op = 3 ∨ (5 ≤ n.Op ∧ n.Op ≤ 9)
  · rw [if_pos g3]; exact rec_rv hk
  rw [if_neg g3]
  by_cases g4 : (askV (if negB n.Op then couF n.Op else n.Op) k).2 ≠ 0
  · rw [if_pos g4]; exact rv_no
  · rw [if_neg g4]; exact rv_tol _
noncomputable def nodF (look : Look) (n : NodeD) (k : List ValueD) : Except Int ValueD := if (nodV look n k).2 = 0 then .ok (nodV look n k).1 else .error (nodV look n k).2
def eVal (r : Except Int ValueD) : PV := match r with
  | .ok v => .tup [vV v, pInt .i64 0]
  | .error x => .tup [vV noV, pInt .i64 x]
end Go.Proofs.YtpkifeagopceaaaDoor.Pm
end
section
namespace Go.Proofs.YtpkifeagopceaaaDoor.Pm
open Go.RowKit
set_option linter.unusedVariables false
set_option linter.unusedSimpArgs false
theorem pure_sl0 {P : Program} {f : FuncId} {sz : Nat} {post : List PV} {r : PV} (h1 : Pure P f (.d (.c (.v (.slice none 0 0))) :: post) r) (h2 : ∀ a cap, Pure P f (.d (.c (.v (.slice (some a) 0 cap))) :: post) r) : Pure P f (.d (.c (.sl sz [])) :: post) r := by
  refine ⟨h1.1, fun F w vs hG hF hp => ?_⟩
  cases vs with
  | nil => unfold PsRep at hp; exact hp.elim
  | cons u us =>
    unfold PsRep at hp
    obtain ⟨q1, q2⟩ := hp
    unfold PRep DRep CRep at q1
    obtain ⟨a, cap, rfl, _, _, g3, _⟩ := q1
    have mk : ∀ x, Pure P f (.d (.c (.v x)) :: post) r → x.oneCell' = true → .slice a ([] : List (List C)).length cap = x → Calls P f (.slice a ([] : List (List C)).length cap :: us).toArray w fun e w' => ∃ v, e = .returned v ∧ Below w.heap.size w w' ∧ PRep (fun _ => none) (fun b o => F b o ∨ (w.heap.size ≤ b ∧ b < w'.heap.size)) w' r v := by
      rintro x hx h1 rfl
      refine hx.2 F w _ hG hF ?_
      unfold PsRep
      exact ⟨by unfold PRep DRep CRep; exact ⟨rfl, h1⟩, q2⟩
    cases a with
    | none => obtain rfl := g3 rfl; exact mk _ h1 rfl rfl
    | some a => exact mk _ (h2 a cap) rfl rfl
theorem Pure.empty1 {P : Program} {f : FuncId} {k e sz lo : Nat} {r : PV} {rd : Rf} (hp : Pure P f [.d (.c (.sl sz []))] r) : CallS P f [.d (.arr k e sz lo 0)] rd [] r [] := by
  refine ⟨hp.1, fun c vs hc hdf hfr hs hx => ?_⟩
  rw [List.append_nil] at hs hx ⊢
  have hx' : PsRep (fun _ => none) (fz c c.σ0 (hpL rd) c.w0) c.w0 [.d (.c (.sl sz []))] vs := by
    match vs, hx with
    | [u], hx =>
      unfold PsRep at hx ⊢
      refine ⟨?_, by unfold PsRep; trivial⟩
      have h1 := hx.1
      unfold PRep DRep at h1
      have mk : ∀ (a : Option Addr) (cap : Nat), (a = none → cap = 0) → cap ≤ maxLen → u = .slice a 0 cap → PRep (fun _ => none) (fz c c.σ0 (hpL rd) c.w0) c.w0 (.d (.c (.sl sz []))) u := by
        rintro a cap h2 h3 rfl
        unfold PRep DRep CRep
        exact ⟨a, cap, rfl, Nat.zero_le _, h3, h2, .inl rfl⟩
      obtain ⟨_, ⟨m, d1, _, b0, rfl⟩ | ⟨g, m, off, cap, cur, fr, d1, rfl, d3, d4, d5, d6, d7⟩⟩ := h1
      · exact mk b0 0 (fun _ => rfl) (Nat.zero_le _) rfl
      · exact mk _ cap (fun e => by cases e) d4 rfl
    | [], hx => unfold PsRep at hx; exact hx.elim
    | _ :: _ :: _, hx => unfold PsRep PsRep at hx; exact hx.2.elim
  refine (hp.2 (fz c c.σ0 (hpL rd) c.w0) c.w0 vs (sw_gl hc hs) (fun b o h => fz_lt hs h) hx').mono ?_
  rintro en w' ⟨v, rfl, hb, hr⟩
  have ev := evo_below hs hb
  refine ⟨v, c.σ0, rfl, sw_below hs hb, PRep.of_none ⟨fun b o' hf => ?_, fun _ _ _ => rfl⟩ _ _ hr⟩
  rcases hf with hf | ⟨f1, f2⟩
  · exact ev.keeps.le _ _ hf
  · refine .inr ⟨.inl (Nat.le_trans hs.size f1), f2, fun k n hb' hk' hσ => ?_⟩
    have := (hb_block (hs.hp k hb' hk') hσ).1
    omega
end Go.Proofs.YtpkifeagopceaaaDoor.Pm
end
section
namespace Go.Proofs.YtpkifeagopceaaaDoor.Pm
open Go.RowKit K
set_option linter.unusedVariables false
set_option linter.unusedSimpArgs false
set_option maxRecDepth 100000
theorem p_clonev (l : List ValueD) (h : l.length ≤ 1000000) : Pure Tryd.prog 42 [slV 3 ValueD.c l] (slV 3 ValueD.c l) := by
  cases l with
  | nil =>
    refine pure_sl0 ?_ fun a cap => ?_
    · refine pure_of Tryd.func42 (by rfl) rfl (by kernel_rfl) (by rfl) ?_
      ((conv => whnf); repeat' ((first | (with_reducible first | apply a_ | apply b_ | apply c_) | ((with_reducible first | apply d_ | apply e_ | apply f_ | apply g_); focus first | omega | (simp only [q_] <;> omega)) | ((with_reducible first | apply i_ | apply h_); focus first | omega | (simp only [q_] <;> omega)) | ((with_reducible apply h_); focus first | decide | kernel_rfl) | refine BCase.t (by decide) ?_ | refine BCase.f (by decide) ?_ | with_reducible first | apply l_ | apply m_ | apply n_ | apply o_ | refine p_ (fun _ => ?_) (fun _ => ?_)) <;> (conv => whnf)))
      exact Ret.le (.inr ⟨⟨3, rfl⟩, .inl rfl⟩)
    · refine pure_of Tryd.func42 (by rfl) rfl (by kernel_rfl) (by rfl) ?_
      ((conv => whnf); repeat' ((first | (with_reducible first | apply a_ | apply b_ | apply c_) | ((with_reducible first | apply d_ | apply e_ | apply f_ | apply g_); focus first | omega | (simp only [q_] <;> omega)) | ((with_reducible first | apply i_ | apply h_); focus first | omega | (simp only [q_] <;> omega)) | ((with_reducible apply h_); focus first | decide | kernel_rfl) | refine BCase.t (by decide) ?_ | refine BCase.f (by decide) ?_ | with_reducible first | apply l_ | apply m_ | apply n_ | apply o_ | refine p_ (fun _ => ?_) (fun _ => ?_)) <;> (conv => whnf)))
      exact Ret.mk rfl
  | cons x l =>
    refine pure_of Tryd.func42 (by rfl) rfl (by kernel_rfl) (by rfl) ?_
    ((conv => whnf); repeat' ((first | (with_reducible first | apply a_ | apply b_ | apply c_) | ((with_reducible first | apply d_ | apply e_ | apply f_ | apply g_); focus first | omega | (simp only [q_] <;> omega)) | ((with_reducible first | apply i_ | apply h_); focus first | omega | (simp only [q_] <;> omega)) | ((with_reducible apply h_); focus first | decide | kernel_rfl) | refine BCase.t (by decide) ?_ | refine BCase.f (by decide) ?_ | (refine Need.mk (List.cons_ne_nil _ _) ?_) | (refine Need.by 32 rfl (by simp only [List.length_map, List.length_nil, Nat.zero_add]; omega) ?_) | with_reducible first | apply l_ | apply m_ | apply n_ | apply o_ | refine p_ (fun _ => ?_) (fun _ => ?_)) <;> (conv => whnf)))
    exact Ret.mk rfl
theorem s_clonev (l : List ValueD) (lo n : Nat) (h : lo + n ≤ l.length) (hn : n ≠ 0) (hz : l.length ≤ 1000000) : CallS Tryd.prog 42 [.d (.arr FK 26 3 lo n)] [(FK, .arr 26 3 (l.map ValueD.c))] [] (slV 3 ValueD.c ((l.drop lo).take n)) [] := by
  refine callS_of Tryd.func42 (by rfl) rfl (by kernel_rfl) (by rfl) [FK] rfl ?_
  ((conv => whnf); repeat' ((first | (with_reducible first | apply a_ | apply b_ | apply c_) | ((with_reducible first | apply d_ | apply e_ | apply f_ | apply g_); focus first | omega | (simp only [q_] <;> omega)) | ((with_reducible first | apply i_ | apply h_); focus first | omega | (simp only [q_] <;> omega)) | ((with_reducible apply h_); focus first | decide | kernel_rfl) | refine BCase.t (by decide) ?_ | refine BCase.f (by decide) ?_ | (refine Need.mk hn ?_) | (refine Need.mk (by rw [List.length_map]; exact h) ?_) | (refine Need.by 32 rfl (by simp only [List.length_nil, Nat.zero_add]; omega) ?_) | with_reducible first | apply l_ | apply m_ | apply n_ | apply o_ | refine p_ (fun _ => ?_) (fun _ => ?_)) <;> (conv => whnf)))
  refine RetS.mk [(FK, FK)] [FK] rfl rfl ?_ ?_
  · show C.sl 3 _ = C.sl 3 _
    rw [List.map_take, List.map_drop]; rfl
  · exact ⟨⟨rfl, rfl, rfl, rfl⟩, trivial⟩
theorem s_lastv (st : List ValueD) (K : Int) (h0 : 0 ≤ K) (h1 : K ≤ st.length) (hz : st.length ≤ 1000000) : CallS Tryd.prog 42 [.d (.arr FK 26 3 (0 + ((st.length : Int) - K).toNat) (((st.length : Nat) : Int).toNat - ((st.length : Int) - K).toNat))] [(FK, .arr 26 3 (st.map ValueD.c))] [] (slV 3 ValueD.c (st.drop (st.length - K.toNat))) [] := by
  have e1 : 0 + ((st.length : Int) - K).toNat = st.length - K.toNat := by omega
  have e2 : ((st.length : Nat) : Int).toNat - ((st.length : Int) - K).toNat = K.toNat := by omega
  rw [e1, e2]
  by_cases k0 : K = 0
  · subst k0
    rw [show st.drop (st.length - (0 : Int).toNat) = [] from List.drop_of_length_le (by simp)]
    exact (p_clonev [] (by simp)).empty1
  · have := s_clonev st (st.length - K.toNat) K.toNat (by omega) (by omega) hz
    rwa [List.take_of_length_le (by rw [List.length_drop]; omega)] at this
abbrev vZ : List D := [.c (.v (.int .i64 0)), .c (.v (.int .i64 0)), .c (.v (.string .empty))]
def wvE (l : List NodeD) (j : Nat) (st : List ValueD) : List (Nat × PV) := [(1, .d (.mclo 34 [.mp FK])), (4, .d (.ptr 4 0)), (6, .d (.ptr 6 0)), (7, .d (.arr 60 26 3 0 st.length)), (13, slV 6 NodeD.c l), (14, pInt .i64 l.length), (15, pInt .i64 j)]
theorem s_walkv (cols : Cols) (hL : LookOk (vget cols)) (l : List NodeD) (hl : l.length ≤ 1000) (hn : ∀ n ∈ l, alF n = 0 ∧ WholeP.In64 n.V.N) : CallS Tryd.prog 32 [slV 6 NodeD.c l, .d (.mclo 34 [.mp FK])] [(FK, .mp (vmap cols))] [] (eVal (walkR (nodF (vget cols)) l)) [] := by
  refine callS_of Tryd.func32 (by rfl) rfl (by kernel_rfl) (by rfl) [FK] rfl ?_
  ((conv => whnf); repeat' ((first | (with_reducible first | apply a_ | apply b_ | apply c_) | ((with_reducible first | apply d_ | apply e_ | apply f_ | apply g_); focus first | omega | (simp only [q_] <;> omega)) | ((with_reducible first | apply i_ | apply h_); focus first | omega | (simp only [q_] <;> omega)) | ((with_reducible apply h_); focus first | decide | kernel_rfl) | refine BCase.t (by decide) ?_ | refine BCase.f (by decide) ?_ | with_reducible first | apply l_ | apply m_ | apply n_ | apply o_ | refine p_ (fun _ => ?_) (fun _ => ?_)) <;> (conv => whnf)))
  refine LoopC.mk (Nat × List ValueD) (fun s => wvE l s.1 s.2) (fun s => [(FK, .mp (vmap cols)), (4, .box 26 vZ), (6, .box 26 vZ), (60, .arr 26 3 (s.2.map ValueD.c))]) [FK, 4, 6, 60] (fun s => s.1 ≤ l.length ∧ s.2.length ≤ s.1 ∧ (∀ x ∈ s.2, WholeP.In64 x.N) ∧ walkG (nodF (vget cols)) [] l = walkG (nodF (vget cols)) s.2 (l.drop s.1)) (fun s => l.length - s.1) (0, []) ⟨Nat.zero_le _, Nat.zero_le _, by simp, rfl⟩ ?start ?round
  case start => exact ⟨[(FK, FK), (4, 4), (6, 6)], rfl, rfl, ⟨⟨rfl, ⟨rfl, rfl⟩, rfl⟩, ⟨rfl, rfl, rfl⟩, ⟨rfl, rfl, rfl⟩, ⟨rfl, rfl, Nat.zero_lt_succ _, rfl, rfl⟩, .inl rfl, PLe.int (by simp), .inl rfl, trivial⟩, ⟨rfl, rfl⟩, ⟨rfl, rfl, ⟨.inl rfl, .inl rfl, .inl rfl, rfl⟩⟩, ⟨rfl, rfl, ⟨.inl rfl, .inl rfl, .inl rfl, rfl⟩⟩, ⟨rfl, Nat.zero_lt_succ _, rfl⟩, trivial⟩
  case round =>
    rintro ⟨j, st⟩ ⟨hj, i1, i2, i3⟩
    have hj : j ≤ l.length := hj
    have i1 : st.length ≤ j := i1
    have i2 : ∀ x ∈ st, WholeP.In64 x.N := i2
    have i3 : walkG (nodF (vget cols)) [] l = walkG (nodF (vget cols)) st (l.drop j) := i3
    by_cases q : j < l.length
    · rw [List.drop_eq_getElem_cons q, walkG_cons] at i3
      have hm := hn _ (List.getElem_mem q)
      have hkk := alF_kids hm.1
      by_cases g : l[j].Kids < 0 ∨ (st.length : Int) < l[j].Kids
      · rw [if_pos g] at i3
        have hw : walkR (nodF (vget cols)) l = .error 1 := by unfold walkR; rw [i3]
        rw [hw]
        ((conv => whnf); repeat' ((first | (with_reducible first | apply a_ | apply b_ | apply c_) | ((with_reducible first | apply d_ | apply e_ | apply f_ | apply g_); focus first | omega | (simp only [q_] <;> omega)) | ((with_reducible first | apply i_ | apply h_); focus first | omega | (simp only [q_] <;> omega)) | ((with_reducible apply h_); focus first | decide | kernel_rfl) | refine BCase.t (by decide) ?_ | refine BCase.f (by decide) ?_ | (refine Idx.mapI j rfl q ?_) | with_reducible first | apply l_ | apply m_ | apply n_ | apply o_ | refine p_ (fun _ => ?_) (fun _ => ?_)) <;> (conv => whnf)))
        all_goals exact RetS.mk [(FK, FK)] [FK] rfl rfl (ple_ve (b := noV) rfl rfl) ⟨⟨rfl, rfl⟩, trivial⟩
      · rw [if_neg g] at i3
        have g1 : ¬ l[j].Kids < 0 := fun q => g (.inl q)
        have g2 : ¬ (st.length : Int) < l[j].Kids := fun q => g (.inr q)
        have pc := s_lastv st l[j].Kids (by omega) (by omega) (by omega)
        obtain ⟨ks, hks⟩ : ∃ ks, ks = st.drop (st.length - l[j].Kids.toNat) := ⟨_, rfl⟩
        have hkl : (ks.length : Int) = l[j].Kids := by rw [hks, List.length_drop]; omega
        have hin : ∀ x ∈ ks, WholeP.In64 x.N := fun x hx => i2 x (List.mem_of_mem_drop (by rw [hks] at hx; exact hx))
        rw [← hks] at pc i3
        have pd := s_node cols l[j] ks hm.1 hkl hin
        have hrv := nod_rv hL hm.1 hm.2 hin
        by_cases he : (nodV (vget cols) l[j] ks).2 = 0
        · rw [show nodF (vget cols) l[j] ks = .ok (nodV (vget cols) l[j] ks).1 from if_pos he] at i3
          rw [he] at pd
          ((conv => whnf); repeat' ((first | (with_reducible first | apply a_ | apply b_ | apply c_) | ((with_reducible first | apply d_ | apply e_ | apply f_ | apply g_); focus first | omega | (simp only [q_] <;> omega)) | ((with_reducible first | apply i_ | apply h_); focus first | omega | (simp only [q_] <;> omega)) | ((with_reducible apply h_); focus first | decide | kernel_rfl) | refine BCase.t (by decide) ?_ | refine BCase.f (by decide) ?_ | (refine Idx.mapI j rfl q ?_) | (refine CallP.ret [(FK, 60)] _ _ _ _ _ _ _ pc rfl rfl rfl rfl ⟨rfl, trivial⟩ ?_) | (refine CallP.ret [(FK, FK)] _ _ _ _ _ _ _ pd rfl rfl rfl rfl ⟨rfl, trivial⟩ ?_) | (refine Need.by 32 rfl (by simp only [List.length_singleton]; omega) ?_) | with_reducible first | apply l_ | apply m_ | apply n_ | apply o_ | refine p_ (fun _ => ?_) (fun _ => ?_)) <;> (conv => whnf)))
          refine ⟨(j + 1, st.take (st.length - l[j].Kids.toNat) ++ [(nodV (vget cols) l[j] ks).1]), ⟨by show j + 1 ≤ _; omega, ?_, ?_, i3⟩, by show l.length - (j + 1) < l.length - j; omega, [(FK, FK), (4, 4), (6, 6), (60, 54)], rfl, rfl, ⟨⟨rfl, ⟨rfl, rfl⟩, rfl⟩, ⟨rfl, rfl, rfl⟩, ⟨rfl, rfl, rfl⟩, ⟨rfl, rfl, rfl, rfl, rfl, ?_⟩, .inl rfl, .inl rfl, PLe.int rfl, trivial⟩, ⟨rfl, rfl⟩, ⟨rfl, rfl, ⟨.inl rfl, .inl rfl, .inl rfl, rfl⟩⟩, ⟨rfl, rfl, ⟨.inl rfl, .inl rfl, .inl rfl, rfl⟩⟩, ⟨rfl, rfl, rfl, ?_⟩, trivial⟩
          · show (st.take _ ++ [_]).length ≤ j + 1
            rw [List.length_append, List.length_take, List.length_singleton]; omega
          · intro x hx
            rcases List.mem_append.1 hx with hx | hx
            · exact i2 x (List.mem_of_mem_take hx)
            · rw [List.mem_singleton.1 hx]; exact hrv.2
          · show _ = (st.take _ ++ [_]).length
            rw [List.length_append, List.length_take, List.length_singleton]; simp only [List.length_singleton]; omega
          · show _ = (st.take _ ++ [_]).map ValueD.c
            rw [List.map_append, List.map_take]
            have e1 : ((st.length : Int) - l[j].Kids).toNat = st.length - l[j].Kids.toNat := by omega
            show (st.map ValueD.c).take ((st.length : Int) - l[j].Kids).toNat ++ _ = _
            rw [e1]; rfl
        · rw [show nodF (vget cols) l[j] ks = .error (nodV (vget cols) l[j] ks).2 from if_neg he] at i3
          have hw : walkR (nodF (vget cols)) l = .error (nodV (vget cols) l[j] ks).2 := by unfold walkR; rw [i3]
          rw [hw]
          ((conv => whnf); repeat' ((first | (with_reducible first | apply a_ | apply b_ | apply c_) | ((with_reducible first | apply d_ | apply e_ | apply f_ | apply g_); focus first | omega | (simp only [q_] <;> omega)) | ((with_reducible first | apply i_ | apply h_); focus first | omega | (simp only [q_] <;> omega)) | ((with_reducible apply h_); focus first | decide | kernel_rfl) | refine BCase.t (by decide) ?_ | refine BCase.f (by decide) ?_ | (refine Idx.mapI j rfl q ?_) | (refine CallP.ret [(FK, 60)] _ _ _ _ _ _ _ pc rfl rfl rfl rfl ⟨rfl, trivial⟩ ?_) | (refine CallP.ret [(FK, FK)] _ _ _ _ _ _ _ pd rfl rfl rfl rfl ⟨rfl, trivial⟩ ?_) | with_reducible first | apply l_ | apply m_ | apply n_ | apply o_ | refine p_ (fun _ => ?_) (fun _ => ?_)) <;> (conv => whnf)))
          all_goals exact RetS.mk [(FK, FK)] [FK] rfl rfl (ple_ve (b := noV) rfl rfl) ⟨⟨rfl, rfl⟩, trivial⟩
    · rw [List.drop_of_length_le (by omega)] at i3
      have i3 : walkG (nodF (vget cols)) [] l = .ok st := i3
      rcases st with _ | ⟨x, _ | ⟨y, r⟩⟩
      · have hw : walkR (nodF (vget cols)) l = .error 1 := by unfold walkR; rw [i3]
        rw [hw]
        ((conv => whnf); repeat' ((first | (with_reducible first | apply a_ | apply b_ | apply c_) | ((with_reducible first | apply d_ | apply e_ | apply f_ | apply g_); focus first | omega | (simp only [q_] <;> omega)) | ((with_reducible first | apply i_ | apply h_); focus first | omega | (simp only [q_] <;> omega)) | ((with_reducible apply h_); focus first | decide | kernel_rfl) | refine BCase.t (by decide) ?_ | refine BCase.f (by decide) ?_ | with_reducible first | apply l_ | apply m_ | apply n_ | apply o_ | refine p_ (fun _ => ?_) (fun _ => ?_)) <;> (conv => whnf)))
        all_goals exact RetS.mk [(FK, FK)] [FK] rfl rfl (ple_ve (b := noV) rfl rfl) ⟨⟨rfl, rfl⟩, trivial⟩
      · have hw : walkR (nodF (vget cols)) l = .ok x := by unfold walkR; rw [i3]
        rw [hw]
        ((conv => whnf); repeat' ((first | (with_reducible first | apply a_ | apply b_ | apply c_) | ((with_reducible first | apply d_ | apply e_ | apply f_ | apply g_); focus first | omega | (simp only [q_] <;> omega)) | ((with_reducible first | apply i_ | apply h_); focus first | omega | (simp only [q_] <;> omega)) | ((with_reducible apply h_); focus first | decide | kernel_rfl) | refine BCase.t (by decide) ?_ | refine BCase.f (by decide) ?_ | with_reducible first | apply l_ | apply m_ | apply n_ | apply o_ | refine p_ (fun _ => ?_) (fun _ => ?_)) <;> (conv => whnf)))
        refine Row.mk _ rfl ?_
        ((conv => whnf); repeat' ((first | (with_reducible first | apply a_ | apply b_ | apply c_) | ((with_reducible first | apply d_ | apply e_ | apply f_ | apply g_); focus first | omega | (simp only [q_] <;> omega)) | ((with_reducible first | apply i_ | apply h_); focus first | omega | (simp only [q_] <;> omega)) | ((with_reducible apply h_); focus first | decide | kernel_rfl) | refine BCase.t (by decide) ?_ | refine BCase.f (by decide) ?_ | with_reducible first | apply l_ | apply m_ | apply n_ | apply o_ | refine p_ (fun _ => ?_) (fun _ => ?_)) <;> (conv => whnf)))
        all_goals exact RetS.mk [(FK, FK)] [FK] rfl rfl (ple_ve (b := x) rfl rfl) ⟨⟨rfl, rfl⟩, trivial⟩
      · have hw : walkR (nodF (vget cols)) l = .error 1 := by unfold walkR; rw [i3]
        rw [hw]
        ((conv => whnf); repeat' ((first | (with_reducible first | apply a_ | apply b_ | apply c_) | ((with_reducible first | apply d_ | apply e_ | apply f_ | apply g_); focus first | omega | (simp only [q_] <;> omega)) | ((with_reducible first | apply i_ | apply h_); focus first | omega | (simp only [q_] <;> omega)) | ((with_reducible apply h_); focus first | decide | kernel_rfl) | refine BCase.t (by decide) ?_ | refine BCase.f (by decide) ?_ | with_reducible first | apply l_ | apply m_ | apply n_ | apply o_ | refine p_ (fun _ => ?_) (fun _ => ?_)) <;> (conv => whnf)))
        all_goals exact RetS.mk [(FK, FK)] [FK] rfl rfl (ple_ve (b := noV) rfl rfl) ⟨⟨rfl, rfl⟩, trivial⟩
end Go.Proofs.YtpkifeagopceaaaDoor.Pm
end
section
namespace Go.Proofs.YtpkifeagopceaaaDoor.Pm
open Go.RowKit K
set_option linter.unusedVariables false
set_option linter.unusedSimpArgs false
set_option maxRecDepth 100000
theorem Idx.lit {l : List (List C)} {n : Int} {r : List C} {K : List C → Prop} (h0 : decide (0 ≤ n) = true) (h : l[n.toNat]? = some r) (hk : K r) : Idx l n K := ⟨r, of_decide_eq_true h0, h, hk⟩
theorem p_span (op : Int) : Pure Tryd.prog 48 [pInt .i64 op] (.tup [pInt .i64 (leastK op), pInt .i64 (mostK op), pBool (decide (1 ≤ op ∧ op ≤ 25))]) := by
  refine pure_of Tryd.func48 (by rfl) rfl (by kernel_rfl) (by rfl) ?_
  by_cases h : 1 ≤ op ∧ op ≤ 25
  · have hc : op = 1 ∨ op = 2 ∨ op = 3 ∨ op = 4 ∨ op = 5 ∨ op = 6 ∨ op = 7 ∨ op = 8 ∨ op = 9 ∨ op = 10 ∨ op = 11 ∨ op = 12 ∨ op = 13 ∨ op = 14 ∨ op = 15 ∨ op = 16 ∨ op = 17 ∨ op = 18 ∨ op = 19 ∨ op = 20 ∨ op = 21 ∨ op = 22 ∨ op = 23 ∨ op = 24 ∨ op = 25 := by omega
    clear h
    rcases hc with rfl | rfl | rfl | rfl | rfl | rfl | rfl | rfl | rfl | rfl | rfl | rfl | rfl | rfl | rfl | rfl | rfl | rfl | rfl | rfl | rfl | rfl | rfl | rfl | rfl
    all_goals
      ((conv => whnf); repeat' ((first | (with_reducible first | apply a_ | apply b_ | apply c_) | ((with_reducible first | apply d_ | apply e_ | apply f_ | apply g_); focus first | omega | (simp only [q_] <;> omega)) | ((with_reducible first | apply i_ | apply h_); focus first | omega | (simp only [q_] <;> omega)) | ((with_reducible apply h_); focus first | decide | kernel_rfl) | refine BCase.t (by decide) ?_ | refine BCase.f (by decide) ?_ | with_reducible first | apply l_ | apply m_ | apply n_ | apply o_ | refine p_ (fun _ => ?_) (fun _ => ?_)) <;> (conv => whnf)))
      exact Ret.eq rfl
  · have e1 : leastK op = 2 := by unfold leastK; rw [if_neg (by omega), if_neg (by omega), if_neg (by omega)]
    have e2 : mostK op = 2 := by unfold mostK; rw [if_neg (by omega), e1]
    rw [e1, e2, decide_eq_false h]
    have h17 : 5 ≤ op → decide (op ≤ 17) = false := fun g => decide_eq_false (by omega)
    ((conv => whnf); repeat' ((first | (with_reducible first | apply a_ | apply b_ | apply c_) | ((with_reducible first | apply d_ | apply e_ | apply f_ | apply g_); focus first | omega | (simp only [q_] <;> omega)) | ((with_reducible first | apply i_ | apply h_); focus first | omega | (simp only [q_] <;> omega)) | ((with_reducible apply h_); focus first | decide | kernel_rfl) | refine BCase.t (by decide) ?_ | refine BCase.f (by decide) ?_ | with_reducible first | apply l_ | apply m_ | apply n_ | apply o_ | refine p_ (fun _ => ?_) (fun _ => ?_)) <;> (conv => whnf)))
    all_goals first
      | exact Ret.eq rfl
      | (rename_i g; exact Ret.eq (by rw [h17 g]))
theorem noV_eq (v : ValueD) : ValueD.eqB v noV = (decide (v.Kind = 0) && (decide (v.N = 0) && (decide (tx v.S = tx []) && true))) := rfl
theorem alF_cases (n : NodeD) :
    (¬ (1 ≤ n.Op ∧ n.Op ≤ 25) ∧ alF n = 7)
    ∨ ((1 ≤ n.Op ∧ n.Op ≤ 25) ∧ (n.Kids < leastK n.Op ∨ mostK n.Op < n.Kids) ∧ alF n = 1)
    ∨ ((1 ≤ n.Op ∧ n.Op ≤ 25) ∧ leastK n.Op ≤ n.Kids ∧ n.Kids ≤ mostK n.Op ∧
      ((n.Op = 1 ∧ n.Name ≠ [] ∧ alF n = 1) ∨ (n.Op = 1 ∧ n.Name = [] ∧ vChk n.V ≠ 0 ∧ alF n = vChk n.V) ∨ (n.Op = 1 ∧ n.Name = [] ∧ vChk n.V = 0 ∧ n.V.N < 0 ∧ alF n = 3) ∨ (n.Op = 1 ∧ n.Name = [] ∧ vChk n.V = 0 ∧ ¬ n.V.N < 0 ∧ alF n = 0)
        ∨ (n.Op ≠ 1 ∧ ValueD.eqB n.V noV = false ∧ alF n = 1)
        ∨ (n.Op = 2 ∧ ValueD.eqB n.V noV = true ∧ nameB n.Name = false ∧ alF n = 1) ∨ (n.Op = 2 ∧ ValueD.eqB n.V noV = true ∧ nameB n.Name = true ∧ alF n = 0)
        ∨ (n.Op ≠ 1 ∧ n.Op ≠ 2 ∧ ValueD.eqB n.V noV = true ∧ n.Name ≠ [] ∧ alF n = 1) ∨ (n.Op ≠ 1 ∧ n.Op ≠ 2 ∧ ValueD.eqB n.V noV = true ∧ n.Name = [] ∧ alF n = 0))) := by
  unfold alF
  by_cases h : 1 ≤ n.Op ∧ n.Op ≤ 25
  · rw [if_neg (by omega)]
    by_cases hk : n.Kids < leastK n.Op ∨ mostK n.Op < n.Kids
    · exact .inr (.inl ⟨h, hk, by rw [if_pos (by rcases hk with q | q; exact .inl q; exact .inr (.inl q))]⟩)
    · refine .inr (.inr ⟨h, by omega, by omega, ?_⟩)
      have k1 : ¬ n.Kids < leastK n.Op := fun q => hk (.inl q)
      have k2 : ¬ mostK n.Op < n.Kids := fun q => hk (.inr q)
      by_cases h1 : n.Op = 1
      · by_cases hN : n.Name = []
        · by_cases hv : vChk n.V = 0
          · by_cases hn : n.V.N < 0
            · refine .inr (.inr (.inl ⟨h1, hN, hv, hn, ?_⟩)); simp [k1, k2, h1, hN, hv, hn]
              rw [h1] at k1 k2; omega
            · refine .inr (.inr (.inr (.inl ⟨h1, hN, hv, hn, ?_⟩))); simp [k1, k2, h1, hN, hv, hn]
              rw [h1] at k1 k2; omega
          · refine .inr (.inl ⟨h1, hN, hv, ?_⟩); simp [k1, k2, h1, hN, hv]
            rw [h1] at k1 k2; intro q; exfalso; omega
        · refine .inl ⟨h1, hN, ?_⟩; simp [h1, hN]
      · cases hV : ValueD.eqB n.V noV with
        | false => refine .inr (.inr (.inr (.inr (.inl ⟨h1, rfl, ?_⟩)))); simp [h1]
        | true =>
          by_cases h2 : n.Op = 2
          · cases hB : nameB n.Name with
            | false => refine .inr (.inr (.inr (.inr (.inr (.inl ⟨h2, rfl, rfl, ?_⟩))))); simp [h2]
            | true =>
              refine .inr (.inr (.inr (.inr (.inr (.inr (.inl ⟨h2, rfl, rfl, ?_⟩)))))); simp [h2]
              rw [h2] at k1 k2; omega
          · by_cases hN : n.Name = []
            · refine .inr (.inr (.inr (.inr (.inr (.inr (.inr (.inr ⟨h1, h2, rfl, hN, ?_⟩))))))); simp [h1, h2, hN, k1, k2]
            · refine .inr (.inr (.inr (.inr (.inr (.inr (.inr (.inl ⟨h1, h2, rfl, hN, ?_⟩))))))); simp [h1, h2, hN]
  · exact .inl ⟨h, by rw [if_pos (by omega)]⟩
theorem p_alone (n : NodeD) (hn : okText n.Name) : Pure Tryd.prog 35 [nV n] (pInt .i64 (alF n)) := by
  have pn := p_isname n.Name hn
  have pv := p_vcheck n.V
  have kk := leastK_pos n.Op
  have tn : n.Name = [] → tx n.Name = ⟨#[]⟩ := fun e => by rw [e]; rfl
  have tn2 : n.Name ≠ [] → ¬ tx n.Name = ⟨#[]⟩ := fun e q => e (tx_mk.1 q)
  refine pure_of Tryd.func35 (by rfl) rfl (by kernel_rfl) (by rfl) ?_
  rcases alF_cases n with ⟨h, e⟩ | ⟨h, hk, e⟩ | ⟨h, k1, k2, ⟨h1, hN, e⟩ | ⟨h1, hN, hv, e⟩ | ⟨h1, hN, hv, hn, e⟩ | ⟨h1, hN, hv, hn, e⟩ | ⟨h1, hV, e⟩ | ⟨h2, hV, hB, e⟩ | ⟨h2, hV, hB, e⟩ | ⟨h1, h2, hV, hN, e⟩ | ⟨h1, h2, hV, hN, e⟩⟩ <;> rw [e]
  · ((conv => whnf); repeat' ((first | (with_reducible first | apply a_ | apply b_ | apply c_) | ((with_reducible first | apply d_ | apply e_ | apply f_ | apply g_); focus first | omega | (simp only [q_] <;> omega)) | ((with_reducible first | apply i_ | apply h_); focus first | omega | (simp only [q_] <;> omega)) | ((with_reducible apply h_); focus first | decide | kernel_rfl) | refine BCase.t (by decide) ?_ | refine BCase.f (by decide) ?_ | refine CallP.pure _ rfl _ (p_span n.Op) ?_ | refine CallP.pure _ rfl _ (pv) ?_ | refine CallP.pure _ rfl _ (pn) ?_ | with_reducible first | apply l_ | apply m_ | apply n_ | apply o_ | refine p_ (fun _ => ?_) (fun _ => ?_)) <;> (conv => whnf)))
    all_goals exact Ret.int rfl
  · ((conv => whnf); repeat' ((first | (with_reducible first | apply a_ | apply b_ | apply c_) | ((with_reducible first | apply d_ | apply e_ | apply f_ | apply g_); focus first | omega | (simp only [q_] <;> omega)) | ((with_reducible first | apply i_ | apply h_); focus first | omega | (simp only [q_] <;> omega)) | ((with_reducible apply h_); focus first | decide | kernel_rfl) | refine BCase.t (by decide) ?_ | refine BCase.f (by decide) ?_ | refine CallP.pure _ rfl _ (p_span n.Op) ?_ | refine CallP.pure _ rfl _ (pv) ?_ | refine CallP.pure _ rfl _ (pn) ?_ | with_reducible first | apply l_ | apply m_ | apply n_ | apply o_ | refine p_ (fun _ => ?_) (fun _ => ?_)) <;> (conv => whnf)))
    all_goals first | exact Ret.int rfl | (exfalso; omega)
  · ((conv => whnf); repeat' ((first | (with_reducible first | apply a_ | apply b_ | apply c_) | ((with_reducible first | apply d_ | apply e_ | apply f_ | apply g_); focus first | omega | (simp only [q_] <;> omega)) | ((with_reducible first | apply i_ | apply h_); focus first | omega | (simp only [q_] <;> omega)) | ((with_reducible apply h_); focus first | decide | kernel_rfl) | refine BCase.t (by decide) ?_ | refine BCase.f (by decide) ?_ | refine CallP.pure _ rfl _ (p_span n.Op) ?_ | refine CallP.pure _ rfl _ (pv) ?_ | refine CallP.pure _ rfl _ (pn) ?_ | (refine BCase.dt (tn2 hN) ?_) | with_reducible first | apply l_ | apply m_ | apply n_ | apply o_ | refine p_ (fun _ => ?_) (fun _ => ?_)) <;> (conv => whnf)))
    all_goals exact Ret.int rfl
  · ((conv => whnf); repeat' ((first | (with_reducible first | apply a_ | apply b_ | apply c_) | ((with_reducible first | apply d_ | apply e_ | apply f_ | apply g_); focus first | omega | (simp only [q_] <;> omega)) | ((with_reducible first | apply i_ | apply h_); focus first | omega | (simp only [q_] <;> omega)) | ((with_reducible apply h_); focus first | decide | kernel_rfl) | refine BCase.t (by decide) ?_ | refine BCase.f (by decide) ?_ | refine CallP.pure _ rfl _ (p_span n.Op) ?_ | refine CallP.pure _ rfl _ (pv) ?_ | refine CallP.pure _ rfl _ (pn) ?_ | (refine BCase.df (not_not_intro (tn hN)) ?_) | (refine BCase.dt hv ?_) | with_reducible first | apply l_ | apply m_ | apply n_ | apply o_ | refine p_ (fun _ => ?_) (fun _ => ?_)) <;> (conv => whnf)))
    all_goals exact Ret.int rfl
  · rw [hv] at pv
    ((conv => whnf); repeat' ((first | (with_reducible first | apply a_ | apply b_ | apply c_) | ((with_reducible first | apply d_ | apply e_ | apply f_ | apply g_); focus first | omega | (simp only [q_] <;> omega)) | ((with_reducible first | apply i_ | apply h_); focus first | omega | (simp only [q_] <;> omega)) | ((with_reducible apply h_); focus first | decide | kernel_rfl) | refine BCase.t (by decide) ?_ | refine BCase.f (by decide) ?_ | refine CallP.pure _ rfl _ (p_span n.Op) ?_ | refine CallP.pure _ rfl _ (pv) ?_ | refine CallP.pure _ rfl _ (pn) ?_ | (refine BCase.df (not_not_intro (tn hN)) ?_) | with_reducible first | apply l_ | apply m_ | apply n_ | apply o_ | refine p_ (fun _ => ?_) (fun _ => ?_)) <;> (conv => whnf)))
    all_goals exact Ret.int rfl
  · rw [hv] at pv
    ((conv => whnf); repeat' ((first | (with_reducible first | apply a_ | apply b_ | apply c_) | ((with_reducible first | apply d_ | apply e_ | apply f_ | apply g_); focus first | omega | (simp only [q_] <;> omega)) | ((with_reducible first | apply i_ | apply h_); focus first | omega | (simp only [q_] <;> omega)) | ((with_reducible apply h_); focus first | decide | kernel_rfl) | refine BCase.t (by decide) ?_ | refine BCase.f (by decide) ?_ | refine CallP.pure _ rfl _ (p_span n.Op) ?_ | refine CallP.pure _ rfl _ (pv) ?_ | refine CallP.pure _ rfl _ (pn) ?_ | (refine BCase.df (not_not_intro (tn hN)) ?_) | with_reducible first | apply l_ | apply m_ | apply n_ | apply o_ | refine p_ (fun _ => ?_) (fun _ => ?_)) <;> (conv => whnf)))
    all_goals exact Ret.int rfl
  · ((conv => whnf); repeat' ((first | (with_reducible first | apply a_ | apply b_ | apply c_) | ((with_reducible first | apply d_ | apply e_ | apply f_ | apply g_); focus first | omega | (simp only [q_] <;> omega)) | ((with_reducible first | apply i_ | apply h_); focus first | omega | (simp only [q_] <;> omega)) | ((with_reducible apply h_); focus first | decide | kernel_rfl) | refine BCase.t (by decide) ?_ | refine BCase.f (by decide) ?_ | refine CallP.pure _ rfl _ (p_span n.Op) ?_ | refine CallP.pure _ rfl _ (pv) ?_ | refine CallP.pure _ rfl _ (pn) ?_ | (refine BCase.t (congrArg not hV) ?_) | with_reducible first | apply l_ | apply m_ | apply n_ | apply o_ | refine p_ (fun _ => ?_) (fun _ => ?_)) <;> (conv => whnf)))
    all_goals exact Ret.int rfl
  · rw [hB] at pn
    ((conv => whnf); repeat' ((first | (with_reducible first | apply a_ | apply b_ | apply c_) | ((with_reducible first | apply d_ | apply e_ | apply f_ | apply g_); focus first | omega | (simp only [q_] <;> omega)) | ((with_reducible first | apply i_ | apply h_); focus first | omega | (simp only [q_] <;> omega)) | ((with_reducible apply h_); focus first | decide | kernel_rfl) | refine BCase.t (by decide) ?_ | refine BCase.f (by decide) ?_ | refine CallP.pure _ rfl _ (p_span n.Op) ?_ | refine CallP.pure _ rfl _ (pv) ?_ | refine CallP.pure _ rfl _ (pn) ?_ | (refine BCase.f (congrArg not hV) ?_) | with_reducible first | apply l_ | apply m_ | apply n_ | apply o_ | refine p_ (fun _ => ?_) (fun _ => ?_)) <;> (conv => whnf)))
    all_goals exact Ret.int rfl
  · rw [hB] at pn
    ((conv => whnf); repeat' ((first | (with_reducible first | apply a_ | apply b_ | apply c_) | ((with_reducible first | apply d_ | apply e_ | apply f_ | apply g_); focus first | omega | (simp only [q_] <;> omega)) | ((with_reducible first | apply i_ | apply h_); focus first | omega | (simp only [q_] <;> omega)) | ((with_reducible apply h_); focus first | decide | kernel_rfl) | refine BCase.t (by decide) ?_ | refine BCase.f (by decide) ?_ | refine CallP.pure _ rfl _ (p_span n.Op) ?_ | refine CallP.pure _ rfl _ (pv) ?_ | refine CallP.pure _ rfl _ (pn) ?_ | (refine BCase.f (congrArg not hV) ?_) | with_reducible first | apply l_ | apply m_ | apply n_ | apply o_ | refine p_ (fun _ => ?_) (fun _ => ?_)) <;> (conv => whnf)))
    all_goals exact Ret.int rfl
  · ((conv => whnf); repeat' ((first | (with_reducible first | apply a_ | apply b_ | apply c_) | ((with_reducible first | apply d_ | apply e_ | apply f_ | apply g_); focus first | omega | (simp only [q_] <;> omega)) | ((with_reducible first | apply i_ | apply h_); focus first | omega | (simp only [q_] <;> omega)) | ((with_reducible apply h_); focus first | decide | kernel_rfl) | refine BCase.t (by decide) ?_ | refine BCase.f (by decide) ?_ | refine CallP.pure _ rfl _ (p_span n.Op) ?_ | refine CallP.pure _ rfl _ (pv) ?_ | refine CallP.pure _ rfl _ (pn) ?_ | (refine BCase.f (congrArg not hV) ?_) | (refine BCase.dt (tn2 hN) ?_) | with_reducible first | apply l_ | apply m_ | apply n_ | apply o_ | refine p_ (fun _ => ?_) (fun _ => ?_)) <;> (conv => whnf)))
    all_goals exact Ret.int rfl
  · ((conv => whnf); repeat' ((first | (with_reducible first | apply a_ | apply b_ | apply c_) | ((with_reducible first | apply d_ | apply e_ | apply f_ | apply g_); focus first | omega | (simp only [q_] <;> omega)) | ((with_reducible first | apply i_ | apply h_); focus first | omega | (simp only [q_] <;> omega)) | ((with_reducible apply h_); focus first | decide | kernel_rfl) | refine BCase.t (by decide) ?_ | refine BCase.f (by decide) ?_ | refine CallP.pure _ rfl _ (p_span n.Op) ?_ | refine CallP.pure _ rfl _ (pv) ?_ | refine CallP.pure _ rfl _ (pn) ?_ | (refine BCase.f (congrArg not hV) ?_) | (refine BCase.df (not_not_intro (tn hN)) ?_) | with_reducible first | apply l_ | apply m_ | apply n_ | apply o_ | refine p_ (fun _ => ?_) (fun _ => ?_)) <;> (conv => whnf)))
    all_goals exact Ret.int rfl
end Go.Proofs.YtpkifeagopceaaaDoor.Pm
end
section
namespace Go.Proofs.YtpkifeagopceaaaDoor.Pm
open Go.RowKit K
set_option linter.unusedVariables false
set_option linter.unusedSimpArgs false
set_option maxRecDepth 100000
def dC (x : Nat) : List C := [.v (.int .i64 x)]
theorem maxL_snoc (l : List Nat) (x : Nat) : maxL (l ++ [x]) = max (maxL l) x := by
  induction l with
  | nil => simp [maxL]
  | cons y l ih => rw [List.cons_append, maxL, maxL, ih]; omega
theorem maxL_le : ∀ (l : List Nat) (b : Nat), (∀ x ∈ l, x ≤ b) → maxL l ≤ b
  | [], _, _ => Nat.zero_le _
  | x :: l, b, h => by
    rw [maxL]
    have := h x (List.mem_cons_self ..)
    have := maxL_le l b fun y hy => h y (List.mem_cons_of_mem _ hy)
    omega
theorem p_deeper (n : NodeD) (l : List Nat) (hl : l.length ≤ 1000) (hx : ∀ x ∈ l, x ≤ 1000000) : Pure Tryd.prog 37 [nV n, slV 1 dC l] (.tup [pInt .i64 ((maxL l + 1 : Nat) : Int), pInt .i64 0]) := by
  refine pure_of Tryd.func37 (by rfl) rfl (by kernel_rfl) (by rfl) ?_
  ((conv => whnf); repeat' ((first | (with_reducible first | apply a_ | apply b_ | apply c_) | ((with_reducible first | apply d_ | apply e_ | apply f_ | apply g_); focus first | omega | (simp only [q_] <;> omega)) | ((with_reducible first | apply i_ | apply h_); focus first | omega | (simp only [q_] <;> omega)) | ((with_reducible apply h_); focus first | decide | kernel_rfl) | refine BCase.t (by decide) ?_ | refine BCase.f (by decide) ?_ | with_reducible first | apply l_ | apply m_ | apply n_ | apply o_ | refine p_ (fun _ => ?_) (fun _ => ?_)) <;> (conv => whnf)))
  refine LoopC.mk Nat (fun k => [(6, pInt .i64 (maxL (l.take k))), (9, slV 1 dC l), (10, pInt .i64 l.length), (11, pInt .i64 k)]) (fun _ => []) [] (fun k => k ≤ l.length) (fun k => l.length - k) 0 (Nat.zero_le _) ?start ?round
  case start => exact ⟨[], rfl, rfl, ⟨PLe.int rfl, .inl rfl, PLe.int (by simp), .inl rfl, trivial⟩, trivial⟩
  case round =>
    intro k hk
    by_cases h1 : k < l.length
    · have hs := maxL_snoc (l.take k) l[k]
      rw [← take_snoc h1] at hs
      ((conv => whnf); repeat' ((first | (with_reducible first | apply a_ | apply b_ | apply c_) | ((with_reducible first | apply d_ | apply e_ | apply f_ | apply g_); focus first | omega | (simp only [q_] <;> omega)) | ((with_reducible first | apply i_ | apply h_); focus first | omega | (simp only [q_] <;> omega)) | ((with_reducible apply h_); focus first | decide | kernel_rfl) | refine BCase.t (by decide) ?_ | refine BCase.f (by decide) ?_ | (refine Idx.mapI k rfl h1 ?_) | with_reducible first | apply l_ | apply m_ | apply n_ | apply o_ | refine p_ (fun _ => ?_) (fun _ => ?_)) <;> (conv => whnf)))
      all_goals
        refine ⟨k + 1, by omega, by omega, [], rfl, rfl, ⟨PLe.int (by rw [hs]; (repeat' split) <;> omega), .inl rfl, .inl rfl, PLe.int (by omega), trivial⟩, trivial⟩
    · have hm : ∀ l : List Nat, (∀ x ∈ l, x ≤ 1000000) → maxL l ≤ 1000000 := by
        intro l
        induction l with
        | nil => intro _; decide
        | cons x l ih => intro h; rw [maxL]; have := h x (List.mem_cons_self ..); have := ih fun y hy => h y (List.mem_cons_of_mem _ hy); omega
      have := hm l hx
      rw [List.take_of_length_le (by omega)]
      ((conv => whnf); repeat' ((first | (with_reducible first | apply a_ | apply b_ | apply c_) | ((with_reducible first | apply d_ | apply e_ | apply f_ | apply g_); focus first | omega | (simp only [q_] <;> omega)) | ((with_reducible first | apply i_ | apply h_); focus first | omega | (simp only [q_] <;> omega)) | ((with_reducible apply h_); focus first | decide | kernel_rfl) | refine BCase.t (by decide) ?_ | refine BCase.f (by decide) ?_ | with_reducible first | apply l_ | apply m_ | apply n_ | apply o_ | refine p_ (fun _ => ?_) (fun _ => ?_)) <;> (conv => whnf)))
      refine Ret.eq ?_
      simp
theorem p_clonei (l : List Nat) (h : l.length ≤ 1000000) : Pure Tryd.prog 50 [slV 1 dC l] (slV 1 dC l) := by
  cases l with
  | nil =>
    refine pure_sl0 ?_ fun a cap => ?_
    · refine pure_of Tryd.func50 (by rfl) rfl (by kernel_rfl) (by rfl) ?_
      ((conv => whnf); repeat' ((first | (with_reducible first | apply a_ | apply b_ | apply c_) | ((with_reducible first | apply d_ | apply e_ | apply f_ | apply g_); focus first | omega | (simp only [q_] <;> omega)) | ((with_reducible first | apply i_ | apply h_); focus first | omega | (simp only [q_] <;> omega)) | ((with_reducible apply h_); focus first | decide | kernel_rfl) | refine BCase.t (by decide) ?_ | refine BCase.f (by decide) ?_ | with_reducible first | apply l_ | apply m_ | apply n_ | apply o_ | refine p_ (fun _ => ?_) (fun _ => ?_)) <;> (conv => whnf)))
      exact Ret.le (.inr ⟨⟨1, rfl⟩, .inl rfl⟩)
    · refine pure_of Tryd.func50 (by rfl) rfl (by kernel_rfl) (by rfl) ?_
      ((conv => whnf); repeat' ((first | (with_reducible first | apply a_ | apply b_ | apply c_) | ((with_reducible first | apply d_ | apply e_ | apply f_ | apply g_); focus first | omega | (simp only [q_] <;> omega)) | ((with_reducible first | apply i_ | apply h_); focus first | omega | (simp only [q_] <;> omega)) | ((with_reducible apply h_); focus first | decide | kernel_rfl) | refine BCase.t (by decide) ?_ | refine BCase.f (by decide) ?_ | with_reducible first | apply l_ | apply m_ | apply n_ | apply o_ | refine p_ (fun _ => ?_) (fun _ => ?_)) <;> (conv => whnf)))
      exact Ret.mk rfl
  | cons x l =>
    refine pure_of Tryd.func50 (by rfl) rfl (by kernel_rfl) (by rfl) ?_
    ((conv => whnf); repeat' ((first | (with_reducible first | apply a_ | apply b_ | apply c_) | ((with_reducible first | apply d_ | apply e_ | apply f_ | apply g_); focus first | omega | (simp only [q_] <;> omega)) | ((with_reducible first | apply i_ | apply h_); focus first | omega | (simp only [q_] <;> omega)) | ((with_reducible apply h_); focus first | decide | kernel_rfl) | refine BCase.t (by decide) ?_ | refine BCase.f (by decide) ?_ | (refine Need.mk (List.cons_ne_nil _ _) ?_) | (refine Need.by 8 rfl (by simp only [List.length_map, List.length_nil, Nat.zero_add]; omega) ?_) | with_reducible first | apply l_ | apply m_ | apply n_ | apply o_ | refine p_ (fun _ => ?_) (fun _ => ?_)) <;> (conv => whnf)))
    exact Ret.mk rfl
theorem s_clonei (l : List Nat) (lo n : Nat) (h : lo + n ≤ l.length) (hn : n ≠ 0) (hz : l.length ≤ 1000000) : CallS Tryd.prog 50 [.d (.arr FK 3 1 lo n)] [(FK, .arr 3 1 (l.map dC))] [] (slV 1 dC ((l.drop lo).take n)) [] := by
  refine callS_of Tryd.func50 (by rfl) rfl (by kernel_rfl) (by rfl) [FK] rfl ?_
  ((conv => whnf); repeat' ((first | (with_reducible first | apply a_ | apply b_ | apply c_) | ((with_reducible first | apply d_ | apply e_ | apply f_ | apply g_); focus first | omega | (simp only [q_] <;> omega)) | ((with_reducible first | apply i_ | apply h_); focus first | omega | (simp only [q_] <;> omega)) | ((with_reducible apply h_); focus first | decide | kernel_rfl) | refine BCase.t (by decide) ?_ | refine BCase.f (by decide) ?_ | (refine Need.mk hn ?_) | (refine Need.mk (by rw [List.length_map]; exact h) ?_) | (refine Need.by 8 rfl (by simp only [List.length_nil, Nat.zero_add]; omega) ?_) | with_reducible first | apply l_ | apply m_ | apply n_ | apply o_ | refine p_ (fun _ => ?_) (fun _ => ?_)) <;> (conv => whnf)))
  refine RetS.mk [(FK, FK)] [FK] rfl rfl ?_ ?_
  · show C.sl 1 _ = C.sl 1 _
    rw [List.map_take, List.map_drop]; rfl
  · exact ⟨⟨rfl, rfl, rfl, rfl⟩, trivial⟩
theorem s_lasti (st : List Nat) (K : Int) (h0 : 0 ≤ K) (h1 : K ≤ st.length) (hz : st.length ≤ 1000000) : CallS Tryd.prog 50 [.d (.arr FK 3 1 (0 + ((st.length : Int) - K).toNat) (((st.length : Nat) : Int).toNat - ((st.length : Int) - K).toNat))] [(FK, .arr 3 1 (st.map dC))] [] (slV 1 dC (st.drop (st.length - K.toNat))) [] := by
  have e1 : 0 + ((st.length : Int) - K).toNat = st.length - K.toNat := by omega
  have e2 : ((st.length : Nat) : Int).toNat - ((st.length : Int) - K).toNat = K.toNat := by omega
  rw [e1, e2]
  by_cases k0 : K = 0
  · subst k0
    rw [show st.drop (st.length - (0 : Int).toNat) = [] from List.drop_of_length_le (by simp)]
    exact (p_clonei [] (by simp)).empty1
  · have := s_clonei st (st.length - K.toNat) K.toNat (by omega) (by omega) hz
    rwa [List.take_of_length_le (by rw [List.length_drop]; omega)] at this
def wiE (l : List NodeD) (j : Nat) (st : List Nat) : List (Nat × PV) := [(1, fnV 37), (6, pInt .i64 0), (7, .d (.arr 60 3 1 0 st.length)), (13, slV 6 NodeD.c l), (14, pInt .i64 l.length), (15, pInt .i64 j)]
def eInt2 (r : Except Int Nat) : PV := match r with
  | .ok d => .tup [pInt .i64 d, pInt .i64 0]
  | .error x => .tup [pInt .i64 0, pInt .i64 x]
theorem p_walki (l : List NodeD) (hl : l.length ≤ 1000) : Pure Tryd.prog 36 [slV 6 NodeD.c l, fnV 37] (eInt2 (walkR deepF l)) := by
  refine pure_of Tryd.func36 (by rfl) rfl (by kernel_rfl) (by rfl) ?_
  ((conv => whnf); repeat' ((first | (with_reducible first | apply a_ | apply b_ | apply c_) | ((with_reducible first | apply d_ | apply e_ | apply f_ | apply g_); focus first | omega | (simp only [q_] <;> omega)) | ((with_reducible first | apply i_ | apply h_); focus first | omega | (simp only [q_] <;> omega)) | ((with_reducible apply h_); focus first | decide | kernel_rfl) | refine BCase.t (by decide) ?_ | refine BCase.f (by decide) ?_ | with_reducible first | apply l_ | apply m_ | apply n_ | apply o_ | refine p_ (fun _ => ?_) (fun _ => ?_)) <;> (conv => whnf)))
  refine LoopC.mk (Nat × List Nat) (fun s => wiE l s.1 s.2) (fun s => [(60, .arr 3 1 (s.2.map dC))]) [60] (fun s => s.1 ≤ l.length ∧ s.2.length ≤ s.1 ∧ (∀ x ∈ s.2, x ≤ s.1) ∧ walkG deepF [] l = walkG deepF s.2 (l.drop s.1)) (fun s => l.length - s.1) (0, []) ⟨Nat.zero_le _, Nat.zero_le _, by simp, rfl⟩ ?start ?round
  case start => exact ⟨[], rfl, rfl, ⟨.inl rfl, .inl rfl, ⟨rfl, rfl, Nat.zero_lt_succ _, rfl, rfl⟩, .inl rfl, PLe.int (by simp), .inl rfl, trivial⟩, ⟨rfl, Nat.zero_lt_succ _, rfl⟩, trivial⟩
  case round =>
    rintro ⟨j, st⟩ ⟨hj, i1, i2, i3⟩
    have hj : j ≤ l.length := hj
    have i1 : st.length ≤ j := i1
    have i2 : ∀ x ∈ st, x ≤ j := i2
    have i3 : walkG deepF [] l = walkG deepF st (l.drop j) := i3
    by_cases q : j < l.length
    · rw [List.drop_eq_getElem_cons q, walkG_cons] at i3
      by_cases g : l[j].Kids < 0 ∨ (st.length : Int) < l[j].Kids
      · rw [if_pos g] at i3
        have hw : walkR deepF l = .error 1 := by unfold walkR; rw [i3]
        rw [hw]
        ((conv => whnf); repeat' ((first | (with_reducible first | apply a_ | apply b_ | apply c_) | ((with_reducible first | apply d_ | apply e_ | apply f_ | apply g_); focus first | omega | (simp only [q_] <;> omega)) | ((with_reducible first | apply i_ | apply h_); focus first | omega | (simp only [q_] <;> omega)) | ((with_reducible apply h_); focus first | decide | kernel_rfl) | refine BCase.t (by decide) ?_ | refine BCase.f (by decide) ?_ | (refine Idx.mapI j rfl q ?_) | with_reducible first | apply l_ | apply m_ | apply n_ | apply o_ | refine p_ (fun _ => ?_) (fun _ => ?_)) <;> (conv => whnf)))
        all_goals exact Ret.eq rfl
      · rw [if_neg g] at i3
        have g1 : ¬ l[j].Kids < 0 := fun q => g (.inl q)
        have g2 : ¬ (st.length : Int) < l[j].Kids := fun q => g (.inr q)
        have pc := s_lasti st l[j].Kids (by omega) (by omega) (by omega)
        have pd := p_deeper l[j] (st.drop (st.length - l[j].Kids.toNat)) (by rw [List.length_drop]; omega) (fun x hx => by have := i2 x (List.mem_of_mem_drop hx); omega)
        ((conv => whnf); repeat' ((first | (with_reducible first | apply a_ | apply b_ | apply c_) | ((with_reducible first | apply d_ | apply e_ | apply f_ | apply g_); focus first | omega | (simp only [q_] <;> omega)) | ((with_reducible first | apply i_ | apply h_); focus first | omega | (simp only [q_] <;> omega)) | ((with_reducible apply h_); focus first | decide | kernel_rfl) | refine BCase.t (by decide) ?_ | refine BCase.f (by decide) ?_ | (refine Idx.mapI j rfl q ?_) | (refine CallP.ret [(FK, 60)] _ _ _ _ _ _ _ pc rfl rfl rfl rfl ⟨rfl, trivial⟩ ?_) | refine CallP.pure _ rfl _ (pd) ?_ | (refine Need.by 8 rfl (by simp only [List.length_singleton]; omega) ?_) | with_reducible first | apply l_ | apply m_ | apply n_ | apply o_ | refine p_ (fun _ => ?_) (fun _ => ?_)) <;> (conv => whnf)))
        have hx1 : ∀ x ∈ st.drop (st.length - l[j].Kids.toNat), x ≤ j := fun x hx => i2 x (List.mem_of_mem_drop hx)
        have hx2 := maxL_le _ _ hx1
        refine ⟨(j + 1, st.take (st.length - l[j].Kids.toNat) ++ [maxL (st.drop (st.length - l[j].Kids.toNat)) + 1]), ⟨by show j + 1 ≤ _; omega, ?_, ?_, i3⟩, by show l.length - (j + 1) < l.length - j; omega, [(60, 54)], rfl, rfl, ⟨.inl rfl, .inl rfl, ⟨rfl, rfl, rfl, rfl, rfl, ?_⟩, .inl rfl, .inl rfl, PLe.int rfl, trivial⟩, ⟨rfl, rfl, rfl, ?_⟩, trivial⟩
        · show (st.take _ ++ [_]).length ≤ j + 1
          rw [List.length_append, List.length_take, List.length_singleton]; omega
        · intro x hx
          show x ≤ j + 1
          rcases List.mem_append.1 hx with hx | hx
          · have := i2 x (List.mem_of_mem_take hx); omega
          · rw [List.mem_singleton.1 hx]; omega
        · show _ = (st.take _ ++ [_]).length
          rw [List.length_append, List.length_take, List.length_singleton]; simp only [List.length_singleton]; omega
        · show _ = (st.take _ ++ [_]).map dC
          rw [List.map_append, List.map_take]
          have e1 : ((st.length : Int) - l[j].Kids).toNat = st.length - l[j].Kids.toNat := by omega
          show (st.map dC).take ((st.length : Int) - l[j].Kids).toNat ++ _ = _
          rw [e1]; rfl
    · rw [List.drop_of_length_le (by omega)] at i3
      have i3 : walkG deepF [] l = .ok st := i3
      rcases st with _ | ⟨x, _ | ⟨y, r⟩⟩
      · have hw : walkR deepF l = .error 1 := by unfold walkR; rw [i3]
        rw [hw]
        ((conv => whnf); repeat' ((first | (with_reducible first | apply a_ | apply b_ | apply c_) | ((with_reducible first | apply d_ | apply e_ | apply f_ | apply g_); focus first | omega | (simp only [q_] <;> omega)) | ((with_reducible first | apply i_ | apply h_); focus first | omega | (simp only [q_] <;> omega)) | ((with_reducible apply h_); focus first | decide | kernel_rfl) | refine BCase.t (by decide) ?_ | refine BCase.f (by decide) ?_ | with_reducible first | apply l_ | apply m_ | apply n_ | apply o_ | refine p_ (fun _ => ?_) (fun _ => ?_)) <;> (conv => whnf)))
        all_goals exact Ret.eq rfl
      · have hw : walkR deepF l = .ok x := by unfold walkR; rw [i3]
        rw [hw]
        ((conv => whnf); repeat' ((first | (with_reducible first | apply a_ | apply b_ | apply c_) | ((with_reducible first | apply d_ | apply e_ | apply f_ | apply g_); focus first | omega | (simp only [q_] <;> omega)) | ((with_reducible first | apply i_ | apply h_); focus first | omega | (simp only [q_] <;> omega)) | ((with_reducible apply h_); focus first | decide | kernel_rfl) | refine BCase.t (by decide) ?_ | refine BCase.f (by decide) ?_ | with_reducible first | apply l_ | apply m_ | apply n_ | apply o_ | refine p_ (fun _ => ?_) (fun _ => ?_)) <;> (conv => whnf)))
        refine Row.mk _ rfl ?_
        ((conv => whnf); repeat' ((first | (with_reducible first | apply a_ | apply b_ | apply c_) | ((with_reducible first | apply d_ | apply e_ | apply f_ | apply g_); focus first | omega | (simp only [q_] <;> omega)) | ((with_reducible first | apply i_ | apply h_); focus first | omega | (simp only [q_] <;> omega)) | ((with_reducible apply h_); focus first | decide | kernel_rfl) | refine BCase.t (by decide) ?_ | refine BCase.f (by decide) ?_ | with_reducible first | apply l_ | apply m_ | apply n_ | apply o_ | refine p_ (fun _ => ?_) (fun _ => ?_)) <;> (conv => whnf)))
        all_goals exact Ret.eq rfl
      · have hw : walkR deepF l = .error 1 := by unfold walkR; rw [i3]
        rw [hw]
        ((conv => whnf); repeat' ((first | (with_reducible first | apply a_ | apply b_ | apply c_) | ((with_reducible first | apply d_ | apply e_ | apply f_ | apply g_); focus first | omega | (simp only [q_] <;> omega)) | ((with_reducible first | apply i_ | apply h_); focus first | omega | (simp only [q_] <;> omega)) | ((with_reducible apply h_); focus first | decide | kernel_rfl) | refine BCase.t (by decide) ?_ | refine BCase.f (by decide) ?_ | with_reducible first | apply l_ | apply m_ | apply n_ | apply o_ | refine p_ (fun _ => ?_) (fun _ => ?_)) <;> (conv => whnf)))
        all_goals exact Ret.eq rfl
end Go.Proofs.YtpkifeagopceaaaDoor.Pm
end
section
namespace Go.Proofs.YtpkifeagopceaaaDoor.Pm
open Go.RowKit K
set_option linter.unusedVariables false
set_option linter.unusedSimpArgs false
set_option maxRecDepth 100000
theorem chk_ok {l : List NodeD} (h : chkO 0 l = 0) : walkR deepF l = .ok (depthE l) := by
  obtain ⟨x, hx⟩ := chk_walk (fun _ ks => maxL ks + 1) l [] h
  have hx : walkR deepF l = .ok x := by
    unfold walkR
    rw [show walkG deepF [] l = .ok [x] from hx]
  rw [hx]
  unfold depthE
  rw [hx]
theorem p_echeck (l : List NodeD) (hn : ∀ n ∈ l, okText n.Name) : Pure Tryd.prog 24 [slV 6 NodeD.c l] (pInt .i64 (checkF l)) := by
  refine pure_of Tryd.func24 (by rfl) rfl (by kernel_rfl) (by rfl) ?_
  by_cases h60 : 60 < l.length
  · rw [show checkF l = 2 from if_pos h60]
    ((conv => whnf); repeat' ((first | (with_reducible first | apply a_ | apply b_ | apply c_) | ((with_reducible first | apply d_ | apply e_ | apply f_ | apply g_); focus first | omega | (simp only [q_] <;> omega)) | ((with_reducible first | apply i_ | apply h_); focus first | omega | (simp only [q_] <;> omega)) | ((with_reducible apply h_); focus first | decide | kernel_rfl) | refine BCase.t (by decide) ?_ | refine BCase.f (by decide) ?_ | with_reducible first | apply l_ | apply m_ | apply n_ | apply o_ | refine p_ (fun _ => ?_) (fun _ => ?_)) <;> (conv => whnf)))
    exact Ret.int rfl
  · ((conv => whnf); repeat' ((first | (with_reducible first | apply a_ | apply b_ | apply c_) | ((with_reducible first | apply d_ | apply e_ | apply f_ | apply g_); focus first | omega | (simp only [q_] <;> omega)) | ((with_reducible first | apply i_ | apply h_); focus first | omega | (simp only [q_] <;> omega)) | ((with_reducible apply h_); focus first | decide | kernel_rfl) | refine BCase.t (by decide) ?_ | refine BCase.f (by decide) ?_ | with_reducible first | apply l_ | apply m_ | apply n_ | apply o_ | refine p_ (fun _ => ?_) (fun _ => ?_)) <;> (conv => whnf)))
    refine LoopC.mk (Nat × Nat) (fun s => [(0, slV 6 NodeD.c l), (3, pInt .i64 s.2), (12, slV 6 NodeD.c l), (13, pInt .i64 l.length), (14, pInt .i64 s.1)]) (fun _ => []) [] (fun s => s.1 ≤ l.length ∧ s.2 ≤ s.1 ∧ chkO 0 l = chkO s.2 (l.drop s.1)) (fun s => l.length - s.1) (0, 0) ⟨Nat.zero_le _, Nat.zero_le _, rfl⟩ ?start ?round
    case start => exact ⟨[], rfl, rfl, ⟨.inl rfl, .inl rfl, .inl rfl, PLe.int (by simp), .inl rfl, trivial⟩, trivial⟩
    case round =>
      rintro ⟨j, o⟩ ⟨hj, i1, i2⟩
      have hj : j ≤ l.length := hj
      have i1 : o ≤ j := i1
      have i2 : chkO 0 l = chkO o (l.drop j) := i2
      by_cases q : j < l.length
      · have hm := List.getElem_mem q
        have pa := p_alone l[j] (hn _ hm)
        rw [List.drop_eq_getElem_cons q, chkO_cons] at i2
        by_cases g : alF l[j] = 0
        · have hk := alF_kids g
          rw [if_neg (by rw [g]; decide)] at i2
          rw [g] at pa
          by_cases g2 : (o : Int) < l[j].Kids
          · rw [if_pos g2] at i2
            have hc : checkF l = 1 := by unfold checkF; rw [if_neg h60, if_pos (by rw [i2]; decide), i2]
            rw [hc]
            ((conv => whnf); repeat' ((first | (with_reducible first | apply a_ | apply b_ | apply c_) | ((with_reducible first | apply d_ | apply e_ | apply f_ | apply g_); focus first | omega | (simp only [q_] <;> omega)) | ((with_reducible first | apply i_ | apply h_); focus first | omega | (simp only [q_] <;> omega)) | ((with_reducible apply h_); focus first | decide | kernel_rfl) | refine BCase.t (by decide) ?_ | refine BCase.f (by decide) ?_ | (refine Idx.mapI j rfl q ?_) | refine CallP.pure _ rfl _ (pa) ?_ | with_reducible first | apply l_ | apply m_ | apply n_ | apply o_ | refine p_ (fun _ => ?_) (fun _ => ?_)) <;> (conv => whnf)))
            all_goals exact Ret.int rfl
          · rw [if_neg g2] at i2
            ((conv => whnf); repeat' ((first | (with_reducible first | apply a_ | apply b_ | apply c_) | ((with_reducible first | apply d_ | apply e_ | apply f_ | apply g_); focus first | omega | (simp only [q_] <;> omega)) | ((with_reducible first | apply i_ | apply h_); focus first | omega | (simp only [q_] <;> omega)) | ((with_reducible apply h_); focus first | decide | kernel_rfl) | refine BCase.t (by decide) ?_ | refine BCase.f (by decide) ?_ | (refine Idx.mapI j rfl q ?_) | refine CallP.pure _ rfl _ (pa) ?_ | with_reducible first | apply l_ | apply m_ | apply n_ | apply o_ | refine p_ (fun _ => ?_) (fun _ => ?_)) <;> (conv => whnf)))
            refine ⟨(j + 1, o + 1 - l[j].Kids.toNat), ⟨by show j + 1 ≤ _; omega, by show o + 1 - _ ≤ j + 1; omega, i2⟩, by show l.length - (j + 1) < l.length - j; omega, [], rfl, rfl, ⟨.inl rfl, PLe.int ?_, .inl rfl, .inl rfl, PLe.int rfl, trivial⟩, trivial⟩
            show _ = ((o + 1 - l[j].Kids.toNat : Nat) : Int)
            omega
        · rw [if_pos g] at i2
          have hc : checkF l = alF l[j] := by unfold checkF; rw [if_neg h60, if_pos (by rw [i2]; exact g), i2]
          rw [hc]
          ((conv => whnf); repeat' ((first | (with_reducible first | apply a_ | apply b_ | apply c_) | ((with_reducible first | apply d_ | apply e_ | apply f_ | apply g_); focus first | omega | (simp only [q_] <;> omega)) | ((with_reducible first | apply i_ | apply h_); focus first | omega | (simp only [q_] <;> omega)) | ((with_reducible apply h_); focus first | decide | kernel_rfl) | refine BCase.t (by decide) ?_ | refine BCase.f (by decide) ?_ | (refine Idx.mapI j rfl q ?_) | refine CallP.pure _ rfl _ (pa) ?_ | with_reducible first | apply l_ | apply m_ | apply n_ | apply o_ | refine p_ (fun _ => ?_) (fun _ => ?_)) <;> (conv => whnf)))
          all_goals exact Ret.int rfl
      · rw [List.drop_of_length_le (by omega)] at i2
        have i2 : chkO 0 l = if o ≠ 1 then 1 else 0 := i2
        by_cases g : o = 1
        · rw [if_neg (by omega)] at i2
          have pw := p_walki l (by omega)
          rw [chk_ok i2] at pw
          have pw : Pure _ _ _ (.tup [pInt .i64 (depthE l), pInt .i64 0]) := pw
          have hc : checkF l = if 12 < depthE l then 10 else 0 := by unfold checkF; rw [if_neg h60, if_neg (by rw [i2]; decide)]
          rw [hc]
          ((conv => whnf); repeat' ((first | (with_reducible first | apply a_ | apply b_ | apply c_) | ((with_reducible first | apply d_ | apply e_ | apply f_ | apply g_); focus first | omega | (simp only [q_] <;> omega)) | ((with_reducible first | apply i_ | apply h_); focus first | omega | (simp only [q_] <;> omega)) | ((with_reducible apply h_); focus first | decide | kernel_rfl) | refine BCase.t (by decide) ?_ | refine BCase.f (by decide) ?_ | refine CallP.pure _ rfl _ (pw) ?_ | with_reducible first | apply l_ | apply m_ | apply n_ | apply o_ | refine p_ (fun _ => ?_) (fun _ => ?_)) <;> (conv => whnf)))
          (all_goals (refine Ret.int ?_; ((repeat' split) <;> first | rfl | omega)))
        · rw [if_pos g] at i2
          have hc : checkF l = 1 := by unfold checkF; rw [if_neg h60, if_pos (by rw [i2]; decide), i2]
          rw [hc]
          ((conv => whnf); repeat' ((first | (with_reducible first | apply a_ | apply b_ | apply c_) | ((with_reducible first | apply d_ | apply e_ | apply f_ | apply g_); focus first | omega | (simp only [q_] <;> omega)) | ((with_reducible first | apply i_ | apply h_); focus first | omega | (simp only [q_] <;> omega)) | ((with_reducible apply h_); focus first | decide | kernel_rfl) | refine BCase.t (by decide) ?_ | refine BCase.f (by decide) ?_ | with_reducible first | apply l_ | apply m_ | apply n_ | apply o_ | refine p_ (fun _ => ?_) (fun _ => ?_)) <;> (conv => whnf)))
          all_goals exact Ret.int rfl
theorem drop_back {α : Type} (st : List α) (k : Nat) (h : k < st.length) : st.drop (st.length - (k + 1)) = st[st.length - (k + 1)] :: st.drop (st.length - k) := by
  rw [List.drop_eq_getElem_cons (by omega), show st.length - (k + 1) + 1 = st.length - k by omega]
end Go.Proofs.YtpkifeagopceaaaDoor.Pm
end
section
namespace Go.Proofs.YtpkifeagopceaaaDoor.Pm
open Go.RowKit K
set_option linter.unusedVariables false
set_option linter.unusedSimpArgs false
set_option maxRecDepth 100000
theorem look_sc (cols : List (List UInt8)) (row : List ValueD) : vget (scM cols row) = lookC cols row := funext fun s => vget_scM cols row s
theorem lookC_mem : ∀ (cols : List (List UInt8)) (row : List ValueD) {s : List UInt8} {v : ValueD}, lookC cols row s = some v → v ∈ row
  | [], row, s, v, h => by cases row <;> cases h
  | _ :: _, [], s, v, h => by cases h
  | c :: cs, x :: xs, s, v, h => by
    unfold lookC at h
    split at h
    · cases h; exact List.mem_cons_self ..
    · exact List.mem_cons_of_mem _ (lookC_mem cs xs h)
theorem look_ok {cols : List (List UInt8)} {row : List ValueD} (h : ∀ v ∈ row, RV v) : LookOk (lookC cols row) := fun s v hv => h v (lookC_mem cols row hv)
def NIn (l : List NodeD) : Prop := ∀ n ∈ l, alF n = 0 ∧ WholeP.In64 n.V.N
theorem p_raw (l : List NodeD) (hl : l.length ≤ 1000) (hn : NIn l) (cols : List (List UInt8)) (row : List ValueD) (hc : cols.length = row.length) (hcl : cols.length ≤ 1000000) (hr : ∀ v ∈ row, RV v) :
    Pure Tryd.prog 19 [slV 6 NodeD.c l, slV 1 eText cols, slV 3 ValueD.c row] (eVal (walkR (nodF (lookC cols row)) l)) := by
  have ps := s_scoped cols row hc hcl
  have pw := s_walkv (scM cols row) (by rw [look_sc]; exact look_ok hr) l hl hn
  rw [look_sc] at pw
  refine pure_of Tryd.func19 (by rfl) rfl (by kernel_rfl) (by rfl) ?_
  cases hw : walkR (nodF (lookC cols row)) l with
  | ok v =>
    rw [hw] at pw
    ((conv => whnf); repeat' ((first | (with_reducible first | apply a_ | apply b_ | apply c_) | ((with_reducible first | apply d_ | apply e_ | apply f_ | apply g_); focus first | omega | (simp only [q_] <;> omega)) | ((with_reducible first | apply i_ | apply h_); focus first | omega | (simp only [q_] <;> omega)) | ((with_reducible apply h_); focus first | decide | kernel_rfl) | refine BCase.t (by decide) ?_ | refine BCase.f (by decide) ?_ | (refine CallP.ret [(NK, 11)] _ _ _ _ _ _ _ ps rfl rfl rfl rfl trivial ?_) | (refine CallP.ret [(FK, 11)] _ _ _ _ _ _ _ pw rfl rfl rfl rfl ⟨rfl, trivial⟩ ?_) | with_reducible first | apply l_ | apply m_ | apply n_ | apply o_ | refine p_ (fun _ => ?_) (fun _ => ?_)) <;> (conv => whnf)))
    exact Ret.eq rfl
  | error x =>
    rw [hw] at pw
    ((conv => whnf); repeat' ((first | (with_reducible first | apply a_ | apply b_ | apply c_) | ((with_reducible first | apply d_ | apply e_ | apply f_ | apply g_); focus first | omega | (simp only [q_] <;> omega)) | ((with_reducible first | apply i_ | apply h_); focus first | omega | (simp only [q_] <;> omega)) | ((with_reducible apply h_); focus first | decide | kernel_rfl) | refine BCase.t (by decide) ?_ | refine BCase.f (by decide) ?_ | (refine CallP.ret [(NK, 11)] _ _ _ _ _ _ _ ps rfl rfl rfl rfl trivial ?_) | (refine CallP.ret [(FK, 11)] _ _ _ _ _ _ _ pw rfl rfl rfl rfl ⟨rfl, trivial⟩ ?_) | with_reducible first | apply l_ | apply m_ | apply n_ | apply o_ | refine p_ (fun _ => ?_) (fun _ => ?_)) <;> (conv => whnf)))
    exact Ret.eq rfl
def truR (r : Except Int ValueD) : Int × Int := match r with
  | .ok v => meaV v
  | .error x => (0, x)
theorem p_rawtruth_of {l : List NodeD} {cols : List (List UInt8)} {row : List ValueD} {r : Except Int ValueD} (hr : ∀ x, r = .error x → x ≠ 0) (p : Pure Tryd.prog 19 [slV 6 NodeD.c l, slV 1 eText cols, slV 3 ValueD.c row] (eVal r)) :
    Pure Tryd.prog 28 [slV 6 NodeD.c l, slV 1 eText cols, slV 3 ValueD.c row] (.tup [pInt .i64 (truR r).1, pInt .i64 (truR r).2]) := by
  refine pure_of Tryd.func28 (by rfl) rfl (by kernel_rfl) (by rfl) ?_
  cases r with
  | ok v =>
    have pm := p_meant v
    have p : Pure _ _ _ (.tup [vV v, pInt .i64 0]) := p
    ((conv => whnf); repeat' ((first | (with_reducible first | apply a_ | apply b_ | apply c_) | ((with_reducible first | apply d_ | apply e_ | apply f_ | apply g_); focus first | omega | (simp only [q_] <;> omega)) | ((with_reducible first | apply i_ | apply h_); focus first | omega | (simp only [q_] <;> omega)) | ((with_reducible apply h_); focus first | decide | kernel_rfl) | refine BCase.t (by decide) ?_ | refine BCase.f (by decide) ?_ | refine CallP.pure _ rfl _ (p) ?_ | refine CallP.pure _ rfl _ (pm) ?_ | with_reducible first | apply l_ | apply m_ | apply n_ | apply o_ | refine p_ (fun _ => ?_) (fun _ => ?_)) <;> (conv => whnf)))
    exact Ret.eq rfl
  | error x =>
    have p : Pure _ _ _ (.tup [vV noV, pInt .i64 x]) := p
    have h0 := hr x rfl
    ((conv => whnf); repeat' ((first | (with_reducible first | apply a_ | apply b_ | apply c_) | ((with_reducible first | apply d_ | apply e_ | apply f_ | apply g_); focus first | omega | (simp only [q_] <;> omega)) | ((with_reducible first | apply i_ | apply h_); focus first | omega | (simp only [q_] <;> omega)) | ((with_reducible apply h_); focus first | decide | kernel_rfl) | refine BCase.t (by decide) ?_ | refine BCase.f (by decide) ?_ | refine CallP.pure _ rfl _ (p) ?_ | with_reducible first | apply l_ | apply m_ | apply n_ | apply o_ | refine p_ (fun _ => ?_) (fun _ => ?_)) <;> (conv => whnf)))
    all_goals first | exact Ret.eq rfl | (exfalso; omega)
def scopeE (e : List NodeD) (cols : List (List UInt8)) (row : List ValueD) : Int := if checkF e ≠ 0 then checkF e else if 8 < cols.length then 2 else if cols.length ≠ row.length then 1 else vChkAll row
noncomputable def evalF (e : List NodeD) (cols : List (List UInt8)) (row : List ValueD) : Except Int ValueD := if scopeE e cols row ≠ 0 then .error (scopeE e cols row) else walkR (nodF (lookC cols row)) e
theorem p_evcheck (e : List NodeD) (hn : ∀ n ∈ e, okText n.Name) (cols : List (List UInt8)) (row : List ValueD) (hr : row.length ≤ 140737488355328) : Pure Tryd.prog 18 [slV 6 NodeD.c e, slV 1 eText cols, slV 3 ValueD.c row] (pInt .i64 (scopeE e cols row)) := by
  have pe := p_echeck e hn
  have pc := p_checkall row hr
  refine pure_of Tryd.func18 (by rfl) rfl (by kernel_rfl) (by rfl) ?_
  unfold scopeE
  by_cases h1 : checkF e = 0
  · rw [if_neg (by rw [h1]; decide)]
    rw [h1] at pe
    by_cases h2 : 8 < cols.length
    · rw [if_pos h2]
      ((conv => whnf); repeat' ((first | (with_reducible first | apply a_ | apply b_ | apply c_) | ((with_reducible first | apply d_ | apply e_ | apply f_ | apply g_); focus first | omega | (simp only [q_] <;> omega)) | ((with_reducible first | apply i_ | apply h_); focus first | omega | (simp only [q_] <;> omega)) | ((with_reducible apply h_); focus first | decide | kernel_rfl) | refine BCase.t (by decide) ?_ | refine BCase.f (by decide) ?_ | refine CallP.pure _ rfl _ (pe) ?_ | with_reducible first | apply l_ | apply m_ | apply n_ | apply o_ | refine p_ (fun _ => ?_) (fun _ => ?_)) <;> (conv => whnf)))
      all_goals first | exact Ret.int rfl | (exfalso; omega)
    · rw [if_neg h2]
      by_cases h3 : cols.length = row.length
      · rw [if_neg (by omega)]
        ((conv => whnf); repeat' ((first | (with_reducible first | apply a_ | apply b_ | apply c_) | ((with_reducible first | apply d_ | apply e_ | apply f_ | apply g_); focus first | omega | (simp only [q_] <;> omega)) | ((with_reducible first | apply i_ | apply h_); focus first | omega | (simp only [q_] <;> omega)) | ((with_reducible apply h_); focus first | decide | kernel_rfl) | refine BCase.t (by decide) ?_ | refine BCase.f (by decide) ?_ | refine CallP.pure _ rfl _ (pe) ?_ | refine CallP.pure _ rfl _ (pc) ?_ | with_reducible first | apply l_ | apply m_ | apply n_ | apply o_ | refine p_ (fun _ => ?_) (fun _ => ?_)) <;> (conv => whnf)))
        all_goals first | exact Ret.int rfl | (exfalso; omega)
      · rw [if_pos h3]
        ((conv => whnf); repeat' ((first | (with_reducible first | apply a_ | apply b_ | apply c_) | ((with_reducible first | apply d_ | apply e_ | apply f_ | apply g_); focus first | omega | (simp only [q_] <;> omega)) | ((with_reducible first | apply i_ | apply h_); focus first | omega | (simp only [q_] <;> omega)) | ((with_reducible apply h_); focus first | decide | kernel_rfl) | refine BCase.t (by decide) ?_ | refine BCase.f (by decide) ?_ | refine CallP.pure _ rfl _ (pe) ?_ | with_reducible first | apply l_ | apply m_ | apply n_ | apply o_ | refine p_ (fun _ => ?_) (fun _ => ?_)) <;> (conv => whnf)))
        all_goals first | exact Ret.int rfl | (exfalso; omega)
  · rw [if_pos h1]
    ((conv => whnf); repeat' ((first | (with_reducible first | apply a_ | apply b_ | apply c_) | ((with_reducible first | apply d_ | apply e_ | apply f_ | apply g_); focus first | omega | (simp only [q_] <;> omega)) | ((with_reducible first | apply i_ | apply h_); focus first | omega | (simp only [q_] <;> omega)) | ((with_reducible apply h_); focus first | decide | kernel_rfl) | refine BCase.t (by decide) ?_ | refine BCase.f (by decide) ?_ | refine CallP.pure _ rfl _ (pe) ?_ | with_reducible first | apply l_ | apply m_ | apply n_ | apply o_ | refine p_ (fun _ => ?_) (fun _ => ?_)) <;> (conv => whnf)))
    all_goals first | exact Ret.int rfl | (exfalso; omega)
theorem scope_ok {e : List NodeD} {cols : List (List UInt8)} {row : List ValueD} (h : scopeE e cols row = 0) : checkF e = 0 ∧ cols.length ≤ 8 ∧ cols.length = row.length ∧ ∀ v ∈ row, OkV v := by
  unfold scopeE at h
  split at h
  · rename_i q; exact absurd h q
  · rename_i q
    split at h
    · cases h
    · split at h
      · cases h
      · exact ⟨Decidable.of_not_not q, by omega, by omega, fun v hv => vChkAll_ok.1 h v hv⟩
theorem check_all {e : List NodeD} (h : checkF e = 0) : e.length ≤ 60 ∧ ∀ n ∈ e, alF n = 0 := by
  unfold checkF at h
  split at h
  · cases h
  · split at h
    · rename_i q; exact absurd h q
    · rename_i q
      exact ⟨by omega, chk_all e 0 (Decidable.of_not_not q)⟩
abbrev hNode (n : NodeD) : Prop := okText n.Name ∧ WholeP.In64 n.V.N
theorem nodF_err {look : Look} {n : NodeD} {k : List ValueD} {x : Int} (h : nodF look n k = .error x) : x ≠ 0 := by
  unfold nodF at h
  split at h
  · cases h
  · rename_i q; cases h; exact q
theorem walkG_err {α : Type} {f : NodeD → List α → Except Int α} (hf : ∀ n k x, f n k = .error x → x ≠ 0) : ∀ (l : List NodeD) (st : List α) {x : Int}, walkG f st l = .error x → x ≠ 0
  | [], st, x, h => by cases h
  | n :: l, st, x, h => by
    rw [walkG_cons] at h
    split at h
    · cases h; decide
    · split at h
      · rename_i y hy; cases h; exact hf _ _ _ hy
      · exact walkG_err hf l _ h
theorem walkR_err {α : Type} {f : NodeD → List α → Except Int α} (hf : ∀ n k x, f n k = .error x → x ≠ 0) {l : List NodeD} {x : Int} (h : walkR f l = .error x) : x ≠ 0 := by
  unfold walkR at h
  split at h
  · rename_i y hy; cases h; exact walkG_err hf _ _ hy
  · cases h
  · cases h; decide
theorem evalF_err {e : List NodeD} {cols : List (List UInt8)} {row : List ValueD} {x : Int} (h : evalF e cols row = .error x) : x ≠ 0 := by
  unfold evalF at h
  split at h
  · rename_i q; cases h; exact q
  · exact walkR_err (fun n k x => nodF_err) h
theorem p_eval (e : List NodeD) (hn : ∀ n ∈ e, hNode n) (cols : List (List UInt8)) (row : List ValueD) (hr : row.length ≤ 140737488355328) (hv : ∀ v ∈ row, WholeP.In64 v.N) : Pure Tryd.prog 8 [slV 6 NodeD.c e, slV 1 eText cols, slV 3 ValueD.c row] (eVal (evalF e cols row)) := by
  have pc := p_evcheck e (fun n h => (hn n h).1) cols row hr
  refine pure_of Tryd.func8 (by rfl) rfl (by kernel_rfl) (by rfl) ?_
  unfold evalF
  by_cases h : scopeE e cols row = 0
  · rw [if_neg (by rw [h]; decide)]
    rw [h] at pc
    obtain ⟨h1, h2, h3, h4⟩ := scope_ok h
    obtain ⟨h5, h6⟩ := check_all h1
    have pr := p_raw e (by omega) (fun n hm => ⟨h6 n hm, (hn n hm).2⟩) cols row h3 (by omega) (fun v hm => ⟨h4 v hm, hv v hm⟩)
    cases hw : walkR (nodF (lookC cols row)) e with
    | ok v =>
      rw [hw] at pr
      have pr : Pure _ _ _ (.tup [vV v, pInt .i64 0]) := pr
      ((conv => whnf); repeat' ((first | (with_reducible first | apply a_ | apply b_ | apply c_) | ((with_reducible first | apply d_ | apply e_ | apply f_ | apply g_); focus first | omega | (simp only [q_] <;> omega)) | ((with_reducible first | apply i_ | apply h_); focus first | omega | (simp only [q_] <;> omega)) | ((with_reducible apply h_); focus first | decide | kernel_rfl) | refine BCase.t (by decide) ?_ | refine BCase.f (by decide) ?_ | refine CallP.pure _ rfl _ (pc) ?_ | refine CallP.pure _ rfl _ (pr) ?_ | with_reducible first | apply l_ | apply m_ | apply n_ | apply o_ | refine p_ (fun _ => ?_) (fun _ => ?_)) <;> (conv => whnf)))
      exact Ret.eq rfl
    | error x =>
      rw [hw] at pr
      have pr : Pure _ _ _ (.tup [vV noV, pInt .i64 x]) := pr
      ((conv => whnf); repeat' ((first | (with_reducible first | apply a_ | apply b_ | apply c_) | ((with_reducible first | apply d_ | apply e_ | apply f_ | apply g_); focus first | omega | (simp only [q_] <;> omega)) | ((with_reducible first | apply i_ | apply h_); focus first | omega | (simp only [q_] <;> omega)) | ((with_reducible apply h_); focus first | decide | kernel_rfl) | refine BCase.t (by decide) ?_ | refine BCase.f (by decide) ?_ | refine CallP.pure _ rfl _ (pc) ?_ | refine CallP.pure _ rfl _ (pr) ?_ | with_reducible first | apply l_ | apply m_ | apply n_ | apply o_ | refine p_ (fun _ => ?_) (fun _ => ?_)) <;> (conv => whnf)))
      exact Ret.eq rfl
  · rw [if_pos h]
    ((conv => whnf); repeat' ((first | (with_reducible first | apply a_ | apply b_ | apply c_) | ((with_reducible first | apply d_ | apply e_ | apply f_ | apply g_); focus first | omega | (simp only [q_] <;> omega)) | ((with_reducible first | apply i_ | apply h_); focus first | omega | (simp only [q_] <;> omega)) | ((with_reducible apply h_); focus first | decide | kernel_rfl) | refine BCase.t (by decide) ?_ | refine BCase.f (by decide) ?_ | refine CallP.pure _ rfl _ (pc) ?_ | with_reducible first | apply l_ | apply m_ | apply n_ | apply o_ | refine p_ (fun _ => ?_) (fun _ => ?_)) <;> (conv => whnf)))
    all_goals first | exact Ret.eq rfl | (exfalso; omega)
theorem p_truthE (e : List NodeD) (hn : ∀ n ∈ e, hNode n) (cols : List (List UInt8)) (row : List ValueD) (hr : row.length ≤ 140737488355328) (hv : ∀ v ∈ row, WholeP.In64 v.N) : Pure Tryd.prog 14 [slV 6 NodeD.c e, slV 1 eText cols, slV 3 ValueD.c row] (.tup [pInt .i64 (truR (evalF e cols row)).1, pInt .i64 (truR (evalF e cols row)).2]) := by
  have pc := p_evcheck e (fun n h => (hn n h).1) cols row hr
  refine pure_of Tryd.func14 (by rfl) rfl (by kernel_rfl) (by rfl) ?_
  unfold evalF
  by_cases h : scopeE e cols row = 0
  · rw [if_neg (by rw [h]; decide)]
    rw [h] at pc
    obtain ⟨h1, h2, h3, h4⟩ := scope_ok h
    obtain ⟨h5, h6⟩ := check_all h1
    have pr := p_rawtruth_of (r := walkR (nodF (lookC cols row)) e) (fun x hx => walkR_err (fun n k x => nodF_err) hx) (p_raw e (by omega) (fun n hm => ⟨h6 n hm, (hn n hm).2⟩) cols row h3 (by omega) (fun v hm => ⟨h4 v hm, hv v hm⟩))
    ((conv => whnf); repeat' ((first | (with_reducible first | apply a_ | apply b_ | apply c_) | ((with_reducible first | apply d_ | apply e_ | apply f_ | apply g_); focus first | omega | (simp only [q_] <;> omega)) | ((with_reducible first | apply i_ | apply h_); focus first | omega | (simp only [q_] <;> omega)) | ((with_reducible apply h_); focus first | decide | kernel_rfl) | refine BCase.t (by decide) ?_ | refine BCase.f (by decide) ?_ | refine CallP.pure _ rfl _ (pc) ?_ | refine CallP.pure _ rfl _ (pr) ?_ | with_reducible first | apply l_ | apply m_ | apply n_ | apply o_ | refine p_ (fun _ => ?_) (fun _ => ?_)) <;> (conv => whnf)))
    exact Ret.eq rfl
  · rw [if_pos h]
    ((conv => whnf); repeat' ((first | (with_reducible first | apply a_ | apply b_ | apply c_) | ((with_reducible first | apply d_ | apply e_ | apply f_ | apply g_); focus first | omega | (simp only [q_] <;> omega)) | ((with_reducible first | apply i_ | apply h_); focus first | omega | (simp only [q_] <;> omega)) | ((with_reducible apply h_); focus first | decide | kernel_rfl) | refine BCase.t (by decide) ?_ | refine BCase.f (by decide) ?_ | refine CallP.pure _ rfl _ (pc) ?_ | with_reducible first | apply l_ | apply m_ | apply n_ | apply o_ | refine p_ (fun _ => ?_) (fun _ => ?_)) <;> (conv => whnf)))
    all_goals first | exact Ret.eq rfl | (exfalso; omega)
end Go.Proofs.YtpkifeagopceaaaDoor.Pm
end
section
namespace Go.Proofs.YtpkifeagopceaaaDoor.Pm
open Go.RowKit LikeP
set_option linter.unusedVariables false
set_option linter.unusedSimpArgs false
theorem sidx_nat {s : ByteArray} {k : Nat} {K : Int → Prop} (h : k < s.size) (hk : ∀ b : UInt8, s.data.toList[k]? = some b → K (b.toNat : Int)) : SIdx s k K := by
  have h' : k < s.data.toList.length := by rw [size_list]; exact h
  exact .mk s.data.toList[k] (by omega) (by rw [Int.toNat_natCast]; exact List.getElem?_eq_getElem h') (hk _ (List.getElem?_eq_getElem h'))
theorem take_snocB {α : Type} {l : List α} {k : Nat} {b : α} (h : l[k]? = some b) : l.take (k + 1) = l.take k ++ [b] := by
  rw [List.take_add_one, h]; rfl
def asciiB (s : ByteArray) : Bool := s.data.toList.all fun b => decide (b.toNat < 128)
def escL (l : List UInt8) : List UInt8 := l.flatMap fun b => if b.toNat = 37 ∨ b.toNat = 95 ∨ b.toNat = 92 then [92, b] else [b]
def escS (s : ByteArray) : ByteArray := bs (escL s.data.toList)
theorem bs_append (a b : List UInt8) : bs a ++ bs b = bs (a ++ b) := by
  apply ByteArray.ext
  rw [ByteArray.data_append]; simp [bs]
theorem escL_snoc (l : List UInt8) (b : UInt8) : escL (l ++ [b]) = escL l ++ if b.toNat = 37 ∨ b.toNat = 95 ∨ b.toNat = 92 then [92, b] else [b] := by
  unfold escL; rw [List.flatMap_append]; simp
theorem take_one {α : Type} {l : List α} {k : Nat} {b : α} (h : l[k]? = some b) : (l.drop k).take 1 = [b] := by
  obtain ⟨h1, rfl⟩ := List.getElem?_eq_some_iff.1 h
  rw [List.drop_eq_getElem_cons h1]; rfl
theorem escL_len : ∀ l : List UInt8, (escL l).length ≤ 2 * l.length
  | [] => Nat.zero_le _
  | b :: l => by
    have := escL_len l
    have h : escL (b :: l) = (if b.toNat = 37 ∨ b.toNat = 95 ∨ b.toNat = 92 then [92, b] else [b]) ++ escL l := by unfold escL; rw [List.flatMap_cons]
    rw [h, List.length_append, List.length_cons]
    split <;> simp <;> omega
end Go.Proofs.YtpkifeagopceaaaDoor.Pm
end
section
namespace Go.Proofs.YtpkifeagopceaaaDoor.Pm
open Go.RowKit LikeP
set_option linter.unusedVariables false
set_option linter.unusedSimpArgs false
def encB (b : Bool) : List C := [.v (.bool b)]
abbrev tBool : Nat := 4
abbrev rowD (k : Nat) (r : List Bool) : PV := .d (.app k tBool 1 (r.map encB))
theorem row_more {f : Nat → Bool} {m k : Nat} (hk : k < m) {b : Bool} (hb : f k = b) : (((List.range m).map f).take k).map encB ++ [[.v (.bool b)]] = (((List.range m).map f).take (k + 1)).map encB := by
  rw [take_range f m k hk, List.map_append, hb]; rfl
theorem row_len {f : Nat → Bool} {m k : Nat} (hk : k ≤ m) : ((((List.range m).map f).take k).map encB).length = k := by simp; omega
end Go.Proofs.YtpkifeagopceaaaDoor.Pm
end
section
namespace Go.Proofs.YtpkifeagopceaaaDoor.Pm
open Go.RowKit K
set_option linter.unusedVariables false
set_option linter.unusedSimpArgs false
set_option maxRecDepth 100000
theorem rv_text {v : ValueD} (h : RV v) : okText v.S := by
  have := (okV_kind h.1).2.2
  unfold okText; omega
end Go.Proofs.YtpkifeagopceaaaDoor.Pm
end
section
namespace Go.Proofs.YtpkifeagopceaaaDoor.Pm
open Go.RowKit K
set_option linter.unusedVariables false
set_option linter.unusedSimpArgs false
set_option maxRecDepth 100000
def nK (q : Int) (k : List ValueD) : Nat := k.countP fun v => decide (v.Kind = q)
theorem nK_snoc (q : Int) {k : List ValueD} {j : Nat} (h : j < k.length) : nK q (k.take (j + 1)) = nK q (k.take j) + if k[j].Kind = q then 1 else 0 := by
  unfold nK
  rw [take_snoc h, List.countP_append, List.countP_singleton]
  by_cases e : k[j].Kind = q
  · rw [decide_eq_true e, if_pos e]; rfl
  · rw [decide_eq_false e, if_neg e]; rfl
theorem nK_le (q : Int) (k : List ValueD) : nK q k ≤ k.length := List.countP_le_length
theorem nK_none {q : Int} {k : List ValueD} : nK q k = 0 ↔ ∀ v ∈ k, v.Kind ≠ q := by
  unfold nK
  rw [List.countP_eq_zero]
  simp
theorem any_isN (k : List ValueD) : k.any isN = decide (0 < nK 0 k) := by
  rw [Bool.eq_iff_iff, decide_eq_true_iff, List.any_eq_true]
  constructor
  · rintro ⟨v, hv, h⟩
    have h := of_decide_eq_true h
    have := nK_none (q := 0) (k := k)
    rcases Nat.eq_zero_or_pos (nK 0 k) with e | e
    · exact absurd h (this.1 e v hv)
    · exact e
  · intro h
    unfold nK at h
    rw [List.countP_pos_iff] at h
    exact h
theorem any_two (p : ValueD → Bool) (a b : Int) (hp : ∀ v, p v = decide (v.Kind = a ∨ v.Kind = b)) (k : List ValueD) : k.any p = decide (0 < nK a k + nK b k) := by
  rw [Bool.eq_iff_iff, decide_eq_true_iff, List.any_eq_true]
  have ha := nK_none (q := a) (k := k)
  have hb := nK_none (q := b) (k := k)
  constructor
  · rintro ⟨v, hv, h⟩
    rw [hp] at h
    rcases of_decide_eq_true h with e | e
    · rcases Nat.eq_zero_or_pos (nK a k) with g | g
      · exact absurd e (ha.1 g v hv)
      · omega
    · rcases Nat.eq_zero_or_pos (nK b k) with g | g
      · exact absurd e (hb.1 g v hv)
      · omega
  · intro h
    rcases Nat.eq_zero_or_pos (nK a k) with g | g
    · have : 0 < nK b k := by omega
      unfold nK at this
      rw [List.countP_pos_iff] at this
      obtain ⟨v, hv, e⟩ := this
      exact ⟨v, hv, by rw [hp]; exact decide_eq_true (.inr (of_decide_eq_true e))⟩
    · have g : 0 < nK a k := g
      unfold nK at g
      rw [List.countP_pos_iff] at g
      obtain ⟨v, hv, e⟩ := g
      exact ⟨v, hv, by rw [hp]; exact decide_eq_true (.inl (of_decide_eq_true e))⟩
end Go.Proofs.YtpkifeagopceaaaDoor.Pm
end
section
namespace Go.Proofs.YtpkifeagopceaaaDoor.Pm
open Go.RowKit K
set_option linter.unusedVariables false
set_option linter.unusedSimpArgs false
set_option maxRecDepth 100000
theorem flat_le_flats : ∀ {l : List Ex} {t : Ex}, t ∈ l → t.flat.length ≤ (Ex.flats l).length
  | [], _, h => by cases h
  | x :: l, t, h => by
    rw [Ex.flats, List.length_append]
    rcases List.mem_cons.1 h with rfl | h
    · omega
    · have := flat_le_flats h; omega
theorem len_le_flats : ∀ (l : List Ex), l.length ≤ (Ex.flats l).length
  | [] => Nat.zero_le _
  | x :: l => by
    rw [Ex.flats, List.length_append, List.length_cons]
    have := x.flat_pos
    have := len_le_flats l
    omega
theorem flats_snoc {ks : List Ex} {i : Nat} (h : i < ks.length) : Ex.flats (ks.take (i + 1)) = Ex.flats (ks.take i) ++ ks[i].flat := by
  rw [take_snoc h, Ex.flats_append, Ex.flats_one]
theorem flats_part {ks : List Ex} {i : Nat} (h : i < ks.length) : Ex.flats ks = Ex.flats (ks.take i) ++ ks[i].flat ++ Ex.flats (ks.drop (i + 1)) := by
  rw [← flats_snoc h, ← Ex.flats_append, List.take_append_drop]
theorem root_at {n : NodeD} {ks : List Ex} {e pre post : List NodeD} (he : e = pre ++ (Ex.mk n ks).flat ++ post) : e = (pre ++ Ex.flats ks) ++ n :: post := by
  rw [he, Ex.flat]; simp
theorem root_get {n : NodeD} {a b e : List NodeD} (he : e = a ++ n :: b) : ∃ h : a.length < e.length, e[a.length] = n := by
  subst he
  exact ⟨by simp, by simp⟩
def ek (x : List NodeD) : List C := [.sl 6 (x.map NodeD.c)]
theorem kid_slice {n : NodeD} {ks : List Ex} {i : Nat} (h : i < ks.length) {a b : Nat} (ha : a = (Ex.flats (ks.take i)).length) (hb : b = (Ex.flats (ks.take (i + 1))).length) : (((Ex.mk n ks).flat.map NodeD.c).drop a).take (b - a) = ks[i].flat.map NodeD.c := by
  have hp := flats_part h
  have hs := flats_snoc h
  subst ha hb
  rw [hs, List.length_append, Nat.add_sub_cancel_left, Ex.flat, hp, ← List.map_drop, ← List.map_take]
  congr 1
  rw [List.append_assoc, List.append_assoc, List.drop_left' rfl, List.take_left' rfl]
end Go.Proofs.YtpkifeagopceaaaDoor.Pm
end
section
namespace Go.Proofs.YtpkifeagopceaaaDoor.Pm
open Go.RowKit K
set_option linter.unusedVariables false
set_option linter.unusedSimpArgs false
set_option maxRecDepth 100000
def NInT (t : Ex) : Prop := ∀ n ∈ t.flat, alF n = 0 ∧ WholeP.In64 n.V.N
theorem flats_mem : ∀ {l : List Ex} {t : Ex} {m : NodeD}, t ∈ l → m ∈ t.flat → m ∈ Ex.flats l
  | [], _, _, h, _ => by cases h
  | x :: l, t, m, h, hm => by
    rw [Ex.flats]
    rcases List.mem_cons.1 h with rfl | h
    · exact List.mem_append_left _ hm
    · exact List.mem_append_right _ (flats_mem h hm)
theorem nInT_kid {n : NodeD} {ks : List Ex} (h : NInT (.mk n ks)) : ∀ t ∈ ks, NInT t := by
  intro t ht m hm
  refine h m ?_
  rw [Ex.flat]
  refine List.mem_append_left _ ?_
  exact flats_mem ht hm
theorem nInT_root {n : NodeD} {ks : List Ex} (h : NInT (.mk n ks)) : alF n = 0 ∧ WholeP.In64 n.V.N := h n (by rw [Ex.flat]; simp)
mutual
theorem foldX_rv {look : Look} (hL : LookOk look) : ∀ (t : Ex), NInT t → ∀ v, foldX (nodF look) t = .ok v → RV v
  | .mk n ks, hn, v, h => by
    rw [foldX] at h
    split at h
    · cases h
    · rename_i vs hvs
      unfold nodF at h
      split at h
      · cases h
        have hr := nInT_root hn
        exact nod_rv hL hr.1 hr.2 fun u hu => (foldXs_rv hL ks (nInT_kid hn) vs hvs u hu).2
      · cases h
theorem foldXs_rv {look : Look} (hL : LookOk look) : ∀ (l : List Ex), (∀ t ∈ l, NInT t) → ∀ vs, foldXs (nodF look) l = .ok vs → ∀ u ∈ vs, RV u
  | [], _, vs, h, u, hu => by rw [foldXs] at h; cases h; cases hu
  | t :: l, hn, vs, h, u, hu => by
    rw [foldXs] at h
    split at h
    · cases h
    · rename_i v hv
      split at h
      · cases h
      · rename_i us hus
        cases h
        rcases List.mem_cons.1 hu with rfl | hu
        · exact foldX_rv hL t (hn t (List.mem_cons_self ..)) _ hv
        · exact foldXs_rv hL l (fun t ht => hn t (List.mem_cons_of_mem _ ht)) us hus u hu
end
mutual
theorem foldX_err {look : Look} : ∀ (t : Ex) {x : Int}, foldX (nodF look) t = .error x → x ≠ 0
  | .mk n ks, x, h => by
    rw [foldX] at h
    split at h
    · rename_i y hy; cases h; exact foldXs_err ks hy
    · exact nodF_err h
theorem foldXs_err {look : Look} : ∀ (l : List Ex) {x : Int}, foldXs (nodF look) l = .error x → x ≠ 0
  | [], x, h => by rw [foldXs] at h; cases h
  | t :: l, x, h => by
    rw [foldXs] at h
    split at h
    · rename_i y hy; cases h; exact foldX_err t hy
    · split at h
      · rename_i y hy; cases h; exact foldXs_err l hy
      · cases h
end
theorem recV_err {op : Int} {k : List ValueD} (h : (recV op k).2 ≠ 0) : (recV op k).1 = noV := by
  unfold recV at h ⊢
  split
  · rfl
  · rename_i q; rw [if_neg q] at h
    split
    · rfl
    · rename_i q; rw [if_neg q] at h
      split
      · rfl
      · rename_i q; rw [if_neg q] at h; exact absurd rfl h
theorem nodV_err {look : Look} {n : NodeD} {k : List ValueD} (h : (nodV look n k).2 ≠ 0) : (nodV look n k).1 = noV := by
  unfold nodV at h ⊢
  by_cases g1 : n.Op = 1
  · rw [if_pos g1] at h; exact absurd rfl h
  rw [if_neg g1] at h ⊢
  by_cases g2 : n.Op = 2
  · rw [if_pos g2] at h ⊢
    cases hq : look n.Name with
    | none => rfl
    | some v => rw [hq] at h; exact absurd rfl h
  rw [if_neg g2] at h ⊢
  by_cases g3 : n.Op = 3 ∨ (5 ≤ n.Op ∧ n.Op ≤ 9)
  · rw [if_pos g3] at h ⊢; exact recV_err h
  rw [if_neg g3] at h ⊢
  by_cases g4 : (askV (if negB n.Op then couF n.Op else n.Op) k).2 ≠ 0
  · rw [if_pos g4]
  · rw [if_neg g4] at h; exact absurd rfl h
def aheadV (vs : List ValueD) (r : Except Int (List ValueD)) : Except Int (List ValueD) := match r with
  | .error x => .error x
  | .ok us => .ok (vs ++ us)
end Go.Proofs.YtpkifeagopceaaaDoor.Pm
end
section
namespace Go.Proofs.YtpkifeagopceaaaDoor.Pm
open Go.RowKit K
set_option linter.unusedVariables false
set_option linter.unusedSimpArgs false
set_option maxRecDepth 100000
theorem p_samenodes (a b : List NodeD) (ha : a.length ≤ 140737488355328) : Pure Tryd.prog 12 [slV 6 NodeD.c a, slV 6 NodeD.c b] (pBool (listEqB NodeD.eqB a b)) := by
  refine pure_of Tryd.func12 (by rfl) rfl (by kernel_rfl) (by rfl) ?_
  by_cases hl : a.length = b.length
  · (((conv => whnf); repeat ((with_reducible first | refine BCase.tt ?_ | refine BCase.ff ?_); (conv => whnf))); repeat ((first | with_reducible refine Wr.u8 ?_ | ((with_reducible first | refine Wr.ci ?wxs ?_ | refine Wr.c3 ?wxs ?_ | refine Wr.c6 ?wxs ?_ | refine BCase.dt ?wxs ?_); case wxs => (first | omega | (simp only [lens, true_and, and_true]; (try omega); done))) | ((with_reducible refine BCase.df ?wxs ?_); case wxs => (first | omega | (simp only [lens, true_and, and_true]; (try omega); done))) | ((with_reducible refine Need.mk ?wxs ?_); case wxs => first | (first | omega | (simp only [lens, true_and, and_true]; (try omega); done)) | decide | kernel_rfl) | refine BCase.t (by decide) ?_ | refine BCase.f (by decide) ?_ | with_reducible (first | refine BCase.not ?_ | refine BCase.and ?_ | refine BCase.or ?_)); ((conv => whnf); repeat ((with_reducible first | refine BCase.tt ?_ | refine BCase.ff ?_); (conv => whnf)))))
    refine LoopC.mk Nat (fun k => [(0, slV 6 NodeD.c a), (1, slV 6 NodeD.c b), (5, pInt .i64 k)]) (fun _ => []) [] (fun k => k ≤ a.length ∧ listEqB NodeD.eqB (a.take k) (b.take k) = true) (fun k => a.length - k) 0 ⟨Nat.zero_le _, by simp [listEqB]⟩ ?start ?round
    case start => exact ⟨[], rfl, rfl, ⟨.inl rfl, .inl rfl, .inl rfl, trivial⟩, trivial⟩
    case round =>
      rintro k ⟨hk, hz⟩
      by_cases h1 : k < a.length
      · have h2 : k < b.length := by omega
        cases hx : NodeD.eqB a[k] b[k] with
        | true =>
          ((conv => whnf); repeat' ((first | (with_reducible first | apply a_ | apply b_ | apply c_) | ((with_reducible first | apply d_ | apply e_ | apply f_ | apply g_); focus first | omega | (simp only [q_] <;> omega)) | ((with_reducible first | apply i_ | apply h_); focus first | omega | (simp only [q_] <;> omega)) | ((with_reducible apply h_); focus first | decide | kernel_rfl) | refine BCase.t (by decide) ?_ | refine BCase.f (by decide) ?_ | (first | refine Idx.mapI (l := a) k rfl h1 ?_ | refine Idx.mapI (l := b) k rfl h2 ?_) | with_reducible first | apply l_ | apply m_ | apply n_ | apply o_ | refine p_ (fun _ => ?_) (fun _ => ?_)) <;> (conv => whnf)))
          all_goals first
            | exact ⟨k + 1, ⟨by omega, (listEqB_step hz h1 h2).trans hx⟩, by omega, [], rfl, rfl, ⟨.inl rfl, .inl rfl, PLe.int (by omega), trivial⟩, trivial⟩
            | (exfalso; have he := (NodeD.eqB_iff _ _).1 hx; rename_i z; exact z (by rw [he]))
        | false =>
          ((conv => whnf); repeat' ((first | (with_reducible first | apply a_ | apply b_ | apply c_) | ((with_reducible first | apply d_ | apply e_ | apply f_ | apply g_); focus first | omega | (simp only [q_] <;> omega)) | ((with_reducible first | apply i_ | apply h_); focus first | omega | (simp only [q_] <;> omega)) | ((with_reducible apply h_); focus first | decide | kernel_rfl) | refine BCase.t (by decide) ?_ | refine BCase.f (by decide) ?_ | (first | refine Idx.mapI (l := a) k rfl h1 ?_ | refine Idx.mapI (l := b) k rfl h2 ?_) | with_reducible first | apply l_ | apply m_ | apply n_ | apply o_ | refine p_ (fun _ => ?_) (fun _ => ?_)) <;> (conv => whnf)))
          all_goals first
            | exact Ret.bool (listEqB_stop h1 h2 hx).symm
            | (exfalso; rename_i e1 e2 e3 e4 e5 e6; have he : NodeD.eqB a[k] b[k] = true := by simp [NodeD.eqB, e1, e2, e3, e4, e5, e6]
               rw [he] at hx; cases hx)
      · ((conv => whnf); repeat' ((first | (with_reducible first | apply a_ | apply b_ | apply c_) | ((with_reducible first | apply d_ | apply e_ | apply f_ | apply g_); focus first | omega | (simp only [q_] <;> omega)) | ((with_reducible first | apply i_ | apply h_); focus first | omega | (simp only [q_] <;> omega)) | ((with_reducible apply h_); focus first | decide | kernel_rfl) | refine BCase.t (by decide) ?_ | refine BCase.f (by decide) ?_ | with_reducible first | apply l_ | apply m_ | apply n_ | apply o_ | refine p_ (fun _ => ?_) (fun _ => ?_)) <;> (conv => whnf)))
        exact Ret.bool (listEqB_all hz (by omega) (by omega)).symm
  · ((conv => whnf); repeat' ((first | (with_reducible first | apply a_ | apply b_ | apply c_) | ((with_reducible first | apply d_ | apply e_ | apply f_ | apply g_); focus first | omega | (simp only [q_] <;> omega)) | ((with_reducible first | apply i_ | apply h_); focus first | omega | (simp only [q_] <;> omega)) | ((with_reducible apply h_); focus first | decide | kernel_rfl) | refine BCase.t (by decide) ?_ | refine BCase.f (by decide) ?_ | with_reducible first | apply l_ | apply m_ | apply n_ | apply o_ | refine p_ (fun _ => ?_) (fun _ => ?_)) <;> (conv => whnf)))
    exact Ret.bool (listEqB_len hl).symm
def hasCols (l : List NodeD) : Bool := l.any fun n => decide (n.Op = 2)
end Go.Proofs.YtpkifeagopceaaaDoor.Pm
end
section
namespace Go.Proofs.YtpkifeagopceaaaDoor.Pm
open Go.RowKit K
set_option linter.unusedVariables false
set_option linter.unusedSimpArgs false
set_option maxRecDepth 100000
def litN (v : ValueD) : NodeD := ⟨1, 0, v, []⟩
abbrev litT (v : ValueD) : Ex := .mk (litN v) []
mutual
def hasC : Ex → Bool
  | .mk n ks => decide (n.Op = 2) || hasCs ks
def hasCs : List Ex → Bool
  | [] => false
  | t :: ts => hasC t || hasCs ts
end
abbrev noLook : Look := fun _ => none
noncomputable def foldN (c : Bool) (n : NodeD) (ks : List Ex) : Ex :=
  if c then .mk n ks else match foldX (nodF noLook) (.mk n ks) with
    | .ok v => if 0 ≤ v.N then litT v else .mk n ks
    | .error _ => .mk n ks
mutual
noncomputable def foldE : Ex → Ex
  | .mk n ks => foldN (hasC (.mk n ks)) n (foldEs ks)
noncomputable def foldEs : List Ex → List Ex
  | [] => []
  | t :: ts => foldE t :: foldEs ts
end
theorem foldEs_len : ∀ l : List Ex, (foldEs l).length = l.length
  | [] => by rw [foldEs]
  | t :: l => by rw [foldEs, List.length_cons, List.length_cons, foldEs_len l]
theorem foldEs_map : ∀ l : List Ex, foldEs l = l.map foldE
  | [] => by rw [foldEs, List.map_nil]
  | t :: l => by rw [foldEs, List.map_cons, foldEs_map l]
mutual
theorem hasC_flat : ∀ t : Ex, hasC t = hasCols t.flat
  | .mk n ks => by
    rw [hasC, Ex.flat, hasCs_flats ks]
    unfold hasCols
    rw [List.any_append]
    cases (Ex.flats ks).any (fun n => decide (n.Op = 2)) <;> simp
theorem hasCs_flats : ∀ l : List Ex, hasCs l = hasCols (Ex.flats l)
  | [] => by rw [hasCs, Ex.flats]; rfl
  | t :: l => by
    rw [hasCs, Ex.flats, hasC_flat t, hasCs_flats l]
    unfold hasCols
    rw [List.any_append]
end
theorem nodV_look {a b : Look} {n : NodeD} (h : n.Op ≠ 2) (k : List ValueD) : nodV a n k = nodV b n k := by
  unfold nodV
  by_cases g1 : n.Op = 1
  · rw [if_pos g1, if_pos g1]
  · rw [if_neg g1, if_neg g1, if_neg h, if_neg h]
theorem nodF_look {a b : Look} {n : NodeD} (h : n.Op ≠ 2) (k : List ValueD) : nodF a n k = nodF b n k := by
  unfold nodF
  rw [nodV_look (a := a) (b := b) h k]
mutual
theorem foldX_look (a b : Look) : ∀ t : Ex, hasC t = false → foldX (nodF a) t = foldX (nodF b) t
  | .mk n ks, h => by
    rw [hasC, Bool.or_eq_false_iff] at h
    rw [foldX, foldX, foldXs_look a b ks h.2]
    have h2 : n.Op ≠ 2 := of_decide_eq_false h.1
    cases foldXs (nodF b) ks with
    | error x => rfl
    | ok vs => exact nodF_look h2 vs
theorem foldXs_look (a b : Look) : ∀ l : List Ex, hasCs l = false → foldXs (nodF a) l = foldXs (nodF b) l
  | [], _ => by rw [foldXs, foldXs]
  | t :: l, h => by
    rw [hasCs, Bool.or_eq_false_iff] at h
    rw [foldXs, foldXs, foldX_look a b t h.1, foldXs_look a b l h.2]
end
theorem foldX_lit (look : Look) (v : ValueD) : foldX (nodF look) (litT v) = .ok v := by
  rw [foldX, foldXs]
  show nodF look (litN v) [] = _
  have : nodV look (litN v) [] = (v, 0) := by unfold nodV; exact if_pos rfl
  unfold nodF
  rw [this]; rfl
theorem hasC_lit (v : ValueD) : hasC (litT v) = false := by rw [hasC, hasCs]; rfl
theorem foldN_has {c : Bool} {n : NodeD} {ks : List Ex} (h : hasC (.mk n ks) = false) : hasC (foldN c n ks) = false := by
  unfold foldN
  split
  · exact h
  · split
    · split
      · exact hasC_lit _
      · exact h
    · exact h
mutual
theorem foldE_has : ∀ t : Ex, hasC t = false → hasC (foldE t) = false
  | .mk n ks, h => by
    rw [foldE]
    refine foldN_has ?_
    rw [hasC, Bool.or_eq_false_iff] at h ⊢
    exact ⟨h.1, foldEs_has ks h.2⟩
theorem foldEs_has : ∀ l : List Ex, hasCs l = false → hasCs (foldEs l) = false
  | [], _ => by rw [foldEs, hasCs]
  | t :: l, h => by
    rw [hasCs, Bool.or_eq_false_iff] at h
    rw [foldEs, hasCs, foldE_has t h.1, foldEs_has l h.2]; rfl
end
theorem foldN_val (look : Look) {c : Bool} {n : NodeD} {ks : List Ex} (hc : c = false → hasC (.mk n ks) = false) : foldX (nodF look) (foldN c n ks) = foldX (nodF look) (.mk n ks) := by
  unfold foldN
  split
  · rfl
  · rename_i h
    have h : c = false := by simpa using h
    have hn := hc h
    rw [foldX_look look noLook _ hn]
    split
    · rename_i v hv
      split
      · rw [foldX_lit, hv]
      · rw [foldX_look look noLook _ hn]
    · rw [foldX_look look noLook _ hn]
mutual
theorem foldE_val (look : Look) : ∀ t : Ex, foldX (nodF look) (foldE t) = foldX (nodF look) t
  | .mk n ks => by
    rw [foldE, foldN_val look (n := n) (ks := foldEs ks), foldX, foldX, foldEs_val look ks]
    intro h
    rw [hasC, Bool.or_eq_false_iff] at h ⊢
    exact ⟨h.1, foldEs_has ks h.2⟩
theorem foldEs_val (look : Look) : ∀ l : List Ex, foldXs (nodF look) (foldEs l) = foldXs (nodF look) l
  | [] => by rw [foldEs]
  | t :: l => by rw [foldEs, foldXs, foldXs, foldE_val look t, foldEs_val look l]
end
theorem lit_al {v : ValueD} (h : RV v) (h0 : 0 ≤ v.N) : alF (litN v) = 0 := by
  unfold alF
  rw [if_neg (by show ¬ ((1 : Int) < 1 ∨ (25 : Int) < 1); omega), if_neg]
  · refine (if_pos (show (litN v).Op = 1 from rfl)).trans ?_
    show (if vChk v ≠ 0 then vChk v else if v.N < 0 then 3 else 0) = 0
    rw [if_neg (by have : vChk v = 0 := h.1; rw [this]; decide), if_neg (by omega)]
  · rintro (g | g | g | g)
    · exact absurd g (by show ¬ (0 : Int) < leastK 1; decide)
    · exact absurd g (by show ¬ mostK 1 < (0 : Int); decide)
    · exact absurd rfl g.1
    · exact absurd rfl g.2
theorem lit_nin {v : ValueD} (h : RV v) (h0 : 0 ≤ v.N) : NInT (litT v) := by
  intro m hm
  rw [Ex.flat, Ex.flats] at hm
  simp only [List.nil_append, List.mem_singleton] at hm
  subst hm
  exact ⟨lit_al h h0, h.2⟩
theorem nInT_mk {n : NodeD} {ks : List Ex} (h : alF n = 0 ∧ WholeP.In64 n.V.N) (hk : ∀ m ∈ Ex.flats ks, alF m = 0 ∧ WholeP.In64 m.V.N) : NInT (.mk n ks) := by
  intro m hm
  rw [Ex.flat] at hm
  rcases List.mem_append.1 hm with hm | hm
  · exact hk m hm
  · rw [List.mem_singleton.1 hm]; exact h
theorem noLook_ok : LookOk noLook := fun s v h => by cases h
theorem foldN_nin {c : Bool} {n : NodeD} {ks : List Ex} (h : NInT (.mk n ks)) : NInT (foldN c n ks) := by
  unfold foldN
  split
  · exact h
  · split
    · rename_i v hv
      split
      · rename_i h0; exact lit_nin (foldX_rv noLook_ok _ h _ hv) h0
      · exact h
    · exact h
mutual
theorem foldE_nin : ∀ t : Ex, NInT t → NInT (foldE t)
  | .mk n ks, h => by
    rw [foldE]
    exact foldN_nin (nInT_mk (nInT_root h) (foldEs_nin ks (nInT_kid h)))
theorem foldEs_nin : ∀ l : List Ex, (∀ t ∈ l, NInT t) → ∀ m ∈ Ex.flats (foldEs l), alF m = 0 ∧ WholeP.In64 m.V.N
  | [], _, m, hm => by rw [foldEs, Ex.flats] at hm; cases hm
  | t :: l, h, m, hm => by
    rw [foldEs, Ex.flats] at hm
    rcases List.mem_append.1 hm with hm | hm
    · exact foldE_nin t (h t (List.mem_cons_self ..)) m hm
    · exact foldEs_nin l (fun t ht => h t (List.mem_cons_of_mem _ ht)) m hm
end
theorem foldN_good {c : Bool} {n : NodeD} {ks : List Ex} (h : (Ex.mk n ks).good) : (foldN c n ks).good := by
  have hl : ∀ v, (litT v).good := fun v => by rw [Ex.good, Ex.goods]; exact ⟨rfl, trivial⟩
  unfold foldN
  split
  · exact h
  · split
    · split
      · exact hl _
      · exact h
    · exact h
mutual
theorem foldE_good : ∀ t : Ex, t.good → (foldE t).good
  | .mk n ks, h => by
    rw [foldE]
    rw [Ex.good] at h
    refine foldN_good ?_
    rw [Ex.good, foldEs_len]
    exact ⟨h.1, foldEs_good ks h.2⟩
theorem foldEs_good : ∀ l : List Ex, Ex.goods l → Ex.goods (foldEs l)
  | [], _ => by rw [foldEs, Ex.goods]; trivial
  | t :: l, h => by
    rw [Ex.goods] at h
    rw [foldEs, Ex.goods]
    exact ⟨foldE_good t h.1, foldEs_good l h.2⟩
end
theorem foldN_short {c : Bool} {n : NodeD} {ks : List Ex} : (foldN c n ks).flat.length ≤ (Ex.mk n ks).flat.length := by
  have hl : ∀ v, (litT v).flat.length = 1 := fun v => by rw [Ex.flat, Ex.flats]; rfl
  have := (Ex.mk n ks).flat_pos
  unfold foldN
  split
  · omega
  · split
    · split
      · rw [hl]; omega
      · omega
    · omega
mutual
theorem foldE_short : ∀ t : Ex, (foldE t).flat.length ≤ t.flat.length
  | .mk n ks => by
    rw [foldE]
    have h1 := foldN_short (c := hasC (.mk n ks)) (n := n) (ks := foldEs ks)
    have h2 := foldEs_short ks
    rw [Ex.flat, List.length_append] at h1 ⊢
    omega
theorem foldEs_short : ∀ l : List Ex, (Ex.flats (foldEs l)).length ≤ (Ex.flats l).length
  | [] => by rw [foldEs]; exact Nat.le_refl _
  | t :: l => by
    rw [foldEs, Ex.flats, Ex.flats, List.length_append, List.length_append]
    have h1 := foldE_short t
    have h2 := foldEs_short l
    omega
end
theorem foldN_depth {c : Bool} {n : NodeD} {ks : List Ex} : (foldN c n ks).depth ≤ (Ex.mk n ks).depth := by
  have hl : ∀ v, (litT v).depth = 1 := fun v => by rw [Ex.depth, Ex.depths]
  have h1 : 1 ≤ (Ex.mk n ks).depth := by rw [Ex.depth]; omega
  unfold foldN
  split
  · omega
  · split
    · split
      · rw [hl]; omega
      · omega
    · omega
mutual
theorem foldE_depth : ∀ t : Ex, (foldE t).depth ≤ t.depth
  | .mk n ks => by
    rw [foldE]
    have h1 := foldN_depth (c := hasC (.mk n ks)) (n := n) (ks := foldEs ks)
    have h2 := foldEs_depth ks
    rw [Ex.depth] at h1 ⊢
    omega
theorem foldEs_depth : ∀ l : List Ex, Ex.depths (foldEs l) ≤ Ex.depths l
  | [] => by rw [foldEs]; exact Nat.le_refl _
  | t :: l => by
    rw [foldEs, Ex.depths, Ex.depths]
    have h1 := foldE_depth t
    have h2 := foldEs_depth l
    omega
end
end Go.Proofs.YtpkifeagopceaaaDoor.Pm
end
section
namespace Go.Proofs.YtpkifeagopceaaaDoor.Pm
open Go.RowKit K
set_option linter.unusedVariables false
set_option linter.unusedSimpArgs false
set_option maxRecDepth 100000
structure FoldD where
  e : List NodeD
  cols : Bool
def FoldD.c (x : FoldD) : List C := [.sl 6 (x.e.map NodeD.c), .v (.bool x.cols)]
abbrev fV (x : FoldD) : PV := .agg (x.c.map D.c)
def catF (fs : List FoldD) : List NodeD := fs.flatMap FoldD.e
def pickF (e : List NodeD) (r : Except Int ValueD) : FoldD := match r with
  | .ok v => if 0 ≤ v.N then ⟨[litN v], false⟩ else ⟨e, false⟩
  | .error _ => ⟨e, false⟩
noncomputable def foldL (n : NodeD) (fs : List FoldD) : FoldD :=
  if decide (n.Op = 2) || fs.any FoldD.cols then ⟨catF fs ++ [n], true⟩ else pickF (catF fs ++ [n]) (walkR (nodF noLook) (catF fs ++ [n]))
theorem p_raw0 (l : List NodeD) (hl : l.length ≤ 1000) (hn : NIn l) : Pure Tryd.prog 19 [slV 6 NodeD.c l, .d (.c (.v (.slice none 0 0))), .d (.c (.v (.slice none 0 0)))] (eVal (walkR (nodF noLook) l)) := by
  have h := p_raw l hl hn [] [] rfl (by simp) (fun v h => by cases h)
  rw [show lookC [] [] = noLook from rfl] at h
  refine h.le ⟨?_, ?_, ?_, rfl⟩
  · exact .inl rfl
  · exact .inr ⟨⟨1, rfl⟩, .inl rfl⟩
  · exact .inr ⟨⟨3, rfl⟩, .inl rfl⟩
theorem p_fold (n : NodeD) (fs : List FoldD) (hl : (catF fs ++ [n]).length ≤ 1000) (hf : fs.length ≤ 1000) (hn : NIn (catF fs ++ [n])) : Pure Tryd.prog 26 [nV n, slV 2 FoldD.c fs] (.tup [fV (foldL n fs), pInt .i64 0]) := by
  have pr := p_raw0 (catF fs ++ [n]) hl hn
  refine pure_of Tryd.func26 (by rfl) rfl (by kernel_rfl) (by rfl) ?_
  ((conv => whnf); repeat' ((first | (with_reducible first | apply a_ | apply b_ | apply c_) | ((with_reducible first | apply d_ | apply e_ | apply f_ | apply g_); focus first | omega | (simp only [q_] <;> omega)) | ((with_reducible first | apply i_ | apply h_); focus first | omega | (simp only [q_] <;> omega)) | ((with_reducible apply h_); focus first | decide | kernel_rfl) | refine BCase.t (by decide) ?_ | refine BCase.f (by decide) ?_ | with_reducible first | apply l_ | apply m_ | apply n_ | apply o_ | refine p_ (fun _ => ?_) (fun _ => ?_)) <;> (conv => whnf)))
  refine LoopC.mk Nat (fun j => [(2, .d (.ptr 2 0)), (4, .d (.ptr 4 0)), (6, .d (.ptr 6 0)), (15, slV 2 FoldD.c fs), (16, pInt .i64 fs.length), (17, pInt .i64 j)]) (fun j => [(2, .box 40 (n.c.map D.c)), (4, .box 54 [.c (.v (.slice none 0 0)), .c (.v (.bool false))]), (6, .box 54 [.app 60 40 6 ((catF (fs.take j)).map NodeD.c), .c (.v (.bool (decide (n.Op = 2) || (fs.take j).any FoldD.cols)))]), (60, .tail 40 6)]) [2, 4, 6, 60] (fun j => j ≤ fs.length) (fun j => fs.length - j) 0 (Nat.zero_le _) ?start ?round
  case start => exact ⟨[(2, 2), (4, 4), (6, 6)], rfl, rfl, ⟨⟨rfl, rfl, rfl⟩, ⟨rfl, rfl, rfl⟩, ⟨rfl, rfl, rfl⟩, .inl rfl, PLe.int (by simp), .inl rfl, trivial⟩, ⟨rfl, rfl, ⟨.inl rfl, .inl rfl, .inl rfl, .inl rfl, .inl rfl, .inl rfl, rfl⟩⟩, ⟨rfl, rfl, ⟨.inl rfl, .inl rfl, rfl⟩⟩, ⟨rfl, rfl, ⟨⟨rfl, rfl, Nat.zero_lt_succ _, rfl, rfl⟩, .inl (by simp), rfl⟩⟩, ⟨rfl, Nat.zero_lt_succ _⟩, trivial⟩
  case round =>
    intro j hj
    have hj : j ≤ fs.length := hj
    by_cases q : j < fs.length
    · have e1 : catF (fs.take (j + 1)) = catF (fs.take j) ++ fs[j].e := by rw [take_snoc q]; unfold catF; rw [List.flatMap_append]; simp
      have e2 : (fs.take (j + 1)).any FoldD.cols = ((fs.take j).any FoldD.cols || fs[j].cols) := by rw [take_snoc q, List.any_append]; simp
      have e3 : (catF (fs.take (j + 1))).length ≤ (catF fs).length := by
        conv => rhs; rw [← List.take_append_drop (j + 1) fs]
        unfold catF
        rw [List.flatMap_append, List.length_append]; omega
      rw [List.length_append, List.length_singleton] at hl
      rw [e1, List.length_append] at e3
      obtain ⟨b, hb⟩ : ∃ b, b = (decide (n.Op = 2) || (fs.take j).any FoldD.cols) := ⟨_, rfl⟩
      have e4 : (decide (n.Op = 2) || (fs.take (j + 1)).any FoldD.cols) = (b || fs[j].cols) := by rw [e2, ← Bool.or_assoc, ← hb]
      rw [← hb]
      cases b
      all_goals
        ((conv => whnf); repeat' ((first | (with_reducible first | apply a_ | apply b_ | apply c_) | ((with_reducible first | apply d_ | apply e_ | apply f_ | apply g_); focus first | omega | (simp only [q_] <;> omega)) | ((with_reducible first | apply i_ | apply h_); focus first | omega | (simp only [q_] <;> omega)) | ((with_reducible apply h_); focus first | decide | kernel_rfl) | refine BCase.t (by decide) ?_ | refine BCase.f (by decide) ?_ | (refine Idx.mapI j rfl q ?_) | (refine Need.by 64 rfl (by simp only [List.length_map]; omega) ?_) | with_reducible first | apply l_ | apply m_ | apply n_ | apply o_ | refine p_ (fun _ => ?_) (fun _ => ?_)) <;> (conv => whnf)))
        exact ⟨j + 1, by show j + 1 ≤ _; omega, by omega, [(2, 2), (4, 4), (6, 6), (60, 25)], rfl, rfl, ⟨⟨rfl, rfl, rfl⟩, ⟨rfl, rfl, rfl⟩, ⟨rfl, rfl, rfl⟩, .inl rfl, .inl rfl, PLe.int rfl, trivial⟩, ⟨rfl, rfl, ⟨.inl rfl, .inl rfl, .inl rfl, .inl rfl, .inl rfl, .inl rfl, rfl⟩⟩, ⟨rfl, rfl, ⟨.inl rfl, .inl rfl, rfl⟩⟩, ⟨rfl, rfl, ⟨⟨rfl, rfl, rfl, rfl, by rw [e1, List.map_append]⟩, .inl (by rw [e4]; rfl), rfl⟩⟩, ⟨rfl, rfl, rfl⟩, trivial⟩
    · rw [List.take_of_length_le (by omega)]
      have hl2 := hl
      rw [List.length_append, List.length_singleton] at hl2
      unfold foldL
      have em : (catF fs ++ [n]).map NodeD.c = (catF fs).map NodeD.c ++ [n.c] := by rw [List.map_append]; rfl
      cases hb : decide (n.Op = 2) || fs.any FoldD.cols with
      | true =>
        rw [if_pos rfl]
        ((conv => whnf); repeat' ((first | (with_reducible first | apply a_ | apply b_ | apply c_) | ((with_reducible first | apply d_ | apply e_ | apply f_ | apply g_); focus first | omega | (simp only [q_] <;> omega)) | ((with_reducible first | apply i_ | apply h_); focus first | omega | (simp only [q_] <;> omega)) | ((with_reducible apply h_); focus first | decide | kernel_rfl) | refine BCase.t (by decide) ?_ | refine BCase.f (by decide) ?_ | (refine Need.by 64 rfl (by simp only [List.length_map, List.length_singleton]; omega) ?_) | with_reducible first | apply l_ | apply m_ | apply n_ | apply o_ | refine p_ (fun _ => ?_) (fun _ => ?_)) <;> (conv => whnf)))
        refine Ret.eq ?_
        show _ = PV.tup [.agg [.c (.sl 6 ((catF fs ++ [n]).map NodeD.c)), .c (.v (.bool true))], pInt .i64 0]
        rw [em]; rfl
      | false =>
        rw [if_neg (by simp)]
        have eS : slV 6 NodeD.c (catF fs ++ [n]) = .d (.c (.sl 6 ((catF fs).map NodeD.c ++ [n.c]))) := by show PV.d (.c (.sl 6 _)) = _; rw [em]
        rw [eS] at pr
        cases hw : walkR (nodF noLook) (catF fs ++ [n]) with
        | ok v =>
          rw [hw] at pr
          have pr : Pure _ _ _ (.tup [vV v, pInt .i64 0]) := pr
          by_cases h0 : 0 ≤ v.N
          · rw [show pickF (catF fs ++ [n]) (.ok v) = ⟨[litN v], false⟩ from if_pos h0]
            ((conv => whnf); repeat' ((first | (with_reducible first | apply a_ | apply b_ | apply c_) | ((with_reducible first | apply d_ | apply e_ | apply f_ | apply g_); focus first | omega | (simp only [q_] <;> omega)) | ((with_reducible first | apply i_ | apply h_); focus first | omega | (simp only [q_] <;> omega)) | ((with_reducible apply h_); focus first | decide | kernel_rfl) | refine BCase.t (by decide) ?_ | refine BCase.f (by decide) ?_ | (refine Need.by 64 rfl (by simp only [List.length_map, List.length_singleton]; omega) ?_) | refine CallP.pure _ rfl _ (pr) ?_ | with_reducible first | apply l_ | apply m_ | apply n_ | apply o_ | refine p_ (fun _ => ?_) (fun _ => ?_)) <;> (conv => whnf)))
            all_goals first | exact Ret.eq rfl | (exfalso; omega)
          · rw [show pickF (catF fs ++ [n]) (.ok v) = ⟨catF fs ++ [n], false⟩ from if_neg h0]
            ((conv => whnf); repeat' ((first | (with_reducible first | apply a_ | apply b_ | apply c_) | ((with_reducible first | apply d_ | apply e_ | apply f_ | apply g_); focus first | omega | (simp only [q_] <;> omega)) | ((with_reducible first | apply i_ | apply h_); focus first | omega | (simp only [q_] <;> omega)) | ((with_reducible apply h_); focus first | decide | kernel_rfl) | refine BCase.t (by decide) ?_ | refine BCase.f (by decide) ?_ | (refine Need.by 64 rfl (by simp only [List.length_map, List.length_singleton]; omega) ?_) | refine CallP.pure _ rfl _ (pr) ?_ | with_reducible first | apply l_ | apply m_ | apply n_ | apply o_ | refine p_ (fun _ => ?_) (fun _ => ?_)) <;> (conv => whnf)))
            all_goals first | exact Ret.eq (by show _ = PV.tup [.agg [.c (.sl 6 ((catF fs ++ [n]).map NodeD.c)), .c (.v (.bool false))], pInt .i64 0]; rw [em]; rfl) | (exfalso; omega)
        | error x =>
          rw [hw] at pr
          have pr : Pure _ _ _ (.tup [vV noV, pInt .i64 x]) := pr
          have h0 := walkR_err (fun n k x => nodF_err) hw
          ((conv => whnf); repeat' ((first | (with_reducible first | apply a_ | apply b_ | apply c_) | ((with_reducible first | apply d_ | apply e_ | apply f_ | apply g_); focus first | omega | (simp only [q_] <;> omega)) | ((with_reducible first | apply i_ | apply h_); focus first | omega | (simp only [q_] <;> omega)) | ((with_reducible apply h_); focus first | decide | kernel_rfl) | refine BCase.t (by decide) ?_ | refine BCase.f (by decide) ?_ | (refine Need.by 64 rfl (by simp only [List.length_map, List.length_singleton]; omega) ?_) | refine CallP.pure _ rfl _ (pr) ?_ | with_reducible first | apply l_ | apply m_ | apply n_ | apply o_ | refine p_ (fun _ => ?_) (fun _ => ?_)) <;> (conv => whnf)))
          all_goals first | exact Ret.eq (by show _ = PV.tup [.agg [.c (.sl 6 ((catF fs ++ [n]).map NodeD.c)), .c (.v (.bool false))], pInt .i64 0]; rw [em]; rfl) | (exfalso; omega)
end Go.Proofs.YtpkifeagopceaaaDoor.Pm
end
section
namespace Go.Proofs.YtpkifeagopceaaaDoor.Pm
open Go.RowKit K
set_option linter.unusedVariables false
set_option linter.unusedSimpArgs false
set_option maxRecDepth 100000
theorem p_clonef (l : List FoldD) (h : l.length ≤ 1000000) : Pure Tryd.prog 38 [slV 2 FoldD.c l] (slV 2 FoldD.c l) := by
  cases l with
  | nil =>
    refine pure_sl0 ?_ fun a cap => ?_
    · refine pure_of Tryd.func38 (by rfl) rfl (by kernel_rfl) (by rfl) ?_
      ((conv => whnf); repeat' ((first | (with_reducible first | apply a_ | apply b_ | apply c_) | ((with_reducible first | apply d_ | apply e_ | apply f_ | apply g_); focus first | omega | (simp only [q_] <;> omega)) | ((with_reducible first | apply i_ | apply h_); focus first | omega | (simp only [q_] <;> omega)) | ((with_reducible apply h_); focus first | decide | kernel_rfl) | refine BCase.t (by decide) ?_ | refine BCase.f (by decide) ?_ | with_reducible first | apply l_ | apply m_ | apply n_ | apply o_ | refine p_ (fun _ => ?_) (fun _ => ?_)) <;> (conv => whnf)))
      exact Ret.le (.inr ⟨⟨2, rfl⟩, .inl rfl⟩)
    · refine pure_of Tryd.func38 (by rfl) rfl (by kernel_rfl) (by rfl) ?_
      ((conv => whnf); repeat' ((first | (with_reducible first | apply a_ | apply b_ | apply c_) | ((with_reducible first | apply d_ | apply e_ | apply f_ | apply g_); focus first | omega | (simp only [q_] <;> omega)) | ((with_reducible first | apply i_ | apply h_); focus first | omega | (simp only [q_] <;> omega)) | ((with_reducible apply h_); focus first | decide | kernel_rfl) | refine BCase.t (by decide) ?_ | refine BCase.f (by decide) ?_ | with_reducible first | apply l_ | apply m_ | apply n_ | apply o_ | refine p_ (fun _ => ?_) (fun _ => ?_)) <;> (conv => whnf)))
      exact Ret.mk rfl
  | cons x l =>
    refine pure_of Tryd.func38 (by rfl) rfl (by kernel_rfl) (by rfl) ?_
    ((conv => whnf); repeat' ((first | (with_reducible first | apply a_ | apply b_ | apply c_) | ((with_reducible first | apply d_ | apply e_ | apply f_ | apply g_); focus first | omega | (simp only [q_] <;> omega)) | ((with_reducible first | apply i_ | apply h_); focus first | omega | (simp only [q_] <;> omega)) | ((with_reducible apply h_); focus first | decide | kernel_rfl) | refine BCase.t (by decide) ?_ | refine BCase.f (by decide) ?_ | (refine Need.mk (List.cons_ne_nil _ _) ?_) | (refine Need.by 32 rfl (by simp only [List.length_map, List.length_nil, Nat.zero_add]; omega) ?_) | with_reducible first | apply l_ | apply m_ | apply n_ | apply o_ | refine p_ (fun _ => ?_) (fun _ => ?_)) <;> (conv => whnf)))
    exact Ret.mk rfl
theorem s_clonef (l : List FoldD) (lo n : Nat) (h : lo + n ≤ l.length) (hn : n ≠ 0) (hz : l.length ≤ 1000000) : CallS Tryd.prog 38 [.d (.arr FK 54 2 lo n)] [(FK, .arr 54 2 (l.map FoldD.c))] [] (slV 2 FoldD.c ((l.drop lo).take n)) [] := by
  refine callS_of Tryd.func38 (by rfl) rfl (by kernel_rfl) (by rfl) [FK] rfl ?_
  ((conv => whnf); repeat' ((first | (with_reducible first | apply a_ | apply b_ | apply c_) | ((with_reducible first | apply d_ | apply e_ | apply f_ | apply g_); focus first | omega | (simp only [q_] <;> omega)) | ((with_reducible first | apply i_ | apply h_); focus first | omega | (simp only [q_] <;> omega)) | ((with_reducible apply h_); focus first | decide | kernel_rfl) | refine BCase.t (by decide) ?_ | refine BCase.f (by decide) ?_ | (refine Need.mk hn ?_) | (refine Need.mk (by rw [List.length_map]; exact h) ?_) | (refine Need.by 32 rfl (by simp only [List.length_nil, Nat.zero_add]; omega) ?_) | with_reducible first | apply l_ | apply m_ | apply n_ | apply o_ | refine p_ (fun _ => ?_) (fun _ => ?_)) <;> (conv => whnf)))
  refine RetS.mk [(FK, FK)] [FK] rfl rfl ?_ ?_
  · show C.sl 2 _ = C.sl 2 _
    rw [List.map_take, List.map_drop]; rfl
  · exact ⟨⟨rfl, rfl, rfl, rfl⟩, trivial⟩
theorem s_lastf (st : List FoldD) (K : Int) (h0 : 0 ≤ K) (h1 : K ≤ st.length) (hz : st.length ≤ 1000000) : CallS Tryd.prog 38 [.d (.arr FK 54 2 (0 + ((st.length : Int) - K).toNat) (((st.length : Nat) : Int).toNat - ((st.length : Int) - K).toNat))] [(FK, .arr 54 2 (st.map FoldD.c))] [] (slV 2 FoldD.c (st.drop (st.length - K.toNat))) [] := by
  have e1 : 0 + ((st.length : Int) - K).toNat = st.length - K.toNat := by omega
  have e2 : ((st.length : Nat) : Int).toNat - ((st.length : Int) - K).toNat = K.toNat := by omega
  rw [e1, e2]
  by_cases k0 : K = 0
  · subst k0
    rw [show st.drop (st.length - (0 : Int).toNat) = [] from List.drop_of_length_le (by simp)]
    exact (p_clonef [] (by simp)).empty1
  · have := s_clonef st (st.length - K.toNat) K.toNat (by omega) (by omega) hz
    rwa [List.take_of_length_le (by rw [List.length_drop]; omega)] at this
theorem walkG_rv {look : Look} (hL : LookOk look) : ∀ (l : List NodeD) (st us : List ValueD), NIn l → (∀ x ∈ st, RV x) → walkG (nodF look) st l = .ok us → ∀ x ∈ us, RV x
  | [], st, us, _, hs, h => by cases h; exact hs
  | n :: l, st, us, hn, hs, h => by
    rw [walkG_cons] at h
    split at h
    · cases h
    · split at h
      · cases h
      · rename_i x hx
        have h1 := hn n (List.mem_cons_self ..)
        refine walkG_rv hL l _ us (fun m hm => hn m (List.mem_cons_of_mem _ hm)) (fun y hy => ?_) h
        rcases List.mem_append.1 hy with hy | hy
        · exact hs y (List.mem_of_mem_take hy)
        · rw [List.mem_singleton.1 hy]
          unfold nodF at hx
          split at hx
          · cases hx; exact nod_rv hL h1.1 h1.2 fun v hv => (hs v (List.mem_of_mem_drop hv)).2
          · cases hx
theorem walkR_rv {look : Look} (hL : LookOk look) {l : List NodeD} {v : ValueD} (hn : NIn l) (h : walkR (nodF look) l = .ok v) : RV v := by
  unfold walkR at h
  split at h
  · cases h
  · rename_i x hx
    cases h
    exact walkG_rv hL l [] _ hn (fun x hx => by cases hx) hx _ (List.mem_cons_self ..)
  · cases h
noncomputable def foldWF (n : NodeD) (fs : List FoldD) : Except Int FoldD := .ok (foldL n fs)
theorem foldL_ok {n : NodeD} {fs : List FoldD} (h : NIn (catF fs ++ [n])) : (foldL n fs).e.length ≤ (catF fs).length + 1 ∧ NIn (foldL n fs).e := by
  have hl : (catF fs ++ [n]).length = (catF fs).length + 1 := by simp
  unfold foldL
  split
  · exact ⟨by rw [hl]; exact Nat.le_refl _, h⟩
  · unfold pickF
    split
    · rename_i v hv
      split
      · rename_i h0
        have hr := walkR_rv noLook_ok h hv
        refine ⟨by show 1 ≤ _; omega, fun m hm => ?_⟩
        rw [List.mem_singleton.1 hm]
        exact ⟨lit_al hr h0, hr.2⟩
      · exact ⟨by rw [hl]; exact Nat.le_refl _, h⟩
    · exact ⟨by rw [hl]; exact Nat.le_refl _, h⟩
theorem catF_app (a b : List FoldD) : catF (a ++ b) = catF a ++ catF b := by unfold catF; rw [List.flatMap_append]
theorem catF_one (a : FoldD) : catF [a] = a.e := by unfold catF; simp
abbrev fZ : List D := [.c (.v (.slice none 0 0)), .c (.v (.bool false))]
def eFold (r : Except Int FoldD) : PV := match r with
  | .ok f => .tup [fV f, pInt .i64 0]
  | .error x => .tup [fV ⟨[], false⟩, pInt .i64 x]
def wfE (l : List NodeD) (j : Nat) (st : List FoldD) : List (Nat × PV) := [(1, fnV 26), (4, .d (.ptr 4 0)), (6, .d (.ptr 6 0)), (7, .d (.arr 60 54 2 0 st.length)), (13, slV 6 NodeD.c l), (14, pInt .i64 l.length), (15, pInt .i64 j)]
theorem p_walkf (l : List NodeD) (hl : l.length ≤ 900) (hn : NIn l) : Pure Tryd.prog 25 [slV 6 NodeD.c l, fnV 26] (eFold (walkR foldWF l)) := by
  refine pure_of Tryd.func25 (by rfl) rfl (by kernel_rfl) (by rfl) ?_
  have RE : Ret (.tup [.agg fZ, pInt .i64 1]) (eFold (.error 1)) := Ret.le ⟨⟨.inr ⟨⟨6, rfl⟩, .inl rfl⟩, .inl rfl, rfl⟩, .inl rfl, rfl⟩
  ((conv => whnf); repeat' ((first | (with_reducible first | apply a_ | apply b_ | apply c_) | ((with_reducible first | apply d_ | apply e_ | apply f_ | apply g_); focus first | omega | (simp only [q_] <;> omega)) | ((with_reducible first | apply i_ | apply h_); focus first | omega | (simp only [q_] <;> omega)) | ((with_reducible apply h_); focus first | decide | kernel_rfl) | refine BCase.t (by decide) ?_ | refine BCase.f (by decide) ?_ | with_reducible first | apply l_ | apply m_ | apply n_ | apply o_ | refine p_ (fun _ => ?_) (fun _ => ?_)) <;> (conv => whnf)))
  refine LoopC.mk (Nat × List FoldD) (fun s => wfE l s.1 s.2) (fun s => [(4, .box 54 fZ), (6, .box 54 fZ), (60, .arr 54 2 (s.2.map FoldD.c))]) [4, 6, 60] (fun s => s.1 ≤ l.length ∧ s.2.length ≤ s.1 ∧ (catF s.2).length ≤ s.1 ∧ NIn (catF s.2) ∧ walkG foldWF [] l = walkG foldWF s.2 (l.drop s.1)) (fun s => l.length - s.1) (0, []) ⟨Nat.zero_le _, Nat.zero_le _, Nat.zero_le _, (fun m hm => absurd hm (by simp [catF])), rfl⟩ ?start ?round
  case start => exact ⟨[(4, 4), (6, 6)], rfl, rfl, ⟨.inl rfl, ⟨rfl, rfl, rfl⟩, ⟨rfl, rfl, rfl⟩, ⟨rfl, rfl, Nat.zero_lt_succ _, rfl, rfl⟩, .inl rfl, PLe.int (by simp), .inl rfl, trivial⟩, ⟨rfl, rfl, ⟨.inl rfl, .inl rfl, rfl⟩⟩, ⟨rfl, rfl, ⟨.inl rfl, .inl rfl, rfl⟩⟩, ⟨rfl, Nat.zero_lt_succ _, rfl⟩, trivial⟩
  case round =>
    rintro ⟨j, st⟩ ⟨hj, i1, i2, i4, i3⟩
    have hj : j ≤ l.length := hj
    have i1 : st.length ≤ j := i1
    have i2 : (catF st).length ≤ j := i2
    have i4 : NIn (catF st) := i4
    have i3 : walkG foldWF [] l = walkG foldWF st (l.drop j) := i3
    by_cases q : j < l.length
    · rw [List.drop_eq_getElem_cons q, walkG_cons] at i3
      have hm := hn _ (List.getElem_mem q)
      have hkk := alF_kids hm.1
      by_cases g : l[j].Kids < 0 ∨ (st.length : Int) < l[j].Kids
      · rw [if_pos g] at i3
        have hw : walkR foldWF l = .error 1 := by unfold walkR; rw [i3]
        rw [hw]
        ((conv => whnf); repeat' ((first | (with_reducible first | apply a_ | apply b_ | apply c_) | ((with_reducible first | apply d_ | apply e_ | apply f_ | apply g_); focus first | omega | (simp only [q_] <;> omega)) | ((with_reducible first | apply i_ | apply h_); focus first | omega | (simp only [q_] <;> omega)) | ((with_reducible apply h_); focus first | decide | kernel_rfl) | refine BCase.t (by decide) ?_ | refine BCase.f (by decide) ?_ | (refine Idx.mapI j rfl q ?_) | with_reducible first | apply l_ | apply m_ | apply n_ | apply o_ | refine p_ (fun _ => ?_) (fun _ => ?_)) <;> (conv => whnf)))
        all_goals exact RE
      · rw [if_neg g] at i3
        have g1 : ¬ l[j].Kids < 0 := fun q => g (.inl q)
        have g2 : ¬ (st.length : Int) < l[j].Kids := fun q => g (.inr q)
        have pc := s_lastf st l[j].Kids (by omega) (by omega) (by omega)
        have hsp := List.take_append_drop (st.length - l[j].Kids.toNat) st
        obtain ⟨ks, hks⟩ : ∃ ks, ks = st.drop (st.length - l[j].Kids.toNat) := ⟨_, rfl⟩
        obtain ⟨pre, hpre⟩ : ∃ pre, pre = st.take (st.length - l[j].Kids.toNat) := ⟨_, rfl⟩
        rw [← hks, ← hpre] at hsp
        have hcat : (catF pre).length + (catF ks).length = (catF st).length := by rw [← hsp, catF_app, List.length_append]
        have hNk : NIn (catF ks ++ [l[j]]) := by
          intro m hm2
          rcases List.mem_append.1 hm2 with hm2 | hm2
          · exact i4 m (by rw [← hsp, catF_app]; exact List.mem_append_right _ hm2)
          · rw [List.mem_singleton.1 hm2]; exact hm
        have hkl : ks.length ≤ 1000 := by rw [hks, List.length_drop]; omega
        rw [← hks, ← hpre] at i3
        rw [← hks] at pc
        have pd := p_fold l[j] ks (by rw [List.length_append, List.length_singleton]; omega) hkl hNk
        have hfl := foldL_ok hNk
        have i3 : walkG foldWF [] l = walkG foldWF (pre ++ [foldL l[j] ks]) (l.drop (j + 1)) := i3
        ((conv => whnf); repeat' ((first | (with_reducible first | apply a_ | apply b_ | apply c_) | ((with_reducible first | apply d_ | apply e_ | apply f_ | apply g_); focus first | omega | (simp only [q_] <;> omega)) | ((with_reducible first | apply i_ | apply h_); focus first | omega | (simp only [q_] <;> omega)) | ((with_reducible apply h_); focus first | decide | kernel_rfl) | refine BCase.t (by decide) ?_ | refine BCase.f (by decide) ?_ | (refine Idx.mapI j rfl q ?_) | (refine CallP.ret [(FK, 60)] _ _ _ _ _ _ _ pc rfl rfl rfl rfl ⟨rfl, trivial⟩ ?_) | refine CallP.pure _ rfl _ (pd) ?_ | (refine Need.by 32 rfl (by simp only [List.length_singleton]; omega) ?_) | with_reducible first | apply l_ | apply m_ | apply n_ | apply o_ | refine p_ (fun _ => ?_) (fun _ => ?_)) <;> (conv => whnf)))
        refine ⟨(j + 1, pre ++ [foldL l[j] ks]), ⟨by show j + 1 ≤ _; omega, ?_, ?_, ?_, i3⟩, by show l.length - (j + 1) < l.length - j; omega, [(4, 4), (6, 6), (60, 54)], rfl, rfl, ⟨.inl rfl, ⟨rfl, rfl, rfl⟩, ⟨rfl, rfl, rfl⟩, ⟨rfl, rfl, rfl, rfl, rfl, ?_⟩, .inl rfl, .inl rfl, PLe.int rfl, trivial⟩, ⟨rfl, rfl, ⟨.inl rfl, .inl rfl, rfl⟩⟩, ⟨rfl, rfl, ⟨.inl rfl, .inl rfl, rfl⟩⟩, ⟨rfl, rfl, rfl, ?_⟩, trivial⟩
        · show (pre ++ [_]).length ≤ j + 1
          rw [hpre, List.length_append, List.length_take, List.length_singleton]; omega
        · show (catF (pre ++ [_])).length ≤ j + 1
          rw [catF_app, catF_one, List.length_append]
          have := hfl.1
          omega
        · show NIn (catF (pre ++ [_]))
          rw [catF_app, catF_one]
          intro m hm2
          rcases List.mem_append.1 hm2 with hm2 | hm2
          · exact i4 m (by rw [← hsp, catF_app]; exact List.mem_append_left _ hm2)
          · exact hfl.2 m hm2
        · show _ = (pre ++ [_]).length
          rw [hpre, List.length_append, List.length_take, List.length_singleton]; simp only [List.length_singleton]; omega
        · show _ = (pre ++ [_]).map FoldD.c
          rw [hpre, List.map_append, List.map_take]
          have e1 : ((st.length : Int) - l[j].Kids).toNat = st.length - l[j].Kids.toNat := by omega
          show (st.map FoldD.c).take ((st.length : Int) - l[j].Kids).toNat ++ _ = _
          rw [e1]; rfl
    · rw [List.drop_of_length_le (by omega)] at i3
      have i3 : walkG foldWF [] l = .ok st := i3
      rcases st with _ | ⟨x, _ | ⟨y, r⟩⟩
      · have hw : walkR foldWF l = .error 1 := by unfold walkR; rw [i3]
        rw [hw]
        ((conv => whnf); repeat' ((first | (with_reducible first | apply a_ | apply b_ | apply c_) | ((with_reducible first | apply d_ | apply e_ | apply f_ | apply g_); focus first | omega | (simp only [q_] <;> omega)) | ((with_reducible first | apply i_ | apply h_); focus first | omega | (simp only [q_] <;> omega)) | ((with_reducible apply h_); focus first | decide | kernel_rfl) | refine BCase.t (by decide) ?_ | refine BCase.f (by decide) ?_ | with_reducible first | apply l_ | apply m_ | apply n_ | apply o_ | refine p_ (fun _ => ?_) (fun _ => ?_)) <;> (conv => whnf)))
        all_goals exact RE
      · have hw : walkR foldWF l = .ok x := by unfold walkR; rw [i3]
        rw [hw]
        ((conv => whnf); repeat' ((first | (with_reducible first | apply a_ | apply b_ | apply c_) | ((with_reducible first | apply d_ | apply e_ | apply f_ | apply g_); focus first | omega | (simp only [q_] <;> omega)) | ((with_reducible first | apply i_ | apply h_); focus first | omega | (simp only [q_] <;> omega)) | ((with_reducible apply h_); focus first | decide | kernel_rfl) | refine BCase.t (by decide) ?_ | refine BCase.f (by decide) ?_ | with_reducible first | apply l_ | apply m_ | apply n_ | apply o_ | refine p_ (fun _ => ?_) (fun _ => ?_)) <;> (conv => whnf)))
        refine Row.mk _ rfl ?_
        ((conv => whnf); repeat' ((first | (with_reducible first | apply a_ | apply b_ | apply c_) | ((with_reducible first | apply d_ | apply e_ | apply f_ | apply g_); focus first | omega | (simp only [q_] <;> omega)) | ((with_reducible first | apply i_ | apply h_); focus first | omega | (simp only [q_] <;> omega)) | ((with_reducible apply h_); focus first | decide | kernel_rfl) | refine BCase.t (by decide) ?_ | refine BCase.f (by decide) ?_ | with_reducible first | apply l_ | apply m_ | apply n_ | apply o_ | refine p_ (fun _ => ?_) (fun _ => ?_)) <;> (conv => whnf)))
        all_goals exact Ret.eq rfl
      · have hw : walkR foldWF l = .error 1 := by unfold walkR; rw [i3]
        rw [hw]
        ((conv => whnf); repeat' ((first | (with_reducible first | apply a_ | apply b_ | apply c_) | ((with_reducible first | apply d_ | apply e_ | apply f_ | apply g_); focus first | omega | (simp only [q_] <;> omega)) | ((with_reducible first | apply i_ | apply h_); focus first | omega | (simp only [q_] <;> omega)) | ((with_reducible apply h_); focus first | decide | kernel_rfl) | refine BCase.t (by decide) ?_ | refine BCase.f (by decide) ?_ | with_reducible first | apply l_ | apply m_ | apply n_ | apply o_ | refine p_ (fun _ => ?_) (fun _ => ?_)) <;> (conv => whnf)))
        all_goals exact RE
end Go.Proofs.YtpkifeagopceaaaDoor.Pm
end
section
namespace Go.Proofs.YtpkifeagopceaaaDoor.Pm
open Go.RowKit K
set_option linter.unusedVariables false
set_option linter.unusedSimpArgs false
set_option maxRecDepth 100000
noncomputable def fdOf (t : Ex) : FoldD := ⟨(foldE t).flat, hasC t⟩
theorem catF_fd : ∀ l : List Ex, catF (l.map fdOf) = Ex.flats (foldEs l)
  | [] => by rw [foldEs, Ex.flats]; rfl
  | t :: l => by rw [foldEs, Ex.flats, ← catF_fd l]; rfl
theorem any_fd : ∀ l : List Ex, (l.map fdOf).any FoldD.cols = hasCs l
  | [] => by rw [hasCs]; rfl
  | t :: l => by rw [hasCs, List.map_cons, List.any_cons, any_fd l]; rfl
theorem lit_flat (v : ValueD) : (litT v).flat = [litN v] := by rw [Ex.flat, Ex.flats]; rfl
theorem foldL_fd {n : NodeD} {ks : List Ex} (hg : (Ex.mk n ks).good) : foldL n (ks.map fdOf) = fdOf (.mk n ks) := by
  have hf : Ex.flats (foldEs ks) ++ [n] = (Ex.mk n (foldEs ks)).flat := by rw [Ex.flat]
  have hg2 : (Ex.mk n (foldEs ks)).good := by
    rw [Ex.good] at hg ⊢
    rw [foldEs_len]
    exact ⟨hg.1, foldEs_good ks hg.2⟩
  unfold foldL
  rw [show fdOf (.mk n ks) = ⟨(foldE (.mk n ks)).flat, hasC (.mk n ks)⟩ from rfl]
  rw [catF_fd, any_fd, hf, walkR_fold _ _ hg2, foldE, hasC]
  unfold foldN
  cases h : decide (n.Op = 2) || hasCs ks with
  | true => rw [if_pos rfl, if_pos rfl]
  | false =>
    rw [if_neg (by simp), if_neg (by simp)]
    cases foldX (nodF noLook) (Ex.mk n (foldEs ks)) with
    | error x => rfl
    | ok v =>
      show (if 0 ≤ v.N then _ else _) = FoldD.mk (Ex.flat (if 0 ≤ v.N then _ else _)) false
      split
      · rw [lit_flat]
      · rfl
mutual
theorem foldX_fd : ∀ t : Ex, t.good → foldX foldWF t = .ok (fdOf t)
  | .mk n ks, h => by
    have h0 := h
    rw [Ex.good] at h
    rw [foldX, foldXs_fd ks h.2]
    show Except.ok (foldL n (ks.map fdOf)) = _
    rw [foldL_fd h0]
theorem foldXs_fd : ∀ l : List Ex, Ex.goods l → foldXs foldWF l = .ok (l.map fdOf)
  | [], _ => by rw [foldXs]; rfl
  | t :: l, h => by
    rw [Ex.goods] at h
    rw [foldXs, foldX_fd t h.1, foldXs_fd l h.2]; rfl
end
noncomputable def foldA (e : List NodeD) : List NodeD × Int := if checkF e ≠ 0 then ([], checkF e) else match walkR foldWF e with
  | .ok f => (f.e, 0)
  | .error _ => ([], 0)
theorem foldA_tree {t : Ex} (h : RightT t) : foldA t.flat = ((foldE t).flat, 0) := by
  unfold foldA
  rw [check_right h, if_neg (by decide), walkR_fold _ _ h.good, foldX_fd t h.good]; rfl
theorem p_Fold (e : List NodeD) (hn : ∀ n ∈ e, hNode n) : Pure Tryd.prog 11 [slV 6 NodeD.c e] (.tup [slV 6 NodeD.c (foldA e).1, pInt .i64 (foldA e).2]) := by
  have pc := p_echeck e (fun n h => (hn n h).1)
  refine pure_of Tryd.func11 (by rfl) rfl (by kernel_rfl) (by rfl) ?_
  unfold foldA
  by_cases h : checkF e = 0
  · rw [if_neg (by rw [h]; decide)]
    rw [h] at pc
    obtain ⟨h5, h6⟩ := check_all h
    have pr := p_walkf e (by omega) (fun n hm => ⟨h6 n hm, (hn n hm).2⟩)
    obtain ⟨t, ht, rfl⟩ := right_of h
    rw [walkR_fold _ _ ht.good, foldX_fd t ht.good] at pr ⊢
    have pr : Pure _ _ _ (.tup [fV (fdOf t), pInt .i64 0]) := pr
    ((conv => whnf); repeat' ((first | (with_reducible first | apply a_ | apply b_ | apply c_) | ((with_reducible first | apply d_ | apply e_ | apply f_ | apply g_); focus first | omega | (simp only [q_] <;> omega)) | ((with_reducible first | apply i_ | apply h_); focus first | omega | (simp only [q_] <;> omega)) | ((with_reducible apply h_); focus first | decide | kernel_rfl) | refine BCase.t (by decide) ?_ | refine BCase.f (by decide) ?_ | refine CallP.pure _ rfl _ (pc) ?_ | refine CallP.pure _ rfl _ (pr) ?_ | with_reducible first | apply l_ | apply m_ | apply n_ | apply o_ | refine p_ (fun _ => ?_) (fun _ => ?_)) <;> (conv => whnf)))
    exact Ret.eq rfl
  · rw [if_pos h]
    ((conv => whnf); repeat' ((first | (with_reducible first | apply a_ | apply b_ | apply c_) | ((with_reducible first | apply d_ | apply e_ | apply f_ | apply g_); focus first | omega | (simp only [q_] <;> omega)) | ((with_reducible first | apply i_ | apply h_); focus first | omega | (simp only [q_] <;> omega)) | ((with_reducible apply h_); focus first | decide | kernel_rfl) | refine BCase.t (by decide) ?_ | refine BCase.f (by decide) ?_ | refine CallP.pure _ rfl _ (pc) ?_ | with_reducible first | apply l_ | apply m_ | apply n_ | apply o_ | refine p_ (fun _ => ?_) (fun _ => ?_)) <;> (conv => whnf)))
    all_goals first | exact Ret.le ⟨.inr ⟨⟨6, rfl⟩, .inl rfl⟩, .inl rfl, rfl⟩ | (exfalso; omega)
theorem foldEs_snoc {ks : List Ex} {j : Nat} (q : j < ks.length) : Ex.flats (foldEs (ks.take (j + 1))) = Ex.flats (foldEs (ks.take j)) ++ (foldE ks[j]).flat := by
  rw [take_snoc q, foldEs_map, foldEs_map, List.map_append, Ex.flats_append]
  show _ ++ Ex.flats [foldE ks[j]] = _
  rw [Ex.flats_one]
end Go.Proofs.YtpkifeagopceaaaDoor.Pm
end
section
namespace Go.Proofs.YtpkifeagopceaaaDoor.Pm
open Go.RowKit K
set_option linter.unusedVariables false
set_option linter.unusedSimpArgs false
set_option maxRecDepth 100000
mutual
theorem kids_pos : ∀ (t : Ex), t.good → ∀ n ∈ t.flat, 0 ≤ n.Kids
  | .mk m ks, hg, n, hn => by
    rw [Ex.good] at hg
    rw [Ex.flat, List.mem_append] at hn
    rcases hn with hn | hn
    · exact kids_poss ks hg.2 n hn
    · rw [List.mem_singleton.1 hn, hg.1]; omega
theorem kids_poss : ∀ (l : List Ex), Ex.goods l → ∀ n ∈ Ex.flats l, 0 ≤ n.Kids
  | [], _, n, hn => by rw [Ex.flats] at hn; cases hn
  | t :: l, hg, n, hn => by
    rw [Ex.goods] at hg
    rw [Ex.flats, List.mem_append] at hn
    rcases hn with hn | hn
    · exact kids_pos t hg.1 n hn
    · exact kids_poss l hg.2 n hn
end
theorem bal_le : ∀ (l : List NodeD), (∀ n ∈ l, 0 ≤ n.Kids) → bal l ≤ l.length
  | [], _ => by simp [bal]
  | n :: l, h => by
    have h1 := h n (List.mem_cons_self ..)
    have h2 := bal_le l fun m hm => h m (List.mem_cons_of_mem _ hm)
    rw [bal, List.length_cons]; omega
theorem bal_step {l : List NodeD} {m : Nat} (h : m < l.length) : bal (l.take (m + 1)) = bal (l.take m) + 1 - l[m].Kids := by
  rw [take_snoc h, bal_app]
  simp only [bal]; omega
theorem bal_in {t : Ex} (ht : t.good) {m : Nat} (hm : m ≤ t.flat.length) : 0 ≤ bal (t.flat.take m) ∧ bal (t.flat.take m) ≤ m ∧ (0 < bal (t.flat.take m) ↔ 0 < m) := by
  have h1 := back_pos ht hm
  have h2 := bal_le (t.flat.take m) fun n hn => kids_pos t ht n (List.mem_of_mem_take hn)
  rw [List.length_take, Nat.min_eq_left hm] at h2
  refine ⟨?_, h2, h1⟩
  rcases Nat.eq_zero_or_pos m with rfl | h0
  · simp [bal]
  · have := h1.2 h0; omega
def nilR : List C := [.v (.slice none 0 0)]
def splR (ks : List Ex) (k : Nat) : List (List C) := List.replicate (ks.length - k) nilR ++ (ks.drop (ks.length - k)).map fun k => ek k.flat
theorem splR_step {ks : List Ex} {k : Nat} (h : k < ks.length) {r : List C} (hr : r = ek ks[ks.length - (k + 1)].flat) : (splR ks k).set (ks.length - (k + 1)) r = splR ks (k + 1) := by
  subst hr
  unfold splR
  rw [show ks.length - k = (ks.length - (k + 1)) + 1 by omega, List.replicate_succ', List.append_assoc, List.set_append_right _ _ (by simp), List.length_replicate, Nat.sub_self]
  conv => rhs; rw [List.drop_eq_getElem_cons (by omega : ks.length - (k + 1) < ks.length)]
  rfl
theorem splR_len (ks : List Ex) (k : Nat) (h : k ≤ ks.length) : (splR ks k).length = ks.length := by
  unfold splR
  rw [List.length_append, List.length_replicate, List.length_map, List.length_drop]; omega
theorem splR_row {ks : List Ex} {k : Nat} (h : k < ks.length) : (splR ks k)[ks.length - (k + 1)]? = some nilR := by
  unfold splR
  rw [List.getElem?_append_left (by rw [List.length_replicate]; omega), List.getElem?_replicate, if_pos (by omega)]
theorem p_split (n : NodeD) (ks : List Ex) (hg : (Ex.mk n ks).good) (e : List NodeD) (he : (Ex.mk n ks).flat = e) (hl : e.length ≤ 1000) : Pure Tryd.prog 29 [slV 6 NodeD.c e] (.d (.c (.sl 1 (ks.map fun k => ek k.flat)))) := by
  have hg0 := hg
  rw [Ex.good] at hg0
  obtain ⟨hk, hgs⟩ := hg0
  have hlen : e.length = (Ex.flats ks).length + 1 := by rw [← he, Ex.flat, List.length_append, List.length_singleton]
  have hml : (e.map NodeD.c).length = (Ex.flats ks).length + 1 := by rw [List.length_map, hlen]
  have he2 := root_at (n := n) (ks := ks) (e := e) (pre := []) (post := []) (by rw [he]; simp)
  obtain ⟨hr1, hr2⟩ := root_get he2
  have hpl : ([] ++ Ex.flats ks).length = (Ex.flats ks).length := rfl
  have hkb := len_le_flats ks
  have hsp : Ex.flats ks = Ex.flats (ks.take ks.length) := by rw [List.take_length]
  refine pure_of Tryd.func29 (by rfl) rfl (by kernel_rfl) (by rfl) ?_
  ((conv => whnf); repeat' ((first | (with_reducible first | apply a_ | apply b_ | apply c_) | ((with_reducible first | apply d_ | apply e_ | apply f_ | apply g_); focus first | omega | (simp only [q_] <;> omega)) | ((with_reducible first | apply i_ | apply h_); focus first | omega | (simp only [q_] <;> omega)) | ((with_reducible apply h_); focus first | decide | kernel_rfl) | refine BCase.t (by decide) ?_ | refine BCase.f (by decide) ?_ | (refine Idx.mapE ([] ++ Ex.flats ks).length (by omega) hr1 hr2 ?_) | with_reducible first | apply l_ | apply m_ | apply n_ | apply o_ | refine p_ (fun _ => ?_) (fun _ => ?_)) <;> (conv => whnf)))
  refine Need.mk ⟨by omega, rfl, (by show (24 : Int) * _ ≤ _; omega), by omega⟩ ?_
  ((conv => whnf); repeat' ((first | (with_reducible first | apply a_ | apply b_ | apply c_) | ((with_reducible first | apply d_ | apply e_ | apply f_ | apply g_); focus first | omega | (simp only [q_] <;> omega)) | ((with_reducible first | apply i_ | apply h_); focus first | omega | (simp only [q_] <;> omega)) | ((with_reducible apply h_); focus first | decide | kernel_rfl) | refine BCase.t (by decide) ?_ | refine BCase.f (by decide) ?_ | with_reducible first | apply l_ | apply m_ | apply n_ | apply o_ | refine p_ (fun _ => ?_) (fun _ => ?_)) <;> (conv => whnf)))
  refine LoopC.mk Nat (fun k => [(4, slV 6 NodeD.c (Ex.flats (ks.take (ks.length - k)))), (5, .d (.arr 60 22 1 0 ks.length)), (6, pInt .i64 ((ks.length : Int) - 1 - k))]) (fun k => [(60, .arr 22 1 (splR ks k))]) [60] (fun k => k ≤ ks.length) (fun k => ks.length - k) 0 (Nat.zero_le _) ?start ?round
  case start =>
    refine ⟨[(60, 22)], rfl, rfl, ⟨?_, ⟨rfl, rfl, rfl, rfl, rfl, ?_⟩, PLe.int (by omega), trivial⟩, ⟨rfl, rfl, rfl, ?_⟩, trivial⟩
    · have e1 : ((e.map NodeD.c).drop 0).take ((((e.map NodeD.c).length : Int) - 1).toNat - 0) = (Ex.flats ks).map NodeD.c := by
        rw [List.drop_zero, hml, show ((((Ex.flats ks).length + 1 : Nat) : Int) - 1).toNat - 0 = (Ex.flats ks).length by omega, he2, List.nil_append, List.map_append, List.take_left' (by rw [List.length_map])]
      exact .inl (congrArg (C.sl 6) (e1.trans (by rw [Nat.sub_zero, ← hsp])))
    · omega
    · show List.replicate _ nilR = _
      unfold splR
      rw [Nat.sub_zero, List.drop_length, List.map_nil, List.append_nil, show n.Kids.toNat = ks.length by omega]
  case round =>
    intro k hk2
    have hk2 : k ≤ ks.length := hk2
    by_cases q : k < ks.length
    · have hi : ks.length - (k + 1) < ks.length := by omega
      have hm := List.getElem_mem hi
      have hkg := Ex.goods_mem hgs _ hm
      have hfl := flat_le_flats hm
      have hs := flats_snoc hi
      rw [show ks.length - (k + 1) + 1 = ks.length - k by omega] at hs
      have hsl : (Ex.flats (ks.take (ks.length - k))).length ≤ (Ex.flats ks).length := by
        have := flats_part hi
        rw [show ks.length - (k + 1) + 1 = ks.length - k by omega] at this
        rw [this, hs]; simp
      obtain ⟨pre, hpre⟩ : ∃ R, R = Ex.flats (ks.take (ks.length - (k + 1))) := ⟨_, rfl⟩
      obtain ⟨t, ht⟩ : ∃ t, t = ks[ks.length - (k + 1)] := ⟨_, rfl⟩
      rw [← ht] at hs hkg hfl
      rw [← hpre] at hs
      have hRl : (Ex.flats (ks.take (ks.length - k))).length = pre.length + t.flat.length := by rw [hs, List.length_append]
      ((conv => whnf); repeat' ((first | (with_reducible first | apply a_ | apply b_ | apply c_) | ((with_reducible first | apply d_ | apply e_ | apply f_ | apply g_); focus first | omega | (simp only [q_] <;> omega)) | ((with_reducible first | apply i_ | apply h_); focus first | omega | (simp only [q_] <;> omega)) | ((with_reducible apply h_); focus first | decide | kernel_rfl) | refine BCase.t (by decide) ?_ | refine BCase.f (by decide) ?_ | with_reducible first | apply l_ | apply m_ | apply n_ | apply o_ | refine p_ (fun _ => ?_) (fun _ => ?_)) <;> (conv => whnf)))
      refine LoopC.mk Nat (fun r => [(4, slV 6 NodeD.c (Ex.flats (ks.take (ks.length - k)))), (5, .d (.arr 60 22 1 0 ks.length)), (6, pInt .i64 ((ks.length : Int) - 1 - k)), (7, pInt .i64 ((pre.length + (t.flat.length - r) : Nat) : Int)), (8, pInt .i64 (bal (t.flat.take (t.flat.length - r))))]) (fun _ => [(60, .arr 22 1 (splR ks k))]) [60] (fun r => r ≤ t.flat.length) (fun r => t.flat.length - r) 0 (Nat.zero_le _) ?s2 ?r2
      case s2 => exact ⟨[(60, 60)], rfl, rfl, ⟨.inl rfl, ⟨rfl, rfl, rfl, rfl, rfl, rfl⟩, .inl rfl, PLe.int (by simp only [List.length_map]; omega), PLe.int (by rw [Nat.sub_zero, List.take_length, bal_flat t hkg]), trivial⟩, ⟨rfl, rfl, rfl, rfl⟩, trivial⟩
      case r2 =>
        intro r hr
        have hr : r ≤ t.flat.length := hr
        by_cases q2 : r < t.flat.length
        · have hb1 := bal_in hkg (m := t.flat.length - r) (by omega)
          have hb2 := bal_in hkg (m := t.flat.length - (r + 1)) (by omega)
          have hb3 := bal_step (l := t.flat) (m := t.flat.length - (r + 1)) (by omega)
          rw [show t.flat.length - (r + 1) + 1 = t.flat.length - r by omega] at hb3
          have hb4 := hb1.2.2.2 (by omega)
          have hlt : pre.length + (t.flat.length - (r + 1)) < (Ex.flats (ks.take (ks.length - k))).length := by omega
          have hget : (Ex.flats (ks.take (ks.length - k)))[pre.length + (t.flat.length - (r + 1))] = t.flat[t.flat.length - (r + 1)] := by
            have : (Ex.flats (ks.take (ks.length - k)))[pre.length + (t.flat.length - (r + 1))]? = some t.flat[t.flat.length - (r + 1)] := by
              rw [hs, List.getElem?_append_right (by omega), Nat.add_sub_cancel_left, List.getElem?_eq_getElem (by omega)]
            rw [List.getElem?_eq_getElem hlt] at this
            exact Option.some.inj this
          ((conv => whnf); repeat' ((first | (with_reducible first | apply a_ | apply b_ | apply c_) | ((with_reducible first | apply d_ | apply e_ | apply f_ | apply g_); focus first | omega | (simp only [q_] <;> omega)) | ((with_reducible first | apply i_ | apply h_); focus first | omega | (simp only [q_] <;> omega)) | ((with_reducible apply h_); focus first | decide | kernel_rfl) | refine BCase.t (by decide) ?_ | refine BCase.f (by decide) ?_ | (refine Idx.mapE (pre.length + (t.flat.length - (r + 1))) (by omega) hlt hget ?_) | with_reducible first | apply l_ | apply m_ | apply n_ | apply o_ | refine p_ (fun _ => ?_) (fun _ => ?_)) <;> (conv => whnf)))
          exact ⟨r + 1, by show r + 1 ≤ _; omega, by omega, [(60, 60)], rfl, rfl, ⟨.inl rfl, ⟨rfl, rfl, rfl, rfl, rfl, rfl⟩, .inl rfl, PLe.int (by omega), PLe.int (by omega), trivial⟩, ⟨rfl, rfl, rfl, rfl⟩, trivial⟩
        · have er : t.flat.length - r = 0 := by omega
          have hb0 : bal (t.flat.take (t.flat.length - r)) = 0 := by rw [er, List.take_zero]; rfl
          have lR : ∀ n, n = ks.length - (k + 1) → (splR ks k)[n]? = some nilR := by
            rintro n rfl; exact splR_row q
          have lS : ∀ n v, n = ks.length - (k + 1) → v = ek t.flat → (splR ks k).set n v = splR ks (k + 1) := by
            rintro n v rfl hv
            exact splR_step q (by rw [hv, ht])
          ((conv => whnf); repeat' ((first | (with_reducible first | apply a_ | apply b_ | apply c_) | ((with_reducible first | apply d_ | apply e_ | apply f_ | apply g_); focus first | omega | (simp only [q_] <;> omega)) | ((with_reducible first | apply i_ | apply h_); focus first | omega | (simp only [q_] <;> omega)) | ((with_reducible apply h_); focus first | decide | kernel_rfl) | refine BCase.t (by decide) ?_ | refine BCase.f (by decide) ?_ | (refine Row.mk nilR (lR _ (by omega)) ?_) | with_reducible first | apply l_ | apply m_ | apply n_ | apply o_ | refine p_ (fun _ => ?_) (fun _ => ?_)) <;> (conv => whnf)))
          refine ⟨k + 1, by show k + 1 ≤ _; omega, by omega, [(60, 60)], rfl, rfl, ⟨.inl ?_, ⟨rfl, rfl, rfl, rfl, rfl, rfl⟩, PLe.int (by omega), trivial⟩, ⟨rfl, rfl, rfl, ?_⟩, trivial⟩
          · have e1 : (((Ex.flats (ks.take (ks.length - k))).map NodeD.c).drop 0).take ((pre.length + (t.flat.length - r) : Nat) : Int).toNat = pre.map NodeD.c := by
              rw [List.drop_zero, er, hs, List.map_append, show ((pre.length + 0 : Nat) : Int).toNat = pre.length by omega, List.take_left' (by rw [List.length_map])]
            exact congrArg (C.sl 6) (e1.trans (by rw [hpre]))
          · apply lS
            · omega
            · have e2 : (((Ex.flats (ks.take (ks.length - k))).map NodeD.c).drop ((pre.length + (t.flat.length - r) : Nat) : Int).toNat).take ((((Ex.flats (ks.take (ks.length - k))).map NodeD.c).length : Int).toNat - ((pre.length + (t.flat.length - r) : Nat) : Int).toNat) = t.flat.map NodeD.c := by
                rw [er, hs, List.map_append, show ((pre.length + 0 : Nat) : Int).toNat = pre.length by omega, List.drop_left' (by rw [List.length_map])]
                exact List.take_of_length_le (by rw [List.length_append, List.length_map, List.length_map]; omega)
              exact congrArg (fun x => [C.sl 6 x]) e2
    · ((conv => whnf); repeat' ((first | (with_reducible first | apply a_ | apply b_ | apply c_) | ((with_reducible first | apply d_ | apply e_ | apply f_ | apply g_); focus first | omega | (simp only [q_] <;> omega)) | ((with_reducible first | apply i_ | apply h_); focus first | omega | (simp only [q_] <;> omega)) | ((with_reducible apply h_); focus first | decide | kernel_rfl) | refine BCase.t (by decide) ?_ | refine BCase.f (by decide) ?_ | with_reducible first | apply l_ | apply m_ | apply n_ | apply o_ | refine p_ (fun _ => ?_) (fun _ => ?_)) <;> (conv => whnf)))
      refine Need.mk (by rw [splR_len _ _ hk2]; omega) ?_
      ((conv => whnf); repeat' ((first | (with_reducible first | apply a_ | apply b_ | apply c_) | ((with_reducible first | apply d_ | apply e_ | apply f_ | apply g_); focus first | omega | (simp only [q_] <;> omega)) | ((with_reducible first | apply i_ | apply h_); focus first | omega | (simp only [q_] <;> omega)) | ((with_reducible apply h_); focus first | decide | kernel_rfl) | refine BCase.t (by decide) ?_ | refine BCase.f (by decide) ?_ | with_reducible first | apply l_ | apply m_ | apply n_ | apply o_ | refine p_ (fun _ => ?_) (fun _ => ?_)) <;> (conv => whnf)))
      refine Ret.eq ?_
      have e1 : ((splR ks k).drop 0).take ks.length = ks.map fun k => ek k.flat := by
        rw [List.drop_zero, List.take_of_length_le (by rw [splR_len _ _ hk2]; omega)]
        unfold splR
        rw [show ks.length - k = 0 by omega]; rfl
      exact congrArg (fun x => PV.d (D.c (C.sl 1 x))) e1
end Go.Proofs.YtpkifeagopceaaaDoor.Pm
end
section
namespace Go.Proofs.YtpkifeagopceaaaDoor.Pm
open Go.RowKit
set_option linter.unusedVariables false
set_option linter.unusedSimpArgs false
abbrev nilSl : D := .c (.v (.slice none 0 0))
theorem hpL_one {K : Nat} {b : HB} {j : Nat} {x : HB} (h : hpL [(K, b)] j = some x) : j = K ∧ x = b := by
  unfold hpL at h
  cases hq : Nat.beq j K with
  | true => rw [hq, cond_true] at h; cases h; exact ⟨Nat.eq_of_beq_eq_true hq, rfl⟩
  | false => rw [hq, cond_false] at h; cases h
theorem hpL_two {K K' : Nat} {b b' : HB} {j : Nat} {x : HB} (h : hpL [(K, b), (K', b')] j = some x) : (j = K ∧ x = b) ∨ (j = K' ∧ x = b') := by
  unfold hpL at h
  cases hq : Nat.beq j K with
  | true => rw [hq, cond_true] at h; cases h; exact .inl ⟨Nat.eq_of_beq_eq_true hq, rfl⟩
  | false => rw [hq, cond_false] at h; exact .inr (hpL_one h)
theorem CallS.nil_arr {P : Program} {f : FuncId} {args : List PV} {K K' T e sz : Nat} {l : List D} {out : Rf} {res : PV} (hz : 0 < sz) (hne : K ≠ K')
    (h1 : CallS P f args [] [(K, .box T (.arr K' e sz 0 0 :: l)), (K', .arr e sz [])] res out) :
    CallS P f args [] [(K, .box T (nilSl :: l))] res out := by
  refine ⟨h1.1, fun c vs hc hdf hf hs ha => ?_⟩
  simp only [List.nil_append] at hs ha hf
  have hn : c.σ0 K' = none := hf K' (by simp only [List.map_cons, List.map_nil, List.mem_singleton]; exact fun x => hne x.symm)
  have hK : hpL [(K, HB.box T (nilSl :: l))] K = some (.box T (nilSl :: l)) := by unfold hpL; simp
  obtain ⟨g, n, cs, e1, e2, e3, e4⟩ := hs.hp K _ hK
  obtain ⟨σ', hσ'⟩ : ∃ σ', σ' = upd c.σ0 K' (some ((none : Option Nat), 0)) := ⟨_, rfl⟩
  have hsg : ∀ k x, c.σ0 k = some x → σ' k = some x := by
    intro k x hx
    rw [hσ', upd_ne]
    · exact hx
    · rintro rfl; rw [hn] at hx; cases hx
  have hsK : σ' K = c.σ0 K := by rw [hσ', upd_ne _ _ hne]
  have hsK' : σ' K' = some (none, 0) := by rw [hσ', upd_same]
  let c' : Ctx := { c with σ0 := σ' }
  have hc' : c'.Ok := ⟨hc.fz, hc.gl, hc.gb⟩
  obtain ⟨H, hH⟩ : ∃ H, H = hpL [(K, HB.box T (.arr K' e sz 0 0 :: l)), (K', HB.arr e sz [])] := ⟨_, rfl⟩
  have hHK : H K = some (.box T (.arr K' e sz 0 0 :: l)) := by rw [hH]; unfold hpL; simp
  have hHK' : H K' = some (.arr e sz []) := by
    rw [hH]
    have : Nat.beq K' K = false := by rw [Bool.eq_false_iff]; intro x; exact hne (Nat.eq_of_beq_eq_true x).symm
    unfold hpL
    rw [this, cond_false]
    unfold hpL; simp
  have hfz : ∀ S b o, Fz c c.σ0 (hpL [(K, HB.box T (nilSl :: l))]) S b o ↔ Fz c' σ' H S b o := by
    intro S b o
    constructor
    · rintro (q | ⟨q1, q2, q3⟩)
      · exact .inl q
      · refine .inr ⟨q1, q2, fun k m hb hk hσ => ?_⟩
        rw [hH] at hk
        rcases hpL_two hk with ⟨rfl, rfl⟩ | ⟨rfl, rfl⟩
        · exact (q3 k m _ hK (by rw [← hsK]; exact hσ)).elim
        · rw [hsK'] at hσ; cases hσ
    · rintro (q | ⟨q1, q2, q3⟩)
      · exact .inl q
      · refine .inr ⟨q1, q2, fun k m hb hk hσ => ?_⟩
        obtain ⟨rfl, rfl⟩ := hpL_one hk
        exact (q3 k m _ hHK (by rw [hsK]; exact hσ)).elim
  have hke : Keeps (fz c c.σ0 (hpL [(K, HB.box T (nilSl :: l))]) c.w0) (fz c' σ' H c.w0) c.w0 c.w0 := ⟨fun b o q => (hfz _ b o).1 q, fun _ _ _ => rfl⟩
  have hev : Evo c.σ0 σ' (fz c c.σ0 (hpL [(K, HB.box T (nilSl :: l))]) c.w0) (fz c' σ' H c.w0) c.w0 c.w0 := ⟨hsg, hke, Shape.refl _⟩
  have hbox : HbOk σ' (fz c' σ' H c.w0) c.w0 c'.own K (.box T (.arr K' e sz 0 0 :: l)) := by
    refine ⟨g, n, cs, by rw [hsK]; exact e1, e2, e3, ?_⟩
    cases hcs : cs.toList with
    | nil => rw [hcs] at e4; unfold DsRep at e4; exact e4.elim
    | cons u us =>
      rw [hcs] at e4
      unfold DsRep at e4 ⊢
      obtain ⟨e4, e5⟩ := e4
      refine ⟨?_, DsRep.evo hev l us e5⟩
      unfold DRep CRep at e4
      unfold DRep
      exact ⟨hz, .inl ⟨0, hsK', rfl, none, e4.1⟩⟩
  have hsw : SW c' c'.σ0 H c'.w0 := by
    refine ⟨hs.os, hs.tape, hs.output, hs.size, hs.block, fun k hb hk => ?_, fun k k' g n n' q1 q2 q3 q4 => ?_, ⟨fun b o q => (hfz _ b o).1 (hs.kept.le b o q), hs.kept.cell⟩, hs.shape, fun k x q => q⟩
    · rw [hH] at hk
      rcases hpL_two hk with ⟨rfl, rfl⟩ | ⟨rfl, rfl⟩
      · exact hbox
      · refine ⟨hz, (fun r hr => absurd hr (List.not_mem_nil)), none, 0, hsK', rfl⟩
    · have one : ∀ k g n, H k ≠ none → σ' k = some (some g, n) → k = K := by
        intro k g n q r
        cases hx : H k with
        | none => exact absurd hx q
        | some x =>
          rw [hH] at hx
          rcases hpL_two hx with ⟨rfl, _⟩ | ⟨rfl, _⟩
          · rfl
          · rw [hsK'] at r; cases r
      rw [one k g n q1 q3, one k' g n' q2 q4]
  have hk' : ∀ k, k ∉ (([] : Rf) ++ [(K, HB.box T (.arr K' e sz 0 0 :: l)), (K', HB.arr e sz [])]).map Prod.fst → c'.σ0 k = none := by
    intro k hk
    simp only [List.nil_append, List.map_cons, List.map_nil, List.mem_cons, List.not_mem_nil, or_false, not_or] at hk
    show σ' k = none
    rw [hσ', upd_ne _ _ hk.2]
    exact hf k (by simp only [List.map_cons, List.map_nil, List.mem_singleton]; exact hk.1)
  have := h1.2 c' vs hc' hdf hk' (by rw [List.nil_append, ← hH]; exact hsw) (by rw [List.nil_append, ← hH]; exact PsRep.evo hev _ _ ha)
  refine this.mono ?_
  rintro en w' ⟨v, τ, rfl, q1, q2⟩
  exact ⟨v, τ, rfl, ⟨q1.os, q1.tape, q1.output, q1.size, q1.block, q1.hp, q1.inj, q1.kept, q1.shape, fun k x q => q1.sg0 k x (hsg k x q)⟩, q2⟩
end Go.Proofs.YtpkifeagopceaaaDoor.Pm
end
section
namespace Go.Proofs.YtpkifeagopceaaaDoor.Pm
open Go.RowKit K
set_option linter.unusedVariables false
set_option linter.unusedSimpArgs false
set_option maxRecDepth 100000
def notN : NodeD := ⟨4, 1, noV, []⟩
def opN (n : NodeD) (op : Int) : NodeD := ⟨op, n.Kids, n.V, n.Name⟩
mutual
def pushE (neg : Bool) : Ex → Ex
  | .mk n ks =>
    if n.Op = 4 then (match pushEs (!neg) ks with
      | [k] => k
      | _ => .mk n ks)
    else if n.Op = 16 ∨ n.Op = 17 then .mk (opN n (if neg then 33 - n.Op else n.Op)) (pushEs neg ks)
    else if neg then (if couF n.Op ≠ 0 then .mk (opN n (couF n.Op)) ks else .mk notN [.mk n ks])
    else .mk n ks
def pushEs (neg : Bool) : List Ex → List Ex
  | [] => []
  | t :: ts => pushE neg t :: pushEs neg ts
end
theorem pushE_eq (neg : Bool) (n : NodeD) (ks : List Ex) : pushE neg (.mk n ks) = if n.Op = 4 then (match pushEs (!neg) ks with
      | [k] => k
      | _ => .mk n ks)
    else if n.Op = 16 ∨ n.Op = 17 then .mk (opN n (if neg then 33 - n.Op else n.Op)) (pushEs neg ks)
    else if neg then (if couF n.Op ≠ 0 then .mk (opN n (couF n.Op)) ks else .mk notN [.mk n ks])
    else .mk n ks := by rw [pushE]
theorem pushEs_map (neg : Bool) : ∀ l : List Ex, pushEs neg l = l.map (pushE neg)
  | [] => by rw [pushEs, List.map_nil]
  | t :: l => by rw [pushEs, List.map_cons, pushEs_map neg l]
theorem pushE_not (neg : Bool) {n : NodeD} {k : Ex} (h : n.Op = 4) : pushE neg (.mk n [k]) = pushE (!neg) k := by
  rw [pushE_eq, if_pos h, pushEs, pushEs]
theorem pushE_and (neg : Bool) {n : NodeD} {ks : List Ex} (h : n.Op = 16 ∨ n.Op = 17) : pushE neg (.mk n ks) = .mk (opN n (if neg then 33 - n.Op else n.Op)) (pushEs neg ks) := by
  rw [pushE_eq, if_neg (by omega), if_pos h]
theorem pushE_else (neg : Bool) {n : NodeD} {ks : List Ex} (h4 : n.Op ≠ 4) (h : ¬ (n.Op = 16 ∨ n.Op = 17)) : pushE neg (.mk n ks) = if neg then (if couF n.Op ≠ 0 then .mk (opN n (couF n.Op)) ks else .mk notN [.mk n ks]) else .mk n ks := by
  rw [pushE_eq, if_neg h4, if_neg h]
abbrev pu (K A : Nat) (out : List NodeD) : Rf := [(K, .box 60 [.arr A 40 6 0 out.length]), (A, .arr 40 6 (out.map NodeD.c))]
theorem pushEs_snoc (neg : Bool) {ks : List Ex} {j : Nat} (q : j < ks.length) : Ex.flats (pushEs neg (ks.take (j + 1))) = Ex.flats (pushEs neg (ks.take j)) ++ (pushE neg ks[j]).flat := by
  rw [take_snoc q, pushEs_map, pushEs_map, List.map_append, Ex.flats_append]
  show _ ++ Ex.flats [pushE neg ks[j]] = _
  rw [Ex.flats_one]
theorem pushEs_le (neg : Bool) {ks : List Ex} {j : Nat} : (Ex.flats (pushEs neg (ks.take j))).length ≤ (Ex.flats (pushEs neg ks)).length := by
  conv => rhs; rw [← List.take_append_drop j ks]
  rw [pushEs_map, pushEs_map, List.map_append, Ex.flats_append, List.length_append]
  omega
theorem s_push : ∀ (N : Nat) (t : Ex), t.flat.length ≤ N → t.good → (∀ n ∈ t.flat, alF n = 0) → ∀ (neg : Bool) (out : List NodeD), out.length + (pushE neg t).flat.length ≤ 1000000 → t.flat.length ≤ 1000 →
    CallS Tryd.prog 27 [.d (.ptr FK 0), slV 6 NodeD.c t.flat, pBool neg] [] (pu FK FK1 out) (.tup []) (pu FK NK (out ++ (pushE neg t).flat))
  | 0, t, hN, hg, ha, neg, out, hb, hl => by have := t.flat_pos; omega
  | N + 1, .mk n ks, hN, hg, ha, neg, out, hb, hl => by
    have hg0 := hg
    rw [Ex.good] at hg
    obtain ⟨hk, hgs⟩ := hg
    have hlen : (Ex.mk n ks).flat.length = (Ex.flats ks).length + 1 := by rw [Ex.flat, List.length_append, List.length_singleton]
    have hkb := len_le_flats ks
    have han : alF n = 0 := ha n (by rw [Ex.flat]; simp)
    have hak : ∀ k ∈ ks, ∀ m ∈ k.flat, alF m = 0 := fun k hk m hm => ha m (by rw [Ex.flat]; exact List.mem_append_left _ (flats_mem hk hm))
    obtain ⟨h1, h2, h3, h4, h5, h6⟩ := alF_kids han
    obtain ⟨e, he⟩ : ∃ e, e = (Ex.mk n ks).flat := ⟨_, rfl⟩
    have pk := p_split n ks hg0 e he.symm (by rw [he]; exact hl)
    have he2 := root_at (n := n) (ks := ks) (e := e) (pre := []) (post := []) (by rw [he]; simp)
    obtain ⟨hr1, hr2⟩ := root_get he2
    have hel : e.length = (Ex.flats ks).length + 1 := by rw [he, hlen]
    have hml : (e.map NodeD.c).length = (Ex.flats ks).length + 1 := by rw [List.length_map, hel]
    have hpl : ([] ++ Ex.flats ks).length = (Ex.flats ks).length := rfl
    rw [← he] at hl hN ⊢
    refine callS_of Tryd.func27 (by rfl) rfl (by kernel_rfl) (by rfl) [FK, FK1] rfl ?_
    have hfe : (Ex.mk n ks).flat = Ex.flats ks ++ [n] := by rw [Ex.flat]
    have hem : e.map NodeD.c = (Ex.flats ks).map NodeD.c ++ [n.c] := by rw [he, hfe, List.map_append]; rfl
    by_cases g4 : n.Op = 4
    · have hk1 : ks.length = 1 := by
        rw [g4] at h3 h4
        have : leastK 4 = 1 := rfl
        have : mostK 4 = 1 := rfl
        omega
      obtain ⟨k, rfl⟩ : ∃ k, ks = [k] := List.length_eq_one_iff.1 hk1
      rw [pushE_not neg g4] at hb ⊢
      have hf1 : Ex.flats [k] = k.flat := Ex.flats_one k
      rw [hf1] at hel hlen
      have pp := s_push N k (by omega) (Ex.goods_mem hgs k (List.mem_singleton.2 rfl)) (hak k (List.mem_singleton.2 rfl)) (!neg) out hb (by omega)
      have eS : ∀ m, m = (((e.map NodeD.c).length : Int) - 1).toNat - 0 → slV 6 NodeD.c k.flat = .d (.c (.sl 6 (((e.map NodeD.c).drop 0).take m))) := by
        rintro m rfl
        rw [List.drop_zero, List.length_map, hel, show ((((k.flat.length + 1 : Nat) : Int) - 1).toNat - 0) = (k.flat.map NodeD.c).length by rw [List.length_map]; omega, hem, hf1, List.take_left' rfl]
      rw [eS _ rfl] at pp
      ((conv => whnf); repeat' ((first | (with_reducible first | apply a_ | apply b_ | apply c_) | ((with_reducible first | apply d_ | apply e_ | apply f_ | apply g_); focus first | omega | (simp only [q_] <;> omega)) | ((with_reducible first | apply i_ | apply h_); focus first | omega | (simp only [q_] <;> omega)) | ((with_reducible apply h_); focus first | decide | kernel_rfl) | refine BCase.t (by decide) ?_ | refine BCase.f (by decide) ?_ | (refine Idx.mapE ([] ++ Ex.flats [k]).length (by omega) hr1 hr2 ?_) | (refine CallP.ret [(FK, FK), (FK1, FK1), (NK, 30)] _ _ _ _ _ _ _ pp rfl rfl rfl rfl ⟨rfl, rfl, trivial⟩ ?_) | with_reducible first | apply l_ | apply m_ | apply n_ | apply o_ | refine p_ (fun _ => ?_) (fun _ => ?_)) <;> (conv => whnf)))
      exact RetS.mk [(FK, FK), (FK1, FK1), (NK, 30)] [FK, FK1, NK] rfl rfl rfl ⟨⟨rfl, rfl, ⟨rfl, rfl, rfl, rfl, rfl, rfl⟩, rfl⟩, ⟨rfl, rfl, rfl, rfl⟩, trivial⟩
    by_cases g16 : n.Op = 16 ∨ n.Op = 17
    · rw [pushE_and neg g16] at hb ⊢
      have hfp : (Ex.mk (opN n (if neg then 33 - n.Op else n.Op)) (pushEs neg ks)).flat = Ex.flats (pushEs neg ks) ++ [opN n (if neg then 33 - n.Op else n.Op)] := by rw [Ex.flat]
      rw [hfp] at hb ⊢
      rw [List.length_append, List.length_singleton] at hb
      rcases g16 with g | g
      all_goals
        ((conv => whnf); repeat' ((first | (with_reducible first | apply a_ | apply b_ | apply c_) | ((with_reducible first | apply d_ | apply e_ | apply f_ | apply g_); focus first | omega | (simp only [q_] <;> omega)) | ((with_reducible first | apply i_ | apply h_); focus first | omega | (simp only [q_] <;> omega)) | ((with_reducible apply h_); focus first | decide | kernel_rfl) | refine BCase.t (by decide) ?_ | refine BCase.f (by decide) ?_ | (refine Idx.mapE ([] ++ Ex.flats ks).length (by omega) hr1 hr2 ?_) | refine CallP.pure _ rfl _ (pk) ?_ | with_reducible first | apply l_ | apply m_ | apply n_ | apply o_ | refine p_ (fun _ => ?_) (fun _ => ?_)) <;> (conv => whnf)))
        refine LoopC.mk Nat (fun j => [(0, .d (.ptr FK 0)), (2, pBool neg), (6, .d (.ptr 6 0)), (7, pInt .i64 n.Op), (35, .d (.c (.sl 1 (ks.map fun k => ek k.flat)))), (36, pInt .i64 ks.length), (37, pInt .i64 j)]) (fun j => pu FK 60 (out ++ Ex.flats (pushEs neg (ks.take j))) ++ [(6, .box 40 (n.c.map D.c))]) [FK, FK1, 60, 6] (fun j => j ≤ ks.length) (fun j => ks.length - j) 0 (Nat.zero_le _) ?start ?round
        case start =>
          refine ⟨[(FK, FK), (FK1, FK1), (60, FK1), (6, 6)], rfl, rfl, ⟨⟨rfl, rfl, rfl⟩, .inl rfl, ⟨rfl, rfl, rfl⟩, .inl rfl, .inl rfl, PLe.int (by simp), .inl rfl, trivial⟩, ⟨rfl, rfl, ⟨rfl, rfl, rfl, rfl, rfl, ?_⟩, rfl⟩, ⟨rfl, rfl, rfl, ?_⟩, ⟨rfl, rfl, ⟨.inl rfl, .inl rfl, .inl rfl, .inl rfl, .inl rfl, .inl rfl, rfl⟩⟩, trivial⟩
          · show out.length = (out ++ Ex.flats (pushEs neg (ks.take 0))).length
            rw [List.take_zero, pushEs, Ex.flats, List.append_nil]
          · show out.map NodeD.c = (out ++ Ex.flats (pushEs neg (ks.take 0))).map NodeD.c
            rw [List.take_zero, pushEs, Ex.flats, List.append_nil]
        case round =>
          intro j hj
          have hj : j ≤ ks.length := hj
          by_cases q : j < ks.length
          · have hm := List.getElem_mem q
            have hfl := flat_le_flats hm
            have e1 := pushEs_snoc neg q
            have e2 := pushEs_le neg (ks := ks) (j := j + 1)
            have e3 : out ++ Ex.flats (pushEs neg (ks.take (j + 1))) = out ++ Ex.flats (pushEs neg (ks.take j)) ++ (pushE neg ks[j]).flat := by rw [e1, List.append_assoc]
            have e4 := congrArg List.length e3
            rw [List.length_append] at e4
            have pp := s_push N ks[j] (by omega) (Ex.goods_mem hgs _ hm) (hak _ hm) neg (out ++ Ex.flats (pushEs neg (ks.take j))) (by rw [List.length_append] at e4; omega) (by omega)
            rw [← e3] at pp
            ((conv => whnf); repeat' ((first | (with_reducible first | apply a_ | apply b_ | apply c_) | ((with_reducible first | apply d_ | apply e_ | apply f_ | apply g_); focus first | omega | (simp only [q_] <;> omega)) | ((with_reducible first | apply i_ | apply h_); focus first | omega | (simp only [q_] <;> omega)) | ((with_reducible apply h_); focus first | decide | kernel_rfl) | refine BCase.t (by decide) ?_ | refine BCase.f (by decide) ?_ | (refine Idx.mapI (f := fun k => ek k.flat) j rfl q ?_) | (refine CallP.ret [(FK, FK), (FK1, 60), (NK, 44)] _ _ _ _ _ _ _ pp rfl rfl rfl rfl ⟨rfl, rfl, trivial⟩ ?_) | with_reducible first | apply l_ | apply m_ | apply n_ | apply o_ | refine p_ (fun _ => ?_) (fun _ => ?_)) <;> (conv => whnf)))
            exact ⟨j + 1, by show j + 1 ≤ _; omega, by omega, [(FK, FK), (FK1, FK1), (60, 44), (6, 6)], rfl, rfl, ⟨⟨rfl, rfl, rfl⟩, .inl rfl, ⟨rfl, rfl, rfl⟩, .inl rfl, .inl rfl, .inl rfl, PLe.int rfl, trivial⟩, ⟨rfl, rfl, ⟨rfl, rfl, rfl, rfl, rfl, rfl⟩, rfl⟩, ⟨rfl, rfl, rfl, rfl⟩, ⟨rfl, rfl, ⟨.inl rfl, .inl rfl, .inl rfl, .inl rfl, .inl rfl, .inl rfl, rfl⟩⟩, trivial⟩
          · rw [List.take_of_length_le (by omega)]
            cases neg
            all_goals
              ((conv => whnf); repeat' ((first | (with_reducible first | apply a_ | apply b_ | apply c_) | ((with_reducible first | apply d_ | apply e_ | apply f_ | apply g_); focus first | omega | (simp only [q_] <;> omega)) | ((with_reducible first | apply i_ | apply h_); focus first | omega | (simp only [q_] <;> omega)) | ((with_reducible apply h_); focus first | decide | kernel_rfl) | refine BCase.t (by decide) ?_ | refine BCase.f (by decide) ?_ | (refine Need.by 64 rfl (by simp only [List.length_map, List.length_append, List.length_singleton]; omega) ?_) | with_reducible first | apply l_ | apply m_ | apply n_ | apply o_ | refine p_ (fun _ => ?_) (fun _ => ?_)) <;> (conv => whnf)))
              refine RetS.mk [(FK, FK), (FK1, FK1), (NK, 57)] [FK, FK1, NK] rfl rfl rfl ⟨⟨rfl, rfl, ⟨rfl, rfl, rfl, rfl, rfl, ?_⟩, rfl⟩, ⟨rfl, rfl, rfl, ?_⟩, trivial⟩
              · simp only [List.length_append, List.length_singleton]; omega
              · rw [List.take_of_length_le (by simp only [List.length_map, List.length_append, List.length_take]; omega)]; simp only [List.map_append, List.append_assoc]; rfl
    rw [pushE_else neg g4 g16] at hb ⊢
    cases neg with
    | false =>
      rw [if_neg (by simp)] at hb ⊢
      rw [hlen] at hb
      ((conv => whnf); repeat' ((first | (with_reducible first | apply a_ | apply b_ | apply c_) | ((with_reducible first | apply d_ | apply e_ | apply f_ | apply g_); focus first | omega | (simp only [q_] <;> omega)) | ((with_reducible first | apply i_ | apply h_); focus first | omega | (simp only [q_] <;> omega)) | ((with_reducible apply h_); focus first | decide | kernel_rfl) | refine BCase.t (by decide) ?_ | refine BCase.f (by decide) ?_ | (refine Idx.mapE ([] ++ Ex.flats ks).length (by omega) hr1 hr2 ?_) | (refine Need.by 64 rfl (by simp only [List.length_map]; omega) ?_) | with_reducible first | apply l_ | apply m_ | apply n_ | apply o_ | refine p_ (fun _ => ?_) (fun _ => ?_)) <;> (conv => whnf)))
      refine RetS.mk [(FK, FK), (FK1, FK1), (NK, 66)] [FK, FK1, NK] rfl rfl rfl ⟨⟨rfl, rfl, ⟨rfl, rfl, rfl, rfl, rfl, ?_⟩, rfl⟩, ⟨rfl, rfl, rfl, ?_⟩, trivial⟩
      · rw [← he, List.length_append, List.length_map]
      · rw [List.take_of_length_le (by simp only [List.length_map, List.length_append, List.length_take]; omega)]; rw [← he, List.map_append]
    | true =>
      rw [if_pos rfl] at hb ⊢
      have pc := p_counter n.Op
      by_cases gc : couF n.Op = 0
      · rw [if_neg (by rw [gc]; decide)] at hb ⊢
        rw [gc] at pc
        have hfn : (Ex.mk notN [Ex.mk n ks]).flat = e ++ [notN] := by rw [Ex.flat, Ex.flats_one, he]
        rw [hfn] at hb ⊢
        rw [List.length_append, List.length_singleton] at hb
        ((conv => whnf); repeat' ((first | (with_reducible first | apply a_ | apply b_ | apply c_) | ((with_reducible first | apply d_ | apply e_ | apply f_ | apply g_); focus first | omega | (simp only [q_] <;> omega)) | ((with_reducible first | apply i_ | apply h_); focus first | omega | (simp only [q_] <;> omega)) | ((with_reducible apply h_); focus first | decide | kernel_rfl) | refine BCase.t (by decide) ?_ | refine BCase.f (by decide) ?_ | (refine Idx.mapE ([] ++ Ex.flats ks).length (by omega) hr1 hr2 ?_) | refine CallP.pure _ rfl _ (pc) ?_ | (refine Need.by 64 rfl (by simp only [List.length_map, List.length_append, List.length_singleton]; omega) ?_) | with_reducible first | apply l_ | apply m_ | apply n_ | apply o_ | refine p_ (fun _ => ?_) (fun _ => ?_)) <;> (conv => whnf)))
        refine RetS.mk [(FK, FK), (FK1, FK1), (NK, 96)] [FK, FK1, NK] rfl rfl rfl ⟨⟨rfl, rfl, ⟨rfl, rfl, rfl, rfl, rfl, ?_⟩, rfl⟩, ⟨rfl, rfl, rfl, ?_⟩, trivial⟩
        · simp only [List.length_append, List.length_singleton, List.length_map]; omega
        · rw [List.take_of_length_le (by simp only [List.length_map, List.length_append, List.length_take]; omega)]; rw [List.take_of_length_le (by simp only [List.length_map, List.length_append, List.length_take]; omega)]; simp only [List.map_append, List.append_assoc]; rfl
      · rw [if_pos gc] at hb ⊢
        have hfn : (Ex.mk (opN n (couF n.Op)) ks).flat = Ex.flats ks ++ [opN n (couF n.Op)] := by rw [Ex.flat]
        rw [hfn] at hb ⊢
        rw [List.length_append, List.length_singleton] at hb
        have lS : ∀ m r, m = out.length + (Ex.flats ks).length → r = (opN n (couF n.Op)).c → ((out.map NodeD.c).take out.length ++ e.map NodeD.c).set m r = (out ++ (Ex.flats ks ++ [opN n (couF n.Op)])).map NodeD.c := by
          rintro m r rfl rfl
          rw [List.take_of_length_le (by simp), hem, ← List.append_assoc, ← List.map_append, List.set_append_right _ _ (by simp), List.length_map, List.length_append, Nat.sub_self, ← List.append_assoc, List.map_append, List.map_append, List.map_append]
          rfl
        have lR : ∀ m, m = out.length + (Ex.flats ks).length → ((out.map NodeD.c).take out.length ++ e.map NodeD.c)[m]? = some n.c := by
          rintro m rfl
          rw [List.take_of_length_le (by simp), hem, ← List.append_assoc, List.getElem?_append_right (by simp), List.length_append, List.length_map, List.length_map, Nat.sub_self]; rfl
        ((conv => whnf); repeat' ((first | (with_reducible first | apply a_ | apply b_ | apply c_) | ((with_reducible first | apply d_ | apply e_ | apply f_ | apply g_); focus first | omega | (simp only [q_] <;> omega)) | ((with_reducible first | apply i_ | apply h_); focus first | omega | (simp only [q_] <;> omega)) | ((with_reducible apply h_); focus first | decide | kernel_rfl) | refine BCase.t (by decide) ?_ | refine BCase.f (by decide) ?_ | (refine Idx.mapE ([] ++ Ex.flats ks).length (by omega) hr1 hr2 ?_) | refine CallP.pure _ rfl _ (pc) ?_ | (refine Need.by 64 rfl (by simp only [List.length_map, List.length_append, List.length_singleton]; omega) ?_) | (refine Row.mk n.c (lR _ (by omega)) ?_) | with_reducible first | apply l_ | apply m_ | apply n_ | apply o_ | refine p_ (fun _ => ?_) (fun _ => ?_)) <;> (conv => whnf)))
        refine RetS.mk [(FK, FK), (FK1, FK1), (NK, 66)] [FK, FK1, NK] rfl rfl rfl ⟨⟨rfl, rfl, ⟨rfl, rfl, rfl, rfl, rfl, ?_⟩, rfl⟩, ⟨rfl, rfl, rfl, ?_⟩, trivial⟩
        · simp only [List.length_append, List.length_singleton, List.length_map]; omega
        · exact lS _ _ (by simp only [List.length_map]; omega) rfl
end Go.Proofs.YtpkifeagopceaaaDoor.Pm
end
section
namespace Go.Proofs.YtpkifeagopceaaaDoor.Pm
open Go.RowKit K
set_option linter.unusedVariables false
set_option linter.unusedSimpArgs false
set_option maxRecDepth 100000
mutual
theorem pushE_len (neg : Bool) : ∀ t : Ex, (pushE neg t).flat.length ≤ 2 * t.flat.length
  | .mk n ks => by
    have hp : ∀ b, (Ex.flats (pushEs b ks)).length ≤ 2 * (Ex.flats ks).length := fun b => pushEs_len b ks
    have hl : (Ex.mk n ks).flat.length = (Ex.flats ks).length + 1 := by rw [Ex.flat, List.length_append, List.length_singleton]
    rw [pushE_eq, hl]
    split
    · have h := hp (!neg)
      split
      · rename_i k hk
        rw [hk, Ex.flats_one] at h
        omega
      · rw [hl]; omega
    · split
      · have h := hp neg
        rw [Ex.flat, List.length_append, List.length_singleton]; omega
      · split
        · split
          · rw [Ex.flat, List.length_append, List.length_singleton]; omega
          · rw [Ex.flat, Ex.flats_one, List.length_append, List.length_singleton, hl]; omega
        · rw [hl]; omega
theorem pushEs_len (neg : Bool) : ∀ l : List Ex, (Ex.flats (pushEs neg l)).length ≤ 2 * (Ex.flats l).length
  | [] => by rw [pushEs]; exact Nat.zero_le _
  | t :: l => by
    rw [pushEs, Ex.flats, Ex.flats, List.length_append, List.length_append]
    have h1 := pushE_len neg t
    have h2 := pushEs_len neg l
    omega
end
def HN (e : List NodeD) : Prop := ∀ n ∈ e, hNode n
theorem hn_opN {n : NodeD} (op : Int) (h : hNode n) : hNode (opN n op) := h
theorem hn_not : hNode notN := ⟨Nat.zero_le _, by decide⟩
theorem hn_root {n : NodeD} {ks : List Ex} (h : HN (Ex.mk n ks).flat) : hNode n := h n (by rw [Ex.flat]; simp)
theorem hn_kids {n : NodeD} {ks : List Ex} (h : HN (Ex.mk n ks).flat) : HN (Ex.flats ks) := fun m hm => h m (by rw [Ex.flat]; exact List.mem_append_left _ hm)
theorem hn_mk {n : NodeD} {ks : List Ex} (h : hNode n) (hk : HN (Ex.flats ks)) : HN (Ex.mk n ks).flat := by
  intro m hm
  rw [Ex.flat] at hm
  rcases List.mem_append.1 hm with hm | hm
  · exact hk m hm
  · rw [List.mem_singleton.1 hm]; exact h
mutual
theorem pushE_hn (neg : Bool) : ∀ t : Ex, HN t.flat → HN (pushE neg t).flat
  | .mk n ks, h => by
    have h1 := hn_root h
    have h2 := hn_kids h
    have hp : ∀ b, HN (Ex.flats (pushEs b ks)) := fun b => pushEs_hn b ks h2
    rw [pushE_eq]
    split
    · have h3 := hp (!neg)
      split
      · rename_i k hk
        rw [hk, Ex.flats_one] at h3
        exact h3
      · exact h
    · split
      · exact hn_mk (hn_opN _ h1) (hp neg)
      · split
        · split
          · exact hn_mk (hn_opN _ h1) h2
          · refine hn_mk hn_not ?_
            rw [Ex.flats_one]; exact h
        · exact h
theorem pushEs_hn (neg : Bool) : ∀ l : List Ex, HN (Ex.flats l) → HN (Ex.flats (pushEs neg l))
  | [], _ => by rw [pushEs, Ex.flats]; intro m hm; cases hm
  | t :: l, h => by
    rw [Ex.flats] at h
    rw [pushEs, Ex.flats]
    intro m hm
    rcases List.mem_append.1 hm with hm | hm
    · exact pushE_hn neg t (fun m hm => h m (List.mem_append_left _ hm)) m hm
    · exact pushEs_hn neg l (fun m hm => h m (List.mem_append_right _ hm)) m hm
end
def pushA (t : Ex) : List NodeD × Int := if checkF (pushE false t).flat ≠ 0 then ([], checkF (pushE false t).flat) else ((pushE false t).flat, 0)
theorem p_Push_bad (e : List NodeD) (hn : HN e) (h : checkF e ≠ 0) : Pure Tryd.prog 13 [slV 6 NodeD.c e] (.tup [slV 6 NodeD.c [], pInt .i64 (checkF e)]) := by
  have pc := p_echeck e (fun n h => (hn n h).1)
  refine pure_of Tryd.func13 (by rfl) rfl (by kernel_rfl) (by rfl) ?_
  ((conv => whnf); repeat' ((first | (with_reducible first | apply a_ | apply b_ | apply c_) | ((with_reducible first | apply d_ | apply e_ | apply f_ | apply g_); focus first | omega | (simp only [q_] <;> omega)) | ((with_reducible first | apply i_ | apply h_); focus first | omega | (simp only [q_] <;> omega)) | ((with_reducible apply h_); focus first | decide | kernel_rfl) | refine BCase.t (by decide) ?_ | refine BCase.f (by decide) ?_ | refine CallP.pure _ rfl _ (pc) ?_ | with_reducible first | apply l_ | apply m_ | apply n_ | apply o_ | refine p_ (fun _ => ?_) (fun _ => ?_)) <;> (conv => whnf)))
  all_goals first | exact Ret.le ⟨.inr ⟨⟨6, rfl⟩, .inl rfl⟩, .inl rfl, rfl⟩ | (exfalso; omega)
theorem p_Push (t : Ex) (ht : RightT t) (hn : HN t.flat) : Pure Tryd.prog 13 [slV 6 NodeD.c t.flat] (.tup [slV 6 NodeD.c (pushA t).1, pInt .i64 (pushA t).2]) := by
  have h60 := ht.len
  have pc := p_echeck t.flat (fun n h => (hn n h).1)
  rw [check_right ht] at pc
  have hl2 := pushE_len false t
  have pp := s_push _ t (Nat.le_refl _) ht.good ht.all false [] (by simp only [List.length_nil]; omega) (by omega)
  have pp := pp.nil_arr (by decide) (by decide)
  rw [List.nil_append] at pp
  have pk := p_echeck (pushE false t).flat (fun n h => (pushE_hn false t hn n h).1)
  have pk' := pk.lend (rd := [(FK, .arr 40 6 ((pushE false t).flat.map NodeD.c))]) (args := [.d (.arr FK 40 6 0 (pushE false t).flat.length)]) rfl (by
    refine ⟨by simp, ?_⟩
    show [PV.d (D.c (C.sl 6 (List.take _ (List.drop 0 _))))] = _
    rw [List.drop_zero, List.take_of_length_le (by simp)])
  refine pure_of Tryd.func13 (by rfl) rfl (by kernel_rfl) (by rfl) ?_
  unfold pushA
  by_cases hc : checkF (pushE false t).flat = 0
  · rw [if_neg (by rw [hc]; decide)]
    rw [hc] at pk'
    ((conv => whnf); repeat' ((first | (with_reducible first | apply a_ | apply b_ | apply c_) | ((with_reducible first | apply d_ | apply e_ | apply f_ | apply g_); focus first | omega | (simp only [q_] <;> omega)) | ((with_reducible first | apply i_ | apply h_); focus first | omega | (simp only [q_] <;> omega)) | ((with_reducible apply h_); focus first | decide | kernel_rfl) | refine BCase.t (by decide) ?_ | refine BCase.f (by decide) ?_ | refine CallP.pure _ rfl _ (pc) ?_ | (refine CallP.ret [(FK, 12), (NK, 15)] _ _ _ _ _ _ _ pp rfl rfl rfl rfl ⟨rfl, trivial⟩ ?_) | (refine CallP.ret [(FK, 15)] _ _ _ _ _ _ _ pk' rfl rfl rfl rfl ⟨rfl, trivial⟩ ?_) | with_reducible first | apply l_ | apply m_ | apply n_ | apply o_ | refine p_ (fun _ => ?_) (fun _ => ?_)) <;> (conv => whnf)))
    refine Ret.eq ?_
    show PV.tup [PV.d (D.c (C.sl 6 (List.take _ (List.drop 0 _)))), _] = _
    rw [List.drop_zero, List.take_of_length_le (by simp)]
  · rw [if_pos hc]
    ((conv => whnf); repeat' ((first | (with_reducible first | apply a_ | apply b_ | apply c_) | ((with_reducible first | apply d_ | apply e_ | apply f_ | apply g_); focus first | omega | (simp only [q_] <;> omega)) | ((with_reducible first | apply i_ | apply h_); focus first | omega | (simp only [q_] <;> omega)) | ((with_reducible apply h_); focus first | decide | kernel_rfl) | refine BCase.t (by decide) ?_ | refine BCase.f (by decide) ?_ | refine CallP.pure _ rfl _ (pc) ?_ | (refine CallP.ret [(FK, 12), (NK, 15)] _ _ _ _ _ _ _ pp rfl rfl rfl rfl ⟨rfl, trivial⟩ ?_) | (refine CallP.ret [(FK, 15)] _ _ _ _ _ _ _ pk' rfl rfl rfl rfl ⟨rfl, trivial⟩ ?_) | with_reducible first | apply l_ | apply m_ | apply n_ | apply o_ | refine p_ (fun _ => ?_) (fun _ => ?_)) <;> (conv => whnf)))
    all_goals first | exact Ret.le ⟨.inr ⟨⟨6, rfl⟩, .inl rfl⟩, .inl rfl, rfl⟩ | (exfalso; omega)
def pairsL : List Int := [10, 11, 12, 15, 13, 14, 18, 19, 20, 21, 22, 23, 24, 25]
theorem alF_plain {n : NodeD} (h : alF n = 0) (h1 : n.Op ≠ 1) (h2 : n.Op ≠ 2) : n.V = noV ∧ n.Name = [] := by
  unfold alF at h
  split at h
  · cases h
  · split at h
    · cases h
    · rename_i q
      have q1 : ¬ (n.Op ≠ 1 ∧ ValueD.eqB n.V noV = false) := fun x => q (.inr (.inr (.inl x)))
      have q2 : ¬ (n.Op ≠ 2 ∧ n.Name ≠ []) := fun x => q (.inr (.inr (.inr x)))
      refine ⟨?_, ?_⟩
      · refine (ValueD.eqB_iff _ _).1 ?_
        cases hb : ValueD.eqB n.V noV with
        | true => rfl
        | false => exact absurd ⟨h1, hb⟩ q1
      · exact Decidable.of_not_not fun x => q2 ⟨h2, x⟩
end Go.Proofs.YtpkifeagopceaaaDoor.Pm
end
section
namespace Go.Proofs.YtpkifeagopceaaaDoor.Pm
open Go.RowKit K
set_option linter.unusedVariables false
set_option linter.unusedSimpArgs false
set_option maxRecDepth 100000
theorem nin_tree {t : Ex} (ht : RightT t) (hn : HN t.flat) : NInT t := fun n hm => ⟨ht.all n hm, (hn n hm).2⟩
theorem evalF_rv {e : List NodeD} {cols : List (List UInt8)} {row : List ValueD} {v : ValueD} (hn : HN e) (hv : ∀ v ∈ row, WholeP.In64 v.N) (h : evalF e cols row = .ok v) : RV v := by
  unfold evalF at h
  split at h
  · cases h
  · rename_i q
    obtain ⟨h1, h2, h3, h4⟩ := scope_ok (Decidable.of_not_not q)
    obtain ⟨h5, h6⟩ := check_all h1
    exact walkR_rv (look_ok fun v hm => ⟨h4 v hm, hv v hm⟩) (fun n hm => ⟨h6 n hm, (hn n hm).2⟩) h
theorem p_nodes (l : List NodeD) : Pure Tryd.prog 20 [slV 6 NodeD.c l] (slV 6 NodeD.c l) := by
  refine pure_of Tryd.func20 (by rfl) rfl (by kernel_rfl) (by rfl) ?_
  ((conv => whnf); repeat' ((first | (with_reducible first | apply a_ | apply b_ | apply c_) | ((with_reducible first | apply d_ | apply e_ | apply f_ | apply g_); focus first | omega | (simp only [q_] <;> omega)) | ((with_reducible first | apply i_ | apply h_); focus first | omega | (simp only [q_] <;> omega)) | ((with_reducible apply h_); focus first | decide | kernel_rfl) | refine BCase.t (by decide) ?_ | refine BCase.f (by decide) ?_ | with_reducible first | apply l_ | apply m_ | apply n_ | apply o_ | refine p_ (fun _ => ?_) (fun _ => ?_)) <;> (conv => whnf)))
  exact Ret.eq rfl
def colN (s : List UInt8) : NodeD := ⟨2, 0, noV, s⟩
def opsN (op k : Int) : NodeD := ⟨op, k, noV, []⟩
theorem p_ncol (s : List UInt8) : Pure Tryd.prog 21 [pStr (tx s)] (nV (colN s)) := by
  refine pure_of Tryd.func21 (by rfl) rfl (by kernel_rfl) (by rfl) ?_
  ((conv => whnf); repeat' ((first | (with_reducible first | apply a_ | apply b_ | apply c_) | ((with_reducible first | apply d_ | apply e_ | apply f_ | apply g_); focus first | omega | (simp only [q_] <;> omega)) | ((with_reducible first | apply i_ | apply h_); focus first | omega | (simp only [q_] <;> omega)) | ((with_reducible apply h_); focus first | decide | kernel_rfl) | refine BCase.t (by decide) ?_ | refine BCase.f (by decide) ?_ | with_reducible first | apply l_ | apply m_ | apply n_ | apply o_ | refine p_ (fun _ => ?_) (fun _ => ?_)) <;> (conv => whnf)))
  exact Ret.eq rfl
theorem p_nlit (v : ValueD) : Pure Tryd.prog 17 [vV v] (nV (litN v)) := by
  refine pure_of Tryd.func17 (by rfl) rfl (by kernel_rfl) (by rfl) ?_
  ((conv => whnf); repeat' ((first | (with_reducible first | apply a_ | apply b_ | apply c_) | ((with_reducible first | apply d_ | apply e_ | apply f_ | apply g_); focus first | omega | (simp only [q_] <;> omega)) | ((with_reducible first | apply i_ | apply h_); focus first | omega | (simp only [q_] <;> omega)) | ((with_reducible apply h_); focus first | decide | kernel_rfl) | refine BCase.t (by decide) ?_ | refine BCase.f (by decide) ?_ | with_reducible first | apply l_ | apply m_ | apply n_ | apply o_ | refine p_ (fun _ => ?_) (fun _ => ?_)) <;> (conv => whnf)))
  exact Ret.eq rfl
theorem p_nop (op k : Int) : Pure Tryd.prog 15 [pInt .i64 op, pInt .i64 k] (nV (opsN op k)) := by
  refine pure_of Tryd.func15 (by rfl) rfl (by kernel_rfl) (by rfl) ?_
  ((conv => whnf); repeat' ((first | (with_reducible first | apply a_ | apply b_ | apply c_) | ((with_reducible first | apply d_ | apply e_ | apply f_ | apply g_); focus first | omega | (simp only [q_] <;> omega)) | ((with_reducible first | apply i_ | apply h_); focus first | omega | (simp only [q_] <;> omega)) | ((with_reducible apply h_); focus first | decide | kernel_rfl) | refine BCase.t (by decide) ?_ | refine BCase.f (by decide) ?_ | with_reducible first | apply l_ | apply m_ | apply n_ | apply o_ | refine p_ (fun _ => ?_) (fun _ => ?_)) <;> (conv => whnf)))
  exact Ret.eq rfl
theorem p_vI (n : Int) : Pure Tryd.prog 22 [pInt .i64 n] (vV ⟨1, n, []⟩) := by
  refine pure_of Tryd.func22 (by rfl) rfl (by kernel_rfl) (by rfl) ?_
  ((conv => whnf); repeat' ((first | (with_reducible first | apply a_ | apply b_ | apply c_) | ((with_reducible first | apply d_ | apply e_ | apply f_ | apply g_); focus first | omega | (simp only [q_] <;> omega)) | ((with_reducible first | apply i_ | apply h_); focus first | omega | (simp only [q_] <;> omega)) | ((with_reducible apply h_); focus first | decide | kernel_rfl) | refine BCase.t (by decide) ?_ | refine BCase.f (by decide) ?_ | with_reducible first | apply l_ | apply m_ | apply n_ | apply o_ | refine p_ (fun _ => ?_) (fun _ => ?_)) <;> (conv => whnf)))
  exact Ret.eq rfl
theorem p_vT (s : List UInt8) : Pure Tryd.prog 23 [pStr (tx s)] (vV ⟨2, 0, s⟩) := by
  refine pure_of Tryd.func23 (by rfl) rfl (by kernel_rfl) (by rfl) ?_
  ((conv => whnf); repeat' ((first | (with_reducible first | apply a_ | apply b_ | apply c_) | ((with_reducible first | apply d_ | apply e_ | apply f_ | apply g_); focus first | omega | (simp only [q_] <;> omega)) | ((with_reducible first | apply i_ | apply h_); focus first | omega | (simp only [q_] <;> omega)) | ((with_reducible apply h_); focus first | decide | kernel_rfl) | refine BCase.t (by decide) ?_ | refine BCase.f (by decide) ?_ | with_reducible first | apply l_ | apply m_ | apply n_ | apply o_ | refine p_ (fun _ => ?_) (fun _ => ?_)) <;> (conv => whnf)))
  exact Ret.eq rfl
def bE : List NodeD := [colN [97], litN ⟨1, 2, []⟩, litN ⟨1, 3, []⟩, opsN 7 2, opsN 12 2, opsN 4 1]
def bM : List NodeD := [colN [97], litN ⟨1, 6, []⟩, opsN 12 2, opsN 4 1]
def bT : Ex := .mk (opsN 4 1) [.mk (opsN 12 2) [.mk (colN [97]) [], .mk (litN ⟨1, 6, []⟩) []]]
def bP : List NodeD := [colN [97], litN ⟨1, 6, []⟩, opsN 15 2]
theorem hn_small {e : List NodeD} (h : ∀ n ∈ e, n.Name.length ≤ 10 ∧ WholeP.In64 n.V.N) : HN e := fun n hn => ⟨by have := (h n hn).1; unfold okText; omega, (h n hn).2⟩
theorem b1 : evalF bE [[97]] [⟨1, 7, []⟩] = .ok ⟨1, 1, []⟩ := by rfl
theorem b2 : truR (evalF bE [[97]] [noV]) = (1, 0) := by rfl
theorem b3 : evalF bE [[98]] [⟨1, 7, []⟩] = .error 5 := by rfl
theorem b4 : foldA bE = (bM, 0) := by rfl
theorem b5 : pushA bT = (bP, 0) := by rfl
theorem b6 : truR (evalF [litN ⟨2, 0, [97]⟩] [] []) = (0, 7) := by rfl
theorem b7 : checkF bT.flat = 0 := by rfl
theorem b8 : bT.flat = bM := by rfl
end Go.Proofs.YtpkifeagopceaaaDoor.Pm
end
section
namespace Go.Proofs.YtpkifeagopceaaaDoor.Pm
open Go.RowKit K
set_option linter.unusedVariables false
set_option linter.unusedSimpArgs false
set_option maxRecDepth 100000
theorem bT_right : RightT bT := by
  obtain ⟨t, ht, hf⟩ := right_of b7
  have hg : bT.good := by unfold bT; simp [Ex.good, Ex.goods, opsN, colN, litN]
  rw [← flat_inj ht.good hg hf]; exact ht
theorem p_evalbegun : Pure Tryd.prog 9 [] (pBool true) := by
  have hE : HN bE := hn_small (by decide)
  have hM : HN bM := hn_small (by decide)
  have hX : HN [litN ⟨2, 0, [97]⟩] := hn_small (by decide)
  have i7 : ∀ v ∈ [(⟨1, 7, []⟩ : ValueD)], WholeP.In64 v.N := by decide
  have q1 := p_eval bE hE [[97]] [⟨1, 7, []⟩] (by decide) i7
  have q2 := p_truthE bE hE [[97]] [noV] (by decide) (by decide)
  have q3 := p_eval bE hE [[98]] [⟨1, 7, []⟩] (by decide) i7
  have q4 := p_Fold bE hE
  have q5 := p_Push bT bT_right (by rw [b8]; exact hM)
  have q6 := p_truthE [litN ⟨2, 0, [97]⟩] hX [] [] (by decide) (by decide)
  rw [b1] at q1
  rw [b2] at q2
  rw [b3] at q3
  rw [b4] at q4
  rw [b5, b8] at q5
  rw [b6] at q6
  have q6 := q6.le (args' := [slV 6 NodeD.c [litN ⟨2, 0, [97]⟩], .d (.c (.v (.slice none 0 0))), .d (.c (.v (.slice none 0 0)))]) ⟨.inl rfl, .inr ⟨⟨1, rfl⟩, .inl rfl⟩, .inr ⟨⟨3, rfl⟩, .inl rfl⟩, rfl⟩
  have q1 : Pure _ _ _ (.tup [vV ⟨1, 1, []⟩, pInt .i64 0]) := q1
  have q3 : Pure _ _ _ (.tup [vV noV, pInt .i64 5]) := q3
  have ca : Pure _ _ [pStr ⟨#[97]⟩] _ := p_ncol [97]
  have vt : Pure _ _ [pStr ⟨#[97]⟩] _ := p_vT [97]
  have nE := p_nodes bE
  have nM := p_nodes bM
  have nP := p_nodes bP
  have nX := p_nodes [litN ⟨2, 0, [97]⟩]
  have sM := p_samenodes bM bM (by decide)
  have sP := p_samenodes bP bP (by decide)
  refine pure_of Tryd.func9 (by rfl) rfl (by kernel_rfl) (by rfl) ?_
  ((conv => whnf); repeat' ((first | (with_reducible first | apply a_ | apply b_ | apply c_) | ((with_reducible first | apply d_ | apply e_ | apply f_ | apply g_); focus first | omega | (simp only [q_] <;> omega)) | ((with_reducible first | apply i_ | apply h_); focus first | omega | (simp only [q_] <;> omega)) | ((with_reducible apply h_); focus first | decide | kernel_rfl) | refine BCase.t (by decide) ?_ | refine BCase.f (by decide) ?_ | refine CallP.pure _ rfl _ (ca) ?_ | refine CallP.pure _ rfl _ (vt) ?_ | refine CallP.pure _ rfl _ (p_vI _) ?_ | refine CallP.pure _ rfl _ (p_nlit ⟨1, _, []⟩) ?_ | refine CallP.pure _ rfl _ (p_nlit ⟨2, 0, [97]⟩) ?_ | refine CallP.pure _ rfl _ (p_nop _ _) ?_ | refine CallP.pure _ rfl _ (nE) ?_ | refine CallP.pure _ rfl _ (nM) ?_ | refine CallP.pure _ rfl _ (nP) ?_ | refine CallP.pure _ rfl _ (nX) ?_ | refine CallP.pure _ rfl _ (q1) ?_ | refine CallP.pure _ rfl _ (q2) ?_ | refine CallP.pure _ rfl _ (q3) ?_ | refine CallP.pure _ rfl _ (q4) ?_ | refine CallP.pure _ rfl _ (q5) ?_ | refine CallP.pure _ rfl _ (q6) ?_ | refine CallP.pure _ rfl _ (sM) ?_ | refine CallP.pure _ rfl _ (sP) ?_ | with_reducible first | apply l_ | apply m_ | apply n_ | apply o_ | refine p_ (fun _ => ?_) (fun _ => ?_)) <;> (conv => whnf)))
  exact Ret.bool (by decide +kernel)
end Go.Proofs.YtpkifeagopceaaaDoor.Pm
end
section
namespace Go.Proofs.YtpkifeagopceaaaDoor.Pm
open Go.RowKit K
set_option linter.unusedVariables false
set_option linter.unusedSimpArgs false
set_option maxRecDepth 100000
abbrev okNs (e : List NodeD) : Prop := okSl (Tryd.prog.bytesOf 40) NodeD.ok e
abbrev okVs (l : List ValueD) : Prop := okSl (Tryd.prog.bytesOf 26) ValueD.ok l
theorem okNs_hn {e : List NodeD} (h : okNs e) : HN e := fun n hn => by
  have := h.2 n hn
  exact ⟨this.2.2.2, this.2.2.1.2.1⟩
theorem okNs_len {e : List NodeD} (h : okNs e) : e.length ≤ 140737488351232 := by
  have h1 := h.1
  rw [show Tryd.prog.bytesOf 40 = 64 by kernel_rfl] at h1
  omega
theorem okVs_in {l : List ValueD} (h : okVs l) : ∀ v ∈ l, WholeP.In64 v.N := fun v hv => (h.2 v hv).2.1
theorem okVs_len {l : List ValueD} (h : okVs l) : l.length ≤ 140737488355328 := by
  have h1 := h.1
  rw [show Tryd.prog.bytesOf 26 = 32 by kernel_rfl] at h1
  omega
theorem eVal_pair (r : Except Int ValueD) : ∃ v x, eVal r = .tup [vV v, pInt .i64 x] := by
  cases r with
  | ok v => exact ⟨v, 0, rfl⟩
  | error x => exact ⟨noV, x, rfl⟩
theorem listEq_refl (l : List NodeD) : listEqB NodeD.eqB l l = true := by
  induction l with
  | nil => rfl
  | cons x l ih =>
    have := (NodeD.eqB_iff x x).2 rfl
    first
      | (rw [listEqB, this, ih]; rfl)
      | (unfold listEqB at ih ⊢; simp [this] at ih ⊢; done)
end Go.Proofs.YtpkifeagopceaaaDoor.Pm
end
