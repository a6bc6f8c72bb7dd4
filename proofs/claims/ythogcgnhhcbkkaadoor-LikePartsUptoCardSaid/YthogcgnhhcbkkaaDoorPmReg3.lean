/- One statement in whatever order its edges allow. -/
import Derived.Test.YthogcgnhhcbkkaaDoorPmReg2
namespace Go.Proofs.YthogcgnhhcbkkaaDoor.Pm
open Go.RowKit
set_option linter.unusedVariables false

def dstOf (ops : Array Oper) (j : Nat) : Option Tmp := (ops[j]?).bind (·.dst)
section
variable (ops : Array Oper) (e0 : Env) (h0 : Hp) (T : Nat → Tr)
abbrev envT (i : Nat) : Env := envF e0 (dstOf ops) T i fun _ => true
abbrev hpT (i : Nat) : Hp := hpF h0 T i fun _ => true
def entry (i : Nat) : List Nat × List Nat := if (T i).w then (Dl.keys (T i).δ, (T i).rf.map Prod.fst) else ([], [])
def trT : Nat → Trace
  | 0 => []
  | i + 1 => entry T i :: trT i

/-- keys that are made -/
def Makes (τ : Tr) (k : Nat) : Prop := k ∈ Dl.keys τ.δ ∧ ∀ p ∈ τ.rf, p.1 ≠ k
/-- what is known of operation i -/
def OpOk (P : Program) (nt : Nat) (ks0 : List Nat) (i : Nat) (o : Oper) : Prop :=
  (∀ t, o.dst = some t → t < nt) ∧ GuardIs ops o (envT ops e0 T i) (T i).w ∧
  ((T i).w = false → (T i).v = .tup [] ∧ (T i).δ = [] ∧ (T i).rf = []) ∧
  ((T i).w = true → (∀ p ∈ (T i).rf, hpT h0 T i p.1 = some p.2) ∧ SemStep P o (ev (envT ops e0 T i)) (T i).v (T i).δ (T i).rf ∧ ∀ k, Makes (T i) k → k ∉ ks0 ∧ ∀ j, j < i → k ∉ Dl.keys (T j).δ)
end

section
variable {ops : Array Oper} {e0 : Env} {h0 : Hp} {T T' : Nat → Tr}
theorem envF_congr {S : Nat → Bool} : ∀ n, (∀ j, j < n → T j = T' j) → envF e0 (dstOf ops) T n S = envF e0 (dstOf ops) T' n S
  | 0, _ => rfl
  | n + 1, h => by unfold envF; rw [envF_congr n fun j hj => h j (by omega), h n (by omega)]
theorem hpF_congr {S : Nat → Bool} : ∀ n, (∀ j, j < n → T j = T' j) → hpF h0 T n S = hpF h0 T' n S
  | 0, _ => rfl
  | n + 1, h => by unfold hpF; rw [hpF_congr n fun j hj => h j (by omega), h n (by omega)]
theorem entry_congr {i : Nat} (h : ∀ j, j ≤ i → T j = T' j) : entry T i = entry T' i := by
  unfold entry; rw [h i (Nat.le_refl _)]
theorem trT_congr : ∀ n, (∀ j, j < n → T j = T' j) → trT T n = trT T' n
  | 0, _ => rfl
  | n + 1, h => by
    show _ :: _ = _ :: _
    rw [trT_congr n fun j hj => h j (by omega), entry_congr fun j hj => h j (by omega)]
theorem opOk_congr {P : Program} {nt i : Nat} {ks0 : List Nat} {o : Oper} (h : ∀ j, j ≤ i → T j = T' j) (hk : OpOk ops e0 h0 T P nt ks0 i o) : OpOk ops e0 h0 T' P nt ks0 i o := by
  unfold OpOk at hk ⊢
  unfold envT hpT at hk ⊢
  rw [← h i (Nat.le_refl _), ← envF_congr i fun j hj => h j (by omega), ← hpF_congr i fun j hj => h j (by omega)]
  refine ⟨hk.1, hk.2.1, hk.2.2.1, fun hw => ⟨(hk.2.2.2 hw).1, (hk.2.2.2 hw).2.1, fun k hm => ⟨((hk.2.2.2 hw).2.2 k hm).1, fun j hj => ?_⟩⟩⟩
  rw [← h j (by omega)]; exact ((hk.2.2.2 hw).2.2 k hm).2 j hj

/-- the record of a statement's operations in the text's order -/
theorem record {P : Program} {nt : Nat} {ks0 : List Nat} {K : Env → Hp → List Nat → Trace → Prop} : ∀ (rest : List Oper) (i : Nat) (kn : Kn) (ks : List Nat) (T : Nat → Tr), (∀ j, rest[j]? = ops[i + j]?) → (∀ j o, j < i → ops[j]? = some o → OpOk ops e0 h0 T P nt ks0 j o) →
    KnOk (envT ops e0 T i) kn → (∀ k, k ∉ ks → k ∉ ks0 ∧ ∀ j, j < i → k ∉ Dl.keys (T j).δ) → (∀ k, k ∈ ks0 → k ∈ ks) → (∀ k j, j < i → k ∈ Dl.keys (T j).δ → k ∈ ks) →
    vcOps P nt ops rest i (envT ops e0 T i) (hpT h0 T i) kn ks (trT T i) (fun _ => False) K →
    ∃ T' ks', (∀ j o, j < i + rest.length → ops[j]? = some o → OpOk ops e0 h0 T' P nt ks0 j o) ∧ (∀ k, k ∉ ks' → k ∉ ks0 ∧ ∀ j, j < i + rest.length → k ∉ Dl.keys (T' j).δ) ∧
      K (envT ops e0 T' (i + rest.length)) (hpT h0 T' (i + rest.length)) ks' (trT T' (i + rest.length))
  | [], i, kn, ks, T, hl, hT, _, hks, _, _, hv => ⟨T, ks, fun j o hj ho => hT j o (by simpa using hj) ho, fun k hk => ⟨(hks k hk).1, fun j hj => (hks k hk).2 j (by simpa using hj)⟩, hv⟩
  | o :: rest, i, kn, ks, T, hl, hT, hkn, hks, hm0, hm1, hv => by
    have ho : ops[i]? = some o := by have := hl 0; simpa using this.symm
    have hl' : ∀ j, rest[j]? = ops[i + 1 + j]? := fun j => by have := hl (j + 1); simpa [Nat.add_assoc, Nat.add_comm 1 j] using this
    rw [vcOps_cons] at hv
    have fin : ∀ (τ : Tr) (kn' : Kn) (ks' : List Nat), (∀ t, o.dst = some t → t < nt) → GuardIs ops o (envT ops e0 T i) τ.w → (τ.w = false → τ.v = .tup [] ∧ τ.δ = [] ∧ τ.rf = []) →
        (τ.w = true → (∀ p ∈ τ.rf, hpT h0 T i p.1 = some p.2) ∧ SemStep P o (ev (envT ops e0 T i)) τ.v τ.δ τ.rf ∧ ∀ k, Makes τ k → k ∉ ks) →
        KnOk (updO (envT ops e0 T i) o.dst τ.v) kn' → (∀ k, k ∉ ks' → k ∉ ks ∧ k ∉ Dl.keys τ.δ) → (∀ k, (k ∈ ks ∨ k ∈ Dl.keys τ.δ) → k ∈ ks') →
        vcOps P nt ops rest (i + 1) (updO (envT ops e0 T i) o.dst τ.v) (Dl.app (hpT h0 T i) τ.δ) kn' ks' ((if τ.w then (Dl.keys τ.δ, τ.rf.map Prod.fst) else ([], [])) :: trT T i) (fun _ => False) K →
        ∃ T' ks', (∀ j o, j < i + (rest.length + 1) → ops[j]? = some o → OpOk ops e0 h0 T' P nt ks0 j o) ∧ (∀ k, k ∉ ks' → k ∉ ks0 ∧ ∀ j, j < i + (rest.length + 1) → k ∉ Dl.keys (T' j).δ) ∧
          K (envT ops e0 T' (i + (rest.length + 1))) (hpT h0 T' (i + (rest.length + 1))) ks' (trT T' (i + (rest.length + 1))) := by
      intro τ kn' ks' k1 k2 k3 k4 k6 k7 k8 k5
      obtain ⟨T1, hT1⟩ : ∃ T1 : Nat → Tr, T1 = fun j => if j = i then τ else T j := ⟨_, rfl⟩
      have hold : ∀ j, j < i → T j = T1 j := fun j hj => by rw [hT1]; simp; omega
      have hnew : T1 i = τ := by rw [hT1]; simp
      have e1 : envT ops e0 T1 i = envT ops e0 T i := (envF_congr i hold).symm
      have e2 : hpT h0 T1 i = hpT h0 T i := (hpF_congr i hold).symm
      have e3 : trT T1 i = trT T i := (trT_congr i hold).symm
      have ok : OpOk ops e0 h0 T1 P nt ks0 i o := by
        unfold OpOk
        rw [e1, e2, hnew]
        refine ⟨k1, k2, k3, fun hw => ⟨(k4 hw).1, (k4 hw).2.1, fun k hm => ⟨fun h => (k4 hw).2.2 k hm (hm0 k h), fun j hj h => (k4 hw).2.2 k hm ?_⟩⟩⟩
        rw [← hold j hj] at h
        exact hm1 k j hj h
      have g1 : envT ops e0 T1 (i + 1) = updO (envT ops e0 T i) o.dst τ.v := by
        show (if true = true then updO (envT ops e0 T1 i) (dstOf ops i) (T1 i).v else _) = _
        rw [if_pos rfl, e1, hnew, show dstOf ops i = o.dst by unfold dstOf; rw [ho]; rfl]
      have g2 : hpT h0 T1 (i + 1) = Dl.app (hpT h0 T i) τ.δ := by
        show (if true = true then Dl.app (hpT h0 T1 i) (T1 i).δ else _) = _
        rw [if_pos rfl, e2, hnew]
      have g3 : trT T1 (i + 1) = (if τ.w then (Dl.keys τ.δ, τ.rf.map Prod.fst) else ([], [])) :: trT T i := by
        show entry T1 i :: trT T1 i = _
        rw [e3]
        unfold entry
        rw [hnew]
      have := record (ks0 := ks0) (K := K) rest (i + 1) kn' ks' T1 hl' (fun j o' hj ho' => by
        by_cases hji : j = i
        · subst hji; rw [ho] at ho'; cases ho'; exact ok
        · exact opOk_congr (fun q hq => hold q (by omega)) (hT j o' (by omega) ho')) (by rw [g1]; exact k6) (fun k hk => by
        obtain ⟨q1, q2⟩ := k7 k hk
        obtain ⟨q3, q4⟩ := hks k q1
        refine ⟨q3, fun j hj => ?_⟩
        by_cases hji : j = i
        · subst hji; rw [hnew]; exact q2
        · rw [← hold j (by omega)]; exact q4 j (by omega)) (fun k hk => k8 k (.inl (hm0 k hk))) (fun k j hj hk => by
        by_cases hji : j = i
        · subst hji; rw [hnew] at hk; exact k8 k (.inr hk)
        · rw [← hold j (by omega)] at hk; exact k8 k (.inl (hm1 k j (by omega) hk))) (by rw [g1, g2, g3]; exact k5)
      rw [show i + 1 + rest.length = i + (rest.length + 1) by omega] at this
      exact this
    rcases guardP_out hv hkn with ⟨hg, kn', hkn', hv⟩ | ⟨hg, kn', hkn', hv⟩
    · rcases vcOpK_out hkn' hv with ⟨v, δ, rf, hk, hrf, hsem⟩ | ⟨x, rf, hx, _⟩
      · obtain ⟨hk, hnew⟩ := newP_out hk
        obtain ⟨hk, hd⟩ := dstP_out hk
        obtain ⟨ks', hk, hks', hks2⟩ := addKs_out2 hk
        exact fin ⟨v, δ, rf, true⟩ _ ks' hd hg (fun h => by cases h) (fun _ => ⟨hrf, hsem, fun k hm => hnew k hm.1 hm.2⟩) (knOk_upd hkn') hks' hks2 hk
      · exact hx.elim
    · obtain ⟨hk, hd⟩ := dstP_out hv
      exact fin ⟨.tup [], [], [], false⟩ _ ks hd hg (fun _ => ⟨rfl, rfl, rfl⟩) (fun h => by cases h) (knOk_upd hkn') (fun k hk => ⟨hk, by simp [Dl.keys]⟩) (fun k hk => by simpa [Dl.keys] using hk) hk

/-! ### what the check tells -/
theorem chkOne_out {y : Oper} {b : List Nat × List Nat} : ∀ (i : Nat), i ≤ ops.size → chkOne ops y b i (ops.toList.take i).reverse (trT T i) = true → ∀ k x, k < i → ops[k]? = some x → clash ops x y (entry T k) b = true → dependsOn y k = true
  | 0, _, _, k, x, hk, _, _ => by omega
  | i + 1, hi, h, k, x, hk, hx, hc => by
    have hlt : i < ops.size := by omega
    have he : ops.toList.take (i + 1) = ops.toList.take i ++ [ops[i]] := by
      rw [List.take_succ_eq_append_getElem (by simpa using hlt)]; simp
    rw [he, List.reverse_append] at h
    unfold trT at h
    simp only [List.reverse_cons, List.reverse_nil, List.nil_append, List.singleton_append, chkOne, Bool.and_eq_true, Bool.or_eq_true, Bool.not_eq_true'] at h
    obtain ⟨h1, h2⟩ := h
    by_cases hki : k = i
    · subst hki
      have : x = ops[k] := by rw [Array.getElem?_eq_getElem hlt] at hx; exact (Option.some.inj hx).symm
      subst this
      rcases h1 with h1 | h1
      · rw [h1] at hc; cases hc
      · exact h1
    · exact chkOne_out i (by omega) h2 k x (by omega) hx hc
theorem chkAll_out : ∀ (n : Nat), n ≤ ops.size → chkAll ops n (ops.toList.take n).reverse (trT T n) = true → ∀ j y, j < n → ops[j]? = some y →
    (∀ e ∈ y.after, Region.binds .any e = true → e.on < j) ∧ ∀ k x, k < j → ops[k]? = some x → clash ops x y (entry T k) (entry T j) = true → dependsOn y k = true
  | 0, _, _, j, y, hj, _ => by omega
  | n + 1, hn, h, j, y, hj, hy => by
    have hlt : n < ops.size := by omega
    have he : ops.toList.take (n + 1) = ops.toList.take n ++ [ops[n]] := by
      rw [List.take_succ_eq_append_getElem (by simpa using hlt)]; simp
    rw [he, List.reverse_append] at h
    unfold trT at h
    simp only [List.reverse_cons, List.reverse_nil, List.nil_append, List.singleton_append, chkAll, Bool.and_eq_true] at h
    obtain ⟨⟨h1, h2⟩, h3⟩ := h
    by_cases hjn : j = n
    · subst hjn
      have : y = ops[j] := by rw [Array.getElem?_eq_getElem hlt] at hy; exact (Option.some.inj hy).symm
      subst this
      refine ⟨fun e hem hb => ?_, chkOne_out j (by omega) h2⟩
      have := List.all_eq_true.1 h1 e (Array.mem_def.1 hem)
      simp only [hb, Bool.not_true, Bool.false_or] at this
      exact Nat.le_of_ble_eq_true this
    · exact chkAll_out n (by omega) h3 j y (by omega) hy
theorem dependsOn_out {y : Oper} {k : Nat} (h : dependsOn y k = true) : ∃ e ∈ y.after, Region.binds .any e = true ∧ e.on = k := by
  unfold dependsOn at h
  obtain ⟨e, he, h1⟩ := List.any_eq_true.1 h
  simp only [Bool.and_eq_true] at h1
  exact ⟨e, Array.mem_def.2 he, h1.1, Nat.eq_of_beq_eq_true h1.2⟩
theorem meets_of {a b : List Nat} {k : Nat} (h1 : k ∈ a) (h2 : k ∈ b) : meets a b = true := by
  unfold meets
  exact List.any_eq_true.2 ⟨k, h1, List.any_eq_true.2 ⟨k, h2, Nat.beq_refl k⟩⟩
theorem optIn_of {d : Option Tmp} {l : List Nat} {t : Nat} (h1 : d = some t) (h2 : t ∈ l) : optIn d l = true := by
  subst h1
  exact List.any_eq_true.2 ⟨t, h2, Nat.beq_refl t⟩
end

end Go.Proofs.YthogcgnhhcbkkaaDoor.Pm
